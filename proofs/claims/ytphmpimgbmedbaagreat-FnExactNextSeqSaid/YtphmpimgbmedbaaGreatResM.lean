import Derived.Test.YtphmpimgbmedbaaGreatRows
import Derived.Test.YtphmpimgbmedbaaGreatMd
/- The law's comparisons of results: equal exactly where all fields are. -/
namespace Go.Proofs.YtphmpimgbmedbaaGreat
open Go.RowKit

set_option maxHeartbeats 400000 in
theorem eqIntResult_any (a b c d : Int) (w : World) :
    Calls Tryz.prog 35 #[.agg #[.int .i64 a, .int .i64 b], .agg #[.int .i64 c, .int .i64 d]] w fun e w' => e = .returned (.bool (decide (a = c ∧ b = d))) ∧ Chg [] w w' := by
  by_cases h1 : a = c
  · subst h1
    by_cases h2 : b = d
    · subst h2
      go_enter Tryz.func35, Tryz.ntmps35
      go_wp2
      go_ret
      exact ⟨by simp, by repeat (first | exact Chg.refl _ _ | refine Chg.alloc ?_ _ | refine Chg.drew ?_)⟩
    · have e : (b != d) = true := by simp [h2]
      have H := Lib.hid h2
      clear h2
      go_enter Tryz.func35, Tryz.ntmps35
      go_wp2
      go_ret
      exact ⟨by simp [H.out], by repeat (first | exact Chg.refl _ _ | refine Chg.alloc ?_ _ | refine Chg.drew ?_)⟩
  · have e : (a != c) = true := by simp [h1]
    have H := Lib.hid h1
    clear h1
    go_enter Tryz.func35, Tryz.ntmps35
    go_wp2
    go_ret
    exact ⟨by simp [H.out], by repeat (first | exact Chg.refl _ _ | refine Chg.alloc ?_ _ | refine Chg.drew ?_)⟩
end Go.Proofs.YtphmpimgbmedbaaGreat
