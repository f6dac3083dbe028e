/- Several texts in one. -/
import Derived.Test.YtphmpimgbmedbaaGreatQau
set_option maxRecDepth 100000
set_option maxHeartbeats 8000000
namespace Go.Proofs.YtphmpimgbmedbaaGreat
open Go.RowKit
open Go.Lib (hid)
theorem q8z (s : ByteArray) : 0 ≤ q1b s ∧ q1b s ≤ 99 := by
 unfold q1b
 repeat' split
 all_goals omega
theorem itemV_sml (s : Shp) (x : Rec) : 0 ≤ q4s s x ∧ q4s s x ≤ 99 := by
 have := q8z x.name
 unfold q4s
 repeat' split
 all_goals omega
theorem recV_sml (s : Shp) (x : Rec) : 0 ≤ recV s x ∧ recV s x ≤ 99 := by
 have := itemV_sml s x
 unfold recV
 repeat' split
 all_goals omega
theorem recsF_sml (s : Shp) : ∀ xs : List Rec, 0 ≤ q2r s xs ∧ q2r s xs ≤ 99
 | [] => by unfold q2r; omega
 | x :: xs => by have := recsF_sml s xs; have := recV_sml s x; unfold q2r; split <;> omega
theorem tapsF_sml (s : Shp) : ∀ xs : List Tap, 0 ≤ q2v s xs ∧ q2v s xs ≤ 99
 | [] => by unfold q2v; omega
 | x :: xs => by have := tapsF_sml s xs; have := recsF_sml s x.recs; unfold q2v; split <;> omega
theorem fault_sml (x : Wld) : 0 ≤ x.fault ∧ x.fault ≤ 99 := by
 have := tapsF_sml x.sH x.tapes
 unfold Wld.fault Wld.tapF
 repeat' split
 all_goals omega
theorem fault_i64 (x : Wld) : q0u x.fault := by have := fault_sml x; unfold q0u; omega
end Go.Proofs.YtphmpimgbmedbaaGreat
