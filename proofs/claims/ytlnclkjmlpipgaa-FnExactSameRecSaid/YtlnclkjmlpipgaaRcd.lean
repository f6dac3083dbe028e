
/- Records compared. -/
import Derived.Test.YtlnclkjmlpipgaaRows
import Derived.Test.YtlnclkjmlpipgaaSrc
import Derived.Test.YtlnclkjmlpipgaaWhT
namespace Go.Proofs.Ytlnclkjmlpipgaa
open Go.RowKit



set_option maxHeartbeats 400000 in
theorem impl_same_any (x y : Rec) (cx cy : Array Value) (fx fy : List Nat) (w : World) (hx : recL.rep w cx.toList x fx) (hy : recL.rep w cy.toList y fy) :
    Calls Try.prog 24 #[.agg cx, .agg cy] w fun e w' => e = .returned (.bool (sameV x y)) ∧ Chg [] w w' := by
  have hc0 := ((Chg.refl [] w).alloc (.cells cx 37)).alloc (.cells cy 37)
  have HS := Lib.hid (sameRec_any x y cx cy fx fy _ (recL.ext hx hc0) (recL.ext hy hc0))
  have HC := Lib.hid hc0
  obtain ⟨a6, l6, c6, f6, a7, l7, c7, f7, a8, l8, c8, f8, ex, -⟩ := recL_iff.1 hx
  obtain ⟨b6, m6, d6, g6, b7, m7, d7, g7, b8, m8, d8, g8, ey, -⟩ := recL_iff.1 hy
  clear hx hy hc0
  generalize sameV x y = r at HS ⊢
  obtain ⟨kx, sx, nx, lx, gx, rx, Rx, Dx, Ex⟩ := x
  obtain ⟨ky, sy, ny, ly, gy, ry, Ry, Dy, Ey⟩ := y
  simp only at ex ey
  obtain rfl := Array.toList_inj.1 (ex.trans (List.toList_toArray).symm)
  obtain rfl := Array.toList_inj.1 (ey.trans (List.toList_toArray).symm)
  clear ex ey
  go_enter Try.func24, Try.ntmps24
  go_wp2_with fail
  refine HS.out.mono ?_
  rintro e w1 ⟨rfl, hc⟩
  have HC1 := Lib.hid (HC.out.trans0 hc)
  clear hc
  go_wp2_with fail
  go_ret
  exact ⟨rfl, HC1.out⟩


end Go.Proofs.Ytlnclkjmlpipgaa
