/- Several texts in one. -/
import Derived.Test.YtphmpimgbmedbaaGreatQae
import Derived.Test.YtphmpimgbmedbaaGreatQag
import Derived.Test.YtphmpimgbmedbaaGreatQaa
import Derived.Test.YtphmpimgbmedbaaGreatQac
import Derived.Test.YtphmpimgbmedbaaGreatRows
import Derived.Test.YtphmpimgbmedbaaGreatQaf
set_option maxRecDepth 100000
set_option maxHeartbeats 8000000
namespace Go.Proofs.YtphmpimgbmedbaaGreat
open Go.RowKit
open Go.Lib (hid)
/-! ### how much there is of it -/
section
variable {α : Type} {f : α → Int}
end
end Go.Proofs.YtphmpimgbmedbaaGreat
namespace Go.Proofs.YtphmpimgbmedbaaGreat
open Go.RowKit
open Go.Lib (hid)

theorem szWorld_any (x : Wld) (cx : Array Value) (fx : List Nat) (k : Int) (w : World) (hx : wldL.rep w cx.toList x fx) (hk : 0 ≤ k) (hk2 : k ≤ 1048576) :
    Calls Tryz.prog 15 #[.agg cx, .int .i64 k] w (q6i (q4p x) k w) := by
  obtain ⟨a10, l10, c10, f10, a11, l11, c11, f11, a12, l12, c12, f12, ex, o1, o2, o3, o4, o5, o6, o7, o8, o9, h10, h11, h12, o13, o14, -⟩ := q1c.1 hx
  clear hx
  obtain rfl := Array.toList_inj.1 (ex.trans (List.toList_toArray).symm)
  clear ex o1 o2 o3 o4 o5 o6 o7 o8 o9 o13 o14
  have H10 := hid h10; clear h10
  have H11 := hid h11; clear h11
  have H12 := hid h12; clear h12
  obtain ⟨t10, ht10⟩ : ∃ t, t = totL (totL q1p) x.groups := ⟨_, rfl⟩
  have n10 : 0 ≤ t10 := by rw [ht10]; exact q0v (q0v q1h) _
  have HT10 := hid ht10
  obtain ⟨t11, ht11⟩ : ∃ t, t = q3x x.on := ⟨_, rfl⟩
  have n11 : 0 ≤ t11 := by rw [ht11]; exact q1v _
  have HT11 := hid ht11
  obtain ⟨t12, ht12⟩ : ∃ t, t = totL q2n x.tapes := ⟨_, rfl⟩
  have n12 : 0 ≤ t12 := by rw [ht12]; exact q0v q1y _
  have HT12 := hid ht12
  have HT := hid (show q4p x = t10 + t11 + t12 by rw [ht10, ht11, ht12]; rfl)
  clear ht10 ht11 ht12
  go_enter Tryz.func15, Tryz.ntmps15
  go_wp2_with fail
  refine (z1o a10 l10 c10 x.groups f10 (k) _ (drvL.slice.sl_ext H10.out (by refine Chg.alloc ?_ _; exact Chg.refl _ _)) (by omega) (by omega)).mono ?_
  rintro e w1 ⟨rfl, hc⟩
  rw [← HT10.out]
  have hP := hc.keep0 (b := w.heap.size) (q0d (by simp) _)
  have cP := cellsOf hP; have lP := ltOf hP; have fP := q0l hP; have HBP := hid hP; clear hP
  have HC1 := hid hc; clear hc
  by_cases m10 : k - t10 < 0
  · rw [if_pos m10]
    go_wp2_with fail
    go_ret
    exact ⟨q0e (by rw [HT.out, if_pos (by omega)]), by refine Chg.trans0 ?_ HC1.out; refine Chg.alloc ?_ _; exact Chg.refl _ _⟩
  rw [if_neg m10]
  go_wp2_with fail
  refine (q8s a11 l11 c11 x.on f11 (k - t10) _ (intL.sl_ext H11.out (by refine Chg.trans0 ?_ HC1.out; refine Chg.alloc ?_ _; exact Chg.refl _ _)) (by omega) (by omega)).mono ?_
  rintro e w2 ⟨rfl, hc⟩
  rw [← HT11.out]
  have hP := hc.keep0 HBP.out
  clear HBP cP lP fP
  have cP := cellsOf hP; have lP := ltOf hP; have fP := q0l hP; have HBP := hid hP; clear hP
  have HC2 := hid hc; clear hc
  by_cases m11 : k - t10 - t11 < 0
  · rw [if_pos m11]
    go_wp2_with fail
    go_ret
    exact ⟨q0e (by rw [HT.out, if_pos (by omega)]), by refine Chg.trans0 ?_ HC2.out; refine Chg.trans0 ?_ HC1.out; refine Chg.alloc ?_ _; exact Chg.refl _ _⟩
  rw [if_neg m11]
  go_wp2_with fail
  refine (szTapeS_any a12 l12 c12 x.tapes f12 (k - t10 - t11) _ (tapL.sl_ext H12.out (by refine Chg.trans0 ?_ HC2.out; refine Chg.trans0 ?_ HC1.out; refine Chg.alloc ?_ _; exact Chg.refl _ _)) (by omega) (by omega)).mono ?_
  rintro e w3 ⟨rfl, hc⟩
  rw [← HT12.out]
  have hP := hc.keep0 HBP.out
  clear HBP cP lP fP
  have cP := cellsOf hP; have lP := ltOf hP; have fP := q0l hP; have HBP := hid hP; clear hP
  have HC3 := hid hc; clear hc
  by_cases m12 : k - t10 - t11 - t12 < 0
  · rw [if_pos m12]
    go_wp2_with fail
    go_ret
    exact ⟨q0e (by rw [HT.out, if_pos (by omega)]), by refine Chg.trans0 ?_ HC3.out; refine Chg.trans0 ?_ HC2.out; refine Chg.trans0 ?_ HC1.out; refine Chg.alloc ?_ _; exact Chg.refl _ _⟩
  rw [if_neg m12]
  go_wp2_with fail
  go_ret
  exact ⟨q0e (by rw [HT.out, if_neg (by omega)] <;> omega), by refine Chg.trans0 ?_ HC3.out; refine Chg.trans0 ?_ HC2.out; refine Chg.trans0 ?_ HC1.out; refine Chg.alloc ?_ _; exact Chg.refl _ _⟩
theorem eqShape_any (s : Shp) (w : World) : Calls Tryz.prog 83 #[.agg #[.int .i64 s.groups, .int .i64 s.column, .int .i64 s.data, .int .i64 s.spare, .int .i64 s.rows, .int .i64 s.cap, .int .i64 s.batch, .int .i64 s.queue, .int .i64 s.stage], .agg #[.int .i64 s.groups, .int .i64 s.column, .int .i64 s.data, .int .i64 s.spare, .int .i64 s.rows, .int .i64 s.cap, .int .i64 s.batch, .int .i64 s.queue, .int .i64 s.stage]] w fun e w' => e = .returned (.bool true) ∧ Chg [] w w' := by
  have e_groups : ((s.groups : Int) != s.groups) = false := by simp
  have e_column : ((s.column : Int) != s.column) = false := by simp
  have e_data : ((s.data : Int) != s.data) = false := by simp
  have e_spare : ((s.spare : Int) != s.spare) = false := by simp
  have e_rows : ((s.rows : Int) != s.rows) = false := by simp
  have e_cap : ((s.cap : Int) != s.cap) = false := by simp
  have e_batch : ((s.batch : Int) != s.batch) = false := by simp
  have e_queue : ((s.queue : Int) != s.queue) = false := by simp
  have e_stage : ((s.stage : Int) != s.stage) = false := by simp
  go_enter Tryz.func83, Tryz.ntmps83
  go_wp2
  go_ret
  exact ⟨rfl, by repeat (first | exact Chg.refl _ _ | refine Chg.alloc ?_ _)⟩
theorem eqWorld_any (x : Wld) (cx cy : Array Value) (fx fy : List Nat) (w : World) (hx : wldL.rep w cx.toList x fx) (hy : wldL.rep w cy.toList x fy) :
    Calls Tryz.prog 20 #[.agg cx, .agg cy] w fun e w' => e = .returned (.bool true) ∧ Chg [] w w' := by
  obtain ⟨a10, l10, c10, f10, a11, l11, c11, f11, a12, l12, c12, f12, ex, o1, o2, o3, o4, o5, o6, o7, o8, o9, h10, h11, h12, o13, o14, -⟩ := q1c.1 hx
  obtain ⟨b10, m10, d10, g10, b11, m11, d11, g11, b12, m12, d12, g12, ey, -, -, -, -, -, -, -, -, -, j10, j11, j12, -⟩ := q1c.1 hy
  clear hx hy
  obtain rfl := Array.toList_inj.1 (ex.trans (List.toList_toArray).symm)
  obtain rfl := Array.toList_inj.1 (ey.trans (List.toList_toArray).symm)
  clear ex ey o1 o2 o3 o4 o5 o6 o7 o8 o9 o13 o14
  obtain rfl : l10 = m10 := h10.1.trans j10.1.symm
  have H10 := hid h10; have J10 := hid j10; clear h10 j10
  obtain rfl : l11 = m11 := h11.1.trans j11.1.symm
  have H11 := hid h11; have J11 := hid j11; clear h11 j11
  obtain rfl : l12 = m12 := h12.1.trans j12.1.symm
  have H12 := hid h12; have J12 := hid j12; clear h12 j12
  have e1 : ((x.writes : Int) != x.writes) = false := by simp
  have e2 : ((x.stop : Int) != x.stop) = false := by simp
  have e3 : (x.down != x.down) = false := by simp
  go_enter Tryz.func20, Tryz.ntmps20
  go_wp2_with fail
  refine (eqShape_any x.shape _).mono ?_
  rintro e w1 ⟨rfl, hc⟩
  have hP := hc.keep0 (b := w.heap.size) (q0b (q0d (by simp) _) _)
  have hQ := hc.keep0 (b := w.heap.size + 1) (q0d (by simp) _)
  have cP := cellsOf hP; have lP := ltOf hP; have fP := q0l hP; have HBP := hid hP; clear hP
  have cQ := cellsOf hQ; have lQ := ltOf hQ; have fQ := q0l hQ; have HBQ := hid hQ; clear hQ
  have HC1 := hid hc; clear hc
  go_wp2_with fail
  refine (z2n a10 b10 l10 c10 d10 x.groups f10 g10 _ (drvL.slice.sl_ext H10.out (by refine Chg.trans0 ?_ HC1.out; refine Chg.alloc ?_ _; refine Chg.alloc ?_ _; exact Chg.refl _ _)) (drvL.slice.sl_ext J10.out (by refine Chg.trans0 ?_ HC1.out; refine Chg.alloc ?_ _; refine Chg.alloc ?_ _; exact Chg.refl _ _))).mono ?_
  rintro e w2 ⟨rfl, hc⟩
  have hP := hc.keep0 HBP.out
  have hQ := hc.keep0 HBQ.out
  clear HBP cP lP fP HBQ cQ lQ fQ
  have cP := cellsOf hP; have lP := ltOf hP; have fP := q0l hP; have HBP := hid hP; clear hP
  have cQ := cellsOf hQ; have lQ := ltOf hQ; have fQ := q0l hQ; have HBQ := hid hQ; clear hQ
  have HC2 := hid hc; clear hc
  go_wp2_with fail
  refine (eqI_any a11 b11 l11 c11 d11 x.on f11 g11 _ (intL.sl_ext H11.out (by refine Chg.trans0 ?_ HC2.out; refine Chg.trans0 ?_ HC1.out; refine Chg.alloc ?_ _; refine Chg.alloc ?_ _; exact Chg.refl _ _)) (intL.sl_ext J11.out (by refine Chg.trans0 ?_ HC2.out; refine Chg.trans0 ?_ HC1.out; refine Chg.alloc ?_ _; refine Chg.alloc ?_ _; exact Chg.refl _ _))).mono ?_
  rintro e w3 ⟨rfl, hc⟩
  have hP := hc.keep0 HBP.out
  have hQ := hc.keep0 HBQ.out
  clear HBP cP lP fP HBQ cQ lQ fQ
  have cP := cellsOf hP; have lP := ltOf hP; have fP := q0l hP; have HBP := hid hP; clear hP
  have cQ := cellsOf hQ; have lQ := ltOf hQ; have fQ := q0l hQ; have HBQ := hid hQ; clear hQ
  have HC3 := hid hc; clear hc
  go_wp2_with fail
  refine (eqTapeS_any a12 b12 l12 c12 d12 x.tapes f12 g12 _ (tapL.sl_ext H12.out (by refine Chg.trans0 ?_ HC3.out; refine Chg.trans0 ?_ HC2.out; refine Chg.trans0 ?_ HC1.out; refine Chg.alloc ?_ _; refine Chg.alloc ?_ _; exact Chg.refl _ _)) (tapL.sl_ext J12.out (by refine Chg.trans0 ?_ HC3.out; refine Chg.trans0 ?_ HC2.out; refine Chg.trans0 ?_ HC1.out; refine Chg.alloc ?_ _; refine Chg.alloc ?_ _; exact Chg.refl _ _))).mono ?_
  rintro e w4 ⟨rfl, hc⟩
  have hP := hc.keep0 HBP.out
  have hQ := hc.keep0 HBQ.out
  clear HBP cP lP fP HBQ cQ lQ fQ
  have cP := cellsOf hP; have lP := ltOf hP; have fP := q0l hP; have HBP := hid hP; clear hP
  have cQ := cellsOf hQ; have lQ := ltOf hQ; have fQ := q0l hQ; have HBQ := hid hQ; clear hQ
  have HC4 := hid hc; clear hc
  go_wp2_with fail
  go_ret
  exact ⟨rfl, by refine Chg.trans0 ?_ HC4.out; refine Chg.trans0 ?_ HC3.out; refine Chg.trans0 ?_ HC2.out; refine Chg.trans0 ?_ HC1.out; refine Chg.alloc ?_ _; refine Chg.alloc ?_ _; exact Chg.refl _ _⟩
theorem toShape_lit (s : Shp) (w : World) : Calls Tryz.prog 74 #[.agg #[.int .i64 s.groups, .int .i64 s.column, .int .i64 s.data, .int .i64 s.spare, .int .i64 s.rows, .int .i64 s.cap, .int .i64 s.batch, .int .i64 s.queue, .int .i64 s.stage]] w fun e w' => e = .returned (.agg #[.int .i64 s.groups, .int .i64 s.column, .int .i64 s.data, .int .i64 s.spare, .int .i64 s.rows, .int .i64 s.cap, .int .i64 s.batch, .int .i64 s.queue, .int .i64 s.stage]) ∧ Chg [] w w' := toShape_any s w
theorem q5s (x : Wld) (cx : Array Value) (fx : List Nat) (w : World) (hx : wldL.rep w cx.toList x fx) (hz : q4p x ≤ 1048576) :
    Calls Tryz.prog 17 #[.agg cx] w (q6q wldL x w) := by
  obtain ⟨a10, l10, c10, f10, a11, l11, c11, f11, a12, l12, c12, f12, ex, o1, o2, o3, o4, o5, o6, o7, o8, o9, h10, h11, h12, o13, o14, -⟩ := q1c.1 hx
  clear hx
  obtain rfl := Array.toList_inj.1 (ex.trans (List.toList_toArray).symm)
  clear ex
  have HO := hid (And.intro o1 (And.intro o2 (And.intro o3 (And.intro o4 (And.intro o5 (And.intro o6 (And.intro o7 (And.intro o8 (And.intro o9 (And.intro o13 o14))))))))))
  clear o1 o2 o3 o4 o5 o6 o7 o8 o9 o13 o14
  have q1 := q0v (q0v q1h) x.groups; have q2 := q1v x.on; have q3 := q0v q1y x.tapes
  unfold q4p at hz
  have z10 : totL (totL q1p) x.groups ≤ 1048576 := by omega
  have z11 : l11 ≤ 1048576 := by have : q3x x.on ≤ 1048576 := by omega
                                 unfold q3x at this; rw [h11.1]; omega
  have z12 : totL q2n x.tapes ≤ 1048576 := by omega
  clear hz q1 q2 q3
  have H10 := hid h10; have HL10 := hid (show x.groups.length = l10 from h10.1.symm); clear h10
  have H11 := hid h11; have HL11 := hid (show x.on.length = l11 from h11.1.symm); clear h11
  have H12 := hid h12; have HL12 := hid (show x.tapes.length = l12 from h12.1.symm); clear h12
  go_enter Tryz.func17, Tryz.ntmps17
  go_wp2_with fail
  refine (toShape_lit x.shape _).mono ?_
  rintro e w1 ⟨rfl, hc⟩
  have hP := hc.keep0 (b := w.heap.size) (q0b (q0b (q0d (by simp) _) _) _)
  have hQ := hc.keep0 (b := w.heap.size + 1) (q0b (q0d (by simp) _) _)
  have hR := hc.keep0 (b := w.heap.size + 1 + 1) (q0d (by simp) _)
  have cP := cellsOf hP; have lP := ltOf hP; have fP := q0l hP; have HBP := hid hP; clear hP
  have cQ := cellsOf hQ; have lQ := ltOf hQ; have fQ := q0l hQ; have HBQ := hid hQ; clear hQ
  have cR := cellsOf hR; have lR := ltOf hR; have fR := q0l hR; have HBR := hid hR; clear hR
  have HC1 := hid hc; clear hc
  go_wp2_with fail
  refine (z1m a10 l10 c10 x.groups f10 _ (drvL.slice.sl_ext H10.out (by refine Chg.setCell ?_ _ _ (.inr (by simp <;> omega)); refine Chg.setCell ?_ _ _ (.inr (by simp <;> omega)); refine Chg.setCell ?_ _ _ (.inr (by simp <;> omega)); refine Chg.setCell ?_ _ _ (.inr (by simp <;> omega)); refine Chg.setCell ?_ _ _ (.inr (by simp <;> omega)); refine Chg.setCell ?_ _ _ (.inr (by simp <;> omega)); refine Chg.setCell ?_ _ _ (.inr (by simp <;> omega)); refine Chg.setCell ?_ _ _ (.inr (by simp <;> omega)); refine Chg.setCell ?_ _ _ (.inr (by simp <;> omega)); refine Chg.trans0 ?_ HC1.out; refine Chg.alloc ?_ _; refine Chg.alloc ?_ _; refine Chg.alloc ?_ _; exact Chg.refl _ _)) z10).mono ?_
  rintro e w2 ⟨b10, d10, g10, rfl, hs, hf, hc⟩
  rw [HL10.out] at hs ⊢
  have HS10 := hid hs; clear hs
  have hP := hc.keep0 (q0p (q0p (q0p (q0p (q0p (q0p (q0p (q0p (q0p HBP.out _ _ (show w.heap.size ≠ w.heap.size + 1 + 1 by omega)) _ _ (show w.heap.size ≠ w.heap.size + 1 + 1 by omega)) _ _ (show w.heap.size ≠ w.heap.size + 1 + 1 by omega)) _ _ (show w.heap.size ≠ w.heap.size + 1 + 1 by omega)) _ _ (show w.heap.size ≠ w.heap.size + 1 + 1 by omega)) _ _ (show w.heap.size ≠ w.heap.size + 1 + 1 by omega)) _ _ (show w.heap.size ≠ w.heap.size + 1 + 1 by omega)) _ _ (show w.heap.size ≠ w.heap.size + 1 + 1 by omega)) _ _ (show w.heap.size ≠ w.heap.size + 1 + 1 by omega))
  have hQ := hc.keep0 (q0p (q0p (q0p (q0p (q0p (q0p (q0p (q0p (q0p HBQ.out _ _ (show w.heap.size + 1 ≠ w.heap.size + 1 + 1 by omega)) _ _ (show w.heap.size + 1 ≠ w.heap.size + 1 + 1 by omega)) _ _ (show w.heap.size + 1 ≠ w.heap.size + 1 + 1 by omega)) _ _ (show w.heap.size + 1 ≠ w.heap.size + 1 + 1 by omega)) _ _ (show w.heap.size + 1 ≠ w.heap.size + 1 + 1 by omega)) _ _ (show w.heap.size + 1 ≠ w.heap.size + 1 + 1 by omega)) _ _ (show w.heap.size + 1 ≠ w.heap.size + 1 + 1 by omega)) _ _ (show w.heap.size + 1 ≠ w.heap.size + 1 + 1 by omega)) _ _ (show w.heap.size + 1 ≠ w.heap.size + 1 + 1 by omega))
  have hR := hc.keep0 (b := w.heap.size + 1 + 1) (o := .cells #[.int .i64 x.shape.groups, .int .i64 x.shape.column, .int .i64 x.shape.data, .int .i64 x.shape.spare, .int .i64 x.shape.rows, .int .i64 x.shape.cap, .int .i64 x.shape.batch, .int .i64 x.shape.queue, .int .i64 x.shape.stage, .slice none 0 0, .slice none 0 0, .slice none 0 0, .int .i64 0, .int .i64 0, .bool false] 34) (by refine q0f (cur := #[.int .i64 x.shape.groups, .int .i64 x.shape.column, .int .i64 x.shape.data, .int .i64 x.shape.spare, .int .i64 x.shape.rows, .int .i64 x.shape.cap, .int .i64 x.shape.batch, .int .i64 x.shape.queue, .int .i64 0, .slice none 0 0, .slice none 0 0, .slice none 0 0, .int .i64 0, .int .i64 0, .bool false]) ?_ rfl; refine q0f (cur := #[.int .i64 x.shape.groups, .int .i64 x.shape.column, .int .i64 x.shape.data, .int .i64 x.shape.spare, .int .i64 x.shape.rows, .int .i64 x.shape.cap, .int .i64 x.shape.batch, .int .i64 0, .int .i64 0, .slice none 0 0, .slice none 0 0, .slice none 0 0, .int .i64 0, .int .i64 0, .bool false]) ?_ rfl; refine q0f (cur := #[.int .i64 x.shape.groups, .int .i64 x.shape.column, .int .i64 x.shape.data, .int .i64 x.shape.spare, .int .i64 x.shape.rows, .int .i64 x.shape.cap, .int .i64 0, .int .i64 0, .int .i64 0, .slice none 0 0, .slice none 0 0, .slice none 0 0, .int .i64 0, .int .i64 0, .bool false]) ?_ rfl; refine q0f (cur := #[.int .i64 x.shape.groups, .int .i64 x.shape.column, .int .i64 x.shape.data, .int .i64 x.shape.spare, .int .i64 x.shape.rows, .int .i64 0, .int .i64 0, .int .i64 0, .int .i64 0, .slice none 0 0, .slice none 0 0, .slice none 0 0, .int .i64 0, .int .i64 0, .bool false]) ?_ rfl; refine q0f (cur := #[.int .i64 x.shape.groups, .int .i64 x.shape.column, .int .i64 x.shape.data, .int .i64 x.shape.spare, .int .i64 0, .int .i64 0, .int .i64 0, .int .i64 0, .int .i64 0, .slice none 0 0, .slice none 0 0, .slice none 0 0, .int .i64 0, .int .i64 0, .bool false]) ?_ rfl; refine q0f (cur := #[.int .i64 x.shape.groups, .int .i64 x.shape.column, .int .i64 x.shape.data, .int .i64 0, .int .i64 0, .int .i64 0, .int .i64 0, .int .i64 0, .int .i64 0, .slice none 0 0, .slice none 0 0, .slice none 0 0, .int .i64 0, .int .i64 0, .bool false]) ?_ rfl; refine q0f (cur := #[.int .i64 x.shape.groups, .int .i64 x.shape.column, .int .i64 0, .int .i64 0, .int .i64 0, .int .i64 0, .int .i64 0, .int .i64 0, .int .i64 0, .slice none 0 0, .slice none 0 0, .slice none 0 0, .int .i64 0, .int .i64 0, .bool false]) ?_ rfl; refine q0f (cur := #[.int .i64 x.shape.groups, .int .i64 0, .int .i64 0, .int .i64 0, .int .i64 0, .int .i64 0, .int .i64 0, .int .i64 0, .int .i64 0, .slice none 0 0, .slice none 0 0, .slice none 0 0, .int .i64 0, .int .i64 0, .bool false]) ?_ rfl; refine q0f (cur := #[.int .i64 0, .int .i64 0, .int .i64 0, .int .i64 0, .int .i64 0, .int .i64 0, .int .i64 0, .int .i64 0, .int .i64 0, .slice none 0 0, .slice none 0 0, .slice none 0 0, .int .i64 0, .int .i64 0, .bool false]) ?_ rfl; exact HBR.out)
  have HD10 := hid (q0r.nots hf [w.heap.size, w.heap.size + 1, w.heap.size + 1 + 1] (by intro b hb; simp only [List.mem_cons, List.not_mem_nil, or_false] at hb; rcases hb with rfl | rfl | rfl <;> simp <;> omega)); have HF10 := hid hf; clear hf
  clear HBP cP lP fP HBQ cQ lQ fQ HBR cR lR fR
  have cP := cellsOf hP; have lP := ltOf hP; have fP := q0l hP; have HBP := hid hP; clear hP
  have cQ := cellsOf hQ; have lQ := ltOf hQ; have fQ := q0l hQ; have HBQ := hid hQ; clear hQ
  have cR := cellsOf hR; have lR := ltOf hR; have fR := q0l hR; have HBR := hid hR; clear hR
  have HC2 := hid hc; clear hc
  go_wp2_with fail
  refine (toI_any a11 l11 c11 x.on f11 _ (intL.sl_ext H11.out (by refine Chg.setCell ?_ _ _ (.inr (by simp <;> omega)); refine Chg.trans0 ?_ HC2.out; refine Chg.setCell ?_ _ _ (.inr (by simp <;> omega)); refine Chg.setCell ?_ _ _ (.inr (by simp <;> omega)); refine Chg.setCell ?_ _ _ (.inr (by simp <;> omega)); refine Chg.setCell ?_ _ _ (.inr (by simp <;> omega)); refine Chg.setCell ?_ _ _ (.inr (by simp <;> omega)); refine Chg.setCell ?_ _ _ (.inr (by simp <;> omega)); refine Chg.setCell ?_ _ _ (.inr (by simp <;> omega)); refine Chg.setCell ?_ _ _ (.inr (by simp <;> omega)); refine Chg.setCell ?_ _ _ (.inr (by simp <;> omega)); refine Chg.trans0 ?_ HC1.out; refine Chg.alloc ?_ _; refine Chg.alloc ?_ _; refine Chg.alloc ?_ _; exact Chg.refl _ _)) z11).mono ?_
  rintro e w3 ⟨b11, d11, g11, rfl, hs, hf, hc⟩
  rw [HL11.out] at hs ⊢
  have HS11 := hid hs; clear hs
  have hP := hc.keep0 (q0p HBP.out _ _ (show w.heap.size ≠ w.heap.size + 1 + 1 by omega))
  have hQ := hc.keep0 (q0p HBQ.out _ _ (show w.heap.size + 1 ≠ w.heap.size + 1 + 1 by omega))
  have hR := hc.keep0 (b := w.heap.size + 1 + 1) (o := .cells #[.int .i64 x.shape.groups, .int .i64 x.shape.column, .int .i64 x.shape.data, .int .i64 x.shape.spare, .int .i64 x.shape.rows, .int .i64 x.shape.cap, .int .i64 x.shape.batch, .int .i64 x.shape.queue, .int .i64 x.shape.stage, .slice b10 l10 d10, .slice none 0 0, .slice none 0 0, .int .i64 0, .int .i64 0, .bool false] 34) (by refine q0f (cur := #[.int .i64 x.shape.groups, .int .i64 x.shape.column, .int .i64 x.shape.data, .int .i64 x.shape.spare, .int .i64 x.shape.rows, .int .i64 x.shape.cap, .int .i64 x.shape.batch, .int .i64 x.shape.queue, .int .i64 x.shape.stage, .slice none 0 0, .slice none 0 0, .slice none 0 0, .int .i64 0, .int .i64 0, .bool false]) ?_ rfl; exact HBR.out)
  have HD11 := hid (q0r.nots hf [w.heap.size, w.heap.size + 1, w.heap.size + 1 + 1] (by intro b hb; simp only [List.mem_cons, List.not_mem_nil, or_false] at hb; rcases hb with rfl | rfl | rfl <;> simp <;> omega)); have HF11 := hid hf; clear hf
  clear HBP cP lP fP HBQ cQ lQ fQ HBR cR lR fR
  have cP := cellsOf hP; have lP := ltOf hP; have fP := q0l hP; have HBP := hid hP; clear hP
  have cQ := cellsOf hQ; have lQ := ltOf hQ; have fQ := q0l hQ; have HBQ := hid hQ; clear hQ
  have cR := cellsOf hR; have lR := ltOf hR; have fR := q0l hR; have HBR := hid hR; clear hR
  have HC3 := hid hc; clear hc
  go_wp2_with fail
  refine (toTapeS_any a12 l12 c12 x.tapes f12 _ (tapL.sl_ext H12.out (by refine Chg.setCell ?_ _ _ (.inr (by simp <;> omega)); refine Chg.trans0 ?_ HC3.out; refine Chg.setCell ?_ _ _ (.inr (by simp <;> omega)); refine Chg.trans0 ?_ HC2.out; refine Chg.setCell ?_ _ _ (.inr (by simp <;> omega)); refine Chg.setCell ?_ _ _ (.inr (by simp <;> omega)); refine Chg.setCell ?_ _ _ (.inr (by simp <;> omega)); refine Chg.setCell ?_ _ _ (.inr (by simp <;> omega)); refine Chg.setCell ?_ _ _ (.inr (by simp <;> omega)); refine Chg.setCell ?_ _ _ (.inr (by simp <;> omega)); refine Chg.setCell ?_ _ _ (.inr (by simp <;> omega)); refine Chg.setCell ?_ _ _ (.inr (by simp <;> omega)); refine Chg.setCell ?_ _ _ (.inr (by simp <;> omega)); refine Chg.trans0 ?_ HC1.out; refine Chg.alloc ?_ _; refine Chg.alloc ?_ _; refine Chg.alloc ?_ _; exact Chg.refl _ _)) z12).mono ?_
  rintro e w4 ⟨b12, d12, g12, rfl, hs, hf, hc⟩
  rw [HL12.out] at hs ⊢
  have HS12 := hid hs; clear hs
  have hP := hc.keep0 (q0p HBP.out _ _ (show w.heap.size ≠ w.heap.size + 1 + 1 by omega))
  have hQ := hc.keep0 (q0p HBQ.out _ _ (show w.heap.size + 1 ≠ w.heap.size + 1 + 1 by omega))
  have hR := hc.keep0 (b := w.heap.size + 1 + 1) (o := .cells #[.int .i64 x.shape.groups, .int .i64 x.shape.column, .int .i64 x.shape.data, .int .i64 x.shape.spare, .int .i64 x.shape.rows, .int .i64 x.shape.cap, .int .i64 x.shape.batch, .int .i64 x.shape.queue, .int .i64 x.shape.stage, .slice b10 l10 d10, .slice b11 l11 d11, .slice none 0 0, .int .i64 0, .int .i64 0, .bool false] 34) (by refine q0f (cur := #[.int .i64 x.shape.groups, .int .i64 x.shape.column, .int .i64 x.shape.data, .int .i64 x.shape.spare, .int .i64 x.shape.rows, .int .i64 x.shape.cap, .int .i64 x.shape.batch, .int .i64 x.shape.queue, .int .i64 x.shape.stage, .slice b10 l10 d10, .slice none 0 0, .slice none 0 0, .int .i64 0, .int .i64 0, .bool false]) ?_ rfl; exact HBR.out)
  have HD12 := hid (q0r.nots hf [w.heap.size, w.heap.size + 1, w.heap.size + 1 + 1] (by intro b hb; simp only [List.mem_cons, List.not_mem_nil, or_false] at hb; rcases hb with rfl | rfl | rfl <;> simp <;> omega)); have HF12 := hid hf; clear hf
  clear HBP cP lP fP HBQ cQ lQ fQ HBR cR lR fR
  have cP := cellsOf hP; have lP := ltOf hP; have fP := q0l hP; have HBP := hid hP; clear hP
  have cQ := cellsOf hQ; have lQ := ltOf hQ; have fQ := q0l hQ; have HBQ := hid hQ; clear hQ
  have cR := cellsOf hR; have lR := ltOf hR; have fR := q0l hR; have HBR := hid hR; clear hR
  have HC4 := hid hc; clear hc
  go_wp2_with fail
  have hq : ((((((((((((((((((((w4.setCell ⟨w.heap.size + 1 + 1, 11, none⟩ (.slice b12 l12 d12)).setCell ⟨w.heap.size + 1 + 1, 12, none⟩ (.int .i64 x.writes)).setCell ⟨w.heap.size + 1 + 1, 13, none⟩ (.int .i64 x.stop)).setCell ⟨w.heap.size + 1 + 1, 14, none⟩ (.bool x.down)).setCell ⟨w.heap.size + 1, 0, none⟩ (.int .i64 x.shape.groups)).setCell ⟨w.heap.size + 1, 1, none⟩ (.int .i64 x.shape.column)).setCell ⟨w.heap.size + 1, 2, none⟩ (.int .i64 x.shape.data)).setCell ⟨w.heap.size + 1, 3, none⟩ (.int .i64 x.shape.spare)).setCell ⟨w.heap.size + 1, 4, none⟩ (.int .i64 x.shape.rows)).setCell ⟨w.heap.size + 1, 5, none⟩ (.int .i64 x.shape.cap)).setCell ⟨w.heap.size + 1, 6, none⟩ (.int .i64 x.shape.batch)).setCell ⟨w.heap.size + 1, 7, none⟩ (.int .i64 x.shape.queue)).setCell ⟨w.heap.size + 1, 8, none⟩ (.int .i64 x.shape.stage)).setCell ⟨w.heap.size + 1, 9, none⟩ (.slice b10 l10 d10)).setCell ⟨w.heap.size + 1, 10, none⟩ (.slice b11 l11 d11)).setCell ⟨w.heap.size + 1, 11, none⟩ (.slice b12 l12 d12)).setCell ⟨w.heap.size + 1, 12, none⟩ (.int .i64 x.writes)).setCell ⟨w.heap.size + 1, 13, none⟩ (.int .i64 x.stop)).setCell ⟨w.heap.size + 1, 14, none⟩ (.bool x.down))).heap[w.heap.size + 1]? = some (.cells #[.int .i64 x.shape.groups, .int .i64 x.shape.column, .int .i64 x.shape.data, .int .i64 x.shape.spare, .int .i64 x.shape.rows, .int .i64 x.shape.cap, .int .i64 x.shape.batch, .int .i64 x.shape.queue, .int .i64 x.shape.stage, .slice b10 l10 d10, .slice b11 l11 d11, .slice b12 l12 d12, .int .i64 x.writes, .int .i64 x.stop, .bool x.down] 34) := (by refine q0f (cur := #[.int .i64 x.shape.groups, .int .i64 x.shape.column, .int .i64 x.shape.data, .int .i64 x.shape.spare, .int .i64 x.shape.rows, .int .i64 x.shape.cap, .int .i64 x.shape.batch, .int .i64 x.shape.queue, .int .i64 x.shape.stage, .slice b10 l10 d10, .slice b11 l11 d11, .slice b12 l12 d12, .int .i64 x.writes, .int .i64 x.stop, .bool false]) ?_ rfl; refine q0f (cur := #[.int .i64 x.shape.groups, .int .i64 x.shape.column, .int .i64 x.shape.data, .int .i64 x.shape.spare, .int .i64 x.shape.rows, .int .i64 x.shape.cap, .int .i64 x.shape.batch, .int .i64 x.shape.queue, .int .i64 x.shape.stage, .slice b10 l10 d10, .slice b11 l11 d11, .slice b12 l12 d12, .int .i64 x.writes, .int .i64 0, .bool false]) ?_ rfl; refine q0f (cur := #[.int .i64 x.shape.groups, .int .i64 x.shape.column, .int .i64 x.shape.data, .int .i64 x.shape.spare, .int .i64 x.shape.rows, .int .i64 x.shape.cap, .int .i64 x.shape.batch, .int .i64 x.shape.queue, .int .i64 x.shape.stage, .slice b10 l10 d10, .slice b11 l11 d11, .slice b12 l12 d12, .int .i64 0, .int .i64 0, .bool false]) ?_ rfl; refine q0f (cur := #[.int .i64 x.shape.groups, .int .i64 x.shape.column, .int .i64 x.shape.data, .int .i64 x.shape.spare, .int .i64 x.shape.rows, .int .i64 x.shape.cap, .int .i64 x.shape.batch, .int .i64 x.shape.queue, .int .i64 x.shape.stage, .slice b10 l10 d10, .slice b11 l11 d11, .slice none 0 0, .int .i64 0, .int .i64 0, .bool false]) ?_ rfl; refine q0f (cur := #[.int .i64 x.shape.groups, .int .i64 x.shape.column, .int .i64 x.shape.data, .int .i64 x.shape.spare, .int .i64 x.shape.rows, .int .i64 x.shape.cap, .int .i64 x.shape.batch, .int .i64 x.shape.queue, .int .i64 x.shape.stage, .slice b10 l10 d10, .slice none 0 0, .slice none 0 0, .int .i64 0, .int .i64 0, .bool false]) ?_ rfl; refine q0f (cur := #[.int .i64 x.shape.groups, .int .i64 x.shape.column, .int .i64 x.shape.data, .int .i64 x.shape.spare, .int .i64 x.shape.rows, .int .i64 x.shape.cap, .int .i64 x.shape.batch, .int .i64 x.shape.queue, .int .i64 x.shape.stage, .slice none 0 0, .slice none 0 0, .slice none 0 0, .int .i64 0, .int .i64 0, .bool false]) ?_ rfl; refine q0f (cur := #[.int .i64 x.shape.groups, .int .i64 x.shape.column, .int .i64 x.shape.data, .int .i64 x.shape.spare, .int .i64 x.shape.rows, .int .i64 x.shape.cap, .int .i64 x.shape.batch, .int .i64 x.shape.queue, .int .i64 0, .slice none 0 0, .slice none 0 0, .slice none 0 0, .int .i64 0, .int .i64 0, .bool false]) ?_ rfl; refine q0f (cur := #[.int .i64 x.shape.groups, .int .i64 x.shape.column, .int .i64 x.shape.data, .int .i64 x.shape.spare, .int .i64 x.shape.rows, .int .i64 x.shape.cap, .int .i64 x.shape.batch, .int .i64 0, .int .i64 0, .slice none 0 0, .slice none 0 0, .slice none 0 0, .int .i64 0, .int .i64 0, .bool false]) ?_ rfl; refine q0f (cur := #[.int .i64 x.shape.groups, .int .i64 x.shape.column, .int .i64 x.shape.data, .int .i64 x.shape.spare, .int .i64 x.shape.rows, .int .i64 x.shape.cap, .int .i64 0, .int .i64 0, .int .i64 0, .slice none 0 0, .slice none 0 0, .slice none 0 0, .int .i64 0, .int .i64 0, .bool false]) ?_ rfl; refine q0f (cur := #[.int .i64 x.shape.groups, .int .i64 x.shape.column, .int .i64 x.shape.data, .int .i64 x.shape.spare, .int .i64 x.shape.rows, .int .i64 0, .int .i64 0, .int .i64 0, .int .i64 0, .slice none 0 0, .slice none 0 0, .slice none 0 0, .int .i64 0, .int .i64 0, .bool false]) ?_ rfl; refine q0f (cur := #[.int .i64 x.shape.groups, .int .i64 x.shape.column, .int .i64 x.shape.data, .int .i64 x.shape.spare, .int .i64 0, .int .i64 0, .int .i64 0, .int .i64 0, .int .i64 0, .slice none 0 0, .slice none 0 0, .slice none 0 0, .int .i64 0, .int .i64 0, .bool false]) ?_ rfl; refine q0f (cur := #[.int .i64 x.shape.groups, .int .i64 x.shape.column, .int .i64 x.shape.data, .int .i64 0, .int .i64 0, .int .i64 0, .int .i64 0, .int .i64 0, .int .i64 0, .slice none 0 0, .slice none 0 0, .slice none 0 0, .int .i64 0, .int .i64 0, .bool false]) ?_ rfl; refine q0f (cur := #[.int .i64 x.shape.groups, .int .i64 x.shape.column, .int .i64 0, .int .i64 0, .int .i64 0, .int .i64 0, .int .i64 0, .int .i64 0, .int .i64 0, .slice none 0 0, .slice none 0 0, .slice none 0 0, .int .i64 0, .int .i64 0, .bool false]) ?_ rfl; refine q0f (cur := #[.int .i64 x.shape.groups, .int .i64 0, .int .i64 0, .int .i64 0, .int .i64 0, .int .i64 0, .int .i64 0, .int .i64 0, .int .i64 0, .slice none 0 0, .slice none 0 0, .slice none 0 0, .int .i64 0, .int .i64 0, .bool false]) ?_ rfl; refine q0f (cur := #[.int .i64 0, .int .i64 0, .int .i64 0, .int .i64 0, .int .i64 0, .int .i64 0, .int .i64 0, .int .i64 0, .int .i64 0, .slice none 0 0, .slice none 0 0, .slice none 0 0, .int .i64 0, .int .i64 0, .bool false]) ?_ rfl; refine q0p ?_ _ _ (show w.heap.size + 1 ≠ w.heap.size + 1 + 1 by omega); refine q0p ?_ _ _ (show w.heap.size + 1 ≠ w.heap.size + 1 + 1 by omega); refine q0p ?_ _ _ (show w.heap.size + 1 ≠ w.heap.size + 1 + 1 by omega); refine q0p ?_ _ _ (show w.heap.size + 1 ≠ w.heap.size + 1 + 1 by omega); exact HBQ.out)
  have hqc := cellsOf hq
  have hch : Chg [] w (((((((((((((((((((w4.setCell ⟨w.heap.size + 1 + 1, 11, none⟩ (.slice b12 l12 d12)).setCell ⟨w.heap.size + 1 + 1, 12, none⟩ (.int .i64 x.writes)).setCell ⟨w.heap.size + 1 + 1, 13, none⟩ (.int .i64 x.stop)).setCell ⟨w.heap.size + 1 + 1, 14, none⟩ (.bool x.down)).setCell ⟨w.heap.size + 1, 0, none⟩ (.int .i64 x.shape.groups)).setCell ⟨w.heap.size + 1, 1, none⟩ (.int .i64 x.shape.column)).setCell ⟨w.heap.size + 1, 2, none⟩ (.int .i64 x.shape.data)).setCell ⟨w.heap.size + 1, 3, none⟩ (.int .i64 x.shape.spare)).setCell ⟨w.heap.size + 1, 4, none⟩ (.int .i64 x.shape.rows)).setCell ⟨w.heap.size + 1, 5, none⟩ (.int .i64 x.shape.cap)).setCell ⟨w.heap.size + 1, 6, none⟩ (.int .i64 x.shape.batch)).setCell ⟨w.heap.size + 1, 7, none⟩ (.int .i64 x.shape.queue)).setCell ⟨w.heap.size + 1, 8, none⟩ (.int .i64 x.shape.stage)).setCell ⟨w.heap.size + 1, 9, none⟩ (.slice b10 l10 d10)).setCell ⟨w.heap.size + 1, 10, none⟩ (.slice b11 l11 d11)).setCell ⟨w.heap.size + 1, 11, none⟩ (.slice b12 l12 d12)).setCell ⟨w.heap.size + 1, 12, none⟩ (.int .i64 x.writes)).setCell ⟨w.heap.size + 1, 13, none⟩ (.int .i64 x.stop)).setCell ⟨w.heap.size + 1, 14, none⟩ (.bool x.down)) := by refine Chg.setCell ?_ _ _ (.inr (by simp <;> omega)); refine Chg.setCell ?_ _ _ (.inr (by simp <;> omega)); refine Chg.setCell ?_ _ _ (.inr (by simp <;> omega)); refine Chg.setCell ?_ _ _ (.inr (by simp <;> omega)); refine Chg.setCell ?_ _ _ (.inr (by simp <;> omega)); refine Chg.setCell ?_ _ _ (.inr (by simp <;> omega)); refine Chg.setCell ?_ _ _ (.inr (by simp <;> omega)); refine Chg.setCell ?_ _ _ (.inr (by simp <;> omega)); refine Chg.setCell ?_ _ _ (.inr (by simp <;> omega)); refine Chg.setCell ?_ _ _ (.inr (by simp <;> omega)); refine Chg.setCell ?_ _ _ (.inr (by simp <;> omega)); refine Chg.setCell ?_ _ _ (.inr (by simp <;> omega)); refine Chg.setCell ?_ _ _ (.inr (by simp <;> omega)); refine Chg.setCell ?_ _ _ (.inr (by simp <;> omega)); refine Chg.setCell ?_ _ _ (.inr (by simp <;> omega)); refine Chg.setCell ?_ _ _ (.inr (by simp <;> omega)); refine Chg.setCell ?_ _ _ (.inr (by simp <;> omega)); refine Chg.setCell ?_ _ _ (.inr (by simp <;> omega)); refine Chg.setCell ?_ _ _ (.inr (by simp <;> omega)); refine Chg.trans0 ?_ HC4.out; refine Chg.setCell ?_ _ _ (.inr (by simp <;> omega)); refine Chg.trans0 ?_ HC3.out; refine Chg.setCell ?_ _ _ (.inr (by simp <;> omega)); refine Chg.trans0 ?_ HC2.out; refine Chg.setCell ?_ _ _ (.inr (by simp <;> omega)); refine Chg.setCell ?_ _ _ (.inr (by simp <;> omega)); refine Chg.setCell ?_ _ _ (.inr (by simp <;> omega)); refine Chg.setCell ?_ _ _ (.inr (by simp <;> omega)); refine Chg.setCell ?_ _ _ (.inr (by simp <;> omega)); refine Chg.setCell ?_ _ _ (.inr (by simp <;> omega)); refine Chg.setCell ?_ _ _ (.inr (by simp <;> omega)); refine Chg.setCell ?_ _ _ (.inr (by simp <;> omega)); refine Chg.setCell ?_ _ _ (.inr (by simp <;> omega)); refine Chg.trans0 ?_ HC1.out; refine Chg.alloc ?_ _; refine Chg.alloc ?_ _; refine Chg.alloc ?_ _; exact Chg.refl _ _
  have k10 : Chg [w.heap.size, w.heap.size + 1, w.heap.size + 1 + 1] w2 (((((((((((((((((((w4.setCell ⟨w.heap.size + 1 + 1, 11, none⟩ (.slice b12 l12 d12)).setCell ⟨w.heap.size + 1 + 1, 12, none⟩ (.int .i64 x.writes)).setCell ⟨w.heap.size + 1 + 1, 13, none⟩ (.int .i64 x.stop)).setCell ⟨w.heap.size + 1 + 1, 14, none⟩ (.bool x.down)).setCell ⟨w.heap.size + 1, 0, none⟩ (.int .i64 x.shape.groups)).setCell ⟨w.heap.size + 1, 1, none⟩ (.int .i64 x.shape.column)).setCell ⟨w.heap.size + 1, 2, none⟩ (.int .i64 x.shape.data)).setCell ⟨w.heap.size + 1, 3, none⟩ (.int .i64 x.shape.spare)).setCell ⟨w.heap.size + 1, 4, none⟩ (.int .i64 x.shape.rows)).setCell ⟨w.heap.size + 1, 5, none⟩ (.int .i64 x.shape.cap)).setCell ⟨w.heap.size + 1, 6, none⟩ (.int .i64 x.shape.batch)).setCell ⟨w.heap.size + 1, 7, none⟩ (.int .i64 x.shape.queue)).setCell ⟨w.heap.size + 1, 8, none⟩ (.int .i64 x.shape.stage)).setCell ⟨w.heap.size + 1, 9, none⟩ (.slice b10 l10 d10)).setCell ⟨w.heap.size + 1, 10, none⟩ (.slice b11 l11 d11)).setCell ⟨w.heap.size + 1, 11, none⟩ (.slice b12 l12 d12)).setCell ⟨w.heap.size + 1, 12, none⟩ (.int .i64 x.writes)).setCell ⟨w.heap.size + 1, 13, none⟩ (.int .i64 x.stop)).setCell ⟨w.heap.size + 1, 14, none⟩ (.bool x.down)) := by refine Chg.setCell ?_ _ _ (.inl (by simp)); refine Chg.setCell ?_ _ _ (.inl (by simp)); refine Chg.setCell ?_ _ _ (.inl (by simp)); refine Chg.setCell ?_ _ _ (.inl (by simp)); refine Chg.setCell ?_ _ _ (.inl (by simp)); refine Chg.setCell ?_ _ _ (.inl (by simp)); refine Chg.setCell ?_ _ _ (.inl (by simp)); refine Chg.setCell ?_ _ _ (.inl (by simp)); refine Chg.setCell ?_ _ _ (.inl (by simp)); refine Chg.setCell ?_ _ _ (.inl (by simp)); refine Chg.setCell ?_ _ _ (.inl (by simp)); refine Chg.setCell ?_ _ _ (.inl (by simp)); refine Chg.setCell ?_ _ _ (.inl (by simp)); refine Chg.setCell ?_ _ _ (.inl (by simp)); refine Chg.setCell ?_ _ _ (.inl (by simp)); refine Chg.setCell ?_ _ _ (.inl (by simp)); refine Chg.setCell ?_ _ _ (.inl (by simp)); refine Chg.setCell ?_ _ _ (.inl (by simp)); refine Chg.setCell ?_ _ _ (.inl (by simp)); refine Chg.trans0 ?_ HC4.out; refine Chg.setCell ?_ _ _ (.inl (by simp)); refine Chg.trans0 ?_ HC3.out; refine Chg.setCell ?_ _ _ (.inl (by simp)); exact Chg.refl _ _
  have K10 := drvL.slice.sl_chg HS10.out k10 HD10.out
  have F10 := q0r.chg HF10.out k10
  have k11 : Chg [w.heap.size, w.heap.size + 1, w.heap.size + 1 + 1] w3 (((((((((((((((((((w4.setCell ⟨w.heap.size + 1 + 1, 11, none⟩ (.slice b12 l12 d12)).setCell ⟨w.heap.size + 1 + 1, 12, none⟩ (.int .i64 x.writes)).setCell ⟨w.heap.size + 1 + 1, 13, none⟩ (.int .i64 x.stop)).setCell ⟨w.heap.size + 1 + 1, 14, none⟩ (.bool x.down)).setCell ⟨w.heap.size + 1, 0, none⟩ (.int .i64 x.shape.groups)).setCell ⟨w.heap.size + 1, 1, none⟩ (.int .i64 x.shape.column)).setCell ⟨w.heap.size + 1, 2, none⟩ (.int .i64 x.shape.data)).setCell ⟨w.heap.size + 1, 3, none⟩ (.int .i64 x.shape.spare)).setCell ⟨w.heap.size + 1, 4, none⟩ (.int .i64 x.shape.rows)).setCell ⟨w.heap.size + 1, 5, none⟩ (.int .i64 x.shape.cap)).setCell ⟨w.heap.size + 1, 6, none⟩ (.int .i64 x.shape.batch)).setCell ⟨w.heap.size + 1, 7, none⟩ (.int .i64 x.shape.queue)).setCell ⟨w.heap.size + 1, 8, none⟩ (.int .i64 x.shape.stage)).setCell ⟨w.heap.size + 1, 9, none⟩ (.slice b10 l10 d10)).setCell ⟨w.heap.size + 1, 10, none⟩ (.slice b11 l11 d11)).setCell ⟨w.heap.size + 1, 11, none⟩ (.slice b12 l12 d12)).setCell ⟨w.heap.size + 1, 12, none⟩ (.int .i64 x.writes)).setCell ⟨w.heap.size + 1, 13, none⟩ (.int .i64 x.stop)).setCell ⟨w.heap.size + 1, 14, none⟩ (.bool x.down)) := by refine Chg.setCell ?_ _ _ (.inl (by simp)); refine Chg.setCell ?_ _ _ (.inl (by simp)); refine Chg.setCell ?_ _ _ (.inl (by simp)); refine Chg.setCell ?_ _ _ (.inl (by simp)); refine Chg.setCell ?_ _ _ (.inl (by simp)); refine Chg.setCell ?_ _ _ (.inl (by simp)); refine Chg.setCell ?_ _ _ (.inl (by simp)); refine Chg.setCell ?_ _ _ (.inl (by simp)); refine Chg.setCell ?_ _ _ (.inl (by simp)); refine Chg.setCell ?_ _ _ (.inl (by simp)); refine Chg.setCell ?_ _ _ (.inl (by simp)); refine Chg.setCell ?_ _ _ (.inl (by simp)); refine Chg.setCell ?_ _ _ (.inl (by simp)); refine Chg.setCell ?_ _ _ (.inl (by simp)); refine Chg.setCell ?_ _ _ (.inl (by simp)); refine Chg.setCell ?_ _ _ (.inl (by simp)); refine Chg.setCell ?_ _ _ (.inl (by simp)); refine Chg.setCell ?_ _ _ (.inl (by simp)); refine Chg.setCell ?_ _ _ (.inl (by simp)); refine Chg.trans0 ?_ HC4.out; refine Chg.setCell ?_ _ _ (.inl (by simp)); exact Chg.refl _ _
  have K11 := intL.sl_chg HS11.out k11 HD11.out
  have F11 := q0r.chg HF11.out k11
  have k12 : Chg [w.heap.size, w.heap.size + 1, w.heap.size + 1 + 1] w4 (((((((((((((((((((w4.setCell ⟨w.heap.size + 1 + 1, 11, none⟩ (.slice b12 l12 d12)).setCell ⟨w.heap.size + 1 + 1, 12, none⟩ (.int .i64 x.writes)).setCell ⟨w.heap.size + 1 + 1, 13, none⟩ (.int .i64 x.stop)).setCell ⟨w.heap.size + 1 + 1, 14, none⟩ (.bool x.down)).setCell ⟨w.heap.size + 1, 0, none⟩ (.int .i64 x.shape.groups)).setCell ⟨w.heap.size + 1, 1, none⟩ (.int .i64 x.shape.column)).setCell ⟨w.heap.size + 1, 2, none⟩ (.int .i64 x.shape.data)).setCell ⟨w.heap.size + 1, 3, none⟩ (.int .i64 x.shape.spare)).setCell ⟨w.heap.size + 1, 4, none⟩ (.int .i64 x.shape.rows)).setCell ⟨w.heap.size + 1, 5, none⟩ (.int .i64 x.shape.cap)).setCell ⟨w.heap.size + 1, 6, none⟩ (.int .i64 x.shape.batch)).setCell ⟨w.heap.size + 1, 7, none⟩ (.int .i64 x.shape.queue)).setCell ⟨w.heap.size + 1, 8, none⟩ (.int .i64 x.shape.stage)).setCell ⟨w.heap.size + 1, 9, none⟩ (.slice b10 l10 d10)).setCell ⟨w.heap.size + 1, 10, none⟩ (.slice b11 l11 d11)).setCell ⟨w.heap.size + 1, 11, none⟩ (.slice b12 l12 d12)).setCell ⟨w.heap.size + 1, 12, none⟩ (.int .i64 x.writes)).setCell ⟨w.heap.size + 1, 13, none⟩ (.int .i64 x.stop)).setCell ⟨w.heap.size + 1, 14, none⟩ (.bool x.down)) := by refine Chg.setCell ?_ _ _ (.inl (by simp)); refine Chg.setCell ?_ _ _ (.inl (by simp)); refine Chg.setCell ?_ _ _ (.inl (by simp)); refine Chg.setCell ?_ _ _ (.inl (by simp)); refine Chg.setCell ?_ _ _ (.inl (by simp)); refine Chg.setCell ?_ _ _ (.inl (by simp)); refine Chg.setCell ?_ _ _ (.inl (by simp)); refine Chg.setCell ?_ _ _ (.inl (by simp)); refine Chg.setCell ?_ _ _ (.inl (by simp)); refine Chg.setCell ?_ _ _ (.inl (by simp)); refine Chg.setCell ?_ _ _ (.inl (by simp)); refine Chg.setCell ?_ _ _ (.inl (by simp)); refine Chg.setCell ?_ _ _ (.inl (by simp)); refine Chg.setCell ?_ _ _ (.inl (by simp)); refine Chg.setCell ?_ _ _ (.inl (by simp)); refine Chg.setCell ?_ _ _ (.inl (by simp)); refine Chg.setCell ?_ _ _ (.inl (by simp)); refine Chg.setCell ?_ _ _ (.inl (by simp)); refine Chg.setCell ?_ _ _ (.inl (by simp)); exact Chg.refl _ _
  have K12 := tapL.sl_chg HS12.out k12 HD12.out
  have F12 := q0r.chg HF12.out k12
  have hfr := q0r.mono (q0r.append F10 (q0r.append F11 F12 (q0r.low HF11.out (by have s1 := HC1.out.size; have s2 := HC2.out.size; have s3 := HC3.out.size; have s4 := HC4.out.size; simp at s1 s2 s3 s4 ⊢ <;> omega)) (by have s1 := HC1.out.size; have s2 := HC2.out.size; have s3 := HC3.out.size; have s4 := HC4.out.size; simp at s1 s2 s3 s4 ⊢ <;> omega)) (q0r.low HF10.out (by have s1 := HC1.out.size; have s2 := HC2.out.size; have s3 := HC3.out.size; have s4 := HC4.out.size; simp at s1 s2 s3 s4 ⊢ <;> omega)) (by have s1 := HC1.out.size; have s2 := HC2.out.size; have s3 := HC3.out.size; have s4 := HC4.out.size; simp at s1 s2 s3 s4 ⊢ <;> omega)) (show w.heap.size ≤ _ from (by have s1 := HC1.out.size; have s2 := HC2.out.size; have s3 := HC3.out.size; have s4 := HC4.out.size; simp at s1 s2 s3 s4 ⊢ <;> omega))
  refine bodyPost_ret (v := .agg #[.int .i64 x.shape.groups, .int .i64 x.shape.column, .int .i64 x.shape.data, .int .i64 x.shape.spare, .int .i64 x.shape.rows, .int .i64 x.shape.cap, .int .i64 x.shape.batch, .int .i64 x.shape.queue, .int .i64 x.shape.stage, .slice b10 l10 d10, .slice b11 l11 d11, .slice b12 l12 d12, .int .i64 x.writes, .int .i64 x.stop, .bool x.down]) (by simp [results, Tryz.results17, go_sem, hqc]) rfl ⟨_, _, rfl, q1c.2 ⟨b10, l10, d10, g10, b11, l11, d11, g11, b12, l12, d12, g12, rfl, HO.out.1, HO.out.2.1, HO.out.2.2.1, HO.out.2.2.2.1, HO.out.2.2.2.2.1, HO.out.2.2.2.2.2.1, HO.out.2.2.2.2.2.2.1, HO.out.2.2.2.2.2.2.2.1, HO.out.2.2.2.2.2.2.2.2.1, K10, K11, K12, HO.out.2.2.2.2.2.2.2.2.2.1, HO.out.2.2.2.2.2.2.2.2.2.2, rfl⟩, (by simpa using hfr), hch⟩
theorem z2b (x : Wld) (cx : Array Value) (fx : List Nat) (k : Int) (w : World) (hx : wldL.rep w cx.toList x fx) (hf : q0r 0 w fx) (hk : 0 ≤ k) (hk2 : k + q7d x ≤ 4611686018427387904) :
  Calls Tryz.prog 21 #[.agg cx, .int .i64 k] w fun e w' => e = .returned (.int .i64 (k + q7d x)) ∧ wldL.rep w' cx.toList (mvWld k x) fx ∧ Chg fx w w' := by
 obtain ⟨a10, l10, c10, f10, a11, l11, c11, f11, a12, l12, c12, f12, ex, o1, o2, o3, o4, o5, o6, o7, o8, o9, h10, h11, h12, o13, o14, efp⟩ := q1c.1 hx
 obtain rfl := Array.toList_inj.1 (ex.trans (List.toList_toArray).symm)
 rw [List.append_nil] at efp
 subst efp
 have hbx : w.heap.size ∉ f10 ++ (f11 ++ f12) := fun h => Nat.lt_irrefl _ (Lay.lt wldL hx _ (by simpa using h))
 obtain ⟨q10, hq10⟩ : ∃ q, q = sumI q3f x.groups := ⟨_, rfl⟩
 obtain ⟨q12, hq12⟩ : ∃ q, q = sumI q3s x.tapes := ⟨_, rfl⟩
 have n10 : 0 ≤ q10 := by rw [hq10]; exact q0w q4k _
 have n12 : 0 ≤ q12 := by rw [hq12]; exact q0w q4s _
 have t11 : q3x x.on = (l11 : Int) := by unfold q3x; rw [h11.1]
 have hcw : q7d x = q10 + l11 + q12 := by unfold q7d; rw [t11, hq10, hq12]
 have ndA := List.nodup_append.1 hf.1
 have ndB := List.nodup_append.1 ndA.2.1
 have lo10 : ∀ y ∈ f10, 0 ≤ y ∧ q4h (w.alloc (.cells #[.int .i64 x.shape.groups, .int .i64 x.shape.column, .int .i64 x.shape.data, .int .i64 x.shape.spare, .int .i64 x.shape.rows, .int .i64 x.shape.cap, .int .i64 x.shape.batch, .int .i64 x.shape.queue, .int .i64 x.shape.stage, .slice a10 l10 c10, .slice a11 l11 c11, .slice a12 l12 c12, .int .i64 x.writes, .int .i64 x.stop, .bool x.down] 34)) y := fun y hy => ⟨Nat.zero_le _, (hf.2 y (by simp [hy])).2.alloc _⟩
 have LO := hid (fun y hy => (hf.2 y hy).2 : ∀ y ∈ f10 ++ (f11 ++ f12), q4h w y)
 have D := hid (And.intro (fun y hy hy6 => ndA.2.2 y hy6 y (by simp [hy]) rfl : ∀ y ∈ f11, y ∉ f10) (And.intro (fun y hy hy6 => ndA.2.2 y hy6 y (by simp [hy]) rfl : ∀ y ∈ f12, y ∉ f10) (fun y hy hy7 => ndB.2.2 y hy7 y hy rfl : ∀ y ∈ f12, y ∉ f11)))
 have HI10 := hid (z0b a10 l10 c10 x.groups f10 k _ (drvL.slice.sl_ext h10 ((Chg.refl [] w).alloc (.cells #[.int .i64 x.shape.groups, .int .i64 x.shape.column, .int .i64 x.shape.data, .int .i64 x.shape.spare, .int .i64 x.shape.rows, .int .i64 x.shape.cap, .int .i64 x.shape.batch, .int .i64 x.shape.queue, .int .i64 x.shape.stage, .slice a10 l10 c10, .slice a11 l11 c11, .slice a12 l12 c12, .int .i64 x.writes, .int .i64 x.stop, .bool x.down] 34))) ⟨ndA.1, lo10⟩ hk (by omega))
 rw [← hq10] at HI10
 have H11 := hid h11; have H12 := hid h12
 have HO := hid (And.intro o1 (And.intro o2 (And.intro o3 (And.intro o4 (And.intro o5 (And.intro o6 (And.intro o7 (And.intro o8 (And.intro o9 (And.intro o13 o14))))))))))
 have HB := hid hbx
 have HND := hid (And.intro ndB.1 ndB.2.1)
 have HW := hid hcw; have HQ := hid (And.intro hq10 (And.intro hq12 t11))
 have hbd : k + q10 + l11 + q12 ≤ 4611686018427387904 := by omega
 clear hx hf hk2 ex o1 o2 o3 o4 o5 o6 o7 o8 o9 o13 o14 h10 h11 h12 hbx ndA ndB lo10 hq10 hq12 t11 hcw
 go_enter Tryz.func21, Tryz.ntmps21
 go_wp2_with fail
 refine HI10.out.mono ?_
 rintro e w1 ⟨rfl, hs1, hc1⟩
 have hP := hc1.keepb (q1a w _) (fun h => HB.out (by simp [h]))
 have cP := cellsOf hP; have lP := ltOf hP; have HP := hid hP
 have g0 : Chg [] w (w.alloc (.cells #[.int .i64 x.shape.groups, .int .i64 x.shape.column, .int .i64 x.shape.data, .int .i64 x.shape.spare, .int .i64 x.shape.rows, .int .i64 x.shape.cap, .int .i64 x.shape.batch, .int .i64 x.shape.queue, .int .i64 x.shape.stage, .slice a10 l10 c10, .slice a11 l11 c11, .slice a12 l12 c12, .int .i64 x.writes, .int .i64 x.stop, .bool x.down] 34)) := (Chg.refl [] w).alloc _
 have HI11 := hid (z0a a11 l11 c11 x.on f11 (k + q10) w1 (intL.sl_chg (intL.sl_ext H11.out g0) hc1 D.out.1) ⟨HND.out.1, fun y hy => ⟨Nat.zero_le _, hc1.loose y ((LO.out y (by simp [hy])).alloc _)⟩⟩ (by omega) (by omega))
 have H12' := hid (tapL.sl_chg (tapL.sl_ext H12.out g0) hc1 D.out.2.1)
 have HC1 := hid ((g0.mono (T := f10) (by simp)).trans hc1 (fun x hx => .inl hx))
 have HC1' := hid hc1
 have HS1 := hid hs1
 clear hs1 hc1 hP g0
 go_wp2_with fail
 refine HI11.out.mono ?_
 rintro e w2 ⟨rfl, hs2, hc2⟩
 have hP := hc2.keepb HP.out (fun h => HB.out (by simp [h]))
 clear cP lP HP
 have cP := cellsOf hP; have lP := ltOf hP
 have HI12 := hid (z2c a12 l12 c12 x.tapes f12 (k + q10 + l11) w2 (tapL.sl_chg H12'.out hc2 D.out.2.2) ⟨HND.out.2, fun y hy => ⟨Nat.zero_le _, hc2.loose y (HC1'.out.loose y ((LO.out y (by simp [hy])).alloc _))⟩⟩ (by omega) (by rw [← HQ.out.2.1]; omega))
 rw [← HQ.out.2.1] at HI12
 have HS1' := hid (drvL.slice.sl_chg HS1.out hc2 (fun y hy hm => D.out.1 y hm hy))
 have HS2 := hid hs2
 have HC2 := hid hc2
 clear hs2 hc2 hP
 go_wp2_with fail
 refine HI12.out.mono ?_
 rintro e w3 ⟨rfl, hs3, hc3⟩
 have r10 := drvL.slice.sl_chg HS1'.out hc3 (fun y hy hm => D.out.2.1 y hm hy)
 have r11 := intL.sl_chg HS2.out hc3 (fun y hy hm => D.out.2.2 y hm hy)
 have HL11 := hid H11.out.1
 have r11' : intL.sl w3 a11 l11 c11 (q3h (k + sumI q3f x.groups) x.on.length) f11 := by rw [← HQ.out.1, ← HL11.out]; exact r11
 have r12' : tapL.sl w3 a12 l12 c12 (q2h q3s mkTap x.tapes (k + sumI q3f x.groups + q3x x.on)) f12 := by rw [← HQ.out.1, HQ.out.2.2]; exact hs3
 have HR := hid (q1c.2 ⟨a10, l10, c10, f10, a11, l11, c11, f11, a12, l12, c12, f12, rfl, HO.out.1, HO.out.2.1, HO.out.2.2.1, HO.out.2.2.2.1, HO.out.2.2.2.2.1, HO.out.2.2.2.2.2.1, HO.out.2.2.2.2.2.2.1, HO.out.2.2.2.2.2.2.2.1, HO.out.2.2.2.2.2.2.2.2.1, r10, r11', r12', HO.out.2.2.2.2.2.2.2.2.2.1, HO.out.2.2.2.2.2.2.2.2.2.2, (by simp)⟩ : wldL.rep w3 [.int .i64 x.shape.groups, .int .i64 x.shape.column, .int .i64 x.shape.data, .int .i64 x.shape.spare, .int .i64 x.shape.rows, .int .i64 x.shape.cap, .int .i64 x.shape.batch, .int .i64 x.shape.queue, .int .i64 x.shape.stage, .slice a10 l10 c10, .slice a11 l11 c11, .slice a12 l12 c12, .int .i64 x.writes, .int .i64 x.stop, .bool x.down] (mvWld k x) (f10 ++ (f11 ++ f12)))
 have HC := hid (((HC1.out.mono (T := f10 ++ (f11 ++ f12)) (fun y hy => .inl (by simp [hy]))).trans HC2.out (fun y hy => .inl (by simp [hy]))).trans hc3 (fun y hy => .inl (by simp [hy])))
 have HZ := hid (show k + q10 + (l11 : Int) + q12 = k + q7d x by rw [HW.out]; omega)
 clear hs3 hc3 r10 r11 r11' r12' cP lP
 go_wp2_with fail
 go_ret
 exact ⟨q0e HZ.out, HR.out, HC.out⟩
end Go.Proofs.YtphmpimgbmedbaaGreat
namespace Go.Proofs.YtphmpimgbmedbaaGreat
open Go.RowKit
open Go.Lib (hid)
def q1b {α : Type} (L : Lay α) (w : World) (b off : Nat) (ps : List (α × List Nat)) : Prop :=
 ∃ cur E, w.heap[b]? = some (.cells cur E (0, 0)) ∧ (0 < ps.length → off + ps.length * L.n ≤ cur.size) ∧ ∀ (i : Nat) p, ps[i]? = some p → L.rep w ((cur.toList.drop (off + i * L.n)).take L.n) p.1 p.2 ∧ b ∉ p.2
section
variable {α : Type} {L : Lay α} {w w' : World} {b off : Nat} {ps : List (α × List Nat)}
theorem q1b.lt (h : q1b L w b off ps) : b < w.heap.size := by obtain ⟨cur, E, h1, _⟩ := h; exact ltOf h1
theorem q1b.loose (h : q1b L w b off ps) : q4h w b := by obtain ⟨cur, E, h1, _⟩ := h; exact ⟨_, _, h1⟩
theorem q1b.keep (h : q1b L w b off ps) (hb : w'.heap[b]? = w.heap[b]?) (hk : ∀ p ∈ ps, ∀ y ∈ p.2, w'.heap[y]? = w.heap[y]?) : q1b L w' b off ps := by
 obtain ⟨cur, E, h1, h2, h3⟩ := h
 exact ⟨cur, E, hb.trans h1, h2, fun i p hp => ⟨L.keep (h3 i p hp).1 (hk p (List.mem_of_getElem? hp)), (h3 i p hp).2⟩⟩
theorem q1b.fp_lt (h : q1b L w b off ps) {p : α × List Nat} (hp : p ∈ ps) : ∀ y ∈ p.2, y < w.heap.size := by
 obtain ⟨cur, E, h1, h2, h3⟩ := h
 obtain ⟨i, hi, e⟩ := List.getElem_of_mem hp
 exact L.lt (h3 i p (by rw [List.getElem?_eq_getElem hi, e])).1
theorem q1b.chg {S : List Nat} (h : q1b L w b off ps) (hc : Chg S w w') (hb : b ∉ S) (hS : ∀ p ∈ ps, ∀ y ∈ p.2, y ∉ S) : q1b L w' b off ps :=
 h.keep (hc.block b h.lt hb) (fun p hp y hy => hc.block y (h.fp_lt hp y hy) (hS p hp y hy))
theorem q1b.ext (h : q1b L w b off ps) (hc : Chg [] w w') : q1b L w' b off ps := h.chg hc (by simp) (by simp)
theorem q1b.at (h : q1b L w b off ps) {i : Nat} (hi : i < ps.length) : ∃ p c, ps[i]? = some p ∧ L.rep w c p.1 p.2 ∧ b ∉ p.2 ∧ ∀ j, j < L.n → w.cell? ⟨b, off + i * L.n + j, none⟩ = c[j]? := by
 obtain ⟨cur, E, h1, h2, h3⟩ := h
 have hp : ps[i]? = some ps[i] := List.getElem?_eq_getElem hi
 refine ⟨_, _, hp, (h3 i _ hp).1, (h3 i _ hp).2, fun j hj => ?_⟩
 rw [cellsOf h1, List.getElem?_take_of_lt hj, List.getElem?_drop]
 simp
theorem q1b.free (h : q1b L w b off ps) : ∀ j, w.frozen? ⟨b, j, none⟩ = false := by obtain ⟨cur, E, h1, _⟩ := h; exact q0l h1
theorem q1b.put (h : q1b L w b off ps) {i : Nat} (hi : i < ps.length) {x : α} {c : List Value} {f : List Nat} (hr : L.rep w c x f) (hb : b ∉ f) : q1b L (w.setCells b (off + i * L.n) c) b off (ps.set i (x, f)) := by
 obtain ⟨cur, E, h1, h2, h3⟩ := h
 have hcl := L.len hr
 have hle : (i + 1) * L.n ≤ ps.length * L.n := Nat.mul_le_mul_right _ (by omega)
 rw [Nat.add_mul, Nat.one_mul] at hle
 have hsz : off + i * L.n + c.length ≤ cur.size := by have := h2 (by omega); omega
 have htl := q7s c (off + i * L.n) cur hsz
 have hct : cur.toList.length = cur.size := by simp
 refine ⟨_, E, q7t c _ w cur h1, ?_, fun j p hp => ?_⟩
 ·rw [List.length_set]
  have : (setRow cur (off + i * L.n) c).size = cur.size := by
   have h5 := congrArg List.length htl
   rw [Array.length_toList] at h5
   rw [h5, List.length_append, List.length_append, List.length_take, List.length_drop]
   omega
  rw [this]; exact h2
 ·have hfar : ∀ y, y ≠ b → (w.setCells b (off + i * L.n) c).heap[y]? = w.heap[y]? := fun y hy => q4l hy c _ w
  by_cases e : i = j
  ·subst e
   rw [List.getElem?_set_self hi] at hp
   obtain rfl := Option.some.inj hp
   refine ⟨?_, hb⟩
   have e2 : ((setRow cur (off + i * L.n) c).toList.drop (off + i * L.n)).take L.n = c := by
    rw [htl, List.drop_append_of_le_length (by rw [List.length_take]; omega), List.drop_take, Nat.sub_self, List.take_zero, List.nil_append, List.take_append_of_le_length (by omega), List.take_of_length_le (by omega)]
   rw [e2]
   exact L.keep hr (fun y hy => hfar y (fun e => hb (e ▸ hy)))
  ·rw [List.getElem?_set_ne e] at hp
   obtain ⟨h4, h5⟩ := h3 j p hp
   refine ⟨?_, h5⟩
   have hj := (List.getElem?_eq_some_iff.1 hp).1
   have hjle : (j + 1) * L.n ≤ ps.length * L.n := Nat.mul_le_mul_right _ (by omega)
   rw [Nat.add_mul, Nat.one_mul] at hjle
   have e2 : ((setRow cur (off + i * L.n) c).toList.drop (off + j * L.n)).take L.n = (cur.toList.drop (off + j * L.n)).take L.n := by
    apply List.ext_getElem?
    intro k
    by_cases hk : k < L.n
    ·rw [List.getElem?_take_of_lt hk, List.getElem?_take_of_lt hk, List.getElem?_drop, List.getElem?_drop, htl]
     rcases Nat.lt_or_gt_of_ne e with hij | hij
     ·have : (i + 1) * L.n ≤ j * L.n := Nat.mul_le_mul_right _ hij
      rw [Nat.add_mul, Nat.one_mul] at this
      rw [List.getElem?_append_right (by rw [List.length_take]; omega), List.length_take, List.getElem?_append_right (by omega), List.getElem?_drop]
      congr 1
      omega
     ·have : (j + 1) * L.n ≤ i * L.n := Nat.mul_le_mul_right _ hij
      rw [Nat.add_mul, Nat.one_mul] at this
      rw [List.getElem?_append_left (by rw [List.length_take]; omega), List.getElem?_take_of_lt (by omega)]
    ·rw [List.getElem?_eq_none (by rw [List.length_take]; omega), List.getElem?_eq_none (by rw [List.length_take]; omega)]
   rw [e2]
   exact L.keep h4 (fun y hy => hfar y (fun e => h5 (e ▸ hy)))
theorem q1b.take (h : q1b L w b off ps) (n : Nat) : q1b L w b off (ps.take n) := by
 obtain ⟨cur, E, h1, h2, h3⟩ := h
 have hle : (ps.take n).length * L.n ≤ ps.length * L.n := Nat.mul_le_mul_right _ (by rw [List.length_take]; omega)
 refine ⟨cur, E, h1, fun h0 => by have := h2 (by rw [List.length_take] at h0; omega); omega, fun i p hp => h3 i p ?_⟩
 have hi : i < n := by have := (List.getElem?_eq_some_iff.1 hp).1; rw [List.length_take] at this; omega
 rwa [List.getElem?_take_of_lt hi] at hp
end
theorem row_all {α : Type} {L : Lay α} {w : World} : ∀ {ps : List (α × List Nat)} {cs : List Value}, cs.length = ps.length * L.n → (∀ (i : Nat) p, ps[i]? = some p → L.rep w ((cs.drop (i * L.n)).take L.n) p.1 p.2) → L.all w cs (ps.map (·.1)) (ps.flatMap (·.2)) := by
 intro ps
 induction ps with
 | nil => intro cs hl _; exact ⟨List.eq_nil_of_length_eq_zero (by simpa using hl), rfl⟩
 | cons p ps ih =>
  intro cs hl h
  rw [List.length_cons, Nat.add_mul, Nat.one_mul] at hl
  refine ⟨cs.take L.n, cs.drop L.n, p.2, ps.flatMap (·.2), (List.take_append_drop _ _).symm, by simp, ?_, ih (by rw [List.length_drop]; omega) (fun i q hq => ?_)⟩
  ·have := h 0 p rfl
   simpa using this
  ·have := h (i + 1) q (by simpa using hq)
   rw [List.drop_drop]
   rw [Nat.add_mul, Nat.one_mul, Nat.add_comm] at this
   exact this
theorem all_row {α : Type} {L : Lay α} {w : World} : ∀ {xs : List α} {cs : List Value} {fps : List Nat}, L.all w cs xs fps → ∃ ps : List (α × List Nat), ps.map (·.1) = xs ∧ ps.flatMap (·.2) = fps ∧ ∀ (i : Nat) p, ps[i]? = some p → L.rep w ((cs.drop (i * L.n)).take L.n) p.1 p.2 := by
 intro xs
 induction xs with
 | nil => intro cs fps h; exact ⟨[], rfl, h.2.symm, fun i p hp => by simp at hp⟩
 | cons x xs ih =>
  intro cs fps h
  obtain ⟨c1, c2, f1, f2, rfl, rfl, h1, h2⟩ := h
  obtain ⟨ps, e1, e2, e3⟩ := ih h2
  have hl := L.len h1
  refine ⟨(x, f1) :: ps, by simp [e1], by simp [e2], fun i p hp => ?_⟩
  cases i with
  | zero =>
   simp at hp
   subst hp
   rw [Nat.zero_mul, List.drop_zero, ← hl, List.take_left]
   exact h1
  | succ i =>
   have := e3 i p (by simpa using hp)
   rw [Nat.add_mul, Nat.one_mul, Nat.add_comm, ← List.drop_drop, ← hl, List.drop_left, hl]
   exact this
section
variable {α : Type} {L : Lay α} {w w' : World} {b off len cap : Nat} {xs : List α} {ps : List (α × List Nat)} {fp : List Nat}
theorem q1b.sl (h : q1b L w b off ps) (hl : len = ps.length) (hc : len ≤ cap) (hm : cap ≤ maxLen) : L.sl w (some ⟨b, off, none⟩) len cap (ps.map (·.1)) (b :: ps.flatMap (·.2)) := by
 obtain ⟨cur, E, h1, h2, h3⟩ := h
 subst hl
 refine ⟨by simp, hc, hm, (fun h => by cases h), .inr ⟨b, off, cur, E, (0, 0), _, rfl, h1, row_all ?_ (fun i p hp => ?_), rfl⟩⟩
 ·have hct : cur.toList.length = cur.size := by simp
  rw [List.length_take, List.length_drop, hct]
  rcases Nat.eq_zero_or_pos ps.length with h0 | h0
  ·rw [h0, Nat.zero_mul]; omega
  ·have := h2 h0; omega
 ·have hi := (List.getElem?_eq_some_iff.1 hp).1
  have hle : (i + 1) * L.n ≤ ps.length * L.n := Nat.mul_le_mul_right _ (by omega)
  rw [Nat.add_mul, Nat.one_mul] at hle
  have e : (((cur.toList.drop off).take (ps.length * L.n)).drop (i * L.n)).take L.n = (cur.toList.drop (off + i * L.n)).take L.n := by
   rw [List.drop_take, List.take_take, List.drop_drop, Nat.min_eq_left (by omega)]
  rw [e]
  exact (h3 i p hp).1
theorem Lay.sl_row (h : L.sl w (some ⟨b, off, none⟩) len cap xs fp) (hlo : q4h w b) (hn : ∃ fps, fp = b :: fps ∧ b ∉ fps) : ∃ ps, q1b L w b off ps ∧ ps.map (·.1) = xs ∧ fp = b :: ps.flatMap (·.2) := by
 obtain ⟨fps0, hfp, hb⟩ := hn
 obtain ⟨h1, h2, h3, h4, ⟨rfl, rfl⟩ | ⟨b', off', cur, E, fr, fps, ha, hb', hall, hfp'⟩⟩ := h
 ·cases hfp
 ·simp only [Option.some.injEq, Addr.mk.injEq, and_true] at ha
  obtain ⟨rfl, rfl⟩ := ha
  obtain rfl : fps = fps0 := by rw [hfp] at hfp'; exact (List.cons.inj hfp').2.symm
  obtain ⟨cur', E', hlo⟩ := hlo
  obtain ⟨rfl, rfl, rfl⟩ : cur' = cur ∧ E' = E ∧ fr = (0, 0) := by
   have := Option.some.inj (hlo.symm.trans hb'); injection this with e1 e2 e3; exact ⟨e1, e2, e3.symm⟩
  obtain ⟨ps, e1, e2, e3⟩ := all_row hall
  have hpl : ps.length = xs.length := by rw [← e1, List.length_map]
  have hal := L.all_len hall
  rw [List.length_take, List.length_drop, Array.length_toList] at hal
  refine ⟨ps, ⟨cur', E', hb', ?_, fun i p hp => ?_⟩, e1, by rw [hfp, e2]⟩
  ·rw [hpl]
   intro h0
   have : 0 < xs.length * L.n := Nat.mul_pos h0 L.pos
   rw [h1] at hal; omega
  ·have hi := (List.getElem?_eq_some_iff.1 hp).1
   have hle : (i + 1) * L.n ≤ len * L.n := Nat.mul_le_mul_right _ (by omega)
   rw [Nat.add_mul, Nat.one_mul] at hle
   have := e3 i p hp
   rw [List.drop_take, List.take_take, List.drop_drop, Nat.min_eq_left (by omega)] at this
   refine ⟨this, fun hm => hb ?_⟩
   rw [← e2]
   exact List.mem_flatMap.2 ⟨p, List.mem_of_getElem? hp, hm⟩
end
end Go.Proofs.YtphmpimgbmedbaaGreat
namespace Go.Proofs.YtphmpimgbmedbaaGreat
open Go.RowKit
open Go.Lib (hid)
def q6d (P : Program) (md : Region.Mode) (ops : Array Oper) (Q : Exit → Act → World → Prop) (S : Array Bool → World → Prop) : Nat → Array Bool → Act → World → Prop
 | 0, listed, a, w => Region.ready md ops listed = [] ∧ Q .normal a w
 | fuel + 1, listed, a, w =>
  (Region.ready md ops listed = [] → Q .normal a w) ∧
  ∀ i ∈ Region.ready md ops listed, wpOp P ops Q i (fun a' w' => S (listed.setIfInBounds i true) w' ∧ q6d P md ops Q S fuel (listed.setIfInBounds i true) a' w') a w
def Till (M : List Nat) (C : World → Prop) (l : Array Bool) (w : World) : Prop := (∀ m ∈ M, l.getD m false = false) → C w
def q3g (md : Region.Mode) (ops : Array Oper) (l : Array Bool) : Prop := ∀ (j : Nat) (o : Oper), ops[j]? = some o → l.getD j false = true → ∀ e ∈ o.after, Region.binds md e = true → l.getD e.on false = true
def waits (md : Region.Mode) (ops : Array Oper) : Nat → Nat → Nat → Bool
 | 0, m, i => m == i
 | n + 1, m, i => m == i || (match ops[m]? with
  | none => false
  | some o => o.after.toList.any (fun e => Region.binds md e && waits md ops n e.on i))
section
variable {P : Program} {ops : Array Oper} {Q : Exit → Act → World → Prop} {md : Region.Mode} {M : List Nat} {C : World → Prop} {fuel : Nat} {listed : Array Bool} {a : Act} {w : World}
theorem q8r (hc : q3g md ops listed) : ∀ (n m i : Nat), waits md ops n m i = true → listed.getD m false = true → listed.getD i false = true
 | 0, m, i, h, hm => by simp [waits] at h; subst h; exact hm
 | n + 1, m, i, h, hm => by
  unfold waits at h
  rw [Bool.or_eq_true] at h
  rcases h with h | h
  ·simp at h; subst h; exact hm
  ·cases ho : ops[m]? with
   | none => rw [ho] at h; cases h
   | some o =>
    rw [ho] at h
    simp only [List.any_eq_true, Bool.and_eq_true] at h
    obtain ⟨e, he, hb, hw⟩ := h
    exact q8r hc n e.on i hw (hc m o ho hm e (by simpa using he) hb)
theorem q3g.next (hc : q3g md ops listed) {j : Nat} (hj : j ∈ Region.ready md ops listed) : q3g md ops (listed.setIfInBounds j true) := by
 intro k o ho hk e he hb
 obtain ⟨_, oj, hoj, hall⟩ := mem_ready.1 hj
 by_cases h : j = k
 ·subst h
  rw [hoj] at ho
  cases ho
  exact getD_set_true (hall e he hb)
 ·rw [getD_set_ne false h] at hk
  exact getD_set_true (hc k o ho hk e he hb)
theorem q3g.none : q3g md ops (Array.replicate ops.size false) := by
 intro k o ho hk
 rw [Array.getD_eq_getD_getElem?, Array.getElem?_replicate] at hk
 split at hk <;> cases hk
theorem unl {i : Nat} (h : i ∈ Region.ready md ops listed) : listed.getD i false = false := by
 have h0 := (mem_ready.1 h).1
 rw [Array.getD_eq_getD_getElem?] at h0 ⊢
 cases e : listed[i]? with
 | none => rfl
 | some b => rw [e] at h0; exact h0
theorem z0z {S : Array Bool → World → Prop} : ∀ (fuel : Nat) (listed : Array Bool) (a : Act) (w : World), q6d P md ops Q S fuel listed a w → wpAny P md ops Q fuel listed a w
 | 0, _, _, _, h => h
 | fuel + 1, _, _, _, h => ⟨h.1, fun i hi => wpOp_mono (fun a' w' h' => z0z fuel _ a' w' h'.2) (h.2 i hi)⟩
theorem Till.now {i n : Nat} (hS : Till M C listed w) (hcl : q3g md ops listed) (hi : listed.getD i false = false) (hM : ∀ m ∈ M, waits md ops n m i = true) : C w :=
 hS (fun m hm => by
  cases e : listed.getD m false
  ·rfl
  ·rw [q8r hcl n m i (hM m hm) e] at hi; cases hi)
theorem Till.more (hS : Till M C listed w) (j : Nat) : Till M C (listed.setIfInBounds j true) w := fun hm => hS (fun m hmM => by
  have := hm m hmM
  cases e : listed.getD m false
  ·rfl
  ·rw [getD_set_true e] at this; cases this)
theorem q8q {i : Nat} {oi : Oper} {v : Value} (hi : ops[i]? = some oi) (hsel : ∀ (j : Nat) (o : Oper) cs b, ops[j]? = some o → o.op ≠ .select cs b)
  (hQ : ∀ c a w, Q (.panic c) (a.put oi.dst v) w → Q (.panic c) a w) {D : World → Prop} (hD : ∀ (l : Array Bool) w, q3g md ops l → l.getD i false = false → Till M C l w → D w) (hiM : i ∉ M) :
  ∀ (fuel : Nat) (listed : Array Bool) (a : Act) (w : World),
   (∀ j oj, ops[j]? = some oj → j ≠ i → listed.getD j true = false → (∀ e ∈ oj.after, Region.binds md e = true → e.on ≠ i) → oi.apart ops oj = true) →
   i ∈ Region.ready md ops listed → q3g md ops listed → YieldsIf P ops D oi v a → Till M C listed w →
   q6d P md ops Q (Till M C) fuel (listed.setIfInBounds i true) (a.put oi.dst v) w → q6d P md ops Q (Till M C) (fuel + 1) listed a w := by
 intro fuel
 induction fuel with
 | zero =>
  intro listed a w _ hr hcl hy hS H
  refine ⟨fun h => (by rw [h] at hr; cases hr), fun j hj => ?_⟩
  by_cases hji : j = i
  ·subst hji
   exact hy.wpOp hi (hD _ _ hcl (unl hr) hS) ⟨hS.more j, H⟩
  ·have := ready_mono hj hji
   rw [H.1] at this
   cases this
 | succ fuel ih =>
  intro listed a w hfree hr hcl hy hS H
  refine ⟨fun h => (by rw [h] at hr; cases hr), fun j hj => ?_⟩
  by_cases hji : j = i
  ·subst hji
   exact hy.wpOp hi (hD _ _ hcl (unl hr) hS) ⟨hS.more j, H⟩
  ·have h1 := H.2 j (ready_mono hj hji)
   obtain ⟨hjun, oj, hoj, hall⟩ := mem_ready.1 hj
   have hnot : ∀ e ∈ oj.after, Region.binds md e = true → e.on ≠ i := fun e he hb heq => by
    have h1 := hall e he hb
    rw [heq, unl hr] at h1
    cases h1
   have h2 := wpOp_putIf hoj (hfree j oj hoj hji hjun hnot) (fun cs b => hsel i oi cs b hi) (fun cs b => hsel j oj cs b hoj) hQ hy h1
   have hfree' : ∀ k ok, ops[k]? = some ok → k ≠ i → (listed.setIfInBounds j true).getD k true = false →
     (∀ e ∈ ok.after, Region.binds md e = true → e.on ≠ i) → oi.apart ops ok = true := fun k ok hk hki hun hno => by
    refine hfree k ok hk hki ?_ hno
    by_cases hjk : j = k
    ·subst hjk; exact hjun
    ·rw [getD_set_ne true hjk] at hun; exact hun
   refine wpOp_mono (fun a' w' h3 => ?_) h2
   obtain ⟨hy', hS', hW⟩ := h3
   have hTl : Till M C (listed.setIfInBounds j true) w' := fun hm => hS' (fun m hmM => by
    have hne : i ≠ m := fun e => hiM (by rw [e]; exact hmM)
    rw [Array.setIfInBounds_comm _ _ (Ne.symm hji), getD_set_ne false hne]
    exact hm m hmM)
   refine ⟨hTl, ih (listed.setIfInBounds j true) a' w' hfree' (ready_mono hr (Ne.symm hji)) (hcl.next hj) hy' hTl ?_⟩
   rw [Array.setIfInBounds_comm _ _ hji]
   exact hW
theorem q9k {id : Nat} (M : List Nat) (C : World → Prop) (hm : P.follows .mixedOrders = true) (hC : C w.drew) (h : q3g .any ops (Array.replicate ops.size false) → Till M C (Array.replicate ops.size false) w.drew → q6d P .any ops Q (Till M C) ops.size (Array.replicate ops.size false) a w.drew) : (Code.region id ops true).wp P Q a w :=
 wp_region_any hm (z0z _ _ _ _ (h q3g.none (fun _ => hC)))
theorem ggT (i : Nat) {oi : Oper} {v : Value} {a' : Act} (hcl : q3g md ops listed) (hS : Till M C listed w)
  (h : q3g md ops (listed.setIfInBounds i true) → Till M C (listed.setIfInBounds i true) w → q6d P md ops Q (Till M C) fuel (listed.setIfInBounds i true) a' w) (hi : ops.toList[i]? = some oi := by rfl)
  (hc : (Region.noSelect ops && Region.free md ops listed i && (Region.ready md ops listed).contains i && !M.contains i) = true := by kernel_rfl)
  (hQ : ∀ c a w, Q (.panic c) (a.put oi.dst v) w → Q (.panic c) a w := by exact fun _ _ _ h => h) (hw : Region.wanted oi (yielded ops a.tmps) = true := by rfl)
  (hy : ∀ w : World, (execOp a.eval oi).run P w = .ok (.value v) w := by intro w; go_simp; (try with_reducible rfl))
  (ha : a.put oi.dst v = a' := by (try simp only [Act.put, pA, pB, pC]); (try rfl)) : q6d P md ops Q (Till M C) (fuel + 1) listed a w := by
 simp only [Bool.and_eq_true, Bool.not_eq_true'] at hc
 have hr : i ∈ Region.ready md ops listed := by simpa using hc.1.2
 exact q8q (D := fun _ => True) (q2x hi) (Region.noSelect_spec hc.1.1.1) hQ (fun _ _ _ _ _ => trivial) (by simpa using hc.2) fuel listed a w (Region.free_spec (q2x hi) hc.1.1.2) hr hcl (.inl ⟨hw, fun w _ => hy w⟩) hS (ha ▸ h (hcl.next hr) (hS.more i))
theorem ggL (i : Nat) {oi : Oper} {v : Value} {a' : Act} {D : World → Prop} (hcl : q3g md ops listed) (hS : Till M C listed w) (hCD : Hid (∀ w, C w → D w))
  (h : q3g md ops (listed.setIfInBounds i true) → Till M C (listed.setIfInBounds i true) w → q6d P md ops Q (Till M C) fuel (listed.setIfInBounds i true) a' w) (hi : ops.toList[i]? = some oi := by rfl)
  (hc : (Region.noSelect ops && Region.free md ops listed i && (Region.ready md ops listed).contains i && M.all (fun m => waits md ops ops.size m i) && !M.contains i) = true := by kernel_rfl)
  (hQ : ∀ c a w, Q (.panic c) (a.put oi.dst v) w → Q (.panic c) a w := by exact fun _ _ _ h => h) (hw : Region.wanted oi (yielded ops a.tmps) = true := by rfl)
  (hy : ∀ w : World, D w → (execOp a.eval oi).run P w = .ok (.value v) w := by intro w hSw; (try unfold Know at hSw); go_simp; (try with_reducible rfl))
  (ha : a.put oi.dst v = a' := by (try simp only [Act.put, pA, pB, pC]); (try rfl)) : q6d P md ops Q (Till M C) (fuel + 1) listed a w := by
 simp only [Bool.and_eq_true, List.all_eq_true, Bool.not_eq_true'] at hc
 have hr : i ∈ Region.ready md ops listed := by simpa using hc.1.1.2
 exact q8q (D := D) (q2x hi) (Region.noSelect_spec hc.1.1.1.1) hQ (fun l w h1 h2 h3 => hCD.out w (h3.now h1 h2 hc.1.2)) (by simpa using hc.2) fuel listed a w (Region.free_spec (q2x hi) hc.1.1.1.2) hr hcl (.inl ⟨hw, hy⟩) hS (ha ▸ h (hcl.next hr) (hS.more i))
theorem ggC (i : Nat) {oi : Oper} (hcl : q3g md ops listed) (hi : ops.toList[i]? = some oi) (hr : Region.ready md ops listed = [i])
  (h : ∀ K' : Act → World → Prop, Shut (∀ a w, Till M C (listed.setIfInBounds i true) w → (q3g md ops (listed.setIfInBounds i true) → Till M C (listed.setIfInBounds i true) w → q6d P md ops Q (Till M C) fuel (listed.setIfInBounds i true) a w) → K' a w) → if Region.wanted oi (yielded ops a.tmps) = true then Oper.wp P oi a w K' Q else K' (a.put oi.dst undef) w) :
  q6d P md ops Q (Till M C) (fuel + 1) listed a w := by
 refine ⟨fun h0 => (by rw [hr] at h0; cases h0), fun j hj => ?_⟩
 have hji : j = i := by rw [hr] at hj; simpa using hj
 subst hji
 exact wpOp_step (q2x hi) (fun K' hK => h K' (fun a w hS hW => hK a w ⟨hS, hW (hcl.next hj) hS⟩))
theorem ggEnd {a : Act} (hr : Region.ready md ops listed = []) (h : Q .normal a w) : ∀ fuel, q6d P md ops Q (Till M C) fuel listed a w
 | 0 => ⟨hr, h⟩
 | _ + 1 => ⟨fun _ => h, by rw [hr]; simp⟩
theorem Till.done {m : Nat} (hm : m ∈ M) (h : listed.getD m false = true) : Till M C listed w := fun hall => by rw [hall m hm] at h; cases h
end
end Go.Proofs.YtphmpimgbmedbaaGreat
