/- Several texts in one. -/
import Derived.Test.YtphmpimgbmedbaaGreatVay
import Derived.Test.YtphmpimgbmedbaaGreatVav
set_option maxRecDepth 100000
set_option maxHeartbeats 8000000
namespace Go.Proofs.YtphmpimgbmedbaaGreat
open Go.RowKit
open Go.Lib (hid)
theorem q8u (x : Wld) (cx : Array Value) (fx : List Nat) (w : World) (hx : wldL.rep w cx.toList x fx) (hz : q1u x ≤ 1048576) :
  Calls Tryz.prog 71 #[.agg cx] w (NewOn x w) := by
 obtain ⟨KD, _⟩ := q4y
 obtain ⟨KS, _⟩ := kindDS
 obtain ⟨KT, _⟩ := q7b
 obtain ⟨KB, _⟩ := q7c
 obtain ⟨KI, _⟩ := z0i
 obtain ⟨a10, l10, c10, f10, a11, l11, c11, f11, a12, l12, c12, f12, ex, o1, o2, o3, o4, o5, o6, o7, o8, o9, h10, h11, h12, o13, o14, -⟩ := q0x.1 hx
 obtain rfl := Array.toList_inj.1 (ex.trans (List.toList_toArray).symm)
 have q10 := q0s (q0s q0w) x.gS; have q11 := q2f x.on; have q12 := q0s q1e x.tapes
 unfold q1u at hz
 have z10 : totL (totL q2h) x.gS ≤ 1048576 := by omega
 have z12 : totL q4n x.tapes ≤ 1048576 := by omega
 have hl10 : l10 ≤ 1048576 := by have := q2e (q0s q0w) x.gS; rw [h10.1]; omega
 have hl11 : l11 ≤ 1048576 := by rw [h11.1]; unfold q3z at hz q11; omega
 have hl12 : l12 ≤ 1048576 := by have := q2e q1e x.tapes; rw [h12.1]; omega
 have L10 := hid h10.1; have L11 := hid h11.1; have L12 := hid h12.1
 have H10 := hid h10; have H11 := hid h11; have H12 := hid h12
 have HO := hid (And.intro o1 (And.intro o2 (And.intro o3 (And.intro o4 (And.intro o5 (And.intro o6 (And.intro o7 (And.intro o8 (And.intro o9 (And.intro o13 o14))))))))))
 have Z10 := hid (fun g hg => Int.le_trans (q1y (q0s q0w) hg) z10 : ∀ g ∈ x.gS, totL q2h g ≤ 1048576)
 have Z12 := hid (fun t ht => Int.le_trans (q1y q1e ht) z12 : ∀ t ∈ x.tapes, q4n t ≤ 1048576)
 clear hx ex hz q10 q11 q12 z10 z12 h10 h11 h12 o1 o2 o3 o4 o5 o6 o7 o8 o9 o13 o14
 have G0 := hid (show Chg [] w (((w.alloc (.cells #[.int .i64 x.sH.gS, .int .i64 x.sH.column, .int .i64 x.sH.data, .int .i64 x.sH.sR, .int .i64 x.sH.rows, .int .i64 x.sH.cap, .int .i64 x.sH.bT, .int .i64 x.sH.qU, .int .i64 x.sH.sG, .slice a10 l10 c10, .slice a11 l11 c11, .slice a12 l12 c12, .int .i64 x.wT, .int .i64 x.stop, .bool x.down] 34)).alloc (.cells #[.int .i64 0, .int .i64 0, .int .i64 0, .int .i64 0, .int .i64 0, .int .i64 0, .int .i64 0, .int .i64 0, .int .i64 0, .slice none 0 0, .slice none 0 0, .slice none 0 0, .int .i64 0, .int .i64 0, .bool false] 34)).alloc (.cells #[.int .i64 x.sH.gS, .int .i64 x.sH.column, .int .i64 x.sH.data, .int .i64 x.sH.sR, .int .i64 x.sH.rows, .int .i64 x.sH.cap, .int .i64 x.sH.bT, .int .i64 x.sH.qU, .int .i64 x.sH.sG, .slice none 0 0, .slice a11 l11 c11, .slice a12 l12 c12, .int .i64 x.wT, .int .i64 x.stop, .bool x.down] 34)) from ((((Chg.refl [] w).alloc _).alloc _).alloc _))
 have B1 := hid (show (((w.alloc (.cells #[.int .i64 x.sH.gS, .int .i64 x.sH.column, .int .i64 x.sH.data, .int .i64 x.sH.sR, .int .i64 x.sH.rows, .int .i64 x.sH.cap, .int .i64 x.sH.bT, .int .i64 x.sH.qU, .int .i64 x.sH.sG, .slice a10 l10 c10, .slice a11 l11 c11, .slice a12 l12 c12, .int .i64 x.wT, .int .i64 x.stop, .bool x.down] 34)).alloc (.cells #[.int .i64 0, .int .i64 0, .int .i64 0, .int .i64 0, .int .i64 0, .int .i64 0, .int .i64 0, .int .i64 0, .int .i64 0, .slice none 0 0, .slice none 0 0, .slice none 0 0, .int .i64 0, .int .i64 0, .bool false] 34)).alloc (.cells #[.int .i64 x.sH.gS, .int .i64 x.sH.column, .int .i64 x.sH.data, .int .i64 x.sH.sR, .int .i64 x.sH.rows, .int .i64 x.sH.cap, .int .i64 x.sH.bT, .int .i64 x.sH.qU, .int .i64 x.sH.sG, .slice none 0 0, .slice a11 l11 c11, .slice a12 l12 c12, .int .i64 x.wT, .int .i64 x.stop, .bool x.down] 34)).heap[w.heap.size]? = some (.cells #[.int .i64 x.sH.gS, .int .i64 x.sH.column, .int .i64 x.sH.data, .int .i64 x.sH.sR, .int .i64 x.sH.rows, .int .i64 x.sH.cap, .int .i64 x.sH.bT, .int .i64 x.sH.qU, .int .i64 x.sH.sG, .slice a10 l10 c10, .slice a11 l11 c11, .slice a12 l12 c12, .int .i64 x.wT, .int .i64 x.stop, .bool x.down] 34 (0, 0)) from q0b (q0b (q0j w _) _) _)
 have B2 := hid (show (((w.alloc (.cells #[.int .i64 x.sH.gS, .int .i64 x.sH.column, .int .i64 x.sH.data, .int .i64 x.sH.sR, .int .i64 x.sH.rows, .int .i64 x.sH.cap, .int .i64 x.sH.bT, .int .i64 x.sH.qU, .int .i64 x.sH.sG, .slice a10 l10 c10, .slice a11 l11 c11, .slice a12 l12 c12, .int .i64 x.wT, .int .i64 x.stop, .bool x.down] 34)).alloc (.cells #[.int .i64 0, .int .i64 0, .int .i64 0, .int .i64 0, .int .i64 0, .int .i64 0, .int .i64 0, .int .i64 0, .int .i64 0, .slice none 0 0, .slice none 0 0, .slice none 0 0, .int .i64 0, .int .i64 0, .bool false] 34)).alloc (.cells #[.int .i64 x.sH.gS, .int .i64 x.sH.column, .int .i64 x.sH.data, .int .i64 x.sH.sR, .int .i64 x.sH.rows, .int .i64 x.sH.cap, .int .i64 x.sH.bT, .int .i64 x.sH.qU, .int .i64 x.sH.sG, .slice none 0 0, .slice a11 l11 c11, .slice a12 l12 c12, .int .i64 x.wT, .int .i64 x.stop, .bool x.down] 34)).heap[w.heap.size + 1]? = some (.cells #[.int .i64 0, .int .i64 0, .int .i64 0, .int .i64 0, .int .i64 0, .int .i64 0, .int .i64 0, .int .i64 0, .int .i64 0, .slice none 0 0, .slice none 0 0, .slice none 0 0, .int .i64 0, .int .i64 0, .bool false] 34 (0, 0)) from q0b (q0e (by simp) _) _)
 have B3 := hid (show (((w.alloc (.cells #[.int .i64 x.sH.gS, .int .i64 x.sH.column, .int .i64 x.sH.data, .int .i64 x.sH.sR, .int .i64 x.sH.rows, .int .i64 x.sH.cap, .int .i64 x.sH.bT, .int .i64 x.sH.qU, .int .i64 x.sH.sG, .slice a10 l10 c10, .slice a11 l11 c11, .slice a12 l12 c12, .int .i64 x.wT, .int .i64 x.stop, .bool x.down] 34)).alloc (.cells #[.int .i64 0, .int .i64 0, .int .i64 0, .int .i64 0, .int .i64 0, .int .i64 0, .int .i64 0, .int .i64 0, .int .i64 0, .slice none 0 0, .slice none 0 0, .slice none 0 0, .int .i64 0, .int .i64 0, .bool false] 34)).alloc (.cells #[.int .i64 x.sH.gS, .int .i64 x.sH.column, .int .i64 x.sH.data, .int .i64 x.sH.sR, .int .i64 x.sH.rows, .int .i64 x.sH.cap, .int .i64 x.sH.bT, .int .i64 x.sH.qU, .int .i64 x.sH.sG, .slice none 0 0, .slice a11 l11 c11, .slice a12 l12 c12, .int .i64 x.wT, .int .i64 x.stop, .bool x.down] 34)).heap[w.heap.size + 2]? = some (.cells #[.int .i64 x.sH.gS, .int .i64 x.sH.column, .int .i64 x.sH.data, .int .i64 x.sH.sR, .int .i64 x.sH.rows, .int .i64 x.sH.cap, .int .i64 x.sH.bT, .int .i64 x.sH.qU, .int .i64 x.sH.sG, .slice none 0 0, .slice a11 l11 c11, .slice a12 l12 c12, .int .i64 x.wT, .int .i64 x.stop, .bool x.down] 34 (0, 0)) from q0e (by simp) _)
 have S0 := hid (show w.heap.size + 3 ≤ (((w.alloc (.cells #[.int .i64 x.sH.gS, .int .i64 x.sH.column, .int .i64 x.sH.data, .int .i64 x.sH.sR, .int .i64 x.sH.rows, .int .i64 x.sH.cap, .int .i64 x.sH.bT, .int .i64 x.sH.qU, .int .i64 x.sH.sG, .slice a10 l10 c10, .slice a11 l11 c11, .slice a12 l12 c12, .int .i64 x.wT, .int .i64 x.stop, .bool x.down] 34)).alloc (.cells #[.int .i64 0, .int .i64 0, .int .i64 0, .int .i64 0, .int .i64 0, .int .i64 0, .int .i64 0, .int .i64 0, .int .i64 0, .slice none 0 0, .slice none 0 0, .slice none 0 0, .int .i64 0, .int .i64 0, .bool false] 34)).alloc (.cells #[.int .i64 x.sH.gS, .int .i64 x.sH.column, .int .i64 x.sH.data, .int .i64 x.sH.sR, .int .i64 x.sH.rows, .int .i64 x.sH.cap, .int .i64 x.sH.bT, .int .i64 x.sH.qU, .int .i64 x.sH.sG, .slice none 0 0, .slice a11 l11 c11, .slice a12 l12 c12, .int .i64 x.wT, .int .i64 x.stop, .bool x.down] 34)).heap.size from ltOf B3.out)
 go_enter Tryz.func71, Tryz.ntmps71
 go_wp2_with fail
 go_loopw [4] (fun vi wr => ∃ (k : Nat) (v : Value) (Wr : World), Wr = wr ∧ k ≤ l10 ∧ vi = .int .i64 k ∧ q1v drvL.slice 83 (w.heap.size + 3) wr v (x.gS.take k) ∧ wr.heap[w.heap.size]? = some (.cells #[.int .i64 x.sH.gS, .int .i64 x.sH.column, .int .i64 x.sH.data, .int .i64 x.sH.sR, .int .i64 x.sH.rows, .int .i64 x.sH.cap, .int .i64 x.sH.bT, .int .i64 x.sH.qU, .int .i64 x.sH.sG, .slice a10 l10 c10, .slice a11 l11 c11, .slice a12 l12 c12, .int .i64 x.wT, .int .i64 x.stop, .bool x.down] 34 (0, 0)) ∧ wr.heap[w.heap.size + 1]? = some (.cells #[.int .i64 0, .int .i64 0, .int .i64 0, .int .i64 0, .int .i64 0, .int .i64 0, .int .i64 0, .int .i64 0, .int .i64 0, .slice none 0 0, .slice none 0 0, .slice none 0 0, .int .i64 0, .int .i64 0, .bool false] 34 (0, 0)) ∧ wr.heap[w.heap.size + 2]? = some (.cells #[.int .i64 x.sH.gS, .int .i64 x.sH.column, .int .i64 x.sH.data, .int .i64 x.sH.sR, .int .i64 x.sH.rows, .int .i64 x.sH.cap, .int .i64 x.sH.bT, .int .i64 x.sH.qU, .int .i64 x.sH.sG, v, .slice a11 l11 c11, .slice a12 l12 c12, .int .i64 x.wT, .int .i64 x.stop, .bool x.down] 34 (0, 0)) ∧ Chg [] w wr) (fun vi _ => l10 - (intOf vi).toNat)
 case atStart => exact ⟨0, .slice none 0 0, _, rfl, by omega, rfl, by rw [List.take_zero]; exact q1v.nil S0.out, B1.out, B2.out, B3.out, G0.out⟩
 case round =>
  clear G0 B1 B2 B3 S0
  obtain ⟨k, v, wr, rfl, hk, rfl, hg, hb1, hb2, hb3, hc⟩ := hrel
  have D1 := hid hb1; have D2 := hid hb2; have D3 := hid hb3
  have c1 := cellsOf hb1; have n1 := ltOf hb1; have n3 := ltOf hb3
  by_cases hlt : k < l10
  ·obtain ⟨g, b, off, ag, lg, cg, fg, HX, rfl, hcx, HXS⟩ := q4u (drvL.slice.sl_ext H10.out hc) hlt
   have HG := hid hg; have HC := hid hc
   have HXI := hid HX.out.1
   have HXZ := hid (Z10.out g (List.mem_of_getElem? HX.out.1))
   have hbl : b < wr.heap.size := Nat.lt_of_lt_of_le (Lay.sl_lt _ H10.out b HX.out.2.1) hc.size
   have HCX := hid hcx
   have hlg : lg ≤ 1048576 := by have := q2e q0w g; have := HXZ.out; rw [HXS.out.1]; omega
   have LG := hid HXS.out.1
   clear hg hc HX hb1 hb2 hb3
   go_wp2_with fail
   go_loopw [5, 6] (fun vo vi wi => ∃ (j : Nat) (Wi : World), Wi = wi ∧ j ≤ lg ∧ vi = .int .i64 j ∧ Grow drvL 82 wr wi vo (g.take j)) (fun _ vi _ => lg - (intOf vi).toNat)
   case atStart => exact ⟨0, _, rfl, by omega, rfl, by rw [List.take_zero]; exact Grow.made (Chg.refl _ _)⟩
   case round =>
    clear hcx c1
    obtain ⟨j, wi, rfl, hj, rfl, hgi⟩ := hrel
    have E1 := hid (hgi.chg.keep0 D1.out); have E3 := hid (hgi.chg.keep0 D3.out)
    have c1 := cellsOf E1.out; have n1' := ltOf E1.out
    have hcx := q0f hgi.chg HCX.out hbl
    have hbl' : b < wi.heap.size := Nat.lt_of_lt_of_le hbl hgi.chg.size
    by_cases hlj : j < lg
    ·obtain ⟨y, b2, off2, a2, l2, c2, f2, HY, rfl, hy0, hy1, HYS⟩ := q3j (drvL.sl_ext HXS.out hgi.chg) hlj
     have HGI := hid hgi
     have HYI := hid HY.out.1
     have HYZ := hid (Int.le_trans (q1y q0w (List.mem_of_getElem? HY.out.1)) HXZ.out)
     have hbl2 : b2 < wi.heap.size := Lay.sl_lt _ (drvL.sl_ext HXS.out hgi.chg) b2 HY.out.2.1
     obtain ⟨_, _, _, _, exd, hyb, -⟩ := q2i.1 HYS.out
     obtain ⟨q1, q2, q3⟩ := Value.slice.inj (List.cons.inj (List.cons.inj exd).2).1
     subst q1 q2 q3
     have HYB := hid hyb
     have LY := hid hyb.1
     have hl2 : l2 ≤ 1048576 := by have := q2e q2g y.blocks; have h2 : totL q2s y.blocks ≤ 1048576 := HYZ.out; rw [hyb.1]; omega
     have HY0 := hid hy0; have HY1 := hid hy1; have HCX2 := hid hcx
     clear hgi HY exd hyb HYS
     go_wp2_with fail
     go_loopw [8] (fun vq wt => ∃ (i : Nat) (v3 : Value) (Wt : World), Wt = wt ∧ i ≤ l2 ∧ vq = .int .i64 i ∧ q1v blkL 76 (wi.heap.size + 1) wt v3 (y.blocks.take i) ∧ wt.heap[wi.heap.size]? = some (.cells #[.bool y.wiped, v3] 82 (0, 0)) ∧ Chg [] wi wt) (fun vq _ => l2 - (intOf vq).toNat)
     case atStart => exact ⟨0, .slice none 0 0, _, rfl, by omega, rfl, by rw [List.take_zero]; exact q1v.nil (by simp), q0j wi _, (Chg.refl [] wi).alloc _⟩
     case round =>
      clear hcx c1 hy0 hy1
      obtain ⟨i, v3, wt, rfl, hi, rfl, hgt, hbt, hct⟩ := hrel
      have F1 := hid (hct.keep0 E1.out); have F3 := hid (hct.keep0 E3.out)
      have c1 := cellsOf F1.out; have n1'' := ltOf F1.out
      have hcx := q0f hct HCX2.out hbl'
      have hy1 := q0f hct HY1.out hbl2
      have hbw : b < wt.heap.size := Nat.lt_of_lt_of_le hbl' hct.size
      have hbw2 : b2 < wt.heap.size := Nat.lt_of_lt_of_le hbl2 hct.size
      have ct := cellsOf hbt; have nt := ltOf hbt
      by_cases hlb : i < l2
      ·obtain ⟨z, b3, off3, a3, l3, c3, f3, HZ3, rfl, hz0, hz1, HZS⟩ := q3s (blkL.sl_ext HYB.out hct) hlb
       have HBT := hid hbt
       have HZI := hid HZ3.out.1
       have hbw3 : b3 < wt.heap.size := Lay.sl_lt _ (blkL.sl_ext HYB.out hct) b3 HZ3.out.2.1
       have HZZ := hid (Int.le_trans (q1y q2g (List.mem_of_getElem? HZ3.out.1)) (show totL q2s y.blocks ≤ 1048576 from HYZ.out))
       have HGT := hid hgt; have HCT := hid hct
       have K1 := hid hcx; have K2 := hid hy1; have K3 := hid hz0; have K4 := hid hz1
       have HLL : Hid ((y.blocks.take i).length + [z].length ≤ maxLen ∧ ((y.blocks.take i).length + [z].length) * 32 ≤ 140737488355328) := by
        refine ⟨?_, ?_⟩ <;> simp only [List.length_take, List.length_cons, List.length_nil, maxLen] <;> omega
       have HNX := hid (q1j HZI.out)
       clear hgt hct hbt HZ3
       go_wp2_with fail
       obtain ⟨CC, HCI, HCO⟩ := q0l (fun w' => Know w.heap.size #[.int .i64 x.sH.gS, .int .i64 x.sH.column, .int .i64 x.sH.data, .int .i64 x.sH.sR, .int .i64 x.sH.rows, .int .i64 x.sH.cap, .int .i64 x.sH.bT, .int .i64 x.sH.qU, .int .i64 x.sH.sG, .slice (some ⟨b, off, none⟩) l10 c10, .slice a11 l11 c11, .slice a12 l12 c12, .int .i64 x.wT, .int .i64 x.stop, .bool x.down] w' ∧ Know wi.heap.size #[.bool y.wiped, v3] w' ∧ w'.cell? ⟨b, off + k, none⟩ = some (.slice (some ⟨b2, off2, none⟩) lg cg) ∧ w'.cell? ⟨b2, off2 + j * 2 + 1, none⟩ = some (.slice (some ⟨b3, off3, none⟩) l2 c2) ∧ w'.cell? ⟨b3, off3 + i * 2, none⟩ = some (.int .i64 z.sM) ∧ w'.cell? ⟨b3, off3 + i * 2 + 1, none⟩ = some (.slice a3 l3 c3))
       refine q1m [16] CC (by kernel_rfl) (HCI.out _ ⟨(Know.of (q0a F1.out)), (Know.of (q0a HBT.out)), K1.out, K2.out, K3.out, K4.out⟩) (fun hcl hS => ?_)
       refine ggT 0 hcl hS ?_; clear hcl hS; intro hcl hS
       refine ggL 1 hcl hS HCO ?_; clear hcl hS; intro hcl hS
       refine ggT 2 hcl hS ?_; clear hcl hS; intro hcl hS
       refine ggL 3 hcl hS HCO ?_; clear hcl hS; intro hcl hS
       refine ggT 4 hcl hS ?_; clear hcl hS; intro hcl hS
       refine ggT 5 hcl hS ?_; clear hcl hS; intro hcl hS
       refine ggL 6 hcl hS HCO ?_; clear hcl hS; intro hcl hS
       refine ggT 7 hcl hS ?_; clear hcl hS; intro hcl hS
       refine ggT 8 hcl hS ?_; clear hcl hS; intro hcl hS
       refine ggT 9 hcl hS ?_; clear hcl hS; intro hcl hS
       refine ggL 10 hcl hS HCO ?_; clear hcl hS; intro hcl hS
       refine ggT 11 hcl hS ?_; clear hcl hS; intro hcl hS
       refine ggT 12 hcl hS ?_; clear hcl hS; intro hcl hS
       refine ggL 13 hcl hS HCO ?_; clear hcl hS; intro hcl hS
       refine ggC 14 hcl rfl (by kernel_rfl) (fun K hK => ?_)
       go_simp
       go_at_call 140
       refine (q4i z #[.int .i64 z.sM, .slice a3 l3 c3] f3 _ (blkL.ext HZS.out ((Chg.refl [] wt).drew)) HZZ.out).mono ?_; rintro e w3 ⟨cs, g3, rfl, hs, hf, hc⟩
       obtain ⟨p3, m3, d3, _, ex, -⟩ := q1s.1 hs; obtain rfl := Array.toList_inj.1 (ex.trans (List.toList_toArray).symm)
       have HN1 := hid (And.intro hs (And.intro (hf.mono (C := wt.heap.size) (Nat.le_refl _)) (((Chg.refl [] wt).drew).trans0 hc))); obtain ⟨-, -, F4⟩ := bk hc (q0a F1.out) (by simp); obtain ⟨-, -, F5⟩ := bk hc (q0a HBT.out) (by simp); have k1 := hid (q0f HN1.out.2.2 K1.out hbw); have k2 := hid (q0f HN1.out.2.2 K2.out hbw2); have k3 := hid (q0f HN1.out.2.2 K3.out hbw3); have k4 := hid (q0f HN1.out.2.2 K4.out hbw3); have ql := HN1.out.2.2.size; clear hs hf hc ex
       go_wp2_with fail
       refine hK.out _ _ (fun _ => HCI.out _ ⟨(Know.of F4.out), (Know.of F5.out), k1.out, k2.out, k3.out, k4.out⟩) ?_
       clear hK K hcl hS
       intro hcl hS
       try simp only [Act.put, pA, pB, pC]
       refine ggC 15 hcl rfl (by kernel_rfl) (fun K hK => ?_)
       go_simp
       refine hK.out _ _ (fun _ => HCI.out _ ⟨(Know.of (q0b F4.out _)), (Know.of (q0b F5.out _)), (q0f ((Chg.refl [] w3).alloc _) k1.out (by omega)), (q0f ((Chg.refl [] w3).alloc _) k2.out (by omega)), (q0f ((Chg.refl [] w3).alloc _) k3.out (by omega)), (q0f ((Chg.refl [] w3).alloc _) k4.out (by omega))⟩) ?_
       clear hK K hcl hS
       intro hcl hS
       try simp only [Act.put, pA, pB, pC]
       refine ggC 16 hcl rfl (by kernel_rfl) (fun K hK => ?_)
       refine q3y.step rfl _ _ 80 rfl Tryz.underlying80 KB rfl (HGT.out.b.ext (HN1.out.2.2.alloc (.cells #[.int .i64 z.sM, .slice p3 m3 d3] 76))) ⟨w3.heap.size, 0, none⟩ 1 1 [.int .i64 z.sM, .slice p3 m3 d3] (ys := [z]) (f := g3) rfl rfl (q1i w3 #[.int .i64 z.sM, .slice p3 m3 d3] 76) (blkL.all_single (blkL.ext HN1.out.1 ((Chg.refl [] w3).alloc _))) (HN1.out.2.1.chg ((Chg.refl [] w3).alloc _)) HLL.out.1 HLL.out.2 ?_
       intro v' w4 hg' hup
       rw [← HNX.out] at hg'
       obtain ⟨pv, lv, cv, rfl⟩ : ∃ a l c, v' = Value.slice a l c := by obtain ⟨a, c, f, h, -⟩ := hg'.sl; exact ⟨a, _, c, h⟩
       have HG2 := hid hg'; have HU := hid hup
       have F6 := hid ((hup.low wi.heap.size (by omega)).trans (q0b F5.out _)); have k6 := cellsOf F6.out; have n6 := ltOf F6.out; have z6 := q0c F6.out; clear hg' hup
       refine hK.out _ _ (Till.done (m := 16) (by simp) (by rfl)) ?_
       clear hK K hcl hS
       intro hcl hS
       try simp only [Act.put, pA, pB, pC]
       refine ggT 17 hcl hS ?_; clear hcl hS; intro hcl hS
       refine ggC 18 hcl rfl (by kernel_rfl) (fun K hK => ?_)
       go_simp
       refine hK.out _ _ (Till.done (m := 16) (by simp) (by rfl)) ?_
       clear hK K hcl hS
       intro hcl hS
       try simp only [Act.put, pA, pB, pC]
       refine q3h (by kernel_rfl) ?_ _
       have r1 := HG2.out.chg ((Chg.refl [wi.heap.size] w4).setCell ⟨wi.heap.size, 1, none⟩ (.slice pv lv cv) (.inl (by simp))) (by simp)
       have r3 : (w4.setCell ⟨wi.heap.size, 1, none⟩ (.slice pv lv cv)).heap[wi.heap.size]? = some (.cells #[.bool y.wiped, .slice pv lv cv] 82 (0, 0)) := q0i (cur := #[.bool y.wiped, v3]) F6.out rfl
       have r4 := (HU.out.chg ((HCT.out.trans0 HN1.out.2.2).alloc (.cells #[.int .i64 z.sM, .slice p3 m3 d3] 76)) (by omega)).setCell ⟨wi.heap.size, 1, none⟩ (.slice pv lv cv) (.inr (by simp))
       have HR := hid (And.intro r1 (And.intro r3 r4))
       clear r1 r3 r4
       go_wp2_with fail
       go_roundw
       case rel => exact ⟨i + 1, .slice pv lv cv, _, rfl, by omega, by go_num, HR.out.1, HR.out.2.1, HR.out.2.2⟩
       case measure => simp [intOf]; omega
      ·obtain rfl : i = l2 := by omega
       rw [List.take_of_length_le (by have := LY.out; omega)] at hgt
       obtain ⟨p3, d3, g3, rfl, hs, hf⟩ := hgt.sl
       rw [← LY.out] at hs hbt ct
       have HLL : Hid ((g.take j).length + [y].length ≤ maxLen ∧ ((g.take j).length + [y].length) * 32 ≤ 140737488355328) := by
        refine ⟨?_, ?_⟩ <;> simp only [List.length_take, List.length_cons, List.length_nil, maxLen] <;> omega
       have HNX := hid (q1j HYI.out)
       have HN1 := hid (And.intro hs (And.intro (hf.mono (C := wi.heap.size) (by omega)) hct))
       clear hs hf hct hbt hgt
       go_wp2_with (at_builtin; refine drvL.wpList_grow rfl _ _ 83 rfl Tryz.underlying83 KD rfl HGI.out (HN1.out.2.2.alloc (.cells #[.bool y.wiped, .slice p3 i d3] 82)) ⟨wt.heap.size, 0, none⟩ 1 1 [.bool y.wiped, .slice p3 i d3] (ys := [y]) (f := g3) rfl rfl (q1i wt #[.bool y.wiped, .slice p3 i d3] 82) (drvL.all_single (q2i.2 ⟨p3, i, d3, g3, rfl, blkL.sl_ext HN1.out.1 ((Chg.refl [] wt).alloc _), by simp⟩)) (HN1.out.2.1.chg ((Chg.refl [] wt).alloc (.cells #[.bool y.wiped, .slice p3 i d3] 82))) HLL.out.1 HLL.out.2 ?_; intro v' w' hg'; rw [← HNX.out] at hg'; have HG2 := hid hg'; clear hg')
       go_roundw
       case rel => exact ⟨j + 1, _, rfl, by omega, by go_num, HG2.out⟩
       case measure => simp [intOf]; omega
    ·obtain rfl : j = lg := by omega
     rw [List.take_of_length_le (by have := LG.out; omega)] at hgi
     obtain ⟨p9, c9, f9, h1, hs9, hf9, hc9⟩ := hgi.sl
     subst h1
     have HN9 := hid (And.intro hs9 (And.intro hf9 hc9))
     rw [← LG.out] at HN9 ⊢
     have E2 := hid (hc9.keep0 D2.out)
     have e3 := cellsOf E3.out; have n3' := ltOf E3.out
     have HLL : Hid ((x.gS.take k).length + [g].length ≤ maxLen ∧ ((x.gS.take k).length + [g].length) * 24 ≤ 140737488355328) := by
      refine ⟨?_, ?_⟩ <;> simp only [List.length_take, List.length_cons, List.length_nil, maxLen] <;> omega
     have HNX := hid (q1j HXI.out)
     clear hs9 hf9 hc9 hgi
     go_wp2_with (at_builtin; refine q3y.wpList rfl _ _ 31 rfl Tryz.underlying31 KS rfl (HG.out.b.ext (HN9.out.2.2.alloc (.cells #[.slice p9 j c9] 83))) ⟨wi.heap.size, 0, none⟩ 1 1 [.slice p9 j c9] (ys := [g]) (f := f9) rfl rfl (q1i wi #[.slice p9 j c9] 83) (drvL.slice.all_single ⟨p9, j, c9, rfl, drvL.sl_ext HN9.out.1 ((Chg.refl [] wi).alloc _)⟩) (HN9.out.2.1.chg ((Chg.refl [] wi).alloc (.cells #[.slice p9 j c9] 83))) HLL.out.1 HLL.out.2 ?_; intro v' w3 hg' hup; rw [← HNX.out] at hg'; obtain ⟨pv, lv, cv, rfl⟩ : ∃ a l c, v' = Value.slice a l c := (by obtain ⟨a, c, f, h, -⟩ := hg'.sl; exact ⟨a, _, c, h⟩); have HG2 := hid hg'; have HU := hid hup; have E4 := hid ((hup.low (w.heap.size + 2) (by omega)).trans (q0b E3.out _)); have e4 := cellsOf E4.out; have n4 := ltOf E4.out; have z4 := q0c E4.out; have E5 := hid ((hup.low w.heap.size (by omega)).trans (q0b E1.out _)); have E6 := hid ((hup.low (w.heap.size + 1) (by omega)).trans (q0b E2.out _)); clear hg' hup)
     have r1 := HG2.out.chg ((Chg.refl [w.heap.size + 2] w3).setCell ⟨w.heap.size + 2, 9, none⟩ (.slice pv lv cv) (.inl (by simp))) (by simp)
     have r2 := q0u E5.out ⟨w.heap.size + 2, 9, none⟩ (.slice pv lv cv) (by simp)
     have r3 := q0u E6.out ⟨w.heap.size + 2, 9, none⟩ (.slice pv lv cv) (by simp)
     have r4 : (w3.setCell ⟨w.heap.size + 2, 9, none⟩ (.slice pv lv cv)).heap[w.heap.size + 2]? = some (.cells #[.int .i64 x.sH.gS, .int .i64 x.sH.column, .int .i64 x.sH.data, .int .i64 x.sH.sR, .int .i64 x.sH.rows, .int .i64 x.sH.cap, .int .i64 x.sH.bT, .int .i64 x.sH.qU, .int .i64 x.sH.sG, .slice pv lv cv, .slice a11 l11 c11, .slice a12 l12 c12, .int .i64 x.wT, .int .i64 x.stop, .bool x.down] 34 (0, 0)) := q0i (cur := #[.int .i64 x.sH.gS, .int .i64 x.sH.column, .int .i64 x.sH.data, .int .i64 x.sH.sR, .int .i64 x.sH.rows, .int .i64 x.sH.cap, .int .i64 x.sH.bT, .int .i64 x.sH.qU, .int .i64 x.sH.sG, v, .slice a11 l11 c11, .slice a12 l12 c12, .int .i64 x.wT, .int .i64 x.stop, .bool x.down]) E4.out rfl
     have r5 := (HU.out.chg (HC.out.trans0 (HN9.out.2.2.alloc (.cells #[.slice p9 j c9] 83))) (by omega)).setCell ⟨w.heap.size + 2, 9, none⟩ (.slice pv lv cv) (.inr (by simp))
     have HR := hid (And.intro r1 (And.intro r2 (And.intro r3 (And.intro r4 r5))))
     clear r1 r2 r3 r4 r5
     go_roundw
     case rel => exact ⟨k + 1, .slice pv lv cv, _, rfl, by omega, by go_num, HR.out.1, HR.out.2.1, HR.out.2.2.1, HR.out.2.2.2.1, HR.out.2.2.2.2⟩
     case measure => simp [intOf]; omega
  ·obtain rfl : k = l10 := by omega
   rw [List.take_of_length_le (by have := L10.out; omega)] at hg
   obtain ⟨p10, d10, g10, rfl, hs, hf⟩ := hg.sl
   rw [← L10.out] at hs D3
   have HGR := hid (And.intro hs (And.intro hf hc))
   have s0 : w.heap.size + 3 ≤ wr.heap.size := ltOf D3.out
   have HLN : Hid (([] : List Int).length + x.on.length ≤ maxLen ∧ (([] : List Int).length + x.on.length) * 8 ≤ 140737488355328) := by
    have := L11.out
    refine ⟨?_, ?_⟩ <;> simp only [List.length_nil, maxLen] <;> omega
   clear hg hs hf hb1 hb2 hb3 hc c1 n1 n3
   have c1 := cellsOf D1.out; have n1 := ltOf D1.out
   go_wp2_with (at_builtin; refine intL.wpList_growS q4q rfl _ _ 25 rfl Tryz.underlying25 KI rfl (Grow.made (Chg.refl [] wr)) (Chg.refl [] _) rfl (intL.sl_ext H11.out (HGR.out.2.2.alloc _)) HLN.out.1 HLN.out.2 ?_; intro v' w1 hg'; obtain ⟨p11, d11, g11, ho11, he11, hs, hf, hc, hos⟩ := hg'.os; obtain rfl := Ending.returned.inj he11; rw [List.nil_append, ← L11.out] at hs hos ⊢; have HOS := hid hos; clear hos he11; clear c1 n1; obtain ⟨c1, n1, A1⟩ := bk0 hc D1.out; obtain ⟨c2, n2, A2⟩ := bk0 hc D2.out; obtain ⟨c3, n3, A3⟩ := bk0 hc D3.out; have fz := q0c A3.out; have HON := hid (And.intro hs (And.intro hf hc)); clear hs hf hc hg')
   go_loopw [9] (fun vi wt => ∃ (i : Nat) (v : Value) (Wt : World), Wt = wt ∧ i ≤ l12 ∧ vi = .int .i64 i ∧ q1v tapL 69 w1.heap.size wt v (x.tapes.take i) ∧ wt.heap[w.heap.size + 2]? = some (.cells #[.int .i64 x.sH.gS, .int .i64 x.sH.column, .int .i64 x.sH.data, .int .i64 x.sH.sR, .int .i64 x.sH.rows, .int .i64 x.sH.cap, .int .i64 x.sH.bT, .int .i64 x.sH.qU, .int .i64 x.sH.sG, .slice p10 k d10, .slice p11 l11 d11, v, .int .i64 x.wT, .int .i64 x.stop, .bool x.down] 34 (0, 0)) ∧ Chg [w.heap.size + 2] w1 wt) (fun vi _ => l12 - (intOf vi).toNat)
   case atStart => exact ⟨0, .slice none 0 0, _, rfl, by omega, rfl, by rw [List.take_zero]; exact q1v.nil (by simp), q0i (cur := #[.int .i64 x.sH.gS, .int .i64 x.sH.column, .int .i64 x.sH.data, .int .i64 x.sH.sR, .int .i64 x.sH.rows, .int .i64 x.sH.cap, .int .i64 x.sH.bT, .int .i64 x.sH.qU, .int .i64 x.sH.sG, .slice p10 k d10, .slice p11 l11 d11, .slice a12 l12 c12, .int .i64 x.wT, .int .i64 x.stop, .bool x.down]) (q0i (cur := #[.int .i64 x.sH.gS, .int .i64 x.sH.column, .int .i64 x.sH.data, .int .i64 x.sH.sR, .int .i64 x.sH.rows, .int .i64 x.sH.cap, .int .i64 x.sH.bT, .int .i64 x.sH.qU, .int .i64 x.sH.sG, .slice p10 k d10, .slice a11 l11 c11, .slice a12 l12 c12, .int .i64 x.wT, .int .i64 x.stop, .bool x.down]) A3.out rfl) rfl, ((Chg.refl _ _).setCell _ _ (.inl (by simp))).setCell _ _ (.inl (by simp))⟩
   case round =>
    clear c1 n1 c2 n2 c3 n3 fz
    obtain ⟨i, v, wt, rfl, hi, rfl, hg, hb3, hc⟩ := hrel
    have hcw : Chg [] w w1 := HGR.out.2.2.trans0 HON.out.2.2
    have hcw2 : Chg [] w wt := hcw.trans hc (by simp)
    have E1 := hid (hc.keepb A1.out (by simp)); have E2 := hid (hc.keepb A2.out (by simp)); have E3 := hid hb3
    have m3 : w.heap.size + 2 < w1.heap.size := ltOf A3.out
    have c1 := cellsOf E1.out; have n1 := ltOf E1.out
    by_cases hlt : i < l12
    ·obtain ⟨y, b, off, a2, l2, c2, f2, HY, rfl, hy0, hy1, HYS⟩ := q2o (tapL.sl_ext H12.out hcw2) hlt
     have HG := hid hg; have HC := hid hc
     have HYI := hid HY.out.1
     have hbw : b < wt.heap.size := Lay.sl_lt _ (tapL.sl_ext H12.out hcw2) b HY.out.2.1
     obtain ⟨_, _, _, _, exb, hby, -⟩ := q1r.1 HYS.out
     obtain ⟨q1, q2, q3⟩ := Value.slice.inj (List.cons.inj (List.cons.inj exb).2).1
     subst q1 q2 q3
     have HYZ := hid (Z12.out y (List.mem_of_getElem? HYI.out) : totL q3t y.recs ≤ 1048576)
     have HBY := hid hby
     have LB := hid hby.1.symm
     have K1 := hid hy0; have K2 := hid hy1
     have HLL : Hid ((x.tapes.take i).length + [y].length ≤ maxLen ∧ ((x.tapes.take i).length + [y].length) * 32 ≤ 140737488355328) := by
      refine ⟨?_, ?_⟩ <;> simp only [List.length_take, List.length_cons, List.length_nil, maxLen] <;> omega
     have HNX := hid (q1j HYI.out)
     have HCW := hid hcw
     clear hg hb3 hc HY exb hby HYS hcw2 hcw
     go_wp2_with fail
     obtain ⟨CC, HCI, HCO⟩ := q0l (fun w' => Know w.heap.size #[.int .i64 x.sH.gS, .int .i64 x.sH.column, .int .i64 x.sH.data, .int .i64 x.sH.sR, .int .i64 x.sH.rows, .int .i64 x.sH.cap, .int .i64 x.sH.bT, .int .i64 x.sH.qU, .int .i64 x.sH.sG, .slice a10 k c10, .slice a11 l11 c11, .slice (some ⟨b, off, none⟩) l12 c12, .int .i64 x.wT, .int .i64 x.stop, .bool x.down] w' ∧ Know (w.heap.size + 2) #[.int .i64 x.sH.gS, .int .i64 x.sH.column, .int .i64 x.sH.data, .int .i64 x.sH.sR, .int .i64 x.sH.rows, .int .i64 x.sH.cap, .int .i64 x.sH.bT, .int .i64 x.sH.qU, .int .i64 x.sH.sG, .slice p10 k d10, .slice p11 l11 d11, v, .int .i64 x.wT, .int .i64 x.stop, .bool x.down] w' ∧ w'.cell? ⟨b, off + i * 2, none⟩ = some (.bool y.wiped) ∧ w'.cell? ⟨b, off + i * 2 + 1, none⟩ = some (.slice a2 l2 c2))
     refine q1m [17] CC (by kernel_rfl) (HCI.out _ ⟨(Know.of (q0a E1.out)), (Know.of (q0a E3.out)), K1.out, K2.out⟩) (fun hcl hS => ?_)
     refine ggT 0 hcl hS ?_; clear hcl hS; intro hcl hS
     refine ggL 1 hcl hS HCO ?_; clear hcl hS; intro hcl hS
     refine ggT 2 hcl hS ?_; clear hcl hS; intro hcl hS
     refine ggL 3 hcl hS HCO ?_; clear hcl hS; intro hcl hS
     refine ggT 4 hcl hS ?_; clear hcl hS; intro hcl hS
     refine ggT 5 hcl hS ?_; clear hcl hS; intro hcl hS
     refine ggT 6 hcl hS ?_; clear hcl hS; intro hcl hS
     refine ggL 7 hcl hS HCO ?_; clear hcl hS; intro hcl hS
     refine ggT 8 hcl hS ?_; clear hcl hS; intro hcl hS
     refine ggL 9 hcl hS HCO ?_; clear hcl hS; intro hcl hS
     refine ggT 10 hcl hS ?_; clear hcl hS; intro hcl hS
     refine ggT 11 hcl hS ?_; clear hcl hS; intro hcl hS
     refine ggT 12 hcl hS ?_; clear hcl hS; intro hcl hS
     refine ggL 13 hcl hS HCO ?_; clear hcl hS; intro hcl hS
     refine ggC 14 hcl rfl (by kernel_rfl) (fun K hK => ?_)
     go_simp
     go_at_call 91
     refine (q6g a2 l2 c2 y.recs _ _ (recL.sl_ext HBY.out ((Chg.refl [] wt).drew)) HYZ.out).mono ?_; rintro e w4 ⟨p2, d2, g2, rfl, hs, hf, hc⟩
     rw [LB.out] at hs ⊢; have HN1 := hid (And.intro hs (And.intro (hf.mono (C := wt.heap.size) (Nat.le_refl _)) (((Chg.refl [] wt).drew).trans0 hc))); obtain ⟨-, -, F3⟩ := bk hc (q0a E1.out) (by simp); obtain ⟨-, -, F4⟩ := bk hc (q0a E3.out) (by simp); have k1 := hid (q0f HN1.out.2.2 K1.out hbw); have k2 := hid (q0f HN1.out.2.2 K2.out hbw); have ql := HN1.out.2.2.size; clear hs hf hc
     go_wp2_with fail
     refine hK.out _ _ (fun _ => HCI.out _ ⟨(Know.of F3.out), (Know.of F4.out), k1.out, k2.out⟩) ?_
     clear hK K hcl hS
     intro hcl hS
     try simp only [Act.put, pA, pB, pC]
     refine ggT 15 hcl hS ?_; clear hcl hS; intro hcl hS
     refine ggC 16 hcl rfl (by kernel_rfl) (fun K hK => ?_)
     go_simp
     refine hK.out _ _ (fun _ => HCI.out _ ⟨(Know.of (q0b F3.out _)), (Know.of (q0b F4.out _)), (q0f ((Chg.refl [] w4).alloc _) k1.out (by omega)), (q0f ((Chg.refl [] w4).alloc _) k2.out (by omega))⟩) ?_
     clear hK K hcl hS
     intro hcl hS
     try simp only [Act.put, pA, pB, pC]
     refine ggC 17 hcl rfl (by kernel_rfl) (fun K hK => ?_)
     refine q3y.step rfl _ _ 32 rfl Tryz.underlying32 KT rfl (HG.out.b.ext (HN1.out.2.2.alloc (.cells #[.bool y.wiped, .slice p2 l2 d2] 69))) ⟨w4.heap.size, 0, none⟩ 1 1 [.bool y.wiped, .slice p2 l2 d2] (ys := [y]) (f := g2) rfl rfl (q1i w4 #[.bool y.wiped, .slice p2 l2 d2] 69) (tapL.all_single (q1r.2 ⟨p2, l2, d2, g2, rfl, recL.sl_ext HN1.out.1 ((Chg.refl [] w4).alloc _), by simp⟩)) (HN1.out.2.1.chg ((Chg.refl [] w4).alloc _)) HLL.out.1 HLL.out.2 ?_
     intro v' w5 hg' hup
     rw [← HNX.out] at hg'
     obtain ⟨pv, lv, cv, rfl⟩ : ∃ a l c, v' = Value.slice a l c := by obtain ⟨a, c, f, h, -⟩ := hg'.sl; exact ⟨a, _, c, h⟩
     have HG2 := hid hg'; have HU := hid hup
     have F5 := hid ((hup.low (w.heap.size + 2) m3).trans (q0b F4.out _)); have k5 := cellsOf F5.out; have n5 := ltOf F5.out; have z5 := q0c F5.out; clear hg' hup
     refine hK.out _ _ (Till.done (m := 17) (by simp) (by rfl)) ?_
     clear hK K hcl hS
     intro hcl hS
     try simp only [Act.put, pA, pB, pC]
     refine ggT 18 hcl hS ?_; clear hcl hS; intro hcl hS
     refine ggC 19 hcl rfl (by kernel_rfl) (fun K hK => ?_)
     go_simp
     refine hK.out _ _ (Till.done (m := 17) (by simp) (by rfl)) ?_
     clear hK K hcl hS
     intro hcl hS
     try simp only [Act.put, pA, pB, pC]
     refine q3h (by kernel_rfl) ?_ _
     have r1 := HG2.out.chg ((Chg.refl [w.heap.size + 2] w5).setCell ⟨w.heap.size + 2, 11, none⟩ (.slice pv lv cv) (.inl (by simp))) (by simp; omega)
     have r3 : (w5.setCell ⟨w.heap.size + 2, 11, none⟩ (.slice pv lv cv)).heap[w.heap.size + 2]? = some (.cells #[.int .i64 x.sH.gS, .int .i64 x.sH.column, .int .i64 x.sH.data, .int .i64 x.sH.sR, .int .i64 x.sH.rows, .int .i64 x.sH.cap, .int .i64 x.sH.bT, .int .i64 x.sH.qU, .int .i64 x.sH.sG, .slice p10 k d10, .slice p11 l11 d11, .slice pv lv cv, .int .i64 x.wT, .int .i64 x.stop, .bool x.down] 34 (0, 0)) := q0i (cur := #[.int .i64 x.sH.gS, .int .i64 x.sH.column, .int .i64 x.sH.data, .int .i64 x.sH.sR, .int .i64 x.sH.rows, .int .i64 x.sH.cap, .int .i64 x.sH.bT, .int .i64 x.sH.qU, .int .i64 x.sH.sG, .slice p10 k d10, .slice p11 l11 d11, v, .int .i64 x.wT, .int .i64 x.stop, .bool x.down]) F5.out rfl
     have r4 := (HU.out.chg (HC.out.trans0 (HN1.out.2.2.alloc (.cells #[.bool y.wiped, .slice p2 l2 d2] 69))) (Nat.le_refl _)).setCell ⟨w.heap.size + 2, 11, none⟩ (.slice pv lv cv) (.inl (by simp))
     have HR := hid (And.intro r1 (And.intro r3 r4))
     clear r1 r3 r4
     go_wp2_with fail
     go_roundw
     case rel => exact ⟨i + 1, .slice pv lv cv, _, rfl, by omega, by go_num, HR.out.1, HR.out.2.1, HR.out.2.2⟩
     case measure => simp [intOf]; omega
    ·obtain rfl : i = l12 := by omega
     rw [List.take_of_length_le (by have := L12.out; omega)] at hg
     obtain ⟨p12, d12, g12, rfl, hs, hf⟩ := hg.sl
     rw [← L12.out] at hs E3
     have e3 := cellsOf E3.out; have m3' := ltOf E3.out; have e2 := cellsOf E2.out; have m2 := ltOf E2.out; have fz2 := q0c E2.out
     have hq := q5w (.int .i64 x.sH.gS) (.int .i64 x.sH.column) (.int .i64 x.sH.data) (.int .i64 x.sH.sR) (.int .i64 x.sH.rows) (.int .i64 x.sH.cap) (.int .i64 x.sH.bT) (.int .i64 x.sH.qU) (.int .i64 x.sH.sG) (.slice p10 k d10) (.slice p11 l11 d11) (.slice p12 i d12) (.int .i64 x.wT) (.int .i64 x.stop) (.bool x.down) E2.out
     have cS : Chg [w.heap.size + 1] wt (((((((((((((((wt.setCell ⟨w.heap.size + 1, 0, none⟩ (.int .i64 x.sH.gS)).setCell ⟨w.heap.size + 1, 1, none⟩ (.int .i64 x.sH.column)).setCell ⟨w.heap.size + 1, 2, none⟩ (.int .i64 x.sH.data)).setCell ⟨w.heap.size + 1, 3, none⟩ (.int .i64 x.sH.sR)).setCell ⟨w.heap.size + 1, 4, none⟩ (.int .i64 x.sH.rows)).setCell ⟨w.heap.size + 1, 5, none⟩ (.int .i64 x.sH.cap)).setCell ⟨w.heap.size + 1, 6, none⟩ (.int .i64 x.sH.bT)).setCell ⟨w.heap.size + 1, 7, none⟩ (.int .i64 x.sH.qU)).setCell ⟨w.heap.size + 1, 8, none⟩ (.int .i64 x.sH.sG)).setCell ⟨w.heap.size + 1, 9, none⟩ (.slice p10 k d10)).setCell ⟨w.heap.size + 1, 10, none⟩ (.slice p11 l11 d11)).setCell ⟨w.heap.size + 1, 11, none⟩ (.slice p12 i d12)).setCell ⟨w.heap.size + 1, 12, none⟩ (.int .i64 x.wT)).setCell ⟨w.heap.size + 1, 13, none⟩ (.int .i64 x.stop)).setCell ⟨w.heap.size + 1, 14, none⟩ (.bool x.down)) := chg15 (.int .i64 x.sH.gS) (.int .i64 x.sH.column) (.int .i64 x.sH.data) (.int .i64 x.sH.sR) (.int .i64 x.sH.rows) (.int .i64 x.sH.cap) (.int .i64 x.sH.bT) (.int .i64 x.sH.qU) (.int .i64 x.sH.sG) (.slice p10 k d10) (.slice p11 l11 d11) (.slice p12 i d12) (.int .i64 x.wT) (.int .i64 x.stop) (.bool x.down) (Chg.refl _ wt) (.inl (by simp))
     have s1 := HON.out.2.2.size
     have n10 := fun T (hT : ∀ b ∈ T, b < w.heap.size + 3) => HGR.out.2.1.nots T hT
     have n11 := fun T (hT : ∀ b ∈ T, b < wr.heap.size) => HON.out.2.1.nots T hT
     have K10 := drvL.slice.sl_chg (drvL.slice.sl_chg (drvL.slice.sl_ext HGR.out.1 HON.out.2.2) hc (n10 _ (by simp))) cS (n10 _ (by simp))
     have K11 := intL.sl_chg (intL.sl_chg HON.out.1 hc (n11 _ (by simp; omega))) cS (n11 _ (by simp; omega))
     have K12 := tapL.sl_chg hs cS (hf.nots _ (by simp; omega))
     have FF : q1c w.heap.size (((((((((((((((wt.setCell ⟨w.heap.size + 1, 0, none⟩ (.int .i64 x.sH.gS)).setCell ⟨w.heap.size + 1, 1, none⟩ (.int .i64 x.sH.column)).setCell ⟨w.heap.size + 1, 2, none⟩ (.int .i64 x.sH.data)).setCell ⟨w.heap.size + 1, 3, none⟩ (.int .i64 x.sH.sR)).setCell ⟨w.heap.size + 1, 4, none⟩ (.int .i64 x.sH.rows)).setCell ⟨w.heap.size + 1, 5, none⟩ (.int .i64 x.sH.cap)).setCell ⟨w.heap.size + 1, 6, none⟩ (.int .i64 x.sH.bT)).setCell ⟨w.heap.size + 1, 7, none⟩ (.int .i64 x.sH.qU)).setCell ⟨w.heap.size + 1, 8, none⟩ (.int .i64 x.sH.sG)).setCell ⟨w.heap.size + 1, 9, none⟩ (.slice p10 k d10)).setCell ⟨w.heap.size + 1, 10, none⟩ (.slice p11 l11 d11)).setCell ⟨w.heap.size + 1, 11, none⟩ (.slice p12 i d12)).setCell ⟨w.heap.size + 1, 12, none⟩ (.int .i64 x.wT)).setCell ⟨w.heap.size + 1, 13, none⟩ (.int .i64 x.stop)).setCell ⟨w.heap.size + 1, 14, none⟩ (.bool x.down)) (g10 ++ (g11 ++ (g12 ++ []))) := by
      rw [List.append_nil]
      exact ((((HGR.out.2.1.chg HON.out.2.2).chg hc).chg cS).append (((HON.out.2.1.chg hc).chg cS).append (hf.chg cS) HON.out.2.1.lts s1) HGR.out.2.1.lts s0).mono (by omega)
     have hch : Chg [] w _ := hcw2.trans cS (fun y hy => .inr (by rw [List.mem_singleton] at hy; omega))
     obtain ⟨o1, o2, o3, o4, o5, o6, o7, o8, o9, o13, o14⟩ := HO.out
     have OSB := HOS.out.2
     have HN := hid (show NewOn x w (.returned (.agg #[.int .i64 x.sH.gS, .int .i64 x.sH.column, .int .i64 x.sH.data, .int .i64 x.sH.sR, .int .i64 x.sH.rows, .int .i64 x.sH.cap, .int .i64 x.sH.bT, .int .i64 x.sH.qU, .int .i64 x.sH.sG, .slice p10 k d10, .slice p11 l11 d11, .slice p12 i d12, .int .i64 x.wT, .int .i64 x.stop, .bool x.down])) _ from ⟨p10, k, d10, g10, p11, l11, d11, g11, p12, i, d12, g12, ho11, rfl, ⟨o1, o2, o3, o4, o5, o6, o7, o8, o9, o13, o14⟩, K10, K11, K12, FF, hch, intL.os_chg (intL.os_chg HOS.out.1 hc (fun g hg => n11 _ (by simp; omega) g (OSB g hg)) (by simp)) cS (fun g hg => n11 _ (by simp; omega) g (OSB g hg)) (by simp), OSB⟩)
     have HQC := hid (cellsOf hq)
     clear hs hf hb3 hc hg hq cS s1 n11 n10 K10 K11 K12 FF hch hcw hcw2 o1 o2 o3 o4 o5 o6 o7 o8 o9 o13 o14
     go_wp2_with fail
     have hqc := HQC.out
     refine bodyPost_ret (v := .agg #[.int .i64 x.sH.gS, .int .i64 x.sH.column, .int .i64 x.sH.data, .int .i64 x.sH.sR, .int .i64 x.sH.rows, .int .i64 x.sH.cap, .int .i64 x.sH.bT, .int .i64 x.sH.qU, .int .i64 x.sH.sG, .slice p10 k d10, .slice p11 l11 d11, .slice p12 i d12, .int .i64 x.wT, .int .i64 x.stop, .bool x.down]) (by simp [results, Tryz.results71, go_sem, hqc]) rfl HN.out
end Go.Proofs.YtphmpimgbmedbaaGreat
