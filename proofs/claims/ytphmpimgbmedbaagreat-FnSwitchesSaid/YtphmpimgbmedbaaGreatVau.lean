/- Several texts in one. -/
import Derived.Test.YtphmpimgbmedbaaGreatVal
set_option maxRecDepth 100000
set_option maxHeartbeats 8000000
namespace Go.Proofs.YtphmpimgbmedbaaGreat
open Go.RowKit
open Go.Lib (hid)
theorem q5w {w : World} {b : Nat} {E : TypeId} {fr : Nat × Nat} {u0 u1 u2 u3 u4 u5 u6 u7 u8 u9 u10 u11 u12 u13 u14 : Value} (v0 v1 v2 v3 v4 v5 v6 v7 v8 v9 v10 v11 v12 v13 v14 : Value) (h : w.heap[b]? = some (.cells #[u0, u1, u2, u3, u4, u5, u6, u7, u8, u9, u10, u11, u12, u13, u14] E fr)) :
  (((((((((((((((w.setCell ⟨b, 0, none⟩ (v0)).setCell ⟨b, 1, none⟩ (v1)).setCell ⟨b, 2, none⟩ (v2)).setCell ⟨b, 3, none⟩ (v3)).setCell ⟨b, 4, none⟩ (v4)).setCell ⟨b, 5, none⟩ (v5)).setCell ⟨b, 6, none⟩ (v6)).setCell ⟨b, 7, none⟩ (v7)).setCell ⟨b, 8, none⟩ (v8)).setCell ⟨b, 9, none⟩ (v9)).setCell ⟨b, 10, none⟩ (v10)).setCell ⟨b, 11, none⟩ (v11)).setCell ⟨b, 12, none⟩ (v12)).setCell ⟨b, 13, none⟩ (v13)).setCell ⟨b, 14, none⟩ (v14)).heap[b]? = some (.cells #[v0, v1, v2, v3, v4, v5, v6, v7, v8, v9, v10, v11, v12, v13, v14] E fr) := by
 have e : (((((((((((((((w.setCell ⟨b, 0, none⟩ (v0)).setCell ⟨b, 1, none⟩ (v1)).setCell ⟨b, 2, none⟩ (v2)).setCell ⟨b, 3, none⟩ (v3)).setCell ⟨b, 4, none⟩ (v4)).setCell ⟨b, 5, none⟩ (v5)).setCell ⟨b, 6, none⟩ (v6)).setCell ⟨b, 7, none⟩ (v7)).setCell ⟨b, 8, none⟩ (v8)).setCell ⟨b, 9, none⟩ (v9)).setCell ⟨b, 10, none⟩ (v10)).setCell ⟨b, 11, none⟩ (v11)).setCell ⟨b, 12, none⟩ (v12)).setCell ⟨b, 13, none⟩ (v13)).setCell ⟨b, 14, none⟩ (v14)) = w.setCells b 0 [v0, v1, v2, v3, v4, v5, v6, v7, v8, v9, v10, v11, v12, v13, v14] := rfl
 rw [e, q2j [v0, v1, v2, v3, v4, v5, v6, v7, v8, v9, v10, v11, v12, v13, v14] 0 w _ h]
 simp [setRow]
theorem chg15 {S : List Nat} {w0 w : World} {b : Nat} (v0 v1 v2 v3 v4 v5 v6 v7 v8 v9 v10 v11 v12 v13 v14 : Value) (h : Chg S w0 w) (hb : b ∈ S ∨ w0.heap.size ≤ b) : Chg S w0 (((((((((((((((w.setCell ⟨b, 0, none⟩ (v0)).setCell ⟨b, 1, none⟩ (v1)).setCell ⟨b, 2, none⟩ (v2)).setCell ⟨b, 3, none⟩ (v3)).setCell ⟨b, 4, none⟩ (v4)).setCell ⟨b, 5, none⟩ (v5)).setCell ⟨b, 6, none⟩ (v6)).setCell ⟨b, 7, none⟩ (v7)).setCell ⟨b, 8, none⟩ (v8)).setCell ⟨b, 9, none⟩ (v9)).setCell ⟨b, 10, none⟩ (v10)).setCell ⟨b, 11, none⟩ (v11)).setCell ⟨b, 12, none⟩ (v12)).setCell ⟨b, 13, none⟩ (v13)).setCell ⟨b, 14, none⟩ (v14)) := by
 iterate 15 refine Chg.setCell ?_ _ _ hb
 exact h
theorem q1c.swap {B : Nat} {w : World} {a b c : List Nat} (h : q1c B w (a ++ (b ++ c))) : q1c B w (b ++ (a ++ (c ++ []))) := by
 have p : (a ++ (b ++ c)).Perm (b ++ (a ++ (c ++ []))) := by
  rw [List.append_nil, ← List.append_assoc, ← List.append_assoc]
  exact List.perm_append_comm.append_right c
 exact ⟨p.nodup_iff.1 h.1, fun y hy => h.2 y (p.mem_iff.2 hy)⟩
theorem q6j (x : Wld) (cx : Array Value) (fx : List Nat) (w : World) (hx : wldL.rep w cx.toList x fx) (hz : q1u x ≤ 1048576) :
  Calls Tryz.prog 80 #[.agg cx] w (q2l wldL x w) := by
 obtain ⟨KD, _⟩ := q4y
 obtain ⟨KS, _⟩ := kindDS
 obtain ⟨KT, _⟩ := q7b
 obtain ⟨a10, l10, c10, f10, a11, l11, c11, f11, a12, l12, c12, f12, ex, o1, o2, o3, o4, o5, o6, o7, o8, o9, h10, h11, h12, o13, o14, -⟩ := q0x.1 hx
 obtain rfl := Array.toList_inj.1 (ex.trans (List.toList_toArray).symm)
 have q10 := q0s (q0s q0w) x.gS; have q11 := q2f x.on; have q12 := q0s q1e x.tapes
 unfold q1u at hz
 have z10 : totL (totL q2h) x.gS ≤ 1048576 := by omega
 have z12 : totL q4n x.tapes ≤ 1048576 := by omega
 have hl10 : l10 ≤ 1048576 := by have := q2e (q0s q0w) x.gS; rw [h10.1]; omega
 have hl11 : l11 ≤ 1048576 := by rw [h11.1]; unfold q3z at hz q11; omega
 have hl12 : l12 ≤ 1048576 := by have := q2e q1e x.tapes; rw [h12.1]; omega
 have L10 := hid h10.1; have L11 := hid h11.1; have L12 := hid h12.1
 have H10 := hid h10; have H11 := hid h11; have H12 := hid h12
 have HO := hid (And.intro o1 (And.intro o2 (And.intro o3 (And.intro o4 (And.intro o5 (And.intro o6 (And.intro o7 (And.intro o8 (And.intro o9 (And.intro o13 o14))))))))))
 have Z10 := hid (fun g hg => Int.le_trans (q1y (q0s q0w) hg) z10 : ∀ g ∈ x.gS, totL q2h g ≤ 1048576)
 have Z12 := hid (fun t ht => Int.le_trans (q1y q1e ht) z12 : ∀ t ∈ x.tapes, q4n t ≤ 1048576)
 clear hx ex hz q10 q11 q12 z10 z12 h10 h11 h12 o1 o2 o3 o4 o5 o6 o7 o8 o9 o13 o14
 have G0 := hid (show Chg [] w (((w.alloc (.cells #[.int .i64 x.sH.gS, .int .i64 x.sH.column, .int .i64 x.sH.data, .int .i64 x.sH.sR, .int .i64 x.sH.rows, .int .i64 x.sH.cap, .int .i64 x.sH.bT, .int .i64 x.sH.qU, .int .i64 x.sH.sG, .slice a10 l10 c10, .slice a11 l11 c11, .slice a12 l12 c12, .int .i64 x.wT, .int .i64 x.stop, .bool x.down] 34)).alloc (.cells #[.int .i64 0, .int .i64 0, .int .i64 0, .int .i64 0, .int .i64 0, .int .i64 0, .int .i64 0, .int .i64 0, .int .i64 0, .slice none 0 0, .slice none 0 0, .slice none 0 0, .int .i64 0, .int .i64 0, .bool false] 34)).alloc (.cells #[.int .i64 x.sH.gS, .int .i64 x.sH.column, .int .i64 x.sH.data, .int .i64 x.sH.sR, .int .i64 x.sH.rows, .int .i64 x.sH.cap, .int .i64 x.sH.bT, .int .i64 x.sH.qU, .int .i64 x.sH.sG, .slice a10 l10 c10, .slice a11 l11 c11, .slice a12 l12 c12, .int .i64 x.wT, .int .i64 x.stop, .bool x.down] 34)) from ((((Chg.refl [] w).alloc _).alloc _).alloc _))
 have B1 := hid (show (((w.alloc (.cells #[.int .i64 x.sH.gS, .int .i64 x.sH.column, .int .i64 x.sH.data, .int .i64 x.sH.sR, .int .i64 x.sH.rows, .int .i64 x.sH.cap, .int .i64 x.sH.bT, .int .i64 x.sH.qU, .int .i64 x.sH.sG, .slice a10 l10 c10, .slice a11 l11 c11, .slice a12 l12 c12, .int .i64 x.wT, .int .i64 x.stop, .bool x.down] 34)).alloc (.cells #[.int .i64 0, .int .i64 0, .int .i64 0, .int .i64 0, .int .i64 0, .int .i64 0, .int .i64 0, .int .i64 0, .int .i64 0, .slice none 0 0, .slice none 0 0, .slice none 0 0, .int .i64 0, .int .i64 0, .bool false] 34)).alloc (.cells #[.int .i64 x.sH.gS, .int .i64 x.sH.column, .int .i64 x.sH.data, .int .i64 x.sH.sR, .int .i64 x.sH.rows, .int .i64 x.sH.cap, .int .i64 x.sH.bT, .int .i64 x.sH.qU, .int .i64 x.sH.sG, .slice a10 l10 c10, .slice a11 l11 c11, .slice a12 l12 c12, .int .i64 x.wT, .int .i64 x.stop, .bool x.down] 34)).heap[w.heap.size]? = some (.cells #[.int .i64 x.sH.gS, .int .i64 x.sH.column, .int .i64 x.sH.data, .int .i64 x.sH.sR, .int .i64 x.sH.rows, .int .i64 x.sH.cap, .int .i64 x.sH.bT, .int .i64 x.sH.qU, .int .i64 x.sH.sG, .slice a10 l10 c10, .slice a11 l11 c11, .slice a12 l12 c12, .int .i64 x.wT, .int .i64 x.stop, .bool x.down] 34 (0, 0)) from q0b (q0b (q0j w _) _) _)
 have B2 := hid (show (((w.alloc (.cells #[.int .i64 x.sH.gS, .int .i64 x.sH.column, .int .i64 x.sH.data, .int .i64 x.sH.sR, .int .i64 x.sH.rows, .int .i64 x.sH.cap, .int .i64 x.sH.bT, .int .i64 x.sH.qU, .int .i64 x.sH.sG, .slice a10 l10 c10, .slice a11 l11 c11, .slice a12 l12 c12, .int .i64 x.wT, .int .i64 x.stop, .bool x.down] 34)).alloc (.cells #[.int .i64 0, .int .i64 0, .int .i64 0, .int .i64 0, .int .i64 0, .int .i64 0, .int .i64 0, .int .i64 0, .int .i64 0, .slice none 0 0, .slice none 0 0, .slice none 0 0, .int .i64 0, .int .i64 0, .bool false] 34)).alloc (.cells #[.int .i64 x.sH.gS, .int .i64 x.sH.column, .int .i64 x.sH.data, .int .i64 x.sH.sR, .int .i64 x.sH.rows, .int .i64 x.sH.cap, .int .i64 x.sH.bT, .int .i64 x.sH.qU, .int .i64 x.sH.sG, .slice a10 l10 c10, .slice a11 l11 c11, .slice a12 l12 c12, .int .i64 x.wT, .int .i64 x.stop, .bool x.down] 34)).heap[w.heap.size + 1]? = some (.cells #[.int .i64 0, .int .i64 0, .int .i64 0, .int .i64 0, .int .i64 0, .int .i64 0, .int .i64 0, .int .i64 0, .int .i64 0, .slice none 0 0, .slice none 0 0, .slice none 0 0, .int .i64 0, .int .i64 0, .bool false] 34 (0, 0)) from q0b (q0e (by simp) _) _)
 have B3 := hid (show (((w.alloc (.cells #[.int .i64 x.sH.gS, .int .i64 x.sH.column, .int .i64 x.sH.data, .int .i64 x.sH.sR, .int .i64 x.sH.rows, .int .i64 x.sH.cap, .int .i64 x.sH.bT, .int .i64 x.sH.qU, .int .i64 x.sH.sG, .slice a10 l10 c10, .slice a11 l11 c11, .slice a12 l12 c12, .int .i64 x.wT, .int .i64 x.stop, .bool x.down] 34)).alloc (.cells #[.int .i64 0, .int .i64 0, .int .i64 0, .int .i64 0, .int .i64 0, .int .i64 0, .int .i64 0, .int .i64 0, .int .i64 0, .slice none 0 0, .slice none 0 0, .slice none 0 0, .int .i64 0, .int .i64 0, .bool false] 34)).alloc (.cells #[.int .i64 x.sH.gS, .int .i64 x.sH.column, .int .i64 x.sH.data, .int .i64 x.sH.sR, .int .i64 x.sH.rows, .int .i64 x.sH.cap, .int .i64 x.sH.bT, .int .i64 x.sH.qU, .int .i64 x.sH.sG, .slice a10 l10 c10, .slice a11 l11 c11, .slice a12 l12 c12, .int .i64 x.wT, .int .i64 x.stop, .bool x.down] 34)).heap[w.heap.size + 2]? = some (.cells #[.int .i64 x.sH.gS, .int .i64 x.sH.column, .int .i64 x.sH.data, .int .i64 x.sH.sR, .int .i64 x.sH.rows, .int .i64 x.sH.cap, .int .i64 x.sH.bT, .int .i64 x.sH.qU, .int .i64 x.sH.sG, .slice a10 l10 c10, .slice a11 l11 c11, .slice a12 l12 c12, .int .i64 x.wT, .int .i64 x.stop, .bool x.down] 34 (0, 0)) from q0e (by simp) _)
 have S0 := hid (show w.heap.size + 3 ≤ (((w.alloc (.cells #[.int .i64 x.sH.gS, .int .i64 x.sH.column, .int .i64 x.sH.data, .int .i64 x.sH.sR, .int .i64 x.sH.rows, .int .i64 x.sH.cap, .int .i64 x.sH.bT, .int .i64 x.sH.qU, .int .i64 x.sH.sG, .slice a10 l10 c10, .slice a11 l11 c11, .slice a12 l12 c12, .int .i64 x.wT, .int .i64 x.stop, .bool x.down] 34)).alloc (.cells #[.int .i64 0, .int .i64 0, .int .i64 0, .int .i64 0, .int .i64 0, .int .i64 0, .int .i64 0, .int .i64 0, .int .i64 0, .slice none 0 0, .slice none 0 0, .slice none 0 0, .int .i64 0, .int .i64 0, .bool false] 34)).alloc (.cells #[.int .i64 x.sH.gS, .int .i64 x.sH.column, .int .i64 x.sH.data, .int .i64 x.sH.sR, .int .i64 x.sH.rows, .int .i64 x.sH.cap, .int .i64 x.sH.bT, .int .i64 x.sH.qU, .int .i64 x.sH.sG, .slice a10 l10 c10, .slice a11 l11 c11, .slice a12 l12 c12, .int .i64 x.wT, .int .i64 x.stop, .bool x.down] 34)).heap.size from ltOf B3.out)
 go_enter Tryz.func80, Tryz.ntmps80
 go_wp2_with fail
 refine (cpyI_any a11 l11 c11 x.on f11 _ (intL.sl_ext H11.out G0.out) (by omega)).mono ?_
 rintro e w1 ⟨p11, d11, g11, rfl, hs, hf, hc⟩
 rw [← L11.out] at hs ⊢
 obtain ⟨e1, n1, A1⟩ := bk0 hc B1.out; obtain ⟨e2, n2, A2⟩ := bk0 hc B2.out; obtain ⟨e3, n3, A3⟩ := bk0 hc B3.out
 have fz := q0c A3.out
 have G1 := hid (G0.out.trans0 hc)
 have HON := hid (And.intro hs (hf.mono (C := w.heap.size + 3) S0.out))
 clear hs hf hc B1 B2 B3 G0 S0
 go_wp2_with fail
 go_loopw [21] (fun vi wr => ∃ (k : Nat) (v : Value) (Wr : World), Wr = wr ∧ k ≤ l10 ∧ vi = .int .i64 k ∧ q1v drvL.slice 83 w1.heap.size wr v (x.gS.take k) ∧ wr.heap[w.heap.size + 2]? = some (.cells #[.int .i64 x.sH.gS, .int .i64 x.sH.column, .int .i64 x.sH.data, .int .i64 x.sH.sR, .int .i64 x.sH.rows, .int .i64 x.sH.cap, .int .i64 x.sH.bT, .int .i64 x.sH.qU, .int .i64 x.sH.sG, v, .slice p11 l11 d11, .slice none 0 0, .int .i64 x.wT, .int .i64 x.stop, .bool x.down] 34 (0, 0)) ∧ Chg [w.heap.size + 2] w1 wr) (fun vi _ => l10 - (intOf vi).toNat)
 case atStart => exact ⟨0, .slice none 0 0, _, rfl, by omega, rfl, by rw [List.take_zero]; exact q1v.nil (by simp), q0i (cur := #[.int .i64 x.sH.gS, .int .i64 x.sH.column, .int .i64 x.sH.data, .int .i64 x.sH.sR, .int .i64 x.sH.rows, .int .i64 x.sH.cap, .int .i64 x.sH.bT, .int .i64 x.sH.qU, .int .i64 x.sH.sG, .slice none 0 0, .slice p11 l11 d11, .slice a12 l12 c12, .int .i64 x.wT, .int .i64 x.stop, .bool x.down]) (q0i (cur := #[.int .i64 x.sH.gS, .int .i64 x.sH.column, .int .i64 x.sH.data, .int .i64 x.sH.sR, .int .i64 x.sH.rows, .int .i64 x.sH.cap, .int .i64 x.sH.bT, .int .i64 x.sH.qU, .int .i64 x.sH.sG, .slice none 0 0, .slice a11 l11 c11, .slice a12 l12 c12, .int .i64 x.wT, .int .i64 x.stop, .bool x.down]) (q0i (cur := #[.int .i64 x.sH.gS, .int .i64 x.sH.column, .int .i64 x.sH.data, .int .i64 x.sH.sR, .int .i64 x.sH.rows, .int .i64 x.sH.cap, .int .i64 x.sH.bT, .int .i64 x.sH.qU, .int .i64 x.sH.sG, .slice a10 l10 c10, .slice a11 l11 c11, .slice a12 l12 c12, .int .i64 x.wT, .int .i64 x.stop, .bool x.down]) A3.out rfl) rfl) rfl, (((Chg.refl _ _).setCell _ _ (.inl (by simp))).setCell _ _ (.inl (by simp))).setCell _ _ (.inl (by simp))⟩
 case round =>
  obtain ⟨k, v, wr, rfl, hk, rfl, hg, hb3, hc⟩ := hrel
  have hcw : Chg [] w wr := G1.out.trans hc (by simp)
  have D1 := hid (hc.keepb A1.out (by simp)); have D2 := hid (hc.keepb A2.out (by simp)); have D3 := hid hb3
  by_cases hlt : k < l10
  ·obtain ⟨g, b, off, ag, lg, cg, fg, HX, rfl, hcx, HXS⟩ := q4u (drvL.slice.sl_ext H10.out hcw) hlt
   have HG := hid hg; have HC := hid hc; have HCW := hid hcw
   have HXI := hid HX.out.1
   have HXZ := hid (Z10.out g (List.mem_of_getElem? HX.out.1))
   have hlg : lg ≤ 1048576 := by have := q2e q0w g; have := HXZ.out; rw [HXS.out.1]; omega
   have LG := hid HXS.out.1
   clear hg hc hcw HX hb3
   go_wp2_with fail
   go_loopw [6, 28] (fun vo vi wi => ∃ (j : Nat) (Wi : World), Wi = wi ∧ j ≤ lg ∧ vi = .int .i64 j ∧ Grow drvL 82 wr wi vo (g.take j)) (fun _ vi _ => lg - (intOf vi).toNat)
   case atStart => exact ⟨0, _, rfl, by omega, rfl, by rw [List.take_zero]; exact Grow.made (Chg.refl _ _)⟩
   case round =>
    obtain ⟨j, wi, rfl, hj, rfl, hgi⟩ := hrel
    by_cases hlj : j < lg
    ·obtain ⟨y, b2, off2, a2, l2, c2, f2, HY, rfl, hy0, hy1, HYS⟩ := q3j (drvL.sl_ext HXS.out hgi.chg) hlj
     have HGI := hid hgi
     have HYI := hid HY.out.1
     have HYZ := hid (Int.le_trans (q1y q0w (List.mem_of_getElem? HY.out.1)) HXZ.out)
     clear hgi HY
     go_wp2_with fail
     refine (q6k y #[.bool y.wiped, .slice a2 l2 c2] f2 _ (drvL.ext HYS.out ((Chg.refl [] wi).alloc (.cells #[.bool y.wiped, .slice a2 l2 c2] 82))) HYZ.out).mono ?_
     rintro e w2 ⟨cs, f1, rfl, hr, hf, hc⟩
     obtain ⟨p2, m2, d2, _, ex, -⟩ := q2i.1 hr
     obtain rfl := Array.toList_inj.1 (ex.trans (List.toList_toArray).symm)
     have HN1 := hid (And.intro hr (And.intro (hf.mono (C := wi.heap.size) (by simp)) (((Chg.refl [] wi).alloc (.cells #[.bool y.wiped, .slice a2 l2 c2] 82)).trans0 hc)))
     have HLL : Hid ((g.take j).length + [y].length ≤ maxLen ∧ ((g.take j).length + [y].length) * 32 ≤ 140737488355328) := by
      refine ⟨?_, ?_⟩ <;> simp only [List.length_take, List.length_cons, List.length_nil, maxLen] <;> omega
     have HNX := hid (q1j HYI.out)
     clear ex hr hf hc hy0 hy1 HYS
     go_wp2_with (at_builtin; refine drvL.wpList_grow rfl _ _ 83 rfl Tryz.underlying83 KD rfl HGI.out (HN1.out.2.2.alloc (.cells #[.bool y.wiped, .slice p2 m2 d2] 82)) ⟨w2.heap.size, 0, none⟩ 1 1 [.bool y.wiped, .slice p2 m2 d2] (ys := [y]) (f := f1) rfl rfl (q1i w2 #[.bool y.wiped, .slice p2 m2 d2] 82) (drvL.all_single (drvL.ext HN1.out.1 ((Chg.refl [] w2).alloc _))) (HN1.out.2.1.chg ((Chg.refl [] w2).alloc (.cells #[.bool y.wiped, .slice p2 m2 d2] 82))) HLL.out.1 HLL.out.2 ?_; intro v' w' hg'; rw [← HNX.out] at hg'; have HG2 := hid hg'; clear hg')
     go_roundw
     case rel => exact ⟨j + 1, _, rfl, by omega, by go_num, HG2.out⟩
     case measure => simp [intOf]; omega
    ·obtain rfl : j = lg := by omega
     rw [List.take_of_length_le (by have := LG.out; omega)] at hgi
     obtain ⟨p9, c9, f9, h1, hs9, hf9, hc9⟩ := hgi.sl
     subst h1
     have HN9 := hid (And.intro hs9 (And.intro hf9 hc9))
     rw [← LG.out] at HN9 ⊢
     have E3 := hid (hc9.keep0 D3.out); have e3 := cellsOf E3.out; have n3' := ltOf E3.out
     have HLL : Hid ((x.gS.take k).length + [g].length ≤ maxLen ∧ ((x.gS.take k).length + [g].length) * 24 ≤ 140737488355328) := by
      refine ⟨?_, ?_⟩ <;> simp only [List.length_take, List.length_cons, List.length_nil, maxLen] <;> omega
     have HNX := hid (q1j HXI.out)
     clear hs9 hf9 hc9 hgi
     go_wp2_with (at_builtin; refine q3y.wpList rfl _ _ 31 rfl Tryz.underlying31 KS rfl (HG.out.b.ext (HN9.out.2.2.alloc (.cells #[.slice p9 j c9] 83))) ⟨wi.heap.size, 0, none⟩ 1 1 [.slice p9 j c9] (ys := [g]) (f := f9) rfl rfl (q1i wi #[.slice p9 j c9] 83) (drvL.slice.all_single ⟨p9, j, c9, rfl, drvL.sl_ext HN9.out.1 ((Chg.refl [] wi).alloc _)⟩) (HN9.out.2.1.chg ((Chg.refl [] wi).alloc (.cells #[.slice p9 j c9] 83))) HLL.out.1 HLL.out.2 ?_; intro v' w3 hg' hup; rw [← HNX.out] at hg'; obtain ⟨pv, lv, cv, rfl⟩ : ∃ a l c, v' = Value.slice a l c := (by obtain ⟨a, c, f, h, -⟩ := hg'.sl; exact ⟨a, _, c, h⟩); have HG2 := hid hg'; have HU := hid hup; have E4 := hid ((hup.low (w.heap.size + 2) n3).trans (q0b E3.out _)); have e4 := cellsOf E4.out; have n4 := ltOf E4.out; have z4 := q0c E4.out; clear hg' hup)
     have r1 := HG2.out.chg ((Chg.refl [w.heap.size + 2] w3).setCell ⟨w.heap.size + 2, 9, none⟩ (.slice pv lv cv) (.inl (by simp))) (by simp; omega)
     have r3 : (w3.setCell ⟨w.heap.size + 2, 9, none⟩ (.slice pv lv cv)).heap[w.heap.size + 2]? = some (.cells #[.int .i64 x.sH.gS, .int .i64 x.sH.column, .int .i64 x.sH.data, .int .i64 x.sH.sR, .int .i64 x.sH.rows, .int .i64 x.sH.cap, .int .i64 x.sH.bT, .int .i64 x.sH.qU, .int .i64 x.sH.sG, .slice pv lv cv, .slice p11 l11 d11, .slice none 0 0, .int .i64 x.wT, .int .i64 x.stop, .bool x.down] 34 (0, 0)) := q0i (cur := #[.int .i64 x.sH.gS, .int .i64 x.sH.column, .int .i64 x.sH.data, .int .i64 x.sH.sR, .int .i64 x.sH.rows, .int .i64 x.sH.cap, .int .i64 x.sH.bT, .int .i64 x.sH.qU, .int .i64 x.sH.sG, v, .slice p11 l11 d11, .slice none 0 0, .int .i64 x.wT, .int .i64 x.stop, .bool x.down]) E4.out rfl
     have r4 := (HU.out.chg (HC.out.trans0 (HN9.out.2.2.alloc (.cells #[.slice p9 j c9] 83))) (Nat.le_refl _)).setCell ⟨w.heap.size + 2, 9, none⟩ (.slice pv lv cv) (.inl (by simp))
     have HR := hid (And.intro r1 (And.intro r3 r4))
     clear r1 r3 r4
     go_roundw
     case rel => exact ⟨k + 1, .slice pv lv cv, _, rfl, by omega, by go_num, HR.out.1, HR.out.2.1, HR.out.2.2⟩
     case measure => simp [intOf]; omega
  ·obtain rfl : k = l10 := by omega
   rw [List.take_of_length_le (by have := L10.out; omega)] at hg
   obtain ⟨p10, d10, g10, rfl, hs, hf⟩ := hg.sl
   rw [← L10.out] at hs D3
   have HGR := hid (And.intro hs (And.intro hf hc))
   have e1 := cellsOf D1.out; have m1 := ltOf D1.out
   clear hg hs hf hb3 hc
   go_wp2_with fail
   go_loopw [48] (fun vi wt => ∃ (i : Nat) (v : Value) (Wt : World), Wt = wt ∧ i ≤ l12 ∧ vi = .int .i64 i ∧ q1v tapL 69 wr.heap.size wt v (x.tapes.take i) ∧ wt.heap[w.heap.size + 2]? = some (.cells #[.int .i64 x.sH.gS, .int .i64 x.sH.column, .int .i64 x.sH.data, .int .i64 x.sH.sR, .int .i64 x.sH.rows, .int .i64 x.sH.cap, .int .i64 x.sH.bT, .int .i64 x.sH.qU, .int .i64 x.sH.sG, .slice p10 k d10, .slice p11 l11 d11, v, .int .i64 x.wT, .int .i64 x.stop, .bool x.down] 34 (0, 0)) ∧ Chg [w.heap.size + 2] wr wt) (fun vi _ => l12 - (intOf vi).toNat)
   case atStart => exact ⟨0, .slice none 0 0, _, rfl, by omega, rfl, by rw [List.take_zero]; exact q1v.nil (Nat.le_refl _), D3.out, Chg.refl _ _⟩
   case round =>
    obtain ⟨i, v, wt, rfl, hi, rfl, hg, hb3, hc⟩ := hrel
    have hcw2 : Chg [] w wt := hcw.trans hc (by simp)
    have E1 := hid (hc.keepb D1.out (by simp)); have E2 := hid (hc.keepb D2.out (by simp)); have E3 := hid hb3
    have m3 : w.heap.size + 2 < wr.heap.size := ltOf D3.out
    by_cases hlt : i < l12
    ·obtain ⟨y, b, off, a2, l2, c2, f2, HY, rfl, hy0, hy1, HYS⟩ := q2o (tapL.sl_ext H12.out hcw2) hlt
     have HG := hid hg; have HC := hid hc
     have HYI := hid HY.out.1
     obtain ⟨_, _, _, _, exb, hby, -⟩ := q1r.1 HYS.out
     obtain ⟨q1, q2, q3⟩ := Value.slice.inj (List.cons.inj (List.cons.inj exb).2).1
     subst q1 q2 q3
     have HYZ := hid (Z12.out y (List.mem_of_getElem? HYI.out) : totL q3t y.recs ≤ 1048576)
     have HBY := hid hby
     have LB := hid hby.1.symm
     have e3 := cellsOf E3.out; have n3' := ltOf E3.out
     clear hg hb3 hc HY exb hby HYS hcw2
     go_wp2_with fail
     have F1 := hid (show (wt.alloc (.cells #[.bool y.wiped, .slice a2 l2 c2] 69)).drew.heap[w.heap.size + 2]? = some (.cells #[.int .i64 x.sH.gS, .int .i64 x.sH.column, .int .i64 x.sH.data, .int .i64 x.sH.sR, .int .i64 x.sH.rows, .int .i64 x.sH.cap, .int .i64 x.sH.bT, .int .i64 x.sH.qU, .int .i64 x.sH.sG, .slice p10 k d10, .slice p11 l11 d11, v, .int .i64 x.wT, .int .i64 x.stop, .bool x.down] 34 (0, 0)) from q0a (q0b E3.out _))
     have F2 := hid (show (wt.alloc (.cells #[.bool y.wiped, .slice a2 l2 c2] 69)).drew.heap[wt.heap.size]? = some (.cells #[.bool y.wiped, .slice a2 l2 c2] 69 (0, 0)) from q0a (q0j wt _))
     have G0 := hid (((Chg.refl [] wt).alloc (.cells #[.bool y.wiped, .slice a2 l2 c2] 69)).drew)
     have HCW2 := hid (hcw.trans HC.out (by simp) : Chg [] w wt)
     have HLL : Hid ((x.tapes.take i).length + [y].length ≤ maxLen ∧ ((x.tapes.take i).length + [y].length) * 32 ≤ 140737488355328) := by
      refine ⟨?_, ?_⟩ <;> simp only [List.length_take, List.length_cons, List.length_nil, maxLen] <;> omega
     have HNX := hid (q1j HYI.out)
     obtain ⟨CC, HCI, HCO⟩ := q0l (fun w' => Know (w.heap.size + 2) #[.int .i64 x.sH.gS, .int .i64 x.sH.column, .int .i64 x.sH.data, .int .i64 x.sH.sR, .int .i64 x.sH.rows, .int .i64 x.sH.cap, .int .i64 x.sH.bT, .int .i64 x.sH.qU, .int .i64 x.sH.sG, .slice p10 k d10, .slice p11 l11 d11, v, .int .i64 x.wT, .int .i64 x.stop, .bool x.down] w' ∧ Know wt.heap.size #[.bool y.wiped, .slice a2 l2 c2] w')
     refine q1m [9] CC (by kernel_rfl) (HCI.out _ ⟨(Know.of F1.out), (Know.of F2.out)⟩) (fun hcl hS => ?_)
     refine ggT 0 hcl hS ?_; clear hcl hS; intro hcl hS
     refine ggL 1 hcl hS HCO ?_; clear hcl hS; intro hcl hS
     refine ggT 2 hcl hS ?_; clear hcl hS; intro hcl hS
     refine ggL 3 hcl hS HCO ?_; clear hcl hS; intro hcl hS
     refine ggT 4 hcl hS ?_; clear hcl hS; intro hcl hS
     refine ggL 5 hcl hS HCO ?_; clear hcl hS; intro hcl hS
     refine ggC 6 hcl rfl (by kernel_rfl) (fun K hK => ?_)
     go_simp
     go_at_call 93
     refine (q7j a2 l2 c2 y.recs _ _ (recL.sl_ext HBY.out G0.out) HYZ.out).mono ?_; rintro e w4 ⟨p2, d2, g2, rfl, hs, hf, hc⟩
     rw [LB.out] at hs ⊢; have HN1 := hid (And.intro hs (And.intro (hf.mono (C := wt.heap.size) (by simp [World.drew])) (G0.out.trans0 hc))); obtain ⟨-, -, F3⟩ := bk0 hc F1.out; obtain ⟨-, -, F4⟩ := bk0 hc F2.out; clear hs hf hc
     go_wp2_with fail
     refine hK.out _ _ (fun _ => HCI.out _ ⟨(Know.of F3.out), (Know.of F4.out)⟩) ?_
     clear hK K hcl hS
     intro hcl hS
     try simp only [Act.put, pA, pB, pC]
     refine ggT 7 hcl hS ?_; clear hcl hS; intro hcl hS
     refine ggC 8 hcl rfl (by kernel_rfl) (fun K hK => ?_)
     go_simp
     refine hK.out _ _ (fun _ => HCI.out _ ⟨(Know.of (q0b F3.out _)), (Know.of (q0b F4.out _))⟩) ?_
     clear hK K hcl hS
     intro hcl hS
     try simp only [Act.put, pA, pB, pC]
     refine ggC 9 hcl rfl (by kernel_rfl) (fun K hK => ?_)
     refine q3y.step rfl _ _ 32 rfl Tryz.underlying32 KT rfl (HG.out.b.ext (HN1.out.2.2.alloc (.cells #[.bool y.wiped, .slice p2 l2 d2] 69))) ⟨w4.heap.size, 0, none⟩ 1 1 [.bool y.wiped, .slice p2 l2 d2] (ys := [y]) (f := g2) rfl rfl (q1i w4 #[.bool y.wiped, .slice p2 l2 d2] 69) (tapL.all_single (q1r.2 ⟨p2, l2, d2, g2, rfl, recL.sl_ext HN1.out.1 ((Chg.refl [] w4).alloc _), by simp⟩)) (HN1.out.2.1.chg ((Chg.refl [] w4).alloc _)) HLL.out.1 HLL.out.2 ?_
     intro v' w5 hg' hup
     rw [← HNX.out] at hg'
     obtain ⟨pv, lv, cv, rfl⟩ : ∃ a l c, v' = Value.slice a l c := by obtain ⟨a, c, f, h, -⟩ := hg'.sl; exact ⟨a, _, c, h⟩
     have HG2 := hid hg'; have HU := hid hup
     have F5 := hid ((hup.low (w.heap.size + 2) m3).trans (q0b F3.out _)); have k5 := cellsOf F5.out; have n5 := ltOf F5.out; have z5 := q0c F5.out; clear hg' hup
     refine hK.out _ _ (Till.done (m := 9) (by simp) (by rfl)) ?_
     clear hK K hcl hS
     intro hcl hS
     try simp only [Act.put, pA, pB, pC]
     refine ggT 10 hcl hS ?_; clear hcl hS; intro hcl hS
     refine ggC 11 hcl rfl (by kernel_rfl) (fun K hK => ?_)
     go_simp
     refine hK.out _ _ (Till.done (m := 9) (by simp) (by rfl)) ?_
     clear hK K hcl hS
     intro hcl hS
     try simp only [Act.put, pA, pB, pC]
     refine q3h (by kernel_rfl) ?_ _
     have r1 := HG2.out.chg ((Chg.refl [w.heap.size + 2] w5).setCell ⟨w.heap.size + 2, 11, none⟩ (.slice pv lv cv) (.inl (by simp))) (by simp; omega)
     have r3 : (w5.setCell ⟨w.heap.size + 2, 11, none⟩ (.slice pv lv cv)).heap[w.heap.size + 2]? = some (.cells #[.int .i64 x.sH.gS, .int .i64 x.sH.column, .int .i64 x.sH.data, .int .i64 x.sH.sR, .int .i64 x.sH.rows, .int .i64 x.sH.cap, .int .i64 x.sH.bT, .int .i64 x.sH.qU, .int .i64 x.sH.sG, .slice p10 k d10, .slice p11 l11 d11, .slice pv lv cv, .int .i64 x.wT, .int .i64 x.stop, .bool x.down] 34 (0, 0)) := q0i (cur := #[.int .i64 x.sH.gS, .int .i64 x.sH.column, .int .i64 x.sH.data, .int .i64 x.sH.sR, .int .i64 x.sH.rows, .int .i64 x.sH.cap, .int .i64 x.sH.bT, .int .i64 x.sH.qU, .int .i64 x.sH.sG, .slice p10 k d10, .slice p11 l11 d11, v, .int .i64 x.wT, .int .i64 x.stop, .bool x.down]) F5.out rfl
     have r4 := (HU.out.chg (HC.out.trans0 (HN1.out.2.2.alloc (.cells #[.bool y.wiped, .slice p2 l2 d2] 69))) (Nat.le_refl _)).setCell ⟨w.heap.size + 2, 11, none⟩ (.slice pv lv cv) (.inl (by simp))
     have HR := hid (And.intro r1 (And.intro r3 r4))
     clear r1 r3 r4
     go_wp2_with fail
     go_roundw
     case rel => exact ⟨i + 1, .slice pv lv cv, _, rfl, by omega, by go_num, HR.out.1, HR.out.2.1, HR.out.2.2⟩
     case measure => simp [intOf]; omega
    ·obtain rfl : i = l12 := by omega
     rw [List.take_of_length_le (by have := L12.out; omega)] at hg
     obtain ⟨p12, d12, g12, rfl, hs, hf⟩ := hg.sl
     rw [← L12.out] at hs E3
     have e3 := cellsOf E3.out; have m3' := ltOf E3.out; have e2 := cellsOf E2.out; have m2 := ltOf E2.out; have fz2 := q0c E2.out
     have hq := q5w (.int .i64 x.sH.gS) (.int .i64 x.sH.column) (.int .i64 x.sH.data) (.int .i64 x.sH.sR) (.int .i64 x.sH.rows) (.int .i64 x.sH.cap) (.int .i64 x.sH.bT) (.int .i64 x.sH.qU) (.int .i64 x.sH.sG) (.slice p10 k d10) (.slice p11 l11 d11) (.slice p12 i d12) (.int .i64 x.wT) (.int .i64 x.stop) (.bool x.down) E2.out
     have cS : Chg [w.heap.size + 1] wt (((((((((((((((wt.setCell ⟨w.heap.size + 1, 0, none⟩ (.int .i64 x.sH.gS)).setCell ⟨w.heap.size + 1, 1, none⟩ (.int .i64 x.sH.column)).setCell ⟨w.heap.size + 1, 2, none⟩ (.int .i64 x.sH.data)).setCell ⟨w.heap.size + 1, 3, none⟩ (.int .i64 x.sH.sR)).setCell ⟨w.heap.size + 1, 4, none⟩ (.int .i64 x.sH.rows)).setCell ⟨w.heap.size + 1, 5, none⟩ (.int .i64 x.sH.cap)).setCell ⟨w.heap.size + 1, 6, none⟩ (.int .i64 x.sH.bT)).setCell ⟨w.heap.size + 1, 7, none⟩ (.int .i64 x.sH.qU)).setCell ⟨w.heap.size + 1, 8, none⟩ (.int .i64 x.sH.sG)).setCell ⟨w.heap.size + 1, 9, none⟩ (.slice p10 k d10)).setCell ⟨w.heap.size + 1, 10, none⟩ (.slice p11 l11 d11)).setCell ⟨w.heap.size + 1, 11, none⟩ (.slice p12 i d12)).setCell ⟨w.heap.size + 1, 12, none⟩ (.int .i64 x.wT)).setCell ⟨w.heap.size + 1, 13, none⟩ (.int .i64 x.stop)).setCell ⟨w.heap.size + 1, 14, none⟩ (.bool x.down)) := chg15 (.int .i64 x.sH.gS) (.int .i64 x.sH.column) (.int .i64 x.sH.data) (.int .i64 x.sH.sR) (.int .i64 x.sH.rows) (.int .i64 x.sH.cap) (.int .i64 x.sH.bT) (.int .i64 x.sH.qU) (.int .i64 x.sH.sG) (.slice p10 k d10) (.slice p11 l11 d11) (.slice p12 i d12) (.int .i64 x.wT) (.int .i64 x.stop) (.bool x.down) (Chg.refl _ wt) (.inl (by simp))
     have s1 := HGR.out.2.2.size
     have n11 := fun T (hT : ∀ b ∈ T, b < w.heap.size + 3) => HON.out.2.nots T hT
     have n10 := fun T (hT : ∀ b ∈ T, b < w1.heap.size) => HGR.out.2.1.nots T hT
     have K10 := drvL.slice.sl_chg (drvL.slice.sl_chg HGR.out.1 hc (n10 _ (by simp; omega))) cS (n10 _ (by simp; omega))
     have K11 := intL.sl_chg (intL.sl_chg (intL.sl_chg HON.out.1 HGR.out.2.2 (n11 _ (by simp))) hc (n11 _ (by simp))) cS (n11 _ (by simp))
     have K12 := tapL.sl_chg hs cS (hf.nots _ (by simp; omega))
     have FF := q1c.swap (((((HON.out.2.chg HGR.out.2.2).chg hc).chg cS).append (((HGR.out.2.1.chg hc).chg cS).append (hf.chg cS) HGR.out.2.1.lts s1) HON.out.2.lts (by omega)).mono (C := w.heap.size) (by omega))
     have hch : Chg [] w _ := hcw2.trans cS (fun y hy => .inr (by rw [List.mem_singleton] at hy; omega))
     obtain ⟨o1, o2, o3, o4, o5, o6, o7, o8, o9, o13, o14⟩ := HO.out
     have HN := hid (show q2l wldL x w (.returned (.agg #[.int .i64 x.sH.gS, .int .i64 x.sH.column, .int .i64 x.sH.data, .int .i64 x.sH.sR, .int .i64 x.sH.rows, .int .i64 x.sH.cap, .int .i64 x.sH.bT, .int .i64 x.sH.qU, .int .i64 x.sH.sG, .slice p10 k d10, .slice p11 l11 d11, .slice p12 i d12, .int .i64 x.wT, .int .i64 x.stop, .bool x.down])) _ from ⟨_, _, rfl, q0x.2 ⟨p10, k, d10, g10, p11, l11, d11, g11, p12, i, d12, g12, rfl, o1, o2, o3, o4, o5, o6, o7, o8, o9, K10, K11, K12, o13, o14, rfl⟩, FF, hch⟩)
     have HQC := hid (cellsOf hq)
     clear hs hf hb3 hc hg hq cS s1 n11 n10 K10 K11 K12 FF hch hcw hcw2 o1 o2 o3 o4 o5 o6 o7 o8 o9 o13 o14
     go_wp2_with fail
     have hqc := HQC.out
     refine bodyPost_ret (v := .agg #[.int .i64 x.sH.gS, .int .i64 x.sH.column, .int .i64 x.sH.data, .int .i64 x.sH.sR, .int .i64 x.sH.rows, .int .i64 x.sH.cap, .int .i64 x.sH.bT, .int .i64 x.sH.qU, .int .i64 x.sH.sG, .slice p10 k d10, .slice p11 l11 d11, .slice p12 i d12, .int .i64 x.wT, .int .i64 x.stop, .bool x.down]) (by simp [results, Tryz.results80, go_sem, hqc]) rfl HN.out
end Go.Proofs.YtphmpimgbmedbaaGreat
