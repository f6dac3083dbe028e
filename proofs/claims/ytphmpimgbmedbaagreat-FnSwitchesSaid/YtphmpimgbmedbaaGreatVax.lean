/- Several texts in one. -/
import Derived.Test.YtphmpimgbmedbaaGreatVaw
import Derived.Test.YtphmpimgbmedbaaGreatVar
set_option maxRecDepth 100000
set_option maxHeartbeats 8000000
namespace Go.Proofs.YtphmpimgbmedbaaGreat
open Go.RowKit
open Go.Lib (hid)
theorem q6u {x : Wld} (h : x.up = 0) : x.fault = 0 ∧ x.down = false ∧ x.built ∧ x.nums ∧ x.sH.ok := by
 have hf : x.fault = 0 := by
  unfold Wld.up at h
  split at h
  ·assumption
  ·exact h
 have hd : x.down = false := by
  unfold Wld.up at h
  rw [if_pos hf] at h
  cases hd : x.down
  ·rfl
  ·rw [if_pos hd] at h; omega
 refine ⟨hf, hd, Classical.byContradiction (fun hn => ?_), Classical.byContradiction (fun hn => ?_), rows_ok hf⟩
 ·unfold Wld.fault at hf
  rw [q0g (P := x.built ∧ x.onOk ∧ x.tapes.length = 2) (fun g => hn g.1)] at hf
  split at hf <;> simp at hf
 ·unfold Wld.fault at hf
  rw [q0g (P := x.nums) hn] at hf
  simp only [Bool.false_eq_true, if_false] at hf
  split at hf
  ·split at hf
   ·split at hf
    ·omega
    ·contradiction
   ·omega
  ·omega
theorem slc_mod {α : Type} {M : Lay α} {w : World} {b off len cap : Nat} {xs : List (List α)} {fp : List Nat} (h : M.slice.sl w (some ⟨b, off, none⟩) len cap xs fp) (nd : fp.Nodup) {i : Nat} (hi : i < len) :
  ∃ x A l C f, xs[i]? = some x ∧ w.cell? ⟨b, off + i, none⟩ = some (.slice A l C) ∧ M.sl w A l C x f ∧ (∀ y ∈ f, y ∈ fp) ∧ f.Nodup ∧ b ∉ f ∧ b ∈ fp ∧
   ∀ w' x' f', M.sl w' A l C x' f' → f'.Nodup → (∀ y ∈ f', y ∈ f ∨ y ∉ fp) → (∀ y ∈ fp, y ∉ f → w'.heap[y]? = w.heap[y]?) →
    ∃ fp', M.slice.sl w' (some ⟨b, off, none⟩) len cap (xs.set i x') fp' ∧ fp'.Nodup ∧ ∀ y ∈ fp', (y ∈ fp ∧ y ∉ f) ∨ y ∈ f' := by
 obtain ⟨x, c, f, hx, hb, hc, ⟨A, l, C, rfl, hs⟩, hf, hfn, hbf, hup⟩ := M.slice.sl_modN h nd hi
 have h0 := hc 0 M.slice.pos
 rw [show off + i * M.slice.n + 0 = off + i by simp [Lay.slice]] at h0
 exact ⟨x, A, l, C, f, hx, h0, hs, hf, hfn, hbf, hb, fun w' x' f' h1 => hup w' x' f' ⟨A, l, C, rfl, h1⟩⟩
theorem q9k {x : Wld} {g d r : Int} {y : Blk} (h : ¬ x.up = 0) : q1q x g d r y = ⟨x.up, zWld⟩ := if_pos h
theorem q5s {x : Wld} {g d r : Int} {y : Blk} (h : x.up = 0) (h2 : ¬ ((0 ≤ g ∧ g ≤ x.sH.all - 1) ∧ (0 ≤ d ∧ d ≤ x.sH.drives - 1) ∧ (0 ≤ r ∧ r ≤ x.sH.rows - 1))) : q1q x g d r y = ⟨3, zWld⟩ := by unfold q1q; rw [if_neg (fun g => g h), if_pos (q0g (P := x.isGroup g ∧ x.isDrive d ∧ x.isRow r) h2)]
theorem q6l {x : Wld} {g d r : Int} {y : Blk} (h : x.up = 0) (h2 : ((0 ≤ g ∧ g ≤ x.sH.all - 1) ∧ (0 ≤ d ∧ d ≤ x.sH.drives - 1) ∧ (0 ≤ r ∧ r ≤ x.sH.rows - 1))) (h3 : ¬ y.ok) : q1q x g d r y = ⟨1, zWld⟩ := by unfold q1q; rw [if_neg (fun g => g h), if_neg (by rw [q0h (P := x.isGroup g ∧ x.isDrive d ∧ x.isRow r) h2]; simp), if_pos (q0g h3)]
theorem q9i {x : Wld} {g d r : Int} {y : Blk} (h : x.up = 0) (h2 : ((0 ≤ g ∧ g ≤ x.sH.all - 1) ∧ (0 ≤ d ∧ d ≤ x.sH.drives - 1) ∧ (0 ≤ r ∧ r ≤ x.sH.rows - 1))) (h3 : y.ok) (h4 : ¬ g ∈ x.on) : q1q x g d r y = ⟨8, zWld⟩ := by unfold q1q; rw [if_neg (fun g => g h), if_neg (by rw [q0h (P := x.isGroup g ∧ x.isDrive d ∧ x.isRow r) h2]; simp), if_neg (by rw [q0h h3]; simp), if_pos (q0g h4)]
theorem q8l {x : Wld} {g d r : Int} {y : Blk} (h : x.up = 0) (h2 : ((0 ≤ g ∧ g ≤ x.sH.all - 1) ∧ (0 ≤ d ∧ d ≤ x.sH.drives - 1) ∧ (0 ≤ r ∧ r ≤ x.sH.rows - 1))) (h3 : y.ok) (h4 : g ∈ x.on) (h5 : x.stop ≠ -1 ∧ x.stop ≤ x.wT) : q1q x g d r y = ⟨9, x.cut⟩ := by unfold q1q; rw [if_neg (fun g => g h), if_neg (by rw [q0h (P := x.isGroup g ∧ x.isDrive d ∧ x.isRow r) h2]; simp), if_neg (by rw [q0h h3]; simp), if_neg (by rw [q0h h4]; simp)]; exact if_pos h5
theorem writeR_ok {x : Wld} {g d r : Nat} {y : Blk} {G : List Drv} {D : Drv} (h : x.up = 0) (h2 : (0 ≤ (g : Int) ∧ (g : Int) ≤ x.sH.all - 1) ∧ (0 ≤ (d : Int) ∧ (d : Int) ≤ x.sH.drives - 1) ∧ (0 ≤ (r : Int) ∧ (r : Int) ≤ x.sH.rows - 1)) (h3 : y.ok) (h4 : (g : Int) ∈ x.on) (h5 : ¬ (x.stop ≠ -1 ∧ x.stop ≤ x.wT)) (hG : x.gS[g]? = some G) (hD : G[d]? = some D) : q1q x g d r y = ⟨0, { x with gS := x.gS.set g (G.set d { D with blocks := D.blocks.set r y }), wT := x.wT + 1 }⟩ := by
 unfold q1q
 rw [if_neg (fun g => g h), if_neg (by rw [q0h (P := x.isGroup g ∧ x.isDrive d ∧ x.isRow r) h2]; simp), if_neg (by rw [q0h h3]; simp), if_neg (by rw [q0h h4]; simp)]
 unfold Wld.raw
 rw [if_neg h5]
 have hG2 : x.gS.getD g [] = G := by rw [List.getD_eq_getElem?_getD, hG]; rfl
 have hD2 : G.getD d ⟨false, []⟩ = D := by rw [List.getD_eq_getElem?_getD, hD]; rfl
 show (⟨0, { x with gS := x.gS.set g ((x.gS.getD g []).set d { ((x.gS.getD g []).getD d ⟨false, []⟩) with blocks := ((x.gS.getD g []).getD d ⟨false, []⟩).blocks.set r y }), wT := x.wT + 1 }⟩ : WRes) = _
 rw [hG2, hD2]
theorem q5q (x : Wld) (cx : Array Value) (fx : List Nat) (g : Int) (d : Int) (r : Int) (y : Blk) (cy : Array Value) (fy : List Nat) (w : World) (hx : wldL.rep w cx.toList x fx) (hz : q1u x ≤ 1048576) (og : q0q g) (od : q0q d) (or : q0q r) (hy : blkL.rep w cy.toList y fy) (hzy : q2s y ≤ 1048576) :
  Calls Tryz.prog 57 #[.agg cx, .int .i64 g, .int .i64 d, .int .i64 r, .agg cy] w (q2l wrsL (q1q x g d r y) w) := by
 obtain ⟨a10, l10, c10, _, a11, l11, c11, f11, a12, l12, c12, _, ex, -, -, -, -, -, -, -, -, -, h10, h11, h12, oo13, oo14, -⟩ := q0x.1 hx
 obtain rfl := Array.toList_inj.1 (ex.trans (List.toList_toArray).symm)
 have HW := hid hx; have HZ := hid hz; have H10 := hid h10; have H11 := hid h11; have H12 := hid h12; have HOO := hid (And.intro oo13 oo14)
 have hl11 : l11 ≤ 1048576 := by have h := h11.1; have q10 := q0s (q0s q0w) x.gS; have q12 := q0s q1e x.tapes; unfold q1u q3z at hz; omega
 clear hx ex hz h10 h11 h12 oo13 oo14
 obtain ⟨ab, lb, cb, fb, exy, oky, hbb, -⟩ := q1s.1 hy
 obtain rfl := Array.toList_inj.1 (exy.trans (List.toList_toArray).symm)
 have hlb : lb ≤ 1048576 := by have := hbb.1; unfold q2s q5m at hzy; omega
 have HY := hid hy; have HBB := hid hbb; have HOY := hid oky; have HZY := hid hzy
 clear hy exy oky hbb hzy
 have G0 := hid (show Chg [] w (((w.alloc (.cells #[.int .i64 x.sH.gS, .int .i64 x.sH.column, .int .i64 x.sH.data, .int .i64 x.sH.sR, .int .i64 x.sH.rows, .int .i64 x.sH.cap, .int .i64 x.sH.bT, .int .i64 x.sH.qU, .int .i64 x.sH.sG, .slice a10 l10 c10, .slice a11 l11 c11, .slice a12 l12 c12, .int .i64 x.wT, .int .i64 x.stop, .bool x.down] 34)).alloc (.cells #[.int .i64 y.sM, .slice ab lb cb] 76)).alloc (.cells #[.int .i64 0, .int .i64 0, .int .i64 0, .int .i64 0, .int .i64 0, .int .i64 0, .int .i64 0, .int .i64 0, .int .i64 0, .int .i64 0, .slice none 0 0, .slice none 0 0, .slice none 0 0, .int .i64 0, .int .i64 0, .bool false] 36)) from (Chg.alloc (Chg.alloc (Chg.alloc (Chg.refl [] w) _) _) _))
 have B0 := hid (show (((w.alloc (.cells #[.int .i64 x.sH.gS, .int .i64 x.sH.column, .int .i64 x.sH.data, .int .i64 x.sH.sR, .int .i64 x.sH.rows, .int .i64 x.sH.cap, .int .i64 x.sH.bT, .int .i64 x.sH.qU, .int .i64 x.sH.sG, .slice a10 l10 c10, .slice a11 l11 c11, .slice a12 l12 c12, .int .i64 x.wT, .int .i64 x.stop, .bool x.down] 34)).alloc (.cells #[.int .i64 y.sM, .slice ab lb cb] 76)).alloc (.cells #[.int .i64 0, .int .i64 0, .int .i64 0, .int .i64 0, .int .i64 0, .int .i64 0, .int .i64 0, .int .i64 0, .int .i64 0, .int .i64 0, .slice none 0 0, .slice none 0 0, .slice none 0 0, .int .i64 0, .int .i64 0, .bool false] 36)).heap[w.heap.size]? = some (.cells #[.int .i64 x.sH.gS, .int .i64 x.sH.column, .int .i64 x.sH.data, .int .i64 x.sH.sR, .int .i64 x.sH.rows, .int .i64 x.sH.cap, .int .i64 x.sH.bT, .int .i64 x.sH.qU, .int .i64 x.sH.sG, .slice a10 l10 c10, .slice a11 l11 c11, .slice a12 l12 c12, .int .i64 x.wT, .int .i64 x.stop, .bool x.down] 34 (0, 0)) from q0b (q0b (q0j w _) _) _)
 have B1 := hid (show (((w.alloc (.cells #[.int .i64 x.sH.gS, .int .i64 x.sH.column, .int .i64 x.sH.data, .int .i64 x.sH.sR, .int .i64 x.sH.rows, .int .i64 x.sH.cap, .int .i64 x.sH.bT, .int .i64 x.sH.qU, .int .i64 x.sH.sG, .slice a10 l10 c10, .slice a11 l11 c11, .slice a12 l12 c12, .int .i64 x.wT, .int .i64 x.stop, .bool x.down] 34)).alloc (.cells #[.int .i64 y.sM, .slice ab lb cb] 76)).alloc (.cells #[.int .i64 0, .int .i64 0, .int .i64 0, .int .i64 0, .int .i64 0, .int .i64 0, .int .i64 0, .int .i64 0, .int .i64 0, .int .i64 0, .slice none 0 0, .slice none 0 0, .slice none 0 0, .int .i64 0, .int .i64 0, .bool false] 36)).heap[w.heap.size + 1]? = some (.cells #[.int .i64 y.sM, .slice ab lb cb] 76 (0, 0)) from q0b (q0e (by simp) _) _)
 have B2 := hid (show (((w.alloc (.cells #[.int .i64 x.sH.gS, .int .i64 x.sH.column, .int .i64 x.sH.data, .int .i64 x.sH.sR, .int .i64 x.sH.rows, .int .i64 x.sH.cap, .int .i64 x.sH.bT, .int .i64 x.sH.qU, .int .i64 x.sH.sG, .slice a10 l10 c10, .slice a11 l11 c11, .slice a12 l12 c12, .int .i64 x.wT, .int .i64 x.stop, .bool x.down] 34)).alloc (.cells #[.int .i64 y.sM, .slice ab lb cb] 76)).alloc (.cells #[.int .i64 0, .int .i64 0, .int .i64 0, .int .i64 0, .int .i64 0, .int .i64 0, .int .i64 0, .int .i64 0, .int .i64 0, .int .i64 0, .slice none 0 0, .slice none 0 0, .slice none 0 0, .int .i64 0, .int .i64 0, .bool false] 36)).heap[w.heap.size + 2]? = some (.cells #[.int .i64 0, .int .i64 0, .int .i64 0, .int .i64 0, .int .i64 0, .int .i64 0, .int .i64 0, .int .i64 0, .int .i64 0, .int .i64 0, .slice none 0 0, .slice none 0 0, .slice none 0 0, .int .i64 0, .int .i64 0, .bool false] 36 (0, 0)) from q0e (by simp) _)
 go_enter Tryz.func57, Tryz.ntmps57
 obtain ⟨q, hq⟩ : ∃ q, q = x.up := ⟨_, rfl⟩
 have HQ := hid hq; clear hq
 go_wp2_with (first | (refine q0k rfl _ 34 rfl rfl q0v Tryz.underlying34 B0.out rfl ?_))
 refine (q5b x #[.int .i64 x.sH.gS, .int .i64 x.sH.column, .int .i64 x.sH.data, .int .i64 x.sH.sR, .int .i64 x.sH.rows, .int .i64 x.sH.cap, .int .i64 x.sH.bT, .int .i64 x.sH.qU, .int .i64 x.sH.sG, .slice a10 l10 c10, .slice a11 l11 c11, .slice a12 l12 c12, .int .i64 x.wT, .int .i64 x.stop, .bool x.down] fx _ (wldL.ext HW.out G0.out)).mono ?_
 rintro e w1 ⟨rfl, hc⟩
 rw [← HQ.out]
 obtain ⟨c0, n0, A0_1⟩ := bk0 hc B0.out
 obtain ⟨c1, n1, A1_1⟩ := bk0 hc B1.out
 obtain ⟨c2, n2, A2_1⟩ := bk0 hc B2.out
 have G1 := hid (G0.out.trans0 hc)
 have fz := q0c A2_1.out
 clear hc
 have hqk : q0q q := by rw [HQ.out]; exact q9m x
 by_cases hq0 : q = 0
 ·subst hq0
  have hf0 : x.up = 0 := HQ.out.symm
  obtain ⟨-, hdn0, hbt0, hnu0, hok⟩ := q6u hf0
  have hdn := hid hdn0; have HBT := hid hbt0; have HNU := hid hnu0; clear hdn0 hbt0 hnu0
  by_cases hg : 0 ≤ g ∧ g ≤ x.sH.all - 1
  ·have HIg := hid (show inB g 0 (x.sH.all - 1) = true by simp [inB, hg.1, hg.2])
   go_wp2_with (first | (refine q0k rfl _ 34 rfl rfl q0v Tryz.underlying34 A0_1.out rfl ?_))
   refine (q2c x.sH hok g _).mono ?_
   rintro e w2 ⟨rfl, hc⟩
   rw [HIg.out]
   clear c0 n0
   obtain ⟨c0, n0, A0_2⟩ := bk0 hc A0_1.out
   clear c1 n1
   obtain ⟨c1, n1, A1_2⟩ := bk0 hc A1_1.out
   clear c2 n2
   obtain ⟨c2, n2, A2_2⟩ := bk0 hc A2_1.out
   have G2 := hid (G1.out.trans0 hc)
   clear fz; have fz := q0c A2_2.out
   clear hc
   by_cases hd : 0 ≤ d ∧ d ≤ x.sH.drives - 1
   ·have HId := hid (show inB d 0 (x.sH.drives - 1) = true by simp [inB, hd.1, hd.2])
    go_wp2_with (first | (refine q0k rfl _ 34 rfl rfl q0v Tryz.underlying34 A0_2.out rfl ?_))
    refine (q3q x.sH hok d _).mono ?_
    rintro e w3 ⟨rfl, hc⟩
    rw [HId.out]
    clear c0 n0
    obtain ⟨c0, n0, A0_3⟩ := bk0 hc A0_2.out
    clear c1 n1
    obtain ⟨c1, n1, A1_3⟩ := bk0 hc A1_2.out
    clear c2 n2
    obtain ⟨c2, n2, A2_3⟩ := bk0 hc A2_2.out
    have G3 := hid (G2.out.trans0 hc)
    clear fz; have fz := q0c A2_3.out
    clear hc
    by_cases hr : 0 ≤ r ∧ r ≤ x.sH.rows - 1
    ·have HIr := hid (show inB r 0 (x.sH.rows - 1) = true by simp [inB, hr.1, hr.2])
     go_wp2_with (first | (refine q0k rfl _ 34 rfl rfl q0v Tryz.underlying34 A0_3.out rfl ?_))
     refine (q4o x.sH hok r _).mono ?_
     rintro e w4 ⟨rfl, hc⟩
     rw [HIr.out]
     clear c0 n0
     obtain ⟨c0, n0, A0_4⟩ := bk0 hc A0_3.out
     clear c1 n1
     obtain ⟨c1, n1, A1_4⟩ := bk0 hc A1_3.out
     clear c2 n2
     obtain ⟨c2, n2, A2_4⟩ := bk0 hc A2_3.out
     have G4 := hid (G3.out.trans0 hc)
     clear fz; have fz := q0c A2_4.out
     clear hc
     have h2 := And.intro hg (And.intro hd hr)
     by_cases hyo : y.ok
     ·go_wp2_with (first | (refine q0k rfl _ 34 rfl rfl q0v Tryz.underlying34 A0_4.out rfl ?_))
      refine (q6q y ab lb cb fy _ (blkL.ext HY.out G4.out)).mono ?_
      rintro e w5 ⟨rfl, hc⟩
      rw [q0h hyo]
      clear c0 n0
      obtain ⟨c0, n0, A0_5⟩ := bk0 hc A0_4.out
      clear c1 n1
      obtain ⟨c1, n1, A1_5⟩ := bk0 hc A1_4.out
      clear c2 n2
      obtain ⟨c2, n2, A2_5⟩ := bk0 hc A2_4.out
      have G5 := hid (G4.out.trans0 hc)
      clear fz; have fz := q0c A2_5.out
      clear hc
      by_cases hon : g ∈ x.on
      ·go_wp2_with (first | (refine q0k rfl _ 34 rfl rfl q0v Tryz.underlying34 A0_5.out rfl ?_))
       refine (q2d w.heap.size a11 l11 c11 x.on f11 g _ A0_5.out (intL.sl_ext H11.out G5.out)).mono ?_
       rintro e w' ⟨rfl, rfl⟩
       rw [q0h hon]
       go_wp2_with (first | (refine q0k rfl _ 34 rfl rfl q0v Tryz.underlying34 A0_5.out rfl ?_))
       refine (q6j x #[.int .i64 x.sH.gS, .int .i64 x.sH.column, .int .i64 x.sH.data, .int .i64 x.sH.sR, .int .i64 x.sH.rows, .int .i64 x.sH.cap, .int .i64 x.sH.bT, .int .i64 x.sH.qU, .int .i64 x.sH.sG, .slice a10 l10 c10, .slice a11 l11 c11, .slice a12 l12 c12, .int .i64 x.wT, .int .i64 x.stop, .bool x.down] fx _ (wldL.ext HW.out G5.out) HZ.out).mono ?_
       rintro e w6 ⟨cs2, f2, rfl, hs, hf, hc⟩
       obtain ⟨p10, m10, d10, g10, p11, m11, d11, g11, p12, m12, d12, g12, ex, o1, o2, o3, o4, o5, o6, o7, o8, o9, K10, K11, K12, o13, o14, rfl⟩ := q0x.1 hs
       obtain rfl := Array.toList_inj.1 (ex.trans (List.toList_toArray).symm)
       have HO := hid (And.intro o1 (And.intro o2 (And.intro o3 (And.intro o4 (And.intro o5 (And.intro o6 (And.intro o7 (And.intro o8 (And.intro o9 (And.intro o13 o14))))))))))
       have HK := hid (And.intro K10 (And.intro K11 K12)); have HF := hid hf; have HFn := hid (fun b hb => (hf.2 b hb).1); have nR0 := n2
       clear hs ex K10 K11 K12 o1 o2 o3 o4 o5 o6 o7 o8 o9 o13 o14 hf
       clear c0 n0
       obtain ⟨c0, n0, A0_6⟩ := bk0 hc A0_5.out
       clear c1 n1
       obtain ⟨c1, n1, A1_6⟩ := bk0 hc A1_5.out
       clear c2 n2
       obtain ⟨c2, n2, A2_6⟩ := bk0 hc A2_5.out
       have G6 := hid (G5.out.trans0 hc)
       clear fz; have fz := q0c A2_6.out
       clear hc
       go_upto_region 11 with (refine q0p rfl _ _ 34 rfl rfl rfl q0v (q0j _ _) rfl rfl rfl ?_; intro w7 hm hc0)
       have hc : Chg [] w6 w7 := ((Chg.refl [] w6).alloc _).trans hc0 (fun y hy => .inr (by rw [List.mem_singleton] at hy; omega)); clear hc0
       have HM := hid hm; have cm := cellsOf hm; have nm := ltOf hm; have fm := q0c hm; have nR : w.heap.size + 2 < w6.heap.size := n2; clear hm
       have hF := HF.out.lts; have HKe := hid (And.intro (drvL.slice.sl_ext HK.out.1 hc) (And.intro (intL.sl_ext HK.out.2.1 hc) (tapL.sl_ext HK.out.2.2 hc))); have HFe := hid ((HF.out.mono (C := w.heap.size) G5.out.size).chg hc)
       have HFl := hid hF; clear hF
       clear c0 n0
       obtain ⟨c0, n0, A0_7⟩ := bk0 hc A0_6.out
       clear c1 n1
       obtain ⟨c1, n1, A1_7⟩ := bk0 hc A1_6.out
       clear c2 n2
       obtain ⟨c2, n2, A2_7⟩ := bk0 hc A2_6.out
       have G7 := hid (G6.out.trans0 hc)
       clear fz; have fz := q0c A2_7.out
       clear hc
       by_cases hst : x.stop ≠ -1 ∧ x.stop ≤ x.wT
       ·have HST := hid hst; clear hst
        go_wp2_with fail
        refine (writeb_fail w6.heap.size g d r ab lb cb y.sM w7 HM.out HST.out.1 HST.out.2).mono ?_
        rintro e w7 ⟨rfl, hm, hc⟩
        have hR := hid (hc.keepb A2_7.out (by simp; omega))
        have hnm : ∀ y ∈ g10 ++ (g11 ++ (g12 ++ [])), y ∉ [w6.heap.size] := fun y hy hm => by have := HFl.out y hy; rw [List.mem_singleton] at hm; omega
        obtain ⟨o1, o2, o3, o4, o5, o6, o7, o8, o9, o13, o14⟩ := HO.out
        have hsub : (g10 ++ ([] ++ (g12 ++ []))).Sublist (g10 ++ (g11 ++ (g12 ++ []))) := (List.Sublist.refl g10).append ((List.nil_sublist g11).append (List.Sublist.refl _))
        have HE := hid (And.intro (show wldL.rep w7 [.int .i64 x.sH.gS, .int .i64 x.sH.column, .int .i64 x.sH.data, .int .i64 x.sH.sR, .int .i64 x.sH.rows, .int .i64 x.sH.cap, .int .i64 x.sH.bT, .int .i64 x.sH.qU, .int .i64 x.sH.sG, .slice p10 m10 d10, .slice none 0 0, .slice p12 m12 d12, .int .i64 x.wT, .int .i64 x.stop, .bool true] _ _ from (q0x.2 ⟨p10, m10, d10, g10, none, 0, 0, [], p12, m12, d12, g12, rfl, o1, o2, o3, o4, o5, o6, o7, o8, o9, drvL.slice.sl_chg HKe.out.1 hc (fun y hy => hnm y (by simp [hy])), q5d _ _, tapL.sl_chg HKe.out.2.2 hc (fun y hy => hnm y (by simp [hy])), o13, o14, rfl⟩ : wldL.rep _ _ x.cut _)) (And.intro (show q1c w.heap.size w7 (g10 ++ ([] ++ (g12 ++ []))) from (HFe.out.chg hc).sub hsub) (And.intro (show Chg [] w w7 from G7.out.trans hc (fun y hy => .inr (by rw [List.mem_singleton] at hy; omega))) (show w.heap.size + 2 ∉ g10 ++ ([] ++ (g12 ++ [])) from fun hy => by have := HFn.out _ (hsub.subset hy); omega))))
        have HRR := hid hR.out; have HMR := hid (show w7.heap[w6.heap.size]? = some (.cells #[.int .i64 x.sH.gS, .int .i64 x.sH.column, .int .i64 x.sH.data, .int .i64 x.sH.sR, .int .i64 x.sH.rows, .int .i64 x.sH.cap, .int .i64 x.sH.bT, .int .i64 x.sH.qU, .int .i64 x.sH.sG, .slice p10 m10 d10, .slice none 0 0, .slice p12 m12 d12, .int .i64 x.wT, .int .i64 x.stop, .bool true] 34 (0, 0)) from hm)
        clear o1 o2 o3 o4 o5 o6 o7 o8 o9 o13 o14 hc hnm hsub hm cm nm fm
        go_wp2_with (refine q0k rfl _ 34 rfl rfl q0v Tryz.underlying34 HMR.out rfl ?_)
        refine (wrote_false _ _ _ _ _ _ _ _ _ _ _ _ _ _ _ _ _ _ _ _ _ _).mono ?_
        rintro e w8 ⟨rfl, hc8⟩
        have HE8 := hid (And.intro (wldL.ext HE.out.1 hc8) (And.intro (HE.out.2.1.chg hc8) (And.intro (HE.out.2.2.1.trans0 hc8) HE.out.2.2.2))); have HR8 := hid (hc8.keep0 HRR.out); clear hc8
        go_wp2_with (first | (refine q0p rfl _ _ 36 rfl rfl rfl q1f HR8.out rfl rfl rfl ?_; intro w9 hb9 hc9; have HB9 := hid hb9; have HC9 := hid hc9; clear hb9 hc9))
        refine bodyPost_ret (v := .agg #[.int .i64 9, .int .i64 x.sH.gS, .int .i64 x.sH.column, .int .i64 x.sH.data, .int .i64 x.sH.sR, .int .i64 x.sH.rows, .int .i64 x.sH.cap, .int .i64 x.sH.bT, .int .i64 x.sH.qU, .int .i64 x.sH.sG, .slice p10 m10 d10, .slice none 0 0, .slice p12 m12 d12, .int .i64 x.wT, .int .i64 x.stop, .bool true]) (q0m _ _ Tryz.results57 rfl q1f Tryz.underlying36 HB9.out rfl) rfl (fin9 9 ⟨by omega, by omega⟩ (q1q x g d r y) (q8l hf0 h2 hyo hon HST.out) HE8.out.1 rfl HE8.out.2.1 HE8.out.2.2.1 HC9.out HE8.out.2.2.2 (by omega))
       ·have HST := hid hst; clear hst
        obtain ⟨tg, rfl⟩ : ∃ t : Nat, g = t := ⟨g.toNat, by omega⟩
        obtain ⟨td, rfl⟩ : ∃ t : Nat, d = t := ⟨d.toNat, by omega⟩
        obtain ⟨tr, rfl⟩ : ∃ t : Nat, r = t := ⟨r.toNat, by omega⟩
        have htg : tg < m10 := by have h1 := HKe.out.1.1; have h2 := HBT.out.1; omega
        obtain ⟨-, b, off, -, -, -, -, -, rfl, -, -⟩ := q4u HKe.out.1 htg
        have nd := List.nodup_append.1 HFe.out.1
        obtain ⟨G, A, l, C, f, hGx, hcx, hGS, hfs, hfn, hbf, hb10, hup⟩ := slc_mod HKe.out.1 nd.1 htg
        have hGo := HBT.out.2 G (List.mem_of_getElem? hGx)
        have htd : td < l := by have h1 := hGS.1; have h2 := hGo.1; omega
        obtain ⟨-, b2, off2, -, -, -, -, -, rfl, -, -, -⟩ := q3j hGS htd
        obtain ⟨D, A2, l2, C2, f2, hDx, -, hcd, hBS, hfs2, hfn2, hbf2, hb2, hup2⟩ := drv_mod hGS hfn htd
        have htr : tr < l2 := by have h1 := hBS.1; have h2 := (hGo.2 D (List.mem_of_getElem? hDx)).1; omega
        obtain ⟨B, b3, off3, a3, l3, c3, f3, HY3, rfl, hz0, hz1, -⟩ := q3s hBS htr
        have hb3 : b3 ∈ f2 := HY3.out.2.1
        have hb310 : b3 ∈ g10 := hfs b3 (hfs2 b3 hb3)
        have hb3m := HFl.out b3 (by simp [hb310]); have hbm := HFl.out b (by simp [hb10]); have hb2m := HFl.out b2 (by simp [hfs b2 hb2]); have hbn3 := HFn.out b3 (by simp [hb310])
        have hbl : b < w7.heap.size := Nat.lt_trans hbm nm; have hbl2 : b2 < w7.heap.size := Nat.lt_trans hb2m nm
        have hlo := (HFe.out.2 b3 (by simp [hb310])).2
        have hsto : x.stop = -1 ∨ x.stop ≠ -1 ∧ x.wT < x.stop := by have := HST.out; omega
        have hmb3 : ¬ w6.heap.size = b3 := by omega
        have hltg : ∀ y ∈ g10, y < w7.heap.size := fun y hy => Nat.lt_trans (HFl.out y (by simp [hy])) nm
        have hnmm : ∀ y ∈ g10 ++ (g11 ++ (g12 ++ [])), y ≠ w6.heap.size := fun y hy e => by have := HFl.out y hy; omega
        go_wp2_with fail
        refine (writeb_ok w6.heap.size b off b2 off2 b3 off3 tg td tr m10 d10 l C l2 C2 lb cb ab y.sM y.bytes fb w7 HM.out hsto HNU.out.1 hcx hcd htg htd htr hbl hbl2 hz0 hz1 hlo (fun e => hmb3 e.symm) (q0t.sl_ext HBB.out G7.out) hlb).mono ?_
        rintro e w7 ⟨rfl, p4, d4, g4, wz, hcz, h4s, h4f, rfl⟩
        have hcW : Chg [b3, w6.heap.size] w7 (((wz.setCell ⟨b3, off3 + tr * 2, none⟩ (.int .i64 y.sM)).setCell ⟨b3, off3 + tr * 2 + 1, none⟩ (.slice p4 lb d4)).setCell ⟨w6.heap.size, 12, none⟩ (.int .i64 (x.wT + 1))) := (((hcz.mono (T := [b3, w6.heap.size]) (by simp)).setCell _ _ (.inl (by simp))).setCell _ _ (.inl (by simp))).setCell _ _ (.inl (by simp))
        obtain ⟨fi, hSi, hsubi, hndi, -, -⟩ := blkL.sl_putN (blkL.sl_ext hBS hcz) hfn2 (i := tr) htr (vs := [.int .i64 y.sM, .slice p4 lb d4]) (x' := y) (f' := g4) (q1s.2 ⟨p4, lb, d4, g4, rfl, HOY.out, h4s, by simp⟩) (fun z hz hzf => absurd (h4f.2 z hz).1 (Nat.not_le.2 (hltg z (hfs z (hfs2 z hzf))))) h4f.1
        have hfil : ∀ z ∈ fi, z ≠ w6.heap.size := fun z hz e => by rcases hsubi z hz with h | h; exact hnmm z (by simp [hfs z (hfs2 z h)]) e; have := (h4f.2 z h).1; omega
        have hSW := blkL.sl_chg hSi ((Chg.refl [w6.heap.size] _).setCell ⟨w6.heap.size, 12, none⟩ (.int .i64 (x.wT + 1)) (.inl (by simp))) (fun z hz hm => hfil z hz (List.mem_singleton.1 hm))
        have hkeep : ∀ z ∈ g10, z ≠ b3 → (((wz.setCell ⟨b3, off3 + tr * 2, none⟩ (.int .i64 y.sM)).setCell ⟨b3, off3 + tr * 2 + 1, none⟩ (.slice p4 lb d4)).setCell ⟨w6.heap.size, 12, none⟩ (.int .i64 (x.wT + 1))).heap[z]? = w7.heap[z]? := fun z hz h => hcW.block z (hltg z hz) (fun hm => by simp only [List.mem_cons, List.not_mem_nil, or_false] at hm; rcases hm with e | e; exact h e; exact hnmm z (by simp [hz]) e)
        obtain ⟨fj, hSj, hndj, hsubj⟩ := hup2 (((wz.setCell ⟨b3, off3 + tr * 2, none⟩ (.int .i64 y.sM)).setCell ⟨b3, off3 + tr * 2 + 1, none⟩ (.slice p4 lb d4)).setCell ⟨w6.heap.size, 12, none⟩ (.int .i64 (x.wT + 1))) (D.blocks.set tr y) fi hSW hndi (fun z hz => by rcases hsubi z hz with h | h; exact .inl h; exact .inr (fun hf => absurd (h4f.2 z h).1 (Nat.not_le.2 (hltg z (hfs z hf))))) (fun z hz hzf => hkeep z (hfs z hz) (fun e => hzf (e ▸ hb3)))
        have hj : ∀ z ∈ fj, z ∈ f ∨ z ∈ g4 := fun z hz => by rcases hsubj z hz with ⟨h, -⟩ | h; exact .inl h; rcases hsubi z h with h | h; exact .inl (hfs2 z h); exact .inr h
        obtain ⟨fp', hS, hnd, hsub⟩ := hup (((wz.setCell ⟨b3, off3 + tr * 2, none⟩ (.int .i64 y.sM)).setCell ⟨b3, off3 + tr * 2 + 1, none⟩ (.slice p4 lb d4)).setCell ⟨w6.heap.size, 12, none⟩ (.int .i64 (x.wT + 1))) (G.set td { D with blocks := D.blocks.set tr y }) fj hSj hndj (fun z hz => by rcases hj z hz with h | h; exact .inl h; exact .inr (fun hg => absurd (h4f.2 z h).1 (Nat.not_le.2 (hltg z hg)))) (fun z hz hzf => hkeep z hz (fun e => hzf (e ▸ hfs2 b3 hb3)))
        have hp : ∀ z ∈ fp', z ∈ g10 ∨ z ∈ g4 := fun z hz => by rcases hsub z hz with ⟨h, -⟩ | h; exact .inl h; rcases hj z h with h | h; exact .inl (hfs z h); exact .inr h
        have hn11 : ∀ y ∈ g11, y ∉ [b3, w6.heap.size] := fun y hy hm => by simp only [List.mem_cons, List.not_mem_nil, or_false] at hm; rcases hm with h | h; exact nd.2.2 b3 hb310 y (by simp [hy]) h.symm; exact hnmm y (by simp [hy]) h
        have hn12 : ∀ y ∈ g12, y ∉ [b3, w6.heap.size] := fun y hy hm => by simp only [List.mem_cons, List.not_mem_nil, or_false] at hm; rcases hm with h | h; exact nd.2.2 b3 hb310 y (by simp [hy]) h.symm; exact hnmm y (by simp [hy]) h
        have hFW : q1c w.heap.size (((wz.setCell ⟨b3, off3 + tr * 2, none⟩ (.int .i64 y.sM)).setCell ⟨b3, off3 + tr * 2 + 1, none⟩ (.slice p4 lb d4)).setCell ⟨w6.heap.size, 12, none⟩ (.int .i64 (x.wT + 1))) (fp' ++ (g11 ++ (g12 ++ []))) := (HFe.out.chg hcW).swap1 hnd (fun z hz => by rcases hp z hz with h | h; exact .inl h; exact .inr ⟨fun hall => absurd (h4f.2 z h).1 (Nat.not_le.2 (Nat.lt_trans (HFl.out z hall) nm)), Nat.le_trans G7.out.size (h4f.2 z h).1, (((h4f.chg ((Chg.refl [b3] wz).setCell ⟨b3, off3 + tr * 2, none⟩ (.int .i64 y.sM) (.inl (by simp)))).chg ((Chg.refl [b3] _).setCell ⟨b3, off3 + tr * 2 + 1, none⟩ (.slice p4 lb d4) (.inl (by simp)))).chg ((Chg.refl [w6.heap.size] _).setCell ⟨w6.heap.size, 12, none⟩ (.int .i64 (x.wT + 1)) (.inl (by simp)))).2 z h |>.2⟩)
        have hRn : w.heap.size + 2 ∉ fp' ++ (g11 ++ (g12 ++ [])) := fun hy => by
         rcases List.mem_append.1 hy with hy | hy
         ·rcases hp _ hy with h | h
          ·have := HFn.out (w.heap.size + 2) (by simp [h]); omega
          ·have := (h4f.2 _ h).1; omega
         ·have := HFn.out (w.heap.size + 2) (by simp only [List.mem_append] at hy ⊢; exact .inr hy); omega
        obtain ⟨o1, o2, o3, o4, o5, o6, o7, o8, o9, o13, o14⟩ := HO.out
        have ow : q0q (x.wT + 1) := by have := HNU.out.1; constructor <;> omega
        have HE := hid (And.intro (show wldL.rep (((wz.setCell ⟨b3, off3 + tr * 2, none⟩ (.int .i64 y.sM)).setCell ⟨b3, off3 + tr * 2 + 1, none⟩ (.slice p4 lb d4)).setCell ⟨w6.heap.size, 12, none⟩ (.int .i64 (x.wT + 1))) [.int .i64 x.sH.gS, .int .i64 x.sH.column, .int .i64 x.sH.data, .int .i64 x.sH.sR, .int .i64 x.sH.rows, .int .i64 x.sH.cap, .int .i64 x.sH.bT, .int .i64 x.sH.qU, .int .i64 x.sH.sG, .slice (some ⟨b, off, none⟩) m10 d10, .slice p11 m11 d11, .slice p12 m12 d12, .int .i64 (x.wT + 1), .int .i64 x.stop, .bool x.down] _ _ from (q0x.2 ⟨_, m10, d10, fp', p11, m11, d11, g11, p12, m12, d12, g12, rfl, o1, o2, o3, o4, o5, o6, o7, o8, o9, hS, intL.sl_chg HKe.out.2.1 hcW hn11, tapL.sl_chg HKe.out.2.2 hcW hn12, ow, o14, rfl⟩ : wldL.rep _ _ ({ x with gS := x.gS.set tg (G.set td { D with blocks := D.blocks.set tr y }), wT := x.wT + 1 }) _)) (And.intro (show q1c w.heap.size (((wz.setCell ⟨b3, off3 + tr * 2, none⟩ (.int .i64 y.sM)).setCell ⟨b3, off3 + tr * 2 + 1, none⟩ (.slice p4 lb d4)).setCell ⟨w6.heap.size, 12, none⟩ (.int .i64 (x.wT + 1))) (fp' ++ (g11 ++ (g12 ++ []))) from hFW) (And.intro (show Chg [] w (((wz.setCell ⟨b3, off3 + tr * 2, none⟩ (.int .i64 y.sM)).setCell ⟨b3, off3 + tr * 2 + 1, none⟩ (.slice p4 lb d4)).setCell ⟨w6.heap.size, 12, none⟩ (.int .i64 (x.wT + 1))) from G7.out.trans hcW (fun y hy => .inr (by have := G5.out.size; simp only [List.mem_cons, List.not_mem_nil, or_false] at hy; omega))) (show w.heap.size + 2 ∉ fp' ++ (g11 ++ (g12 ++ [])) from hRn))))
        have HRR := hid (hcW.keepb A2_7.out (by simp; omega)); have HMR := hid (show (((wz.setCell ⟨b3, off3 + tr * 2, none⟩ (.int .i64 y.sM)).setCell ⟨b3, off3 + tr * 2 + 1, none⟩ (.slice p4 lb d4)).setCell ⟨w6.heap.size, 12, none⟩ (.int .i64 (x.wT + 1))).heap[w6.heap.size]? = some (.cells #[.int .i64 x.sH.gS, .int .i64 x.sH.column, .int .i64 x.sH.data, .int .i64 x.sH.sR, .int .i64 x.sH.rows, .int .i64 x.sH.cap, .int .i64 x.sH.bT, .int .i64 x.sH.qU, .int .i64 x.sH.sG, .slice (some ⟨b, off, none⟩) m10 d10, .slice p11 m11 d11, .slice p12 m12 d12, .int .i64 (x.wT + 1), .int .i64 x.stop, .bool x.down] 34 (0, 0)) from q0i (cur := #[.int .i64 x.sH.gS, .int .i64 x.sH.column, .int .i64 x.sH.data, .int .i64 x.sH.sR, .int .i64 x.sH.rows, .int .i64 x.sH.cap, .int .i64 x.sH.bT, .int .i64 x.sH.qU, .int .i64 x.sH.sG, .slice (some ⟨b, off, none⟩) m10 d10, .slice p11 m11 d11, .slice p12 m12 d12, .int .i64 x.wT, .int .i64 x.stop, .bool x.down]) (q0u (q0u (hcz.keep0 HM.out) _ _ hmb3) _ _ hmb3) rfl)
        have HGX := hid hGx; have HDX := hid hDx
        clear o1 o2 o3 o4 o5 o6 o7 o8 o9 o13 o14 hcW hn11 hn12 hS hsub hnd hSi hsubi hndi hfil hSW hkeep hSj hndj hsubj hj hp hFW hRn hltg hnmm nd hup hup2 hGS hBS hfs hfs2 hfn hfn2 hbf hbf2 hb10 hb2 hGx hDx hGo ow hcx hcd hz0 hz1 hlo h4s h4f hcz
        go_wp2_with (refine q0k rfl _ 34 rfl rfl q0v Tryz.underlying34 HMR.out rfl ?_)
        refine (wrote_true _ _ _ _ _ _ _ _ _ _ _ _ _ _ _ _ _ _ _ _ _ _).mono ?_
        rintro e w8 ⟨rfl, hc8⟩
        have HE8 := hid (And.intro (wldL.ext HE.out.1 hc8) (And.intro (HE.out.2.1.chg hc8) (And.intro (HE.out.2.2.1.trans0 hc8) HE.out.2.2.2))); have HR8 := hid (hc8.keep0 HRR.out); clear hc8
        go_wp2_with (first | (refine q0p rfl _ _ 36 rfl rfl rfl q1f HR8.out rfl rfl rfl ?_; intro w9 hb9 hc9; have HB9 := hid hb9; have HC9 := hid hc9; clear hb9 hc9))
        refine bodyPost_ret (v := .agg #[.int .i64 0, .int .i64 x.sH.gS, .int .i64 x.sH.column, .int .i64 x.sH.data, .int .i64 x.sH.sR, .int .i64 x.sH.rows, .int .i64 x.sH.cap, .int .i64 x.sH.bT, .int .i64 x.sH.qU, .int .i64 x.sH.sG, .slice (some ⟨b, off, none⟩) m10 d10, .slice p11 m11 d11, .slice p12 m12 d12, .int .i64 (x.wT + 1), .int .i64 x.stop, .bool x.down]) (q0m _ _ Tryz.results57 rfl q1f Tryz.underlying36 HB9.out rfl) rfl (fin9 0 ⟨by omega, by omega⟩ (q1q x tg td tr y) (writeR_ok hf0 h2 hyo hon HST.out HGX.out HDX.out) HE8.out.1 rfl HE8.out.2.1 HE8.out.2.2.1 HC9.out HE8.out.2.2.2 (by omega))
      ·go_wp2_with (first | (refine q0k rfl _ 34 rfl rfl q0v Tryz.underlying34 A0_5.out rfl ?_))
       refine (q2d w.heap.size a11 l11 c11 x.on f11 g _ A0_5.out (intL.sl_ext H11.out G5.out)).mono ?_
       rintro e w' ⟨rfl, rfl⟩
       rw [q0g hon]
       go_wp2_with (first | (refine q0p rfl _ _ 36 rfl rfl rfl q1f A2_5.out rfl rfl rfl ?_; intro w9 hb9 hc9; have HB9 := hid hb9; have HC9 := hid hc9; clear hb9 hc9))
       refine bodyPost_ret (v := .agg #[.int .i64 (8), .int .i64 0, .int .i64 0, .int .i64 0, .int .i64 0, .int .i64 0, .int .i64 0, .int .i64 0, .int .i64 0, .int .i64 0, .slice none 0 0, .slice none 0 0, .slice none 0 0, .int .i64 0, .int .i64 0, .bool false]) (q0m _ _ Tryz.results57 rfl q1f Tryz.underlying36 HB9.out rfl) rfl (bad9 (8) (⟨by omega, by omega⟩) (q1q x g d r y) (q9i hf0 h2 hyo hon) G5.out HC9.out (by omega))
     ·go_wp2_with (first | (refine q0k rfl _ 34 rfl rfl q0v Tryz.underlying34 A0_4.out rfl ?_))
      refine (q6q y ab lb cb fy _ (blkL.ext HY.out G4.out)).mono ?_
      rintro e w5 ⟨rfl, hc⟩
      rw [q0g hyo]
      clear c0 n0
      obtain ⟨c0, n0, A0_5⟩ := bk0 hc A0_4.out
      clear c1 n1
      obtain ⟨c1, n1, A1_5⟩ := bk0 hc A1_4.out
      clear c2 n2
      obtain ⟨c2, n2, A2_5⟩ := bk0 hc A2_4.out
      have G5 := hid (G4.out.trans0 hc)
      clear fz; have fz := q0c A2_5.out
      clear hc
      go_wp2_with (first | (refine q0p rfl _ _ 36 rfl rfl rfl q1f A2_5.out rfl rfl rfl ?_; intro w9 hb9 hc9; have HB9 := hid hb9; have HC9 := hid hc9; clear hb9 hc9))
      refine bodyPost_ret (v := .agg #[.int .i64 (1), .int .i64 0, .int .i64 0, .int .i64 0, .int .i64 0, .int .i64 0, .int .i64 0, .int .i64 0, .int .i64 0, .int .i64 0, .slice none 0 0, .slice none 0 0, .slice none 0 0, .int .i64 0, .int .i64 0, .bool false]) (q0m _ _ Tryz.results57 rfl q1f Tryz.underlying36 HB9.out rfl) rfl (bad9 (1) (⟨by omega, by omega⟩) (q1q x g d r y) (q6l hf0 h2 hyo) G5.out HC9.out (by omega))
    ·have HIr := hid (show inB r 0 (x.sH.rows - 1) = false by unfold inB; simp; omega)
     go_wp2_with (first | (refine q0k rfl _ 34 rfl rfl q0v Tryz.underlying34 A0_3.out rfl ?_))
     refine (q4o x.sH hok r _).mono ?_
     rintro e w4 ⟨rfl, hc⟩
     rw [HIr.out]
     clear c0 n0
     obtain ⟨c0, n0, A0_4⟩ := bk0 hc A0_3.out
     clear c1 n1
     obtain ⟨c1, n1, A1_4⟩ := bk0 hc A1_3.out
     clear c2 n2
     obtain ⟨c2, n2, A2_4⟩ := bk0 hc A2_3.out
     have G4 := hid (G3.out.trans0 hc)
     clear fz; have fz := q0c A2_4.out
     clear hc
     go_wp2_with (first | (refine q0p rfl _ _ 36 rfl rfl rfl q1f A2_4.out rfl rfl rfl ?_; intro w9 hb9 hc9; have HB9 := hid hb9; have HC9 := hid hc9; clear hb9 hc9))
     refine bodyPost_ret (v := .agg #[.int .i64 (3), .int .i64 0, .int .i64 0, .int .i64 0, .int .i64 0, .int .i64 0, .int .i64 0, .int .i64 0, .int .i64 0, .int .i64 0, .slice none 0 0, .slice none 0 0, .slice none 0 0, .int .i64 0, .int .i64 0, .bool false]) (q0m _ _ Tryz.results57 rfl q1f Tryz.underlying36 HB9.out rfl) rfl (bad9 (3) (⟨by omega, by omega⟩) (q1q x g d r y) (q5s hf0 (fun h => hr h.2.2)) G4.out HC9.out (by omega))
   ·have HId := hid (show inB d 0 (x.sH.drives - 1) = false by unfold inB; simp; omega)
    go_wp2_with (first | (refine q0k rfl _ 34 rfl rfl q0v Tryz.underlying34 A0_2.out rfl ?_))
    refine (q3q x.sH hok d _).mono ?_
    rintro e w3 ⟨rfl, hc⟩
    rw [HId.out]
    clear c0 n0
    obtain ⟨c0, n0, A0_3⟩ := bk0 hc A0_2.out
    clear c1 n1
    obtain ⟨c1, n1, A1_3⟩ := bk0 hc A1_2.out
    clear c2 n2
    obtain ⟨c2, n2, A2_3⟩ := bk0 hc A2_2.out
    have G3 := hid (G2.out.trans0 hc)
    clear fz; have fz := q0c A2_3.out
    clear hc
    go_wp2_with (first | (refine q0p rfl _ _ 36 rfl rfl rfl q1f A2_3.out rfl rfl rfl ?_; intro w9 hb9 hc9; have HB9 := hid hb9; have HC9 := hid hc9; clear hb9 hc9))
    refine bodyPost_ret (v := .agg #[.int .i64 (3), .int .i64 0, .int .i64 0, .int .i64 0, .int .i64 0, .int .i64 0, .int .i64 0, .int .i64 0, .int .i64 0, .int .i64 0, .slice none 0 0, .slice none 0 0, .slice none 0 0, .int .i64 0, .int .i64 0, .bool false]) (q0m _ _ Tryz.results57 rfl q1f Tryz.underlying36 HB9.out rfl) rfl (bad9 (3) (⟨by omega, by omega⟩) (q1q x g d r y) (q5s hf0 (fun h => hd h.2.1)) G3.out HC9.out (by omega))
  ·have HIg := hid (show inB g 0 (x.sH.all - 1) = false by unfold inB; simp; omega)
   go_wp2_with (first | (refine q0k rfl _ 34 rfl rfl q0v Tryz.underlying34 A0_1.out rfl ?_))
   refine (q2c x.sH hok g _).mono ?_
   rintro e w2 ⟨rfl, hc⟩
   rw [HIg.out]
   clear c0 n0
   obtain ⟨c0, n0, A0_2⟩ := bk0 hc A0_1.out
   clear c1 n1
   obtain ⟨c1, n1, A1_2⟩ := bk0 hc A1_1.out
   clear c2 n2
   obtain ⟨c2, n2, A2_2⟩ := bk0 hc A2_1.out
   have G2 := hid (G1.out.trans0 hc)
   clear fz; have fz := q0c A2_2.out
   clear hc
   go_wp2_with (first | (refine q0p rfl _ _ 36 rfl rfl rfl q1f A2_2.out rfl rfl rfl ?_; intro w9 hb9 hc9; have HB9 := hid hb9; have HC9 := hid hc9; clear hb9 hc9))
   refine bodyPost_ret (v := .agg #[.int .i64 (3), .int .i64 0, .int .i64 0, .int .i64 0, .int .i64 0, .int .i64 0, .int .i64 0, .int .i64 0, .int .i64 0, .int .i64 0, .slice none 0 0, .slice none 0 0, .slice none 0 0, .int .i64 0, .int .i64 0, .bool false]) (q0m _ _ Tryz.results57 rfl q1f Tryz.underlying36 HB9.out rfl) rfl (bad9 (3) (⟨by omega, by omega⟩) (q1q x g d r y) (q5s hf0 (fun h => hg h.1)) G2.out HC9.out (by omega))
 ·have hb : ((q : Int) != 0) = true := by simpa using hq0
  go_wp2_with (first | (refine q0p rfl _ _ 36 rfl rfl rfl q1f A2_1.out rfl rfl rfl ?_; intro w9 hb9 hc9; have HB9 := hid hb9; have HC9 := hid hc9; clear hb9 hc9))
  refine bodyPost_ret (v := .agg #[.int .i64 (q), .int .i64 0, .int .i64 0, .int .i64 0, .int .i64 0, .int .i64 0, .int .i64 0, .int .i64 0, .int .i64 0, .int .i64 0, .slice none 0 0, .slice none 0 0, .slice none 0 0, .int .i64 0, .int .i64 0, .bool false]) (q0m _ _ Tryz.results57 rfl q1f Tryz.underlying36 HB9.out rfl) rfl (bad9 (q) (hqk) (q1q x g d r y) (by rw [q9k (by rw [← HQ.out]; exact hq0), ← HQ.out]) G1.out HC9.out (by omega))
end Go.Proofs.YtphmpimgbmedbaaGreat
