/- Several texts in one. -/
import Derived.Test.YtphmpimgbmedbaaGreatVav
import Derived.Test.YtphmpimgbmedbaaGreatVal
set_option maxRecDepth 100000
set_option maxHeartbeats 8000000
namespace Go.Proofs.YtphmpimgbmedbaaGreat
open Go.RowKit
open Go.Lib (hid)
theorem up_fault {x : Wld} (h : x.up = 0) : x.fault = 0 := by
 unfold Wld.up at h
 split at h
 ·assumption
 ·exact h
theorem readR_bad {x : Wld} {g d r : Int} (h : ¬ x.up = 0) : q3v x g d r = ⟨x.up, ⟨0, []⟩⟩ := if_pos h
theorem q8s {x : Wld} {g d r : Int} (h : x.up = 0) (h2 : ¬ ((0 ≤ g ∧ g ≤ x.sH.all - 1) ∧ (0 ≤ d ∧ d ≤ x.sH.drives - 1) ∧ (0 ≤ r ∧ r ≤ x.sH.rows - 1))) : q3v x g d r = ⟨3, ⟨0, []⟩⟩ := by
 unfold q3v; rw [if_neg (fun g => g h), if_pos (q0g (P := x.isGroup g ∧ x.isDrive d ∧ x.isRow r) h2)]; rfl
theorem readR_off {x : Wld} {g d r : Int} (h : x.up = 0) (h2 : (0 ≤ g ∧ g ≤ x.sH.all - 1) ∧ (0 ≤ d ∧ d ≤ x.sH.drives - 1) ∧ (0 ≤ r ∧ r ≤ x.sH.rows - 1)) (h3 : ¬ g ∈ x.on) : q3v x g d r = ⟨8, ⟨0, []⟩⟩ := by
 unfold q3v; rw [if_neg (fun g => g h), if_neg (by rw [q0h (P := x.isGroup g ∧ x.isDrive d ∧ x.isRow r) h2]; simp), if_pos (q0g h3)]; rfl
theorem drive_is {x : Wld} {g d : Nat} {G : List Drv} {D : Drv} (hG : x.gS[g]? = some G) (hD : G[d]? = some D) : x.drive (g : Int) (d : Int) = D := by
 unfold Wld.drive
 rw [Int.toNat_natCast, Int.toNat_natCast, List.getD_eq_getElem?_getD, List.getD_eq_getElem?_getD, hG]
 show (G[d]?).getD _ = D
 rw [hD]; rfl
theorem readR_wiped {x : Wld} {g d : Nat} {r : Int} {G : List Drv} {D : Drv} (h : x.up = 0) (h2 : (0 ≤ (g : Int) ∧ (g : Int) ≤ x.sH.all - 1) ∧ (0 ≤ (d : Int) ∧ (d : Int) ≤ x.sH.drives - 1) ∧ (0 ≤ r ∧ r ≤ x.sH.rows - 1)) (h3 : (g : Int) ∈ x.on) (hG : x.gS[g]? = some G) (hD : G[d]? = some D) (h4 : D.wiped = true) : q3v x g d r = ⟨12, ⟨0, []⟩⟩ := by
 unfold q3v; rw [if_neg (fun g => g h), if_neg (by rw [q0h (P := x.isGroup g ∧ x.isDrive d ∧ x.isRow r) h2]; simp), if_neg (by rw [q0h h3]; simp), drive_is hG hD, if_pos h4]; rfl
theorem readR_ok {x : Wld} {g d r : Nat} {G : List Drv} {D : Drv} {B : Blk} (h : x.up = 0) (h2 : (0 ≤ (g : Int) ∧ (g : Int) ≤ x.sH.all - 1) ∧ (0 ≤ (d : Int) ∧ (d : Int) ≤ x.sH.drives - 1) ∧ (0 ≤ (r : Int) ∧ (r : Int) ≤ x.sH.rows - 1)) (h3 : (g : Int) ∈ x.on) (hG : x.gS[g]? = some G) (hD : G[d]? = some D) (hB : D.blocks[r]? = some B) (h4 : D.wiped = false) : q3v x g d r = ⟨0, B⟩ := by
 unfold q3v; rw [if_neg (fun g => g h), if_neg (by rw [q0h (P := x.isGroup g ∧ x.isDrive d ∧ x.isRow r) h2]; simp), if_neg (by rw [q0h h3]; simp), drive_is hG hD, if_neg (by rw [h4]; simp), Int.toNat_natCast, List.getD_eq_getElem?_getD, hB]; rfl
theorem up_built {x : Wld} (h : x.up = 0) : x.built ∧ x.sH.ok := by
 have hf := up_fault h
 refine ⟨Classical.byContradiction (fun hn => ?_), rows_ok hf⟩
 unfold Wld.fault at hf
 rw [q0g (P := x.built ∧ x.onOk ∧ x.tapes.length = 2) (fun g => hn g.1)] at hf
 split at hf <;> simp at hf
theorem q6i (x : Wld) (cx : Array Value) (fx : List Nat) (g : Int) (d : Int) (r : Int) (w : World) (hx : wldL.rep w cx.toList x fx) (hz : q1u x ≤ 1048576) (og : q0q g) (od : q0q d) (or : q0q r) :
  Calls Tryz.prog 60 #[.agg cx, .int .i64 g, .int .i64 d, .int .i64 r] w (q2l brsL (q3v x g d r) w) := by
 obtain ⟨a10, l10, c10, _, a11, l11, c11, f11, a12, l12, c12, _, ex, -, -, -, -, -, -, -, -, -, h10, h11, h12, oo13, oo14, -⟩ := q0x.1 hx
 obtain rfl := Array.toList_inj.1 (ex.trans (List.toList_toArray).symm)
 have HW := hid hx; have HZ := hid hz; have H10 := hid h10; have H11 := hid h11; have H12 := hid h12; have HOO := hid (And.intro oo13 oo14)
 have hl11 : l11 ≤ 1048576 := by have h := h11.1; have q10 := q0s (q0s q0w) x.gS; have q12 := q0s q1e x.tapes; unfold q1u q3z at hz; omega
 clear hx ex hz h10 h11 h12 oo13 oo14
 have G0 := hid (show Chg [] w ((w.alloc (.cells #[.int .i64 x.sH.gS, .int .i64 x.sH.column, .int .i64 x.sH.data, .int .i64 x.sH.sR, .int .i64 x.sH.rows, .int .i64 x.sH.cap, .int .i64 x.sH.bT, .int .i64 x.sH.qU, .int .i64 x.sH.sG, .slice a10 l10 c10, .slice a11 l11 c11, .slice a12 l12 c12, .int .i64 x.wT, .int .i64 x.stop, .bool x.down] 34)).alloc (.cells #[.int .i64 0, .int .i64 0, .slice none 0 0] 86)) from (Chg.alloc (Chg.alloc (Chg.refl [] w) _) _))
 have B0 := hid (show ((w.alloc (.cells #[.int .i64 x.sH.gS, .int .i64 x.sH.column, .int .i64 x.sH.data, .int .i64 x.sH.sR, .int .i64 x.sH.rows, .int .i64 x.sH.cap, .int .i64 x.sH.bT, .int .i64 x.sH.qU, .int .i64 x.sH.sG, .slice a10 l10 c10, .slice a11 l11 c11, .slice a12 l12 c12, .int .i64 x.wT, .int .i64 x.stop, .bool x.down] 34)).alloc (.cells #[.int .i64 0, .int .i64 0, .slice none 0 0] 86)).heap[w.heap.size]? = some (.cells #[.int .i64 x.sH.gS, .int .i64 x.sH.column, .int .i64 x.sH.data, .int .i64 x.sH.sR, .int .i64 x.sH.rows, .int .i64 x.sH.cap, .int .i64 x.sH.bT, .int .i64 x.sH.qU, .int .i64 x.sH.sG, .slice a10 l10 c10, .slice a11 l11 c11, .slice a12 l12 c12, .int .i64 x.wT, .int .i64 x.stop, .bool x.down] 34 (0, 0)) from q0b (q0j w _) _)
 have B1 := hid (show ((w.alloc (.cells #[.int .i64 x.sH.gS, .int .i64 x.sH.column, .int .i64 x.sH.data, .int .i64 x.sH.sR, .int .i64 x.sH.rows, .int .i64 x.sH.cap, .int .i64 x.sH.bT, .int .i64 x.sH.qU, .int .i64 x.sH.sG, .slice a10 l10 c10, .slice a11 l11 c11, .slice a12 l12 c12, .int .i64 x.wT, .int .i64 x.stop, .bool x.down] 34)).alloc (.cells #[.int .i64 0, .int .i64 0, .slice none 0 0] 86)).heap[w.heap.size + 1]? = some (.cells #[.int .i64 0, .int .i64 0, .slice none 0 0] 86 (0, 0)) from q0e (by simp) _)
 go_enter Tryz.func60, Tryz.ntmps60
 obtain ⟨q, hq⟩ : ∃ q, q = x.up := ⟨_, rfl⟩
 have HQ := hid hq; clear hq
 go_wp2_with (first | (refine q0k rfl _ 34 rfl rfl q0v Tryz.underlying34 B0.out rfl ?_))
 refine (q5b x #[.int .i64 x.sH.gS, .int .i64 x.sH.column, .int .i64 x.sH.data, .int .i64 x.sH.sR, .int .i64 x.sH.rows, .int .i64 x.sH.cap, .int .i64 x.sH.bT, .int .i64 x.sH.qU, .int .i64 x.sH.sG, .slice a10 l10 c10, .slice a11 l11 c11, .slice a12 l12 c12, .int .i64 x.wT, .int .i64 x.stop, .bool x.down] fx _ (wldL.ext HW.out G0.out)).mono ?_
 rintro e w1 ⟨rfl, hc⟩
 rw [← HQ.out]
 obtain ⟨c0, n0, A0_1⟩ := bk0 hc B0.out
 obtain ⟨c1, n1, A1_1⟩ := bk0 hc B1.out
 have G1 := hid (G0.out.trans0 hc)
 have fz := q0c A1_1.out
 clear hc
 have hqk : q0q q := by rw [HQ.out]; exact q9m x
 by_cases hq0 : q = 0
 ·subst hq0
  have hf0 : x.up = 0 := HQ.out.symm
  have hok := (up_built hf0).2
  by_cases hg : 0 ≤ g ∧ g ≤ x.sH.all - 1
  ·have HIg := hid (show inB g 0 (x.sH.all - 1) = true by simp [inB, hg.1, hg.2])
   go_wp2_with (first | (refine q0k rfl _ 34 rfl rfl q0v Tryz.underlying34 A0_1.out rfl ?_))
   refine (q2c x.sH hok g _).mono ?_
   rintro e w2 ⟨rfl, hc⟩
   rw [HIg.out]
   clear c0 n0
   obtain ⟨c0, n0, A0_2⟩ := bk0 hc A0_1.out
   clear c1 n1
   obtain ⟨c1, n1, A1_2⟩ := bk0 hc A1_1.out
   have G2 := hid (G1.out.trans0 hc)
   clear fz; have fz := q0c A1_2.out
   clear hc
   by_cases hd : 0 ≤ d ∧ d ≤ x.sH.drives - 1
   ·have HId := hid (show inB d 0 (x.sH.drives - 1) = true by simp [inB, hd.1, hd.2])
    go_wp2_with (first | (refine q0k rfl _ 34 rfl rfl q0v Tryz.underlying34 A0_2.out rfl ?_))
    refine (q3q x.sH hok d _).mono ?_
    rintro e w3 ⟨rfl, hc⟩
    rw [HId.out]
    clear c0 n0
    obtain ⟨c0, n0, A0_3⟩ := bk0 hc A0_2.out
    clear c1 n1
    obtain ⟨c1, n1, A1_3⟩ := bk0 hc A1_2.out
    have G3 := hid (G2.out.trans0 hc)
    clear fz; have fz := q0c A1_3.out
    clear hc
    by_cases hr : 0 ≤ r ∧ r ≤ x.sH.rows - 1
    ·have HIr := hid (show inB r 0 (x.sH.rows - 1) = true by simp [inB, hr.1, hr.2])
     go_wp2_with (first | (refine q0k rfl _ 34 rfl rfl q0v Tryz.underlying34 A0_3.out rfl ?_))
     refine (q4o x.sH hok r _).mono ?_
     rintro e w4 ⟨rfl, hc⟩
     rw [HIr.out]
     clear c0 n0
     obtain ⟨c0, n0, A0_4⟩ := bk0 hc A0_3.out
     clear c1 n1
     obtain ⟨c1, n1, A1_4⟩ := bk0 hc A1_3.out
     have G4 := hid (G3.out.trans0 hc)
     clear fz; have fz := q0c A1_4.out
     clear hc
     have h2 := And.intro hg (And.intro hd hr)
     by_cases hon : g ∈ x.on
     ·go_wp2_with (first | (refine q0k rfl _ 34 rfl rfl q0v Tryz.underlying34 A0_4.out rfl ?_))
      refine (q2d w.heap.size a11 l11 c11 x.on f11 g _ A0_4.out (intL.sl_ext H11.out G4.out)).mono ?_
      rintro e w' ⟨rfl, rfl⟩
      rw [q0h hon]
      obtain ⟨tg, rfl⟩ : ∃ t : Nat, g = t := ⟨g.toNat, by omega⟩
      obtain ⟨td, rfl⟩ : ∃ t : Nat, d = t := ⟨d.toNat, by omega⟩
      obtain ⟨tr, rfl⟩ : ∃ t : Nat, r = t := ⟨r.toNat, by omega⟩
      have hbt := (up_built hf0).1
      have htg : tg < l10 := by have h1 := H10.out.1; have h2 := hbt.1; omega
      obtain ⟨G, b, off, A, l, C, f, HX, rfl, hcx, HXS⟩ := q4u (drvL.slice.sl_ext H10.out G4.out) htg
      have hGo := hbt.2 G (List.mem_of_getElem? HX.out.1)
      have htd : td < l := by have h1 := HXS.out.1; have h2 := hGo.1; omega
      obtain ⟨D, b2, off2, a2, l2, c2, f2, HY, rfl, hy0, hy1, HYS⟩ := q3j HXS.out htd
      have hDo := hGo.2 D (List.mem_of_getElem? HY.out.1)
      obtain ⟨_, _, _, _, exd, hyb, -⟩ := q2i.1 HYS.out
      obtain ⟨q1, q2, q3⟩ := Value.slice.inj (List.cons.inj (List.cons.inj exd).2).1
      subst q1 q2 q3
      have hz10 : totL (totL q2h) x.gS ≤ 1048576 := by have := HZ.out; have q11 := q2f x.on; have q12 := q0s q1e x.tapes; unfold q1u at this; omega
      have hzD : q2h D ≤ 1048576 := Int.le_trans (q1y q0w (List.mem_of_getElem? HY.out.1)) (Int.le_trans (q1y (q0s q0w) (List.mem_of_getElem? HX.out.1)) hz10)
      have HGX := hid HX.out.1; have HDX := hid HY.out.1; have HYB := hid hyb
      have htr : tr < l2 := by have h1 := hyb.1; have h2 := hDo.1; omega
      clear hbt hGo hDo HX HXS HY HYS exd hyb hz10
      by_cases hw : D.wiped = true
      ·simp only [hw] at hy0
       go_wp2_with (first | (refine q0p rfl _ _ 86 rfl rfl rfl q5a A1_4.out rfl rfl rfl ?_; intro w9 hb9 hc9; have HB9 := hid hb9; have HC9 := hid hc9; clear hb9 hc9))
       refine bodyPost_ret (v := .agg #[.int .i64 (12), .int .i64 0, .slice none 0 0]) (q0m _ _ Tryz.results60 rfl q5a Tryz.underlying86 HB9.out rfl) rfl (badB9 (12) (⟨by omega, by omega⟩) (q3v x tg td tr) (readR_wiped hf0 h2 hon HGX.out HDX.out hw) G4.out HC9.out (by omega))
      ·have hw2 : D.wiped = false := by simpa using hw
       simp only [hw2] at hy0
       obtain ⟨B, b3, off3, a3, l3, c3, f3, HB, rfl, hz0, hz1, HBS⟩ := q3s HYB.out htr
       have HBX := hid HB.out.1
       have hzB : q2s B ≤ 1048576 := Int.le_trans (q1y q2g (List.mem_of_getElem? HB.out.1)) hzD
       obtain ⟨_, _, _, fb, exb, hok, hbb, hff⟩ := q1s.1 HBS.out
       obtain ⟨q1, q2, q3⟩ := Value.slice.inj (List.cons.inj (List.cons.inj exb).2).1
       subst q1 q2 q3
       have hl3 : l3 ≤ 1048576 := by have h1 := hbb.1; unfold q2s q5m at hzB; omega
       have HBB := hid hbb; have HOK := hid hok; have LB := hid hbb.1.symm; have HZB := hid hzB
       clear exb hok hbb hff HB hzB hzD
       go_wp2_with fail
       have G9 := hid (((Chg.refl [] w4).alloc (.cells #[.int .i64 B.sM, .slice a3 l3 c3] 76)).drew)
       obtain ⟨CC, HCI, HCO⟩ := q0l (fun w' => Know w4.heap.size #[.int .i64 B.sM, .slice a3 l3 c3] w')
       refine q1m [7] CC (by kernel_rfl) (HCI.out _ (Know.of (q0a (q0j w4 _)))) (fun hcl hS => ?_)
       refine ggT 0 hcl hS ?_; clear hcl hS; intro hcl hS
       refine ggL 1 hcl hS HCO ?_; clear hcl hS; intro hcl hS
       refine ggT 2 hcl hS ?_; clear hcl hS; intro hcl hS
       refine ggL 3 hcl hS HCO ?_; clear hcl hS; intro hcl hS
       refine ggC 4 hcl rfl (by kernel_rfl) (fun K hK => ?_)
       go_simp
       go_at_call 141
       refine (q7f a3 l3 c3 B.bytes fb _ (q0t.sl_ext HBB.out G9.out) (by omega)).mono ?_; rintro e w8 ⟨p4, d4, g4, rfl, hs, hf, hc⟩
       rw [LB.out] at hs ⊢; have HN1 := hid (And.intro hs (And.intro (hf.mono (C := w4.heap.size) (by simp [World.drew])) (G9.out.trans0 hc))); obtain ⟨-, -, F1⟩ := bk hc (q0a (q0j w4 _)) (by simp); obtain ⟨cR, nR8, F2⟩ := bk hc (q0a (q0b A1_4.out _)) (by simp); have fR := q0c F2.out; clear hs hf hc
       go_wp2_with fail
       refine hK.out _ _ (fun _ => HCI.out _ (Know.of F1.out)) ?_
       clear hK K hcl hS
       intro hcl hS
       try simp only [Act.put, pA, pB, pC]
       refine ggT 5 hcl hS ?_; clear hcl hS; intro hcl hS
       refine ggT 6 hcl hS ?_; clear hcl hS; intro hcl hS
       refine ggC 7 hcl rfl (by kernel_rfl) (fun K hK => ?_)
       go_simp
       refine hK.out _ _ (Till.done (m := 7) (by simp) (by rfl)) ?_
       clear hK K hcl hS
       intro hcl hS
       try simp only [Act.put, pA, pB, pC]
       refine q3h (by kernel_rfl) ?_ _
       have hq : (((w8.setCell ⟨w.heap.size + 1, 0, none⟩ (.int .i64 0)).setCell ⟨w.heap.size + 1, 1, none⟩ (.int .i64 B.sM)).setCell ⟨w.heap.size + 1, 2, none⟩ (.slice p4 l3 d4)).heap[w.heap.size + 1]? = some (.cells #[.int .i64 0, .int .i64 B.sM, .slice p4 l3 d4] 86 (0, 0)) := q0i (cur := #[.int .i64 0, .int .i64 B.sM, .slice none 0 0]) (q0i (cur := #[.int .i64 0, .int .i64 0, .slice none 0 0]) (q0i (cur := #[.int .i64 0, .int .i64 0, .slice none 0 0]) F2.out rfl) rfl) rfl
       have hc9 : Chg [w.heap.size + 1] w8 (((w8.setCell ⟨w.heap.size + 1, 0, none⟩ (.int .i64 0)).setCell ⟨w.heap.size + 1, 1, none⟩ (.int .i64 B.sM)).setCell ⟨w.heap.size + 1, 2, none⟩ (.slice p4 l3 d4)) := (((Chg.refl _ _).setCell _ _ (.inl (by simp))).setCell _ _ (.inl (by simp))).setCell _ _ (.inl (by simp))
       have HE := hid (And.intro (q1s.2 ⟨p4, l3, d4, g4, rfl, HOK.out, HN1.out.1, by simp⟩ : blkL.rep w8 [.int .i64 B.sM, .slice p4 l3 d4] B g4) (And.intro (HN1.out.2.1.mono (C := w.heap.size) G4.out.size) (And.intro (G4.out.trans0 HN1.out.2.2) (show w.heap.size + 1 ∉ g4 from fun hy => by have := (HN1.out.2.1.2 _ hy).1; omega))))
       have HQ9 := hid hq; have HC9 := hid hc9; clear hq hc9
       go_wp2_with fail
       refine bodyPost_ret (v := .agg #[.int .i64 0, .int .i64 B.sM, .slice p4 l3 d4]) (q0m _ _ Tryz.results60 rfl q5a Tryz.underlying86 HQ9.out rfl) rfl (finB9 _ (readR_ok hf0 h2 hon HGX.out HDX.out HBX.out hw2) HE.out.1 rfl HE.out.2.1 HE.out.2.2.1 HC9.out HE.out.2.2.2 (by omega))
     ·go_wp2_with (first | (refine q0k rfl _ 34 rfl rfl q0v Tryz.underlying34 A0_4.out rfl ?_))
      refine (q2d w.heap.size a11 l11 c11 x.on f11 g _ A0_4.out (intL.sl_ext H11.out G4.out)).mono ?_
      rintro e w' ⟨rfl, rfl⟩
      rw [q0g hon]
      go_wp2_with (first | (refine q0p rfl _ _ 86 rfl rfl rfl q5a A1_4.out rfl rfl rfl ?_; intro w9 hb9 hc9; have HB9 := hid hb9; have HC9 := hid hc9; clear hb9 hc9))
      refine bodyPost_ret (v := .agg #[.int .i64 (8), .int .i64 0, .slice none 0 0]) (q0m _ _ Tryz.results60 rfl q5a Tryz.underlying86 HB9.out rfl) rfl (badB9 (8) (⟨by omega, by omega⟩) (q3v x g d r) (readR_off hf0 h2 hon) G4.out HC9.out (by omega))
    ·have HIr := hid (show inB r 0 (x.sH.rows - 1) = false by unfold inB; simp; omega)
     go_wp2_with (first | (refine q0k rfl _ 34 rfl rfl q0v Tryz.underlying34 A0_3.out rfl ?_))
     refine (q4o x.sH hok r _).mono ?_
     rintro e w4 ⟨rfl, hc⟩
     rw [HIr.out]
     clear c0 n0
     obtain ⟨c0, n0, A0_4⟩ := bk0 hc A0_3.out
     clear c1 n1
     obtain ⟨c1, n1, A1_4⟩ := bk0 hc A1_3.out
     have G4 := hid (G3.out.trans0 hc)
     clear fz; have fz := q0c A1_4.out
     clear hc
     go_wp2_with (first | (refine q0p rfl _ _ 86 rfl rfl rfl q5a A1_4.out rfl rfl rfl ?_; intro w9 hb9 hc9; have HB9 := hid hb9; have HC9 := hid hc9; clear hb9 hc9))
     refine bodyPost_ret (v := .agg #[.int .i64 (3), .int .i64 0, .slice none 0 0]) (q0m _ _ Tryz.results60 rfl q5a Tryz.underlying86 HB9.out rfl) rfl (badB9 (3) (⟨by omega, by omega⟩) (q3v x g d r) (q8s hf0 (fun h => hr h.2.2)) G4.out HC9.out (by omega))
   ·have HId := hid (show inB d 0 (x.sH.drives - 1) = false by unfold inB; simp; omega)
    go_wp2_with (first | (refine q0k rfl _ 34 rfl rfl q0v Tryz.underlying34 A0_2.out rfl ?_))
    refine (q3q x.sH hok d _).mono ?_
    rintro e w3 ⟨rfl, hc⟩
    rw [HId.out]
    clear c0 n0
    obtain ⟨c0, n0, A0_3⟩ := bk0 hc A0_2.out
    clear c1 n1
    obtain ⟨c1, n1, A1_3⟩ := bk0 hc A1_2.out
    have G3 := hid (G2.out.trans0 hc)
    clear fz; have fz := q0c A1_3.out
    clear hc
    go_wp2_with (first | (refine q0p rfl _ _ 86 rfl rfl rfl q5a A1_3.out rfl rfl rfl ?_; intro w9 hb9 hc9; have HB9 := hid hb9; have HC9 := hid hc9; clear hb9 hc9))
    refine bodyPost_ret (v := .agg #[.int .i64 (3), .int .i64 0, .slice none 0 0]) (q0m _ _ Tryz.results60 rfl q5a Tryz.underlying86 HB9.out rfl) rfl (badB9 (3) (⟨by omega, by omega⟩) (q3v x g d r) (q8s hf0 (fun h => hd h.2.1)) G3.out HC9.out (by omega))
  ·have HIg := hid (show inB g 0 (x.sH.all - 1) = false by unfold inB; simp; omega)
   go_wp2_with (first | (refine q0k rfl _ 34 rfl rfl q0v Tryz.underlying34 A0_1.out rfl ?_))
   refine (q2c x.sH hok g _).mono ?_
   rintro e w2 ⟨rfl, hc⟩
   rw [HIg.out]
   clear c0 n0
   obtain ⟨c0, n0, A0_2⟩ := bk0 hc A0_1.out
   clear c1 n1
   obtain ⟨c1, n1, A1_2⟩ := bk0 hc A1_1.out
   have G2 := hid (G1.out.trans0 hc)
   clear fz; have fz := q0c A1_2.out
   clear hc
   go_wp2_with (first | (refine q0p rfl _ _ 86 rfl rfl rfl q5a A1_2.out rfl rfl rfl ?_; intro w9 hb9 hc9; have HB9 := hid hb9; have HC9 := hid hc9; clear hb9 hc9))
   refine bodyPost_ret (v := .agg #[.int .i64 (3), .int .i64 0, .slice none 0 0]) (q0m _ _ Tryz.results60 rfl q5a Tryz.underlying86 HB9.out rfl) rfl (badB9 (3) (⟨by omega, by omega⟩) (q3v x g d r) (q8s hf0 (fun h => hg h.1)) G2.out HC9.out (by omega))
 ·have hb : ((q : Int) != 0) = true := by simpa using hq0
  go_wp2_with (first | (refine q0p rfl _ _ 86 rfl rfl rfl q5a A1_1.out rfl rfl rfl ?_; intro w9 hb9 hc9; have HB9 := hid hb9; have HC9 := hid hc9; clear hb9 hc9))
  refine bodyPost_ret (v := .agg #[.int .i64 (q), .int .i64 0, .slice none 0 0]) (q0m _ _ Tryz.results60 rfl q5a Tryz.underlying86 HB9.out rfl) rfl (badB9 (q) (hqk) (q3v x g d r) (by rw [readR_bad (by rw [← HQ.out]; exact hq0), ← HQ.out]) G1.out HC9.out (by omega))
theorem wrote_false (s0 s1 s2 s3 s4 s5 s6 s7 s8 wr st : Int) (a10 a11 a12 : Option Addr) (l10 c10 l11 c11 l12 c12 : Nat) (dn : Bool) (w : World) :
  Calls Tryz.prog 82 #[.agg #[.int .i64 s0, .int .i64 s1, .int .i64 s2, .int .i64 s3, .int .i64 s4, .int .i64 s5, .int .i64 s6, .int .i64 s7, .int .i64 s8, .slice a10 l10 c10, .slice a11 l11 c11, .slice a12 l12 c12, .int .i64 wr, .int .i64 st, .bool dn], .bool false] w fun e w' => e = .returned (.agg #[.int .i64 9, .int .i64 s0, .int .i64 s1, .int .i64 s2, .int .i64 s3, .int .i64 s4, .int .i64 s5, .int .i64 s6, .int .i64 s7, .int .i64 s8, .slice a10 l10 c10, .slice a11 l11 c11, .slice a12 l12 c12, .int .i64 wr, .int .i64 st, .bool dn]) ∧ Chg [] w w' := by
 have B0 := hid (show ((w.alloc (.cells #[.int .i64 s0, .int .i64 s1, .int .i64 s2, .int .i64 s3, .int .i64 s4, .int .i64 s5, .int .i64 s6, .int .i64 s7, .int .i64 s8, .slice a10 l10 c10, .slice a11 l11 c11, .slice a12 l12 c12, .int .i64 wr, .int .i64 st, .bool dn] 34)).alloc (.cells #[.int .i64 0, .int .i64 0, .int .i64 0, .int .i64 0, .int .i64 0, .int .i64 0, .int .i64 0, .int .i64 0, .int .i64 0, .int .i64 0, .slice none 0 0, .slice none 0 0, .slice none 0 0, .int .i64 0, .int .i64 0, .bool false] 36)).heap[w.heap.size]? = some (.cells #[.int .i64 s0, .int .i64 s1, .int .i64 s2, .int .i64 s3, .int .i64 s4, .int .i64 s5, .int .i64 s6, .int .i64 s7, .int .i64 s8, .slice a10 l10 c10, .slice a11 l11 c11, .slice a12 l12 c12, .int .i64 wr, .int .i64 st, .bool dn] 34 (0, 0)) from q0b (q0j w _) _)
 have B1 := hid (show ((w.alloc (.cells #[.int .i64 s0, .int .i64 s1, .int .i64 s2, .int .i64 s3, .int .i64 s4, .int .i64 s5, .int .i64 s6, .int .i64 s7, .int .i64 s8, .slice a10 l10 c10, .slice a11 l11 c11, .slice a12 l12 c12, .int .i64 wr, .int .i64 st, .bool dn] 34)).alloc (.cells #[.int .i64 0, .int .i64 0, .int .i64 0, .int .i64 0, .int .i64 0, .int .i64 0, .int .i64 0, .int .i64 0, .int .i64 0, .int .i64 0, .slice none 0 0, .slice none 0 0, .slice none 0 0, .int .i64 0, .int .i64 0, .bool false] 36)).heap[w.heap.size + 1]? = some (.cells #[.int .i64 0, .int .i64 0, .int .i64 0, .int .i64 0, .int .i64 0, .int .i64 0, .int .i64 0, .int .i64 0, .int .i64 0, .int .i64 0, .slice none 0 0, .slice none 0 0, .slice none 0 0, .int .i64 0, .int .i64 0, .bool false] 36 (0, 0)) from q0e (by simp) _)
 go_enter Tryz.func82, Tryz.ntmps82
 go_wp2_with (first | (refine q0k rfl _ 34 rfl rfl q0v Tryz.underlying34 B0.out rfl ?_) | (refine q0p rfl _ _ 36 rfl rfl rfl q1f B1.out rfl rfl rfl ?_; intro w9 hb9 hc9; have HB9 := hid hb9; have HC9 := hid hc9; clear hb9 hc9))
 refine bodyPost_ret (v := .agg #[.int .i64 9, .int .i64 s0, .int .i64 s1, .int .i64 s2, .int .i64 s3, .int .i64 s4, .int .i64 s5, .int .i64 s6, .int .i64 s7, .int .i64 s8, .slice a10 l10 c10, .slice a11 l11 c11, .slice a12 l12 c12, .int .i64 wr, .int .i64 st, .bool dn]) (q0m _ _ Tryz.results82 rfl q1f Tryz.underlying36 HB9.out rfl) rfl ⟨rfl, ?_⟩
 exact (((Chg.refl [] w).alloc _).alloc _).trans HC9.out (fun y hy => .inr (by rw [List.mem_singleton] at hy; omega))
theorem wrote_true (s0 s1 s2 s3 s4 s5 s6 s7 s8 wr st : Int) (a10 a11 a12 : Option Addr) (l10 c10 l11 c11 l12 c12 : Nat) (dn : Bool) (w : World) :
  Calls Tryz.prog 82 #[.agg #[.int .i64 s0, .int .i64 s1, .int .i64 s2, .int .i64 s3, .int .i64 s4, .int .i64 s5, .int .i64 s6, .int .i64 s7, .int .i64 s8, .slice a10 l10 c10, .slice a11 l11 c11, .slice a12 l12 c12, .int .i64 wr, .int .i64 st, .bool dn], .bool true] w fun e w' => e = .returned (.agg #[.int .i64 0, .int .i64 s0, .int .i64 s1, .int .i64 s2, .int .i64 s3, .int .i64 s4, .int .i64 s5, .int .i64 s6, .int .i64 s7, .int .i64 s8, .slice a10 l10 c10, .slice a11 l11 c11, .slice a12 l12 c12, .int .i64 wr, .int .i64 st, .bool dn]) ∧ Chg [] w w' := by
 have B0 := hid (show ((w.alloc (.cells #[.int .i64 s0, .int .i64 s1, .int .i64 s2, .int .i64 s3, .int .i64 s4, .int .i64 s5, .int .i64 s6, .int .i64 s7, .int .i64 s8, .slice a10 l10 c10, .slice a11 l11 c11, .slice a12 l12 c12, .int .i64 wr, .int .i64 st, .bool dn] 34)).alloc (.cells #[.int .i64 0, .int .i64 0, .int .i64 0, .int .i64 0, .int .i64 0, .int .i64 0, .int .i64 0, .int .i64 0, .int .i64 0, .int .i64 0, .slice none 0 0, .slice none 0 0, .slice none 0 0, .int .i64 0, .int .i64 0, .bool false] 36)).heap[w.heap.size]? = some (.cells #[.int .i64 s0, .int .i64 s1, .int .i64 s2, .int .i64 s3, .int .i64 s4, .int .i64 s5, .int .i64 s6, .int .i64 s7, .int .i64 s8, .slice a10 l10 c10, .slice a11 l11 c11, .slice a12 l12 c12, .int .i64 wr, .int .i64 st, .bool dn] 34 (0, 0)) from q0b (q0j w _) _)
 have B1 := hid (show ((w.alloc (.cells #[.int .i64 s0, .int .i64 s1, .int .i64 s2, .int .i64 s3, .int .i64 s4, .int .i64 s5, .int .i64 s6, .int .i64 s7, .int .i64 s8, .slice a10 l10 c10, .slice a11 l11 c11, .slice a12 l12 c12, .int .i64 wr, .int .i64 st, .bool dn] 34)).alloc (.cells #[.int .i64 0, .int .i64 0, .int .i64 0, .int .i64 0, .int .i64 0, .int .i64 0, .int .i64 0, .int .i64 0, .int .i64 0, .int .i64 0, .slice none 0 0, .slice none 0 0, .slice none 0 0, .int .i64 0, .int .i64 0, .bool false] 36)).heap[w.heap.size + 1]? = some (.cells #[.int .i64 0, .int .i64 0, .int .i64 0, .int .i64 0, .int .i64 0, .int .i64 0, .int .i64 0, .int .i64 0, .int .i64 0, .int .i64 0, .slice none 0 0, .slice none 0 0, .slice none 0 0, .int .i64 0, .int .i64 0, .bool false] 36 (0, 0)) from q0e (by simp) _)
 go_enter Tryz.func82, Tryz.ntmps82
 go_wp2_with (first | (refine q0k rfl _ 34 rfl rfl q0v Tryz.underlying34 B0.out rfl ?_) | (refine q0p rfl _ _ 36 rfl rfl rfl q1f B1.out rfl rfl rfl ?_; intro w9 hb9 hc9; have HB9 := hid hb9; have HC9 := hid hc9; clear hb9 hc9))
 refine bodyPost_ret (v := .agg #[.int .i64 0, .int .i64 s0, .int .i64 s1, .int .i64 s2, .int .i64 s3, .int .i64 s4, .int .i64 s5, .int .i64 s6, .int .i64 s7, .int .i64 s8, .slice a10 l10 c10, .slice a11 l11 c11, .slice a12 l12 c12, .int .i64 wr, .int .i64 st, .bool dn]) (q0m _ _ Tryz.results82 rfl q1f Tryz.underlying36 HB9.out rfl) rfl ⟨rfl, ?_⟩
 exact (((Chg.refl [] w).alloc _).alloc _).trans HC9.out (fun y hy => .inr (by rw [List.mem_singleton] at hy; omega))
theorem l5Raw_fail (m : Nat) {u0 u1 u2 u3 u4 u5 u6 u7 u8 u9 u10 u11 : Value} {wr st : Int} (w : World) (h : w.heap[m]? = some (.cells #[u0, u1, u2, u3, u4, u5, u6, u7, u8, u9, u10, u11, .int .i64 wr, .int .i64 st, .bool false] 34 (0, 0))) (h1 : st ≠ -1 ∧ st ≤ wr) :
  Calls Tryz.prog 72 #[.pointer (some ⟨m, 0, none⟩)] w fun e w' => e = .returned (.bool false) ∧ w'.heap[m]? = some (.cells #[u0, u1, u2, u3, u4, u5, u6, u7, u8, u9, .slice none 0 0, u11, .int .i64 wr, .int .i64 st, .bool true] 34 (0, 0)) ∧ Chg [m] w w' := by
 have hne : ((st : Int) != -1) = true := by simpa using h1.1
 have hle := h1.2
 have HM := hid h; have H1 := hid h1
 have cm := cellsOf h; have nm := ltOf h; have fm := q0c h
 clear h h1
 go_enter Tryz.func72, Tryz.ntmps72
 go_wp2_with fail
 obtain ⟨SS1, HSI1, HSO1⟩ := q0l (fun w' => Know m #[u0, u1, u2, u3, u4, u5, u6, u7, u8, u9, u10, u11, .int .i64 wr, .int .i64 st, .bool false] w')
 have hS0 := HSI1.out _ (Know.of (q0a HM.out))
 refine q0o SS1 (by kernel_rfl) hS0 ?_
 refine rgT 0 hS0 ?_
 refine rgT 1 hS0 ?_
 refine rgT 2 hS0 ?_
 refine rgL 3 hS0 HSO1 ?_
 refine rgT 4 hS0 ?_
 refine rgT 5 hS0 ?_
 refine rgT 6 hS0 ?_
 refine rgT 7 hS0 ?_
 refine rgT 8 hS0 ?_
 refine rgL 9 hS0 HSO1 ?_
 refine rgT 10 hS0 ?_
 refine rgT 11 hS0 ?_
 refine rgT 12 hS0 ?_
 refine rgL 13 hS0 HSO1 ?_
 refine rgT 14 hS0 ?_
 refine rgT 15 hS0 ?_
 refine wpAnyH_done (by kernel_rfl) ?_ _
 go_wp2_with fail
 go_ret
 exact ⟨rfl, q0i (q0i (q0a HM.out) rfl) rfl, (((Chg.refl [m] w).drew).setCell _ _ (.inl (by simp))).setCell _ _ (.inl (by simp))⟩
theorem l5Raw_ok1 (m : Nat) {u0 u1 u2 u3 u4 u5 u6 u7 u8 u9 u10 u11 : Value} {wr st : Int} (w : World) (h : w.heap[m]? = some (.cells #[u0, u1, u2, u3, u4, u5, u6, u7, u8, u9, u10, u11, .int .i64 wr, .int .i64 st, .bool false] 34 (0, 0))) (h1 : st = -1) (hw : 0 ≤ wr ∧ wr ≤ 1000000000) :
  Calls Tryz.prog 72 #[.pointer (some ⟨m, 0, none⟩)] w fun e w' => e = .returned (.bool true) ∧ w' = w.drew.setCell ⟨m, 12, none⟩ (.int .i64 (wr + 1)) := by
 have hne : ((st : Int) != -1) = false := by simp [h1]
 have HM := hid h; have H1 := hid h1
 have cm := cellsOf h; have nm := ltOf h; have fm := q0c h
 clear h h1
 go_enter Tryz.func72, Tryz.ntmps72
 go_wp2_with fail
 obtain ⟨SS1, HSI1, HSO1⟩ := q0l (fun w' => Know m #[u0, u1, u2, u3, u4, u5, u6, u7, u8, u9, u10, u11, .int .i64 wr, .int .i64 st, .bool false] w')
 have hS0 := HSI1.out _ (Know.of (q0a HM.out))
 refine q0o SS1 (by kernel_rfl) hS0 ?_
 refine rgT 0 hS0 ?_
 refine rgT 1 hS0 ?_
 refine rgT 2 hS0 ?_
 refine rgL 3 hS0 HSO1 ?_
 refine rgT 4 hS0 ?_
 refine rgT 5 hS0 ?_
 refine rgS 6 hS0 ?_
 refine rgS 7 hS0 ?_
 refine rgS 8 hS0 ?_
 refine rgS 9 hS0 ?_
 refine rgS 10 hS0 ?_
 refine rgS 11 hS0 ?_
 refine rgS 12 hS0 ?_
 refine rgS 13 hS0 ?_
 refine rgS 14 hS0 ?_
 refine rgT 15 hS0 ?_
 refine wpAnyH_done (by kernel_rfl) ?_ _
 go_wp2_with fail
 go_ret
 exact ⟨rfl, rfl⟩
theorem l5Raw_ok2 (m : Nat) {u0 u1 u2 u3 u4 u5 u6 u7 u8 u9 u10 u11 : Value} {wr st : Int} (w : World) (h : w.heap[m]? = some (.cells #[u0, u1, u2, u3, u4, u5, u6, u7, u8, u9, u10, u11, .int .i64 wr, .int .i64 st, .bool false] 34 (0, 0))) (h1 : st ≠ -1 ∧ wr < st) (hw : 0 ≤ wr ∧ wr ≤ 1000000000) :
  Calls Tryz.prog 72 #[.pointer (some ⟨m, 0, none⟩)] w fun e w' => e = .returned (.bool true) ∧ w' = w.drew.setCell ⟨m, 12, none⟩ (.int .i64 (wr + 1)) := by
 have hne : ((st : Int) != -1) = true := by simpa using h1.1
 have hlt : ¬ st ≤ wr := by omega
 have HM := hid h; have H1 := hid h1
 have cm := cellsOf h; have nm := ltOf h; have fm := q0c h
 clear h h1
 go_enter Tryz.func72, Tryz.ntmps72
 go_wp2_with fail
 obtain ⟨SS1, HSI1, HSO1⟩ := q0l (fun w' => Know m #[u0, u1, u2, u3, u4, u5, u6, u7, u8, u9, u10, u11, .int .i64 wr, .int .i64 st, .bool false] w')
 have hS0 := HSI1.out _ (Know.of (q0a HM.out))
 refine q0o SS1 (by kernel_rfl) hS0 ?_
 refine rgT 0 hS0 ?_
 refine rgT 1 hS0 ?_
 refine rgT 2 hS0 ?_
 refine rgL 3 hS0 HSO1 ?_
 refine rgT 4 hS0 ?_
 refine rgT 5 hS0 ?_
 refine rgT 6 hS0 ?_
 refine rgT 7 hS0 ?_
 refine rgT 8 hS0 ?_
 refine rgL 9 hS0 HSO1 ?_
 refine rgT 10 hS0 ?_
 refine rgT 11 hS0 ?_
 refine rgT 12 hS0 ?_
 refine rgL 13 hS0 HSO1 ?_
 refine rgT 14 hS0 ?_
 refine rgT 15 hS0 ?_
 refine wpAnyH_done (by kernel_rfl) ?_ _
 go_wp2_with fail
 go_ret
 exact ⟨rfl, rfl⟩
theorem writeb_c (m nb n1 n2 n3 n4 b off b2 off2 b3 off3 tg td tr m10 d10 l C l3 c3 lb cb : Nat) (ab : Option Addr) (sp : Int) (bs : List UInt8) (fb : List Nat) {u0 u1 u2 u3 u4 u5 u6 u7 u8 u10 u11 u14 : Value} {wr st : Int} {v0 v1 : Value} {E0 E1 E2 E3 E4 : TypeId} (w : World) (hb0 : w.heap[nb]? = some (.cells #[.int .i64 sp, .slice ab lb cb] E0 (0, 0))) (h1 : w.heap[n1]? = some (.cells #[.pointer (some ⟨m, 0, none⟩)] E1 (0, 0))) (h2 : w.heap[n2]? = some (.cells #[.int .i64 tg] E2 (0, 0))) (h3 : w.heap[n3]? = some (.cells #[.int .i64 td] E3 (0, 0))) (h4 : w.heap[n4]? = some (.cells #[.int .i64 tr] E4 (0, 0)))
  (h : w.heap[m]? = some (.cells #[u0, u1, u2, u3, u4, u5, u6, u7, u8, .slice (some ⟨b, off, none⟩) m10 d10, u10, u11, .int .i64 wr, .int .i64 st, u14] 34 (0, 0))) (hc : w.cell? ⟨b, off + tg, none⟩ = some (.slice (some ⟨b2, off2, none⟩) l C)) (hd : w.cell? ⟨b2, off2 + td * 2 + 1, none⟩ = some (.slice (some ⟨b3, off3, none⟩) l3 c3)) (htg : tg < m10) (htd : td < l) (htr : tr < l3) (hbl : b < w.heap.size) (hbl2 : b2 < w.heap.size)
  (hv0 : w.cell? ⟨b3, off3 + tr * 2, none⟩ = some v0) (hv1 : w.cell? ⟨b3, off3 + tr * 2 + 1, none⟩ = some v1) (hlo : q3x w b3) (hs : q0t.sl w ab lb cb bs fb) (hlb : lb ≤ 1048576) :
  Calls Tryz.prog 214 #[.pointer (some ⟨nb, 0, none⟩), .pointer (some ⟨n1, 0, none⟩), .pointer (some ⟨n2, 0, none⟩), .pointer (some ⟨n3, 0, none⟩), .pointer (some ⟨n4, 0, none⟩)] w fun e w' => e = .returned (.tuple #[]) ∧ ∃ p4 d4 g4 wz, Chg [] w wz ∧ q0t.sl wz p4 lb d4 bs g4 ∧ q1c w.heap.size wz g4 ∧ w' = (wz.setCell ⟨b3, off3 + tr * 2, none⟩ (.int .i64 sp)).setCell ⟨b3, off3 + tr * 2 + 1, none⟩ (.slice p4 lb d4) := by
 have HB := hid hb0; have H1 := hid h1; have H2 := hid h2; have H3 := hid h3; have H4 := hid h4; have HM := hid h; have HC := hid hc; have HD := hid hd; have HV0 := hid hv0; have HV1 := hid hv1; have HLo := hid hlo; have HS := hid hs; have LB := hid hs.1.symm
 have hbl3 := hlo.lt
 clear hb0 h1 h2 h3 h4 h hc hd hv0 hv1 hlo hs
 go_enter Tryz.func214, Tryz.ntmps214
 go_wp2_with fail
 obtain ⟨CC, HCI, HCO⟩ := q0l (fun w' => Know nb #[.int .i64 sp, .slice ab lb cb] w' ∧ Know n1 #[.pointer (some ⟨m, 0, none⟩)] w' ∧ Know n2 #[.int .i64 tg] w' ∧ Know n3 #[.int .i64 td] w' ∧ Know n4 #[.int .i64 tr] w' ∧ Know m #[u0, u1, u2, u3, u4, u5, u6, u7, u8, .slice (some ⟨b, off, none⟩) m10 d10, u10, u11, .int .i64 wr, .int .i64 st, u14] w' ∧ w'.cell? ⟨b, off + tg, none⟩ = some (.slice (some ⟨b2, off2, none⟩) l C) ∧ w'.cell? ⟨b2, off2 + td * 2 + 1, none⟩ = some (.slice (some ⟨b3, off3, none⟩) l3 c3))
 refine q1m [19] CC (by kernel_rfl) (HCI.out _ ⟨(Know.of (q0a HB.out)), (Know.of (q0a H1.out)), (Know.of (q0a H2.out)), (Know.of (q0a H3.out)), (Know.of (q0a H4.out)), (Know.of (q0a HM.out)), HC.out, HD.out⟩) (fun hcl hS => ?_)
 refine ggL 0 hcl hS HCO ?_; clear hcl hS; intro hcl hS
 refine ggT 1 hcl hS ?_; clear hcl hS; intro hcl hS
 refine ggT 2 hcl hS ?_; clear hcl hS; intro hcl hS
 refine ggL 3 hcl hS HCO ?_; clear hcl hS; intro hcl hS
 refine ggL 4 hcl hS HCO ?_; clear hcl hS; intro hcl hS
 refine ggT 5 hcl hS ?_; clear hcl hS; intro hcl hS
 refine ggL 6 hcl hS HCO ?_; clear hcl hS; intro hcl hS
 refine ggL 7 hcl hS HCO ?_; clear hcl hS; intro hcl hS
 refine ggT 8 hcl hS ?_; clear hcl hS; intro hcl hS
 refine ggT 9 hcl hS ?_; clear hcl hS; intro hcl hS
 refine ggL 10 hcl hS HCO ?_; clear hcl hS; intro hcl hS
 refine ggL 11 hcl hS HCO ?_; clear hcl hS; intro hcl hS
 refine ggT 12 hcl hS ?_; clear hcl hS; intro hcl hS
 refine ggL 13 hcl hS HCO ?_; clear hcl hS; intro hcl hS
 refine ggT 14 hcl hS ?_; clear hcl hS; intro hcl hS
 refine ggL 15 hcl hS HCO ?_; clear hcl hS; intro hcl hS
 refine ggC 16 hcl rfl (by kernel_rfl) (fun K hK => ?_)
 go_simp
 go_at_call 141
 refine (q7f ab lb cb bs fb _ (q0t.sl_ext HS.out ((Chg.refl [] w).drew)) (by omega)).mono ?_; rintro e w8 ⟨p4, d4, g4, rfl, hs, hf, hc⟩
 rw [LB.out] at hs ⊢; have HN1 := hid (And.intro hs (And.intro (hf.mono (C := w.heap.size) (Nat.le_refl _)) (((Chg.refl [] w).drew).trans0 hc))); obtain ⟨-, -, F0⟩ := bk hc (q0a HB.out) (by simp); obtain ⟨-, -, F1⟩ := bk hc (q0a H1.out) (by simp); obtain ⟨-, -, F2⟩ := bk hc (q0a H2.out) (by simp); obtain ⟨-, -, F3⟩ := bk hc (q0a H3.out) (by simp); obtain ⟨-, -, F4⟩ := bk hc (q0a H4.out) (by simp); obtain ⟨-, -, F5⟩ := bk hc (q0a HM.out) (by simp); have k1 := q0f HN1.out.2.2 HC.out hbl; have k2 := q0f HN1.out.2.2 HD.out hbl2; have k3 := q0f HN1.out.2.2 HV0.out hbl3; have k4 := q0f HN1.out.2.2 HV1.out hbl3; have fz := (HN1.out.2.2.loose b3 HLo.out).free; have ql := HN1.out.2.2.size; have hl8 : b3 < w8.heap.size := Nat.lt_of_lt_of_le hbl3 ql; clear hs hf hc
 go_wp2_with fail
 refine hK.out _ _ (fun _ => HCI.out _ ⟨(Know.of F0.out), (Know.of F1.out), (Know.of F2.out), (Know.of F3.out), (Know.of F4.out), (Know.of F5.out), k1, k2⟩) ?_
 clear hK K hcl hS
 intro hcl hS
 try simp only [Act.put, pA, pB, pC]
 refine ggT 17 hcl hS ?_; clear hcl hS; intro hcl hS
 refine ggT 18 hcl hS ?_; clear hcl hS; intro hcl hS
 refine ggC 19 hcl rfl (by kernel_rfl) (fun K hK => ?_)
 go_simp
 refine hK.out _ _ (Till.done (m := 19) (by simp) (by rfl)) ?_
 clear hK K hcl hS
 intro hcl hS
 try simp only [Act.put, pA, pB, pC]
 refine q3h (by kernel_rfl) ?_ _
 go_wp2_with fail
 refine bodyPost_end (v := .tuple #[]) (by simp [results, Tryz.results214, go_sem]) rfl ⟨rfl, p4, d4, g4, w8, HN1.out.2.2, HN1.out.1, HN1.out.2.1, rfl⟩
theorem rawb_ok1 (m : Nat) (c0 c1 c2 c3 c4 : Value) {u0 u1 u2 u3 u4 u5 u6 u7 u8 u9 u10 u11 u14 : Value} {wr st : Int} (w : World) (R : World → Prop) (h : w.heap[m]? = some (.cells #[u0, u1, u2, u3, u4, u5, u6, u7, u8, u9, u10, u11, .int .i64 wr, .int .i64 st, u14] 34 (0, 0))) (h1 : st = -1) (hw : 0 ≤ wr ∧ wr ≤ 1000000000)
  (hF : Calls Tryz.prog 214 #[c0, c1, c2, c3, c4] w.drew fun e w' => e = .returned (.tuple #[]) ∧ R w') (hR : ∀ w', R w' → w'.heap[m]? = some (.cells #[u0, u1, u2, u3, u4, u5, u6, u7, u8, u9, u10, u11, .int .i64 wr, .int .i64 st, u14] 34 (0, 0))) :
  Calls Tryz.prog 156 #[.pointer (some ⟨m, 0, none⟩), .func (.func 214) #[] #[c0, c1, c2, c3, c4]] w fun e w' => e = .returned (.bool true) ∧ ∃ w1, R w1 ∧ w' = w1.setCell ⟨m, 12, none⟩ (.int .i64 (wr + 1)) := by
 have hne : ((st : Int) != -1) = false := by simp [h1]
 have HM := hid h; have HRR := hid hR; have HFF := hid hF
 have H1 := hid h1
 clear h hR hF h1
 go_enter Tryz.func156, Tryz.ntmps156
 go_wp2_with fail
 obtain ⟨SS1, HSI1, HSO1⟩ := q0l (fun w' => Know m #[u0, u1, u2, u3, u4, u5, u6, u7, u8, u9, u10, u11, .int .i64 wr, .int .i64 st, u14] w')
 have hS0 := HSI1.out _ (Know.of (q0a HM.out))
 refine q0o SS1 (by kernel_rfl) hS0 ?_
 refine rgT 0 hS0 ?_
 refine rgT 1 hS0 ?_
 refine rgT 2 hS0 ?_
 refine rgL 3 hS0 HSO1 ?_
 refine rgT 4 hS0 ?_
 refine rgT 5 hS0 ?_
 refine rgS 6 hS0 ?_
 refine rgS 7 hS0 ?_
 refine rgS 8 hS0 ?_
 refine rgS 9 hS0 ?_
 refine rgS 10 hS0 ?_
 refine rgS 11 hS0 ?_
 refine rgS 12 hS0 ?_
 refine rgS 13 hS0 ?_
 refine rgS 14 hS0 ?_
 refine rgT 15 hS0 ?_
 refine wpAnyH_done (by kernel_rfl) ?_ _
 go_wp2_with fail
 refine HFF.out.mono ?_
 rintro e w1 ⟨rfl, hr⟩
 have hm1 := HRR.out w1 hr
 have HR1 := hid hr
 have cm := cellsOf hm1; have nm := ltOf hm1; have fm := q0c hm1
 clear hm1 hr
 go_wp2_with fail
 go_ret
 exact ⟨rfl, w1, HR1.out, rfl⟩
theorem rawb_ok2 (m : Nat) (c0 c1 c2 c3 c4 : Value) {u0 u1 u2 u3 u4 u5 u6 u7 u8 u9 u10 u11 u14 : Value} {wr st : Int} (w : World) (R : World → Prop) (h : w.heap[m]? = some (.cells #[u0, u1, u2, u3, u4, u5, u6, u7, u8, u9, u10, u11, .int .i64 wr, .int .i64 st, u14] 34 (0, 0))) (h1 : st ≠ -1 ∧ wr < st) (hw : 0 ≤ wr ∧ wr ≤ 1000000000)
  (hF : Calls Tryz.prog 214 #[c0, c1, c2, c3, c4] w.drew fun e w' => e = .returned (.tuple #[]) ∧ R w') (hR : ∀ w', R w' → w'.heap[m]? = some (.cells #[u0, u1, u2, u3, u4, u5, u6, u7, u8, u9, u10, u11, .int .i64 wr, .int .i64 st, u14] 34 (0, 0))) :
  Calls Tryz.prog 156 #[.pointer (some ⟨m, 0, none⟩), .func (.func 214) #[] #[c0, c1, c2, c3, c4]] w fun e w' => e = .returned (.bool true) ∧ ∃ w1, R w1 ∧ w' = w1.setCell ⟨m, 12, none⟩ (.int .i64 (wr + 1)) := by
 have hne : ((st : Int) != -1) = true := by simpa using h1.1
 have hlt : ¬ st ≤ wr := by omega
 have HM := hid h; have HRR := hid hR; have HFF := hid hF
 have H1 := hid h1
 clear h hR hF h1
 go_enter Tryz.func156, Tryz.ntmps156
 go_wp2_with fail
 obtain ⟨SS1, HSI1, HSO1⟩ := q0l (fun w' => Know m #[u0, u1, u2, u3, u4, u5, u6, u7, u8, u9, u10, u11, .int .i64 wr, .int .i64 st, u14] w')
 have hS0 := HSI1.out _ (Know.of (q0a HM.out))
 refine q0o SS1 (by kernel_rfl) hS0 ?_
 refine rgT 0 hS0 ?_
 refine rgT 1 hS0 ?_
 refine rgT 2 hS0 ?_
 refine rgL 3 hS0 HSO1 ?_
 refine rgT 4 hS0 ?_
 refine rgT 5 hS0 ?_
 refine rgT 6 hS0 ?_
 refine rgT 7 hS0 ?_
 refine rgT 8 hS0 ?_
 refine rgL 9 hS0 HSO1 ?_
 refine rgT 10 hS0 ?_
 refine rgT 11 hS0 ?_
 refine rgT 12 hS0 ?_
 refine rgL 13 hS0 HSO1 ?_
 refine rgT 14 hS0 ?_
 refine rgT 15 hS0 ?_
 refine wpAnyH_done (by kernel_rfl) ?_ _
 go_wp2_with fail
 refine HFF.out.mono ?_
 rintro e w1 ⟨rfl, hr⟩
 have hm1 := HRR.out w1 hr
 have HR1 := hid hr
 have cm := cellsOf hm1; have nm := ltOf hm1; have fm := q0c hm1
 clear hm1 hr
 go_wp2_with fail
 go_ret
 exact ⟨rfl, w1, HR1.out, rfl⟩
theorem writeb_fail (m : Nat) (tg td tr : Int) (ab : Option Addr) (lb cb : Nat) (sp : Int) {u0 u1 u2 u3 u4 u5 u6 u7 u8 u9 u10 u11 u14 : Value} {wr st : Int} (w : World) (h : w.heap[m]? = some (.cells #[u0, u1, u2, u3, u4, u5, u6, u7, u8, u9, u10, u11, .int .i64 wr, .int .i64 st, u14] 34 (0, 0))) (h1 : st ≠ -1) (h2 : st ≤ wr) :
  Calls Tryz.prog 137 #[.pointer (some ⟨m, 0, none⟩), .int .i64 tg, .int .i64 td, .int .i64 tr, .agg #[.int .i64 sp, .slice ab lb cb]] w fun e w' => e = .returned (.bool false) ∧ w'.heap[m]? = some (.cells #[u0, u1, u2, u3, u4, u5, u6, u7, u8, u9, .slice none 0 0, u11, .int .i64 wr, .int .i64 st, .bool true] 34 (0, 0)) ∧ Chg [m] w w' := by
 have HM := hid h
 clear h
 go_enter Tryz.func137, Tryz.ntmps137
 go_wp2_with fail
 refine (raw_fail m _ _ (q0b (q0b (q0b (q0b (q0b HM.out _) _) _) _) _) h1 h2).mono ?_
 rintro e w' ⟨rfl, hm, hc⟩
 have HN := hid (And.intro hm ((((((((Chg.refl [m] w).alloc _).alloc _).alloc _).alloc _).alloc _)).trans hc (fun y hy => .inl hy)))
 clear hm hc
 go_wp2_with fail
 go_ret
 exact ⟨rfl, HN.out.1, HN.out.2⟩
theorem writeb_ok (m b off b2 off2 b3 off3 tg td tr m10 d10 l C l3 c3 lb cb : Nat) (ab : Option Addr) (sp : Int) (bs : List UInt8) (fb : List Nat) {u0 u1 u2 u3 u4 u5 u6 u7 u8 u10 u11 u14 : Value} {wr st : Int} {v0 v1 : Value} (w : World) (h : w.heap[m]? = some (.cells #[u0, u1, u2, u3, u4, u5, u6, u7, u8, .slice (some ⟨b, off, none⟩) m10 d10, u10, u11, .int .i64 wr, .int .i64 st, u14] 34 (0, 0))) (h1 : st = -1 ∨ st ≠ -1 ∧ wr < st) (hw : 0 ≤ wr ∧ wr ≤ 1000000000)
  (hc : w.cell? ⟨b, off + tg, none⟩ = some (.slice (some ⟨b2, off2, none⟩) l C)) (hd : w.cell? ⟨b2, off2 + td * 2 + 1, none⟩ = some (.slice (some ⟨b3, off3, none⟩) l3 c3)) (htg : tg < m10) (htd : td < l) (htr : tr < l3) (hbl : b < w.heap.size) (hbl2 : b2 < w.heap.size)
  (hv0 : w.cell? ⟨b3, off3 + tr * 2, none⟩ = some v0) (hv1 : w.cell? ⟨b3, off3 + tr * 2 + 1, none⟩ = some v1) (hlo : q3x w b3) (hbm : b3 ≠ m) (hs : q0t.sl w ab lb cb bs fb) (hlb : lb ≤ 1048576) :
  Calls Tryz.prog 137 #[.pointer (some ⟨m, 0, none⟩), .int .i64 tg, .int .i64 td, .int .i64 tr, .agg #[.int .i64 sp, .slice ab lb cb]] w fun e w' => e = .returned (.bool true) ∧ ∃ p4 d4 g4 wz, Chg [] w wz ∧ q0t.sl wz p4 lb d4 bs g4 ∧ q1c w.heap.size wz g4 ∧ w' = ((wz.setCell ⟨b3, off3 + tr * 2, none⟩ (.int .i64 sp)).setCell ⟨b3, off3 + tr * 2 + 1, none⟩ (.slice p4 lb d4)).setCell ⟨m, 12, none⟩ (.int .i64 (wr + 1)) := by
 have G0 := hid (show Chg [] w (((((w.alloc (.cells #[.pointer (some ⟨m, 0, none⟩)] 97)).alloc (.cells #[.int .i64 tg] 2)).alloc (.cells #[.int .i64 td] 2)).alloc (.cells #[.int .i64 tr] 2)).alloc (.cells #[.int .i64 sp, .slice ab lb cb] 76)) from (((((Chg.refl [] w).alloc _).alloc _).alloc _).alloc _).alloc _)
 have B0 := hid (show (((((w.alloc (.cells #[.pointer (some ⟨m, 0, none⟩)] 97)).alloc (.cells #[.int .i64 tg] 2)).alloc (.cells #[.int .i64 td] 2)).alloc (.cells #[.int .i64 tr] 2)).alloc (.cells #[.int .i64 sp, .slice ab lb cb] 76)).heap[w.heap.size]? = some (.cells #[.pointer (some ⟨m, 0, none⟩)] 97 (0, 0)) from q0b (q0b (q0b (q0b (q0j w _) _) _) _) _)
 have B1 := hid (show (((((w.alloc (.cells #[.pointer (some ⟨m, 0, none⟩)] 97)).alloc (.cells #[.int .i64 tg] 2)).alloc (.cells #[.int .i64 td] 2)).alloc (.cells #[.int .i64 tr] 2)).alloc (.cells #[.int .i64 sp, .slice ab lb cb] 76)).heap[w.heap.size + 1]? = some (.cells #[.int .i64 tg] 2 (0, 0)) from q0b (q0b (q0b (q0e (by simp) _) _) _) _)
 have B2 := hid (show (((((w.alloc (.cells #[.pointer (some ⟨m, 0, none⟩)] 97)).alloc (.cells #[.int .i64 tg] 2)).alloc (.cells #[.int .i64 td] 2)).alloc (.cells #[.int .i64 tr] 2)).alloc (.cells #[.int .i64 sp, .slice ab lb cb] 76)).heap[w.heap.size + 2]? = some (.cells #[.int .i64 td] 2 (0, 0)) from q0b (q0b (q0e (by simp) _) _) _)
 have B3 := hid (show (((((w.alloc (.cells #[.pointer (some ⟨m, 0, none⟩)] 97)).alloc (.cells #[.int .i64 tg] 2)).alloc (.cells #[.int .i64 td] 2)).alloc (.cells #[.int .i64 tr] 2)).alloc (.cells #[.int .i64 sp, .slice ab lb cb] 76)).heap[w.heap.size + 3]? = some (.cells #[.int .i64 tr] 2 (0, 0)) from q0b (q0e (by simp) _) _)
 have B4 := hid (show (((((w.alloc (.cells #[.pointer (some ⟨m, 0, none⟩)] 97)).alloc (.cells #[.int .i64 tg] 2)).alloc (.cells #[.int .i64 td] 2)).alloc (.cells #[.int .i64 tr] 2)).alloc (.cells #[.int .i64 sp, .slice ab lb cb] 76)).heap[w.heap.size + 4]? = some (.cells #[.int .i64 sp, .slice ab lb cb] 76 (0, 0)) from q0e (by simp) _)
 have HM := hid (show (((((w.alloc (.cells #[.pointer (some ⟨m, 0, none⟩)] 97)).alloc (.cells #[.int .i64 tg] 2)).alloc (.cells #[.int .i64 td] 2)).alloc (.cells #[.int .i64 tr] 2)).alloc (.cells #[.int .i64 sp, .slice ab lb cb] 76)).heap[m]? = some (.cells #[u0, u1, u2, u3, u4, u5, u6, u7, u8, .slice (some ⟨b, off, none⟩) m10 d10, u10, u11, .int .i64 wr, .int .i64 st, u14] 34 (0, 0)) from q0b (q0b (q0b (q0b (q0b h _) _) _) _) _)
 have GD := G0.out.drew
 have HF := hid (writeb_c m (w.heap.size + 4) w.heap.size (w.heap.size + 1) (w.heap.size + 2) (w.heap.size + 3) b off b2 off2 b3 off3 tg td tr m10 d10 l C l3 c3 lb cb ab sp bs fb (((((w.alloc (.cells #[.pointer (some ⟨m, 0, none⟩)] 97)).alloc (.cells #[.int .i64 tg] 2)).alloc (.cells #[.int .i64 td] 2)).alloc (.cells #[.int .i64 tr] 2)).alloc (.cells #[.int .i64 sp, .slice ab lb cb] 76)).drew (q0a B4.out) (q0a B0.out) (q0a B1.out) (q0a B2.out) (q0a B3.out) (q0a HM.out) (q0f GD hc hbl) (q0f GD hd hbl2) htg htd htr (Nat.lt_of_lt_of_le hbl GD.size) (Nat.lt_of_lt_of_le hbl2 GD.size) (q0f GD hv0 hlo.lt) (q0f GD hv1 hlo.lt) (GD.loose b3 hlo) (q0t.sl_ext hs GD) hlb)
 have HR := hid (show ∀ w' : World, (∃ p4 d4 g4 wz, Chg [] (((((w.alloc (.cells #[.pointer (some ⟨m, 0, none⟩)] 97)).alloc (.cells #[.int .i64 tg] 2)).alloc (.cells #[.int .i64 td] 2)).alloc (.cells #[.int .i64 tr] 2)).alloc (.cells #[.int .i64 sp, .slice ab lb cb] 76)).drew wz ∧ q0t.sl wz p4 lb d4 bs g4 ∧ q1c (((((w.alloc (.cells #[.pointer (some ⟨m, 0, none⟩)] 97)).alloc (.cells #[.int .i64 tg] 2)).alloc (.cells #[.int .i64 td] 2)).alloc (.cells #[.int .i64 tr] 2)).alloc (.cells #[.int .i64 sp, .slice ab lb cb] 76)).drew.heap.size wz g4 ∧ w' = (wz.setCell ⟨b3, off3 + tr * 2, none⟩ (.int .i64 sp)).setCell ⟨b3, off3 + tr * 2 + 1, none⟩ (.slice p4 lb d4)) → w'.heap[m]? = some (.cells #[u0, u1, u2, u3, u4, u5, u6, u7, u8, .slice (some ⟨b, off, none⟩) m10 d10, u10, u11, .int .i64 wr, .int .i64 st, u14] 34 (0, 0)) from by
  rintro w' ⟨p4, d4, g4, wz, hcz, -, -, rfl⟩
  exact q0u (q0u (hcz.keep0 (q0a HM.out)) _ _ (fun e => hbm e.symm)) _ _ (fun e => hbm e.symm))
 have HGD := hid GD
 clear h hc hd hv0 hv1 hlo hs GD
 go_enter Tryz.func137, Tryz.ntmps137
 go_wp2_with fail
 rcases h1 with h1 | h1
 ·refine (rawb_ok1 m _ _ _ _ _ _ _ HM.out h1 hw HF.out HR.out).mono ?_
  rintro e w' ⟨rfl, w1, ⟨p4, d4, g4, wz, q1, q2, q3, rfl⟩, rfl⟩
  have HN := hid (And.intro (HGD.out.trans0 q1) (And.intro q2 (q3.mono (C := w.heap.size) HGD.out.size)))
  clear q1 q2 q3
  go_wp2_with fail
  go_ret
  exact ⟨rfl, p4, d4, g4, wz, HN.out.1, HN.out.2.1, HN.out.2.2, rfl⟩
 ·refine (rawb_ok2 m _ _ _ _ _ _ _ HM.out h1 hw HF.out HR.out).mono ?_
  rintro e w' ⟨rfl, w1, ⟨p4, d4, g4, wz, q1, q2, q3, rfl⟩, rfl⟩
  have HN := hid (And.intro (HGD.out.trans0 q1) (And.intro q2 (q3.mono (C := w.heap.size) HGD.out.size)))
  clear q1 q2 q3
  go_wp2_with fail
  go_ret
  exact ⟨rfl, p4, d4, g4, wz, HN.out.1, HN.out.2.1, HN.out.2.2, rfl⟩
end Go.Proofs.YtphmpimgbmedbaaGreat
