/- Several texts in one. -/
import Derived.Test.YtphmpimgbmedbaaGreatVay
import Derived.Test.YtphmpimgbmedbaaGreatVaz
import Derived.Test.YtphmpimgbmedbaaGreatVav
import Derived.Test.YtphmpimgbmedbaaGreatVat
import Derived.Test.YtphmpimgbmedbaaGreatVam
import Derived.Test.YtphmpimgbmedbaaGreatVaw
import Derived.Test.YtphmpimgbmedbaaGreatVax
set_option maxRecDepth 100000
set_option maxHeartbeats 8000000
namespace Go.Proofs.YtphmpimgbmedbaaGreat
open Go.RowKit
open Go.Lib (hid)
theorem z0j (x : Wld) (cx : Array Value) (fx : List Nat) (g : Int) (w : World) (hx : wldL.rep w cx.toList x fx) (hz : q1u x ≤ 1048576) (og : q0q g) :
  Calls Tryz.prog 62 #[.agg cx, .int .i64 g] w (q2l wrsL (onR x g) w) := by
 obtain ⟨a10, l10, c10, _, a11, l11, c11, f11, a12, l12, c12, _, ex, -, -, -, -, -, -, -, -, -, h10, h11, h12, oo13, oo14, -⟩ := q0x.1 hx
 obtain rfl := Array.toList_inj.1 (ex.trans (List.toList_toArray).symm)
 have HW := hid hx; have HZ := hid hz; have H10 := hid h10; have H11 := hid h11; have H12 := hid h12; have HOO := hid (And.intro oo13 oo14)
 have hl11 : l11 ≤ 1048576 := by have h := h11.1; have q10 := q0s (q0s q0w) x.gS; have q12 := q0s q1e x.tapes; unfold q1u q3z at hz; omega
 clear hx ex hz h10 h11 h12 oo13 oo14
 obtain ⟨KI, _⟩ := z0i
 have G0 := hid (show Chg [] w ((w.alloc (.cells #[.int .i64 x.sH.gS, .int .i64 x.sH.column, .int .i64 x.sH.data, .int .i64 x.sH.sR, .int .i64 x.sH.rows, .int .i64 x.sH.cap, .int .i64 x.sH.bT, .int .i64 x.sH.qU, .int .i64 x.sH.sG, .slice a10 l10 c10, .slice a11 l11 c11, .slice a12 l12 c12, .int .i64 x.wT, .int .i64 x.stop, .bool x.down] 34)).alloc (.cells #[.int .i64 0, .int .i64 0, .int .i64 0, .int .i64 0, .int .i64 0, .int .i64 0, .int .i64 0, .int .i64 0, .int .i64 0, .int .i64 0, .slice none 0 0, .slice none 0 0, .slice none 0 0, .int .i64 0, .int .i64 0, .bool false] 36)) from (Chg.alloc (Chg.alloc (Chg.refl [] w) _) _))
 have B0 := hid (q0b (q0j w (.cells #[.int .i64 x.sH.gS, .int .i64 x.sH.column, .int .i64 x.sH.data, .int .i64 x.sH.sR, .int .i64 x.sH.rows, .int .i64 x.sH.cap, .int .i64 x.sH.bT, .int .i64 x.sH.qU, .int .i64 x.sH.sG, .slice a10 l10 c10, .slice a11 l11 c11, .slice a12 l12 c12, .int .i64 x.wT, .int .i64 x.stop, .bool x.down] 34)) (.cells #[.int .i64 0, .int .i64 0, .int .i64 0, .int .i64 0, .int .i64 0, .int .i64 0, .int .i64 0, .int .i64 0, .int .i64 0, .int .i64 0, .slice none 0 0, .slice none 0 0, .slice none 0 0, .int .i64 0, .int .i64 0, .bool false] 36))
 have B1 := hid (show ((w.alloc (.cells #[.int .i64 x.sH.gS, .int .i64 x.sH.column, .int .i64 x.sH.data, .int .i64 x.sH.sR, .int .i64 x.sH.rows, .int .i64 x.sH.cap, .int .i64 x.sH.bT, .int .i64 x.sH.qU, .int .i64 x.sH.sG, .slice a10 l10 c10, .slice a11 l11 c11, .slice a12 l12 c12, .int .i64 x.wT, .int .i64 x.stop, .bool x.down] 34)).alloc (.cells #[.int .i64 0, .int .i64 0, .int .i64 0, .int .i64 0, .int .i64 0, .int .i64 0, .int .i64 0, .int .i64 0, .int .i64 0, .int .i64 0, .slice none 0 0, .slice none 0 0, .slice none 0 0, .int .i64 0, .int .i64 0, .bool false] 36)).heap[w.heap.size + 1]? = some (.cells #[.int .i64 0, .int .i64 0, .int .i64 0, .int .i64 0, .int .i64 0, .int .i64 0, .int .i64 0, .int .i64 0, .int .i64 0, .int .i64 0, .slice none 0 0, .slice none 0 0, .slice none 0 0, .int .i64 0, .int .i64 0, .bool false] 36 (0, 0)) from q0e (by simp) _)
 go_enter Tryz.func62, Tryz.ntmps62
 obtain ⟨q, hq⟩ : ∃ q, q = x.up := ⟨_, rfl⟩
 have HQ := hid hq; clear hq
 go_wp2_with (first | (refine q0k rfl _ 34 rfl rfl q0v Tryz.underlying34 B0.out rfl ?_))
 refine (q5b x #[.int .i64 x.sH.gS, .int .i64 x.sH.column, .int .i64 x.sH.data, .int .i64 x.sH.sR, .int .i64 x.sH.rows, .int .i64 x.sH.cap, .int .i64 x.sH.bT, .int .i64 x.sH.qU, .int .i64 x.sH.sG, .slice a10 l10 c10, .slice a11 l11 c11, .slice a12 l12 c12, .int .i64 x.wT, .int .i64 x.stop, .bool x.down] fx _ (wldL.ext HW.out G0.out)).mono ?_
 rintro e w1 ⟨rfl, hc⟩
 rw [← HQ.out]
 obtain ⟨c0, n0, A0_1⟩ := bk0 hc B0.out
 obtain ⟨c1, n1, A1_1⟩ := bk0 hc B1.out
 have G1 := hid (G0.out.trans0 hc)
 have fz := q0c A1_1.out
 clear hc
 have hqk : q0q q := by rw [HQ.out]; exact q9m x
 by_cases hq0 : q = 0
 ·subst hq0
  have hf0 : x.up = 0 := HQ.out.symm
  obtain ⟨-, -, -, -, hok⟩ := upSwl_parts hf0
  have hcap : (l11 : Int) ≤ x.sH.cap := by have h := up_cap hf0; have h2 := H11.out.1; omega
  by_cases hg : 0 ≤ g ∧ g ≤ x.sH.all - 1
  ·have HI := hid (show inB g 0 (x.sH.all - 1) = true by simp [inB, hg.1, hg.2])
   go_wp2_with (first | (refine q0k rfl _ 34 rfl rfl q0v Tryz.underlying34 A0_1.out rfl ?_))
   refine (q2c x.sH hok g _).mono ?_
   rintro e w2 ⟨rfl, hc⟩
   rw [HI.out]
   clear c0 n0
   obtain ⟨c0, n0, A0_2⟩ := bk0 hc A0_1.out
   clear c1 n1
   obtain ⟨c1, n1, A1_2⟩ := bk0 hc A1_1.out
   have G2 := hid (G1.out.trans0 hc)
   clear fz; have fz := q0c A1_2.out
   clear hc
   by_cases hon : g ∈ x.on
   ·go_wp2_with fail
    obtain ⟨SS1, HSI1, HSO1⟩ := q0l (fun w' => Know w.heap.size #[.int .i64 x.sH.gS, .int .i64 x.sH.column, .int .i64 x.sH.data, .int .i64 x.sH.sR, .int .i64 x.sH.rows, .int .i64 x.sH.cap, .int .i64 x.sH.bT, .int .i64 x.sH.qU, .int .i64 x.sH.sG, .slice a10 l10 c10, .slice a11 l11 c11, .slice a12 l12 c12, .int .i64 x.wT, .int .i64 x.stop, .bool x.down] w')
    have hS0 := HSI1.out _ (Know.of (q0a A0_2.out))
    refine q0o SS1 (by kernel_rfl) hS0 ?_
    refine rgT 0 hS0 ?_
    refine q0d 1 rfl (by kernel_rfl) (fun K hK => ?_)
    go_simp
    go_at_call 136
    refine (q2d w.heap.size a11 l11 c11 x.on f11 g _ (q0a A0_2.out) (intL.sl_ext H11.out G2.out.drew)).mono ?_; rintro e w' ⟨rfl, rfl⟩; rw [q0h hon]
    go_wp2_with fail
    refine hK.out _ _ (HSI1.out _ (Know.of (q0a A0_2.out))) (fun hS1 => ?_)
    clear hK K
    try simp only [Act.put, pA, pB, pC]
    refine rgT 2 hS1 ?_
    refine rgT 3 hS1 ?_
    refine rgS 4 hS1 ?_
    refine rgS 5 hS1 ?_
    refine rgS 6 hS1 ?_
    refine rgS 7 hS1 ?_
    refine rgS 8 hS1 ?_
    refine rgS 9 hS1 ?_
    refine rgS 10 hS1 ?_
    refine rgT 11 hS1 ?_
    refine rgT 12 hS1 ?_
    refine wpAnyH_done (by kernel_rfl) ?_ _
    generalize hw3 : w2.drew = w3
    have hc : Chg [] w2 w3 := by rw [← hw3]; exact (Chg.refl [] _).drew
    clear hw3
    clear c0 n0
    obtain ⟨c0, n0, A0_3⟩ := bk0 hc A0_2.out
    clear c1 n1
    obtain ⟨c1, n1, A1_3⟩ := bk0 hc A1_2.out
    have G3 := hid (G2.out.trans0 hc)
    clear fz; have fz := q0c A1_3.out
    clear hc
    go_wp2_with (first | (refine q0k rfl _ 34 rfl rfl q0v Tryz.underlying34 A0_3.out rfl ?_))
    refine (q7i x #[.int .i64 x.sH.gS, .int .i64 x.sH.column, .int .i64 x.sH.data, .int .i64 x.sH.sR, .int .i64 x.sH.rows, .int .i64 x.sH.cap, .int .i64 x.sH.bT, .int .i64 x.sH.qU, .int .i64 x.sH.sG, .slice a10 l10 c10, .slice a11 l11 c11, .slice a12 l12 c12, .int .i64 x.wT, .int .i64 x.stop, .bool x.down] fx _ (wldL.ext HW.out G3.out) HZ.out).mono ?_
    rintro e w4 ⟨p10, m10, d10, g10, p11, m11, d11, g11, p12, m12, d12, g12, hO, rfl, o11, K10, K11, K12, hf, hc, hos, hho⟩
    have HO := hid o11; have HOS0 := hid hos; have HHO := hid hho; have HQ1 := hid hc.size
    have HK := hid (And.intro K10 (And.intro K11 K12)); have HF := hid hf; have HFn := hid (fun b hb => (hf.2 b hb).1); have nR0 := n1
    clear K10 K11 K12 o11 hf hos hho
    clear c0 n0
    obtain ⟨c0, n0, A0_4⟩ := bk0 hc A0_3.out
    clear c1 n1
    obtain ⟨c1, n1, A1_4⟩ := bk0 hc A1_3.out
    have G4 := hid (G3.out.trans0 hc)
    clear fz; have fz := q0c A1_4.out
    clear hc
    go_upto_region 9 with (refine q0p rfl _ _ 34 rfl rfl rfl q0v (q0j _ _) rfl rfl rfl ?_; intro w5 hm hc0)
    have hc : Chg [] w4 w5 := ((Chg.refl [] w4).alloc _).trans hc0 (fun y hy => .inr (by rw [List.mem_singleton] at hy; omega)); clear hc0
    have HM := hid hm; have cm := cellsOf hm; have nm := ltOf hm; have fm := q0c hm; have nR : w.heap.size + 1 < w4.heap.size := n1; clear hm
    have hF := HF.out.lts; have HKe := hid (And.intro (drvL.slice.sl_ext HK.out.1 hc) (And.intro (intL.sl_ext HK.out.2.1 hc) (tapL.sl_ext HK.out.2.2 hc))); have HFG := hid (HF.out.chg hc); have HFe := hid (HFG.out.mono (C := w.heap.size) G3.out.size); have HOS := hid (intL.os_ext HOS0.out hc); have HQ2 := hid (Nat.le_trans HQ1.out hc.size)
    have HFl := hid hF; clear hF
    clear c0 n0
    obtain ⟨c0, n0, A0_5⟩ := bk0 hc A0_4.out
    clear c1 n1
    obtain ⟨c1, n1, A1_5⟩ := bk0 hc A1_4.out
    have G5 := hid (G4.out.trans0 hc)
    clear fz; have fz := q0c A1_5.out
    clear hc
    go_wp2_with (first | (refine q0k rfl _ 34 rfl rfl q0v Tryz.underlying34 A0_5.out rfl ?_))
    refine (q2d w.heap.size a11 l11 c11 x.on f11 g _ A0_5.out (intL.sl_ext H11.out G5.out)).mono ?_
    rintro e w' ⟨rfl, rfl⟩
    rw [q0h hon]
    have hc : Chg [w4.heap.size] w5 w5 := Chg.refl _ _
    have hR := hid (hc.keepb A1_5.out (by simp; omega))
    have hnm : ∀ y ∈ g10 ++ (g11 ++ (g12 ++ [])), y ∉ [w4.heap.size] := fun y hy hm => by have := HFl.out y hy; rw [List.mem_singleton] at hm; omega
    obtain ⟨o1, o2, o3, o4, o5, o6, o7, o8, o9, o13, o14⟩ := HO.out
    have hsub : (g10 ++ (g11 ++ (g12 ++ []))).Sublist (g10 ++ (g11 ++ (g12 ++ []))) := List.Sublist.refl _
    have HE := hid (And.intro (show wldL.rep w5 [.int .i64 x.sH.gS, .int .i64 x.sH.column, .int .i64 x.sH.data, .int .i64 x.sH.sR, .int .i64 x.sH.rows, .int .i64 x.sH.cap, .int .i64 x.sH.bT, .int .i64 x.sH.qU, .int .i64 x.sH.sG, .slice p10 m10 d10, .slice p11 m11 d11, .slice p12 m12 d12, .int .i64 x.wT, .int .i64 x.stop, .bool x.down] _ _ from (q0x.2 ⟨p10, m10, d10, g10, p11, m11, d11, g11, p12, m12, d12, g12, rfl, o1, o2, o3, o4, o5, o6, o7, o8, o9, drvL.slice.sl_chg HKe.out.1 hc (fun y hy => hnm y (by simp [hy])), intL.sl_chg HKe.out.2.1 hc (fun y hy => hnm y (by simp [hy])), tapL.sl_chg HKe.out.2.2 hc (fun y hy => hnm y (by simp [hy])), o13, o14, rfl⟩ : wldL.rep _ _ (x) _)) (And.intro (show q1c w.heap.size w5 (g10 ++ (g11 ++ (g12 ++ []))) from (HFe.out.chg hc).sub hsub) (And.intro (show Chg [] w w5 from G5.out.trans hc (fun y hy => .inr (by rw [List.mem_singleton] at hy; omega))) (show w.heap.size + 1 ∉ g10 ++ (g11 ++ (g12 ++ [])) from fun hy => by have := HFn.out _ (hsub.subset hy); omega))))
    have HRR := hid hR.out; have HMR := hid (show w5.heap[w4.heap.size]? = some (.cells #[.int .i64 x.sH.gS, .int .i64 x.sH.column, .int .i64 x.sH.data, .int .i64 x.sH.sR, .int .i64 x.sH.rows, .int .i64 x.sH.cap, .int .i64 x.sH.bT, .int .i64 x.sH.qU, .int .i64 x.sH.sG, .slice p10 m10 d10, .slice p11 m11 d11, .slice p12 m12 d12, .int .i64 x.wT, .int .i64 x.stop, .bool x.down] 34 (0, 0)) from HM.out)
    clear o1 o2 o3 o4 o5 o6 o7 o8 o9 o13 o14 hc hnm hsub
    go_wp2_with (first | (refine q0k rfl _ 34 rfl rfl q0v Tryz.underlying34 HMR.out rfl ?_) | (refine q0p rfl _ _ 36 rfl rfl rfl q1f HRR.out rfl rfl rfl ?_; intro w9 hb9 hc9; have HB9 := hid hb9; have HC9 := hid hc9; clear hb9 hc9))
    refine bodyPost_ret (v := .agg #[.int .i64 0, .int .i64 x.sH.gS, .int .i64 x.sH.column, .int .i64 x.sH.data, .int .i64 x.sH.sR, .int .i64 x.sH.rows, .int .i64 x.sH.cap, .int .i64 x.sH.bT, .int .i64 x.sH.qU, .int .i64 x.sH.sG, .slice p10 m10 d10, .slice p11 m11 d11, .slice p12 m12 d12, .int .i64 x.wT, .int .i64 x.stop, .bool x.down]) (q0m _ _ Tryz.results62 rfl q1f Tryz.underlying36 HB9.out rfl) rfl (fin9 (0) (i64z) (onR x g) (onR_in hf0 hg hon) HE.out.1 rfl HE.out.2.1 HE.out.2.2.1 HC9.out HE.out.2.2.2 (by omega))
   ·by_cases hfull : (l11 : Int) = x.sH.cap
    ·have hfb : ((l11 : Int) == x.sH.cap) = true := by simp [hfull]
     have HFU := hid hfull; clear hfull
     go_wp2_with fail
     obtain ⟨SS1, HSI1, HSO1⟩ := q0l (fun w' => Know w.heap.size #[.int .i64 x.sH.gS, .int .i64 x.sH.column, .int .i64 x.sH.data, .int .i64 x.sH.sR, .int .i64 x.sH.rows, .int .i64 x.sH.cap, .int .i64 x.sH.bT, .int .i64 x.sH.qU, .int .i64 x.sH.sG, .slice a10 l10 c10, .slice a11 l11 c11, .slice a12 l12 c12, .int .i64 x.wT, .int .i64 x.stop, .bool x.down] w')
     have hS0 := HSI1.out _ (Know.of (q0a A0_2.out))
     refine q0o SS1 (by kernel_rfl) hS0 ?_
     refine rgT 0 hS0 ?_
     refine q0d 1 rfl (by kernel_rfl) (fun K hK => ?_)
     go_simp
     go_at_call 136
     refine (q2d w.heap.size a11 l11 c11 x.on f11 g _ (q0a A0_2.out) (intL.sl_ext H11.out G2.out.drew)).mono ?_; rintro e w' ⟨rfl, rfl⟩; rw [q0g hon]
     go_wp2_with fail
     refine hK.out _ _ (HSI1.out _ (Know.of (q0a A0_2.out))) (fun hS1 => ?_)
     clear hK K
     try simp only [Act.put, pA, pB, pC]
     refine rgT 2 hS1 ?_
     refine rgT 3 hS1 ?_
     refine rgT 4 hS1 ?_
     refine rgL 5 hS1 HSO1 ?_
     refine rgT 7 hS1 ?_
     refine rgT 8 hS1 ?_
     refine rgL 9 hS1 HSO1 ?_
     refine q0d 6 rfl (by kernel_rfl) (fun K hK => ?_)
     go_simp
     go_at_call 143
     refine (q8o a11 l11 c11 _ (by omega)).mono ?_; rintro e w' ⟨rfl, rfl⟩
     go_wp2_with fail
     refine hK.out _ _ (HSI1.out _ (Know.of (q0a A0_2.out))) (fun hS2 => ?_)
     clear hK K
     try simp only [Act.put, pA, pB, pC]
     refine rgT 10 hS2 ?_
     refine rgT 11 hS2 ?_
     refine rgT 12 hS2 ?_
     refine wpAnyH_done (by kernel_rfl) ?_ _
     generalize hw3 : w2.drew = w3
     have hc : Chg [] w2 w3 := by rw [← hw3]; exact (Chg.refl [] _).drew
     clear hw3
     clear c0 n0
     obtain ⟨c0, n0, A0_3⟩ := bk0 hc A0_2.out
     clear c1 n1
     obtain ⟨c1, n1, A1_3⟩ := bk0 hc A1_2.out
     have G3 := hid (G2.out.trans0 hc)
     clear fz; have fz := q0c A1_3.out
     clear hc
     go_wp2_with (first | (refine q0p rfl _ _ 36 rfl rfl rfl q1f A1_3.out rfl rfl rfl ?_; intro w9 hb9 hc9; have HB9 := hid hb9; have HC9 := hid hc9; clear hb9 hc9))
     refine bodyPost_ret (v := .agg #[.int .i64 (7), .int .i64 0, .int .i64 0, .int .i64 0, .int .i64 0, .int .i64 0, .int .i64 0, .int .i64 0, .int .i64 0, .int .i64 0, .slice none 0 0, .slice none 0 0, .slice none 0 0, .int .i64 0, .int .i64 0, .bool false]) (q0m _ _ Tryz.results62 rfl q1f Tryz.underlying36 HB9.out rfl) rfl (bad9 (7) (⟨by omega, by omega⟩) (onR x g) (onR_full hf0 hg hon (by rw [← H11.out.1]; exact HFU.out)) G3.out HC9.out (by omega))
    ·have hfb : ((l11 : Int) == x.sH.cap) = false := by simp [hfull]
     have HFU := hid hfull; clear hfull
     go_wp2_with fail
     obtain ⟨SS1, HSI1, HSO1⟩ := q0l (fun w' => Know w.heap.size #[.int .i64 x.sH.gS, .int .i64 x.sH.column, .int .i64 x.sH.data, .int .i64 x.sH.sR, .int .i64 x.sH.rows, .int .i64 x.sH.cap, .int .i64 x.sH.bT, .int .i64 x.sH.qU, .int .i64 x.sH.sG, .slice a10 l10 c10, .slice a11 l11 c11, .slice a12 l12 c12, .int .i64 x.wT, .int .i64 x.stop, .bool x.down] w')
     have hS0 := HSI1.out _ (Know.of (q0a A0_2.out))
     refine q0o SS1 (by kernel_rfl) hS0 ?_
     refine rgT 0 hS0 ?_
     refine q0d 1 rfl (by kernel_rfl) (fun K hK => ?_)
     go_simp
     go_at_call 136
     refine (q2d w.heap.size a11 l11 c11 x.on f11 g _ (q0a A0_2.out) (intL.sl_ext H11.out G2.out.drew)).mono ?_; rintro e w' ⟨rfl, rfl⟩; rw [q0g hon]
     go_wp2_with fail
     refine hK.out _ _ (HSI1.out _ (Know.of (q0a A0_2.out))) (fun hS1 => ?_)
     clear hK K
     try simp only [Act.put, pA, pB, pC]
     refine rgT 2 hS1 ?_
     refine rgT 3 hS1 ?_
     refine rgT 4 hS1 ?_
     refine rgL 5 hS1 HSO1 ?_
     refine rgT 7 hS1 ?_
     refine rgT 8 hS1 ?_
     refine rgL 9 hS1 HSO1 ?_
     refine q0d 6 rfl (by kernel_rfl) (fun K hK => ?_)
     go_simp
     go_at_call 143
     refine (q8o a11 l11 c11 _ (by omega)).mono ?_; rintro e w' ⟨rfl, rfl⟩
     go_wp2_with fail
     refine hK.out _ _ (HSI1.out _ (Know.of (q0a A0_2.out))) (fun hS2 => ?_)
     clear hK K
     try simp only [Act.put, pA, pB, pC]
     refine rgT 10 hS2 ?_
     refine rgT 11 hS2 ?_
     refine rgT 12 hS2 ?_
     refine wpAnyH_done (by kernel_rfl) ?_ _
     generalize hw3 : w2.drew = w3
     have hc : Chg [] w2 w3 := by rw [← hw3]; exact (Chg.refl [] _).drew
     clear hw3
     clear c0 n0
     obtain ⟨c0, n0, A0_3⟩ := bk0 hc A0_2.out
     clear c1 n1
     obtain ⟨c1, n1, A1_3⟩ := bk0 hc A1_2.out
     have G3 := hid (G2.out.trans0 hc)
     clear fz; have fz := q0c A1_3.out
     clear hc
     go_wp2_with (first | (refine q0k rfl _ 34 rfl rfl q0v Tryz.underlying34 A0_3.out rfl ?_))
     refine (q7i x #[.int .i64 x.sH.gS, .int .i64 x.sH.column, .int .i64 x.sH.data, .int .i64 x.sH.sR, .int .i64 x.sH.rows, .int .i64 x.sH.cap, .int .i64 x.sH.bT, .int .i64 x.sH.qU, .int .i64 x.sH.sG, .slice a10 l10 c10, .slice a11 l11 c11, .slice a12 l12 c12, .int .i64 x.wT, .int .i64 x.stop, .bool x.down] fx _ (wldL.ext HW.out G3.out) HZ.out).mono ?_
     rintro e w4 ⟨p10, m10, d10, g10, p11, m11, d11, g11, p12, m12, d12, g12, hO, rfl, o11, K10, K11, K12, hf, hc, hos, hho⟩
     have HO := hid o11; have HOS0 := hid hos; have HHO := hid hho; have HQ1 := hid hc.size
     have HK := hid (And.intro K10 (And.intro K11 K12)); have HF := hid hf; have HFn := hid (fun b hb => (hf.2 b hb).1); have nR0 := n1
     clear K10 K11 K12 o11 hf hos hho
     clear c0 n0
     obtain ⟨c0, n0, A0_4⟩ := bk0 hc A0_3.out
     clear c1 n1
     obtain ⟨c1, n1, A1_4⟩ := bk0 hc A1_3.out
     have G4 := hid (G3.out.trans0 hc)
     clear fz; have fz := q0c A1_4.out
     clear hc
     go_upto_region 9 with (refine q0p rfl _ _ 34 rfl rfl rfl q0v (q0j _ _) rfl rfl rfl ?_; intro w5 hm hc0)
     have hc : Chg [] w4 w5 := ((Chg.refl [] w4).alloc _).trans hc0 (fun y hy => .inr (by rw [List.mem_singleton] at hy; omega)); clear hc0
     have HM := hid hm; have cm := cellsOf hm; have nm := ltOf hm; have fm := q0c hm; have nR : w.heap.size + 1 < w4.heap.size := n1; clear hm
     have hF := HF.out.lts; have HKe := hid (And.intro (drvL.slice.sl_ext HK.out.1 hc) (And.intro (intL.sl_ext HK.out.2.1 hc) (tapL.sl_ext HK.out.2.2 hc))); have HFG := hid (HF.out.chg hc); have HFe := hid (HFG.out.mono (C := w.heap.size) G3.out.size); have HOS := hid (intL.os_ext HOS0.out hc); have HQ2 := hid (Nat.le_trans HQ1.out hc.size)
     have HFl := hid hF; clear hF
     clear c0 n0
     obtain ⟨c0, n0, A0_5⟩ := bk0 hc A0_4.out
     clear c1 n1
     obtain ⟨c1, n1, A1_5⟩ := bk0 hc A1_4.out
     have G5 := hid (G4.out.trans0 hc)
     clear fz; have fz := q0c A1_5.out
     clear hc
     go_wp2_with (first | (refine q0k rfl _ 34 rfl rfl q0v Tryz.underlying34 A0_5.out rfl ?_))
     refine (q2d w.heap.size a11 l11 c11 x.on f11 g _ A0_5.out (intL.sl_ext H11.out G5.out)).mono ?_
     rintro e w' ⟨rfl, rfl⟩
     rw [q0g hon]
     have HL63 := hid (show x.on.length + [g].length ≤ maxLen ∧ (x.on.length + [g].length) * 8 ≤ 140737488355328 from by have h2 := H11.out.1; simp only [List.length_singleton, maxLen]; omega)
     have HRH : ∀ k ∈ hO.toList, k ≠ w4.heap.size ∧ k ≠ w.heap.size + 1 := fun k hk => by have h1 := HHO.out k (by simpa using hk); have h2 := HFl.out k (by simp [h1]); have h3 := HFn.out k (by simp [h1]); omega
     have HKP := hid (show ∀ w7, Chg hO.toList (w5.alloc (.cells #[.int .i64 g] 2)) w7 → w7.heap[w4.heap.size]? = some (.cells #[.int .i64 x.sH.gS, .int .i64 x.sH.column, .int .i64 x.sH.data, .int .i64 x.sH.sR, .int .i64 x.sH.rows, .int .i64 x.sH.cap, .int .i64 x.sH.bT, .int .i64 x.sH.qU, .int .i64 x.sH.sG, .slice p10 m10 d10, .slice p11 m11 d11, .slice p12 m12 d12, .int .i64 x.wT, .int .i64 x.stop, .bool x.down] 34 (0, 0)) from fun w7 h => h.keepb (q0b HM.out _) (fun hk => (HRH _ hk).1 rfl))
     have HKR := hid (show ∀ w7, Chg hO.toList (w5.alloc (.cells #[.int .i64 g] 2)) w7 → w7.heap[w.heap.size + 1]? = some (.cells #[.int .i64 0, .int .i64 0, .int .i64 0, .int .i64 0, .int .i64 0, .int .i64 0, .int .i64 0, .int .i64 0, .int .i64 0, .int .i64 0, .slice none 0 0, .slice none 0 0, .slice none 0 0, .int .i64 0, .int .i64 0, .bool false] 36 (0, 0)) from fun w7 h => h.keepb (q0b A1_5.out _) (fun hk => (HRH _ hk).2 rfl))
     clear HRH
     go_upto_region 11 with (at_builtin; refine Lay.wpList_append intL rfl _ _ 25 rfl Tryz.underlying25 KI rfl (intL.os_alloc HOS.out _) ⟨w5.heap.size, 0, none⟩ 1 1 [.int .i64 g] (ys := [g]) (f := []) rfl rfl (z0c w5 (.int .i64 g) 2) (intL.all_single ⟨rfl, og, rfl⟩) (by simp) HL63.out.1 HL63.out.2 ?_; intro v7 w7 h7 hos7 hh7 hc7; obtain ⟨a7, l7, k7, e7⟩ : ∃ (a : Option Addr) (l c : Nat), v7 = .slice a l c := (by obtain ⟨a, c, e, -⟩ := intL.os_sl hos7; exact ⟨a, _, c, e⟩); subst e7; have H7 := hid (And.intro hos7 (And.intro hh7 hc7)); have hm7 := HKP.out _ hc7; have hR7 := HKR.out _ hc7; clear hos7 hh7 hc7 cm nm fm; have cm := cellsOf hm7; have nm := ltOf hm7; have fm := q0c hm7; have HR7 := hid hR7; clear hm7 hR7)
     obtain ⟨a, l, c, f, e7, hrep, hfr, hcW, hrow, hfb2, hkb⟩ := on_grown x g HO.out HKe.out.1 HKe.out.2.2 HFG.out HQ2.out HHO.out HFl.out HM.out ((Chg.refl [] w5).alloc _) H7.out.2.2 H7.out.1 H7.out.2.1
     obtain ⟨rfl, rfl, rfl⟩ := Value.slice.inj e7
     have HE := hid (And.intro (show wldL.rep (w7.setCell ⟨w4.heap.size, 10, none⟩ (.slice a7 l7 k7)) [.int .i64 x.sH.gS, .int .i64 x.sH.column, .int .i64 x.sH.data, .int .i64 x.sH.sR, .int .i64 x.sH.rows, .int .i64 x.sH.cap, .int .i64 x.sH.bT, .int .i64 x.sH.qU, .int .i64 x.sH.sG, .slice p10 m10 d10, .slice a7 l7 k7, .slice p12 m12 d12, .int .i64 x.wT, .int .i64 x.stop, .bool x.down] _ _ from hrep) (And.intro (show q1c w.heap.size (w7.setCell ⟨w4.heap.size, 10, none⟩ (.slice a7 l7 k7)) (f) from hfr.mono (C := w.heap.size) G3.out.size) (And.intro (show Chg [] w (w7.setCell ⟨w4.heap.size, 10, none⟩ (.slice a7 l7 k7)) from G5.out.trans hcW (fun y hy => .inr (by rcases List.mem_cons.1 hy with h | h; omega; have := (hkb y (by simpa using h)).2; have := G3.out.size; omega))) (show w.heap.size + 1 ∉ f from fun hy => by have h1 := (hfr.2 _ hy).1; omega))))
     have HRR := hid (q0u HR7.out ⟨w4.heap.size, 10, none⟩ (.slice a7 l7 k7) (by show w.heap.size + 1 ≠ w4.heap.size; omega)); have HMR := hid (show (w7.setCell ⟨w4.heap.size, 10, none⟩ (.slice a7 l7 k7)).heap[w4.heap.size]? = some (.cells #[.int .i64 x.sH.gS, .int .i64 x.sH.column, .int .i64 x.sH.data, .int .i64 x.sH.sR, .int .i64 x.sH.rows, .int .i64 x.sH.cap, .int .i64 x.sH.bT, .int .i64 x.sH.qU, .int .i64 x.sH.sG, .slice p10 m10 d10, .slice a7 l7 k7, .slice p12 m12 d12, .int .i64 x.wT, .int .i64 x.stop, .bool x.down] 34 (0, 0)) from hrow)
     clear hrep hfr hcW hrow hfb2 hkb
     go_wp2_with (first | (refine q0k rfl _ 34 rfl rfl q0v Tryz.underlying34 HMR.out rfl ?_) | (refine q0p rfl _ _ 36 rfl rfl rfl q1f HRR.out rfl rfl rfl ?_; intro w9 hb9 hc9; have HB9 := hid hb9; have HC9 := hid hc9; clear hb9 hc9))
     refine bodyPost_ret (v := .agg #[.int .i64 0, .int .i64 x.sH.gS, .int .i64 x.sH.column, .int .i64 x.sH.data, .int .i64 x.sH.sR, .int .i64 x.sH.rows, .int .i64 x.sH.cap, .int .i64 x.sH.bT, .int .i64 x.sH.qU, .int .i64 x.sH.sG, .slice p10 m10 d10, .slice a7 l7 k7, .slice p12 m12 d12, .int .i64 x.wT, .int .i64 x.stop, .bool x.down]) (q0m _ _ Tryz.results62 rfl q1f Tryz.underlying36 HB9.out rfl) rfl (fin9 (0) (i64z) (onR x g) (onR_ok hf0 hg hon (by rw [← H11.out.1]; exact HFU.out)) HE.out.1 rfl HE.out.2.1 HE.out.2.2.1 HC9.out HE.out.2.2.2 (by omega))
  ·have HI := hid (show inB g 0 (x.sH.all - 1) = false by unfold inB; simp; omega)
   go_wp2_with (first | (refine q0k rfl _ 34 rfl rfl q0v Tryz.underlying34 A0_1.out rfl ?_))
   refine (q2c x.sH hok g _).mono ?_
   rintro e w2 ⟨rfl, hc⟩
   rw [HI.out]
   clear c0 n0
   obtain ⟨c0, n0, A0_2⟩ := bk0 hc A0_1.out
   clear c1 n1
   obtain ⟨c1, n1, A1_2⟩ := bk0 hc A1_1.out
   have G2 := hid (G1.out.trans0 hc)
   clear fz; have fz := q0c A1_2.out
   clear hc
   go_wp2_with (first | (refine q0p rfl _ _ 36 rfl rfl rfl q1f A1_2.out rfl rfl rfl ?_; intro w9 hb9 hc9; have HB9 := hid hb9; have HC9 := hid hc9; clear hb9 hc9))
   refine bodyPost_ret (v := .agg #[.int .i64 (3), .int .i64 0, .int .i64 0, .int .i64 0, .int .i64 0, .int .i64 0, .int .i64 0, .int .i64 0, .int .i64 0, .int .i64 0, .slice none 0 0, .slice none 0 0, .slice none 0 0, .int .i64 0, .int .i64 0, .bool false]) (q0m _ _ Tryz.results62 rfl q1f Tryz.underlying36 HB9.out rfl) rfl (bad9 (3) (⟨by omega, by omega⟩) (onR x g) (onR_out hf0 hg) G2.out HC9.out (by omega))
 ·have hb : ((q : Int) != 0) = true := by simpa using hq0
  go_wp2_with (first | (refine q0p rfl _ _ 36 rfl rfl rfl q1f A1_1.out rfl rfl rfl ?_; intro w9 hb9 hc9; have HB9 := hid hb9; have HC9 := hid hc9; clear hb9 hc9))
  refine bodyPost_ret (v := .agg #[.int .i64 (q), .int .i64 0, .int .i64 0, .int .i64 0, .int .i64 0, .int .i64 0, .int .i64 0, .int .i64 0, .int .i64 0, .int .i64 0, .slice none 0 0, .slice none 0 0, .slice none 0 0, .int .i64 0, .int .i64 0, .bool false]) (q0m _ _ Tryz.results62 rfl q1f Tryz.underlying36 HB9.out rfl) rfl (bad9 (q) (hqk) (onR x g) (by rw [onR_bad (by rw [← HQ.out]; exact hq0), ← HQ.out]) G1.out HC9.out (by omega))
theorem q9y (x : Wld) (cx : Array Value) (fx : List Nat) (g : Int) (w : World) (hx : wldL.rep w cx.toList x fx) (hz : q1u x ≤ 1048576) (og : q0q g) :
  Calls Tryz.prog 63 #[.agg cx, .int .i64 g] w (q2l wrsL (onR x g) w) := by
 obtain ⟨a10, l10, c10, _, a11, l11, c11, f11, a12, l12, c12, _, ex, -, -, -, -, -, -, -, -, -, h10, h11, h12, oo13, oo14, -⟩ := q0x.1 hx
 obtain rfl := Array.toList_inj.1 (ex.trans (List.toList_toArray).symm)
 have HW := hid hx; have HZ := hid hz; have H10 := hid h10; have H11 := hid h11; have H12 := hid h12; have HOO := hid (And.intro oo13 oo14)
 have hl11 : l11 ≤ 1048576 := by have h := h11.1; have q10 := q0s (q0s q0w) x.gS; have q12 := q0s q1e x.tapes; unfold q1u q3z at hz; omega
 clear hx ex hz h10 h11 h12 oo13 oo14
 obtain ⟨KI, _⟩ := z0i
 have G0 := hid (show Chg [] w ((w.alloc (.cells #[.int .i64 x.sH.gS, .int .i64 x.sH.column, .int .i64 x.sH.data, .int .i64 x.sH.sR, .int .i64 x.sH.rows, .int .i64 x.sH.cap, .int .i64 x.sH.bT, .int .i64 x.sH.qU, .int .i64 x.sH.sG, .slice a10 l10 c10, .slice a11 l11 c11, .slice a12 l12 c12, .int .i64 x.wT, .int .i64 x.stop, .bool x.down] 34)).alloc (.cells #[.int .i64 0, .int .i64 0, .int .i64 0, .int .i64 0, .int .i64 0, .int .i64 0, .int .i64 0, .int .i64 0, .int .i64 0, .int .i64 0, .slice none 0 0, .slice none 0 0, .slice none 0 0, .int .i64 0, .int .i64 0, .bool false] 36)) from (Chg.alloc (Chg.alloc (Chg.refl [] w) _) _))
 have B0 := hid (q0b (q0j w (.cells #[.int .i64 x.sH.gS, .int .i64 x.sH.column, .int .i64 x.sH.data, .int .i64 x.sH.sR, .int .i64 x.sH.rows, .int .i64 x.sH.cap, .int .i64 x.sH.bT, .int .i64 x.sH.qU, .int .i64 x.sH.sG, .slice a10 l10 c10, .slice a11 l11 c11, .slice a12 l12 c12, .int .i64 x.wT, .int .i64 x.stop, .bool x.down] 34)) (.cells #[.int .i64 0, .int .i64 0, .int .i64 0, .int .i64 0, .int .i64 0, .int .i64 0, .int .i64 0, .int .i64 0, .int .i64 0, .int .i64 0, .slice none 0 0, .slice none 0 0, .slice none 0 0, .int .i64 0, .int .i64 0, .bool false] 36))
 have B1 := hid (show ((w.alloc (.cells #[.int .i64 x.sH.gS, .int .i64 x.sH.column, .int .i64 x.sH.data, .int .i64 x.sH.sR, .int .i64 x.sH.rows, .int .i64 x.sH.cap, .int .i64 x.sH.bT, .int .i64 x.sH.qU, .int .i64 x.sH.sG, .slice a10 l10 c10, .slice a11 l11 c11, .slice a12 l12 c12, .int .i64 x.wT, .int .i64 x.stop, .bool x.down] 34)).alloc (.cells #[.int .i64 0, .int .i64 0, .int .i64 0, .int .i64 0, .int .i64 0, .int .i64 0, .int .i64 0, .int .i64 0, .int .i64 0, .int .i64 0, .slice none 0 0, .slice none 0 0, .slice none 0 0, .int .i64 0, .int .i64 0, .bool false] 36)).heap[w.heap.size + 1]? = some (.cells #[.int .i64 0, .int .i64 0, .int .i64 0, .int .i64 0, .int .i64 0, .int .i64 0, .int .i64 0, .int .i64 0, .int .i64 0, .int .i64 0, .slice none 0 0, .slice none 0 0, .slice none 0 0, .int .i64 0, .int .i64 0, .bool false] 36 (0, 0)) from q0e (by simp) _)
 go_enter Tryz.func63, Tryz.ntmps63
 obtain ⟨q, hq⟩ : ∃ q, q = x.up := ⟨_, rfl⟩
 have HQ := hid hq; clear hq
 go_wp2_with (first | (refine q0k rfl _ 34 rfl rfl q0v Tryz.underlying34 B0.out rfl ?_))
 refine (q8v x #[.int .i64 x.sH.gS, .int .i64 x.sH.column, .int .i64 x.sH.data, .int .i64 x.sH.sR, .int .i64 x.sH.rows, .int .i64 x.sH.cap, .int .i64 x.sH.bT, .int .i64 x.sH.qU, .int .i64 x.sH.sG, .slice a10 l10 c10, .slice a11 l11 c11, .slice a12 l12 c12, .int .i64 x.wT, .int .i64 x.stop, .bool x.down] fx _ (wldL.ext HW.out G0.out)).mono ?_
 rintro e w1 ⟨rfl, hc⟩
 rw [← HQ.out]
 obtain ⟨c0, n0, A0_1⟩ := bk0 hc B0.out
 obtain ⟨c1, n1, A1_1⟩ := bk0 hc B1.out
 have G1 := hid (G0.out.trans0 hc)
 have fz := q0c A1_1.out
 clear hc
 have hqk : q0q q := by rw [HQ.out]; exact q9m x
 by_cases hq0 : q = 0
 ·subst hq0
  have hf0 : x.up = 0 := HQ.out.symm
  obtain ⟨-, -, -, -, hok⟩ := upSwl_parts hf0
  have hcap : (l11 : Int) ≤ x.sH.cap := by have h := up_cap hf0; have h2 := H11.out.1; omega
  by_cases hg : 0 ≤ g ∧ g ≤ x.sH.all - 1
  ·have HI := hid (show inB g 0 (x.sH.all - 1) = true by simp [inB, hg.1, hg.2])
   go_wp2_with (first | (refine q0k rfl _ 34 rfl rfl q0v Tryz.underlying34 A0_1.out rfl ?_))
   refine (q1a x.sH hok _).mono ?_
   rintro e w2 ⟨rfl, hc⟩
   clear c0 n0
   obtain ⟨c0, n0, A0_2⟩ := bk0 hc A0_1.out
   clear c1 n1
   obtain ⟨c1, n1, A1_2⟩ := bk0 hc A1_1.out
   have G2 := hid (G1.out.trans0 hc)
   clear fz; have fz := q0c A1_2.out
   clear hc
   have hak := hok.all
   go_wp2_with (first | (refine q0k rfl _ 34 rfl rfl q0v Tryz.underlying34 A0_2.out rfl ?_))
   refine (q3d g 0 (x.sH.all - 1) _).mono ?_
   rintro e w' ⟨rfl, rfl⟩
   rw [HI.out]
   by_cases hon : g ∈ x.on
   ·go_wp2_with (first | (refine q0k rfl _ 34 rfl rfl q0v Tryz.underlying34 A0_2.out rfl ?_))
    refine (q8u x #[.int .i64 x.sH.gS, .int .i64 x.sH.column, .int .i64 x.sH.data, .int .i64 x.sH.sR, .int .i64 x.sH.rows, .int .i64 x.sH.cap, .int .i64 x.sH.bT, .int .i64 x.sH.qU, .int .i64 x.sH.sG, .slice a10 l10 c10, .slice a11 l11 c11, .slice a12 l12 c12, .int .i64 x.wT, .int .i64 x.stop, .bool x.down] fx _ (wldL.ext HW.out G2.out) HZ.out).mono ?_
    rintro e w3 ⟨p10, m10, d10, g10, p11, m11, d11, g11, p12, m12, d12, g12, hO, rfl, o11, K10, K11, K12, hf, hc, hos, hho⟩
    have HO := hid o11; have HOS0 := hid hos; have HHO := hid hho; have HQ1 := hid hc.size
    have HK := hid (And.intro K10 (And.intro K11 K12)); have HF := hid hf; have HFn := hid (fun b hb => (hf.2 b hb).1); have nR0 := n1
    clear K10 K11 K12 o11 hf hos hho
    clear c0 n0
    obtain ⟨c0, n0, A0_3⟩ := bk0 hc A0_2.out
    clear c1 n1
    obtain ⟨c1, n1, A1_3⟩ := bk0 hc A1_2.out
    have G3 := hid (G2.out.trans0 hc)
    clear fz; have fz := q0c A1_3.out
    clear hc
    go_upto_region 7 with (refine q0p rfl _ _ 34 rfl rfl rfl q0v (q0j _ _) rfl rfl rfl ?_; intro w4 hm hc0)
    have hc : Chg [] w3 w4 := ((Chg.refl [] w3).alloc _).trans hc0 (fun y hy => .inr (by rw [List.mem_singleton] at hy; omega)); clear hc0
    have HM := hid hm; have cm := cellsOf hm; have nm := ltOf hm; have fm := q0c hm; have nR : w.heap.size + 1 < w3.heap.size := n1; clear hm
    have hF := HF.out.lts; have HKe := hid (And.intro (drvL.slice.sl_ext HK.out.1 hc) (And.intro (intL.sl_ext HK.out.2.1 hc) (tapL.sl_ext HK.out.2.2 hc))); have HFG := hid (HF.out.chg hc); have HFe := hid (HFG.out.mono (C := w.heap.size) G2.out.size); have HOS := hid (intL.os_ext HOS0.out hc); have HQ2 := hid (Nat.le_trans HQ1.out hc.size)
    have HFl := hid hF; clear hF
    clear c0 n0
    obtain ⟨c0, n0, A0_4⟩ := bk0 hc A0_3.out
    clear c1 n1
    obtain ⟨c1, n1, A1_4⟩ := bk0 hc A1_3.out
    have G4 := hid (G3.out.trans0 hc)
    clear fz; have fz := q0c A1_4.out
    clear hc
    go_wp2_with (first | (refine q0k rfl _ 34 rfl rfl q0v Tryz.underlying34 A0_4.out rfl ?_))
    refine (q4x a11 l11 c11 x.on f11 g _ (intL.sl_ext H11.out G4.out)).mono ?_
    rintro e w' ⟨rfl, rfl⟩
    rw [q0h hon]
    have hc : Chg [w3.heap.size] w4 w4 := Chg.refl _ _
    have hR := hid (hc.keepb A1_4.out (by simp; omega))
    have hnm : ∀ y ∈ g10 ++ (g11 ++ (g12 ++ [])), y ∉ [w3.heap.size] := fun y hy hm => by have := HFl.out y hy; rw [List.mem_singleton] at hm; omega
    obtain ⟨o1, o2, o3, o4, o5, o6, o7, o8, o9, o13, o14⟩ := HO.out
    have hsub : (g10 ++ (g11 ++ (g12 ++ []))).Sublist (g10 ++ (g11 ++ (g12 ++ []))) := List.Sublist.refl _
    have HE := hid (And.intro (show wldL.rep w4 [.int .i64 x.sH.gS, .int .i64 x.sH.column, .int .i64 x.sH.data, .int .i64 x.sH.sR, .int .i64 x.sH.rows, .int .i64 x.sH.cap, .int .i64 x.sH.bT, .int .i64 x.sH.qU, .int .i64 x.sH.sG, .slice p10 m10 d10, .slice p11 m11 d11, .slice p12 m12 d12, .int .i64 x.wT, .int .i64 x.stop, .bool x.down] _ _ from (q0x.2 ⟨p10, m10, d10, g10, p11, m11, d11, g11, p12, m12, d12, g12, rfl, o1, o2, o3, o4, o5, o6, o7, o8, o9, drvL.slice.sl_chg HKe.out.1 hc (fun y hy => hnm y (by simp [hy])), intL.sl_chg HKe.out.2.1 hc (fun y hy => hnm y (by simp [hy])), tapL.sl_chg HKe.out.2.2 hc (fun y hy => hnm y (by simp [hy])), o13, o14, rfl⟩ : wldL.rep _ _ (x) _)) (And.intro (show q1c w.heap.size w4 (g10 ++ (g11 ++ (g12 ++ []))) from (HFe.out.chg hc).sub hsub) (And.intro (show Chg [] w w4 from G4.out.trans hc (fun y hy => .inr (by rw [List.mem_singleton] at hy; omega))) (show w.heap.size + 1 ∉ g10 ++ (g11 ++ (g12 ++ [])) from fun hy => by have := HFn.out _ (hsub.subset hy); omega))))
    have HRR := hid hR.out; have HMR := hid (show w4.heap[w3.heap.size]? = some (.cells #[.int .i64 x.sH.gS, .int .i64 x.sH.column, .int .i64 x.sH.data, .int .i64 x.sH.sR, .int .i64 x.sH.rows, .int .i64 x.sH.cap, .int .i64 x.sH.bT, .int .i64 x.sH.qU, .int .i64 x.sH.sG, .slice p10 m10 d10, .slice p11 m11 d11, .slice p12 m12 d12, .int .i64 x.wT, .int .i64 x.stop, .bool x.down] 34 (0, 0)) from HM.out)
    clear o1 o2 o3 o4 o5 o6 o7 o8 o9 o13 o14 hc hnm hsub
    go_wp2_with (first | (refine q0k rfl _ 34 rfl rfl q0v Tryz.underlying34 HMR.out rfl ?_) | (refine q0p rfl _ _ 36 rfl rfl rfl q1f HRR.out rfl rfl rfl ?_; intro w9 hb9 hc9; have HB9 := hid hb9; have HC9 := hid hc9; clear hb9 hc9))
    refine bodyPost_ret (v := .agg #[.int .i64 0, .int .i64 x.sH.gS, .int .i64 x.sH.column, .int .i64 x.sH.data, .int .i64 x.sH.sR, .int .i64 x.sH.rows, .int .i64 x.sH.cap, .int .i64 x.sH.bT, .int .i64 x.sH.qU, .int .i64 x.sH.sG, .slice p10 m10 d10, .slice p11 m11 d11, .slice p12 m12 d12, .int .i64 x.wT, .int .i64 x.stop, .bool x.down]) (q0m _ _ Tryz.results63 rfl q1f Tryz.underlying36 HB9.out rfl) rfl (fin9 (0) (i64z) (onR x g) (onR_in hf0 hg hon) HE.out.1 rfl HE.out.2.1 HE.out.2.2.1 HC9.out HE.out.2.2.2 (by omega))
   ·by_cases hfull : (l11 : Int) = x.sH.cap
    ·go_wp2_with (first | (refine q0k rfl _ 34 rfl rfl q0v Tryz.underlying34 A0_2.out rfl ?_))
     refine (q8u x #[.int .i64 x.sH.gS, .int .i64 x.sH.column, .int .i64 x.sH.data, .int .i64 x.sH.sR, .int .i64 x.sH.rows, .int .i64 x.sH.cap, .int .i64 x.sH.bT, .int .i64 x.sH.qU, .int .i64 x.sH.sG, .slice a10 l10 c10, .slice a11 l11 c11, .slice a12 l12 c12, .int .i64 x.wT, .int .i64 x.stop, .bool x.down] fx _ (wldL.ext HW.out G2.out) HZ.out).mono ?_
     rintro e w3 ⟨p10, m10, d10, g10, p11, m11, d11, g11, p12, m12, d12, g12, hO, rfl, o11, K10, K11, K12, hf, hc, hos, hho⟩
     have HO := hid o11; have HOS0 := hid hos; have HHO := hid hho; have HQ1 := hid hc.size
     have HK := hid (And.intro K10 (And.intro K11 K12)); have HF := hid hf; have HFn := hid (fun b hb => (hf.2 b hb).1); have nR0 := n1
     clear K10 K11 K12 o11 hf hos hho
     clear c0 n0
     obtain ⟨c0, n0, A0_3⟩ := bk0 hc A0_2.out
     clear c1 n1
     obtain ⟨c1, n1, A1_3⟩ := bk0 hc A1_2.out
     have G3 := hid (G2.out.trans0 hc)
     clear fz; have fz := q0c A1_3.out
     clear hc
     go_upto_region 7 with (refine q0p rfl _ _ 34 rfl rfl rfl q0v (q0j _ _) rfl rfl rfl ?_; intro w4 hm hc0)
     have hc : Chg [] w3 w4 := ((Chg.refl [] w3).alloc _).trans hc0 (fun y hy => .inr (by rw [List.mem_singleton] at hy; omega)); clear hc0
     have HM := hid hm; have cm := cellsOf hm; have nm := ltOf hm; have fm := q0c hm; have nR : w.heap.size + 1 < w3.heap.size := n1; clear hm
     have hF := HF.out.lts; have HKe := hid (And.intro (drvL.slice.sl_ext HK.out.1 hc) (And.intro (intL.sl_ext HK.out.2.1 hc) (tapL.sl_ext HK.out.2.2 hc))); have HFG := hid (HF.out.chg hc); have HFe := hid (HFG.out.mono (C := w.heap.size) G2.out.size); have HOS := hid (intL.os_ext HOS0.out hc); have HQ2 := hid (Nat.le_trans HQ1.out hc.size)
     have HFl := hid hF; clear hF
     clear c0 n0
     obtain ⟨c0, n0, A0_4⟩ := bk0 hc A0_3.out
     clear c1 n1
     obtain ⟨c1, n1, A1_4⟩ := bk0 hc A1_3.out
     have G4 := hid (G3.out.trans0 hc)
     clear fz; have fz := q0c A1_4.out
     clear hc
     go_wp2_with (first | (refine q0k rfl _ 34 rfl rfl q0v Tryz.underlying34 A0_4.out rfl ?_))
     refine (q4x a11 l11 c11 x.on f11 g _ (intL.sl_ext H11.out G4.out)).mono ?_
     rintro e w' ⟨rfl, rfl⟩
     rw [q0g hon]
     have hfb : decide ((l11 : Int) ≥ x.sH.cap) = true := by simp [hfull]
     have HFU := hid hfull; clear hfull
     go_wp2_with (first | (refine q0p rfl _ _ 36 rfl rfl rfl q1f A1_4.out rfl rfl rfl ?_; intro w9 hb9 hc9; have HB9 := hid hb9; have HC9 := hid hc9; clear hb9 hc9))
     refine bodyPost_ret (v := .agg #[.int .i64 (7), .int .i64 0, .int .i64 0, .int .i64 0, .int .i64 0, .int .i64 0, .int .i64 0, .int .i64 0, .int .i64 0, .int .i64 0, .slice none 0 0, .slice none 0 0, .slice none 0 0, .int .i64 0, .int .i64 0, .bool false]) (q0m _ _ Tryz.results63 rfl q1f Tryz.underlying36 HB9.out rfl) rfl (bad9 (7) (⟨by omega, by omega⟩) (onR x g) (onR_full hf0 hg hon (by rw [← H11.out.1]; exact HFU.out)) G4.out HC9.out (by omega))
    ·go_wp2_with (first | (refine q0k rfl _ 34 rfl rfl q0v Tryz.underlying34 A0_2.out rfl ?_))
     refine (q8u x #[.int .i64 x.sH.gS, .int .i64 x.sH.column, .int .i64 x.sH.data, .int .i64 x.sH.sR, .int .i64 x.sH.rows, .int .i64 x.sH.cap, .int .i64 x.sH.bT, .int .i64 x.sH.qU, .int .i64 x.sH.sG, .slice a10 l10 c10, .slice a11 l11 c11, .slice a12 l12 c12, .int .i64 x.wT, .int .i64 x.stop, .bool x.down] fx _ (wldL.ext HW.out G2.out) HZ.out).mono ?_
     rintro e w3 ⟨p10, m10, d10, g10, p11, m11, d11, g11, p12, m12, d12, g12, hO, rfl, o11, K10, K11, K12, hf, hc, hos, hho⟩
     have HO := hid o11; have HOS0 := hid hos; have HHO := hid hho; have HQ1 := hid hc.size
     have HK := hid (And.intro K10 (And.intro K11 K12)); have HF := hid hf; have HFn := hid (fun b hb => (hf.2 b hb).1); have nR0 := n1
     clear K10 K11 K12 o11 hf hos hho
     clear c0 n0
     obtain ⟨c0, n0, A0_3⟩ := bk0 hc A0_2.out
     clear c1 n1
     obtain ⟨c1, n1, A1_3⟩ := bk0 hc A1_2.out
     have G3 := hid (G2.out.trans0 hc)
     clear fz; have fz := q0c A1_3.out
     clear hc
     go_upto_region 7 with (refine q0p rfl _ _ 34 rfl rfl rfl q0v (q0j _ _) rfl rfl rfl ?_; intro w4 hm hc0)
     have hc : Chg [] w3 w4 := ((Chg.refl [] w3).alloc _).trans hc0 (fun y hy => .inr (by rw [List.mem_singleton] at hy; omega)); clear hc0
     have HM := hid hm; have cm := cellsOf hm; have nm := ltOf hm; have fm := q0c hm; have nR : w.heap.size + 1 < w3.heap.size := n1; clear hm
     have hF := HF.out.lts; have HKe := hid (And.intro (drvL.slice.sl_ext HK.out.1 hc) (And.intro (intL.sl_ext HK.out.2.1 hc) (tapL.sl_ext HK.out.2.2 hc))); have HFG := hid (HF.out.chg hc); have HFe := hid (HFG.out.mono (C := w.heap.size) G2.out.size); have HOS := hid (intL.os_ext HOS0.out hc); have HQ2 := hid (Nat.le_trans HQ1.out hc.size)
     have HFl := hid hF; clear hF
     clear c0 n0
     obtain ⟨c0, n0, A0_4⟩ := bk0 hc A0_3.out
     clear c1 n1
     obtain ⟨c1, n1, A1_4⟩ := bk0 hc A1_3.out
     have G4 := hid (G3.out.trans0 hc)
     clear fz; have fz := q0c A1_4.out
     clear hc
     go_wp2_with (first | (refine q0k rfl _ 34 rfl rfl q0v Tryz.underlying34 A0_4.out rfl ?_))
     refine (q4x a11 l11 c11 x.on f11 g _ (intL.sl_ext H11.out G4.out)).mono ?_
     rintro e w' ⟨rfl, rfl⟩
     rw [q0g hon]
     have hfb : decide ((l11 : Int) ≥ x.sH.cap) = false := by simp; omega
     have HFU := hid hfull; clear hfull
     have HL63 := hid (show x.on.length + [g].length ≤ maxLen ∧ (x.on.length + [g].length) * 8 ≤ 140737488355328 from by have h2 := H11.out.1; simp only [List.length_singleton, maxLen]; omega)
     have HRH : ∀ k ∈ hO.toList, k ≠ w3.heap.size ∧ k ≠ w.heap.size + 1 := fun k hk => by have h1 := HHO.out k (by simpa using hk); have h2 := HFl.out k (by simp [h1]); have h3 := HFn.out k (by simp [h1]); omega
     have HKP := hid (show ∀ w7, Chg hO.toList (w4.alloc (.cells #[.int .i64 g] 2)) w7 → w7.heap[w3.heap.size]? = some (.cells #[.int .i64 x.sH.gS, .int .i64 x.sH.column, .int .i64 x.sH.data, .int .i64 x.sH.sR, .int .i64 x.sH.rows, .int .i64 x.sH.cap, .int .i64 x.sH.bT, .int .i64 x.sH.qU, .int .i64 x.sH.sG, .slice p10 m10 d10, .slice p11 m11 d11, .slice p12 m12 d12, .int .i64 x.wT, .int .i64 x.stop, .bool x.down] 34 (0, 0)) from fun w7 h => h.keepb (q0b HM.out _) (fun hk => (HRH _ hk).1 rfl))
     have HKR := hid (show ∀ w7, Chg hO.toList (w4.alloc (.cells #[.int .i64 g] 2)) w7 → w7.heap[w.heap.size + 1]? = some (.cells #[.int .i64 0, .int .i64 0, .int .i64 0, .int .i64 0, .int .i64 0, .int .i64 0, .int .i64 0, .int .i64 0, .int .i64 0, .int .i64 0, .slice none 0 0, .slice none 0 0, .slice none 0 0, .int .i64 0, .int .i64 0, .bool false] 36 (0, 0)) from fun w7 h => h.keepb (q0b A1_4.out _) (fun hk => (HRH _ hk).2 rfl))
     clear HRH
     go_upto_region 12 with (at_builtin; refine Lay.wpList_append intL rfl _ _ 25 rfl Tryz.underlying25 KI rfl (intL.os_alloc HOS.out _) ⟨w4.heap.size, 0, none⟩ 1 1 [.int .i64 g] (ys := [g]) (f := []) rfl rfl (z0c w4 (.int .i64 g) 2) (intL.all_single ⟨rfl, og, rfl⟩) (by simp) HL63.out.1 HL63.out.2 ?_; intro v7 w7 h7 hos7 hh7 hc7; obtain ⟨a7, l7, k7, e7⟩ : ∃ (a : Option Addr) (l c : Nat), v7 = .slice a l c := (by obtain ⟨a, c, e, -⟩ := intL.os_sl hos7; exact ⟨a, _, c, e⟩); subst e7; have H7 := hid (And.intro hos7 (And.intro hh7 hc7)); have hm7 := HKP.out _ hc7; have hR7 := HKR.out _ hc7; clear hos7 hh7 hc7 cm nm fm; have cm := cellsOf hm7; have nm := ltOf hm7; have fm := q0c hm7; have HR7 := hid hR7; clear hm7 hR7)
     obtain ⟨a, l, c, f, e7, hrep, hfr, hcW, hrow, hfb2, hkb⟩ := on_grown x g HO.out HKe.out.1 HKe.out.2.2 HFG.out HQ2.out HHO.out HFl.out HM.out ((Chg.refl [] w4).alloc _) H7.out.2.2 H7.out.1 H7.out.2.1
     obtain ⟨rfl, rfl, rfl⟩ := Value.slice.inj e7
     have HE := hid (And.intro (show wldL.rep (w7.setCell ⟨w3.heap.size, 10, none⟩ (.slice a7 l7 k7)) [.int .i64 x.sH.gS, .int .i64 x.sH.column, .int .i64 x.sH.data, .int .i64 x.sH.sR, .int .i64 x.sH.rows, .int .i64 x.sH.cap, .int .i64 x.sH.bT, .int .i64 x.sH.qU, .int .i64 x.sH.sG, .slice p10 m10 d10, .slice a7 l7 k7, .slice p12 m12 d12, .int .i64 x.wT, .int .i64 x.stop, .bool x.down] _ _ from hrep) (And.intro (show q1c w.heap.size (w7.setCell ⟨w3.heap.size, 10, none⟩ (.slice a7 l7 k7)) (f) from hfr.mono (C := w.heap.size) G2.out.size) (And.intro (show Chg [] w (w7.setCell ⟨w3.heap.size, 10, none⟩ (.slice a7 l7 k7)) from G4.out.trans hcW (fun y hy => .inr (by rcases List.mem_cons.1 hy with h | h; omega; have := (hkb y (by simpa using h)).2; have := G2.out.size; omega))) (show w.heap.size + 1 ∉ f from fun hy => by have h1 := (hfr.2 _ hy).1; omega))))
     have HRR := hid (q0u HR7.out ⟨w3.heap.size, 10, none⟩ (.slice a7 l7 k7) (by show w.heap.size + 1 ≠ w3.heap.size; omega)); have HMR := hid (show (w7.setCell ⟨w3.heap.size, 10, none⟩ (.slice a7 l7 k7)).heap[w3.heap.size]? = some (.cells #[.int .i64 x.sH.gS, .int .i64 x.sH.column, .int .i64 x.sH.data, .int .i64 x.sH.sR, .int .i64 x.sH.rows, .int .i64 x.sH.cap, .int .i64 x.sH.bT, .int .i64 x.sH.qU, .int .i64 x.sH.sG, .slice p10 m10 d10, .slice a7 l7 k7, .slice p12 m12 d12, .int .i64 x.wT, .int .i64 x.stop, .bool x.down] 34 (0, 0)) from hrow)
     clear hrep hfr hcW hrow hfb2 hkb
     go_wp2_with (first | (refine q0k rfl _ 34 rfl rfl q0v Tryz.underlying34 HMR.out rfl ?_) | (refine q0p rfl _ _ 36 rfl rfl rfl q1f HRR.out rfl rfl rfl ?_; intro w9 hb9 hc9; have HB9 := hid hb9; have HC9 := hid hc9; clear hb9 hc9))
     refine bodyPost_ret (v := .agg #[.int .i64 0, .int .i64 x.sH.gS, .int .i64 x.sH.column, .int .i64 x.sH.data, .int .i64 x.sH.sR, .int .i64 x.sH.rows, .int .i64 x.sH.cap, .int .i64 x.sH.bT, .int .i64 x.sH.qU, .int .i64 x.sH.sG, .slice p10 m10 d10, .slice a7 l7 k7, .slice p12 m12 d12, .int .i64 x.wT, .int .i64 x.stop, .bool x.down]) (q0m _ _ Tryz.results63 rfl q1f Tryz.underlying36 HB9.out rfl) rfl (fin9 (0) (i64z) (onR x g) (onR_ok hf0 hg hon (by rw [← H11.out.1]; exact HFU.out)) HE.out.1 rfl HE.out.2.1 HE.out.2.2.1 HC9.out HE.out.2.2.2 (by omega))
  ·have HI := hid (show inB g 0 (x.sH.all - 1) = false by unfold inB; simp; omega)
   go_wp2_with (first | (refine q0k rfl _ 34 rfl rfl q0v Tryz.underlying34 A0_1.out rfl ?_))
   refine (q1a x.sH hok _).mono ?_
   rintro e w2 ⟨rfl, hc⟩
   clear c0 n0
   obtain ⟨c0, n0, A0_2⟩ := bk0 hc A0_1.out
   clear c1 n1
   obtain ⟨c1, n1, A1_2⟩ := bk0 hc A1_1.out
   have G2 := hid (G1.out.trans0 hc)
   clear fz; have fz := q0c A1_2.out
   clear hc
   have hak := hok.all
   go_wp2_with (first | (refine q0k rfl _ 34 rfl rfl q0v Tryz.underlying34 A0_2.out rfl ?_))
   refine (q3d g 0 (x.sH.all - 1) _).mono ?_
   rintro e w' ⟨rfl, rfl⟩
   rw [HI.out]
   go_wp2_with (first | (refine q0p rfl _ _ 36 rfl rfl rfl q1f A1_2.out rfl rfl rfl ?_; intro w9 hb9 hc9; have HB9 := hid hb9; have HC9 := hid hc9; clear hb9 hc9))
   refine bodyPost_ret (v := .agg #[.int .i64 (3), .int .i64 0, .int .i64 0, .int .i64 0, .int .i64 0, .int .i64 0, .int .i64 0, .int .i64 0, .int .i64 0, .int .i64 0, .slice none 0 0, .slice none 0 0, .slice none 0 0, .int .i64 0, .int .i64 0, .bool false]) (q0m _ _ Tryz.results63 rfl q1f Tryz.underlying36 HB9.out rfl) rfl (bad9 (3) (⟨by omega, by omega⟩) (onR x g) (onR_out hf0 hg) G2.out HC9.out (by omega))
 ·have hb : ((q : Int) != 0) = true := by simpa using hq0
  go_wp2_with (first | (refine q0p rfl _ _ 36 rfl rfl rfl q1f A1_1.out rfl rfl rfl ?_; intro w9 hb9 hc9; have HB9 := hid hb9; have HC9 := hid hc9; clear hb9 hc9))
  refine bodyPost_ret (v := .agg #[.int .i64 (q), .int .i64 0, .int .i64 0, .int .i64 0, .int .i64 0, .int .i64 0, .int .i64 0, .int .i64 0, .int .i64 0, .int .i64 0, .slice none 0 0, .slice none 0 0, .slice none 0 0, .int .i64 0, .int .i64 0, .bool false]) (q0m _ _ Tryz.results63 rfl q1f Tryz.underlying36 HB9.out rfl) rfl (bad9 (q) (hqk) (onR x g) (by rw [onR_bad (by rw [← HQ.out]; exact hq0), ← HQ.out]) G1.out HC9.out (by omega))
theorem q8m (W : World) (a : Option Addr) (la ca : Nat) (xs : List UInt8) (f : List Nat) (o : q0t.sl W a la ca xs f) :
  Calls Tryz.prog 14 #[.slice a la ca] W fun e w' => e = .returned (.bool true) ∧ Chg [] W w' := by
 have hm := q0t.sl_max o
 have HA := hid o
 have HBG := hid (lwBig_any a la ca W)
 clear o
 by_cases hz : (1048576 : Int) < (la : Int)
 ·rw [decide_eq_true hz] at HBG
  go_enter Tryz.func14, Tryz.ntmps14
  go_wp2_with fail
  refine HBG.out.mono ?_; rintro e w' ⟨rfl, rfl⟩
  go_wp2_with fail
  go_ret
  exact ⟨rfl, Chg.refl _ _⟩
 rw [decide_eq_false hz] at HBG
 go_enter Tryz.func14, Tryz.ntmps14
 go_wp2_with fail
 refine HBG.out.mono ?_; rintro e w' ⟨rfl, rfl⟩
 go_wp2_with fail
 refine (drawOn_any a la ca xs f W HA.out (by omega)).mono ?_
 rintro e w1 ⟨cs, g, rfl, -, -, hgo, hdr, hc1⟩
 obtain ⟨X, fx, hrep, hX, -⟩ := hdr.x
 obtain ⟨a10, l10, c10, f10, a11, l11, c11, f11, a12, l12, c12, f12, ex, -⟩ := q0x.1 hrep
 obtain rfl := Array.toList_inj.1 (ex.trans (List.toList_toArray).symm)
 have HX := hid (wldL.ext hrep ((Chg.refl [] w1).alloc (.cells #[.int .i64 X.sH.gS, .int .i64 X.sH.column, .int .i64 X.sH.data, .int .i64 X.sH.sR, .int .i64 X.sH.rows, .int .i64 X.sH.cap, .int .i64 X.sH.bT, .int .i64 X.sH.qU, .int .i64 X.sH.sG, .slice a10 l10 c10, .slice a11 l11 c11, .slice a12 l12 c12, .int .i64 X.wT, .int .i64 X.stop, .bool X.down] 34))); have HXT := hid hX; have HGO := hid hgo
 have HC1 := hid (hc1.alloc (.cells #[.int .i64 X.sH.gS, .int .i64 X.sH.column, .int .i64 X.sH.data, .int .i64 X.sH.sR, .int .i64 X.sH.rows, .int .i64 X.sH.cap, .int .i64 X.sH.bT, .int .i64 X.sH.qU, .int .i64 X.sH.sG, .slice a10 l10 c10, .slice a11 l11 c11, .slice a12 l12 c12, .int .i64 X.wT, .int .i64 X.stop, .bool X.down] 34))
 have HM := hid (q0j w1 (.cells #[.int .i64 X.sH.gS, .int .i64 X.sH.column, .int .i64 X.sH.data, .int .i64 X.sH.sR, .int .i64 X.sH.rows, .int .i64 X.sH.cap, .int .i64 X.sH.bT, .int .i64 X.sH.qU, .int .i64 X.sH.sG, .slice a10 l10 c10, .slice a11 l11 c11, .slice a12 l12 c12, .int .i64 X.wT, .int .i64 X.stop, .bool X.down] 34))
 obtain ⟨r, hr⟩ : ∃ r, r = onR X g := ⟨_, rfl⟩
 have HW := hid (show r.code = 0 → r.world.fault = 0 ∧ (r.world.on.length : Int) ≤ X.sH.cap ∧ g ∈ r.world.on ∧ q1u r.world ≤ q1u X + 6 ∧ (offR r.world g).code = 0 ∧ q1u (offR r.world g).world ≤ q1u X + 6 ∧ (q3v (offR r.world g).world g 0 0).code = 8 ∧ (q1q (offR r.world g).world g 0 0 ⟨1, [0, 0, 0, 0]⟩).code = 8 ∧ (offR (offR r.world g).world g).code = 8 from fun h => by subst hr; exact switches h)
 have HI := hid (fun w h => (by rw [hr]; exact z0j X #[.int .i64 X.sH.gS, .int .i64 X.sH.column, .int .i64 X.sH.data, .int .i64 X.sH.sR, .int .i64 X.sH.rows, .int .i64 X.sH.cap, .int .i64 X.sH.bT, .int .i64 X.sH.qU, .int .i64 X.sH.sG, .slice a10 l10 c10, .slice a11 l11 c11, .slice a12 l12 c12, .int .i64 X.wT, .int .i64 X.stop, .bool X.down] fx g w h (by have := HXT.out; omega) HGO.out : Calls Tryz.prog 62 #[.agg #[.int .i64 X.sH.gS, .int .i64 X.sH.column, .int .i64 X.sH.data, .int .i64 X.sH.sR, .int .i64 X.sH.rows, .int .i64 X.sH.cap, .int .i64 X.sH.bT, .int .i64 X.sH.qU, .int .i64 X.sH.sG, .slice a10 l10 c10, .slice a11 l11 c11, .slice a12 l12 c12, .int .i64 X.wT, .int .i64 X.stop, .bool X.down], .int .i64 g] w (q2l wrsL r w)))
 have HSP := hid (fun w h => (by rw [hr]; exact q9y X #[.int .i64 X.sH.gS, .int .i64 X.sH.column, .int .i64 X.sH.data, .int .i64 X.sH.sR, .int .i64 X.sH.rows, .int .i64 X.sH.cap, .int .i64 X.sH.bT, .int .i64 X.sH.qU, .int .i64 X.sH.sG, .slice a10 l10 c10, .slice a11 l11 c11, .slice a12 l12 c12, .int .i64 X.wT, .int .i64 X.stop, .bool X.down] fx g w h (by have := HXT.out; omega) HGO.out : Calls Tryz.prog 63 #[.agg #[.int .i64 X.sH.gS, .int .i64 X.sH.column, .int .i64 X.sH.data, .int .i64 X.sH.sR, .int .i64 X.sH.rows, .int .i64 X.sH.cap, .int .i64 X.sH.bT, .int .i64 X.sH.qU, .int .i64 X.sH.sG, .slice a10 l10 c10, .slice a11 l11 c11, .slice a12 l12 c12, .int .i64 X.wT, .int .i64 X.stop, .bool X.down], .int .i64 g] w (q2l wrsL r w)))
 clear hrep hX hgo hdr hc1 ex hr
 go_upto_region 4 with (refine q3a rfl _ _ 34 rfl rfl rfl rfl q0v rfl rfl rfl ?_)
 try simp only [Act.put]
 generalize w1.alloc (.cells #[.int .i64 X.sH.gS, .int .i64 X.sH.column, .int .i64 X.sH.data, .int .i64 X.sH.sR, .int .i64 X.sH.rows, .int .i64 X.sH.cap, .int .i64 X.sH.bT, .int .i64 X.sH.qU, .int .i64 X.sH.sG, .slice a10 l10 c10, .slice a11 l11 c11, .slice a12 l12 c12, .int .i64 X.wT, .int .i64 X.stop, .bool X.down] 34) = wA at HX HC1 HM ⊢
 generalize w1.heap.size = m at HM ⊢
 go_wp2_with (refine q0k rfl _ 34 rfl rfl q0v Tryz.underlying34 HM.out rfl ?_)
 refine (HI.out _ HX.out).mono ?_
 rintro e w2 ⟨cr, fr, rfl, hr, -, hc⟩
 obtain ⟨v1, v2, v3, v4, v5, v6, v7, v8, v9, v10, v12, v13, v14, v15, vo, vl, vc, vf, rfl, hone, hY, hon⟩ := q4f hr
 have HON := hid (And.intro (hon.1) (intL.sl_ext hon ((Chg.refl [] w2).alloc (.cells #[.int .i64 r.code, v1, v2, v3, v4, v5, v6, v7, v8, v9, v10, .slice vo vl vc, v12, v13, v14, v15] 36)))); have HY := hid (wldL.ext hY ((Chg.refl [] w2).alloc (.cells #[.int .i64 r.code, v1, v2, v3, v4, v5, v6, v7, v8, v9, v10, .slice vo vl vc, v12, v13, v14, v15] 36)))
 have HM2 := hid (q0b (hc.keep0 HM.out) (.cells #[.int .i64 r.code, v1, v2, v3, v4, v5, v6, v7, v8, v9, v10, .slice vo vl vc, v12, v13, v14, v15] 36)); have HX2 := hid (wldL.ext (wldL.ext HX.out hc) ((Chg.refl [] w2).alloc (.cells #[.int .i64 r.code, v1, v2, v3, v4, v5, v6, v7, v8, v9, v10, .slice vo vl vc, v12, v13, v14, v15] 36)))
 have HC2 := hid ((HC1.out.trans0 hc).alloc (.cells #[.int .i64 r.code, v1, v2, v3, v4, v5, v6, v7, v8, v9, v10, .slice vo vl vc, v12, v13, v14, v15] 36)); have HB2 := hid (q0j w2 (.cells #[.int .i64 r.code, v1, v2, v3, v4, v5, v6, v7, v8, v9, v10, .slice vo vl vc, v12, v13, v14, v15] 36)); have HONE := hid hone
 clear hr hc hY hon hone HI HX HM HC1
 go_upto_region 5 with (refine q3a rfl _ _ 36 rfl rfl rfl rfl q1f rfl rfl HONE.out ?_)
 try simp only [Act.put]
 generalize w2.alloc (.cells #[.int .i64 r.code, v1, v2, v3, v4, v5, v6, v7, v8, v9, v10, .slice vo vl vc, v12, v13, v14, v15] 36) = wB at HON HY HM2 HX2 HC2 HB2 ⊢
 generalize w2.heap.size = n at HB2 ⊢
 have hfd := @field_code
 by_cases hq : r.code = 0
 ·obtain ⟨k1, k2, k3, k4, k5, k6, k7, k8, k9⟩ := HW.out hq
  rw [hq] at HB2 ⊢
  have HYT := hid (show q1u r.world ≤ 1048576 by have := HXT.out; omega)
  obtain ⟨s, hs⟩ : ∃ s, s = offR r.world g := ⟨_, rfl⟩
  rw [← hs] at k5 k6 k7 k8 k9
  have HZT := hid (show q1u s.world ≤ 1048576 by have := HXT.out; omega)
  have HOF := hid (fun w h => (by rw [hs]; exact q6h r.world #[v1, v2, v3, v4, v5, v6, v7, v8, v9, v10, .slice vo vl vc, v12, v13, v14, v15] fr g w h HYT.out HGO.out : Calls Tryz.prog 65 #[.agg #[v1, v2, v3, v4, v5, v6, v7, v8, v9, v10, .slice vo vl vc, v12, v13, v14, v15], .int .i64 g] w (q2l wrsL s w)))
  have hle : ¬ X.sH.cap < (vl : Int) := by have := HON.out.1; omega
  have K1 := hid k1; have K3 := hid k3; have K5 := hid k5; have K7 := hid k7; have K8 := hid k8; have K9 := hid k9
  clear k1 k2 k3 k4 k5 k6 k7 k8 k9 hs hq HW HSP
  have cB := cellsOf HB2.out; have lB := ltOf HB2.out
  go_wp2_with (refine q2u _ 34 #[v1, v2, v3, v4, v5, v6, v7, v8, v9, v10, .slice vo vl vc, v12, v13, v14, v15] (by rfl) rfl rfl q0v Tryz.underlying34 HB2.out rfl rfl rfl ?_)
  refine (q5r r.world #[v1, v2, v3, v4, v5, v6, v7, v8, v9, v10, .slice vo vl vc, v12, v13, v14, v15] fr _ HY.out).mono ?_
  rintro e w3 ⟨rfl, hc⟩
  rw [K1.out]
  have HB3 := hid (hc.keep0 HB2.out); have HM3 := hid (hc.keep0 HM2.out); have HY3 := hid (wldL.ext HY.out hc); have HON3 := hid (intL.sl_ext HON.out.2 hc); have HC3 := hid (HC2.out.trans0 hc)
  clear hc cB lB HB2 HM2 HY HC2
  have cB := cellsOf HB3.out; have lB := ltOf HB3.out; have cM := cellsOf HM3.out; have lM := ltOf HM3.out
  go_wp2_with fail
  refine (lwHas_any vo vl vc r.world.on vf g _ HON3.out).mono ?_
  rintro e w4 ⟨rfl, rfl⟩
  rw [q0h K3.out]
  go_wp2_with (refine q2u _ 34 #[v1, v2, v3, v4, v5, v6, v7, v8, v9, v10, .slice vo vl vc, v12, v13, v14, v15] (by rfl) rfl rfl q0v Tryz.underlying34 HB3.out rfl rfl rfl ?_)
  refine (HOF.out _ HY3.out).mono ?_
  rintro e w5 ⟨cr5, fr5, rfl, hr5, -, hc5⟩
  obtain ⟨s1, s2, s3, s4, s5, s6, s7, s8, s9, s10, s12, s13, s14, s15, so, sl, sc, sf, rfl, hone5, hZ, -⟩ := q4f hr5
  rw [K5.out] at hone5 ⊢
  have HZ := hid (wldL.ext hZ ((Chg.refl [] w5).alloc (.cells #[.int .i64 0, s1, s2, s3, s4, s5, s6, s7, s8, s9, s10, .slice so sl sc, s12, s13, s14, s15] 36)))
  have HC5 := hid ((HC3.out.trans0 hc5).alloc (.cells #[.int .i64 0, s1, s2, s3, s4, s5, s6, s7, s8, s9, s10, .slice so sl sc, s12, s13, s14, s15] 36)); have HB5 := hid (q0j w5 (.cells #[.int .i64 0, s1, s2, s3, s4, s5, s6, s7, s8, s9, s10, .slice so sl sc, s12, s13, s14, s15] 36)); have HONE5 := hid hone5
  clear hr5 hc5 hZ hone5 cB lB cM lM HB3 HM3 HY3 HC3
  go_upto_region 10 with (refine q3a rfl _ _ 36 rfl rfl rfl rfl q1f rfl rfl HONE5.out ?_)
  try simp only [Act.put]
  generalize w5.alloc (.cells #[.int .i64 0, s1, s2, s3, s4, s5, s6, s7, s8, s9, s10, .slice so sl sc, s12, s13, s14, s15] 36) = wC at HZ HC5 HB5 ⊢
  generalize w5.heap.size = p at HB5 ⊢
  have hmk : ∀ w : World, (Instr.makeSlice 62 (.int .i64 4) (.int .i64 4)).run Tryz.prog w = .ok (.slice (some ⟨w.heap.size, 0, none⟩) 4 4) (w.alloc (.cells (zrow (.int .u8 0) 4) 5)) := fun w => q7s 4 (by omega) w
  go_upto_region 11 with fail
  have HYB := hid (show blkL.rep ((wC.alloc (.cells (zrow (.int .u8 0) 4) 5)).alloc (.cells #[.int .i64 1, .slice (some ⟨wC.heap.size, 0, none⟩) 4 4] 76)) [.int .i64 1, .slice (some ⟨wC.heap.size, 0, none⟩) 4 4] ⟨1, [0, 0, 0, 0]⟩ [wC.heap.size] from q1s.2 ⟨some ⟨wC.heap.size, 0, none⟩, 4, 4, [wC.heap.size], rfl, ⟨by decide, by decide⟩, q0t.sl_ext (byte_zrow wC 5 4 (by omega)) ((Chg.refl [] _).alloc _), rfl⟩)
  have HZ6 := hid (wldL.ext HZ.out (((Chg.refl [] wC).alloc (.cells (zrow (.int .u8 0) 4) 5)).alloc (.cells #[.int .i64 1, .slice (some ⟨wC.heap.size, 0, none⟩) 4 4] 76)))
  have HB6 := hid (q0b (q0b HB5.out (.cells (zrow (.int .u8 0) 4) 5)) (.cells #[.int .i64 1, .slice (some ⟨wC.heap.size, 0, none⟩) 4 4] 76))
  have HK6 := hid (q0j (wC.alloc (.cells (zrow (.int .u8 0) 4) 5)) (.cells #[.int .i64 1, .slice (some ⟨wC.heap.size, 0, none⟩) 4 4] 76))
  have HC6 := hid ((HC5.out.alloc (.cells (zrow (.int .u8 0) 4) 5)).alloc (.cells #[.int .i64 1, .slice (some ⟨wC.heap.size, 0, none⟩) 4 4] 76))
  rw [show (wC.alloc (.cells (zrow (.int .u8 0) 4) 5)).heap.size = wC.heap.size + 1 by simp] at HK6
  generalize (wC.alloc (.cells (zrow (.int .u8 0) 4) 5)).alloc (.cells #[.int .i64 1, .slice (some ⟨wC.heap.size, 0, none⟩) 4 4] 76) = wD at HYB HZ6 HB6 HK6 HC6 ⊢
  clear hmk HB5 HC5 HZ
  have cB := cellsOf HB6.out; have lB := ltOf HB6.out
  have hfb := @field_bcode
  go_wp2_with (refine q2u _ 34 #[s1, s2, s3, s4, s5, s6, s7, s8, s9, s10, .slice so sl sc, s12, s13, s14, s15] (by rfl) rfl rfl q0v Tryz.underlying34 HB6.out rfl rfl rfl ?_)
  refine (q6i s.world #[s1, s2, s3, s4, s5, s6, s7, s8, s9, s10, .slice so sl sc, s12, s13, s14, s15] fr5 g 0 0 _ HZ6.out HZT.out HGO.out i64z i64z).mono ?_
  rintro e w7 ⟨cb, fb, rfl, hb, -, hc⟩
  obtain ⟨ab, lb, cb', rfl, -⟩ := brs_open hb
  rw [K7.out]
  have HB7 := hid (hc.keep0 HB6.out); have HK7 := hid (hc.keep0 HK6.out); have HZ7 := hid (wldL.ext HZ6.out hc); have HYB7 := hid (blkL.ext HYB.out hc); have HC7 := hid (HC6.out.trans0 hc)
  clear hb hc cB lB HB6 HK6 HZ6 HYB HC6
  have cB := cellsOf HB7.out; have lB := ltOf HB7.out; have cK := cellsOf HK7.out; have lK := ltOf HK7.out
  go_wp2_with (refine q2u _ 34 #[s1, s2, s3, s4, s5, s6, s7, s8, s9, s10, .slice so sl sc, s12, s13, s14, s15] (by rfl) rfl rfl q0v Tryz.underlying34 HB7.out rfl rfl rfl ?_)
  refine (q5q s.world #[s1, s2, s3, s4, s5, s6, s7, s8, s9, s10, .slice so sl sc, s12, s13, s14, s15] fr5 g 0 0 ⟨1, [0, 0, 0, 0]⟩ #[.int .i64 1, .slice (some ⟨wC.heap.size, 0, none⟩) 4 4] [wC.heap.size] _ HZ7.out HZT.out HGO.out i64z i64z HYB7.out (by decide)).mono ?_
  rintro e w8 ⟨cr8, fr8, rfl, hr8, -, hc⟩
  obtain ⟨y1, y2, y3, y4, y5, y6, y7, y8, y9, y10, y12, y13, y14, y15, yo, yl, yc, yf, rfl, -⟩ := q4f hr8
  rw [K8.out]
  have HB8 := hid (hc.keep0 HB7.out); have HZ8 := hid (wldL.ext HZ7.out hc); have HC8 := hid (HC7.out.trans0 hc)
  clear hr8 hc cB lB cK lK HB7 HK7 HZ7 HYB7 HC7
  have cB := cellsOf HB8.out; have lB := ltOf HB8.out
  go_wp2_with (refine q2u _ 34 #[s1, s2, s3, s4, s5, s6, s7, s8, s9, s10, .slice so sl sc, s12, s13, s14, s15] (by rfl) rfl rfl q0v Tryz.underlying34 HB8.out rfl rfl rfl ?_)
  refine (q6h s.world #[s1, s2, s3, s4, s5, s6, s7, s8, s9, s10, .slice so sl sc, s12, s13, s14, s15] fr5 g _ HZ8.out HZT.out HGO.out).mono ?_
  rintro e w9 ⟨cr9, fr9, rfl, hr9, -, hc⟩
  obtain ⟨z1, z2, z3, z4, z5, z6, z7, z8, z9, z10, z12, z13, z14, z15, zo, zl, zc, zf, rfl, -⟩ := q4f hr9
  rw [K9.out]
  have HC9 := hid (HC8.out.trans0 hc)
  clear hr9 hc
  go_wp2_with fail
  go_ret
  exact ⟨rfl, HC9.out⟩
 ·have hb : (r.code != 0) = true := by simpa using hq
  have cB := cellsOf HB2.out; have lB := ltOf HB2.out
  go_upto_region 6 with fail
  clear cB lB
  obtain ⟨CC, HCI, HCO⟩ := q0l (fun w' => w'.heap[m]? = some (.cells #[.int .i64 X.sH.gS, .int .i64 X.sH.column, .int .i64 X.sH.data, .int .i64 X.sH.sR, .int .i64 X.sH.rows, .int .i64 X.sH.cap, .int .i64 X.sH.bT, .int .i64 X.sH.qU, .int .i64 X.sH.sG, .slice a10 l10 c10, .slice a11 l11 c11, .slice a12 l12 c12, .int .i64 X.wT, .int .i64 X.stop, .bool X.down] 34 (0, 0)) ∧ Know n #[.int .i64 r.code, v1, v2, v3, v4, v5, v6, v7, v8, v9, v10, .slice vo vl vc, v12, v13, v14, v15] w')
  refine q1m [] CC (by kernel_rfl) (HCI.out _ ⟨(q0a HM2.out), (Know.of (q0a HB2.out))⟩) (fun hcl hS => ?_)
  refine ggL 0 hcl hS HCO ?_ (hy := fun w' hw => q4j _ 34 rfl rfl q0v Tryz.underlying34 hw.1 rfl); clear hcl hS; intro hcl hS
  refine ggT 1 hcl hS ?_; clear hcl hS; intro hcl hS
  refine ggT 4 hcl hS ?_; clear hcl hS; intro hcl hS
  refine ggL 5 hcl hS HCO ?_; clear hcl hS; intro hcl hS
  refine ggC 2 hcl rfl (by kernel_rfl) (fun K hK => ?_)
  go_simp
  go_at_call 63
  refine (HSP.out _ (wldL.ext HX2.out ((Chg.refl [] wB).drew))).mono ?_; rintro e w3 ⟨cr3, fr3, rfl, hr3, -, hc3⟩; obtain ⟨s1, s2, s3, s4, s5, s6, s7, s8, s9, s10, s12, s13, s14, s15, so, sl, sc, sf, rfl, -⟩ := q4f hr3; have HB3 := hid (hc3.keep0 (q0a HB2.out)); have HM3 := hid (hc3.keep0 (q0a HM2.out)); have HC3 := hid ((HC2.out.drew).trans0 hc3); clear hr3 hc3
  go_wp2_with fail
  refine hK.out _ _ (fun _ => HCI.out _ ⟨HM3.out, (Know.of HB3.out)⟩) ?_
  clear hK K hcl hS
  intro hcl hS
  try simp only [Act.put, pA, pB, pC]
  refine ggT 3 hcl hS ?_ (hy := by intro w'; go_simp) (v := .int .i64 r.code); clear hcl hS; intro hcl hS
  refine ggT 6 hcl hS ?_; clear hcl hS; intro hcl hS
  refine ggT 7 hcl hS ?_; clear hcl hS; intro hcl hS
  refine q3h (by kernel_rfl) ?_ _
  go_wp2_with fail
  go_ret
  exact ⟨by simp, HC3.out⟩
end Go.Proofs.YtphmpimgbmedbaaGreat
