/- Several texts in one. -/
import Derived.Test.YtphmpimgbmedbaaGreatQar
set_option maxRecDepth 100000
set_option maxHeartbeats 8000000
namespace Go.Proofs.YtphmpimgbmedbaaGreat
open Go.RowKit
open Go.Lib (hid)
theorem spec_wf0 (x : Wld) (cx : Array Value) (fx : List Nat) (w : World) (hx : wldL.rep w cx.toList x fx)  (h1 : ¬ (x.sH.ok)) :
  Calls Tryz.prog 47 #[.agg cx] w fun e w' => e = .returned (.int .i64 x.fault) ∧ Chg [] w w' := by
 obtain ⟨a10, l10, c10, f10, a11, l11, c11, f11, a12, l12, c12, f12, ex, o1, o2, o3, o4, o5, o6, o7, o8, o9, h10, h11, h12, o13, o14, -⟩ := q1a.1 hx
 clear o1 o2 o3 o4 o5 o6 o7 o8 o9
 obtain rfl := Array.toList_inj.1 (ex.trans (List.toList_toArray).symm)
 clear ex
 have q10 := drvL.slice.sl_max h10; have q11 := intL.sl_max h11; have q12 := tapL.sl_max h12
 have H10 := hid h10; have H11 := hid h11; have H12 := hid h12
 have HX := hid hx
 have Z10 := hid h10.1; have Z11 := hid h11.1; have Z12 := hid h12.1
 clear h10 h11 h12 hx
 have HF := hid (show x.sH.fault = 3 from if_neg h1)
 have HR := hid (show x.fault = 3 by unfold Wld.fault; rw [q0f h1]; rfl)
 clear h1
 have HC : Hid (Chg [] w w) := Chg.refl _ _
 go_enter Tryz.func47, Tryz.ntmps47
 go_wp2_with fail
 refine (q0n x.sH _).mono ?_
 rintro e w1 ⟨rfl, hc⟩
 rw [HF.out]
 obtain ⟨cW, lW, HBW⟩ := bk hc (b := w.heap.size) (q0e (by simp) _) (by simp)
 have h := Chg.trans0 (Chg.alloc HC.out _) hc; clear HC; have HC := hid h; clear h
 clear hc
 go_wp2_with fail
 go_ret
 exact ⟨q0i HR.out.symm, HC.out⟩
theorem spec_wf1 (x : Wld) (cx : Array Value) (fx : List Nat) (w : World) (hx : wldL.rep w cx.toList x fx) (h1 : x.sH.ok) (h2 : ¬ (x.built)) :
  Calls Tryz.prog 47 #[.agg cx] w fun e w' => e = .returned (.int .i64 x.fault) ∧ Chg [] w w' := by
 obtain ⟨a10, l10, c10, f10, a11, l11, c11, f11, a12, l12, c12, f12, ex, o1, o2, o3, o4, o5, o6, o7, o8, o9, h10, h11, h12, o13, o14, -⟩ := q1a.1 hx
 clear o1 o2 o3 o4 o5 o6 o7 o8 o9
 obtain rfl := Array.toList_inj.1 (ex.trans (List.toList_toArray).symm)
 clear ex
 have q10 := drvL.slice.sl_max h10; have q11 := intL.sl_max h11; have q12 := tapL.sl_max h12
 have H10 := hid h10; have H11 := hid h11; have H12 := hid h12
 have HX := hid hx
 have Z10 := hid h10.1; have Z11 := hid h11.1; have Z12 := hid h12.1
 clear h10 h11 h12 hx
 have HF := hid (show x.sH.fault = 0 from if_pos h1)
 have HPS := hid (q0g h1)
 have HS := hid h1
 have hal := h1.all
 have e50 : IntKind.i64.wrap (x.sH.all - 1) = x.sH.all - 1 := IntWalk.i64_in _ (by omega)
 have HB := hid (q0f h2)
 have HR := hid (show x.fault = 1 by unfold Wld.fault; rw [HPS.out, q0f (fun h => h2 h.1)]; rfl)
 clear h1 h2
 have HC : Hid (Chg [] w w) := Chg.refl _ _
 go_enter Tryz.func47, Tryz.ntmps47
 go_wp2_with fail
 refine (q0n x.sH _).mono ?_
 rintro e w1 ⟨rfl, hc⟩
 rw [HF.out]
 obtain ⟨cW, lW, HBW⟩ := bk hc (b := w.heap.size) (q0e (by simp) _) (by simp)
 have h := Chg.trans0 (Chg.alloc HC.out _) hc; clear HC; have HC := hid h; clear h
 clear hc
 go_wp2_with fail
 obtain ⟨SS1, HSI1, HSO1⟩ := q0j (fun w' => Know (w.heap.size) #[.int .i64 x.sH.gS, .int .i64 x.sH.cM, .int .i64 x.sH.data, .int .i64 x.sH.spare, .int .i64 x.sH.rows, .int .i64 x.sH.cap, .int .i64 x.sH.bT, .int .i64 x.sH.qU, .int .i64 x.sH.sG, .slice a10 l10 c10, .slice a11 l11 c11, .slice a12 l12 c12, .int .i64 x.wT, .int .i64 x.stop, .bool x.down] w')
 have hS0 := HSI1.out (w1.drew) (Know.of (by refine q0a ?_; exact HBW.out))
 refine q0k SS1 (by kernel_rfl) hS0 ?_
 refine rgL 0 hS0 HSO1 ?_
 refine q0d 1 rfl (by kernel_rfl) (fun K hK => ?_)
 go_simp
 go_at_call 117
 refine (q1v x HS.out #[.int .i64 x.sH.gS, .int .i64 x.sH.cM, .int .i64 x.sH.data, .int .i64 x.sH.spare, .int .i64 x.sH.rows, .int .i64 x.sH.cap, .int .i64 x.sH.bT, .int .i64 x.sH.qU, .int .i64 x.sH.sG, .slice a10 l10 c10, .slice a11 l11 c11, .slice a12 l12 c12, .int .i64 x.wT, .int .i64 x.stop, .bool x.down] fx _ (Lay.ext wldL HX.out (Chg.drew HC.out))).mono ?_
 rintro e w2 ⟨rfl, hc⟩
 rw [HB.out]
 have h := bk hc (q0a HBW.out) (by simp); clear HBW cW lW; obtain ⟨cW, lW, HBW⟩ := h
 have h := Chg.trans0 (Chg.drew HC.out) hc; clear HC; have HC := hid h; clear h
 clear hc
 go_wp2_with fail
 refine hK.out _ _ (HSI1.out _ cW) (fun hS1 => ?_)
 clear hK K
 try simp only [Act.put, pA, pB, pC]
 refine rgT 2 hS1 ?_
 refine rgT 3 hS1 ?_
 refine rgS 4 hS1 ?_
 refine rgS 5 hS1 ?_
 refine rgS 6 hS1 ?_
 refine rgS 7 hS1 ?_
 refine rgS 8 hS1 ?_
 refine rgS 9 hS1 ?_
 refine rgS 10 hS1 ?_
 refine rgS 11 hS1 ?_
 refine rgT 12 hS1 ?_
 refine rgT 13 hS1 ?_
 refine rgS 14 hS1 ?_
 refine rgS 15 hS1 ?_
 refine rgS 16 hS1 ?_
 refine rgS 17 hS1 ?_
 refine rgS 18 hS1 ?_
 refine rgS 19 hS1 ?_
 refine rgS 20 hS1 ?_
 refine rgT 21 hS1 ?_
 refine rgT 22 hS1 ?_
 refine rgS 23 hS1 ?_
 refine rgS 24 hS1 ?_
 refine rgS 25 hS1 ?_
 refine rgS 26 hS1 ?_
 refine rgS 27 hS1 ?_
 refine rgS 28 hS1 ?_
 refine rgS 29 hS1 ?_
 refine rgS 30 hS1 ?_
 refine rgT 31 hS1 ?_
 refine rgT 32 hS1 ?_
 refine rgS 33 hS1 ?_
 refine rgS 34 hS1 ?_
 refine rgS 35 hS1 ?_
 refine rgS 36 hS1 ?_
 refine rgT 37 hS1 ?_
 refine wpAnyH_done (by kernel_rfl) ?_ _
 go_wp2_with fail
 go_ret
 exact ⟨q0i HR.out.symm, HC.out⟩
theorem spec_wf2 (x : Wld) (cx : Array Value) (fx : List Nat) (w : World) (hx : wldL.rep w cx.toList x fx) (h1 : x.sH.ok) (h2 : x.built) (h3 : ¬ (q2o (x.sH.all - 1) x.on)) :
  Calls Tryz.prog 47 #[.agg cx] w fun e w' => e = .returned (.int .i64 x.fault) ∧ Chg [] w w' := by
 obtain ⟨a10, l10, c10, f10, a11, l11, c11, f11, a12, l12, c12, f12, ex, o1, o2, o3, o4, o5, o6, o7, o8, o9, h10, h11, h12, o13, o14, -⟩ := q1a.1 hx
 clear o1 o2 o3 o4 o5 o6 o7 o8 o9
 obtain rfl := Array.toList_inj.1 (ex.trans (List.toList_toArray).symm)
 clear ex
 have q10 := drvL.slice.sl_max h10; have q11 := intL.sl_max h11; have q12 := tapL.sl_max h12
 have H10 := hid h10; have H11 := hid h11; have H12 := hid h12
 have HX := hid hx
 have Z10 := hid h10.1; have Z11 := hid h11.1; have Z12 := hid h12.1
 clear h10 h11 h12 hx
 have HF := hid (show x.sH.fault = 0 from if_pos h1)
 have HPS := hid (q0g h1)
 have HS := hid h1
 have hal := h1.all
 have e50 : IntKind.i64.wrap (x.sH.all - 1) = x.sH.all - 1 := IntWalk.i64_in _ (by omega)
 have HB := hid (q0g h2)
 have HA := hid (q0f h3)
 have HR := hid (show x.fault = 1 by unfold Wld.fault; rw [HPS.out, q0f (fun h => h3 h.2.1.1)]; rfl)
 clear h1 h2 h3
 have HC : Hid (Chg [] w w) := Chg.refl _ _
 go_enter Tryz.func47, Tryz.ntmps47
 go_wp2_with fail
 refine (q0n x.sH _).mono ?_
 rintro e w1 ⟨rfl, hc⟩
 rw [HF.out]
 obtain ⟨cW, lW, HBW⟩ := bk hc (b := w.heap.size) (q0e (by simp) _) (by simp)
 have h := Chg.trans0 (Chg.alloc HC.out _) hc; clear HC; have HC := hid h; clear h
 clear hc
 go_wp2_with fail
 obtain ⟨SS1, HSI1, HSO1⟩ := q0j (fun w' => Know (w.heap.size) #[.int .i64 x.sH.gS, .int .i64 x.sH.cM, .int .i64 x.sH.data, .int .i64 x.sH.spare, .int .i64 x.sH.rows, .int .i64 x.sH.cap, .int .i64 x.sH.bT, .int .i64 x.sH.qU, .int .i64 x.sH.sG, .slice a10 l10 c10, .slice a11 l11 c11, .slice a12 l12 c12, .int .i64 x.wT, .int .i64 x.stop, .bool x.down] w')
 have hS0 := HSI1.out (w1.drew) (Know.of (by refine q0a ?_; exact HBW.out))
 refine q0k SS1 (by kernel_rfl) hS0 ?_
 refine rgL 0 hS0 HSO1 ?_
 refine q0d 1 rfl (by kernel_rfl) (fun K hK => ?_)
 go_simp
 go_at_call 117
 refine (q1v x HS.out #[.int .i64 x.sH.gS, .int .i64 x.sH.cM, .int .i64 x.sH.data, .int .i64 x.sH.spare, .int .i64 x.sH.rows, .int .i64 x.sH.cap, .int .i64 x.sH.bT, .int .i64 x.sH.qU, .int .i64 x.sH.sG, .slice a10 l10 c10, .slice a11 l11 c11, .slice a12 l12 c12, .int .i64 x.wT, .int .i64 x.stop, .bool x.down] fx _ (Lay.ext wldL HX.out (Chg.drew HC.out))).mono ?_
 rintro e w2 ⟨rfl, hc⟩
 rw [HB.out]
 have h := bk hc (q0a HBW.out) (by simp); clear HBW cW lW; obtain ⟨cW, lW, HBW⟩ := h
 have h := Chg.trans0 (Chg.drew HC.out) hc; clear HC; have HC := hid h; clear h
 clear hc
 go_wp2_with fail
 refine hK.out _ _ (HSI1.out _ cW) (fun hS1 => ?_)
 clear hK K
 try simp only [Act.put, pA, pB, pC]
 refine rgT 2 hS1 ?_
 refine rgT 3 hS1 ?_
 refine rgT 4 hS1 ?_
 refine rgL 5 hS1 HSO1 ?_
 refine rgT 6 hS1 ?_
 refine rgL 7 hS1 HSO1 ?_
 refine q0d 8 rfl (by kernel_rfl) (fun K hK => ?_)
 go_simp
 go_at_call 100
 refine (q0r x.sH HS.out _).mono ?_
 rintro e w3 ⟨rfl, hc⟩
 have h := bk0 hc HBW.out; clear HBW cW lW; obtain ⟨cW, lW, HBW⟩ := h
 replace HC := hct HC hc
 clear hc
 go_wp2_with fail
 refine hK.out _ _ (HSI1.out _ cW) (fun hS2 => ?_)
 clear hK K
 try simp only [Act.put, pA, pB, pC]
 refine rgT 9 hS2 ?_
 refine q0d 10 rfl (by kernel_rfl) (fun K hK => ?_)
 go_simp
 go_at_call 118
 refine (q3s a11 l11 c11 x.on f11 (x.sH.all - 1) _ (Lay.sl_ext intL H11.out HC.out)).mono ?_
 rintro e w4 ⟨rfl, hc⟩
 rw [HA.out]
 have h := bk0 hc HBW.out; clear HBW cW lW; obtain ⟨cW, lW, HBW⟩ := h
 replace HC := hct HC hc
 clear hc
 go_wp2_with fail
 refine hK.out _ _ (HSI1.out _ cW) (fun hS3 => ?_)
 clear hK K
 try simp only [Act.put, pA, pB, pC]
 refine rgT 11 hS3 ?_
 refine rgT 12 hS3 ?_
 refine rgT 13 hS3 ?_
 refine rgS 14 hS3 ?_
 refine rgS 15 hS3 ?_
 refine rgS 16 hS3 ?_
 refine rgS 17 hS3 ?_
 refine rgS 18 hS3 ?_
 refine rgS 19 hS3 ?_
 refine rgS 20 hS3 ?_
 refine rgT 21 hS3 ?_
 refine rgT 22 hS3 ?_
 refine rgS 23 hS3 ?_
 refine rgS 24 hS3 ?_
 refine rgS 25 hS3 ?_
 refine rgS 26 hS3 ?_
 refine rgS 27 hS3 ?_
 refine rgS 28 hS3 ?_
 refine rgS 29 hS3 ?_
 refine rgS 30 hS3 ?_
 refine rgT 31 hS3 ?_
 refine rgT 32 hS3 ?_
 refine rgS 33 hS3 ?_
 refine rgS 34 hS3 ?_
 refine rgS 35 hS3 ?_
 refine rgS 36 hS3 ?_
 refine rgT 37 hS3 ?_
 refine wpAnyH_done (by kernel_rfl) ?_ _
 go_wp2_with fail
 go_ret
 exact ⟨q0i HR.out.symm, HC.out⟩
theorem spec_wf3 (x : Wld) (cx : Array Value) (fx : List Nat) (w : World) (hx : wldL.rep w cx.toList x fx) (h1 : x.sH.ok) (h2 : x.built) (h3 : q2o (x.sH.all - 1) x.on) (h4 : ¬ ((x.on.length : Int) ≤ x.sH.cap)) :
  Calls Tryz.prog 47 #[.agg cx] w fun e w' => e = .returned (.int .i64 x.fault) ∧ Chg [] w w' := by
 obtain ⟨a10, l10, c10, f10, a11, l11, c11, f11, a12, l12, c12, f12, ex, o1, o2, o3, o4, o5, o6, o7, o8, o9, h10, h11, h12, o13, o14, -⟩ := q1a.1 hx
 clear o1 o2 o3 o4 o5 o6 o7 o8 o9
 obtain rfl := Array.toList_inj.1 (ex.trans (List.toList_toArray).symm)
 clear ex
 have q10 := drvL.slice.sl_max h10; have q11 := intL.sl_max h11; have q12 := tapL.sl_max h12
 have H10 := hid h10; have H11 := hid h11; have H12 := hid h12
 have HX := hid hx
 have Z10 := hid h10.1; have Z11 := hid h11.1; have Z12 := hid h12.1
 clear h10 h11 h12 hx
 have HF := hid (show x.sH.fault = 0 from if_pos h1)
 have HPS := hid (q0g h1)
 have HS := hid h1
 have hal := h1.all
 have e50 : IntKind.i64.wrap (x.sH.all - 1) = x.sH.all - 1 := IntWalk.i64_in _ (by omega)
 have HB := hid (q0g h2)
 have HA := hid (q0g h3)
 have HR := hid (show x.fault = 1 by unfold Wld.fault; rw [HPS.out, q0f (fun h => h4 h.2.1.2.1)]; rfl)
 have e4 : decide (x.sH.cap < (l11 : Int)) = true := by have := Z11.out; simp; omega
 clear h1 h2 h3 h4
 have HC : Hid (Chg [] w w) := Chg.refl _ _
 go_enter Tryz.func47, Tryz.ntmps47
 go_wp2_with fail
 refine (q0n x.sH _).mono ?_
 rintro e w1 ⟨rfl, hc⟩
 rw [HF.out]
 obtain ⟨cW, lW, HBW⟩ := bk hc (b := w.heap.size) (q0e (by simp) _) (by simp)
 have h := Chg.trans0 (Chg.alloc HC.out _) hc; clear HC; have HC := hid h; clear h
 clear hc
 go_wp2_with fail
 obtain ⟨SS1, HSI1, HSO1⟩ := q0j (fun w' => Know (w.heap.size) #[.int .i64 x.sH.gS, .int .i64 x.sH.cM, .int .i64 x.sH.data, .int .i64 x.sH.spare, .int .i64 x.sH.rows, .int .i64 x.sH.cap, .int .i64 x.sH.bT, .int .i64 x.sH.qU, .int .i64 x.sH.sG, .slice a10 l10 c10, .slice a11 l11 c11, .slice a12 l12 c12, .int .i64 x.wT, .int .i64 x.stop, .bool x.down] w')
 have hS0 := HSI1.out (w1.drew) (Know.of (by refine q0a ?_; exact HBW.out))
 refine q0k SS1 (by kernel_rfl) hS0 ?_
 refine rgL 0 hS0 HSO1 ?_
 refine q0d 1 rfl (by kernel_rfl) (fun K hK => ?_)
 go_simp
 go_at_call 117
 refine (q1v x HS.out #[.int .i64 x.sH.gS, .int .i64 x.sH.cM, .int .i64 x.sH.data, .int .i64 x.sH.spare, .int .i64 x.sH.rows, .int .i64 x.sH.cap, .int .i64 x.sH.bT, .int .i64 x.sH.qU, .int .i64 x.sH.sG, .slice a10 l10 c10, .slice a11 l11 c11, .slice a12 l12 c12, .int .i64 x.wT, .int .i64 x.stop, .bool x.down] fx _ (Lay.ext wldL HX.out (Chg.drew HC.out))).mono ?_
 rintro e w2 ⟨rfl, hc⟩
 rw [HB.out]
 have h := bk hc (q0a HBW.out) (by simp); clear HBW cW lW; obtain ⟨cW, lW, HBW⟩ := h
 have h := Chg.trans0 (Chg.drew HC.out) hc; clear HC; have HC := hid h; clear h
 clear hc
 go_wp2_with fail
 refine hK.out _ _ (HSI1.out _ cW) (fun hS1 => ?_)
 clear hK K
 try simp only [Act.put, pA, pB, pC]
 refine rgT 2 hS1 ?_
 refine rgT 3 hS1 ?_
 refine rgT 4 hS1 ?_
 refine rgL 5 hS1 HSO1 ?_
 refine rgT 6 hS1 ?_
 refine rgL 7 hS1 HSO1 ?_
 refine q0d 8 rfl (by kernel_rfl) (fun K hK => ?_)
 go_simp
 go_at_call 100
 refine (q0r x.sH HS.out _).mono ?_
 rintro e w3 ⟨rfl, hc⟩
 have h := bk0 hc HBW.out; clear HBW cW lW; obtain ⟨cW, lW, HBW⟩ := h
 replace HC := hct HC hc
 clear hc
 go_wp2_with fail
 refine hK.out _ _ (HSI1.out _ cW) (fun hS2 => ?_)
 clear hK K
 try simp only [Act.put, pA, pB, pC]
 refine rgT 9 hS2 ?_
 refine q0d 10 rfl (by kernel_rfl) (fun K hK => ?_)
 go_simp
 go_at_call 118
 refine (q3s a11 l11 c11 x.on f11 (x.sH.all - 1) _ (Lay.sl_ext intL H11.out HC.out)).mono ?_
 rintro e w4 ⟨rfl, hc⟩
 rw [HA.out]
 have h := bk0 hc HBW.out; clear HBW cW lW; obtain ⟨cW, lW, HBW⟩ := h
 replace HC := hct HC hc
 clear hc
 go_wp2_with fail
 refine hK.out _ _ (HSI1.out _ cW) (fun hS3 => ?_)
 clear hK K
 try simp only [Act.put, pA, pB, pC]
 refine rgT 11 hS3 ?_
 refine rgT 12 hS3 ?_
 refine rgT 13 hS3 ?_
 refine rgT 14 hS3 ?_
 refine rgL 15 hS3 HSO1 ?_
 refine rgT 16 hS3 ?_
 refine rgT 17 hS3 ?_
 refine rgT 18 hS3 ?_
 refine rgL 19 hS3 HSO1 ?_
 refine rgT 20 hS3 ?_
 refine rgT 21 hS3 ?_
 refine rgT 22 hS3 ?_
 refine rgS 23 hS3 ?_
 refine rgS 24 hS3 ?_
 refine rgS 25 hS3 ?_
 refine rgS 26 hS3 ?_
 refine rgS 27 hS3 ?_
 refine rgS 28 hS3 ?_
 refine rgS 29 hS3 ?_
 refine rgS 30 hS3 ?_
 refine rgT 31 hS3 ?_
 refine rgT 32 hS3 ?_
 refine rgS 33 hS3 ?_
 refine rgS 34 hS3 ?_
 refine rgS 35 hS3 ?_
 refine rgS 36 hS3 ?_
 refine rgT 37 hS3 ?_
 refine wpAnyH_done (by kernel_rfl) ?_ _
 go_wp2_with fail
 go_ret
 exact ⟨q0i HR.out.symm, HC.out⟩
theorem spec_wf4 (x : Wld) (cx : Array Value) (fx : List Nat) (w : World) (hx : wldL.rep w cx.toList x fx) (h1 : x.sH.ok) (h2 : x.built) (h3 : q2o (x.sH.all - 1) x.on) (h4 : (x.on.length : Int) ≤ x.sH.cap) (h5 : ¬ (x.on = [] ∨ x.down = false)) :
  Calls Tryz.prog 47 #[.agg cx] w fun e w' => e = .returned (.int .i64 x.fault) ∧ Chg [] w w' := by
 obtain ⟨a10, l10, c10, f10, a11, l11, c11, f11, a12, l12, c12, f12, ex, o1, o2, o3, o4, o5, o6, o7, o8, o9, h10, h11, h12, o13, o14, -⟩ := q1a.1 hx
 clear o1 o2 o3 o4 o5 o6 o7 o8 o9
 obtain rfl := Array.toList_inj.1 (ex.trans (List.toList_toArray).symm)
 clear ex
 have q10 := drvL.slice.sl_max h10; have q11 := intL.sl_max h11; have q12 := tapL.sl_max h12
 have H10 := hid h10; have H11 := hid h11; have H12 := hid h12
 have HX := hid hx
 have Z10 := hid h10.1; have Z11 := hid h11.1; have Z12 := hid h12.1
 clear h10 h11 h12 hx
 have HF := hid (show x.sH.fault = 0 from if_pos h1)
 have HPS := hid (q0g h1)
 have HS := hid h1
 have hal := h1.all
 have e50 : IntKind.i64.wrap (x.sH.all - 1) = x.sH.all - 1 := IntWalk.i64_in _ (by omega)
 have HB := hid (q0g h2)
 have HA := hid (q0g h3)
 have HR := hid (show x.fault = 1 by unfold Wld.fault; rw [HPS.out, q0f (fun h => h5 h.2.1.2.2)]; rfl)
 have e4 : decide (x.sH.cap < (l11 : Int)) = false := by have := Z11.out; simp; omega
 have hd : x.down = true := by cases hd : x.down; exact absurd (.inr hd) h5; rfl
 have e6 : (0 : Int) < (l11 : Int) := by have := Z11.out; have := List.length_pos_iff.2 (fun hx => h5 (.inl hx)); omega
 have e7 : decide (0 < l11) = true := by simp; omega
 rw [hd] at HX ⊢
 clear h1 h2 h3 h4 h5 hd
 have HC : Hid (Chg [] w w) := Chg.refl _ _
 go_enter Tryz.func47, Tryz.ntmps47
 go_wp2_with fail
 refine (q0n x.sH _).mono ?_
 rintro e w1 ⟨rfl, hc⟩
 rw [HF.out]
 obtain ⟨cW, lW, HBW⟩ := bk hc (b := w.heap.size) (q0e (by simp) _) (by simp)
 have h := Chg.trans0 (Chg.alloc HC.out _) hc; clear HC; have HC := hid h; clear h
 clear hc
 go_wp2_with fail
 obtain ⟨SS1, HSI1, HSO1⟩ := q0j (fun w' => Know (w.heap.size) #[.int .i64 x.sH.gS, .int .i64 x.sH.cM, .int .i64 x.sH.data, .int .i64 x.sH.spare, .int .i64 x.sH.rows, .int .i64 x.sH.cap, .int .i64 x.sH.bT, .int .i64 x.sH.qU, .int .i64 x.sH.sG, .slice a10 l10 c10, .slice a11 l11 c11, .slice a12 l12 c12, .int .i64 x.wT, .int .i64 x.stop, .bool true] w')
 have hS0 := HSI1.out (w1.drew) (Know.of (by refine q0a ?_; exact HBW.out))
 refine q0k SS1 (by kernel_rfl) hS0 ?_
 refine rgL 0 hS0 HSO1 ?_
 refine q0d 1 rfl (by kernel_rfl) (fun K hK => ?_)
 go_simp
 go_at_call 117
 refine (q1v x HS.out #[.int .i64 x.sH.gS, .int .i64 x.sH.cM, .int .i64 x.sH.data, .int .i64 x.sH.spare, .int .i64 x.sH.rows, .int .i64 x.sH.cap, .int .i64 x.sH.bT, .int .i64 x.sH.qU, .int .i64 x.sH.sG, .slice a10 l10 c10, .slice a11 l11 c11, .slice a12 l12 c12, .int .i64 x.wT, .int .i64 x.stop, .bool true] fx _ (Lay.ext wldL HX.out (Chg.drew HC.out))).mono ?_
 rintro e w2 ⟨rfl, hc⟩
 rw [HB.out]
 have h := bk hc (q0a HBW.out) (by simp); clear HBW cW lW; obtain ⟨cW, lW, HBW⟩ := h
 have h := Chg.trans0 (Chg.drew HC.out) hc; clear HC; have HC := hid h; clear h
 clear hc
 go_wp2_with fail
 refine hK.out _ _ (HSI1.out _ cW) (fun hS1 => ?_)
 clear hK K
 try simp only [Act.put, pA, pB, pC]
 refine rgT 2 hS1 ?_
 refine rgT 3 hS1 ?_
 refine rgT 4 hS1 ?_
 refine rgL 5 hS1 HSO1 ?_
 refine rgT 6 hS1 ?_
 refine rgL 7 hS1 HSO1 ?_
 refine q0d 8 rfl (by kernel_rfl) (fun K hK => ?_)
 go_simp
 go_at_call 100
 refine (q0r x.sH HS.out _).mono ?_
 rintro e w3 ⟨rfl, hc⟩
 have h := bk0 hc HBW.out; clear HBW cW lW; obtain ⟨cW, lW, HBW⟩ := h
 replace HC := hct HC hc
 clear hc
 go_wp2_with fail
 refine hK.out _ _ (HSI1.out _ cW) (fun hS2 => ?_)
 clear hK K
 try simp only [Act.put, pA, pB, pC]
 refine rgT 9 hS2 ?_
 refine q0d 10 rfl (by kernel_rfl) (fun K hK => ?_)
 go_simp
 go_at_call 118
 refine (q3s a11 l11 c11 x.on f11 (x.sH.all - 1) _ (Lay.sl_ext intL H11.out HC.out)).mono ?_
 rintro e w4 ⟨rfl, hc⟩
 rw [HA.out]
 have h := bk0 hc HBW.out; clear HBW cW lW; obtain ⟨cW, lW, HBW⟩ := h
 replace HC := hct HC hc
 clear hc
 go_wp2_with fail
 refine hK.out _ _ (HSI1.out _ cW) (fun hS3 => ?_)
 clear hK K
 try simp only [Act.put, pA, pB, pC]
 refine rgT 11 hS3 ?_
 refine rgT 12 hS3 ?_
 refine rgT 13 hS3 ?_
 refine rgT 14 hS3 ?_
 refine rgL 15 hS3 HSO1 ?_
 refine rgT 16 hS3 ?_
 refine rgT 17 hS3 ?_
 refine rgT 18 hS3 ?_
 refine rgL 19 hS3 HSO1 ?_
 refine rgT 20 hS3 ?_
 refine rgT 21 hS3 ?_
 refine rgT 22 hS3 ?_
 refine rgT 23 hS3 ?_
 refine rgL 24 hS3 HSO1 ?_
 refine rgT 25 hS3 ?_
 refine rgT 26 hS3 ?_
 refine rgL 27 hS3 HSO1 ?_
 refine rgT 28 hS3 ?_
 refine rgT 29 hS3 ?_
 refine rgT 30 hS3 ?_
 refine rgT 31 hS3 ?_
 refine rgT 32 hS3 ?_
 refine rgS 33 hS3 ?_
 refine rgS 34 hS3 ?_
 refine rgS 35 hS3 ?_
 refine rgS 36 hS3 ?_
 refine rgT 37 hS3 ?_
 refine wpAnyH_done (by kernel_rfl) ?_ _
 go_wp2_with fail
 go_ret
 exact ⟨q0i HR.out.symm, HC.out⟩
theorem spec_wf5 (x : Wld) (cx : Array Value) (fx : List Nat) (w : World) (hx : wldL.rep w cx.toList x fx) (h1 : x.sH.ok) (h2 : x.built) (h3 : q2o (x.sH.all - 1) x.on) (h4 : (x.on.length : Int) ≤ x.sH.cap) (h5 : x.on = [] ∨ x.down = false) (h6 : ¬ (x.tapes.length = 2)) (hd : x.down = true) :
  Calls Tryz.prog 47 #[.agg cx] w fun e w' => e = .returned (.int .i64 x.fault) ∧ Chg [] w w' := by
 obtain ⟨a10, l10, c10, f10, a11, l11, c11, f11, a12, l12, c12, f12, ex, o1, o2, o3, o4, o5, o6, o7, o8, o9, h10, h11, h12, o13, o14, -⟩ := q1a.1 hx
 clear o1 o2 o3 o4 o5 o6 o7 o8 o9
 obtain rfl := Array.toList_inj.1 (ex.trans (List.toList_toArray).symm)
 clear ex
 have q10 := drvL.slice.sl_max h10; have q11 := intL.sl_max h11; have q12 := tapL.sl_max h12
 have H10 := hid h10; have H11 := hid h11; have H12 := hid h12
 have HX := hid hx
 have Z10 := hid h10.1; have Z11 := hid h11.1; have Z12 := hid h12.1
 clear h10 h11 h12 hx
 have HF := hid (show x.sH.fault = 0 from if_pos h1)
 have HPS := hid (q0g h1)
 have HS := hid h1
 have hal := h1.all
 have e50 : IntKind.i64.wrap (x.sH.all - 1) = x.sH.all - 1 := IntWalk.i64_in _ (by omega)
 have HB := hid (q0g h2)
 have HA := hid (q0g h3)
 have HR := hid (show x.fault = 1 by unfold Wld.fault; rw [HPS.out, q0f (fun h => h6 h.2.2)]; rfl)
 have e4 : decide (x.sH.cap < (l11 : Int)) = false := by have := Z11.out; simp; omega
 have e5 : l11 = 0 := by rw [Z11.out]; rcases h5 with h5 | h5; rw [h5]; rfl; rw [hd] at h5; cases h5
 have e7 : decide (0 < l11) = false := by simp; omega
 have e8 : ((l12 : Int) != 2) = true := by have := Z12.out; simp; omega
 clear e5
 rw [hd] at HX ⊢
 clear h1 h2 h3 h4 h5 h6 hd
 have HC : Hid (Chg [] w w) := Chg.refl _ _
 go_enter Tryz.func47, Tryz.ntmps47
 go_wp2_with fail
 refine (q0n x.sH _).mono ?_
 rintro e w1 ⟨rfl, hc⟩
 rw [HF.out]
 obtain ⟨cW, lW, HBW⟩ := bk hc (b := w.heap.size) (q0e (by simp) _) (by simp)
 have h := Chg.trans0 (Chg.alloc HC.out _) hc; clear HC; have HC := hid h; clear h
 clear hc
 go_wp2_with fail
 obtain ⟨SS1, HSI1, HSO1⟩ := q0j (fun w' => Know (w.heap.size) #[.int .i64 x.sH.gS, .int .i64 x.sH.cM, .int .i64 x.sH.data, .int .i64 x.sH.spare, .int .i64 x.sH.rows, .int .i64 x.sH.cap, .int .i64 x.sH.bT, .int .i64 x.sH.qU, .int .i64 x.sH.sG, .slice a10 l10 c10, .slice a11 l11 c11, .slice a12 l12 c12, .int .i64 x.wT, .int .i64 x.stop, .bool true] w')
 have hS0 := HSI1.out (w1.drew) (Know.of (by refine q0a ?_; exact HBW.out))
 refine q0k SS1 (by kernel_rfl) hS0 ?_
 refine rgL 0 hS0 HSO1 ?_
 refine q0d 1 rfl (by kernel_rfl) (fun K hK => ?_)
 go_simp
 go_at_call 117
 refine (q1v x HS.out #[.int .i64 x.sH.gS, .int .i64 x.sH.cM, .int .i64 x.sH.data, .int .i64 x.sH.spare, .int .i64 x.sH.rows, .int .i64 x.sH.cap, .int .i64 x.sH.bT, .int .i64 x.sH.qU, .int .i64 x.sH.sG, .slice a10 l10 c10, .slice a11 l11 c11, .slice a12 l12 c12, .int .i64 x.wT, .int .i64 x.stop, .bool true] fx _ (Lay.ext wldL HX.out (Chg.drew HC.out))).mono ?_
 rintro e w2 ⟨rfl, hc⟩
 rw [HB.out]
 have h := bk hc (q0a HBW.out) (by simp); clear HBW cW lW; obtain ⟨cW, lW, HBW⟩ := h
 have h := Chg.trans0 (Chg.drew HC.out) hc; clear HC; have HC := hid h; clear h
 clear hc
 go_wp2_with fail
 refine hK.out _ _ (HSI1.out _ cW) (fun hS1 => ?_)
 clear hK K
 try simp only [Act.put, pA, pB, pC]
 refine rgT 2 hS1 ?_
 refine rgT 3 hS1 ?_
 refine rgT 4 hS1 ?_
 refine rgL 5 hS1 HSO1 ?_
 refine rgT 6 hS1 ?_
 refine rgL 7 hS1 HSO1 ?_
 refine q0d 8 rfl (by kernel_rfl) (fun K hK => ?_)
 go_simp
 go_at_call 100
 refine (q0r x.sH HS.out _).mono ?_
 rintro e w3 ⟨rfl, hc⟩
 have h := bk0 hc HBW.out; clear HBW cW lW; obtain ⟨cW, lW, HBW⟩ := h
 replace HC := hct HC hc
 clear hc
 go_wp2_with fail
 refine hK.out _ _ (HSI1.out _ cW) (fun hS2 => ?_)
 clear hK K
 try simp only [Act.put, pA, pB, pC]
 refine rgT 9 hS2 ?_
 refine q0d 10 rfl (by kernel_rfl) (fun K hK => ?_)
 go_simp
 go_at_call 118
 refine (q3s a11 l11 c11 x.on f11 (x.sH.all - 1) _ (Lay.sl_ext intL H11.out HC.out)).mono ?_
 rintro e w4 ⟨rfl, hc⟩
 rw [HA.out]
 have h := bk0 hc HBW.out; clear HBW cW lW; obtain ⟨cW, lW, HBW⟩ := h
 replace HC := hct HC hc
 clear hc
 go_wp2_with fail
 refine hK.out _ _ (HSI1.out _ cW) (fun hS3 => ?_)
 clear hK K
 try simp only [Act.put, pA, pB, pC]
 refine rgT 11 hS3 ?_
 refine rgT 12 hS3 ?_
 refine rgT 13 hS3 ?_
 refine rgT 14 hS3 ?_
 refine rgL 15 hS3 HSO1 ?_
 refine rgT 16 hS3 ?_
 refine rgT 17 hS3 ?_
 refine rgT 18 hS3 ?_
 refine rgL 19 hS3 HSO1 ?_
 refine rgT 20 hS3 ?_
 refine rgT 21 hS3 ?_
 refine rgT 22 hS3 ?_
 refine rgT 23 hS3 ?_
 refine rgL 24 hS3 HSO1 ?_
 refine rgT 25 hS3 ?_
 refine rgT 26 hS3 ?_
 refine rgL 27 hS3 HSO1 ?_
 refine rgT 28 hS3 ?_
 refine rgT 29 hS3 ?_
 refine rgT 30 hS3 ?_
 refine rgT 31 hS3 ?_
 refine rgT 32 hS3 ?_
 refine rgT 33 hS3 ?_
 refine rgL 34 hS3 HSO1 ?_
 refine rgT 35 hS3 ?_
 refine rgT 36 hS3 ?_
 refine rgT 37 hS3 ?_
 refine wpAnyH_done (by kernel_rfl) ?_ _
 go_wp2_with fail
 go_ret
 exact ⟨q0i HR.out.symm, HC.out⟩
theorem spec_wf6 (x : Wld) (cx : Array Value) (fx : List Nat) (w : World) (hx : wldL.rep w cx.toList x fx) (h1 : x.sH.ok) (h2 : x.built) (h3 : q2o (x.sH.all - 1) x.on) (h4 : (x.on.length : Int) ≤ x.sH.cap) (h5 : x.on = [] ∨ x.down = false) (h6 : ¬ (x.tapes.length = 2)) (hd : x.down = false) :
  Calls Tryz.prog 47 #[.agg cx] w fun e w' => e = .returned (.int .i64 x.fault) ∧ Chg [] w w' := by
 obtain ⟨a10, l10, c10, f10, a11, l11, c11, f11, a12, l12, c12, f12, ex, o1, o2, o3, o4, o5, o6, o7, o8, o9, h10, h11, h12, o13, o14, -⟩ := q1a.1 hx
 clear o1 o2 o3 o4 o5 o6 o7 o8 o9
 obtain rfl := Array.toList_inj.1 (ex.trans (List.toList_toArray).symm)
 clear ex
 have q10 := drvL.slice.sl_max h10; have q11 := intL.sl_max h11; have q12 := tapL.sl_max h12
 have H10 := hid h10; have H11 := hid h11; have H12 := hid h12
 have HX := hid hx
 have Z10 := hid h10.1; have Z11 := hid h11.1; have Z12 := hid h12.1
 clear h10 h11 h12 hx
 have HF := hid (show x.sH.fault = 0 from if_pos h1)
 have HPS := hid (q0g h1)
 have HS := hid h1
 have hal := h1.all
 have e50 : IntKind.i64.wrap (x.sH.all - 1) = x.sH.all - 1 := IntWalk.i64_in _ (by omega)
 have _ := h5
 have HB := hid (q0g h2)
 have HA := hid (q0g h3)
 have HR := hid (show x.fault = 1 by unfold Wld.fault; rw [HPS.out, q0f (fun h => h6 h.2.2)]; rfl)
 have e4 : decide (x.sH.cap < (l11 : Int)) = false := by have := Z11.out; simp; omega
 have e8 : ((l12 : Int) != 2) = true := by have := Z12.out; simp; omega
 rw [hd] at HX ⊢
 clear h1 h2 h3 h4 h5 h6 hd
 have HC : Hid (Chg [] w w) := Chg.refl _ _
 go_enter Tryz.func47, Tryz.ntmps47
 go_wp2_with fail
 refine (q0n x.sH _).mono ?_
 rintro e w1 ⟨rfl, hc⟩
 rw [HF.out]
 obtain ⟨cW, lW, HBW⟩ := bk hc (b := w.heap.size) (q0e (by simp) _) (by simp)
 have h := Chg.trans0 (Chg.alloc HC.out _) hc; clear HC; have HC := hid h; clear h
 clear hc
 go_wp2_with fail
 obtain ⟨SS1, HSI1, HSO1⟩ := q0j (fun w' => Know (w.heap.size) #[.int .i64 x.sH.gS, .int .i64 x.sH.cM, .int .i64 x.sH.data, .int .i64 x.sH.spare, .int .i64 x.sH.rows, .int .i64 x.sH.cap, .int .i64 x.sH.bT, .int .i64 x.sH.qU, .int .i64 x.sH.sG, .slice a10 l10 c10, .slice a11 l11 c11, .slice a12 l12 c12, .int .i64 x.wT, .int .i64 x.stop, .bool false] w')
 have hS0 := HSI1.out (w1.drew) (Know.of (by refine q0a ?_; exact HBW.out))
 refine q0k SS1 (by kernel_rfl) hS0 ?_
 refine rgL 0 hS0 HSO1 ?_
 refine q0d 1 rfl (by kernel_rfl) (fun K hK => ?_)
 go_simp
 go_at_call 117
 refine (q1v x HS.out #[.int .i64 x.sH.gS, .int .i64 x.sH.cM, .int .i64 x.sH.data, .int .i64 x.sH.spare, .int .i64 x.sH.rows, .int .i64 x.sH.cap, .int .i64 x.sH.bT, .int .i64 x.sH.qU, .int .i64 x.sH.sG, .slice a10 l10 c10, .slice a11 l11 c11, .slice a12 l12 c12, .int .i64 x.wT, .int .i64 x.stop, .bool false] fx _ (Lay.ext wldL HX.out (Chg.drew HC.out))).mono ?_
 rintro e w2 ⟨rfl, hc⟩
 rw [HB.out]
 have h := bk hc (q0a HBW.out) (by simp); clear HBW cW lW; obtain ⟨cW, lW, HBW⟩ := h
 have h := Chg.trans0 (Chg.drew HC.out) hc; clear HC; have HC := hid h; clear h
 clear hc
 go_wp2_with fail
 refine hK.out _ _ (HSI1.out _ cW) (fun hS1 => ?_)
 clear hK K
 try simp only [Act.put, pA, pB, pC]
 refine rgT 2 hS1 ?_
 refine rgT 3 hS1 ?_
 refine rgT 4 hS1 ?_
 refine rgL 5 hS1 HSO1 ?_
 refine rgT 6 hS1 ?_
 refine rgL 7 hS1 HSO1 ?_
 refine q0d 8 rfl (by kernel_rfl) (fun K hK => ?_)
 go_simp
 go_at_call 100
 refine (q0r x.sH HS.out _).mono ?_
 rintro e w3 ⟨rfl, hc⟩
 have h := bk0 hc HBW.out; clear HBW cW lW; obtain ⟨cW, lW, HBW⟩ := h
 replace HC := hct HC hc
 clear hc
 go_wp2_with fail
 refine hK.out _ _ (HSI1.out _ cW) (fun hS2 => ?_)
 clear hK K
 try simp only [Act.put, pA, pB, pC]
 refine rgT 9 hS2 ?_
 refine q0d 10 rfl (by kernel_rfl) (fun K hK => ?_)
 go_simp
 go_at_call 118
 refine (q3s a11 l11 c11 x.on f11 (x.sH.all - 1) _ (Lay.sl_ext intL H11.out HC.out)).mono ?_
 rintro e w4 ⟨rfl, hc⟩
 rw [HA.out]
 have h := bk0 hc HBW.out; clear HBW cW lW; obtain ⟨cW, lW, HBW⟩ := h
 replace HC := hct HC hc
 clear hc
 go_wp2_with fail
 refine hK.out _ _ (HSI1.out _ cW) (fun hS3 => ?_)
 clear hK K
 try simp only [Act.put, pA, pB, pC]
 refine rgT 11 hS3 ?_
 refine rgT 12 hS3 ?_
 refine rgT 13 hS3 ?_
 refine rgT 14 hS3 ?_
 refine rgL 15 hS3 HSO1 ?_
 refine rgT 16 hS3 ?_
 refine rgT 17 hS3 ?_
 refine rgT 18 hS3 ?_
 refine rgL 19 hS3 HSO1 ?_
 refine rgT 20 hS3 ?_
 refine rgT 21 hS3 ?_
 refine rgT 22 hS3 ?_
 refine rgT 23 hS3 ?_
 refine rgL 24 hS3 HSO1 ?_
 refine rgT 25 hS3 ?_
 refine rgS 26 hS3 ?_
 refine rgS 27 hS3 ?_
 refine rgS 28 hS3 ?_
 refine rgS 29 hS3 ?_
 refine rgT 30 hS3 ?_
 refine rgT 31 hS3 ?_
 refine rgT 32 hS3 ?_
 refine rgT 33 hS3 ?_
 refine rgL 34 hS3 HSO1 ?_
 refine rgT 35 hS3 ?_
 refine rgT 36 hS3 ?_
 refine rgT 37 hS3 ?_
 refine wpAnyH_done (by kernel_rfl) ?_ _
 go_wp2_with fail
 go_ret
 exact ⟨q0i HR.out.symm, HC.out⟩
end Go.Proofs.YtphmpimgbmedbaaGreat
