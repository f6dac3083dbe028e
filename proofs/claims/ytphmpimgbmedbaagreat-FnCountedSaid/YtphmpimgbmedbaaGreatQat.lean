/- Several texts in one. -/
import Derived.Test.YtphmpimgbmedbaaGreatQas
set_option maxRecDepth 100000
set_option maxHeartbeats 8000000
namespace Go.Proofs.YtphmpimgbmedbaaGreat
open Go.RowKit
open Go.Lib (hid)
theorem q5r {ts : List Tap} (h : ts.length = 2) {p : Tap → Prop} : (∃ t ∈ ts, p t) ↔ (∃ t, ts[0]? = some t ∧ p t) ∨ (∃ t, ts[1]? = some t ∧ p t) := by
 constructor
 ·rintro ⟨t, ht, hp⟩
  obtain ⟨i, hi, rfl⟩ := List.getElem_of_mem ht
  have h2 : i = 0 ∨ i = 1 := by omega
  rcases h2 with rfl | rfl
  ·exact .inl ⟨_, List.getElem?_eq_getElem hi, hp⟩
  ·exact .inr ⟨_, List.getElem?_eq_getElem hi, hp⟩
 ·rintro (⟨t, ht, hp⟩ | ⟨t, ht, hp⟩)
  ·exact ⟨t, List.mem_of_getElem? ht, hp⟩
  ·exact ⟨t, List.mem_of_getElem? ht, hp⟩
theorem spec_wfmd (x : Wld) (cx : Array Value) (fx : List Nat) (w : World) (hx : wldL.rep w cx.toList x fx) (h1 : x.sH.ok) (h2 : x.built) (h3 : q2o (x.sH.all - 1) x.on) (h4 : (x.on.length : Int) ≤ x.sH.cap) (h5 : x.on = [] ∨ x.down = false) (h6 : x.tapes.length = 2) (hd : x.down = true) (hm : ∃ t ∈ x.tapes, 200 < t.recs.length) :
  Calls Tryz.prog 47 #[.agg cx] w fun e w' => e = .returned (.int .i64 x.fault) ∧ Chg [] w w' := by
 obtain ⟨a10, l10, c10, f10, a11, l11, c11, f11, a12, l12, c12, f12, ex, o1, o2, o3, o4, o5, o6, o7, o8, o9, h10, h11, h12, o13, o14, -⟩ := q1a.1 hx
 clear o1 o2 o3 o4 o5 o6 o7 o8 o9
 obtain rfl := Array.toList_inj.1 (ex.trans (List.toList_toArray).symm)
 clear ex
 have q10 := drvL.slice.sl_max h10; have q11 := intL.sl_max h11; have q12 := tapL.sl_max h12
 have H10 := hid h10; have H11 := hid h11; have H12 := hid h12
 have HX := hid hx
 have Z10 := hid h10.1; have Z11 := hid h11.1; have Z12 := hid h12.1
 clear h10 h11 h12 hx
 have HF := hid (show x.sH.fault = 0 from if_pos h1)
 have HPS := hid (q0g h1)
 have HS := hid h1
 have hal := h1.all
 have e50 : IntKind.i64.wrap (x.sH.all - 1) = x.sH.all - 1 := IntWalk.i64_in _ (by omega)
 have HB := hid (q0g h2)
 have HA := hid (q0g h3)
 have e4 : decide (x.sH.cap < (l11 : Int)) = false := by have := Z11.out; simp; omega
 have e8 : ((l12 : Int) != 2) = false := by have := Z12.out; simp; omega
 have hl2 : l12 = 2 := by have := Z12.out; omega
 have HT := hid (show x.fault = if x.tapF = 0 then (if pb x.nums = true then 0 else 3) else x.tapF by unfold Wld.fault; rw [HPS.out, q0g ⟨h2, ⟨h3, h4, h5⟩, h6⟩]; rfl)
 have H6 := hid h6
 have e7 : decide (0 < l11) = false := by
  have e5 : l11 = 0 := by rw [Z11.out]; rcases h5 with h5 | h5; rw [h5]; rfl; rw [hd] at h5; cases h5
  simp; omega
 obtain ⟨t0, b0, o0, a1, l1, c1, f1, HT0, e0, hk00, hk01, HS0⟩ := q2q H12.out (show 0 < l12 by omega)
 obtain ⟨t1, b1, o1, a2, l2, c2, f2, HT1, e1, hk10, hk11, HS1⟩ := q2q H12.out (show 1 < l12 by omega)
 subst e0
 obtain ⟨rfl, rfl⟩ : b0 = b1 ∧ o0 = o1 := by simpa using e1
 obtain ⟨_, _, _, g1, ex1, hr1, -⟩ := q1r.1 HS0.out
 obtain ⟨q1, q2, q3⟩ := Value.slice.inj (List.cons.inj (List.cons.inj ex1).2).1
 subst q1 q2 q3
 obtain ⟨_, _, _, g2, ex2, hr2, -⟩ := q1r.1 HS1.out
 obtain ⟨q1, q2, q3⟩ := Value.slice.inj (List.cons.inj (List.cons.inj ex2).2).1
 subst q1 q2 q3
 have Y1 := hid hr1.1; have Y2 := hid hr2.1
 have HI0 := hid HT0.out.1; have HI1 := hid HT1.out.1
 have HC : Hid (Chg [] w w) := Chg.refl _ _
 have HKt := hid (show w.cell? ⟨b0, o0 + 0 * 2 + 1, none⟩ = some (.slice a1 l1 c1) from hk01); have HLt := hid (show b0 < w.heap.size from Lay.sl_lt _ H12.out _ HT0.out.2.1)
 obtain ⟨kt, jt⟩ := ck HC HKt HLt
 have HKu := hid (show w.cell? ⟨b0, o0 + 1 * 2 + 1, none⟩ = some (.slice a2 l2 c2) from hk11); have HLu := hid (show b0 < w.heap.size from Lay.sl_lt _ H12.out _ HT1.out.2.1)
 obtain ⟨ku, ju⟩ := ck HC HKu HLu
 have hla : 0 < l12 := by omega
 have hlb : 1 < l12 := by omega
 have hlc : (1 : Int) < (l12 : Int) := by omega
 clear hk00 hk01 hk10 hk11 HT0 HT1 HS0 HS1 ex1 ex2 hr1 hr2 e1 hl2
 rw [hd] at HX ⊢
 clear h1 h2 h3 h4 h5 h6 hd
 have HR := hid (show x.fault = 2 by
  have h : x.tapF = 2 := by unfold Wld.tapF; rw [q0g hm]; rfl
  rw [HT.out, h]; rfl)
 have hm2 := (q5r H6.out).1 hm
 clear hm
 have hmc : 200 < l1 ∨ (¬ 200 < l1 ∧ 200 < l2) := by
  by_cases h : 200 < l1
  ·exact .inl h
  ·rcases hm2 with ⟨t, ht, h4⟩ | ⟨t, ht, h4⟩
   ·exact absurd (by rw [Y1.out, Option.some.inj (HI0.out.symm.trans ht)]; exact h4) h
   ·exact .inr ⟨h, by rw [Y2.out, Option.some.inj (HI1.out.symm.trans ht)]; exact h4⟩
 clear hm2
 rcases hmc with hmc | ⟨hmn, hmc⟩
 ·skip
  go_enter Tryz.func47, Tryz.ntmps47
  go_wp2_with fail
  refine (q0n x.sH _).mono ?_
  rintro e w1 ⟨rfl, hc⟩
  rw [HF.out]
  obtain ⟨cW, lW, HBW⟩ := bk hc (b := w.heap.size) (q0e (by simp) _) (by simp)
  have h := Chg.trans0 (Chg.alloc HC.out _) hc; clear HC; have HC := hid h; clear h
  clear hc
  clear kt jt; obtain ⟨kt, jt⟩ := ck HC HKt HLt
  clear ku ju; obtain ⟨ku, ju⟩ := ck HC HKu HLu
  go_wp2_with fail
  obtain ⟨SS1, HSI1, HSO1⟩ := q0j (fun w' => Know (w.heap.size) #[.int .i64 x.sH.gS, .int .i64 x.sH.cM, .int .i64 x.sH.data, .int .i64 x.sH.spare, .int .i64 x.sH.rows, .int .i64 x.sH.cap, .int .i64 x.sH.bT, .int .i64 x.sH.qU, .int .i64 x.sH.sG, .slice a10 l10 c10, .slice a11 l11 c11, .slice (some ⟨b0, o0, none⟩) l12 c12, .int .i64 x.wT, .int .i64 x.stop, .bool true] w')
  have hS0 := HSI1.out (w1.drew) (Know.of (by refine q0a ?_; exact HBW.out))
  refine q0k SS1 (by kernel_rfl) hS0 ?_
  refine rgL 0 hS0 HSO1 ?_
  refine q0d 1 rfl (by kernel_rfl) (fun K hK => ?_)
  go_simp
  go_at_call 117
  refine (q1v x HS.out #[.int .i64 x.sH.gS, .int .i64 x.sH.cM, .int .i64 x.sH.data, .int .i64 x.sH.spare, .int .i64 x.sH.rows, .int .i64 x.sH.cap, .int .i64 x.sH.bT, .int .i64 x.sH.qU, .int .i64 x.sH.sG, .slice a10 l10 c10, .slice a11 l11 c11, .slice (some ⟨b0, o0, none⟩) l12 c12, .int .i64 x.wT, .int .i64 x.stop, .bool true] fx _ (Lay.ext wldL HX.out (Chg.drew HC.out))).mono ?_
  rintro e w2 ⟨rfl, hc⟩
  rw [HB.out]
  have h := bk hc (q0a HBW.out) (by simp); clear HBW cW lW; obtain ⟨cW, lW, HBW⟩ := h
  have h := Chg.trans0 (Chg.drew HC.out) hc; clear HC; have HC := hid h; clear h
  clear hc
  clear kt jt; obtain ⟨kt, jt⟩ := ck HC HKt HLt
  clear ku ju; obtain ⟨ku, ju⟩ := ck HC HKu HLu
  go_wp2_with fail
  refine hK.out _ _ (HSI1.out _ cW) (fun hS1 => ?_)
  clear hK K
  try simp only [Act.put, pA, pB, pC]
  refine rgT 2 hS1 ?_
  refine rgT 3 hS1 ?_
  refine rgT 4 hS1 ?_
  refine rgL 5 hS1 HSO1 ?_
  refine rgT 6 hS1 ?_
  refine rgL 7 hS1 HSO1 ?_
  refine q0d 8 rfl (by kernel_rfl) (fun K hK => ?_)
  go_simp
  go_at_call 100
  refine (q0r x.sH HS.out _).mono ?_
  rintro e w3 ⟨rfl, hc⟩
  have h := bk0 hc HBW.out; clear HBW cW lW; obtain ⟨cW, lW, HBW⟩ := h
  replace HC := hct HC hc
  clear hc
  clear kt jt; obtain ⟨kt, jt⟩ := ck HC HKt HLt
  clear ku ju; obtain ⟨ku, ju⟩ := ck HC HKu HLu
  go_wp2_with fail
  refine hK.out _ _ (HSI1.out _ cW) (fun hS2 => ?_)
  clear hK K
  try simp only [Act.put, pA, pB, pC]
  refine rgT 9 hS2 ?_
  refine q0d 10 rfl (by kernel_rfl) (fun K hK => ?_)
  go_simp
  go_at_call 118
  refine (q3s a11 l11 c11 x.on f11 (x.sH.all - 1) _ (Lay.sl_ext intL H11.out HC.out)).mono ?_
  rintro e w4 ⟨rfl, hc⟩
  rw [HA.out]
  have h := bk0 hc HBW.out; clear HBW cW lW; obtain ⟨cW, lW, HBW⟩ := h
  replace HC := hct HC hc
  clear hc
  clear kt jt; obtain ⟨kt, jt⟩ := ck HC HKt HLt
  clear ku ju; obtain ⟨ku, ju⟩ := ck HC HKu HLu
  go_wp2_with fail
  refine hK.out _ _ (HSI1.out _ cW) (fun hS3 => ?_)
  clear hK K
  try simp only [Act.put, pA, pB, pC]
  refine rgT 11 hS3 ?_
  refine rgT 12 hS3 ?_
  refine rgT 13 hS3 ?_
  refine rgT 14 hS3 ?_
  refine rgL 15 hS3 HSO1 ?_
  refine rgT 16 hS3 ?_
  refine rgT 17 hS3 ?_
  refine rgT 18 hS3 ?_
  refine rgL 19 hS3 HSO1 ?_
  refine rgT 20 hS3 ?_
  refine rgT 21 hS3 ?_
  refine rgT 22 hS3 ?_
  refine rgT 23 hS3 ?_
  refine rgL 24 hS3 HSO1 ?_
  refine rgT 25 hS3 ?_
  refine rgT 26 hS3 ?_
  refine rgL 27 hS3 HSO1 ?_
  refine rgT 28 hS3 ?_
  refine rgT 29 hS3 ?_
  refine rgT 30 hS3 ?_
  refine rgT 31 hS3 ?_
  refine rgT 32 hS3 ?_
  refine rgT 33 hS3 ?_
  refine rgL 34 hS3 HSO1 ?_
  refine rgT 35 hS3 ?_
  refine rgT 36 hS3 ?_
  refine rgT 37 hS3 ?_
  refine wpAnyH_done (by kernel_rfl) ?_ _
  go_wp2_with fail
  go_ret
  exact ⟨q0i HR.out.symm, HC.out⟩
 ·skip
  go_enter Tryz.func47, Tryz.ntmps47
  go_wp2_with fail
  refine (q0n x.sH _).mono ?_
  rintro e w1 ⟨rfl, hc⟩
  rw [HF.out]
  obtain ⟨cW, lW, HBW⟩ := bk hc (b := w.heap.size) (q0e (by simp) _) (by simp)
  have h := Chg.trans0 (Chg.alloc HC.out _) hc; clear HC; have HC := hid h; clear h
  clear hc
  clear kt jt; obtain ⟨kt, jt⟩ := ck HC HKt HLt
  clear ku ju; obtain ⟨ku, ju⟩ := ck HC HKu HLu
  go_wp2_with fail
  obtain ⟨SS1, HSI1, HSO1⟩ := q0j (fun w' => Know (w.heap.size) #[.int .i64 x.sH.gS, .int .i64 x.sH.cM, .int .i64 x.sH.data, .int .i64 x.sH.spare, .int .i64 x.sH.rows, .int .i64 x.sH.cap, .int .i64 x.sH.bT, .int .i64 x.sH.qU, .int .i64 x.sH.sG, .slice a10 l10 c10, .slice a11 l11 c11, .slice (some ⟨b0, o0, none⟩) l12 c12, .int .i64 x.wT, .int .i64 x.stop, .bool true] w')
  have hS0 := HSI1.out (w1.drew) (Know.of (by refine q0a ?_; exact HBW.out))
  refine q0k SS1 (by kernel_rfl) hS0 ?_
  refine rgL 0 hS0 HSO1 ?_
  refine q0d 1 rfl (by kernel_rfl) (fun K hK => ?_)
  go_simp
  go_at_call 117
  refine (q1v x HS.out #[.int .i64 x.sH.gS, .int .i64 x.sH.cM, .int .i64 x.sH.data, .int .i64 x.sH.spare, .int .i64 x.sH.rows, .int .i64 x.sH.cap, .int .i64 x.sH.bT, .int .i64 x.sH.qU, .int .i64 x.sH.sG, .slice a10 l10 c10, .slice a11 l11 c11, .slice (some ⟨b0, o0, none⟩) l12 c12, .int .i64 x.wT, .int .i64 x.stop, .bool true] fx _ (Lay.ext wldL HX.out (Chg.drew HC.out))).mono ?_
  rintro e w2 ⟨rfl, hc⟩
  rw [HB.out]
  have h := bk hc (q0a HBW.out) (by simp); clear HBW cW lW; obtain ⟨cW, lW, HBW⟩ := h
  have h := Chg.trans0 (Chg.drew HC.out) hc; clear HC; have HC := hid h; clear h
  clear hc
  clear kt jt; obtain ⟨kt, jt⟩ := ck HC HKt HLt
  clear ku ju; obtain ⟨ku, ju⟩ := ck HC HKu HLu
  go_wp2_with fail
  refine hK.out _ _ (HSI1.out _ cW) (fun hS1 => ?_)
  clear hK K
  try simp only [Act.put, pA, pB, pC]
  refine rgT 2 hS1 ?_
  refine rgT 3 hS1 ?_
  refine rgT 4 hS1 ?_
  refine rgL 5 hS1 HSO1 ?_
  refine rgT 6 hS1 ?_
  refine rgL 7 hS1 HSO1 ?_
  refine q0d 8 rfl (by kernel_rfl) (fun K hK => ?_)
  go_simp
  go_at_call 100
  refine (q0r x.sH HS.out _).mono ?_
  rintro e w3 ⟨rfl, hc⟩
  have h := bk0 hc HBW.out; clear HBW cW lW; obtain ⟨cW, lW, HBW⟩ := h
  replace HC := hct HC hc
  clear hc
  clear kt jt; obtain ⟨kt, jt⟩ := ck HC HKt HLt
  clear ku ju; obtain ⟨ku, ju⟩ := ck HC HKu HLu
  go_wp2_with fail
  refine hK.out _ _ (HSI1.out _ cW) (fun hS2 => ?_)
  clear hK K
  try simp only [Act.put, pA, pB, pC]
  refine rgT 9 hS2 ?_
  refine q0d 10 rfl (by kernel_rfl) (fun K hK => ?_)
  go_simp
  go_at_call 118
  refine (q3s a11 l11 c11 x.on f11 (x.sH.all - 1) _ (Lay.sl_ext intL H11.out HC.out)).mono ?_
  rintro e w4 ⟨rfl, hc⟩
  rw [HA.out]
  have h := bk0 hc HBW.out; clear HBW cW lW; obtain ⟨cW, lW, HBW⟩ := h
  replace HC := hct HC hc
  clear hc
  clear kt jt; obtain ⟨kt, jt⟩ := ck HC HKt HLt
  clear ku ju; obtain ⟨ku, ju⟩ := ck HC HKu HLu
  go_wp2_with fail
  refine hK.out _ _ (HSI1.out _ cW) (fun hS3 => ?_)
  clear hK K
  try simp only [Act.put, pA, pB, pC]
  refine rgT 11 hS3 ?_
  refine rgT 12 hS3 ?_
  refine rgT 13 hS3 ?_
  refine rgT 14 hS3 ?_
  refine rgL 15 hS3 HSO1 ?_
  refine rgT 16 hS3 ?_
  refine rgT 17 hS3 ?_
  refine rgT 18 hS3 ?_
  refine rgL 19 hS3 HSO1 ?_
  refine rgT 20 hS3 ?_
  refine rgT 21 hS3 ?_
  refine rgT 22 hS3 ?_
  refine rgT 23 hS3 ?_
  refine rgL 24 hS3 HSO1 ?_
  refine rgT 25 hS3 ?_
  refine rgT 26 hS3 ?_
  refine rgL 27 hS3 HSO1 ?_
  refine rgT 28 hS3 ?_
  refine rgT 29 hS3 ?_
  refine rgT 30 hS3 ?_
  refine rgT 31 hS3 ?_
  refine rgT 32 hS3 ?_
  refine rgT 33 hS3 ?_
  refine rgL 34 hS3 HSO1 ?_
  refine rgT 35 hS3 ?_
  refine rgT 36 hS3 ?_
  refine rgT 37 hS3 ?_
  refine wpAnyH_done (by kernel_rfl) ?_ _
  go_wp2_with fail
  go_ret
  exact ⟨q0i HR.out.symm, HC.out⟩
theorem spec_wftd (x : Wld) (cx : Array Value) (fx : List Nat) (w : World) (hx : wldL.rep w cx.toList x fx) (h1 : x.sH.ok) (h2 : x.built) (h3 : q2o (x.sH.all - 1) x.on) (h4 : (x.on.length : Int) ≤ x.sH.cap) (h5 : x.on = [] ∨ x.down = false) (h6 : x.tapes.length = 2) (hd : x.down = true) (hm : ¬ ∃ t ∈ x.tapes, 200 < t.recs.length) :
  Calls Tryz.prog 47 #[.agg cx] w fun e w' => e = .returned (.int .i64 x.fault) ∧ Chg [] w w' := by
 obtain ⟨a10, l10, c10, f10, a11, l11, c11, f11, a12, l12, c12, f12, ex, o1, o2, o3, o4, o5, o6, o7, o8, o9, h10, h11, h12, o13, o14, -⟩ := q1a.1 hx
 clear o1 o2 o3 o4 o5 o6 o7 o8 o9
 obtain rfl := Array.toList_inj.1 (ex.trans (List.toList_toArray).symm)
 clear ex
 have q10 := drvL.slice.sl_max h10; have q11 := intL.sl_max h11; have q12 := tapL.sl_max h12
 have H10 := hid h10; have H11 := hid h11; have H12 := hid h12
 have HX := hid hx
 have Z10 := hid h10.1; have Z11 := hid h11.1; have Z12 := hid h12.1
 clear h10 h11 h12 hx
 have HF := hid (show x.sH.fault = 0 from if_pos h1)
 have HPS := hid (q0g h1)
 have HS := hid h1
 have hal := h1.all
 have e50 : IntKind.i64.wrap (x.sH.all - 1) = x.sH.all - 1 := IntWalk.i64_in _ (by omega)
 have HB := hid (q0g h2)
 have HA := hid (q0g h3)
 have e4 : decide (x.sH.cap < (l11 : Int)) = false := by have := Z11.out; simp; omega
 have e8 : ((l12 : Int) != 2) = false := by have := Z12.out; simp; omega
 have hl2 : l12 = 2 := by have := Z12.out; omega
 have HT := hid (show x.fault = if x.tapF = 0 then (if pb x.nums = true then 0 else 3) else x.tapF by unfold Wld.fault; rw [HPS.out, q0g ⟨h2, ⟨h3, h4, h5⟩, h6⟩]; rfl)
 have H6 := hid h6
 have e7 : decide (0 < l11) = false := by
  have e5 : l11 = 0 := by rw [Z11.out]; rcases h5 with h5 | h5; rw [h5]; rfl; rw [hd] at h5; cases h5
  simp; omega
 obtain ⟨t0, b0, o0, a1, l1, c1, f1, HT0, e0, hk00, hk01, HS0⟩ := q2q H12.out (show 0 < l12 by omega)
 obtain ⟨t1, b1, o1, a2, l2, c2, f2, HT1, e1, hk10, hk11, HS1⟩ := q2q H12.out (show 1 < l12 by omega)
 subst e0
 obtain ⟨rfl, rfl⟩ : b0 = b1 ∧ o0 = o1 := by simpa using e1
 obtain ⟨_, _, _, g1, ex1, hr1, -⟩ := q1r.1 HS0.out
 obtain ⟨q1, q2, q3⟩ := Value.slice.inj (List.cons.inj (List.cons.inj ex1).2).1
 subst q1 q2 q3
 obtain ⟨_, _, _, g2, ex2, hr2, -⟩ := q1r.1 HS1.out
 obtain ⟨q1, q2, q3⟩ := Value.slice.inj (List.cons.inj (List.cons.inj ex2).2).1
 subst q1 q2 q3
 have Y1 := hid hr1.1; have Y2 := hid hr2.1
 have HI0 := hid HT0.out.1; have HI1 := hid HT1.out.1
 have HC : Hid (Chg [] w w) := Chg.refl _ _
 have HKt := hid (show w.cell? ⟨b0, o0 + 0 * 2 + 1, none⟩ = some (.slice a1 l1 c1) from hk01); have HLt := hid (show b0 < w.heap.size from Lay.sl_lt _ H12.out _ HT0.out.2.1)
 obtain ⟨kt, jt⟩ := ck HC HKt HLt
 have HKu := hid (show w.cell? ⟨b0, o0 + 1 * 2 + 1, none⟩ = some (.slice a2 l2 c2) from hk11); have HLu := hid (show b0 < w.heap.size from Lay.sl_lt _ H12.out _ HT1.out.2.1)
 obtain ⟨ku, ju⟩ := ck HC HKu HLu
 have hla : 0 < l12 := by omega
 have hlb : 1 < l12 := by omega
 have hlc : (1 : Int) < (l12 : Int) := by omega
 clear hk00 hk01 hk10 hk11 HT0 HT1 HS0 HS1 ex1 ex2 hr1 hr2 e1 hl2
 rw [hd] at HX ⊢
 clear h1 h2 h3 h4 h5 h6 hd
 have hm2 := fun h => hm ((q5r H6.out).2 h)
 have hmc1 : ¬ 200 < l1 := fun h => hm2 (.inl ⟨t0, HI0.out, by rw [← Y1.out]; exact h⟩)
 have hmc2 : ¬ 200 < l2 := fun h => hm2 (.inr ⟨t1, HI1.out, by rw [← Y2.out]; exact h⟩)
 have hmd1 : decide ((200 : Int) < (l1 : Int)) = false := by simp; omega
 have hmd2 : decide ((200 : Int) < (l2 : Int)) = false := by simp; omega
 have HT2 := hid (show x.tapF = if q2v x.sH x.tapes = 0 then (if pb (∃ t ∈ x.tapes, t.wiped = true ∧ t.recs ≠ []) = true then 1 else 0) else q2v x.sH x.tapes by unfold Wld.tapF; rw [q0f hm]; rfl)
 clear hm hm2
 go_enter Tryz.func47, Tryz.ntmps47
 go_wp2_with fail
 refine (q0n x.sH _).mono ?_
 rintro e w1 ⟨rfl, hc⟩
 rw [HF.out]
 obtain ⟨cW, lW, HBW⟩ := bk hc (b := w.heap.size) (q0e (by simp) _) (by simp)
 have h := Chg.trans0 (Chg.alloc HC.out _) hc; clear HC; have HC := hid h; clear h
 clear hc
 clear kt jt; obtain ⟨kt, jt⟩ := ck HC HKt HLt
 clear ku ju; obtain ⟨ku, ju⟩ := ck HC HKu HLu
 go_wp2_with fail
 obtain ⟨SS1, HSI1, HSO1⟩ := q0j (fun w' => Know (w.heap.size) #[.int .i64 x.sH.gS, .int .i64 x.sH.cM, .int .i64 x.sH.data, .int .i64 x.sH.spare, .int .i64 x.sH.rows, .int .i64 x.sH.cap, .int .i64 x.sH.bT, .int .i64 x.sH.qU, .int .i64 x.sH.sG, .slice a10 l10 c10, .slice a11 l11 c11, .slice (some ⟨b0, o0, none⟩) l12 c12, .int .i64 x.wT, .int .i64 x.stop, .bool true] w')
 have hS0 := HSI1.out (w1.drew) (Know.of (by refine q0a ?_; exact HBW.out))
 refine q0k SS1 (by kernel_rfl) hS0 ?_
 refine rgL 0 hS0 HSO1 ?_
 refine q0d 1 rfl (by kernel_rfl) (fun K hK => ?_)
 go_simp
 go_at_call 117
 refine (q1v x HS.out #[.int .i64 x.sH.gS, .int .i64 x.sH.cM, .int .i64 x.sH.data, .int .i64 x.sH.spare, .int .i64 x.sH.rows, .int .i64 x.sH.cap, .int .i64 x.sH.bT, .int .i64 x.sH.qU, .int .i64 x.sH.sG, .slice a10 l10 c10, .slice a11 l11 c11, .slice (some ⟨b0, o0, none⟩) l12 c12, .int .i64 x.wT, .int .i64 x.stop, .bool true] fx _ (Lay.ext wldL HX.out (Chg.drew HC.out))).mono ?_
 rintro e w2 ⟨rfl, hc⟩
 rw [HB.out]
 have h := bk hc (q0a HBW.out) (by simp); clear HBW cW lW; obtain ⟨cW, lW, HBW⟩ := h
 have h := Chg.trans0 (Chg.drew HC.out) hc; clear HC; have HC := hid h; clear h
 clear hc
 clear kt jt; obtain ⟨kt, jt⟩ := ck HC HKt HLt
 clear ku ju; obtain ⟨ku, ju⟩ := ck HC HKu HLu
 go_wp2_with fail
 refine hK.out _ _ (HSI1.out _ cW) (fun hS1 => ?_)
 clear hK K
 try simp only [Act.put, pA, pB, pC]
 refine rgT 2 hS1 ?_
 refine rgT 3 hS1 ?_
 refine rgT 4 hS1 ?_
 refine rgL 5 hS1 HSO1 ?_
 refine rgT 6 hS1 ?_
 refine rgL 7 hS1 HSO1 ?_
 refine q0d 8 rfl (by kernel_rfl) (fun K hK => ?_)
 go_simp
 go_at_call 100
 refine (q0r x.sH HS.out _).mono ?_
 rintro e w3 ⟨rfl, hc⟩
 have h := bk0 hc HBW.out; clear HBW cW lW; obtain ⟨cW, lW, HBW⟩ := h
 replace HC := hct HC hc
 clear hc
 clear kt jt; obtain ⟨kt, jt⟩ := ck HC HKt HLt
 clear ku ju; obtain ⟨ku, ju⟩ := ck HC HKu HLu
 go_wp2_with fail
 refine hK.out _ _ (HSI1.out _ cW) (fun hS2 => ?_)
 clear hK K
 try simp only [Act.put, pA, pB, pC]
 refine rgT 9 hS2 ?_
 refine q0d 10 rfl (by kernel_rfl) (fun K hK => ?_)
 go_simp
 go_at_call 118
 refine (q3s a11 l11 c11 x.on f11 (x.sH.all - 1) _ (Lay.sl_ext intL H11.out HC.out)).mono ?_
 rintro e w4 ⟨rfl, hc⟩
 rw [HA.out]
 have h := bk0 hc HBW.out; clear HBW cW lW; obtain ⟨cW, lW, HBW⟩ := h
 replace HC := hct HC hc
 clear hc
 clear kt jt; obtain ⟨kt, jt⟩ := ck HC HKt HLt
 clear ku ju; obtain ⟨ku, ju⟩ := ck HC HKu HLu
 go_wp2_with fail
 refine hK.out _ _ (HSI1.out _ cW) (fun hS3 => ?_)
 clear hK K
 try simp only [Act.put, pA, pB, pC]
 refine rgT 11 hS3 ?_
 refine rgT 12 hS3 ?_
 refine rgT 13 hS3 ?_
 refine rgT 14 hS3 ?_
 refine rgL 15 hS3 HSO1 ?_
 refine rgT 16 hS3 ?_
 refine rgT 17 hS3 ?_
 refine rgT 18 hS3 ?_
 refine rgL 19 hS3 HSO1 ?_
 refine rgT 20 hS3 ?_
 refine rgT 21 hS3 ?_
 refine rgT 22 hS3 ?_
 refine rgT 23 hS3 ?_
 refine rgL 24 hS3 HSO1 ?_
 refine rgT 25 hS3 ?_
 refine rgT 26 hS3 ?_
 refine rgL 27 hS3 HSO1 ?_
 refine rgT 28 hS3 ?_
 refine rgT 29 hS3 ?_
 refine rgT 30 hS3 ?_
 refine rgT 31 hS3 ?_
 refine rgT 32 hS3 ?_
 refine rgT 33 hS3 ?_
 refine rgL 34 hS3 HSO1 ?_
 refine rgT 35 hS3 ?_
 refine rgT 36 hS3 ?_
 refine rgT 37 hS3 ?_
 refine wpAnyH_done (by kernel_rfl) ?_ _
 go_wp2_with fail
 go_loopw [4] (fun i wr => ∃ (k : Nat) (Wr : World), Wr = wr ∧ k ≤ 2 ∧ i = .int .i64 k ∧ Hid (∀ (j : Nat) t, j < k → x.tapes[j]? = some t → q2r x.sH t.recs = 0) ∧ Chg [] w wr ∧ wr.heap[w.heap.size]? = some (.cells #[.int .i64 x.sH.gS, .int .i64 x.sH.cM, .int .i64 x.sH.data, .int .i64 x.sH.spare, .int .i64 x.sH.rows, .int .i64 x.sH.cap, .int .i64 x.sH.bT, .int .i64 x.sH.qU, .int .i64 x.sH.sG, .slice a10 l10 c10, .slice a11 l11 c11, .slice (some ⟨b0, o0, none⟩) l12 c12, .int .i64 x.wT, .int .i64 x.stop, .bool true] 34 (0, 0))) (fun i _ => 2 - (intOf i).toNat)
 case atStart => exact ⟨0, _, rfl, by omega, rfl, hid (fun j y hj => by omega), HC.out, HBW.out⟩
 case round =>
  clear kt jt ku ju
  clear HBW cW lW
  clear HC
  obtain ⟨k, w5, rfl, hk, rfl, HPk, hc, hbW⟩ := hrel
  have cW := cellsOf hbW; have lW := ltOf hbW; have HBW := hid hbW; clear hbW
  have HC := hid hc; clear hc
  obtain ⟨kt, jt⟩ := ck HC HKt HLt
  obtain ⟨ku, ju⟩ := ck HC HKu HLu
  clear kt jt HKt HLt ku ju HKu HLu
  by_cases hlt : k < 2
  rotate_left
  ·obtain rfl : k = 2 := by omega
   have HTF := hid (show q2v x.sH x.tapes = 0 from q4a (fun i q hq => HPk.out i q (by have := (List.getElem?_eq_some_iff.1 hq).1; have := H6.out; omega) hq))
   clear hlt hk
   go_wp2_with fail
   go_loopw [7] (fun i wr => ∃ (p : Nat) (Wr : World), Wr = wr ∧ p ≤ 2 ∧ i = .int .i64 p ∧ Hid (∀ (j : Nat) t, j < p → x.tapes[j]? = some t → ¬ (t.wiped = true ∧ t.recs ≠ [])) ∧ Chg [] w wr ∧ wr.heap[w.heap.size]? = some (.cells #[.int .i64 x.sH.gS, .int .i64 x.sH.cM, .int .i64 x.sH.data, .int .i64 x.sH.spare, .int .i64 x.sH.rows, .int .i64 x.sH.cap, .int .i64 x.sH.bT, .int .i64 x.sH.qU, .int .i64 x.sH.sG, .slice a10 l10 c10, .slice a11 l11 c11, .slice (some ⟨b0, o0, none⟩) l12 c12, .int .i64 x.wT, .int .i64 x.stop, .bool true] 34 (0, 0))) (fun i _ => 2 - (intOf i).toNat)
   case atStart => exact ⟨0, _, rfl, by omega, rfl, hid (fun j y hj => by omega), HC.out, HBW.out⟩
   case round =>
    clear HBW cW lW
    clear HC
    obtain ⟨p, w6, rfl, hp, rfl, HPp, hc, hbW⟩ := hrel
    have cW := cellsOf hbW; have lW := ltOf hbW; have HBW := hid hbW; clear hbW
    have HC := hid hc; clear hc
    by_cases hlt : p < 2
    rotate_left
    ·obtain rfl : p = 2 := by omega
     clear hlt hp
     have HTP := hid (show x.tapF = 0 by
      rw [HT2.out, if_pos HTF.out, q0f (fun h => by
       obtain ⟨t, ht, h⟩ := h
       obtain ⟨i, hi, rfl⟩ := List.getElem_of_mem ht
       exact HPp.out i _ (by have := H6.out; omega) (List.getElem?_eq_getElem hi) h)]
      rfl)
     have HN := hid (show x.fault = if pb x.nums = true then 0 else 3 by rw [HT.out, if_pos HTP.out])
     by_cases h7 : 0 ≤ x.wT ∧ x.wT ≤ 1000000000
     rotate_left
     ·have HR := hid (show x.fault = 3 by rw [HN.out, q0f (fun h => h7 h.1)]; rfl)
      have hi7 := q1t h7
      clear h7
      go_wp2_with fail
      refine (q0w x.wT 0 1000000000 _).mono ?_
      rintro e w7 ⟨rfl, hc⟩
      rw [hi7]
      have h := bk0 hc HBW.out; clear HBW cW lW; obtain ⟨cW, lW, HBW⟩ := h
      replace HC := hct HC hc
      clear hc
      go_wp2_with fail
      go_ret
      exact ⟨q0i HR.out.symm, HC.out⟩
     have hi7 := q1m h7.1 h7.2
     have HI7 := hid h7
     clear h7
     by_cases h8 : -1 ≤ x.stop ∧ x.stop ≤ 1000000000
     rotate_left
     ·have HR := hid (show x.fault = 3 by rw [HN.out, q0f (fun h => h8 h.2)]; rfl)
      have hi8 := q1t h8
      clear h8
      go_wp2_with fail
      refine (q0w x.wT 0 1000000000 _).mono ?_
      rintro e w7 ⟨rfl, hc⟩
      rw [hi7]
      have h := bk0 hc HBW.out; clear HBW cW lW; obtain ⟨cW, lW, HBW⟩ := h
      replace HC := hct HC hc
      clear hc
      go_wp2_with fail
      refine (q0w x.stop (-1) 1000000000 _).mono ?_
      rintro e w8 ⟨rfl, hc⟩
      rw [hi8]
      have h := bk0 hc HBW.out; clear HBW cW lW; obtain ⟨cW, lW, HBW⟩ := h
      replace HC := hct HC hc
      clear hc
      go_wp2_with fail
      go_ret
      exact ⟨q0i HR.out.symm, HC.out⟩
     have HR := hid (show x.fault = 0 by rw [HN.out, q0g ⟨HI7.out, h8⟩]; rfl)
     have hi8 := q1m h8.1 h8.2
     clear h8
     go_wp2_with fail
     refine (q0w x.wT 0 1000000000 _).mono ?_
     rintro e w7 ⟨rfl, hc⟩
     rw [hi7]
     have h := bk0 hc HBW.out; clear HBW cW lW; obtain ⟨cW, lW, HBW⟩ := h
     replace HC := hct HC hc
     clear hc
     go_wp2_with fail
     refine (q0w x.stop (-1) 1000000000 _).mono ?_
     rintro e w8 ⟨rfl, hc⟩
     rw [hi8]
     have h := bk0 hc HBW.out; clear HBW cW lW; obtain ⟨cW, lW, HBW⟩ := h
     replace HC := hct HC hc
     clear hc
     go_wp2_with fail
     go_ret
     exact ⟨q0i HR.out.symm, HC.out⟩
    obtain ⟨t, b', o', a3, l3, c3, f3, HTA, e', hw0, hw1, HTS⟩ := q2q H12.out (show p < l12 by have := Z12.out; have := H6.out; omega)
    obtain ⟨rfl, rfl⟩ : b0 = b' ∧ o0 = o' := by simpa using e'
    obtain ⟨_, _, _, gb, exb, hbl, -⟩ := q1r.1 HTS.out
    obtain ⟨q1, q2, q3⟩ := Value.slice.inj (List.cons.inj (List.cons.inj exb).2).1
    subst q1 q2 q3
    have ZB := hid hbl.1
    have hm3 := recL.sl_max hbl
    have HTI := hid HTA.out.1
    have HKv := hid (show w.cell? ⟨b0, o0 + p * 2, none⟩ = some (.bool t.wiped) from hw0); have HLv := hid (show b0 < w.heap.size from Lay.sl_lt _ H12.out _ HTA.out.2.1)
    obtain ⟨kv, jv⟩ := ck HC HKv HLv
    have HKx := hid (show w.cell? ⟨b0, o0 + p * 2 + 1, none⟩ = some (.slice a3 l3 c3) from hw1); have HLx := hid (show b0 < w.heap.size from Lay.sl_lt _ H12.out _ HTA.out.2.1)
    obtain ⟨kx, jx⟩ := ck HC HKx HLx
    clear e' hw0 hw1 exb hbl HTA HTS
    have hl12 : p < l12 := by have := Z12.out; have := H6.out; omega
    cases hwp : t.wiped
    ·rw [hwp] at kv
     have HP2 := hid (show ∀ (j : Nat) z, j < p + 1 → x.tapes[j]? = some z → ¬ (z.wiped = true ∧ z.recs ≠ []) from fun j z hj hz => by
      by_cases e : j = p
      ·subst e; rw [Option.some.inj (hz.symm.trans HTI.out)]; rw [hwp]; simp
      ·exact HPp.out j z (by omega) hz)
     clear hwp
     go_wp2_with fail
     go_roundw
     case rel => exact ⟨p + 1, _, rfl, by omega, by go_num, HP2, HC.out, HBW.out⟩
     case measure => simp [intOf]; omega
    ·rw [hwp] at kv
     by_cases hl3 : 0 < l3
     ·have HR := hid (show x.fault = 1 by
       have h : x.tapF = 1 := by rw [HT2.out, if_pos HTF.out, q0g ⟨t, List.mem_of_getElem? HTI.out, hwp, List.length_pos_iff.1 (by rw [← ZB.out]; exact hl3)⟩]; rfl
       rw [HT.out, h]; rfl)
      clear hwp
      go_wp2_with fail
      go_ret
      exact ⟨q0i HR.out.symm, HC.out⟩
     ·have HP2 := hid (show ∀ (j : Nat) z, j < p + 1 → x.tapes[j]? = some z → ¬ (z.wiped = true ∧ z.recs ≠ []) from fun j z hj hz => by
       by_cases e : j = p
       ·subst e; rw [Option.some.inj (hz.symm.trans HTI.out)]; intro h; exact h.2 (List.eq_nil_of_length_eq_zero (by rw [← ZB.out]; omega))
       ·exact HPp.out j z (by omega) hz)
      clear hwp
      go_wp2_with fail
      go_roundw
      case rel => exact ⟨p + 1, _, rfl, by omega, by go_num, HP2, HC.out, HBW.out⟩
      case measure => simp [intOf]; omega
  obtain ⟨t, b', o', a3, l3, c3, f3, HTA, e', hw0, hw1, HTS⟩ := q2q H12.out (show k < l12 by have := Z12.out; have := H6.out; omega)
  obtain ⟨rfl, rfl⟩ : b0 = b' ∧ o0 = o' := by simpa using e'
  obtain ⟨_, _, _, gb, exb, hbl, -⟩ := q1r.1 HTS.out
  obtain ⟨q1, q2, q3⟩ := Value.slice.inj (List.cons.inj (List.cons.inj exb).2).1
  subst q1 q2 q3
  have ZB := hid hbl.1
  have hm3 := recL.sl_max hbl
  have HTI := hid HTA.out.1
  have HBL := hid hbl
  have hl12 : k < l12 := by have := Z12.out; have := H6.out; omega
  have hkd : decide ((k : Int) < 2) = true := by simp; omega
  have HKx := hid (show w.cell? ⟨b0, o0 + k * 2 + 1, none⟩ = some (.slice a3 l3 c3) from hw1); have HLx := hid (show b0 < w.heap.size from Lay.sl_lt _ H12.out _ HTA.out.2.1)
  obtain ⟨kx, jx⟩ := ck HC HKx HLx
  clear e' hw0 hw1 exb hbl HTA HTS
  go_wp2_with fail
  go_loopw [5] (fun i wr => ∃ (m : Nat) (Wr : World), Wr = wr ∧ m ≤ l3 ∧ i = .int .i64 m ∧ Hid (∀ (j : Nat) q, j < m → t.recs[j]? = some q → recV x.sH q = 0) ∧ Chg [] w wr ∧ wr.heap[w.heap.size]? = some (.cells #[.int .i64 x.sH.gS, .int .i64 x.sH.cM, .int .i64 x.sH.data, .int .i64 x.sH.spare, .int .i64 x.sH.rows, .int .i64 x.sH.cap, .int .i64 x.sH.bT, .int .i64 x.sH.qU, .int .i64 x.sH.sG, .slice a10 l10 c10, .slice a11 l11 c11, .slice (some ⟨b0, o0, none⟩) l12 c12, .int .i64 x.wT, .int .i64 x.stop, .bool true] 34 (0, 0))) (fun i _ => l3 - (intOf i).toNat)
  case atStart => exact ⟨0, _, rfl, by omega, rfl, hid (fun j y hj => by omega), HC.out, HBW.out⟩
  case round =>
   clear kx jx
   clear HBW cW lW
   clear HC
   obtain ⟨m, w6, rfl, hm, rfl, HPm, hc, hbW⟩ := hrel
   have cW := cellsOf hbW; have lW := ltOf hbW; have HBW := hid hbW; clear hbW
   have HC := hid hc; clear hc
   obtain ⟨kx, jx⟩ := ck HC HKx HLx
   by_cases hlt2 : m < l3
   rotate_left
   ·obtain rfl : m = l3 := by omega
    have HRF := hid (show q2r x.sH t.recs = 0 from q4c (fun i q hq => HPm.out i q (by rw [ZB.out]; exact (List.getElem?_eq_some_iff.1 hq).1) hq))
    have HP2 := hid (show ∀ (j : Nat) z, j < k + 1 → x.tapes[j]? = some z → q2r x.sH z.recs = 0 from fun j z hj hz => by
     by_cases e : j = k
     ·subst e; rw [Option.some.inj (hz.symm.trans HTI.out)]; exact HRF.out
     ·exact HPk.out j z (by omega) hz)
    go_wp2_with fail
    go_roundw
    case rel => exact ⟨k + 1, _, rfl, by omega, by go_num, HP2, HC.out, HBW.out⟩
    case measure => simp [intOf]; omega
   obtain ⟨q, br, or, a6, l6, c6, a7, l7, c7, a8, l8, c8, fq, HQA, eq3, hq0, hq1, hq2, hq3, hq4, hq5, hq6, hq7, hq8, HQS⟩ := q7e HBL.out hlt2
   subst eq3
   have HQI := hid HQA.out.1
   have HQ := hid HQS.out
   have HLQ := hid (Lay.sl_lt _ HBL.out _ HQA.out.2.1)
   clear HQA HQS
   have HKr0 := hid (show w.cell? ⟨br, or + m * 9, none⟩ = some (.int .i64 q.kind) from hq0); have HLr0 := hid (show br < w.heap.size from HLQ.out)
   obtain ⟨kr0, jr0⟩ := ck HC HKr0 HLr0
   have HKr1 := hid (show w.cell? ⟨br, or + m * 9 + 1, none⟩ = some (.int .i64 q.seq) from hq1); have HLr1 := hid (show br < w.heap.size from HLQ.out)
   obtain ⟨kr1, jr1⟩ := ck HC HKr1 HLr1
   have HKr2 := hid (show w.cell? ⟨br, or + m * 9 + 2, none⟩ = some (.string q.name) from hq2); have HLr2 := hid (show br < w.heap.size from HLQ.out)
   obtain ⟨kr2, jr2⟩ := ck HC HKr2 HLr2
   have HKr3 := hid (show w.cell? ⟨br, or + m * 9 + 3, none⟩ = some (.int .i64 q.length) from hq3); have HLr3 := hid (show br < w.heap.size from HLQ.out)
   obtain ⟨kr3, jr3⟩ := ck HC HKr3 HLr3
   have HKr4 := hid (show w.cell? ⟨br, or + m * 9 + 4, none⟩ = some (.int .i64 q.group) from hq4); have HLr4 := hid (show br < w.heap.size from HLQ.out)
   obtain ⟨kr4, jr4⟩ := ck HC HKr4 HLr4
   have HKr5 := hid (show w.cell? ⟨br, or + m * 9 + 5, none⟩ = some (.int .i64 q.row) from hq5); have HLr5 := hid (show br < w.heap.size from HLQ.out)
   obtain ⟨kr5, jr5⟩ := ck HC HKr5 HLr5
   have HKr6 := hid (show w.cell? ⟨br, or + m * 9 + 6, none⟩ = some (.slice a6 l6 c6) from hq6); have HLr6 := hid (show br < w.heap.size from HLQ.out)
   obtain ⟨kr6, jr6⟩ := ck HC HKr6 HLr6
   have HKr7 := hid (show w.cell? ⟨br, or + m * 9 + 7, none⟩ = some (.slice a7 l7 c7) from hq7); have HLr7 := hid (show br < w.heap.size from HLQ.out)
   obtain ⟨kr7, jr7⟩ := ck HC HKr7 HLr7
   have HKr8 := hid (show w.cell? ⟨br, or + m * 9 + 8, none⟩ = some (.slice a8 l8 c8) from hq8); have HLr8 := hid (show br < w.heap.size from HLQ.out)
   obtain ⟨kr8, jr8⟩ := ck HC HKr8 HLr8
   clear hq0 hq1 hq2 hq3 hq4 hq5 hq6 hq7 hq8
   obtain ⟨u, hu⟩ : ∃ u, u = recV x.sH q := ⟨_, rfl⟩
   have HU := hid hu.symm
   by_cases h0 : u = 0
   ·subst h0
    have HP2 := hid (show ∀ (j : Nat) z, j < m + 1 → t.recs[j]? = some z → recV x.sH z = 0 from fun j z hj hz => by
     by_cases e : j = m
     ·subst e; rw [Option.some.inj (hz.symm.trans HQI.out)]; exact HU.out
     ·exact HPm.out j z (by omega) hz)
    clear hu
    go_wp2_with fail
    clear kx jx kr0 jr0 kr1 jr1 kr2 jr2 kr3 jr3 kr4 jr4 kr5 jr5 kr6 jr6 kr7 jr7 kr8 jr8
    obtain ⟨SS2, HSI2, HSO2⟩ := q0j (fun w' => Know (w.heap.size) #[.int .i64 x.sH.gS, .int .i64 x.sH.cM, .int .i64 x.sH.data, .int .i64 x.sH.spare, .int .i64 x.sH.rows, .int .i64 x.sH.cap, .int .i64 x.sH.bT, .int .i64 x.sH.qU, .int .i64 x.sH.sG, .slice a10 l10 c10, .slice a11 l11 c11, .slice (some ⟨b0, o0, none⟩) l12 c12, .int .i64 x.wT, .int .i64 x.stop, .bool true] w' ∧ w'.cell? ⟨b0, o0 + k * 2 + 1, none⟩ = some (.slice (some ⟨br, or, none⟩) l3 c3) ∧ w'.cell? ⟨br, or + m * 9, none⟩ = some (.int .i64 q.kind) ∧ w'.cell? ⟨br, or + m * 9 + 1, none⟩ = some (.int .i64 q.seq) ∧ w'.cell? ⟨br, or + m * 9 + 2, none⟩ = some (.string q.name) ∧ w'.cell? ⟨br, or + m * 9 + 3, none⟩ = some (.int .i64 q.length) ∧ w'.cell? ⟨br, or + m * 9 + 4, none⟩ = some (.int .i64 q.group) ∧ w'.cell? ⟨br, or + m * 9 + 5, none⟩ = some (.int .i64 q.row) ∧ w'.cell? ⟨br, or + m * 9 + 6, none⟩ = some (.slice a6 l6 c6) ∧ w'.cell? ⟨br, or + m * 9 + 7, none⟩ = some (.slice a7 l7 c7) ∧ w'.cell? ⟨br, or + m * 9 + 8, none⟩ = some (.slice a8 l8 c8))
    have hS0 := HSI2.out (w6.drew) ⟨(Know.of (by refine q0a ?_; exact HBW.out)), (q0h (Chg.drew HC.out) HKx.out HLx.out), (q0h (Chg.drew HC.out) HKr0.out HLr0.out), (q0h (Chg.drew HC.out) HKr1.out HLr1.out), (q0h (Chg.drew HC.out) HKr2.out HLr2.out), (q0h (Chg.drew HC.out) HKr3.out HLr3.out), (q0h (Chg.drew HC.out) HKr4.out HLr4.out), (q0h (Chg.drew HC.out) HKr5.out HLr5.out), (q0h (Chg.drew HC.out) HKr6.out HLr6.out), (q0h (Chg.drew HC.out) HKr7.out HLr7.out), (q0h (Chg.drew HC.out) HKr8.out HLr8.out)⟩
    refine q0k SS2 (by kernel_rfl) hS0 ?_
    refine rgT 0 hS0 ?_
    refine rgL 1 hS0 HSO2 ?_
    refine rgT 2 hS0 ?_
    refine rgL 3 hS0 HSO2 ?_
    refine rgT 4 hS0 ?_
    refine rgT 5 hS0 ?_
    refine rgT 6 hS0 ?_
    refine rgL 7 hS0 HSO2 ?_
    refine rgT 8 hS0 ?_
    refine rgT 9 hS0 ?_
    refine rgL 10 hS0 HSO2 ?_
    refine q0d 11 rfl (by kernel_rfl) (fun K hK => ?_)
    go_simp
    go_at_call 119
    refine (q5w x.sH HS.out q #[.int .i64 q.kind, .int .i64 q.seq, .string q.name, .int .i64 q.length, .int .i64 q.group, .int .i64 q.row, .slice a6 l6 c6, .slice a7 l7 c7, .slice a8 l8 c8] fq _ (Lay.ext recL HQ.out (Chg.drew HC.out))).mono ?_
    rintro e w7 ⟨rfl, hc⟩
    rw [HU.out]
    have h := bk hc (q0a HBW.out) (by simp); clear HBW cW lW; obtain ⟨cW, lW, HBW⟩ := h
    have h := Chg.trans0 (Chg.drew HC.out) hc; clear HC; have HC := hid h; clear h
    clear hc
    go_wp2_with fail
    refine hK.out _ _ (HSI2.out _ ⟨cW, (q0h HC.out HKx.out HLx.out), (q0h HC.out HKr0.out HLr0.out), (q0h HC.out HKr1.out HLr1.out), (q0h HC.out HKr2.out HLr2.out), (q0h HC.out HKr3.out HLr3.out), (q0h HC.out HKr4.out HLr4.out), (q0h HC.out HKr5.out HLr5.out), (q0h HC.out HKr6.out HLr6.out), (q0h HC.out HKr7.out HLr7.out), (q0h HC.out HKr8.out HLr8.out)⟩) (fun hS1 => ?_)
    clear hK K
    try simp only [Act.put, pA, pB, pC]
    refine rgT 12 hS1 ?_
    refine wpAnyH_done (by kernel_rfl) ?_ _
    go_wp2_with fail
    go_roundw
    case rel => exact ⟨m + 1, _, rfl, by omega, by go_num, HP2, HC.out, HBW.out⟩
    case measure => simp [intOf]; omega
   ·have HR := hid (show x.fault = u by
     have h1 : q2r x.sH t.recs = u := by rw [q5c (k := m) HPm.out HQI.out (by rw [HU.out]; exact h0), HU.out]
     have h2 : q2v x.sH x.tapes = u := by rw [q5a (k := k) HPk.out HTI.out (by rw [h1]; exact h0), h1]
     have h3 : x.tapF = u := by rw [HT2.out, h2, if_neg h0]
     rw [HT.out, h3, if_neg h0])
    have eu : (u != 0) = true := by simp; exact h0
    clear hu h0
    go_wp2_with fail
    clear kx jx kr0 jr0 kr1 jr1 kr2 jr2 kr3 jr3 kr4 jr4 kr5 jr5 kr6 jr6 kr7 jr7 kr8 jr8
    obtain ⟨SS2, HSI2, HSO2⟩ := q0j (fun w' => Know (w.heap.size) #[.int .i64 x.sH.gS, .int .i64 x.sH.cM, .int .i64 x.sH.data, .int .i64 x.sH.spare, .int .i64 x.sH.rows, .int .i64 x.sH.cap, .int .i64 x.sH.bT, .int .i64 x.sH.qU, .int .i64 x.sH.sG, .slice a10 l10 c10, .slice a11 l11 c11, .slice (some ⟨b0, o0, none⟩) l12 c12, .int .i64 x.wT, .int .i64 x.stop, .bool true] w' ∧ w'.cell? ⟨b0, o0 + k * 2 + 1, none⟩ = some (.slice (some ⟨br, or, none⟩) l3 c3) ∧ w'.cell? ⟨br, or + m * 9, none⟩ = some (.int .i64 q.kind) ∧ w'.cell? ⟨br, or + m * 9 + 1, none⟩ = some (.int .i64 q.seq) ∧ w'.cell? ⟨br, or + m * 9 + 2, none⟩ = some (.string q.name) ∧ w'.cell? ⟨br, or + m * 9 + 3, none⟩ = some (.int .i64 q.length) ∧ w'.cell? ⟨br, or + m * 9 + 4, none⟩ = some (.int .i64 q.group) ∧ w'.cell? ⟨br, or + m * 9 + 5, none⟩ = some (.int .i64 q.row) ∧ w'.cell? ⟨br, or + m * 9 + 6, none⟩ = some (.slice a6 l6 c6) ∧ w'.cell? ⟨br, or + m * 9 + 7, none⟩ = some (.slice a7 l7 c7) ∧ w'.cell? ⟨br, or + m * 9 + 8, none⟩ = some (.slice a8 l8 c8))
    have hS0 := HSI2.out (w6.drew) ⟨(Know.of (by refine q0a ?_; exact HBW.out)), (q0h (Chg.drew HC.out) HKx.out HLx.out), (q0h (Chg.drew HC.out) HKr0.out HLr0.out), (q0h (Chg.drew HC.out) HKr1.out HLr1.out), (q0h (Chg.drew HC.out) HKr2.out HLr2.out), (q0h (Chg.drew HC.out) HKr3.out HLr3.out), (q0h (Chg.drew HC.out) HKr4.out HLr4.out), (q0h (Chg.drew HC.out) HKr5.out HLr5.out), (q0h (Chg.drew HC.out) HKr6.out HLr6.out), (q0h (Chg.drew HC.out) HKr7.out HLr7.out), (q0h (Chg.drew HC.out) HKr8.out HLr8.out)⟩
    refine q0k SS2 (by kernel_rfl) hS0 ?_
    refine rgT 0 hS0 ?_
    refine rgL 1 hS0 HSO2 ?_
    refine rgT 2 hS0 ?_
    refine rgL 3 hS0 HSO2 ?_
    refine rgT 4 hS0 ?_
    refine rgT 5 hS0 ?_
    refine rgT 6 hS0 ?_
    refine rgL 7 hS0 HSO2 ?_
    refine rgT 8 hS0 ?_
    refine rgT 9 hS0 ?_
    refine rgL 10 hS0 HSO2 ?_
    refine q0d 11 rfl (by kernel_rfl) (fun K hK => ?_)
    go_simp
    go_at_call 119
    refine (q5w x.sH HS.out q #[.int .i64 q.kind, .int .i64 q.seq, .string q.name, .int .i64 q.length, .int .i64 q.group, .int .i64 q.row, .slice a6 l6 c6, .slice a7 l7 c7, .slice a8 l8 c8] fq _ (Lay.ext recL HQ.out (Chg.drew HC.out))).mono ?_
    rintro e w7 ⟨rfl, hc⟩
    rw [HU.out]
    have h := bk hc (q0a HBW.out) (by simp); clear HBW cW lW; obtain ⟨cW, lW, HBW⟩ := h
    have h := Chg.trans0 (Chg.drew HC.out) hc; clear HC; have HC := hid h; clear h
    clear hc
    go_wp2_with fail
    refine hK.out _ _ (HSI2.out _ ⟨cW, (q0h HC.out HKx.out HLx.out), (q0h HC.out HKr0.out HLr0.out), (q0h HC.out HKr1.out HLr1.out), (q0h HC.out HKr2.out HLr2.out), (q0h HC.out HKr3.out HLr3.out), (q0h HC.out HKr4.out HLr4.out), (q0h HC.out HKr5.out HLr5.out), (q0h HC.out HKr6.out HLr6.out), (q0h HC.out HKr7.out HLr7.out), (q0h HC.out HKr8.out HLr8.out)⟩) (fun hS1 => ?_)
    clear hK K
    try simp only [Act.put, pA, pB, pC]
    refine rgT 12 hS1 ?_
    refine wpAnyH_done (by kernel_rfl) ?_ _
    go_wp2_with fail
    go_ret
    exact ⟨q0i HR.out.symm, HC.out⟩
theorem spec_wfmu (x : Wld) (cx : Array Value) (fx : List Nat) (w : World) (hx : wldL.rep w cx.toList x fx) (h1 : x.sH.ok) (h2 : x.built) (h3 : q2o (x.sH.all - 1) x.on) (h4 : (x.on.length : Int) ≤ x.sH.cap) (h5 : x.on = [] ∨ x.down = false) (h6 : x.tapes.length = 2) (hd : x.down = false) (hm : ∃ t ∈ x.tapes, 200 < t.recs.length) :
  Calls Tryz.prog 47 #[.agg cx] w fun e w' => e = .returned (.int .i64 x.fault) ∧ Chg [] w w' := by
 obtain ⟨a10, l10, c10, f10, a11, l11, c11, f11, a12, l12, c12, f12, ex, o1, o2, o3, o4, o5, o6, o7, o8, o9, h10, h11, h12, o13, o14, -⟩ := q1a.1 hx
 clear o1 o2 o3 o4 o5 o6 o7 o8 o9
 obtain rfl := Array.toList_inj.1 (ex.trans (List.toList_toArray).symm)
 clear ex
 have q10 := drvL.slice.sl_max h10; have q11 := intL.sl_max h11; have q12 := tapL.sl_max h12
 have H10 := hid h10; have H11 := hid h11; have H12 := hid h12
 have HX := hid hx
 have Z10 := hid h10.1; have Z11 := hid h11.1; have Z12 := hid h12.1
 clear h10 h11 h12 hx
 have HF := hid (show x.sH.fault = 0 from if_pos h1)
 have HPS := hid (q0g h1)
 have HS := hid h1
 have hal := h1.all
 have e50 : IntKind.i64.wrap (x.sH.all - 1) = x.sH.all - 1 := IntWalk.i64_in _ (by omega)
 have HB := hid (q0g h2)
 have HA := hid (q0g h3)
 have e4 : decide (x.sH.cap < (l11 : Int)) = false := by have := Z11.out; simp; omega
 have e8 : ((l12 : Int) != 2) = false := by have := Z12.out; simp; omega
 have hl2 : l12 = 2 := by have := Z12.out; omega
 have HT := hid (show x.fault = if x.tapF = 0 then (if pb x.nums = true then 0 else 3) else x.tapF by unfold Wld.fault; rw [HPS.out, q0g ⟨h2, ⟨h3, h4, h5⟩, h6⟩]; rfl)
 have H6 := hid h6
 obtain ⟨t0, b0, o0, a1, l1, c1, f1, HT0, e0, hk00, hk01, HS0⟩ := q2q H12.out (show 0 < l12 by omega)
 obtain ⟨t1, b1, o1, a2, l2, c2, f2, HT1, e1, hk10, hk11, HS1⟩ := q2q H12.out (show 1 < l12 by omega)
 subst e0
 obtain ⟨rfl, rfl⟩ : b0 = b1 ∧ o0 = o1 := by simpa using e1
 obtain ⟨_, _, _, g1, ex1, hr1, -⟩ := q1r.1 HS0.out
 obtain ⟨q1, q2, q3⟩ := Value.slice.inj (List.cons.inj (List.cons.inj ex1).2).1
 subst q1 q2 q3
 obtain ⟨_, _, _, g2, ex2, hr2, -⟩ := q1r.1 HS1.out
 obtain ⟨q1, q2, q3⟩ := Value.slice.inj (List.cons.inj (List.cons.inj ex2).2).1
 subst q1 q2 q3
 have Y1 := hid hr1.1; have Y2 := hid hr2.1
 have HI0 := hid HT0.out.1; have HI1 := hid HT1.out.1
 have HC : Hid (Chg [] w w) := Chg.refl _ _
 have HKt := hid (show w.cell? ⟨b0, o0 + 0 * 2 + 1, none⟩ = some (.slice a1 l1 c1) from hk01); have HLt := hid (show b0 < w.heap.size from Lay.sl_lt _ H12.out _ HT0.out.2.1)
 obtain ⟨kt, jt⟩ := ck HC HKt HLt
 have HKu := hid (show w.cell? ⟨b0, o0 + 1 * 2 + 1, none⟩ = some (.slice a2 l2 c2) from hk11); have HLu := hid (show b0 < w.heap.size from Lay.sl_lt _ H12.out _ HT1.out.2.1)
 obtain ⟨ku, ju⟩ := ck HC HKu HLu
 have hla : 0 < l12 := by omega
 have hlb : 1 < l12 := by omega
 have hlc : (1 : Int) < (l12 : Int) := by omega
 clear hk00 hk01 hk10 hk11 HT0 HT1 HS0 HS1 ex1 ex2 hr1 hr2 e1 hl2
 rw [hd] at HX ⊢
 clear h1 h2 h3 h4 h5 h6 hd
 have HR := hid (show x.fault = 2 by
  have h : x.tapF = 2 := by unfold Wld.tapF; rw [q0g hm]; rfl
  rw [HT.out, h]; rfl)
 have hm2 := (q5r H6.out).1 hm
 clear hm
 have hmc : 200 < l1 ∨ (¬ 200 < l1 ∧ 200 < l2) := by
  by_cases h : 200 < l1
  ·exact .inl h
  ·rcases hm2 with ⟨t, ht, h4⟩ | ⟨t, ht, h4⟩
   ·exact absurd (by rw [Y1.out, Option.some.inj (HI0.out.symm.trans ht)]; exact h4) h
   ·exact .inr ⟨h, by rw [Y2.out, Option.some.inj (HI1.out.symm.trans ht)]; exact h4⟩
 clear hm2
 rcases hmc with hmc | ⟨hmn, hmc⟩
 ·skip
  go_enter Tryz.func47, Tryz.ntmps47
  go_wp2_with fail
  refine (q0n x.sH _).mono ?_
  rintro e w1 ⟨rfl, hc⟩
  rw [HF.out]
  obtain ⟨cW, lW, HBW⟩ := bk hc (b := w.heap.size) (q0e (by simp) _) (by simp)
  have h := Chg.trans0 (Chg.alloc HC.out _) hc; clear HC; have HC := hid h; clear h
  clear hc
  clear kt jt; obtain ⟨kt, jt⟩ := ck HC HKt HLt
  clear ku ju; obtain ⟨ku, ju⟩ := ck HC HKu HLu
  go_wp2_with fail
  obtain ⟨SS1, HSI1, HSO1⟩ := q0j (fun w' => Know (w.heap.size) #[.int .i64 x.sH.gS, .int .i64 x.sH.cM, .int .i64 x.sH.data, .int .i64 x.sH.spare, .int .i64 x.sH.rows, .int .i64 x.sH.cap, .int .i64 x.sH.bT, .int .i64 x.sH.qU, .int .i64 x.sH.sG, .slice a10 l10 c10, .slice a11 l11 c11, .slice (some ⟨b0, o0, none⟩) l12 c12, .int .i64 x.wT, .int .i64 x.stop, .bool false] w')
  have hS0 := HSI1.out (w1.drew) (Know.of (by refine q0a ?_; exact HBW.out))
  refine q0k SS1 (by kernel_rfl) hS0 ?_
  refine rgL 0 hS0 HSO1 ?_
  refine q0d 1 rfl (by kernel_rfl) (fun K hK => ?_)
  go_simp
  go_at_call 117
  refine (q1v x HS.out #[.int .i64 x.sH.gS, .int .i64 x.sH.cM, .int .i64 x.sH.data, .int .i64 x.sH.spare, .int .i64 x.sH.rows, .int .i64 x.sH.cap, .int .i64 x.sH.bT, .int .i64 x.sH.qU, .int .i64 x.sH.sG, .slice a10 l10 c10, .slice a11 l11 c11, .slice (some ⟨b0, o0, none⟩) l12 c12, .int .i64 x.wT, .int .i64 x.stop, .bool false] fx _ (Lay.ext wldL HX.out (Chg.drew HC.out))).mono ?_
  rintro e w2 ⟨rfl, hc⟩
  rw [HB.out]
  have h := bk hc (q0a HBW.out) (by simp); clear HBW cW lW; obtain ⟨cW, lW, HBW⟩ := h
  have h := Chg.trans0 (Chg.drew HC.out) hc; clear HC; have HC := hid h; clear h
  clear hc
  clear kt jt; obtain ⟨kt, jt⟩ := ck HC HKt HLt
  clear ku ju; obtain ⟨ku, ju⟩ := ck HC HKu HLu
  go_wp2_with fail
  refine hK.out _ _ (HSI1.out _ cW) (fun hS1 => ?_)
  clear hK K
  try simp only [Act.put, pA, pB, pC]
  refine rgT 2 hS1 ?_
  refine rgT 3 hS1 ?_
  refine rgT 4 hS1 ?_
  refine rgL 5 hS1 HSO1 ?_
  refine rgT 6 hS1 ?_
  refine rgL 7 hS1 HSO1 ?_
  refine q0d 8 rfl (by kernel_rfl) (fun K hK => ?_)
  go_simp
  go_at_call 100
  refine (q0r x.sH HS.out _).mono ?_
  rintro e w3 ⟨rfl, hc⟩
  have h := bk0 hc HBW.out; clear HBW cW lW; obtain ⟨cW, lW, HBW⟩ := h
  replace HC := hct HC hc
  clear hc
  clear kt jt; obtain ⟨kt, jt⟩ := ck HC HKt HLt
  clear ku ju; obtain ⟨ku, ju⟩ := ck HC HKu HLu
  go_wp2_with fail
  refine hK.out _ _ (HSI1.out _ cW) (fun hS2 => ?_)
  clear hK K
  try simp only [Act.put, pA, pB, pC]
  refine rgT 9 hS2 ?_
  refine q0d 10 rfl (by kernel_rfl) (fun K hK => ?_)
  go_simp
  go_at_call 118
  refine (q3s a11 l11 c11 x.on f11 (x.sH.all - 1) _ (Lay.sl_ext intL H11.out HC.out)).mono ?_
  rintro e w4 ⟨rfl, hc⟩
  rw [HA.out]
  have h := bk0 hc HBW.out; clear HBW cW lW; obtain ⟨cW, lW, HBW⟩ := h
  replace HC := hct HC hc
  clear hc
  clear kt jt; obtain ⟨kt, jt⟩ := ck HC HKt HLt
  clear ku ju; obtain ⟨ku, ju⟩ := ck HC HKu HLu
  go_wp2_with fail
  refine hK.out _ _ (HSI1.out _ cW) (fun hS3 => ?_)
  clear hK K
  try simp only [Act.put, pA, pB, pC]
  refine rgT 11 hS3 ?_
  refine rgT 12 hS3 ?_
  refine rgT 13 hS3 ?_
  refine rgT 14 hS3 ?_
  refine rgL 15 hS3 HSO1 ?_
  refine rgT 16 hS3 ?_
  refine rgT 17 hS3 ?_
  refine rgT 18 hS3 ?_
  refine rgL 19 hS3 HSO1 ?_
  refine rgT 20 hS3 ?_
  refine rgT 21 hS3 ?_
  refine rgT 22 hS3 ?_
  refine rgT 23 hS3 ?_
  refine rgL 24 hS3 HSO1 ?_
  refine rgT 25 hS3 ?_
  refine rgS 26 hS3 ?_
  refine rgS 27 hS3 ?_
  refine rgS 28 hS3 ?_
  refine rgS 29 hS3 ?_
  refine rgT 30 hS3 ?_
  refine rgT 31 hS3 ?_
  refine rgT 32 hS3 ?_
  refine rgT 33 hS3 ?_
  refine rgL 34 hS3 HSO1 ?_
  refine rgT 35 hS3 ?_
  refine rgT 36 hS3 ?_
  refine rgT 37 hS3 ?_
  refine wpAnyH_done (by kernel_rfl) ?_ _
  go_wp2_with fail
  go_ret
  exact ⟨q0i HR.out.symm, HC.out⟩
 ·skip
  go_enter Tryz.func47, Tryz.ntmps47
  go_wp2_with fail
  refine (q0n x.sH _).mono ?_
  rintro e w1 ⟨rfl, hc⟩
  rw [HF.out]
  obtain ⟨cW, lW, HBW⟩ := bk hc (b := w.heap.size) (q0e (by simp) _) (by simp)
  have h := Chg.trans0 (Chg.alloc HC.out _) hc; clear HC; have HC := hid h; clear h
  clear hc
  clear kt jt; obtain ⟨kt, jt⟩ := ck HC HKt HLt
  clear ku ju; obtain ⟨ku, ju⟩ := ck HC HKu HLu
  go_wp2_with fail
  obtain ⟨SS1, HSI1, HSO1⟩ := q0j (fun w' => Know (w.heap.size) #[.int .i64 x.sH.gS, .int .i64 x.sH.cM, .int .i64 x.sH.data, .int .i64 x.sH.spare, .int .i64 x.sH.rows, .int .i64 x.sH.cap, .int .i64 x.sH.bT, .int .i64 x.sH.qU, .int .i64 x.sH.sG, .slice a10 l10 c10, .slice a11 l11 c11, .slice (some ⟨b0, o0, none⟩) l12 c12, .int .i64 x.wT, .int .i64 x.stop, .bool false] w')
  have hS0 := HSI1.out (w1.drew) (Know.of (by refine q0a ?_; exact HBW.out))
  refine q0k SS1 (by kernel_rfl) hS0 ?_
  refine rgL 0 hS0 HSO1 ?_
  refine q0d 1 rfl (by kernel_rfl) (fun K hK => ?_)
  go_simp
  go_at_call 117
  refine (q1v x HS.out #[.int .i64 x.sH.gS, .int .i64 x.sH.cM, .int .i64 x.sH.data, .int .i64 x.sH.spare, .int .i64 x.sH.rows, .int .i64 x.sH.cap, .int .i64 x.sH.bT, .int .i64 x.sH.qU, .int .i64 x.sH.sG, .slice a10 l10 c10, .slice a11 l11 c11, .slice (some ⟨b0, o0, none⟩) l12 c12, .int .i64 x.wT, .int .i64 x.stop, .bool false] fx _ (Lay.ext wldL HX.out (Chg.drew HC.out))).mono ?_
  rintro e w2 ⟨rfl, hc⟩
  rw [HB.out]
  have h := bk hc (q0a HBW.out) (by simp); clear HBW cW lW; obtain ⟨cW, lW, HBW⟩ := h
  have h := Chg.trans0 (Chg.drew HC.out) hc; clear HC; have HC := hid h; clear h
  clear hc
  clear kt jt; obtain ⟨kt, jt⟩ := ck HC HKt HLt
  clear ku ju; obtain ⟨ku, ju⟩ := ck HC HKu HLu
  go_wp2_with fail
  refine hK.out _ _ (HSI1.out _ cW) (fun hS1 => ?_)
  clear hK K
  try simp only [Act.put, pA, pB, pC]
  refine rgT 2 hS1 ?_
  refine rgT 3 hS1 ?_
  refine rgT 4 hS1 ?_
  refine rgL 5 hS1 HSO1 ?_
  refine rgT 6 hS1 ?_
  refine rgL 7 hS1 HSO1 ?_
  refine q0d 8 rfl (by kernel_rfl) (fun K hK => ?_)
  go_simp
  go_at_call 100
  refine (q0r x.sH HS.out _).mono ?_
  rintro e w3 ⟨rfl, hc⟩
  have h := bk0 hc HBW.out; clear HBW cW lW; obtain ⟨cW, lW, HBW⟩ := h
  replace HC := hct HC hc
  clear hc
  clear kt jt; obtain ⟨kt, jt⟩ := ck HC HKt HLt
  clear ku ju; obtain ⟨ku, ju⟩ := ck HC HKu HLu
  go_wp2_with fail
  refine hK.out _ _ (HSI1.out _ cW) (fun hS2 => ?_)
  clear hK K
  try simp only [Act.put, pA, pB, pC]
  refine rgT 9 hS2 ?_
  refine q0d 10 rfl (by kernel_rfl) (fun K hK => ?_)
  go_simp
  go_at_call 118
  refine (q3s a11 l11 c11 x.on f11 (x.sH.all - 1) _ (Lay.sl_ext intL H11.out HC.out)).mono ?_
  rintro e w4 ⟨rfl, hc⟩
  rw [HA.out]
  have h := bk0 hc HBW.out; clear HBW cW lW; obtain ⟨cW, lW, HBW⟩ := h
  replace HC := hct HC hc
  clear hc
  clear kt jt; obtain ⟨kt, jt⟩ := ck HC HKt HLt
  clear ku ju; obtain ⟨ku, ju⟩ := ck HC HKu HLu
  go_wp2_with fail
  refine hK.out _ _ (HSI1.out _ cW) (fun hS3 => ?_)
  clear hK K
  try simp only [Act.put, pA, pB, pC]
  refine rgT 11 hS3 ?_
  refine rgT 12 hS3 ?_
  refine rgT 13 hS3 ?_
  refine rgT 14 hS3 ?_
  refine rgL 15 hS3 HSO1 ?_
  refine rgT 16 hS3 ?_
  refine rgT 17 hS3 ?_
  refine rgT 18 hS3 ?_
  refine rgL 19 hS3 HSO1 ?_
  refine rgT 20 hS3 ?_
  refine rgT 21 hS3 ?_
  refine rgT 22 hS3 ?_
  refine rgT 23 hS3 ?_
  refine rgL 24 hS3 HSO1 ?_
  refine rgT 25 hS3 ?_
  refine rgS 26 hS3 ?_
  refine rgS 27 hS3 ?_
  refine rgS 28 hS3 ?_
  refine rgS 29 hS3 ?_
  refine rgT 30 hS3 ?_
  refine rgT 31 hS3 ?_
  refine rgT 32 hS3 ?_
  refine rgT 33 hS3 ?_
  refine rgL 34 hS3 HSO1 ?_
  refine rgT 35 hS3 ?_
  refine rgT 36 hS3 ?_
  refine rgT 37 hS3 ?_
  refine wpAnyH_done (by kernel_rfl) ?_ _
  go_wp2_with fail
  go_ret
  exact ⟨q0i HR.out.symm, HC.out⟩
theorem spec_wftu (x : Wld) (cx : Array Value) (fx : List Nat) (w : World) (hx : wldL.rep w cx.toList x fx) (h1 : x.sH.ok) (h2 : x.built) (h3 : q2o (x.sH.all - 1) x.on) (h4 : (x.on.length : Int) ≤ x.sH.cap) (h5 : x.on = [] ∨ x.down = false) (h6 : x.tapes.length = 2) (hd : x.down = false) (hm : ¬ ∃ t ∈ x.tapes, 200 < t.recs.length) :
  Calls Tryz.prog 47 #[.agg cx] w fun e w' => e = .returned (.int .i64 x.fault) ∧ Chg [] w w' := by
 obtain ⟨a10, l10, c10, f10, a11, l11, c11, f11, a12, l12, c12, f12, ex, o1, o2, o3, o4, o5, o6, o7, o8, o9, h10, h11, h12, o13, o14, -⟩ := q1a.1 hx
 clear o1 o2 o3 o4 o5 o6 o7 o8 o9
 obtain rfl := Array.toList_inj.1 (ex.trans (List.toList_toArray).symm)
 clear ex
 have q10 := drvL.slice.sl_max h10; have q11 := intL.sl_max h11; have q12 := tapL.sl_max h12
 have H10 := hid h10; have H11 := hid h11; have H12 := hid h12
 have HX := hid hx
 have Z10 := hid h10.1; have Z11 := hid h11.1; have Z12 := hid h12.1
 clear h10 h11 h12 hx
 have HF := hid (show x.sH.fault = 0 from if_pos h1)
 have HPS := hid (q0g h1)
 have HS := hid h1
 have hal := h1.all
 have e50 : IntKind.i64.wrap (x.sH.all - 1) = x.sH.all - 1 := IntWalk.i64_in _ (by omega)
 have HB := hid (q0g h2)
 have HA := hid (q0g h3)
 have e4 : decide (x.sH.cap < (l11 : Int)) = false := by have := Z11.out; simp; omega
 have e8 : ((l12 : Int) != 2) = false := by have := Z12.out; simp; omega
 have hl2 : l12 = 2 := by have := Z12.out; omega
 have HT := hid (show x.fault = if x.tapF = 0 then (if pb x.nums = true then 0 else 3) else x.tapF by unfold Wld.fault; rw [HPS.out, q0g ⟨h2, ⟨h3, h4, h5⟩, h6⟩]; rfl)
 have H6 := hid h6
 obtain ⟨t0, b0, o0, a1, l1, c1, f1, HT0, e0, hk00, hk01, HS0⟩ := q2q H12.out (show 0 < l12 by omega)
 obtain ⟨t1, b1, o1, a2, l2, c2, f2, HT1, e1, hk10, hk11, HS1⟩ := q2q H12.out (show 1 < l12 by omega)
 subst e0
 obtain ⟨rfl, rfl⟩ : b0 = b1 ∧ o0 = o1 := by simpa using e1
 obtain ⟨_, _, _, g1, ex1, hr1, -⟩ := q1r.1 HS0.out
 obtain ⟨q1, q2, q3⟩ := Value.slice.inj (List.cons.inj (List.cons.inj ex1).2).1
 subst q1 q2 q3
 obtain ⟨_, _, _, g2, ex2, hr2, -⟩ := q1r.1 HS1.out
 obtain ⟨q1, q2, q3⟩ := Value.slice.inj (List.cons.inj (List.cons.inj ex2).2).1
 subst q1 q2 q3
 have Y1 := hid hr1.1; have Y2 := hid hr2.1
 have HI0 := hid HT0.out.1; have HI1 := hid HT1.out.1
 have HC : Hid (Chg [] w w) := Chg.refl _ _
 have HKt := hid (show w.cell? ⟨b0, o0 + 0 * 2 + 1, none⟩ = some (.slice a1 l1 c1) from hk01); have HLt := hid (show b0 < w.heap.size from Lay.sl_lt _ H12.out _ HT0.out.2.1)
 obtain ⟨kt, jt⟩ := ck HC HKt HLt
 have HKu := hid (show w.cell? ⟨b0, o0 + 1 * 2 + 1, none⟩ = some (.slice a2 l2 c2) from hk11); have HLu := hid (show b0 < w.heap.size from Lay.sl_lt _ H12.out _ HT1.out.2.1)
 obtain ⟨ku, ju⟩ := ck HC HKu HLu
 have hla : 0 < l12 := by omega
 have hlb : 1 < l12 := by omega
 have hlc : (1 : Int) < (l12 : Int) := by omega
 clear hk00 hk01 hk10 hk11 HT0 HT1 HS0 HS1 ex1 ex2 hr1 hr2 e1 hl2
 rw [hd] at HX ⊢
 clear h1 h2 h3 h4 h5 h6 hd
 have hm2 := fun h => hm ((q5r H6.out).2 h)
 have hmc1 : ¬ 200 < l1 := fun h => hm2 (.inl ⟨t0, HI0.out, by rw [← Y1.out]; exact h⟩)
 have hmc2 : ¬ 200 < l2 := fun h => hm2 (.inr ⟨t1, HI1.out, by rw [← Y2.out]; exact h⟩)
 have hmd1 : decide ((200 : Int) < (l1 : Int)) = false := by simp; omega
 have hmd2 : decide ((200 : Int) < (l2 : Int)) = false := by simp; omega
 have HT2 := hid (show x.tapF = if q2v x.sH x.tapes = 0 then (if pb (∃ t ∈ x.tapes, t.wiped = true ∧ t.recs ≠ []) = true then 1 else 0) else q2v x.sH x.tapes by unfold Wld.tapF; rw [q0f hm]; rfl)
 clear hm hm2
 go_enter Tryz.func47, Tryz.ntmps47
 go_wp2_with fail
 refine (q0n x.sH _).mono ?_
 rintro e w1 ⟨rfl, hc⟩
 rw [HF.out]
 obtain ⟨cW, lW, HBW⟩ := bk hc (b := w.heap.size) (q0e (by simp) _) (by simp)
 have h := Chg.trans0 (Chg.alloc HC.out _) hc; clear HC; have HC := hid h; clear h
 clear hc
 clear kt jt; obtain ⟨kt, jt⟩ := ck HC HKt HLt
 clear ku ju; obtain ⟨ku, ju⟩ := ck HC HKu HLu
 go_wp2_with fail
 obtain ⟨SS1, HSI1, HSO1⟩ := q0j (fun w' => Know (w.heap.size) #[.int .i64 x.sH.gS, .int .i64 x.sH.cM, .int .i64 x.sH.data, .int .i64 x.sH.spare, .int .i64 x.sH.rows, .int .i64 x.sH.cap, .int .i64 x.sH.bT, .int .i64 x.sH.qU, .int .i64 x.sH.sG, .slice a10 l10 c10, .slice a11 l11 c11, .slice (some ⟨b0, o0, none⟩) l12 c12, .int .i64 x.wT, .int .i64 x.stop, .bool false] w')
 have hS0 := HSI1.out (w1.drew) (Know.of (by refine q0a ?_; exact HBW.out))
 refine q0k SS1 (by kernel_rfl) hS0 ?_
 refine rgL 0 hS0 HSO1 ?_
 refine q0d 1 rfl (by kernel_rfl) (fun K hK => ?_)
 go_simp
 go_at_call 117
 refine (q1v x HS.out #[.int .i64 x.sH.gS, .int .i64 x.sH.cM, .int .i64 x.sH.data, .int .i64 x.sH.spare, .int .i64 x.sH.rows, .int .i64 x.sH.cap, .int .i64 x.sH.bT, .int .i64 x.sH.qU, .int .i64 x.sH.sG, .slice a10 l10 c10, .slice a11 l11 c11, .slice (some ⟨b0, o0, none⟩) l12 c12, .int .i64 x.wT, .int .i64 x.stop, .bool false] fx _ (Lay.ext wldL HX.out (Chg.drew HC.out))).mono ?_
 rintro e w2 ⟨rfl, hc⟩
 rw [HB.out]
 have h := bk hc (q0a HBW.out) (by simp); clear HBW cW lW; obtain ⟨cW, lW, HBW⟩ := h
 have h := Chg.trans0 (Chg.drew HC.out) hc; clear HC; have HC := hid h; clear h
 clear hc
 clear kt jt; obtain ⟨kt, jt⟩ := ck HC HKt HLt
 clear ku ju; obtain ⟨ku, ju⟩ := ck HC HKu HLu
 go_wp2_with fail
 refine hK.out _ _ (HSI1.out _ cW) (fun hS1 => ?_)
 clear hK K
 try simp only [Act.put, pA, pB, pC]
 refine rgT 2 hS1 ?_
 refine rgT 3 hS1 ?_
 refine rgT 4 hS1 ?_
 refine rgL 5 hS1 HSO1 ?_
 refine rgT 6 hS1 ?_
 refine rgL 7 hS1 HSO1 ?_
 refine q0d 8 rfl (by kernel_rfl) (fun K hK => ?_)
 go_simp
 go_at_call 100
 refine (q0r x.sH HS.out _).mono ?_
 rintro e w3 ⟨rfl, hc⟩
 have h := bk0 hc HBW.out; clear HBW cW lW; obtain ⟨cW, lW, HBW⟩ := h
 replace HC := hct HC hc
 clear hc
 clear kt jt; obtain ⟨kt, jt⟩ := ck HC HKt HLt
 clear ku ju; obtain ⟨ku, ju⟩ := ck HC HKu HLu
 go_wp2_with fail
 refine hK.out _ _ (HSI1.out _ cW) (fun hS2 => ?_)
 clear hK K
 try simp only [Act.put, pA, pB, pC]
 refine rgT 9 hS2 ?_
 refine q0d 10 rfl (by kernel_rfl) (fun K hK => ?_)
 go_simp
 go_at_call 118
 refine (q3s a11 l11 c11 x.on f11 (x.sH.all - 1) _ (Lay.sl_ext intL H11.out HC.out)).mono ?_
 rintro e w4 ⟨rfl, hc⟩
 rw [HA.out]
 have h := bk0 hc HBW.out; clear HBW cW lW; obtain ⟨cW, lW, HBW⟩ := h
 replace HC := hct HC hc
 clear hc
 clear kt jt; obtain ⟨kt, jt⟩ := ck HC HKt HLt
 clear ku ju; obtain ⟨ku, ju⟩ := ck HC HKu HLu
 go_wp2_with fail
 refine hK.out _ _ (HSI1.out _ cW) (fun hS3 => ?_)
 clear hK K
 try simp only [Act.put, pA, pB, pC]
 refine rgT 11 hS3 ?_
 refine rgT 12 hS3 ?_
 refine rgT 13 hS3 ?_
 refine rgT 14 hS3 ?_
 refine rgL 15 hS3 HSO1 ?_
 refine rgT 16 hS3 ?_
 refine rgT 17 hS3 ?_
 refine rgT 18 hS3 ?_
 refine rgL 19 hS3 HSO1 ?_
 refine rgT 20 hS3 ?_
 refine rgT 21 hS3 ?_
 refine rgT 22 hS3 ?_
 refine rgT 23 hS3 ?_
 refine rgL 24 hS3 HSO1 ?_
 refine rgT 25 hS3 ?_
 refine rgS 26 hS3 ?_
 refine rgS 27 hS3 ?_
 refine rgS 28 hS3 ?_
 refine rgS 29 hS3 ?_
 refine rgT 30 hS3 ?_
 refine rgT 31 hS3 ?_
 refine rgT 32 hS3 ?_
 refine rgT 33 hS3 ?_
 refine rgL 34 hS3 HSO1 ?_
 refine rgT 35 hS3 ?_
 refine rgT 36 hS3 ?_
 refine rgT 37 hS3 ?_
 refine wpAnyH_done (by kernel_rfl) ?_ _
 go_wp2_with fail
 go_loopw [4] (fun i wr => ∃ (k : Nat) (Wr : World), Wr = wr ∧ k ≤ 2 ∧ i = .int .i64 k ∧ Hid (∀ (j : Nat) t, j < k → x.tapes[j]? = some t → q2r x.sH t.recs = 0) ∧ Chg [] w wr ∧ wr.heap[w.heap.size]? = some (.cells #[.int .i64 x.sH.gS, .int .i64 x.sH.cM, .int .i64 x.sH.data, .int .i64 x.sH.spare, .int .i64 x.sH.rows, .int .i64 x.sH.cap, .int .i64 x.sH.bT, .int .i64 x.sH.qU, .int .i64 x.sH.sG, .slice a10 l10 c10, .slice a11 l11 c11, .slice (some ⟨b0, o0, none⟩) l12 c12, .int .i64 x.wT, .int .i64 x.stop, .bool false] 34 (0, 0))) (fun i _ => 2 - (intOf i).toNat)
 case atStart => exact ⟨0, _, rfl, by omega, rfl, hid (fun j y hj => by omega), HC.out, HBW.out⟩
 case round =>
  clear kt jt ku ju
  clear HBW cW lW
  clear HC
  obtain ⟨k, w5, rfl, hk, rfl, HPk, hc, hbW⟩ := hrel
  have cW := cellsOf hbW; have lW := ltOf hbW; have HBW := hid hbW; clear hbW
  have HC := hid hc; clear hc
  obtain ⟨kt, jt⟩ := ck HC HKt HLt
  obtain ⟨ku, ju⟩ := ck HC HKu HLu
  clear kt jt HKt HLt ku ju HKu HLu
  by_cases hlt : k < 2
  rotate_left
  ·obtain rfl : k = 2 := by omega
   have HTF := hid (show q2v x.sH x.tapes = 0 from q4a (fun i q hq => HPk.out i q (by have := (List.getElem?_eq_some_iff.1 hq).1; have := H6.out; omega) hq))
   clear hlt hk
   go_wp2_with fail
   go_loopw [7] (fun i wr => ∃ (p : Nat) (Wr : World), Wr = wr ∧ p ≤ 2 ∧ i = .int .i64 p ∧ Hid (∀ (j : Nat) t, j < p → x.tapes[j]? = some t → ¬ (t.wiped = true ∧ t.recs ≠ [])) ∧ Chg [] w wr ∧ wr.heap[w.heap.size]? = some (.cells #[.int .i64 x.sH.gS, .int .i64 x.sH.cM, .int .i64 x.sH.data, .int .i64 x.sH.spare, .int .i64 x.sH.rows, .int .i64 x.sH.cap, .int .i64 x.sH.bT, .int .i64 x.sH.qU, .int .i64 x.sH.sG, .slice a10 l10 c10, .slice a11 l11 c11, .slice (some ⟨b0, o0, none⟩) l12 c12, .int .i64 x.wT, .int .i64 x.stop, .bool false] 34 (0, 0))) (fun i _ => 2 - (intOf i).toNat)
   case atStart => exact ⟨0, _, rfl, by omega, rfl, hid (fun j y hj => by omega), HC.out, HBW.out⟩
   case round =>
    clear HBW cW lW
    clear HC
    obtain ⟨p, w6, rfl, hp, rfl, HPp, hc, hbW⟩ := hrel
    have cW := cellsOf hbW; have lW := ltOf hbW; have HBW := hid hbW; clear hbW
    have HC := hid hc; clear hc
    by_cases hlt : p < 2
    rotate_left
    ·obtain rfl : p = 2 := by omega
     clear hlt hp
     have HTP := hid (show x.tapF = 0 by
      rw [HT2.out, if_pos HTF.out, q0f (fun h => by
       obtain ⟨t, ht, h⟩ := h
       obtain ⟨i, hi, rfl⟩ := List.getElem_of_mem ht
       exact HPp.out i _ (by have := H6.out; omega) (List.getElem?_eq_getElem hi) h)]
      rfl)
     have HN := hid (show x.fault = if pb x.nums = true then 0 else 3 by rw [HT.out, if_pos HTP.out])
     by_cases h7 : 0 ≤ x.wT ∧ x.wT ≤ 1000000000
     rotate_left
     ·have HR := hid (show x.fault = 3 by rw [HN.out, q0f (fun h => h7 h.1)]; rfl)
      have hi7 := q1t h7
      clear h7
      go_wp2_with fail
      refine (q0w x.wT 0 1000000000 _).mono ?_
      rintro e w7 ⟨rfl, hc⟩
      rw [hi7]
      have h := bk0 hc HBW.out; clear HBW cW lW; obtain ⟨cW, lW, HBW⟩ := h
      replace HC := hct HC hc
      clear hc
      go_wp2_with fail
      go_ret
      exact ⟨q0i HR.out.symm, HC.out⟩
     have hi7 := q1m h7.1 h7.2
     have HI7 := hid h7
     clear h7
     by_cases h8 : -1 ≤ x.stop ∧ x.stop ≤ 1000000000
     rotate_left
     ·have HR := hid (show x.fault = 3 by rw [HN.out, q0f (fun h => h8 h.2)]; rfl)
      have hi8 := q1t h8
      clear h8
      go_wp2_with fail
      refine (q0w x.wT 0 1000000000 _).mono ?_
      rintro e w7 ⟨rfl, hc⟩
      rw [hi7]
      have h := bk0 hc HBW.out; clear HBW cW lW; obtain ⟨cW, lW, HBW⟩ := h
      replace HC := hct HC hc
      clear hc
      go_wp2_with fail
      refine (q0w x.stop (-1) 1000000000 _).mono ?_
      rintro e w8 ⟨rfl, hc⟩
      rw [hi8]
      have h := bk0 hc HBW.out; clear HBW cW lW; obtain ⟨cW, lW, HBW⟩ := h
      replace HC := hct HC hc
      clear hc
      go_wp2_with fail
      go_ret
      exact ⟨q0i HR.out.symm, HC.out⟩
     have HR := hid (show x.fault = 0 by rw [HN.out, q0g ⟨HI7.out, h8⟩]; rfl)
     have hi8 := q1m h8.1 h8.2
     clear h8
     go_wp2_with fail
     refine (q0w x.wT 0 1000000000 _).mono ?_
     rintro e w7 ⟨rfl, hc⟩
     rw [hi7]
     have h := bk0 hc HBW.out; clear HBW cW lW; obtain ⟨cW, lW, HBW⟩ := h
     replace HC := hct HC hc
     clear hc
     go_wp2_with fail
     refine (q0w x.stop (-1) 1000000000 _).mono ?_
     rintro e w8 ⟨rfl, hc⟩
     rw [hi8]
     have h := bk0 hc HBW.out; clear HBW cW lW; obtain ⟨cW, lW, HBW⟩ := h
     replace HC := hct HC hc
     clear hc
     go_wp2_with fail
     go_ret
     exact ⟨q0i HR.out.symm, HC.out⟩
    obtain ⟨t, b', o', a3, l3, c3, f3, HTA, e', hw0, hw1, HTS⟩ := q2q H12.out (show p < l12 by have := Z12.out; have := H6.out; omega)
    obtain ⟨rfl, rfl⟩ : b0 = b' ∧ o0 = o' := by simpa using e'
    obtain ⟨_, _, _, gb, exb, hbl, -⟩ := q1r.1 HTS.out
    obtain ⟨q1, q2, q3⟩ := Value.slice.inj (List.cons.inj (List.cons.inj exb).2).1
    subst q1 q2 q3
    have ZB := hid hbl.1
    have hm3 := recL.sl_max hbl
    have HTI := hid HTA.out.1
    have HKv := hid (show w.cell? ⟨b0, o0 + p * 2, none⟩ = some (.bool t.wiped) from hw0); have HLv := hid (show b0 < w.heap.size from Lay.sl_lt _ H12.out _ HTA.out.2.1)
    obtain ⟨kv, jv⟩ := ck HC HKv HLv
    have HKx := hid (show w.cell? ⟨b0, o0 + p * 2 + 1, none⟩ = some (.slice a3 l3 c3) from hw1); have HLx := hid (show b0 < w.heap.size from Lay.sl_lt _ H12.out _ HTA.out.2.1)
    obtain ⟨kx, jx⟩ := ck HC HKx HLx
    clear e' hw0 hw1 exb hbl HTA HTS
    have hl12 : p < l12 := by have := Z12.out; have := H6.out; omega
    cases hwp : t.wiped
    ·rw [hwp] at kv
     have HP2 := hid (show ∀ (j : Nat) z, j < p + 1 → x.tapes[j]? = some z → ¬ (z.wiped = true ∧ z.recs ≠ []) from fun j z hj hz => by
      by_cases e : j = p
      ·subst e; rw [Option.some.inj (hz.symm.trans HTI.out)]; rw [hwp]; simp
      ·exact HPp.out j z (by omega) hz)
     clear hwp
     go_wp2_with fail
     go_roundw
     case rel => exact ⟨p + 1, _, rfl, by omega, by go_num, HP2, HC.out, HBW.out⟩
     case measure => simp [intOf]; omega
    ·rw [hwp] at kv
     by_cases hl3 : 0 < l3
     ·have HR := hid (show x.fault = 1 by
       have h : x.tapF = 1 := by rw [HT2.out, if_pos HTF.out, q0g ⟨t, List.mem_of_getElem? HTI.out, hwp, List.length_pos_iff.1 (by rw [← ZB.out]; exact hl3)⟩]; rfl
       rw [HT.out, h]; rfl)
      clear hwp
      go_wp2_with fail
      go_ret
      exact ⟨q0i HR.out.symm, HC.out⟩
     ·have HP2 := hid (show ∀ (j : Nat) z, j < p + 1 → x.tapes[j]? = some z → ¬ (z.wiped = true ∧ z.recs ≠ []) from fun j z hj hz => by
       by_cases e : j = p
       ·subst e; rw [Option.some.inj (hz.symm.trans HTI.out)]; intro h; exact h.2 (List.eq_nil_of_length_eq_zero (by rw [← ZB.out]; omega))
       ·exact HPp.out j z (by omega) hz)
      clear hwp
      go_wp2_with fail
      go_roundw
      case rel => exact ⟨p + 1, _, rfl, by omega, by go_num, HP2, HC.out, HBW.out⟩
      case measure => simp [intOf]; omega
  obtain ⟨t, b', o', a3, l3, c3, f3, HTA, e', hw0, hw1, HTS⟩ := q2q H12.out (show k < l12 by have := Z12.out; have := H6.out; omega)
  obtain ⟨rfl, rfl⟩ : b0 = b' ∧ o0 = o' := by simpa using e'
  obtain ⟨_, _, _, gb, exb, hbl, -⟩ := q1r.1 HTS.out
  obtain ⟨q1, q2, q3⟩ := Value.slice.inj (List.cons.inj (List.cons.inj exb).2).1
  subst q1 q2 q3
  have ZB := hid hbl.1
  have hm3 := recL.sl_max hbl
  have HTI := hid HTA.out.1
  have HBL := hid hbl
  have hl12 : k < l12 := by have := Z12.out; have := H6.out; omega
  have hkd : decide ((k : Int) < 2) = true := by simp; omega
  have HKx := hid (show w.cell? ⟨b0, o0 + k * 2 + 1, none⟩ = some (.slice a3 l3 c3) from hw1); have HLx := hid (show b0 < w.heap.size from Lay.sl_lt _ H12.out _ HTA.out.2.1)
  obtain ⟨kx, jx⟩ := ck HC HKx HLx
  clear e' hw0 hw1 exb hbl HTA HTS
  go_wp2_with fail
  go_loopw [5] (fun i wr => ∃ (m : Nat) (Wr : World), Wr = wr ∧ m ≤ l3 ∧ i = .int .i64 m ∧ Hid (∀ (j : Nat) q, j < m → t.recs[j]? = some q → recV x.sH q = 0) ∧ Chg [] w wr ∧ wr.heap[w.heap.size]? = some (.cells #[.int .i64 x.sH.gS, .int .i64 x.sH.cM, .int .i64 x.sH.data, .int .i64 x.sH.spare, .int .i64 x.sH.rows, .int .i64 x.sH.cap, .int .i64 x.sH.bT, .int .i64 x.sH.qU, .int .i64 x.sH.sG, .slice a10 l10 c10, .slice a11 l11 c11, .slice (some ⟨b0, o0, none⟩) l12 c12, .int .i64 x.wT, .int .i64 x.stop, .bool false] 34 (0, 0))) (fun i _ => l3 - (intOf i).toNat)
  case atStart => exact ⟨0, _, rfl, by omega, rfl, hid (fun j y hj => by omega), HC.out, HBW.out⟩
  case round =>
   clear kx jx
   clear HBW cW lW
   clear HC
   obtain ⟨m, w6, rfl, hm, rfl, HPm, hc, hbW⟩ := hrel
   have cW := cellsOf hbW; have lW := ltOf hbW; have HBW := hid hbW; clear hbW
   have HC := hid hc; clear hc
   obtain ⟨kx, jx⟩ := ck HC HKx HLx
   by_cases hlt2 : m < l3
   rotate_left
   ·obtain rfl : m = l3 := by omega
    have HRF := hid (show q2r x.sH t.recs = 0 from q4c (fun i q hq => HPm.out i q (by rw [ZB.out]; exact (List.getElem?_eq_some_iff.1 hq).1) hq))
    have HP2 := hid (show ∀ (j : Nat) z, j < k + 1 → x.tapes[j]? = some z → q2r x.sH z.recs = 0 from fun j z hj hz => by
     by_cases e : j = k
     ·subst e; rw [Option.some.inj (hz.symm.trans HTI.out)]; exact HRF.out
     ·exact HPk.out j z (by omega) hz)
    go_wp2_with fail
    go_roundw
    case rel => exact ⟨k + 1, _, rfl, by omega, by go_num, HP2, HC.out, HBW.out⟩
    case measure => simp [intOf]; omega
   obtain ⟨q, br, or, a6, l6, c6, a7, l7, c7, a8, l8, c8, fq, HQA, eq3, hq0, hq1, hq2, hq3, hq4, hq5, hq6, hq7, hq8, HQS⟩ := q7e HBL.out hlt2
   subst eq3
   have HQI := hid HQA.out.1
   have HQ := hid HQS.out
   have HLQ := hid (Lay.sl_lt _ HBL.out _ HQA.out.2.1)
   clear HQA HQS
   have HKr0 := hid (show w.cell? ⟨br, or + m * 9, none⟩ = some (.int .i64 q.kind) from hq0); have HLr0 := hid (show br < w.heap.size from HLQ.out)
   obtain ⟨kr0, jr0⟩ := ck HC HKr0 HLr0
   have HKr1 := hid (show w.cell? ⟨br, or + m * 9 + 1, none⟩ = some (.int .i64 q.seq) from hq1); have HLr1 := hid (show br < w.heap.size from HLQ.out)
   obtain ⟨kr1, jr1⟩ := ck HC HKr1 HLr1
   have HKr2 := hid (show w.cell? ⟨br, or + m * 9 + 2, none⟩ = some (.string q.name) from hq2); have HLr2 := hid (show br < w.heap.size from HLQ.out)
   obtain ⟨kr2, jr2⟩ := ck HC HKr2 HLr2
   have HKr3 := hid (show w.cell? ⟨br, or + m * 9 + 3, none⟩ = some (.int .i64 q.length) from hq3); have HLr3 := hid (show br < w.heap.size from HLQ.out)
   obtain ⟨kr3, jr3⟩ := ck HC HKr3 HLr3
   have HKr4 := hid (show w.cell? ⟨br, or + m * 9 + 4, none⟩ = some (.int .i64 q.group) from hq4); have HLr4 := hid (show br < w.heap.size from HLQ.out)
   obtain ⟨kr4, jr4⟩ := ck HC HKr4 HLr4
   have HKr5 := hid (show w.cell? ⟨br, or + m * 9 + 5, none⟩ = some (.int .i64 q.row) from hq5); have HLr5 := hid (show br < w.heap.size from HLQ.out)
   obtain ⟨kr5, jr5⟩ := ck HC HKr5 HLr5
   have HKr6 := hid (show w.cell? ⟨br, or + m * 9 + 6, none⟩ = some (.slice a6 l6 c6) from hq6); have HLr6 := hid (show br < w.heap.size from HLQ.out)
   obtain ⟨kr6, jr6⟩ := ck HC HKr6 HLr6
   have HKr7 := hid (show w.cell? ⟨br, or + m * 9 + 7, none⟩ = some (.slice a7 l7 c7) from hq7); have HLr7 := hid (show br < w.heap.size from HLQ.out)
   obtain ⟨kr7, jr7⟩ := ck HC HKr7 HLr7
   have HKr8 := hid (show w.cell? ⟨br, or + m * 9 + 8, none⟩ = some (.slice a8 l8 c8) from hq8); have HLr8 := hid (show br < w.heap.size from HLQ.out)
   obtain ⟨kr8, jr8⟩ := ck HC HKr8 HLr8
   clear hq0 hq1 hq2 hq3 hq4 hq5 hq6 hq7 hq8
   obtain ⟨u, hu⟩ : ∃ u, u = recV x.sH q := ⟨_, rfl⟩
   have HU := hid hu.symm
   by_cases h0 : u = 0
   ·subst h0
    have HP2 := hid (show ∀ (j : Nat) z, j < m + 1 → t.recs[j]? = some z → recV x.sH z = 0 from fun j z hj hz => by
     by_cases e : j = m
     ·subst e; rw [Option.some.inj (hz.symm.trans HQI.out)]; exact HU.out
     ·exact HPm.out j z (by omega) hz)
    clear hu
    go_wp2_with fail
    clear kx jx kr0 jr0 kr1 jr1 kr2 jr2 kr3 jr3 kr4 jr4 kr5 jr5 kr6 jr6 kr7 jr7 kr8 jr8
    obtain ⟨SS2, HSI2, HSO2⟩ := q0j (fun w' => Know (w.heap.size) #[.int .i64 x.sH.gS, .int .i64 x.sH.cM, .int .i64 x.sH.data, .int .i64 x.sH.spare, .int .i64 x.sH.rows, .int .i64 x.sH.cap, .int .i64 x.sH.bT, .int .i64 x.sH.qU, .int .i64 x.sH.sG, .slice a10 l10 c10, .slice a11 l11 c11, .slice (some ⟨b0, o0, none⟩) l12 c12, .int .i64 x.wT, .int .i64 x.stop, .bool false] w' ∧ w'.cell? ⟨b0, o0 + k * 2 + 1, none⟩ = some (.slice (some ⟨br, or, none⟩) l3 c3) ∧ w'.cell? ⟨br, or + m * 9, none⟩ = some (.int .i64 q.kind) ∧ w'.cell? ⟨br, or + m * 9 + 1, none⟩ = some (.int .i64 q.seq) ∧ w'.cell? ⟨br, or + m * 9 + 2, none⟩ = some (.string q.name) ∧ w'.cell? ⟨br, or + m * 9 + 3, none⟩ = some (.int .i64 q.length) ∧ w'.cell? ⟨br, or + m * 9 + 4, none⟩ = some (.int .i64 q.group) ∧ w'.cell? ⟨br, or + m * 9 + 5, none⟩ = some (.int .i64 q.row) ∧ w'.cell? ⟨br, or + m * 9 + 6, none⟩ = some (.slice a6 l6 c6) ∧ w'.cell? ⟨br, or + m * 9 + 7, none⟩ = some (.slice a7 l7 c7) ∧ w'.cell? ⟨br, or + m * 9 + 8, none⟩ = some (.slice a8 l8 c8))
    have hS0 := HSI2.out (w6.drew) ⟨(Know.of (by refine q0a ?_; exact HBW.out)), (q0h (Chg.drew HC.out) HKx.out HLx.out), (q0h (Chg.drew HC.out) HKr0.out HLr0.out), (q0h (Chg.drew HC.out) HKr1.out HLr1.out), (q0h (Chg.drew HC.out) HKr2.out HLr2.out), (q0h (Chg.drew HC.out) HKr3.out HLr3.out), (q0h (Chg.drew HC.out) HKr4.out HLr4.out), (q0h (Chg.drew HC.out) HKr5.out HLr5.out), (q0h (Chg.drew HC.out) HKr6.out HLr6.out), (q0h (Chg.drew HC.out) HKr7.out HLr7.out), (q0h (Chg.drew HC.out) HKr8.out HLr8.out)⟩
    refine q0k SS2 (by kernel_rfl) hS0 ?_
    refine rgT 0 hS0 ?_
    refine rgL 1 hS0 HSO2 ?_
    refine rgT 2 hS0 ?_
    refine rgL 3 hS0 HSO2 ?_
    refine rgT 4 hS0 ?_
    refine rgT 5 hS0 ?_
    refine rgT 6 hS0 ?_
    refine rgL 7 hS0 HSO2 ?_
    refine rgT 8 hS0 ?_
    refine rgT 9 hS0 ?_
    refine rgL 10 hS0 HSO2 ?_
    refine q0d 11 rfl (by kernel_rfl) (fun K hK => ?_)
    go_simp
    go_at_call 119
    refine (q5w x.sH HS.out q #[.int .i64 q.kind, .int .i64 q.seq, .string q.name, .int .i64 q.length, .int .i64 q.group, .int .i64 q.row, .slice a6 l6 c6, .slice a7 l7 c7, .slice a8 l8 c8] fq _ (Lay.ext recL HQ.out (Chg.drew HC.out))).mono ?_
    rintro e w7 ⟨rfl, hc⟩
    rw [HU.out]
    have h := bk hc (q0a HBW.out) (by simp); clear HBW cW lW; obtain ⟨cW, lW, HBW⟩ := h
    have h := Chg.trans0 (Chg.drew HC.out) hc; clear HC; have HC := hid h; clear h
    clear hc
    go_wp2_with fail
    refine hK.out _ _ (HSI2.out _ ⟨cW, (q0h HC.out HKx.out HLx.out), (q0h HC.out HKr0.out HLr0.out), (q0h HC.out HKr1.out HLr1.out), (q0h HC.out HKr2.out HLr2.out), (q0h HC.out HKr3.out HLr3.out), (q0h HC.out HKr4.out HLr4.out), (q0h HC.out HKr5.out HLr5.out), (q0h HC.out HKr6.out HLr6.out), (q0h HC.out HKr7.out HLr7.out), (q0h HC.out HKr8.out HLr8.out)⟩) (fun hS1 => ?_)
    clear hK K
    try simp only [Act.put, pA, pB, pC]
    refine rgT 12 hS1 ?_
    refine wpAnyH_done (by kernel_rfl) ?_ _
    go_wp2_with fail
    go_roundw
    case rel => exact ⟨m + 1, _, rfl, by omega, by go_num, HP2, HC.out, HBW.out⟩
    case measure => simp [intOf]; omega
   ·have HR := hid (show x.fault = u by
     have h1 : q2r x.sH t.recs = u := by rw [q5c (k := m) HPm.out HQI.out (by rw [HU.out]; exact h0), HU.out]
     have h2 : q2v x.sH x.tapes = u := by rw [q5a (k := k) HPk.out HTI.out (by rw [h1]; exact h0), h1]
     have h3 : x.tapF = u := by rw [HT2.out, h2, if_neg h0]
     rw [HT.out, h3, if_neg h0])
    have eu : (u != 0) = true := by simp; exact h0
    clear hu h0
    go_wp2_with fail
    clear kx jx kr0 jr0 kr1 jr1 kr2 jr2 kr3 jr3 kr4 jr4 kr5 jr5 kr6 jr6 kr7 jr7 kr8 jr8
    obtain ⟨SS2, HSI2, HSO2⟩ := q0j (fun w' => Know (w.heap.size) #[.int .i64 x.sH.gS, .int .i64 x.sH.cM, .int .i64 x.sH.data, .int .i64 x.sH.spare, .int .i64 x.sH.rows, .int .i64 x.sH.cap, .int .i64 x.sH.bT, .int .i64 x.sH.qU, .int .i64 x.sH.sG, .slice a10 l10 c10, .slice a11 l11 c11, .slice (some ⟨b0, o0, none⟩) l12 c12, .int .i64 x.wT, .int .i64 x.stop, .bool false] w' ∧ w'.cell? ⟨b0, o0 + k * 2 + 1, none⟩ = some (.slice (some ⟨br, or, none⟩) l3 c3) ∧ w'.cell? ⟨br, or + m * 9, none⟩ = some (.int .i64 q.kind) ∧ w'.cell? ⟨br, or + m * 9 + 1, none⟩ = some (.int .i64 q.seq) ∧ w'.cell? ⟨br, or + m * 9 + 2, none⟩ = some (.string q.name) ∧ w'.cell? ⟨br, or + m * 9 + 3, none⟩ = some (.int .i64 q.length) ∧ w'.cell? ⟨br, or + m * 9 + 4, none⟩ = some (.int .i64 q.group) ∧ w'.cell? ⟨br, or + m * 9 + 5, none⟩ = some (.int .i64 q.row) ∧ w'.cell? ⟨br, or + m * 9 + 6, none⟩ = some (.slice a6 l6 c6) ∧ w'.cell? ⟨br, or + m * 9 + 7, none⟩ = some (.slice a7 l7 c7) ∧ w'.cell? ⟨br, or + m * 9 + 8, none⟩ = some (.slice a8 l8 c8))
    have hS0 := HSI2.out (w6.drew) ⟨(Know.of (by refine q0a ?_; exact HBW.out)), (q0h (Chg.drew HC.out) HKx.out HLx.out), (q0h (Chg.drew HC.out) HKr0.out HLr0.out), (q0h (Chg.drew HC.out) HKr1.out HLr1.out), (q0h (Chg.drew HC.out) HKr2.out HLr2.out), (q0h (Chg.drew HC.out) HKr3.out HLr3.out), (q0h (Chg.drew HC.out) HKr4.out HLr4.out), (q0h (Chg.drew HC.out) HKr5.out HLr5.out), (q0h (Chg.drew HC.out) HKr6.out HLr6.out), (q0h (Chg.drew HC.out) HKr7.out HLr7.out), (q0h (Chg.drew HC.out) HKr8.out HLr8.out)⟩
    refine q0k SS2 (by kernel_rfl) hS0 ?_
    refine rgT 0 hS0 ?_
    refine rgL 1 hS0 HSO2 ?_
    refine rgT 2 hS0 ?_
    refine rgL 3 hS0 HSO2 ?_
    refine rgT 4 hS0 ?_
    refine rgT 5 hS0 ?_
    refine rgT 6 hS0 ?_
    refine rgL 7 hS0 HSO2 ?_
    refine rgT 8 hS0 ?_
    refine rgT 9 hS0 ?_
    refine rgL 10 hS0 HSO2 ?_
    refine q0d 11 rfl (by kernel_rfl) (fun K hK => ?_)
    go_simp
    go_at_call 119
    refine (q5w x.sH HS.out q #[.int .i64 q.kind, .int .i64 q.seq, .string q.name, .int .i64 q.length, .int .i64 q.group, .int .i64 q.row, .slice a6 l6 c6, .slice a7 l7 c7, .slice a8 l8 c8] fq _ (Lay.ext recL HQ.out (Chg.drew HC.out))).mono ?_
    rintro e w7 ⟨rfl, hc⟩
    rw [HU.out]
    have h := bk hc (q0a HBW.out) (by simp); clear HBW cW lW; obtain ⟨cW, lW, HBW⟩ := h
    have h := Chg.trans0 (Chg.drew HC.out) hc; clear HC; have HC := hid h; clear h
    clear hc
    go_wp2_with fail
    refine hK.out _ _ (HSI2.out _ ⟨cW, (q0h HC.out HKx.out HLx.out), (q0h HC.out HKr0.out HLr0.out), (q0h HC.out HKr1.out HLr1.out), (q0h HC.out HKr2.out HLr2.out), (q0h HC.out HKr3.out HLr3.out), (q0h HC.out HKr4.out HLr4.out), (q0h HC.out HKr5.out HLr5.out), (q0h HC.out HKr6.out HLr6.out), (q0h HC.out HKr7.out HLr7.out), (q0h HC.out HKr8.out HLr8.out)⟩) (fun hS1 => ?_)
    clear hK K
    try simp only [Act.put, pA, pB, pC]
    refine rgT 12 hS1 ?_
    refine wpAnyH_done (by kernel_rfl) ?_ _
    go_wp2_with fail
    go_ret
    exact ⟨q0i HR.out.symm, HC.out⟩
theorem q4u (x : Wld) (cx : Array Value) (fx : List Nat) (w : World) (hx : wldL.rep w cx.toList x fx) :
  Calls Tryz.prog 47 #[.agg cx] w fun e w' => e = .returned (.int .i64 x.fault) ∧ Chg [] w w' := by
 by_cases h1 : x.sH.ok
 rotate_left
 ·exact spec_wf0 x cx fx w hx h1
 by_cases h2 : x.built
 rotate_left
 ·exact spec_wf1 x cx fx w hx h1 h2
 by_cases h3 : q2o (x.sH.all - 1) x.on
 rotate_left
 ·exact spec_wf2 x cx fx w hx h1 h2 h3
 by_cases h4 : (x.on.length : Int) ≤ x.sH.cap
 rotate_left
 ·exact spec_wf3 x cx fx w hx h1 h2 h3 h4
 by_cases h5 : x.on = [] ∨ x.down = false
 rotate_left
 ·exact spec_wf4 x cx fx w hx h1 h2 h3 h4 h5
 by_cases h6 : x.tapes.length = 2
 ·by_cases hm : ∃ t ∈ x.tapes, 200 < t.recs.length
  ·cases hd : x.down
   ·exact spec_wfmu x cx fx w hx h1 h2 h3 h4 h5 h6 hd hm
   ·exact spec_wfmd x cx fx w hx h1 h2 h3 h4 h5 h6 hd hm
  ·cases hd : x.down
   ·exact spec_wftu x cx fx w hx h1 h2 h3 h4 h5 h6 hd hm
   ·exact spec_wftd x cx fx w hx h1 h2 h3 h4 h5 h6 hd hm
 ·cases hd : x.down
  ·exact spec_wf6 x cx fx w hx h1 h2 h3 h4 h5 h6 hd
  ·exact spec_wf5 x cx fx w hx h1 h2 h3 h4 h5 h6 hd
end Go.Proofs.YtphmpimgbmedbaaGreat
