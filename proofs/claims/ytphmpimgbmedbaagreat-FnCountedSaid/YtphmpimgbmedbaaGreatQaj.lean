/- Several texts in one. -/
import Derived.Test.YtphmpimgbmedbaaGreatQai
import Derived.Test.YtphmpimgbmedbaaGreatQah
import Derived.Test.YtphmpimgbmedbaaGreatQae
set_option maxRecDepth 100000
set_option maxHeartbeats 8000000
namespace Go.Proofs.YtphmpimgbmedbaaGreat
open Go.RowKit
open Go.Lib (hid)
theorem sameV_pb {α : Type} (x y : α) : q2m x y = pb (x = y) := by
 by_cases h : x = y
 ·rw [q0g h]; exact q1z h
 ·rw [q0f h]; exact q1f h
theorem q4w (x y : Rec) (cx cy : Array Value) (fx fy : List Nat) (w : World) (hx : recL.rep w cx.toList x fx) (hy : recL.rep w cy.toList y fy) :
  Calls Tryz.prog 123 #[.agg cx, .agg cy] w fun e w' => e = .returned (.bool (pb (x = y))) ∧ Chg [] w w' := by
 rw [← sameV_pb]
 exact q7d x y cx cy fx fy w hx hy
theorem bare_1 {x : Rec} (h : x.kind = 1) : pb (x = q2s x) = pb (RestI x) := q5i ((q6g x).trans (by rw [if_pos h]))
theorem bare_2 {x : Rec} (h : x.kind = 2) : pb (x = q2s x) = pb (RestM x) := q5i ((q6g x).trans (by rw [if_neg (by omega), if_pos h]))
theorem bare_3 {x : Rec} (h : x.kind = 3) : pb (x = q2s x) = pb (RestD x) := q5i ((q6g x).trans (by rw [if_neg (by omega), if_neg (by omega), if_pos h]))
theorem bare_4 {x : Rec} (h : x.kind = 4) : pb (x = q2s x) = pb (RestS x) := q5i ((q6g x).trans (by rw [if_neg (by omega), if_neg (by omega), if_neg (by omega)]))
theorem impl_rec0 (s : Shp) (hs : s.ok) (x : Rec) (cx : Array Value) (fx : List Nat) (w : World) (hx : recL.rep w cx.toList x fx) (hk0 : ¬ ((1 ≤ x.kind ∧ x.kind ≤ 4) ∧ (1 ≤ x.seq ∧ x.seq ≤ 1000000000))) :
  Calls Tryz.prog 222 #[.agg s.cells, .agg cx] w fun e w' => e = .returned (.int .i64 (recV s x)) ∧ Chg [] w w' := by
 have HX := hid hx
 obtain ⟨a6, l6, c6, f6, a7, l7, c7, f7, a8, l8, c8, f8, ex, o0, o1, on, o3, o4, o5, h6, h7, h8, -⟩ := q0v.1 hx
 have HO := hid (And.intro o0 o1)
 clear hx o0 o1
 obtain rfl := Array.toList_inj.1 (ex.trans (List.toList_toArray).symm)
 clear ex
 have q6 := intL.sl_max h6; have q7 := q0p.sl_max h7; have q8 := q0p.sl_max h8
 have Z6 := hid h6.1; have Z7 := hid h7.1; have Z8 := hid h8.1
 have H6 := hid h6; have H7 := hid h7; have H8 := hid h8
 clear h6 h7 h8
 have hd := hs.data; have hr := hs.rows; have hg := hs.gS; have hal := hs.all
 have HS := hid hs
 clear hs
 have e50 : IntKind.i64.wrap (s.rows - 1) = s.rows - 1 := IntWalk.i64_in _ (by omega)
 have e51 : IntKind.i64.wrap (s.gS - 1) = s.gS - 1 := IntWalk.i64_in _ (by omega)
 have e52 : IntKind.i64.wrap (s.all - 1) = s.all - 1 := IntWalk.i64_in _ (by omega)
 show Calls _ _ #[.agg #[.int .i64 s.gS, .int .i64 s.cM, .int .i64 s.data, .int .i64 s.spare, .int .i64 s.rows, .int .i64 s.cap, .int .i64 s.bT, .int .i64 s.qU, .int .i64 s.sG], .agg _] _ _
 have hwd := HS.out.wide
 by_cases hk1 : 1 ≤ x.kind ∧ x.kind ≤ 4
 rotate_left
 ·have HC : Hid (Chg [] w w) := Chg.refl _ _
  have HR := hid (q7f (s := s) hk1)
  have hk := q1t hk1
  clear hk1 hk0
  go_enter Tryz.func222, Tryz.ntmps222
  go_wp2_with fail
  refine (q1d x.kind 1 4 _).mono ?_
  rintro e w1 ⟨rfl, hc⟩
  rw [hk]
  obtain ⟨cS, lS, HBS⟩ := bk hc (b := w.heap.size) (q0b (q0e (by simp) _) _) (by simp)
  obtain ⟨cR, lR, HBR⟩ := bk hc (b := w.heap.size + 1) (q0e (by simp) _) (by simp)
  have h := Chg.trans0 (Chg.alloc (Chg.alloc HC.out _) _) hc; clear HC; have HC := hid h; clear h
  clear hc
  go_wp2_with fail
  go_ret
  exact ⟨q0i HR.out.symm, HC.out⟩
 have hk := q1m hk1.1 hk1.2
 by_cases hq1 : 1 ≤ x.seq ∧ x.seq ≤ 1000000000
 rotate_left
 ·have HC : Hid (Chg [] w w) := Chg.refl _ _
  have HR := hid (q8x (s := s) hk1 hq1)
  have hq := q1t hq1
  clear hk1 hq1 hk0
  go_enter Tryz.func222, Tryz.ntmps222
  go_wp2_with fail
  refine (q1d x.kind 1 4 _).mono ?_
  rintro e w1 ⟨rfl, hc⟩
  rw [hk]
  obtain ⟨cS, lS, HBS⟩ := bk hc (b := w.heap.size) (q0b (q0e (by simp) _) _) (by simp)
  obtain ⟨cR, lR, HBR⟩ := bk hc (b := w.heap.size + 1) (q0e (by simp) _) (by simp)
  have h := Chg.trans0 (Chg.alloc (Chg.alloc HC.out _) _) hc; clear HC; have HC := hid h; clear h
  clear hc
  go_wp2_with fail
  refine (q1d x.seq 1 1000000000 _).mono ?_
  rintro e w2 ⟨rfl, hc⟩
  rw [hq]
  have h := bk0 hc HBS.out; clear HBS cS lS; obtain ⟨cS, lS, HBS⟩ := h
  have h := bk0 hc HBR.out; clear HBR cR lR; obtain ⟨cR, lR, HBR⟩ := h
  replace HC := hct HC hc
  clear hc
  go_wp2_with fail
  go_ret
  exact ⟨q0i HR.out.symm, HC.out⟩
 exact absurd ⟨hk1, hq1⟩ hk0
theorem impl_rec1 (s : Shp) (hs : s.ok) (x : Rec) (cx : Array Value) (fx : List Nat) (w : World) (hx : recL.rep w cx.toList x fx) (hk0 : x.kind = 1) (hq1 : 1 ≤ x.seq ∧ x.seq ≤ 1000000000) :
  Calls Tryz.prog 222 #[.agg s.cells, .agg cx] w fun e w' => e = .returned (.int .i64 (recV s x)) ∧ Chg [] w w' := by
 have HX := hid hx
 obtain ⟨a6, l6, c6, f6, a7, l7, c7, f7, a8, l8, c8, f8, ex, o0, o1, on, o3, o4, o5, h6, h7, h8, -⟩ := q0v.1 hx
 have HO := hid (And.intro o0 o1)
 clear hx o0 o1
 obtain rfl := Array.toList_inj.1 (ex.trans (List.toList_toArray).symm)
 clear ex
 have q6 := intL.sl_max h6; have q7 := q0p.sl_max h7; have q8 := q0p.sl_max h8
 have Z6 := hid h6.1; have Z7 := hid h7.1; have Z8 := hid h8.1
 have H6 := hid h6; have H7 := hid h7; have H8 := hid h8
 clear h6 h7 h8
 have hd := hs.data; have hr := hs.rows; have hg := hs.gS; have hal := hs.all
 have HS := hid hs
 clear hs
 have e50 : IntKind.i64.wrap (s.rows - 1) = s.rows - 1 := IntWalk.i64_in _ (by omega)
 have e51 : IntKind.i64.wrap (s.gS - 1) = s.gS - 1 := IntWalk.i64_in _ (by omega)
 have e52 : IntKind.i64.wrap (s.all - 1) = s.all - 1 := IntWalk.i64_in _ (by omega)
 show Calls _ _ #[.agg #[.int .i64 s.gS, .int .i64 s.cM, .int .i64 s.data, .int .i64 s.spare, .int .i64 s.rows, .int .i64 s.cap, .int .i64 s.bT, .int .i64 s.qU, .int .i64 s.sG], .agg _] _ _
 have hwd := HS.out.wide
 have HQ := hid hq1
 have hk := q1m (n := x.kind) (a := 1) (b := 4) (by omega) (by omega)
 have hq := q1m hq1.1 hq1.2
 obtain ⟨hs1, hs2⟩ := hq1
 have HK := hid hk0
 have HKK := hid (show 1 ≤ x.kind ∧ x.kind ≤ 4 by omega)
 have kd1 : (x.kind == 1) = true := by simp; omega
 have kd2 : (x.kind == 2) = false := by simp; omega
 have kd3 : (x.kind == 3) = false := by simp; omega
 have kd4 : (x.kind == 4) = false := by simp; omega
 clear hk0
 by_cases hi : q4s s x = 0
 rotate_left
 ·have HC : Hid (Chg [] w w) := Chg.refl _ _
  obtain ⟨iv, hiv⟩ : ∃ v, v = q4s s x := ⟨_, rfl⟩
  have HR := hid (show recV s x = iv by rw [recV_1 HK.out HQ.out, if_neg hi, hiv])
  have e1 : (iv == 0) = false := by rw [hiv]; simp; exact hi
  have HIV := hid hiv
  clear hi hiv
  go_enter Tryz.func222, Tryz.ntmps222
  go_wp2_with fail
  refine (q1d x.kind 1 4 _).mono ?_
  rintro e w1 ⟨rfl, hc⟩
  rw [hk]
  obtain ⟨cS, lS, HBS⟩ := bk hc (b := w.heap.size) (q0b (q0e (by simp) _) _) (by simp)
  obtain ⟨cR, lR, HBR⟩ := bk hc (b := w.heap.size + 1) (q0e (by simp) _) (by simp)
  have h := Chg.trans0 (Chg.alloc (Chg.alloc HC.out _) _) hc; clear HC; have HC := hid h; clear h
  clear hc
  go_wp2_with fail
  refine (q1d x.seq 1 1000000000 _).mono ?_
  rintro e w2 ⟨rfl, hc⟩
  rw [hq]
  have h := bk0 hc HBS.out; clear HBS cS lS; obtain ⟨cS, lS, HBS⟩ := h
  have h := bk0 hc HBR.out; clear HBR cR lR; obtain ⟨cR, lR, HBR⟩ := h
  replace HC := hct HC hc
  clear hc
  go_wp2_with fail
  refine (q6c s HS.out x #[.int .i64 x.kind, .int .i64 x.seq, .string x.name, .int .i64 x.length, .int .i64 x.group, .int .i64 x.row, .slice a6 l6 c6, .slice a7 l7 c7, .slice a8 l8 c8] fx _ (Lay.ext recL HX.out HC.out)).mono ?_
  rintro e w3 ⟨rfl, hc⟩
  rw [← HIV.out]
  have h := bk0 hc HBS.out; clear HBS cS lS; obtain ⟨cS, lS, HBS⟩ := h
  have h := bk0 hc HBR.out; clear HBR cR lR; obtain ⟨cR, lR, HBR⟩ := h
  replace HC := hct HC hc
  clear hc
  go_wp2_with fail
  obtain ⟨SS1, HSI1, HSO1⟩ := q0j (fun w' => Know (w.heap.size + 1) #[.int .i64 x.kind, .int .i64 x.seq, .string x.name, .int .i64 x.length, .int .i64 x.group, .int .i64 x.row, .slice a6 l6 c6, .slice a7 l7 c7, .slice a8 l8 c8] w')
  have hS0 := HSI1.out (w3.drew) (Know.of (by refine q0a ?_; exact HBR.out))
  refine q0k SS1 (by kernel_rfl) hS0 ?_
  refine rgT 0 hS0 ?_
  refine rgT 1 hS0 ?_
  refine rgT 2 hS0 ?_
  refine rgS 3 hS0 ?_
  refine rgS 4 hS0 ?_
  refine rgS 5 hS0 ?_
  refine rgS 6 hS0 ?_
  refine rgS 7 hS0 ?_
  refine rgT 8 hS0 ?_
  refine wpAnyH_done (by kernel_rfl) ?_ _
  go_wp2_with fail
  go_ret
  exact ⟨q0i HR.out.symm, (Chg.drew HC.out)⟩
 have HIV := hid hi
 clear hi
 have HC : Hid (Chg [] w w) := Chg.refl _ _
 go_enter Tryz.func222, Tryz.ntmps222
 go_wp2_with fail
 refine (q1d x.kind 1 4 _).mono ?_
 rintro e w1 ⟨rfl, hc⟩
 rw [hk]
 obtain ⟨cS, lS, HBS⟩ := bk hc (b := w.heap.size) (q0b (q0e (by simp) _) _) (by simp)
 obtain ⟨cR, lR, HBR⟩ := bk hc (b := w.heap.size + 1) (q0e (by simp) _) (by simp)
 have h := Chg.trans0 (Chg.alloc (Chg.alloc HC.out _) _) hc; clear HC; have HC := hid h; clear h
 clear hc
 go_wp2_with fail
 refine (q1d x.seq 1 1000000000 _).mono ?_
 rintro e w2 ⟨rfl, hc⟩
 rw [hq]
 have h := bk0 hc HBS.out; clear HBS cS lS; obtain ⟨cS, lS, HBS⟩ := h
 have h := bk0 hc HBR.out; clear HBR cR lR; obtain ⟨cR, lR, HBR⟩ := h
 replace HC := hct HC hc
 clear hc
 go_wp2_with fail
 refine (q6c s HS.out x #[.int .i64 x.kind, .int .i64 x.seq, .string x.name, .int .i64 x.length, .int .i64 x.group, .int .i64 x.row, .slice a6 l6 c6, .slice a7 l7 c7, .slice a8 l8 c8] fx _ (Lay.ext recL HX.out HC.out)).mono ?_
 rintro e w3 ⟨rfl, hc⟩
 rw [HIV.out]
 have h := bk0 hc HBS.out; clear HBS cS lS; obtain ⟨cS, lS, HBS⟩ := h
 have h := bk0 hc HBR.out; clear HBR cR lR; obtain ⟨cR, lR, HBR⟩ := h
 replace HC := hct HC hc
 clear hc
 go_wp2_with fail
 obtain ⟨SS1, HSI1, HSO1⟩ := q0j (fun w' => Know (w.heap.size + 1) #[.int .i64 x.kind, .int .i64 x.seq, .string x.name, .int .i64 x.length, .int .i64 x.group, .int .i64 x.row, .slice a6 l6 c6, .slice a7 l7 c7, .slice a8 l8 c8] w')
 have hS0 := HSI1.out (w3.drew) (Know.of (by refine q0a ?_; exact HBR.out))
 refine q0k SS1 (by kernel_rfl) hS0 ?_
 refine rgT 0 hS0 ?_
 refine rgT 1 hS0 ?_
 refine rgT 2 hS0 ?_
 refine rgL 3 hS0 HSO1 ?_
 refine rgL 4 hS0 HSO1 ?_
 refine q0d 5 rfl (by kernel_rfl) (fun K hK => ?_)
 go_simp
 go_at_call 261
 refine (q6z x #[.int .i64 x.kind, .int .i64 x.seq, .string x.name, .int .i64 x.length, .int .i64 x.group, .int .i64 x.row, .slice a6 l6 c6, .slice a7 l7 c7, .slice a8 l8 c8] fx _ (Lay.ext recL HX.out (Chg.drew HC.out)) HKK.out).mono ?_
 rintro e w4 ⟨cz, fz, rfl, hz, hc⟩
 have HZ := hid hz; clear hz
 have h := bk hc (q0a HBS.out) (by simp); clear HBS cS lS; obtain ⟨cS, lS, HBS⟩ := h
 have h := bk hc (q0a HBR.out) (by simp); clear HBR cR lR; obtain ⟨cR, lR, HBR⟩ := h
 have h := Chg.trans0 (Chg.drew HC.out) hc; clear HC; have HC := hid h; clear h
 clear hc
 go_wp2_with fail
 refine hK.out _ _ (HSI1.out _ cR) (fun hS1 => ?_)
 clear hK K
 try simp only [Act.put, pA, pB, pC]
 refine q0d 6 rfl (by kernel_rfl) (fun K hK => ?_)
 go_simp
 go_at_call 123
 refine (q4w x (q2s x) #[.int .i64 x.kind, .int .i64 x.seq, .string x.name, .int .i64 x.length, .int .i64 x.group, .int .i64 x.row, .slice a6 l6 c6, .slice a7 l7 c7, .slice a8 l8 c8] cz fx fz _ (Lay.ext recL HX.out HC.out) HZ.out).mono ?_
 rintro e w5 ⟨rfl, hc⟩
 have h := bk0 hc HBS.out; clear HBS cS lS; obtain ⟨cS, lS, HBS⟩ := h
 have h := bk0 hc HBR.out; clear HBR cR lR; obtain ⟨cR, lR, HBR⟩ := h
 replace HC := hct HC hc
 clear hc
 go_wp2_with fail
 refine hK.out _ _ (HSI1.out _ cR) (fun hS2 => ?_)
 clear hK K
 try simp only [Act.put, pA, pB, pC]
 refine rgT 7 hS2 ?_
 refine rgT 8 hS2 ?_
 refine wpAnyH_done (by kernel_rfl) ?_ _
 have HV := hid (show recV s x = if pb (x = q2s x) = true then 0 else 1 by rw [bare_1 HK.out]; exact (by rw [recV_1 HK.out HQ.out, if_pos HIV.out]))
 cases hv : pb (x = q2s x)
 ·have HR := hid (HV.out.trans (if_neg (by rw [hv]; simp)))
  clear hv
  go_wp2_with fail
  go_ret
  exact ⟨q0i HR.out.symm, HC.out⟩
 ·have HR := hid (HV.out.trans (if_pos hv))
  clear hv
  go_wp2_with fail
  go_ret
  exact ⟨q0i HR.out.symm, HC.out⟩
theorem impl_rec4 (s : Shp) (hs : s.ok) (x : Rec) (cx : Array Value) (fx : List Nat) (w : World) (hx : recL.rep w cx.toList x fx) (hk0 : x.kind = 4) (hq1 : 1 ≤ x.seq ∧ x.seq ≤ 1000000000) :
  Calls Tryz.prog 222 #[.agg s.cells, .agg cx] w fun e w' => e = .returned (.int .i64 (recV s x)) ∧ Chg [] w w' := by
 have HX := hid hx
 obtain ⟨a6, l6, c6, f6, a7, l7, c7, f7, a8, l8, c8, f8, ex, o0, o1, on, o3, o4, o5, h6, h7, h8, -⟩ := q0v.1 hx
 have HO := hid (And.intro o0 o1)
 clear hx o0 o1
 obtain rfl := Array.toList_inj.1 (ex.trans (List.toList_toArray).symm)
 clear ex
 have q6 := intL.sl_max h6; have q7 := q0p.sl_max h7; have q8 := q0p.sl_max h8
 have Z6 := hid h6.1; have Z7 := hid h7.1; have Z8 := hid h8.1
 have H6 := hid h6; have H7 := hid h7; have H8 := hid h8
 clear h6 h7 h8
 have hd := hs.data; have hr := hs.rows; have hg := hs.gS; have hal := hs.all
 have HS := hid hs
 clear hs
 have e50 : IntKind.i64.wrap (s.rows - 1) = s.rows - 1 := IntWalk.i64_in _ (by omega)
 have e51 : IntKind.i64.wrap (s.gS - 1) = s.gS - 1 := IntWalk.i64_in _ (by omega)
 have e52 : IntKind.i64.wrap (s.all - 1) = s.all - 1 := IntWalk.i64_in _ (by omega)
 show Calls _ _ #[.agg #[.int .i64 s.gS, .int .i64 s.cM, .int .i64 s.data, .int .i64 s.spare, .int .i64 s.rows, .int .i64 s.cap, .int .i64 s.bT, .int .i64 s.qU, .int .i64 s.sG], .agg _] _ _
 have hwd := HS.out.wide
 have HQ := hid hq1
 have hk := q1m (n := x.kind) (a := 1) (b := 4) (by omega) (by omega)
 have hq := q1m hq1.1 hq1.2
 obtain ⟨hs1, hs2⟩ := hq1
 have HK := hid hk0
 have HKK := hid (show 1 ≤ x.kind ∧ x.kind ≤ 4 by omega)
 have kd1 : (x.kind == 1) = false := by simp; omega
 have kd2 : (x.kind == 2) = false := by simp; omega
 have kd3 : (x.kind == 3) = false := by simp; omega
 have kd4 : (x.kind == 4) = true := by simp; omega
 clear hk0
 by_cases hi : q3c s x
 rotate_left
 ·have HC : Hid (Chg [] w w) := Chg.refl _ _
  have HSV := hid (show q7c s x = 3 by unfold q7c; rw [q0f hi]; rfl)
  have HR := hid (show recV s x = 3 by rw [q6o HK.out HQ.out, q0f hi]; rfl)
  clear hi
  go_enter Tryz.func222, Tryz.ntmps222
  go_wp2_with fail
  refine (q1d x.kind 1 4 _).mono ?_
  rintro e w1 ⟨rfl, hc⟩
  rw [hk]
  obtain ⟨cS, lS, HBS⟩ := bk hc (b := w.heap.size) (q0b (q0e (by simp) _) _) (by simp)
  obtain ⟨cR, lR, HBR⟩ := bk hc (b := w.heap.size + 1) (q0e (by simp) _) (by simp)
  have h := Chg.trans0 (Chg.alloc (Chg.alloc HC.out _) _) hc; clear HC; have HC := hid h; clear h
  clear hc
  go_wp2_with fail
  refine (q1d x.seq 1 1000000000 _).mono ?_
  rintro e w2 ⟨rfl, hc⟩
  rw [hq]
  have h := bk0 hc HBS.out; clear HBS cS lS; obtain ⟨cS, lS, HBS⟩ := h
  have h := bk0 hc HBR.out; clear HBR cR lR; obtain ⟨cR, lR, HBR⟩ := h
  replace HC := hct HC hc
  clear hc
  go_wp2_with fail
  refine (q5g s HS.out x #[.int .i64 x.kind, .int .i64 x.seq, .string x.name, .int .i64 x.length, .int .i64 x.group, .int .i64 x.row, .slice a6 l6 c6, .slice a7 l7 c7, .slice a8 l8 c8] fx _ (Lay.ext recL HX.out HC.out)).mono ?_
  rintro e w3 ⟨rfl, hc⟩
  rw [HSV.out]
  have h := bk0 hc HBS.out; clear HBS cS lS; obtain ⟨cS, lS, HBS⟩ := h
  have h := bk0 hc HBR.out; clear HBR cR lR; obtain ⟨cR, lR, HBR⟩ := h
  replace HC := hct HC hc
  clear hc
  go_wp2_with fail
  obtain ⟨SS1, HSI1, HSO1⟩ := q0j (fun w' => Know (w.heap.size + 1) #[.int .i64 x.kind, .int .i64 x.seq, .string x.name, .int .i64 x.length, .int .i64 x.group, .int .i64 x.row, .slice a6 l6 c6, .slice a7 l7 c7, .slice a8 l8 c8] w')
  have hS0 := HSI1.out (w3.drew) (Know.of (by refine q0a ?_; exact HBR.out))
  refine q0k SS1 (by kernel_rfl) hS0 ?_
  refine rgT 0 hS0 ?_
  refine rgT 1 hS0 ?_
  refine rgT 2 hS0 ?_
  refine rgS 3 hS0 ?_
  refine rgS 4 hS0 ?_
  refine rgS 5 hS0 ?_
  refine rgS 6 hS0 ?_
  refine rgS 7 hS0 ?_
  refine rgT 8 hS0 ?_
  refine wpAnyH_done (by kernel_rfl) ?_ _
  go_wp2_with fail
  go_ret
  exact ⟨q0i HR.out.symm, (Chg.drew HC.out)⟩
 have HSV := hid (show q7c s x = 0 by unfold q7c; rw [q0g hi]; rfl)
 have HSO := hid (q0g hi)
 clear hi
 have HC : Hid (Chg [] w w) := Chg.refl _ _
 go_enter Tryz.func222, Tryz.ntmps222
 go_wp2_with fail
 refine (q1d x.kind 1 4 _).mono ?_
 rintro e w1 ⟨rfl, hc⟩
 rw [hk]
 obtain ⟨cS, lS, HBS⟩ := bk hc (b := w.heap.size) (q0b (q0e (by simp) _) _) (by simp)
 obtain ⟨cR, lR, HBR⟩ := bk hc (b := w.heap.size + 1) (q0e (by simp) _) (by simp)
 have h := Chg.trans0 (Chg.alloc (Chg.alloc HC.out _) _) hc; clear HC; have HC := hid h; clear h
 clear hc
 go_wp2_with fail
 refine (q1d x.seq 1 1000000000 _).mono ?_
 rintro e w2 ⟨rfl, hc⟩
 rw [hq]
 have h := bk0 hc HBS.out; clear HBS cS lS; obtain ⟨cS, lS, HBS⟩ := h
 have h := bk0 hc HBR.out; clear HBR cR lR; obtain ⟨cR, lR, HBR⟩ := h
 replace HC := hct HC hc
 clear hc
 go_wp2_with fail
 refine (q5g s HS.out x #[.int .i64 x.kind, .int .i64 x.seq, .string x.name, .int .i64 x.length, .int .i64 x.group, .int .i64 x.row, .slice a6 l6 c6, .slice a7 l7 c7, .slice a8 l8 c8] fx _ (Lay.ext recL HX.out HC.out)).mono ?_
 rintro e w3 ⟨rfl, hc⟩
 rw [HSV.out]
 have h := bk0 hc HBS.out; clear HBS cS lS; obtain ⟨cS, lS, HBS⟩ := h
 have h := bk0 hc HBR.out; clear HBR cR lR; obtain ⟨cR, lR, HBR⟩ := h
 replace HC := hct HC hc
 clear hc
 go_wp2_with fail
 obtain ⟨SS1, HSI1, HSO1⟩ := q0j (fun w' => Know (w.heap.size + 1) #[.int .i64 x.kind, .int .i64 x.seq, .string x.name, .int .i64 x.length, .int .i64 x.group, .int .i64 x.row, .slice a6 l6 c6, .slice a7 l7 c7, .slice a8 l8 c8] w')
 have hS0 := HSI1.out (w3.drew) (Know.of (by refine q0a ?_; exact HBR.out))
 refine q0k SS1 (by kernel_rfl) hS0 ?_
 refine rgT 0 hS0 ?_
 refine rgT 1 hS0 ?_
 refine rgT 2 hS0 ?_
 refine rgL 3 hS0 HSO1 ?_
 refine rgL 4 hS0 HSO1 ?_
 refine q0d 5 rfl (by kernel_rfl) (fun K hK => ?_)
 go_simp
 go_at_call 261
 refine (q6z x #[.int .i64 x.kind, .int .i64 x.seq, .string x.name, .int .i64 x.length, .int .i64 x.group, .int .i64 x.row, .slice a6 l6 c6, .slice a7 l7 c7, .slice a8 l8 c8] fx _ (Lay.ext recL HX.out (Chg.drew HC.out)) HKK.out).mono ?_
 rintro e w4 ⟨cz, fz, rfl, hz, hc⟩
 have HZ := hid hz; clear hz
 have h := bk hc (q0a HBS.out) (by simp); clear HBS cS lS; obtain ⟨cS, lS, HBS⟩ := h
 have h := bk hc (q0a HBR.out) (by simp); clear HBR cR lR; obtain ⟨cR, lR, HBR⟩ := h
 have h := Chg.trans0 (Chg.drew HC.out) hc; clear HC; have HC := hid h; clear h
 clear hc
 go_wp2_with fail
 refine hK.out _ _ (HSI1.out _ cR) (fun hS1 => ?_)
 clear hK K
 try simp only [Act.put, pA, pB, pC]
 refine q0d 6 rfl (by kernel_rfl) (fun K hK => ?_)
 go_simp
 go_at_call 123
 refine (q4w x (q2s x) #[.int .i64 x.kind, .int .i64 x.seq, .string x.name, .int .i64 x.length, .int .i64 x.group, .int .i64 x.row, .slice a6 l6 c6, .slice a7 l7 c7, .slice a8 l8 c8] cz fx fz _ (Lay.ext recL HX.out HC.out) HZ.out).mono ?_
 rintro e w5 ⟨rfl, hc⟩
 have h := bk0 hc HBS.out; clear HBS cS lS; obtain ⟨cS, lS, HBS⟩ := h
 have h := bk0 hc HBR.out; clear HBR cR lR; obtain ⟨cR, lR, HBR⟩ := h
 replace HC := hct HC hc
 clear hc
 go_wp2_with fail
 refine hK.out _ _ (HSI1.out _ cR) (fun hS2 => ?_)
 clear hK K
 try simp only [Act.put, pA, pB, pC]
 refine rgT 7 hS2 ?_
 refine rgT 8 hS2 ?_
 refine wpAnyH_done (by kernel_rfl) ?_ _
 have HV := hid (show recV s x = if pb (x = q2s x) = true then 0 else 1 by rw [bare_4 HK.out]; exact (by rw [q6o HK.out HQ.out, if_pos HSO.out]))
 cases hv : pb (x = q2s x)
 ·have HR := hid (HV.out.trans (if_neg (by rw [hv]; simp)))
  clear hv
  go_wp2_with fail
  go_ret
  exact ⟨q0i HR.out.symm, HC.out⟩
 ·have HR := hid (HV.out.trans (if_pos hv))
  clear hv
  go_wp2_with fail
  go_ret
  exact ⟨q0i HR.out.symm, HC.out⟩
theorem impl_rec3 (s : Shp) (hs : s.ok) (x : Rec) (cx : Array Value) (fx : List Nat) (w : World) (hx : recL.rep w cx.toList x fx) (hk0 : x.kind = 3) (hq1 : 1 ≤ x.seq ∧ x.seq ≤ 1000000000) :
  Calls Tryz.prog 222 #[.agg s.cells, .agg cx] w fun e w' => e = .returned (.int .i64 (recV s x)) ∧ Chg [] w w' := by
 have HX := hid hx
 obtain ⟨a6, l6, c6, f6, a7, l7, c7, f7, a8, l8, c8, f8, ex, o0, o1, on, o3, o4, o5, h6, h7, h8, -⟩ := q0v.1 hx
 have HO := hid (And.intro o0 o1)
 clear hx o0 o1
 obtain rfl := Array.toList_inj.1 (ex.trans (List.toList_toArray).symm)
 clear ex
 have q6 := intL.sl_max h6; have q7 := q0p.sl_max h7; have q8 := q0p.sl_max h8
 have Z6 := hid h6.1; have Z7 := hid h7.1; have Z8 := hid h8.1
 have H6 := hid h6; have H7 := hid h7; have H8 := hid h8
 clear h6 h7 h8
 have hd := hs.data; have hr := hs.rows; have hg := hs.gS; have hal := hs.all
 have HS := hid hs
 clear hs
 have e50 : IntKind.i64.wrap (s.rows - 1) = s.rows - 1 := IntWalk.i64_in _ (by omega)
 have e51 : IntKind.i64.wrap (s.gS - 1) = s.gS - 1 := IntWalk.i64_in _ (by omega)
 have e52 : IntKind.i64.wrap (s.all - 1) = s.all - 1 := IntWalk.i64_in _ (by omega)
 show Calls _ _ #[.agg #[.int .i64 s.gS, .int .i64 s.cM, .int .i64 s.data, .int .i64 s.spare, .int .i64 s.rows, .int .i64 s.cap, .int .i64 s.bT, .int .i64 s.qU, .int .i64 s.sG], .agg _] _ _
 have hwd := HS.out.wide
 have HQ := hid hq1
 have hk := q1m (n := x.kind) (a := 1) (b := 4) (by omega) (by omega)
 have hq := q1m hq1.1 hq1.2
 obtain ⟨hs1, hs2⟩ := hq1
 have HK := hid hk0
 have HKK := hid (show 1 ≤ x.kind ∧ x.kind ≤ 4 by omega)
 have kd1 : (x.kind == 1) = false := by simp; omega
 have kd2 : (x.kind == 2) = false := by simp; omega
 have kd3 : (x.kind == 3) = true := by simp; omega
 have kd4 : (x.kind == 4) = false := by simp; omega
 clear hk0
 by_cases h1 : 0 ≤ x.group ∧ x.group ≤ s.all - 1
 rotate_left
 ·have HC : Hid (Chg [] w w) := Chg.refl _ _
  have HR := hid (show recV s x = 3 by rw [recV_3 HK.out HQ.out, q0f h1]; rfl)
  have hi1 := q1t h1
  clear h1
  go_enter Tryz.func222, Tryz.ntmps222
  go_wp2_with fail
  refine (q1d x.kind 1 4 _).mono ?_
  rintro e w1 ⟨rfl, hc⟩
  rw [hk]
  obtain ⟨cS, lS, HBS⟩ := bk hc (b := w.heap.size) (q0b (q0e (by simp) _) _) (by simp)
  obtain ⟨cR, lR, HBR⟩ := bk hc (b := w.heap.size + 1) (q0e (by simp) _) (by simp)
  have h := Chg.trans0 (Chg.alloc (Chg.alloc HC.out _) _) hc; clear HC; have HC := hid h; clear h
  clear hc
  go_wp2_with fail
  refine (q1d x.seq 1 1000000000 _).mono ?_
  rintro e w2 ⟨rfl, hc⟩
  rw [hq]
  have h := bk0 hc HBS.out; clear HBS cS lS; obtain ⟨cS, lS, HBS⟩ := h
  have h := bk0 hc HBR.out; clear HBR cR lR; obtain ⟨cR, lR, HBR⟩ := h
  replace HC := hct HC hc
  clear hc
  go_wp2_with fail
  refine (q1w s HS.out x.group _).mono ?_
  rintro e w3 ⟨rfl, hc⟩
  rw [hi1]
  have h := bk0 hc HBS.out; clear HBS cS lS; obtain ⟨cS, lS, HBS⟩ := h
  have h := bk0 hc HBR.out; clear HBR cR lR; obtain ⟨cR, lR, HBR⟩ := h
  replace HC := hct HC hc
  clear hc
  go_wp2_with fail
  obtain ⟨SS1, HSI1, HSO1⟩ := q0j (fun w' => Know (w.heap.size + 1) #[.int .i64 x.kind, .int .i64 x.seq, .string x.name, .int .i64 x.length, .int .i64 x.group, .int .i64 x.row, .slice a6 l6 c6, .slice a7 l7 c7, .slice a8 l8 c8] w')
  have hS0 := HSI1.out (w3.drew) (Know.of (by refine q0a ?_; exact HBR.out))
  refine q0k SS1 (by kernel_rfl) hS0 ?_
  refine rgT 0 hS0 ?_
  refine rgT 1 hS0 ?_
  refine rgT 2 hS0 ?_
  refine rgS 3 hS0 ?_
  refine rgS 4 hS0 ?_
  refine rgS 5 hS0 ?_
  refine rgS 6 hS0 ?_
  refine rgS 7 hS0 ?_
  refine rgT 8 hS0 ?_
  refine wpAnyH_done (by kernel_rfl) ?_ _
  go_wp2_with fail
  go_ret
  exact ⟨q0i HR.out.symm, (Chg.drew HC.out)⟩
 have HG := hid (q0g h1)
 have hi1 := q1m h1.1 h1.2
 clear h1
 have HC : Hid (Chg [] w w) := Chg.refl _ _
 go_enter Tryz.func222, Tryz.ntmps222
 go_wp2_with fail
 refine (q1d x.kind 1 4 _).mono ?_
 rintro e w1 ⟨rfl, hc⟩
 rw [hk]
 obtain ⟨cS, lS, HBS⟩ := bk hc (b := w.heap.size) (q0b (q0e (by simp) _) _) (by simp)
 obtain ⟨cR, lR, HBR⟩ := bk hc (b := w.heap.size + 1) (q0e (by simp) _) (by simp)
 have h := Chg.trans0 (Chg.alloc (Chg.alloc HC.out _) _) hc; clear HC; have HC := hid h; clear h
 clear hc
 go_wp2_with fail
 refine (q1d x.seq 1 1000000000 _).mono ?_
 rintro e w2 ⟨rfl, hc⟩
 rw [hq]
 have h := bk0 hc HBS.out; clear HBS cS lS; obtain ⟨cS, lS, HBS⟩ := h
 have h := bk0 hc HBR.out; clear HBR cR lR; obtain ⟨cR, lR, HBR⟩ := h
 replace HC := hct HC hc
 clear hc
 go_wp2_with fail
 refine (q1w s HS.out x.group _).mono ?_
 rintro e w3 ⟨rfl, hc⟩
 rw [hi1]
 have h := bk0 hc HBS.out; clear HBS cS lS; obtain ⟨cS, lS, HBS⟩ := h
 have h := bk0 hc HBR.out; clear HBR cR lR; obtain ⟨cR, lR, HBR⟩ := h
 replace HC := hct HC hc
 clear hc
 go_wp2_with fail
 obtain ⟨SS1, HSI1, HSO1⟩ := q0j (fun w' => Know (w.heap.size + 1) #[.int .i64 x.kind, .int .i64 x.seq, .string x.name, .int .i64 x.length, .int .i64 x.group, .int .i64 x.row, .slice a6 l6 c6, .slice a7 l7 c7, .slice a8 l8 c8] w')
 have hS0 := HSI1.out (w3.drew) (Know.of (by refine q0a ?_; exact HBR.out))
 refine q0k SS1 (by kernel_rfl) hS0 ?_
 refine rgT 0 hS0 ?_
 refine rgT 1 hS0 ?_
 refine rgT 2 hS0 ?_
 refine rgL 3 hS0 HSO1 ?_
 refine rgL 4 hS0 HSO1 ?_
 refine q0d 5 rfl (by kernel_rfl) (fun K hK => ?_)
 go_simp
 go_at_call 261
 refine (q6z x #[.int .i64 x.kind, .int .i64 x.seq, .string x.name, .int .i64 x.length, .int .i64 x.group, .int .i64 x.row, .slice a6 l6 c6, .slice a7 l7 c7, .slice a8 l8 c8] fx _ (Lay.ext recL HX.out (Chg.drew HC.out)) HKK.out).mono ?_
 rintro e w4 ⟨cz, fz, rfl, hz, hc⟩
 have HZ := hid hz; clear hz
 have h := bk hc (q0a HBS.out) (by simp); clear HBS cS lS; obtain ⟨cS, lS, HBS⟩ := h
 have h := bk hc (q0a HBR.out) (by simp); clear HBR cR lR; obtain ⟨cR, lR, HBR⟩ := h
 have h := Chg.trans0 (Chg.drew HC.out) hc; clear HC; have HC := hid h; clear h
 clear hc
 go_wp2_with fail
 refine hK.out _ _ (HSI1.out _ cR) (fun hS1 => ?_)
 clear hK K
 try simp only [Act.put, pA, pB, pC]
 refine q0d 6 rfl (by kernel_rfl) (fun K hK => ?_)
 go_simp
 go_at_call 123
 refine (q4w x (q2s x) #[.int .i64 x.kind, .int .i64 x.seq, .string x.name, .int .i64 x.length, .int .i64 x.group, .int .i64 x.row, .slice a6 l6 c6, .slice a7 l7 c7, .slice a8 l8 c8] cz fx fz _ (Lay.ext recL HX.out HC.out) HZ.out).mono ?_
 rintro e w5 ⟨rfl, hc⟩
 have h := bk0 hc HBS.out; clear HBS cS lS; obtain ⟨cS, lS, HBS⟩ := h
 have h := bk0 hc HBR.out; clear HBR cR lR; obtain ⟨cR, lR, HBR⟩ := h
 replace HC := hct HC hc
 clear hc
 go_wp2_with fail
 refine hK.out _ _ (HSI1.out _ cR) (fun hS2 => ?_)
 clear hK K
 try simp only [Act.put, pA, pB, pC]
 refine rgT 7 hS2 ?_
 refine rgT 8 hS2 ?_
 refine wpAnyH_done (by kernel_rfl) ?_ _
 have HV := hid (show recV s x = if pb (x = q2s x) = true then 0 else 1 by rw [bare_3 HK.out]; exact (by rw [recV_3 HK.out HQ.out, if_pos HG.out]))
 cases hv : pb (x = q2s x)
 ·have HR := hid (HV.out.trans (if_neg (by rw [hv]; simp)))
  clear hv
  go_wp2_with fail
  go_ret
  exact ⟨q0i HR.out.symm, HC.out⟩
 ·have HR := hid (HV.out.trans (if_pos hv))
  clear hv
  go_wp2_with fail
  go_ret
  exact ⟨q0i HR.out.symm, HC.out⟩
theorem impl_rec2 (s : Shp) (hs : s.ok) (x : Rec) (cx : Array Value) (fx : List Nat) (w : World) (hx : recL.rep w cx.toList x fx) (hk0 : x.kind = 2) (hq1 : 1 ≤ x.seq ∧ x.seq ≤ 1000000000) :
  Calls Tryz.prog 222 #[.agg s.cells, .agg cx] w fun e w' => e = .returned (.int .i64 (recV s x)) ∧ Chg [] w w' := by
 have HX := hid hx
 obtain ⟨a6, l6, c6, f6, a7, l7, c7, f7, a8, l8, c8, f8, ex, o0, o1, on, o3, o4, o5, h6, h7, h8, -⟩ := q0v.1 hx
 have HO := hid (And.intro o0 o1)
 clear hx o0 o1
 obtain rfl := Array.toList_inj.1 (ex.trans (List.toList_toArray).symm)
 clear ex
 have q6 := intL.sl_max h6; have q7 := q0p.sl_max h7; have q8 := q0p.sl_max h8
 have Z6 := hid h6.1; have Z7 := hid h7.1; have Z8 := hid h8.1
 have H6 := hid h6; have H7 := hid h7; have H8 := hid h8
 clear h6 h7 h8
 have hd := hs.data; have hr := hs.rows; have hg := hs.gS; have hal := hs.all
 have HS := hid hs
 clear hs
 have e50 : IntKind.i64.wrap (s.rows - 1) = s.rows - 1 := IntWalk.i64_in _ (by omega)
 have e51 : IntKind.i64.wrap (s.gS - 1) = s.gS - 1 := IntWalk.i64_in _ (by omega)
 have e52 : IntKind.i64.wrap (s.all - 1) = s.all - 1 := IntWalk.i64_in _ (by omega)
 show Calls _ _ #[.agg #[.int .i64 s.gS, .int .i64 s.cM, .int .i64 s.data, .int .i64 s.spare, .int .i64 s.rows, .int .i64 s.cap, .int .i64 s.bT, .int .i64 s.qU, .int .i64 s.sG], .agg _] _ _
 have hwd := HS.out.wide
 have HQ := hid hq1
 have hk := q1m (n := x.kind) (a := 1) (b := 4) (by omega) (by omega)
 have hq := q1m hq1.1 hq1.2
 obtain ⟨hs1, hs2⟩ := hq1
 have HK := hid hk0
 have HKK := hid (show 1 ≤ x.kind ∧ x.kind ≤ 4 by omega)
 have kd1 : (x.kind == 1) = false := by simp; omega
 have kd2 : (x.kind == 2) = true := by simp; omega
 have kd3 : (x.kind == 3) = false := by simp; omega
 have kd4 : (x.kind == 4) = false := by simp; omega
 clear hk0
 by_cases h1 : 0 ≤ x.group ∧ x.group ≤ s.gS - 1
 rotate_left
 ·have HC : Hid (Chg [] w w) := Chg.refl _ _
  have HR := hid (show recV s x = 3 by rw [q5h HK.out HQ.out, q0f (fun h => h1 h.1)]; rfl)
  have hi1 := q1t h1
  clear h1
  go_enter Tryz.func222, Tryz.ntmps222
  go_wp2_with fail
  refine (q1d x.kind 1 4 _).mono ?_
  rintro e w1 ⟨rfl, hc⟩
  rw [hk]
  obtain ⟨cS, lS, HBS⟩ := bk hc (b := w.heap.size) (q0b (q0e (by simp) _) _) (by simp)
  obtain ⟨cR, lR, HBR⟩ := bk hc (b := w.heap.size + 1) (q0e (by simp) _) (by simp)
  have h := Chg.trans0 (Chg.alloc (Chg.alloc HC.out _) _) hc; clear HC; have HC := hid h; clear h
  clear hc
  go_wp2_with fail
  refine (q1d x.seq 1 1000000000 _).mono ?_
  rintro e w2 ⟨rfl, hc⟩
  rw [hq]
  have h := bk0 hc HBS.out; clear HBS cS lS; obtain ⟨cS, lS, HBS⟩ := h
  have h := bk0 hc HBR.out; clear HBR cR lR; obtain ⟨cR, lR, HBR⟩ := h
  replace HC := hct HC hc
  clear hc
  go_wp2_with fail
  obtain ⟨SS1, HSI1, HSO1⟩ := q0j (fun w' => Know (w.heap.size) #[.int .i64 s.gS, .int .i64 s.cM, .int .i64 s.data, .int .i64 s.spare, .int .i64 s.rows, .int .i64 s.cap, .int .i64 s.bT, .int .i64 s.qU, .int .i64 s.sG] w' ∧ Know (w.heap.size + 1) #[.int .i64 x.kind, .int .i64 x.seq, .string x.name, .int .i64 x.length, .int .i64 x.group, .int .i64 x.row, .slice a6 l6 c6, .slice a7 l7 c7, .slice a8 l8 c8] w')
  have hS0 := HSI1.out (w2.drew) ⟨(Know.of (by refine q0a ?_; exact HBS.out)), (Know.of (by refine q0a ?_; exact HBR.out))⟩
  refine q0k SS1 (by kernel_rfl) hS0 ?_
  refine rgL 0 hS0 HSO1 ?_
  refine rgT 1 hS0 ?_
  refine rgL 2 hS0 HSO1 ?_
  refine q0d 3 rfl (by kernel_rfl) (fun K hK => ?_)
  go_simp
  go_at_call 111
  refine (q4f s HS.out x.group _).mono ?_
  rintro e w3 ⟨rfl, hc⟩
  rw [hi1]
  have h := bk hc (q0a HBS.out) (by simp); clear HBS cS lS; obtain ⟨cS, lS, HBS⟩ := h
  have h := bk hc (q0a HBR.out) (by simp); clear HBR cR lR; obtain ⟨cR, lR, HBR⟩ := h
  have h := Chg.trans0 (Chg.drew HC.out) hc; clear HC; have HC := hid h; clear h
  clear hc
  go_wp2_with fail
  refine hK.out _ _ (HSI1.out _ ⟨cS, cR⟩) (fun hS1 => ?_)
  clear hK K
  try simp only [Act.put, pA, pB, pC]
  refine rgT 4 hS1 ?_
  refine rgT 5 hS1 ?_
  refine rgS 6 hS1 ?_
  refine rgS 7 hS1 ?_
  refine rgS 8 hS1 ?_
  refine rgS 9 hS1 ?_
  refine rgS 10 hS1 ?_
  refine rgT 11 hS1 ?_
  refine rgT 12 hS1 ?_
  refine rgS 13 hS1 ?_
  refine rgS 14 hS1 ?_
  refine rgS 15 hS1 ?_
  refine rgS 16 hS1 ?_
  refine rgS 17 hS1 ?_
  refine rgS 18 hS1 ?_
  refine rgT 19 hS1 ?_
  refine rgT 20 hS1 ?_
  refine rgS 21 hS1 ?_
  refine rgS 22 hS1 ?_
  refine rgS 23 hS1 ?_
  refine rgS 24 hS1 ?_
  refine rgS 25 hS1 ?_
  refine rgS 26 hS1 ?_
  refine rgT 27 hS1 ?_
  refine rgT 28 hS1 ?_
  refine wpAnyH_done (by kernel_rfl) ?_ _
  go_wp2_with fail
  obtain ⟨SS2, HSI2, HSO2⟩ := q0j (fun w' => Know (w.heap.size + 1) #[.int .i64 x.kind, .int .i64 x.seq, .string x.name, .int .i64 x.length, .int .i64 x.group, .int .i64 x.row, .slice a6 l6 c6, .slice a7 l7 c7, .slice a8 l8 c8] w')
  have hS0 := HSI2.out (w3.drew) (Know.of (by refine q0a ?_; exact HBR.out))
  refine q0k SS2 (by kernel_rfl) hS0 ?_
  refine rgT 0 hS0 ?_
  refine rgT 1 hS0 ?_
  refine rgT 2 hS0 ?_
  refine rgS 3 hS0 ?_
  refine rgS 4 hS0 ?_
  refine rgS 5 hS0 ?_
  refine rgS 6 hS0 ?_
  refine rgS 7 hS0 ?_
  refine rgT 8 hS0 ?_
  refine wpAnyH_done (by kernel_rfl) ?_ _
  go_wp2_with fail
  go_ret
  exact ⟨q0i HR.out.symm, (Chg.drew HC.out)⟩
 have hi1 := q1m h1.1 h1.2
 by_cases h2 : 0 ≤ x.row ∧ x.row ≤ s.rows - 1
 rotate_left
 ·have HC : Hid (Chg [] w w) := Chg.refl _ _
  have HR := hid (show recV s x = 3 by rw [q5h HK.out HQ.out, q0f (fun h => h2 h.2.1)]; rfl)
  have hi2 := q1t h2
  clear h1 h2
  go_enter Tryz.func222, Tryz.ntmps222
  go_wp2_with fail
  refine (q1d x.kind 1 4 _).mono ?_
  rintro e w1 ⟨rfl, hc⟩
  rw [hk]
  obtain ⟨cS, lS, HBS⟩ := bk hc (b := w.heap.size) (q0b (q0e (by simp) _) _) (by simp)
  obtain ⟨cR, lR, HBR⟩ := bk hc (b := w.heap.size + 1) (q0e (by simp) _) (by simp)
  have h := Chg.trans0 (Chg.alloc (Chg.alloc HC.out _) _) hc; clear HC; have HC := hid h; clear h
  clear hc
  go_wp2_with fail
  refine (q1d x.seq 1 1000000000 _).mono ?_
  rintro e w2 ⟨rfl, hc⟩
  rw [hq]
  have h := bk0 hc HBS.out; clear HBS cS lS; obtain ⟨cS, lS, HBS⟩ := h
  have h := bk0 hc HBR.out; clear HBR cR lR; obtain ⟨cR, lR, HBR⟩ := h
  replace HC := hct HC hc
  clear hc
  go_wp2_with fail
  obtain ⟨SS1, HSI1, HSO1⟩ := q0j (fun w' => Know (w.heap.size) #[.int .i64 s.gS, .int .i64 s.cM, .int .i64 s.data, .int .i64 s.spare, .int .i64 s.rows, .int .i64 s.cap, .int .i64 s.bT, .int .i64 s.qU, .int .i64 s.sG] w' ∧ Know (w.heap.size + 1) #[.int .i64 x.kind, .int .i64 x.seq, .string x.name, .int .i64 x.length, .int .i64 x.group, .int .i64 x.row, .slice a6 l6 c6, .slice a7 l7 c7, .slice a8 l8 c8] w')
  have hS0 := HSI1.out (w2.drew) ⟨(Know.of (by refine q0a ?_; exact HBS.out)), (Know.of (by refine q0a ?_; exact HBR.out))⟩
  refine q0k SS1 (by kernel_rfl) hS0 ?_
  refine rgL 0 hS0 HSO1 ?_
  refine rgT 1 hS0 ?_
  refine rgL 2 hS0 HSO1 ?_
  refine q0d 3 rfl (by kernel_rfl) (fun K hK => ?_)
  go_simp
  go_at_call 111
  refine (q4f s HS.out x.group _).mono ?_
  rintro e w3 ⟨rfl, hc⟩
  rw [hi1]
  have h := bk hc (q0a HBS.out) (by simp); clear HBS cS lS; obtain ⟨cS, lS, HBS⟩ := h
  have h := bk hc (q0a HBR.out) (by simp); clear HBR cR lR; obtain ⟨cR, lR, HBR⟩ := h
  have h := Chg.trans0 (Chg.drew HC.out) hc; clear HC; have HC := hid h; clear h
  clear hc
  go_wp2_with fail
  refine hK.out _ _ (HSI1.out _ ⟨cS, cR⟩) (fun hS1 => ?_)
  clear hK K
  try simp only [Act.put, pA, pB, pC]
  refine rgT 4 hS1 ?_
  refine rgT 5 hS1 ?_
  refine rgL 6 hS1 HSO1 ?_
  refine rgT 7 hS1 ?_
  refine rgL 8 hS1 HSO1 ?_
  refine q0d 9 rfl (by kernel_rfl) (fun K hK => ?_)
  go_simp
  go_at_call 134
  refine (q2h s HS.out x.row _).mono ?_
  rintro e w4 ⟨rfl, hc⟩
  rw [hi2]
  have h := bk0 hc HBS.out; clear HBS cS lS; obtain ⟨cS, lS, HBS⟩ := h
  have h := bk0 hc HBR.out; clear HBR cR lR; obtain ⟨cR, lR, HBR⟩ := h
  replace HC := hct HC hc
  clear hc
  go_wp2_with fail
  refine hK.out _ _ (HSI1.out _ ⟨cS, cR⟩) (fun hS2 => ?_)
  clear hK K
  try simp only [Act.put, pA, pB, pC]
  refine rgT 10 hS2 ?_
  refine rgT 11 hS2 ?_
  refine rgT 12 hS2 ?_
  refine rgS 13 hS2 ?_
  refine rgS 14 hS2 ?_
  refine rgS 15 hS2 ?_
  refine rgS 16 hS2 ?_
  refine rgS 17 hS2 ?_
  refine rgS 18 hS2 ?_
  refine rgT 19 hS2 ?_
  refine rgT 20 hS2 ?_
  refine rgS 21 hS2 ?_
  refine rgS 22 hS2 ?_
  refine rgS 23 hS2 ?_
  refine rgS 24 hS2 ?_
  refine rgS 25 hS2 ?_
  refine rgS 26 hS2 ?_
  refine rgT 27 hS2 ?_
  refine rgT 28 hS2 ?_
  refine wpAnyH_done (by kernel_rfl) ?_ _
  go_wp2_with fail
  obtain ⟨SS2, HSI2, HSO2⟩ := q0j (fun w' => Know (w.heap.size + 1) #[.int .i64 x.kind, .int .i64 x.seq, .string x.name, .int .i64 x.length, .int .i64 x.group, .int .i64 x.row, .slice a6 l6 c6, .slice a7 l7 c7, .slice a8 l8 c8] w')
  have hS0 := HSI2.out (w4.drew) (Know.of (by refine q0a ?_; exact HBR.out))
  refine q0k SS2 (by kernel_rfl) hS0 ?_
  refine rgT 0 hS0 ?_
  refine rgT 1 hS0 ?_
  refine rgT 2 hS0 ?_
  refine rgS 3 hS0 ?_
  refine rgS 4 hS0 ?_
  refine rgS 5 hS0 ?_
  refine rgS 6 hS0 ?_
  refine rgS 7 hS0 ?_
  refine rgT 8 hS0 ?_
  refine wpAnyH_done (by kernel_rfl) ?_ _
  go_wp2_with fail
  go_ret
  exact ⟨q0i HR.out.symm, (Chg.drew HC.out)⟩
 have hi2 := q1m h2.1 h2.2
 by_cases h3 : (l7 : Int) = s.wide
 rotate_left
 ·have HC : Hid (Chg [] w w) := Chg.refl _ _
  have HR := hid (show recV s x = 3 by rw [q5h HK.out HQ.out, q0f (fun h => h3 (by rw [Z7.out]; exact h.2.2.1))]; rfl)
  have e3 : ((l7 : Int) != s.wide) = true := by simp; exact h3
  clear h1 h2 h3
  go_enter Tryz.func222, Tryz.ntmps222
  go_wp2_with fail
  refine (q1d x.kind 1 4 _).mono ?_
  rintro e w1 ⟨rfl, hc⟩
  rw [hk]
  obtain ⟨cS, lS, HBS⟩ := bk hc (b := w.heap.size) (q0b (q0e (by simp) _) _) (by simp)
  obtain ⟨cR, lR, HBR⟩ := bk hc (b := w.heap.size + 1) (q0e (by simp) _) (by simp)
  have h := Chg.trans0 (Chg.alloc (Chg.alloc HC.out _) _) hc; clear HC; have HC := hid h; clear h
  clear hc
  go_wp2_with fail
  refine (q1d x.seq 1 1000000000 _).mono ?_
  rintro e w2 ⟨rfl, hc⟩
  rw [hq]
  have h := bk0 hc HBS.out; clear HBS cS lS; obtain ⟨cS, lS, HBS⟩ := h
  have h := bk0 hc HBR.out; clear HBR cR lR; obtain ⟨cR, lR, HBR⟩ := h
  replace HC := hct HC hc
  clear hc
  go_wp2_with fail
  obtain ⟨SS1, HSI1, HSO1⟩ := q0j (fun w' => Know (w.heap.size) #[.int .i64 s.gS, .int .i64 s.cM, .int .i64 s.data, .int .i64 s.spare, .int .i64 s.rows, .int .i64 s.cap, .int .i64 s.bT, .int .i64 s.qU, .int .i64 s.sG] w' ∧ Know (w.heap.size + 1) #[.int .i64 x.kind, .int .i64 x.seq, .string x.name, .int .i64 x.length, .int .i64 x.group, .int .i64 x.row, .slice a6 l6 c6, .slice a7 l7 c7, .slice a8 l8 c8] w')
  have hS0 := HSI1.out (w2.drew) ⟨(Know.of (by refine q0a ?_; exact HBS.out)), (Know.of (by refine q0a ?_; exact HBR.out))⟩
  refine q0k SS1 (by kernel_rfl) hS0 ?_
  refine rgL 0 hS0 HSO1 ?_
  refine rgT 1 hS0 ?_
  refine rgL 2 hS0 HSO1 ?_
  refine q0d 3 rfl (by kernel_rfl) (fun K hK => ?_)
  go_simp
  go_at_call 111
  refine (q4f s HS.out x.group _).mono ?_
  rintro e w3 ⟨rfl, hc⟩
  rw [hi1]
  have h := bk hc (q0a HBS.out) (by simp); clear HBS cS lS; obtain ⟨cS, lS, HBS⟩ := h
  have h := bk hc (q0a HBR.out) (by simp); clear HBR cR lR; obtain ⟨cR, lR, HBR⟩ := h
  have h := Chg.trans0 (Chg.drew HC.out) hc; clear HC; have HC := hid h; clear h
  clear hc
  go_wp2_with fail
  refine hK.out _ _ (HSI1.out _ ⟨cS, cR⟩) (fun hS1 => ?_)
  clear hK K
  try simp only [Act.put, pA, pB, pC]
  refine rgT 4 hS1 ?_
  refine rgT 5 hS1 ?_
  refine rgL 6 hS1 HSO1 ?_
  refine rgT 7 hS1 ?_
  refine rgL 8 hS1 HSO1 ?_
  refine q0d 9 rfl (by kernel_rfl) (fun K hK => ?_)
  go_simp
  go_at_call 134
  refine (q2h s HS.out x.row _).mono ?_
  rintro e w4 ⟨rfl, hc⟩
  rw [hi2]
  have h := bk0 hc HBS.out; clear HBS cS lS; obtain ⟨cS, lS, HBS⟩ := h
  have h := bk0 hc HBR.out; clear HBR cR lR; obtain ⟨cR, lR, HBR⟩ := h
  replace HC := hct HC hc
  clear hc
  go_wp2_with fail
  refine hK.out _ _ (HSI1.out _ ⟨cS, cR⟩) (fun hS2 => ?_)
  clear hK K
  try simp only [Act.put, pA, pB, pC]
  refine rgT 10 hS2 ?_
  refine rgT 11 hS2 ?_
  refine rgT 12 hS2 ?_
  refine rgT 13 hS2 ?_
  refine rgL 14 hS2 HSO1 ?_
  refine rgL 16 hS2 HSO1 ?_
  refine q0d 15 rfl (by kernel_rfl) (fun K hK => ?_)
  go_simp
  go_at_call 185
  refine (q2g a7 l7 c7 _ q7).mono ?_
  rintro e w5 ⟨rfl, hc⟩
  have h := bk0 hc HBS.out; clear HBS cS lS; obtain ⟨cS, lS, HBS⟩ := h
  have h := bk0 hc HBR.out; clear HBR cR lR; obtain ⟨cR, lR, HBR⟩ := h
  replace HC := hct HC hc
  clear hc
  go_wp2_with fail
  refine hK.out _ _ (HSI1.out _ ⟨cS, cR⟩) (fun hS3 => ?_)
  clear hK K
  try simp only [Act.put, pA, pB, pC]
  refine q0d 17 rfl (by kernel_rfl) (fun K hK => ?_)
  go_simp
  go_at_call 260
  refine (q1y s HS.out _).mono ?_
  rintro e w6 ⟨rfl, hc⟩
  have h := bk0 hc HBS.out; clear HBS cS lS; obtain ⟨cS, lS, HBS⟩ := h
  have h := bk0 hc HBR.out; clear HBR cR lR; obtain ⟨cR, lR, HBR⟩ := h
  replace HC := hct HC hc
  clear hc
  go_wp2_with fail
  refine hK.out _ _ (HSI1.out _ ⟨cS, cR⟩) (fun hS4 => ?_)
  clear hK K
  try simp only [Act.put, pA, pB, pC]
  refine rgT 18 hS4 ?_
  refine rgT 19 hS4 ?_
  refine rgT 20 hS4 ?_
  refine rgS 21 hS4 ?_
  refine rgS 22 hS4 ?_
  refine rgS 23 hS4 ?_
  refine rgS 24 hS4 ?_
  refine rgS 25 hS4 ?_
  refine rgS 26 hS4 ?_
  refine rgT 27 hS4 ?_
  refine rgT 28 hS4 ?_
  refine wpAnyH_done (by kernel_rfl) ?_ _
  go_wp2_with fail
  obtain ⟨SS2, HSI2, HSO2⟩ := q0j (fun w' => Know (w.heap.size + 1) #[.int .i64 x.kind, .int .i64 x.seq, .string x.name, .int .i64 x.length, .int .i64 x.group, .int .i64 x.row, .slice a6 l6 c6, .slice a7 l7 c7, .slice a8 l8 c8] w')
  have hS0 := HSI2.out (w6.drew) (Know.of (by refine q0a ?_; exact HBR.out))
  refine q0k SS2 (by kernel_rfl) hS0 ?_
  refine rgT 0 hS0 ?_
  refine rgT 1 hS0 ?_
  refine rgT 2 hS0 ?_
  refine rgS 3 hS0 ?_
  refine rgS 4 hS0 ?_
  refine rgS 5 hS0 ?_
  refine rgS 6 hS0 ?_
  refine rgS 7 hS0 ?_
  refine rgT 8 hS0 ?_
  refine wpAnyH_done (by kernel_rfl) ?_ _
  go_wp2_with fail
  go_ret
  exact ⟨q0i HR.out.symm, (Chg.drew HC.out)⟩
 have e3 : ((l7 : Int) != s.wide) = false := by simp; exact h3
 by_cases h4 : (l8 : Int) = s.wide
 rotate_left
 ·have HC : Hid (Chg [] w w) := Chg.refl _ _
  have HR := hid (show recV s x = 3 by rw [q5h HK.out HQ.out, q0f (fun h => h4 (by rw [Z8.out]; exact h.2.2.2))]; rfl)
  have e4 : ((l8 : Int) != s.wide) = true := by simp; exact h4
  clear h1 h2 h3 h4
  go_enter Tryz.func222, Tryz.ntmps222
  go_wp2_with fail
  refine (q1d x.kind 1 4 _).mono ?_
  rintro e w1 ⟨rfl, hc⟩
  rw [hk]
  obtain ⟨cS, lS, HBS⟩ := bk hc (b := w.heap.size) (q0b (q0e (by simp) _) _) (by simp)
  obtain ⟨cR, lR, HBR⟩ := bk hc (b := w.heap.size + 1) (q0e (by simp) _) (by simp)
  have h := Chg.trans0 (Chg.alloc (Chg.alloc HC.out _) _) hc; clear HC; have HC := hid h; clear h
  clear hc
  go_wp2_with fail
  refine (q1d x.seq 1 1000000000 _).mono ?_
  rintro e w2 ⟨rfl, hc⟩
  rw [hq]
  have h := bk0 hc HBS.out; clear HBS cS lS; obtain ⟨cS, lS, HBS⟩ := h
  have h := bk0 hc HBR.out; clear HBR cR lR; obtain ⟨cR, lR, HBR⟩ := h
  replace HC := hct HC hc
  clear hc
  go_wp2_with fail
  obtain ⟨SS1, HSI1, HSO1⟩ := q0j (fun w' => Know (w.heap.size) #[.int .i64 s.gS, .int .i64 s.cM, .int .i64 s.data, .int .i64 s.spare, .int .i64 s.rows, .int .i64 s.cap, .int .i64 s.bT, .int .i64 s.qU, .int .i64 s.sG] w' ∧ Know (w.heap.size + 1) #[.int .i64 x.kind, .int .i64 x.seq, .string x.name, .int .i64 x.length, .int .i64 x.group, .int .i64 x.row, .slice a6 l6 c6, .slice a7 l7 c7, .slice a8 l8 c8] w')
  have hS0 := HSI1.out (w2.drew) ⟨(Know.of (by refine q0a ?_; exact HBS.out)), (Know.of (by refine q0a ?_; exact HBR.out))⟩
  refine q0k SS1 (by kernel_rfl) hS0 ?_
  refine rgL 0 hS0 HSO1 ?_
  refine rgT 1 hS0 ?_
  refine rgL 2 hS0 HSO1 ?_
  refine q0d 3 rfl (by kernel_rfl) (fun K hK => ?_)
  go_simp
  go_at_call 111
  refine (q4f s HS.out x.group _).mono ?_
  rintro e w3 ⟨rfl, hc⟩
  rw [hi1]
  have h := bk hc (q0a HBS.out) (by simp); clear HBS cS lS; obtain ⟨cS, lS, HBS⟩ := h
  have h := bk hc (q0a HBR.out) (by simp); clear HBR cR lR; obtain ⟨cR, lR, HBR⟩ := h
  have h := Chg.trans0 (Chg.drew HC.out) hc; clear HC; have HC := hid h; clear h
  clear hc
  go_wp2_with fail
  refine hK.out _ _ (HSI1.out _ ⟨cS, cR⟩) (fun hS1 => ?_)
  clear hK K
  try simp only [Act.put, pA, pB, pC]
  refine rgT 4 hS1 ?_
  refine rgT 5 hS1 ?_
  refine rgL 6 hS1 HSO1 ?_
  refine rgT 7 hS1 ?_
  refine rgL 8 hS1 HSO1 ?_
  refine q0d 9 rfl (by kernel_rfl) (fun K hK => ?_)
  go_simp
  go_at_call 134
  refine (q2h s HS.out x.row _).mono ?_
  rintro e w4 ⟨rfl, hc⟩
  rw [hi2]
  have h := bk0 hc HBS.out; clear HBS cS lS; obtain ⟨cS, lS, HBS⟩ := h
  have h := bk0 hc HBR.out; clear HBR cR lR; obtain ⟨cR, lR, HBR⟩ := h
  replace HC := hct HC hc
  clear hc
  go_wp2_with fail
  refine hK.out _ _ (HSI1.out _ ⟨cS, cR⟩) (fun hS2 => ?_)
  clear hK K
  try simp only [Act.put, pA, pB, pC]
  refine rgT 10 hS2 ?_
  refine rgT 11 hS2 ?_
  refine rgT 12 hS2 ?_
  refine rgT 13 hS2 ?_
  refine rgL 14 hS2 HSO1 ?_
  refine rgL 16 hS2 HSO1 ?_
  refine q0d 15 rfl (by kernel_rfl) (fun K hK => ?_)
  go_simp
  go_at_call 185
  refine (q2g a7 l7 c7 _ q7).mono ?_
  rintro e w5 ⟨rfl, hc⟩
  have h := bk0 hc HBS.out; clear HBS cS lS; obtain ⟨cS, lS, HBS⟩ := h
  have h := bk0 hc HBR.out; clear HBR cR lR; obtain ⟨cR, lR, HBR⟩ := h
  replace HC := hct HC hc
  clear hc
  go_wp2_with fail
  refine hK.out _ _ (HSI1.out _ ⟨cS, cR⟩) (fun hS3 => ?_)
  clear hK K
  try simp only [Act.put, pA, pB, pC]
  refine q0d 17 rfl (by kernel_rfl) (fun K hK => ?_)
  go_simp
  go_at_call 260
  refine (q1y s HS.out _).mono ?_
  rintro e w6 ⟨rfl, hc⟩
  have h := bk0 hc HBS.out; clear HBS cS lS; obtain ⟨cS, lS, HBS⟩ := h
  have h := bk0 hc HBR.out; clear HBR cR lR; obtain ⟨cR, lR, HBR⟩ := h
  replace HC := hct HC hc
  clear hc
  go_wp2_with fail
  refine hK.out _ _ (HSI1.out _ ⟨cS, cR⟩) (fun hS4 => ?_)
  clear hK K
  try simp only [Act.put, pA, pB, pC]
  refine rgT 18 hS4 ?_
  refine rgT 19 hS4 ?_
  refine rgT 20 hS4 ?_
  refine rgT 21 hS4 ?_
  refine rgL 22 hS4 HSO1 ?_
  refine rgL 24 hS4 HSO1 ?_
  refine q0d 23 rfl (by kernel_rfl) (fun K hK => ?_)
  go_simp
  go_at_call 185
  refine (q2g a8 l8 c8 _ q8).mono ?_
  rintro e w7 ⟨rfl, hc⟩
  have h := bk0 hc HBS.out; clear HBS cS lS; obtain ⟨cS, lS, HBS⟩ := h
  have h := bk0 hc HBR.out; clear HBR cR lR; obtain ⟨cR, lR, HBR⟩ := h
  replace HC := hct HC hc
  clear hc
  go_wp2_with fail
  refine hK.out _ _ (HSI1.out _ ⟨cS, cR⟩) (fun hS5 => ?_)
  clear hK K
  try simp only [Act.put, pA, pB, pC]
  refine q0d 25 rfl (by kernel_rfl) (fun K hK => ?_)
  go_simp
  go_at_call 260
  refine (q1y s HS.out _).mono ?_
  rintro e w8 ⟨rfl, hc⟩
  have h := bk0 hc HBS.out; clear HBS cS lS; obtain ⟨cS, lS, HBS⟩ := h
  have h := bk0 hc HBR.out; clear HBR cR lR; obtain ⟨cR, lR, HBR⟩ := h
  replace HC := hct HC hc
  clear hc
  go_wp2_with fail
  refine hK.out _ _ (HSI1.out _ ⟨cS, cR⟩) (fun hS6 => ?_)
  clear hK K
  try simp only [Act.put, pA, pB, pC]
  refine rgT 26 hS6 ?_
  refine rgT 27 hS6 ?_
  refine rgT 28 hS6 ?_
  refine wpAnyH_done (by kernel_rfl) ?_ _
  go_wp2_with fail
  obtain ⟨SS2, HSI2, HSO2⟩ := q0j (fun w' => Know (w.heap.size + 1) #[.int .i64 x.kind, .int .i64 x.seq, .string x.name, .int .i64 x.length, .int .i64 x.group, .int .i64 x.row, .slice a6 l6 c6, .slice a7 l7 c7, .slice a8 l8 c8] w')
  have hS0 := HSI2.out (w8.drew) (Know.of (by refine q0a ?_; exact HBR.out))
  refine q0k SS2 (by kernel_rfl) hS0 ?_
  refine rgT 0 hS0 ?_
  refine rgT 1 hS0 ?_
  refine rgT 2 hS0 ?_
  refine rgS 3 hS0 ?_
  refine rgS 4 hS0 ?_
  refine rgS 5 hS0 ?_
  refine rgS 6 hS0 ?_
  refine rgS 7 hS0 ?_
  refine rgT 8 hS0 ?_
  refine wpAnyH_done (by kernel_rfl) ?_ _
  go_wp2_with fail
  go_ret
  exact ⟨q0i HR.out.symm, (Chg.drew HC.out)⟩
 have e4 : ((l8 : Int) != s.wide) = false := by simp; exact h4
 have HG := hid (q0g (show MoveOk s x from ⟨h1, h2, by rw [← Z7.out]; exact h3, by rw [← Z8.out]; exact h4⟩))
 clear h1 h2 h3 h4
 have HC : Hid (Chg [] w w) := Chg.refl _ _
 go_enter Tryz.func222, Tryz.ntmps222
 go_wp2_with fail
 refine (q1d x.kind 1 4 _).mono ?_
 rintro e w1 ⟨rfl, hc⟩
 rw [hk]
 obtain ⟨cS, lS, HBS⟩ := bk hc (b := w.heap.size) (q0b (q0e (by simp) _) _) (by simp)
 obtain ⟨cR, lR, HBR⟩ := bk hc (b := w.heap.size + 1) (q0e (by simp) _) (by simp)
 have h := Chg.trans0 (Chg.alloc (Chg.alloc HC.out _) _) hc; clear HC; have HC := hid h; clear h
 clear hc
 go_wp2_with fail
 refine (q1d x.seq 1 1000000000 _).mono ?_
 rintro e w2 ⟨rfl, hc⟩
 rw [hq]
 have h := bk0 hc HBS.out; clear HBS cS lS; obtain ⟨cS, lS, HBS⟩ := h
 have h := bk0 hc HBR.out; clear HBR cR lR; obtain ⟨cR, lR, HBR⟩ := h
 replace HC := hct HC hc
 clear hc
 go_wp2_with fail
 obtain ⟨SS1, HSI1, HSO1⟩ := q0j (fun w' => Know (w.heap.size) #[.int .i64 s.gS, .int .i64 s.cM, .int .i64 s.data, .int .i64 s.spare, .int .i64 s.rows, .int .i64 s.cap, .int .i64 s.bT, .int .i64 s.qU, .int .i64 s.sG] w' ∧ Know (w.heap.size + 1) #[.int .i64 x.kind, .int .i64 x.seq, .string x.name, .int .i64 x.length, .int .i64 x.group, .int .i64 x.row, .slice a6 l6 c6, .slice a7 l7 c7, .slice a8 l8 c8] w')
 have hS0 := HSI1.out (w2.drew) ⟨(Know.of (by refine q0a ?_; exact HBS.out)), (Know.of (by refine q0a ?_; exact HBR.out))⟩
 refine q0k SS1 (by kernel_rfl) hS0 ?_
 refine rgL 0 hS0 HSO1 ?_
 refine rgT 1 hS0 ?_
 refine rgL 2 hS0 HSO1 ?_
 refine q0d 3 rfl (by kernel_rfl) (fun K hK => ?_)
 go_simp
 go_at_call 111
 refine (q4f s HS.out x.group _).mono ?_
 rintro e w3 ⟨rfl, hc⟩
 rw [hi1]
 have h := bk hc (q0a HBS.out) (by simp); clear HBS cS lS; obtain ⟨cS, lS, HBS⟩ := h
 have h := bk hc (q0a HBR.out) (by simp); clear HBR cR lR; obtain ⟨cR, lR, HBR⟩ := h
 have h := Chg.trans0 (Chg.drew HC.out) hc; clear HC; have HC := hid h; clear h
 clear hc
 go_wp2_with fail
 refine hK.out _ _ (HSI1.out _ ⟨cS, cR⟩) (fun hS1 => ?_)
 clear hK K
 try simp only [Act.put, pA, pB, pC]
 refine rgT 4 hS1 ?_
 refine rgT 5 hS1 ?_
 refine rgL 6 hS1 HSO1 ?_
 refine rgT 7 hS1 ?_
 refine rgL 8 hS1 HSO1 ?_
 refine q0d 9 rfl (by kernel_rfl) (fun K hK => ?_)
 go_simp
 go_at_call 134
 refine (q2h s HS.out x.row _).mono ?_
 rintro e w4 ⟨rfl, hc⟩
 rw [hi2]
 have h := bk0 hc HBS.out; clear HBS cS lS; obtain ⟨cS, lS, HBS⟩ := h
 have h := bk0 hc HBR.out; clear HBR cR lR; obtain ⟨cR, lR, HBR⟩ := h
 replace HC := hct HC hc
 clear hc
 go_wp2_with fail
 refine hK.out _ _ (HSI1.out _ ⟨cS, cR⟩) (fun hS2 => ?_)
 clear hK K
 try simp only [Act.put, pA, pB, pC]
 refine rgT 10 hS2 ?_
 refine rgT 11 hS2 ?_
 refine rgT 12 hS2 ?_
 refine rgT 13 hS2 ?_
 refine rgL 14 hS2 HSO1 ?_
 refine rgL 16 hS2 HSO1 ?_
 refine q0d 15 rfl (by kernel_rfl) (fun K hK => ?_)
 go_simp
 go_at_call 185
 refine (q2g a7 l7 c7 _ q7).mono ?_
 rintro e w5 ⟨rfl, hc⟩
 have h := bk0 hc HBS.out; clear HBS cS lS; obtain ⟨cS, lS, HBS⟩ := h
 have h := bk0 hc HBR.out; clear HBR cR lR; obtain ⟨cR, lR, HBR⟩ := h
 replace HC := hct HC hc
 clear hc
 go_wp2_with fail
 refine hK.out _ _ (HSI1.out _ ⟨cS, cR⟩) (fun hS3 => ?_)
 clear hK K
 try simp only [Act.put, pA, pB, pC]
 refine q0d 17 rfl (by kernel_rfl) (fun K hK => ?_)
 go_simp
 go_at_call 260
 refine (q1y s HS.out _).mono ?_
 rintro e w6 ⟨rfl, hc⟩
 have h := bk0 hc HBS.out; clear HBS cS lS; obtain ⟨cS, lS, HBS⟩ := h
 have h := bk0 hc HBR.out; clear HBR cR lR; obtain ⟨cR, lR, HBR⟩ := h
 replace HC := hct HC hc
 clear hc
 go_wp2_with fail
 refine hK.out _ _ (HSI1.out _ ⟨cS, cR⟩) (fun hS4 => ?_)
 clear hK K
 try simp only [Act.put, pA, pB, pC]
 refine rgT 18 hS4 ?_
 refine rgT 19 hS4 ?_
 refine rgT 20 hS4 ?_
 refine rgT 21 hS4 ?_
 refine rgL 22 hS4 HSO1 ?_
 refine rgL 24 hS4 HSO1 ?_
 refine q0d 23 rfl (by kernel_rfl) (fun K hK => ?_)
 go_simp
 go_at_call 185
 refine (q2g a8 l8 c8 _ q8).mono ?_
 rintro e w7 ⟨rfl, hc⟩
 have h := bk0 hc HBS.out; clear HBS cS lS; obtain ⟨cS, lS, HBS⟩ := h
 have h := bk0 hc HBR.out; clear HBR cR lR; obtain ⟨cR, lR, HBR⟩ := h
 replace HC := hct HC hc
 clear hc
 go_wp2_with fail
 refine hK.out _ _ (HSI1.out _ ⟨cS, cR⟩) (fun hS5 => ?_)
 clear hK K
 try simp only [Act.put, pA, pB, pC]
 refine q0d 25 rfl (by kernel_rfl) (fun K hK => ?_)
 go_simp
 go_at_call 260
 refine (q1y s HS.out _).mono ?_
 rintro e w8 ⟨rfl, hc⟩
 have h := bk0 hc HBS.out; clear HBS cS lS; obtain ⟨cS, lS, HBS⟩ := h
 have h := bk0 hc HBR.out; clear HBR cR lR; obtain ⟨cR, lR, HBR⟩ := h
 replace HC := hct HC hc
 clear hc
 go_wp2_with fail
 refine hK.out _ _ (HSI1.out _ ⟨cS, cR⟩) (fun hS6 => ?_)
 clear hK K
 try simp only [Act.put, pA, pB, pC]
 refine rgT 26 hS6 ?_
 refine rgT 27 hS6 ?_
 refine rgT 28 hS6 ?_
 refine wpAnyH_done (by kernel_rfl) ?_ _
 go_wp2_with fail
 obtain ⟨SS2, HSI2, HSO2⟩ := q0j (fun w' => Know (w.heap.size + 1) #[.int .i64 x.kind, .int .i64 x.seq, .string x.name, .int .i64 x.length, .int .i64 x.group, .int .i64 x.row, .slice a6 l6 c6, .slice a7 l7 c7, .slice a8 l8 c8] w')
 have hS0 := HSI2.out (w8.drew) (Know.of (by refine q0a ?_; exact HBR.out))
 refine q0k SS2 (by kernel_rfl) hS0 ?_
 refine rgT 0 hS0 ?_
 refine rgT 1 hS0 ?_
 refine rgT 2 hS0 ?_
 refine rgL 3 hS0 HSO2 ?_
 refine rgL 4 hS0 HSO2 ?_
 refine q0d 5 rfl (by kernel_rfl) (fun K hK => ?_)
 go_simp
 go_at_call 261
 refine (q6z x #[.int .i64 x.kind, .int .i64 x.seq, .string x.name, .int .i64 x.length, .int .i64 x.group, .int .i64 x.row, .slice a6 l6 c6, .slice a7 l7 c7, .slice a8 l8 c8] fx _ (Lay.ext recL HX.out (Chg.drew HC.out)) HKK.out).mono ?_
 rintro e w9 ⟨cz, fz, rfl, hz, hc⟩
 have HZ := hid hz; clear hz
 have h := bk hc (q0a HBS.out) (by simp); clear HBS cS lS; obtain ⟨cS, lS, HBS⟩ := h
 have h := bk hc (q0a HBR.out) (by simp); clear HBR cR lR; obtain ⟨cR, lR, HBR⟩ := h
 have h := Chg.trans0 (Chg.drew HC.out) hc; clear HC; have HC := hid h; clear h
 clear hc
 go_wp2_with fail
 refine hK.out _ _ (HSI2.out _ cR) (fun hS1 => ?_)
 clear hK K
 try simp only [Act.put, pA, pB, pC]
 refine q0d 6 rfl (by kernel_rfl) (fun K hK => ?_)
 go_simp
 go_at_call 123
 refine (q4w x (q2s x) #[.int .i64 x.kind, .int .i64 x.seq, .string x.name, .int .i64 x.length, .int .i64 x.group, .int .i64 x.row, .slice a6 l6 c6, .slice a7 l7 c7, .slice a8 l8 c8] cz fx fz _ (Lay.ext recL HX.out HC.out) HZ.out).mono ?_
 rintro e w10 ⟨rfl, hc⟩
 have h := bk0 hc HBS.out; clear HBS cS lS; obtain ⟨cS, lS, HBS⟩ := h
 have h := bk0 hc HBR.out; clear HBR cR lR; obtain ⟨cR, lR, HBR⟩ := h
 replace HC := hct HC hc
 clear hc
 go_wp2_with fail
 refine hK.out _ _ (HSI2.out _ cR) (fun hS2 => ?_)
 clear hK K
 try simp only [Act.put, pA, pB, pC]
 refine rgT 7 hS2 ?_
 refine rgT 8 hS2 ?_
 refine wpAnyH_done (by kernel_rfl) ?_ _
 have HV := hid (show recV s x = if pb (x = q2s x) = true then 0 else 1 by rw [bare_2 HK.out]; exact (by rw [q5h HK.out HQ.out, if_pos HG.out]))
 cases hv : pb (x = q2s x)
 ·have HR := hid (HV.out.trans (if_neg (by rw [hv]; simp)))
  clear hv
  go_wp2_with fail
  go_ret
  exact ⟨q0i HR.out.symm, HC.out⟩
 ·have HR := hid (HV.out.trans (if_pos hv))
  clear hv
  go_wp2_with fail
  go_ret
  exact ⟨q0i HR.out.symm, HC.out⟩
theorem impl_rec (s : Shp) (hs : s.ok) (x : Rec) (cx : Array Value) (fx : List Nat) (w : World) (hx : recL.rep w cx.toList x fx) :
  Calls Tryz.prog 222 #[.agg s.cells, .agg cx] w fun e w' => e = .returned (.int .i64 (recV s x)) ∧ Chg [] w w' := by
 by_cases h : (1 ≤ x.kind ∧ x.kind ≤ 4) ∧ (1 ≤ x.seq ∧ x.seq ≤ 1000000000)
 ·have h2 : x.kind = 1 ∨ x.kind = 2 ∨ x.kind = 3 ∨ x.kind = 4 := by omega
  rcases h2 with h2 | h2 | h2 | h2
  ·exact impl_rec1 s hs x cx fx w hx h2 h.2
  ·exact impl_rec2 s hs x cx fx w hx h2 h.2
  ·exact impl_rec3 s hs x cx fx w hx h2 h.2
  ·exact impl_rec4 s hs x cx fx w hx h2 h.2
 ·exact impl_rec0 s hs x cx fx w hx h
theorem q5x (s : Shp) (x : Rec) (cx : Array Value) (fx : List Nat) (w : World) (hx : recL.rep w cx.toList x fx) :
  Calls Tryz.prog 119 #[.agg s.cells, .agg cx] w fun e w' => e = .returned (.int .i64 (recVF s x)) ∧ Chg [] w w' := by
 by_cases hf : s.fault = 0
 ·rw [show recVF s x = recV s x from if_pos hf]
  exact q5w s (Shp.ok_of hf) x cx fx w hx
 have HX := hid hx
 obtain ⟨a6, l6, c6, f6, a7, l7, c7, f7, a8, l8, c8, f8, ex, -⟩ := q0v.1 hx
 clear hx
 obtain rfl := Array.toList_inj.1 (ex.trans (List.toList_toArray).symm)
 clear ex
 have HR := hid (show recVF s x = s.fault from if_neg hf)
 have e1 : (s.fault != 0) = true := by simp; exact hf
 clear hf
 show Calls _ _ #[.agg #[.int .i64 s.gS, .int .i64 s.cM, .int .i64 s.data, .int .i64 s.spare, .int .i64 s.rows, .int .i64 s.cap, .int .i64 s.bT, .int .i64 s.qU, .int .i64 s.sG], .agg _] _ _
 have HC : Hid (Chg [] w w) := Chg.refl _ _
 go_enter Tryz.func119, Tryz.ntmps119
 go_wp2_with fail
 refine (q0n s _).mono ?_
 rintro e w1 ⟨rfl, hc⟩
 obtain ⟨cS, lS, HBS⟩ := bk hc (b := w.heap.size) (q0b (q0e (by simp) _) _) (by simp)
 obtain ⟨cR, lR, HBR⟩ := bk hc (b := w.heap.size + 1) (q0e (by simp) _) (by simp)
 have h := Chg.trans0 (Chg.alloc (Chg.alloc HC.out _) _) hc; clear HC; have HC := hid h; clear h
 clear hc
 go_wp2_with fail
 go_ret
 exact ⟨q0i HR.out.symm, HC.out⟩
end Go.Proofs.YtphmpimgbmedbaaGreat
