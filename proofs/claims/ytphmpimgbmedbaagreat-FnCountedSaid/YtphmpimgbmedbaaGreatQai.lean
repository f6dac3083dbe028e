/- Several texts in one. -/
import Derived.Test.YtphmpimgbmedbaaGreatQag
import Derived.Test.YtphmpimgbmedbaaGreatQah
set_option maxRecDepth 100000
set_option maxHeartbeats 8000000
namespace Go.Proofs.YtphmpimgbmedbaaGreat
open Go.RowKit
open Go.Lib (hid)
theorem spec_rec4 (s : Shp) (hs : s.ok) (x : Rec) (cx : Array Value) (fx : List Nat) (w : World) (hx : recL.rep w cx.toList x fx) (hk0 : x.kind = 4) (hq1 : 1 ≤ x.seq ∧ x.seq ≤ 1000000000) :
  Calls Tryz.prog 119 #[.agg s.cells, .agg cx] w fun e w' => e = .returned (.int .i64 (recV s x)) ∧ Chg [] w w' := by
 have HX := hid hx
 obtain ⟨a6, l6, c6, f6, a7, l7, c7, f7, a8, l8, c8, f8, ex, o0, o1, on, o3, o4, o5, h6, h7, h8, -⟩ := q0v.1 hx
 have HO := hid (And.intro o0 o1)
 clear hx o0 o1
 obtain rfl := Array.toList_inj.1 (ex.trans (List.toList_toArray).symm)
 clear ex
 have q6 := intL.sl_max h6; have q7 := q0p.sl_max h7; have q8 := q0p.sl_max h8
 have Z6 := hid h6.1; have Z7 := hid h7.1; have Z8 := hid h8.1
 have H6 := hid h6; have H7 := hid h7; have H8 := hid h8
 clear h6 h7 h8
 have hd := hs.data; have hr := hs.rows; have hg := hs.gS; have hal := hs.all
 have HS := hid hs
 clear hs
 have e50 : IntKind.i64.wrap (s.rows - 1) = s.rows - 1 := IntWalk.i64_in _ (by omega)
 have e51 : IntKind.i64.wrap (s.gS - 1) = s.gS - 1 := IntWalk.i64_in _ (by omega)
 have e52 : IntKind.i64.wrap (s.all - 1) = s.all - 1 := IntWalk.i64_in _ (by omega)
 show Calls _ _ #[.agg #[.int .i64 s.gS, .int .i64 s.cM, .int .i64 s.data, .int .i64 s.spare, .int .i64 s.rows, .int .i64 s.cap, .int .i64 s.bT, .int .i64 s.qU, .int .i64 s.sG], .agg _] _ _
 have HSF := hid (show s.fault = 0 from if_pos HS.out)
 have hwd := HS.out.wide
 have HQ := hid hq1
 have hk := q1m (n := x.kind) (a := 1) (b := 4) (by omega) (by omega)
 have hq := q1m hq1.1 hq1.2
 obtain ⟨hs1, hs2⟩ := hq1
 have HK := hid hk0
 have kd1 : (x.kind == 1) = false := by simp; omega
 have kd2 : (x.kind == 2) = false := by simp; omega
 have kd3 : (x.kind == 3) = false := by simp; omega
 have kd4 : (x.kind == 4) = true := by simp; omega
 clear hk0
 by_cases h1 : 0 ≤ x.group ∧ x.group ≤ s.all - 1
 rotate_left
 ·have HC : Hid (Chg [] w w) := Chg.refl _ _
  have HR := hid (show recV s x = 3 by rw [q6o HK.out HQ.out, q0f (fun h => h1 h.1)]; rfl)
  have hi1 := q1t h1
  clear h1
  go_enter Tryz.func119, Tryz.ntmps119
  go_wp2_with fail
  refine (q0n s _).mono ?_
  rintro e w1 ⟨rfl, hc⟩
  rw [HSF.out]
  obtain ⟨cS, lS, HBS⟩ := bk hc (b := w.heap.size) (q0b (q0e (by simp) _) _) (by simp)
  obtain ⟨cR, lR, HBR⟩ := bk hc (b := w.heap.size + 1) (q0e (by simp) _) (by simp)
  have h := Chg.trans0 (Chg.alloc (Chg.alloc HC.out _) _) hc; clear HC; have HC := hid h; clear h
  clear hc
  go_wp2_with fail
  refine (q0w x.kind 1 4 _).mono ?_
  rintro e w2 ⟨rfl, hc⟩
  rw [hk]
  have h := bk0 hc HBS.out; clear HBS cS lS; obtain ⟨cS, lS, HBS⟩ := h
  have h := bk0 hc HBR.out; clear HBR cR lR; obtain ⟨cR, lR, HBR⟩ := h
  replace HC := hct HC hc
  clear hc
  go_wp2_with fail
  refine (q0w x.seq 1 1000000000 _).mono ?_
  rintro e w3 ⟨rfl, hc⟩
  rw [hq]
  have h := bk0 hc HBS.out; clear HBS cS lS; obtain ⟨cS, lS, HBS⟩ := h
  have h := bk0 hc HBR.out; clear HBR cR lR; obtain ⟨cR, lR, HBR⟩ := h
  replace HC := hct HC hc
  clear hc
  have NT_S : w.heap.size ≠ w3.heap.size := by omega
  have NT_R : w.heap.size + 1 ≠ w3.heap.size := by omega
  have GT := Nat.le_trans HC.out.size (show w3.heap.size ≤ w3.heap.size by omega)
  go_wp2_with fail
  obtain ⟨SS1, HSI1, HSO1⟩ := q0j (fun w' => Know (w.heap.size) #[.int .i64 s.gS, .int .i64 s.cM, .int .i64 s.data, .int .i64 s.spare, .int .i64 s.rows, .int .i64 s.cap, .int .i64 s.bT, .int .i64 s.qU, .int .i64 s.sG] w' ∧ Know (w.heap.size + 1) #[.int .i64 x.kind, .int .i64 x.seq, .string x.name, .int .i64 x.length, .int .i64 x.group, .int .i64 x.row, .slice a6 l6 c6, .slice a7 l7 c7, .slice a8 l8 c8] w')
  have hS0 := HSI1.out ((w3.alloc (.cells #[.int .i64 x.kind, .int .i64 x.seq, .string x.name, .int .i64 x.length, .int .i64 x.group, .int .i64 x.row, .slice a6 l6 c6, .slice a7 l7 c7, .slice a8 l8 c8] 67)).drew) ⟨(Know.of (by refine q0a ?_; refine q0b ?_ _; exact HBS.out)), (Know.of (by refine q0a ?_; refine q0b ?_ _; exact HBR.out))⟩
  refine q0k SS1 (by kernel_rfl) hS0 ?_
  refine rgT 0 hS0 ?_
  refine rgL 1 hS0 HSO1 ?_
  refine rgL 2 hS0 HSO1 ?_
  refine q0d 3 rfl (by kernel_rfl) (fun K hK => ?_)
  go_simp
  go_at_call 100
  refine (q0r s HS.out _).mono ?_
  rintro e w4 ⟨rfl, hc⟩
  have h := bk hc (q0a (q0b HBS.out _)) (by simp); clear HBS cS lS; obtain ⟨cS, lS, HBS⟩ := h
  have h := bk hc (q0a (q0b HBR.out _)) (by simp); clear HBR cR lR; obtain ⟨cR, lR, HBR⟩ := h
  have h := hc.keepb (b := w3.heap.size) (q0a (q0e (by simp) _)) (by simp); have cT := cellsOf h; have lT := ltOf h; have fT := q0c h; have HBT := hid h; clear h
  have h := Chg.trans0 (Chg.drew (Chg.alloc HC.out _)) hc; clear HC; have HC := hid h; clear h
  clear hc
  go_wp2_with fail
  refine hK.out _ _ (HSI1.out _ ⟨cS, cR⟩) (fun hS1 => ?_)
  clear hK K
  try simp only [Act.put, pA, pB, pC]
  refine rgT 4 hS1 ?_
  refine q0d 5 rfl (by kernel_rfl) (fun K hK => ?_)
  go_simp
  go_at_call 70
  refine (q0w x.group 0 (s.all - 1) _).mono ?_
  rintro e w5 ⟨rfl, hc⟩
  rw [hi1]
  have h := bk0 hc HBS.out; clear HBS cS lS; obtain ⟨cS, lS, HBS⟩ := h
  have h := bk0 hc HBR.out; clear HBR cR lR; obtain ⟨cR, lR, HBR⟩ := h
  have h := hc.keepb HBT.out (by simp); clear HBT cT lT fT; have cT := cellsOf h; have lT := ltOf h; have fT := q0c h; have HBT := hid h; clear h
  replace HC := hct HC hc
  clear hc
  go_wp2_with fail
  refine hK.out _ _ (HSI1.out _ ⟨cS, cR⟩) (fun hS2 => ?_)
  clear hK K
  try simp only [Act.put, pA, pB, pC]
  refine rgT 6 hS2 ?_
  refine rgT 7 hS2 ?_
  refine rgS 8 hS2 ?_
  refine rgS 9 hS2 ?_
  refine rgS 10 hS2 ?_
  refine rgS 11 hS2 ?_
  refine rgS 12 hS2 ?_
  refine rgS 13 hS2 ?_
  refine rgS 14 hS2 ?_
  refine rgT 15 hS2 ?_
  refine rgT 16 hS2 ?_
  refine rgS 17 hS2 ?_
  refine rgS 18 hS2 ?_
  refine rgS 19 hS2 ?_
  refine rgS 20 hS2 ?_
  refine rgS 21 hS2 ?_
  refine rgS 22 hS2 ?_
  refine rgS 23 hS2 ?_
  refine rgT 24 hS2 ?_
  refine rgT 25 hS2 ?_
  refine rgS 26 hS2 ?_
  refine rgS 27 hS2 ?_
  refine rgS 28 hS2 ?_
  refine rgS 29 hS2 ?_
  refine rgS 30 hS2 ?_
  refine rgS 31 hS2 ?_
  refine rgT 32 hS2 ?_
  refine rgT 33 hS2 ?_
  refine rgS 34 hS2 ?_
  refine rgS 35 hS2 ?_
  refine rgS 36 hS2 ?_
  refine rgS 37 hS2 ?_
  refine rgT 38 hS2 ?_
  refine wpAnyH_done (by kernel_rfl) ?_ _
  go_wp2_with fail
  go_ret
  exact ⟨q0i HR.out.symm, HC.out⟩
 have hi1 := q1m h1.1 h1.2
 have HGR := hid h1
 by_cases h2 : 0 ≤ x.row ∧ x.row ≤ s.rows - 1
 rotate_left
 ·have HC : Hid (Chg [] w w) := Chg.refl _ _
  have HR := hid (show recV s x = 3 by rw [q6o HK.out HQ.out, q0f (fun h => h2 h.2.1)]; rfl)
  have hi2 := q1t h2
  clear h1 h2
  go_enter Tryz.func119, Tryz.ntmps119
  go_wp2_with fail
  refine (q0n s _).mono ?_
  rintro e w1 ⟨rfl, hc⟩
  rw [HSF.out]
  obtain ⟨cS, lS, HBS⟩ := bk hc (b := w.heap.size) (q0b (q0e (by simp) _) _) (by simp)
  obtain ⟨cR, lR, HBR⟩ := bk hc (b := w.heap.size + 1) (q0e (by simp) _) (by simp)
  have h := Chg.trans0 (Chg.alloc (Chg.alloc HC.out _) _) hc; clear HC; have HC := hid h; clear h
  clear hc
  go_wp2_with fail
  refine (q0w x.kind 1 4 _).mono ?_
  rintro e w2 ⟨rfl, hc⟩
  rw [hk]
  have h := bk0 hc HBS.out; clear HBS cS lS; obtain ⟨cS, lS, HBS⟩ := h
  have h := bk0 hc HBR.out; clear HBR cR lR; obtain ⟨cR, lR, HBR⟩ := h
  replace HC := hct HC hc
  clear hc
  go_wp2_with fail
  refine (q0w x.seq 1 1000000000 _).mono ?_
  rintro e w3 ⟨rfl, hc⟩
  rw [hq]
  have h := bk0 hc HBS.out; clear HBS cS lS; obtain ⟨cS, lS, HBS⟩ := h
  have h := bk0 hc HBR.out; clear HBR cR lR; obtain ⟨cR, lR, HBR⟩ := h
  replace HC := hct HC hc
  clear hc
  have NT_S : w.heap.size ≠ w3.heap.size := by omega
  have NT_R : w.heap.size + 1 ≠ w3.heap.size := by omega
  have GT := Nat.le_trans HC.out.size (show w3.heap.size ≤ w3.heap.size by omega)
  go_wp2_with fail
  obtain ⟨SS1, HSI1, HSO1⟩ := q0j (fun w' => Know (w.heap.size) #[.int .i64 s.gS, .int .i64 s.cM, .int .i64 s.data, .int .i64 s.spare, .int .i64 s.rows, .int .i64 s.cap, .int .i64 s.bT, .int .i64 s.qU, .int .i64 s.sG] w' ∧ Know (w.heap.size + 1) #[.int .i64 x.kind, .int .i64 x.seq, .string x.name, .int .i64 x.length, .int .i64 x.group, .int .i64 x.row, .slice a6 l6 c6, .slice a7 l7 c7, .slice a8 l8 c8] w')
  have hS0 := HSI1.out ((w3.alloc (.cells #[.int .i64 x.kind, .int .i64 x.seq, .string x.name, .int .i64 x.length, .int .i64 x.group, .int .i64 x.row, .slice a6 l6 c6, .slice a7 l7 c7, .slice a8 l8 c8] 67)).drew) ⟨(Know.of (by refine q0a ?_; refine q0b ?_ _; exact HBS.out)), (Know.of (by refine q0a ?_; refine q0b ?_ _; exact HBR.out))⟩
  refine q0k SS1 (by kernel_rfl) hS0 ?_
  refine rgT 0 hS0 ?_
  refine rgL 1 hS0 HSO1 ?_
  refine rgL 2 hS0 HSO1 ?_
  refine q0d 3 rfl (by kernel_rfl) (fun K hK => ?_)
  go_simp
  go_at_call 100
  refine (q0r s HS.out _).mono ?_
  rintro e w4 ⟨rfl, hc⟩
  have h := bk hc (q0a (q0b HBS.out _)) (by simp); clear HBS cS lS; obtain ⟨cS, lS, HBS⟩ := h
  have h := bk hc (q0a (q0b HBR.out _)) (by simp); clear HBR cR lR; obtain ⟨cR, lR, HBR⟩ := h
  have h := hc.keepb (b := w3.heap.size) (q0a (q0e (by simp) _)) (by simp); have cT := cellsOf h; have lT := ltOf h; have fT := q0c h; have HBT := hid h; clear h
  have h := Chg.trans0 (Chg.drew (Chg.alloc HC.out _)) hc; clear HC; have HC := hid h; clear h
  clear hc
  go_wp2_with fail
  refine hK.out _ _ (HSI1.out _ ⟨cS, cR⟩) (fun hS1 => ?_)
  clear hK K
  try simp only [Act.put, pA, pB, pC]
  refine rgT 4 hS1 ?_
  refine q0d 5 rfl (by kernel_rfl) (fun K hK => ?_)
  go_simp
  go_at_call 70
  refine (q0w x.group 0 (s.all - 1) _).mono ?_
  rintro e w5 ⟨rfl, hc⟩
  rw [hi1]
  have h := bk0 hc HBS.out; clear HBS cS lS; obtain ⟨cS, lS, HBS⟩ := h
  have h := bk0 hc HBR.out; clear HBR cR lR; obtain ⟨cR, lR, HBR⟩ := h
  have h := hc.keepb HBT.out (by simp); clear HBT cT lT fT; have cT := cellsOf h; have lT := ltOf h; have fT := q0c h; have HBT := hid h; clear h
  replace HC := hct HC hc
  clear hc
  go_wp2_with fail
  refine hK.out _ _ (HSI1.out _ ⟨cS, cR⟩) (fun hS2 => ?_)
  clear hK K
  try simp only [Act.put, pA, pB, pC]
  refine rgT 6 hS2 ?_
  refine rgT 7 hS2 ?_
  refine rgT 8 hS2 ?_
  refine rgL 9 hS2 HSO1 ?_
  refine rgT 10 hS2 ?_
  refine rgL 11 hS2 HSO1 ?_
  refine rgT 12 hS2 ?_
  refine q0d 13 rfl (by kernel_rfl) (fun K hK => ?_)
  go_simp
  go_at_call 70
  refine (q0w x.row 0 (s.rows - 1) _).mono ?_
  rintro e w6 ⟨rfl, hc⟩
  rw [hi2]
  have h := bk0 hc HBS.out; clear HBS cS lS; obtain ⟨cS, lS, HBS⟩ := h
  have h := bk0 hc HBR.out; clear HBR cR lR; obtain ⟨cR, lR, HBR⟩ := h
  have h := hc.keepb HBT.out (by simp); clear HBT cT lT fT; have cT := cellsOf h; have lT := ltOf h; have fT := q0c h; have HBT := hid h; clear h
  replace HC := hct HC hc
  clear hc
  go_wp2_with fail
  refine hK.out _ _ (HSI1.out _ ⟨cS, cR⟩) (fun hS3 => ?_)
  clear hK K
  try simp only [Act.put, pA, pB, pC]
  refine rgT 14 hS3 ?_
  refine rgT 15 hS3 ?_
  refine rgT 16 hS3 ?_
  refine rgS 17 hS3 ?_
  refine rgS 18 hS3 ?_
  refine rgS 19 hS3 ?_
  refine rgS 20 hS3 ?_
  refine rgS 21 hS3 ?_
  refine rgS 22 hS3 ?_
  refine rgS 23 hS3 ?_
  refine rgT 24 hS3 ?_
  refine rgT 25 hS3 ?_
  refine rgS 26 hS3 ?_
  refine rgS 27 hS3 ?_
  refine rgS 28 hS3 ?_
  refine rgS 29 hS3 ?_
  refine rgS 30 hS3 ?_
  refine rgS 31 hS3 ?_
  refine rgT 32 hS3 ?_
  refine rgT 33 hS3 ?_
  refine rgS 34 hS3 ?_
  refine rgS 35 hS3 ?_
  refine rgS 36 hS3 ?_
  refine rgS 37 hS3 ?_
  refine rgT 38 hS3 ?_
  refine wpAnyH_done (by kernel_rfl) ?_ _
  go_wp2_with fail
  go_ret
  exact ⟨q0i HR.out.symm, HC.out⟩
 have hi2 := q1m h2.1 h2.2
 by_cases h3 : q4n (s.all - 1) x.rows
 rotate_left
 ·have HC : Hid (Chg [] w w) := Chg.refl _ _
  have HR := hid (show recV s x = 3 by rw [q6o HK.out HQ.out, q0f (fun h => h3 h.2.2.1)]; rfl)
  have HI3 := hid (q0f h3)
  clear h1 h2 h3
  go_enter Tryz.func119, Tryz.ntmps119
  go_wp2_with fail
  refine (q0n s _).mono ?_
  rintro e w1 ⟨rfl, hc⟩
  rw [HSF.out]
  obtain ⟨cS, lS, HBS⟩ := bk hc (b := w.heap.size) (q0b (q0e (by simp) _) _) (by simp)
  obtain ⟨cR, lR, HBR⟩ := bk hc (b := w.heap.size + 1) (q0e (by simp) _) (by simp)
  have h := Chg.trans0 (Chg.alloc (Chg.alloc HC.out _) _) hc; clear HC; have HC := hid h; clear h
  clear hc
  go_wp2_with fail
  refine (q0w x.kind 1 4 _).mono ?_
  rintro e w2 ⟨rfl, hc⟩
  rw [hk]
  have h := bk0 hc HBS.out; clear HBS cS lS; obtain ⟨cS, lS, HBS⟩ := h
  have h := bk0 hc HBR.out; clear HBR cR lR; obtain ⟨cR, lR, HBR⟩ := h
  replace HC := hct HC hc
  clear hc
  go_wp2_with fail
  refine (q0w x.seq 1 1000000000 _).mono ?_
  rintro e w3 ⟨rfl, hc⟩
  rw [hq]
  have h := bk0 hc HBS.out; clear HBS cS lS; obtain ⟨cS, lS, HBS⟩ := h
  have h := bk0 hc HBR.out; clear HBR cR lR; obtain ⟨cR, lR, HBR⟩ := h
  replace HC := hct HC hc
  clear hc
  have NT_S : w.heap.size ≠ w3.heap.size := by omega
  have NT_R : w.heap.size + 1 ≠ w3.heap.size := by omega
  have GT := Nat.le_trans HC.out.size (show w3.heap.size ≤ w3.heap.size by omega)
  go_wp2_with fail
  obtain ⟨SS1, HSI1, HSO1⟩ := q0j (fun w' => Know (w.heap.size) #[.int .i64 s.gS, .int .i64 s.cM, .int .i64 s.data, .int .i64 s.spare, .int .i64 s.rows, .int .i64 s.cap, .int .i64 s.bT, .int .i64 s.qU, .int .i64 s.sG] w' ∧ Know (w.heap.size + 1) #[.int .i64 x.kind, .int .i64 x.seq, .string x.name, .int .i64 x.length, .int .i64 x.group, .int .i64 x.row, .slice a6 l6 c6, .slice a7 l7 c7, .slice a8 l8 c8] w')
  have hS0 := HSI1.out ((w3.alloc (.cells #[.int .i64 x.kind, .int .i64 x.seq, .string x.name, .int .i64 x.length, .int .i64 x.group, .int .i64 x.row, .slice a6 l6 c6, .slice a7 l7 c7, .slice a8 l8 c8] 67)).drew) ⟨(Know.of (by refine q0a ?_; refine q0b ?_ _; exact HBS.out)), (Know.of (by refine q0a ?_; refine q0b ?_ _; exact HBR.out))⟩
  refine q0k SS1 (by kernel_rfl) hS0 ?_
  refine rgT 0 hS0 ?_
  refine rgL 1 hS0 HSO1 ?_
  refine rgL 2 hS0 HSO1 ?_
  refine q0d 3 rfl (by kernel_rfl) (fun K hK => ?_)
  go_simp
  go_at_call 100
  refine (q0r s HS.out _).mono ?_
  rintro e w4 ⟨rfl, hc⟩
  have h := bk hc (q0a (q0b HBS.out _)) (by simp); clear HBS cS lS; obtain ⟨cS, lS, HBS⟩ := h
  have h := bk hc (q0a (q0b HBR.out _)) (by simp); clear HBR cR lR; obtain ⟨cR, lR, HBR⟩ := h
  have h := hc.keepb (b := w3.heap.size) (q0a (q0e (by simp) _)) (by simp); have cT := cellsOf h; have lT := ltOf h; have fT := q0c h; have HBT := hid h; clear h
  have h := Chg.trans0 (Chg.drew (Chg.alloc HC.out _)) hc; clear HC; have HC := hid h; clear h
  clear hc
  go_wp2_with fail
  refine hK.out _ _ (HSI1.out _ ⟨cS, cR⟩) (fun hS1 => ?_)
  clear hK K
  try simp only [Act.put, pA, pB, pC]
  refine rgT 4 hS1 ?_
  refine q0d 5 rfl (by kernel_rfl) (fun K hK => ?_)
  go_simp
  go_at_call 70
  refine (q0w x.group 0 (s.all - 1) _).mono ?_
  rintro e w5 ⟨rfl, hc⟩
  rw [hi1]
  have h := bk0 hc HBS.out; clear HBS cS lS; obtain ⟨cS, lS, HBS⟩ := h
  have h := bk0 hc HBR.out; clear HBR cR lR; obtain ⟨cR, lR, HBR⟩ := h
  have h := hc.keepb HBT.out (by simp); clear HBT cT lT fT; have cT := cellsOf h; have lT := ltOf h; have fT := q0c h; have HBT := hid h; clear h
  replace HC := hct HC hc
  clear hc
  go_wp2_with fail
  refine hK.out _ _ (HSI1.out _ ⟨cS, cR⟩) (fun hS2 => ?_)
  clear hK K
  try simp only [Act.put, pA, pB, pC]
  refine rgT 6 hS2 ?_
  refine rgT 7 hS2 ?_
  refine rgT 8 hS2 ?_
  refine rgL 9 hS2 HSO1 ?_
  refine rgT 10 hS2 ?_
  refine rgL 11 hS2 HSO1 ?_
  refine rgT 12 hS2 ?_
  refine q0d 13 rfl (by kernel_rfl) (fun K hK => ?_)
  go_simp
  go_at_call 70
  refine (q0w x.row 0 (s.rows - 1) _).mono ?_
  rintro e w6 ⟨rfl, hc⟩
  rw [hi2]
  have h := bk0 hc HBS.out; clear HBS cS lS; obtain ⟨cS, lS, HBS⟩ := h
  have h := bk0 hc HBR.out; clear HBR cR lR; obtain ⟨cR, lR, HBR⟩ := h
  have h := hc.keepb HBT.out (by simp); clear HBT cT lT fT; have cT := cellsOf h; have lT := ltOf h; have fT := q0c h; have HBT := hid h; clear h
  replace HC := hct HC hc
  clear hc
  go_wp2_with fail
  refine hK.out _ _ (HSI1.out _ ⟨cS, cR⟩) (fun hS3 => ?_)
  clear hK K
  try simp only [Act.put, pA, pB, pC]
  refine rgT 14 hS3 ?_
  refine rgT 15 hS3 ?_
  refine rgT 16 hS3 ?_
  refine rgT 17 hS3 ?_
  refine rgL 18 hS3 HSO1 ?_
  refine rgL 19 hS3 HSO1 ?_
  refine q0d 20 rfl (by kernel_rfl) (fun K hK => ?_)
  go_simp
  go_at_call 100
  refine (q0r s HS.out _).mono ?_
  rintro e w7 ⟨rfl, hc⟩
  have h := bk0 hc HBS.out; clear HBS cS lS; obtain ⟨cS, lS, HBS⟩ := h
  have h := bk0 hc HBR.out; clear HBR cR lR; obtain ⟨cR, lR, HBR⟩ := h
  have h := hc.keepb HBT.out (by simp); clear HBT cT lT fT; have cT := cellsOf h; have lT := ltOf h; have fT := q0c h; have HBT := hid h; clear h
  replace HC := hct HC hc
  clear hc
  go_wp2_with fail
  refine hK.out _ _ (HSI1.out _ ⟨cS, cR⟩) (fun hS4 => ?_)
  clear hK K
  try simp only [Act.put, pA, pB, pC]
  refine rgT 21 hS4 ?_
  refine q0d 22 rfl (by kernel_rfl) (fun K hK => ?_)
  go_simp
  go_at_call 195
  refine (q5e a6 l6 c6 x.rows f6 (s.all - 1) _ (Lay.sl_ext intL H6.out HC.out) (by omega) (by omega)).mono ?_
  rintro e w8 ⟨rfl, hc⟩
  rw [HI3.out]
  have h := bk0 hc HBS.out; clear HBS cS lS; obtain ⟨cS, lS, HBS⟩ := h
  have h := bk0 hc HBR.out; clear HBR cR lR; obtain ⟨cR, lR, HBR⟩ := h
  have h := hc.keepb HBT.out (by simp); clear HBT cT lT fT; have cT := cellsOf h; have lT := ltOf h; have fT := q0c h; have HBT := hid h; clear h
  replace HC := hct HC hc
  clear hc
  go_wp2_with fail
  refine hK.out _ _ (HSI1.out _ ⟨cS, cR⟩) (fun hS5 => ?_)
  clear hK K
  try simp only [Act.put, pA, pB, pC]
  refine rgT 23 hS5 ?_
  refine rgT 24 hS5 ?_
  refine rgT 25 hS5 ?_
  refine rgS 26 hS5 ?_
  refine rgS 27 hS5 ?_
  refine rgS 28 hS5 ?_
  refine rgS 29 hS5 ?_
  refine rgS 30 hS5 ?_
  refine rgS 31 hS5 ?_
  refine rgT 32 hS5 ?_
  refine rgT 33 hS5 ?_
  refine rgS 34 hS5 ?_
  refine rgS 35 hS5 ?_
  refine rgS 36 hS5 ?_
  refine rgS 37 hS5 ?_
  refine rgT 38 hS5 ?_
  refine wpAnyH_done (by kernel_rfl) ?_ _
  go_wp2_with fail
  go_ret
  exact ⟨q0i HR.out.symm, HC.out⟩
 have HI3 := hid (q0g h3)
 have HRI := hid h3
 by_cases h4 : (l7 : Int) = s.wide
 rotate_left
 ·have HC : Hid (Chg [] w w) := Chg.refl _ _
  have HR := hid (show recV s x = 3 by rw [q6o HK.out HQ.out, q0f (fun h => h4 (by rw [Z7.out]; exact h.2.2.2.1))]; rfl)
  have e4 : ((l7 : Int) != s.wide) = true := by simp; exact h4
  clear h1 h2 h3 h4
  go_enter Tryz.func119, Tryz.ntmps119
  go_wp2_with fail
  refine (q0n s _).mono ?_
  rintro e w1 ⟨rfl, hc⟩
  rw [HSF.out]
  obtain ⟨cS, lS, HBS⟩ := bk hc (b := w.heap.size) (q0b (q0e (by simp) _) _) (by simp)
  obtain ⟨cR, lR, HBR⟩ := bk hc (b := w.heap.size + 1) (q0e (by simp) _) (by simp)
  have h := Chg.trans0 (Chg.alloc (Chg.alloc HC.out _) _) hc; clear HC; have HC := hid h; clear h
  clear hc
  go_wp2_with fail
  refine (q0w x.kind 1 4 _).mono ?_
  rintro e w2 ⟨rfl, hc⟩
  rw [hk]
  have h := bk0 hc HBS.out; clear HBS cS lS; obtain ⟨cS, lS, HBS⟩ := h
  have h := bk0 hc HBR.out; clear HBR cR lR; obtain ⟨cR, lR, HBR⟩ := h
  replace HC := hct HC hc
  clear hc
  go_wp2_with fail
  refine (q0w x.seq 1 1000000000 _).mono ?_
  rintro e w3 ⟨rfl, hc⟩
  rw [hq]
  have h := bk0 hc HBS.out; clear HBS cS lS; obtain ⟨cS, lS, HBS⟩ := h
  have h := bk0 hc HBR.out; clear HBR cR lR; obtain ⟨cR, lR, HBR⟩ := h
  replace HC := hct HC hc
  clear hc
  have NT_S : w.heap.size ≠ w3.heap.size := by omega
  have NT_R : w.heap.size + 1 ≠ w3.heap.size := by omega
  have GT := Nat.le_trans HC.out.size (show w3.heap.size ≤ w3.heap.size by omega)
  go_wp2_with fail
  obtain ⟨SS1, HSI1, HSO1⟩ := q0j (fun w' => Know (w.heap.size) #[.int .i64 s.gS, .int .i64 s.cM, .int .i64 s.data, .int .i64 s.spare, .int .i64 s.rows, .int .i64 s.cap, .int .i64 s.bT, .int .i64 s.qU, .int .i64 s.sG] w' ∧ Know (w.heap.size + 1) #[.int .i64 x.kind, .int .i64 x.seq, .string x.name, .int .i64 x.length, .int .i64 x.group, .int .i64 x.row, .slice a6 l6 c6, .slice a7 l7 c7, .slice a8 l8 c8] w')
  have hS0 := HSI1.out ((w3.alloc (.cells #[.int .i64 x.kind, .int .i64 x.seq, .string x.name, .int .i64 x.length, .int .i64 x.group, .int .i64 x.row, .slice a6 l6 c6, .slice a7 l7 c7, .slice a8 l8 c8] 67)).drew) ⟨(Know.of (by refine q0a ?_; refine q0b ?_ _; exact HBS.out)), (Know.of (by refine q0a ?_; refine q0b ?_ _; exact HBR.out))⟩
  refine q0k SS1 (by kernel_rfl) hS0 ?_
  refine rgT 0 hS0 ?_
  refine rgL 1 hS0 HSO1 ?_
  refine rgL 2 hS0 HSO1 ?_
  refine q0d 3 rfl (by kernel_rfl) (fun K hK => ?_)
  go_simp
  go_at_call 100
  refine (q0r s HS.out _).mono ?_
  rintro e w4 ⟨rfl, hc⟩
  have h := bk hc (q0a (q0b HBS.out _)) (by simp); clear HBS cS lS; obtain ⟨cS, lS, HBS⟩ := h
  have h := bk hc (q0a (q0b HBR.out _)) (by simp); clear HBR cR lR; obtain ⟨cR, lR, HBR⟩ := h
  have h := hc.keepb (b := w3.heap.size) (q0a (q0e (by simp) _)) (by simp); have cT := cellsOf h; have lT := ltOf h; have fT := q0c h; have HBT := hid h; clear h
  have h := Chg.trans0 (Chg.drew (Chg.alloc HC.out _)) hc; clear HC; have HC := hid h; clear h
  clear hc
  go_wp2_with fail
  refine hK.out _ _ (HSI1.out _ ⟨cS, cR⟩) (fun hS1 => ?_)
  clear hK K
  try simp only [Act.put, pA, pB, pC]
  refine rgT 4 hS1 ?_
  refine q0d 5 rfl (by kernel_rfl) (fun K hK => ?_)
  go_simp
  go_at_call 70
  refine (q0w x.group 0 (s.all - 1) _).mono ?_
  rintro e w5 ⟨rfl, hc⟩
  rw [hi1]
  have h := bk0 hc HBS.out; clear HBS cS lS; obtain ⟨cS, lS, HBS⟩ := h
  have h := bk0 hc HBR.out; clear HBR cR lR; obtain ⟨cR, lR, HBR⟩ := h
  have h := hc.keepb HBT.out (by simp); clear HBT cT lT fT; have cT := cellsOf h; have lT := ltOf h; have fT := q0c h; have HBT := hid h; clear h
  replace HC := hct HC hc
  clear hc
  go_wp2_with fail
  refine hK.out _ _ (HSI1.out _ ⟨cS, cR⟩) (fun hS2 => ?_)
  clear hK K
  try simp only [Act.put, pA, pB, pC]
  refine rgT 6 hS2 ?_
  refine rgT 7 hS2 ?_
  refine rgT 8 hS2 ?_
  refine rgL 9 hS2 HSO1 ?_
  refine rgT 10 hS2 ?_
  refine rgL 11 hS2 HSO1 ?_
  refine rgT 12 hS2 ?_
  refine q0d 13 rfl (by kernel_rfl) (fun K hK => ?_)
  go_simp
  go_at_call 70
  refine (q0w x.row 0 (s.rows - 1) _).mono ?_
  rintro e w6 ⟨rfl, hc⟩
  rw [hi2]
  have h := bk0 hc HBS.out; clear HBS cS lS; obtain ⟨cS, lS, HBS⟩ := h
  have h := bk0 hc HBR.out; clear HBR cR lR; obtain ⟨cR, lR, HBR⟩ := h
  have h := hc.keepb HBT.out (by simp); clear HBT cT lT fT; have cT := cellsOf h; have lT := ltOf h; have fT := q0c h; have HBT := hid h; clear h
  replace HC := hct HC hc
  clear hc
  go_wp2_with fail
  refine hK.out _ _ (HSI1.out _ ⟨cS, cR⟩) (fun hS3 => ?_)
  clear hK K
  try simp only [Act.put, pA, pB, pC]
  refine rgT 14 hS3 ?_
  refine rgT 15 hS3 ?_
  refine rgT 16 hS3 ?_
  refine rgT 17 hS3 ?_
  refine rgL 18 hS3 HSO1 ?_
  refine rgL 19 hS3 HSO1 ?_
  refine q0d 20 rfl (by kernel_rfl) (fun K hK => ?_)
  go_simp
  go_at_call 100
  refine (q0r s HS.out _).mono ?_
  rintro e w7 ⟨rfl, hc⟩
  have h := bk0 hc HBS.out; clear HBS cS lS; obtain ⟨cS, lS, HBS⟩ := h
  have h := bk0 hc HBR.out; clear HBR cR lR; obtain ⟨cR, lR, HBR⟩ := h
  have h := hc.keepb HBT.out (by simp); clear HBT cT lT fT; have cT := cellsOf h; have lT := ltOf h; have fT := q0c h; have HBT := hid h; clear h
  replace HC := hct HC hc
  clear hc
  go_wp2_with fail
  refine hK.out _ _ (HSI1.out _ ⟨cS, cR⟩) (fun hS4 => ?_)
  clear hK K
  try simp only [Act.put, pA, pB, pC]
  refine rgT 21 hS4 ?_
  refine q0d 22 rfl (by kernel_rfl) (fun K hK => ?_)
  go_simp
  go_at_call 195
  refine (q5e a6 l6 c6 x.rows f6 (s.all - 1) _ (Lay.sl_ext intL H6.out HC.out) (by omega) (by omega)).mono ?_
  rintro e w8 ⟨rfl, hc⟩
  rw [HI3.out]
  have h := bk0 hc HBS.out; clear HBS cS lS; obtain ⟨cS, lS, HBS⟩ := h
  have h := bk0 hc HBR.out; clear HBR cR lR; obtain ⟨cR, lR, HBR⟩ := h
  have h := hc.keepb HBT.out (by simp); clear HBT cT lT fT; have cT := cellsOf h; have lT := ltOf h; have fT := q0c h; have HBT := hid h; clear h
  replace HC := hct HC hc
  clear hc
  go_wp2_with fail
  refine hK.out _ _ (HSI1.out _ ⟨cS, cR⟩) (fun hS5 => ?_)
  clear hK K
  try simp only [Act.put, pA, pB, pC]
  refine rgT 23 hS5 ?_
  refine rgT 24 hS5 ?_
  refine rgT 25 hS5 ?_
  refine rgT 26 hS5 ?_
  refine rgL 27 hS5 HSO1 ?_
  refine rgT 28 hS5 ?_
  refine rgL 29 hS5 HSO1 ?_
  refine q0d 30 rfl (by kernel_rfl) (fun K hK => ?_)
  go_simp
  go_at_call 194
  refine (q3n s HS.out _).mono ?_
  rintro e w9 ⟨rfl, hc⟩
  have h := bk0 hc HBS.out; clear HBS cS lS; obtain ⟨cS, lS, HBS⟩ := h
  have h := bk0 hc HBR.out; clear HBR cR lR; obtain ⟨cR, lR, HBR⟩ := h
  have h := hc.keepb HBT.out (by simp); clear HBT cT lT fT; have cT := cellsOf h; have lT := ltOf h; have fT := q0c h; have HBT := hid h; clear h
  replace HC := hct HC hc
  clear hc
  go_wp2_with fail
  refine hK.out _ _ (HSI1.out _ ⟨cS, cR⟩) (fun hS6 => ?_)
  clear hK K
  try simp only [Act.put, pA, pB, pC]
  refine rgT 31 hS6 ?_
  refine rgT 32 hS6 ?_
  refine rgT 33 hS6 ?_
  refine rgS 34 hS6 ?_
  refine rgS 35 hS6 ?_
  refine rgS 36 hS6 ?_
  refine rgS 37 hS6 ?_
  refine rgT 38 hS6 ?_
  refine wpAnyH_done (by kernel_rfl) ?_ _
  go_wp2_with fail
  go_ret
  exact ⟨q0i HR.out.symm, HC.out⟩
 have e4 : ((l7 : Int) != s.wide) = false := by simp; exact h4
 by_cases h5 : q2n s x
 rotate_left
 ·have HC : Hid (Chg [] w w) := Chg.refl _ _
  have HR := hid (show recV s x = 3 by rw [q6o HK.out HQ.out, q0f (fun h => h5 h.2.2.2.2)]; rfl)
  have HW := hid (q0f h5)
  clear h1 h2 h3 h4 h5
  go_enter Tryz.func119, Tryz.ntmps119
  go_wp2_with fail
  refine (q0n s _).mono ?_
  rintro e w1 ⟨rfl, hc⟩
  rw [HSF.out]
  obtain ⟨cS, lS, HBS⟩ := bk hc (b := w.heap.size) (q0b (q0e (by simp) _) _) (by simp)
  obtain ⟨cR, lR, HBR⟩ := bk hc (b := w.heap.size + 1) (q0e (by simp) _) (by simp)
  have h := Chg.trans0 (Chg.alloc (Chg.alloc HC.out _) _) hc; clear HC; have HC := hid h; clear h
  clear hc
  go_wp2_with fail
  refine (q0w x.kind 1 4 _).mono ?_
  rintro e w2 ⟨rfl, hc⟩
  rw [hk]
  have h := bk0 hc HBS.out; clear HBS cS lS; obtain ⟨cS, lS, HBS⟩ := h
  have h := bk0 hc HBR.out; clear HBR cR lR; obtain ⟨cR, lR, HBR⟩ := h
  replace HC := hct HC hc
  clear hc
  go_wp2_with fail
  refine (q0w x.seq 1 1000000000 _).mono ?_
  rintro e w3 ⟨rfl, hc⟩
  rw [hq]
  have h := bk0 hc HBS.out; clear HBS cS lS; obtain ⟨cS, lS, HBS⟩ := h
  have h := bk0 hc HBR.out; clear HBR cR lR; obtain ⟨cR, lR, HBR⟩ := h
  replace HC := hct HC hc
  clear hc
  have NT_S : w.heap.size ≠ w3.heap.size := by omega
  have NT_R : w.heap.size + 1 ≠ w3.heap.size := by omega
  have GT := Nat.le_trans HC.out.size (show w3.heap.size ≤ w3.heap.size by omega)
  go_wp2_with fail
  obtain ⟨SS1, HSI1, HSO1⟩ := q0j (fun w' => Know (w.heap.size) #[.int .i64 s.gS, .int .i64 s.cM, .int .i64 s.data, .int .i64 s.spare, .int .i64 s.rows, .int .i64 s.cap, .int .i64 s.bT, .int .i64 s.qU, .int .i64 s.sG] w' ∧ Know (w.heap.size + 1) #[.int .i64 x.kind, .int .i64 x.seq, .string x.name, .int .i64 x.length, .int .i64 x.group, .int .i64 x.row, .slice a6 l6 c6, .slice a7 l7 c7, .slice a8 l8 c8] w')
  have hS0 := HSI1.out ((w3.alloc (.cells #[.int .i64 x.kind, .int .i64 x.seq, .string x.name, .int .i64 x.length, .int .i64 x.group, .int .i64 x.row, .slice a6 l6 c6, .slice a7 l7 c7, .slice a8 l8 c8] 67)).drew) ⟨(Know.of (by refine q0a ?_; refine q0b ?_ _; exact HBS.out)), (Know.of (by refine q0a ?_; refine q0b ?_ _; exact HBR.out))⟩
  refine q0k SS1 (by kernel_rfl) hS0 ?_
  refine rgT 0 hS0 ?_
  refine rgL 1 hS0 HSO1 ?_
  refine rgL 2 hS0 HSO1 ?_
  refine q0d 3 rfl (by kernel_rfl) (fun K hK => ?_)
  go_simp
  go_at_call 100
  refine (q0r s HS.out _).mono ?_
  rintro e w4 ⟨rfl, hc⟩
  have h := bk hc (q0a (q0b HBS.out _)) (by simp); clear HBS cS lS; obtain ⟨cS, lS, HBS⟩ := h
  have h := bk hc (q0a (q0b HBR.out _)) (by simp); clear HBR cR lR; obtain ⟨cR, lR, HBR⟩ := h
  have h := hc.keepb (b := w3.heap.size) (q0a (q0e (by simp) _)) (by simp); have cT := cellsOf h; have lT := ltOf h; have fT := q0c h; have HBT := hid h; clear h
  have h := Chg.trans0 (Chg.drew (Chg.alloc HC.out _)) hc; clear HC; have HC := hid h; clear h
  clear hc
  go_wp2_with fail
  refine hK.out _ _ (HSI1.out _ ⟨cS, cR⟩) (fun hS1 => ?_)
  clear hK K
  try simp only [Act.put, pA, pB, pC]
  refine rgT 4 hS1 ?_
  refine q0d 5 rfl (by kernel_rfl) (fun K hK => ?_)
  go_simp
  go_at_call 70
  refine (q0w x.group 0 (s.all - 1) _).mono ?_
  rintro e w5 ⟨rfl, hc⟩
  rw [hi1]
  have h := bk0 hc HBS.out; clear HBS cS lS; obtain ⟨cS, lS, HBS⟩ := h
  have h := bk0 hc HBR.out; clear HBR cR lR; obtain ⟨cR, lR, HBR⟩ := h
  have h := hc.keepb HBT.out (by simp); clear HBT cT lT fT; have cT := cellsOf h; have lT := ltOf h; have fT := q0c h; have HBT := hid h; clear h
  replace HC := hct HC hc
  clear hc
  go_wp2_with fail
  refine hK.out _ _ (HSI1.out _ ⟨cS, cR⟩) (fun hS2 => ?_)
  clear hK K
  try simp only [Act.put, pA, pB, pC]
  refine rgT 6 hS2 ?_
  refine rgT 7 hS2 ?_
  refine rgT 8 hS2 ?_
  refine rgL 9 hS2 HSO1 ?_
  refine rgT 10 hS2 ?_
  refine rgL 11 hS2 HSO1 ?_
  refine rgT 12 hS2 ?_
  refine q0d 13 rfl (by kernel_rfl) (fun K hK => ?_)
  go_simp
  go_at_call 70
  refine (q0w x.row 0 (s.rows - 1) _).mono ?_
  rintro e w6 ⟨rfl, hc⟩
  rw [hi2]
  have h := bk0 hc HBS.out; clear HBS cS lS; obtain ⟨cS, lS, HBS⟩ := h
  have h := bk0 hc HBR.out; clear HBR cR lR; obtain ⟨cR, lR, HBR⟩ := h
  have h := hc.keepb HBT.out (by simp); clear HBT cT lT fT; have cT := cellsOf h; have lT := ltOf h; have fT := q0c h; have HBT := hid h; clear h
  replace HC := hct HC hc
  clear hc
  go_wp2_with fail
  refine hK.out _ _ (HSI1.out _ ⟨cS, cR⟩) (fun hS3 => ?_)
  clear hK K
  try simp only [Act.put, pA, pB, pC]
  refine rgT 14 hS3 ?_
  refine rgT 15 hS3 ?_
  refine rgT 16 hS3 ?_
  refine rgT 17 hS3 ?_
  refine rgL 18 hS3 HSO1 ?_
  refine rgL 19 hS3 HSO1 ?_
  refine q0d 20 rfl (by kernel_rfl) (fun K hK => ?_)
  go_simp
  go_at_call 100
  refine (q0r s HS.out _).mono ?_
  rintro e w7 ⟨rfl, hc⟩
  have h := bk0 hc HBS.out; clear HBS cS lS; obtain ⟨cS, lS, HBS⟩ := h
  have h := bk0 hc HBR.out; clear HBR cR lR; obtain ⟨cR, lR, HBR⟩ := h
  have h := hc.keepb HBT.out (by simp); clear HBT cT lT fT; have cT := cellsOf h; have lT := ltOf h; have fT := q0c h; have HBT := hid h; clear h
  replace HC := hct HC hc
  clear hc
  go_wp2_with fail
  refine hK.out _ _ (HSI1.out _ ⟨cS, cR⟩) (fun hS4 => ?_)
  clear hK K
  try simp only [Act.put, pA, pB, pC]
  refine rgT 21 hS4 ?_
  refine q0d 22 rfl (by kernel_rfl) (fun K hK => ?_)
  go_simp
  go_at_call 195
  refine (q5e a6 l6 c6 x.rows f6 (s.all - 1) _ (Lay.sl_ext intL H6.out HC.out) (by omega) (by omega)).mono ?_
  rintro e w8 ⟨rfl, hc⟩
  rw [HI3.out]
  have h := bk0 hc HBS.out; clear HBS cS lS; obtain ⟨cS, lS, HBS⟩ := h
  have h := bk0 hc HBR.out; clear HBR cR lR; obtain ⟨cR, lR, HBR⟩ := h
  have h := hc.keepb HBT.out (by simp); clear HBT cT lT fT; have cT := cellsOf h; have lT := ltOf h; have fT := q0c h; have HBT := hid h; clear h
  replace HC := hct HC hc
  clear hc
  go_wp2_with fail
  refine hK.out _ _ (HSI1.out _ ⟨cS, cR⟩) (fun hS5 => ?_)
  clear hK K
  try simp only [Act.put, pA, pB, pC]
  refine rgT 23 hS5 ?_
  refine rgT 24 hS5 ?_
  refine rgT 25 hS5 ?_
  refine rgT 26 hS5 ?_
  refine rgL 27 hS5 HSO1 ?_
  refine rgT 28 hS5 ?_
  refine rgL 29 hS5 HSO1 ?_
  refine q0d 30 rfl (by kernel_rfl) (fun K hK => ?_)
  go_simp
  go_at_call 194
  refine (q3n s HS.out _).mono ?_
  rintro e w9 ⟨rfl, hc⟩
  have h := bk0 hc HBS.out; clear HBS cS lS; obtain ⟨cS, lS, HBS⟩ := h
  have h := bk0 hc HBR.out; clear HBR cR lR; obtain ⟨cR, lR, HBR⟩ := h
  have h := hc.keepb HBT.out (by simp); clear HBT cT lT fT; have cT := cellsOf h; have lT := ltOf h; have fT := q0c h; have HBT := hid h; clear h
  replace HC := hct HC hc
  clear hc
  go_wp2_with fail
  refine hK.out _ _ (HSI1.out _ ⟨cS, cR⟩) (fun hS6 => ?_)
  clear hK K
  try simp only [Act.put, pA, pB, pC]
  refine rgT 31 hS6 ?_
  refine rgT 32 hS6 ?_
  refine rgT 33 hS6 ?_
  refine rgL 34 hS6 HSO1 ?_
  refine rgL 35 hS6 HSO1 ?_
  refine q0d 36 rfl (by kernel_rfl) (fun K hK => ?_)
  go_simp
  go_at_call 196
  refine (q6a s HS.out x #[.int .i64 x.kind, .int .i64 x.seq, .string x.name, .int .i64 x.length, .int .i64 x.group, .int .i64 x.row, .slice a6 l6 c6, .slice a7 l7 c7, .slice a8 l8 c8] fx _ (Lay.ext recL HX.out HC.out) HGR.out HRI.out).mono ?_
  rintro e w10 ⟨rfl, hc⟩
  rw [HW.out]
  have h := bk0 hc HBS.out; clear HBS cS lS; obtain ⟨cS, lS, HBS⟩ := h
  have h := bk0 hc HBR.out; clear HBR cR lR; obtain ⟨cR, lR, HBR⟩ := h
  have h := hc.keepb HBT.out (by simp); clear HBT cT lT fT; have cT := cellsOf h; have lT := ltOf h; have fT := q0c h; have HBT := hid h; clear h
  replace HC := hct HC hc
  clear hc
  go_wp2_with fail
  refine hK.out _ _ (HSI1.out _ ⟨cS, cR⟩) (fun hS7 => ?_)
  clear hK K
  try simp only [Act.put, pA, pB, pC]
  refine rgT 37 hS7 ?_
  refine rgT 38 hS7 ?_
  refine wpAnyH_done (by kernel_rfl) ?_ _
  go_wp2_with fail
  go_ret
  exact ⟨q0i HR.out.symm, HC.out⟩
 have HW := hid (q0g h5)
 have HG := hid (q0g (show q3c s x from ⟨h1, h2, h3, by rw [← Z7.out]; exact h4, h5⟩))
 clear h1 h2 h3 h4 h5
 have HC : Hid (Chg [] w w) := Chg.refl _ _
 go_enter Tryz.func119, Tryz.ntmps119
 go_wp2_with fail
 refine (q0n s _).mono ?_
 rintro e w1 ⟨rfl, hc⟩
 rw [HSF.out]
 obtain ⟨cS, lS, HBS⟩ := bk hc (b := w.heap.size) (q0b (q0e (by simp) _) _) (by simp)
 obtain ⟨cR, lR, HBR⟩ := bk hc (b := w.heap.size + 1) (q0e (by simp) _) (by simp)
 have h := Chg.trans0 (Chg.alloc (Chg.alloc HC.out _) _) hc; clear HC; have HC := hid h; clear h
 clear hc
 go_wp2_with fail
 refine (q0w x.kind 1 4 _).mono ?_
 rintro e w2 ⟨rfl, hc⟩
 rw [hk]
 have h := bk0 hc HBS.out; clear HBS cS lS; obtain ⟨cS, lS, HBS⟩ := h
 have h := bk0 hc HBR.out; clear HBR cR lR; obtain ⟨cR, lR, HBR⟩ := h
 replace HC := hct HC hc
 clear hc
 go_wp2_with fail
 refine (q0w x.seq 1 1000000000 _).mono ?_
 rintro e w3 ⟨rfl, hc⟩
 rw [hq]
 have h := bk0 hc HBS.out; clear HBS cS lS; obtain ⟨cS, lS, HBS⟩ := h
 have h := bk0 hc HBR.out; clear HBR cR lR; obtain ⟨cR, lR, HBR⟩ := h
 replace HC := hct HC hc
 clear hc
 have NT_S : w.heap.size ≠ w3.heap.size := by omega
 have NT_R : w.heap.size + 1 ≠ w3.heap.size := by omega
 have GT := Nat.le_trans HC.out.size (show w3.heap.size ≤ w3.heap.size by omega)
 go_wp2_with fail
 obtain ⟨SS1, HSI1, HSO1⟩ := q0j (fun w' => Know (w.heap.size) #[.int .i64 s.gS, .int .i64 s.cM, .int .i64 s.data, .int .i64 s.spare, .int .i64 s.rows, .int .i64 s.cap, .int .i64 s.bT, .int .i64 s.qU, .int .i64 s.sG] w' ∧ Know (w.heap.size + 1) #[.int .i64 x.kind, .int .i64 x.seq, .string x.name, .int .i64 x.length, .int .i64 x.group, .int .i64 x.row, .slice a6 l6 c6, .slice a7 l7 c7, .slice a8 l8 c8] w')
 have hS0 := HSI1.out ((w3.alloc (.cells #[.int .i64 x.kind, .int .i64 x.seq, .string x.name, .int .i64 x.length, .int .i64 x.group, .int .i64 x.row, .slice a6 l6 c6, .slice a7 l7 c7, .slice a8 l8 c8] 67)).drew) ⟨(Know.of (by refine q0a ?_; refine q0b ?_ _; exact HBS.out)), (Know.of (by refine q0a ?_; refine q0b ?_ _; exact HBR.out))⟩
 refine q0k SS1 (by kernel_rfl) hS0 ?_
 refine rgT 0 hS0 ?_
 refine rgL 1 hS0 HSO1 ?_
 refine rgL 2 hS0 HSO1 ?_
 refine q0d 3 rfl (by kernel_rfl) (fun K hK => ?_)
 go_simp
 go_at_call 100
 refine (q0r s HS.out _).mono ?_
 rintro e w4 ⟨rfl, hc⟩
 have h := bk hc (q0a (q0b HBS.out _)) (by simp); clear HBS cS lS; obtain ⟨cS, lS, HBS⟩ := h
 have h := bk hc (q0a (q0b HBR.out _)) (by simp); clear HBR cR lR; obtain ⟨cR, lR, HBR⟩ := h
 have h := hc.keepb (b := w3.heap.size) (q0a (q0e (by simp) _)) (by simp); have cT := cellsOf h; have lT := ltOf h; have fT := q0c h; have HBT := hid h; clear h
 have h := Chg.trans0 (Chg.drew (Chg.alloc HC.out _)) hc; clear HC; have HC := hid h; clear h
 clear hc
 go_wp2_with fail
 refine hK.out _ _ (HSI1.out _ ⟨cS, cR⟩) (fun hS1 => ?_)
 clear hK K
 try simp only [Act.put, pA, pB, pC]
 refine rgT 4 hS1 ?_
 refine q0d 5 rfl (by kernel_rfl) (fun K hK => ?_)
 go_simp
 go_at_call 70
 refine (q0w x.group 0 (s.all - 1) _).mono ?_
 rintro e w5 ⟨rfl, hc⟩
 rw [hi1]
 have h := bk0 hc HBS.out; clear HBS cS lS; obtain ⟨cS, lS, HBS⟩ := h
 have h := bk0 hc HBR.out; clear HBR cR lR; obtain ⟨cR, lR, HBR⟩ := h
 have h := hc.keepb HBT.out (by simp); clear HBT cT lT fT; have cT := cellsOf h; have lT := ltOf h; have fT := q0c h; have HBT := hid h; clear h
 replace HC := hct HC hc
 clear hc
 go_wp2_with fail
 refine hK.out _ _ (HSI1.out _ ⟨cS, cR⟩) (fun hS2 => ?_)
 clear hK K
 try simp only [Act.put, pA, pB, pC]
 refine rgT 6 hS2 ?_
 refine rgT 7 hS2 ?_
 refine rgT 8 hS2 ?_
 refine rgL 9 hS2 HSO1 ?_
 refine rgT 10 hS2 ?_
 refine rgL 11 hS2 HSO1 ?_
 refine rgT 12 hS2 ?_
 refine q0d 13 rfl (by kernel_rfl) (fun K hK => ?_)
 go_simp
 go_at_call 70
 refine (q0w x.row 0 (s.rows - 1) _).mono ?_
 rintro e w6 ⟨rfl, hc⟩
 rw [hi2]
 have h := bk0 hc HBS.out; clear HBS cS lS; obtain ⟨cS, lS, HBS⟩ := h
 have h := bk0 hc HBR.out; clear HBR cR lR; obtain ⟨cR, lR, HBR⟩ := h
 have h := hc.keepb HBT.out (by simp); clear HBT cT lT fT; have cT := cellsOf h; have lT := ltOf h; have fT := q0c h; have HBT := hid h; clear h
 replace HC := hct HC hc
 clear hc
 go_wp2_with fail
 refine hK.out _ _ (HSI1.out _ ⟨cS, cR⟩) (fun hS3 => ?_)
 clear hK K
 try simp only [Act.put, pA, pB, pC]
 refine rgT 14 hS3 ?_
 refine rgT 15 hS3 ?_
 refine rgT 16 hS3 ?_
 refine rgT 17 hS3 ?_
 refine rgL 18 hS3 HSO1 ?_
 refine rgL 19 hS3 HSO1 ?_
 refine q0d 20 rfl (by kernel_rfl) (fun K hK => ?_)
 go_simp
 go_at_call 100
 refine (q0r s HS.out _).mono ?_
 rintro e w7 ⟨rfl, hc⟩
 have h := bk0 hc HBS.out; clear HBS cS lS; obtain ⟨cS, lS, HBS⟩ := h
 have h := bk0 hc HBR.out; clear HBR cR lR; obtain ⟨cR, lR, HBR⟩ := h
 have h := hc.keepb HBT.out (by simp); clear HBT cT lT fT; have cT := cellsOf h; have lT := ltOf h; have fT := q0c h; have HBT := hid h; clear h
 replace HC := hct HC hc
 clear hc
 go_wp2_with fail
 refine hK.out _ _ (HSI1.out _ ⟨cS, cR⟩) (fun hS4 => ?_)
 clear hK K
 try simp only [Act.put, pA, pB, pC]
 refine rgT 21 hS4 ?_
 refine q0d 22 rfl (by kernel_rfl) (fun K hK => ?_)
 go_simp
 go_at_call 195
 refine (q5e a6 l6 c6 x.rows f6 (s.all - 1) _ (Lay.sl_ext intL H6.out HC.out) (by omega) (by omega)).mono ?_
 rintro e w8 ⟨rfl, hc⟩
 rw [HI3.out]
 have h := bk0 hc HBS.out; clear HBS cS lS; obtain ⟨cS, lS, HBS⟩ := h
 have h := bk0 hc HBR.out; clear HBR cR lR; obtain ⟨cR, lR, HBR⟩ := h
 have h := hc.keepb HBT.out (by simp); clear HBT cT lT fT; have cT := cellsOf h; have lT := ltOf h; have fT := q0c h; have HBT := hid h; clear h
 replace HC := hct HC hc
 clear hc
 go_wp2_with fail
 refine hK.out _ _ (HSI1.out _ ⟨cS, cR⟩) (fun hS5 => ?_)
 clear hK K
 try simp only [Act.put, pA, pB, pC]
 refine rgT 23 hS5 ?_
 refine rgT 24 hS5 ?_
 refine rgT 25 hS5 ?_
 refine rgT 26 hS5 ?_
 refine rgL 27 hS5 HSO1 ?_
 refine rgT 28 hS5 ?_
 refine rgL 29 hS5 HSO1 ?_
 refine q0d 30 rfl (by kernel_rfl) (fun K hK => ?_)
 go_simp
 go_at_call 194
 refine (q3n s HS.out _).mono ?_
 rintro e w9 ⟨rfl, hc⟩
 have h := bk0 hc HBS.out; clear HBS cS lS; obtain ⟨cS, lS, HBS⟩ := h
 have h := bk0 hc HBR.out; clear HBR cR lR; obtain ⟨cR, lR, HBR⟩ := h
 have h := hc.keepb HBT.out (by simp); clear HBT cT lT fT; have cT := cellsOf h; have lT := ltOf h; have fT := q0c h; have HBT := hid h; clear h
 replace HC := hct HC hc
 clear hc
 go_wp2_with fail
 refine hK.out _ _ (HSI1.out _ ⟨cS, cR⟩) (fun hS6 => ?_)
 clear hK K
 try simp only [Act.put, pA, pB, pC]
 refine rgT 31 hS6 ?_
 refine rgT 32 hS6 ?_
 refine rgT 33 hS6 ?_
 refine rgL 34 hS6 HSO1 ?_
 refine rgL 35 hS6 HSO1 ?_
 refine q0d 36 rfl (by kernel_rfl) (fun K hK => ?_)
 go_simp
 go_at_call 196
 refine (q6a s HS.out x #[.int .i64 x.kind, .int .i64 x.seq, .string x.name, .int .i64 x.length, .int .i64 x.group, .int .i64 x.row, .slice a6 l6 c6, .slice a7 l7 c7, .slice a8 l8 c8] fx _ (Lay.ext recL HX.out HC.out) HGR.out HRI.out).mono ?_
 rintro e w10 ⟨rfl, hc⟩
 rw [HW.out]
 have h := bk0 hc HBS.out; clear HBS cS lS; obtain ⟨cS, lS, HBS⟩ := h
 have h := bk0 hc HBR.out; clear HBR cR lR; obtain ⟨cR, lR, HBR⟩ := h
 have h := hc.keepb HBT.out (by simp); clear HBT cT lT fT; have cT := cellsOf h; have lT := ltOf h; have fT := q0c h; have HBT := hid h; clear h
 replace HC := hct HC hc
 clear hc
 go_wp2_with fail
 refine hK.out _ _ (HSI1.out _ ⟨cS, cR⟩) (fun hS7 => ?_)
 clear hK K
 try simp only [Act.put, pA, pB, pC]
 refine rgT 37 hS7 ?_
 refine rgT 38 hS7 ?_
 refine wpAnyH_done (by kernel_rfl) ?_ _
 go_wp2_with fail
 refine (q4j (⟨x.kind, x.seq, x.name, x.length, 0, 0, [], [], []⟩ : Rec) #[.int .i64 x.kind, .int .i64 x.seq, .string x.name, .int .i64 x.length, .int .i64 0, .int .i64 0, .slice none 0 0, .slice none 0 0, .slice none 0 0] _ _ (q0v.2 ⟨none, 0, 0, [], none, 0, 0, [], none, 0, 0, [], rfl, HO.out.1, HO.out.2, on, o3, q6t, q6t, (q4p _ _), (q4p _ _), (q4p _ _), rfl⟩)).mono ?_
 rintro e w11 ⟨rfl, hc⟩
 have h := bk hc (q0q (q0q (q0q (q0q (q0q HBS.out _ _ NT_S) _ _ NT_S) _ _ NT_S) _ _ NT_S) _ _ NT_S) (by simp); clear HBS cS lS; obtain ⟨cS, lS, HBS⟩ := h
 have h := bk hc (q0q (q0q (q0q (q0q (q0q HBR.out _ _ NT_R) _ _ NT_R) _ _ NT_R) _ _ NT_R) _ _ NT_R) (by simp); clear HBR cR lR; obtain ⟨cR, lR, HBR⟩ := h
 have h := hc.keepb (b := w3.heap.size) (o := .cells #[.int .i64 x.kind, .int .i64 x.seq, .string x.name, .int .i64 x.length, .int .i64 0, .int .i64 0, .slice none 0 0, .slice none 0 0, .slice none 0 0] 67) (by refine q0m (cur := #[.int .i64 x.kind, .int .i64 x.seq, .string x.name, .int .i64 x.length, .int .i64 0, .int .i64 0, .slice none 0 0, .slice a7 l7 c7, .slice none 0 0]) ?_ rfl; refine q0m (cur := #[.int .i64 x.kind, .int .i64 x.seq, .string x.name, .int .i64 x.length, .int .i64 0, .int .i64 0, .slice a6 l6 c6, .slice a7 l7 c7, .slice none 0 0]) ?_ rfl; refine q0m (cur := #[.int .i64 x.kind, .int .i64 x.seq, .string x.name, .int .i64 x.length, .int .i64 0, .int .i64 x.row, .slice a6 l6 c6, .slice a7 l7 c7, .slice none 0 0]) ?_ rfl; refine q0m (cur := #[.int .i64 x.kind, .int .i64 x.seq, .string x.name, .int .i64 x.length, .int .i64 x.group, .int .i64 x.row, .slice a6 l6 c6, .slice a7 l7 c7, .slice none 0 0]) ?_ rfl; refine q0m (cur := #[.int .i64 x.kind, .int .i64 x.seq, .string x.name, .int .i64 x.length, .int .i64 x.group, .int .i64 x.row, .slice a6 l6 c6, .slice a7 l7 c7, .slice a8 l8 c8]) ?_ rfl; exact HBT.out) (by simp); clear HBT cT lT fT; have cT := cellsOf h; have lT := ltOf h; have fT := q0c h; have HBT := hid h; clear h
 have h := Chg.trans0 (Chg.setCell (Chg.setCell (Chg.setCell (Chg.setCell (Chg.setCell HC.out ⟨w3.heap.size, 8, none⟩ _ (.inr GT)) ⟨w3.heap.size, 4, none⟩ _ (.inr GT)) ⟨w3.heap.size, 5, none⟩ _ (.inr GT)) ⟨w3.heap.size, 6, none⟩ _ (.inr GT)) ⟨w3.heap.size, 7, none⟩ _ (.inr GT)) hc; clear HC; have HC := hid h; clear h
 clear hc
 have HV := hid (show recV s x = if pb (q2z (⟨x.kind, x.seq, x.name, x.length, 0, 0, [], [], []⟩ : Rec)) = true then 0 else 1 from by rw [q6o HK.out HQ.out, if_pos HG.out]; exact q9j rfl (by unfold q2z RestS; simp))
 cases hv : pb (q2z (⟨x.kind, x.seq, x.name, x.length, 0, 0, [], [], []⟩ : Rec))
 ·have HR := hid (HV.out.trans (if_neg (by rw [hv]; simp)))
  clear hv
  go_wp2_with fail
  go_ret
  exact ⟨q0i HR.out.symm, HC.out⟩
 ·have HR := hid (HV.out.trans (if_pos hv))
  clear hv
  go_wp2_with fail
  go_ret
  exact ⟨q0i HR.out.symm, HC.out⟩
theorem q5w (s : Shp) (hs : s.ok) (x : Rec) (cx : Array Value) (fx : List Nat) (w : World) (hx : recL.rep w cx.toList x fx) :
  Calls Tryz.prog 119 #[.agg s.cells, .agg cx] w fun e w' => e = .returned (.int .i64 (recV s x)) ∧ Chg [] w w' := by
 by_cases h : (1 ≤ x.kind ∧ x.kind ≤ 4) ∧ (1 ≤ x.seq ∧ x.seq ≤ 1000000000)
 ·have h2 : x.kind = 1 ∨ x.kind = 2 ∨ x.kind = 3 ∨ x.kind = 4 := by omega
  rcases h2 with h2 | h2 | h2 | h2
  ·exact spec_rec1 s hs x cx fx w hx h2 h.2
  ·exact spec_rec2 s hs x cx fx w hx h2 h.2
  ·exact spec_rec3 s hs x cx fx w hx h2 h.2
  ·exact spec_rec4 s hs x cx fx w hx h2 h.2
 ·exact spec_rec0 s hs x cx fx w hx h
end Go.Proofs.YtphmpimgbmedbaaGreat
