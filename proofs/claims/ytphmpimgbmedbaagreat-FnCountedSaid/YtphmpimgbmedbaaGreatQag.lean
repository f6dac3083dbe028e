/- Several texts in one. -/
import Derived.Test.YtphmpimgbmedbaaGreatQaf
import Derived.BigRegion
set_option maxRecDepth 100000
set_option maxHeartbeats 8000000
namespace Go.Proofs.YtphmpimgbmedbaaGreat
open Go.RowKit
open Go.Lib (hid)
def q3c (s : Shp) (x : Rec) : Prop := (0 ≤ x.group ∧ x.group ≤ s.all - 1) ∧ (0 ≤ x.row ∧ x.row ≤ s.rows - 1) ∧ q4n (s.all - 1) x.rows ∧ (x.data.length : Int) = s.wide ∧ q2n s x
noncomputable def q7c (s : Shp) (x : Rec) : Int := if pb (q3c s x) = true then 0 else 3
theorem share1_any (B : Nat) (x : Rec) (a6 a7 a8 : Option Addr) (l6 l7 l8 c6 c7 c8 : Nat) (f8 : List Nat) (y : Int) (w : World) (hB : w.heap[B]? = some (.cells #[.int .i64 x.kind, .int .i64 x.seq, .string x.name, .int .i64 x.length, .int .i64 x.group, .int .i64 x.row, .slice a6 l6 c6, .slice a7 l7 c7, .slice a8 l8 c8] 67)) (h8 : q0p.sl w a8 l8 c8 x.delta f8) (hy : 0 ≤ y ∧ y < (l8 : Int)) :
  Calls Tryz.prog 286 #[.int .i64 y, .pointer (some ⟨B, 0, none⟩)] w fun e w' => e = .returned (.bool (pb (x.delta[y.toNat]? = some 0))) ∧ w = w' := by
 obtain ⟨j, rfl⟩ : ∃ j : Nat, y = (j : Int) := ⟨y.toNat, by omega⟩
 have hj : j < l8 := by omega
 have hm := q0p.sl_max h8
 obtain ⟨z, Z, b, o, HZ, rfl, hcz, hz0, hz1⟩ := q4z h8 hj
 have cB := cellsOf hB; have lB := ltOf hB
 have hb := byte0 HZ.out.2.1
 have HR := hid (show (Z == 0) = pb (x.delta[((j : Nat) : Int).toNat]? = some 0) by
  rw [Int.toNat_natCast, HZ.out.1]
  by_cases h : z = 0
  ·rw [(hb.1 h).1, q0g (by rw [h])]
  ·rw [(hb.2 h).1, q0f (fun h2 => h (Option.some.inj h2))])
 clear hB h8 hy hb
 go_enter Tryz.func286, Tryz.ntmps286
 go_wp2
 go_ret
 exact ⟨q0l HR.out, rfl⟩
theorem idxShare_any (B : Nat) (x : Rec) (a6 a7 a8 : Option Addr) (l6 l7 l8 c6 c7 c8 : Nat) (f6 f8 : List Nat) (w : World) (hB : w.heap[B]? = some (.cells #[.int .i64 x.kind, .int .i64 x.seq, .string x.name, .int .i64 x.length, .int .i64 x.group, .int .i64 x.row, .slice a6 l6 c6, .slice a7 l7 c7, .slice a8 l8 c8] 67)) (h6 : intL.sl w a6 l6 c6 x.rows f6) (h8 : q0p.sl w a8 l8 c8 x.delta f8) (hy : ∀ y ∈ x.rows, 0 ≤ y ∧ y < (l8 : Int)) :
  Calls Tryz.prog 262 #[.slice a6 l6 c6, .func (.func 286) #[] #[.pointer (some ⟨B, 0, none⟩)]] w fun e w' => ∃ r : Int, e = .returned (.int .i64 r) ∧ Hid (0 ≤ r ↔ ∃ y ∈ x.rows, x.delta[y.toNat]? = some 0) ∧ w = w' := by
 have hm := intL.sl_max h6
 have HL := hid h6.1
 have HA := hid h6
 have HC := hid (fun y hy => share1_any B x a6 a7 a8 l6 l7 l8 c6 c7 c8 f8 y w hB h8 hy)
 have HY := hid hy
 clear h6 h8 hB hy
 go_enter Tryz.func262, Tryz.ntmps262
 go_wp2
 go_loop [5, 8] (fun _ i => ∃ k : Nat, k ≤ l6 ∧ i = .int .i64 k ∧ Hid (∀ y ∈ x.rows.take k, ¬ x.delta[y.toNat]? = some 0)) (fun _ i => l6 - (intOf i).toNat)
 case atStart => exact ⟨0, by omega, rfl, by intro y hy; simp at hy⟩
 case round =>
  obtain ⟨k, hk, rfl, HK⟩ := hrel
  by_cases hlt : k < l6
  ·obtain ⟨y, b, off, HX, rfl, hcx, hok⟩ := q2y HA.out hlt
   have HCy := hid (HC.out y (HY.out y (List.mem_of_getElem? HX.out.1)))
   by_cases h : x.delta[y.toNat]? = some 0
   ·rw [q0g h] at HCy
    have HR := hid (show 0 ≤ (k : Int) ↔ ∃ y ∈ x.rows, x.delta[y.toNat]? = some 0 from ⟨fun _ => ⟨y, List.mem_of_getElem? HX.out.1, h⟩, fun _ => by omega⟩)
    clear h
    go_wp2_with (go_at_call 286; refine HCy.out.mono ?_; rintro e w' ⟨rfl, rfl⟩)
    go_ret
    exact ⟨_, rfl, HR.out, rfl⟩
   ·rw [q0f h] at HCy
    have HN := hid (show ∀ y ∈ x.rows.take (k + 1), ¬ x.delta[y.toNat]? = some 0 by
     intro z hz
     rw [q2b HX.out.1] at hz
     rcases List.mem_append.1 hz with h1 | h1
     ·exact HK.out z h1
     ·simp at h1; subst h1; exact h)
    clear h
    go_wp2_with (go_at_call 286; refine HCy.out.mono ?_; rintro e w' ⟨rfl, rfl⟩)
    go_round
    case rel => exact ⟨k + 1, by omega, by go_num, HN⟩
    case measure => simp [intOf]; omega
  ·have HR := hid (show 0 ≤ (-1 : Int) ↔ ∃ y ∈ x.rows, x.delta[y.toNat]? = some 0 from ⟨fun h => by omega, fun ⟨y, h1, h2⟩ => absurd h2 (HK.out y (by rw [List.take_of_length_le (by have := HL.out; omega)]; exact h1))⟩)
   go_wp2
   go_ret
   exact ⟨-1, rfl, HR.out, rfl⟩
theorem q9i (B : Nat) (x : Rec) (a6 a7 a8 : Option Addr) (l6 l7 l8 c6 c7 c8 : Nat) (f6 f8 : List Nat) (w : World) (hB : w.heap[B]? = some (.cells #[.int .i64 x.kind, .int .i64 x.seq, .string x.name, .int .i64 x.length, .int .i64 x.group, .int .i64 x.row, .slice a6 l6 c6, .slice a7 l7 c7, .slice a8 l8 c8] 67)) (h6 : intL.sl w a6 l6 c6 x.rows f6) (h8 : q0p.sl w a8 l8 c8 x.delta f8) (hy : ∀ y ∈ x.rows, 0 ≤ y ∧ y < (l8 : Int)) :
  Calls Tryz.prog 285 #[.slice a6 l6 c6, .func (.func 286) #[] #[.pointer (some ⟨B, 0, none⟩)]] w fun e w' => e = .returned (.bool (pb (∃ y ∈ x.rows, x.delta[y.toNat]? = some 0))) ∧ Chg [] w w' := by
 have HI := hid (idxShare_any B x a6 a7 a8 l6 l7 l8 c6 c7 c8 f6 f8 w hB h6 h8 hy)
 clear h6 h8 hB hy
 go_enter Tryz.func285, Tryz.ntmps285
 go_wp2_with fail
 refine HI.out.mono ?_
 rintro e w' ⟨j, rfl, h1, rfl⟩
 have HR := hid (show decide (0 ≤ j) = pb (∃ y ∈ x.rows, x.delta[y.toNat]? = some 0) by
  by_cases h : ∃ y ∈ x.rows, x.delta[y.toNat]? = some 0
  ·rw [q0g h, decide_eq_true (h1.out.2 h)]
  ·rw [q0f h, decide_eq_false (fun h2 => h (h1.out.1 h2))])
 clear h1
 go_wp2_with fail
 go_ret
 exact ⟨q0l HR.out, Chg.refl _ _⟩
theorem q5g (s : Shp) (hs : s.ok) (x : Rec) (cx : Array Value) (fx : List Nat) (w : World) (hx : recL.rep w cx.toList x fx) :
  Calls Tryz.prog 259 #[.agg s.cells, .agg cx] w fun e w' => e = .returned (.int .i64 (q7c s x)) ∧ Chg [] w w' := by
 have HX := hid hx
 obtain ⟨a6, l6, c6, f6, a7, l7, c7, f7, a8, l8, c8, f8, ex, o0, o1, on, o3, o4, o5, h6, h7, h8, -⟩ := q0v.1 hx
 have HO := hid (And.intro o0 o1)
 clear hx o0 o1
 obtain rfl := Array.toList_inj.1 (ex.trans (List.toList_toArray).symm)
 clear ex
 have q6 := intL.sl_max h6; have q7 := q0p.sl_max h7; have q8 := q0p.sl_max h8
 have Z6 := hid h6.1; have Z7 := hid h7.1; have Z8 := hid h8.1
 have H6 := hid h6; have H7 := hid h7; have H8 := hid h8
 clear h6 h7 h8
 have hd := hs.data; have hr := hs.rows; have hg := hs.gS; have hal := hs.all
 have HS := hid hs
 clear hs
 have e50 : IntKind.i64.wrap (s.rows - 1) = s.rows - 1 := IntWalk.i64_in _ (by omega)
 have e51 : IntKind.i64.wrap (s.gS - 1) = s.gS - 1 := IntWalk.i64_in _ (by omega)
 have e52 : IntKind.i64.wrap (s.all - 1) = s.all - 1 := IntWalk.i64_in _ (by omega)
 show Calls _ _ #[.agg #[.int .i64 s.gS, .int .i64 s.cM, .int .i64 s.data, .int .i64 s.spare, .int .i64 s.rows, .int .i64 s.cap, .int .i64 s.bT, .int .i64 s.qU, .int .i64 s.sG], .agg _] _ _
 have HT := hid (fun h => q0g h : q3c s x → pb (q3c s x) = true)
 have HF := hid (fun h => q0f h : ¬ q3c s x → pb (q3c s x) = false)
 have HE := hid (fun Q h => q5i h : ∀ Q, (q3c s x ↔ Q) → pb (q3c s x) = pb Q)
 have HM := hid (show q7c s x = if pb (q3c s x) = true then 0 else 3 from rfl)
 generalize pb (q3c s x) = r at HT HF HE HM ⊢
 generalize q7c s x = v at HM ⊢
 have hmf : ∀ (fn : Fn) (first cap : Array Value) (w : World), (Instr.makeFunc fn first cap).run Tryz.prog w = .ok (.func fn first cap) w := fun _ _ _ _ => rfl
 have hwd := HS.out.wide
 by_cases h1 : 0 ≤ x.group ∧ x.group ≤ s.all - 1
 rotate_left
 ·have HC : Hid (Chg [] w w) := Chg.refl _ _
  have HR := hid (show v = 3 by rw [HM.out, if_neg (by rw [HF.out (fun h => h1 h.1)]; simp)])
  have hi1 := q1t h1
  clear h1
  go_enter Tryz.func259, Tryz.ntmps259
  go_wp2_with fail
  obtain ⟨SS1, HSI1, HSO1⟩ := q0j (fun w' => Know (w.heap.size) #[.int .i64 s.gS, .int .i64 s.cM, .int .i64 s.data, .int .i64 s.spare, .int .i64 s.rows, .int .i64 s.cap, .int .i64 s.bT, .int .i64 s.qU, .int .i64 s.sG] w' ∧ Know (w.heap.size + 1) #[.int .i64 x.kind, .int .i64 x.seq, .string x.name, .int .i64 x.length, .int .i64 x.group, .int .i64 x.row, .slice a6 l6 c6, .slice a7 l7 c7, .slice a8 l8 c8] w')
  have hS0 := HSI1.out (((w.alloc (.cells #[.int .i64 s.gS, .int .i64 s.cM, .int .i64 s.data, .int .i64 s.spare, .int .i64 s.rows, .int .i64 s.cap, .int .i64 s.bT, .int .i64 s.qU, .int .i64 s.sG] 30)).alloc (.cells #[.int .i64 x.kind, .int .i64 x.seq, .string x.name, .int .i64 x.length, .int .i64 x.group, .int .i64 x.row, .slice a6 l6 c6, .slice a7 l7 c7, .slice a8 l8 c8] 67)).drew) ⟨(Know.of (by refine q0a ?_; refine q0b ?_ _; exact q0e (by simp) _)), (Know.of (by refine q0a ?_; exact q0e (by simp) _))⟩
  refine q0k SS1 (by kernel_rfl) hS0 ?_
  refine rgL 0 hS0 HSO1 ?_
  refine rgT 1 hS0 ?_
  refine rgL 2 hS0 HSO1 ?_
  refine q0d 3 rfl (by kernel_rfl) (fun K hK => ?_)
  go_simp
  go_at_call 102
  refine (q1w s HS.out x.group _).mono ?_
  rintro e w1 ⟨rfl, hc⟩
  rw [hi1]
  obtain ⟨cS, lS, HBS⟩ := bk hc (b := w.heap.size) (q0a (q0b (q0e (by simp) _) _)) (by simp)
  obtain ⟨cR, lR, HBR⟩ := bk hc (b := w.heap.size + 1) (q0a (q0e (by simp) _)) (by simp)
  have h := Chg.trans0 (Chg.drew (Chg.alloc (Chg.alloc HC.out _) _)) hc; clear HC; have HC := hid h; clear h
  clear hc
  go_wp2_with fail
  refine hK.out _ _ (HSI1.out _ ⟨cS, cR⟩) (fun hS1 => ?_)
  clear hK K
  try simp only [Act.put, pA, pB, pC]
  refine rgT 4 hS1 ?_
  refine rgS 5 hS1 ?_
  refine rgS 6 hS1 ?_
  refine rgS 7 hS1 ?_
  refine rgS 8 hS1 ?_
  refine rgT 9 hS1 ?_
  refine rgT 10 hS1 ?_
  refine rgS 11 hS1 ?_
  refine rgS 12 hS1 ?_
  refine rgS 13 hS1 ?_
  refine rgS 14 hS1 ?_
  refine rgS 15 hS1 ?_
  refine rgT 16 hS1 ?_
  refine rgT 17 hS1 ?_
  refine rgS 18 hS1 ?_
  refine rgS 19 hS1 ?_
  refine rgS 20 hS1 ?_
  refine rgS 21 hS1 ?_
  refine rgS 22 hS1 ?_
  refine rgS 23 hS1 ?_
  refine rgT 24 hS1 ?_
  refine rgT 25 hS1 ?_
  refine rgS 26 hS1 ?_
  refine rgS 27 hS1 ?_
  refine rgS 28 hS1 ?_
  refine rgS 29 hS1 ?_
  refine rgS 30 hS1 ?_
  refine rgS 31 hS1 ?_
  refine rgT 32 hS1 ?_
  refine rgT 33 hS1 ?_
  refine wpAnyH_done (by kernel_rfl) ?_ _
  go_wp2_with fail
  go_ret
  exact ⟨q0i HR.out.symm, HC.out⟩
 have hi1 := q1m h1.1 h1.2
 by_cases h2 : 0 ≤ x.row ∧ x.row ≤ s.rows - 1
 rotate_left
 ·have HC : Hid (Chg [] w w) := Chg.refl _ _
  have HR := hid (show v = 3 by rw [HM.out, if_neg (by rw [HF.out (fun h => h2 h.2.1)]; simp)])
  have hi2 := q1t h2
  clear h1 h2
  go_enter Tryz.func259, Tryz.ntmps259
  go_wp2_with fail
  obtain ⟨SS1, HSI1, HSO1⟩ := q0j (fun w' => Know (w.heap.size) #[.int .i64 s.gS, .int .i64 s.cM, .int .i64 s.data, .int .i64 s.spare, .int .i64 s.rows, .int .i64 s.cap, .int .i64 s.bT, .int .i64 s.qU, .int .i64 s.sG] w' ∧ Know (w.heap.size + 1) #[.int .i64 x.kind, .int .i64 x.seq, .string x.name, .int .i64 x.length, .int .i64 x.group, .int .i64 x.row, .slice a6 l6 c6, .slice a7 l7 c7, .slice a8 l8 c8] w')
  have hS0 := HSI1.out (((w.alloc (.cells #[.int .i64 s.gS, .int .i64 s.cM, .int .i64 s.data, .int .i64 s.spare, .int .i64 s.rows, .int .i64 s.cap, .int .i64 s.bT, .int .i64 s.qU, .int .i64 s.sG] 30)).alloc (.cells #[.int .i64 x.kind, .int .i64 x.seq, .string x.name, .int .i64 x.length, .int .i64 x.group, .int .i64 x.row, .slice a6 l6 c6, .slice a7 l7 c7, .slice a8 l8 c8] 67)).drew) ⟨(Know.of (by refine q0a ?_; refine q0b ?_ _; exact q0e (by simp) _)), (Know.of (by refine q0a ?_; exact q0e (by simp) _))⟩
  refine q0k SS1 (by kernel_rfl) hS0 ?_
  refine rgL 0 hS0 HSO1 ?_
  refine rgT 1 hS0 ?_
  refine rgL 2 hS0 HSO1 ?_
  refine q0d 3 rfl (by kernel_rfl) (fun K hK => ?_)
  go_simp
  go_at_call 102
  refine (q1w s HS.out x.group _).mono ?_
  rintro e w1 ⟨rfl, hc⟩
  rw [hi1]
  obtain ⟨cS, lS, HBS⟩ := bk hc (b := w.heap.size) (q0a (q0b (q0e (by simp) _) _)) (by simp)
  obtain ⟨cR, lR, HBR⟩ := bk hc (b := w.heap.size + 1) (q0a (q0e (by simp) _)) (by simp)
  have h := Chg.trans0 (Chg.drew (Chg.alloc (Chg.alloc HC.out _) _)) hc; clear HC; have HC := hid h; clear h
  clear hc
  go_wp2_with fail
  refine hK.out _ _ (HSI1.out _ ⟨cS, cR⟩) (fun hS1 => ?_)
  clear hK K
  try simp only [Act.put, pA, pB, pC]
  refine rgT 4 hS1 ?_
  refine rgL 5 hS1 HSO1 ?_
  refine rgT 6 hS1 ?_
  refine rgL 7 hS1 HSO1 ?_
  refine q0d 8 rfl (by kernel_rfl) (fun K hK => ?_)
  go_simp
  go_at_call 134
  refine (q2h s HS.out x.row _).mono ?_
  rintro e w2 ⟨rfl, hc⟩
  rw [hi2]
  have h := bk0 hc HBS.out; clear HBS cS lS; obtain ⟨cS, lS, HBS⟩ := h
  have h := bk0 hc HBR.out; clear HBR cR lR; obtain ⟨cR, lR, HBR⟩ := h
  replace HC := hct HC hc
  clear hc
  go_wp2_with fail
  refine hK.out _ _ (HSI1.out _ ⟨cS, cR⟩) (fun hS2 => ?_)
  clear hK K
  try simp only [Act.put, pA, pB, pC]
  refine rgT 9 hS2 ?_
  refine rgT 10 hS2 ?_
  refine rgS 11 hS2 ?_
  refine rgS 12 hS2 ?_
  refine rgS 13 hS2 ?_
  refine rgS 14 hS2 ?_
  refine rgS 15 hS2 ?_
  refine rgT 16 hS2 ?_
  refine rgT 17 hS2 ?_
  refine rgS 18 hS2 ?_
  refine rgS 19 hS2 ?_
  refine rgS 20 hS2 ?_
  refine rgS 21 hS2 ?_
  refine rgS 22 hS2 ?_
  refine rgS 23 hS2 ?_
  refine rgT 24 hS2 ?_
  refine rgT 25 hS2 ?_
  refine rgS 26 hS2 ?_
  refine rgS 27 hS2 ?_
  refine rgS 28 hS2 ?_
  refine rgS 29 hS2 ?_
  refine rgS 30 hS2 ?_
  refine rgS 31 hS2 ?_
  refine rgT 32 hS2 ?_
  refine rgT 33 hS2 ?_
  refine wpAnyH_done (by kernel_rfl) ?_ _
  go_wp2_with fail
  go_ret
  exact ⟨q0i HR.out.symm, HC.out⟩
 have hi2 := q1m h2.1 h2.2
 by_cases h3 : q4n (s.all - 1) x.rows
 rotate_left
 ·have HC : Hid (Chg [] w w) := Chg.refl _ _
  have HR := hid (show v = 3 by rw [HM.out, if_neg (by rw [HF.out (fun h => h3 h.2.2.1)]; simp)])
  have HI3 := hid (q0f h3)
  clear h1 h2 h3
  go_enter Tryz.func259, Tryz.ntmps259
  go_wp2_with fail
  obtain ⟨SS1, HSI1, HSO1⟩ := q0j (fun w' => Know (w.heap.size) #[.int .i64 s.gS, .int .i64 s.cM, .int .i64 s.data, .int .i64 s.spare, .int .i64 s.rows, .int .i64 s.cap, .int .i64 s.bT, .int .i64 s.qU, .int .i64 s.sG] w' ∧ Know (w.heap.size + 1) #[.int .i64 x.kind, .int .i64 x.seq, .string x.name, .int .i64 x.length, .int .i64 x.group, .int .i64 x.row, .slice a6 l6 c6, .slice a7 l7 c7, .slice a8 l8 c8] w')
  have hS0 := HSI1.out (((w.alloc (.cells #[.int .i64 s.gS, .int .i64 s.cM, .int .i64 s.data, .int .i64 s.spare, .int .i64 s.rows, .int .i64 s.cap, .int .i64 s.bT, .int .i64 s.qU, .int .i64 s.sG] 30)).alloc (.cells #[.int .i64 x.kind, .int .i64 x.seq, .string x.name, .int .i64 x.length, .int .i64 x.group, .int .i64 x.row, .slice a6 l6 c6, .slice a7 l7 c7, .slice a8 l8 c8] 67)).drew) ⟨(Know.of (by refine q0a ?_; refine q0b ?_ _; exact q0e (by simp) _)), (Know.of (by refine q0a ?_; exact q0e (by simp) _))⟩
  refine q0k SS1 (by kernel_rfl) hS0 ?_
  refine rgL 0 hS0 HSO1 ?_
  refine rgT 1 hS0 ?_
  refine rgL 2 hS0 HSO1 ?_
  refine q0d 3 rfl (by kernel_rfl) (fun K hK => ?_)
  go_simp
  go_at_call 102
  refine (q1w s HS.out x.group _).mono ?_
  rintro e w1 ⟨rfl, hc⟩
  rw [hi1]
  obtain ⟨cS, lS, HBS⟩ := bk hc (b := w.heap.size) (q0a (q0b (q0e (by simp) _) _)) (by simp)
  obtain ⟨cR, lR, HBR⟩ := bk hc (b := w.heap.size + 1) (q0a (q0e (by simp) _)) (by simp)
  have h := Chg.trans0 (Chg.drew (Chg.alloc (Chg.alloc HC.out _) _)) hc; clear HC; have HC := hid h; clear h
  clear hc
  go_wp2_with fail
  refine hK.out _ _ (HSI1.out _ ⟨cS, cR⟩) (fun hS1 => ?_)
  clear hK K
  try simp only [Act.put, pA, pB, pC]
  refine rgT 4 hS1 ?_
  refine rgL 5 hS1 HSO1 ?_
  refine rgT 6 hS1 ?_
  refine rgL 7 hS1 HSO1 ?_
  refine q0d 8 rfl (by kernel_rfl) (fun K hK => ?_)
  go_simp
  go_at_call 134
  refine (q2h s HS.out x.row _).mono ?_
  rintro e w2 ⟨rfl, hc⟩
  rw [hi2]
  have h := bk0 hc HBS.out; clear HBS cS lS; obtain ⟨cS, lS, HBS⟩ := h
  have h := bk0 hc HBR.out; clear HBR cR lR; obtain ⟨cR, lR, HBR⟩ := h
  replace HC := hct HC hc
  clear hc
  go_wp2_with fail
  refine hK.out _ _ (HSI1.out _ ⟨cS, cR⟩) (fun hS2 => ?_)
  clear hK K
  try simp only [Act.put, pA, pB, pC]
  refine rgT 9 hS2 ?_
  refine rgT 10 hS2 ?_
  refine rgT 11 hS2 ?_
  refine rgL 12 hS2 HSO1 ?_
  refine rgL 13 hS2 HSO1 ?_
  refine q0d 14 rfl (by kernel_rfl) (fun K hK => ?_)
  go_simp
  go_at_call 179
  refine (q3t s HS.out _).mono ?_
  rintro e w3 ⟨rfl, hc⟩
  have h := bk0 hc HBS.out; clear HBS cS lS; obtain ⟨cS, lS, HBS⟩ := h
  have h := bk0 hc HBR.out; clear HBR cR lR; obtain ⟨cR, lR, HBR⟩ := h
  replace HC := hct HC hc
  clear hc
  go_wp2_with fail
  refine hK.out _ _ (HSI1.out _ ⟨cS, cR⟩) (fun hS3 => ?_)
  clear hK K
  try simp only [Act.put, pA, pB, pC]
  refine q0d 15 rfl (by kernel_rfl) (fun K hK => ?_)
  go_simp
  go_at_call 284
  refine (q3r a6 l6 c6 x.rows f6 s.all _ (Lay.sl_ext intL H6.out HC.out) (by omega) (by omega)).mono ?_
  rintro e w4 ⟨rfl, hc⟩
  rw [HI3.out]
  have h := bk0 hc HBS.out; clear HBS cS lS; obtain ⟨cS, lS, HBS⟩ := h
  have h := bk0 hc HBR.out; clear HBR cR lR; obtain ⟨cR, lR, HBR⟩ := h
  replace HC := hct HC hc
  clear hc
  go_wp2_with fail
  refine hK.out _ _ (HSI1.out _ ⟨cS, cR⟩) (fun hS4 => ?_)
  clear hK K
  try simp only [Act.put, pA, pB, pC]
  refine rgT 16 hS4 ?_
  refine rgT 17 hS4 ?_
  refine rgS 18 hS4 ?_
  refine rgS 19 hS4 ?_
  refine rgS 20 hS4 ?_
  refine rgS 21 hS4 ?_
  refine rgS 22 hS4 ?_
  refine rgS 23 hS4 ?_
  refine rgT 24 hS4 ?_
  refine rgT 25 hS4 ?_
  refine rgS 26 hS4 ?_
  refine rgS 27 hS4 ?_
  refine rgS 28 hS4 ?_
  refine rgS 29 hS4 ?_
  refine rgS 30 hS4 ?_
  refine rgS 31 hS4 ?_
  refine rgT 32 hS4 ?_
  refine rgT 33 hS4 ?_
  refine wpAnyH_done (by kernel_rfl) ?_ _
  go_wp2_with fail
  go_ret
  exact ⟨q0i HR.out.symm, HC.out⟩
 have HI3 := hid (q0g h3)
 by_cases h4 : (l7 : Int) = s.wide
 rotate_left
 ·have HC : Hid (Chg [] w w) := Chg.refl _ _
  have HR := hid (show v = 3 by rw [HM.out, if_neg (by rw [HF.out (fun h => h4 (by rw [Z7.out]; exact h.2.2.2.1))]; simp)])
  have e4 : ((l7 : Int) == s.wide) = false := by simp; exact h4
  clear h1 h2 h3 h4
  go_enter Tryz.func259, Tryz.ntmps259
  go_wp2_with fail
  obtain ⟨SS1, HSI1, HSO1⟩ := q0j (fun w' => Know (w.heap.size) #[.int .i64 s.gS, .int .i64 s.cM, .int .i64 s.data, .int .i64 s.spare, .int .i64 s.rows, .int .i64 s.cap, .int .i64 s.bT, .int .i64 s.qU, .int .i64 s.sG] w' ∧ Know (w.heap.size + 1) #[.int .i64 x.kind, .int .i64 x.seq, .string x.name, .int .i64 x.length, .int .i64 x.group, .int .i64 x.row, .slice a6 l6 c6, .slice a7 l7 c7, .slice a8 l8 c8] w')
  have hS0 := HSI1.out (((w.alloc (.cells #[.int .i64 s.gS, .int .i64 s.cM, .int .i64 s.data, .int .i64 s.spare, .int .i64 s.rows, .int .i64 s.cap, .int .i64 s.bT, .int .i64 s.qU, .int .i64 s.sG] 30)).alloc (.cells #[.int .i64 x.kind, .int .i64 x.seq, .string x.name, .int .i64 x.length, .int .i64 x.group, .int .i64 x.row, .slice a6 l6 c6, .slice a7 l7 c7, .slice a8 l8 c8] 67)).drew) ⟨(Know.of (by refine q0a ?_; refine q0b ?_ _; exact q0e (by simp) _)), (Know.of (by refine q0a ?_; exact q0e (by simp) _))⟩
  refine q0k SS1 (by kernel_rfl) hS0 ?_
  refine rgL 0 hS0 HSO1 ?_
  refine rgT 1 hS0 ?_
  refine rgL 2 hS0 HSO1 ?_
  refine q0d 3 rfl (by kernel_rfl) (fun K hK => ?_)
  go_simp
  go_at_call 102
  refine (q1w s HS.out x.group _).mono ?_
  rintro e w1 ⟨rfl, hc⟩
  rw [hi1]
  obtain ⟨cS, lS, HBS⟩ := bk hc (b := w.heap.size) (q0a (q0b (q0e (by simp) _) _)) (by simp)
  obtain ⟨cR, lR, HBR⟩ := bk hc (b := w.heap.size + 1) (q0a (q0e (by simp) _)) (by simp)
  have h := Chg.trans0 (Chg.drew (Chg.alloc (Chg.alloc HC.out _) _)) hc; clear HC; have HC := hid h; clear h
  clear hc
  go_wp2_with fail
  refine hK.out _ _ (HSI1.out _ ⟨cS, cR⟩) (fun hS1 => ?_)
  clear hK K
  try simp only [Act.put, pA, pB, pC]
  refine rgT 4 hS1 ?_
  refine rgL 5 hS1 HSO1 ?_
  refine rgT 6 hS1 ?_
  refine rgL 7 hS1 HSO1 ?_
  refine q0d 8 rfl (by kernel_rfl) (fun K hK => ?_)
  go_simp
  go_at_call 134
  refine (q2h s HS.out x.row _).mono ?_
  rintro e w2 ⟨rfl, hc⟩
  rw [hi2]
  have h := bk0 hc HBS.out; clear HBS cS lS; obtain ⟨cS, lS, HBS⟩ := h
  have h := bk0 hc HBR.out; clear HBR cR lR; obtain ⟨cR, lR, HBR⟩ := h
  replace HC := hct HC hc
  clear hc
  go_wp2_with fail
  refine hK.out _ _ (HSI1.out _ ⟨cS, cR⟩) (fun hS2 => ?_)
  clear hK K
  try simp only [Act.put, pA, pB, pC]
  refine rgT 9 hS2 ?_
  refine rgT 10 hS2 ?_
  refine rgT 11 hS2 ?_
  refine rgL 12 hS2 HSO1 ?_
  refine rgL 13 hS2 HSO1 ?_
  refine q0d 14 rfl (by kernel_rfl) (fun K hK => ?_)
  go_simp
  go_at_call 179
  refine (q3t s HS.out _).mono ?_
  rintro e w3 ⟨rfl, hc⟩
  have h := bk0 hc HBS.out; clear HBS cS lS; obtain ⟨cS, lS, HBS⟩ := h
  have h := bk0 hc HBR.out; clear HBR cR lR; obtain ⟨cR, lR, HBR⟩ := h
  replace HC := hct HC hc
  clear hc
  go_wp2_with fail
  refine hK.out _ _ (HSI1.out _ ⟨cS, cR⟩) (fun hS3 => ?_)
  clear hK K
  try simp only [Act.put, pA, pB, pC]
  refine q0d 15 rfl (by kernel_rfl) (fun K hK => ?_)
  go_simp
  go_at_call 284
  refine (q3r a6 l6 c6 x.rows f6 s.all _ (Lay.sl_ext intL H6.out HC.out) (by omega) (by omega)).mono ?_
  rintro e w4 ⟨rfl, hc⟩
  rw [HI3.out]
  have h := bk0 hc HBS.out; clear HBS cS lS; obtain ⟨cS, lS, HBS⟩ := h
  have h := bk0 hc HBR.out; clear HBR cR lR; obtain ⟨cR, lR, HBR⟩ := h
  replace HC := hct HC hc
  clear hc
  go_wp2_with fail
  refine hK.out _ _ (HSI1.out _ ⟨cS, cR⟩) (fun hS4 => ?_)
  clear hK K
  try simp only [Act.put, pA, pB, pC]
  refine rgT 16 hS4 ?_
  refine rgT 17 hS4 ?_
  refine rgT 18 hS4 ?_
  refine rgL 19 hS4 HSO1 ?_
  refine rgL 21 hS4 HSO1 ?_
  refine q0d 20 rfl (by kernel_rfl) (fun K hK => ?_)
  go_simp
  go_at_call 185
  refine (q2g a7 l7 c7 _ q7).mono ?_
  rintro e w5 ⟨rfl, hc⟩
  have h := bk0 hc HBS.out; clear HBS cS lS; obtain ⟨cS, lS, HBS⟩ := h
  have h := bk0 hc HBR.out; clear HBR cR lR; obtain ⟨cR, lR, HBR⟩ := h
  replace HC := hct HC hc
  clear hc
  go_wp2_with fail
  refine hK.out _ _ (HSI1.out _ ⟨cS, cR⟩) (fun hS5 => ?_)
  clear hK K
  try simp only [Act.put, pA, pB, pC]
  refine q0d 22 rfl (by kernel_rfl) (fun K hK => ?_)
  go_simp
  go_at_call 260
  refine (q1y s HS.out _).mono ?_
  rintro e w6 ⟨rfl, hc⟩
  have h := bk0 hc HBS.out; clear HBS cS lS; obtain ⟨cS, lS, HBS⟩ := h
  have h := bk0 hc HBR.out; clear HBR cR lR; obtain ⟨cR, lR, HBR⟩ := h
  replace HC := hct HC hc
  clear hc
  go_wp2_with fail
  refine hK.out _ _ (HSI1.out _ ⟨cS, cR⟩) (fun hS6 => ?_)
  clear hK K
  try simp only [Act.put, pA, pB, pC]
  refine rgT 23 hS6 ?_
  refine rgT 24 hS6 ?_
  refine rgT 25 hS6 ?_
  refine rgS 26 hS6 ?_
  refine rgS 27 hS6 ?_
  refine rgS 28 hS6 ?_
  refine rgS 29 hS6 ?_
  refine rgS 30 hS6 ?_
  refine rgS 31 hS6 ?_
  refine rgT 32 hS6 ?_
  refine rgT 33 hS6 ?_
  refine wpAnyH_done (by kernel_rfl) ?_ _
  go_wp2_with fail
  go_ret
  exact ⟨q0i HR.out.symm, HC.out⟩
 have e4 : ((l7 : Int) == s.wide) = true := by simp; exact h4
 by_cases h5 : (l8 : Int) = s.all
 rotate_left
 ·have HC : Hid (Chg [] w w) := Chg.refl _ _
  have HR := hid (show v = 3 by rw [HM.out, if_neg (by rw [HF.out (fun h => h5 (by rw [Z8.out]; exact h.2.2.2.2.1))]; simp)])
  have e5 : ((l8 : Int) == s.all) = false := by simp; exact h5
  clear h1 h2 h3 h4 h5
  go_enter Tryz.func259, Tryz.ntmps259
  go_wp2_with fail
  obtain ⟨SS1, HSI1, HSO1⟩ := q0j (fun w' => Know (w.heap.size) #[.int .i64 s.gS, .int .i64 s.cM, .int .i64 s.data, .int .i64 s.spare, .int .i64 s.rows, .int .i64 s.cap, .int .i64 s.bT, .int .i64 s.qU, .int .i64 s.sG] w' ∧ Know (w.heap.size + 1) #[.int .i64 x.kind, .int .i64 x.seq, .string x.name, .int .i64 x.length, .int .i64 x.group, .int .i64 x.row, .slice a6 l6 c6, .slice a7 l7 c7, .slice a8 l8 c8] w')
  have hS0 := HSI1.out (((w.alloc (.cells #[.int .i64 s.gS, .int .i64 s.cM, .int .i64 s.data, .int .i64 s.spare, .int .i64 s.rows, .int .i64 s.cap, .int .i64 s.bT, .int .i64 s.qU, .int .i64 s.sG] 30)).alloc (.cells #[.int .i64 x.kind, .int .i64 x.seq, .string x.name, .int .i64 x.length, .int .i64 x.group, .int .i64 x.row, .slice a6 l6 c6, .slice a7 l7 c7, .slice a8 l8 c8] 67)).drew) ⟨(Know.of (by refine q0a ?_; refine q0b ?_ _; exact q0e (by simp) _)), (Know.of (by refine q0a ?_; exact q0e (by simp) _))⟩
  refine q0k SS1 (by kernel_rfl) hS0 ?_
  refine rgL 0 hS0 HSO1 ?_
  refine rgT 1 hS0 ?_
  refine rgL 2 hS0 HSO1 ?_
  refine q0d 3 rfl (by kernel_rfl) (fun K hK => ?_)
  go_simp
  go_at_call 102
  refine (q1w s HS.out x.group _).mono ?_
  rintro e w1 ⟨rfl, hc⟩
  rw [hi1]
  obtain ⟨cS, lS, HBS⟩ := bk hc (b := w.heap.size) (q0a (q0b (q0e (by simp) _) _)) (by simp)
  obtain ⟨cR, lR, HBR⟩ := bk hc (b := w.heap.size + 1) (q0a (q0e (by simp) _)) (by simp)
  have h := Chg.trans0 (Chg.drew (Chg.alloc (Chg.alloc HC.out _) _)) hc; clear HC; have HC := hid h; clear h
  clear hc
  go_wp2_with fail
  refine hK.out _ _ (HSI1.out _ ⟨cS, cR⟩) (fun hS1 => ?_)
  clear hK K
  try simp only [Act.put, pA, pB, pC]
  refine rgT 4 hS1 ?_
  refine rgL 5 hS1 HSO1 ?_
  refine rgT 6 hS1 ?_
  refine rgL 7 hS1 HSO1 ?_
  refine q0d 8 rfl (by kernel_rfl) (fun K hK => ?_)
  go_simp
  go_at_call 134
  refine (q2h s HS.out x.row _).mono ?_
  rintro e w2 ⟨rfl, hc⟩
  rw [hi2]
  have h := bk0 hc HBS.out; clear HBS cS lS; obtain ⟨cS, lS, HBS⟩ := h
  have h := bk0 hc HBR.out; clear HBR cR lR; obtain ⟨cR, lR, HBR⟩ := h
  replace HC := hct HC hc
  clear hc
  go_wp2_with fail
  refine hK.out _ _ (HSI1.out _ ⟨cS, cR⟩) (fun hS2 => ?_)
  clear hK K
  try simp only [Act.put, pA, pB, pC]
  refine rgT 9 hS2 ?_
  refine rgT 10 hS2 ?_
  refine rgT 11 hS2 ?_
  refine rgL 12 hS2 HSO1 ?_
  refine rgL 13 hS2 HSO1 ?_
  refine q0d 14 rfl (by kernel_rfl) (fun K hK => ?_)
  go_simp
  go_at_call 179
  refine (q3t s HS.out _).mono ?_
  rintro e w3 ⟨rfl, hc⟩
  have h := bk0 hc HBS.out; clear HBS cS lS; obtain ⟨cS, lS, HBS⟩ := h
  have h := bk0 hc HBR.out; clear HBR cR lR; obtain ⟨cR, lR, HBR⟩ := h
  replace HC := hct HC hc
  clear hc
  go_wp2_with fail
  refine hK.out _ _ (HSI1.out _ ⟨cS, cR⟩) (fun hS3 => ?_)
  clear hK K
  try simp only [Act.put, pA, pB, pC]
  refine q0d 15 rfl (by kernel_rfl) (fun K hK => ?_)
  go_simp
  go_at_call 284
  refine (q3r a6 l6 c6 x.rows f6 s.all _ (Lay.sl_ext intL H6.out HC.out) (by omega) (by omega)).mono ?_
  rintro e w4 ⟨rfl, hc⟩
  rw [HI3.out]
  have h := bk0 hc HBS.out; clear HBS cS lS; obtain ⟨cS, lS, HBS⟩ := h
  have h := bk0 hc HBR.out; clear HBR cR lR; obtain ⟨cR, lR, HBR⟩ := h
  replace HC := hct HC hc
  clear hc
  go_wp2_with fail
  refine hK.out _ _ (HSI1.out _ ⟨cS, cR⟩) (fun hS4 => ?_)
  clear hK K
  try simp only [Act.put, pA, pB, pC]
  refine rgT 16 hS4 ?_
  refine rgT 17 hS4 ?_
  refine rgT 18 hS4 ?_
  refine rgL 19 hS4 HSO1 ?_
  refine rgL 21 hS4 HSO1 ?_
  refine q0d 20 rfl (by kernel_rfl) (fun K hK => ?_)
  go_simp
  go_at_call 185
  refine (q2g a7 l7 c7 _ q7).mono ?_
  rintro e w5 ⟨rfl, hc⟩
  have h := bk0 hc HBS.out; clear HBS cS lS; obtain ⟨cS, lS, HBS⟩ := h
  have h := bk0 hc HBR.out; clear HBR cR lR; obtain ⟨cR, lR, HBR⟩ := h
  replace HC := hct HC hc
  clear hc
  go_wp2_with fail
  refine hK.out _ _ (HSI1.out _ ⟨cS, cR⟩) (fun hS5 => ?_)
  clear hK K
  try simp only [Act.put, pA, pB, pC]
  refine q0d 22 rfl (by kernel_rfl) (fun K hK => ?_)
  go_simp
  go_at_call 260
  refine (q1y s HS.out _).mono ?_
  rintro e w6 ⟨rfl, hc⟩
  have h := bk0 hc HBS.out; clear HBS cS lS; obtain ⟨cS, lS, HBS⟩ := h
  have h := bk0 hc HBR.out; clear HBR cR lR; obtain ⟨cR, lR, HBR⟩ := h
  replace HC := hct HC hc
  clear hc
  go_wp2_with fail
  refine hK.out _ _ (HSI1.out _ ⟨cS, cR⟩) (fun hS6 => ?_)
  clear hK K
  try simp only [Act.put, pA, pB, pC]
  refine rgT 23 hS6 ?_
  refine rgT 24 hS6 ?_
  refine rgT 25 hS6 ?_
  refine rgT 26 hS6 ?_
  refine rgL 27 hS6 HSO1 ?_
  refine rgL 29 hS6 HSO1 ?_
  refine q0d 28 rfl (by kernel_rfl) (fun K hK => ?_)
  go_simp
  go_at_call 185
  refine (q2g a8 l8 c8 _ q8).mono ?_
  rintro e w7 ⟨rfl, hc⟩
  have h := bk0 hc HBS.out; clear HBS cS lS; obtain ⟨cS, lS, HBS⟩ := h
  have h := bk0 hc HBR.out; clear HBR cR lR; obtain ⟨cR, lR, HBR⟩ := h
  replace HC := hct HC hc
  clear hc
  go_wp2_with fail
  refine hK.out _ _ (HSI1.out _ ⟨cS, cR⟩) (fun hS7 => ?_)
  clear hK K
  try simp only [Act.put, pA, pB, pC]
  refine q0d 30 rfl (by kernel_rfl) (fun K hK => ?_)
  go_simp
  go_at_call 179
  refine (q3t s HS.out _).mono ?_
  rintro e w8 ⟨rfl, hc⟩
  have h := bk0 hc HBS.out; clear HBS cS lS; obtain ⟨cS, lS, HBS⟩ := h
  have h := bk0 hc HBR.out; clear HBR cR lR; obtain ⟨cR, lR, HBR⟩ := h
  replace HC := hct HC hc
  clear hc
  go_wp2_with fail
  refine hK.out _ _ (HSI1.out _ ⟨cS, cR⟩) (fun hS8 => ?_)
  clear hK K
  try simp only [Act.put, pA, pB, pC]
  refine rgT 31 hS8 ?_
  refine rgT 32 hS8 ?_
  refine rgT 33 hS8 ?_
  refine wpAnyH_done (by kernel_rfl) ?_ _
  go_wp2_with fail
  go_ret
  exact ⟨q0i HR.out.symm, HC.out⟩
 have e5 : ((l8 : Int) == s.all) = true := by simp; exact h5
 have hgl : x.group.toNat < l8 := by omega
 have hgl2 : x.group < (l8 : Int) := by omega
 have hg0 : 0 ≤ x.group := h1.1
 obtain ⟨z, Z, b, o, HXB, hA8, hcz, hz0, hz1⟩ := q4z H8.out hgl
 have HD := hid (show x.delta[x.group.toNat]? = some z from HXB.out.1)
 subst hA8
 have hb0 := byte0 HXB.out.2.1
 have HCZ := hid hcz
 clear hcz
 by_cases hZ : z = 0
 rotate_left
 ·have HC : Hid (Chg [] w w) := Chg.refl _ _
  have HR := hid (show v = 3 by rw [HM.out, if_neg (by rw [HF.out (fun h => hZ (by have h2 := h.2.2.2.2.2.1; rw [HD.out] at h2; exact Option.some.inj h2))]; simp)])
  have e2 := (hb0.2 hZ).2
  clear hb0 h1 h2 h3 h4 h5 hZ
  go_enter Tryz.func259, Tryz.ntmps259
  go_wp2_with fail
  obtain ⟨SS1, HSI1, HSO1⟩ := q0j (fun w' => Know (w.heap.size) #[.int .i64 s.gS, .int .i64 s.cM, .int .i64 s.data, .int .i64 s.spare, .int .i64 s.rows, .int .i64 s.cap, .int .i64 s.bT, .int .i64 s.qU, .int .i64 s.sG] w' ∧ Know (w.heap.size + 1) #[.int .i64 x.kind, .int .i64 x.seq, .string x.name, .int .i64 x.length, .int .i64 x.group, .int .i64 x.row, .slice a6 l6 c6, .slice a7 l7 c7, .slice (some ⟨b, o, none⟩) l8 c8] w')
  have hS0 := HSI1.out (((w.alloc (.cells #[.int .i64 s.gS, .int .i64 s.cM, .int .i64 s.data, .int .i64 s.spare, .int .i64 s.rows, .int .i64 s.cap, .int .i64 s.bT, .int .i64 s.qU, .int .i64 s.sG] 30)).alloc (.cells #[.int .i64 x.kind, .int .i64 x.seq, .string x.name, .int .i64 x.length, .int .i64 x.group, .int .i64 x.row, .slice a6 l6 c6, .slice a7 l7 c7, .slice (some ⟨b, o, none⟩) l8 c8] 67)).drew) ⟨(Know.of (by refine q0a ?_; refine q0b ?_ _; exact q0e (by simp) _)), (Know.of (by refine q0a ?_; exact q0e (by simp) _))⟩
  refine q0k SS1 (by kernel_rfl) hS0 ?_
  refine rgL 0 hS0 HSO1 ?_
  refine rgT 1 hS0 ?_
  refine rgL 2 hS0 HSO1 ?_
  refine q0d 3 rfl (by kernel_rfl) (fun K hK => ?_)
  go_simp
  go_at_call 102
  refine (q1w s HS.out x.group _).mono ?_
  rintro e w1 ⟨rfl, hc⟩
  rw [hi1]
  obtain ⟨cS, lS, HBS⟩ := bk hc (b := w.heap.size) (q0a (q0b (q0e (by simp) _) _)) (by simp)
  obtain ⟨cR, lR, HBR⟩ := bk hc (b := w.heap.size + 1) (q0a (q0e (by simp) _)) (by simp)
  have h := Chg.trans0 (Chg.drew (Chg.alloc (Chg.alloc HC.out _) _)) hc; clear HC; have HC := hid h; clear h
  clear hc
  go_wp2_with fail
  refine hK.out _ _ (HSI1.out _ ⟨cS, cR⟩) (fun hS1 => ?_)
  clear hK K
  try simp only [Act.put, pA, pB, pC]
  refine rgT 4 hS1 ?_
  refine rgL 5 hS1 HSO1 ?_
  refine rgT 6 hS1 ?_
  refine rgL 7 hS1 HSO1 ?_
  refine q0d 8 rfl (by kernel_rfl) (fun K hK => ?_)
  go_simp
  go_at_call 134
  refine (q2h s HS.out x.row _).mono ?_
  rintro e w2 ⟨rfl, hc⟩
  rw [hi2]
  have h := bk0 hc HBS.out; clear HBS cS lS; obtain ⟨cS, lS, HBS⟩ := h
  have h := bk0 hc HBR.out; clear HBR cR lR; obtain ⟨cR, lR, HBR⟩ := h
  replace HC := hct HC hc
  clear hc
  go_wp2_with fail
  refine hK.out _ _ (HSI1.out _ ⟨cS, cR⟩) (fun hS2 => ?_)
  clear hK K
  try simp only [Act.put, pA, pB, pC]
  refine rgT 9 hS2 ?_
  refine rgT 10 hS2 ?_
  refine rgT 11 hS2 ?_
  refine rgL 12 hS2 HSO1 ?_
  refine rgL 13 hS2 HSO1 ?_
  refine q0d 14 rfl (by kernel_rfl) (fun K hK => ?_)
  go_simp
  go_at_call 179
  refine (q3t s HS.out _).mono ?_
  rintro e w3 ⟨rfl, hc⟩
  have h := bk0 hc HBS.out; clear HBS cS lS; obtain ⟨cS, lS, HBS⟩ := h
  have h := bk0 hc HBR.out; clear HBR cR lR; obtain ⟨cR, lR, HBR⟩ := h
  replace HC := hct HC hc
  clear hc
  go_wp2_with fail
  refine hK.out _ _ (HSI1.out _ ⟨cS, cR⟩) (fun hS3 => ?_)
  clear hK K
  try simp only [Act.put, pA, pB, pC]
  refine q0d 15 rfl (by kernel_rfl) (fun K hK => ?_)
  go_simp
  go_at_call 284
  refine (q3r a6 l6 c6 x.rows f6 s.all _ (Lay.sl_ext intL H6.out HC.out) (by omega) (by omega)).mono ?_
  rintro e w4 ⟨rfl, hc⟩
  rw [HI3.out]
  have h := bk0 hc HBS.out; clear HBS cS lS; obtain ⟨cS, lS, HBS⟩ := h
  have h := bk0 hc HBR.out; clear HBR cR lR; obtain ⟨cR, lR, HBR⟩ := h
  replace HC := hct HC hc
  clear hc
  go_wp2_with fail
  refine hK.out _ _ (HSI1.out _ ⟨cS, cR⟩) (fun hS4 => ?_)
  clear hK K
  try simp only [Act.put, pA, pB, pC]
  refine rgT 16 hS4 ?_
  refine rgT 17 hS4 ?_
  refine rgT 18 hS4 ?_
  refine rgL 19 hS4 HSO1 ?_
  refine rgL 21 hS4 HSO1 ?_
  refine q0d 20 rfl (by kernel_rfl) (fun K hK => ?_)
  go_simp
  go_at_call 185
  refine (q2g a7 l7 c7 _ q7).mono ?_
  rintro e w5 ⟨rfl, hc⟩
  have h := bk0 hc HBS.out; clear HBS cS lS; obtain ⟨cS, lS, HBS⟩ := h
  have h := bk0 hc HBR.out; clear HBR cR lR; obtain ⟨cR, lR, HBR⟩ := h
  replace HC := hct HC hc
  clear hc
  go_wp2_with fail
  refine hK.out _ _ (HSI1.out _ ⟨cS, cR⟩) (fun hS5 => ?_)
  clear hK K
  try simp only [Act.put, pA, pB, pC]
  refine q0d 22 rfl (by kernel_rfl) (fun K hK => ?_)
  go_simp
  go_at_call 260
  refine (q1y s HS.out _).mono ?_
  rintro e w6 ⟨rfl, hc⟩
  have h := bk0 hc HBS.out; clear HBS cS lS; obtain ⟨cS, lS, HBS⟩ := h
  have h := bk0 hc HBR.out; clear HBR cR lR; obtain ⟨cR, lR, HBR⟩ := h
  replace HC := hct HC hc
  clear hc
  go_wp2_with fail
  refine hK.out _ _ (HSI1.out _ ⟨cS, cR⟩) (fun hS6 => ?_)
  clear hK K
  try simp only [Act.put, pA, pB, pC]
  refine rgT 23 hS6 ?_
  refine rgT 24 hS6 ?_
  refine rgT 25 hS6 ?_
  refine rgT 26 hS6 ?_
  refine rgL 27 hS6 HSO1 ?_
  refine rgL 29 hS6 HSO1 ?_
  refine q0d 28 rfl (by kernel_rfl) (fun K hK => ?_)
  go_simp
  go_at_call 185
  refine (q2g (some ⟨b, o, none⟩) l8 c8 _ q8).mono ?_
  rintro e w7 ⟨rfl, hc⟩
  have h := bk0 hc HBS.out; clear HBS cS lS; obtain ⟨cS, lS, HBS⟩ := h
  have h := bk0 hc HBR.out; clear HBR cR lR; obtain ⟨cR, lR, HBR⟩ := h
  replace HC := hct HC hc
  clear hc
  go_wp2_with fail
  refine hK.out _ _ (HSI1.out _ ⟨cS, cR⟩) (fun hS7 => ?_)
  clear hK K
  try simp only [Act.put, pA, pB, pC]
  refine q0d 30 rfl (by kernel_rfl) (fun K hK => ?_)
  go_simp
  go_at_call 179
  refine (q3t s HS.out _).mono ?_
  rintro e w8 ⟨rfl, hc⟩
  have h := bk0 hc HBS.out; clear HBS cS lS; obtain ⟨cS, lS, HBS⟩ := h
  have h := bk0 hc HBR.out; clear HBR cR lR; obtain ⟨cR, lR, HBR⟩ := h
  replace HC := hct HC hc
  clear hc
  go_wp2_with fail
  refine hK.out _ _ (HSI1.out _ ⟨cS, cR⟩) (fun hS8 => ?_)
  clear hK K
  try simp only [Act.put, pA, pB, pC]
  refine rgT 31 hS8 ?_
  refine rgT 32 hS8 ?_
  refine rgT 33 hS8 ?_
  refine wpAnyH_done (by kernel_rfl) ?_ _
  have hcz := (Chg.facts HC.out).1 b (o + x.group.toNat) (Lay.sl_lt _ H8.out _ HXB.out.2.2)
  rw [HCZ.out] at hcz
  go_wp2_with fail
  go_ret
  exact ⟨q0i HR.out.symm, HC.out⟩
 have HC : Hid (Chg [] w w) := Chg.refl _ _
 have e2 := (hb0.1 hZ).2
 subst hZ
 have HYS := hid (show ∀ y ∈ x.rows, 0 ≤ y ∧ y < (l8 : Int) from fun y hy => by have := h3.mem hy; omega)
 have HV := hid (show v = if pb (∃ y ∈ x.rows, x.delta[y.toNat]? = some 0) = true then 3 else 0 by
  rw [HM.out, HE.out (¬ ∃ y ∈ x.rows, x.delta[y.toNat]? = some 0) ⟨fun h => fun ⟨y, h6, h7⟩ => h.2.2.2.2.2.2 y h6 h7, fun h => ⟨h1, h2, h3, by rw [← Z7.out]; exact h4, by rw [← Z8.out]; exact h5, HD.out, fun y h6 h7 => h ⟨y, h6, h7⟩⟩⟩]
  by_cases h : ∃ y ∈ x.rows, x.delta[y.toNat]? = some 0
  ·rw [q0g h, q0f (fun h2 => h2 h)]; rfl
  ·rw [q0f h, q0g h]; rfl)
 clear hb0 h1 h2 h3 h4 h5
 go_enter Tryz.func259, Tryz.ntmps259
 go_wp2_with fail
 obtain ⟨SS1, HSI1, HSO1⟩ := q0j (fun w' => Know (w.heap.size) #[.int .i64 s.gS, .int .i64 s.cM, .int .i64 s.data, .int .i64 s.spare, .int .i64 s.rows, .int .i64 s.cap, .int .i64 s.bT, .int .i64 s.qU, .int .i64 s.sG] w' ∧ Know (w.heap.size + 1) #[.int .i64 x.kind, .int .i64 x.seq, .string x.name, .int .i64 x.length, .int .i64 x.group, .int .i64 x.row, .slice a6 l6 c6, .slice a7 l7 c7, .slice (some ⟨b, o, none⟩) l8 c8] w')
 have hS0 := HSI1.out (((w.alloc (.cells #[.int .i64 s.gS, .int .i64 s.cM, .int .i64 s.data, .int .i64 s.spare, .int .i64 s.rows, .int .i64 s.cap, .int .i64 s.bT, .int .i64 s.qU, .int .i64 s.sG] 30)).alloc (.cells #[.int .i64 x.kind, .int .i64 x.seq, .string x.name, .int .i64 x.length, .int .i64 x.group, .int .i64 x.row, .slice a6 l6 c6, .slice a7 l7 c7, .slice (some ⟨b, o, none⟩) l8 c8] 67)).drew) ⟨(Know.of (by refine q0a ?_; refine q0b ?_ _; exact q0e (by simp) _)), (Know.of (by refine q0a ?_; exact q0e (by simp) _))⟩
 refine q0k SS1 (by kernel_rfl) hS0 ?_
 refine rgL 0 hS0 HSO1 ?_
 refine rgT 1 hS0 ?_
 refine rgL 2 hS0 HSO1 ?_
 refine q0d 3 rfl (by kernel_rfl) (fun K hK => ?_)
 go_simp
 go_at_call 102
 refine (q1w s HS.out x.group _).mono ?_
 rintro e w1 ⟨rfl, hc⟩
 rw [hi1]
 obtain ⟨cS, lS, HBS⟩ := bk hc (b := w.heap.size) (q0a (q0b (q0e (by simp) _) _)) (by simp)
 obtain ⟨cR, lR, HBR⟩ := bk hc (b := w.heap.size + 1) (q0a (q0e (by simp) _)) (by simp)
 have h := Chg.trans0 (Chg.drew (Chg.alloc (Chg.alloc HC.out _) _)) hc; clear HC; have HC := hid h; clear h
 clear hc
 go_wp2_with fail
 refine hK.out _ _ (HSI1.out _ ⟨cS, cR⟩) (fun hS1 => ?_)
 clear hK K
 try simp only [Act.put, pA, pB, pC]
 refine rgT 4 hS1 ?_
 refine rgL 5 hS1 HSO1 ?_
 refine rgT 6 hS1 ?_
 refine rgL 7 hS1 HSO1 ?_
 refine q0d 8 rfl (by kernel_rfl) (fun K hK => ?_)
 go_simp
 go_at_call 134
 refine (q2h s HS.out x.row _).mono ?_
 rintro e w2 ⟨rfl, hc⟩
 rw [hi2]
 have h := bk0 hc HBS.out; clear HBS cS lS; obtain ⟨cS, lS, HBS⟩ := h
 have h := bk0 hc HBR.out; clear HBR cR lR; obtain ⟨cR, lR, HBR⟩ := h
 replace HC := hct HC hc
 clear hc
 go_wp2_with fail
 refine hK.out _ _ (HSI1.out _ ⟨cS, cR⟩) (fun hS2 => ?_)
 clear hK K
 try simp only [Act.put, pA, pB, pC]
 refine rgT 9 hS2 ?_
 refine rgT 10 hS2 ?_
 refine rgT 11 hS2 ?_
 refine rgL 12 hS2 HSO1 ?_
 refine rgL 13 hS2 HSO1 ?_
 refine q0d 14 rfl (by kernel_rfl) (fun K hK => ?_)
 go_simp
 go_at_call 179
 refine (q3t s HS.out _).mono ?_
 rintro e w3 ⟨rfl, hc⟩
 have h := bk0 hc HBS.out; clear HBS cS lS; obtain ⟨cS, lS, HBS⟩ := h
 have h := bk0 hc HBR.out; clear HBR cR lR; obtain ⟨cR, lR, HBR⟩ := h
 replace HC := hct HC hc
 clear hc
 go_wp2_with fail
 refine hK.out _ _ (HSI1.out _ ⟨cS, cR⟩) (fun hS3 => ?_)
 clear hK K
 try simp only [Act.put, pA, pB, pC]
 refine q0d 15 rfl (by kernel_rfl) (fun K hK => ?_)
 go_simp
 go_at_call 284
 refine (q3r a6 l6 c6 x.rows f6 s.all _ (Lay.sl_ext intL H6.out HC.out) (by omega) (by omega)).mono ?_
 rintro e w4 ⟨rfl, hc⟩
 rw [HI3.out]
 have h := bk0 hc HBS.out; clear HBS cS lS; obtain ⟨cS, lS, HBS⟩ := h
 have h := bk0 hc HBR.out; clear HBR cR lR; obtain ⟨cR, lR, HBR⟩ := h
 replace HC := hct HC hc
 clear hc
 go_wp2_with fail
 refine hK.out _ _ (HSI1.out _ ⟨cS, cR⟩) (fun hS4 => ?_)
 clear hK K
 try simp only [Act.put, pA, pB, pC]
 refine rgT 16 hS4 ?_
 refine rgT 17 hS4 ?_
 refine rgT 18 hS4 ?_
 refine rgL 19 hS4 HSO1 ?_
 refine rgL 21 hS4 HSO1 ?_
 refine q0d 20 rfl (by kernel_rfl) (fun K hK => ?_)
 go_simp
 go_at_call 185
 refine (q2g a7 l7 c7 _ q7).mono ?_
 rintro e w5 ⟨rfl, hc⟩
 have h := bk0 hc HBS.out; clear HBS cS lS; obtain ⟨cS, lS, HBS⟩ := h
 have h := bk0 hc HBR.out; clear HBR cR lR; obtain ⟨cR, lR, HBR⟩ := h
 replace HC := hct HC hc
 clear hc
 go_wp2_with fail
 refine hK.out _ _ (HSI1.out _ ⟨cS, cR⟩) (fun hS5 => ?_)
 clear hK K
 try simp only [Act.put, pA, pB, pC]
 refine q0d 22 rfl (by kernel_rfl) (fun K hK => ?_)
 go_simp
 go_at_call 260
 refine (q1y s HS.out _).mono ?_
 rintro e w6 ⟨rfl, hc⟩
 have h := bk0 hc HBS.out; clear HBS cS lS; obtain ⟨cS, lS, HBS⟩ := h
 have h := bk0 hc HBR.out; clear HBR cR lR; obtain ⟨cR, lR, HBR⟩ := h
 replace HC := hct HC hc
 clear hc
 go_wp2_with fail
 refine hK.out _ _ (HSI1.out _ ⟨cS, cR⟩) (fun hS6 => ?_)
 clear hK K
 try simp only [Act.put, pA, pB, pC]
 refine rgT 23 hS6 ?_
 refine rgT 24 hS6 ?_
 refine rgT 25 hS6 ?_
 refine rgT 26 hS6 ?_
 refine rgL 27 hS6 HSO1 ?_
 refine rgL 29 hS6 HSO1 ?_
 refine q0d 28 rfl (by kernel_rfl) (fun K hK => ?_)
 go_simp
 go_at_call 185
 refine (q2g (some ⟨b, o, none⟩) l8 c8 _ q8).mono ?_
 rintro e w7 ⟨rfl, hc⟩
 have h := bk0 hc HBS.out; clear HBS cS lS; obtain ⟨cS, lS, HBS⟩ := h
 have h := bk0 hc HBR.out; clear HBR cR lR; obtain ⟨cR, lR, HBR⟩ := h
 replace HC := hct HC hc
 clear hc
 go_wp2_with fail
 refine hK.out _ _ (HSI1.out _ ⟨cS, cR⟩) (fun hS7 => ?_)
 clear hK K
 try simp only [Act.put, pA, pB, pC]
 refine q0d 30 rfl (by kernel_rfl) (fun K hK => ?_)
 go_simp
 go_at_call 179
 refine (q3t s HS.out _).mono ?_
 rintro e w8 ⟨rfl, hc⟩
 have h := bk0 hc HBS.out; clear HBS cS lS; obtain ⟨cS, lS, HBS⟩ := h
 have h := bk0 hc HBR.out; clear HBR cR lR; obtain ⟨cR, lR, HBR⟩ := h
 replace HC := hct HC hc
 clear hc
 go_wp2_with fail
 refine hK.out _ _ (HSI1.out _ ⟨cS, cR⟩) (fun hS8 => ?_)
 clear hK K
 try simp only [Act.put, pA, pB, pC]
 refine rgT 31 hS8 ?_
 refine rgT 32 hS8 ?_
 refine rgT 33 hS8 ?_
 refine wpAnyH_done (by kernel_rfl) ?_ _
 have hcz := (Chg.facts HC.out).1 b (o + x.group.toNat) (Lay.sl_lt _ H8.out _ HXB.out.2.2)
 rw [HCZ.out] at hcz
 go_wp2_with fail
 refine (q9i w.heap.size.succ x a6 a7 (some ⟨b, o, none⟩) l6 l7 l8 c6 c7 c8 f6 f8 _ HBR.out (Lay.sl_ext intL H6.out HC.out) (Lay.sl_ext q0p H8.out HC.out) HYS.out).mono ?_
 rintro e w9 ⟨rfl, hc⟩
 have h := bk0 hc HBS.out; clear HBS cS lS; obtain ⟨cS, lS, HBS⟩ := h
 have h := bk0 hc HBR.out; clear HBR cR lR; obtain ⟨cR, lR, HBR⟩ := h
 replace HC := hct HC hc
 clear hc
 cases hv : pb (∃ y ∈ x.rows, x.delta[y.toNat]? = some 0)
 ·have HR := hid (HV.out.trans (if_neg (by rw [hv]; simp)))
  clear hv
  go_wp2_with fail
  go_ret
  exact ⟨q0i HR.out.symm, HC.out⟩
 ·have HR := hid (HV.out.trans (if_pos hv))
  clear hv
  go_wp2_with fail
  go_ret
  exact ⟨q0i HR.out.symm, HC.out⟩
def MoveOk (s : Shp) (x : Rec) : Prop := (0 ≤ x.group ∧ x.group ≤ s.gS - 1) ∧ (0 ≤ x.row ∧ x.row ≤ s.rows - 1) ∧ (x.data.length : Int) = s.wide ∧ (x.delta.length : Int) = s.wide
def RestI (x : Rec) : Prop := x.group = 0 ∧ x.row = 0 ∧ x.delta = []
def RestM (x : Rec) : Prop := x.name = ⟨#[]⟩ ∧ x.length = 0 ∧ x.rows = []
def RestD (x : Rec) : Prop := x.name = ⟨#[]⟩ ∧ x.length = 0 ∧ x.row = 0 ∧ x.rows = [] ∧ x.data = [] ∧ x.delta = []
def RestS (x : Rec) : Prop := x.name = ⟨#[]⟩ ∧ x.length = 0
noncomputable def recV (s : Shp) (x : Rec) : Int :=
 if pb (1 ≤ x.kind ∧ x.kind ≤ 4) = true then
  if pb (1 ≤ x.seq ∧ x.seq ≤ 1000000000) = true then
   if x.kind = 1 then (if q4s s x = 0 then (if pb (RestI x) = true then 0 else 1) else q4s s x)
   else if x.kind = 2 then (if pb (MoveOk s x) = true then (if pb (RestM x) = true then 0 else 1) else 3)
   else if x.kind = 3 then (if pb (0 ≤ x.group ∧ x.group ≤ s.all - 1) = true then (if pb (RestD x) = true then 0 else 1) else 3)
   else (if pb (q3c s x) = true then (if pb (RestS x) = true then 0 else 1) else 3)
  else 3
 else 5
noncomputable def recVF (s : Shp) (x : Rec) : Int := if s.fault = 0 then recV s x else s.fault
theorem q7f {s : Shp} {x : Rec} (h : ¬ (1 ≤ x.kind ∧ x.kind ≤ 4)) : recV s x = 5 := by unfold recV; rw [q0f h]; rfl
theorem q8x {s : Shp} {x : Rec} (h : 1 ≤ x.kind ∧ x.kind ≤ 4) (h2 : ¬ (1 ≤ x.seq ∧ x.seq ≤ 1000000000)) : recV s x = 3 := by unfold recV; rw [q0g h, q0f h2]; rfl
theorem recV_1 {s : Shp} {x : Rec} (h : x.kind = 1) (h2 : 1 ≤ x.seq ∧ x.seq ≤ 1000000000) : recV s x = if q4s s x = 0 then (if pb (RestI x) = true then 0 else 1) else q4s s x := by
 unfold recV; rw [q0g (by omega), q0g h2, if_pos rfl, if_pos rfl, if_pos h]
theorem q5h {s : Shp} {x : Rec} (h : x.kind = 2) (h2 : 1 ≤ x.seq ∧ x.seq ≤ 1000000000) : recV s x = if pb (MoveOk s x) = true then (if pb (RestM x) = true then 0 else 1) else 3 := by
 unfold recV; rw [q0g (by omega), q0g h2, if_pos rfl, if_pos rfl, if_neg (by omega), if_pos h]
theorem recV_3 {s : Shp} {x : Rec} (h : x.kind = 3) (h2 : 1 ≤ x.seq ∧ x.seq ≤ 1000000000) : recV s x = if pb (0 ≤ x.group ∧ x.group ≤ s.all - 1) = true then (if pb (RestD x) = true then 0 else 1) else 3 := by
 unfold recV; rw [q0g (by omega), q0g h2, if_pos rfl, if_pos rfl, if_neg (by omega), if_neg (by omega), if_pos h]
theorem q6o {s : Shp} {x : Rec} (h : x.kind = 4) (h2 : 1 ≤ x.seq ∧ x.seq ≤ 1000000000) : recV s x = if pb (q3c s x) = true then (if pb (RestS x) = true then 0 else 1) else 3 := by
 unfold recV; rw [q0g (by omega), q0g h2, if_pos rfl, if_pos rfl, if_neg (by omega), if_neg (by omega), if_neg (by omega)]
theorem item_name {s : Shp} {x : Rec} (h : ¬ q1b x.name = 0) : q4s s x = q1b x.name := by unfold q4s; rw [if_neg h]
theorem item_bad {s : Shp} {x : Rec} (h : q1b x.name = 0) (h2 : ¬ q1e s x) : q4s s x = 3 := by unfold q4s; rw [if_pos h, q0f h2]; rfl
theorem item_ok {s : Shp} {x : Rec} (h : q1b x.name = 0) (h2 : q1e s x) : q4s s x = 0 := by unfold q4s; rw [if_pos h, q0g h2]; rfl
theorem q9j {v : Int} {P Q : Prop} (h : v = if pb P = true then 0 else 1) (e : Q ↔ P) : v = if pb Q = true then 0 else 1 := by rw [q5i e]; exact h
theorem q6t : q0u 0 := ⟨by omega, by omega⟩
theorem max_0 : (⟨#[]⟩ : ByteArray).size ≤ maxLen := by unfold maxLen; show 0 ≤ _; omega
theorem q4p {α : Type} (L : Lay α) (w : World) : L.sl w none 0 0 [] [] := ⟨rfl, Nat.le_refl _, by unfold maxLen; omega, fun _ => rfl, .inl ⟨rfl, rfl⟩⟩
theorem q0w (n a b : Int) (w : World) :
  Calls Tryz.prog 70 #[.int .i64 n, .int .i64 a, .int .i64 b] w fun e w' => e = .returned (.bool (inB n a b)) ∧ Chg [] w w' :=
 (q6b n a b w).mono fun _ _ h => ⟨h.1, h.2 ▸ Chg.refl _ _⟩
theorem q1d (n a b : Int) (w : World) :
  Calls Tryz.prog 147 #[.int .i64 n, .int .i64 a, .int .i64 b] w fun e w' => e = .returned (.bool (inB n a b)) ∧ Chg [] w w' :=
 (q2a n a b w).mono fun _ _ h => ⟨h.1, h.2 ▸ Chg.refl _ _⟩
theorem q3n (s : Shp) (hs : s.ok) (w : World) :
  Calls Tryz.prog 194 #[.agg s.cells] w fun e w' => e = .returned (.int .i64 s.wide) ∧ Chg [] w w' := by
 refine (q8h s hs.data.1 hs.data.2 w).mono ?_
 rintro e w' ⟨rfl, hw⟩
 exact ⟨q0i (by unfold Shp.wide; omega), by first | exact hw | (subst hw; repeat (first | exact Chg.refl _ _ | refine Chg.alloc ?_ _))⟩
theorem spec_rec0 (s : Shp) (hs : s.ok) (x : Rec) (cx : Array Value) (fx : List Nat) (w : World) (hx : recL.rep w cx.toList x fx) (hk0 : ¬ ((1 ≤ x.kind ∧ x.kind ≤ 4) ∧ (1 ≤ x.seq ∧ x.seq ≤ 1000000000))) :
  Calls Tryz.prog 119 #[.agg s.cells, .agg cx] w fun e w' => e = .returned (.int .i64 (recV s x)) ∧ Chg [] w w' := by
 have HX := hid hx
 obtain ⟨a6, l6, c6, f6, a7, l7, c7, f7, a8, l8, c8, f8, ex, o0, o1, on, o3, o4, o5, h6, h7, h8, -⟩ := q0v.1 hx
 have HO := hid (And.intro o0 o1)
 clear hx o0 o1
 obtain rfl := Array.toList_inj.1 (ex.trans (List.toList_toArray).symm)
 clear ex
 have q6 := intL.sl_max h6; have q7 := q0p.sl_max h7; have q8 := q0p.sl_max h8
 have Z6 := hid h6.1; have Z7 := hid h7.1; have Z8 := hid h8.1
 have H6 := hid h6; have H7 := hid h7; have H8 := hid h8
 clear h6 h7 h8
 have hd := hs.data; have hr := hs.rows; have hg := hs.gS; have hal := hs.all
 have HS := hid hs
 clear hs
 have e50 : IntKind.i64.wrap (s.rows - 1) = s.rows - 1 := IntWalk.i64_in _ (by omega)
 have e51 : IntKind.i64.wrap (s.gS - 1) = s.gS - 1 := IntWalk.i64_in _ (by omega)
 have e52 : IntKind.i64.wrap (s.all - 1) = s.all - 1 := IntWalk.i64_in _ (by omega)
 show Calls _ _ #[.agg #[.int .i64 s.gS, .int .i64 s.cM, .int .i64 s.data, .int .i64 s.spare, .int .i64 s.rows, .int .i64 s.cap, .int .i64 s.bT, .int .i64 s.qU, .int .i64 s.sG], .agg _] _ _
 have HSF := hid (show s.fault = 0 from if_pos HS.out)
 have hwd := HS.out.wide
 by_cases hk1 : 1 ≤ x.kind ∧ x.kind ≤ 4
 rotate_left
 ·have HC : Hid (Chg [] w w) := Chg.refl _ _
  have HR := hid (q7f (s := s) hk1)
  have hk := q1t hk1
  clear hk1 hk0
  go_enter Tryz.func119, Tryz.ntmps119
  go_wp2_with fail
  refine (q0n s _).mono ?_
  rintro e w1 ⟨rfl, hc⟩
  rw [HSF.out]
  obtain ⟨cS, lS, HBS⟩ := bk hc (b := w.heap.size) (q0b (q0e (by simp) _) _) (by simp)
  obtain ⟨cR, lR, HBR⟩ := bk hc (b := w.heap.size + 1) (q0e (by simp) _) (by simp)
  have h := Chg.trans0 (Chg.alloc (Chg.alloc HC.out _) _) hc; clear HC; have HC := hid h; clear h
  clear hc
  go_wp2_with fail
  refine (q0w x.kind 1 4 _).mono ?_
  rintro e w2 ⟨rfl, hc⟩
  rw [hk]
  have h := bk0 hc HBS.out; clear HBS cS lS; obtain ⟨cS, lS, HBS⟩ := h
  have h := bk0 hc HBR.out; clear HBR cR lR; obtain ⟨cR, lR, HBR⟩ := h
  replace HC := hct HC hc
  clear hc
  go_wp2_with fail
  go_ret
  exact ⟨q0i HR.out.symm, HC.out⟩
 have hk := q1m hk1.1 hk1.2
 by_cases hq1 : 1 ≤ x.seq ∧ x.seq ≤ 1000000000
 rotate_left
 ·have HC : Hid (Chg [] w w) := Chg.refl _ _
  have HR := hid (q8x (s := s) hk1 hq1)
  have hq := q1t hq1
  clear hk1 hq1 hk0
  go_enter Tryz.func119, Tryz.ntmps119
  go_wp2_with fail
  refine (q0n s _).mono ?_
  rintro e w1 ⟨rfl, hc⟩
  rw [HSF.out]
  obtain ⟨cS, lS, HBS⟩ := bk hc (b := w.heap.size) (q0b (q0e (by simp) _) _) (by simp)
  obtain ⟨cR, lR, HBR⟩ := bk hc (b := w.heap.size + 1) (q0e (by simp) _) (by simp)
  have h := Chg.trans0 (Chg.alloc (Chg.alloc HC.out _) _) hc; clear HC; have HC := hid h; clear h
  clear hc
  go_wp2_with fail
  refine (q0w x.kind 1 4 _).mono ?_
  rintro e w2 ⟨rfl, hc⟩
  rw [hk]
  have h := bk0 hc HBS.out; clear HBS cS lS; obtain ⟨cS, lS, HBS⟩ := h
  have h := bk0 hc HBR.out; clear HBR cR lR; obtain ⟨cR, lR, HBR⟩ := h
  replace HC := hct HC hc
  clear hc
  go_wp2_with fail
  refine (q0w x.seq 1 1000000000 _).mono ?_
  rintro e w3 ⟨rfl, hc⟩
  rw [hq]
  have h := bk0 hc HBS.out; clear HBS cS lS; obtain ⟨cS, lS, HBS⟩ := h
  have h := bk0 hc HBR.out; clear HBR cR lR; obtain ⟨cR, lR, HBR⟩ := h
  replace HC := hct HC hc
  clear hc
  go_wp2_with fail
  go_ret
  exact ⟨q0i HR.out.symm, HC.out⟩
 exact absurd ⟨hk1, hq1⟩ hk0
theorem spec_rec1 (s : Shp) (hs : s.ok) (x : Rec) (cx : Array Value) (fx : List Nat) (w : World) (hx : recL.rep w cx.toList x fx) (hk0 : x.kind = 1) (hq1 : 1 ≤ x.seq ∧ x.seq ≤ 1000000000) :
  Calls Tryz.prog 119 #[.agg s.cells, .agg cx] w fun e w' => e = .returned (.int .i64 (recV s x)) ∧ Chg [] w w' := by
 have HX := hid hx
 obtain ⟨a6, l6, c6, f6, a7, l7, c7, f7, a8, l8, c8, f8, ex, o0, o1, on, o3, o4, o5, h6, h7, h8, -⟩ := q0v.1 hx
 have HO := hid (And.intro o0 o1)
 clear hx o0 o1
 obtain rfl := Array.toList_inj.1 (ex.trans (List.toList_toArray).symm)
 clear ex
 have q6 := intL.sl_max h6; have q7 := q0p.sl_max h7; have q8 := q0p.sl_max h8
 have Z6 := hid h6.1; have Z7 := hid h7.1; have Z8 := hid h8.1
 have H6 := hid h6; have H7 := hid h7; have H8 := hid h8
 clear h6 h7 h8
 have hd := hs.data; have hr := hs.rows; have hg := hs.gS; have hal := hs.all
 have HS := hid hs
 clear hs
 have e50 : IntKind.i64.wrap (s.rows - 1) = s.rows - 1 := IntWalk.i64_in _ (by omega)
 have e51 : IntKind.i64.wrap (s.gS - 1) = s.gS - 1 := IntWalk.i64_in _ (by omega)
 have e52 : IntKind.i64.wrap (s.all - 1) = s.all - 1 := IntWalk.i64_in _ (by omega)
 show Calls _ _ #[.agg #[.int .i64 s.gS, .int .i64 s.cM, .int .i64 s.data, .int .i64 s.spare, .int .i64 s.rows, .int .i64 s.cap, .int .i64 s.bT, .int .i64 s.qU, .int .i64 s.sG], .agg _] _ _
 have HSF := hid (show s.fault = 0 from if_pos HS.out)
 have hwd := HS.out.wide
 have HQ := hid hq1
 have hk := q1m (n := x.kind) (a := 1) (b := 4) (by omega) (by omega)
 have hq := q1m hq1.1 hq1.2
 obtain ⟨hs1, hs2⟩ := hq1
 have HK := hid hk0
 have kd1 : (x.kind == 1) = true := by simp; omega
 have kd2 : (x.kind == 2) = false := by simp; omega
 have kd3 : (x.kind == 3) = false := by simp; omega
 have kd4 : (x.kind == 4) = false := by simp; omega
 clear hk0
 by_cases hn : q1b x.name = 0
 rotate_left
 ·have HC : Hid (Chg [] w w) := Chg.refl _ _
  have HR := hid (show recV s x = q1b x.name by rw [recV_1 HK.out HQ.out, if_neg (by rw [item_name hn]; exact hn), item_name hn])
  obtain ⟨nv, hnv⟩ : ∃ n, n = q1b x.name := ⟨_, rfl⟩
  have e1 : (nv != 0) = true := by rw [hnv]; exact nn_ne hn
  have HNW := hid hnv
  rw [← hnv] at HR
  clear hn hnv
  go_enter Tryz.func119, Tryz.ntmps119
  go_wp2_with fail
  refine (q0n s _).mono ?_
  rintro e w1 ⟨rfl, hc⟩
  rw [HSF.out]
  obtain ⟨cS, lS, HBS⟩ := bk hc (b := w.heap.size) (q0b (q0e (by simp) _) _) (by simp)
  obtain ⟨cR, lR, HBR⟩ := bk hc (b := w.heap.size + 1) (q0e (by simp) _) (by simp)
  have h := Chg.trans0 (Chg.alloc (Chg.alloc HC.out _) _) hc; clear HC; have HC := hid h; clear h
  clear hc
  go_wp2_with fail
  refine (q0w x.kind 1 4 _).mono ?_
  rintro e w2 ⟨rfl, hc⟩
  rw [hk]
  have h := bk0 hc HBS.out; clear HBS cS lS; obtain ⟨cS, lS, HBS⟩ := h
  have h := bk0 hc HBR.out; clear HBR cR lR; obtain ⟨cR, lR, HBR⟩ := h
  replace HC := hct HC hc
  clear hc
  go_wp2_with fail
  refine (q0w x.seq 1 1000000000 _).mono ?_
  rintro e w3 ⟨rfl, hc⟩
  rw [hq]
  have h := bk0 hc HBS.out; clear HBS cS lS; obtain ⟨cS, lS, HBS⟩ := h
  have h := bk0 hc HBR.out; clear HBR cR lR; obtain ⟨cR, lR, HBR⟩ := h
  replace HC := hct HC hc
  clear hc
  have NT_S : w.heap.size ≠ w3.heap.size := by omega
  have NT_R : w.heap.size + 1 ≠ w3.heap.size := by omega
  have GT := Nat.le_trans HC.out.size (show w3.heap.size ≤ w3.heap.size by omega)
  go_wp2_with fail
  refine (q6i x.name on _).mono ?_
  rintro e w4 ⟨rfl, hc⟩
  rw [← HNW.out]
  have h := bk hc (q0b HBS.out _) (by simp); clear HBS cS lS; obtain ⟨cS, lS, HBS⟩ := h
  have h := bk hc (q0b HBR.out _) (by simp); clear HBR cR lR; obtain ⟨cR, lR, HBR⟩ := h
  have h := hc.keepb (b := w3.heap.size) (q0e (by simp) _) (by simp); have cT := cellsOf h; have lT := ltOf h; have fT := q0c h; have HBT := hid h; clear h
  have h := Chg.trans0 (Chg.alloc HC.out _) hc; clear HC; have HC := hid h; clear h
  clear hc
  go_wp2_with fail
  go_ret
  exact ⟨q0i HR.out.symm, HC.out⟩
 have HNV := hid hn
 by_cases hi : q1e s x
 rotate_left
 ·have HC : Hid (Chg [] w w) := Chg.refl _ _
  have HR := hid (show recV s x = 3 by rw [recV_1 HK.out HQ.out, item_bad hn hi]; rfl)
  have HIT := hid (q0f hi)
  clear hn hi
  go_enter Tryz.func119, Tryz.ntmps119
  go_wp2_with fail
  refine (q0n s _).mono ?_
  rintro e w1 ⟨rfl, hc⟩
  rw [HSF.out]
  obtain ⟨cS, lS, HBS⟩ := bk hc (b := w.heap.size) (q0b (q0e (by simp) _) _) (by simp)
  obtain ⟨cR, lR, HBR⟩ := bk hc (b := w.heap.size + 1) (q0e (by simp) _) (by simp)
  have h := Chg.trans0 (Chg.alloc (Chg.alloc HC.out _) _) hc; clear HC; have HC := hid h; clear h
  clear hc
  go_wp2_with fail
  refine (q0w x.kind 1 4 _).mono ?_
  rintro e w2 ⟨rfl, hc⟩
  rw [hk]
  have h := bk0 hc HBS.out; clear HBS cS lS; obtain ⟨cS, lS, HBS⟩ := h
  have h := bk0 hc HBR.out; clear HBR cR lR; obtain ⟨cR, lR, HBR⟩ := h
  replace HC := hct HC hc
  clear hc
  go_wp2_with fail
  refine (q0w x.seq 1 1000000000 _).mono ?_
  rintro e w3 ⟨rfl, hc⟩
  rw [hq]
  have h := bk0 hc HBS.out; clear HBS cS lS; obtain ⟨cS, lS, HBS⟩ := h
  have h := bk0 hc HBR.out; clear HBR cR lR; obtain ⟨cR, lR, HBR⟩ := h
  replace HC := hct HC hc
  clear hc
  have NT_S : w.heap.size ≠ w3.heap.size := by omega
  have NT_R : w.heap.size + 1 ≠ w3.heap.size := by omega
  have GT := Nat.le_trans HC.out.size (show w3.heap.size ≤ w3.heap.size by omega)
  go_wp2_with fail
  refine (q6i x.name on _).mono ?_
  rintro e w4 ⟨rfl, hc⟩
  rw [HNV.out]
  have h := bk hc (q0b HBS.out _) (by simp); clear HBS cS lS; obtain ⟨cS, lS, HBS⟩ := h
  have h := bk hc (q0b HBR.out _) (by simp); clear HBR cR lR; obtain ⟨cR, lR, HBR⟩ := h
  have h := hc.keepb (b := w3.heap.size) (q0e (by simp) _) (by simp); have cT := cellsOf h; have lT := ltOf h; have fT := q0c h; have HBT := hid h; clear h
  have h := Chg.trans0 (Chg.alloc HC.out _) hc; clear HC; have HC := hid h; clear h
  clear hc
  go_wp2_with fail
  refine (q8f s HS.out x #[.int .i64 x.kind, .int .i64 x.seq, .string x.name, .int .i64 x.length, .int .i64 x.group, .int .i64 x.row, .slice a6 l6 c6, .slice a7 l7 c7, .slice a8 l8 c8] fx _ (Lay.ext recL HX.out HC.out)).mono ?_
  rintro e w5 ⟨rfl, hc⟩
  rw [HIT.out]
  have h := bk0 hc HBS.out; clear HBS cS lS; obtain ⟨cS, lS, HBS⟩ := h
  have h := bk0 hc HBR.out; clear HBR cR lR; obtain ⟨cR, lR, HBR⟩ := h
  have h := hc.keepb HBT.out (by simp); clear HBT cT lT fT; have cT := cellsOf h; have lT := ltOf h; have fT := q0c h; have HBT := hid h; clear h
  replace HC := hct HC hc
  clear hc
  go_wp2_with fail
  go_ret
  exact ⟨q0i HR.out.symm, HC.out⟩
 have HIT := hid (q0g hi)
 have HIO := hid (item_ok hn hi)
 clear hn hi
 have HC : Hid (Chg [] w w) := Chg.refl _ _
 go_enter Tryz.func119, Tryz.ntmps119
 go_wp2_with fail
 refine (q0n s _).mono ?_
 rintro e w1 ⟨rfl, hc⟩
 rw [HSF.out]
 obtain ⟨cS, lS, HBS⟩ := bk hc (b := w.heap.size) (q0b (q0e (by simp) _) _) (by simp)
 obtain ⟨cR, lR, HBR⟩ := bk hc (b := w.heap.size + 1) (q0e (by simp) _) (by simp)
 have h := Chg.trans0 (Chg.alloc (Chg.alloc HC.out _) _) hc; clear HC; have HC := hid h; clear h
 clear hc
 go_wp2_with fail
 refine (q0w x.kind 1 4 _).mono ?_
 rintro e w2 ⟨rfl, hc⟩
 rw [hk]
 have h := bk0 hc HBS.out; clear HBS cS lS; obtain ⟨cS, lS, HBS⟩ := h
 have h := bk0 hc HBR.out; clear HBR cR lR; obtain ⟨cR, lR, HBR⟩ := h
 replace HC := hct HC hc
 clear hc
 go_wp2_with fail
 refine (q0w x.seq 1 1000000000 _).mono ?_
 rintro e w3 ⟨rfl, hc⟩
 rw [hq]
 have h := bk0 hc HBS.out; clear HBS cS lS; obtain ⟨cS, lS, HBS⟩ := h
 have h := bk0 hc HBR.out; clear HBR cR lR; obtain ⟨cR, lR, HBR⟩ := h
 replace HC := hct HC hc
 clear hc
 have NT_S : w.heap.size ≠ w3.heap.size := by omega
 have NT_R : w.heap.size + 1 ≠ w3.heap.size := by omega
 have GT := Nat.le_trans HC.out.size (show w3.heap.size ≤ w3.heap.size by omega)
 go_wp2_with fail
 refine (q6i x.name on _).mono ?_
 rintro e w4 ⟨rfl, hc⟩
 rw [HNV.out]
 have h := bk hc (q0b HBS.out _) (by simp); clear HBS cS lS; obtain ⟨cS, lS, HBS⟩ := h
 have h := bk hc (q0b HBR.out _) (by simp); clear HBR cR lR; obtain ⟨cR, lR, HBR⟩ := h
 have h := hc.keepb (b := w3.heap.size) (q0e (by simp) _) (by simp); have cT := cellsOf h; have lT := ltOf h; have fT := q0c h; have HBT := hid h; clear h
 have h := Chg.trans0 (Chg.alloc HC.out _) hc; clear HC; have HC := hid h; clear h
 clear hc
 go_wp2_with fail
 refine (q8f s HS.out x #[.int .i64 x.kind, .int .i64 x.seq, .string x.name, .int .i64 x.length, .int .i64 x.group, .int .i64 x.row, .slice a6 l6 c6, .slice a7 l7 c7, .slice a8 l8 c8] fx _ (Lay.ext recL HX.out HC.out)).mono ?_
 rintro e w5 ⟨rfl, hc⟩
 rw [HIT.out]
 have h := bk0 hc HBS.out; clear HBS cS lS; obtain ⟨cS, lS, HBS⟩ := h
 have h := bk0 hc HBR.out; clear HBR cR lR; obtain ⟨cR, lR, HBR⟩ := h
 have h := hc.keepb HBT.out (by simp); clear HBT cT lT fT; have cT := cellsOf h; have lT := ltOf h; have fT := q0c h; have HBT := hid h; clear h
 replace HC := hct HC hc
 clear hc
 go_wp2_with fail
 refine (q4j (⟨x.kind, x.seq, ⟨#[]⟩, 0, x.group, x.row, [], [], x.delta⟩ : Rec) #[.int .i64 x.kind, .int .i64 x.seq, .string ⟨#[]⟩, .int .i64 0, .int .i64 x.group, .int .i64 x.row, .slice none 0 0, .slice none 0 0, .slice a8 l8 c8] _ _ (q0v.2 ⟨none, 0, 0, [], none, 0, 0, [], a8, l8, c8, f8, rfl, HO.out.1, HO.out.2, max_0, q6t, o4, o5, (q4p _ _), (q4p _ _), (Lay.sl_ext q0p H8.out (Chg.setCell (Chg.setCell (Chg.setCell (Chg.setCell HC.out ⟨w3.heap.size, 2, none⟩ _ (.inr GT)) ⟨w3.heap.size, 3, none⟩ _ (.inr GT)) ⟨w3.heap.size, 6, none⟩ _ (.inr GT)) ⟨w3.heap.size, 7, none⟩ _ (.inr GT))), rfl⟩)).mono ?_
 rintro e w6 ⟨rfl, hc⟩
 have h := bk hc (q0q (q0q (q0q (q0q HBS.out _ _ NT_S) _ _ NT_S) _ _ NT_S) _ _ NT_S) (by simp); clear HBS cS lS; obtain ⟨cS, lS, HBS⟩ := h
 have h := bk hc (q0q (q0q (q0q (q0q HBR.out _ _ NT_R) _ _ NT_R) _ _ NT_R) _ _ NT_R) (by simp); clear HBR cR lR; obtain ⟨cR, lR, HBR⟩ := h
 have h := hc.keepb (b := w3.heap.size) (o := .cells #[.int .i64 x.kind, .int .i64 x.seq, .string ⟨#[]⟩, .int .i64 0, .int .i64 x.group, .int .i64 x.row, .slice none 0 0, .slice none 0 0, .slice a8 l8 c8] 67) (by refine q0m (cur := #[.int .i64 x.kind, .int .i64 x.seq, .string ⟨#[]⟩, .int .i64 0, .int .i64 x.group, .int .i64 x.row, .slice none 0 0, .slice a7 l7 c7, .slice a8 l8 c8]) ?_ rfl; refine q0m (cur := #[.int .i64 x.kind, .int .i64 x.seq, .string ⟨#[]⟩, .int .i64 0, .int .i64 x.group, .int .i64 x.row, .slice a6 l6 c6, .slice a7 l7 c7, .slice a8 l8 c8]) ?_ rfl; refine q0m (cur := #[.int .i64 x.kind, .int .i64 x.seq, .string ⟨#[]⟩, .int .i64 x.length, .int .i64 x.group, .int .i64 x.row, .slice a6 l6 c6, .slice a7 l7 c7, .slice a8 l8 c8]) ?_ rfl; refine q0m (cur := #[.int .i64 x.kind, .int .i64 x.seq, .string x.name, .int .i64 x.length, .int .i64 x.group, .int .i64 x.row, .slice a6 l6 c6, .slice a7 l7 c7, .slice a8 l8 c8]) ?_ rfl; exact HBT.out) (by simp); clear HBT cT lT fT; have cT := cellsOf h; have lT := ltOf h; have fT := q0c h; have HBT := hid h; clear h
 have h := Chg.trans0 (Chg.setCell (Chg.setCell (Chg.setCell (Chg.setCell HC.out ⟨w3.heap.size, 2, none⟩ _ (.inr GT)) ⟨w3.heap.size, 3, none⟩ _ (.inr GT)) ⟨w3.heap.size, 6, none⟩ _ (.inr GT)) ⟨w3.heap.size, 7, none⟩ _ (.inr GT)) hc; clear HC; have HC := hid h; clear h
 clear hc
 have HV := hid (show recV s x = if pb (q2z (⟨x.kind, x.seq, ⟨#[]⟩, 0, x.group, x.row, [], [], x.delta⟩ : Rec)) = true then 0 else 1 from by rw [recV_1 HK.out HQ.out, if_pos HIO.out]; exact q9j rfl (by unfold q2z RestI; simp))
 cases hv : pb (q2z (⟨x.kind, x.seq, ⟨#[]⟩, 0, x.group, x.row, [], [], x.delta⟩ : Rec))
 ·have HR := hid (HV.out.trans (if_neg (by rw [hv]; simp)))
  clear hv
  go_wp2_with fail
  go_ret
  exact ⟨q0i HR.out.symm, HC.out⟩
 ·have HR := hid (HV.out.trans (if_pos hv))
  clear hv
  go_wp2_with fail
  go_ret
  exact ⟨q0i HR.out.symm, HC.out⟩
theorem spec_rec3 (s : Shp) (hs : s.ok) (x : Rec) (cx : Array Value) (fx : List Nat) (w : World) (hx : recL.rep w cx.toList x fx) (hk0 : x.kind = 3) (hq1 : 1 ≤ x.seq ∧ x.seq ≤ 1000000000) :
  Calls Tryz.prog 119 #[.agg s.cells, .agg cx] w fun e w' => e = .returned (.int .i64 (recV s x)) ∧ Chg [] w w' := by
 have HX := hid hx
 obtain ⟨a6, l6, c6, f6, a7, l7, c7, f7, a8, l8, c8, f8, ex, o0, o1, on, o3, o4, o5, h6, h7, h8, -⟩ := q0v.1 hx
 have HO := hid (And.intro o0 o1)
 clear hx o0 o1
 obtain rfl := Array.toList_inj.1 (ex.trans (List.toList_toArray).symm)
 clear ex
 have q6 := intL.sl_max h6; have q7 := q0p.sl_max h7; have q8 := q0p.sl_max h8
 have Z6 := hid h6.1; have Z7 := hid h7.1; have Z8 := hid h8.1
 have H6 := hid h6; have H7 := hid h7; have H8 := hid h8
 clear h6 h7 h8
 have hd := hs.data; have hr := hs.rows; have hg := hs.gS; have hal := hs.all
 have HS := hid hs
 clear hs
 have e50 : IntKind.i64.wrap (s.rows - 1) = s.rows - 1 := IntWalk.i64_in _ (by omega)
 have e51 : IntKind.i64.wrap (s.gS - 1) = s.gS - 1 := IntWalk.i64_in _ (by omega)
 have e52 : IntKind.i64.wrap (s.all - 1) = s.all - 1 := IntWalk.i64_in _ (by omega)
 show Calls _ _ #[.agg #[.int .i64 s.gS, .int .i64 s.cM, .int .i64 s.data, .int .i64 s.spare, .int .i64 s.rows, .int .i64 s.cap, .int .i64 s.bT, .int .i64 s.qU, .int .i64 s.sG], .agg _] _ _
 have HSF := hid (show s.fault = 0 from if_pos HS.out)
 have hwd := HS.out.wide
 have HQ := hid hq1
 have hk := q1m (n := x.kind) (a := 1) (b := 4) (by omega) (by omega)
 have hq := q1m hq1.1 hq1.2
 obtain ⟨hs1, hs2⟩ := hq1
 have HK := hid hk0
 have kd1 : (x.kind == 1) = false := by simp; omega
 have kd2 : (x.kind == 2) = false := by simp; omega
 have kd3 : (x.kind == 3) = true := by simp; omega
 have kd4 : (x.kind == 4) = false := by simp; omega
 clear hk0
 by_cases h1 : 0 ≤ x.group ∧ x.group ≤ s.all - 1
 rotate_left
 ·have HC : Hid (Chg [] w w) := Chg.refl _ _
  have HR := hid (show recV s x = 3 by rw [recV_3 HK.out HQ.out, q0f h1]; rfl)
  have hi1 := q1t h1
  clear h1
  go_enter Tryz.func119, Tryz.ntmps119
  go_wp2_with fail
  refine (q0n s _).mono ?_
  rintro e w1 ⟨rfl, hc⟩
  rw [HSF.out]
  obtain ⟨cS, lS, HBS⟩ := bk hc (b := w.heap.size) (q0b (q0e (by simp) _) _) (by simp)
  obtain ⟨cR, lR, HBR⟩ := bk hc (b := w.heap.size + 1) (q0e (by simp) _) (by simp)
  have h := Chg.trans0 (Chg.alloc (Chg.alloc HC.out _) _) hc; clear HC; have HC := hid h; clear h
  clear hc
  go_wp2_with fail
  refine (q0w x.kind 1 4 _).mono ?_
  rintro e w2 ⟨rfl, hc⟩
  rw [hk]
  have h := bk0 hc HBS.out; clear HBS cS lS; obtain ⟨cS, lS, HBS⟩ := h
  have h := bk0 hc HBR.out; clear HBR cR lR; obtain ⟨cR, lR, HBR⟩ := h
  replace HC := hct HC hc
  clear hc
  go_wp2_with fail
  refine (q0w x.seq 1 1000000000 _).mono ?_
  rintro e w3 ⟨rfl, hc⟩
  rw [hq]
  have h := bk0 hc HBS.out; clear HBS cS lS; obtain ⟨cS, lS, HBS⟩ := h
  have h := bk0 hc HBR.out; clear HBR cR lR; obtain ⟨cR, lR, HBR⟩ := h
  replace HC := hct HC hc
  clear hc
  have NT_S : w.heap.size ≠ w3.heap.size := by omega
  have NT_R : w.heap.size + 1 ≠ w3.heap.size := by omega
  have GT := Nat.le_trans HC.out.size (show w3.heap.size ≤ w3.heap.size by omega)
  go_wp2_with fail
  obtain ⟨SS1, HSI1, HSO1⟩ := q0j (fun w' => Know (w.heap.size) #[.int .i64 s.gS, .int .i64 s.cM, .int .i64 s.data, .int .i64 s.spare, .int .i64 s.rows, .int .i64 s.cap, .int .i64 s.bT, .int .i64 s.qU, .int .i64 s.sG] w' ∧ Know (w.heap.size + 1) #[.int .i64 x.kind, .int .i64 x.seq, .string x.name, .int .i64 x.length, .int .i64 x.group, .int .i64 x.row, .slice a6 l6 c6, .slice a7 l7 c7, .slice a8 l8 c8] w')
  have hS0 := HSI1.out ((w3.alloc (.cells #[.int .i64 x.kind, .int .i64 x.seq, .string x.name, .int .i64 x.length, .int .i64 x.group, .int .i64 x.row, .slice a6 l6 c6, .slice a7 l7 c7, .slice a8 l8 c8] 67)).drew) ⟨(Know.of (by refine q0a ?_; refine q0b ?_ _; exact HBS.out)), (Know.of (by refine q0a ?_; refine q0b ?_ _; exact HBR.out))⟩
  refine q0k SS1 (by kernel_rfl) hS0 ?_
  refine rgT 0 hS0 ?_
  refine rgL 1 hS0 HSO1 ?_
  refine rgL 2 hS0 HSO1 ?_
  refine q0d 3 rfl (by kernel_rfl) (fun K hK => ?_)
  go_simp
  go_at_call 100
  refine (q0r s HS.out _).mono ?_
  rintro e w4 ⟨rfl, hc⟩
  have h := bk hc (q0a (q0b HBS.out _)) (by simp); clear HBS cS lS; obtain ⟨cS, lS, HBS⟩ := h
  have h := bk hc (q0a (q0b HBR.out _)) (by simp); clear HBR cR lR; obtain ⟨cR, lR, HBR⟩ := h
  have h := hc.keepb (b := w3.heap.size) (q0a (q0e (by simp) _)) (by simp); have cT := cellsOf h; have lT := ltOf h; have fT := q0c h; have HBT := hid h; clear h
  have h := Chg.trans0 (Chg.drew (Chg.alloc HC.out _)) hc; clear HC; have HC := hid h; clear h
  clear hc
  go_wp2_with fail
  refine hK.out _ _ (HSI1.out _ ⟨cS, cR⟩) (fun hS1 => ?_)
  clear hK K
  try simp only [Act.put, pA, pB, pC]
  refine rgT 4 hS1 ?_
  refine q0d 5 rfl (by kernel_rfl) (fun K hK => ?_)
  go_simp
  go_at_call 70
  refine (q0w x.group 0 (s.all - 1) _).mono ?_
  rintro e w5 ⟨rfl, hc⟩
  rw [hi1]
  have h := bk0 hc HBS.out; clear HBS cS lS; obtain ⟨cS, lS, HBS⟩ := h
  have h := bk0 hc HBR.out; clear HBR cR lR; obtain ⟨cR, lR, HBR⟩ := h
  have h := hc.keepb HBT.out (by simp); clear HBT cT lT fT; have cT := cellsOf h; have lT := ltOf h; have fT := q0c h; have HBT := hid h; clear h
  replace HC := hct HC hc
  clear hc
  go_wp2_with fail
  refine hK.out _ _ (HSI1.out _ ⟨cS, cR⟩) (fun hS2 => ?_)
  clear hK K
  try simp only [Act.put, pA, pB, pC]
  refine rgT 6 hS2 ?_
  refine wpAnyH_done (by kernel_rfl) ?_ _
  go_wp2_with fail
  go_ret
  exact ⟨q0i HR.out.symm, HC.out⟩
 have HG := hid (q0g h1)
 have hi1 := q1m h1.1 h1.2
 clear h1
 have HC : Hid (Chg [] w w) := Chg.refl _ _
 go_enter Tryz.func119, Tryz.ntmps119
 go_wp2_with fail
 refine (q0n s _).mono ?_
 rintro e w1 ⟨rfl, hc⟩
 rw [HSF.out]
 obtain ⟨cS, lS, HBS⟩ := bk hc (b := w.heap.size) (q0b (q0e (by simp) _) _) (by simp)
 obtain ⟨cR, lR, HBR⟩ := bk hc (b := w.heap.size + 1) (q0e (by simp) _) (by simp)
 have h := Chg.trans0 (Chg.alloc (Chg.alloc HC.out _) _) hc; clear HC; have HC := hid h; clear h
 clear hc
 go_wp2_with fail
 refine (q0w x.kind 1 4 _).mono ?_
 rintro e w2 ⟨rfl, hc⟩
 rw [hk]
 have h := bk0 hc HBS.out; clear HBS cS lS; obtain ⟨cS, lS, HBS⟩ := h
 have h := bk0 hc HBR.out; clear HBR cR lR; obtain ⟨cR, lR, HBR⟩ := h
 replace HC := hct HC hc
 clear hc
 go_wp2_with fail
 refine (q0w x.seq 1 1000000000 _).mono ?_
 rintro e w3 ⟨rfl, hc⟩
 rw [hq]
 have h := bk0 hc HBS.out; clear HBS cS lS; obtain ⟨cS, lS, HBS⟩ := h
 have h := bk0 hc HBR.out; clear HBR cR lR; obtain ⟨cR, lR, HBR⟩ := h
 replace HC := hct HC hc
 clear hc
 have NT_S : w.heap.size ≠ w3.heap.size := by omega
 have NT_R : w.heap.size + 1 ≠ w3.heap.size := by omega
 have GT := Nat.le_trans HC.out.size (show w3.heap.size ≤ w3.heap.size by omega)
 go_wp2_with fail
 obtain ⟨SS1, HSI1, HSO1⟩ := q0j (fun w' => Know (w.heap.size) #[.int .i64 s.gS, .int .i64 s.cM, .int .i64 s.data, .int .i64 s.spare, .int .i64 s.rows, .int .i64 s.cap, .int .i64 s.bT, .int .i64 s.qU, .int .i64 s.sG] w' ∧ Know (w.heap.size + 1) #[.int .i64 x.kind, .int .i64 x.seq, .string x.name, .int .i64 x.length, .int .i64 x.group, .int .i64 x.row, .slice a6 l6 c6, .slice a7 l7 c7, .slice a8 l8 c8] w')
 have hS0 := HSI1.out ((w3.alloc (.cells #[.int .i64 x.kind, .int .i64 x.seq, .string x.name, .int .i64 x.length, .int .i64 x.group, .int .i64 x.row, .slice a6 l6 c6, .slice a7 l7 c7, .slice a8 l8 c8] 67)).drew) ⟨(Know.of (by refine q0a ?_; refine q0b ?_ _; exact HBS.out)), (Know.of (by refine q0a ?_; refine q0b ?_ _; exact HBR.out))⟩
 refine q0k SS1 (by kernel_rfl) hS0 ?_
 refine rgT 0 hS0 ?_
 refine rgL 1 hS0 HSO1 ?_
 refine rgL 2 hS0 HSO1 ?_
 refine q0d 3 rfl (by kernel_rfl) (fun K hK => ?_)
 go_simp
 go_at_call 100
 refine (q0r s HS.out _).mono ?_
 rintro e w4 ⟨rfl, hc⟩
 have h := bk hc (q0a (q0b HBS.out _)) (by simp); clear HBS cS lS; obtain ⟨cS, lS, HBS⟩ := h
 have h := bk hc (q0a (q0b HBR.out _)) (by simp); clear HBR cR lR; obtain ⟨cR, lR, HBR⟩ := h
 have h := hc.keepb (b := w3.heap.size) (q0a (q0e (by simp) _)) (by simp); have cT := cellsOf h; have lT := ltOf h; have fT := q0c h; have HBT := hid h; clear h
 have h := Chg.trans0 (Chg.drew (Chg.alloc HC.out _)) hc; clear HC; have HC := hid h; clear h
 clear hc
 go_wp2_with fail
 refine hK.out _ _ (HSI1.out _ ⟨cS, cR⟩) (fun hS1 => ?_)
 clear hK K
 try simp only [Act.put, pA, pB, pC]
 refine rgT 4 hS1 ?_
 refine q0d 5 rfl (by kernel_rfl) (fun K hK => ?_)
 go_simp
 go_at_call 70
 refine (q0w x.group 0 (s.all - 1) _).mono ?_
 rintro e w5 ⟨rfl, hc⟩
 rw [hi1]
 have h := bk0 hc HBS.out; clear HBS cS lS; obtain ⟨cS, lS, HBS⟩ := h
 have h := bk0 hc HBR.out; clear HBR cR lR; obtain ⟨cR, lR, HBR⟩ := h
 have h := hc.keepb HBT.out (by simp); clear HBT cT lT fT; have cT := cellsOf h; have lT := ltOf h; have fT := q0c h; have HBT := hid h; clear h
 replace HC := hct HC hc
 clear hc
 go_wp2_with fail
 refine hK.out _ _ (HSI1.out _ ⟨cS, cR⟩) (fun hS2 => ?_)
 clear hK K
 try simp only [Act.put, pA, pB, pC]
 refine rgT 6 hS2 ?_
 refine wpAnyH_done (by kernel_rfl) ?_ _
 go_wp2_with fail
 refine (q4j (⟨x.kind, x.seq, x.name, x.length, 0, x.row, x.rows, x.data, x.delta⟩ : Rec) #[.int .i64 x.kind, .int .i64 x.seq, .string x.name, .int .i64 x.length, .int .i64 0, .int .i64 x.row, .slice a6 l6 c6, .slice a7 l7 c7, .slice a8 l8 c8] _ _ (q0v.2 ⟨a6, l6, c6, f6, a7, l7, c7, f7, a8, l8, c8, f8, rfl, HO.out.1, HO.out.2, on, o3, q6t, o5, (Lay.sl_ext intL H6.out (Chg.setCell HC.out ⟨w3.heap.size, 4, none⟩ _ (.inr GT))), (Lay.sl_ext q0p H7.out (Chg.setCell HC.out ⟨w3.heap.size, 4, none⟩ _ (.inr GT))), (Lay.sl_ext q0p H8.out (Chg.setCell HC.out ⟨w3.heap.size, 4, none⟩ _ (.inr GT))), rfl⟩)).mono ?_
 rintro e w6 ⟨rfl, hc⟩
 have h := bk hc (q0q HBS.out _ _ NT_S) (by simp); clear HBS cS lS; obtain ⟨cS, lS, HBS⟩ := h
 have h := bk hc (q0q HBR.out _ _ NT_R) (by simp); clear HBR cR lR; obtain ⟨cR, lR, HBR⟩ := h
 have h := hc.keepb (b := w3.heap.size) (o := .cells #[.int .i64 x.kind, .int .i64 x.seq, .string x.name, .int .i64 x.length, .int .i64 0, .int .i64 x.row, .slice a6 l6 c6, .slice a7 l7 c7, .slice a8 l8 c8] 67) (by refine q0m (cur := #[.int .i64 x.kind, .int .i64 x.seq, .string x.name, .int .i64 x.length, .int .i64 x.group, .int .i64 x.row, .slice a6 l6 c6, .slice a7 l7 c7, .slice a8 l8 c8]) ?_ rfl; exact HBT.out) (by simp); clear HBT cT lT fT; have cT := cellsOf h; have lT := ltOf h; have fT := q0c h; have HBT := hid h; clear h
 have h := Chg.trans0 (Chg.setCell HC.out ⟨w3.heap.size, 4, none⟩ _ (.inr GT)) hc; clear HC; have HC := hid h; clear h
 clear hc
 have HV := hid (show recV s x = if pb (q2z (⟨x.kind, x.seq, x.name, x.length, 0, x.row, x.rows, x.data, x.delta⟩ : Rec)) = true then 0 else 1 from by rw [recV_3 HK.out HQ.out, if_pos HG.out]; exact q9j rfl (by unfold q2z RestD; simp))
 cases hv : pb (q2z (⟨x.kind, x.seq, x.name, x.length, 0, x.row, x.rows, x.data, x.delta⟩ : Rec))
 ·have HR := hid (HV.out.trans (if_neg (by rw [hv]; simp)))
  clear hv
  go_wp2_with fail
  go_ret
  exact ⟨q0i HR.out.symm, HC.out⟩
 ·have HR := hid (HV.out.trans (if_pos hv))
  clear hv
  go_wp2_with fail
  go_ret
  exact ⟨q0i HR.out.symm, HC.out⟩
end Go.Proofs.YtphmpimgbmedbaaGreat
