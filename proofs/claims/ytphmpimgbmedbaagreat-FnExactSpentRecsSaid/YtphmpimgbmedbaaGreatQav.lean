/- Several texts in one. -/
import Derived.Test.YtphmpimgbmedbaaGreatQaf
import Derived.Test.YtphmpimgbmedbaaGreatQae
import Derived.Test.YtphmpimgbmedbaaGreatQam
import Derived.Test.YtphmpimgbmedbaaGreatQan
import Derived.Test.YtphmpimgbmedbaaGreatQak
import Derived.Test.YtphmpimgbmedbaaGreatQac
import Derived.Test.YtphmpimgbmedbaaGreatRows
import Derived.Deep.DeepCutAuto
namespace Go.Proofs.YtphmpimgbmedbaaGreat
open Go.RowKit
open Go.Lib (hid)
structure RRes where
 code : Int
 recs : List Rec
def rrsL : Lay RRes := (intL.pair recL.slice).via (fun x => (x.code, x.recs))
theorem rrsL_iff {w : World} {cs : List Value} {x : RRes} {fp : List Nat} : rrsL.rep w cs x fp ↔ ∃ a l c, cs = [.int .i64 x.code, .slice a l c] ∧ i64ok x.code ∧ recL.sl w a l c x.recs fp := by
 constructor
 ·rintro ⟨_, _, _, f, rfl, rfl, ⟨rfl, h1, rfl⟩, a, l, c, rfl, h2⟩
  exact ⟨a, l, c, rfl, h1, h2⟩
 ·rintro ⟨a, l, c, rfl, h1, h2⟩
  exact ⟨[_], _, [], _, rfl, rfl, ⟨rfl, h1, rfl⟩, _, _, _, rfl, h2⟩
theorem rrs_open {w : World} {cs : Array Value} {x : RRes} {fp : List Nat} (h : rrsL.rep w cs.toList x fp) : ∃ a l c, cs = #[.int .i64 x.code, .slice a l c] ∧ i64ok x.code ∧ recL.sl w a l c x.recs fp := by
 obtain ⟨a, l, c, ex, h1, h2⟩ := rrsL_iff.1 h
 exact ⟨a, l, c, Array.toList_inj.1 ex, h1, h2⟩
theorem infoRR : (Tryz.prog.info? 46).map (fun i => i.size) = some 2 := by kernel_rfl
set_option maxHeartbeats 2000000 in
theorem eqRecsResult_any (x : RRes) (cx cy : Array Value) (fx fy : List Nat) (w : World) (hx : rrsL.rep w cx.toList x fx) (hy : rrsL.rep w cy.toList x fy) :
  Calls Tryz.prog 26 #[.agg cx, .agg cy] w fun e w' => e = .returned (.bool true) ∧ Chg [] w w' := by
 obtain ⟨a, l, c, rfl, -, h1⟩ := rrs_open hx
 obtain ⟨b, m, d, rfl, -, h2⟩ := rrs_open hy
 obtain rfl : m = l := h2.1.trans h1.1.symm
 have hcc : ((x.code : Int) != x.code) = false := by simp
 have H1 := hid h1; have H2 := hid h2
 clear hx hy h1 h2
 go_enter Tryz.func26, Tryz.ntmps26
 go_wp2_with fail
 refine (eqRecS_any a b m c d x.recs fx fy _ (recL.sl_ext H1.out ?_) (recL.sl_ext H2.out ?_)).mono ?_
 ·exact ((Chg.refl [] w).alloc _).alloc _
 ·exact ((Chg.refl [] w).alloc _).alloc _
 rintro e w1 ⟨rfl, hc1⟩
 have HC1 := hid ((((Chg.refl [] w).alloc _).alloc _).trans0 hc1)
 clear hc1
 go_wp2_with fail
 go_ret
 exact ⟨rfl, HC1.out⟩
set_option maxHeartbeats 2000000 in
theorem markRecsResult_any (x : RRes) (cx : Array Value) (fx : List Nat) (k : Int) (w : World) (hx : rrsL.rep w cx.toList x fx) (hf : Fresh 0 w fx) (hk : 0 ≤ k) (hk2 : k + sumI cntRec x.recs ≤ 4611686018427387904) :
  Calls Tryz.prog 27 #[.agg cx, .int .i64 k] w fun e w' => e = .returned (.int .i64 (k + sumI cntRec x.recs)) ∧ rrsL.rep w' cx.toList ⟨x.code, markL cntRec mkRec x.recs k⟩ fx ∧ Chg fx w w' := by
 obtain ⟨a, l, c, rfl, hcode, h1⟩ := rrs_open hx
 have H1 := hid h1; have HF := hid hf; have HC0 := hid hcode; have HK := hid hk2
 clear hx h1 hf hcode hk2
 go_enter Tryz.func27, Tryz.ntmps27
 go_wp2_with fail
 have g0 : Chg [] w (w.alloc (.cells #[.int .i64 x.code, .slice a l c] 46)) := (Chg.refl [] w).alloc _
 refine (markRecS_any a l c x.recs fx k _ (recL.sl_ext H1.out g0) (HF.out.chg g0) hk HK.out).mono ?_
 rintro e w1 ⟨rfl, hs1, hc1⟩
 have HN := hid (And.intro (rrsL_iff.2 ⟨_, _, _, rfl, HC0.out, hs1⟩ : rrsL.rep w1 [.int .i64 x.code, .slice a l c] ⟨x.code, markL cntRec mkRec x.recs k⟩ fx) ((g0.mono (T := fx) (by simp)).trans hc1 (fun x hx => .inl hx)))
 clear hs1 hc1 g0
 go_wp2_with fail
 go_ret
 exact ⟨rfl, HN.out.1, HN.out.2⟩
set_option maxHeartbeats 2000000 in
theorem heldRecsResult_any (x : RRes) (cx : Array Value) (fx : List Nat) (k : Int) (w : World) (hx : rrsL.rep w cx.toList ⟨x.code, markL cntRec mkRec x.recs k⟩ fx) (hk : 0 ≤ k) (hk2 : k + sumI cntRec x.recs ≤ 4611686018427387904) :
  Calls Tryz.prog 28 #[.agg cx, .int .i64 k] w fun e w' => e = .returned (.int .i64 (k + sumI cntRec x.recs)) ∧ Chg [] w w' := by
 obtain ⟨a, l, c, rfl, -, h1⟩ := rrs_open hx
 have H1 := hid h1; have HK := hid hk2
 obtain ⟨q, hq⟩ : ∃ q, q = sumI cntRec x.recs := ⟨_, rfl⟩
 have hq0 : 0 ≤ q := by rw [hq]; exact sumI_nonneg cntRec_nonneg _
 have hn : ¬ (k + q < 0) := by omega
 have HQ := hid hq
 rw [← hq]
 clear hx h1 hk2 hq
 go_enter Tryz.func28, Tryz.ntmps28
 go_wp2_with fail
 have g0 : Chg [] w (w.alloc (.cells #[.int .i64 x.code, .slice a l c] 46)) := (Chg.refl [] w).alloc _
 refine (heldRecS_any a l c x.recs fx k _ (recL.sl_ext H1.out g0) hk HK.out).mono ?_
 rintro e w1 ⟨rfl, hc1⟩
 rw [← HQ.out]
 have HC1 := hid (g0.trans0 hc1)
 clear hc1 g0
 go_wp2_with fail
 go_ret
 exact ⟨rfl, HC1.out⟩
def sgn (x y : Int) : Int := if x < y then -1 else if y < x then 1 else 0
set_option maxHeartbeats 400000 in
theorem isNaN_any (x : Int) (w : World) : Calls Tryz.prog 238 #[.int .i64 x] w fun e w' => e = .returned (.bool false) ∧ w = w' := by
 have h : ((x : Int) != x) = false := by simp
 go_enter Tryz.func238, Tryz.ntmps238
 go_wp2
 go_ret
 exact ⟨rfl, rfl⟩
set_option maxHeartbeats 1000000 in
theorem compare_any (x y : Int) (w : World) : Calls Tryz.prog 172 #[.int .i64 x, .int .i64 y] w fun e w' => e = .returned (.int .i64 (sgn x y)) ∧ w = w' := by
 have N1 := hid (isNaN_any x w); have N2 := hid (isNaN_any y w)
 by_cases h1 : x < y
 ·have HR := hid (show sgn x y = -1 from if_pos h1)
  go_enter Tryz.func172, Tryz.ntmps172
  go_wp2_with fail
  refine N1.out.mono ?_; rintro e w' ⟨rfl, rfl⟩
  go_wp2_with fail
  refine N2.out.mono ?_; rintro e w' ⟨rfl, rfl⟩
  go_wp2_with fail
  go_ret
  exact ⟨ret_int HR.out.symm, rfl⟩
 ·by_cases h2 : y < x
  ·have HR := hid (show sgn x y = 1 by unfold sgn; rw [if_neg h1, if_pos h2])
   go_enter Tryz.func172, Tryz.ntmps172
   go_wp2_with fail
   refine N1.out.mono ?_; rintro e w' ⟨rfl, rfl⟩
   go_wp2_with fail
   refine N2.out.mono ?_; rintro e w' ⟨rfl, rfl⟩
   go_wp2_with fail
   go_ret
   exact ⟨ret_int HR.out.symm, rfl⟩
  ·have HR := hid (show sgn x y = 0 by unfold sgn; rw [if_neg h1, if_neg h2])
   go_enter Tryz.func172, Tryz.ntmps172
   go_wp2_with fail
   refine N1.out.mono ?_; rintro e w' ⟨rfl, rfl⟩
   go_wp2_with fail
   refine N2.out.mono ?_; rintro e w' ⟨rfl, rfl⟩
   go_wp2_with fail
   go_ret
   exact ⟨ret_int HR.out.symm, rfl⟩
def orL : List Int → Int
 | [] => 0
 | x :: xs => if x ≠ 0 then x else orL xs
theorem orL_skip : ∀ {xs : List Int} {k : Nat}, (∀ y ∈ xs.take k, y = 0) → orL xs = orL (xs.drop k)
 | _, 0, _ => rfl
 | [], k + 1, _ => rfl
 | x :: xs, k + 1, h => by
  have hx : x = 0 := h x (by simp)
  show (if x ≠ 0 then x else orL xs) = orL (xs.drop k)
  rw [if_neg (by simp [hx]), orL_skip (k := k) (fun y hy => h y (by rw [List.take_succ_cons]; exact List.mem_cons_of_mem _ hy))]
set_option maxHeartbeats 1000000 in
theorem or_any (a : Option Addr) (l c : Nat) (xs : List Int) (f : List Nat) (w : World) (ha : intL.sl w a l c xs f) : Calls Tryz.prog 171 #[.slice a l c] w fun e w' => e = .returned (.int .i64 (orL xs)) ∧ w = w' := by
 have hm := intL.sl_max ha
 have HL := hid ha.1
 have HA := hid ha
 clear ha
 go_enter Tryz.func171, Tryz.ntmps171
 go_wp2_with fail
 go_loop [8] (fun i => ∃ k : Nat, k ≤ l ∧ i = .int .i64 k ∧ Hid (∀ y ∈ xs.take k, y = 0)) (fun i => l - (intOf i).toNat)
 case atStart => exact ⟨0, by omega, rfl, by intro y hy; simp at hy⟩
 case round =>
  obtain ⟨k, hk, rfl, HK⟩ := hrel
  by_cases hlt : k < l
  ·obtain ⟨y, b, off, HX, rfl, hcx, hok⟩ := int_at HA.out hlt
   by_cases h : y = 0
   ·have hne : (y != 0) = false := by simp [h]
    have HN := hid (show ∀ z ∈ xs.take (k + 1), z = 0 by
     intro z hz
     rw [take_next HX.out.1] at hz
     rcases List.mem_append.1 hz with h1 | h1
     ·exact HK.out z h1
     ·rw [List.mem_singleton] at h1; rw [h1]; exact h)
    clear h
    go_wp2_with fail
    go_round
    case rel => exact ⟨k + 1, by omega, by go_num, HN⟩
    case measure => simp [intOf]; omega
   ·have hne : (y != 0) = true := by simp [h]
    have HR := hid (show orL xs = y by
     rw [orL_skip HK.out, List.drop_eq_getElem_cons (List.getElem?_eq_some_iff.1 HX.out.1).1]
     show (if xs[k] ≠ 0 then xs[k] else _) = y
     rw [(List.getElem?_eq_some_iff.1 HX.out.1).2, if_pos h])
    clear h
    go_wp2_with fail
    go_ret
    exact ⟨ret_int HR.out.symm, rfl⟩
  ·have HR := hid (show orL xs = 0 by rw [orL_skip HK.out, List.drop_eq_nil_of_le (by have := HL.out; omega)]; rfl)
   go_wp2_with fail
   go_ret
   exact ⟨ret_int HR.out.symm, rfl⟩
theorem or3_lt (x y : Rec) : decide (orL [sgn x.seq y.seq, sgn x.kind y.kind, sgn x.group y.group] < 0) = recLt x y := by
 unfold recLt
 apply decide_eq_decide.2
 have h : ∀ a b : Int, (sgn a b < 0 ↔ a < b) ∧ (sgn a b = 0 ↔ a = b) := fun a b => by
  unfold sgn
  by_cases q : a < b
  ·rw [if_pos q]; omega
  ·rw [if_neg q]
   by_cases q2 : b < a
   ·rw [if_pos q2]; omega
   ·rw [if_neg q2]; omega
 show (if sgn x.seq y.seq ≠ 0 then sgn x.seq y.seq else if sgn x.kind y.kind ≠ 0 then sgn x.kind y.kind else if sgn x.group y.group ≠ 0 then sgn x.group y.group else 0) < 0 ↔ _
 have h1 := h x.seq y.seq; have h2 := h x.kind y.kind; have h3 := h x.group y.group
 split
 ·omega
 ·split
  ·omega
  ·split <;> omega
theorem sgn_ok (x y : Int) : i64ok (sgn x y) := by
 unfold sgn
 by_cases q : x < y
 ·rw [if_pos q]; constructor <;> omega
 ·rw [if_neg q]
  by_cases q2 : y < x
  ·rw [if_pos q2]; constructor <;> omega
  ·rw [if_neg q2]; constructor <;> omega
theorem int3_sl (w : World) (E : TypeId) (x y z : Int) (hx : i64ok x) (hy : i64ok y) (hz : i64ok z) (bn : Nat) (hbn : bn = w.heap.size) : intL.sl (w.alloc (.cells #[.int .i64 x, .int .i64 y, .int .i64 z] E)) (some ⟨bn, 0, none⟩) 3 3 [x, y, z] [bn] := by
 subst hbn
 exact
 ⟨rfl, Nat.le_refl _, by simp [maxLen], (fun h => by cases h), .inr ⟨w.heap.size, 0, _, E, (0, 0), [], rfl, new_alloc w _, intL.all_append (xs := [x]) (ys := [y, z]) (c1 := [.int .i64 x]) (f1 := []) (f2 := []) (int_all1 hx) (intL.all_append (xs := [y]) (ys := [z]) (c1 := [.int .i64 y]) (f1 := []) (f2 := []) (int_all1 hy) (int_all1 hz)), rfl⟩⟩
set_option maxRecDepth 100000 in
set_option maxHeartbeats 2000000 in
theorem cmp_ok : CmpOK := by
 intro w cx cy x y fx fy hx hy
 obtain ⟨a6, l6, c6, f6, a7, l7, c7, f7, a8, l8, c8, f8, rfl, -⟩ := recL_iff.1 hx
 obtain ⟨b6, m6, d6, g6, b7, m7, d7, g7, b8, m8, d8, g8, rfl, -⟩ := recL_iff.1 hy
 have HOR := hid (or3_lt x y)
 have HS1 := hid (sgn_ok x.seq y.seq); have HS2 := hid (sgn_ok x.kind y.kind); have HS3 := hid (sgn_ok x.group y.group)
 have C1 := hid (compare_any x.seq y.seq); have C2 := hid (compare_any x.kind y.kind); have C3 := hid (compare_any x.group y.group)
 clear hx hy
 have G0 := hid ((((Chg.refl [] w).alloc (.cells #[.int .i64 x.kind, .int .i64 x.seq, .string x.name, .int .i64 x.length, .int .i64 x.group, .int .i64 x.row, .slice a6 l6 c6, .slice a7 l7 c7, .slice a8 l8 c8] 67)).alloc (.cells #[.int .i64 y.kind, .int .i64 y.seq, .string y.name, .int .i64 y.length, .int .i64 y.group, .int .i64 y.row, .slice b6 m6 d6, .slice b7 m7 d7, .slice b8 m8 d8] 67)).drew)
 have B0 := hid (keep_drew (keep_alloc (new_alloc w (.cells #[.int .i64 x.kind, .int .i64 x.seq, .string x.name, .int .i64 x.length, .int .i64 x.group, .int .i64 x.row, .slice a6 l6 c6, .slice a7 l7 c7, .slice a8 l8 c8] 67)) (.cells #[.int .i64 y.kind, .int .i64 y.seq, .string y.name, .int .i64 y.length, .int .i64 y.group, .int .i64 y.row, .slice b6 m6 d6, .slice b7 m7 d7, .slice b8 m8 d8] 67)))
 have B1 := hid (show ((w.alloc (.cells #[.int .i64 x.kind, .int .i64 x.seq, .string x.name, .int .i64 x.length, .int .i64 x.group, .int .i64 x.row, .slice a6 l6 c6, .slice a7 l7 c7, .slice a8 l8 c8] 67)).alloc (.cells #[.int .i64 y.kind, .int .i64 y.seq, .string y.name, .int .i64 y.length, .int .i64 y.group, .int .i64 y.row, .slice b6 m6 d6, .slice b7 m7 d7, .slice b8 m8 d8] 67)).drew.heap[w.heap.size + 1]? = some (.cells #[.int .i64 y.kind, .int .i64 y.seq, .string y.name, .int .i64 y.length, .int .i64 y.group, .int .i64 y.row, .slice b6 m6 d6, .slice b7 m7 d7, .slice b8 m8 d8] 67 (0, 0)) from keep_drew (new_at (by simp) _))
 go_enter Tryz.func170, Tryz.ntmps170
 go_wp2_with fail
 obtain ⟨SS1, HSI1, HSO1⟩ := rg_cond (fun w' => Know w.heap.size #[.int .i64 x.kind, .int .i64 x.seq, .string x.name, .int .i64 x.length, .int .i64 x.group, .int .i64 x.row, .slice a6 l6 c6, .slice a7 l7 c7, .slice a8 l8 c8] w' ∧ Know (w.heap.size + 1) #[.int .i64 y.kind, .int .i64 y.seq, .string y.name, .int .i64 y.length, .int .i64 y.group, .int .i64 y.row, .slice b6 m6 d6, .slice b7 m7 d7, .slice b8 m8 d8] w')
 have hS0 := HSI1.out _ ⟨(Know.of B0.out), (Know.of B1.out)⟩
 refine rg_start SS1 (by kernel_rfl) hS0 ?_
 refine rgT 0 hS0 ?_
 refine rgL 1 hS0 HSO1 ?_
 refine rgT 2 hS0 ?_
 refine rgL 3 hS0 HSO1 ?_
 refine rgT 5 hS0 ?_
 refine rgL 6 hS0 HSO1 ?_
 refine rgT 7 hS0 ?_
 refine rgL 8 hS0 HSO1 ?_
 refine rgT 10 hS0 ?_
 refine rgL 11 hS0 HSO1 ?_
 refine rgT 12 hS0 ?_
 refine rgL 13 hS0 HSO1 ?_
 refine rg_call 4 rfl (by kernel_rfl) (fun K hK => ?_)
 go_simp
 go_at_call 172
 refine (C1.out _).mono ?_; rintro e w' ⟨rfl, rfl⟩
 go_wp2_with fail
 refine hK.out _ _ (HSI1.out _ ⟨(Know.of B0.out), (Know.of B1.out)⟩) (fun hS1 => ?_)
 clear hK K
 try simp only [Act.put, pA, pB, pC]
 refine rg_call 9 rfl (by kernel_rfl) (fun K hK => ?_)
 go_simp
 go_at_call 172
 refine (C2.out _).mono ?_; rintro e w' ⟨rfl, rfl⟩
 go_wp2_with fail
 refine hK.out _ _ (HSI1.out _ ⟨(Know.of B0.out), (Know.of B1.out)⟩) (fun hS2 => ?_)
 clear hK K
 try simp only [Act.put, pA, pB, pC]
 refine rg_call 14 rfl (by kernel_rfl) (fun K hK => ?_)
 go_simp
 go_at_call 172
 refine (C3.out _).mono ?_; rintro e w' ⟨rfl, rfl⟩
 go_wp2_with fail
 refine hK.out _ _ (HSI1.out _ ⟨(Know.of B0.out), (Know.of B1.out)⟩) (fun hS3 => ?_)
 clear hK K
 try simp only [Act.put, pA, pB, pC]
 refine rg_call 15 rfl (by kernel_rfl) (fun K hK => ?_)
 go_simp
 have H3 := hid (int3_sl ((w.alloc (.cells #[.int .i64 x.kind, .int .i64 x.seq, .string x.name, .int .i64 x.length, .int .i64 x.group, .int .i64 x.row, .slice a6 l6 c6, .slice a7 l7 c7, .slice a8 l8 c8] 67)).alloc (.cells #[.int .i64 y.kind, .int .i64 y.seq, .string y.name, .int .i64 y.length, .int .i64 y.group, .int .i64 y.row, .slice b6 m6 d6, .slice b7 m7 d7, .slice b8 m8 d8] 67)).drew 3 _ _ _ HS1.out HS2.out HS3.out (w.heap.size + 1 + 1) (by simp [World.drew])); have HC3 := hid (G0.out.alloc (.cells #[.int .i64 (sgn x.seq y.seq), .int .i64 (sgn x.kind y.kind), .int .i64 (sgn x.group y.group)] 3))
 go_wp2_with fail
 refine hK.out _ _ (HSI1.out _ ⟨(Know.of (keep_alloc B0.out _)), (Know.of (keep_alloc B1.out _))⟩) (fun hS4 => ?_)
 clear hK K
 try simp only [Act.put, pA, pB, pC]
 refine rg_call 16 rfl (by kernel_rfl) (fun K hK => ?_)
 go_simp
 go_at_call 171
 refine (or_any _ _ _ _ _ _ H3.out).mono ?_; rintro e w' ⟨rfl, rfl⟩
 go_wp2_with fail
 refine hK.out _ _ (HSI1.out _ ⟨(Know.of (keep_alloc B0.out _)), (Know.of (keep_alloc B1.out _))⟩) (fun hS5 => ?_)
 clear hK K
 try simp only [Act.put, pA, pB, pC]
 refine rgT 17 hS5 ?_
 refine wpAnyH_done (by kernel_rfl) ?_ _
 go_wp2_with fail
 go_ret
 exact ⟨_, rfl, HOR.out, HC3.out⟩
theorem rec_at2 {w : World} {a : Option Addr} {len cap : Nat} {xs : List Rec} {fp : List Nat} (h : recL.sl w a len cap xs fp) {i : Nat} (hi : i < len) :
  ∃ (x : Rec) (b off : Nat) (c : List Value) (f : List Nat), Hid (xs[i]? = some x ∧ b ∈ fp ∧ (∀ y ∈ f, y ∈ fp)) ∧ a = some ⟨b, off, none⟩ ∧ Hid (Celled w b (off + i * 9) 9 c) ∧ Hid (recL.rep w c x f) := by
 obtain ⟨x, b, off, c, f, hx, ha, hb, hc, hr, hf⟩ := recL.sl_at h hi
 refine ⟨x, b, off, c, f, ⟨hx, hb, hf⟩, ha, ⟨recL.len hr, fun j v hv => ?_, Lay.all_one (L := recL) (recL.all_single hr)⟩, hr⟩
 have := hc j (by have := (List.getElem?_eq_some_iff.1 hv).1; have := recL.len hr; omega)
 rw [← hv]; exact this
set_option maxHeartbeats 2000000 in
theorem l6Ahead_any (x y : Rec) (cx cy : Array Value) (fx fy : List Nat) (w : World) (hx : recL.rep w cx.toList x fx) (hy : recL.rep w cy.toList y fy) :
  Calls Tryz.prog 167 #[.agg cx, .agg cy] w fun e w' => e = .returned (.bool (recLt x y)) ∧ Chg [] w w' := by
 obtain ⟨a6, l6, c6, f6, a7, l7, c7, f7, a8, l8, c8, f8, ex, -⟩ := recL_iff.1 hx
 obtain rfl := Array.toList_inj.1 (ex.trans (List.toList_toArray).symm)
 obtain ⟨b6, m6, d6, g6, b7, m7, d7, g7, b8, m8, d8, g8, ey, -⟩ := recL_iff.1 hy
 obtain rfl := Array.toList_inj.1 (ey.trans (List.toList_toArray).symm)
 have G0 := hid (((Chg.refl [] w).alloc (.cells #[.int .i64 x.kind, .int .i64 x.seq, .string x.name, .int .i64 x.length, .int .i64 x.group, .int .i64 x.row, .slice a6 l6 c6, .slice a7 l7 c7, .slice a8 l8 c8] 67)).alloc (.cells #[.int .i64 y.kind, .int .i64 y.seq, .string y.name, .int .i64 y.length, .int .i64 y.group, .int .i64 y.row, .slice b6 m6 d6, .slice b7 m7 d7, .slice b8 m8 d8] 67))
 obtain ⟨v, hv⟩ : ∃ v, v = recLt x y := ⟨_, rfl⟩
 have HV := hid hv
 rw [← hv]
 clear hx hy ex ey hv
 by_cases h1 : x.seq = y.seq
 ·have hb1 : (x.seq != y.seq) = false := by simp [h1]
  by_cases h2 : x.kind = y.kind
  ·have hb2 : (x.kind != y.kind) = false := by simp [h2]
   have HR := hid (show v = decide (x.group < y.group) by rw [HV.out]; unfold recLt; apply decide_eq_decide.2; omega)
   clear h1 h2
   go_enter Tryz.func167, Tryz.ntmps167
   go_wp2_with fail
   go_ret
   exact ⟨by rw [HR.out]; rfl, G0.out⟩
  ·have hb2 : (x.kind != y.kind) = true := by simp [h2]
   have HR := hid (show v = decide (x.kind < y.kind) by rw [HV.out]; unfold recLt; apply decide_eq_decide.2; omega)
   clear h1 h2
   go_enter Tryz.func167, Tryz.ntmps167
   go_wp2_with fail
   go_ret
   exact ⟨by rw [HR.out]; rfl, G0.out⟩
 ·have hb1 : (x.seq != y.seq) = true := by simp [h1]
  have HR := hid (show v = decide (x.seq < y.seq) by rw [HV.out]; unfold recLt; apply decide_eq_decide.2; omega)
  clear h1
  go_enter Tryz.func167, Tryz.ntmps167
  go_wp2_with fail
  go_ret
  exact ⟨by rw [HR.out]; rfl, G0.out⟩
set_option maxHeartbeats 1000000 in
theorem has1_any (x r : Rec) (B : Nat) {a6 a7 a8 b6 b7 b8 : Option Addr} {l6 c6 l7 c7 l8 c8 m6 d6 m7 d7 m8 d8 : Nat} (fx fr : List Nat) (E : TypeId) (w : World) (hB : w.heap[B]? = some (.cells #[.int .i64 r.kind, .int .i64 r.seq, .string r.name, .int .i64 r.length, .int .i64 r.group, .int .i64 r.row, .slice b6 m6 d6, .slice b7 m7 d7, .slice b8 m8 d8] E (0, 0))) (hx : recL.rep w (#[.int .i64 x.kind, .int .i64 x.seq, .string x.name, .int .i64 x.length, .int .i64 x.group, .int .i64 x.row, .slice a6 l6 c6, .slice a7 l7 c7, .slice a8 l8 c8] : Array Value).toList x fx) (hr : recL.rep w (#[.int .i64 r.kind, .int .i64 r.seq, .string r.name, .int .i64 r.length, .int .i64 r.group, .int .i64 r.row, .slice b6 m6 d6, .slice b7 m7 d7, .slice b8 m8 d8] : Array Value).toList r fr) :
  Calls Tryz.prog 236 #[.agg #[.int .i64 x.kind, .int .i64 x.seq, .string x.name, .int .i64 x.length, .int .i64 x.group, .int .i64 x.row, .slice a6 l6 c6, .slice a7 l7 c7, .slice a8 l8 c8], .pointer (some ⟨B, 0, none⟩)] w fun e w' => e = .returned (.bool (sameV x r)) ∧ Chg [] w w' := by
 have hS := sameRec_c x r #[.int .i64 x.kind, .int .i64 x.seq, .string x.name, .int .i64 x.length, .int .i64 x.group, .int .i64 x.row, .slice a6 l6 c6, .slice a7 l7 c7, .slice a8 l8 c8] #[.int .i64 r.kind, .int .i64 r.seq, .string r.name, .int .i64 r.length, .int .i64 r.group, .int .i64 r.row, .slice b6 m6 d6, .slice b7 m7 d7, .slice b8 m8 d8] fx fr (w.alloc (.cells #[.int .i64 x.kind, .int .i64 x.seq, .string x.name, .int .i64 x.length, .int .i64 x.group, .int .i64 x.row, .slice a6 l6 c6, .slice a7 l7 c7, .slice a8 l8 c8] 67)) (recL.ext hx ((Chg.refl [] w).alloc _)) (recL.ext hr ((Chg.refl [] w).alloc _))
 rw [← sameV_pb] at hS
 have HS := hid hS
 have cB := cellsOf hB; have lB := ltOf hB
 have G0 := hid ((Chg.refl [] w).alloc (.cells #[.int .i64 x.kind, .int .i64 x.seq, .string x.name, .int .i64 x.length, .int .i64 x.group, .int .i64 x.row, .slice a6 l6 c6, .slice a7 l7 c7, .slice a8 l8 c8] 67))
 clear hS hx hr hB
 go_enter Tryz.func236, Tryz.ntmps236
 go_wp2_with fail
 refine HS.out.mono ?_
 rintro e w' ⟨rfl, hc⟩
 have HC := hid (G0.out.trans0 hc)
 clear hc
 go_wp2_with fail
 go_ret
 exact ⟨rfl, HC.out⟩
theorem cf_has1 : ∀ (args : Array Value) (w : World), (callFunc 236 args).run Tryz.prog w = .ok (.enter 236 args) w := fun _ _ => by go_simp
set_option maxHeartbeats 1000000 in
theorem has_any (a : Option Addr) (la ca : Nat) (xs : List Rec) (f : List Nat) (r : Rec) (cy : Array Value) (fr : List Nat) (w : World) (ha : recL.sl w a la ca xs f) (hy : recL.rep w cy.toList r fr) :
  Calls Tryz.prog 168 #[.slice a la ca, .agg cy] w fun e w' => e = .returned (.bool (xs.any (fun x => sameV x r))) ∧ Chg [] w w' := by
 obtain ⟨b6, m6, d6, g6, b7, m7, d7, g7, b8, m8, d8, g8, ey, -⟩ := recL_iff.1 hy
 obtain rfl := Array.toList_inj.1 (ey.trans (List.toList_toArray).symm)
 have hB := new_alloc w (.cells #[.int .i64 r.kind, .int .i64 r.seq, .string r.name, .int .i64 r.length, .int .i64 r.group, .int .i64 r.row, .slice b6 m6 d6, .slice b7 m7 d7, .slice b8 m8 d8] 67)
 have g0 : Chg [] w (w.alloc (.cells #[.int .i64 r.kind, .int .i64 r.seq, .string r.name, .int .i64 r.length, .int .i64 r.group, .int .i64 r.row, .slice b6 m6 d6, .slice b7 m7 d7, .slice b8 m8 d8] 67)) := (Chg.refl [] w).alloc _
 have HCT := hid (contRec_any 236 #[.pointer (some ⟨w.heap.size, 0, none⟩)] (fun x => sameV x r) a la ca xs f (w.alloc (.cells #[.int .i64 r.kind, .int .i64 r.seq, .string r.name, .int .i64 r.length, .int .i64 r.group, .int .i64 r.row, .slice b6 m6 d6, .slice b7 m7 d7, .slice b8 m8 d8] 67)) (recL.sl_ext ha g0) cf_has1 (fun x a6 l6 c6 a7 l7 c7 a8 l8 c8 fx w1 _ h2 h3 => has1_any x r w.heap.size fx fr 67 w1 (h2.keep0 hB) h3 (recL.ext hy (g0.trans0 h2))))
 have G0 := hid g0
 clear ha hy ey hB g0
 go_enter Tryz.func168, Tryz.ntmps168
 go_wp2_with fail
 refine HCT.out.mono ?_
 rintro e w' ⟨rfl, hc⟩
 have HC := hid (G0.out.trans0 hc)
 clear hc
 go_wp2_with fail
 go_ret
 exact ⟨rfl, HC.out⟩
set_option maxHeartbeats 2000000 in
theorem holds_any (a : Option Addr) (la ca : Nat) (xs : List Rec) (f : List Nat) (r : Rec) (cy : Array Value) (fr : List Nat) (w : World) (ha : recL.sl w a la ca xs f) (hy : recL.rep w cy.toList r fr) :
  Calls Tryz.prog 166 #[.slice a la ca, .agg cy] w fun e w' => e = .returned (.bool (xs.any (fun x => sameV x r))) ∧ Chg [] w w' := by
 obtain ⟨b6, m6, d6, g6, b7, m7, d7, g7, b8, m8, d8, g8, ey, -⟩ := recL_iff.1 hy
 obtain rfl := Array.toList_inj.1 (ey.trans (List.toList_toArray).symm)
 have hla := recL.sl_max ha
 have HB := hid (new_alloc w (.cells #[.int .i64 r.kind, .int .i64 r.seq, .string r.name, .int .i64 r.length, .int .i64 r.group, .int .i64 r.row, .slice b6 m6 d6, .slice b7 m7 d7, .slice b8 m8 d8] 67))
 have G0 := hid ((Chg.refl [] w).alloc (.cells #[.int .i64 r.kind, .int .i64 r.seq, .string r.name, .int .i64 r.length, .int .i64 r.group, .int .i64 r.row, .slice b6 m6 d6, .slice b7 m7 d7, .slice b8 m8 d8] 67))
 have HA := hid ha; have HY := hid hy; have HL := hid ha.1
 obtain ⟨v, hv⟩ : ∃ v, v = xs.any (fun x => sameV x r) := ⟨_, rfl⟩
 have HV := hid hv
 rw [← hv]
 clear ha hy ey hv
 go_enter Tryz.func166, Tryz.ntmps166
 go_wp2_with fail
 go_loopw [5] (fun vi wr => ∃ (k : Nat) (Wr : World), Wr = wr ∧ k ≤ la ∧ vi = .int .i64 k ∧ Hid (∀ x ∈ xs.take k, sameV x r = false) ∧ Chg [] (w.alloc (.cells #[.int .i64 r.kind, .int .i64 r.seq, .string r.name, .int .i64 r.length, .int .i64 r.group, .int .i64 r.row, .slice b6 m6 d6, .slice b7 m7 d7, .slice b8 m8 d8] 67)) wr) (fun vi _ => la - (intOf vi).toNat)
 case atStart => exact ⟨0, _, rfl, by omega, rfl, by intro y hy; simp at hy, Chg.refl _ _⟩
 case round =>
  obtain ⟨k, wr, rfl, hk, rfl, HK, hc⟩ := hrel
  have HC := hid hc
  have hbx := hc.keep0 HB.out
  have cX := cellsOf hbx; have lX := ltOf hbx
  clear hbx
  by_cases hlt : k < la
  ·obtain ⟨x, b, off, cx, fx, HX, rfl, HCE, HXS⟩ := rec_at2 (recL.sl_ext HA.out (G0.out.trans0 hc)) hlt
   have hS := spec_same_any x r cx.toArray #[.int .i64 r.kind, .int .i64 r.seq, .string r.name, .int .i64 r.length, .int .i64 r.group, .int .i64 r.row, .slice b6 m6 d6, .slice b7 m7 d7, .slice b8 m8 d8] fx fr wr.drew (recL.ext (by simpa using HXS.out) ((Chg.refl [] wr).drew)) (recL.ext HY.out ((G0.out.trans0 hc).drew))
   have HX0 := hid HX.out.1
   have hlb := (recL.sl_lt (recL.sl_ext HA.out (G0.out.trans0 hc))) b HX.out.2.1
   have HBX := hid (hc.keep0 HB.out)
   have HCD := hid (show Celled wr.drew b (off + k * 9) 9 cx from HCE.out)
   have HCR := hid ((Chg.refl [] wr).drew)
   clear hc HX cX lX
   cases hq : sameV x r
   ·rw [hq] at hS
    have HS := hid hS
    have HN := hid (show ∀ z ∈ xs.take (k + 1), sameV z r = false by
     intro z hz
     rw [take_next HX0.out] at hz
     rcases List.mem_append.1 hz with h1 | h1
     ·exact HK.out z h1
     ·rw [List.mem_singleton] at h1; rw [h1]; exact hq)
    clear hS hq
    go_wp2_with fail
    obtain ⟨SS, HSI, HSO⟩ := rg_cond (fun w' => Celled w' b (off + k * 9) 9 cx ∧ Know w.heap.size #[.int .i64 r.kind, .int .i64 r.seq, .string r.name, .int .i64 r.length, .int .i64 r.group, .int .i64 r.row, .slice b6 m6 d6, .slice b7 m7 d7, .slice b8 m8 d8] w')
    have hS0 := HSI.out _ ⟨HCD.out, (Know.of (keep_drew HBX.out))⟩
    refine rg_start SS (by kernel_rfl) hS0 ?_
    refine rgT 0 hS0 ?_
    refine rgT 1 hS0 ?_
    refine rgT 2 hS0 ?_
    refine rgL 3 hS0 HSO ?_ (hy := fun w' hw => exec_row _ 67 rfl rfl infoRc Tryz.underlying67 hw.1)
    refine rgL 4 hS0 HSO ?_
    refine rg_call 5 rfl (by kernel_rfl) (fun K hK => ?_)
    go_simp
    go_at_call 234
    refine HS.out.mono ?_
    rintro e w2 ⟨rfl, hc2⟩
    have HC2 := hid (HC.out.trans0 (HCR.out.trans0 hc2)); have HCE2 := hid (HCD.out.ext hc2 hlb); have HBX2 := hid (hc2.keep0 (keep_drew HBX.out))
    clear hc2
    go_wp2_with fail
    refine hK.out _ _ (HSI.out _ ⟨HCE2.out, (Know.of HBX2.out)⟩) (fun hS1 => ?_)
    clear hK K
    try simp only [Act.put, pA, pB, pC]
    refine wpAnyH_done (by kernel_rfl) ?_ _
    skip
    go_wp2_with fail
    go_roundw
    case rel => exact ⟨k + 1, _, rfl, by omega, by go_num, HN, HC2.out⟩
    case measure => simp [intOf]; omega
   ·rw [hq] at hS
    have HS := hid hS
    have HR := hid (show v = true by rw [HV.out]; exact List.any_eq_true.2 ⟨x, List.mem_of_getElem? HX0.out, hq⟩)
    clear hS hq
    go_wp2_with fail
    obtain ⟨SS, HSI, HSO⟩ := rg_cond (fun w' => Celled w' b (off + k * 9) 9 cx ∧ Know w.heap.size #[.int .i64 r.kind, .int .i64 r.seq, .string r.name, .int .i64 r.length, .int .i64 r.group, .int .i64 r.row, .slice b6 m6 d6, .slice b7 m7 d7, .slice b8 m8 d8] w')
    have hS0 := HSI.out _ ⟨HCD.out, (Know.of (keep_drew HBX.out))⟩
    refine rg_start SS (by kernel_rfl) hS0 ?_
    refine rgT 0 hS0 ?_
    refine rgT 1 hS0 ?_
    refine rgT 2 hS0 ?_
    refine rgL 3 hS0 HSO ?_ (hy := fun w' hw => exec_row _ 67 rfl rfl infoRc Tryz.underlying67 hw.1)
    refine rgL 4 hS0 HSO ?_
    refine rg_call 5 rfl (by kernel_rfl) (fun K hK => ?_)
    go_simp
    go_at_call 234
    refine HS.out.mono ?_
    rintro e w2 ⟨rfl, hc2⟩
    have HC2 := hid (HC.out.trans0 (HCR.out.trans0 hc2)); have HCE2 := hid (HCD.out.ext hc2 hlb); have HBX2 := hid (hc2.keep0 (keep_drew HBX.out))
    clear hc2
    go_wp2_with fail
    refine hK.out _ _ (HSI.out _ ⟨HCE2.out, (Know.of HBX2.out)⟩) (fun hS1 => ?_)
    clear hK K
    try simp only [Act.put, pA, pB, pC]
    refine wpAnyH_done (by kernel_rfl) ?_ _
    skip
    go_wp2_with fail
    go_ret
    exact ⟨by rw [HR.out]; rfl, G0.out.trans0 HC2.out⟩
  ·have HR := hid (show v = false by
    rw [HV.out, List.any_eq_false]
    intro x hx
    rw [HK.out x (by rw [List.take_of_length_le (by have := HL.out; omega)]; exact hx)]
    simp)
   clear hc
   go_wp2_with fail
   go_ret
   exact ⟨by rw [HR.out]; rfl, G0.out.trans0 HC.out⟩
end Go.Proofs.YtphmpimgbmedbaaGreat
namespace Go.Proofs.YtphmpimgbmedbaaGreat
open Go.RowKit
open Go.Lib (hid)
section
variable {P : Program} {ops : Array Oper} {Q : Exit → Act → World → Prop} {md : Region.Mode} {S : World → Prop} {fuel : Nat} {listed : Array Bool} {a : Act} {w : World}
theorem rg_call2 (i j : Nat) {oi oj : Oper} (hi : ops.toList[i]? = some oi) (hj : ops.toList[j]? = some oj) (hr : Region.ready md ops listed = [i, j])
  (h : ∀ K' : Act → World → Prop, Shut (∀ a w, S w → (S w → wpAnyH P md ops Q S fuel (listed.setIfInBounds i true) a w) → K' a w) → if Region.wanted oi (yielded ops a.tmps) = true then Oper.wp P oi a w K' Q else K' (a.put oi.dst undef) w)
  (h2 : ∀ K' : Act → World → Prop, Shut (∀ a w, S w → (S w → wpAnyH P md ops Q S fuel (listed.setIfInBounds j true) a w) → K' a w) → if Region.wanted oj (yielded ops a.tmps) = true then Oper.wp P oj a w K' Q else K' (a.put oj.dst undef) w) :
  wpAnyH P md ops Q S (fuel + 1) listed a w :=
 wpAnyH_ready hr (by simp) (AllReadyH.cons (get_toList hi) h (AllReadyH.cons (get_toList hj) h2 AllReadyH.nil))
theorem store_step {o : Oper} {Kc : Act → World → Prop} {R : Prop} {b : Nat} {cs vs : Array Value} {E : TypeId} {n : Nat} (hgd : o.guard = none) (p v : Operand) (t : TypeId)
  (hop : o.op = .store t p v) (hp : a.eval p = .pointer (some ⟨b, 0, none⟩)) (hv : a.eval v = .agg vs) (hi : (P.info? t).map (fun i => i.size) = some n) (h : w.heap[b]? = some (.cells cs E (0, 0)))
  (hn : vs.size = n) (hs : cs.size = n) (hone : vs.toList.all Value.oneCell' = true)
  (hk : ∀ w', w'.heap[b]? = some (.cells vs E (0, 0)) → Chg [b] w w' → Kc (a.put o.dst undef) w') : if Region.wanted o (yielded ops a.tmps) = true then Oper.wp P o a w Kc Q else R := by
 have hw : Region.wanted o (yielded ops a.tmps) = true := by simp [Region.wanted, hgd]
 rw [if_pos hw]
 exact store_wp p v t hop hp hv hi h hn hs hone hk
end
end Go.Proofs.YtphmpimgbmedbaaGreat
namespace Go.Proofs.YtphmpimgbmedbaaGreat
open Go.RowKit
open Go.Lib (hid)
theorem row9_back {w : World} {b : Nat} {E : TypeId} {fr : Nat × Nat} {u0 u1 u2 u3 u4 u5 u6 u7 u8 : Value} (v0 v1 v2 v3 v4 v5 v6 v7 v8 : Value) (h : w.heap[b]? = some (.cells #[u0, u1, u2, u3, u4, u5, u6, u7, u8] E fr)) :
  (((((((((w.setCell ⟨b, 0, none⟩ (v0)).setCell ⟨b, 1, none⟩ (v1)).setCell ⟨b, 2, none⟩ (v2)).setCell ⟨b, 3, none⟩ (v3)).setCell ⟨b, 4, none⟩ (v4)).setCell ⟨b, 5, none⟩ (v5)).setCell ⟨b, 6, none⟩ (v6)).setCell ⟨b, 7, none⟩ (v7)).setCell ⟨b, 8, none⟩ (v8)).heap[b]? = some (.cells #[v0, v1, v2, v3, v4, v5, v6, v7, v8] E fr) := by
 have e : (((((((((w.setCell ⟨b, 0, none⟩ (v0)).setCell ⟨b, 1, none⟩ (v1)).setCell ⟨b, 2, none⟩ (v2)).setCell ⟨b, 3, none⟩ (v3)).setCell ⟨b, 4, none⟩ (v4)).setCell ⟨b, 5, none⟩ (v5)).setCell ⟨b, 6, none⟩ (v6)).setCell ⟨b, 7, none⟩ (v7)).setCell ⟨b, 8, none⟩ (v8)) = w.setCells b 0 [v0, v1, v2, v3, v4, v5, v6, v7, v8] := rfl
 rw [e, setCells_heap [v0, v1, v2, v3, v4, v5, v6, v7, v8] 0 w _ h]
 simp [setRow]
set_option maxHeartbeats 400000 in
theorem cpyB_any (a : Option Addr) (la ca : Nat) (xs : List UInt8) (f : List Nat) (w : World) (ha : byteL.sl w a la ca xs f) (hz : la ≤ 140737488355327) :
  Calls Tryz.prog 141 #[.slice a la ca] w (NewSl byteL xs w) := by
 obtain ⟨K, _⟩ := kindB
 have HA := hid ha
 have HZ := hid hz
 have hn := fun w => Lib.run_eql_slice_nil (P := Tryz.prog) w 62 5 a la ca 0 0 Tryz.underlying62
 clear ha hz
 cases a with
 | none =>
  obtain rfl : xs = [] := by apply List.eq_nil_of_length_eq_zero; have := HA.out.1; have := HA.out.2.1; have := HA.out.2.2.2.1 rfl; omega
  go_enter Tryz.func141, Tryz.ntmps141
  go_wp2
  go_ret
  exact ⟨none, 0, [], rfl, nil_sl0 _ _, Fresh.nil _ _, Chg.refl _ _⟩
 | some ad =>
  have HL : Hid (([] : List UInt8).length + xs.length ≤ maxLen ∧ (([] : List UInt8).length + xs.length) * 1 ≤ 140737488355328) := by
   have := HA.out.1; have := HZ.out; have := Lay.sl_max _ HA.out
   refine ⟨?_, ?_⟩
   ·simp only [List.length_nil, maxLen]; omega
   ·simp only [List.length_nil, Nat.zero_add]; omega
  go_enter Tryz.func141, Tryz.ntmps141
  go_wp2_with (refine byteL.wpList_growS byte_flat rfl _ _ 62 rfl Tryz.underlying62 K rfl (Grow.made (Chg.refl [] w)) (Chg.refl [] _) rfl (byteL.sl_ext HA.out ((Chg.refl [] w).alloc _)) HL.out.1 HL.out.2 ?_; intro v' w' hg'; have hN := hid hg'; clear hg')
  go_ret
  obtain ⟨a', c', f', h1, h2, h3, h4⟩ := hN.out.sl
  exact ⟨a', c', f', by rw [h1]; rfl, h2, h3, h4⟩
set_option maxHeartbeats 400000 in
theorem cpyI_any (a : Option Addr) (la ca : Nat) (xs : List Int) (f : List Nat) (w : World) (ha : intL.sl w a la ca xs f) (hz : la ≤ 17592186044415) :
  Calls Tryz.prog 154 #[.slice a la ca] w (NewSl intL xs w) := by
 obtain ⟨K, _⟩ := kindI
 have HA := hid ha
 have HZ := hid hz
 have hn := fun w => Lib.run_eql_slice_nil (P := Tryz.prog) w 25 2 a la ca 0 0 Tryz.underlying25
 clear ha hz
 cases a with
 | none =>
  obtain rfl : xs = [] := by apply List.eq_nil_of_length_eq_zero; have := HA.out.1; have := HA.out.2.1; have := HA.out.2.2.2.1 rfl; omega
  go_enter Tryz.func154, Tryz.ntmps154
  go_wp2
  go_ret
  exact ⟨none, 0, [], rfl, nil_sl0 _ _, Fresh.nil _ _, Chg.refl _ _⟩
 | some ad =>
  have HL : Hid (([] : List Int).length + xs.length ≤ maxLen ∧ (([] : List Int).length + xs.length) * 8 ≤ 140737488355328) := by
   have := HA.out.1; have := HZ.out; have := Lay.sl_max _ HA.out
   refine ⟨?_, ?_⟩
   ·simp only [List.length_nil, maxLen]; omega
   ·simp only [List.length_nil, Nat.zero_add]; omega
  go_enter Tryz.func154, Tryz.ntmps154
  go_wp2_with (refine intL.wpList_growS int_flat rfl _ _ 25 rfl Tryz.underlying25 K rfl (Grow.made (Chg.refl [] w)) (Chg.refl [] _) rfl (intL.sl_ext HA.out ((Chg.refl [] w).alloc _)) HL.out.1 HL.out.2 ?_; intro v' w' hg'; have hN := hid hg'; clear hg')
  go_ret
  obtain ⟨a', c', f', h1, h2, h3, h4⟩ := hN.out.sl
  exact ⟨a', c', f', by rw [h1]; rfl, h2, h3, h4⟩
set_option maxRecDepth 100000 in
set_option maxHeartbeats 2000000 in
theorem cloneRec_any (x : Rec) (cx : Array Value) (fx : List Nat) (w : World) (hx : recL.rep w cx.toList x fx) (hz : totRec x ≤ 1048576) :
  Calls Tryz.prog 122 #[.agg cx] w (NewAgg recL x w) := by
 obtain ⟨a6, l6, c6, f6, a7, l7, c7, f7, a8, l8, c8, f8, ex, o0, o1, o2, o3, o4, o5, h6, h7, h8, -⟩ := recL_iff.1 hx
 obtain rfl := Array.toList_inj.1 (ex.trans (List.toList_toArray).symm)
 have q6 := totIs_nonneg x.rows; have q7 := totBs_nonneg x.data; have q8 := totBs_nonneg x.delta
 unfold totRec totIs totBs at hz
 unfold totIs at q6; unfold totBs at q7 q8
 have z6 : l6 ≤ 1048576 := by rw [h6.1]; omega
 have z7 : l7 ≤ 1048576 := by rw [h7.1]; omega
 have z8 : l8 ≤ 1048576 := by rw [h8.1]; omega
 have HO := hid (And.intro o0 (And.intro o1 (And.intro o2 (And.intro o3 (And.intro o4 o5)))))
 have L6 := hid h6.1.symm; have L7 := hid h7.1.symm; have L8 := hid h8.1.symm
 have H6 := hid h6; have H7 := hid h7; have H8 := hid h8
 clear hx ex hz q6 q7 q8 o0 o1 o2 o3 o4 o5 h6 h7 h8
 have g0 : Chg [] w ((w.alloc (.cells #[.int .i64 x.kind, .int .i64 x.seq, .string x.name, .int .i64 x.length, .int .i64 x.group, .int .i64 x.row, .slice a6 l6 c6, .slice a7 l7 c7, .slice a8 l8 c8] 67)).alloc (.cells #[.int .i64 0, .int .i64 0, .string ⟨#[]⟩, .int .i64 0, .int .i64 0, .int .i64 0, .slice none 0 0, .slice none 0 0, .slice none 0 0] 67)).drew := (((Chg.refl [] w).alloc _).alloc _).drew
 have B1 := hid (show ((w.alloc (.cells #[.int .i64 x.kind, .int .i64 x.seq, .string x.name, .int .i64 x.length, .int .i64 x.group, .int .i64 x.row, .slice a6 l6 c6, .slice a7 l7 c7, .slice a8 l8 c8] 67)).alloc (.cells #[.int .i64 0, .int .i64 0, .string ⟨#[]⟩, .int .i64 0, .int .i64 0, .int .i64 0, .slice none 0 0, .slice none 0 0, .slice none 0 0] 67)).drew.heap[w.heap.size]? = some (.cells #[.int .i64 x.kind, .int .i64 x.seq, .string x.name, .int .i64 x.length, .int .i64 x.group, .int .i64 x.row, .slice a6 l6 c6, .slice a7 l7 c7, .slice a8 l8 c8] 67 (0, 0)) from keep_drew (keep_alloc (new_alloc w _) _))
 have B2 := hid (show ((w.alloc (.cells #[.int .i64 x.kind, .int .i64 x.seq, .string x.name, .int .i64 x.length, .int .i64 x.group, .int .i64 x.row, .slice a6 l6 c6, .slice a7 l7 c7, .slice a8 l8 c8] 67)).alloc (.cells #[.int .i64 0, .int .i64 0, .string ⟨#[]⟩, .int .i64 0, .int .i64 0, .int .i64 0, .slice none 0 0, .slice none 0 0, .slice none 0 0] 67)).drew.heap[w.heap.size + 1]? = some (.cells #[.int .i64 0, .int .i64 0, .string ⟨#[]⟩, .int .i64 0, .int .i64 0, .int .i64 0, .slice none 0 0, .slice none 0 0, .slice none 0 0] 67 (0, 0)) from keep_drew (new_at (by simp) _))
 have hs0 : ((w.alloc (.cells #[.int .i64 x.kind, .int .i64 x.seq, .string x.name, .int .i64 x.length, .int .i64 x.group, .int .i64 x.row, .slice a6 l6 c6, .slice a7 l7 c7, .slice a8 l8 c8] 67)).alloc (.cells #[.int .i64 0, .int .i64 0, .string ⟨#[]⟩, .int .i64 0, .int .i64 0, .int .i64 0, .slice none 0 0, .slice none 0 0, .slice none 0 0] 67)).drew.heap.size = w.heap.size + 2 := by simp [World.drew]
 have G0 := hid g0
 have HS0 := hid hs0
 clear g0 hs0
 go_enter Tryz.func122, Tryz.ntmps122
 go_wp2_with fail
 obtain ⟨CC, HCI, HCO⟩ := rg_cond (fun w' => Know w.heap.size #[.int .i64 x.kind, .int .i64 x.seq, .string x.name, .int .i64 x.length, .int .i64 x.group, .int .i64 x.row, .slice a6 l6 c6, .slice a7 l7 c7, .slice a8 l8 c8] w')
 refine gg_start [10] CC (by kernel_rfl) (HCI.out _ (Know.of B1.out)) (fun hcl hS => ?_)
 refine ggT 0 hcl hS ?_; clear hcl hS; intro hcl hS
 refine ggL 1 hcl hS HCO ?_; clear hcl hS; intro hcl hS
 refine ggT 3 hcl hS ?_; clear hcl hS; intro hcl hS
 refine ggL 4 hcl hS HCO ?_; clear hcl hS; intro hcl hS
 refine ggT 6 hcl hS ?_; clear hcl hS; intro hcl hS
 refine ggL 7 hcl hS HCO ?_; clear hcl hS; intro hcl hS
 refine ggC 2 hcl rfl (by kernel_rfl) (fun K hK => ?_)
 go_simp
 go_at_call 154
 refine (cpyI_any a6 l6 c6 x.rows f6 _ (intL.sl_ext H6.out G0.out) (by omega)).mono ?_; rintro e w1 ⟨p6, d6, g6, rfl, hs, hf, hc⟩
 rw [L6.out] at hs ⊢; have HN1 := hid (And.intro hs (And.intro hf hc)); obtain ⟨-, -, A1⟩ := bk0 hc B1.out; obtain ⟨-, -, A2⟩ := bk0 hc B2.out; clear hs hf hc
 go_wp2_with fail
 refine hK.out _ _ (fun _ => HCI.out _ (Know.of A1.out)) ?_
 clear hK K hcl hS
 intro hcl hS
 try simp only [Act.put, pA, pB, pC]
 refine ggT 9 hcl hS ?_; clear hcl hS; intro hcl hS
 refine ggC 5 hcl rfl (by kernel_rfl) (fun K hK => ?_)
 go_simp
 go_at_call 141
 refine (cpyB_any a7 l7 c7 x.data f7 _ (byteL.sl_ext H7.out (G0.out.trans0 HN1.out.2.2)) (by omega)).mono ?_; rintro e w2 ⟨p7, d7, g7, rfl, hs, hf, hc⟩
 rw [L7.out] at hs ⊢; have HN2 := hid (And.intro hs (And.intro hf hc)); obtain ⟨-, -, A3⟩ := bk0 hc A1.out; obtain ⟨-, -, A4⟩ := bk0 hc A2.out; clear hs hf hc
 go_wp2_with fail
 refine hK.out _ _ (fun _ => HCI.out _ (Know.of A3.out)) ?_
 clear hK K hcl hS
 intro hcl hS
 try simp only [Act.put, pA, pB, pC]
 refine ggC 8 hcl rfl (by kernel_rfl) (fun K hK => ?_)
 go_simp
 go_at_call 141
 refine (cpyB_any a8 l8 c8 x.delta f8 _ (byteL.sl_ext H8.out ((G0.out.trans0 HN1.out.2.2).trans0 HN2.out.2.2)) (by omega)).mono ?_; rintro e w3 ⟨p8, d8, g8, rfl, hs, hf, hc⟩
 rw [L8.out] at hs ⊢; have HN3 := hid (And.intro hs (And.intro hf hc)); obtain ⟨e1, n1, A5⟩ := bk0 hc A3.out; obtain ⟨e2, n2, A6⟩ := bk0 hc A4.out; have fz := freeOf A5.out; have fy := freeOf A6.out; clear hs hf hc
 go_wp2_with fail
 refine hK.out _ _ (fun _ => HCI.out _ (Know.of A5.out)) ?_
 clear hK K hcl hS
 intro hcl hS
 try simp only [Act.put, pA, pB, pC]
 refine ggC 10 hcl rfl (by kernel_rfl) (fun K hK => ?_)
 go_simp
 refine hK.out _ _ (Till.done (m := 10) (by simp) (by rfl)) ?_
 clear hK K hcl hS
 intro hcl hS
 try simp only [Act.put, pA, pB, pC]
 refine ggT 11 hcl hS ?_; clear hcl hS; intro hcl hS
 refine ggC 12 hcl rfl (by kernel_rfl) (fun K hK => ?_)
 go_simp
 refine hK.out _ _ (Till.done (m := 10) (by simp) (by rfl)) ?_
 clear hK K hcl hS
 intro hcl hS
 try simp only [Act.put, pA, pB, pC]
 refine ggT 13 hcl hS ?_; clear hcl hS; intro hcl hS
 refine ggC 14 hcl rfl (by kernel_rfl) (fun K hK => ?_)
 go_simp
 refine hK.out _ _ (Till.done (m := 10) (by simp) (by rfl)) ?_
 clear hK K hcl hS
 intro hcl hS
 try simp only [Act.put, pA, pB, pC]
 refine ggEnd (by kernel_rfl) ?_ _
 go_wp2_with fail
 have hb1 : (((w3.setCell ⟨w.heap.size, 6, none⟩ (.slice p6 l6 d6)).setCell ⟨w.heap.size, 7, none⟩ (.slice p7 l7 d7)).setCell ⟨w.heap.size, 8, none⟩ (.slice p8 l8 d8)).heap[w.heap.size + 1]? = some (.cells #[.int .i64 0, .int .i64 0, .string ⟨#[]⟩, .int .i64 0, .int .i64 0, .int .i64 0, .slice none 0 0, .slice none 0 0, .slice none 0 0] 67 (0, 0)) := keep_set (keep_set (keep_set A6.out _ _ (by simp)) _ _ (by simp)) _ _ (by simp)
 have hq : ((((((((((((w3.setCell ⟨w.heap.size, 6, none⟩ (.slice p6 l6 d6)).setCell ⟨w.heap.size, 7, none⟩ (.slice p7 l7 d7)).setCell ⟨w.heap.size, 8, none⟩ (.slice p8 l8 d8)).setCell ⟨w.heap.size + 1, 0, none⟩ (.int .i64 x.kind)).setCell ⟨w.heap.size + 1, 1, none⟩ (.int .i64 x.seq)).setCell ⟨w.heap.size + 1, 2, none⟩ (.string x.name)).setCell ⟨w.heap.size + 1, 3, none⟩ (.int .i64 x.length)).setCell ⟨w.heap.size + 1, 4, none⟩ (.int .i64 x.group)).setCell ⟨w.heap.size + 1, 5, none⟩ (.int .i64 x.row)).setCell ⟨w.heap.size + 1, 6, none⟩ (.slice p6 l6 d6)).setCell ⟨w.heap.size + 1, 7, none⟩ (.slice p7 l7 d7)).setCell ⟨w.heap.size + 1, 8, none⟩ (.slice p8 l8 d8)).heap[w.heap.size + 1]? = some (.cells #[.int .i64 x.kind, .int .i64 x.seq, .string x.name, .int .i64 x.length, .int .i64 x.group, .int .i64 x.row, .slice p6 l6 d6, .slice p7 l7 d7, .slice p8 l8 d8] 67 (0, 0)) := by
  have h := row9_back (.int .i64 x.kind) (.int .i64 x.seq) (.string x.name) (.int .i64 x.length) (.int .i64 x.group) (.int .i64 x.row) (.slice p6 l6 d6) (.slice p7 l7 d7) (.slice p8 l8 d8) hb1
  exact h
 have hqc := cellsOf hq
 have s1 := HN1.out.2.2.size; have s2 := HN2.out.2.2.size; have s3 := HN3.out.2.2.size
 rw [HS0.out] at s1
 have cS : Chg [w.heap.size, w.heap.size + 1] w3 ((((((((((((w3.setCell ⟨w.heap.size, 6, none⟩ (.slice p6 l6 d6)).setCell ⟨w.heap.size, 7, none⟩ (.slice p7 l7 d7)).setCell ⟨w.heap.size, 8, none⟩ (.slice p8 l8 d8)).setCell ⟨w.heap.size + 1, 0, none⟩ (.int .i64 x.kind)).setCell ⟨w.heap.size + 1, 1, none⟩ (.int .i64 x.seq)).setCell ⟨w.heap.size + 1, 2, none⟩ (.string x.name)).setCell ⟨w.heap.size + 1, 3, none⟩ (.int .i64 x.length)).setCell ⟨w.heap.size + 1, 4, none⟩ (.int .i64 x.group)).setCell ⟨w.heap.size + 1, 5, none⟩ (.int .i64 x.row)).setCell ⟨w.heap.size + 1, 6, none⟩ (.slice p6 l6 d6)).setCell ⟨w.heap.size + 1, 7, none⟩ (.slice p7 l7 d7)).setCell ⟨w.heap.size + 1, 8, none⟩ (.slice p8 l8 d8)) := by
  iterate 12 refine Chg.setCell ?_ _ _ (.inl (by simp))
  exact Chg.refl _ _
 have nb : ∀ g (B : Nat) (W : World), w.heap.size + 2 ≤ B → Fresh B W g → ∀ b ∈ g, b ∉ [w.heap.size, w.heap.size + 1] := fun g B W hB hf b hb hm => by
  have := (hf.2 b hb).1
  simp only [List.mem_cons, List.not_mem_nil, or_false] at hm
  omega
 have n6 := nb g6 _ _ (by rw [HS0.out]; exact Nat.le_refl _) HN1.out.2.1
 have n7 := nb g7 _ _ (by omega) HN2.out.2.1
 have n8 := nb g8 _ _ (by omega) HN3.out.2.1
 have K6 := intL.sl_chg (intL.sl_ext (intL.sl_ext HN1.out.1 HN2.out.2.2) HN3.out.2.2) cS n6
 have K7 := byteL.sl_chg (byteL.sl_ext HN2.out.1 HN3.out.2.2) cS n7
 have K8 := byteL.sl_chg HN3.out.1 cS n8
 have F6 := ((HN1.out.2.1.chg HN2.out.2.2).chg HN3.out.2.2).chg cS
 have F7 := (HN2.out.2.1.chg HN3.out.2.2).chg cS
 have F8 := HN3.out.2.1.chg cS
 have l6' := HN1.out.2.1.low (Nat.le_refl _); have l7' := HN2.out.2.1.low (Nat.le_refl _)
 have hfr := (F6.append (F7.append F8 l7' (by omega)) l6' (by rw [HS0.out]; omega)).mono (C := w.heap.size) (by rw [HS0.out]; omega)
 have hch : Chg [] w ((((((((((((w3.setCell ⟨w.heap.size, 6, none⟩ (.slice p6 l6 d6)).setCell ⟨w.heap.size, 7, none⟩ (.slice p7 l7 d7)).setCell ⟨w.heap.size, 8, none⟩ (.slice p8 l8 d8)).setCell ⟨w.heap.size + 1, 0, none⟩ (.int .i64 x.kind)).setCell ⟨w.heap.size + 1, 1, none⟩ (.int .i64 x.seq)).setCell ⟨w.heap.size + 1, 2, none⟩ (.string x.name)).setCell ⟨w.heap.size + 1, 3, none⟩ (.int .i64 x.length)).setCell ⟨w.heap.size + 1, 4, none⟩ (.int .i64 x.group)).setCell ⟨w.heap.size + 1, 5, none⟩ (.int .i64 x.row)).setCell ⟨w.heap.size + 1, 6, none⟩ (.slice p6 l6 d6)).setCell ⟨w.heap.size + 1, 7, none⟩ (.slice p7 l7 d7)).setCell ⟨w.heap.size + 1, 8, none⟩ (.slice p8 l8 d8)) := (((G0.out.trans0 HN1.out.2.2).trans0 HN2.out.2.2).trans0 HN3.out.2.2).trans cS (fun y hy => .inr (by simp only [List.mem_cons, List.not_mem_nil, or_false] at hy; omega))
 refine bodyPost_ret (v := .agg #[.int .i64 x.kind, .int .i64 x.seq, .string x.name, .int .i64 x.length, .int .i64 x.group, .int .i64 x.row, .slice p6 l6 d6, .slice p7 l7 d7, .slice p8 l8 d8]) (by simp [results, Tryz.results122, go_sem, hqc]) rfl ⟨_, _, rfl, recL_iff.2 ⟨p6, l6, d6, g6, p7, l7, d7, g7, p8, l8, d8, g8, rfl, HO.out.1, HO.out.2.1, HO.out.2.2.1, HO.out.2.2.2.1, HO.out.2.2.2.2.1, HO.out.2.2.2.2.2, K6, K7, K8, rfl⟩, hfr, hch⟩
set_option maxRecDepth 100000 in
set_option maxHeartbeats 2000000 in
theorem cloneRecs_any (a : Option Addr) (la ca : Nat) (xs : List Rec) (f : List Nat) (w : World) (ha : recL.sl w a la ca xs f) (hz : totL totRec xs ≤ 1048576) :
  Calls Tryz.prog 93 #[.slice a la ca] w (NewSl recL xs w) := by
 obtain ⟨K, _⟩ := kindRec
 have hlz : la ≤ 1048576 := by have := totL_len totRec_nonneg xs; rw [ha.1]; omega
 have HL := hid ha.1
 have HA := hid ha
 have HZ := hid (fun x hx => Int.le_trans (totL_mem totRec_nonneg hx) hz : ∀ x ∈ xs, totRec x ≤ 1048576)
 clear ha hz
 go_enter Tryz.func93, Tryz.ntmps93
 go_wp2_with fail
 go_loopw [3, 9] (fun vo vi wr => ∃ (k : Nat) (Wr : World), Wr = wr ∧ k ≤ la ∧ vi = .int .i64 k ∧ Grow recL 67 w wr vo (xs.take k)) (fun _ vi _ => la - (intOf vi).toNat)
 case atStart => exact ⟨0, _, rfl, by omega, rfl, by rw [List.take_zero]; exact Grow.made (Chg.refl _ _)⟩
 case round =>
  obtain ⟨k, wr, rfl, hk, rfl, hg⟩ := hrel
  by_cases hlt : k < la
  ·obtain ⟨x, b, off, a6, l6, c6, a7, l7, c7, a8, l8, c8, fq, HX, rfl, hq0, hq1, hq2, hq3, hq4, hq5, hq6, hq7, hq8, HXS⟩ := rec_at (recL.sl_ext HA.out hg.chg) hlt
   have HG := hid hg
   have HXI := hid HX.out.1
   have HXZ := hid (HZ.out x (List.mem_of_getElem? HX.out.1))
   clear hg HX
   go_wp2_with fail
   refine (cloneRec_any x #[.int .i64 x.kind, .int .i64 x.seq, .string x.name, .int .i64 x.length, .int .i64 x.group, .int .i64 x.row, .slice a6 l6 c6, .slice a7 l7 c7, .slice a8 l8 c8] fq _ (recL.ext HXS.out ((Chg.refl [] wr).alloc (.cells #[.int .i64 x.kind, .int .i64 x.seq, .string x.name, .int .i64 x.length, .int .i64 x.group, .int .i64 x.row, .slice a6 l6 c6, .slice a7 l7 c7, .slice a8 l8 c8] 67))) HXZ.out).mono ?_
   rintro e w1 ⟨cs, f1, rfl, hr, hf, hc⟩
   obtain ⟨p6, m6, d6, _, p7, m7, d7, _, p8, m8, d8, _, ex, -⟩ := recL_iff.1 hr
   obtain rfl := Array.toList_inj.1 (ex.trans (List.toList_toArray).symm)
   have HN1 := hid (And.intro hr (And.intro (hf.mono (C := wr.heap.size) (by simp)) (((Chg.refl [] wr).alloc (.cells #[.int .i64 x.kind, .int .i64 x.seq, .string x.name, .int .i64 x.length, .int .i64 x.group, .int .i64 x.row, .slice a6 l6 c6, .slice a7 l7 c7, .slice a8 l8 c8] 67)).trans0 hc)))
   have HLL : Hid ((xs.take k).length + [x].length ≤ maxLen ∧ ((xs.take k).length + [x].length) * 128 ≤ 140737488355328) := by
    refine ⟨?_, ?_⟩ <;> simp only [List.length_take, List.length_cons, List.length_nil, maxLen] <;> omega
   have HNX := hid (take_next HXI.out)
   clear ex hr hf hc hq0 hq1 hq2 hq3 hq4 hq5 hq6 hq7 hq8 HXS
   go_wp2_with (at_builtin; refine recL.wpList_grow rfl _ _ 44 rfl Tryz.underlying44 K rfl HG.out (HN1.out.2.2.alloc (.cells #[.int .i64 x.kind, .int .i64 x.seq, .string x.name, .int .i64 x.length, .int .i64 x.group, .int .i64 x.row, .slice p6 m6 d6, .slice p7 m7 d7, .slice p8 m8 d8] 67)) ⟨w1.heap.size, 0, none⟩ 1 1 [.int .i64 x.kind, .int .i64 x.seq, .string x.name, .int .i64 x.length, .int .i64 x.group, .int .i64 x.row, .slice p6 m6 d6, .slice p7 m7 d7, .slice p8 m8 d8] (ys := [x]) (f := f1) rfl rfl (new_cells w1 #[.int .i64 x.kind, .int .i64 x.seq, .string x.name, .int .i64 x.length, .int .i64 x.group, .int .i64 x.row, .slice p6 m6 d6, .slice p7 m7 d7, .slice p8 m8 d8] 67) (recL.all_single (recL.ext HN1.out.1 ((Chg.refl [] w1).alloc _))) (HN1.out.2.1.chg ((Chg.refl [] w1).alloc (.cells #[.int .i64 x.kind, .int .i64 x.seq, .string x.name, .int .i64 x.length, .int .i64 x.group, .int .i64 x.row, .slice p6 m6 d6, .slice p7 m7 d7, .slice p8 m8 d8] 67))) HLL.out.1 HLL.out.2 ?_; intro v' w' hg'; rw [← HNX.out] at hg'; have HG2 := hid hg'; clear hg')
   go_roundw
   case rel => exact ⟨k + 1, _, rfl, by omega, by go_num, HG2.out⟩
   case measure => simp [intOf]; omega
  ·obtain rfl : k = la := by omega
   rw [List.take_of_length_le (by have := HL.out; omega)] at hg
   obtain ⟨a', c', f', h1, h2, h3, h4⟩ := hg.sl
   subst h1
   have HN := hid (show NewSl recL xs w (.returned (.slice a' xs.length c')) wr from ⟨a', c', f', rfl, h2, h3, h4⟩)
   generalize xs.length = n at HN ⊢
   clear h2 h3 h4 hg
   go_wp2_with fail
   go_ret
   exact HN.out
set_option maxRecDepth 100000 in
set_option maxHeartbeats 2000000 in
theorem l5CopyRec_any (x : Rec) (cx : Array Value) (fx : List Nat) (w : World) (hx : recL.rep w cx.toList x fx) (hz : totRec x ≤ 1048576) :
  Calls Tryz.prog 165 #[.agg cx] w (NewAgg recL x w) := by
 obtain ⟨KI, _⟩ := kindI
 obtain ⟨KB, _⟩ := kindB
 obtain ⟨a6, l6, c6, f6, a7, l7, c7, f7, a8, l8, c8, f8, ex, o0, o1, o2, o3, o4, o5, h6, h7, h8, -⟩ := recL_iff.1 hx
 obtain rfl := Array.toList_inj.1 (ex.trans (List.toList_toArray).symm)
 have q6 := totIs_nonneg x.rows; have q7 := totBs_nonneg x.data; have q8 := totBs_nonneg x.delta
 unfold totRec totIs totBs at hz
 unfold totIs at q6; unfold totBs at q7 q8
 have z6 : l6 ≤ 1048576 := by rw [h6.1]; omega
 have z7 : l7 ≤ 1048576 := by rw [h7.1]; omega
 have z8 : l8 ≤ 1048576 := by rw [h8.1]; omega
 have HO := hid (And.intro o0 (And.intro o1 (And.intro o2 (And.intro o3 (And.intro o4 o5)))))
 have L6 := hid h6.1.symm; have L7 := hid h7.1.symm; have L8 := hid h8.1.symm
 have H6 := hid h6; have H7 := hid h7; have H8 := hid h8
 clear hx ex hz q6 q7 q8 o0 o1 o2 o3 o4 o5 h6 h7 h8
 have G0 := hid (show Chg [] w ((w.alloc (.cells #[.int .i64 x.kind, .int .i64 x.seq, .string x.name, .int .i64 x.length, .int .i64 x.group, .int .i64 x.row, .slice a6 l6 c6, .slice a7 l7 c7, .slice a8 l8 c8] 67)).alloc (.cells #[.int .i64 0, .int .i64 0, .string ⟨#[]⟩, .int .i64 0, .int .i64 0, .int .i64 0, .slice none 0 0, .slice none 0 0, .slice none 0 0] 67)) from ((Chg.refl [] w).alloc _).alloc _)
 have A0 := hid (show ((w.alloc (.cells #[.int .i64 x.kind, .int .i64 x.seq, .string x.name, .int .i64 x.length, .int .i64 x.group, .int .i64 x.row, .slice a6 l6 c6, .slice a7 l7 c7, .slice a8 l8 c8] 67)).alloc (.cells #[.int .i64 0, .int .i64 0, .string ⟨#[]⟩, .int .i64 0, .int .i64 0, .int .i64 0, .slice none 0 0, .slice none 0 0, .slice none 0 0] 67)).heap[w.heap.size]? = some (.cells #[.int .i64 x.kind, .int .i64 x.seq, .string x.name, .int .i64 x.length, .int .i64 x.group, .int .i64 x.row, .slice a6 l6 c6, .slice a7 l7 c7, .slice a8 l8 c8] 67 (0, 0)) from keep_alloc (new_alloc w _) _)
 have B0 := hid (show ((w.alloc (.cells #[.int .i64 x.kind, .int .i64 x.seq, .string x.name, .int .i64 x.length, .int .i64 x.group, .int .i64 x.row, .slice a6 l6 c6, .slice a7 l7 c7, .slice a8 l8 c8] 67)).alloc (.cells #[.int .i64 0, .int .i64 0, .string ⟨#[]⟩, .int .i64 0, .int .i64 0, .int .i64 0, .slice none 0 0, .slice none 0 0, .slice none 0 0] 67)).heap[w.heap.size + 1]? = some (.cells #[.int .i64 0, .int .i64 0, .string ⟨#[]⟩, .int .i64 0, .int .i64 0, .int .i64 0, .slice none 0 0, .slice none 0 0, .slice none 0 0] 67 (0, 0)) from new_at (by simp) _)
 have S0 := hid (show w.heap.size + 2 ≤ ((w.alloc (.cells #[.int .i64 x.kind, .int .i64 x.seq, .string x.name, .int .i64 x.length, .int .i64 x.group, .int .i64 x.row, .slice a6 l6 c6, .slice a7 l7 c7, .slice a8 l8 c8] 67)).alloc (.cells #[.int .i64 0, .int .i64 0, .string ⟨#[]⟩, .int .i64 0, .int .i64 0, .int .i64 0, .slice none 0 0, .slice none 0 0, .slice none 0 0] 67)).heap.size by simp)
 have HL6 : Hid (([] : List Int).length + x.rows.length ≤ maxLen ∧ (([] : List Int).length + x.rows.length) * 8 ≤ 140737488355328) := by
  have := L6.out
  refine ⟨?_, ?_⟩ <;> simp only [List.length_nil, maxLen] <;> omega
 have HL7 : Hid (([] : List UInt8).length + x.data.length ≤ maxLen ∧ (([] : List UInt8).length + x.data.length) * 1 ≤ 140737488355328) := by
  have := L7.out
  refine ⟨?_, ?_⟩ <;> simp only [List.length_nil, maxLen] <;> omega
 have HL8 : Hid (([] : List UInt8).length + x.delta.length ≤ maxLen ∧ (([] : List UInt8).length + x.delta.length) * 1 ≤ 140737488355328) := by
  have := L8.out
  refine ⟨?_, ?_⟩ <;> simp only [List.length_nil, maxLen] <;> omega
 go_enter Tryz.func165, Tryz.ntmps165
 go_wp2_with (at_builtin; first | (refine intL.wpList_growS int_flat rfl _ _ 25 rfl Tryz.underlying25 KI rfl (Grow.madeN (Chg.refl [] ((w.alloc (.cells #[.int .i64 x.kind, .int .i64 x.seq, .string x.name, .int .i64 x.length, .int .i64 x.group, .int .i64 x.row, .slice a6 l6 c6, .slice a7 l7 c7, .slice a8 l8 c8] 67)).alloc (.cells #[.int .i64 0, .int .i64 0, .string ⟨#[]⟩, .int .i64 0, .int .i64 0, .int .i64 0, .slice none 0 0, .slice none 0 0, .slice none 0 0] 67))) (by simp)) (Chg.refl [] _) rfl (intL.sl_ext H6.out (G0.out.alloc _)) HL6.out.1 HL6.out.2 ?_; intro v' w1 hg'; obtain ⟨p6, d6, g6, rfl, hs, hf, hc⟩ := hg'.sl; rw [List.nil_append, L6.out] at hs hg' ⊢; obtain ⟨e1, n1, A1'⟩ := bk0 hc A0.out; obtain ⟨-, -, B1'⟩ := bk0 hc B0.out; have fz1 := freeOf A1'.out; have A1 := hid (show (w1.setCell ⟨w.heap.size, 6, none⟩ (.slice p6 l6 d6)).heap[w.heap.size]? = some (.cells #[.int .i64 x.kind, .int .i64 x.seq, .string x.name, .int .i64 x.length, .int .i64 x.group, .int .i64 x.row, .slice p6 l6 d6, .slice a7 l7 c7, .slice a8 l8 c8] 67 (0, 0)) from heap_set_lit (cur := #[.int .i64 x.kind, .int .i64 x.seq, .string x.name, .int .i64 x.length, .int .i64 x.group, .int .i64 x.row, .slice a6 l6 c6, .slice a7 l7 c7, .slice a8 l8 c8]) A1'.out rfl); have B1 := hid (keep_set B1'.out ⟨w.heap.size, 6, none⟩ (.slice p6 l6 d6) (by simp)); have G1 := hid ((G0.out.trans0 hc).setCell ⟨w.heap.size, 6, none⟩ (.slice p6 l6 d6) (.inr (by simp))); have N1 := hid (And.intro hs (And.intro hf hc)); clear hs hf hc hg') | (refine byteL.wpList_growS byte_flat rfl _ _ 62 rfl Tryz.underlying62 KB rfl (Grow.madeN (Chg.refl [] (w1.setCell ⟨w.heap.size, 6, none⟩ (.slice p6 l6 d6))) (by simp)) (Chg.refl [] _) rfl (byteL.sl_ext H7.out (G1.out.alloc _)) HL7.out.1 HL7.out.2 ?_; intro v' w2 hg'; obtain ⟨p7, d7, g7, rfl, hs, hf, hc⟩ := hg'.sl; rw [List.nil_append, L7.out] at hs hg' ⊢; obtain ⟨e2, n2, A2'⟩ := bk0 hc A1.out; obtain ⟨-, -, B2'⟩ := bk0 hc B1.out; have fz2 := freeOf A2'.out; have A2 := hid (show (w2.setCell ⟨w.heap.size, 7, none⟩ (.slice p7 l7 d7)).heap[w.heap.size]? = some (.cells #[.int .i64 x.kind, .int .i64 x.seq, .string x.name, .int .i64 x.length, .int .i64 x.group, .int .i64 x.row, .slice p6 l6 d6, .slice p7 l7 d7, .slice a8 l8 c8] 67 (0, 0)) from heap_set_lit (cur := #[.int .i64 x.kind, .int .i64 x.seq, .string x.name, .int .i64 x.length, .int .i64 x.group, .int .i64 x.row, .slice p6 l6 d6, .slice a7 l7 c7, .slice a8 l8 c8]) A2'.out rfl); have B2 := hid (keep_set B2'.out ⟨w.heap.size, 7, none⟩ (.slice p7 l7 d7) (by simp)); have G2 := hid ((G1.out.trans0 hc).setCell ⟨w.heap.size, 7, none⟩ (.slice p7 l7 d7) (.inr (by simp))); have N2 := hid (And.intro hs (And.intro hf hc)); clear hs hf hc hg') | (refine byteL.wpList_growS byte_flat rfl _ _ 62 rfl Tryz.underlying62 KB rfl (Grow.madeN (Chg.refl [] (w2.setCell ⟨w.heap.size, 7, none⟩ (.slice p7 l7 d7))) (by simp)) (Chg.refl [] _) rfl (byteL.sl_ext H8.out (G2.out.alloc _)) HL8.out.1 HL8.out.2 ?_; intro v' w3 hg'; obtain ⟨p8, d8, g8, rfl, hs, hf, hc⟩ := hg'.sl; rw [List.nil_append, L8.out] at hs hg' ⊢; obtain ⟨e3, n3, A3'⟩ := bk0 hc A2.out; obtain ⟨k3, m3, B3'⟩ := bk0 hc B2.out; have fz3 := freeOf A3'.out; have A3 := hid (show (w3.setCell ⟨w.heap.size, 8, none⟩ (.slice p8 l8 d8)).heap[w.heap.size]? = some (.cells #[.int .i64 x.kind, .int .i64 x.seq, .string x.name, .int .i64 x.length, .int .i64 x.group, .int .i64 x.row, .slice p6 l6 d6, .slice p7 l7 d7, .slice p8 l8 d8] 67 (0, 0)) from heap_set_lit (cur := #[.int .i64 x.kind, .int .i64 x.seq, .string x.name, .int .i64 x.length, .int .i64 x.group, .int .i64 x.row, .slice p6 l6 d6, .slice p7 l7 d7, .slice a8 l8 c8]) A3'.out rfl); have B3 := hid (keep_set B3'.out ⟨w.heap.size, 8, none⟩ (.slice p8 l8 d8) (by simp)); have G3 := hid ((G2.out.trans0 hc).setCell ⟨w.heap.size, 8, none⟩ (.slice p8 l8 d8) (.inr (by simp))); have N3 := hid (And.intro hs (And.intro hf hc)); have z3 := freeOf B3'.out; clear hs hf hc hg'))
 have hq : ((((((((((w3.setCell ⟨w.heap.size, 8, none⟩ (.slice p8 l8 d8)).setCell ⟨w.heap.size + 1, 0, none⟩ (.int .i64 x.kind)).setCell ⟨w.heap.size + 1, 1, none⟩ (.int .i64 x.seq)).setCell ⟨w.heap.size + 1, 2, none⟩ (.string x.name)).setCell ⟨w.heap.size + 1, 3, none⟩ (.int .i64 x.length)).setCell ⟨w.heap.size + 1, 4, none⟩ (.int .i64 x.group)).setCell ⟨w.heap.size + 1, 5, none⟩ (.int .i64 x.row)).setCell ⟨w.heap.size + 1, 6, none⟩ (.slice p6 l6 d6)).setCell ⟨w.heap.size + 1, 7, none⟩ (.slice p7 l7 d7)).setCell ⟨w.heap.size + 1, 8, none⟩ (.slice p8 l8 d8)).heap[w.heap.size + 1]? = some (.cells #[.int .i64 x.kind, .int .i64 x.seq, .string x.name, .int .i64 x.length, .int .i64 x.group, .int .i64 x.row, .slice p6 l6 d6, .slice p7 l7 d7, .slice p8 l8 d8] 67 (0, 0)) := by
  have h := row9_back (.int .i64 x.kind) (.int .i64 x.seq) (.string x.name) (.int .i64 x.length) (.int .i64 x.group) (.int .i64 x.row) (.slice p6 l6 d6) (.slice p7 l7 d7) (.slice p8 l8 d8) B3.out
  exact h
 have hqc := cellsOf hq
 have D3 : Chg [w.heap.size, w.heap.size + 1] w3 ((((((((((w3.setCell ⟨w.heap.size, 8, none⟩ (.slice p8 l8 d8)).setCell ⟨w.heap.size + 1, 0, none⟩ (.int .i64 x.kind)).setCell ⟨w.heap.size + 1, 1, none⟩ (.int .i64 x.seq)).setCell ⟨w.heap.size + 1, 2, none⟩ (.string x.name)).setCell ⟨w.heap.size + 1, 3, none⟩ (.int .i64 x.length)).setCell ⟨w.heap.size + 1, 4, none⟩ (.int .i64 x.group)).setCell ⟨w.heap.size + 1, 5, none⟩ (.int .i64 x.row)).setCell ⟨w.heap.size + 1, 6, none⟩ (.slice p6 l6 d6)).setCell ⟨w.heap.size + 1, 7, none⟩ (.slice p7 l7 d7)).setCell ⟨w.heap.size + 1, 8, none⟩ (.slice p8 l8 d8)) := by
  iterate 10 refine Chg.setCell ?_ _ _ (.inl (by simp))
  exact Chg.refl _ _
 have D2 : Chg [w.heap.size, w.heap.size + 1] w2 ((((((((((w3.setCell ⟨w.heap.size, 8, none⟩ (.slice p8 l8 d8)).setCell ⟨w.heap.size + 1, 0, none⟩ (.int .i64 x.kind)).setCell ⟨w.heap.size + 1, 1, none⟩ (.int .i64 x.seq)).setCell ⟨w.heap.size + 1, 2, none⟩ (.string x.name)).setCell ⟨w.heap.size + 1, 3, none⟩ (.int .i64 x.length)).setCell ⟨w.heap.size + 1, 4, none⟩ (.int .i64 x.group)).setCell ⟨w.heap.size + 1, 5, none⟩ (.int .i64 x.row)).setCell ⟨w.heap.size + 1, 6, none⟩ (.slice p6 l6 d6)).setCell ⟨w.heap.size + 1, 7, none⟩ (.slice p7 l7 d7)).setCell ⟨w.heap.size + 1, 8, none⟩ (.slice p8 l8 d8)) := (((Chg.refl [w.heap.size, w.heap.size + 1] w2).setCell _ _ (.inl (by simp))).trans0 N3.out.2.2).trans D3 (fun y hy => .inl hy)
 have D1 : Chg [w.heap.size, w.heap.size + 1] w1 ((((((((((w3.setCell ⟨w.heap.size, 8, none⟩ (.slice p8 l8 d8)).setCell ⟨w.heap.size + 1, 0, none⟩ (.int .i64 x.kind)).setCell ⟨w.heap.size + 1, 1, none⟩ (.int .i64 x.seq)).setCell ⟨w.heap.size + 1, 2, none⟩ (.string x.name)).setCell ⟨w.heap.size + 1, 3, none⟩ (.int .i64 x.length)).setCell ⟨w.heap.size + 1, 4, none⟩ (.int .i64 x.group)).setCell ⟨w.heap.size + 1, 5, none⟩ (.int .i64 x.row)).setCell ⟨w.heap.size + 1, 6, none⟩ (.slice p6 l6 d6)).setCell ⟨w.heap.size + 1, 7, none⟩ (.slice p7 l7 d7)).setCell ⟨w.heap.size + 1, 8, none⟩ (.slice p8 l8 d8)) := (((Chg.refl [w.heap.size, w.heap.size + 1] w1).setCell _ _ (.inl (by simp))).trans0 N2.out.2.2).trans D2 (fun y hy => .inl hy)
 have s1 : w.heap.size + 2 ≤ w1.heap.size := Nat.le_trans S0.out N1.out.2.2.size
 have s2 : w1.heap.size ≤ w2.heap.size := by have := N2.out.2.2.size; simpa using this
 have f1 := N1.out.2.1.mono (C := w.heap.size + 2) S0.out
 have f2 := N2.out.2.1.mono (C := w1.heap.size) (by simp)
 have f3 := N3.out.2.1.mono (C := w2.heap.size) (by simp)
 have K6 := intL.sl_chg N1.out.1 D1 (f1.nots _ (by simp))
 have K7 := byteL.sl_chg N2.out.1 D2 (f2.nots _ (by simp; omega))
 have K8 := byteL.sl_chg N3.out.1 D3 (f3.nots _ (by simp; omega))
 have hfr := ((f1.chg D1).append ((f2.chg D2).append (f3.chg D3) f2.lts s2) f1.lts s1).mono (C := w.heap.size) (by omega)
 have hch : Chg [] w ((((((((((w3.setCell ⟨w.heap.size, 8, none⟩ (.slice p8 l8 d8)).setCell ⟨w.heap.size + 1, 0, none⟩ (.int .i64 x.kind)).setCell ⟨w.heap.size + 1, 1, none⟩ (.int .i64 x.seq)).setCell ⟨w.heap.size + 1, 2, none⟩ (.string x.name)).setCell ⟨w.heap.size + 1, 3, none⟩ (.int .i64 x.length)).setCell ⟨w.heap.size + 1, 4, none⟩ (.int .i64 x.group)).setCell ⟨w.heap.size + 1, 5, none⟩ (.int .i64 x.row)).setCell ⟨w.heap.size + 1, 6, none⟩ (.slice p6 l6 d6)).setCell ⟨w.heap.size + 1, 7, none⟩ (.slice p7 l7 d7)).setCell ⟨w.heap.size + 1, 8, none⟩ (.slice p8 l8 d8)) := (G0.out.trans0 N1.out.2.2).trans D1 (fun y hy => .inr (by simp only [List.mem_cons, List.not_mem_nil, or_false] at hy; omega))
 refine bodyPost_ret (v := .agg #[.int .i64 x.kind, .int .i64 x.seq, .string x.name, .int .i64 x.length, .int .i64 x.group, .int .i64 x.row, .slice p6 l6 d6, .slice p7 l7 d7, .slice p8 l8 d8]) (by simp [results, Tryz.results165, go_sem, hqc]) rfl ⟨_, _, rfl, recL_iff.2 ⟨p6, l6, d6, g6, p7, l7, d7, g7, p8, l8, d8, g8, rfl, HO.out.1, HO.out.2.1, HO.out.2.2.1, HO.out.2.2.2.1, HO.out.2.2.2.2.1, HO.out.2.2.2.2.2, K6, K7, K8, by simp⟩, hfr, hch⟩
set_option maxRecDepth 100000 in
set_option maxHeartbeats 2000000 in
theorem l5CopyRecs_any (a : Option Addr) (la ca : Nat) (xs : List Rec) (f : List Nat) (w : World) (ha : recL.sl w a la ca xs f) (hz : totL totRec xs ≤ 1048576) :
  Calls Tryz.prog 91 #[.slice a la ca] w (NewSl recL xs w) := by
 obtain ⟨K, _⟩ := kindRec
 have hlz : la ≤ 1048576 := by have := totL_len totRec_nonneg xs; rw [ha.1]; omega
 have HL := hid ha.1
 have HA := hid ha
 have HZ := hid (fun x hx => Int.le_trans (totL_mem totRec_nonneg hx) hz : ∀ x ∈ xs, totRec x ≤ 1048576)
 clear ha hz
 go_enter Tryz.func91, Tryz.ntmps91
 go_wp2_with fail
 go_loopw [3, 4] (fun vo vi wr => ∃ (k : Nat) (Wr : World), Wr = wr ∧ k ≤ la ∧ vi = .int .i64 k ∧ Grow recL 67 w wr vo (xs.take k)) (fun _ vi _ => la - (intOf vi).toNat)
 case atStart => exact ⟨0, _, rfl, by omega, rfl, by rw [List.take_zero]; exact Grow.made (Chg.refl _ _)⟩
 case round =>
  obtain ⟨k, wr, rfl, hk, rfl, hg⟩ := hrel
  by_cases hlt : k < la
  ·obtain ⟨x, b, off, a6, l6, c6, a7, l7, c7, a8, l8, c8, fq, HX, rfl, hq0, hq1, hq2, hq3, hq4, hq5, hq6, hq7, hq8, HXS⟩ := rec_at (recL.sl_ext HA.out hg.chg) hlt
   have HG := hid hg
   have HXI := hid HX.out.1
   have HXZ := hid (HZ.out x (List.mem_of_getElem? HX.out.1))
   clear hg HX
   go_wp2_with fail
   refine (l5CopyRec_any x #[.int .i64 x.kind, .int .i64 x.seq, .string x.name, .int .i64 x.length, .int .i64 x.group, .int .i64 x.row, .slice a6 l6 c6, .slice a7 l7 c7, .slice a8 l8 c8] fq _ HXS.out HXZ.out).mono ?_
   rintro e w1 ⟨cs, f1, rfl, hr, hf, hc⟩
   obtain ⟨p6, m6, d6, _, p7, m7, d7, _, p8, m8, d8, _, ex, -⟩ := recL_iff.1 hr
   obtain rfl := Array.toList_inj.1 (ex.trans (List.toList_toArray).symm)
   have HN1 := hid (And.intro hr (And.intro hf hc))
   have HLL : Hid ((xs.take k).length + [x].length ≤ maxLen ∧ ((xs.take k).length + [x].length) * 128 ≤ 140737488355328) := by
    refine ⟨?_, ?_⟩ <;> simp only [List.length_take, List.length_cons, List.length_nil, maxLen] <;> omega
   have HNX := hid (take_next HXI.out)
   clear ex hr hf hc hq0 hq1 hq2 hq3 hq4 hq5 hq6 hq7 hq8 HXS
   go_wp2_with (at_builtin; refine recL.wpList_grow rfl _ _ 44 rfl Tryz.underlying44 K rfl HG.out (HN1.out.2.2.alloc (.cells #[.int .i64 x.kind, .int .i64 x.seq, .string x.name, .int .i64 x.length, .int .i64 x.group, .int .i64 x.row, .slice p6 m6 d6, .slice p7 m7 d7, .slice p8 m8 d8] 67)) ⟨w1.heap.size, 0, none⟩ 1 1 [.int .i64 x.kind, .int .i64 x.seq, .string x.name, .int .i64 x.length, .int .i64 x.group, .int .i64 x.row, .slice p6 m6 d6, .slice p7 m7 d7, .slice p8 m8 d8] (ys := [x]) (f := f1) rfl rfl (new_cells w1 #[.int .i64 x.kind, .int .i64 x.seq, .string x.name, .int .i64 x.length, .int .i64 x.group, .int .i64 x.row, .slice p6 m6 d6, .slice p7 m7 d7, .slice p8 m8 d8] 67) (recL.all_single (recL.ext HN1.out.1 ((Chg.refl [] w1).alloc _))) (HN1.out.2.1.chg ((Chg.refl [] w1).alloc (.cells #[.int .i64 x.kind, .int .i64 x.seq, .string x.name, .int .i64 x.length, .int .i64 x.group, .int .i64 x.row, .slice p6 m6 d6, .slice p7 m7 d7, .slice p8 m8 d8] 67))) HLL.out.1 HLL.out.2 ?_; intro v' w' hg'; rw [← HNX.out] at hg'; have HG2 := hid hg'; clear hg')
   go_roundw
   case rel => exact ⟨k + 1, _, rfl, by omega, by go_num, HG2.out⟩
   case measure => simp [intOf]; omega
  ·obtain rfl : k = la := by omega
   rw [List.take_of_length_le (by have := HL.out; omega)] at hg
   obtain ⟨a', c', f', h1, h2, h3, h4⟩ := hg.sl
   subst h1
   have HN := hid (show NewSl recL xs w (.returned (.slice a' xs.length c')) wr from ⟨a', c', f', rfl, h2, h3, h4⟩)
   generalize xs.length = n at HN ⊢
   clear h2 h3 h4 hg
   go_wp2_with fail
   go_ret
   exact HN.out
end Go.Proofs.YtphmpimgbmedbaaGreat
