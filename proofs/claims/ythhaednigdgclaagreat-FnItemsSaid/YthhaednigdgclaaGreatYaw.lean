/- Several texts in one. -/
import Derived.Test.YthhaednigdgclaaGreatYal
import Derived.Test.YthhaednigdgclaaGreatYae
import Derived.Test.YthhaednigdgclaaGreatRows
import Derived.Test.YthhaednigdgclaaGreatYac
import Derived.Test.YthhaednigdgclaaGreatYav
import Derived.Test.YthhaednigdgclaaGreatYaj
open Go.Value renaming int → I, slice → Aa, string → Ab, bool → Ac
open Go.IntKind renaming i64 → J
open Go.Obj renaming cells → Ad
open List renaming mem_of_getElem? → A9, getElem?_eq_some_iff → AB, getElem?_eq_getElem → AC, any_eq_false → AD, length_nil → AE, getElem_of_mem → AG, nil_append → AJ, take_of_length_le → AK, mem_singleton → AL, any_eq_true → AO, mem_append → AP
open And renaming intro → AA
open Go.Act renaming put → AH
set_option maxRecDepth 100000
set_option maxHeartbeats 8000000
namespace Go.Proofs.YthhaednigdgclaaGreat
open Go.RowKit
open Go.Lib (hid)
def sgn (x y : Int) : Int := if x < y then -1 else if y < x then 1 else 0
theorem isNaN_any (x : Int) (w : World) : Calls Tryz.prog 118 #[I J x] w fun e w' => e = .returned (Ac false) ∧ w = w' := by
 have h : ((x : Int) != x) = false := by simp
 go_enter Tryz.func118, Tryz.ntmps118;go_wp2;go_ret;exact ⟨rfl, rfl⟩
theorem q6r (x y : Int) (w : World) : Calls Tryz.prog 98 #[I J x, I J y] w fun e w' => e = .returned (I J (sgn x y)) ∧ w = w' := by
 have N1 := hid (isNaN_any x w); have N2 := hid (isNaN_any y w);by_cases h1 : x < y
 ·have HR := hid (show sgn x y = -1 from if_pos h1);go_enter Tryz.func98, Tryz.ntmps98;go_wp2_with fail;refine N1.o.mono ?_; rintro e w' ⟨rfl, rfl⟩;go_wp2_with fail;refine N2.o.mono ?_; rintro e w' ⟨rfl, rfl⟩;go_wp2_with fail;go_ret;exact ⟨q0i HR.o.symm, rfl⟩
 ·by_cases h2 : y < x
  ·have HR := hid (show sgn x y = 1 by unfold sgn; rw [if_neg h1, if_pos h2]);go_enter Tryz.func98, Tryz.ntmps98;go_wp2_with fail;refine N1.o.mono ?_; rintro e w' ⟨rfl, rfl⟩;go_wp2_with fail;refine N2.o.mono ?_; rintro e w' ⟨rfl, rfl⟩;go_wp2_with fail;go_ret;exact ⟨q0i HR.o.symm, rfl⟩
  ·have HR := hid (show sgn x y = 0 by unfold sgn; rw [if_neg h1, if_neg h2]);go_enter Tryz.func98, Tryz.ntmps98;go_wp2_with fail;refine N1.o.mono ?_; rintro e w' ⟨rfl, rfl⟩;go_wp2_with fail;refine N2.o.mono ?_; rintro e w' ⟨rfl, rfl⟩;go_wp2_with fail;go_ret;exact ⟨q0i HR.o.symm, rfl⟩
def orL : List Int → Int
 | [] => 0
 | x :: xs => if x ≠ 0 then x else orL xs
theorem z1d : ∀ {xs : List Int} {k : Nat}, (∀ y ∈ xs.take k, y = 0) → orL xs = orL (xs.drop k)
 | _, 0, _ => rfl
 | [], k + 1, _ => rfl
 | x :: xs, k + 1, h => by
  have hx : x = 0 := h x (by simp);show (if x ≠ 0 then x else orL xs) = orL (xs.drop k);rw [if_neg (by simp [hx]), z1d (k := k) (fun y hy => h y (by rw [List.take_succ_cons]; exact List.mem_cons_of_mem _ hy))]
theorem or_any (a : Option Addr) (l c : Nat) (xs : List Int) (f : List Nat) (w : World) (ha : intL.sl w a l c xs f) : Calls Tryz.prog 97 #[Aa a l c] w fun e w' => e = .returned (I J (orL xs)) ∧ w = w' := by
 have hm := intL.sl_max ha;have HL := hid ha.1;have HA := hid ha;clear ha;go_enter Tryz.func97, Tryz.ntmps97;go_wp2_with fail;go_loop [8] (fun i => ∃ k : Nat, k ≤ l ∧ i = I J k ∧ Hid (∀ y ∈ xs.take k, y = 0)) (fun i => l - (intOf i).toNat)
 case atStart => exact ⟨0, by omega, rfl, by intro y hy; simp at hy⟩
 case round =>
  obtain ⟨k, hk, rfl, HK⟩ := hrel;by_cases hlt : k < l
  ·obtain ⟨y, b, off, HX, rfl, hcx, hok⟩ := q2n HA.o hlt;by_cases h : y = 0
   ·have hne : (y != 0) = false := by simp [h]
    have HN := hid (show ∀ z ∈ xs.take (k + 1), z = 0 by
     intro z hz;rw [q1e HX.o.1] at hz;rcases AP.1 hz with h1 | h1
     ·exact HK.o z h1
     ·rw [AL] at h1; rw [h1]; exact h)
    clear h;go_wp2_with fail;go_round
    case rel => exact ⟨k + 1, by omega, by go_num, HN⟩
    case measure => simp [intOf]; omega
   ·have hne : (y != 0) = true := by simp [h]
    have HR := hid (show orL xs = y by
     rw [z1d HK.o, List.drop_eq_getElem_cons (AB.1 HX.o.1).1];show (if xs[k] ≠ 0 then xs[k] else _) = y;rw [(AB.1 HX.o.1).2, if_pos h])
    clear h;go_wp2_with fail;go_ret;exact ⟨q0i HR.o.symm, rfl⟩
  ·have HR := hid (show orL xs = 0 by rw [z1d HK.o, List.drop_eq_nil_of_le (by have := HL.o; omega)]; rfl);go_wp2_with fail;go_ret;exact ⟨q0i HR.o.symm, rfl⟩
theorem or3_lt (x y : Rec) : decide (orL [sgn x.seq y.seq, sgn x.kD y.kD, sgn x.gP y.gP] < 0) = q1z x y := by
 unfold q1z;apply decide_eq_decide.2;have h : ∀ a b : Int, (sgn a b < 0 ↔ a < b) ∧ (sgn a b = 0 ↔ a = b) := fun a b => by
  unfold sgn;by_cases q : a < b
  ·rw [if_pos q]; omega
  ·rw [if_neg q];by_cases q2 : b < a
   ·rw [if_pos q2]; omega
   ·rw [if_neg q2]; omega
 show (if sgn x.seq y.seq ≠ 0 then sgn x.seq y.seq else if sgn x.kD y.kD ≠ 0 then sgn x.kD y.kD else if sgn x.gP y.gP ≠ 0 then sgn x.gP y.gP else 0) < 0 ↔ _;have h1 := h x.seq y.seq; have h2 := h x.kD y.kD; have h3 := h x.gP y.gP
 split
 ·omega
 ·split
  ·omega
  ·split <;> omega
theorem sgn_ok (x y : Int) : q0s (sgn x y) := by
 unfold sgn;by_cases q : x < y
 ·rw [if_pos q]; constructor <;> omega
 ·rw [if_neg q];by_cases q2 : y < x
  ·rw [if_pos q2]; constructor <;> omega
  ·rw [if_neg q2]; constructor <;> omega
theorem int3_sl (w : World) (E : TypeId) (x y z : Int) (hx : q0s x) (hy : q0s y) (hz : q0s z) (bn : Nat) (hbn : bn = w.heap.size) : intL.sl (w.alloc (.cells #[I J x, I J y, I J z] E)) (some ⟨bn, 0, none⟩) 3 3 [x, y, z] [bn] := by
 subst hbn;exact
 ⟨rfl, Nat.le_refl _, by simp [maxLen], (fun h => by cases h), .inr ⟨w.heap.size, 0, _, E, (0, 0), [], rfl, q0k w _, intL.all_append (xs := [x]) (ys := [y, z]) (c1 := [I J x]) (f1 := []) (f2 := []) (z1m hx) (intL.all_append (xs := [y]) (ys := [z]) (c1 := [I J y]) (f1 := []) (f2 := []) (z1m hy) (z1m hz)), rfl⟩⟩
theorem cmp_ok : CmpOK := by
 intro w cx cy x y fx fy hx hy;obtain ⟨a6, l6, c6, f6, a7, l7, c7, f7, a8, l8, c8, f8, rfl, -⟩ := q0m.1 hx;obtain ⟨b6, m6, d6, g6, b7, m7, d7, g7, b8, m8, d8, g8, rfl, -⟩ := q0m.1 hy;have HOR := hid (or3_lt x y);have HS1 := hid (sgn_ok x.seq y.seq); have HS2 := hid (sgn_ok x.kD y.kD); have HS3 := hid (sgn_ok x.gP y.gP);have C1 := hid (q6r x.seq y.seq); have C2 := hid (q6r x.kD y.kD); have C3 := hid (q6r x.gP y.gP);clear hx hy;have G0 := hid ((((Chg.refl [] w).alloc (.cells #[I J x.kD, I J x.seq, Ab x.nM, I J x.length, I J x.gP, I J x.row, Aa a6 l6 c6, Aa a7 l7 c7, Aa a8 l8 c8] 38)).alloc (.cells #[I J y.kD, I J y.seq, Ab y.nM, I J y.length, I J y.gP, I J y.row, Aa b6 m6 d6, Aa b7 m7 d7, Aa b8 m8 d8] 38)).drew);have B0 := hid (q0a (q0b (q0k w (.cells #[I J x.kD, I J x.seq, Ab x.nM, I J x.length, I J x.gP, I J x.row, Aa a6 l6 c6, Aa a7 l7 c7, Aa a8 l8 c8] 38)) (.cells #[I J y.kD, I J y.seq, Ab y.nM, I J y.length, I J y.gP, I J y.row, Aa b6 m6 d6, Aa b7 m7 d7, Aa b8 m8 d8] 38)));have B1 := hid (show ((w.alloc (.cells #[I J x.kD, I J x.seq, Ab x.nM, I J x.length, I J x.gP, I J x.row, Aa a6 l6 c6, Aa a7 l7 c7, Aa a8 l8 c8] 38)).alloc (.cells #[I J y.kD, I J y.seq, Ab y.nM, I J y.length, I J y.gP, I J y.row, Aa b6 m6 d6, Aa b7 m7 d7, Aa b8 m8 d8] 38)).drew.heap[w.heap.size + 1]? = some (.cells #[I J y.kD, I J y.seq, Ab y.nM, I J y.length, I J y.gP, I J y.row, Aa b6 m6 d6, Aa b7 m7 d7, Aa b8 m8 d8] 38 (0, 0)) from q0a (q0c (by simp) _));go_enter Tryz.func96, Tryz.ntmps96;go_wp2_with fail;obtain ⟨SS1, Aj, Ai⟩ := q0f (fun w' => Know w.heap.size #[I J x.kD, I J x.seq, Ab x.nM, I J x.length, I J x.gP, I J x.row, Aa a6 l6 c6, Aa a7 l7 c7, Aa a8 l8 c8] w' ∧ Know (w.heap.size + 1) #[I J y.kD, I J y.seq, Ab y.nM, I J y.length, I J y.gP, I J y.row, Aa b6 m6 d6, Aa b7 m7 d7, Aa b8 m8 d8] w');have Ae := Aj.o _ ⟨(Know.of B0.o), (Know.of B1.o)⟩;refine q0g SS1 (by kernel_rfl) Ae ?_;refine rgT 0 Ae ?_;refine rgL 1 Ae Ai ?_;refine rgT 2 Ae ?_;refine rgL 3 Ae Ai ?_;refine rgT 5 Ae ?_;refine rgL 6 Ae Ai ?_;refine rgT 7 Ae ?_;refine rgL 8 Ae Ai ?_;refine rgT 10 Ae ?_;refine rgL 11 Ae Ai ?_;refine rgT 12 Ae ?_;refine rgL 13 Ae Ai ?_;refine rgq 4 (fun K hK => ?_);go_simp;go_at_call 98;refine (C1.o _).mono ?_; rintro e w' ⟨rfl, rfl⟩;go_wp2_with fail;refine hK.out _ _ (Aj.o _ ⟨(Know.of B0.o), (Know.of B1.o)⟩) (fun hS1 => ?_);clear hK K;try simp only [AH, pA, pB, pC]
 refine rgq 9 (fun K hK => ?_);go_simp;go_at_call 98;refine (C2.o _).mono ?_; rintro e w' ⟨rfl, rfl⟩;go_wp2_with fail;refine hK.out _ _ (Aj.o _ ⟨(Know.of B0.o), (Know.of B1.o)⟩) (fun hS2 => ?_);clear hK K;try simp only [AH, pA, pB, pC]
 refine rgq 14 (fun K hK => ?_);go_simp;go_at_call 98;refine (C3.o _).mono ?_; rintro e w' ⟨rfl, rfl⟩;go_wp2_with fail;refine hK.out _ _ (Aj.o _ ⟨(Know.of B0.o), (Know.of B1.o)⟩) (fun hS3 => ?_);clear hK K;try simp only [AH, pA, pB, pC]
 refine rgq 15 (fun K hK => ?_);go_simp;have H3 := hid (int3_sl ((w.alloc (.cells #[I J x.kD, I J x.seq, Ab x.nM, I J x.length, I J x.gP, I J x.row, Aa a6 l6 c6, Aa a7 l7 c7, Aa a8 l8 c8] 38)).alloc (.cells #[I J y.kD, I J y.seq, Ab y.nM, I J y.length, I J y.gP, I J y.row, Aa b6 m6 d6, Aa b7 m7 d7, Aa b8 m8 d8] 38)).drew 3 _ _ _ HS1.o HS2.o HS3.o (w.heap.size + 1 + 1) (by simp [World.drew])); have HC3 := hid (G0.o.alloc (.cells #[I J (sgn x.seq y.seq), I J (sgn x.kD y.kD), I J (sgn x.gP y.gP)] 3));go_wp2_with fail;refine hK.out _ _ (Aj.o _ ⟨(Know.of (q0b B0.o _)), (Know.of (q0b B1.o _))⟩) (fun hS4 => ?_);clear hK K;try simp only [AH, pA, pB, pC]
 refine rgq 16 (fun K hK => ?_);go_simp;go_at_call 97;refine (or_any _ _ _ _ _ _ H3.o).mono ?_; rintro e w' ⟨rfl, rfl⟩;go_wp2_with fail;refine hK.out _ _ (Aj.o _ ⟨(Know.of (q0b B0.o _)), (Know.of (q0b B1.o _))⟩) (fun hS5 => ?_);clear hK K;try simp only [AH, pA, pB, pC]
 refine rgT 17 hS5 ?_;refine wDn ?_;go_wp2_with fail;go_ret;exact ⟨_, rfl, HOR.o, HC3.o⟩
def q8o {α : Type} (q : α → Bool) (xs : List α) (r : Int) : Prop := (r = -1 ∧ xs.any q = false) ∨ ∃ j : Nat, r = j ∧ (∃ x, xs[j]? = some x ∧ q x = true) ∧ ∀ (i : Nat) x, i < j → xs[i]? = some x → q x = false
theorem q8o.ge {α : Type} {q : α → Bool} {xs : List α} {r : Int} (h : q8o q xs r) : decide (0 ≤ r) = xs.any q := by
 rcases h with ⟨rfl, h⟩ | ⟨j, rfl, ⟨x, hx, hq⟩, _⟩
 ·rw [h]; rfl
 ·rw [AO.2 ⟨x, A9 hx, hq⟩]; exact decide_eq_true (Int.natCast_nonneg j)
def q8c (k : Nat) (caps : Array Value) (q : Blk → Bool) (xs : List Blk) (w : World) : Prop :=
 ∀ (x : Blk) (a1 : Option Addr) (l1 c1 : Nat) (f : List Nat) (w1 : World), x ∈ xs → Chg [] w w1 → blkL.rep w1 [I J x.sM, Aa a1 l1 c1] x f → Calls Tryz.prog k (#[.agg #[I J x.sM, Aa a1 l1 c1]] ++ caps) w1 fun e w' => e = .returned (Ac (q x)) ∧ Chg [] w1 w'
theorem idxBlock_any (k : Nat) (caps : Array Value) (q : Blk → Bool) (a : Option Addr) (la ca : Nat) (xs : List Blk) (f : List Nat) (w : World) (ha : blkL.sl w a la ca xs f) (Ak : ∀ (args : Array Value) (w : World), (callFunc k args).run Tryz.prog w = .ok (.enter k args) w) (hq : q8c k caps q xs w) :
  Calls Tryz.prog 107 #[Aa a la ca, .func (.func k) #[] caps] w fun e w' => ∃ r : Int, e = .returned (I J r) ∧ Hid (q8o q xs r) ∧ Chg [] w w' := by
 have Aw := blkL.sl_max ha;have HA := hid ha;have HL := hid ha.1;have HQ := hid hq;clear ha hq;go_enter Tryz.func107, Tryz.ntmps107;go_wp2;go_loopw [5, 8] (fun _ i wr => ∃ (j : Nat) (Wr : World), Wr = wr ∧ j ≤ la ∧ i = I J j ∧ Hid (∀ (i : Nat) x, i < j → xs[i]? = some x → q x = false) ∧ Chg [] w wr) (fun _ i _ => la - (intOf i).toNat)
 case atStart => exact ⟨0, _, rfl, by omega, rfl, fun j x hj => by omega, Chg.refl _ _⟩
 case round =>
  obtain ⟨j, wr, rfl, hj, rfl, HK, hc⟩ := hrel;have HC := hid hc;by_cases hlt : j < la
  ·obtain ⟨x, b, off, a1, l1, c1, fx, HX, rfl, hc0, hc1, Al⟩ := z1y (blkL.sl_ext HA.o hc) hlt;have HT := hid (HQ.o x a1 l1 c1 fx wr (A9 HX.o.1) HC.o Al.o);clear hc;cases Af : q x
   ·rw [Af] at HT;have Ar := hid (show ∀ (i : Nat) y, i < j + 1 → xs[i]? = some y → q y = false from fun i y hi hy => by
     by_cases e : i = j
     ·subst e; rw [Option.some.inj (hy.symm.trans HX.o.1)]; exact Af
     ·exact HK.o i y (by omega) hy)
    clear Af;go_wp2_with fail;refine HT.o.mono ?_;rintro e w1 ⟨rfl, hc1⟩;have Ag := hid (HC.o.trans0 hc1);clear hc1;go_wp2_with fail;go_roundw
    case rel => exact ⟨j + 1, _, rfl, by omega, by go_num, Ar, Ag.o⟩
    case measure => simp [intOf]; omega
   ·rw [Af] at HT;have HR := hid (show q8o q xs (j : Int) from .inr ⟨j, rfl, ⟨x, HX.o.1, Af⟩, HK.o⟩);clear Af;go_wp2_with fail;refine HT.o.mono ?_;rintro e w1 ⟨rfl, hc1⟩;have Ag := hid (HC.o.trans0 hc1);clear hc1;go_wp2_with fail;go_ret;exact ⟨_, rfl, HR, Ag.o⟩
  ·obtain rfl : j = la := by omega
   have HR := hid (show q8o q xs (-1) from .inl ⟨rfl, by
    rw [AD];intro x hx h1;obtain ⟨i, hi, rfl⟩ := AG hx;have h2 := HK.o i _ (by have := HL.o; omega) (AC hi);rw [h2] at h1; cases h1⟩)
   clear hc;go_wp2;go_ret;exact ⟨_, rfl, HR, HC.o⟩
theorem q7o (k : Nat) (caps : Array Value) (q : Blk → Bool) (a : Option Addr) (la ca : Nat) (xs : List Blk) (f : List Nat) (w : World) (ha : blkL.sl w a la ca xs f) (Ak : ∀ (args : Array Value) (w : World), (callFunc k args).run Tryz.prog w = .ok (.enter k args) w) (hq : q8c k caps q xs w) :
  Calls Tryz.prog 84 #[Aa a la ca, .func (.func k) #[] caps] w fun e w' => e = .returned (Ac (xs.any q)) ∧ Chg [] w w' := by
 have HI := hid (idxBlock_any k caps q a la ca xs f w ha Ak hq);clear ha hq Ak;go_enter Tryz.func84, Tryz.ntmps84;go_wp2_with fail;refine HI.o.mono ?_;rintro e w1 ⟨r, rfl, HR, hc1⟩;have Ag := hid hc1;have HD := hid HR.o.ge;clear hc1;go_wp2_with fail;go_ret;refine ⟨?_, Ag.o⟩;rw [← HD.o]
 rfl
def q7q (k : Nat) (caps : Array Value) (q : Tap → Bool) (xs : List Tap) (w : World) : Prop :=
 ∀ (x : Tap) (a1 : Option Addr) (l1 c1 : Nat) (f : List Nat) (w1 : World), x ∈ xs → Chg [] w w1 → tapL.rep w1 [Ac x.wD, Aa a1 l1 c1] x f → Calls Tryz.prog k (#[.agg #[Ac x.wD, Aa a1 l1 c1]] ++ caps) w1 fun e w' => e = .returned (Ac (q x)) ∧ Chg [] w1 w'
theorem idxTape_any (k : Nat) (caps : Array Value) (q : Tap → Bool) (a : Option Addr) (la ca : Nat) (xs : List Tap) (f : List Nat) (w : World) (ha : tapL.sl w a la ca xs f) (Ak : ∀ (args : Array Value) (w : World), (callFunc k args).run Tryz.prog w = .ok (.enter k args) w) (hq : q7q k caps q xs w) :
  Calls Tryz.prog 109 #[Aa a la ca, .func (.func k) #[] caps] w fun e w' => ∃ r : Int, e = .returned (I J r) ∧ Hid (q8o q xs r) ∧ Chg [] w w' := by
 have Aw := tapL.sl_max ha;have HA := hid ha;have HL := hid ha.1;have HQ := hid hq;clear ha hq;go_enter Tryz.func109, Tryz.ntmps109;go_wp2;go_loopw [5, 8] (fun _ i wr => ∃ (j : Nat) (Wr : World), Wr = wr ∧ j ≤ la ∧ i = I J j ∧ Hid (∀ (i : Nat) x, i < j → xs[i]? = some x → q x = false) ∧ Chg [] w wr) (fun _ i _ => la - (intOf i).toNat)
 case atStart => exact ⟨0, _, rfl, by omega, rfl, fun j x hj => by omega, Chg.refl _ _⟩
 case round =>
  obtain ⟨j, wr, rfl, hj, rfl, HK, hc⟩ := hrel;have HC := hid hc;by_cases hlt : j < la
  ·obtain ⟨x, b, off, a1, l1, c1, fx, HX, rfl, hc0, hc1, Al⟩ := q3b (tapL.sl_ext HA.o hc) hlt;have HT := hid (HQ.o x a1 l1 c1 fx wr (A9 HX.o.1) HC.o Al.o);clear hc;cases Af : q x
   ·rw [Af] at HT;have Ar := hid (show ∀ (i : Nat) y, i < j + 1 → xs[i]? = some y → q y = false from fun i y hi hy => by
     by_cases e : i = j
     ·subst e; rw [Option.some.inj (hy.symm.trans HX.o.1)]; exact Af
     ·exact HK.o i y (by omega) hy)
    clear Af;go_wp2_with fail;refine HT.o.mono ?_;rintro e w1 ⟨rfl, hc1⟩;have Ag := hid (HC.o.trans0 hc1);clear hc1;go_wp2_with fail;go_roundw
    case rel => exact ⟨j + 1, _, rfl, by omega, by go_num, Ar, Ag.o⟩
    case measure => simp [intOf]; omega
   ·rw [Af] at HT;have HR := hid (show q8o q xs (j : Int) from .inr ⟨j, rfl, ⟨x, HX.o.1, Af⟩, HK.o⟩);clear Af;go_wp2_with fail;refine HT.o.mono ?_;rintro e w1 ⟨rfl, hc1⟩;have Ag := hid (HC.o.trans0 hc1);clear hc1;go_wp2_with fail;go_ret;exact ⟨_, rfl, HR, Ag.o⟩
  ·obtain rfl : j = la := by omega
   have HR := hid (show q8o q xs (-1) from .inl ⟨rfl, by
    rw [AD];intro x hx h1;obtain ⟨i, hi, rfl⟩ := AG hx;have h2 := HK.o i _ (by have := HL.o; omega) (AC hi);rw [h2] at h1; cases h1⟩)
   clear hc;go_wp2;go_ret;exact ⟨_, rfl, HR, HC.o⟩
theorem q4n (k : Nat) (caps : Array Value) (q : Tap → Bool) (a : Option Addr) (la ca : Nat) (xs : List Tap) (f : List Nat) (w : World) (ha : tapL.sl w a la ca xs f) (Ak : ∀ (args : Array Value) (w : World), (callFunc k args).run Tryz.prog w = .ok (.enter k args) w) (hq : q7q k caps q xs w) :
  Calls Tryz.prog 90 #[Aa a la ca, .func (.func k) #[] caps] w fun e w' => e = .returned (Ac (xs.any q)) ∧ Chg [] w w' := by
 have HI := hid (idxTape_any k caps q a la ca xs f w ha Ak hq);clear ha hq Ak;go_enter Tryz.func90, Tryz.ntmps90;go_wp2_with fail;refine HI.o.mono ?_;rintro e w1 ⟨r, rfl, HR, hc1⟩;have Ag := hid hc1;have HD := hid HR.o.ge;clear hc1;go_wp2_with fail;go_ret;refine ⟨?_, Ag.o⟩;rw [← HD.o]
 rfl
def TestsRec (k : Nat) (caps : Array Value) (q : Rec → Bool) (xs : List Rec) (w : World) : Prop :=
 ∀ (x : Rec) (a6 : Option Addr) (l6 c6 : Nat) (a7 : Option Addr) (l7 c7 : Nat) (a8 : Option Addr) (l8 c8 : Nat) (f : List Nat) (w1 : World), x ∈ xs → Chg [] w w1 → recL.rep w1 [I J x.kD, I J x.seq, Ab x.nM, I J x.length, I J x.gP, I J x.row, Aa a6 l6 c6, Aa a7 l7 c7, Aa a8 l8 c8] x f → Calls Tryz.prog k (#[.agg #[I J x.kD, I J x.seq, Ab x.nM, I J x.length, I J x.gP, I J x.row, Aa a6 l6 c6, Aa a7 l7 c7, Aa a8 l8 c8]] ++ caps) w1 fun e w' => e = .returned (Ac (q x)) ∧ Chg [] w1 w'
theorem z0q (k : Nat) (caps : Array Value) (q : Rec → Bool) (a : Option Addr) (la ca : Nat) (xs : List Rec) (f : List Nat) (w : World) (ha : recL.sl w a la ca xs f) (Ak : ∀ (args : Array Value) (w : World), (callFunc k args).run Tryz.prog w = .ok (.enter k args) w) (hq : TestsRec k caps q xs w) :
  Calls Tryz.prog 60 #[Aa a la ca, .func (.func k) #[] caps] w fun e w' => ∃ r : Int, e = .returned (I J r) ∧ Hid (q8o q xs r) ∧ Chg [] w w' := by
 have Aw := recL.sl_max ha;have HA := hid ha;have HL := hid ha.1;have HQ := hid hq;clear ha hq;go_enter Tryz.func60, Tryz.ntmps60;go_wp2;go_loopw [5, 8] (fun _ i wr => ∃ (j : Nat) (Wr : World), Wr = wr ∧ j ≤ la ∧ i = I J j ∧ Hid (∀ (i : Nat) x, i < j → xs[i]? = some x → q x = false) ∧ Chg [] w wr) (fun _ i _ => la - (intOf i).toNat)
 case atStart => exact ⟨0, _, rfl, by omega, rfl, fun j x hj => by omega, Chg.refl _ _⟩
 case round =>
  obtain ⟨j, wr, rfl, hj, rfl, HK, hc⟩ := hrel;have HC := hid hc;by_cases hlt : j < la
  ·obtain ⟨x, b, off, a6, l6, c6, a7, l7, c7, a8, l8, c8, fx, HX, rfl, hc0, hc1, hc2, hc3, hc4, hc5, hc6, hc7, hc8, Al⟩ := q6m (recL.sl_ext HA.o hc) hlt;have HT := hid (HQ.o x a6 l6 c6 a7 l7 c7 a8 l8 c8 fx wr (A9 HX.o.1) HC.o Al.o);clear hc;cases Af : q x
   ·rw [Af] at HT;have Ar := hid (show ∀ (i : Nat) y, i < j + 1 → xs[i]? = some y → q y = false from fun i y hi hy => by
     by_cases e : i = j
     ·subst e; rw [Option.some.inj (hy.symm.trans HX.o.1)]; exact Af
     ·exact HK.o i y (by omega) hy)
    clear Af;go_wp2_with fail;refine HT.o.mono ?_;rintro e w1 ⟨rfl, hc1⟩;have Ag := hid (HC.o.trans0 hc1);clear hc1;go_wp2_with fail;go_roundw
    case rel => exact ⟨j + 1, _, rfl, by omega, by go_num, Ar, Ag.o⟩
    case measure => simp [intOf]; omega
   ·rw [Af] at HT;have HR := hid (show q8o q xs (j : Int) from .inr ⟨j, rfl, ⟨x, HX.o.1, Af⟩, HK.o⟩);clear Af;go_wp2_with fail;refine HT.o.mono ?_;rintro e w1 ⟨rfl, hc1⟩;have Ag := hid (HC.o.trans0 hc1);clear hc1;go_wp2_with fail;go_ret;exact ⟨_, rfl, HR, Ag.o⟩
  ·obtain rfl : j = la := by omega
   have HR := hid (show q8o q xs (-1) from .inl ⟨rfl, by
    rw [AD];intro x hx h1;obtain ⟨i, hi, rfl⟩ := AG hx;have h2 := HK.o i _ (by have := HL.o; omega) (AC hi);rw [h2] at h1; cases h1⟩)
   clear hc;go_wp2;go_ret;exact ⟨_, rfl, HR, HC.o⟩
theorem contRec_any (k : Nat) (caps : Array Value) (q : Rec → Bool) (a : Option Addr) (la ca : Nat) (xs : List Rec) (f : List Nat) (w : World) (ha : recL.sl w a la ca xs f) (Ak : ∀ (args : Array Value) (w : World), (callFunc k args).run Tryz.prog w = .ok (.enter k args) w) (hq : TestsRec k caps q xs w) :
  Calls Tryz.prog 115 #[Aa a la ca, .func (.func k) #[] caps] w fun e w' => e = .returned (Ac (xs.any q)) ∧ Chg [] w w' := by
 have HI := hid (z0q k caps q a la ca xs f w ha Ak hq);clear ha hq Ak;go_enter Tryz.func115, Tryz.ntmps115;go_wp2_with fail;refine HI.o.mono ?_;rintro e w1 ⟨r, rfl, HR, hc1⟩;have Ag := hid hc1;have HD := hid HR.o.ge;clear hc1;go_wp2_with fail;go_ret;refine ⟨?_, Ag.o⟩;rw [← HD.o]
 rfl
theorem q4w {w : World} {a : Option Addr} {len cap : Nat} {xs : List Rec} {fp : List Nat} (h : recL.sl w a len cap xs fp) {i : Nat} (hi : i < len) :
  ∃ (x : Rec) (b off : Nat) (c : List Value) (f : List Nat), Hid (xs[i]? = some x ∧ b ∈ fp ∧ (∀ y ∈ f, y ∈ fp)) ∧ a = some ⟨b, off, none⟩ ∧ Hid (q1j w b (off + i * 9) 9 c) ∧ Hid (recL.rep w c x f) := by
 obtain ⟨x, b, off, c, f, hx, ha, hb, hc, hr, hf⟩ := recL.sl_at h hi;refine ⟨x, b, off, c, f, ⟨hx, hb, hf⟩, ha, ⟨recL.len hr, fun j v hv => ?_, Lay.all_one (L := recL) (recL.all_single hr)⟩, hr⟩;have := hc j (by have := (AB.1 hv).1; have := recL.len hr; omega);rw [← hv]; exact this
theorem l6Ahead_any (x y : Rec) (cx cy : Array Value) (fx fy : List Nat) (w : World) (hx : recL.rep w cx.toList x fx) (hy : recL.rep w cy.toList y fy) :
  Calls Tryz.prog 70 #[.agg cx, .agg cy] w fun e w' => e = .returned (Ac (q1z x y)) ∧ Chg [] w w' := by
 obtain ⟨a6, l6, c6, f6, a7, l7, c7, f7, a8, l8, c8, f8, ex, -⟩ := q0m.1 hx;obtain rfl := (tLi ex);obtain ⟨b6, m6, d6, g6, b7, m7, d7, g7, b8, m8, d8, g8, ey, -⟩ := q0m.1 hy;obtain rfl := (tLi ey);have G0 := hid (((Chg.refl [] w).alloc (.cells #[I J x.kD, I J x.seq, Ab x.nM, I J x.length, I J x.gP, I J x.row, Aa a6 l6 c6, Aa a7 l7 c7, Aa a8 l8 c8] 38)).alloc (.cells #[I J y.kD, I J y.seq, Ab y.nM, I J y.length, I J y.gP, I J y.row, Aa b6 m6 d6, Aa b7 m7 d7, Aa b8 m8 d8] 38));obtain ⟨v, hv⟩ : ∃ v, v = q1z x y := ⟨_, rfl⟩;have HV := hid hv;rw [← hv];clear hx hy ex ey hv;by_cases h1 : x.seq = y.seq
 ·have hb1 : (x.seq != y.seq) = false := by simp [h1]
  by_cases h2 : x.kD = y.kD
  ·have hb2 : (x.kD != y.kD) = false := by simp [h2]
   have HR := hid (show v = decide (x.gP < y.gP) by rw [HV.o]; unfold q1z; apply decide_eq_decide.2; omega);clear h1 h2;go_enter Tryz.func70, Tryz.ntmps70;go_wp2_with fail;go_ret;exact ⟨by rw [HR.o]; rfl, G0.o⟩
  ·have hb2 : (x.kD != y.kD) = true := by simp [h2]
   have HR := hid (show v = decide (x.kD < y.kD) by rw [HV.o]; unfold q1z; apply decide_eq_decide.2; omega);clear h1 h2;go_enter Tryz.func70, Tryz.ntmps70;go_wp2_with fail;go_ret;exact ⟨by rw [HR.o]; rfl, G0.o⟩
 ·have hb1 : (x.seq != y.seq) = true := by simp [h1]
  have HR := hid (show v = decide (x.seq < y.seq) by rw [HV.o]; unfold q1z; apply decide_eq_decide.2; omega);clear h1;go_enter Tryz.func70, Tryz.ntmps70;go_wp2_with fail;go_ret;exact ⟨by rw [HR.o]; rfl, G0.o⟩
theorem has1_any (x r : Rec) (B : Nat) {a6 a7 a8 b6 b7 b8 : Option Addr} {l6 c6 l7 c7 l8 c8 m6 d6 m7 d7 m8 d8 : Nat} (fx fr : List Nat) (E : TypeId) (w : World) (hB : w.heap[B]? = some (.cells #[I J r.kD, I J r.seq, Ab r.nM, I J r.length, I J r.gP, I J r.row, Aa b6 m6 d6, Aa b7 m7 d7, Aa b8 m8 d8] E (0, 0))) (hx : recL.rep w (#[I J x.kD, I J x.seq, Ab x.nM, I J x.length, I J x.gP, I J x.row, Aa a6 l6 c6, Aa a7 l7 c7, Aa a8 l8 c8] : Array Value).toList x fx) (hr : recL.rep w (#[I J r.kD, I J r.seq, Ab r.nM, I J r.length, I J r.gP, I J r.row, Aa b6 m6 d6, Aa b7 m7 d7, Aa b8 m8 d8] : Array Value).toList r fr) :
  Calls Tryz.prog 116 #[.agg #[I J x.kD, I J x.seq, Ab x.nM, I J x.length, I J x.gP, I J x.row, Aa a6 l6 c6, Aa a7 l7 c7, Aa a8 l8 c8], .pointer (some ⟨B, 0, none⟩)] w fun e w' => e = .returned (Ac (q2c x r)) ∧ Chg [] w w' := by
 have hS := q5o x r #[I J x.kD, I J x.seq, Ab x.nM, I J x.length, I J x.gP, I J x.row, Aa a6 l6 c6, Aa a7 l7 c7, Aa a8 l8 c8] #[I J r.kD, I J r.seq, Ab r.nM, I J r.length, I J r.gP, I J r.row, Aa b6 m6 d6, Aa b7 m7 d7, Aa b8 m8 d8] fx fr (w.alloc (.cells #[I J x.kD, I J x.seq, Ab x.nM, I J x.length, I J x.gP, I J x.row, Aa a6 l6 c6, Aa a7 l7 c7, Aa a8 l8 c8] 38)) (recL.ext hx ((Chg.refl [] w).alloc _)) (recL.ext hr ((Chg.refl [] w).alloc _));rw [← sameV_pb] at hS;have HS := hid hS;have cB := cellsOf hB; have lB := ltOf hB;have G0 := hid ((Chg.refl [] w).alloc (.cells #[I J x.kD, I J x.seq, Ab x.nM, I J x.length, I J x.gP, I J x.row, Aa a6 l6 c6, Aa a7 l7 c7, Aa a8 l8 c8] 38));clear hS hx hr hB;go_enter Tryz.func116, Tryz.ntmps116;go_wp2_with fail;refine HS.o.mono ?_;rintro e w' ⟨rfl, hc⟩;have HC := hid (G0.o.trans0 hc);clear hc;go_wp2_with fail;go_ret;exact ⟨rfl, HC.o⟩
theorem cf_has1 : ∀ (args : Array Value) (w : World), (callFunc 116 args).run Tryz.prog w = .ok (.enter 116 args) w := fun _ _ => by go_simp
theorem has_any (a : Option Addr) (la ca : Nat) (xs : List Rec) (f : List Nat) (r : Rec) (cy : Array Value) (fr : List Nat) (w : World) (ha : recL.sl w a la ca xs f) (hy : recL.rep w cy.toList r fr) :
  Calls Tryz.prog 94 #[Aa a la ca, .agg cy] w fun e w' => e = .returned (Ac (xs.any (fun x => q2c x r))) ∧ Chg [] w w' := by
 obtain ⟨b6, m6, d6, g6, b7, m7, d7, g7, b8, m8, d8, g8, ey, -⟩ := q0m.1 hy;obtain rfl := (tLi ey);have hB := q0k w (.cells #[I J r.kD, I J r.seq, Ab r.nM, I J r.length, I J r.gP, I J r.row, Aa b6 m6 d6, Aa b7 m7 d7, Aa b8 m8 d8] 38);have g0 : Chg [] w (w.alloc (.cells #[I J r.kD, I J r.seq, Ab r.nM, I J r.length, I J r.gP, I J r.row, Aa b6 m6 d6, Aa b7 m7 d7, Aa b8 m8 d8] 38)) := (Chg.refl [] w).alloc _;have HCT := hid (contRec_any 116 #[.pointer (some ⟨w.heap.size, 0, none⟩)] (fun x => q2c x r) a la ca xs f (w.alloc (.cells #[I J r.kD, I J r.seq, Ab r.nM, I J r.length, I J r.gP, I J r.row, Aa b6 m6 d6, Aa b7 m7 d7, Aa b8 m8 d8] 38)) (recL.sl_ext ha g0) cf_has1 (fun x a6 l6 c6 a7 l7 c7 a8 l8 c8 fx w1 _ h2 h3 => has1_any x r w.heap.size fx fr 38 w1 (h2.keep0 hB) h3 (recL.ext hy (g0.trans0 h2))));have G0 := hid g0;clear ha hy ey hB g0;go_enter Tryz.func94, Tryz.ntmps94;go_wp2_with fail;refine HCT.o.mono ?_;rintro e w' ⟨rfl, hc⟩;have HC := hid (G0.o.trans0 hc);clear hc;go_wp2_with fail;go_ret;exact ⟨rfl, HC.o⟩
theorem holds_any (a : Option Addr) (la ca : Nat) (xs : List Rec) (f : List Nat) (r : Rec) (cy : Array Value) (fr : List Nat) (w : World) (ha : recL.sl w a la ca xs f) (hy : recL.rep w cy.toList r fr) :
  Calls Tryz.prog 69 #[Aa a la ca, .agg cy] w fun e w' => e = .returned (Ac (xs.any (fun x => q2c x r))) ∧ Chg [] w w' := by
 obtain ⟨b6, m6, d6, g6, b7, m7, d7, g7, b8, m8, d8, g8, ey, -⟩ := q0m.1 hy;obtain rfl := (tLi ey);have Aw := recL.sl_max ha;have HB := hid (q0k w (.cells #[I J r.kD, I J r.seq, Ab r.nM, I J r.length, I J r.gP, I J r.row, Aa b6 m6 d6, Aa b7 m7 d7, Aa b8 m8 d8] 38));have G0 := hid ((Chg.refl [] w).alloc (.cells #[I J r.kD, I J r.seq, Ab r.nM, I J r.length, I J r.gP, I J r.row, Aa b6 m6 d6, Aa b7 m7 d7, Aa b8 m8 d8] 38));have HA := hid ha; have HY := hid hy; have HL := hid ha.1;obtain ⟨v, hv⟩ : ∃ v, v = xs.any (fun x => q2c x r) := ⟨_, rfl⟩;have HV := hid hv;rw [← hv];clear ha hy ey hv;go_enter Tryz.func69, Tryz.ntmps69;go_wp2_with fail;go_loopw [5] (fun vi wr => ∃ (k : Nat) (Wr : World), Wr = wr ∧ k ≤ la ∧ vi = I J k ∧ Hid (∀ x ∈ xs.take k, q2c x r = false) ∧ Chg [] (w.alloc (.cells #[I J r.kD, I J r.seq, Ab r.nM, I J r.length, I J r.gP, I J r.row, Aa b6 m6 d6, Aa b7 m7 d7, Aa b8 m8 d8] 38)) wr) (fun vi _ => la - (intOf vi).toNat)
 case atStart => exact ⟨0, _, rfl, by omega, rfl, by intro y hy; simp at hy, Chg.refl _ _⟩
 case round =>
  obtain ⟨k, wr, rfl, hk, rfl, HK, hc⟩ := hrel;have HC := hid hc;have Ax := hc.keep0 HB.o;have cX := cellsOf Ax; have lX := ltOf Ax;clear Ax;by_cases hlt : k < la
  ·obtain ⟨x, b, off, cx, fx, HX, rfl, HCE, Al⟩ := q4w (recL.sl_ext HA.o (G0.o.trans0 hc)) hlt;have hS := z1a x r cx.toArray #[I J r.kD, I J r.seq, Ab r.nM, I J r.length, I J r.gP, I J r.row, Aa b6 m6 d6, Aa b7 m7 d7, Aa b8 m8 d8] fx fr wr.drew (recL.ext (by simpa using Al.o) ((Chg.refl [] wr).drew)) (recL.ext HY.o ((G0.o.trans0 hc).drew));have HX0 := hid HX.o.1;have hlb := (recL.sl_lt (recL.sl_ext HA.o (G0.o.trans0 hc))) b HX.o.2.1;have Av := hid (hc.keep0 HB.o);have Au := hid (show q1j wr.drew b (off + k * 9) 9 cx from HCE.o);have HCR := hid ((Chg.refl [] wr).drew);clear hc HX cX lX;cases hq : q2c x r
   ·rw [hq] at hS;have HS := hid hS;have HN := hid (show ∀ z ∈ xs.take (k + 1), q2c z r = false by
     intro z hz;rw [q1e HX0.o] at hz;rcases AP.1 hz with h1 | h1
     ·exact HK.o z h1
     ·rw [AL] at h1; rw [h1]; exact hq)
    clear hS hq;go_wp2_with fail;obtain ⟨SS, Aq, Ap⟩ := q0f (fun w' => q1j w' b (off + k * 9) 9 cx ∧ Know w.heap.size #[I J r.kD, I J r.seq, Ab r.nM, I J r.length, I J r.gP, I J r.row, Aa b6 m6 d6, Aa b7 m7 d7, Aa b8 m8 d8] w');have Ae := Aq.o _ ⟨Au.o, (Know.of (q0a Av.o))⟩;refine q0g SS (by kernel_rfl) Ae ?_;refine rgT 0 Ae ?_;refine rgT 1 Ae ?_;refine rgT 2 Ae ?_;refine rgL 3 Ae Ap ?_ (hy := fun w' hw => q1d _ 38 rfl rfl q1b Tryz.underlying38 hw.1);refine rgL 4 Ae Ap ?_;refine rgq 5 (fun K hK => ?_);go_simp;go_at_call 104;refine HS.o.mono ?_;rintro e w2 ⟨rfl, hc2⟩;have Az := hid (HC.o.trans0 (HCR.o.trans0 hc2)); have Am := hid (Au.o.ext hc2 hlb); have Ao := hid (hc2.keep0 (q0a Av.o));clear hc2;go_wp2_with fail;refine hK.out _ _ (Aq.o _ ⟨Am.o, (Know.of Ao.o)⟩) (fun hS1 => ?_);clear hK K;try simp only [AH, pA, pB, pC]
    refine wDn ?_
    skip
    go_wp2_with fail;go_roundw
    case rel => exact ⟨k + 1, _, rfl, by omega, by go_num, HN, Az.o⟩
    case measure => simp [intOf]; omega
   ·rw [hq] at hS;have HS := hid hS;have HR := hid (show v = true by rw [HV.o]; exact AO.2 ⟨x, A9 HX0.o, hq⟩);clear hS hq;go_wp2_with fail;obtain ⟨SS, Aq, Ap⟩ := q0f (fun w' => q1j w' b (off + k * 9) 9 cx ∧ Know w.heap.size #[I J r.kD, I J r.seq, Ab r.nM, I J r.length, I J r.gP, I J r.row, Aa b6 m6 d6, Aa b7 m7 d7, Aa b8 m8 d8] w');have Ae := Aq.o _ ⟨Au.o, (Know.of (q0a Av.o))⟩;refine q0g SS (by kernel_rfl) Ae ?_;refine rgT 0 Ae ?_;refine rgT 1 Ae ?_;refine rgT 2 Ae ?_;refine rgL 3 Ae Ap ?_ (hy := fun w' hw => q1d _ 38 rfl rfl q1b Tryz.underlying38 hw.1);refine rgL 4 Ae Ap ?_;refine rgq 5 (fun K hK => ?_);go_simp;go_at_call 104;refine HS.o.mono ?_;rintro e w2 ⟨rfl, hc2⟩;have Az := hid (HC.o.trans0 (HCR.o.trans0 hc2)); have Am := hid (Au.o.ext hc2 hlb); have Ao := hid (hc2.keep0 (q0a Av.o));clear hc2;go_wp2_with fail;refine hK.out _ _ (Aq.o _ ⟨Am.o, (Know.of Ao.o)⟩) (fun hS1 => ?_);clear hK K;try simp only [AH, pA, pB, pC]
    refine wDn ?_
    skip
    go_wp2_with fail;go_ret;exact ⟨by rw [HR.o]; rfl, G0.o.trans0 Az.o⟩
  ·have HR := hid (show v = false by
    rw [HV.o, AD];intro x hx;rw [HK.o x (by rw [AK (by have := HL.o; omega)]; exact hx)];simp)
   clear hc;go_wp2_with fail;go_ret;exact ⟨by rw [HR.o]; rfl, G0.o.trans0 HC.o⟩

theorem z1j (x : Rec) (cx : Array Value) (fx : List Nat) (w : World) (hx : recL.rep w cx.toList x fx) (hz : q2l x ≤ 1048576) :
  Calls Tryz.prog 67 #[.agg cx] w (q5x recL x w) := by
 obtain ⟨KI, _⟩ := kindI;obtain ⟨KB, _⟩ := kindB;obtain ⟨a6, l6, c6, f6, a7, l7, c7, f7, a8, l8, c8, f8, ex, o0, o1, o2, o3, o4, o5, h6, h7, h8, -⟩ := q0m.1 hx;obtain rfl := (tLi ex);have q6 := q3s x.rows; have q7 := q2r x.data; have q8 := q2r x.delta;unfold q2l q4s q8m at hz;unfold q4s at q6; unfold q8m at q7 q8;have z6 : l6 ≤ 1048576 := by rw [h6.1]; omega
 have z7 : l7 ≤ 1048576 := by rw [h7.1]; omega
 have z8 : l8 ≤ 1048576 := by rw [h8.1]; omega
 have HO := hid (AA o0 (AA o1 (AA o2 (AA o3 (AA o4 o5)))));have L6 := hid h6.1.symm; have L7 := hid h7.1.symm; have L8 := hid h8.1.symm;have H6 := hid h6; have H7 := hid h7; have H8 := hid h8;clear hx ex hz q6 q7 q8 o0 o1 o2 o3 o4 o5 h6 h7 h8;have G0 := hid (show Chg [] w ((w.alloc (.cells #[I J x.kD, I J x.seq, Ab x.nM, I J x.length, I J x.gP, I J x.row, Aa a6 l6 c6, Aa a7 l7 c7, Aa a8 l8 c8] 38)).alloc (.cells #[I J 0, I J 0, Ab ⟨#[]⟩, I J 0, I J 0, I J 0, Aa none 0 0, Aa none 0 0, Aa none 0 0] 38)) from ((Chg.refl [] w).alloc _).alloc _);have A0 := hid (show ((w.alloc (.cells #[I J x.kD, I J x.seq, Ab x.nM, I J x.length, I J x.gP, I J x.row, Aa a6 l6 c6, Aa a7 l7 c7, Aa a8 l8 c8] 38)).alloc (.cells #[I J 0, I J 0, Ab ⟨#[]⟩, I J 0, I J 0, I J 0, Aa none 0 0, Aa none 0 0, Aa none 0 0] 38)).heap[w.heap.size]? = some (.cells #[I J x.kD, I J x.seq, Ab x.nM, I J x.length, I J x.gP, I J x.row, Aa a6 l6 c6, Aa a7 l7 c7, Aa a8 l8 c8] 38 (0, 0)) from q0b (q0k w _) _);have B0 := hid (show ((w.alloc (.cells #[I J x.kD, I J x.seq, Ab x.nM, I J x.length, I J x.gP, I J x.row, Aa a6 l6 c6, Aa a7 l7 c7, Aa a8 l8 c8] 38)).alloc (.cells #[I J 0, I J 0, Ab ⟨#[]⟩, I J 0, I J 0, I J 0, Aa none 0 0, Aa none 0 0, Aa none 0 0] 38)).heap[w.heap.size + 1]? = some (.cells #[I J 0, I J 0, Ab ⟨#[]⟩, I J 0, I J 0, I J 0, Aa none 0 0, Aa none 0 0, Aa none 0 0] 38 (0, 0)) from q0c (by simp) _);have S0 := hid (show w.heap.size + 2 ≤ ((w.alloc (.cells #[I J x.kD, I J x.seq, Ab x.nM, I J x.length, I J x.gP, I J x.row, Aa a6 l6 c6, Aa a7 l7 c7, Aa a8 l8 c8] 38)).alloc (.cells #[I J 0, I J 0, Ab ⟨#[]⟩, I J 0, I J 0, I J 0, Aa none 0 0, Aa none 0 0, Aa none 0 0] 38)).heap.size by simp);have HL6 : Hid (([] : List Int).length + x.rows.length ≤ maxLen ∧ (([] : List Int).length + x.rows.length) * 8 ≤ 140737488355328) := by
  have := L6.o;refine ⟨?_, ?_⟩ <;> simp only [AE, maxLen] <;> omega
 have HL7 : Hid (([] : List UInt8).length + x.data.length ≤ maxLen ∧ (([] : List UInt8).length + x.data.length) * 1 ≤ 140737488355328) := by
  have := L7.o;refine ⟨?_, ?_⟩ <;> simp only [AE, maxLen] <;> omega
 have HL8 : Hid (([] : List UInt8).length + x.delta.length ≤ maxLen ∧ (([] : List UInt8).length + x.delta.length) * 1 ≤ 140737488355328) := by
  have := L8.o;refine ⟨?_, ?_⟩ <;> simp only [AE, maxLen] <;> omega
 go_enter Tryz.func67, Tryz.ntmps67;go_wp2_with (at_builtin; first | (refine intL.wpList_growS q8v rfl _ _ 27 rfl Tryz.underlying27 KI rfl (Grow.madeN (Chg.refl [] ((w.alloc (.cells #[I J x.kD, I J x.seq, Ab x.nM, I J x.length, I J x.gP, I J x.row, Aa a6 l6 c6, Aa a7 l7 c7, Aa a8 l8 c8] 38)).alloc (.cells #[I J 0, I J 0, Ab ⟨#[]⟩, I J 0, I J 0, I J 0, Aa none 0 0, Aa none 0 0, Aa none 0 0] 38))) (by simp)) (Chg.refl [] _) rfl (intL.sl_ext H6.o (G0.o.alloc _)) HL6.o.1 HL6.o.2 ?_; intro v' w1 Ah; obtain ⟨p6, d6, g6, rfl, hs, hf, hc⟩ := Ah.sl; rw [AJ, L6.o] at hs Ah ⊢; obtain ⟨e1, n1, A1'⟩ := bk0 hc A0.o; obtain ⟨-, -, B1'⟩ := bk0 hc B0.o; have fz1 := q0j A1'.o; have A1 := hid (show (w1.setCell ⟨w.heap.size, 6, none⟩ (Aa p6 l6 d6)).heap[w.heap.size]? = some (.cells #[I J x.kD, I J x.seq, Ab x.nM, I J x.length, I J x.gP, I J x.row, Aa p6 l6 d6, Aa a7 l7 c7, Aa a8 l8 c8] 38 (0, 0)) from q0n (cur := #[I J x.kD, I J x.seq, Ab x.nM, I J x.length, I J x.gP, I J x.row, Aa a6 l6 c6, Aa a7 l7 c7, Aa a8 l8 c8]) A1'.o rfl); have B1 := hid (q0r B1'.o ⟨w.heap.size, 6, none⟩ (Aa p6 l6 d6) (by simp)); have G1 := hid ((G0.o.trans0 hc).setCell ⟨w.heap.size, 6, none⟩ (Aa p6 l6 d6) (.inr (by simp))); have N1 := hid (AA hs (AA hf hc)); clear hs hf hc Ah) | (refine q0o.wpList_growS q5w rfl _ _ 22 rfl Tryz.underlying22 KB rfl (Grow.madeN (Chg.refl [] (w1.setCell ⟨w.heap.size, 6, none⟩ (Aa p6 l6 d6))) (by simp)) (Chg.refl [] _) rfl (q0o.sl_ext H7.o (G1.o.alloc _)) HL7.o.1 HL7.o.2 ?_; intro v' w2 Ah; obtain ⟨p7, d7, g7, rfl, hs, hf, hc⟩ := Ah.sl; rw [AJ, L7.o] at hs Ah ⊢; obtain ⟨e2, n2, A2'⟩ := bk0 hc A1.o; obtain ⟨-, -, B2'⟩ := bk0 hc B1.o; have fz2 := q0j A2'.o; have A2 := hid (show (w2.setCell ⟨w.heap.size, 7, none⟩ (Aa p7 l7 d7)).heap[w.heap.size]? = some (.cells #[I J x.kD, I J x.seq, Ab x.nM, I J x.length, I J x.gP, I J x.row, Aa p6 l6 d6, Aa p7 l7 d7, Aa a8 l8 c8] 38 (0, 0)) from q0n (cur := #[I J x.kD, I J x.seq, Ab x.nM, I J x.length, I J x.gP, I J x.row, Aa p6 l6 d6, Aa a7 l7 c7, Aa a8 l8 c8]) A2'.o rfl); have B2 := hid (q0r B2'.o ⟨w.heap.size, 7, none⟩ (Aa p7 l7 d7) (by simp)); have G2 := hid ((G1.o.trans0 hc).setCell ⟨w.heap.size, 7, none⟩ (Aa p7 l7 d7) (.inr (by simp))); have N2 := hid (AA hs (AA hf hc)); clear hs hf hc Ah) | (refine q0o.wpList_growS q5w rfl _ _ 22 rfl Tryz.underlying22 KB rfl (Grow.madeN (Chg.refl [] (w2.setCell ⟨w.heap.size, 7, none⟩ (Aa p7 l7 d7))) (by simp)) (Chg.refl [] _) rfl (q0o.sl_ext H8.o (G2.o.alloc _)) HL8.o.1 HL8.o.2 ?_; intro v' w3 Ah; obtain ⟨p8, d8, g8, rfl, hs, hf, hc⟩ := Ah.sl; rw [AJ, L8.o] at hs Ah ⊢; obtain ⟨e3, n3, A3'⟩ := bk0 hc A2.o; obtain ⟨k3, m3, B3'⟩ := bk0 hc B2.o; have fz3 := q0j A3'.o; have A3 := hid (show (w3.setCell ⟨w.heap.size, 8, none⟩ (Aa p8 l8 d8)).heap[w.heap.size]? = some (.cells #[I J x.kD, I J x.seq, Ab x.nM, I J x.length, I J x.gP, I J x.row, Aa p6 l6 d6, Aa p7 l7 d7, Aa p8 l8 d8] 38 (0, 0)) from q0n (cur := #[I J x.kD, I J x.seq, Ab x.nM, I J x.length, I J x.gP, I J x.row, Aa p6 l6 d6, Aa p7 l7 d7, Aa a8 l8 c8]) A3'.o rfl); have B3 := hid (q0r B3'.o ⟨w.heap.size, 8, none⟩ (Aa p8 l8 d8) (by simp)); have G3 := hid ((G2.o.trans0 hc).setCell ⟨w.heap.size, 8, none⟩ (Aa p8 l8 d8) (.inr (by simp))); have N3 := hid (AA hs (AA hf hc)); have z3 := q0j B3'.o; clear hs hf hc Ah));have hq : ((((((((((w3.setCell ⟨w.heap.size, 8, none⟩ (Aa p8 l8 d8)).setCell ⟨w.heap.size + 1, 0, none⟩ (I J x.kD)).setCell ⟨w.heap.size + 1, 1, none⟩ (I J x.seq)).setCell ⟨w.heap.size + 1, 2, none⟩ (Ab x.nM)).setCell ⟨w.heap.size + 1, 3, none⟩ (I J x.length)).setCell ⟨w.heap.size + 1, 4, none⟩ (I J x.gP)).setCell ⟨w.heap.size + 1, 5, none⟩ (I J x.row)).setCell ⟨w.heap.size + 1, 6, none⟩ (Aa p6 l6 d6)).setCell ⟨w.heap.size + 1, 7, none⟩ (Aa p7 l7 d7)).setCell ⟨w.heap.size + 1, 8, none⟩ (Aa p8 l8 d8)).heap[w.heap.size + 1]? = some (.cells #[I J x.kD, I J x.seq, Ab x.nM, I J x.length, I J x.gP, I J x.row, Aa p6 l6 d6, Aa p7 l7 d7, Aa p8 l8 d8] 38 (0, 0)) := by
  have h := row9_back (I J x.kD) (I J x.seq) (Ab x.nM) (I J x.length) (I J x.gP) (I J x.row) (Aa p6 l6 d6) (Aa p7 l7 d7) (Aa p8 l8 d8) B3.o;exact h
 have hqc := cellsOf hq;have D3 : Chg [w.heap.size, w.heap.size + 1] w3 ((((((((((w3.setCell ⟨w.heap.size, 8, none⟩ (Aa p8 l8 d8)).setCell ⟨w.heap.size + 1, 0, none⟩ (I J x.kD)).setCell ⟨w.heap.size + 1, 1, none⟩ (I J x.seq)).setCell ⟨w.heap.size + 1, 2, none⟩ (Ab x.nM)).setCell ⟨w.heap.size + 1, 3, none⟩ (I J x.length)).setCell ⟨w.heap.size + 1, 4, none⟩ (I J x.gP)).setCell ⟨w.heap.size + 1, 5, none⟩ (I J x.row)).setCell ⟨w.heap.size + 1, 6, none⟩ (Aa p6 l6 d6)).setCell ⟨w.heap.size + 1, 7, none⟩ (Aa p7 l7 d7)).setCell ⟨w.heap.size + 1, 8, none⟩ (Aa p8 l8 d8)) := by
  iterate 10 refine Chg.setCell ?_ _ _ (.inl (by simp))
  exact Chg.refl _ _
 have D2 : Chg [w.heap.size, w.heap.size + 1] w2 ((((((((((w3.setCell ⟨w.heap.size, 8, none⟩ (Aa p8 l8 d8)).setCell ⟨w.heap.size + 1, 0, none⟩ (I J x.kD)).setCell ⟨w.heap.size + 1, 1, none⟩ (I J x.seq)).setCell ⟨w.heap.size + 1, 2, none⟩ (Ab x.nM)).setCell ⟨w.heap.size + 1, 3, none⟩ (I J x.length)).setCell ⟨w.heap.size + 1, 4, none⟩ (I J x.gP)).setCell ⟨w.heap.size + 1, 5, none⟩ (I J x.row)).setCell ⟨w.heap.size + 1, 6, none⟩ (Aa p6 l6 d6)).setCell ⟨w.heap.size + 1, 7, none⟩ (Aa p7 l7 d7)).setCell ⟨w.heap.size + 1, 8, none⟩ (Aa p8 l8 d8)) := (((Chg.refl [w.heap.size, w.heap.size + 1] w2).setCell _ _ (.inl (by simp))).trans0 N3.o.2.2).trans D3 (fun y hy => .inl hy);have D1 : Chg [w.heap.size, w.heap.size + 1] w1 ((((((((((w3.setCell ⟨w.heap.size, 8, none⟩ (Aa p8 l8 d8)).setCell ⟨w.heap.size + 1, 0, none⟩ (I J x.kD)).setCell ⟨w.heap.size + 1, 1, none⟩ (I J x.seq)).setCell ⟨w.heap.size + 1, 2, none⟩ (Ab x.nM)).setCell ⟨w.heap.size + 1, 3, none⟩ (I J x.length)).setCell ⟨w.heap.size + 1, 4, none⟩ (I J x.gP)).setCell ⟨w.heap.size + 1, 5, none⟩ (I J x.row)).setCell ⟨w.heap.size + 1, 6, none⟩ (Aa p6 l6 d6)).setCell ⟨w.heap.size + 1, 7, none⟩ (Aa p7 l7 d7)).setCell ⟨w.heap.size + 1, 8, none⟩ (Aa p8 l8 d8)) := (((Chg.refl [w.heap.size, w.heap.size + 1] w1).setCell _ _ (.inl (by simp))).trans0 N2.o.2.2).trans D2 (fun y hy => .inl hy);have s1 : w.heap.size + 2 ≤ w1.heap.size := Nat.le_trans S0.o N1.o.2.2.size;have s2 : w1.heap.size ≤ w2.heap.size := by have := N2.o.2.2.size; simpa using this
 have f1 := N1.o.2.1.mono (C := w.heap.size + 2) S0.o;have f2 := N2.o.2.1.mono (C := w1.heap.size) (by simp);have f3 := N3.o.2.1.mono (C := w2.heap.size) (by simp);have K6 := intL.sl_chg N1.o.1 D1 (f1.nots _ (by simp));have K7 := q0o.sl_chg N2.o.1 D2 (f2.nots _ (by simp; omega));have K8 := q0o.sl_chg N3.o.1 D3 (f3.nots _ (by simp; omega));have hfr := ((f1.chg D1).append ((f2.chg D2).append (f3.chg D3) f2.lts s2) f1.lts s1).mono (C := w.heap.size) (by omega);have hch : Chg [] w ((((((((((w3.setCell ⟨w.heap.size, 8, none⟩ (Aa p8 l8 d8)).setCell ⟨w.heap.size + 1, 0, none⟩ (I J x.kD)).setCell ⟨w.heap.size + 1, 1, none⟩ (I J x.seq)).setCell ⟨w.heap.size + 1, 2, none⟩ (Ab x.nM)).setCell ⟨w.heap.size + 1, 3, none⟩ (I J x.length)).setCell ⟨w.heap.size + 1, 4, none⟩ (I J x.gP)).setCell ⟨w.heap.size + 1, 5, none⟩ (I J x.row)).setCell ⟨w.heap.size + 1, 6, none⟩ (Aa p6 l6 d6)).setCell ⟨w.heap.size + 1, 7, none⟩ (Aa p7 l7 d7)).setCell ⟨w.heap.size + 1, 8, none⟩ (Aa p8 l8 d8)) := (G0.o.trans0 N1.o.2.2).trans D1 (fun y hy => .inr (by simp only [List.mem_cons, List.not_mem_nil, or_false] at hy; omega));refine bodyPost_ret (v := .agg #[I J x.kD, I J x.seq, Ab x.nM, I J x.length, I J x.gP, I J x.row, Aa p6 l6 d6, Aa p7 l7 d7, Aa p8 l8 d8]) (by simp [results, Tryz.results67, go_sem, hqc]) rfl ⟨_, _, rfl, q0m.2 ⟨p6, l6, d6, g6, p7, l7, d7, g7, p8, l8, d8, g8, rfl, HO.o.1, HO.o.2.1, HO.o.2.2.1, HO.o.2.2.2.1, HO.o.2.2.2.2.1, HO.o.2.2.2.2.2, K6, K7, K8, by simp⟩, hfr, hch⟩
theorem z0a (a : Option Addr) (la ca : Nat) (xs : List Rec) (f : List Nat) (w : World) (ha : recL.sl w a la ca xs f) (hz : totL q2l xs ≤ 1048576) :
  Calls Tryz.prog 35 #[Aa a la ca] w (q7r recL xs w) := by
 obtain ⟨K, _⟩ := q4y;have hlz : la ≤ 1048576 := by have := totL_len q2i xs; rw [ha.1]; omega
 have HL := hid ha.1;have HA := hid ha;have HZ := hid (fun x hx => Int.le_trans (z0v q2i hx) hz : ∀ x ∈ xs, q2l x ≤ 1048576);clear ha hz;go_enter Tryz.func35, Tryz.ntmps35;go_wp2_with fail;go_loopw [3, 4] (fun vo vi wr => ∃ (k : Nat) (Wr : World), Wr = wr ∧ k ≤ la ∧ vi = I J k ∧ Grow recL 38 w wr vo (xs.take k)) (fun _ vi _ => la - (intOf vi).toNat)
 case atStart => exact ⟨0, _, rfl, by omega, rfl, by rw [List.take_zero]; exact Grow.made (Chg.refl _ _)⟩
 case round =>
  obtain ⟨k, wr, rfl, hk, rfl, hg⟩ := hrel;by_cases hlt : k < la
  ·obtain ⟨x, b, off, a6, l6, c6, a7, l7, c7, a8, l8, c8, fq, HX, rfl, hq0, hq1, hq2, hq3, hq4, hq5, hq6, hq7, hq8, Al⟩ := q6m (recL.sl_ext HA.o hg.chg) hlt;have HG := hid hg;have HXI := hid HX.o.1;have HXZ := hid (HZ.o x (A9 HX.o.1));clear hg HX;go_wp2_with fail;refine (z1j x #[I J x.kD, I J x.seq, Ab x.nM, I J x.length, I J x.gP, I J x.row, Aa a6 l6 c6, Aa a7 l7 c7, Aa a8 l8 c8] fq _ Al.o HXZ.o).mono ?_;rintro e w1 ⟨cs, f1, rfl, hr, hf, hc⟩;obtain ⟨p6, m6, d6, _, p7, m7, d7, _, p8, m8, d8, _, ex, -⟩ := q0m.1 hr;obtain rfl := (tLi ex);have Ay := hid (AA hr (AA hf hc));have HLL : Hid ((xs.take k).length + [x].length ≤ maxLen ∧ ((xs.take k).length + [x].length) * 128 ≤ 140737488355328) := by
    refine ⟨?_, ?_⟩ <;> simp only [List.length_take, List.length_cons, AE, maxLen] <;> omega
   have HNX := hid (q1e HXI.o);clear ex hr hf hc hq0 hq1 hq2 hq3 hq4 hq5 hq6 hq7 hq8 Al;go_wp2_with (at_builtin; refine recL.wpList_grow rfl _ _ 32 rfl Tryz.underlying32 K rfl HG.o (Ay.o.2.2.alloc (.cells #[I J x.kD, I J x.seq, Ab x.nM, I J x.length, I J x.gP, I J x.row, Aa p6 m6 d6, Aa p7 m7 d7, Aa p8 m8 d8] 38)) ⟨w1.heap.size, 0, none⟩ 1 1 [I J x.kD, I J x.seq, Ab x.nM, I J x.length, I J x.gP, I J x.row, Aa p6 m6 d6, Aa p7 m7 d7, Aa p8 m8 d8] (ys := [x]) (f := f1) rfl rfl (q1p w1 #[I J x.kD, I J x.seq, Ab x.nM, I J x.length, I J x.gP, I J x.row, Aa p6 m6 d6, Aa p7 m7 d7, Aa p8 m8 d8] 38) (recL.all_single (recL.ext Ay.o.1 ((Chg.refl [] w1).alloc _))) (Ay.o.2.1.chg ((Chg.refl [] w1).alloc (.cells #[I J x.kD, I J x.seq, Ab x.nM, I J x.length, I J x.gP, I J x.row, Aa p6 m6 d6, Aa p7 m7 d7, Aa p8 m8 d8] 38))) HLL.o.1 HLL.o.2 ?_; intro v' w' Ah; rw [← HNX.o] at Ah; have HG2 := hid Ah; clear Ah);go_roundw
   case rel => exact ⟨k + 1, _, rfl, by omega, by go_num, HG2.o⟩
   case measure => simp [intOf]; omega
  ·obtain rfl : k = la := by omega
   rw [AK (by have := HL.o; omega)] at hg;obtain ⟨a', c', f', h1, h2, h3, h4⟩ := hg.sl;subst h1;have HN := hid (show q7r recL xs w (.returned (Aa a' xs.length c')) wr from ⟨a', c', f', rfl, h2, h3, h4⟩);generalize xs.length = n at HN ⊢;clear h2 h3 h4 hg;go_wp2_with fail;go_ret;exact HN.o
end Go.Proofs.YthhaednigdgclaaGreat
