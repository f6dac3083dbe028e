/- Several texts in one. -/
import Derived.Test.YthhaednigdgclaaGreatRows
import Derived.Test.YthhaednigdgclaaGreatYaa
import Derived.Test.YthhaednigdgclaaGreatYac
import Derived.Deep.QuietTactic
import Derived.BigQuiet
import Derived.IntWalk
open Go.Value renaming int → I, slice → Aa, string → Ab, bool → Ac
open Go.IntKind renaming i64 → J
open Go.Obj renaming cells → Ad
open Nat renaming add_sub_cancel → Ak
open List renaming getElem?_eq_some_iff → Al, mem_of_getElem? → Am
set_option maxRecDepth 100000
set_option maxHeartbeats 8000000
namespace Go.Proofs.YthhaednigdgclaaGreat
open Go.RowKit
open Go.Lib (hid)
noncomputable def pb (P : Prop) : Bool := @decide P (Classical.propDecidable P)
theorem q0e {P : Prop} (h : P) : pb P = true := by unfold pb; exact @decide_eq_true P (Classical.propDecidable P) h
theorem q0d {P : Prop} (h : ¬ P) : pb P = false := by unfold pb; exact @decide_eq_false P (Classical.propDecidable P) h
theorem q6n {P Q : Prop} (h : P ↔ Q) : pb P = pb Q := by rw [propext h]
theorem q9h {P : Prop} (h : pb P = true) : P := by unfold pb at h; exact @of_decide_eq_true P (Classical.propDecidable P) h
theorem not_pb {P : Prop} (h : pb P = false) : ¬ P := fun hp => by rw [q0e hp] at h; cases h
theorem q4q {P : Program} {f : FuncId} {args : Array Value} {w : World} {n : Nat} {v : Value} (h : Calls P f args (w.drewN n) fun e w' => e = .returned v ∧ w.drewN n = w') :
  Calls P f args (w.drewN n) fun e w'' => e = .returned v ∧ ∃ m, w'' = w.drewN m := h.mono fun _ _ ⟨he, hm⟩ => ⟨he, n, hm.symm⟩
def q3c (m : Int) (xs : List Int) : Prop := ∀ i x, xs[i]? = some x → (0 ≤ x ∧ x ≤ m) ∧ x ∉ xs.take i
def q2m (m : Int) (xs : List Int) (k : Nat) : Prop := ∀ i x, i < k → xs[i]? = some x → (0 ≤ x ∧ x ≤ m) ∧ x ∉ xs.take i
theorem q2m.zero (m : Int) (xs : List Int) : q2m m xs 0 := fun i x h => by omega
theorem q2m.next {m : Int} {xs : List Int} {k : Nat} {x : Int} (h : q2m m xs k) (hx : xs[k]? = some x) (h1 : 0 ≤ x ∧ x ≤ m) (h2 : x ∉ xs.take k) : q2m m xs (k + 1) := fun i y hi hy => by
 by_cases e : i = k
 ·subst e; rw [hx] at hy; cases hy; exact ⟨h1, h2⟩
 ·exact h i y (by omega) hy
theorem q2m.all {m : Int} {xs : List Int} {k : Nat} (h : q2m m xs k) (hk : xs.length ≤ k) : q3c m xs := fun i x hx => h i x (by have := (Al.1 hx).1; omega) hx
def q5d (m : Int) (xs : List Int) : Prop := ∀ i x, xs[i]? = some x → (0 ≤ x ∧ x ≤ m) ∧ ∀ y, 0 < i → xs[i - 1]? = some y → y < x
def q4i (m : Int) (xs : List Int) (k : Nat) : Prop := ∀ i x, i < k → xs[i]? = some x → (0 ≤ x ∧ x ≤ m) ∧ ∀ y, 0 < i → xs[i - 1]? = some y → y < x
theorem q4i.zero (m : Int) (xs : List Int) : q4i m xs 0 := fun i x h => by omega
theorem q4i.next {m : Int} {xs : List Int} {k : Nat} {x : Int} (h : q4i m xs k) (hx : xs[k]? = some x) (h1 : 0 ≤ x ∧ x ≤ m) (h2 : ∀ y, 0 < k → xs[k - 1]? = some y → y < x) : q4i m xs (k + 1) := fun i y hi hy => by
 by_cases e : i = k
 ·subst e; rw [hx] at hy; cases hy; exact ⟨h1, h2⟩
 ·exact h i y (by omega) hy
theorem q4i.all {m : Int} {xs : List Int} {k : Nat} (h : q4i m xs k) (hk : xs.length ≤ k) : q5d m xs := fun i x hx => h i x (by have := (Al.1 hx).1; omega) hx
theorem q5s {xs : List Int} {k : Nat} {x v : Int} (h : ∀ y ∈ xs.take k, y ≠ v) (hx : xs[k]? = some x) (hv : x ≠ v) : ∀ y ∈ xs.take (k + 1), y ≠ v := by
 intro y hy;rw [q1e hx] at hy;rcases List.mem_append.1 hy with h1 | h1
 ·exact h y h1
 ·simp at h1; rw [h1]; exact hv
theorem q6p {xs : List Int} {k : Nat} {v : Int} (h : ∀ y ∈ xs.take k, y ≠ v) (hk : xs.length ≤ k) : v ∉ xs := by
 rw [List.take_of_length_le hk] at h;exact fun hv => h v hv rfl
theorem l1Has_any (a : Option Addr) (la ca : Nat) (xs : List Int) (f : List Nat) (v : Int) (w : World) (ha : intL.sl w a la ca xs f) :
  Calls Tryz.prog 53 #[Aa a la ca, I J v] w fun e w' => e = .returned (Ac (pb (v ∈ xs))) ∧ w = w' := by
 have hm := intL.sl_max ha;have HL := hid ha.1;have HA := hid ha;clear ha;have HT := hid (fun h => q0e h : v ∈ xs → pb (v ∈ xs) = true);have HF := hid (fun h => q0d h : ¬ v ∈ xs → pb (v ∈ xs) = false);generalize pb (v ∈ xs) = r at HT HF ⊢;go_enter Tryz.func53, Tryz.ntmps53;go_wp2;go_loop [5] (fun i => ∃ k : Nat, k ≤ la ∧ i = I J k ∧ Hid (∀ y ∈ xs.take k, y ≠ v)) (fun i => la - (intOf i).toNat)
 case atStart => exact ⟨0, by omega, rfl, by intro y hy; simp at hy⟩
 case round =>
  obtain ⟨k, hk, rfl, HK⟩ := hrel;by_cases hlt : k < la
  ·obtain ⟨x, b, o, HX, rfl, Ah, Ag⟩ := q2n HA.o hlt;by_cases Ae : x = v
   ·subst Ae;have hr : r = true := HT.o (Am HX.o.1);have HR := hid hr;clear hr;go_wp2;go_ret;exact ⟨q0l HR.o.symm, rfl⟩
   ·have hne : (x == v) = false := by simp [Ae]
    have HN := hid (q5s HK.o HX.o.1 Ae);clear Ae;go_wp2;go_round
    case rel => exact ⟨k + 1, by omega, by go_num, HN⟩
    case measure => simp [intOf]; omega
  ·have HR := hid (HF.o (q6p HK.o (by have := HL.o; omega)));go_wp2;go_ret;exact ⟨q0l HR.o.symm, rfl⟩
theorem indexI_any (a : Option Addr) (la ca : Nat) (xs : List Int) (f : List Nat) (v : Int) (w : World) (ha : intL.sl w a la ca xs f) :
  Calls Tryz.prog 108 #[Aa a la ca, I J v] w fun e w' => ∃ j : Int, e = .returned (I J j) ∧ (v ∈ xs → 0 ≤ j) ∧ (¬ v ∈ xs → j = -1) ∧ w = w' := by
 have hm := intL.sl_max ha;have HL := hid ha.1;have HA := hid ha;clear ha;go_enter Tryz.func108, Tryz.ntmps108;go_wp2;go_loop [5, 8] (fun u i => ∃ k : Nat, k ≤ la ∧ i = I J k ∧ Hid (∀ y ∈ xs.take k, y ≠ v)) (fun _ i => la - (intOf i).toNat)
 case atStart => exact ⟨0, by omega, rfl, by intro y hy; simp at hy⟩
 case round =>
  obtain ⟨k, hk, rfl, HK⟩ := hrel;by_cases hlt : k < la
  ·obtain ⟨x, b, o, HX, rfl, Ah, Ag⟩ := q2n HA.o hlt;by_cases Ae : x = v
   ·subst Ae;have HR := hid (Am HX.o.1);have hxx : (x == x) = true := by simp
    go_wp2;go_ret;exact ⟨(k : Int), rfl, fun _ => by omega, fun h => absurd HR.o h, rfl⟩
   ·have hne : (v == x) = false := by simp [Ne.symm Ae]
    have HN := hid (q5s HK.o HX.o.1 Ae);clear Ae;go_wp2;go_round
    case rel => exact ⟨k + 1, by omega, by go_num, HN⟩
    case measure => simp [intOf]; omega
  ·have HR := hid (q6p HK.o (by have := HL.o; omega));go_wp2;go_ret;exact ⟨-1, rfl, fun h => absurd h HR.o, fun _ => rfl, rfl⟩
theorem z1t (a : Option Addr) (la ca : Nat) (xs : List Int) (f : List Nat) (v : Int) (w : World) (ha : intL.sl w a la ca xs f) :
  Calls Tryz.prog 88 #[Aa a la ca, I J v] w fun e w' => e = .returned (Ac (pb (v ∈ xs))) ∧ w = w' := by
 have HI := hid (indexI_any a la ca xs f v w ha);clear ha;go_enter Tryz.func88, Tryz.ntmps88;go_wp2_with fail;refine HI.o.mono ?_;rintro e w' ⟨j, rfl, h1, h2, rfl⟩;by_cases h : v ∈ xs
 ·have HR := hid (q0e h);have hj := h1 h;clear h h1 h2;go_wp2_with fail;go_ret;exact ⟨q0l HR.o.symm, rfl⟩
 ·have HR := hid (q0d h);have hj := h2 h;clear h h1 h2;subst hj;go_wp2_with fail;go_ret;exact ⟨q0l (by rw [HR.o]), rfl⟩
theorem q6b {w : World} {a : Option Addr} {la ca : Nat} {xs : List Int} {f : List Nat} (h : intL.sl w a la ca xs f) {k : Nat} (hk : k ≤ la) (c : Nat) (hc : k ≤ c) (hc2 : c ≤ ca) : ∃ g, intL.sl w a k c (xs.take k) g := by
 obtain ⟨h1, h2, h3, h4, ⟨rfl, rfl⟩ | ⟨b, off, cur, E, fr, fps, ha, hb, hall, rfl⟩⟩ := h
 ·refine ⟨[], by simp at h1; simp; omega, hc, by omega, fun h => by have := h4 h; omega, .inl ⟨by simp, rfl⟩⟩
 ·have e := List.take_append_drop k xs;rw [← e] at hall;obtain ⟨f1, f2, rfl, k1, k2⟩ := intL.all_split hall;have hl : (xs.take k).length = k := by rw [List.length_take]; omega
  refine ⟨b :: f1, hl.symm, hc, by omega, (fun h => by rw [ha] at h; cases h), .inr ⟨b, off, cur, E, fr, f1, ha, hb, ?_, rfl⟩⟩;rw [hl, List.take_take] at k1;have e2 : min (k * intL.n) (la * intL.n) = k * intL.n := by have := Nat.mul_le_mul_right intL.n hk; omega
  rw [e2] at k1;exact k1
theorem q9l (a : Option Addr) (la ca : Nat) (xs : List Int) (f : List Nat) (m : Int) (w : World) (ha : intL.sl w a la ca xs f) :
  Calls Tryz.prog 22 #[Aa a la ca, I J m] w fun e w' => e = .returned (Ac (pb (q3c m xs))) ∧ Chg [] w w' := by
 have hm := intL.sl_max ha;have hca := ha.2.1;have HL := hid ha.1;have HA := hid ha;clear ha;have HT := hid (fun h => q0e h : q3c m xs → pb (q3c m xs) = true);have HF := hid (fun h => q0d h : ¬ q3c m xs → pb (q3c m xs) = false);generalize pb (q3c m xs) = r at HT HF ⊢;go_enter Tryz.func22, Tryz.ntmps22;go_wp2;go_loopw [5] (fun i wr => ∃ k : Nat, k ≤ la ∧ i = I J k ∧ Hid (q2m m xs k) ∧ Hid (Chg [] w wr)) (fun i _ => la - (intOf i).toNat)
 case atStart => exact ⟨0, by omega, rfl, q2m.zero m xs, Chg.refl _ _⟩
 case round =>
  obtain ⟨k, hk, rfl, HK, HC⟩ := hrel;by_cases hlt : k < la
  ·have hs := intL.sl_ext HA.o HC.o;obtain ⟨x, b, o, HX, rfl, Ah, Ag⟩ := q2n hs hlt;obtain ⟨g, hg⟩ := q6b hs (k := k) (by omega) ca (by omega) (by omega);have HB := hid (fun n => l1Has_any (some ⟨b, o, none⟩) k ca (xs.take k) g x (wr.drewN n) (intL.sl_keep hg (fun _ _ => rfl)));have HS := hid hs;have hk0 : (0 : Int) ≤ (k : Int) := by omega
   have hk1 : (k : Int) < (la : Int) := by omega
   have hk2 : (k : Int) ≤ (ca : Int) := by omega
   clear hs hg;have HI := hid (fun n => q7h x 0 m (wr.drewN n));by_cases h1 : 0 ≤ x ∧ x ≤ m
   ·rw [q1s h1.1 h1.2] at HI;by_cases h2 : x ∈ xs.take k
    ·have HR := hid (HF.o (fun h => ((h k x HX.o.1).2) h2));rw [q0e h2] at HB;clear h1 h2;go_wp2_with fail;go_quiet (first | (go_at_call 25; exact q4q (HI.o _)) | (go_at_call 53; exact q4q (HB.o _)));go_wp2_with fail;go_ret;exact ⟨q0l HR.o.symm, HC.o.drewN _⟩
    ·have HN := hid (HK.o.next HX.o.1 h1 h2);rw [q0d h2] at HB;clear h1 h2;go_wp2_with fail;go_quiet (first | (go_at_call 25; exact q4q (HI.o _)) | (go_at_call 53; exact q4q (HB.o _)));go_wp2_with fail;go_roundw
     case rel => exact ⟨k + 1, by omega, by go_num, HN, HC.o.drewN _⟩
     case measure => simp [intOf]; omega
   ·rw [q1w h1] at HI;have HR := hid (HF.o (fun h => h1 (h k x HX.o.1).1));clear h1;go_wp2_with fail;go_quiet (first | (go_at_call 25; exact q4q (HI.o _)));go_wp2_with fail;go_ret;exact ⟨q0l HR.o.symm, HC.o.drewN _⟩
  ·have HR := hid (HT.o (HK.o.all (by have := HL.o; omega)));go_wp2;go_ret;exact ⟨q0l HR.o.symm, HC.o⟩
theorem q6h (a : Option Addr) (la ca : Nat) (xs : List Int) (f : List Nat) (m : Int) (w : World) (ha : intL.sl w a la ca xs f) (_ : -1000 ≤ m) (_ : m ≤ 1000) :
  Calls Tryz.prog 57 #[Aa a la ca, I J m] w fun e w' => e = .returned (Ac (pb (q5d (m) xs))) ∧ Chg [] w w' := by
 have hm := intL.sl_max ha;have HL := hid ha.1;have HA := hid ha;clear ha;have HT := hid (fun h => q0e h : q5d (m) xs → pb (q5d (m) xs) = true);have HF := hid (fun h => q0d h : ¬ q5d (m) xs → pb (q5d (m) xs) = false);generalize pb (q5d (m) xs) = r at HT HF ⊢;go_enter Tryz.func57, Tryz.ntmps57;go_wp2;go_loopw [5] (fun i wr => ∃ k : Nat, k ≤ la ∧ i = I J k ∧ Hid (q4i (m) xs k) ∧ Hid (Chg [] w wr)) (fun i _ => la - (intOf i).toNat)
 case atStart => exact ⟨0, by omega, rfl, q4i.zero _ xs, Chg.refl _ _⟩
 case round =>
  obtain ⟨k, hk, rfl, HK, HC⟩ := hrel;by_cases hlt : k < la
  ·have hs := intL.sl_ext HA.o HC.o;obtain ⟨x, b, o, HX, rfl, Ah, Ag⟩ := q2n hs hlt;have HS := hid hs;clear hs;have hk0 : (0 : Int) ≤ (k : Int) := by omega
   have hk1 : (k : Int) < (la : Int) := by omega
   by_cases h1 : 0 ≤ x ∧ x ≤ m
   ·have Af := q1s h1.1 h1.2;obtain ⟨g1, g2⟩ := h1;have d1 : decide (x < 0) = false := decide_eq_false (by omega)
    have d2 : decide (m < x) = false := decide_eq_false (by omega)
    by_cases h0 : k = 0
    ·have HN := hid (HK.o.next HX.o.1 ⟨g1, g2⟩ (fun y h => by omega));have hd : decide ((0 : Int) < (k : Int)) = false := decide_eq_false (by omega)
     have hd2 : decide (0 < k) = false := decide_eq_false (by omega)
     have h00 : ¬ 0 < k := by omega
     have h01 : ¬ (0 : Int) < (k : Int) := by omega
     clear h0;go_wp2_with fail;go_quiet (fail);go_wp2_with fail;go_roundw
     case rel => exact ⟨k + 1, by omega, by go_num, HN, by first | exact HC.o | exact HC.o.drewN _⟩
     case measure => simp [intOf]; omega
    ·obtain ⟨y, b', o', HY, e', Aj, Ai⟩ := q2n HS.o (i := k - 1) (by omega);simp only [Option.some.injEq, Addr.mk.injEq, and_true] at e';obtain ⟨rfl, rfl⟩ := e';obtain ⟨j, rfl⟩ : ∃ j, k = j + 1 := ⟨k - 1, by omega⟩;simp only [Ak] at Aj HY;have e1 : IntKind.i64.wrap (((j + 1 : Nat) : Int) - 1) = (j : Int) := by rw [show ((j + 1 : Nat) : Int) - 1 = (j : Int) by omega]; exact IntWalk.i64_in _ (by omega)
     have e2 : ((j + 1 : Nat) : Int) - 1 = (j : Int) := by omega
     have hj1 : (j : Int) < (la : Int) := by omega
     have hj0 : (0 : Int) ≤ (j : Int) := by omega
     have hd : decide ((0 : Int) < ((j + 1 : Nat) : Int)) = true := decide_eq_true (by omega)
     by_cases h2 : y < x
     ·have HN := hid (HK.o.next HX.o.1 ⟨g1, g2⟩ (fun z _ hz => by have hz2 := HY.o.1; simp only [Ak] at hz; rw [hz] at hz2; cases hz2; exact h2));have h3 : decide (x ≤ y) = false := decide_eq_false (by omega)
      go_wp2_with fail;go_quiet (fail);go_wp2_with fail;go_roundw
      case rel => exact ⟨j + 1 + 1, by omega, by go_num, HN, by first | exact HC.o | exact HC.o.drewN _⟩
      case measure => simp [intOf]; omega
     ·have HR := hid (HF.o (fun h => h2 ((h (j + 1) x HX.o.1).2 y (by omega) (by simpa using HY.o.1))));have h3 : decide (x ≤ y) = true := decide_eq_true (by omega)
      go_wp2_with fail;go_quiet (fail);go_wp2_with fail;go_ret;exact ⟨q0l HR.o.symm, by first | exact HC.o | exact HC.o.drewN _⟩
   ·have Af := q1w h1;have HR := hid (HF.o (fun h => h1 (h k x HX.o.1).1));rcases Decidable.em (x < 0) with h3 | h3
    ·have d1 : decide (x < 0) = true := decide_eq_true h3
     clear h1 Af;go_wp2_with fail;go_quiet (fail);go_wp2_with fail;go_ret;exact ⟨q0l HR.o.symm, HC.o.drewN _⟩
    ·have h4 : m < x := by omega
     have d1 : decide (x < 0) = false := decide_eq_false h3
     have d2 : decide (m < x) = true := decide_eq_true h4
     clear h1 Af;go_wp2_with fail;go_quiet (fail);go_wp2_with fail;go_ret;exact ⟨q0l HR.o.symm, HC.o.drewN _⟩
  ·have HR := hid (HT.o (HK.o.all (by have := HL.o; omega)));go_wp2;go_ret;exact ⟨q0l HR.o.symm, HC.o⟩
theorem q4e (a : Option Addr) (la ca : Nat) (xs : List Int) (f : List Nat) (m : Int) (w : World) (ha : intL.sl w a la ca xs f) (_ : -1000 ≤ m) (_ : m ≤ 1000) :
  Calls Tryz.prog 133 #[Aa a la ca, I J m] w fun e w' => e = .returned (Ac (pb (q5d (m - 1) xs))) ∧ Chg [] w w' := by
 have hm := intL.sl_max ha;have HL := hid ha.1;have HA := hid ha;clear ha;have HT := hid (fun h => q0e h : q5d (m - 1) xs → pb (q5d (m - 1) xs) = true);have HF := hid (fun h => q0d h : ¬ q5d (m - 1) xs → pb (q5d (m - 1) xs) = false);generalize pb (q5d (m - 1) xs) = r at HT HF ⊢;go_enter Tryz.func133, Tryz.ntmps133;go_wp2;go_loopw [5, 6, 9] (fun u v i wr => ∃ k : Nat, k ≤ la ∧ i = I J k ∧ Hid (q4i (m - 1) xs k) ∧ Hid (Chg [] w wr)) (fun u v i _ => la - (intOf i).toNat)
 case atStart => exact ⟨0, by omega, rfl, q4i.zero _ xs, Chg.refl _ _⟩
 case round =>
  obtain ⟨k, hk, rfl, HK, HC⟩ := hrel;by_cases hlt : k < la
  ·have hs := intL.sl_ext HA.o HC.o;obtain ⟨x, b, o, HX, rfl, Ah, Ag⟩ := q2n hs hlt;have HS := hid hs;clear hs;have hk0 : (0 : Int) ≤ (k : Int) := by omega
   have hk1 : (k : Int) < (la : Int) := by omega
   by_cases h1 : 0 ≤ x ∧ x ≤ m - 1
   ·have Af := q1s h1.1 h1.2;obtain ⟨g1, g2⟩ := h1;have d1 : decide (x < 0) = false := decide_eq_false (by omega)
    have d2 : decide (m - 1 < x) = false := decide_eq_false (by omega)
    by_cases h0 : k = 0
    ·have HN := hid (HK.o.next HX.o.1 ⟨g1, g2⟩ (fun y h => by omega));have hd : decide ((0 : Int) < (k : Int)) = false := decide_eq_false (by omega)
     have hd2 : decide (0 < k) = false := decide_eq_false (by omega)
     have h00 : ¬ 0 < k := by omega
     have h01 : ¬ (0 : Int) < (k : Int) := by omega
     clear h0;go_wp2_with fail;refine (q2g x 0 (m - 1) _).mono ?_; rintro e w' ⟨rfl, rfl⟩;rw [Af];go_wp2_with fail;go_roundw
     case rel => exact ⟨k + 1, by omega, by go_num, HN, by first | exact HC.o | exact HC.o.drewN _⟩
     case measure => simp [intOf]; omega
    ·obtain ⟨y, b', o', HY, e', Aj, Ai⟩ := q2n HS.o (i := k - 1) (by omega);simp only [Option.some.injEq, Addr.mk.injEq, and_true] at e';obtain ⟨rfl, rfl⟩ := e';obtain ⟨j, rfl⟩ : ∃ j, k = j + 1 := ⟨k - 1, by omega⟩;simp only [Ak] at Aj HY;have e1 : IntKind.i64.wrap (((j + 1 : Nat) : Int) - 1) = (j : Int) := by rw [show ((j + 1 : Nat) : Int) - 1 = (j : Int) by omega]; exact IntWalk.i64_in _ (by omega)
     have e2 : ((j + 1 : Nat) : Int) - 1 = (j : Int) := by omega
     have hj1 : (j : Int) < (la : Int) := by omega
     have hj0 : (0 : Int) ≤ (j : Int) := by omega
     have hd : decide ((0 : Int) < ((j + 1 : Nat) : Int)) = true := decide_eq_true (by omega)
     by_cases h2 : y < x
     ·have HN := hid (HK.o.next HX.o.1 ⟨g1, g2⟩ (fun z _ hz => by have hz2 := HY.o.1; simp only [Ak] at hz; rw [hz] at hz2; cases hz2; exact h2));have h3 : decide (x ≤ y) = false := decide_eq_false (by omega)
      go_wp2_with fail;refine (q2g x 0 (m - 1) _).mono ?_; rintro e w' ⟨rfl, rfl⟩;rw [Af];go_wp2_with fail;go_roundw
      case rel => exact ⟨j + 1 + 1, by omega, by go_num, HN, by first | exact HC.o | exact HC.o.drewN _⟩
      case measure => simp [intOf]; omega
     ·have HR := hid (HF.o (fun h => h2 ((h (j + 1) x HX.o.1).2 y (by omega) (by simpa using HY.o.1))));have h3 : decide (x ≤ y) = true := decide_eq_true (by omega)
      go_wp2_with fail;refine (q2g x 0 (m - 1) _).mono ?_; rintro e w' ⟨rfl, rfl⟩;rw [Af];go_wp2_with fail;go_ret;exact ⟨q0l HR.o.symm, by first | exact HC.o | exact HC.o.drewN _⟩
   ·have Af := q1w h1;have HR := hid (HF.o (fun h => h1 (h k x HX.o.1).1));clear h1;go_wp2_with fail;refine (q2g x 0 (m - 1) _).mono ?_; rintro e w' ⟨rfl, rfl⟩;rw [Af];go_wp2_with fail;go_ret;exact ⟨q0l HR.o.symm, HC.o⟩
  ·have HR := hid (HT.o (HK.o.all (by have := HL.o; omega)));go_wp2;go_ret;exact ⟨q0l HR.o.symm, HC.o⟩
end Go.Proofs.YthhaednigdgclaaGreat
