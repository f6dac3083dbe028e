/- Several texts in one. -/
import Derived.Test.YthhaednigdgclaaGreatYaa
open Go.Value renaming int → I, slice → Aa, string → Ab, bool → Ac
open Go.IntKind renaming i64 → J
open Go.Obj renaming cells → Ad
open List renaming getElem?_eq_getElem → Ah, length_take → Ai, length_drop → Aj, getElem?_eq_some_iff → Ak, append_assoc → Al, length_append → Am, getElem_of_mem → Ao, take_append_drop → Ap, mem_filter → Aq, filter_cons → Ar, take_of_length_le → Au, getElem_drop → Av, drop_eq_getElem_cons → Aw, filter_append → Ax, mem_singleton → Ay, getElem_take → Az, cons_append → A9, drop_append_of_le_length → AA, take_append_of_le_length → AB, drop_zero → AC, rel_of_pairwise_cons → AD, getElem?_cons_succ → AE, mem_append → AG, length_set → AH, getElem?_set_self → AJ, drop_eq_nil_of_le → AK, set_append_right → AL, pairwise_append → AO, getElem?_set_ne → AP, mem_cons → AQ, nil_append → AR, drop_drop → AU, drop_left → AV
set_option maxRecDepth 100000
set_option maxHeartbeats 8000000
namespace Go.Proofs.YthhaednigdgclaaGreat
open Go.RowKit
open Go.Lib (hid)
structure Ordr {α : Type} (lt : α → α → Bool) : Prop where
 irr : ∀ x, lt x x = false
 tr : ∀ x y z, lt x y = true → lt y z = true → lt x z = true
 ntr : ∀ x y z, lt x y = false → lt y z = false → lt x z = false
section
variable {α : Type} {lt : α → α → Bool}
def eqv (lt : α → α → Bool) (x y : α) : Bool := !lt x y && !lt y x
def Stab (lt : α → α → Bool) (xs ys : List α) : Prop := ys.length = xs.length ∧ ∀ x, ys.filter (eqv lt x) = xs.filter (eqv lt x)
def Srt (lt : α → α → Bool) (xs : List α) : Prop := xs.Pairwise (fun x y => lt y x = false)
theorem q4z (o : Ordr lt) (x : α) : eqv lt x x = true := by unfold eqv; rw [o.irr]; rfl
theorem q7n {x y : α} (h : eqv lt x y = true) : lt x y = false ∧ lt y x = false := by
 unfold eqv at h
 simpa using h
theorem Ordr.asym (o : Ordr lt) {x y : α} (h : lt x y = true) : lt y x = false := by
 cases h2 : lt y x
 ·rfl
 ·have := o.tr x y x h h2; rw [o.irr] at this; cases this
theorem Stab.refl (xs : List α) : Stab lt xs xs := ⟨rfl, fun _ => rfl⟩
theorem Stab.trans {xs ys zs : List α} (h : Stab lt xs ys) (k : Stab lt ys zs) : Stab lt xs zs := ⟨k.1.trans h.1, fun x => (k.2 x).trans (h.2 x)⟩
theorem Stab.app {a b c d : List α} (h : Stab lt a b) (k : Stab lt c d) : Stab lt (a ++ c) (b ++ d) :=
 ⟨by rw [Am, Am, h.1, k.1], fun x => by rw [Ax, Ax, h.2, k.2]⟩
theorem Stab.swap (o : Ordr lt) {V X : List α} (h : ∀ x ∈ X, ∀ v ∈ V, lt x v = true) : Stab lt (V ++ X) (X ++ V) := by
 refine ⟨by simp [Nat.add_comm], fun z => ?_⟩;rw [Ax, Ax];by_cases hv : V.filter (eqv lt z) = []
 ·rw [hv]; simp
 ·obtain ⟨v, hv⟩ := List.exists_mem_of_ne_nil _ hv;obtain ⟨hv1, hv2⟩ := Aq.1 hv;have hx : X.filter (eqv lt z) = [] := by
   rw [List.filter_eq_nil_iff];intro x hx h2;have e1 := o.ntr x z v (q7n h2).2 (q7n hv2).1;rw [h x hx v hv1] at e1; cases e1
  rw [hx]; simp
theorem Stab.mem (o : Ordr lt) {xs ys : List α} (h : Stab lt xs ys) {x : α} : x ∈ ys ↔ x ∈ xs := by
 have h2 := h.2 x;constructor
 ·intro hx;have : x ∈ ys.filter (eqv lt x) := Aq.2 ⟨hx, q4z o x⟩;rw [h2] at this;exact (Aq.1 this).1
 ·intro hx;have : x ∈ xs.filter (eqv lt x) := Aq.2 ⟨hx, q4z o x⟩;rw [← h2] at this;exact (Aq.1 this).1
theorem srt_uniq (o : Ordr lt) : ∀ {ys zs : List α}, Srt lt ys → Srt lt zs → (∀ x, ys.filter (eqv lt x) = zs.filter (eqv lt x)) → ys = zs
 | [], [], _, _, _ => rfl
 | [], z :: zs, _, _, h => by have := h z; rw [Ar, if_pos (q4z o z)] at this; cases this
 | y :: ys, [], _, _, h => by have := h y; rw [Ar, if_pos (q4z o y)] at this; cases this
 | y :: ys, z :: zs, hy, hz, h => by
  have hmy : y ∈ z :: zs := by
   have : y ∈ (y :: ys).filter (eqv lt y) := Aq.2 ⟨by simp, q4z o y⟩;rw [h y] at this;exact (Aq.1 this).1
  have hmz : z ∈ y :: ys := by
   have : z ∈ (z :: zs).filter (eqv lt z) := Aq.2 ⟨by simp, q4z o z⟩;rw [← h z] at this;exact (Aq.1 this).1
  have e1 : lt y z = false := by
   rcases AQ.1 hmy with rfl | hm
   ·exact o.irr _
   ·exact AD hz hm
  have e2 : lt z y = false := by
   rcases AQ.1 hmz with rfl | hm
   ·exact o.irr _
   ·exact AD hy hm
  have hyz : eqv lt y z = true := by unfold eqv; rw [e1, e2]; rfl
  have h1 := h y;rw [Ar, if_pos (q4z o y), Ar, if_pos hyz] at h1;obtain rfl : y = z := (List.cons.inj h1).1;rw [srt_uniq o (List.Pairwise.of_cons hy) (List.Pairwise.of_cons hz) (fun x => by
   have h2 := h x;rw [Ar, Ar] at h2
   split at h2
   ·exact (List.cons.inj h2).2
   ·exact h2)]
theorem Stab.uniq (o : Ordr lt) {xs ys zs : List α} (hy : Srt lt ys) (hz : Srt lt zs) (h : Stab lt xs ys) (k : Stab lt xs zs) : ys = zs := srt_uniq o hy hz (fun x => (h.2 x).trans (k.2 x).symm)
def AllLe (lt : α → α → Bool) (xs ys : List α) : Prop := ∀ x ∈ xs, ∀ y ∈ ys, lt y x = false
theorem Srt.app {xs ys : List α} (h : Srt lt xs) (k : Srt lt ys) (hl : AllLe lt xs ys) : Srt lt (xs ++ ys) := AO.2 ⟨h, k, hl⟩
theorem Srt.parts {xs ys : List α} (h : Srt lt (xs ++ ys)) : Srt lt xs ∧ Srt lt ys ∧ AllLe lt xs ys := AO.1 h
theorem q6j (o : Ordr lt) {out : List α} {r : α} {k : Nat} (h1 : ∀ x ∈ out.drop k, lt r x = true) : Stab lt (out ++ [r]) (out.take k ++ (r :: out.drop k)) := by
 have h2 : Stab lt (out.drop k ++ [r]) ([r] ++ out.drop k) := Stab.swap o (fun x hx v hv => by rw [Ay] at hx; subst hx; exact h1 v hv);have h3 := (Stab.refl (lt := lt) (out.take k)).app h2;rw [← Al, Ap] at h3;exact h3
theorem q7z (o : Ordr lt) {out : List α} {r : α} {k : Nat} (hs : Srt lt out) (h1 : ∀ x ∈ out.drop k, lt r x = true) (h2 : ∀ x ∈ out.take k, lt r x = false) : Srt lt (out.take k ++ (r :: out.drop k)) := by
 have hp := hs;rw [← Ap k out] at hp;obtain ⟨p1, p2, p3⟩ := Srt.parts hp;refine Srt.app p1 (List.pairwise_cons.2 ⟨fun x hx => o.asym (h1 x hx), p2⟩) (fun x hx y hy => ?_);rcases AQ.1 hy with rfl | hy
 ·exact h2 x hx
 ·exact p3 x hx y hy
theorem merge_parts (o : Ordr lt) {U V X Y M1 M2 : List α} (hXV : ∀ x ∈ X, ∀ v ∈ V, lt x v = true) (hUV : AllLe lt U V) (hUY : AllLe lt U Y) (hXY : AllLe lt X Y)
  (s1 : Srt lt M1) (b1 : Stab lt (U ++ X) M1) (s2 : Srt lt M2) (b2 : Stab lt (V ++ Y) M2) : Srt lt (M1 ++ M2) ∧ Stab lt ((U ++ V) ++ (X ++ Y)) (M1 ++ M2) := by
 refine ⟨Srt.app s1 s2 (fun x hx y hy => ?_), ?_⟩
 ·have Ae := AG.1 ((b1.mem o).1 hx);have hy' := AG.1 ((b2.mem o).1 hy);rcases Ae with Ae | Ae <;> rcases hy' with hy' | hy'
  ·exact hUV x Ae y hy'
  ·exact hUY x Ae y hy'
  ·exact o.asym (hXV x Ae y hy')
  ·exact hXY x Ae y hy'
 ·have h1 : Stab lt ((U ++ V) ++ (X ++ Y)) ((U ++ X) ++ (V ++ Y)) := by
   have := ((Stab.refl (lt := lt) U).app (Stab.swap o hXV)).app (Stab.refl (lt := lt) Y)
   simpa using this
  exact h1.trans (b1.app b2)
end
end Go.Proofs.YthhaednigdgclaaGreat
namespace Go.Proofs.YthhaednigdgclaaGreat
open Go.RowKit
open Go.Lib (hid)
section
variable {β : Type}
def SwR (ps ps' : List β) (a b k : Nat) : Prop := ps'.length = ps.length ∧ ∀ t, ps'[t]? = if a ≤ t ∧ t < a + k then ps[t - a + b]? else if b ≤ t ∧ t < b + k then ps[t - b + a]? else ps[t]?
theorem sw_at {ps : List β} {i j : Nat} {p q : β} (hi : ps[i]? = some p) (hj : ps[j]? = some q) (t : Nat) : ((ps.set i q).set j p)[t]? = if t = j then ps[i]? else if t = i then ps[j]? else ps[t]? := by
 have h1 := (Ak.1 hi).1;have h2 := (Ak.1 hj).1;by_cases e : t = j
 ·subst e;rw [if_pos rfl, AJ (by rw [AH]; exact h2), hi]
 ·rw [if_neg e, AP (fun h => e h.symm)];by_cases e2 : t = i
  ·subst e2;rw [if_pos rfl, AJ h1, hj]
  ·rw [if_neg e2, AP (fun h => e2 h.symm)]
theorem SwR.zero (ps : List β) (a b : Nat) : SwR ps ps a b 0 := ⟨rfl, fun t => by rw [if_neg (by omega), if_neg (by omega)]⟩
theorem SwR.next {ps ps' : List β} {a b k : Nat} (h : SwR ps ps' a b k) (hab : a + k < b) {p q : β} (hi : ps'[a + k]? = some p) (hj : ps'[b + k]? = some q) : SwR ps ((ps'.set (a + k) q).set (b + k) p) a b (k + 1) := by
 refine ⟨by rw [AH, AH]; exact h.1, fun t => ?_⟩;rw [sw_at hi hj, h.2 (a + k), h.2 (b + k), h.2 t];rw [if_neg (show ¬ (a ≤ a + k ∧ a + k < a + k) by omega), if_neg (show ¬ (b ≤ a + k ∧ a + k < b + k) by omega), if_neg (show ¬ (a ≤ b + k ∧ b + k < a + k) by omega), if_neg (show ¬ (b ≤ b + k ∧ b + k < b + k) by omega)];by_cases e1 : t = b + k
 ·rw [if_pos e1, if_neg (by omega), if_pos (by omega)]; congr 1; omega
 ·rw [if_neg e1];by_cases e2 : t = a + k
  ·rw [if_pos e2, if_pos (by omega)]; congr 1; omega
  ·rw [if_neg e2];by_cases e3 : a ≤ t ∧ t < a + k
   ·rw [if_pos e3, if_pos (by omega)]
   ·rw [if_neg e3, if_neg (show ¬ (a ≤ t ∧ t < a + (k + 1)) by omega)];by_cases e4 : b ≤ t ∧ t < b + k
    ·rw [if_pos e4, if_pos (show b ≤ t ∧ t < b + (k + 1) by omega)]
    ·rw [if_neg e4, if_neg (show ¬ (b ≤ t ∧ t < b + (k + 1)) by omega)]
theorem q1v {A B : List β} {t : Nat} (h : A.length ≤ t) : (A ++ B)[t]? = B[t - A.length]? := List.getElem?_append_right h
theorem q3u {A B : List β} {t : Nat} (h : t < A.length) : (A ++ B)[t]? = A[t]? := List.getElem?_append_left h
theorem SwR.lists {A U M V B ps' : List β} {a b k : Nat} (h : SwR (A ++ (U ++ (M ++ (V ++ B)))) ps' a b k) (ha : A.length = a) (hu : U.length = k) (hv : V.length = k) (hb : a + k + M.length = b) : ps' = A ++ (V ++ (M ++ (U ++ B))) := by
 apply List.ext_getElem?;intro t;rw [h.2 t];by_cases e1 : t < a
 ·rw [if_neg (by omega), if_neg (by omega), q3u (by omega), q3u (by omega)]
 ·by_cases e2 : t < a + k
  ·rw [if_pos (by omega), q1v (by omega), q1v (by omega), q1v (by omega), q3u (by omega), q1v (by omega), q3u (by omega)]
   congr 1; omega
  ·rw [if_neg (by omega)];by_cases e3 : t < b
   ·rw [if_neg (by omega), q1v (by omega), q1v (by omega), q3u (by omega), q1v (by omega), q1v (by omega), q3u (by omega)]
    congr 1; omega
   ·by_cases e4 : t < b + k
    ·rw [if_pos (by omega), q1v (by omega), q3u (by omega), q1v (by omega), q1v (by omega), q1v (by omega), q3u (by omega)]
     congr 1; omega
    ·rw [if_neg (by omega), q1v (by omega), q1v (by omega), q1v (by omega), q1v (by omega), q1v (by omega), q1v (by omega), q1v (by omega), q1v (by omega)]
     congr 1; omega
def RotR (m : Nat) (goal ps : List β) (i j : Nat) : Prop := ∃ A U V B : List β, ps = A ++ (U ++ (V ++ B)) ∧ A.length + i = m ∧ U.length = i ∧ V.length = j ∧ A ++ (V ++ (U ++ B)) = goal
theorem RotR.left {m i j : Nat} {goal ps ps' : List β} (h : RotR m goal ps i j) (Ag : j < i) (hs : SwR ps ps' (m - i) m j) : RotR m goal ps' (i - j) j := by
 obtain ⟨A, U, V, B, rfl, h1, h2, h3, h4⟩ := h;have e := (Ap j U).symm;rw [e, Al] at hs;have h5 := hs.lists (by omega) (by rw [Ai]; omega) h3 (by rw [Aj]; omega);refine ⟨A ++ V, U.drop j, U.take j, B, by rw [h5]; simp, by rw [Am]; omega, by rw [Aj]; omega, by rw [Ai]; omega, ?_⟩;rw [← h4];have : U.take j ++ (U.drop j ++ B) = U ++ B := by rw [← Al, Ap]
 rw [this]; simp
theorem RotR.right {m i j : Nat} {goal ps ps' : List β} (h : RotR m goal ps i j) (Ag : i < j) (hs : SwR ps ps' (m - i) (m + j - i) i) : RotR m goal ps' i (j - i) := by
 obtain ⟨A, U, V, B, rfl, h1, h2, h3, h4⟩ := h;have e := (Ap (j - i) V).symm;rw [e, Al] at hs;have h5 := hs.lists (by omega) h2 (by rw [Aj]; omega) (by rw [Ai]; omega);refine ⟨A, V.drop (j - i), V.take (j - i), U ++ B, h5, h1, by rw [Aj]; omega, by rw [Ai]; omega, ?_⟩;rw [← h4];have : V.take (j - i) ++ (V.drop (j - i) ++ (U ++ B)) = V ++ (U ++ B) := by rw [← Al, Ap]
 rw [this]
theorem RotR.last {m i : Nat} {goal ps ps' : List β} (h : RotR m goal ps i i) (hs : SwR ps ps' (m - i) m i) : ps' = goal := by
 obtain ⟨A, U, V, B, rfl, h1, h2, h3, h4⟩ := h;have e : A ++ (U ++ (V ++ B)) = A ++ (U ++ ([] ++ (V ++ B))) := by simp
 rw [e] at hs;have h5 := hs.lists (by omega) h2 h3 (by simp; omega);rw [h5, ← h4]; simp
theorem sw_next {C D : List β} {x y : β} {k : Nat} (hk : C.length = k) : ((C ++ (x :: y :: D)).set k y).set (k + 1) x = C ++ (y :: x :: D) := by
 subst hk;rw [AL _ _ (Nat.le_refl _), Nat.sub_self, List.set_cons_zero, AL _ _ (by omega), show C.length + 1 - C.length = 1 by omega]
 rfl
theorem sw_prev {C D : List β} {x y : β} {k : Nat} (hk : C.length = k) : ((C ++ (x :: y :: D)).set (k + 1) x).set k y = C ++ (y :: x :: D) := by
 rw [List.set_comm _ _ (by omega)]; exact sw_next hk
def thru (A S B : List β) (x : β) (k : Nat) : List β := A ++ (S.take k ++ (x :: (S.drop k ++ B)))
theorem thru_at {A S B : List β} {x : β} {k : Nat} (hk : k ≤ S.length) : (thru A S B x k)[A.length + k]? = some x := by
 unfold thru;rw [q1v (by omega), q1v (by rw [Ai]; omega)];rw [show A.length + k - A.length - (S.take k).length = 0 by rw [Ai]; omega]; rfl
theorem thru_next {A S B : List β} {x : β} {k : Nat} (hk : k < S.length) : (thru A S B x k)[A.length + k + 1]? = some S[k] := by
 unfold thru;rw [q1v (by omega), q1v (by rw [Ai]; omega)];rw [show A.length + k + 1 - A.length - (S.take k).length = 1 by rw [Ai]; omega, Aw hk]; rfl
theorem thru_prev {A S B : List β} {x : β} {k : Nat} (hk : k < S.length) : (thru A S B x (k + 1))[A.length + k]? = some S[k] := by
 unfold thru;rw [q1v (by omega), q3u (by rw [Ai]; omega), List.getElem?_take_of_lt (by omega), show A.length + k - A.length = k by omega, Ah hk]
theorem q6y {A S B : List β} {x : β} {k : Nat} : (thru A S B x k).length = A.length + S.length + 1 + B.length := by
 unfold thru;simp only [Am, Ai, List.length_cons, Aj];omega
theorem thru_up {A S B : List β} {x : β} {k : Nat} (hk : k < S.length) : ((thru A S B x k).set (A.length + k) S[k]).set (A.length + k + 1) x = thru A S B x (k + 1) := by
 unfold thru;have e : A ++ (S.take k ++ (x :: (S.drop k ++ B))) = (A ++ S.take k) ++ (x :: S[k] :: (S.drop (k + 1) ++ B)) := by
  rw [Aw hk]; simp only [Al, A9]
 rw [e, sw_next (by rw [Am, Ai]; omega), q1e (Ah hk)];simp only [Al, A9, AR]
theorem thru_down {A S B : List β} {x : β} {k : Nat} (hk : k < S.length) : ((thru A S B x (k + 1)).set (A.length + k + 1) S[k]).set (A.length + k) x = thru A S B x k := by
 unfold thru;have e : A ++ (S.take (k + 1) ++ (x :: (S.drop (k + 1) ++ B))) = (A ++ S.take k) ++ (S[k] :: x :: (S.drop (k + 1) ++ B)) := by
  rw [q1e (Ah hk)]; simp only [Al, A9, AR]
 rw [e, sw_prev (by rw [Am, Ai]; omega), Aw hk];simp only [Al, A9]
end
section
def Bnd (P : Nat → Bool) (lo hi i j : Nat) : Prop := (∀ t, lo ≤ t → t < i → P t = true) ∧ (∀ t, j ≤ t → t < hi → P t = false)
def Anti (P : Nat → Bool) (lo hi : Nat) : Prop := ∀ s t, lo ≤ s → s ≤ t → t < hi → P t = true → P s = true
theorem Bnd.zero (P : Nat → Bool) (lo hi : Nat) : Bnd P lo hi lo hi := ⟨fun t h1 h2 => by omega, fun t h1 h2 => by omega⟩
theorem Bnd.yes {P : Nat → Bool} {lo hi i j h : Nat} (hb : Bnd P lo hi i j) (ha : Anti P lo hi) (hh : h < hi) (hp : P h = true) : Bnd P lo hi (h + 1) j :=
 ⟨fun t h1 h2 => ha t h h1 (by omega) hh hp, hb.2⟩
theorem Bnd.no {P : Nat → Bool} {lo hi i j h : Nat} (hb : Bnd P lo hi i j) (ha : Anti P lo hi) (hl : lo ≤ h) (hp : P h = false) : Bnd P lo hi i h :=
 ⟨hb.1, fun t h1 h2 => by
  cases e : P t
  ·rfl
  ·rw [ha h t hl h1 h2 e] at hp; cases hp⟩
end
section
variable {β : Type} {lt : β → β → Bool}
def ltAt (lt : β → β → Bool) : Option β → Option β → Bool
 | some p, some q => lt p q
 | _, _ => false
theorem Ordr.le_trans (o : Ordr lt) {x y z : β} (h : lt y x = false) (k : lt z y = false) : lt z x = false := o.ntr z y x k h
theorem Ordr.lt_le (o : Ordr lt) {x y z : β} (h : lt x y = true) (k : lt z y = false) : lt x z = true := by
 cases e : lt x z
 ·rw [o.ntr x z y e k] at h; cases h
 ·rfl
theorem Ordr.le_lt (o : Ordr lt) {x y z : β} (h : lt y x = false) (k : lt y z = true) : lt x z = true := by
 cases e : lt x z
 ·rw [o.ntr y x z h e] at k; cases k
 ·rfl
theorem Srt.at (o : Ordr lt) {xs : List β} (h : Srt lt xs) {i j : Nat} (Ag : i ≤ j) {x y : β} (hx : xs[i]? = some x) (hy : xs[j]? = some y) : lt y x = false := by
 rcases Nat.eq_or_lt_of_le Ag with rfl | hlt
 ·rw [hx] at hy; obtain rfl := Option.some.inj hy; exact o.irr _
 ·obtain ⟨h1, rfl⟩ := Ak.1 hx;obtain ⟨h2, rfl⟩ := Ak.1 hy;exact List.pairwise_iff_getElem.1 h i j h1 h2 hlt
theorem Srt.take {xs : List β} (h : Srt lt xs) (k : Nat) : Srt lt (xs.take k) := List.Pairwise.sublist (List.take_sublist _ _) h
theorem Srt.drop {xs : List β} (h : Srt lt xs) (k : Nat) : Srt lt (xs.drop k) := List.Pairwise.sublist (List.drop_sublist _ _) h
theorem one_left (o : Ordr lt) {A R B : List β} {x : β} {i m : Nat} (hm : A.length + 1 = m) (hi : m ≤ i) (hs : Srt lt R) (hb : Bnd (fun t => ltAt lt (A ++ (x :: (R ++ B)))[t]? (some x)) m (m + R.length) i i) (hi2 : i ≤ m + R.length) :
  ∃ M, thru A R B x (i - m) = A ++ (M ++ B) ∧ Srt lt M ∧ Stab lt ([x] ++ R) M := by
 have hat : ∀ k y, R[k]? = some y → (A ++ (x :: (R ++ B)))[m + k]? = some y := fun k y hy => by
  have hk := (Ak.1 hy).1;rw [q1v (by omega), show m + k - A.length = k + 1 by omega, AE, q3u hk, hy]
 have h1 : ∀ y ∈ R.take (i - m), lt y x = true := fun y hy => by
  obtain ⟨k, hk, rfl⟩ := Ao hy;rw [Ai] at hk;have h2 := hb.1 (m + k) (by omega) (by omega);dsimp only at h2;rw [hat k R[k] (Ah (by omega))] at h2;rw [Az]; exact h2
 have h2 : ∀ y ∈ R.drop (i - m), lt y x = false := fun y hy => by
  obtain ⟨k, hk, rfl⟩ := Ao hy;rw [Aj] at hk;have h2 := hb.2 (m + (i - m + k)) (by omega) (by omega);dsimp only at h2;rw [hat (i - m + k) R[i - m + k] (Ah (by omega))] at h2;rw [Av]; exact h2
 refine ⟨R.take (i - m) ++ ([x] ++ R.drop (i - m)), by unfold thru; simp, ?_, ?_⟩
 ·refine Srt.app (hs.take _) (Srt.app (List.pairwise_singleton _ _) (hs.drop _) (fun a ha y hy => ?_)) (fun y hy z hz => ?_)
  ·rw [Ay] at ha; subst ha; exact h2 y hy
  ·rcases AG.1 hz with hz | hz
   ·rw [Ay] at hz; subst hz; exact o.asym (h1 y hy)
   ·have := hs; rw [← Ap (i - m) R] at this;exact (Srt.parts this).2.2 y hy z hz
 ·have h3 : Stab lt ([x] ++ R.take (i - m)) (R.take (i - m) ++ [x]) := Stab.swap o (fun y hy v hv => by rw [Ay] at hv; subst hv; exact h1 y hy);have h4 := h3.app (Stab.refl (R.drop (i - m)));rw [Al, Ap, Al] at h4;exact h4
theorem one_right (o : Ordr lt) {A L B : List β} {y : β} {i a : Nat} (ha : A.length = a) (hi : a ≤ i) (hs : Srt lt L) (hb : Bnd (fun t => !ltAt lt (some y) (A ++ (L ++ (y :: B)))[t]?) a (a + L.length) i i) (hi2 : i ≤ a + L.length) :
  ∃ M, thru A L B y (i - a) = A ++ (M ++ B) ∧ Srt lt M ∧ Stab lt (L ++ [y]) M := by
 have hat : ∀ k z, L[k]? = some z → (A ++ (L ++ (y :: B)))[a + k]? = some z := fun k z hz => by
  have hk := (Ak.1 hz).1;rw [q1v (by omega), show a + k - A.length = k by omega, q3u hk, hz]
 refine ⟨L.take (i - a) ++ (y :: L.drop (i - a)), by unfold thru; simp, q7z o hs (fun x hx => ?_) (fun x hx => ?_), q6j o (fun x hx => ?_)⟩
 ·obtain ⟨k, hk, rfl⟩ := Ao hx;rw [Aj] at hk;have h2 := hb.2 (a + (i - a + k)) (by omega) (by omega);dsimp only at h2;rw [hat (i - a + k) L[i - a + k] (Ah (by omega))] at h2;rw [Av]; simpa [ltAt] using h2
 ·obtain ⟨k, hk, rfl⟩ := Ao hx;rw [Ai] at hk;have h2 := hb.1 (a + k) (by omega) (by omega);dsimp only at h2;rw [hat k L[k] (Ah (by omega))] at h2;rw [Az]; simpa [ltAt] using h2
 ·obtain ⟨k, hk, rfl⟩ := Ao hx;rw [Aj] at hk;have h2 := hb.2 (a + (i - a + k)) (by omega) (by omega);dsimp only at h2;rw [hat (i - a + k) L[i - a + k] (Ah (by omega))] at h2;rw [Av]; simpa [ltAt] using h2
theorem sym_cut (o : Ordr lt) {A L R B : List β} {a m b mid s r0 s0 : Nat} (ha : A.length = a) (hm : a + L.length = m) (hb : m + R.length = b) (hL : Srt lt L) (hR : Srt lt R) (hlo : a < mid) (hhi : mid < b)
  (hsr : (mid < m ∧ s0 = mid + m - b ∧ b ≤ mid + m ∧ r0 = mid) ∨ (m ≤ mid ∧ s0 = a ∧ r0 = m)) (Af : 2 * mid ≤ a + b ∧ a + b ≤ 2 * mid + 1) (h0 : s0 ≤ s) (h1 : s ≤ r0)
  (hbd : Bnd (fun c => !ltAt lt (A ++ (L ++ (R ++ B)))[mid + m - 1 - c]? (A ++ (L ++ (R ++ B)))[c]?) s0 r0 s s) :
  (∀ x ∈ R.take (mid - s), ∀ v ∈ L.drop (s - a), lt x v = true) ∧ AllLe lt (L.take (s - a)) (R.drop (mid - s)) := by
 have hl : ∀ k v, L[k]? = some v → (A ++ (L ++ (R ++ B)))[a + k]? = some v := fun k z hz => by
  have hk := (Ak.1 hz).1;rw [q1v (by omega), show a + k - A.length = k by omega, q3u hk, hz]
 have hr : ∀ k v, R[k]? = some v → (A ++ (L ++ (R ++ B)))[m + k]? = some v := fun k z hz => by
  have hk := (Ak.1 hz).1;rw [q1v (by omega), q1v (by omega), show m + k - A.length - L.length = k by omega, q3u hk, hz]
 refine ⟨fun x hx v hv => ?_, fun u hu y hy => ?_⟩
 ·obtain ⟨k, hk, rfl⟩ := Ao hx;obtain ⟨k2, hk2, rfl⟩ := Ao hv;rw [Ai] at hk;rw [Aj] at hk2;rw [Az, Av];have h2 := hbd.2 s (Nat.le_refl _) (by omega);dsimp only at h2;rw [show mid + m - 1 - s = m + (mid - s - 1) by omega, hr (mid - s - 1) R[mid - s - 1] (Ah (by omega)), show (A ++ (L ++ (R ++ B)))[s]? = some (L[s - a]'(by omega)) from by
   have := hl (s - a) (L[s - a]'(by omega)) (Ah (by omega)); rwa [show a + (s - a) = s by omega] at this] at h2
  have h3 : lt (R[mid - s - 1]'(by omega)) (L[s - a]'(by omega)) = true := by simpa [ltAt] using h2
  have h4 := Srt.at o hR (show k ≤ mid - s - 1 by omega) (Ah (by omega)) (Ah (by omega));have h5 := Srt.at o hL (show s - a ≤ s - a + k2 by omega) (Ah (by omega)) (Ah (by omega));exact o.lt_le (o.le_lt h4 h3) h5
 ·obtain ⟨k, hk, rfl⟩ := Ao hu;obtain ⟨k2, hk2, rfl⟩ := Ao hy;rw [Ai] at hk;rw [Aj] at hk2;rw [Az, Av];have h2 := hbd.1 (s - 1) (by omega) (by omega);dsimp only at h2;rw [show mid + m - 1 - (s - 1) = m + (mid - s) by omega, hr (mid - s) (R[mid - s]'(by omega)) (Ah (by omega)), show (A ++ (L ++ (R ++ B)))[s - 1]? = some (L[s - 1 - a]'(by omega)) from by
   have := hl (s - 1 - a) (L[s - 1 - a]'(by omega)) (Ah (by omega)); rwa [show a + (s - 1 - a) = s - 1 by omega] at this] at h2
  have h3 : lt (R[mid - s]'(by omega)) (L[s - 1 - a]'(by omega)) = false := by simpa [ltAt] using h2
  have h4 := Srt.at o hL (show k ≤ s - 1 - a by omega) (Ah (by omega)) (Ah (by omega));have h5 := Srt.at o hR (show mid - s ≤ mid - s + k2 by omega) (Ah (by omega)) (Ah (by omega));exact o.le_trans h4 (o.le_trans h3 h5)
theorem sym_anti (o : Ordr lt) {A L R B : List β} {a m b mid r0 s0 : Nat} (ha : A.length = a) (hm : a + L.length = m) (hb : m + R.length = b) (hL : Srt lt L) (hR : Srt lt R) (hlo : a < mid) (_ : mid < b)
  (hsr : (mid < m ∧ s0 = mid + m - b ∧ b ≤ mid + m ∧ r0 = mid) ∨ (m ≤ mid ∧ s0 = a ∧ r0 = m)) (Af : 2 * mid ≤ a + b ∧ a + b ≤ 2 * mid + 1) : Anti (fun c => !ltAt lt (A ++ (L ++ (R ++ B)))[mid + m - 1 - c]? (A ++ (L ++ (R ++ B)))[c]?) s0 r0 := by
 intro s t h1 h2 h3 h4;have hl : ∀ k, a ≤ k → (h : k - a < L.length) → (A ++ (L ++ (R ++ B)))[k]? = some (L[k - a]'h) := fun k hk h => by
  rw [q1v (by omega), q3u (by omega), ha, Ah h]
 have hr : ∀ k, m ≤ k → (h : k - m < R.length) → (A ++ (L ++ (R ++ B)))[k]? = some (R[k - m]'h) := fun k hk h => by
  rw [q1v (by omega), q1v (by omega), q3u (by omega), show k - A.length - L.length = k - m by omega, Ah h]
 dsimp only at h4 ⊢;rw [hr _ (by omega) (by omega), hl _ (by omega) (by omega)] at h4 ⊢;simp only [ltAt, Bool.not_eq_true'] at h4 ⊢;have h5 := Srt.at o hL (show s - a ≤ t - a by omega) (Ah (by omega)) (Ah (by omega));have h6 := Srt.at o hR (show mid + m - 1 - t - m ≤ mid + m - 1 - s - m by omega) (Ah (by omega)) (Ah (by omega));exact o.le_trans h5 (o.le_trans h4 h6)
theorem left_anti (o : Ordr lt) {A R B : List β} {x : β} {m : Nat} (hm : A.length + 1 = m) (hs : Srt lt R) : Anti (fun t => ltAt lt (A ++ (x :: (R ++ B)))[t]? (some x)) m (m + R.length) := by
 intro s t h1 h2 h3 h4;have hat : ∀ k, m ≤ k → (h : k - m < R.length) → (A ++ (x :: (R ++ B)))[k]? = some (R[k - m]'h) := fun k hk h => by
  rw [q1v (by omega), show k - A.length = k - m + 1 by omega, AE, q3u h, Ah h]
 dsimp only at h4 ⊢;rw [hat _ (by omega) (by omega)] at h4 ⊢;simp only [ltAt] at h4 ⊢;exact o.le_lt (Srt.at o hs (show s - m ≤ t - m by omega) (Ah (by omega)) (Ah (by omega))) h4
theorem right_anti (o : Ordr lt) {A L B : List β} {y : β} {a : Nat} (ha : A.length = a) (hs : Srt lt L) : Anti (fun t => !ltAt lt (some y) (A ++ (L ++ (y :: B)))[t]?) a (a + L.length) := by
 intro s t h1 h2 h3 h4;have hat : ∀ k, a ≤ k → (h : k - a < L.length) → (A ++ (L ++ (y :: B)))[k]? = some (L[k - a]'h) := fun k hk h => by
  rw [q1v (by omega), q3u (by omega), ha, Ah h]
 dsimp only at h4 ⊢;rw [hat _ (by omega) (by omega)] at h4 ⊢;simp only [ltAt, Bool.not_eq_true'] at h4 ⊢;exact o.le_trans (Srt.at o hs (show s - a ≤ t - a by omega) (Ah (by omega)) (Ah (by omega))) h4
def Blks (lt : β → β → Bool) (k : Nat) (xs ys : List β) : Prop := xs.length = ys.length ∧ ∀ t, Srt lt ((ys.drop (t * k)).take k) ∧ Stab lt ((xs.drop (t * k)).take k) ((ys.drop (t * k)).take k)
theorem Blks.nil (k : Nat) : Blks lt k [] [] := ⟨rfl, fun t => by simp; exact ⟨List.Pairwise.nil, Stab.refl _⟩⟩
theorem Blks.whole {k : Nat} {xs ys : List β} (h : Blks lt k xs ys) (hk : xs.length ≤ k) : Srt lt ys ∧ Stab lt xs ys := by
 have h1 := h.2 0;have e := h.1;rw [Nat.zero_mul, AC, AC, Au (by omega), Au (by omega)] at h1;exact h1
theorem Blks.tail {k : Nat} {xs ys : List β} (h : Blks lt k xs ys) (j : Nat) : Blks lt k (xs.drop (j * k)) (ys.drop (j * k)) := by
 have e := h.1;refine ⟨by rw [Aj, Aj]; omega, fun t => ?_⟩;rw [AU, AU, ← Nat.add_mul];exact h.2 (j + t)
theorem Blks.head {k : Nat} {xs ys : List β} (h : Blks lt k xs ys) : Srt lt (ys.take k) ∧ Stab lt (xs.take k) (ys.take k) := by
 have h1 := h.2 0;rw [Nat.zero_mul, AC, AC] at h1;exact h1
theorem Blks.snoc {k t : Nat} {xs ys zs zs' : List β} (h : Blks lt k xs ys) (ht : xs.length = t * k) (hz : zs.length ≤ k) (hs : Srt lt zs') (hb : Stab lt zs zs') : Blks lt k (xs ++ zs) (ys ++ zs') := by
 have e := h.1;have ez := hb.1;refine ⟨by rw [Am, Am]; omega, fun s => ?_⟩;rcases Nat.lt_trichotomy s t with hst | rfl | hst
 ·have h2 : (s + 1) * k ≤ t * k := Nat.mul_le_mul_right _ hst;rw [Nat.add_mul, Nat.one_mul] at h2;rw [AA (by omega), AA (by omega), AB (by rw [Aj]; omega), AB (by rw [Aj]; omega)];exact h.2 s
 ·rw [← ht, AV, show xs.length = ys.length from e, AV, Au (by omega), Au (by omega)];exact ⟨hs, hb⟩
 ·have h2 : (t + 1) * k ≤ s * k := Nat.mul_le_mul_right _ hst;rw [Nat.add_mul, Nat.one_mul] at h2;rw [AK (by rw [Am]; omega), AK (by rw [Am]; omega)];simp;exact ⟨List.Pairwise.nil, Stab.refl _⟩
end
end Go.Proofs.YthhaednigdgclaaGreat
