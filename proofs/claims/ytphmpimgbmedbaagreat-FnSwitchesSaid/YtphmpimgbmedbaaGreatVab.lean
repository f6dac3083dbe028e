/- Several texts in one. -/
import Derived.Test.YtphmpimgbmedbaaGreatVaa
set_option maxRecDepth 100000
set_option maxHeartbeats 8000000
namespace Go.Proofs.YtphmpimgbmedbaaGreat
open Go.RowKit
open Go.Lib (hid)
structure Ordr {α : Type} (lt : α → α → Bool) : Prop where
 irr : ∀ x, lt x x = false
 tr : ∀ x y z, lt x y = true → lt y z = true → lt x z = true
 ntr : ∀ x y z, lt x y = false → lt y z = false → lt x z = false
section
variable {α : Type} {lt : α → α → Bool}
def eqv (lt : α → α → Bool) (x y : α) : Bool := !lt x y && !lt y x
def Stab (lt : α → α → Bool) (xs ys : List α) : Prop := ys.length = xs.length ∧ ∀ x, ys.filter (eqv lt x) = xs.filter (eqv lt x)
def Srt (lt : α → α → Bool) (xs : List α) : Prop := xs.Pairwise (fun x y => lt y x = false)
theorem q5f (o : Ordr lt) (x : α) : eqv lt x x = true := by unfold eqv; rw [o.irr]; rfl
theorem eqv_parts {x y : α} (h : eqv lt x y = true) : lt x y = false ∧ lt y x = false := by
 unfold eqv at h
 simpa using h
theorem Stab.refl (xs : List α) : Stab lt xs xs := ⟨rfl, fun _ => rfl⟩
theorem Stab.trans {xs ys zs : List α} (h : Stab lt xs ys) (k : Stab lt ys zs) : Stab lt xs zs := ⟨k.1.trans h.1, fun x => (k.2 x).trans (h.2 x)⟩
theorem Stab.app {a b c d : List α} (h : Stab lt a b) (k : Stab lt c d) : Stab lt (a ++ c) (b ++ d) :=
 ⟨by rw [List.length_append, List.length_append, h.1, k.1], fun x => by rw [List.filter_append, List.filter_append, h.2, k.2]⟩
theorem Stab.swap (o : Ordr lt) {V X : List α} (h : ∀ x ∈ X, ∀ v ∈ V, lt x v = true) : Stab lt (V ++ X) (X ++ V) := by
 refine ⟨by simp [Nat.add_comm], fun z => ?_⟩
 rw [List.filter_append, List.filter_append]
 by_cases hv : V.filter (eqv lt z) = []
 ·rw [hv]; simp
 ·obtain ⟨v, hv⟩ := List.exists_mem_of_ne_nil _ hv
  obtain ⟨hv1, hv2⟩ := List.mem_filter.1 hv
  have hx : X.filter (eqv lt z) = [] := by
   rw [List.filter_eq_nil_iff]
   intro x hx h2
   have e1 := o.ntr x z v (eqv_parts h2).2 (eqv_parts hv2).1
   rw [h x hx v hv1] at e1; cases e1
  rw [hx]; simp
theorem Stab.mem (o : Ordr lt) {xs ys : List α} (h : Stab lt xs ys) {x : α} : x ∈ ys ↔ x ∈ xs := by
 have h2 := h.2 x
 constructor
 ·intro hx
  have : x ∈ ys.filter (eqv lt x) := List.mem_filter.2 ⟨hx, q5f o x⟩
  rw [h2] at this
  exact (List.mem_filter.1 this).1
 ·intro hx
  have : x ∈ xs.filter (eqv lt x) := List.mem_filter.2 ⟨hx, q5f o x⟩
  rw [← h2] at this
  exact (List.mem_filter.1 this).1
theorem srt_uniq (o : Ordr lt) : ∀ {ys zs : List α}, Srt lt ys → Srt lt zs → (∀ x, ys.filter (eqv lt x) = zs.filter (eqv lt x)) → ys = zs
 | [], [], _, _, _ => rfl
 | [], z :: zs, _, _, h => by have := h z; rw [List.filter_cons, if_pos (q5f o z)] at this; cases this
 | y :: ys, [], _, _, h => by have := h y; rw [List.filter_cons, if_pos (q5f o y)] at this; cases this
 | y :: ys, z :: zs, hy, hz, h => by
  have hmy : y ∈ z :: zs := by
   have : y ∈ (y :: ys).filter (eqv lt y) := List.mem_filter.2 ⟨by simp, q5f o y⟩
   rw [h y] at this
   exact (List.mem_filter.1 this).1
  have hmz : z ∈ y :: ys := by
   have : z ∈ (z :: zs).filter (eqv lt z) := List.mem_filter.2 ⟨by simp, q5f o z⟩
   rw [← h z] at this
   exact (List.mem_filter.1 this).1
  have e1 : lt y z = false := by
   rcases List.mem_cons.1 hmy with rfl | hm
   ·exact o.irr _
   ·exact List.rel_of_pairwise_cons hz hm
  have e2 : lt z y = false := by
   rcases List.mem_cons.1 hmz with rfl | hm
   ·exact o.irr _
   ·exact List.rel_of_pairwise_cons hy hm
  have hyz : eqv lt y z = true := by unfold eqv; rw [e1, e2]; rfl
  have h1 := h y
  rw [List.filter_cons, if_pos (q5f o y), List.filter_cons, if_pos hyz] at h1
  obtain rfl : y = z := (List.cons.inj h1).1
  rw [srt_uniq o (List.Pairwise.of_cons hy) (List.Pairwise.of_cons hz) (fun x => by
   have h2 := h x
   rw [List.filter_cons, List.filter_cons] at h2
   split at h2
   ·exact (List.cons.inj h2).2
   ·exact h2)]
theorem Stab.uniq (o : Ordr lt) {xs ys zs : List α} (hy : Srt lt ys) (hz : Srt lt zs) (h : Stab lt xs ys) (k : Stab lt xs zs) : ys = zs := srt_uniq o hy hz (fun x => (h.2 x).trans (k.2 x).symm)
def AllLe (lt : α → α → Bool) (xs ys : List α) : Prop := ∀ x ∈ xs, ∀ y ∈ ys, lt y x = false
theorem Srt.app {xs ys : List α} (h : Srt lt xs) (k : Srt lt ys) (hl : AllLe lt xs ys) : Srt lt (xs ++ ys) := List.pairwise_append.2 ⟨h, k, hl⟩
theorem Srt.parts {xs ys : List α} (h : Srt lt (xs ++ ys)) : Srt lt xs ∧ Srt lt ys ∧ AllLe lt xs ys := List.pairwise_append.1 h
end
end Go.Proofs.YtphmpimgbmedbaaGreat
namespace Go.Proofs.YtphmpimgbmedbaaGreat
open Go.RowKit
open Go.Lib (hid)
section
variable {β : Type}
def SwR (ps ps' : List β) (a b k : Nat) : Prop := ps'.length = ps.length ∧ ∀ t, ps'[t]? = if a ≤ t ∧ t < a + k then ps[t - a + b]? else if b ≤ t ∧ t < b + k then ps[t - b + a]? else ps[t]?
theorem sw_at {ps : List β} {i j : Nat} {p q : β} (hi : ps[i]? = some p) (hj : ps[j]? = some q) (t : Nat) : ((ps.set i q).set j p)[t]? = if t = j then ps[i]? else if t = i then ps[j]? else ps[t]? := by
 have h1 := (List.getElem?_eq_some_iff.1 hi).1
 have h2 := (List.getElem?_eq_some_iff.1 hj).1
 by_cases e : t = j
 ·subst e
  rw [if_pos rfl, List.getElem?_set_self (by rw [List.length_set]; exact h2), hi]
 ·rw [if_neg e, List.getElem?_set_ne (fun h => e h.symm)]
  by_cases e2 : t = i
  ·subst e2
   rw [if_pos rfl, List.getElem?_set_self h1, hj]
  ·rw [if_neg e2, List.getElem?_set_ne (fun h => e2 h.symm)]
theorem SwR.zero (ps : List β) (a b : Nat) : SwR ps ps a b 0 := ⟨rfl, fun t => by rw [if_neg (by omega), if_neg (by omega)]⟩
theorem SwR.next {ps ps' : List β} {a b k : Nat} (h : SwR ps ps' a b k) (hab : a + k < b) {p q : β} (hi : ps'[a + k]? = some p) (hj : ps'[b + k]? = some q) : SwR ps ((ps'.set (a + k) q).set (b + k) p) a b (k + 1) := by
 refine ⟨by rw [List.length_set, List.length_set]; exact h.1, fun t => ?_⟩
 rw [sw_at hi hj, h.2 (a + k), h.2 (b + k), h.2 t]
 rw [if_neg (show ¬ (a ≤ a + k ∧ a + k < a + k) by omega), if_neg (show ¬ (b ≤ a + k ∧ a + k < b + k) by omega), if_neg (show ¬ (a ≤ b + k ∧ b + k < a + k) by omega), if_neg (show ¬ (b ≤ b + k ∧ b + k < b + k) by omega)]
 by_cases e1 : t = b + k
 ·rw [if_pos e1, if_neg (by omega), if_pos (by omega)]; congr 1; omega
 ·rw [if_neg e1]
  by_cases e2 : t = a + k
  ·rw [if_pos e2, if_pos (by omega)]; congr 1; omega
  ·rw [if_neg e2]
   by_cases e3 : a ≤ t ∧ t < a + k
   ·rw [if_pos e3, if_pos (by omega)]
   ·rw [if_neg e3, if_neg (show ¬ (a ≤ t ∧ t < a + (k + 1)) by omega)]
    by_cases e4 : b ≤ t ∧ t < b + k
    ·rw [if_pos e4, if_pos (show b ≤ t ∧ t < b + (k + 1) by omega)]
    ·rw [if_neg e4, if_neg (show ¬ (b ≤ t ∧ t < b + (k + 1)) by omega)]
theorem q3g {A B : List β} {t : Nat} (h : A.length ≤ t) : (A ++ B)[t]? = B[t - A.length]? := List.getElem?_append_right h
theorem q8d {A B : List β} {t : Nat} (h : t < A.length) : (A ++ B)[t]? = A[t]? := List.getElem?_append_left h
theorem SwR.lists {A U M V B ps' : List β} {a b k : Nat} (h : SwR (A ++ (U ++ (M ++ (V ++ B)))) ps' a b k) (ha : A.length = a) (hu : U.length = k) (hv : V.length = k) (hb : a + k + M.length = b) : ps' = A ++ (V ++ (M ++ (U ++ B))) := by
 apply List.ext_getElem?
 intro t
 rw [h.2 t]
 by_cases e1 : t < a
 ·rw [if_neg (by omega), if_neg (by omega), q8d (by omega), q8d (by omega)]
 ·by_cases e2 : t < a + k
  ·rw [if_pos (by omega), q3g (by omega), q3g (by omega), q3g (by omega), q8d (by omega), q3g (by omega), q8d (by omega)]
   congr 1; omega
  ·rw [if_neg (by omega)]
   by_cases e3 : t < b
   ·rw [if_neg (by omega), q3g (by omega), q3g (by omega), q8d (by omega), q3g (by omega), q3g (by omega), q8d (by omega)]
    congr 1; omega
   ·by_cases e4 : t < b + k
    ·rw [if_pos (by omega), q3g (by omega), q8d (by omega), q3g (by omega), q3g (by omega), q3g (by omega), q8d (by omega)]
     congr 1; omega
    ·rw [if_neg (by omega), q3g (by omega), q3g (by omega), q3g (by omega), q3g (by omega), q3g (by omega), q3g (by omega), q3g (by omega), q3g (by omega)]
     congr 1; omega
def RotR (m : Nat) (goal ps : List β) (i j : Nat) : Prop := ∃ A U V B : List β, ps = A ++ (U ++ (V ++ B)) ∧ A.length + i = m ∧ U.length = i ∧ V.length = j ∧ A ++ (V ++ (U ++ B)) = goal
theorem RotR.left {m i j : Nat} {goal ps ps' : List β} (h : RotR m goal ps i j) (hij : j < i) (hs : SwR ps ps' (m - i) m j) : RotR m goal ps' (i - j) j := by
 obtain ⟨A, U, V, B, rfl, h1, h2, h3, h4⟩ := h
 have e := (List.take_append_drop j U).symm
 rw [e, List.append_assoc] at hs
 have h5 := hs.lists (by omega) (by rw [List.length_take]; omega) h3 (by rw [List.length_drop]; omega)
 refine ⟨A ++ V, U.drop j, U.take j, B, by rw [h5]; simp, by rw [List.length_append]; omega, by rw [List.length_drop]; omega, by rw [List.length_take]; omega, ?_⟩
 rw [← h4]
 have : U.take j ++ (U.drop j ++ B) = U ++ B := by rw [← List.append_assoc, List.take_append_drop]
 rw [this]; simp
theorem RotR.right {m i j : Nat} {goal ps ps' : List β} (h : RotR m goal ps i j) (hij : i < j) (hs : SwR ps ps' (m - i) (m + j - i) i) : RotR m goal ps' i (j - i) := by
 obtain ⟨A, U, V, B, rfl, h1, h2, h3, h4⟩ := h
 have e := (List.take_append_drop (j - i) V).symm
 rw [e, List.append_assoc] at hs
 have h5 := hs.lists (by omega) h2 (by rw [List.length_drop]; omega) (by rw [List.length_take]; omega)
 refine ⟨A, V.drop (j - i), V.take (j - i), U ++ B, h5, h1, by rw [List.length_drop]; omega, by rw [List.length_take]; omega, ?_⟩
 rw [← h4]
 have : V.take (j - i) ++ (V.drop (j - i) ++ (U ++ B)) = V ++ (U ++ B) := by rw [← List.append_assoc, List.take_append_drop]
 rw [this]
theorem RotR.last {m i : Nat} {goal ps ps' : List β} (h : RotR m goal ps i i) (hs : SwR ps ps' (m - i) m i) : ps' = goal := by
 obtain ⟨A, U, V, B, rfl, h1, h2, h3, h4⟩ := h
 have e : A ++ (U ++ (V ++ B)) = A ++ (U ++ ([] ++ (V ++ B))) := by simp
 rw [e] at hs
 have h5 := hs.lists (by omega) h2 h3 (by simp; omega)
 rw [h5, ← h4]; simp
end
section
def Bnd (P : Nat → Bool) (lo hi i j : Nat) : Prop := (∀ t, lo ≤ t → t < i → P t = true) ∧ (∀ t, j ≤ t → t < hi → P t = false)
def Anti (P : Nat → Bool) (lo hi : Nat) : Prop := ∀ s t, lo ≤ s → s ≤ t → t < hi → P t = true → P s = true
theorem Bnd.zero (P : Nat → Bool) (lo hi : Nat) : Bnd P lo hi lo hi := ⟨fun t h1 h2 => by omega, fun t h1 h2 => by omega⟩
theorem Bnd.yes {P : Nat → Bool} {lo hi i j h : Nat} (hb : Bnd P lo hi i j) (ha : Anti P lo hi) (hh : h < hi) (hp : P h = true) : Bnd P lo hi (h + 1) j :=
 ⟨fun t h1 h2 => ha t h h1 (by omega) hh hp, hb.2⟩
theorem Bnd.no {P : Nat → Bool} {lo hi i j h : Nat} (hb : Bnd P lo hi i j) (ha : Anti P lo hi) (hl : lo ≤ h) (hp : P h = false) : Bnd P lo hi i h :=
 ⟨hb.1, fun t h1 h2 => by
  cases e : P t
  ·rfl
  ·rw [ha h t hl h1 h2 e] at hp; cases hp⟩
end
section
variable {β : Type} {lt : β → β → Bool}
theorem Ordr.le_trans (o : Ordr lt) {x y z : β} (h : lt y x = false) (k : lt z y = false) : lt z x = false := o.ntr z y x k h
theorem Srt.at (o : Ordr lt) {xs : List β} (h : Srt lt xs) {i j : Nat} (hij : i ≤ j) {x y : β} (hx : xs[i]? = some x) (hy : xs[j]? = some y) : lt y x = false := by
 rcases Nat.eq_or_lt_of_le hij with rfl | hlt
 ·rw [hx] at hy; obtain rfl := Option.some.inj hy; exact o.irr _
 ·obtain ⟨h1, rfl⟩ := List.getElem?_eq_some_iff.1 hx
  obtain ⟨h2, rfl⟩ := List.getElem?_eq_some_iff.1 hy
  exact List.pairwise_iff_getElem.1 h i j h1 h2 hlt
theorem Srt.take {xs : List β} (h : Srt lt xs) (k : Nat) : Srt lt (xs.take k) := List.Pairwise.sublist (List.take_sublist _ _) h
theorem Srt.drop {xs : List β} (h : Srt lt xs) (k : Nat) : Srt lt (xs.drop k) := List.Pairwise.sublist (List.drop_sublist _ _) h
def Blks (lt : β → β → Bool) (k : Nat) (xs ys : List β) : Prop := xs.length = ys.length ∧ ∀ t, Srt lt ((ys.drop (t * k)).take k) ∧ Stab lt ((xs.drop (t * k)).take k) ((ys.drop (t * k)).take k)
theorem Blks.nil (k : Nat) : Blks lt k [] [] := ⟨rfl, fun t => by simp; exact ⟨List.Pairwise.nil, Stab.refl _⟩⟩
theorem Blks.whole {k : Nat} {xs ys : List β} (h : Blks lt k xs ys) (hk : xs.length ≤ k) : Srt lt ys ∧ Stab lt xs ys := by
 have h1 := h.2 0
 have e := h.1
 rw [Nat.zero_mul, List.drop_zero, List.drop_zero, List.take_of_length_le (by omega), List.take_of_length_le (by omega)] at h1
 exact h1
theorem Blks.head {k : Nat} {xs ys : List β} (h : Blks lt k xs ys) : Srt lt (ys.take k) ∧ Stab lt (xs.take k) (ys.take k) := by
 have h1 := h.2 0
 rw [Nat.zero_mul, List.drop_zero, List.drop_zero] at h1
 exact h1
end
end Go.Proofs.YtphmpimgbmedbaaGreat
