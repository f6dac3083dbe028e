/- Several texts in one. -/
import Derived.Test.YtphmpimgbmedbaaGreatSrt
import Derived.Test.YtphmpimgbmedbaaGreatApp
import Derived.Laws.IdiomCopy
import Derived.Test.YtphmpimgbmedbaaGreatRowM
import Derived.Test.YtphmpimgbmedbaaGreatStoM
import Derived.Deep.DeepCutAuto
/- Swaps, turns, searches and merges of rows in place, in plain Lean. No function of the program in sight. -/
namespace Go.Proofs.YtphmpimgbmedbaaGreat
open Go.RowKit

section
variable {β : Type}
/-- two ranges of a row swapped, one by one -/
def SwR (ps ps' : List β) (a b k : Nat) : Prop := ps'.length = ps.length ∧ ∀ t, ps'[t]? = if a ≤ t ∧ t < a + k then ps[t - a + b]? else if b ≤ t ∧ t < b + k then ps[t - b + a]? else ps[t]?
theorem sw_at {ps : List β} {i j : Nat} {p q : β} (hi : ps[i]? = some p) (hj : ps[j]? = some q) (t : Nat) : ((ps.set i q).set j p)[t]? = if t = j then ps[i]? else if t = i then ps[j]? else ps[t]? := by
  have h1 := (List.getElem?_eq_some_iff.1 hi).1
  have h2 := (List.getElem?_eq_some_iff.1 hj).1
  by_cases e : t = j
  · subst e
    rw [if_pos rfl, List.getElem?_set_self (by rw [List.length_set]; exact h2), hi]
  · rw [if_neg e, List.getElem?_set_ne (fun h => e h.symm)]
    by_cases e2 : t = i
    · subst e2
      rw [if_pos rfl, List.getElem?_set_self h1, hj]
    · rw [if_neg e2, List.getElem?_set_ne (fun h => e2 h.symm)]
theorem SwR.zero (ps : List β) (a b : Nat) : SwR ps ps a b 0 := ⟨rfl, fun t => by rw [if_neg (by omega), if_neg (by omega)]⟩
theorem SwR.next {ps ps' : List β} {a b k : Nat} (h : SwR ps ps' a b k) (hab : a + k < b) {p q : β} (hi : ps'[a + k]? = some p) (hj : ps'[b + k]? = some q) : SwR ps ((ps'.set (a + k) q).set (b + k) p) a b (k + 1) := by
  refine ⟨by rw [List.length_set, List.length_set]; exact h.1, fun t => ?_⟩
  rw [sw_at hi hj, h.2 (a + k), h.2 (b + k), h.2 t]
  rw [if_neg (show ¬ (a ≤ a + k ∧ a + k < a + k) by omega), if_neg (show ¬ (b ≤ a + k ∧ a + k < b + k) by omega), if_neg (show ¬ (a ≤ b + k ∧ b + k < a + k) by omega), if_neg (show ¬ (b ≤ b + k ∧ b + k < b + k) by omega)]
  by_cases e1 : t = b + k
  · rw [if_pos e1, if_neg (by omega), if_pos (by omega)]; congr 1; omega
  · rw [if_neg e1]
    by_cases e2 : t = a + k
    · rw [if_pos e2, if_pos (by omega)]; congr 1; omega
    · rw [if_neg e2]
      by_cases e3 : a ≤ t ∧ t < a + k
      · rw [if_pos e3, if_pos (by omega)]
      · rw [if_neg e3, if_neg (show ¬ (a ≤ t ∧ t < a + (k + 1)) by omega)]
        by_cases e4 : b ≤ t ∧ t < b + k
        · rw [if_pos e4, if_pos (show b ≤ t ∧ t < b + (k + 1) by omega)]
        · rw [if_neg e4, if_neg (show ¬ (b ≤ t ∧ t < b + (k + 1)) by omega)]
theorem app_hi {A B : List β} {t : Nat} (h : A.length ≤ t) : (A ++ B)[t]? = B[t - A.length]? := List.getElem?_append_right h
theorem app_lo {A B : List β} {t : Nat} (h : t < A.length) : (A ++ B)[t]? = A[t]? := List.getElem?_append_left h
theorem SwR.lists {A U M V B ps' : List β} {a b k : Nat} (h : SwR (A ++ (U ++ (M ++ (V ++ B)))) ps' a b k) (ha : A.length = a) (hu : U.length = k) (hv : V.length = k) (hb : a + k + M.length = b) : ps' = A ++ (V ++ (M ++ (U ++ B))) := by
  apply List.ext_getElem?
  intro t
  rw [h.2 t]
  by_cases e1 : t < a
  · rw [if_neg (by omega), if_neg (by omega), app_lo (by omega), app_lo (by omega)]
  · by_cases e2 : t < a + k
    · rw [if_pos (by omega), app_hi (by omega), app_hi (by omega), app_hi (by omega), app_lo (by omega), app_hi (by omega), app_lo (by omega)]
      congr 1; omega
    · rw [if_neg (by omega)]
      by_cases e3 : t < b
      · rw [if_neg (by omega), app_hi (by omega), app_hi (by omega), app_lo (by omega), app_hi (by omega), app_hi (by omega), app_lo (by omega)]
        congr 1; omega
      · by_cases e4 : t < b + k
        · rw [if_pos (by omega), app_hi (by omega), app_lo (by omega), app_hi (by omega), app_hi (by omega), app_hi (by omega), app_lo (by omega)]
          congr 1; omega
        · rw [if_neg (by omega), app_hi (by omega), app_hi (by omega), app_hi (by omega), app_hi (by omega), app_hi (by omega), app_hi (by omega), app_hi (by omega), app_hi (by omega)]
          congr 1; omega
/-- the round of a turn: what is still to be turned, and what will have come out -/
def RotR (m : Nat) (goal ps : List β) (i j : Nat) : Prop := ∃ A U V B : List β, ps = A ++ (U ++ (V ++ B)) ∧ A.length + i = m ∧ U.length = i ∧ V.length = j ∧ A ++ (V ++ (U ++ B)) = goal
theorem RotR.left {m i j : Nat} {goal ps ps' : List β} (h : RotR m goal ps i j) (hij : j < i) (hs : SwR ps ps' (m - i) m j) : RotR m goal ps' (i - j) j := by
  obtain ⟨A, U, V, B, rfl, h1, h2, h3, h4⟩ := h
  have e := (List.take_append_drop j U).symm
  rw [e, List.append_assoc] at hs
  have h5 := hs.lists (by omega) (by rw [List.length_take]; omega) h3 (by rw [List.length_drop]; omega)
  refine ⟨A ++ V, U.drop j, U.take j, B, by rw [h5]; simp, by rw [List.length_append]; omega, by rw [List.length_drop]; omega, by rw [List.length_take]; omega, ?_⟩
  rw [← h4]
  have : U.take j ++ (U.drop j ++ B) = U ++ B := by rw [← List.append_assoc, List.take_append_drop]
  rw [this]; simp
theorem RotR.right {m i j : Nat} {goal ps ps' : List β} (h : RotR m goal ps i j) (hij : i < j) (hs : SwR ps ps' (m - i) (m + j - i) i) : RotR m goal ps' i (j - i) := by
  obtain ⟨A, U, V, B, rfl, h1, h2, h3, h4⟩ := h
  have e := (List.take_append_drop (j - i) V).symm
  rw [e, List.append_assoc] at hs
  have h5 := hs.lists (by omega) h2 (by rw [List.length_drop]; omega) (by rw [List.length_take]; omega)
  refine ⟨A, V.drop (j - i), V.take (j - i), U ++ B, h5, h1, by rw [List.length_drop]; omega, by rw [List.length_take]; omega, ?_⟩
  rw [← h4]
  have : V.take (j - i) ++ (V.drop (j - i) ++ (U ++ B)) = V ++ (U ++ B) := by rw [← List.append_assoc, List.take_append_drop]
  rw [this]
theorem RotR.last {m i : Nat} {goal ps ps' : List β} (h : RotR m goal ps i i) (hs : SwR ps ps' (m - i) m i) : ps' = goal := by
  obtain ⟨A, U, V, B, rfl, h1, h2, h3, h4⟩ := h
  have e : A ++ (U ++ (V ++ B)) = A ++ (U ++ ([] ++ (V ++ B))) := by simp
  rw [e] at hs
  have h5 := hs.lists (by omega) h2 h3 (by simp; omega)
  rw [h5, ← h4]; simp
/-- neighbours swapped -/
theorem sw_next {C D : List β} {x y : β} {k : Nat} (hk : C.length = k) : ((C ++ (x :: y :: D)).set k y).set (k + 1) x = C ++ (y :: x :: D) := by
  subst hk
  rw [List.set_append_right _ _ (Nat.le_refl _), Nat.sub_self, List.set_cons_zero, List.set_append_right _ _ (by omega), show C.length + 1 - C.length = 1 by omega]
  rfl
theorem sw_prev {C D : List β} {x y : β} {k : Nat} (hk : C.length = k) : ((C ++ (x :: y :: D)).set (k + 1) x).set k y = C ++ (y :: x :: D) := by
  rw [List.set_comm _ _ (by omega)]; exact sw_next hk
/-- one that goes through a row -/
def thru (A S B : List β) (x : β) (k : Nat) : List β := A ++ (S.take k ++ (x :: (S.drop k ++ B)))
theorem thru_at {A S B : List β} {x : β} {k : Nat} (hk : k ≤ S.length) : (thru A S B x k)[A.length + k]? = some x := by
  unfold thru
  rw [app_hi (by omega), app_hi (by rw [List.length_take]; omega)]
  rw [show A.length + k - A.length - (S.take k).length = 0 by rw [List.length_take]; omega]; rfl
theorem thru_next {A S B : List β} {x : β} {k : Nat} (hk : k < S.length) : (thru A S B x k)[A.length + k + 1]? = some S[k] := by
  unfold thru
  rw [app_hi (by omega), app_hi (by rw [List.length_take]; omega)]
  rw [show A.length + k + 1 - A.length - (S.take k).length = 1 by rw [List.length_take]; omega, List.drop_eq_getElem_cons hk]; rfl
theorem thru_prev {A S B : List β} {x : β} {k : Nat} (hk : k < S.length) : (thru A S B x (k + 1))[A.length + k]? = some S[k] := by
  unfold thru
  rw [app_hi (by omega), app_lo (by rw [List.length_take]; omega), List.getElem?_take_of_lt (by omega), show A.length + k - A.length = k by omega, List.getElem?_eq_getElem hk]
theorem thru_len {A S B : List β} {x : β} {k : Nat} : (thru A S B x k).length = A.length + S.length + 1 + B.length := by
  unfold thru
  simp only [List.length_append, List.length_take, List.length_cons, List.length_drop]
  omega
theorem thru_up {A S B : List β} {x : β} {k : Nat} (hk : k < S.length) : ((thru A S B x k).set (A.length + k) S[k]).set (A.length + k + 1) x = thru A S B x (k + 1) := by
  unfold thru
  have e : A ++ (S.take k ++ (x :: (S.drop k ++ B))) = (A ++ S.take k) ++ (x :: S[k] :: (S.drop (k + 1) ++ B)) := by
    rw [List.drop_eq_getElem_cons hk]; simp only [List.append_assoc, List.cons_append]
  rw [e, sw_next (by rw [List.length_append, List.length_take]; omega), take_next (List.getElem?_eq_getElem hk)]
  simp only [List.append_assoc, List.cons_append, List.nil_append]
theorem thru_down {A S B : List β} {x : β} {k : Nat} (hk : k < S.length) : ((thru A S B x (k + 1)).set (A.length + k + 1) S[k]).set (A.length + k) x = thru A S B x k := by
  unfold thru
  have e : A ++ (S.take (k + 1) ++ (x :: (S.drop (k + 1) ++ B))) = (A ++ S.take k) ++ (S[k] :: x :: (S.drop (k + 1) ++ B)) := by
    rw [take_next (List.getElem?_eq_getElem hk)]; simp only [List.append_assoc, List.cons_append, List.nil_append]
  rw [e, sw_prev (by rw [List.length_append, List.length_take]; omega), List.drop_eq_getElem_cons hk]
  simp only [List.append_assoc, List.cons_append]
end
section
/-- a search by halves: up to i yes, from j on no -/
def Bnd (P : Nat → Bool) (lo hi i j : Nat) : Prop := (∀ t, lo ≤ t → t < i → P t = true) ∧ (∀ t, j ≤ t → t < hi → P t = false)
def Anti (P : Nat → Bool) (lo hi : Nat) : Prop := ∀ s t, lo ≤ s → s ≤ t → t < hi → P t = true → P s = true
theorem Bnd.zero (P : Nat → Bool) (lo hi : Nat) : Bnd P lo hi lo hi := ⟨fun t h1 h2 => by omega, fun t h1 h2 => by omega⟩
theorem Bnd.yes {P : Nat → Bool} {lo hi i j h : Nat} (hb : Bnd P lo hi i j) (ha : Anti P lo hi) (hh : h < hi) (hp : P h = true) : Bnd P lo hi (h + 1) j :=
  ⟨fun t h1 h2 => ha t h h1 (by omega) hh hp, hb.2⟩
theorem Bnd.no {P : Nat → Bool} {lo hi i j h : Nat} (hb : Bnd P lo hi i j) (ha : Anti P lo hi) (hl : lo ≤ h) (hp : P h = false) : Bnd P lo hi i h :=
  ⟨hb.1, fun t h1 h2 => by
    cases e : P t
    · rfl
    · rw [ha h t hl h1 h2 e] at hp; cases hp⟩
end
section
variable {β : Type} {lt : β → β → Bool}
def ltAt (lt : β → β → Bool) : Option β → Option β → Bool
  | some p, some q => lt p q
  | _, _ => false
theorem Ordr.le_trans (o : Ordr lt) {x y z : β} (h : lt y x = false) (k : lt z y = false) : lt z x = false := o.ntr z y x k h
theorem Ordr.lt_le (o : Ordr lt) {x y z : β} (h : lt x y = true) (k : lt z y = false) : lt x z = true := by
  cases e : lt x z
  · rw [o.ntr x z y e k] at h; cases h
  · rfl
theorem Ordr.le_lt (o : Ordr lt) {x y z : β} (h : lt y x = false) (k : lt y z = true) : lt x z = true := by
  cases e : lt x z
  · rw [o.ntr y x z h e] at k; cases k
  · rfl
theorem Srt.at (o : Ordr lt) {xs : List β} (h : Srt lt xs) {i j : Nat} (hij : i ≤ j) {x y : β} (hx : xs[i]? = some x) (hy : xs[j]? = some y) : lt y x = false := by
  rcases Nat.eq_or_lt_of_le hij with rfl | hlt
  · rw [hx] at hy; obtain rfl := Option.some.inj hy; exact o.irr _
  · obtain ⟨h1, rfl⟩ := List.getElem?_eq_some_iff.1 hx
    obtain ⟨h2, rfl⟩ := List.getElem?_eq_some_iff.1 hy
    exact List.pairwise_iff_getElem.1 h i j h1 h2 hlt
theorem Srt.take {xs : List β} (h : Srt lt xs) (k : Nat) : Srt lt (xs.take k) := List.Pairwise.sublist (List.take_sublist _ _) h
theorem Srt.drop {xs : List β} (h : Srt lt xs) (k : Nat) : Srt lt (xs.drop k) := List.Pairwise.sublist (List.drop_sublist _ _) h
/-- one element ahead of a sorted row, laid into it -/
theorem one_left (o : Ordr lt) {A R B : List β} {x : β} {i m : Nat} (hm : A.length + 1 = m) (hi : m ≤ i) (hs : Srt lt R) (hb : Bnd (fun t => ltAt lt (A ++ (x :: (R ++ B)))[t]? (some x)) m (m + R.length) i i) (hi2 : i ≤ m + R.length) :
    ∃ M, thru A R B x (i - m) = A ++ (M ++ B) ∧ Srt lt M ∧ Stab lt ([x] ++ R) M := by
  have hat : ∀ k y, R[k]? = some y → (A ++ (x :: (R ++ B)))[m + k]? = some y := fun k y hy => by
    have hk := (List.getElem?_eq_some_iff.1 hy).1
    rw [app_hi (by omega), show m + k - A.length = k + 1 by omega, List.getElem?_cons_succ, app_lo hk, hy]
  have h1 : ∀ y ∈ R.take (i - m), lt y x = true := fun y hy => by
    obtain ⟨k, hk, rfl⟩ := List.getElem_of_mem hy
    rw [List.length_take] at hk
    have h2 := hb.1 (m + k) (by omega) (by omega)
    dsimp only at h2
    rw [hat k R[k] (List.getElem?_eq_getElem (by omega))] at h2
    rw [List.getElem_take]; exact h2
  have h2 : ∀ y ∈ R.drop (i - m), lt y x = false := fun y hy => by
    obtain ⟨k, hk, rfl⟩ := List.getElem_of_mem hy
    rw [List.length_drop] at hk
    have h2 := hb.2 (m + (i - m + k)) (by omega) (by omega)
    dsimp only at h2
    rw [hat (i - m + k) R[i - m + k] (List.getElem?_eq_getElem (by omega))] at h2
    rw [List.getElem_drop]; exact h2
  refine ⟨R.take (i - m) ++ ([x] ++ R.drop (i - m)), by unfold thru; simp, ?_, ?_⟩
  · refine Srt.app (hs.take _) (Srt.app (List.pairwise_singleton _ _) (hs.drop _) (fun a ha y hy => ?_)) (fun y hy z hz => ?_)
    · rw [List.mem_singleton] at ha; subst ha; exact h2 y hy
    · rcases List.mem_append.1 hz with hz | hz
      · rw [List.mem_singleton] at hz; subst hz; exact o.asym (h1 y hy)
      · have := hs; rw [← List.take_append_drop (i - m) R] at this
        exact (Srt.parts this).2.2 y hy z hz
  · have h3 : Stab lt ([x] ++ R.take (i - m)) (R.take (i - m) ++ [x]) := Stab.swap o (fun y hy v hv => by rw [List.mem_singleton] at hv; subst hv; exact h1 y hy)
    have h4 := h3.app (Stab.refl (R.drop (i - m)))
    rw [List.append_assoc, List.take_append_drop, List.append_assoc] at h4
    exact h4
/-- one element behind a sorted row, laid into it -/
theorem one_right (o : Ordr lt) {A L B : List β} {y : β} {i a : Nat} (ha : A.length = a) (hi : a ≤ i) (hs : Srt lt L) (hb : Bnd (fun t => !ltAt lt (some y) (A ++ (L ++ (y :: B)))[t]?) a (a + L.length) i i) (hi2 : i ≤ a + L.length) :
    ∃ M, thru A L B y (i - a) = A ++ (M ++ B) ∧ Srt lt M ∧ Stab lt (L ++ [y]) M := by
  have hat : ∀ k z, L[k]? = some z → (A ++ (L ++ (y :: B)))[a + k]? = some z := fun k z hz => by
    have hk := (List.getElem?_eq_some_iff.1 hz).1
    rw [app_hi (by omega), show a + k - A.length = k by omega, app_lo hk, hz]
  refine ⟨L.take (i - a) ++ (y :: L.drop (i - a)), by unfold thru; simp, ins_srt o hs (fun x hx => ?_) (fun x hx => ?_), ins_stab o (fun x hx => ?_)⟩
  · obtain ⟨k, hk, rfl⟩ := List.getElem_of_mem hx
    rw [List.length_drop] at hk
    have h2 := hb.2 (a + (i - a + k)) (by omega) (by omega)
    dsimp only at h2
    rw [hat (i - a + k) L[i - a + k] (List.getElem?_eq_getElem (by omega))] at h2
    rw [List.getElem_drop]; simpa [ltAt] using h2
  · obtain ⟨k, hk, rfl⟩ := List.getElem_of_mem hx
    rw [List.length_take] at hk
    have h2 := hb.1 (a + k) (by omega) (by omega)
    dsimp only at h2
    rw [hat k L[k] (List.getElem?_eq_getElem (by omega))] at h2
    rw [List.getElem_take]; simpa [ltAt] using h2
  · obtain ⟨k, hk, rfl⟩ := List.getElem_of_mem hx
    rw [List.length_drop] at hk
    have h2 := hb.2 (a + (i - a + k)) (by omega) (by omega)
    dsimp only at h2
    rw [hat (i - a + k) L[i - a + k] (List.getElem?_eq_getElem (by omega))] at h2
    rw [List.getElem_drop]; simpa [ltAt] using h2
/-- where two sorted rows are cut -/
theorem sym_cut (o : Ordr lt) {A L R B : List β} {a m b mid s r0 s0 : Nat} (ha : A.length = a) (hm : a + L.length = m) (hb : m + R.length = b) (hL : Srt lt L) (hR : Srt lt R) (hlo : a < mid) (hhi : mid < b)
    (hsr : (mid < m ∧ s0 = mid + m - b ∧ b ≤ mid + m ∧ r0 = mid) ∨ (m ≤ mid ∧ s0 = a ∧ r0 = m)) (hmid : 2 * mid ≤ a + b ∧ a + b ≤ 2 * mid + 1) (h0 : s0 ≤ s) (h1 : s ≤ r0)
    (hbd : Bnd (fun c => !ltAt lt (A ++ (L ++ (R ++ B)))[mid + m - 1 - c]? (A ++ (L ++ (R ++ B)))[c]?) s0 r0 s s) :
    (∀ x ∈ R.take (mid - s), ∀ v ∈ L.drop (s - a), lt x v = true) ∧ AllLe lt (L.take (s - a)) (R.drop (mid - s)) := by
  have hl : ∀ k v, L[k]? = some v → (A ++ (L ++ (R ++ B)))[a + k]? = some v := fun k z hz => by
    have hk := (List.getElem?_eq_some_iff.1 hz).1
    rw [app_hi (by omega), show a + k - A.length = k by omega, app_lo hk, hz]
  have hr : ∀ k v, R[k]? = some v → (A ++ (L ++ (R ++ B)))[m + k]? = some v := fun k z hz => by
    have hk := (List.getElem?_eq_some_iff.1 hz).1
    rw [app_hi (by omega), app_hi (by omega), show m + k - A.length - L.length = k by omega, app_lo hk, hz]
  refine ⟨fun x hx v hv => ?_, fun u hu y hy => ?_⟩
  · obtain ⟨k, hk, rfl⟩ := List.getElem_of_mem hx
    obtain ⟨k2, hk2, rfl⟩ := List.getElem_of_mem hv
    rw [List.length_take] at hk
    rw [List.length_drop] at hk2
    rw [List.getElem_take, List.getElem_drop]
    have h2 := hbd.2 s (Nat.le_refl _) (by omega)
    dsimp only at h2
    rw [show mid + m - 1 - s = m + (mid - s - 1) by omega, hr (mid - s - 1) R[mid - s - 1] (List.getElem?_eq_getElem (by omega)), show (A ++ (L ++ (R ++ B)))[s]? = some (L[s - a]'(by omega)) from by
      have := hl (s - a) (L[s - a]'(by omega)) (List.getElem?_eq_getElem (by omega)); rwa [show a + (s - a) = s by omega] at this] at h2
    have h3 : lt (R[mid - s - 1]'(by omega)) (L[s - a]'(by omega)) = true := by simpa [ltAt] using h2
    have h4 := Srt.at o hR (show k ≤ mid - s - 1 by omega) (List.getElem?_eq_getElem (by omega)) (List.getElem?_eq_getElem (by omega))
    have h5 := Srt.at o hL (show s - a ≤ s - a + k2 by omega) (List.getElem?_eq_getElem (by omega)) (List.getElem?_eq_getElem (by omega))
    exact o.lt_le (o.le_lt h4 h3) h5
  · obtain ⟨k, hk, rfl⟩ := List.getElem_of_mem hu
    obtain ⟨k2, hk2, rfl⟩ := List.getElem_of_mem hy
    rw [List.length_take] at hk
    rw [List.length_drop] at hk2
    rw [List.getElem_take, List.getElem_drop]
    have h2 := hbd.1 (s - 1) (by omega) (by omega)
    dsimp only at h2
    rw [show mid + m - 1 - (s - 1) = m + (mid - s) by omega, hr (mid - s) (R[mid - s]'(by omega)) (List.getElem?_eq_getElem (by omega)), show (A ++ (L ++ (R ++ B)))[s - 1]? = some (L[s - 1 - a]'(by omega)) from by
      have := hl (s - 1 - a) (L[s - 1 - a]'(by omega)) (List.getElem?_eq_getElem (by omega)); rwa [show a + (s - 1 - a) = s - 1 by omega] at this] at h2
    have h3 : lt (R[mid - s]'(by omega)) (L[s - 1 - a]'(by omega)) = false := by simpa [ltAt] using h2
    have h4 := Srt.at o hL (show k ≤ s - 1 - a by omega) (List.getElem?_eq_getElem (by omega)) (List.getElem?_eq_getElem (by omega))
    have h5 := Srt.at o hR (show mid - s ≤ mid - s + k2 by omega) (List.getElem?_eq_getElem (by omega)) (List.getElem?_eq_getElem (by omega))
    exact o.le_trans h4 (o.le_trans h3 h5)
/-- the search is one by halves -/
theorem sym_anti (o : Ordr lt) {A L R B : List β} {a m b mid r0 s0 : Nat} (ha : A.length = a) (hm : a + L.length = m) (hb : m + R.length = b) (hL : Srt lt L) (hR : Srt lt R) (hlo : a < mid) (_ : mid < b)
    (hsr : (mid < m ∧ s0 = mid + m - b ∧ b ≤ mid + m ∧ r0 = mid) ∨ (m ≤ mid ∧ s0 = a ∧ r0 = m)) (hmid : 2 * mid ≤ a + b ∧ a + b ≤ 2 * mid + 1) : Anti (fun c => !ltAt lt (A ++ (L ++ (R ++ B)))[mid + m - 1 - c]? (A ++ (L ++ (R ++ B)))[c]?) s0 r0 := by
  intro s t h1 h2 h3 h4
  have hl : ∀ k, a ≤ k → (h : k - a < L.length) → (A ++ (L ++ (R ++ B)))[k]? = some (L[k - a]'h) := fun k hk h => by
    rw [app_hi (by omega), app_lo (by omega), ha, List.getElem?_eq_getElem h]
  have hr : ∀ k, m ≤ k → (h : k - m < R.length) → (A ++ (L ++ (R ++ B)))[k]? = some (R[k - m]'h) := fun k hk h => by
    rw [app_hi (by omega), app_hi (by omega), app_lo (by omega), show k - A.length - L.length = k - m by omega, List.getElem?_eq_getElem h]
  dsimp only at h4 ⊢
  rw [hr _ (by omega) (by omega), hl _ (by omega) (by omega)] at h4 ⊢
  simp only [ltAt, Bool.not_eq_true'] at h4 ⊢
  have h5 := Srt.at o hL (show s - a ≤ t - a by omega) (List.getElem?_eq_getElem (by omega)) (List.getElem?_eq_getElem (by omega))
  have h6 := Srt.at o hR (show mid + m - 1 - t - m ≤ mid + m - 1 - s - m by omega) (List.getElem?_eq_getElem (by omega)) (List.getElem?_eq_getElem (by omega))
  exact o.le_trans h5 (o.le_trans h4 h6)
/-- the search behind one element -/
theorem left_anti (o : Ordr lt) {A R B : List β} {x : β} {m : Nat} (hm : A.length + 1 = m) (hs : Srt lt R) : Anti (fun t => ltAt lt (A ++ (x :: (R ++ B)))[t]? (some x)) m (m + R.length) := by
  intro s t h1 h2 h3 h4
  have hat : ∀ k, m ≤ k → (h : k - m < R.length) → (A ++ (x :: (R ++ B)))[k]? = some (R[k - m]'h) := fun k hk h => by
    rw [app_hi (by omega), show k - A.length = k - m + 1 by omega, List.getElem?_cons_succ, app_lo h, List.getElem?_eq_getElem h]
  dsimp only at h4 ⊢
  rw [hat _ (by omega) (by omega)] at h4 ⊢
  simp only [ltAt] at h4 ⊢
  exact o.le_lt (Srt.at o hs (show s - m ≤ t - m by omega) (List.getElem?_eq_getElem (by omega)) (List.getElem?_eq_getElem (by omega))) h4
theorem right_anti (o : Ordr lt) {A L B : List β} {y : β} {a : Nat} (ha : A.length = a) (hs : Srt lt L) : Anti (fun t => !ltAt lt (some y) (A ++ (L ++ (y :: B)))[t]?) a (a + L.length) := by
  intro s t h1 h2 h3 h4
  have hat : ∀ k, a ≤ k → (h : k - a < L.length) → (A ++ (L ++ (y :: B)))[k]? = some (L[k - a]'h) := fun k hk h => by
    rw [app_hi (by omega), app_lo (by omega), ha, List.getElem?_eq_getElem h]
  dsimp only at h4 ⊢
  rw [hat _ (by omega) (by omega)] at h4 ⊢
  simp only [ltAt, Bool.not_eq_true'] at h4 ⊢
  exact o.le_trans (Srt.at o hs (show s - a ≤ t - a by omega) (List.getElem?_eq_getElem (by omega)) (List.getElem?_eq_getElem (by omega))) h4
/-- a row, sorted block by block -/
def Blks (lt : β → β → Bool) (k : Nat) (xs ys : List β) : Prop := xs.length = ys.length ∧ ∀ t, Srt lt ((ys.drop (t * k)).take k) ∧ Stab lt ((xs.drop (t * k)).take k) ((ys.drop (t * k)).take k)
theorem Blks.nil (k : Nat) : Blks lt k [] [] := ⟨rfl, fun t => by simp; exact ⟨List.Pairwise.nil, Stab.refl _⟩⟩
theorem Blks.whole {k : Nat} {xs ys : List β} (h : Blks lt k xs ys) (hk : xs.length ≤ k) : Srt lt ys ∧ Stab lt xs ys := by
  have h1 := h.2 0
  have e := h.1
  rw [Nat.zero_mul, List.drop_zero, List.drop_zero, List.take_of_length_le (by omega), List.take_of_length_le (by omega)] at h1
  exact h1
theorem Blks.tail {k : Nat} {xs ys : List β} (h : Blks lt k xs ys) (j : Nat) : Blks lt k (xs.drop (j * k)) (ys.drop (j * k)) := by
  have e := h.1
  refine ⟨by rw [List.length_drop, List.length_drop]; omega, fun t => ?_⟩
  rw [List.drop_drop, List.drop_drop, ← Nat.add_mul]
  exact h.2 (j + t)
theorem Blks.head {k : Nat} {xs ys : List β} (h : Blks lt k xs ys) : Srt lt (ys.take k) ∧ Stab lt (xs.take k) (ys.take k) := by
  have h1 := h.2 0
  rw [Nat.zero_mul, List.drop_zero, List.drop_zero] at h1
  exact h1
theorem Blks.snoc {k t : Nat} {xs ys zs zs' : List β} (h : Blks lt k xs ys) (ht : xs.length = t * k) (hz : zs.length ≤ k) (hs : Srt lt zs') (hb : Stab lt zs zs') : Blks lt k (xs ++ zs) (ys ++ zs') := by
  have e := h.1
  have ez := hb.1
  refine ⟨by rw [List.length_append, List.length_append]; omega, fun s => ?_⟩
  rcases Nat.lt_trichotomy s t with hst | rfl | hst
  · have h2 : (s + 1) * k ≤ t * k := Nat.mul_le_mul_right _ hst
    rw [Nat.add_mul, Nat.one_mul] at h2
    rw [List.drop_append_of_le_length (by omega), List.drop_append_of_le_length (by omega), List.take_append_of_le_length (by rw [List.length_drop]; omega), List.take_append_of_le_length (by rw [List.length_drop]; omega)]
    exact h.2 s
  · rw [← ht, List.drop_left, show xs.length = ys.length from e, List.drop_left, List.take_of_length_le (by omega), List.take_of_length_le (by omega)]
    exact ⟨hs, hb⟩
  · have h2 : (t + 1) * k ≤ s * k := Nat.mul_le_mul_right _ hst
    rw [Nat.add_mul, Nat.one_mul] at h2
    rw [List.drop_eq_nil_of_le (by rw [List.length_append]; omega), List.drop_eq_nil_of_le (by rw [List.length_append]; omega)]
    simp
    exact ⟨List.Pairwise.nil, Stab.refl _⟩
end
end Go.Proofs.YtphmpimgbmedbaaGreat

/- An element of a row loaded, stored and swapped whole, each in one step. No function of the program in sight. -/
namespace Go.Proofs.YtphmpimgbmedbaaGreat
open Go.RowKit

theorem load_row {P : Program} {o : Oper} {a : Act} {Kc : Act → World → Prop} {Q : Exit → Act → World → Prop} {w : World} {b k n : Nat} {cs : List Value} {fs : Array Field} (p : Operand) (t : TypeId)
    (hop : o.op = .load t p) (hp : a.eval p = .pointer (some ⟨b, k, none⟩)) (hi : (P.info? t).map (fun i => i.size) = some n) (hu : P.underlying t = some (.struct fs)) (h : ∀ j v, cs[j]? = some v → w.cell? ⟨b, k + j, none⟩ = some v)
    (hs : cs.length = n) (hk : Kc (a.put o.dst (.agg cs.toArray)) w) : o.wp P a w Kc Q := by
  obtain ⟨i, hi1, hi2⟩ := Option.map_eq_some_iff.1 hi
  have hld := run_loadCells_list (P := P) (w := w) ⟨b, k, none⟩ cs (fun j v hv => by rw [Addr.add_lit]; exact h j v hv)
  have hsz : cs.length = i.size := by omega
  rw [hsz] at hld
  unfold Oper.wp execOp
  have hp0 : (program : Sem Program).run P w = .ok P w := rfl
  simp only [hop, hp, Instr.loadAt, Instr.sureAddr, loadVar, isAgg, run_underlying hu, sizeOf, typeInfo, Sem.run_bind, Sem.run_pure, Result.andThen_ok, hp0, hi1, if_true, hld]
  exact hk
theorem load_rowL {P : Program} {ops : Array Oper} {rest : List Oper} {o : Oper} {a : Act} {Q : Exit → Act → World → Prop} {w : World} {b k n : Nat} {cs : List Value} {fs : Array Field} (hgd : o.guard = none) (p : Operand) (t : TypeId)
    (hop : o.op = .load t p) (hp : a.eval p = .pointer (some ⟨b, k, none⟩)) (hi : (P.info? t).map (fun i => i.size) = some n) (hu : P.underlying t = some (.struct fs)) (h : ∀ j v, cs[j]? = some v → w.cell? ⟨b, k + j, none⟩ = some v)
    (hs : cs.length = n) (hk : wpList P ops Q rest (a.put o.dst (.agg cs.toArray)) w) : wpList P ops Q (o :: rest) a w :=
  wpList_plain hgd fun _ hK => load_row p t hop hp hi hu h hs (hK _ _ hk)
theorem store_row {P : Program} {o : Oper} {a : Act} {Kc : Act → World → Prop} {Q : Exit → Act → World → Prop} {w : World} {b k n : Nat} {cs : List Value} (p v : Operand) (t : TypeId)
    (hop : o.op = .store t p v) (hp : a.eval p = .pointer (some ⟨b, k, none⟩)) (hv : a.eval v = .agg cs.toArray) (hi : (P.info? t).map (fun i => i.size) = some n)
    (hc : ∀ j, j < n → (w.cell? ⟨b, k + j, none⟩).isSome = true) (hf : ∀ j, w.frozen? ⟨b, j, none⟩ = false) (hs : cs.length = n) (hone : ∀ u ∈ cs, u.oneCell' = true)
    (hk : Kc (a.put o.dst undef) (w.setCells b k cs)) : o.wp P a w Kc Q := by
  obtain ⟨i, hi1, hi2⟩ := Option.map_eq_some_iff.1 hi
  have hst := run_storeCells_cells (P := P) b k cs 0 w (fun j hj => by rw [Nat.add_zero]; exact hc j (by omega)) (fun j _ => hf _) hone
  rw [Nat.add_zero] at hst
  have hsz : cs.toArray.size = i.size := by simp; omega
  unfold Oper.wp execOp
  simp only [hop, hp, hv, Instr.storeAt, Instr.sureAddr, storeVar, Value.cells, sizeOf, typeInfo, Sem.run_bind, Sem.run_pure, Result.andThen_ok]
  have hp0 : (program : Sem Program).run P w = .ok P w := rfl
  simp only [hp0, Result.andThen_ok, hi1, Sem.run_pure, ← hsz, ne_eq, not_true, if_false, hst]
  exact hk
theorem store_rowL {P : Program} {ops : Array Oper} {rest : List Oper} {o : Oper} {a : Act} {Q : Exit → Act → World → Prop} {w : World} {b k n : Nat} {cs : List Value} (hgd : o.guard = none) (p v : Operand) (t : TypeId)
    (hop : o.op = .store t p v) (hp : a.eval p = .pointer (some ⟨b, k, none⟩)) (hv : a.eval v = .agg cs.toArray) (hi : (P.info? t).map (fun i => i.size) = some n)
    (hc : ∀ j, j < n → (w.cell? ⟨b, k + j, none⟩).isSome = true) (hf : ∀ j, w.frozen? ⟨b, j, none⟩ = false) (hs : cs.length = n) (hone : ∀ u ∈ cs, u.oneCell' = true)
    (hk : wpList P ops Q rest (a.put o.dst undef) (w.setCells b k cs)) : wpList P ops Q (o :: rest) a w :=
  wpList_plain hgd fun _ hK => store_row p v t hop hp hv hi hc hf hs hone (hK _ _ hk)
section
variable {α : Type} {L : Lay α} {w w' : World} {b off : Nat} {ps : List (α × List Nat)}
/-- the cells of an element: what a load finds -/
def Celled (w : World) (b k n : Nat) (cs : List Value) : Prop := cs.length = n ∧ (∀ j v, cs[j]? = some v → w.cell? ⟨b, k + j, none⟩ = some v) ∧ ∀ u ∈ cs, u.oneCell' = true
theorem RowAt.look (h : RowAt L w b off ps) {i : Nat} {p : α × List Nat} (hp : ps[i]? = some p) : ∃ c, L.rep w c p.1 p.2 ∧ b ∉ p.2 ∧ Celled w b (off + i * L.n) L.n c := by
  have hi := (List.getElem?_eq_some_iff.1 hp).1
  obtain ⟨q, c, hq, hr, hb, hc⟩ := h.at hi
  rw [hp] at hq
  obtain rfl := Option.some.inj hq
  refine ⟨c, hr, hb, L.len hr, fun j v hv => ?_, ?_⟩
  · rw [hc j (by have := (List.getElem?_eq_some_iff.1 hv).1; have := L.len hr; omega)]; exact hv
  · intro u hu
    exact Lay.all_one (L := L) (L.all_single hr) u hu
theorem RowAt.isSome (h : RowAt L w b off ps) {i : Nat} (hi : i < ps.length) : ∀ j, j < L.n → (w.cell? ⟨b, off + i * L.n + j, none⟩).isSome = true := fun j hj => by
  obtain ⟨c, hr, -, h1, h2, -⟩ := h.look (List.getElem?_eq_getElem hi)
  rw [h2 j c[j] (List.getElem?_eq_getElem (by omega))]; rfl
theorem Celled.far {k n : Nat} {cs vs : List Value} (h : Celled w b k n cs) (b2 k2 : Nat) (hd : b ≠ b2) : Celled (w.setCells b2 k2 vs) b k n cs :=
  ⟨h.1, fun j v hv => by rw [World.cell?_of_block (setCells_far hd vs k2 w)]; exact h.2.1 j v hv, h.2.2⟩
/-- two elements swapped -/
theorem RowAt.swap (h : RowAt L w b off ps) {i j : Nat} {p q : α × List Nat} (hi : ps[i]? = some p) (hj : ps[j]? = some q) {cp cq : List Value} (rp : L.rep w cp p.1 p.2) (rq : L.rep w cq q.1 q.2) (bp : b ∉ p.2) (bq : b ∉ q.2) :
    RowAt L (w.setCells b (off + i * L.n) cq) b off (ps.set i q) ∧ RowAt L ((w.setCells b (off + i * L.n) cq).setCells b (off + j * L.n) cp) b off ((ps.set i q).set j p) := by
  have h1 := h.put (i := i) (List.getElem?_eq_some_iff.1 hi).1 rq bq
  refine ⟨h1, h1.put (i := j) (by rw [List.length_set]; exact (List.getElem?_eq_some_iff.1 hj).1) (L.keep rp (fun y hy => setCells_far (fun (e : y = b) => bp (e ▸ hy)) _ _ _)) bp⟩
end
end Go.Proofs.YtphmpimgbmedbaaGreat

/- The stable sort of records: swaps, turns, insertions and merges in place. -/
namespace Go.Proofs.YtphmpimgbmedbaaGreat
open Go.RowKit

theorem infoRc : (Tryz.prog.info? 67).map (fun i => i.size) = some 9 := by kernel_rfl
theorem exec_row {P : Program} {ρ : Operand → Value} {o : Oper} {w : World} {b k n : Nat} {cs : List Value} {fs : Array Field} (p : Operand) (t : TypeId) (hop : o.op = .load t p) (hp : ρ p = .pointer (some ⟨b, k, none⟩))
    (hi : (P.info? t).map (fun i => i.size) = some n) (hu : P.underlying t = some (.struct fs)) (h : Celled w b k n cs) : (execOp ρ o).run P w = .ok (.value (.agg cs.toArray)) w := by
  obtain ⟨i, hi1, hi2⟩ := Option.map_eq_some_iff.1 hi
  have hld := run_loadCells_list (P := P) (w := w) ⟨b, k, none⟩ cs (fun j v hv => by rw [Addr.add_lit]; exact h.2.1 j v hv)
  have hsz : cs.length = i.size := by have := h.1; omega
  rw [hsz] at hld
  have hp0 : (program : Sem Program).run P w = .ok P w := rfl
  unfold execOp
  simp only [hop, hp, Instr.loadAt, Instr.sureAddr, loadVar, isAgg, run_underlying hu, sizeOf, typeInfo, Sem.run_bind, Sem.run_pure, Result.andThen_ok, hp0, hi1, if_true, hld]
theorem store_rowS {P : Program} {ops : Array Oper} {o : Oper} {a : Act} {Kc : Act → World → Prop} {Q : Exit → Act → World → Prop} {R : Prop} {w : World} {b k n : Nat} {cs : List Value} (hgd : o.guard = none) (p v : Operand) (t : TypeId)
    (hop : o.op = .store t p v) (hp : a.eval p = .pointer (some ⟨b, k, none⟩)) (hv : a.eval v = .agg cs.toArray) (hi : (P.info? t).map (fun i => i.size) = some n)
    (hc : ∀ j, j < n → (w.cell? ⟨b, k + j, none⟩).isSome = true) (hf : ∀ j, w.frozen? ⟨b, j, none⟩ = false) (hs : cs.length = n) (hone : ∀ u ∈ cs, u.oneCell' = true)
    (hk : Kc (a.put o.dst undef) (w.setCells b k cs)) : if Region.wanted o (yielded ops a.tmps) = true then Oper.wp P o a w Kc Q else R := by
  have hw : Region.wanted o (yielded ops a.tmps) = true := by simp [Region.wanted, hgd]
  rw [if_pos hw]
  exact store_row p v t hop hp hv hi hc hf hs hone hk
abbrev RP := Rec × List Nat
section
variable {w w' : World} {b off : Nat} {ps : List RP}
theorem rec_look (h : RowAt recL w b off ps) {i : Nat} {p : RP} (hp : ps[i]? = some p) : ∃ c : List Value, recL.rep w c p.1 p.2 ∧ b ∉ p.2 ∧ Celled w b (off + i * 9) 9 c := h.look hp
theorem rec_swap (h : RowAt recL w b off ps) {i j : Nat} {p q : RP} (hi : ps[i]? = some p) (hj : ps[j]? = some q) {cp cq : List Value} (rp : recL.rep w cp p.1 p.2) (rq : recL.rep w cq q.1 q.2) (bp : b ∉ p.2) (bq : b ∉ q.2) :
    RowAt recL (w.setCells b (off + i * 9) cq) b off (ps.set i q) ∧ RowAt recL ((w.setCells b (off + i * 9) cq).setCells b (off + j * 9) cp) b off ((ps.set i q).set j p) := h.swap hi hj rp rq bp bq
theorem rec_some (h : RowAt recL w b off ps) {i : Nat} (hi : i < ps.length) : ∀ j, j < 9 → (w.cell? ⟨b, off + i * 9 + j, none⟩).isSome = true := h.isSome hi
theorem row_ind (h : RowAt recL w b off ps) : RowAt recL w.drew b off ps := h.ext (Chg.refl [] w).drew
theorem chg_sw {W0 : World} {k1 k2 : Nat} {c1 c2 : List Value} (h : Chg [b] W0 w) : Chg [b] W0 ((w.drew.setCells b k1 c1).setCells b k2 c2) := Chg.setCells (.inl (by simp)) _ _ (Chg.setCells (.inl (by simp)) _ _ h.drew)
end
set_option maxRecDepth 100000 in
set_option maxHeartbeats 2000000 in
theorem swapR_any (b off n cap A B k : Nat) (ps : List RP) (fv : Value) (w : World) (hr : RowAt recL w b off ps) (hn : n = ps.length) (hm : n ≤ 1000000) (hab : A + k ≤ B) (hb : B + k ≤ n) :
    Calls Tryz.prog 298 #[.slice (some ⟨b, off, none⟩) n cap, .int .i64 A, .int .i64 B, .int .i64 k, fv] w fun e w' => e = .returned (.tuple #[]) ∧ ∃ ps', RowAt recL w' b off ps' ∧ SwR ps ps' A B k ∧ Chg [b] w w' := by
  have HR := Lib.hid hr; have HN := Lib.hid hn
  clear hr hn
  go_enter Tryz.func298, Tryz.ntmps298
  go_wp2_with fail
  go_loopw [10] (fun vi wr => ∃ (i : Nat) (ps' : List RP) (Wr : World), Wr = wr ∧ i ≤ k ∧ vi = .int .i64 i ∧ RowAt recL wr b off ps' ∧ RowKit.Hid (SwR ps ps' A B i) ∧ Chg [b] w wr) (fun vi _ => k - (intOf vi).toNat)
  case atStart => exact ⟨0, ps, _, rfl, by omega, rfl, HR.out, SwR.zero _ _ _, Chg.refl _ _⟩
  case round =>
    obtain ⟨i, ps', wr, rfl, hi, rfl, hrow, HSR, hch⟩ := hrel
    have HCH := Lib.hid hch
    by_cases hlt : i < k
    · have hpl : ps'.length = n := by rw [HSR.out.1]; exact HN.out.symm
      obtain ⟨p, hp⟩ : ∃ p, ps'[A + i]? = some p := ⟨_, List.getElem?_eq_getElem (by omega)⟩
      obtain ⟨q, hq⟩ : ∃ q, ps'[B + i]? = some q := ⟨_, List.getElem?_eq_getElem (by omega)⟩
      have hrd := row_ind hrow
      obtain ⟨x, hx⟩ : ∃ x, x = A + i := ⟨_, rfl⟩
      obtain ⟨y, hy⟩ : ∃ y, y = B + i := ⟨_, rfl⟩
      have hwx : IntKind.i64.wrap ((A : Int) + (i : Int)) = (x : Int) := by rw [IntWalk.i64_in _ ⟨by omega, by omega⟩]; omega
      have hwy : IntKind.i64.wrap ((B : Int) + (i : Int)) = (y : Int) := by rw [IntWalk.i64_in _ ⟨by omega, by omega⟩]; omega
      have h1 : x < n := by omega
      have h2 : y < n := by omega
      rw [← hx] at hp; rw [← hy] at hq
      have HXY := Lib.hid (And.intro hx hy)
      clear hch hrow hx hy
      go_wp2_with fail
      obtain ⟨cp, rp, bp, kp⟩ := rec_look hrd hp
      obtain ⟨cq, rq, bq, kq⟩ := rec_look hrd hq
      have HSW := Lib.hid (rec_swap hrd hp hq rp rq bp bq)
      have HRD := Lib.hid hrd; have HPQ := Lib.hid (And.intro hp hq); have HKP := Lib.hid kp; have HKQ := Lib.hid kq
      clear rp rq bp bq kp kq hp hq hrd
      obtain ⟨CC, HCI, HCO⟩ := rg_cond (fun w' => Celled w' b (off + (x) * 9) 9 cp ∧ Celled w' b (off + (y) * 9) 9 cq)
      refine gg_start [21, 23] CC (by kernel_rfl) (HCI.out _ ⟨HKP.out, HKQ.out⟩) (fun hcl hS => ?_)
      refine ggT 0 hcl hS ?_; clear hcl hS; intro hcl hS
      refine ggT 1 hcl hS ?_; clear hcl hS; intro hcl hS
      refine ggT 2 hcl hS ?_; clear hcl hS; intro hcl hS
      refine ggT 3 hcl hS ?_; clear hcl hS; intro hcl hS
      refine ggT 4 hcl hS ?_; clear hcl hS; intro hcl hS
      refine ggT 5 hcl hS ?_; clear hcl hS; intro hcl hS
      refine ggT 6 hcl hS ?_; clear hcl hS; intro hcl hS
      refine ggT 7 hcl hS ?_; clear hcl hS; intro hcl hS
      refine ggT 8 hcl hS ?_; clear hcl hS; intro hcl hS
      refine ggT 9 hcl hS ?_; clear hcl hS; intro hcl hS
      refine ggT 10 hcl hS ?_; clear hcl hS; intro hcl hS
      refine ggT 11 hcl hS ?_; clear hcl hS; intro hcl hS
      refine ggT 12 hcl hS ?_; clear hcl hS; intro hcl hS
      refine ggL 13 hcl hS HCO ?_ (hy := fun w' hw => exec_row _ 67 rfl rfl infoRc Tryz.underlying67 hw.2); clear hcl hS; intro hcl hS
      refine ggT 14 hcl hS ?_; clear hcl hS; intro hcl hS
      refine ggT 15 hcl hS ?_; clear hcl hS; intro hcl hS
      refine ggT 16 hcl hS ?_; clear hcl hS; intro hcl hS
      refine ggT 17 hcl hS ?_; clear hcl hS; intro hcl hS
      refine ggT 18 hcl hS ?_; clear hcl hS; intro hcl hS
      refine ggL 19 hcl hS HCO ?_ (hy := fun w' hw => exec_row _ 67 rfl rfl infoRc Tryz.underlying67 hw.1); clear hcl hS; intro hcl hS
      refine ggT 20 hcl hS ?_; clear hcl hS; intro hcl hS
      refine ggC 21 hcl rfl (by kernel_rfl) (fun K hK => ?_)
      refine store_rowS (cs := cq) rfl _ _ 67 rfl rfl rfl infoRc (rec_some HRD.out (i := x) (by first | omega | (rw [List.length_set]; omega))) (RowAt.free HRD.out) HKQ.out.1 HKQ.out.2.2 ?_
      refine hK.out _ _ (Till.done (m := 21) (by simp) (by rfl)) ?_
      clear hK K hcl hS
      intro hcl hS
      try simp only [Act.put]
      refine ggT 22 hcl hS ?_; clear hcl hS; intro hcl hS
      refine ggC 23 hcl rfl (by kernel_rfl) (fun K hK => ?_)
      refine store_rowS (cs := cp) rfl _ _ 67 rfl rfl rfl infoRc (rec_some HSW.out.1 (i := y) (by first | omega | (rw [List.length_set]; omega))) (RowAt.free HSW.out.1) HKP.out.1 HKP.out.2.2 ?_
      refine hK.out _ _ (Till.done (m := 21) (by simp) (by rfl)) ?_
      clear hK K hcl hS
      intro hcl hS
      try simp only [Act.put]
      refine ggEnd (by kernel_rfl) ?_ _
      go_wp2_with fail
      go_roundw
      case rel => exact ⟨i + 1, _, _, rfl, by omega, by go_num, HSW.out.2, by obtain ⟨rfl, rfl⟩ := HXY.out; exact HSR.out.next (by omega) HPQ.out.1 HPQ.out.2, chg_sw HCH.out⟩
      case measure => simp [intOf]; omega
    · obtain rfl : i = k := by omega
      have HRW := Lib.hid hrow
      clear hch hrow
      go_wp2_with fail
      go_end0
      exact ⟨rfl, ps', HRW.out, HSR.out, HCH.out⟩

set_option maxRecDepth 100000 in
set_option maxHeartbeats 2000000 in
theorem rotR_any (b off n cap A m B : Nat) (X U V Y : List RP) (fv : Value) (w : World) (hr : RowAt recL w b off (X ++ (U ++ (V ++ Y)))) (hn : n = (X ++ (U ++ (V ++ Y))).length) (hm : n ≤ 1000000) (hX : X.length = A) (hU : A + U.length = m) (hV : m + V.length = B) (hU1 : A < m) (hV1 : m < B) :
    Calls Tryz.prog 292 #[.slice (some ⟨b, off, none⟩) n cap, .int .i64 A, .int .i64 m, .int .i64 B, fv] w fun e w' => e = .returned (.tuple #[]) ∧ RowAt recL w' b off (X ++ (V ++ (U ++ Y))) ∧ Chg [b] w w' := by
  have hBn : B ≤ n := by rw [hn]; simp only [List.length_append]; omega
  have HR := Lib.hid (show RotR m (X ++ (V ++ (U ++ Y))) (X ++ (U ++ (V ++ Y))) (m - A) (B - m) from ⟨X, U, V, Y, rfl, by omega, by omega, by omega, rfl⟩)
  have hgl : (X ++ (V ++ (U ++ Y))).length = n := by rw [hn]; simp only [List.length_append]; omega
  generalize X ++ (V ++ (U ++ Y)) = G at HR hgl ⊢
  generalize X ++ (U ++ (V ++ Y)) = ps at hr hn HR
  have HRW0 := Lib.hid hr; have HN := Lib.hid hn; have HG := Lib.hid hgl
  clear hr hn hX hU hV hgl
  obtain ⟨i0, hi0⟩ : ∃ i0, i0 = m - A := ⟨_, rfl⟩
  obtain ⟨j0, hj0⟩ : ∃ j0, j0 = B - m := ⟨_, rfl⟩
  rw [← hi0, ← hj0] at HR
  have hz1 : (m : Int) - (A : Int) = (i0 : Int) := by omega
  have hz2 : (B : Int) - (m : Int) = (j0 : Int) := by omega
  have hb1 : 1 ≤ i0 ∧ 1 ≤ j0 ∧ i0 ≤ m ∧ m + j0 ≤ n := by omega
  have HB1 := Lib.hid hb1
  clear hi0 hj0 hb1
  go_enter Tryz.func292, Tryz.ntmps292
  go_wp2_with fail
  go_loopw [10, 11] (fun vi vj wr => ∃ (i j : Nat) (ps' : List RP) (Wr : World), Wr = wr ∧ 1 ≤ i ∧ 1 ≤ j ∧ i ≤ m ∧ m + j ≤ n ∧ vi = .int .i64 i ∧ vj = .int .i64 j ∧ ps'.length = n ∧ RowAt recL wr b off ps' ∧ RowKit.Hid (RotR m G ps' i j) ∧ Chg [b] w wr) (fun vi vj _ => (intOf vi).toNat + (intOf vj).toNat)
  case atStart =>
    have := HB1.out
    exact ⟨i0, j0, ps, _, rfl, by omega, by omega, by omega, by omega, by go_num, by go_num, HN.out.symm, HRW0.out, HR, Chg.refl _ _⟩
  case round =>
    obtain ⟨i, j, ps', wr, rfl, hi1, hj1, him, hjn, rfl, rfl, hpl, hrow, HRT, hch⟩ := hrel
    have HCH := Lib.hid hch; have HRW := Lib.hid hrow
    obtain ⟨x, hx⟩ : ∃ x, x = m - i := ⟨_, rfl⟩
    have hwx : (m : Int) - (i : Int) = (x : Int) := by omega
    have HX := Lib.hid hx
    clear hch hrow
    rcases Nat.lt_trichotomy j i with hji | hji | hji
    · have HS := Lib.hid (swapR_any b off n cap x m j ps' fv wr HRW.out hpl.symm hm (by omega) (by omega))
      have hne : ((i : Int) != (j : Int)) = true := by rw [bne_iff_ne]; omega
      have hgt : (j : Int) < (i : Int) := by omega
      have hd : (i : Int) - (j : Int) = ((i - j : Nat) : Int) := by omega
      clear hx
      go_wp2_with fail
      refine HS.out.mono ?_
      rintro e w2 ⟨rfl, ps2, hr2, hs2, hc2⟩
      have HN1 := Lib.hid (HRT.out.left hji (by rw [← HX.out]; exact hs2)); have HL2 := Lib.hid (hs2.1.trans hpl); have HR2 := Lib.hid hr2; have HC2 := Lib.hid (HCH.out.trans hc2 (fun y hy => .inl hy))
      clear hr2 hs2 hc2
      go_wp2_with fail
      go_roundw
      case rel => exact ⟨i - j, j, ps2, _, rfl, by omega, by omega, by omega, by omega, by go_num, rfl, HL2.out, HR2.out, HN1, HC2.out⟩
      case measure => simp [intOf]; omega
    · subst hji
      have HS := Lib.hid (swapR_any b off n cap x m j ps' fv wr HRW.out hpl.symm hm (by omega) (by omega))
      have hne : ((j : Int) != (j : Int)) = false := by simp
      clear hx
      go_wp2_with fail
      refine HS.out.mono ?_
      rintro e w2 ⟨rfl, ps2, hr2, hs2, hc2⟩
      have e2 := HRT.out.last (by rw [← HX.out]; exact hs2)
      have HR2 := Lib.hid hr2; have HC2 := Lib.hid (HCH.out.trans hc2 (fun y hy => .inl hy)); have HE2 := Lib.hid e2
      clear hr2 hs2 hc2 e2
      go_wp2_with fail
      go_end0
      exact ⟨rfl, by rw [← HE2.out]; exact HR2.out, HC2.out⟩
    · obtain ⟨y, hy⟩ : ∃ y, y = m + j - i := ⟨_, rfl⟩
      have hwy : (m : Int) + (j : Int) - (i : Int) = (y : Int) := by omega
      have HS := Lib.hid (swapR_any b off n cap x y i ps' fv wr HRW.out hpl.symm hm (by omega) (by omega))
      have hne : ((i : Int) != (j : Int)) = true := by rw [bne_iff_ne]; omega
      have hgt : ¬ (j : Int) < (i : Int) := by omega
      have hd : (j : Int) - (i : Int) = ((j - i : Nat) : Int) := by omega
      have HY := Lib.hid hy
      clear hx hy
      go_wp2_with fail
      refine HS.out.mono ?_
      rintro e w2 ⟨rfl, ps2, hr2, hs2, hc2⟩
      have HN1 := Lib.hid (HRT.out.right hji (by rw [← HX.out, ← HY.out]; exact hs2)); have HL2 := Lib.hid (hs2.1.trans hpl); have HR2 := Lib.hid hr2; have HC2 := Lib.hid (HCH.out.trans hc2 (fun y hy => .inl hy))
      clear hr2 hs2 hc2
      go_wp2_with fail
      go_roundw
      case rel => exact ⟨i, j - i, ps2, _, rfl, by omega, by omega, by omega, by omega, rfl, by go_num, HL2.out, HR2.out, HN1, HC2.out⟩
      case measure => simp [intOf]; omega

/-- the order of the counted records -/
def recLt (x y : Rec) : Bool := decide (x.seq < y.seq ∨ x.seq = y.seq ∧ (x.kind < y.kind ∨ x.kind = y.kind ∧ x.group < y.group))
def ltP (p q : RP) : Bool := recLt p.1 q.1
theorem ltP_ordr : Ordr ltP := by
  refine ⟨fun x => ?_, fun x y z h k => ?_, fun x y z h k => ?_⟩ <;> simp only [ltP, recLt, decide_eq_true_eq, decide_eq_false_iff_not] at * <;> omega
def CmpOK : Prop := ∀ (w : World) (cx cy : List Value) (x y : Rec) (fx fy : List Nat), recL.rep w cx x fx → recL.rep w cy y fy → Calls Tryz.prog 170 #[.agg cx.toArray, .agg cy.toArray] w fun e w' => ∃ r : Int, e = .returned (.int .i64 r) ∧ RowKit.Hid (decide (r < 0) = recLt x y) ∧ Chg [] w w'
theorem cmp_r {p q : RP} {r : Int} {v : Bool} (hl : ltP p q = v) (h : RowKit.Hid (decide (r < 0) = recLt p.1 q.1)) : decide (r < 0) = v := h.out.trans hl
theorem Celled.ext {w w' : World} {b k n : Nat} {cs : List Value} (h : Celled w b k n cs) (hc : Chg [] w w') (hb : b < w.heap.size) : Celled w' b k n cs := ⟨h.1, fun j v hv => (hc.facts.1 b _ hb).trans (h.2.1 j v hv), h.2.2⟩
theorem thru_full {X S Y : List RP} {x : RP} {k : Nat} (hk : k = S.length) : thru X S Y x k = X ++ (S ++ (x :: Y)) := by
  subst hk
  unfold thru
  rw [List.take_length, List.drop_length]; rfl
theorem ins_end {X S Y Z0 : List RP} {x : RP} {k : Nat} (hs : Srt ltP S) (hb : Stab ltP Z0 S) (h1 : ∀ y ∈ S.drop k, ltP x y = true) (h2 : ∀ y ∈ S.take k, ltP x y = false) : ∃ S', thru X S Y x k = X ++ (S' ++ Y) ∧ Srt ltP S' ∧ Stab ltP (Z0 ++ [x]) S' :=
  ⟨S.take k ++ (x :: S.drop k), by unfold thru; simp, ins_srt ltP_ordr hs h1 h2, (hb.app (Stab.refl [x])).trans (ins_stab ltP_ordr h1)⟩
theorem ins_stop {S : List RP} {x : RP} {k : Nat} (hs : Srt ltP S) (hk : k < S.length) (h : ltP x S[k] = false) : ∀ y ∈ S.take (k + 1), ltP x y = false := fun y hy => by
  obtain ⟨i, hi, rfl⟩ := List.getElem_of_mem hy
  rw [List.length_take] at hi
  rw [List.getElem_take]
  exact ltP_ordr.le_trans (Srt.at ltP_ordr hs (show i ≤ k by omega) (List.getElem?_eq_getElem (by omega)) (List.getElem?_eq_getElem hk)) h
theorem ins_go {S : List RP} {x : RP} {k : Nat} (hk : k < S.length) (h : ∀ y ∈ S.drop (k + 1), ltP x y = true) (h2 : ltP x S[k] = true) : ∀ y ∈ S.drop k, ltP x y = true := fun y hy => by
  rw [List.drop_eq_getElem_cons hk] at hy
  rcases List.mem_cons.1 hy with rfl | hy
  · exact h2
  · exact h y hy
set_option maxRecDepth 100000 in
set_option maxHeartbeats 4000000 in
theorem insR_any (b off n cap A B : Nat) (X Z Y : List RP) (w : World) (HCMP : RowKit.Hid CmpOK) (hr : RowAt recL w b off (X ++ (Z ++ Y))) (hn : n = (X ++ (Z ++ Y)).length) (hm : n ≤ 1000000) (hX : X.length = A) (hZ : A + Z.length = B) :
    Calls Tryz.prog 271 #[.slice (some ⟨b, off, none⟩) n cap, .int .i64 A, .int .i64 B, .func (.func 170) #[] #[]] w fun e w' => e = .returned (.tuple #[]) ∧ ∃ S, RowAt recL w' b off (X ++ (S ++ Y)) ∧ Srt ltP S ∧ Stab ltP Z S ∧ Chg [b] w w' := by
  have hBn : B ≤ n := by rw [hn]; simp only [List.length_append]; omega
  have hLN : n = A + (Z.length + Y.length) := by rw [hn]; simp only [List.length_append]; omega
  have hAn : A ≤ n := by omega
  have HR := Lib.hid hr; have HX := Lib.hid hX; have HLN := Lib.hid hLN; have HZ := Lib.hid hZ
  clear hr hn hLN
  by_cases hz : Z.length = 0
  · have hlt : ¬ (A : Int) + 1 < (B : Int) := by omega
    have HE := Lib.hid (List.eq_nil_of_length_eq_zero hz)
    clear hX hZ hz
    go_enter Tryz.func271, Tryz.ntmps271
    go_wp2_with fail
    go_loopw [8] (fun vi wr => vi = .int .i64 ((A : Int) + 1) ∧ wr = w) (fun _ _ => 0)
    case atStart => exact ⟨by go_num, rfl⟩
    case round =>
    obtain ⟨rfl, rfl⟩ := hrel
    go_wp2_with fail
    go_end0
    exact ⟨rfl, [], by rw [← HE.out]; exact HR.out, List.Pairwise.nil, by rw [HE.out]; exact Stab.refl _, Chg.refl _ _⟩
  · have hAB : A + 1 ≤ B := by omega
    clear hX hZ hz
    go_enter Tryz.func271, Tryz.ntmps271
    go_wp2_with fail
    go_loopw [8] (fun vi wr => ∃ (i : Nat) (S : List RP) (Wr : World), Wr = wr ∧ A + 1 ≤ i ∧ i ≤ B ∧ vi = .int .i64 i ∧ RowAt recL wr b off (X ++ (S ++ (Z.drop (i - A) ++ Y))) ∧ RowKit.Hid (Srt ltP S ∧ Stab ltP (Z.take (i - A)) S) ∧ Chg [b] w wr) (fun vi _ => B - (intOf vi).toNat)
    case atStart =>
      refine ⟨A + 1, Z.take 1, _, rfl, by omega, by omega, by go_num, ?_, ⟨?_, ?_⟩, Chg.refl _ _⟩
      · rw [Nat.add_sub_cancel_left, ← List.append_assoc (Z.take 1), List.take_append_drop]; exact HR.out
      · cases Z with
        | nil => exact List.Pairwise.nil
        | cons z Z => simp; exact List.pairwise_singleton _ _
      · rw [Nat.add_sub_cancel_left]; exact Stab.refl _
    case round =>
      obtain ⟨i, S, wr, rfl, hi1, hi2, rfl, hrow, HSS, hch⟩ := hrel
      have HCH := Lib.hid hch
      by_cases hlt : i < B
      · have hzl : i - A < Z.length := by have := HZ.out; omega
        obtain ⟨x, hx⟩ : ∃ x, x = Z[i - A] := ⟨_, rfl⟩
        obtain ⟨Y', hY'⟩ : ∃ Y', Y' = Z.drop (i - A + 1) ++ Y := ⟨_, rfl⟩
        have hsl : S.length = i - A := by have := HSS.out.2.1; rw [List.length_take] at this; omega
        have e0 : Z.drop (i - A) ++ Y = x :: Y' := by rw [List.drop_eq_getElem_cons hzl, hx, hY']; rfl
        rw [e0, ← thru_full (Y := Y') hsl.symm] at hrow
        have HRW := Lib.hid hrow; have HSL := Lib.hid hsl; have HY' := Lib.hid hY'
        have HXE := Lib.hid (show Z[i - A]? = some x by rw [List.getElem?_eq_getElem hzl, hx])
        have hpn : A + (i - A) + 1 + Y'.length = n := by have := HLN.out; rw [hY', List.length_append, List.length_drop]; omega
        have HPN := Lib.hid hpn
        clear hch hrow hx hY' hsl e0 hzl hpn
        go_wp2_with fail
        go_loopw [9] (fun vj wq => ∃ (j : Nat) (Wq : World), Wq = wq ∧ A ≤ j ∧ j ≤ i ∧ vj = .int .i64 j ∧ RowAt recL wq b off (thru X S Y' x (j - A)) ∧ RowKit.Hid (∀ y ∈ S.drop (j - A), ltP x y = true) ∧ Chg [b] w wq) (fun vj _ => (intOf vj).toNat)
        case atStart => exact ⟨i, _, rfl, by omega, by omega, rfl, HRW.out, Lib.hid (show ∀ y ∈ S.drop (i - A), ltP x y = true from fun y hy => by rw [List.drop_eq_nil_of_le (by have := HSL.out; omega)] at hy; cases hy), HCH.out⟩
        case round =>
          clear HCH HRW
          obtain ⟨j, wq, rfl, hj1, hj2, rfl, hrow, HDR, hch⟩ := hrel
          have HCH := Lib.hid hch
          have hln : (thru X S Y' x (j - A)).length = n := by rw [thru_len, HX.out, HSL.out]; exact HPN.out
          by_cases hja : A < j
          · have hjk : j - A - 1 < S.length := by have := HSL.out; omega
            have hk : j - A = (j - A - 1) + 1 := by omega
            obtain ⟨q, hqe⟩ : ∃ q, q = S[j - A - 1] := ⟨_, rfl⟩
            have hp : (thru X S Y' x (j - A))[j]? = some x := by
              have := thru_at (A := X) (S := S) (B := Y') (x := x) (k := j - A) (by have := HSL.out; omega)
              rwa [HX.out, show A + (j - A) = j by omega] at this
            have hq : (thru X S Y' x (j - A))[j - 1]? = some q := by
              have := thru_prev (A := X) (B := Y') (x := x) hjk
              rw [← hk, HX.out, show A + (j - A - 1) = j - 1 by omega] at this
              rw [this, hqe]
            have hrd := row_ind hrow
            have HROW := Lib.hid hrow
            have hgt : (A : Int) < (j : Int) := by omega
            obtain ⟨y, hy⟩ : ∃ y, y = j - 1 := ⟨_, rfl⟩
            have hwy : IntKind.i64.wrap ((j : Int) - 1) = (y : Int) := by rw [IntWalk.i64_in _ ⟨by omega, by omega⟩]; omega
            have h1 : j < n := by omega
            have h2 : y < n := by omega
            rw [← hy] at hq
            have HY := Lib.hid hy; have HQE := Lib.hid (show S[j - A - 1]? = some q by rw [List.getElem?_eq_getElem hjk, hqe]); have HK0 := Lib.hid hk
            clear hch hrow hy hqe hk
            cases hl : ltP x q
            · have HNL := Lib.hid hl
              go_wp2_with fail
              obtain ⟨c1, r1, -, k1⟩ := rec_look hrd hp
              obtain ⟨c2, r2, -, k2⟩ := rec_look hrd hq
              have HK := Lib.hid (And.intro k1 k2); have HRD := Lib.hid hrd; have HPQ := Lib.hid (And.intro hp hq); have HRC := Lib.hid (HCMP.out _ _ _ _ _ _ _ r1 r2)
              clear r1 r2 k1 k2 hp hq hrd
              obtain ⟨SS, HSI, HSO⟩ := rg_cond (fun w' => Celled w' b (off + (j) * 9) 9 c1 ∧ Celled w' b (off + (y) * 9) 9 c2)
              have hS0 := HSI.out _ HK.out
              refine rg_start SS (by kernel_rfl) hS0 ?_
              refine rgT 0 hS0 ?_
              refine rgT 1 hS0 ?_
              refine rgT 2 hS0 ?_
              refine rgT 3 hS0 ?_
              refine rgT 4 hS0 ?_
              refine rgT 5 hS0 ?_
              refine rgT 6 hS0 ?_
              refine rgT 7 hS0 ?_
              refine rgL 8 hS0 HSO ?_ (hy := fun w' hw => exec_row _ 67 rfl rfl infoRc Tryz.underlying67 hw.1)
              refine rgT 9 hS0 ?_
              refine rgT 10 hS0 ?_
              refine rgT 11 hS0 ?_
              refine rgT 12 hS0 ?_
              refine rgL 13 hS0 HSO ?_ (hy := fun w' hw => exec_row _ 67 rfl rfl infoRc Tryz.underlying67 hw.2)
              refine rg_call 14 rfl (by kernel_rfl) (fun K hK => ?_)
              go_simp
              go_at_call 170
              refine HRC.out.mono ?_
              rintro e w1 ⟨r, rfl, hrr, hc1⟩
              have hr0 := cmp_r hl hrr
              have HR1 := Lib.hid (HRD.out.ext hc1); have HC1 := Lib.hid (HCH.out.drew.trans0 hc1); have HK1 := Lib.hid (And.intro (HK.out.1.ext hc1 HRD.out.lt) (HK.out.2.ext hc1 HRD.out.lt))
              clear hc1 hrr
              go_wp2_with fail
              refine hK.out _ _ (HSI.out _ HK1.out) (fun hS1 => ?_)
              clear hK K
              try simp only [Act.put, List.setIfInBounds_toArray, List.set_cons_zero, List.set_cons_succ]
              refine rgT 15 hS1 ?_
              refine rgT 16 hS1 ?_
              refine wpAnyH_done (by kernel_rfl) ?_ _
              go_wp2_with fail
              have hend := ins_end (X := X) (Y := Y') (k := j - A) HSS.out.1 HSS.out.2 HDR.out (by
                have e := (List.getElem?_eq_some_iff.1 HQE.out).2
                have := ins_stop HSS.out.1 hjk (x := x) (by rw [e]; exact HNL.out)
                rwa [← HK0.out] at this)
              obtain ⟨S', e1, s1, b1⟩ := hend
              have hrow2 := HR1.out
              rw [e1, HY'.out] at hrow2
              rw [← take_next HXE.out, show i - A + 1 = i + 1 - A by omega] at b1
              rw [show i - A + 1 = i + 1 - A by omega] at hrow2
              have HRW2 := Lib.hid hrow2; have HSS2 := Lib.hid (And.intro s1 b1)
              clear e1 s1 b1 hrow2
              go_wp2_with fail
              go_roundw
              case rel => exact ⟨i + 1, S', _, rfl, by omega, by omega, by go_num, HRW2.out, HSS2, HC1.out⟩
              case measure => simp [intOf]; omega
            · have HL1 := Lib.hid hl
              go_wp2_with fail
              obtain ⟨c1, r1, -, k1⟩ := rec_look hrd hp
              obtain ⟨c2, r2, -, k2⟩ := rec_look hrd hq
              have HK := Lib.hid (And.intro k1 k2); have HRD := Lib.hid hrd; have HPQ := Lib.hid (And.intro hp hq); have HRC := Lib.hid (HCMP.out _ _ _ _ _ _ _ r1 r2)
              clear r1 r2 k1 k2 hp hq hrd
              obtain ⟨SS, HSI, HSO⟩ := rg_cond (fun w' => Celled w' b (off + (j) * 9) 9 c1 ∧ Celled w' b (off + (y) * 9) 9 c2)
              have hS0 := HSI.out _ HK.out
              refine rg_start SS (by kernel_rfl) hS0 ?_
              refine rgT 0 hS0 ?_
              refine rgT 1 hS0 ?_
              refine rgT 2 hS0 ?_
              refine rgT 3 hS0 ?_
              refine rgT 4 hS0 ?_
              refine rgT 5 hS0 ?_
              refine rgT 6 hS0 ?_
              refine rgT 7 hS0 ?_
              refine rgL 8 hS0 HSO ?_ (hy := fun w' hw => exec_row _ 67 rfl rfl infoRc Tryz.underlying67 hw.1)
              refine rgT 9 hS0 ?_
              refine rgT 10 hS0 ?_
              refine rgT 11 hS0 ?_
              refine rgT 12 hS0 ?_
              refine rgL 13 hS0 HSO ?_ (hy := fun w' hw => exec_row _ 67 rfl rfl infoRc Tryz.underlying67 hw.2)
              refine rg_call 14 rfl (by kernel_rfl) (fun K hK => ?_)
              go_simp
              go_at_call 170
              refine HRC.out.mono ?_
              rintro e w1 ⟨r, rfl, hrr, hc1⟩
              have hr0 := cmp_r hl hrr
              have HR1 := Lib.hid (HRD.out.ext hc1); have HC1 := Lib.hid (HCH.out.drew.trans0 hc1); have HK1 := Lib.hid (And.intro (HK.out.1.ext hc1 HRD.out.lt) (HK.out.2.ext hc1 HRD.out.lt))
              clear hc1 hrr
              go_wp2_with fail
              refine hK.out _ _ (HSI.out _ HK1.out) (fun hS1 => ?_)
              clear hK K
              try simp only [Act.put, List.setIfInBounds_toArray, List.set_cons_zero, List.set_cons_succ]
              refine rgT 15 hS1 ?_
              refine rgT 16 hS1 ?_
              refine wpAnyH_done (by kernel_rfl) ?_ _
              go_wp2_with fail
              have hp := HPQ.out.1; have hq := HPQ.out.2
              have hrd := row_ind HR1.out
              clear HRD HK HPQ HRC HK1 HROW HCH
              have HCH := HC1
              obtain ⟨cp, rp, bp, kp⟩ := rec_look hrd hp
              obtain ⟨cq, rq, bq, kq⟩ := rec_look hrd hq
              have HSW := Lib.hid (rec_swap hrd hp hq rp rq bp bq)
              have HRD := Lib.hid hrd; have HPQ := Lib.hid (And.intro hp hq); have HKP := Lib.hid kp; have HKQ := Lib.hid kq
              clear rp rq bp bq kp kq hp hq hrd
              obtain ⟨CC, HCI, HCO⟩ := rg_cond (fun w' => Celled w' b (off + (j) * 9) 9 cp ∧ Celled w' b (off + (y) * 9) 9 cq)
              refine gg_start [15, 17] CC (by kernel_rfl) (HCI.out _ ⟨HKP.out, HKQ.out⟩) (fun hcl hS => ?_)
              refine ggT 0 hcl hS ?_; clear hcl hS; intro hcl hS
              refine ggT 1 hcl hS ?_; clear hcl hS; intro hcl hS
              refine ggT 2 hcl hS ?_; clear hcl hS; intro hcl hS
              refine ggT 3 hcl hS ?_; clear hcl hS; intro hcl hS
              refine ggT 4 hcl hS ?_; clear hcl hS; intro hcl hS
              refine ggT 5 hcl hS ?_; clear hcl hS; intro hcl hS
              refine ggT 6 hcl hS ?_; clear hcl hS; intro hcl hS
              refine ggT 7 hcl hS ?_; clear hcl hS; intro hcl hS
              refine ggT 8 hcl hS ?_; clear hcl hS; intro hcl hS
              refine ggL 9 hcl hS HCO ?_ (hy := fun w' hw => exec_row _ 67 rfl rfl infoRc Tryz.underlying67 hw.2); clear hcl hS; intro hcl hS
              refine ggT 10 hcl hS ?_; clear hcl hS; intro hcl hS
              refine ggT 11 hcl hS ?_; clear hcl hS; intro hcl hS
              refine ggT 12 hcl hS ?_; clear hcl hS; intro hcl hS
              refine ggL 13 hcl hS HCO ?_ (hy := fun w' hw => exec_row _ 67 rfl rfl infoRc Tryz.underlying67 hw.1); clear hcl hS; intro hcl hS
              refine ggT 14 hcl hS ?_; clear hcl hS; intro hcl hS
              refine ggC 15 hcl rfl (by kernel_rfl) (fun K hK => ?_)
              refine store_rowS (cs := cq) rfl _ _ 67 rfl rfl rfl infoRc (rec_some HRD.out (i := j) (by first | omega | (rw [List.length_set]; omega))) (RowAt.free HRD.out) HKQ.out.1 HKQ.out.2.2 ?_
              refine hK.out _ _ (Till.done (m := 15) (by simp) (by rfl)) ?_
              clear hK K hcl hS
              intro hcl hS
              try simp only [Act.put]
              refine ggT 16 hcl hS ?_; clear hcl hS; intro hcl hS
              refine ggC 17 hcl rfl (by kernel_rfl) (fun K hK => ?_)
              refine store_rowS (cs := cp) rfl _ _ 67 rfl rfl rfl infoRc (rec_some HSW.out.1 (i := y) (by first | omega | (rw [List.length_set]; omega))) (RowAt.free HSW.out.1) HKP.out.1 HKP.out.2.2 ?_
              refine hK.out _ _ (Till.done (m := 15) (by simp) (by rfl)) ?_
              clear hK K hcl hS
              intro hcl hS
              try simp only [Act.put]
              refine ggEnd (by kernel_rfl) ?_ _
              go_wp2_with fail
              have e := (List.getElem?_eq_some_iff.1 HQE.out).2
              have hrow3 := HSW.out.2
              have hdn := thru_down (A := X) (B := Y') (x := x) hjk
              rw [← HK0.out, HX.out, e, show A + (j - A - 1) + 1 = j by omega, show A + (j - A - 1) = y by have := HY.out; omega] at hdn
              rw [hdn, show j - A - 1 = y - A by have := HY.out; omega] at hrow3
              have HRW3 := Lib.hid hrow3; have HCC := Lib.hid (chg_sw (k1 := off + j * 9) (k2 := off + y * 9) (c1 := cq) (c2 := cp) HCH.out)
              have HDR3 := Lib.hid (show ∀ z ∈ S.drop (y - A), ltP x z = true by
                have := ins_go hjk (x := x) (by rw [← HK0.out]; exact HDR.out) (by rw [e]; exact HL1.out)
                rwa [show j - A - 1 = y - A by have := HY.out; omega] at this)
              have hyy := HY.out
              clear hrow3 hdn e
              go_roundw
              case rel => exact ⟨y, _, rfl, by omega, by omega, by go_num, HRW3.out, HDR3, HCC.out⟩
              case measure => simp [intOf]; omega
          · have hle : ¬ (A : Int) < (j : Int) := by omega
            obtain rfl : j = A := by omega
            have HROW := Lib.hid hrow
            clear hch hrow
            go_wp2_with fail
            obtain ⟨SS, HSI, HSO⟩ := rg_cond (fun _ : World => True)
            have hS0 := HSI.out wq.drew trivial
            refine rg_start SS (by kernel_rfl) hS0 ?_
            refine rgT 0 hS0 ?_
            refine rgT 1 hS0 ?_
            refine rgT 2 hS0 ?_
            refine rgT 3 hS0 ?_
            refine rgS 4 hS0 ?_
            refine rgS 5 hS0 ?_
            refine rgS 6 hS0 ?_
            refine rgS 7 hS0 ?_
            refine rgS 8 hS0 ?_
            refine rgS 9 hS0 ?_
            refine rgS 10 hS0 ?_
            refine rgS 11 hS0 ?_
            refine rgS 12 hS0 ?_
            refine rgS 13 hS0 ?_
            refine rgS 14 hS0 ?_
            refine rgS 15 hS0 ?_
            refine rgT 16 hS0 ?_
            refine wpAnyH_done (by kernel_rfl) ?_ _
            go_wp2_with fail
            have hend := ins_end (X := X) (Y := Y') (k := j - j) HSS.out.1 HSS.out.2 HDR.out (fun z hz => by rw [Nat.sub_self, List.take_zero] at hz; cases hz)
            obtain ⟨S', e1, s1, b1⟩ := hend
            have hrow2 := row_ind HROW.out
            rw [e1, HY'.out] at hrow2
            rw [← take_next HXE.out, show i - j + 1 = i + 1 - j by omega] at b1
            rw [show i - j + 1 = i + 1 - j by omega] at hrow2
            have HRW2 := Lib.hid hrow2; have HSS2 := Lib.hid (And.intro s1 b1); have HCC := Lib.hid HCH.out.drew
            clear e1 s1 b1 hrow2
            go_wp2_with fail
            go_roundw
            case rel => exact ⟨i + 1, S', _, rfl, by omega, by omega, by go_num, HRW2.out, HSS2, HCC.out⟩
            case measure => simp [intOf]; omega
      · obtain rfl : i = B := by omega
        have hzz : Z.length = i - A := by have := HZ.out; omega
        rw [List.drop_eq_nil_of_le (by omega), List.nil_append] at hrow
        have HRW := Lib.hid hrow; have HST := Lib.hid (show Stab ltP Z S by have := HSS.out.2; rwa [List.take_of_length_le (by omega)] at this)
        clear hch hrow hzz
        go_wp2_with fail
        go_end0
        exact ⟨rfl, S, HRW.out, HSS.out.1, HST.out, HCH.out⟩

end Go.Proofs.YtphmpimgbmedbaaGreat

/- The merge of two sorted parts of a row of records, in place. -/
namespace Go.Proofs.YtphmpimgbmedbaaGreat
open Go.RowKit

set_option maxRecDepth 100000 in
set_option maxHeartbeats 4000000 in
theorem symL_any (b off n cap A m B : Nat) (X R Y : List RP) (x : RP) (L : List RP) (hLx : L = [x]) (w : World) (HCMP : RowKit.Hid CmpOK) (hr : RowAt recL w b off (X ++ (x :: (R ++ Y)))) (hn : n = (X ++ (x :: (R ++ Y))).length) (hm : n ≤ 1000000) (hX : X.length = A) (hL : A + 1 = m) (hR : m + R.length = B) (h2 : m < B) (sR : Srt ltP R) :
    Calls Tryz.prog 272 #[.slice (some ⟨b, off, none⟩) n cap, .int .i64 A, .int .i64 m, .int .i64 B, .func (.func 170) #[] #[]] w fun e w' => e = .returned (.tuple #[]) ∧ ∃ M, RowAt recL w' b off (X ++ (M ++ Y)) ∧ Srt ltP M ∧ Stab ltP (L ++ R) M ∧ Chg [b] w w' := by
  have hBn : B ≤ n := by rw [hn]; simp only [List.length_append, List.length_cons]; omega
  have HX := Lib.hid hX; have HRL := Lib.hid hR; have HLX := Lib.hid hLx
  have HAN := Lib.hid (left_anti (B := Y) (x := x) ltP_ordr (show X.length + 1 = m by omega) sR)
  have HSR := Lib.hid sR
  have hpl : (X ++ (x :: (R ++ Y))).length = n := hn.symm
  have hxa : (X ++ (x :: (R ++ Y)))[A]? = some x := by rw [app_hi (by omega), hX, Nat.sub_self]; rfl
  have hthru : X ++ (x :: (R ++ Y)) = thru X R Y x 0 := by unfold thru; simp
  have HTH := Lib.hid hthru
  have HEN := Lib.hid (fun (i : Nat) (hi : m ≤ i) (hi2 : i ≤ m + R.length) hb => one_left (A := X) (x := x) (i := i) (B := Y) ltP_ordr (show X.length + 1 = m by omega) hi sR hb hi2)
  rw [hR] at HAN HEN
  obtain ⟨ps, hps⟩ : ∃ ps, ps = X ++ (x :: (R ++ Y)) := ⟨_, rfl⟩
  rw [← hps] at hr hpl hxa HAN HTH HEN
  have HROW0 := Lib.hid hr; have HXA := Lib.hid hxa; have HPL := Lib.hid hpl
  have hm1 : (m : Int) - (A : Int) = 1 := by omega
  clear hr hn hX hR hLx sR hpl hxa hthru hps
  go_enter Tryz.func272, Tryz.ntmps272
  go_wp2_with fail
  go_loopw [10, 11] (fun vi vj wr => ∃ (i j : Nat) (Wr : World), Wr = wr ∧ m ≤ i ∧ i ≤ j ∧ j ≤ B ∧ vi = .int .i64 i ∧ vj = .int .i64 j ∧ RowAt recL wr b off ps ∧ RowKit.Hid (Bnd (fun t => ltAt ltP ps[t]? (some x)) m B i j) ∧ Chg [b] w wr) (fun vi vj _ => (intOf vj).toNat - (intOf vi).toNat)
  case atStart => exact ⟨m, B, _, rfl, by omega, by omega, by omega, rfl, rfl, HROW0.out, Bnd.zero _ _ _, Chg.refl _ _⟩
  case round =>
    obtain ⟨i, j, wr, rfl, hi1, hij, hjB, rfl, rfl, hrow, HBD, hch⟩ := hrel
    have HCH := Lib.hid hch
    by_cases hlt : i < j
    · obtain ⟨h, hh⟩ : ∃ h, h = (i + j) / 2 := ⟨_, rfl⟩
      have hh1 : i ≤ h ∧ h < j := by omega
      have hcv : ((i : Int) + (j : Int)) / 2 = (h : Int) := by omega
      obtain ⟨p, hp⟩ : ∃ p, ps[h]? = some p := ⟨_, List.getElem?_eq_getElem (by have := HPL.out; omega)⟩
      obtain ⟨q, hqx⟩ : ∃ q, q = x := ⟨_, rfl⟩
      have hq : ps[A]? = some q := by rw [hqx]; exact HXA.out
      have hn1 : h < n := by omega
      have hn2 : A < n := by omega
      have hpx := hp
      have hrd := row_ind hrow
      clear hch hrow hh
      cases hl : ltP p q
      · have HNP := Lib.hid (show (fun t => ltAt ltP ps[t]? (some x)) h = false by dsimp only; rw [hpx, ← hqx]; exact hl)
        go_wp2_with fail
        obtain ⟨c1, r1, -, k1⟩ := rec_look hrd hp
        obtain ⟨c2, r2, -, k2⟩ := rec_look hrd hq
        have HK := Lib.hid (And.intro k1 k2); have HRD := Lib.hid hrd; have HPQ := Lib.hid (And.intro hp hq); have HRC := Lib.hid (HCMP.out _ _ _ _ _ _ _ r1 r2)
        clear r1 r2 k1 k2 hp hq hrd
        obtain ⟨SS, HSI, HSO⟩ := rg_cond (fun w' => Celled w' b (off + (h) * 9) 9 c1 ∧ Celled w' b (off + (A) * 9) 9 c2)
        have hS0 := HSI.out _ HK.out
        refine rg_start SS (by kernel_rfl) hS0 ?_
        refine rgT 0 hS0 ?_
        refine rgT 1 hS0 ?_
        refine rgT 2 hS0 ?_
        refine rgT 3 hS0 ?_
        refine rgL 4 hS0 HSO ?_ (hy := fun w' hw => exec_row _ 67 rfl rfl infoRc Tryz.underlying67 hw.1)
        refine rgT 5 hS0 ?_
        refine rgT 6 hS0 ?_
        refine rgT 7 hS0 ?_
        refine rgL 8 hS0 HSO ?_ (hy := fun w' hw => exec_row _ 67 rfl rfl infoRc Tryz.underlying67 hw.2)
        refine rg_call 9 rfl (by kernel_rfl) (fun K hK => ?_)
        go_simp
        go_at_call 170
        refine HRC.out.mono ?_
        rintro e w1 ⟨r, rfl, hrr, hc1⟩
        have hr0 := cmp_r hl hrr
        have HR1 := Lib.hid (HRD.out.ext hc1); have HC1 := Lib.hid (HCH.out.drew.trans0 hc1); have HK1 := Lib.hid (And.intro (HK.out.1.ext hc1 HRD.out.lt) (HK.out.2.ext hc1 HRD.out.lt))
        clear hc1 hrr
        go_wp2_with fail
        refine hK.out _ _ (HSI.out _ HK1.out) (fun hS1 => ?_)
        clear hK K
        try simp only [Act.put, List.setIfInBounds_toArray, List.set_cons_zero, List.set_cons_succ]
        refine rgT 10 hS1 ?_
        refine wpAnyH_done (by kernel_rfl) ?_ _
        have hrr := hr0
        go_wp2_with fail
        have HB2 := Lib.hid (HBD.out.no HAN.out (by omega) HNP.out)
        go_roundw
        case rel => exact ⟨i, h, _, rfl, by omega, by omega, by omega, rfl, by go_num, HR1.out, HB2, HC1.out⟩
        case measure => simp [intOf]; omega
      · have HNP := Lib.hid (show (fun t => ltAt ltP ps[t]? (some x)) h = true by dsimp only; rw [hpx, ← hqx]; exact hl)
        go_wp2_with fail
        obtain ⟨c1, r1, -, k1⟩ := rec_look hrd hp
        obtain ⟨c2, r2, -, k2⟩ := rec_look hrd hq
        have HK := Lib.hid (And.intro k1 k2); have HRD := Lib.hid hrd; have HPQ := Lib.hid (And.intro hp hq); have HRC := Lib.hid (HCMP.out _ _ _ _ _ _ _ r1 r2)
        clear r1 r2 k1 k2 hp hq hrd
        obtain ⟨SS, HSI, HSO⟩ := rg_cond (fun w' => Celled w' b (off + (h) * 9) 9 c1 ∧ Celled w' b (off + (A) * 9) 9 c2)
        have hS0 := HSI.out _ HK.out
        refine rg_start SS (by kernel_rfl) hS0 ?_
        refine rgT 0 hS0 ?_
        refine rgT 1 hS0 ?_
        refine rgT 2 hS0 ?_
        refine rgT 3 hS0 ?_
        refine rgL 4 hS0 HSO ?_ (hy := fun w' hw => exec_row _ 67 rfl rfl infoRc Tryz.underlying67 hw.1)
        refine rgT 5 hS0 ?_
        refine rgT 6 hS0 ?_
        refine rgT 7 hS0 ?_
        refine rgL 8 hS0 HSO ?_ (hy := fun w' hw => exec_row _ 67 rfl rfl infoRc Tryz.underlying67 hw.2)
        refine rg_call 9 rfl (by kernel_rfl) (fun K hK => ?_)
        go_simp
        go_at_call 170
        refine HRC.out.mono ?_
        rintro e w1 ⟨r, rfl, hrr, hc1⟩
        have hr0 := cmp_r hl hrr
        have HR1 := Lib.hid (HRD.out.ext hc1); have HC1 := Lib.hid (HCH.out.drew.trans0 hc1); have HK1 := Lib.hid (And.intro (HK.out.1.ext hc1 HRD.out.lt) (HK.out.2.ext hc1 HRD.out.lt))
        clear hc1 hrr
        go_wp2_with fail
        refine hK.out _ _ (HSI.out _ HK1.out) (fun hS1 => ?_)
        clear hK K
        try simp only [Act.put, List.setIfInBounds_toArray, List.set_cons_zero, List.set_cons_succ]
        refine rgT 10 hS1 ?_
        refine wpAnyH_done (by kernel_rfl) ?_ _
        have hrr := hr0
        go_wp2_with fail
        have HB2 := Lib.hid (HBD.out.yes HAN.out (by omega) HNP.out)
        go_roundw
        case rel => exact ⟨h + 1, j, _, rfl, by omega, by omega, by omega, by go_num, rfl, HR1.out, HB2, HC1.out⟩
        case measure => simp [intOf]; omega
    · obtain rfl : i = j := by omega
      obtain ⟨M, e1, s1, b1⟩ := HEN.out i hi1 hjB HBD.out
      have HM := Lib.hid e1; have HSB := Lib.hid (And.intro s1 b1)
      rw [HTH.out] at hrow
      have HROW := Lib.hid hrow
      clear hch hrow e1 s1 b1
      go_wp2_with fail
      go_loopw [13] (fun vk wq => ∃ (k : Nat) (Wq : World), Wq = wq ∧ A ≤ k ∧ k + 1 ≤ i ∧ vk = .int .i64 k ∧ RowAt recL wq b off (thru X R Y x (k - A)) ∧ Chg [b] w wq) (fun vk _ => i - (intOf vk).toNat)
      case atStart => exact ⟨A, _, rfl, by omega, by omega, rfl, by rw [Nat.sub_self]; exact HROW.out, HCH.out⟩
      case round =>
        clear HCH HROW
        obtain ⟨k, wq, rfl, hk1, hk2, rfl, hrow, hch⟩ := hrel
        have HCH := Lib.hid hch
        by_cases hki : k + 1 < i
        · have hkr : k - A < R.length := by have := HRL.out; omega
          obtain ⟨q, hqe⟩ : ∃ q, q = R[k - A] := ⟨_, rfl⟩
          have hp : (thru X R Y x (k - A))[k]? = some x := by
            have := thru_at (A := X) (S := R) (B := Y) (x := x) (k := k - A) (by omega)
            rwa [HX.out, show A + (k - A) = k by omega] at this
          have hq : (thru X R Y x (k - A))[k + 1]? = some q := by
            have := thru_next (A := X) (B := Y) (x := x) hkr
            rw [HX.out, show A + (k - A) + 1 = k + 1 by omega] at this
            rw [this, hqe]
          have hln : (thru X R Y x (k - A)).length = n := by have := HPL.out; rw [HTH.out, thru_len] at this; rw [thru_len]; exact this
          obtain ⟨y, hy⟩ : ∃ y, y = k + 1 := ⟨_, rfl⟩
          have hwy : IntKind.i64.wrap ((k : Int) + 1) = (y : Int) := by rw [IntWalk.i64_in _ ⟨by omega, by omega⟩]; omega
          have hlt2 : (k : Int) < (i : Int) - 1 := by omega
          have h1 : k < n := by omega
          have h3 : y < n := by omega
          rw [← hy] at hq
          have hrd := row_ind hrow
          have HY := Lib.hid hy; have HQE := Lib.hid hqe
          clear hch hrow hy hqe
          go_wp2_with fail
          obtain ⟨cp, rp, bp, kp⟩ := rec_look hrd hp
          obtain ⟨cq, rq, bq, kq⟩ := rec_look hrd hq
          have HSW := Lib.hid (rec_swap hrd hp hq rp rq bp bq)
          have HRD := Lib.hid hrd; have HPQ := Lib.hid (And.intro hp hq); have HKP := Lib.hid kp; have HKQ := Lib.hid kq
          clear rp rq bp bq kp kq hp hq hrd
          obtain ⟨CC, HCI, HCO⟩ := rg_cond (fun w' => Celled w' b (off + (k) * 9) 9 cp ∧ Celled w' b (off + (y) * 9) 9 cq)
          refine gg_start [15, 17] CC (by kernel_rfl) (HCI.out _ ⟨HKP.out, HKQ.out⟩) (fun hcl hS => ?_)
          refine ggT 0 hcl hS ?_; clear hcl hS; intro hcl hS
          refine ggT 1 hcl hS ?_; clear hcl hS; intro hcl hS
          refine ggT 2 hcl hS ?_; clear hcl hS; intro hcl hS
          refine ggT 3 hcl hS ?_; clear hcl hS; intro hcl hS
          refine ggT 4 hcl hS ?_; clear hcl hS; intro hcl hS
          refine ggT 5 hcl hS ?_; clear hcl hS; intro hcl hS
          refine ggT 6 hcl hS ?_; clear hcl hS; intro hcl hS
          refine ggT 7 hcl hS ?_; clear hcl hS; intro hcl hS
          refine ggT 8 hcl hS ?_; clear hcl hS; intro hcl hS
          refine ggL 9 hcl hS HCO ?_ (hy := fun w' hw => exec_row _ 67 rfl rfl infoRc Tryz.underlying67 hw.2); clear hcl hS; intro hcl hS
          refine ggT 10 hcl hS ?_; clear hcl hS; intro hcl hS
          refine ggT 11 hcl hS ?_; clear hcl hS; intro hcl hS
          refine ggT 12 hcl hS ?_; clear hcl hS; intro hcl hS
          refine ggL 13 hcl hS HCO ?_ (hy := fun w' hw => exec_row _ 67 rfl rfl infoRc Tryz.underlying67 hw.1); clear hcl hS; intro hcl hS
          refine ggT 14 hcl hS ?_; clear hcl hS; intro hcl hS
          refine ggC 15 hcl rfl (by kernel_rfl) (fun K hK => ?_)
          refine store_rowS (cs := cq) rfl _ _ 67 rfl rfl rfl infoRc (rec_some HRD.out (i := k) (by first | omega | (rw [List.length_set]; omega))) (RowAt.free HRD.out) HKQ.out.1 HKQ.out.2.2 ?_
          refine hK.out _ _ (Till.done (m := 15) (by simp) (by rfl)) ?_
          clear hK K hcl hS
          intro hcl hS
          try simp only [Act.put]
          refine ggT 16 hcl hS ?_; clear hcl hS; intro hcl hS
          refine ggC 17 hcl rfl (by kernel_rfl) (fun K hK => ?_)
          refine store_rowS (cs := cp) rfl _ _ 67 rfl rfl rfl infoRc (rec_some HSW.out.1 (i := y) (by first | omega | (rw [List.length_set]; omega))) (RowAt.free HSW.out.1) HKP.out.1 HKP.out.2.2 ?_
          refine hK.out _ _ (Till.done (m := 15) (by simp) (by rfl)) ?_
          clear hK K hcl hS
          intro hcl hS
          try simp only [Act.put]
          refine ggEnd (by kernel_rfl) ?_ _
          go_wp2_with fail
          have hrow3 := HSW.out.2
          have hup := thru_up (A := X) (B := Y) (x := x) hkr
          rw [← HQE.out, HX.out, show A + (k - A) = k by omega, ← HY.out, show k - A + 1 = k + 1 - A by omega] at hup
          rw [hup] at hrow3
          have HRW3 := Lib.hid hrow3; have HCC := Lib.hid (chg_sw (k1 := off + k * 9) (k2 := off + y * 9) (c1 := cq) (c2 := cp) HCH.out)
          have hyy := HY.out
          rw [show k + 1 - A = y - A by omega] at HRW3
          clear hrow3 hup
          go_roundw
          case rel => exact ⟨y, _, rfl, by omega, by omega, by go_num, HRW3.out, HCC.out⟩
          case measure => simp [intOf]; omega
        · have hlt2 : ¬ (k : Int) < (i : Int) - 1 := by omega
          rw [show k - A = i - m by omega, HM.out] at hrow
          have HROW := Lib.hid hrow
          have HB := Lib.hid (show Stab ltP (L ++ R) M by rw [HLX.out]; exact HSB.out.2)
          clear hch hrow
          go_wp2_with fail
          refine bodyPost_ret (results_none rfl _ _ _) rfl ?_
          exact ⟨rfl, M, HROW.out, HSB.out.1, HB.out, HCH.out⟩
set_option maxRecDepth 100000 in
set_option maxHeartbeats 4000000 in
theorem symR_any (b off n cap A m B : Nat) (X L Y : List RP) (q : RP) (R : List RP) (hRx : R = [q]) (w : World) (HCMP : RowKit.Hid CmpOK) (hr : RowAt recL w b off (X ++ (L ++ (q :: Y)))) (hn : n = (X ++ (L ++ (q :: Y))).length) (hm : n ≤ 1000000) (hX : X.length = A) (hL : A + L.length = m) (hR : m + 1 = B) (h2 : A + 1 < m) (sL : Srt ltP L) :
    Calls Tryz.prog 272 #[.slice (some ⟨b, off, none⟩) n cap, .int .i64 A, .int .i64 m, .int .i64 B, .func (.func 170) #[] #[]] w fun e w' => e = .returned (.tuple #[]) ∧ ∃ M, RowAt recL w' b off (X ++ (M ++ Y)) ∧ Srt ltP M ∧ Stab ltP (L ++ R) M ∧ Chg [b] w w' := by
  have hBn : B ≤ n := by rw [hn]; simp only [List.length_append, List.length_cons]; omega
  have HX := Lib.hid hX; have HLL := Lib.hid hL; have HLX := Lib.hid hRx
  have HAN := Lib.hid (right_anti (B := Y) (y := q) ltP_ordr hX sL)
  have HSR := Lib.hid sL
  have hpl : (X ++ (L ++ (q :: Y))).length = n := hn.symm
  have hxa : (X ++ (L ++ (q :: Y)))[m]? = some q := by rw [app_hi (by omega), app_hi (by omega), show m - X.length - L.length = 0 by omega]; rfl
  have hthru : X ++ (L ++ (q :: Y)) = thru X L Y q (m - A) := (thru_full (by omega)).symm
  have HTH := Lib.hid hthru
  have HEN := Lib.hid (fun (i : Nat) (hi : A ≤ i) (hi2 : i ≤ A + L.length) hb => one_right (i := i) (B := Y) (y := q) ltP_ordr hX hi sL hb hi2)
  rw [hL] at HAN HEN
  obtain ⟨ps, hps⟩ : ∃ ps, ps = X ++ (L ++ (q :: Y)) := ⟨_, rfl⟩
  rw [← hps] at hr hpl hxa HAN HTH HEN
  have HROW0 := Lib.hid hr; have HXA := Lib.hid hxa; have HPL := Lib.hid hpl
  have hm0 : ((m : Int) - (A : Int) == 1) = false := by rw [beq_eq_false_iff_ne]; omega
  have hm1 : (B : Int) - (m : Int) = 1 := by omega
  clear hr hn hX hL hRx sL hpl hxa hthru hps
  go_enter Tryz.func272, Tryz.ntmps272
  go_wp2_with fail
  go_loopw [14, 15] (fun vi vj wr => ∃ (i j : Nat) (Wr : World), Wr = wr ∧ A ≤ i ∧ i ≤ j ∧ j ≤ m ∧ vi = .int .i64 i ∧ vj = .int .i64 j ∧ RowAt recL wr b off ps ∧ RowKit.Hid (Bnd (fun t => !ltAt ltP (some q) ps[t]?) A m i j) ∧ Chg [b] w wr) (fun vi vj _ => (intOf vj).toNat - (intOf vi).toNat)
  case atStart => exact ⟨A, m, _, rfl, by omega, by omega, by omega, rfl, rfl, HROW0.out, Bnd.zero _ _ _, Chg.refl _ _⟩
  case round =>
    obtain ⟨i, j, wr, rfl, hi1, hij, hjB, rfl, rfl, hrow, HBD, hch⟩ := hrel
    have HCH := Lib.hid hch
    by_cases hlt : i < j
    · obtain ⟨h, hh⟩ : ∃ h, h = (i + j) / 2 := ⟨_, rfl⟩
      have hh1 : i ≤ h ∧ h < j := by omega
      have hcv : ((i : Int) + (j : Int)) / 2 = (h : Int) := by omega
      obtain ⟨p, hpx⟩ : ∃ p, p = q := ⟨_, rfl⟩
      obtain ⟨z, hz⟩ : ∃ z, ps[h]? = some z := ⟨_, List.getElem?_eq_getElem (by have := HPL.out; omega)⟩
      have hp : ps[m]? = some p := by rw [hpx]; exact HXA.out
      have hn1 : h < n := by omega
      have hn2 : m < n := by omega
      have hrd := row_ind hrow
      clear hch hrow hh
      have hq := hz
      cases hl : ltP p z
      · have HNP := Lib.hid (show (fun t => !ltAt ltP (some q) ps[t]?) h = true by dsimp only; rw [hz, ← hpx]; simp only [ltAt]; rw [hl]; rfl)
        go_wp2_with fail
        obtain ⟨c1, r1, -, k1⟩ := rec_look hrd hp
        obtain ⟨c2, r2, -, k2⟩ := rec_look hrd hq
        have HK := Lib.hid (And.intro k1 k2); have HRD := Lib.hid hrd; have HPQ := Lib.hid (And.intro hp hq); have HRC := Lib.hid (HCMP.out _ _ _ _ _ _ _ r1 r2)
        clear r1 r2 k1 k2 hp hq hrd
        obtain ⟨SS, HSI, HSO⟩ := rg_cond (fun w' => Celled w' b (off + (m) * 9) 9 c1 ∧ Celled w' b (off + (h) * 9) 9 c2)
        have hS0 := HSI.out _ HK.out
        refine rg_start SS (by kernel_rfl) hS0 ?_
        refine rgT 0 hS0 ?_
        refine rgT 1 hS0 ?_
        refine rgT 2 hS0 ?_
        refine rgT 3 hS0 ?_
        refine rgL 4 hS0 HSO ?_ (hy := fun w' hw => exec_row _ 67 rfl rfl infoRc Tryz.underlying67 hw.1)
        refine rgT 5 hS0 ?_
        refine rgT 6 hS0 ?_
        refine rgT 7 hS0 ?_
        refine rgL 8 hS0 HSO ?_ (hy := fun w' hw => exec_row _ 67 rfl rfl infoRc Tryz.underlying67 hw.2)
        refine rg_call 9 rfl (by kernel_rfl) (fun K hK => ?_)
        go_simp
        go_at_call 170
        refine HRC.out.mono ?_
        rintro e w1 ⟨r, rfl, hrr, hc1⟩
        have hr0 := cmp_r hl hrr
        have HR1 := Lib.hid (HRD.out.ext hc1); have HC1 := Lib.hid (HCH.out.drew.trans0 hc1); have HK1 := Lib.hid (And.intro (HK.out.1.ext hc1 HRD.out.lt) (HK.out.2.ext hc1 HRD.out.lt))
        clear hc1 hrr
        go_wp2_with fail
        refine hK.out _ _ (HSI.out _ HK1.out) (fun hS1 => ?_)
        clear hK K
        try simp only [Act.put, List.setIfInBounds_toArray, List.set_cons_zero, List.set_cons_succ]
        refine rgT 10 hS1 ?_
        refine rgT 11 hS1 ?_
        refine wpAnyH_done (by kernel_rfl) ?_ _
        have hrr := hr0
        go_wp2_with fail
        have HB2 := Lib.hid (HBD.out.yes HAN.out (by omega) HNP.out)
        go_roundw
        case rel => exact ⟨h + 1, j, _, rfl, by omega, by omega, by omega, by go_num, rfl, HR1.out, HB2, HC1.out⟩
        case measure => simp [intOf]; omega
      · have HNP := Lib.hid (show (fun t => !ltAt ltP (some q) ps[t]?) h = false by dsimp only; rw [hz, ← hpx]; simp only [ltAt]; rw [hl]; rfl)
        go_wp2_with fail
        obtain ⟨c1, r1, -, k1⟩ := rec_look hrd hp
        obtain ⟨c2, r2, -, k2⟩ := rec_look hrd hq
        have HK := Lib.hid (And.intro k1 k2); have HRD := Lib.hid hrd; have HPQ := Lib.hid (And.intro hp hq); have HRC := Lib.hid (HCMP.out _ _ _ _ _ _ _ r1 r2)
        clear r1 r2 k1 k2 hp hq hrd
        obtain ⟨SS, HSI, HSO⟩ := rg_cond (fun w' => Celled w' b (off + (m) * 9) 9 c1 ∧ Celled w' b (off + (h) * 9) 9 c2)
        have hS0 := HSI.out _ HK.out
        refine rg_start SS (by kernel_rfl) hS0 ?_
        refine rgT 0 hS0 ?_
        refine rgT 1 hS0 ?_
        refine rgT 2 hS0 ?_
        refine rgT 3 hS0 ?_
        refine rgL 4 hS0 HSO ?_ (hy := fun w' hw => exec_row _ 67 rfl rfl infoRc Tryz.underlying67 hw.1)
        refine rgT 5 hS0 ?_
        refine rgT 6 hS0 ?_
        refine rgT 7 hS0 ?_
        refine rgL 8 hS0 HSO ?_ (hy := fun w' hw => exec_row _ 67 rfl rfl infoRc Tryz.underlying67 hw.2)
        refine rg_call 9 rfl (by kernel_rfl) (fun K hK => ?_)
        go_simp
        go_at_call 170
        refine HRC.out.mono ?_
        rintro e w1 ⟨r, rfl, hrr, hc1⟩
        have hr0 := cmp_r hl hrr
        have HR1 := Lib.hid (HRD.out.ext hc1); have HC1 := Lib.hid (HCH.out.drew.trans0 hc1); have HK1 := Lib.hid (And.intro (HK.out.1.ext hc1 HRD.out.lt) (HK.out.2.ext hc1 HRD.out.lt))
        clear hc1 hrr
        go_wp2_with fail
        refine hK.out _ _ (HSI.out _ HK1.out) (fun hS1 => ?_)
        clear hK K
        try simp only [Act.put, List.setIfInBounds_toArray, List.set_cons_zero, List.set_cons_succ]
        refine rgT 10 hS1 ?_
        refine rgT 11 hS1 ?_
        refine wpAnyH_done (by kernel_rfl) ?_ _
        have hrr := hr0
        go_wp2_with fail
        have HB2 := Lib.hid (HBD.out.no HAN.out (by omega) HNP.out)
        go_roundw
        case rel => exact ⟨i, h, _, rfl, by omega, by omega, by omega, rfl, by go_num, HR1.out, HB2, HC1.out⟩
        case measure => simp [intOf]; omega
    · obtain rfl : i = j := by omega
      obtain ⟨M, e1, s1, b1⟩ := HEN.out i hi1 hjB HBD.out
      have HM := Lib.hid e1; have HSB := Lib.hid (And.intro s1 b1)
      rw [HTH.out] at hrow
      have HROW := Lib.hid hrow
      clear hch hrow e1 s1 b1
      go_wp2_with fail
      go_loopw [17] (fun vk wq => ∃ (k : Nat) (Wq : World), Wq = wq ∧ i ≤ k ∧ k ≤ m ∧ vk = .int .i64 k ∧ RowAt recL wq b off (thru X L Y q (k - A)) ∧ Chg [b] w wq) (fun vk _ => (intOf vk).toNat)
      case atStart => exact ⟨m, _, rfl, by omega, by omega, rfl, HROW.out, HCH.out⟩
      case round =>
        clear HCH HROW
        obtain ⟨k, wq, rfl, hk1, hk2, rfl, hrow, hch⟩ := hrel
        have HCH := Lib.hid hch
        by_cases hki : i < k
        · have hkr : k - A - 1 < L.length := by have := HLL.out; omega
          have hk9 : k - A = (k - A - 1) + 1 := by omega
          obtain ⟨p, hpe⟩ : ∃ p, p = L[k - A - 1] := ⟨_, rfl⟩
          have hp : (thru X L Y q (k - A))[k]? = some q := by
            have := thru_at (A := X) (S := L) (B := Y) (x := q) (k := k - A) (by have := HLL.out; omega)
            rwa [HX.out, show A + (k - A) = k by omega] at this
          have hq : (thru X L Y q (k - A))[k - 1]? = some p := by
            have := thru_prev (A := X) (B := Y) (x := q) hkr
            rw [← hk9, HX.out, show A + (k - A - 1) = k - 1 by omega] at this
            rw [this, hpe]
          have hln : (thru X L Y q (k - A)).length = n := by have := HPL.out; rw [HTH.out, thru_len] at this; rw [thru_len]; exact this
          obtain ⟨y, hy⟩ : ∃ y, y = k - 1 := ⟨_, rfl⟩
          have hwy : IntKind.i64.wrap ((k : Int) - 1) = (y : Int) := by rw [IntWalk.i64_in _ ⟨by omega, by omega⟩]; omega
          have h1 : k < n := by omega
          have h3 : y < n := by omega
          rw [← hy] at hq
          have hrd := row_ind hrow
          have HY := Lib.hid hy; have HQE := Lib.hid hpe; have HK9 := Lib.hid hk9
          clear hch hrow hy hpe hk9
          go_wp2_with fail
          obtain ⟨cp, rp, bp, kp⟩ := rec_look hrd hp
          obtain ⟨cq, rq, bq, kq⟩ := rec_look hrd hq
          have HSW := Lib.hid (rec_swap hrd hp hq rp rq bp bq)
          have HRD := Lib.hid hrd; have HPQ := Lib.hid (And.intro hp hq); have HKP := Lib.hid kp; have HKQ := Lib.hid kq
          clear rp rq bp bq kp kq hp hq hrd
          obtain ⟨CC, HCI, HCO⟩ := rg_cond (fun w' => Celled w' b (off + (k) * 9) 9 cp ∧ Celled w' b (off + (y) * 9) 9 cq)
          refine gg_start [15, 17] CC (by kernel_rfl) (HCI.out _ ⟨HKP.out, HKQ.out⟩) (fun hcl hS => ?_)
          refine ggT 0 hcl hS ?_; clear hcl hS; intro hcl hS
          refine ggT 1 hcl hS ?_; clear hcl hS; intro hcl hS
          refine ggT 2 hcl hS ?_; clear hcl hS; intro hcl hS
          refine ggT 3 hcl hS ?_; clear hcl hS; intro hcl hS
          refine ggT 4 hcl hS ?_; clear hcl hS; intro hcl hS
          refine ggT 5 hcl hS ?_; clear hcl hS; intro hcl hS
          refine ggT 6 hcl hS ?_; clear hcl hS; intro hcl hS
          refine ggT 7 hcl hS ?_; clear hcl hS; intro hcl hS
          refine ggT 8 hcl hS ?_; clear hcl hS; intro hcl hS
          refine ggL 9 hcl hS HCO ?_ (hy := fun w' hw => exec_row _ 67 rfl rfl infoRc Tryz.underlying67 hw.2); clear hcl hS; intro hcl hS
          refine ggT 10 hcl hS ?_; clear hcl hS; intro hcl hS
          refine ggT 11 hcl hS ?_; clear hcl hS; intro hcl hS
          refine ggT 12 hcl hS ?_; clear hcl hS; intro hcl hS
          refine ggL 13 hcl hS HCO ?_ (hy := fun w' hw => exec_row _ 67 rfl rfl infoRc Tryz.underlying67 hw.1); clear hcl hS; intro hcl hS
          refine ggT 14 hcl hS ?_; clear hcl hS; intro hcl hS
          refine ggC 15 hcl rfl (by kernel_rfl) (fun K hK => ?_)
          refine store_rowS (cs := cq) rfl _ _ 67 rfl rfl rfl infoRc (rec_some HRD.out (i := k) (by first | omega | (rw [List.length_set]; omega))) (RowAt.free HRD.out) HKQ.out.1 HKQ.out.2.2 ?_
          refine hK.out _ _ (Till.done (m := 15) (by simp) (by rfl)) ?_
          clear hK K hcl hS
          intro hcl hS
          try simp only [Act.put]
          refine ggT 16 hcl hS ?_; clear hcl hS; intro hcl hS
          refine ggC 17 hcl rfl (by kernel_rfl) (fun K hK => ?_)
          refine store_rowS (cs := cp) rfl _ _ 67 rfl rfl rfl infoRc (rec_some HSW.out.1 (i := y) (by first | omega | (rw [List.length_set]; omega))) (RowAt.free HSW.out.1) HKP.out.1 HKP.out.2.2 ?_
          refine hK.out _ _ (Till.done (m := 15) (by simp) (by rfl)) ?_
          clear hK K hcl hS
          intro hcl hS
          try simp only [Act.put]
          refine ggEnd (by kernel_rfl) ?_ _
          go_wp2_with fail
          have hrow3 := HSW.out.2
          have hdn := thru_down (A := X) (B := Y) (x := q) hkr
          rw [← HK9.out, ← HQE.out, HX.out, show A + (k - A - 1) + 1 = k by omega, show A + (k - A - 1) = y by have := HY.out; omega, show k - A - 1 = y - A by have := HY.out; omega] at hdn
          rw [hdn] at hrow3
          have HRW3 := Lib.hid hrow3; have HCC := Lib.hid (chg_sw (k1 := off + k * 9) (k2 := off + y * 9) (c1 := cq) (c2 := cp) HCH.out)
          have hyy := HY.out
          clear hrow3 hdn
          go_roundw
          case rel => exact ⟨y, _, rfl, by omega, by omega, by go_num, HRW3.out, HCC.out⟩
          case measure => simp [intOf]; omega
        · obtain rfl : k = i := by omega
          rw [HM.out] at hrow
          have HROW := Lib.hid hrow
          have HB := Lib.hid (show Stab ltP (L ++ R) M by rw [HLX.out]; exact HSB.out.2)
          clear hch hrow
          go_wp2_with fail
          refine bodyPost_ret (results_none rfl _ _ _) rfl ?_
          exact ⟨rfl, M, HROW.out, HSB.out.1, HB.out, HCH.out⟩
end Go.Proofs.YtphmpimgbmedbaaGreat
