
/- A stable sort out of parts, in plain Lean. No function of the program in sight. -/
import Derived.Test.YtphmpimgbmedbaaGreatRep
namespace Go.Proofs.YtphmpimgbmedbaaGreat
open Go.RowKit

/-- an order in which being not less is transitive, too -/
structure Ordr {α : Type} (lt : α → α → Bool) : Prop where
  irr : ∀ x, lt x x = false
  tr : ∀ x y z, lt x y = true → lt y z = true → lt x z = true
  ntr : ∀ x y z, lt x y = false → lt y z = false → lt x z = false
section
variable {α : Type} {lt : α → α → Bool}
def eqv (lt : α → α → Bool) (x y : α) : Bool := !lt x y && !lt y x
/-- what is alike stands in the same order -/
def Stab (lt : α → α → Bool) (xs ys : List α) : Prop := ys.length = xs.length ∧ ∀ x, ys.filter (eqv lt x) = xs.filter (eqv lt x)
def Srt (lt : α → α → Bool) (xs : List α) : Prop := xs.Pairwise (fun x y => lt y x = false)
theorem eqv_refl (o : Ordr lt) (x : α) : eqv lt x x = true := by unfold eqv; rw [o.irr]; rfl
theorem eqv_parts {x y : α} (h : eqv lt x y = true) : lt x y = false ∧ lt y x = false := by
  unfold eqv at h
  simpa using h
theorem Ordr.asym (o : Ordr lt) {x y : α} (h : lt x y = true) : lt y x = false := by
  cases h2 : lt y x
  · rfl
  · have := o.tr x y x h h2; rw [o.irr] at this; cases this
theorem Stab.refl (xs : List α) : Stab lt xs xs := ⟨rfl, fun _ => rfl⟩
theorem Stab.trans {xs ys zs : List α} (h : Stab lt xs ys) (k : Stab lt ys zs) : Stab lt xs zs := ⟨k.1.trans h.1, fun x => (k.2 x).trans (h.2 x)⟩
theorem Stab.app {a b c d : List α} (h : Stab lt a b) (k : Stab lt c d) : Stab lt (a ++ c) (b ++ d) :=
  ⟨by rw [List.length_append, List.length_append, h.1, k.1], fun x => by rw [List.filter_append, List.filter_append, h.2, k.2]⟩
theorem Stab.swap (o : Ordr lt) {V X : List α} (h : ∀ x ∈ X, ∀ v ∈ V, lt x v = true) : Stab lt (V ++ X) (X ++ V) := by
  refine ⟨by simp [Nat.add_comm], fun z => ?_⟩
  rw [List.filter_append, List.filter_append]
  by_cases hv : V.filter (eqv lt z) = []
  · rw [hv]; simp
  · obtain ⟨v, hv⟩ := List.exists_mem_of_ne_nil _ hv
    obtain ⟨hv1, hv2⟩ := List.mem_filter.1 hv
    have hx : X.filter (eqv lt z) = [] := by
      rw [List.filter_eq_nil_iff]
      intro x hx h2
      have e1 := o.ntr x z v (eqv_parts h2).2 (eqv_parts hv2).1
      rw [h x hx v hv1] at e1; cases e1
    rw [hx]; simp
theorem Stab.mem (o : Ordr lt) {xs ys : List α} (h : Stab lt xs ys) {x : α} : x ∈ ys ↔ x ∈ xs := by
  have h2 := h.2 x
  constructor
  · intro hx
    have : x ∈ ys.filter (eqv lt x) := List.mem_filter.2 ⟨hx, eqv_refl o x⟩
    rw [h2] at this
    exact (List.mem_filter.1 this).1
  · intro hx
    have : x ∈ xs.filter (eqv lt x) := List.mem_filter.2 ⟨hx, eqv_refl o x⟩
    rw [← h2] at this
    exact (List.mem_filter.1 this).1
theorem srt_uniq (o : Ordr lt) : ∀ {ys zs : List α}, Srt lt ys → Srt lt zs → (∀ x, ys.filter (eqv lt x) = zs.filter (eqv lt x)) → ys = zs
  | [], [], _, _, _ => rfl
  | [], z :: zs, _, _, h => by have := h z; rw [List.filter_cons, if_pos (eqv_refl o z)] at this; cases this
  | y :: ys, [], _, _, h => by have := h y; rw [List.filter_cons, if_pos (eqv_refl o y)] at this; cases this
  | y :: ys, z :: zs, hy, hz, h => by
    have hmy : y ∈ z :: zs := by
      have : y ∈ (y :: ys).filter (eqv lt y) := List.mem_filter.2 ⟨by simp, eqv_refl o y⟩
      rw [h y] at this
      exact (List.mem_filter.1 this).1
    have hmz : z ∈ y :: ys := by
      have : z ∈ (z :: zs).filter (eqv lt z) := List.mem_filter.2 ⟨by simp, eqv_refl o z⟩
      rw [← h z] at this
      exact (List.mem_filter.1 this).1
    have e1 : lt y z = false := by
      rcases List.mem_cons.1 hmy with rfl | hm
      · exact o.irr _
      · exact List.rel_of_pairwise_cons hz hm
    have e2 : lt z y = false := by
      rcases List.mem_cons.1 hmz with rfl | hm
      · exact o.irr _
      · exact List.rel_of_pairwise_cons hy hm
    have hyz : eqv lt y z = true := by unfold eqv; rw [e1, e2]; rfl
    have h1 := h y
    rw [List.filter_cons, if_pos (eqv_refl o y), List.filter_cons, if_pos hyz] at h1
    obtain rfl : y = z := (List.cons.inj h1).1
    rw [srt_uniq o (List.Pairwise.of_cons hy) (List.Pairwise.of_cons hz) (fun x => by
      have h2 := h x
      rw [List.filter_cons, List.filter_cons] at h2
      split at h2
      · exact (List.cons.inj h2).2
      · exact h2)]
theorem Stab.uniq (o : Ordr lt) {xs ys zs : List α} (hy : Srt lt ys) (hz : Srt lt zs) (h : Stab lt xs ys) (k : Stab lt xs zs) : ys = zs := srt_uniq o hy hz (fun x => (h.2 x).trans (k.2 x).symm)
/-- all of one list ahead of all of another, or alike -/
def AllLe (lt : α → α → Bool) (xs ys : List α) : Prop := ∀ x ∈ xs, ∀ y ∈ ys, lt y x = false
theorem Srt.app {xs ys : List α} (h : Srt lt xs) (k : Srt lt ys) (hl : AllLe lt xs ys) : Srt lt (xs ++ ys) := List.pairwise_append.2 ⟨h, k, hl⟩
theorem Srt.parts {xs ys : List α} (h : Srt lt (xs ++ ys)) : Srt lt xs ∧ Srt lt ys ∧ AllLe lt xs ys := List.pairwise_append.1 h
/-- one laid into a sorted row, behind what is alike -/
theorem ins_stab (o : Ordr lt) {out : List α} {r : α} {k : Nat} (h1 : ∀ x ∈ out.drop k, lt r x = true) : Stab lt (out ++ [r]) (out.take k ++ (r :: out.drop k)) := by
  have h2 : Stab lt (out.drop k ++ [r]) ([r] ++ out.drop k) := Stab.swap o (fun x hx v hv => by rw [List.mem_singleton] at hx; subst hx; exact h1 v hv)
  have h3 := (Stab.refl (lt := lt) (out.take k)).app h2
  rw [← List.append_assoc, List.take_append_drop] at h3
  exact h3
theorem ins_srt (o : Ordr lt) {out : List α} {r : α} {k : Nat} (hs : Srt lt out) (h1 : ∀ x ∈ out.drop k, lt r x = true) (h2 : ∀ x ∈ out.take k, lt r x = false) : Srt lt (out.take k ++ (r :: out.drop k)) := by
  have hp := hs
  rw [← List.take_append_drop k out] at hp
  obtain ⟨p1, p2, p3⟩ := Srt.parts hp
  refine Srt.app p1 (List.pairwise_cons.2 ⟨fun x hx => o.asym (h1 x hx), p2⟩) (fun x hx y hy => ?_)
  rcases List.mem_cons.1 hy with rfl | hy
  · exact h2 x hx
  · exact p3 x hx y hy
/-- two sorted rows merged by parts -/
theorem merge_parts (o : Ordr lt) {U V X Y M1 M2 : List α} (hXV : ∀ x ∈ X, ∀ v ∈ V, lt x v = true) (hUV : AllLe lt U V) (hUY : AllLe lt U Y) (hXY : AllLe lt X Y)
    (s1 : Srt lt M1) (b1 : Stab lt (U ++ X) M1) (s2 : Srt lt M2) (b2 : Stab lt (V ++ Y) M2) : Srt lt (M1 ++ M2) ∧ Stab lt ((U ++ V) ++ (X ++ Y)) (M1 ++ M2) := by
  refine ⟨Srt.app s1 s2 (fun x hx y hy => ?_), ?_⟩
  · have hx' := List.mem_append.1 ((b1.mem o).1 hx)
    have hy' := List.mem_append.1 ((b2.mem o).1 hy)
    rcases hx' with hx' | hx' <;> rcases hy' with hy' | hy'
    · exact hUV x hx' y hy'
    · exact hUY x hx' y hy'
    · exact o.asym (hXV x hx' y hy')
    · exact hXY x hx' y hy'
  · have h1 : Stab lt ((U ++ V) ++ (X ++ Y)) ((U ++ X) ++ (V ++ Y)) := by
      have := ((Stab.refl (lt := lt) U).app (Stab.swap o hXV)).app (Stab.refl (lt := lt) Y)
      simpa using this
    exact h1.trans (b1.app b2)
end
end Go.Proofs.YtphmpimgbmedbaaGreat
