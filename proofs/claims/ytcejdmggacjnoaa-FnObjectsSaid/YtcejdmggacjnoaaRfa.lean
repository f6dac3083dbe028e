
/- Small looks at lists and shapes: has, apart, rises, sizes, the numbers of a shape. -/
import Derived.Test.YtcejdmggacjnoaaRows
import Derived.Test.YtcejdmggacjnoaaWhT
import Derived.Test.YtcejdmggacjnoaaShape
import Derived.Deep.QuietTactic
import Derived.BigQuiet
import Derived.IntWalk
namespace Go.Proofs.Ytcejdmggacjnoaa
open Go.RowKit

noncomputable def pb (P : Prop) : Bool := @decide P (Classical.propDecidable P)
theorem pb_true {P : Prop} (h : P) : pb P = true := by unfold pb; exact @decide_eq_true P (Classical.propDecidable P) h
theorem pb_false {P : Prop} (h : ¬ P) : pb P = false := by unfold pb; exact @decide_eq_false P (Classical.propDecidable P) h
theorem pb_iff {P Q : Prop} (h : P ↔ Q) : pb P = pb Q := by rw [propext h]
theorem of_pb {P : Prop} (h : pb P = true) : P := by unfold pb at h; exact @of_decide_eq_true P (Classical.propDecidable P) h
theorem not_pb {P : Prop} (h : pb P = false) : ¬ P := fun hp => by rw [pb_true hp] at h; cases h
theorem inB_pb (n a b : Int) : inB n a b = pb (a ≤ n ∧ n ≤ b) := by
  by_cases h : a ≤ n ∧ n ≤ b
  · rw [pb_true h, inB_eq h.1 h.2]
  · rw [pb_false h, inB_neq h]

theorem quiet_same {P : Program} {f : FuncId} {args : Array Value} {w : World} {n : Nat} {v : Value} (h : Calls P f args (w.drewN n) fun e w' => e = .returned v ∧ w.drewN n = w') :
    Calls P f args (w.drewN n) fun e w'' => e = .returned v ∧ ∃ m, w'' = w.drewN m := h.mono fun _ _ ⟨he, hm⟩ => ⟨he, n, hm.symm⟩
def Apart (m : Int) (xs : List Int) : Prop := ∀ i x, xs[i]? = some x → (0 ≤ x ∧ x ≤ m) ∧ x ∉ xs.take i
def ApartTo (m : Int) (xs : List Int) (k : Nat) : Prop := ∀ i x, i < k → xs[i]? = some x → (0 ≤ x ∧ x ≤ m) ∧ x ∉ xs.take i
theorem ApartTo.zero (m : Int) (xs : List Int) : ApartTo m xs 0 := fun i x h => by omega
theorem ApartTo.next {m : Int} {xs : List Int} {k : Nat} {x : Int} (h : ApartTo m xs k) (hx : xs[k]? = some x) (h1 : 0 ≤ x ∧ x ≤ m) (h2 : x ∉ xs.take k) : ApartTo m xs (k + 1) := fun i y hi hy => by
  by_cases e : i = k
  · subst e; rw [hx] at hy; cases hy; exact ⟨h1, h2⟩
  · exact h i y (by omega) hy
theorem ApartTo.all {m : Int} {xs : List Int} {k : Nat} (h : ApartTo m xs k) (hk : xs.length ≤ k) : Apart m xs := fun i x hx => h i x (by have := (List.getElem?_eq_some_iff.1 hx).1; omega) hx
def Rises (m : Int) (xs : List Int) : Prop := ∀ i x, xs[i]? = some x → (0 ≤ x ∧ x ≤ m) ∧ ∀ y, 0 < i → xs[i - 1]? = some y → y < x
def RisesTo (m : Int) (xs : List Int) (k : Nat) : Prop := ∀ i x, i < k → xs[i]? = some x → (0 ≤ x ∧ x ≤ m) ∧ ∀ y, 0 < i → xs[i - 1]? = some y → y < x
theorem RisesTo.zero (m : Int) (xs : List Int) : RisesTo m xs 0 := fun i x h => by omega
theorem RisesTo.next {m : Int} {xs : List Int} {k : Nat} {x : Int} (h : RisesTo m xs k) (hx : xs[k]? = some x) (h1 : 0 ≤ x ∧ x ≤ m) (h2 : ∀ y, 0 < k → xs[k - 1]? = some y → y < x) : RisesTo m xs (k + 1) := fun i y hi hy => by
  by_cases e : i = k
  · subst e; rw [hx] at hy; cases hy; exact ⟨h1, h2⟩
  · exact h i y (by omega) hy
theorem RisesTo.all {m : Int} {xs : List Int} {k : Nat} (h : RisesTo m xs k) (hk : xs.length ≤ k) : Rises m xs := fun i x hx => h i x (by have := (List.getElem?_eq_some_iff.1 hx).1; omega) hx
theorem not_mem_take {xs : List Int} {k : Nat} {x v : Int} (h : ∀ y ∈ xs.take k, y ≠ v) (hx : xs[k]? = some x) (hv : x ≠ v) : ∀ y ∈ xs.take (k + 1), y ≠ v := by
  intro y hy
  rw [take_next hx] at hy
  rcases List.mem_append.1 hy with h1 | h1
  · exact h y h1
  · simp at h1; rw [h1]; exact hv
theorem not_mem_all {xs : List Int} {k : Nat} {v : Int} (h : ∀ y ∈ xs.take k, y ≠ v) (hk : xs.length ≤ k) : v ∉ xs := by
  rw [List.take_of_length_le hk] at h
  exact fun hv => h v hv rfl


theorem take_slice {w : World} {a : Option Addr} {la ca : Nat} {xs : List Int} {f : List Nat} (h : intL.sl w a la ca xs f) {k : Nat} (hk : k ≤ la) (c : Nat) (hc : k ≤ c) (hc2 : c ≤ ca) : ∃ g, intL.sl w a k c (xs.take k) g := by
  obtain ⟨h1, h2, h3, h4, ⟨rfl, rfl⟩ | ⟨b, off, cur, E, fr, fps, ha, hb, hall, rfl⟩⟩ := h
  · refine ⟨[], by simp at h1; simp; omega, hc, by omega, fun h => by have := h4 h; omega, .inl ⟨by simp, rfl⟩⟩
  · have e := List.take_append_drop k xs
    rw [← e] at hall
    obtain ⟨f1, f2, rfl, k1, k2⟩ := intL.all_split hall
    have hl : (xs.take k).length = k := by rw [List.length_take]; omega
    refine ⟨b :: f1, hl.symm, hc, by omega, (fun h => by rw [ha] at h; cases h), .inr ⟨b, off, cur, E, fr, f1, ha, hb, ?_, rfl⟩⟩
    rw [hl, List.take_take] at k1
    have e2 : min (k * intL.n) (la * intL.n) = k * intL.n := by have := Nat.mul_le_mul_right intL.n hk; omega
    rw [e2] at k1
    exact k1

end Go.Proofs.Ytcejdmggacjnoaa
