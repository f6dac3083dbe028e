
/- The weights of a list of a column, and the parity lists, of the program and of the reference. -/
import Derived.Test.YtcejdmggacjnoaaRows
import Derived.Test.YtcejdmggacjnoaaMix
import Derived.Test.YtcejdmggacjnoaaNum
import Derived.Test.YtcejdmggacjnoaaKep
namespace Go.Proofs.Ytcejdmggacjnoaa
open Go.RowKit

/-- by what bytes n data lists are scaled to come to the list p -/
def genAt (n : Nat) (p base : Int) (i : Nat) : UInt8 := if (n : Int) ≤ p then cau (base + p - n) i else if (i : Int) = p then 1 else 0
def genL (n : Nat) (p base : Int) : List UInt8 := (List.range n).map (genAt n p base)
def genTo (n : Nat) (p base : Int) (k : Nat) : List UInt8 := (List.range k).map (genAt n p base) ++ List.replicate (n - k) 0
theorem genL_length (n : Nat) (p base : Int) : (genL n p base).length = n := by simp [genL]
theorem genTo_zero (n : Nat) (p base : Int) : genTo n p base 0 = List.replicate n 0 := by simp [genTo]
theorem genTo_all (n : Nat) (p base : Int) : genTo n p base n = genL n p base := by simp [genTo, genL]
theorem genTo_next {n k : Nat} (p base : Int) (h : k < n) : (genTo n p base k).set k (genAt n p base k) = genTo n p base (k + 1) := by
  unfold genTo
  rw [List.set_append_right _ _ (by simp)]
  obtain ⟨m, hm⟩ : ∃ m, n - k = m + 1 := ⟨n - k - 1, by omega⟩
  rw [hm, show n - (k + 1) = m by omega, List.replicate_succ, List.length_map, List.length_range, Nat.sub_self, List.set_cons_zero, List.range_succ, List.map_append, List.append_assoc]
  rfl
theorem genTo_skip {n k : Nat} {p base : Int} (h : k < n) (h0 : genAt n p base k = 0) : genTo n p base k = genTo n p base (k + 1) := by
  rw [← genTo_next p base h, h0]
  unfold genTo
  obtain ⟨m, hm⟩ : ∃ m, n - k = m + 1 := ⟨n - k - 1, by omega⟩
  rw [hm, List.set_append_right _ _ (by simp), List.replicate_succ]
  simp
theorem genAt_par {n : Nat} {p base : Int} (i : Nat) (h : (n : Int) ≤ p) : genAt n p base i = cau (base + p - n) i := by unfold genAt; rw [if_pos h]
theorem genAt_one {n : Nat} {p base : Int} {i : Nat} (h : ¬ (n : Int) ≤ p) (h2 : (i : Int) = p) : genAt n p base i = 1 := by unfold genAt; rw [if_neg h, if_pos h2]
theorem genAt_not {n : Nat} {p base : Int} {i : Nat} (h : ¬ (n : Int) ≤ p) (h2 : ¬ (i : Int) = p) : genAt n p base i = 0 := by unfold genAt; rw [if_neg h, if_neg h2]

end Go.Proofs.Ytcejdmggacjnoaa
