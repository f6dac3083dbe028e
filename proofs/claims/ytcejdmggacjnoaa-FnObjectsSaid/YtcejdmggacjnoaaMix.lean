
/- The walks of the two MixBytes: a sum of scaled lists. -/
import Derived.Test.YtcejdmggacjnoaaRows
import Derived.Test.YtcejdmggacjnoaaLsr
import Derived.Test.YtcejdmggacjnoaaBss
import Derived.Test.YtcejdmggacjnoaaCau
import Derived.Deep.RegionLaw
namespace Go.Proofs.Ytcejdmggacjnoaa
open Go.RowKit

/-- all lists as long as the first -/
def Alike (xs : List (List UInt8)) : Prop := ∀ x ∈ xs, x.length = (xs.headD []).length
instance (xs : List (List UInt8)) : Decidable (Alike xs) := by unfold Alike; infer_instance
theorem headD_at {xs : List (List UInt8)} {x : List UInt8} (h : xs[0]? = some x) : xs.headD [] = x := by
  cases xs with
  | nil => simp at h
  | cons y ys => simp at h; exact h








/-! ### the sum -/
def mixTo (xs : List (List UInt8)) (cs : List UInt8) (n0 : Nat) : Nat → List UInt8
  | 0 => List.replicate n0 0
  | k + 1 => addL (mixTo xs cs n0 k) (scaleL (xs.getD k []) (cs.getD k 0))
theorem mixTo_next {xs : List (List UInt8)} {cs : List UInt8} {n0 k : Nat} {x : List UInt8} {y : UInt8} (hx : xs[k]? = some x) (hy : cs[k]? = some y) : mixTo xs cs n0 (k + 1) = addL (mixTo xs cs n0 k) (scaleL x y) := by
  rw [mixTo, List.getD_eq_getElem?_getD, List.getD_eq_getElem?_getD, hx, hy]
  rfl
theorem mixTo_len {xs : List (List UInt8)} {cs : List UInt8} {n0 : Nat} (h : ∀ x ∈ xs, x.length = n0) : ∀ {k : Nat}, k ≤ xs.length → (mixTo xs cs n0 k).length = n0
  | 0, _ => by simp [mixTo]
  | k + 1, hk => by
    have ih := mixTo_len (cs := cs) h (k := k) (by omega)
    have hx : (xs.getD k []).length = n0 := by rw [List.getD_eq_getElem?_getD, List.getElem?_eq_getElem (show k < xs.length by omega)]; exact h _ (List.getElem_mem _)
    rw [mixTo, addL_len_eq (by rw [ih, scaleL_length, hx]), ih]
def mixRes (xs : List (List UInt8)) (cs : List UInt8) : Int × List UInt8 :=
  if xs.length = 0 ∨ cs.length ≠ xs.length then (1, []) else if ¬ Alike xs then (1, []) else if 20 < xs.length ∨ 4000 < (xs.headD []).length then (2, []) else (0, mixTo xs cs (xs.headD []).length xs.length)










theorem mixRes_len {xs : List (List UInt8)} {cs : List UInt8} : (mixRes xs cs).2.length ≤ 4000 := by
  unfold mixRes
  split
  · simp
  · split
    · simp
    · rename_i h
      split
      · simp
      · rename_i h2
        have hal : Alike xs := by simpa using h
        show (mixTo xs cs _ xs.length).length ≤ 4000
        rw [mixTo_len hal (Nat.le_refl _)]
        omega


end Go.Proofs.Ytcejdmggacjnoaa
