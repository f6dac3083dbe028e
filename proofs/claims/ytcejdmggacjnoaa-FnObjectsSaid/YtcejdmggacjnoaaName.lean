
/- The walks of the two NameFault: both tell 0 at a name and 5 else. -/
import Derived.Test.YtcejdmggacjnoaaRows
import Derived.Test.YtcejdmggacjnoaaRep
namespace Go.Proofs.Ytcejdmggacjnoaa
open Go.RowKit

/-- may a byte stand at a place of a name? -/
def Good (k : Nat) (c : Int) : Prop := (97 ≤ c ∧ c ≤ 122) ∨ (k ≠ 0 ∧ 48 ≤ c ∧ c ≤ 57)
/-- is it a name? -/
def NameOk (s : ByteArray) : Prop := (1 ≤ s.size ∧ s.size ≤ 8) ∧ ∀ (k : Nat) (h : k < s.size), Good k (s[k].toNat : Int)
open Classical in
noncomputable def nameFault (s : ByteArray) : Int := if NameOk s then 0 else 5

theorem name_bad {s : ByteArray} {k : Nat} (h : k < s.size) (hb : ¬ Good k (s[k].toNat : Int)) : (5 : Int) = nameFault s := by
  rw [nameFault, if_neg (fun hn => hb (hn.2 k h))]
theorem name_len {s : ByteArray} (h : ¬ (1 ≤ s.size ∧ s.size ≤ 8)) : (5 : Int) = nameFault s := by
  rw [nameFault, if_neg (fun hn => h hn.1)]
theorem name_good {s : ByteArray} (h : 1 ≤ s.size ∧ s.size ≤ 8) (hg : ∀ (k : Nat) (h : k < s.size), Good k (s[k].toNat : Int)) : (0 : Int) = nameFault s := by
  rw [nameFault, if_pos ⟨h, hg⟩]
theorem name_or (s : ByteArray) : nameFault s = 0 ∨ nameFault s = 5 := by
  unfold nameFault; split <;> simp
theorem nameOk_of {s : ByteArray} (h : nameFault s = 0) : NameOk s := by
  unfold nameFault at h; split at h
  · assumption
  · cases h

/-- the places looked at so far are good -/
def GoodTo (s : ByteArray) (k : Nat) : Prop := ∀ (j : Nat) (h : j < s.size), j < k → Good j (s[j].toNat : Int)
theorem goodTo_next {s : ByteArray} {k : Nat} (h : GoodTo s k) (hk : k < s.size) (hg : Good k (s[k].toNat : Int)) : GoodTo s (k + 1) := by
  intro j hj hjk
  by_cases e : j = k
  · subst e; exact hg
  · exact h j hj (by omega)
theorem goodTo_all {s : ByteArray} {k : Nat} (h : GoodTo s k) (hk : s.size ≤ k) : ∀ (k : Nat) (h : k < s.size), Good k (s[k].toNat : Int) := fun j hj => h j hj (by omega)

end Go.Proofs.Ytcejdmggacjnoaa
