
/- The program's and the reference's EncodeColumn. -/
import Derived.Test.YtcejdmggacjnoaaPar
import Derived.Test.YtcejdmggacjnoaaShape
namespace Go.Proofs.Ytcejdmggacjnoaa
open Go.RowKit

theorem sizeL_any (a : Option Addr) (la ca : Nat) (w : World) (_hm : la ≤ 9223372036854775807) :
    Calls Try.prog 31 #[.slice a la ca] w fun e w' => e = .returned (.int .i64 (la : Int)) ∧ w = w' := by
  go_enter Try.func31, Try.ntmps31
  go_wp2
  go_ret
  exact ⟨rfl, rfl⟩

theorem alike_not {xs : List (List UInt8)} {k n0 : Nat} {x x0 : List UInt8} (h0 : xs[0]? = some x0) (hn : x0.length = n0) (hx : xs[k]? = some x) (h : ¬ x.length = n0) : ¬ Alike xs := fun ha => h (by rw [ha x (List.mem_of_getElem? hx), headD_at h0, hn])
theorem alike_of {xs : List (List UInt8)} {n0 la : Nat} {x0 : List UInt8} (h0 : xs[0]? = some x0) (hn : x0.length = n0) (hl : la = xs.length) (h : ∀ (j : Nat) x, j < la → xs[j]? = some x → x.length = n0) : Alike xs := by
  intro x hx
  obtain ⟨j, hj, e⟩ := List.getElem_of_mem hx
  rw [headD_at h0, hn]
  exact h j x (by omega) (by rw [List.getElem?_eq_getElem hj, e])

def encRes (xs : List (List UInt8)) (c : Int) : Int × List (List UInt8) :=
  if (inB xs.length 1 4 && inB c 0 2) = false then (3, []) else if ¬ Alike xs then (1, []) else if 4000 < (xs.headD []).length then (2, []) else (0, parL xs (xs.headD []).length c.toNat)

theorem parL_mem {xs : List (List UInt8)} {n0 c : Nat} (h : ∀ x ∈ xs, x.length = n0) {y : List UInt8} (hy : y ∈ parL xs n0 c) : y.length = n0 := by
  unfold parL at hy
  obtain ⟨j, _, rfl⟩ := List.mem_map.1 hy
  exact mixTo_len h (Nat.le_refl _)
theorem encRes_len (xs : List (List UInt8)) (c : Int) : (encRes xs c).2.length ≤ 2 ∧ ∀ y ∈ (encRes xs c).2, y.length ≤ 4000 := by
  unfold encRes
  split
  · exact ⟨by simp, by simp⟩
  · rename_i h1
    split
    · exact ⟨by simp, by simp⟩
    · rename_i h2
      split
      · exact ⟨by simp, by simp⟩
      · rename_i h3
        have h2' := Classical.not_not.1 h2
        refine ⟨?_, fun y hy => ?_⟩
        · show (parL _ _ _).length ≤ 2
          rw [parL_length]
          have hb := (Bool.and_eq_true_iff.1 (Bool.not_eq_false _ ▸ h1 : (inB xs.length 1 4 && inB c 0 2) = true)).2
          have := inB_true hb
          omega
        · rw [parL_mem h2' hy]; omega
end Go.Proofs.Ytcejdmggacjnoaa
