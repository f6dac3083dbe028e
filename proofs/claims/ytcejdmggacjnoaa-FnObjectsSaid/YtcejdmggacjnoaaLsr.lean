
/- The walks of AddBytes, ScaleBytes and AddShare, of the program and of the reference. -/
import Derived.Test.YtcejdmggacjnoaaLst
namespace Go.Proofs.Ytcejdmggacjnoaa
open Go.RowKit

/-- what a call hands back that makes a code and a slice anew -/
def NewRes {α : Type} (L : Lay α) (r : Int × List α) (w : World) (e : Ending) (w' : World) : Prop :=
  ∃ a cap fp, e = .returned (.agg #[.int .i64 r.1, .slice a r.2.length cap]) ∧ L.sl w' a r.2.length cap r.2 fp ∧ Fresh w.heap.size w' fp ∧ Chg [] w w'

theorem NewRes.code {α : Type} (L : Lay α) {n : Int} {r : Int × List α} (hr : r = (n, [])) {w w' : World} (hc : Chg [] w w') : NewRes L r w (.returned (.agg #[.int .i64 n, .slice none 0 0])) w' := by
  subst hr
  exact ⟨none, 0, [], rfl, ⟨rfl, Nat.le_refl _, by simp [maxLen], fun _ => rfl, .inl ⟨rfl, rfl⟩⟩, Fresh.nil _ _, hc⟩


theorem scaleL_one (xs : List UInt8) : scaleL xs 1 = xs := by unfold scaleL; simp [Fld.mul_one]

/-! the models -/
def addRes (xs ys : List UInt8) : Int × List UInt8 := if xs.length ≠ ys.length then (1, []) else if 4000 < xs.length then (2, []) else (0, addL xs ys)
def scaleRes (xs : List UInt8) (c : UInt8) : Int × List UInt8 := if 4000 < xs.length then (2, []) else (0, scaleL xs c)
def shareRes (xs ys : List UInt8) (c : UInt8) : Int × List UInt8 := if xs.length ≠ ys.length then (1, []) else if 4000 < xs.length then (2, []) else (0, addL xs (scaleL ys c))

theorem addRes_len (xs ys : List UInt8) : (addRes xs ys).2.length ≤ xs.length := by
  unfold addRes; split
  · simp
  · split
    · simp
    · show (addL xs ys).length ≤ _; unfold addL; rw [List.length_zipWith]; omega
theorem scaleRes_len (xs : List UInt8) (c : UInt8) : (scaleRes xs c).2.length ≤ xs.length := by
  unfold scaleRes; split
  · simp
  · show (scaleL xs c).length ≤ _; rw [scaleL_length]; omega
theorem shareRes_len (xs ys : List UInt8) (c : UInt8) : (shareRes xs ys c).2.length ≤ xs.length := by
  unfold shareRes; split
  · simp
  · split
    · simp
    · show (addL xs _).length ≤ _; unfold addL; rw [List.length_zipWith]; omega


theorem NewSl.since {α : Type} {L : Lay α} {xs : List α} {w w0 : World} {e : Ending} {w1 : World} (h : NewSl L xs w0 e w1) (hc : Chg [] w w0) : NewSl L xs w e w1 := by
  obtain ⟨a, cap, fp, rfl, hs, hf, hc'⟩ := h
  exact ⟨a, cap, fp, rfl, hs, hf.mono hc.size, hc.trans0 hc'⟩


end Go.Proofs.Ytcejdmggacjnoaa
