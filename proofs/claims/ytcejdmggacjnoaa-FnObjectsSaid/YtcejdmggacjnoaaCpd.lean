
/- Copies: lists of records, drives: the program. -/
import Derived.Test.YtcejdmggacjnoaaCpy
namespace Go.Proofs.Ytcejdmggacjnoaa
open Go.RowKit

theorem row2_back {w : World} {b : Nat} {E : TypeId} {fr : Nat × Nat} {u0 u1 : Value} (v0 v1 : Value) (h : w.heap[b]? = some (.cells #[u0, u1] E fr)) :
    ((w.setCell ⟨b, 0, none⟩ v0).setCell ⟨b, 1, none⟩ v1).heap[b]? = some (.cells #[v0, v1] E fr) := by
  have e : ((w.setCell ⟨b, 0, none⟩ v0).setCell ⟨b, 1, none⟩ v1) = w.setCells b 0 [v0, v1] := rfl
  rw [e, setCells_heap [v0, v1] 0 w _ h]
  simp [setRow]
end Go.Proofs.Ytcejdmggacjnoaa
