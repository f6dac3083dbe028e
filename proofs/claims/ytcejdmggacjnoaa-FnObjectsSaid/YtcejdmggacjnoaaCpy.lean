
/- Copies: lists, records: both sides. -/
import Derived.Test.YtcejdmggacjnoaaRows
import Derived.Test.YtcejdmggacjnoaaGrc
import Derived.Test.YtcejdmggacjnoaaWra
import Derived.Test.YtcejdmggacjnoaaRgg
import Derived.Deep.DeepCutAuto
namespace Go.Proofs.Ytcejdmggacjnoaa
open Go.RowKit

theorem row9_back {w : World} {b : Nat} {E : TypeId} {fr : Nat × Nat} {u0 u1 u2 u3 u4 u5 u6 u7 u8 : Value} (v0 v1 v2 v3 v4 v5 v6 v7 v8 : Value) (h : w.heap[b]? = some (.cells #[u0, u1, u2, u3, u4, u5, u6, u7, u8] E fr)) :
    (((((((((w.setCell ⟨b, 0, none⟩ (v0)).setCell ⟨b, 1, none⟩ (v1)).setCell ⟨b, 2, none⟩ (v2)).setCell ⟨b, 3, none⟩ (v3)).setCell ⟨b, 4, none⟩ (v4)).setCell ⟨b, 5, none⟩ (v5)).setCell ⟨b, 6, none⟩ (v6)).setCell ⟨b, 7, none⟩ (v7)).setCell ⟨b, 8, none⟩ (v8)).heap[b]? = some (.cells #[v0, v1, v2, v3, v4, v5, v6, v7, v8] E fr) := by
  have e : (((((((((w.setCell ⟨b, 0, none⟩ (v0)).setCell ⟨b, 1, none⟩ (v1)).setCell ⟨b, 2, none⟩ (v2)).setCell ⟨b, 3, none⟩ (v3)).setCell ⟨b, 4, none⟩ (v4)).setCell ⟨b, 5, none⟩ (v5)).setCell ⟨b, 6, none⟩ (v6)).setCell ⟨b, 7, none⟩ (v7)).setCell ⟨b, 8, none⟩ (v8)) = w.setCells b 0 [v0, v1, v2, v3, v4, v5, v6, v7, v8] := rfl
  rw [e, setCells_heap [v0, v1, v2, v3, v4, v5, v6, v7, v8] 0 w _ h]
  simp [setRow]
end Go.Proofs.Ytcejdmggacjnoaa
