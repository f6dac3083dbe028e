
/- The laws' helpers at structures: copies. -/
import Derived.Test.YtcejdmggacjnoaaRows
import Derived.Test.YtcejdmggacjnoaaMet
namespace Go.Proofs.Ytcejdmggacjnoaa
open Go.RowKit

theorem heap_set_lit {w : World} {b o : Nat} {v : Value} {cur cur' : Array Value} {E : TypeId} {fr : Nat × Nat} (hb : w.heap[b]? = some (.cells cur E fr)) (h : cur.setIfInBounds o v = cur') :
    (w.setCell ⟨b, o, none⟩ v).heap[b]? = some (.cells cur' E fr) := by subst h; exact heap_setCell_same hb
theorem Fresh.nots {B : Nat} {w : World} {f : List Nat} (h : Fresh B w f) (S : List Nat) (hS : ∀ b ∈ S, b < B) : ∀ b ∈ f, b ∉ S := fun b hb hm => Nat.lt_irrefl _ (Nat.lt_of_lt_of_le (hS b hm) (h.2 b hb).1)


def SzPost (t k : Int) (w : World) (e : Ending) (w' : World) : Prop := e = .returned (.int .i64 (if k - t < 0 then -1 else k - t)) ∧ Chg [] w w'
end Go.Proofs.Ytcejdmggacjnoaa
