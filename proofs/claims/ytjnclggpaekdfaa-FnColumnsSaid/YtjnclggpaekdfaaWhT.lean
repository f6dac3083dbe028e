
/- The laws' helpers at structures: copies. -/
import Derived.Test.YtjnclggpaekdfaaRows
import Derived.Test.YtjnclggpaekdfaaMet
namespace Go.Proofs.Ytjnclggpaekdfaa
open Go.RowKit

theorem heap_set_lit {w : World} {b o : Nat} {v : Value} {cur cur' : Array Value} {E : TypeId} {fr : Nat × Nat} (hb : w.heap[b]? = some (.cells cur E fr)) (h : cur.setIfInBounds o v = cur') :
    (w.setCell ⟨b, o, none⟩ v).heap[b]? = some (.cells cur' E fr) := by subst h; exact heap_setCell_same hb
theorem Fresh.nots {B : Nat} {w : World} {f : List Nat} (h : Fresh B w f) (S : List Nat) (hS : ∀ b ∈ S, b < B) : ∀ b ∈ f, b ∉ S := fun b hb hm => Nat.lt_irrefl _ (Nat.lt_of_lt_of_le (hS b hm) (h.2 b hb).1)


def SzPost (t k : Int) (w : World) (e : Ending) (w' : World) : Prop := e = .returned (.int .i64 (if k - t < 0 then -1 else k - t)) ∧ Chg [] w w'
theorem szByteS_any (a : Option Addr) (la ca : Nat) (xs : List UInt8) (f : List Nat) (k : Int) (w : World) (ha : byteL.sl w a la ca xs f) (hk : 0 ≤ k) (hk2 : k ≤ 1048576) :
    Calls Try.prog 58 #[.slice a la ca, .int .i64 k] w (SzPost (totBs xs) k w) := by
  refine (szB_any a la ca k w (byteL.sl_max ha) hk hk2).mono ?_
  rintro e w' ⟨rfl, rfl⟩
  exact ⟨by unfold totBs; rw [← ha.1], Chg.refl _ _⟩
end Go.Proofs.Ytjnclggpaekdfaa
