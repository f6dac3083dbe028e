
/- What a call hands back; what is kept. No function of the program in sight. -/
import Derived.Test.YtcejdmggacjnoaaApp
namespace Go.Proofs.Ytcejdmggacjnoaa
open Go.RowKit

/-! ### what a call hands back -/
/-- a struct made anew -/
def NewAgg {α : Type} (L : Lay α) (x : α) (w : World) (e : Ending) (w' : World) : Prop :=
  ∃ cs fp, e = .returned (.agg cs) ∧ L.rep w' cs.toList x fp ∧ Fresh w.heap.size w' fp ∧ Chg [] w w'
theorem keep_set {w : World} {b : Nat} {o : Obj} (hb : w.heap[b]? = some o) (p : Addr) (v : Value) (h : b ≠ p.block) : (w.setCell p v).heap[b]? = some o := by
  rw [Below.heap_setCell _ _ _ _ h]; exact hb
theorem keep_drew {w : World} {b : Nat} {o : Obj} (hb : w.heap[b]? = some o) : w.drew.heap[b]? = some o := hb
theorem new_at {w : World} {b : Nat} (h : b = w.heap.size) (x : Obj) : (w.alloc x).heap[b]? = some x := by subst h; exact new_alloc w x
theorem Fresh.append {B C : Nat} {w : World} {f g : List Nat} (hf : Fresh B w f) (hg : Fresh C w g) (hfC : ∀ b ∈ f, b < C) (hB : B ≤ C) : Fresh B w (f ++ g) :=
  ⟨List.nodup_append.2 ⟨hf.1, hg.1, fun a ha b hb e => by have h1 := hfC a ha; have h2 := (hg.2 b hb).1; omega⟩, fun b hb => by
    rcases List.mem_append.1 hb with h | h
    · exact hf.2 b h
    · exact ⟨Nat.le_trans hB (hg.2 b h).1, (hg.2 b h).2⟩⟩
/-- the fresh memory of one part behind that of another -/
theorem Fresh.low {B C : Nat} {w : World} {f : List Nat} (h : Fresh B w f) (hC : w.heap.size ≤ C) : ∀ b ∈ f, b < C := fun b hb => Nat.lt_of_lt_of_le (h.2 b hb).2.lt hC
theorem Fresh.not {B : Nat} {w : World} {f : List Nat} (h : Fresh B w f) {b : Nat} (hb : b < B) : b ∉ f := fun hm => Nat.lt_irrefl _ (Nat.lt_of_lt_of_le hb (h.2 b hm).1)
theorem Fresh.part {B : Nat} {w : World} {f g : List Nat} (h : Fresh B w (f ++ g)) : Fresh B w f ∧ Fresh B w g :=
  ⟨⟨(List.nodup_append.1 h.1).1, fun b hb => h.2 b (List.mem_append.2 (.inl hb))⟩, ⟨(List.nodup_append.1 h.1).2.1, fun b hb => h.2 b (List.mem_append.2 (.inr hb))⟩⟩
theorem Fresh.apart {B : Nat} {w : World} {f g : List Nat} (h : Fresh B w (f ++ g)) : ∀ b ∈ f, b ∉ g := fun b hb hg => (List.nodup_append.1 h.1).2.2 b hb b hg rfl
end Go.Proofs.Ytcejdmggacjnoaa
