
/- A result whose slice is stored into a box that lies behind the first world. No function of the program in sight. -/
import Derived.Test.YtcejdmggacjnoaaGrw
namespace Go.Proofs.Ytcejdmggacjnoaa
open Go.RowKit

theorem NewRes.storeB {α : Type} {L : Lay α} {r : Int × List α} {xs : List α} {w wr w2 : World} {B C : Nat} {a : Option Addr} {cap : Nat} {fp : List Nat} (hr : r = (0, xs)) (hs : L.sl wr a xs.length cap xs fp)
    (hf : Fresh C wr fp) (hBC : B < C) (hB : w.heap.size ≤ B) (hc : Chg [] w wr) (h2 : ∃ v u, w2 = (wr.setCell ⟨B, 0, none⟩ v).setCell ⟨B, 1, none⟩ u) :
    NewRes L r w (.returned (.agg #[.int .i64 0, .slice a xs.length cap])) w2 := by
  obtain ⟨v, u, rfl⟩ := h2
  have hc2 : Chg [B] wr ((wr.setCell ⟨B, 0, none⟩ v).setCell ⟨B, 1, none⟩ u) := ((Chg.refl _ wr).setCell _ _ (.inl (by simp))).setCell _ _ (.inl (by simp))
  have hfw : ∀ b ∈ fp, b ∉ [B] := fun b hb hb' => by have := (hf.2 b hb).1; simp at hb'; omega
  rw [hr]
  exact ⟨a, cap, fp, rfl, L.sl_chg hs hc2 hfw, (hf.mono (by omega)).chg hc2, hc.trans hc2 (fun x hx => .inr (by simp at hx; omega))⟩
end Go.Proofs.Ytcejdmggacjnoaa
