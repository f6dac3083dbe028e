
/- The walks of the two CauchyG: a table of bytes, row after row. -/
import Derived.Test.YtcejdmggacjnoaaRows
import Derived.Test.YtcejdmggacjnoaaLsr
import Derived.Test.YtcejdmggacjnoaaNum
import Derived.Deep.RegionLaw
namespace Go.Proofs.Ytcejdmggacjnoaa
open Go.RowKit

/-- the first t bytes of the table of rows of m bytes -/
def cauT (m t : Nat) : List UInt8 := (List.range t).map (fun x => cau ((x / m : Nat) : Int) ((x % m : Nat) : Int))
theorem cauT_length (m t : Nat) : (cauT m t).length = t := by simp [cauT]
theorem cauT_next {k l m : Nat} (h : l < m) : cauT m (k * m + (l + 1)) = cauT m (k * m + l) ++ [cau (k : Int) (l : Int)] := by
  have h1 : (k * m + l) / m = k := by rw [Nat.mul_comm, Nat.mul_add_div (by omega), Nat.div_eq_of_lt h, Nat.add_zero]
  have h2 : (k * m + l) % m = l := by rw [Nat.mul_comm, Nat.mul_add_mod, Nat.mod_eq_of_lt h]
  rw [← Nat.add_assoc]
  unfold cauT
  rw [List.range_succ, List.map_append]
  simp only [List.map_cons, List.map_nil, h1, h2]
def cauRes (r c : Int) : Int × List UInt8 := if inB r 0 16 && inB c 1 16 then (0, cauT c.toNat (r.toNat * c.toNat)) else (3, [])
theorem cauRes_len (r c : Int) : (cauRes r c).2.length ≤ 256 := by
  unfold cauRes; split
  · rename_i h
    have h1 := inB_true (Bool.and_eq_true_iff.1 h).1
    have h2 := inB_true (Bool.and_eq_true_iff.1 h).2
    show (cauT _ _).length ≤ 256
    rw [cauT_length]
    exact Nat.mul_le_mul (show r.toNat ≤ 16 by omega) (show c.toNat ≤ 16 by omega)
  · simp
theorem head_next {N : Nat} {wr : World} {h h' : Option Nat} (hh : ∀ g, h = some g → N ≤ g) (hN : N ≤ wr.heap.size) (hh' : h' = h ∨ h' = some wr.heap.size) : ∀ g, h' = some g → N ≤ g := by
  intro g hg
  rcases hh' with rfl | rfl
  · exact hh g hg
  · cases hg; exact hN
/-- a new list is stored as a call's result -/
theorem NewRes.store {L : Lay UInt8} {r : Int × List UInt8} {xs : List UInt8} {w wr w2 : World} {o : Obj} {a : Option Addr} {cap : Nat} {fp : List Nat} (hr : r = (0, xs)) (hs : L.sl wr a xs.length cap xs fp)
    (hf : Fresh (w.alloc o).heap.size wr fp) (hc : Chg [] (w.alloc o) wr) (h2 : ∃ v u, w2 = (wr.setCell ⟨w.heap.size, 0, none⟩ v).setCell ⟨w.heap.size, 1, none⟩ u) :
    NewRes L r w (.returned (.agg #[.int .i64 0, .slice a xs.length cap])) w2 := by
  obtain ⟨v, u, rfl⟩ := h2
  have hc2 : Chg [w.heap.size] wr ((wr.setCell ⟨w.heap.size, 0, none⟩ v).setCell ⟨w.heap.size, 1, none⟩ u) := ((Chg.refl _ wr).setCell _ _ (.inl (by simp))).setCell _ _ (.inl (by simp))
  have hfw : ∀ b ∈ fp, b ∉ [w.heap.size] := fun b hb hb' => by have := (hf.2 b hb).1; simp at this hb'; omega
  rw [hr]
  exact ⟨a, cap, fp, rfl, L.sl_chg hs hc2 hfw, (hf.mono (by simp)).chg hc2, (((Chg.refl [] w).alloc _).trans0 hc).trans hc2 (fun x hx => .inr (by simp at hx; omega))⟩






end Go.Proofs.Ytcejdmggacjnoaa
