
/- Blank blocks: a row of them, filled one by one. No function of the program in sight. -/
import Derived.Test.YtnnhopcjlnnchaaRow
import Derived.Test.YtnnhopcjlnnchaaWra
import Derived.Test.YtnnhopcjlnnchaaKep
namespace Go.Proofs.Ytnnhopcjlnnchaa
open Go.RowKit

theorem setCell_same {w : World} {b o : Nat} {v : Value} (h : w.cell? ⟨b, o, none⟩ = some v) : w.setCell ⟨b, o, none⟩ v = w := by
  unfold World.cell? at h
  unfold World.setCell
  have e : (w.heap.modify b fun
      | .cells c elem frozen => .cells (if (none : Option Value).isSome then c else c.setIfInBounds o v) elem frozen
      | o => o) = w.heap := by
    apply Array.ext_getElem?
    intro j
    rw [Array.getElem?_modify]
    by_cases e : b = j
    · subst e
      simp only [if_true]
      cases hb : w.heap[b]? with
      | none => rfl
      | some x =>
        simp only [hb] at h
        cases x <;> simp at h ⊢
        rename_i c E fr
        apply Array.ext_getElem?
        intro i
        rw [Array.getElem?_setIfInBounds]
        by_cases e2 : o = i
        · subst e2
          simp [h]
          exact (Array.getElem?_eq_some_iff.1 h).1
        · rw [if_neg e2]
    · rw [if_neg e]
  cases w
  simp only at e ⊢
  congr 1

def bblk : Blk := ⟨0, [0, 0, 0, 0]⟩
def BlankTo (w wr : World) (b n k : Nat) : Prop :=
  ∃ ms : List Nat, ms.length = k ∧ RowAt blkL wr b 0 (ms.map (fun m => (bblk, [m])) ++ List.replicate (n - k) (zBlk, [])) ∧ Fresh w.heap.size wr (b :: ms) ∧ Chg [] w wr
theorem BlankTo.start {w : World} {E : TypeId} {cur : Array Value} (n : Nat) (h : blkL.sl (w.alloc (.cells cur E)) (some ⟨w.heap.size, 0, none⟩) n n (List.replicate n zBlk) [w.heap.size]) : BlankTo w (w.alloc (.cells cur E)) w.heap.size n 0 := by
  have hlo : Loose (w.alloc (.cells cur E)) w.heap.size := ⟨_, _, new_alloc w _⟩
  obtain ⟨ps, h1, h2, h3⟩ := blkL.sl_row h hlo ⟨[], rfl, by simp⟩
  have h4 : ps = List.replicate n (zBlk, []) := by
    apply List.eq_replicate_iff.2
    have hl := congrArg List.length h2
    simp only [List.length_map, List.length_replicate] at hl
    refine ⟨hl, fun p hp => ?_⟩
    have e1 : p.1 = zBlk := by
      have : p.1 ∈ ps.map (·.1) := List.mem_map_of_mem hp
      rw [h2] at this
      exact List.eq_of_mem_replicate this
    have e2 : p.2 = [] := by
      have e3 := (List.cons.inj h3).2
      rw [List.eq_nil_iff_forall_not_mem]
      intro y hy
      have : y ∈ ps.flatMap (·.2) := List.mem_flatMap.2 ⟨p, hp, hy⟩
      rw [← e3] at this
      simp at this
    exact Prod.ext e1 e2
  subst h4
  exact ⟨[], rfl, by simpa using h1, ⟨by simp, fun b hb => by simp at hb; subst hb; exact ⟨Nat.le_refl _, hlo⟩⟩, (Chg.refl [] w).alloc _⟩
theorem BlankTo.next {w wr w2 : World} {b n k m : Nat} (h : BlankTo w wr b n k) (hk : k < n) (hc : Chg [] wr w2) (hm : byteL.sl w2 (some ⟨m, 0, none⟩) 4 4 [0, 0, 0, 0] [m]) (hf : Fresh wr.heap.size w2 [m]) :
    BlankTo w (w2.setCell ⟨b, k * 2 + 1, none⟩ (.slice (some ⟨m, 0, none⟩) 4 4)) b n (k + 1) := by
  obtain ⟨ms, h1, h2, h3, h4⟩ := h
  have r2 := h2.ext hc
  have hlen : (ms.map (fun m => (bblk, [m])) ++ List.replicate (n - k) (zBlk, ([] : List Nat))).length = n := by simp; omega
  obtain ⟨p, c, hp, hrep, hnb, hcell⟩ := r2.at (i := k) (by rw [hlen]; exact hk)
  have hpe : p = (zBlk, []) := by
    rw [List.getElem?_append_right (by simp; omega)] at hp
    have := List.mem_of_getElem? hp
    exact List.eq_of_mem_replicate this
  subst hpe
  obtain ⟨a', l', c', f', rfl, -, -, -⟩ := blkL_iff.1 hrep
  have h0 : w2.cell? ⟨b, k * 2, none⟩ = some (.int .i64 0) := by
    have h5 : w2.cell? ⟨b, 0 + k * 2 + 0, none⟩ = some (.int .i64 0) := hcell 0 (by decide)
    rw [Nat.zero_add, Nat.add_zero] at h5
    exact h5
  have hbm : b ≠ m := fun e => by have := (hf.2 m (by simp)).1; have := h2.lt; omega
  have hput := r2.put (i := k) (by rw [hlen]; exact hk) (x := bblk) (c := [.int .i64 0, .slice (some ⟨m, 0, none⟩) 4 4]) (f := [m]) (blkL_iff.2 ⟨_, _, _, _, rfl, i64z, hm, rfl⟩) (by simpa using hbm)
  have ew : w2.setCells b (0 + k * blkL.n) [.int .i64 0, .slice (some ⟨m, 0, none⟩) 4 4] = w2.setCell ⟨b, k * 2 + 1, none⟩ (.slice (some ⟨m, 0, none⟩) 4 4) := by
    show (w2.setCell ⟨b, 0 + k * 2, none⟩ _).setCell ⟨b, 0 + k * 2 + 1, none⟩ _ = _
    rw [Nat.zero_add, setCell_same h0]
  rw [ew] at hput
  have es : (ms.map (fun m => (bblk, [m])) ++ List.replicate (n - k) (zBlk, ([] : List Nat))).set k (bblk, [m]) = (ms ++ [m]).map (fun m => (bblk, [m])) ++ List.replicate (n - (k + 1)) (zBlk, []) := by
    rw [List.set_append_right _ _ (by simp; omega), List.length_map, h1, Nat.sub_self, show n - k = (n - (k + 1)) + 1 by omega, List.replicate_succ, List.set_cons_zero, List.map_append]
    simp
  rw [es] at hput
  have cS : Chg [b] w2 (w2.setCell ⟨b, k * 2 + 1, none⟩ (.slice (some ⟨m, 0, none⟩) 4 4)) := (Chg.refl _ _).setCell _ _ (.inl (by simp))
  refine ⟨ms ++ [m], by simp [h1], hput, ?_, ?_⟩
  · have := (h3.chg hc).append hf h3.lts h4.size
    exact (show Fresh w.heap.size w2 (b :: (ms ++ [m])) from this).chg cS
  · exact (h4.trans0 hc).setCell _ _ (.inr (h3.2 b (by simp)).1)
theorem BlankTo.cells {w wr : World} {b n k : Nat} (h : BlankTo w wr b n k) (hk : k < n) : (∃ v, wr.cell? ⟨b, k * 2 + 1, none⟩ = some v) ∧ b < wr.heap.size ∧ ∀ j, wr.frozen? ⟨b, j, none⟩ = false := by
  obtain ⟨ms, h1, h2, h3, h4⟩ := h
  have hlen : (ms.map (fun m => (bblk, [m])) ++ List.replicate (n - k) (zBlk, ([] : List Nat))).length = n := by simp; omega
  obtain ⟨p, c, hp, hrep, hnb, hcell⟩ := h2.at (i := k) (by rw [hlen]; exact hk)
  obtain ⟨a', l', c', f', rfl, -, -, -⟩ := blkL_iff.1 hrep
  have h5 : wr.cell? ⟨b, 0 + k * 2 + 1, none⟩ = some (.slice a' l' c') := hcell 1 (by decide)
  rw [Nat.zero_add] at h5
  exact ⟨⟨_, h5⟩, h2.lt, h2.free⟩
theorem BlankTo.last {w wr : World} {b n : Nat} (h : BlankTo w wr b n n) (hn : n ≤ maxLen) : NewSl blkL (List.replicate n bblk) w (.returned (.slice (some ⟨b, 0, none⟩) n n)) wr := by
  obtain ⟨ms, h1, h2, h3, h4⟩ := h
  rw [Nat.sub_self, List.replicate_zero, List.append_nil] at h2
  have := h2.sl (len := n) (cap := n) (by simp [h1]) (Nat.le_refl _) hn
  have e1 : (ms.map (fun m => (bblk, [m]))).map (·.1) = List.replicate n bblk := by
    rw [List.map_map, ← h1]
    exact List.map_const' ..
  have e2 : (ms.map (fun m => (bblk, [m]))).flatMap (·.2) = ms := by
    rw [List.flatMap_map]
    simp
  rw [e1, e2] at this
  exact ⟨some ⟨b, 0, none⟩, n, _, by simp, by simpa using this, h3, h4⟩
end Go.Proofs.Ytnnhopcjlnnchaa
