import Derived.Test.YtphmpimgbmedbaaGreatMetM
import Derived.Laws.IdiomCopy
/- Structures in slices: an element's cells, an element replaced whole. No function of the program in sight. -/
namespace Go.Proofs.YtphmpimgbmedbaaGreat
open Go.RowKit

def setRow (cur : Array Value) : Nat → List Value → Array Value
  | _, [] => cur
  | o, v :: vs => setRow (cur.setIfInBounds o v) (o + 1) vs
theorem setCells_heap {b : Nat} {E : TypeId} {fr : Nat × Nat} : ∀ (vs : List Value) (o : Nat) (w : World) (cur : Array Value), w.heap[b]? = some (.cells cur E fr) → (w.setCells b o vs).heap[b]? = some (.cells (setRow cur o vs) E fr) := by
  intro vs
  induction vs with
  | nil => intro o w cur h; exact h
  | cons v vs ih => intro o w cur h; exact ih (o + 1) _ _ (heap_setCell_same h)
theorem setCells_far {b k : Nat} (hk : k ≠ b) : ∀ (vs : List Value) (o : Nat) (w : World), (w.setCells b o vs).heap[k]? = w.heap[k]? := by
  intro vs
  induction vs with
  | nil => intro o w; rfl
  | cons v vs ih => intro o w; exact (ih (o + 1) _).trans (Below.heap_setCell _ _ _ _ hk)
theorem Chg.setCells {S : List Nat} {a : World} {b : Nat} (hp : b ∈ S ∨ a.heap.size ≤ b) : ∀ (vs : List Value) (o : Nat) {w : World}, Chg S a w → Chg S a (w.setCells b o vs) := by
  intro vs
  induction vs with
  | nil => intro o w h; exact h
  | cons v vs ih => intro o w h; exact ih (o + 1) (h.setCell ⟨b, o, none⟩ v hp)
theorem setRow_toList : ∀ (vs : List Value) (o : Nat) (cur : Array Value), o + vs.length ≤ cur.size → (setRow cur o vs).toList = cur.toList.take o ++ (vs ++ cur.toList.drop (o + vs.length)) := by
  intro vs
  induction vs with
  | nil => intro o cur _; simp [setRow]
  | cons v vs ih =>
    intro o cur h
    simp only [List.length_cons] at h
    show (setRow (cur.setIfInBounds o v) (o + 1) vs).toList = _
    rw [ih (o + 1) _ (by simp; omega), Array.toList_setIfInBounds]
    have e1 : (cur.toList.set o v).take (o + 1) = cur.toList.take o ++ [v] := by
      apply List.ext_getElem?
      intro j
      by_cases hj : j < o
      · rw [List.getElem?_take_of_lt (by omega), List.getElem?_set_ne (by omega), List.getElem?_append_left (by simp; omega), List.getElem?_take_of_lt hj]
      · by_cases hj2 : j = o
        · subst hj2
          have hlj : (cur.toList.take j).length = j := by rw [List.length_take]; simp; omega
          rw [List.getElem?_take_of_lt (by omega), List.getElem?_set_self (by simp; omega), List.getElem?_append_right (by omega), hlj]
          simp
        · rw [List.getElem?_eq_none (by simp; omega), List.getElem?_eq_none (by simp; omega)]
    have e2 : (cur.toList.set o v).drop (o + 1 + vs.length) = cur.toList.drop (o + (v :: vs).length) := by
      rw [List.drop_set_of_lt (by omega)]
      congr 1
      simp; omega
    rw [e1, e2]
    simp

theorem Lay.all_putN {α : Type} (L : Lay α) {w w' : World} {xs : List α} {i : Nat} {cs : List Value} {fps : List Nat} {x' : α} {vs : List Value} {f' : List Nat} (h : L.all w cs xs fps) (hi : i < xs.length) (hr : L.rep w' vs x' f')
    (hk : ∀ b ∈ fps, w'.heap[b]? = w.heap[b]?) : ∃ f1 fx f2, fps = f1 ++ (fx ++ f2) ∧ L.all w' (cs.take (i * L.n) ++ (vs ++ cs.drop (i * L.n + L.n))) (xs.set i x') (f1 ++ (f' ++ f2)) := by
  have e : xs = xs.take i ++ (xs[i] :: xs.drop (i + 1)) := by rw [← List.drop_eq_getElem_cons hi, List.take_append_drop]
  rw [e] at h
  have hl : (xs.take i).length = i := by rw [List.length_take]; omega
  obtain ⟨f1, f2', rfl, h1, h2⟩ := L.all_split h
  rw [hl] at h1 h2
  obtain ⟨c1, c2, fx, f2, e2, rfl, r1, r2⟩ := h2
  have hc2 : c2 = cs.drop (i * L.n + L.n) := by
    have := congrArg (List.drop L.n) e2
    rw [List.drop_drop, ← L.len r1, List.drop_left] at this
    rw [← this, L.len r1]
  refine ⟨f1, fx, f2, rfl, ?_⟩
  rw [List.set_eq_take_append_cons_drop, if_pos hi]
  refine L.all_append (L.all_keep h1 (fun b hb => hk b (by simp [hb]))) ⟨vs, _, f', f2, rfl, rfl, hr, ?_⟩
  rw [← hc2]
  exact L.all_keep r2 (fun b hb => hk b (by simp [hb]))

/-- an element of a slice replaced whole -/
theorem Lay.sl_putN {α : Type} (L : Lay α) {w : World} {b off len cap : Nat} {xs : List α} {fp : List Nat} (h : L.sl w (some ⟨b, off, none⟩) len cap xs fp) (nd : fp.Nodup) {i : Nat} (hi : i < len) {vs : List Value} {x' : α} {f' : List Nat}
    (hr : L.rep w vs x' f') (hf' : ∀ y ∈ f', y ∉ fp) (nd' : f'.Nodup) :
    ∃ fp', L.sl (w.setCells b (off + i * L.n) vs) (some ⟨b, off, none⟩) len cap (xs.set i x') fp' ∧ (∀ y ∈ fp', y ∈ fp ∨ y ∈ f') ∧ fp'.Nodup ∧ b ∈ fp' ∧ b ∈ fp := by
  obtain ⟨h1, h2, h3, h4, ⟨rfl, rfl⟩ | ⟨b', off', cur, E, fr, fps, ha, hb, hall, rfl⟩⟩ := h
  · simp at h1; omega
  · simp only [Option.some.injEq, Addr.mk.injEq, and_true] at ha
    obtain ⟨rfl, rfl⟩ := ha
    have hvl := L.len hr
    have hbf : b ∉ fps := (List.nodup_cons.1 nd).1
    have hbf' : b ∉ f' := fun hy => hf' b hy (by simp)
    have hal := L.all_len hall
    rw [List.length_take, List.length_drop] at hal
    have hle : (i + 1) * L.n ≤ len * L.n := Nat.mul_le_mul_right _ (by omega)
    rw [Nat.add_mul, Nat.one_mul] at hle
    have hsz : off + (i * L.n + L.n) ≤ cur.size := by
      have := L.pos
      have e : cur.toList.length = cur.size := by simp
      rw [h1] at hle
      omega
    have hr' := L.keep hr (fun y hy => (setCells_far (show y ≠ b from fun e => hbf' (by rw [← e]; exact hy)) vs (off + i * L.n) w))
    obtain ⟨f1, fx, f2, rfl, hall'⟩ := L.all_putN hall (show i < xs.length by omega) hr' (fun y hy => setCells_far (show y ≠ b from fun e => hbf (by rw [← e]; exact hy)) vs (off + i * L.n) w)
    refine ⟨b :: (f1 ++ (f' ++ f2)), ⟨by simpa using h1, h2, h3, h4, .inr ⟨b, off, _, E, fr, _, rfl, setCells_heap vs _ w cur hb, ?_, rfl⟩⟩, ?_, ?_, by simp, by simp⟩
    · rw [setRow_toList vs _ cur (by omega)]
      have e : ((cur.toList.take (off + i * L.n) ++ (vs ++ cur.toList.drop (off + i * L.n + vs.length))).drop off).take (len * L.n) = ((cur.toList.drop off).take (len * L.n)).take (i * L.n) ++ (vs ++ ((cur.toList.drop off).take (len * L.n)).drop (i * L.n + L.n)) := by
        have hlen : cur.toList.length = cur.size := by simp
        rw [hvl]
        rw [List.drop_append_of_le_length (by rw [List.length_take]; omega), List.drop_take, show off + i * L.n - off = i * L.n by omega]
        rw [List.take_append, List.take_take, List.take_take, List.length_take, List.length_drop]
        rw [show min (len * L.n) (i * L.n) = i * L.n by omega, show min (i * L.n) (len * L.n) = i * L.n by omega]
        congr 1
        rw [show min (i * L.n) (cur.toList.length - off) = i * L.n by omega]
        rw [List.take_append, hvl, List.take_of_length_le (show vs.length ≤ len * L.n - i * L.n by omega)]
        congr 1
        rw [List.drop_take, List.drop_drop, show off + i * L.n + L.n = off + (i * L.n + L.n) by omega]
        congr 1
        omega
      rw [e]
      exact hall'
    · intro y hy
      simp only [List.mem_cons, List.mem_append] at hy ⊢
      rcases hy with rfl | hy | hy | hy
      · simp
      · exact .inl (.inr (.inl hy))
      · exact .inr hy
      · exact .inl (.inr (.inr (.inr hy)))
    · have nd2 := (List.nodup_cons.1 nd).2
      rw [List.nodup_append] at nd2
      obtain ⟨n1, n2, n3⟩ := nd2
      rw [List.nodup_append] at n2
      obtain ⟨n4, n5, n6⟩ := n2
      have q1 : ∀ y ∈ f', y ∉ f1 := fun y hy hy1 => hf' y hy (by simp [hy1])
      have q2 : ∀ y ∈ f', y ∉ f2 := fun y hy hy1 => hf' y hy (by simp [hy1])
      refine List.nodup_cons.2 ⟨?_, List.nodup_append.2 ⟨n1, List.nodup_append.2 ⟨nd', n5, fun a ha c hc e => q2 a ha (e ▸ hc)⟩, fun a ha c hc e => ?_⟩⟩
      · intro hy
        simp only [List.mem_append] at hy
        rcases hy with hy | hy | hy
        · exact hbf (by simp [hy])
        · exact hbf' hy
        · exact hbf (by simp [hy])
      · rcases List.mem_append.1 hc with hc | hc
        · exact q1 c hc (e ▸ ha)
        · exact n3 a ha c (List.mem_append.2 (.inr hc)) e
end Go.Proofs.YtphmpimgbmedbaaGreat
