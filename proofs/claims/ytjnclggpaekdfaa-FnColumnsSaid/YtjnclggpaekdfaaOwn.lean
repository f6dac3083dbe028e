
/- Rows that a call grows, each in memory of its own; their heads lie in one block. No function of the program in sight. -/
import Derived.Test.YtjnclggpaekdfaaGrw
import Derived.Test.YtjnclggpaekdfaaBss
namespace Go.Proofs.Ytjnclggpaekdfaa
open Go.RowKit

/-- the heads lie in H; row i is the slice in cell i, owned -/
def OwnR (E : TypeId) (w : World) (H : Nat) (ok : Nat → Prop) (n : Nat) (xs : List (List UInt8)) : Prop :=
  ∃ (cur : Array Value) (T : TypeId) (hs : List (Option Nat)), w.heap[H]? = some (.cells cur T (0, 0)) ∧ cur.size = n ∧ hs.length = n ∧ n = xs.length ∧
    (∀ (i : Nat) x, xs[i]? = some x → ∃ v h, cur[i]? = some v ∧ hs[i]? = some h ∧ byteL.os E w v x h [] ∧ ∀ g, h = some g → ok g ∧ g ≠ H) ∧
    (∀ (i j g : Nat), hs[i]? = some (some g) → hs[j]? = some (some g) → i = j)

section
variable {E : TypeId} {w w' wr : World} {H n : Nat} {ok : Nat → Prop} {xs : List (List UInt8)}
theorem OwnR.lt (h : OwnR E w H ok n xs) : H < w.heap.size := by obtain ⟨cur, T, hs, h1, _⟩ := h; exact ltOf h1
theorem OwnR.loose (h : OwnR E w H ok n xs) : Loose w H := by obtain ⟨cur, T, hs, h1, _⟩ := h; exact ⟨_, _, h1⟩
theorem OwnR.ext (h : OwnR E w H ok n xs) (hc : Chg [] w w') : OwnR E w' H ok n xs := by
  obtain ⟨cur, T, hs, h1, h2, h3, h4, h5, h6⟩ := h
  refine ⟨cur, T, hs, hc.keep0 h1, h2, h3, h4, fun i x hx => ?_, h6⟩
  obtain ⟨v, h, a1, a2, a3, a4⟩ := h5 i x hx
  exact ⟨v, h, a1, a2, byteL.os_ext a3 hc, a4⟩
theorem OwnR.more {ok' : Nat → Prop} (h : OwnR E w H ok n xs) (hk : ∀ g, g < w.heap.size → ok g → ok' g) : OwnR E w H ok' n xs := by
  obtain ⟨cur, T, hs, h1, h2, h3, h4, h5, h6⟩ := h
  refine ⟨cur, T, hs, h1, h2, h3, h4, fun i x hx => ?_, h6⟩
  obtain ⟨v, hd, a1, a2, a3, a4⟩ := h5 i x hx
  exact ⟨v, hd, a1, a2, a3, fun g hg => ⟨hk g ((byteL.os_lt a3).1 g hg) (a4 g hg).1, (a4 g hg).2⟩⟩
theorem OwnR.start (w : World) (T : TypeId) : OwnR E (w.alloc (.cells (zrow (.slice none 0 0) n) T)) w.heap.size ok n (List.replicate n []) := by
  refine ⟨_, T, List.replicate n none, new_alloc w _, by simp [zrow, madeCells], by simp, by simp, fun i x hx => ?_, fun i j g hi => ?_⟩
  · have hi : i < n := by have := (List.getElem?_eq_some_iff.1 hx).1; simpa using this
    have hx' : x = [] := by rw [List.getElem?_replicate, if_pos hi] at hx; exact (Option.some.inj hx).symm
    subst hx'
    refine ⟨.slice none 0 0, none, ?_, by rw [List.getElem?_replicate, if_pos hi], byteL.os_nil _ _, fun g hg => by cases hg⟩
    simp [zrow, madeCells, hi, Value.cells, Nat.mod_one]
  · rw [List.getElem?_replicate] at hi
    split at hi <;> cases hi
theorem OwnR.row (h : OwnR E wr H ok n xs) (hB : ∀ g, wr.heap.size ≤ g → ok g) {i : Nat} (hi : i < n) : ∃ x a cap hd, RowKit.Hid (xs[i]? = some x ∧ byteL.os E wr (.slice a x.length cap) x hd [] ∧ (∀ g, hd = some g → ok g ∧ g ≠ H) ∧
    ∀ y w3 w' v' h', Chg [] wr w3 → byteL.os E w' v' (x ++ [y]) h' [] → (h' = hd ∨ h' = some w3.heap.size) → Chg hd.toList w3 w' →
      w'.cell? ⟨H, i, none⟩ = some (.slice a x.length cap) ∧ (∀ j, w'.frozen? ⟨H, j, none⟩ = false) ∧ H < w'.heap.size ∧ OwnR E (w'.setCell ⟨H, i, none⟩ v') H ok n (xs.set i (x ++ [y]))) ∧
    wr.cell? ⟨H, i, none⟩ = some (.slice a x.length cap) := by
  obtain ⟨cur, T, hs, h1, h2, h3, h4, h5, h6⟩ := h
  have hx : xs[i]? = some (xs[i]'(by omega)) := List.getElem?_eq_getElem _
  generalize xs[i]'(by omega) = x at hx
  obtain ⟨v, hd, a1, a2, a3, a4⟩ := h5 i x hx
  obtain ⟨a, cap, rfl⟩ := byteL.os_len a3
  refine ⟨x, a, cap, hd, ⟨hx, a3, a4, ?_⟩, by rw [cellsOf h1, a1]⟩
  intro y w3 w' v' h' c3 ho' hh' hc'
  have hH3 := c3.keep0 h1
  have hHd : H ∉ hd.toList := by
    intro hm
    cases hd with
    | none => simp at hm
    | some g => simp at hm; exact (a4 g rfl).2 hm.symm
  have hH' := hc'.keepb hH3 hHd
  have hlt := ltOf h1
  have hne' : ∀ g, h' = some g → ok g ∧ g ≠ H := by
    intro g hg
    rcases hh' with rfl | rfl
    · exact a4 g hg
    · cases hg; have := c3.size; exact ⟨hB _ this, by omega⟩
  refine ⟨by rw [cellsOf hH', a1], freeOf hH', ltOf hH', ?_⟩
  refine ⟨cur.setIfInBounds i v', T, hs.set i h', heap_setCell_same hH', by simp [h2], by simp [h3], by simp [h4], fun j z hz => ?_, fun j k g hj hk => ?_⟩
  · have hkeep : ∀ b, b ≠ H → (w'.setCell ⟨H, i, none⟩ v').heap[b]? = w'.heap[b]? := fun b hb => Below.heap_setCell _ _ _ _ hb
    by_cases e : i = j
    · subst e
      rw [List.getElem?_set_self (by omega)] at hz
      cases hz
      refine ⟨v', h', ?_, by rw [List.getElem?_set_self (by omega)], byteL.os_keep ho' (fun g hg => hkeep g (hne' g hg).2) (by simp), hne'⟩
      rw [Array.getElem?_setIfInBounds_self_of_lt (by omega)]
    · rw [List.getElem?_set_ne e] at hz
      obtain ⟨u, k, b1, b2, b3, b4⟩ := h5 j z hz
      refine ⟨u, k, ?_, by rw [List.getElem?_set_ne e]; exact b2, ?_, b4⟩
      · rw [Array.getElem?_setIfInBounds_ne e]; exact b1
      · refine byteL.os_keep (byteL.os_chg (byteL.os_ext b3 c3) hc' (fun g hg hm => ?_) (by simp)) (fun g hg => hkeep g (b4 g hg).2) (by simp)
        cases hd with
        | none => simp at hm
        | some g' =>
          simp at hm
          subst hm hg
          exact e (h6 i j g a2 b2)
  · have old : ∀ (j : Nat) g, hs[j]? = some (some g) → g < wr.heap.size := by
      intro j g hj
      have hjn := (List.getElem?_eq_some_iff.1 hj).1
      obtain ⟨u, k, b1, b2, b3, b4⟩ := h5 j _ (List.getElem?_eq_getElem (by omega : j < xs.length))
      rw [hj] at b2
      cases b2
      exact (byteL.os_lt b3).1 g rfl
    have key : ∀ (j : Nat), (hs.set i h')[j]? = some (some g) → (i = j ∧ h' = some g) ∨ (i ≠ j ∧ hs[j]? = some (some g)) := by
      intro j hj
      by_cases e : i = j
      · subst e
        rw [List.getElem?_set_self (by omega)] at hj
        exact .inl ⟨rfl, Option.some.inj hj⟩
      · rw [List.getElem?_set_ne e] at hj; exact .inr ⟨e, hj⟩
    have mix : ∀ (q : Nat), i ≠ q → h' = some g → hs[q]? = some (some g) → False := by
      intro q e hg hq
      rcases hh' with rfl | rfl
      · subst hg; exact e (h6 i q g a2 hq)
      · cases hg; have := old q _ hq; have := c3.size; omega
    rcases key j hj with ⟨e1, g1⟩ | ⟨e1, g1⟩ <;> rcases key k hk with ⟨e2, g2⟩ | ⟨e2, g2⟩
    · omega
    · exact (mix k e2 g1 g2).elim
    · exact (mix j e1 g2 g1).elim
    · exact h6 j k g g1 g2
theorem all_of_at {α : Type} {L : Lay α} {w : World} : ∀ {xs : List α} {cs : List Value}, cs.length = xs.length → (∀ (i : Nat) x, xs[i]? = some x → ∃ v f, cs[i]? = some v ∧ L.rep w [v] x f) → ∃ fp, L.all w cs xs fp := by
  intro xs
  induction xs with
  | nil => intro cs hl _; exact ⟨[], List.eq_nil_of_length_eq_zero hl, rfl⟩
  | cons x xs ih =>
    intro cs hl h
    cases cs with
    | nil => simp at hl
    | cons c cs =>
      obtain ⟨v, f, h1, h2⟩ := h 0 x rfl
      obtain ⟨fp, h3⟩ := ih (cs := cs) (by simpa using hl) (fun i y hy => h (i + 1) y (by simpa using hy))
      simp at h1
      subst h1
      exact ⟨f ++ fp, [c], cs, f, fp, rfl, rfl, h2, h3⟩
theorem OwnR.sl (h : OwnR E w H ok n xs) (hn : n ≤ maxLen) : ∃ fp, byteL.slice.sl w (some ⟨H, 0, none⟩) n n xs fp := by
  obtain ⟨cur, T, hs, h1, h2, h3, h4, h5, h6⟩ := h
  obtain ⟨fp, hall⟩ := all_of_at (L := byteL.slice) (w := w) (xs := xs) (cs := cur.toList) (by rw [Array.length_toList]; omega) (fun i x hx => by
    obtain ⟨v, hd, a1, a2, a3, a4⟩ := h5 i x hx
    obtain ⟨a, cap, rfl, hsl⟩ := byteL.os_sl a3
    exact ⟨_, _, by simpa using a1, a, x.length, cap, rfl, hsl⟩)
  refine ⟨H :: fp, h4, Nat.le_refl _, hn, (fun h => by cases h), .inr ⟨H, 0, cur, T, (0, 0), fp, rfl, h1, ?_, rfl⟩⟩
  rw [List.drop_zero, List.take_of_length_le (by rw [Array.length_toList, h2]; show n ≤ n * 1; omega)]
  exact hall
end
end Go.Proofs.Ytjnclggpaekdfaa
