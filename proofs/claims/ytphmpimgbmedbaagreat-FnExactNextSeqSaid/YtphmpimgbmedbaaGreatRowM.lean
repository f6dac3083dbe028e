import Derived.Test.YtphmpimgbmedbaaGreatMk
import Derived.Test.YtphmpimgbmedbaaGreatPutM
/- A row of data in one block of its own, element by element; no element points into the block. No function of the program in sight. -/
namespace Go.Proofs.YtphmpimgbmedbaaGreat
open Go.RowKit

/-- the data of a row, each with the blocks that it uses -/
def RowAt {α : Type} (L : Lay α) (w : World) (b off : Nat) (ps : List (α × List Nat)) : Prop :=
  ∃ cur E, w.heap[b]? = some (.cells cur E (0, 0)) ∧ (0 < ps.length → off + ps.length * L.n ≤ cur.size) ∧ ∀ (i : Nat) p, ps[i]? = some p → L.rep w ((cur.toList.drop (off + i * L.n)).take L.n) p.1 p.2 ∧ b ∉ p.2
section
variable {α : Type} {L : Lay α} {w w' : World} {b off : Nat} {ps : List (α × List Nat)}
theorem RowAt.lt (h : RowAt L w b off ps) : b < w.heap.size := by obtain ⟨cur, E, h1, _⟩ := h; exact ltOf h1
theorem RowAt.loose (h : RowAt L w b off ps) : Loose w b := by obtain ⟨cur, E, h1, _⟩ := h; exact ⟨_, _, h1⟩
theorem RowAt.keep (h : RowAt L w b off ps) (hb : w'.heap[b]? = w.heap[b]?) (hk : ∀ p ∈ ps, ∀ y ∈ p.2, w'.heap[y]? = w.heap[y]?) : RowAt L w' b off ps := by
  obtain ⟨cur, E, h1, h2, h3⟩ := h
  exact ⟨cur, E, hb.trans h1, h2, fun i p hp => ⟨L.keep (h3 i p hp).1 (hk p (List.mem_of_getElem? hp)), (h3 i p hp).2⟩⟩
theorem RowAt.fp_lt (h : RowAt L w b off ps) {p : α × List Nat} (hp : p ∈ ps) : ∀ y ∈ p.2, y < w.heap.size := by
  obtain ⟨cur, E, h1, h2, h3⟩ := h
  obtain ⟨i, hi, e⟩ := List.getElem_of_mem hp
  exact L.lt (h3 i p (by rw [List.getElem?_eq_getElem hi, e])).1
theorem RowAt.chg {S : List Nat} (h : RowAt L w b off ps) (hc : Chg S w w') (hb : b ∉ S) (hS : ∀ p ∈ ps, ∀ y ∈ p.2, y ∉ S) : RowAt L w' b off ps :=
  h.keep (hc.block b h.lt hb) (fun p hp y hy => hc.block y (h.fp_lt hp y hy) (hS p hp y hy))
theorem RowAt.ext (h : RowAt L w b off ps) (hc : Chg [] w w') : RowAt L w' b off ps := h.chg hc (by simp) (by simp)
/-- the cells of an element -/
theorem RowAt.at (h : RowAt L w b off ps) {i : Nat} (hi : i < ps.length) : ∃ p c, ps[i]? = some p ∧ L.rep w c p.1 p.2 ∧ b ∉ p.2 ∧ ∀ j, j < L.n → w.cell? ⟨b, off + i * L.n + j, none⟩ = c[j]? := by
  obtain ⟨cur, E, h1, h2, h3⟩ := h
  have hp : ps[i]? = some ps[i] := List.getElem?_eq_getElem hi
  refine ⟨_, _, hp, (h3 i _ hp).1, (h3 i _ hp).2, fun j hj => ?_⟩
  rw [cellsOf h1, List.getElem?_take_of_lt hj, List.getElem?_drop]
  simp
theorem RowAt.free (h : RowAt L w b off ps) : ∀ j, w.frozen? ⟨b, j, none⟩ = false := by obtain ⟨cur, E, h1, _⟩ := h; exact freeOf h1
/-- an element replaced -/
theorem RowAt.put (h : RowAt L w b off ps) {i : Nat} (hi : i < ps.length) {x : α} {c : List Value} {f : List Nat} (hr : L.rep w c x f) (hb : b ∉ f) : RowAt L (w.setCells b (off + i * L.n) c) b off (ps.set i (x, f)) := by
  obtain ⟨cur, E, h1, h2, h3⟩ := h
  have hcl := L.len hr
  have hle : (i + 1) * L.n ≤ ps.length * L.n := Nat.mul_le_mul_right _ (by omega)
  rw [Nat.add_mul, Nat.one_mul] at hle
  have hsz : off + i * L.n + c.length ≤ cur.size := by have := h2 (by omega); omega
  have htl := setRow_toList c (off + i * L.n) cur hsz
  have hct : cur.toList.length = cur.size := by simp
  refine ⟨_, E, setCells_heap c _ w cur h1, ?_, fun j p hp => ?_⟩
  · rw [List.length_set]
    have : (setRow cur (off + i * L.n) c).size = cur.size := by
      have h5 := congrArg List.length htl
      rw [Array.length_toList] at h5
      rw [h5, List.length_append, List.length_append, List.length_take, List.length_drop]
      omega
    rw [this]; exact h2
  · have hfar : ∀ y, y ≠ b → (w.setCells b (off + i * L.n) c).heap[y]? = w.heap[y]? := fun y hy => setCells_far hy c _ w
    by_cases e : i = j
    · subst e
      rw [List.getElem?_set_self hi] at hp
      obtain rfl := Option.some.inj hp
      refine ⟨?_, hb⟩
      have e2 : ((setRow cur (off + i * L.n) c).toList.drop (off + i * L.n)).take L.n = c := by
        rw [htl, List.drop_append_of_le_length (by rw [List.length_take]; omega), List.drop_take, Nat.sub_self, List.take_zero, List.nil_append, List.take_append_of_le_length (by omega), List.take_of_length_le (by omega)]
      rw [e2]
      exact L.keep hr (fun y hy => hfar y (fun e => hb (e ▸ hy)))
    · rw [List.getElem?_set_ne e] at hp
      obtain ⟨h4, h5⟩ := h3 j p hp
      refine ⟨?_, h5⟩
      have hj := (List.getElem?_eq_some_iff.1 hp).1
      have hjle : (j + 1) * L.n ≤ ps.length * L.n := Nat.mul_le_mul_right _ (by omega)
      rw [Nat.add_mul, Nat.one_mul] at hjle
      have e2 : ((setRow cur (off + i * L.n) c).toList.drop (off + j * L.n)).take L.n = (cur.toList.drop (off + j * L.n)).take L.n := by
        apply List.ext_getElem?
        intro k
        by_cases hk : k < L.n
        · rw [List.getElem?_take_of_lt hk, List.getElem?_take_of_lt hk, List.getElem?_drop, List.getElem?_drop, htl]
          rcases Nat.lt_or_gt_of_ne e with hij | hij
          · have : (i + 1) * L.n ≤ j * L.n := Nat.mul_le_mul_right _ hij
            rw [Nat.add_mul, Nat.one_mul] at this
            rw [List.getElem?_append_right (by rw [List.length_take]; omega), List.length_take, List.getElem?_append_right (by omega), List.getElem?_drop]
            congr 1
            omega
          · have : (j + 1) * L.n ≤ i * L.n := Nat.mul_le_mul_right _ hij
            rw [Nat.add_mul, Nat.one_mul] at this
            rw [List.getElem?_append_left (by rw [List.length_take]; omega), List.getElem?_take_of_lt (by omega)]
        · rw [List.getElem?_eq_none (by rw [List.length_take]; omega), List.getElem?_eq_none (by rw [List.length_take]; omega)]
      rw [e2]
      exact L.keep h4 (fun y hy => hfar y (fun e => h5 (e ▸ hy)))
/-- the beginning of a row -/
theorem RowAt.take (h : RowAt L w b off ps) (n : Nat) : RowAt L w b off (ps.take n) := by
  obtain ⟨cur, E, h1, h2, h3⟩ := h
  have hle : (ps.take n).length * L.n ≤ ps.length * L.n := Nat.mul_le_mul_right _ (by rw [List.length_take]; omega)
  refine ⟨cur, E, h1, fun h0 => by have := h2 (by rw [List.length_take] at h0; omega); omega, fun i p hp => h3 i p ?_⟩
  have hi : i < n := by have := (List.getElem?_eq_some_iff.1 hp).1; rw [List.length_take] at this; omega
  rwa [List.getElem?_take_of_lt hi] at hp
end
theorem row_all {α : Type} {L : Lay α} {w : World} : ∀ {ps : List (α × List Nat)} {cs : List Value}, cs.length = ps.length * L.n → (∀ (i : Nat) p, ps[i]? = some p → L.rep w ((cs.drop (i * L.n)).take L.n) p.1 p.2) → L.all w cs (ps.map (·.1)) (ps.flatMap (·.2)) := by
  intro ps
  induction ps with
  | nil => intro cs hl _; exact ⟨List.eq_nil_of_length_eq_zero (by simpa using hl), rfl⟩
  | cons p ps ih =>
    intro cs hl h
    rw [List.length_cons, Nat.add_mul, Nat.one_mul] at hl
    refine ⟨cs.take L.n, cs.drop L.n, p.2, ps.flatMap (·.2), (List.take_append_drop _ _).symm, by simp, ?_, ih (by rw [List.length_drop]; omega) (fun i q hq => ?_)⟩
    · have := h 0 p rfl
      simpa using this
    · have := h (i + 1) q (by simpa using hq)
      rw [List.drop_drop]
      rw [Nat.add_mul, Nat.one_mul, Nat.add_comm] at this
      exact this
theorem all_row {α : Type} {L : Lay α} {w : World} : ∀ {xs : List α} {cs : List Value} {fps : List Nat}, L.all w cs xs fps → ∃ ps : List (α × List Nat), ps.map (·.1) = xs ∧ ps.flatMap (·.2) = fps ∧ ∀ (i : Nat) p, ps[i]? = some p → L.rep w ((cs.drop (i * L.n)).take L.n) p.1 p.2 := by
  intro xs
  induction xs with
  | nil => intro cs fps h; exact ⟨[], rfl, h.2.symm, fun i p hp => by simp at hp⟩
  | cons x xs ih =>
    intro cs fps h
    obtain ⟨c1, c2, f1, f2, rfl, rfl, h1, h2⟩ := h
    obtain ⟨ps, e1, e2, e3⟩ := ih h2
    have hl := L.len h1
    refine ⟨(x, f1) :: ps, by simp [e1], by simp [e2], fun i p hp => ?_⟩
    cases i with
    | zero =>
      simp at hp
      subst hp
      rw [Nat.zero_mul, List.drop_zero, ← hl, List.take_left]
      exact h1
    | succ i =>
      have := e3 i p (by simpa using hp)
      rw [Nat.add_mul, Nat.one_mul, Nat.add_comm, ← List.drop_drop, ← hl, List.drop_left, hl]
      exact this
section
variable {α : Type} {L : Lay α} {w w' : World} {b off len cap : Nat} {xs : List α} {ps : List (α × List Nat)} {fp : List Nat}
/-- a slice of a row -/
theorem RowAt.sl (h : RowAt L w b off ps) (hl : len = ps.length) (hc : len ≤ cap) (hm : cap ≤ maxLen) : L.sl w (some ⟨b, off, none⟩) len cap (ps.map (·.1)) (b :: ps.flatMap (·.2)) := by
  obtain ⟨cur, E, h1, h2, h3⟩ := h
  subst hl
  refine ⟨by simp, hc, hm, (fun h => by cases h), .inr ⟨b, off, cur, E, (0, 0), _, rfl, h1, row_all ?_ (fun i p hp => ?_), rfl⟩⟩
  · have hct : cur.toList.length = cur.size := by simp
    rw [List.length_take, List.length_drop, hct]
    rcases Nat.eq_zero_or_pos ps.length with h0 | h0
    · rw [h0, Nat.zero_mul]; omega
    · have := h2 h0; omega
  · have hi := (List.getElem?_eq_some_iff.1 hp).1
    have hle : (i + 1) * L.n ≤ ps.length * L.n := Nat.mul_le_mul_right _ (by omega)
    rw [Nat.add_mul, Nat.one_mul] at hle
    have e : (((cur.toList.drop off).take (ps.length * L.n)).drop (i * L.n)).take L.n = (cur.toList.drop (off + i * L.n)).take L.n := by
      rw [List.drop_take, List.take_take, List.drop_drop, Nat.min_eq_left (by omega)]
    rw [e]
    exact (h3 i p hp).1
/-- the row of a slice -/
theorem Lay.sl_row (h : L.sl w (some ⟨b, off, none⟩) len cap xs fp) (hlo : Loose w b) (hn : ∃ fps, fp = b :: fps ∧ b ∉ fps) : ∃ ps, RowAt L w b off ps ∧ ps.map (·.1) = xs ∧ fp = b :: ps.flatMap (·.2) := by
  obtain ⟨fps0, hfp, hb⟩ := hn
  obtain ⟨h1, h2, h3, h4, ⟨rfl, rfl⟩ | ⟨b', off', cur, E, fr, fps, ha, hb', hall, hfp'⟩⟩ := h
  · cases hfp
  · simp only [Option.some.injEq, Addr.mk.injEq, and_true] at ha
    obtain ⟨rfl, rfl⟩ := ha
    obtain rfl : fps = fps0 := by rw [hfp] at hfp'; exact (List.cons.inj hfp').2.symm
    obtain ⟨cur', E', hlo⟩ := hlo
    obtain ⟨rfl, rfl, rfl⟩ : cur' = cur ∧ E' = E ∧ fr = (0, 0) := by
      have := Option.some.inj (hlo.symm.trans hb'); injection this with e1 e2 e3; exact ⟨e1, e2, e3.symm⟩
    obtain ⟨ps, e1, e2, e3⟩ := all_row hall
    have hpl : ps.length = xs.length := by rw [← e1, List.length_map]
    have hal := L.all_len hall
    rw [List.length_take, List.length_drop, Array.length_toList] at hal
    refine ⟨ps, ⟨cur', E', hb', ?_, fun i p hp => ?_⟩, e1, by rw [hfp, e2]⟩
    · rw [hpl]
      intro h0
      have : 0 < xs.length * L.n := Nat.mul_pos h0 L.pos
      rw [h1] at hal; omega
    · have hi := (List.getElem?_eq_some_iff.1 hp).1
      have hle : (i + 1) * L.n ≤ len * L.n := Nat.mul_le_mul_right _ (by omega)
      rw [Nat.add_mul, Nat.one_mul] at hle
      have := e3 i p hp
      rw [List.drop_take, List.take_take, List.drop_drop, Nat.min_eq_left (by omega)] at this
      refine ⟨this, fun hm => hb ?_⟩
      rw [← e2]
      exact List.mem_flatMap.2 ⟨p, List.mem_of_getElem? hp, hm⟩
end
end Go.Proofs.YtphmpimgbmedbaaGreat
