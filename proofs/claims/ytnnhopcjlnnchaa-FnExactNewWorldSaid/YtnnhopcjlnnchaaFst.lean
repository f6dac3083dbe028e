
/- A field of an element of a slice of structures, set in place. No function of the program in sight. -/
import Derived.Test.YtnnhopcjlnnchaaWhS
namespace Go.Proofs.Ytnnhopcjlnnchaa
open Go.RowKit

theorem cell_same {w w' : World} {b o : Nat} (h : w'.heap[b]? = w.heap[b]?) : w'.cell? ⟨b, o, none⟩ = w.cell? ⟨b, o, none⟩ := by simp only [World.cell?, h]
theorem frozen_same {w w' : World} {b o : Nat} (h : w'.heap[b]? = w.heap[b]?) : w'.frozen? ⟨b, o, none⟩ = w.frozen? ⟨b, o, none⟩ := by simp only [World.frozen?, h]
theorem Loose.free {w : World} {b : Nat} (h : Loose w b) : ∀ j, w.frozen? ⟨b, j, none⟩ = false := by obtain ⟨cur, E, h⟩ := h; exact freeOf h
/-- an element of a slice that may change in its own blocks; the slice's block is none of them -/
theorem Lay.sl_modb {α : Type} (L : Lay α) {w : World} {b off len cap : Nat} {xs : List α} {fp : List Nat} (h : L.sl w (some ⟨b, off, none⟩) len cap xs fp) (nd : fp.Nodup) {i : Nat} (hi : i < len) :
    ∃ x c f, xs[i]? = some x ∧ b ∈ fp ∧ (∀ j, j < L.n → w.cell? ⟨b, off + i * L.n + j, none⟩ = c[j]?) ∧ L.rep w c x f ∧ (∀ y ∈ f, y ∈ fp) ∧ f.Nodup ∧ b ∉ f ∧
      ∀ w' x', L.rep w' c x' f → (∀ y ∈ fp, y ∉ f → w'.heap[y]? = w.heap[y]?) → L.sl w' (some ⟨b, off, none⟩) len cap (xs.set i x') fp := by
  obtain ⟨h1, h2, h3, h4, ⟨rfl, rfl⟩ | ⟨b', off', cur, E, fr, fps, ha, hb, hall, rfl⟩⟩ := h
  · simp at h1; omega
  · simp only [Option.some.injEq, Addr.mk.injEq, and_true] at ha
    obtain ⟨rfl, rfl⟩ := ha
    have hx : xs[i]? = some (xs[i]'(by omega)) := List.getElem?_eq_getElem _
    obtain ⟨c, f, f1, f2, rfl, hc, hr, hm⟩ := L.all_mod hall hx
    have nd1 := List.nodup_cons.1 nd
    have nd2 := List.nodup_append.1 nd1.2
    have nd3 := List.nodup_append.1 nd2.1
    refine ⟨_, c, f, hx, by simp, fun j hj => ?_, hr, fun y hy => by simp [hy], nd3.2.1, fun hbf => nd1.1 (by simp [hbf]), fun w' x' hr' hk => ⟨by simpa using h1, h2, h3, h4, .inr ⟨b, off, cur, E, fr, _, rfl, ?_, hm w' x' hr' ?_, rfl⟩⟩⟩
    · rw [cell_of_row w b _ cur E fr hb, ← hc j hj, List.getElem?_take_of_lt, List.getElem?_drop]
      · simp [Nat.add_assoc]
      · calc i * L.n + j < i * L.n + L.n := by omega
          _ = (i + 1) * L.n := by rw [Nat.add_mul, Nat.one_mul]
          _ ≤ len * L.n := Nat.mul_le_mul_right _ (by omega)
    · rw [hk b (by simp) (fun hbf => nd1.1 (by simp [hbf]))]; exact hb
    · intro y hy
      refine hk y (by rcases hy with hy | hy <;> simp [hy]) (fun hyf => ?_)
      rcases hy with hy | hy
      · exact nd3.2.2 y hy y hyf rfl
      · exact nd2.2.2 y (by simp [hyf]) y hy rfl

theorem block_set0 {w w' : World} {c : List Value} {x : Blk} {f : List Nat} (h : blkL.rep w c x f) (hk : ∀ b ∈ f, w'.heap[b]? = w.heap[b]?) (v : Int) (hv : i64ok v) : blkL.rep w' (c.set 0 (.int .i64 v)) { x with stamp := v } f := by
  obtain ⟨a1, l1, c1, f1, ex, hv0, h1, hf⟩ := blkL_iff.1 (blkL.keep h hk)
  subst ex
  exact blkL_iff.2 ⟨a1, l1, c1, f1, rfl, hv, h1, hf⟩
theorem block_store0 {w : World} {b off len cap : Nat} {xs : List Blk} {fp : List Nat} (h : blkL.sl w (some ⟨b, off, none⟩) len cap xs fp) (nd : fp.Nodup) {i : Nat} {x : Blk} (hx : xs[i]? = some x) (v : Int) (hv : i64ok v) :
    blkL.sl (w.setCell ⟨b, off + i * 2, none⟩ (.int .i64 v)) (some ⟨b, off, none⟩) len cap (xs.set i { x with stamp := v }) fp := by
  have := blkL.sl_store h nd (i := i) (j := 0) (x := x) (x' := { x with stamp := v }) (v := .int .i64 v) hx (by decide) (fun c f hr hb => block_set0 hr (fun y hy => Below.heap_setCell _ _ _ _ (fun e => hb (by have e' : y = b := e; exact e' ▸ hy))) v hv)
  exact this
theorem drive_set0 {w w' : World} {c : List Value} {x : Drv} {f : List Nat} (h : drvL.rep w c x f) (hk : ∀ b ∈ f, w'.heap[b]? = w.heap[b]?) (v : Bool) : drvL.rep w' (c.set 0 (.bool v)) { x with wiped := v } f := by
  obtain ⟨a1, l1, c1, f1, ex, h1, hf⟩ := drvL_iff.1 (drvL.keep h hk)
  subst ex
  exact drvL_iff.2 ⟨a1, l1, c1, f1, rfl, h1, hf⟩
theorem drive_store0 {w : World} {b off len cap : Nat} {xs : List Drv} {fp : List Nat} (h : drvL.sl w (some ⟨b, off, none⟩) len cap xs fp) (nd : fp.Nodup) {i : Nat} {x : Drv} (hx : xs[i]? = some x) (v : Bool) :
    drvL.sl (w.setCell ⟨b, off + i * 2, none⟩ (.bool v)) (some ⟨b, off, none⟩) len cap (xs.set i { x with wiped := v }) fp := by
  have := drvL.sl_store h nd (i := i) (j := 0) (x := x) (x' := { x with wiped := v }) (v := .bool v) hx (by decide) (fun c f hr hb => drive_set0 hr (fun y hy => Below.heap_setCell _ _ _ _ (fun e => hb (by have e' : y = b := e; exact e' ▸ hy))) v)
  exact this
theorem rec_set0 {w w' : World} {c : List Value} {x : Rec} {f : List Nat} (h : recL.rep w c x f) (hk : ∀ b ∈ f, w'.heap[b]? = w.heap[b]?) (v : Int) (hv : i64ok v) : recL.rep w' (c.set 0 (.int .i64 v)) { x with kind := v } f := by
  obtain ⟨a6, l6, c6, f6, a7, l7, c7, f7, a8, l8, c8, f8, ex, hv0, o1, o2, o3, o4, o5, h6, h7, h8, hf⟩ := recL_iff.1 (recL.keep h hk)
  subst ex
  exact recL_iff.2 ⟨a6, l6, c6, f6, a7, l7, c7, f7, a8, l8, c8, f8, rfl, hv, o1, o2, o3, o4, o5, h6, h7, h8, hf⟩
theorem rec_store0 {w : World} {b off len cap : Nat} {xs : List Rec} {fp : List Nat} (h : recL.sl w (some ⟨b, off, none⟩) len cap xs fp) (nd : fp.Nodup) {i : Nat} {x : Rec} (hx : xs[i]? = some x) (v : Int) (hv : i64ok v) :
    recL.sl (w.setCell ⟨b, off + i * 9, none⟩ (.int .i64 v)) (some ⟨b, off, none⟩) len cap (xs.set i { x with kind := v }) fp := by
  have := recL.sl_store h nd (i := i) (j := 0) (x := x) (x' := { x with kind := v }) (v := .int .i64 v) hx (by decide) (fun c f hr hb => rec_set0 hr (fun y hy => Below.heap_setCell _ _ _ _ (fun e => hb (by have e' : y = b := e; exact e' ▸ hy))) v hv)
  exact this
theorem rec_set1 {w w' : World} {c : List Value} {x : Rec} {f : List Nat} (h : recL.rep w c x f) (hk : ∀ b ∈ f, w'.heap[b]? = w.heap[b]?) (v : Int) (hv : i64ok v) : recL.rep w' (c.set 1 (.int .i64 v)) { x with seq := v } f := by
  obtain ⟨a6, l6, c6, f6, a7, l7, c7, f7, a8, l8, c8, f8, ex, o0, hv0, o2, o3, o4, o5, h6, h7, h8, hf⟩ := recL_iff.1 (recL.keep h hk)
  subst ex
  exact recL_iff.2 ⟨a6, l6, c6, f6, a7, l7, c7, f7, a8, l8, c8, f8, rfl, o0, hv, o2, o3, o4, o5, h6, h7, h8, hf⟩
theorem rec_store1 {w : World} {b off len cap : Nat} {xs : List Rec} {fp : List Nat} (h : recL.sl w (some ⟨b, off, none⟩) len cap xs fp) (nd : fp.Nodup) {i : Nat} {x : Rec} (hx : xs[i]? = some x) (v : Int) (hv : i64ok v) :
    recL.sl (w.setCell ⟨b, off + i * 9 + 1, none⟩ (.int .i64 v)) (some ⟨b, off, none⟩) len cap (xs.set i { x with seq := v }) fp := by
  have := recL.sl_store h nd (i := i) (j := 1) (x := x) (x' := { x with seq := v }) (v := .int .i64 v) hx (by decide) (fun c f hr hb => rec_set1 hr (fun y hy => Below.heap_setCell _ _ _ _ (fun e => hb (by have e' : y = b := e; exact e' ▸ hy))) v hv)
  exact this
theorem rec_set2 {w w' : World} {c : List Value} {x : Rec} {f : List Nat} (h : recL.rep w c x f) (hk : ∀ b ∈ f, w'.heap[b]? = w.heap[b]?) (v : ByteArray) (hv : v.size ≤ maxLen) : recL.rep w' (c.set 2 (.string v)) { x with name := v } f := by
  obtain ⟨a6, l6, c6, f6, a7, l7, c7, f7, a8, l8, c8, f8, ex, o0, o1, hv0, o3, o4, o5, h6, h7, h8, hf⟩ := recL_iff.1 (recL.keep h hk)
  subst ex
  exact recL_iff.2 ⟨a6, l6, c6, f6, a7, l7, c7, f7, a8, l8, c8, f8, rfl, o0, o1, hv, o3, o4, o5, h6, h7, h8, hf⟩
theorem rec_store2 {w : World} {b off len cap : Nat} {xs : List Rec} {fp : List Nat} (h : recL.sl w (some ⟨b, off, none⟩) len cap xs fp) (nd : fp.Nodup) {i : Nat} {x : Rec} (hx : xs[i]? = some x) (v : ByteArray) (hv : v.size ≤ maxLen) :
    recL.sl (w.setCell ⟨b, off + i * 9 + 2, none⟩ (.string v)) (some ⟨b, off, none⟩) len cap (xs.set i { x with name := v }) fp := by
  have := recL.sl_store h nd (i := i) (j := 2) (x := x) (x' := { x with name := v }) (v := .string v) hx (by decide) (fun c f hr hb => rec_set2 hr (fun y hy => Below.heap_setCell _ _ _ _ (fun e => hb (by have e' : y = b := e; exact e' ▸ hy))) v hv)
  exact this
theorem rec_set3 {w w' : World} {c : List Value} {x : Rec} {f : List Nat} (h : recL.rep w c x f) (hk : ∀ b ∈ f, w'.heap[b]? = w.heap[b]?) (v : Int) (hv : i64ok v) : recL.rep w' (c.set 3 (.int .i64 v)) { x with length := v } f := by
  obtain ⟨a6, l6, c6, f6, a7, l7, c7, f7, a8, l8, c8, f8, ex, o0, o1, o2, hv0, o4, o5, h6, h7, h8, hf⟩ := recL_iff.1 (recL.keep h hk)
  subst ex
  exact recL_iff.2 ⟨a6, l6, c6, f6, a7, l7, c7, f7, a8, l8, c8, f8, rfl, o0, o1, o2, hv, o4, o5, h6, h7, h8, hf⟩
theorem rec_store3 {w : World} {b off len cap : Nat} {xs : List Rec} {fp : List Nat} (h : recL.sl w (some ⟨b, off, none⟩) len cap xs fp) (nd : fp.Nodup) {i : Nat} {x : Rec} (hx : xs[i]? = some x) (v : Int) (hv : i64ok v) :
    recL.sl (w.setCell ⟨b, off + i * 9 + 3, none⟩ (.int .i64 v)) (some ⟨b, off, none⟩) len cap (xs.set i { x with length := v }) fp := by
  have := recL.sl_store h nd (i := i) (j := 3) (x := x) (x' := { x with length := v }) (v := .int .i64 v) hx (by decide) (fun c f hr hb => rec_set3 hr (fun y hy => Below.heap_setCell _ _ _ _ (fun e => hb (by have e' : y = b := e; exact e' ▸ hy))) v hv)
  exact this
theorem rec_set4 {w w' : World} {c : List Value} {x : Rec} {f : List Nat} (h : recL.rep w c x f) (hk : ∀ b ∈ f, w'.heap[b]? = w.heap[b]?) (v : Int) (hv : i64ok v) : recL.rep w' (c.set 4 (.int .i64 v)) { x with group := v } f := by
  obtain ⟨a6, l6, c6, f6, a7, l7, c7, f7, a8, l8, c8, f8, ex, o0, o1, o2, o3, hv0, o5, h6, h7, h8, hf⟩ := recL_iff.1 (recL.keep h hk)
  subst ex
  exact recL_iff.2 ⟨a6, l6, c6, f6, a7, l7, c7, f7, a8, l8, c8, f8, rfl, o0, o1, o2, o3, hv, o5, h6, h7, h8, hf⟩
theorem rec_store4 {w : World} {b off len cap : Nat} {xs : List Rec} {fp : List Nat} (h : recL.sl w (some ⟨b, off, none⟩) len cap xs fp) (nd : fp.Nodup) {i : Nat} {x : Rec} (hx : xs[i]? = some x) (v : Int) (hv : i64ok v) :
    recL.sl (w.setCell ⟨b, off + i * 9 + 4, none⟩ (.int .i64 v)) (some ⟨b, off, none⟩) len cap (xs.set i { x with group := v }) fp := by
  have := recL.sl_store h nd (i := i) (j := 4) (x := x) (x' := { x with group := v }) (v := .int .i64 v) hx (by decide) (fun c f hr hb => rec_set4 hr (fun y hy => Below.heap_setCell _ _ _ _ (fun e => hb (by have e' : y = b := e; exact e' ▸ hy))) v hv)
  exact this
theorem rec_set5 {w w' : World} {c : List Value} {x : Rec} {f : List Nat} (h : recL.rep w c x f) (hk : ∀ b ∈ f, w'.heap[b]? = w.heap[b]?) (v : Int) (hv : i64ok v) : recL.rep w' (c.set 5 (.int .i64 v)) { x with row := v } f := by
  obtain ⟨a6, l6, c6, f6, a7, l7, c7, f7, a8, l8, c8, f8, ex, o0, o1, o2, o3, o4, hv0, h6, h7, h8, hf⟩ := recL_iff.1 (recL.keep h hk)
  subst ex
  exact recL_iff.2 ⟨a6, l6, c6, f6, a7, l7, c7, f7, a8, l8, c8, f8, rfl, o0, o1, o2, o3, o4, hv, h6, h7, h8, hf⟩
theorem rec_store5 {w : World} {b off len cap : Nat} {xs : List Rec} {fp : List Nat} (h : recL.sl w (some ⟨b, off, none⟩) len cap xs fp) (nd : fp.Nodup) {i : Nat} {x : Rec} (hx : xs[i]? = some x) (v : Int) (hv : i64ok v) :
    recL.sl (w.setCell ⟨b, off + i * 9 + 5, none⟩ (.int .i64 v)) (some ⟨b, off, none⟩) len cap (xs.set i { x with row := v }) fp := by
  have := recL.sl_store h nd (i := i) (j := 5) (x := x) (x' := { x with row := v }) (v := .int .i64 v) hx (by decide) (fun c f hr hb => rec_set5 hr (fun y hy => Below.heap_setCell _ _ _ _ (fun e => hb (by have e' : y = b := e; exact e' ▸ hy))) v hv)
  exact this
theorem tape_set0 {w w' : World} {c : List Value} {x : Tap} {f : List Nat} (h : tapL.rep w c x f) (hk : ∀ b ∈ f, w'.heap[b]? = w.heap[b]?) (v : Bool) : tapL.rep w' (c.set 0 (.bool v)) { x with wiped := v } f := by
  obtain ⟨a1, l1, c1, f1, ex, h1, hf⟩ := tapL_iff.1 (tapL.keep h hk)
  subst ex
  exact tapL_iff.2 ⟨a1, l1, c1, f1, rfl, h1, hf⟩
theorem tape_store0 {w : World} {b off len cap : Nat} {xs : List Tap} {fp : List Nat} (h : tapL.sl w (some ⟨b, off, none⟩) len cap xs fp) (nd : fp.Nodup) {i : Nat} {x : Tap} (hx : xs[i]? = some x) (v : Bool) :
    tapL.sl (w.setCell ⟨b, off + i * 2, none⟩ (.bool v)) (some ⟨b, off, none⟩) len cap (xs.set i { x with wiped := v }) fp := by
  have := tapL.sl_store h nd (i := i) (j := 0) (x := x) (x' := { x with wiped := v }) (v := .bool v) hx (by decide) (fun c f hr hb => tape_set0 hr (fun y hy => Below.heap_setCell _ _ _ _ (fun e => hb (by have e' : y = b := e; exact e' ▸ hy))) v)
  exact this
end Go.Proofs.Ytnnhopcjlnnchaa
