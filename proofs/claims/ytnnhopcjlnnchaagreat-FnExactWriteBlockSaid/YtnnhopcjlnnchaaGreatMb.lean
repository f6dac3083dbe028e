/- Several texts in one. -/
import Derived.Test.YtnnhopcjlnnchaaGreatRows
import Derived.Test.YtnnhopcjlnnchaaGreatWld
import Derived.Test.YtnnhopcjlnnchaaGreatWhS
import Derived.Test.YtnnhopcjlnnchaaGreatHelp
import Derived.Test.YtnnhopcjlnnchaaGreatReg
import Derived.Test.YtnnhopcjlnnchaaGreatWra
import Derived.Test.YtnnhopcjlnnchaaGreatWhW
/- What is read at the types of this program lies as the layouts say. -/
namespace Go.Proofs.YtnnhopcjlnnchaaGreat
open Go.RowKit

theorem u8_of_wf {v : Int} (h : (Lit.int .u8 v).wf = true) : ∃ x : UInt8, v = x.toNat := by
  simp only [Lit.wf, Bool.and_eq_true, decide_eq_true_eq] at h
  have h1 : (0 : Int) ≤ v := h.1
  have h2 : v ≤ 255 := h.2
  refine ⟨UInt8.ofNat v.toNat, ?_⟩
  rw [UInt8.toNat_ofNat']
  omega
theorem i64_of_wf {v : Int} (h : (Lit.int .i64 v).wf = true) : i64ok v := by
  simp only [Lit.wf, Bool.and_eq_true, decide_eq_true_eq] at h
  exact ⟨h.1, h.2⟩

theorem op_byte : Opens Tryz.prog 5 byteL := opens_byte Tryz.underlying5 (by kernel_rfl)
theorem op_int : Opens Tryz.prog 2 intL := opens_int Tryz.underlying2 (by kernel_rfl)
theorem op_bool : Opens Tryz.prog 4 boolL := opens_bool Tryz.underlying4 (by kernel_rfl)
theorem op_str : Opens Tryz.prog 9 strL := opens_str Tryz.underlying9 (by kernel_rfl)
theorem op_bytes : Opens Tryz.prog 30 byteL.slice := opens_slice Tryz.underlying30 (by kernel_rfl) op_byte
theorem op_ints : Opens Tryz.prog 25 intL.slice := opens_slice Tryz.underlying25 (by kernel_rfl) op_int
theorem op_shp : Opens Tryz.prog 23 shpL :=
  opens_via (opens_struct Tryz.underlying23 (by kernel_rfl) (opensF_cons op_int (opensF_cons op_int (opensF_cons op_int (opensF_cons op_int (opensF_cons op_int (opensF_cons op_int (opensF_cons op_int (opensF_cons op_int (opensF_last op_int)))))))))) shpT shpU (fun _ => rfl)
theorem op_rec : Opens Tryz.prog 65 recL :=
  opens_via (opens_struct Tryz.underlying65 (by kernel_rfl) (opensF_cons op_int (opensF_cons op_int (opensF_cons op_str (opensF_cons op_int (opensF_cons op_int (opensF_cons op_int (opensF_cons op_ints (opensF_cons op_bytes (opensF_last op_bytes)))))))))) recT recU (fun _ => rfl)
theorem op_blk : Opens Tryz.prog 57 blkL := opens_via (opens_struct Tryz.underlying57 (by kernel_rfl) (opensF_cons op_int (opensF_last op_bytes))) blkT blkU (fun _ => rfl)
theorem op_blks : Opens Tryz.prog 145 blkL.slice := opens_slice Tryz.underlying145 (by kernel_rfl) op_blk
theorem op_drv : Opens Tryz.prog 147 drvL := opens_via (opens_struct Tryz.underlying147 (by kernel_rfl) (opensF_cons op_bool (opensF_last op_blks))) drvT drvU (fun _ => rfl)
theorem op_drvs : Opens Tryz.prog 120 drvL.slice := opens_slice Tryz.underlying120 (by kernel_rfl) op_drv
theorem op_drvss : Opens Tryz.prog 24 drvL.slice.slice := opens_slice Tryz.underlying24 (by kernel_rfl) op_drvs
theorem op_recs : Opens Tryz.prog 122 recL.slice := opens_slice Tryz.underlying122 (by kernel_rfl) op_rec
theorem op_tap : Opens Tryz.prog 124 tapL := opens_via (opens_struct Tryz.underlying124 (by kernel_rfl) (opensF_cons op_bool (opensF_last op_recs))) tapT tapU (fun _ => rfl)
theorem op_taps : Opens Tryz.prog 26 tapL.slice := opens_slice Tryz.underlying26 (by kernel_rfl) op_tap
theorem op_wld : Opens Tryz.prog 28 wldL := opens_via (opens_struct Tryz.underlying28 (by kernel_rfl) (opensF_cons op_shp (opensF_cons op_drvss (opensF_cons op_ints (opensF_cons op_taps (opensF_cons op_int (opensF_cons op_int (opensF_last op_bool)))))))) wldT wldU (fun _ => rfl)
end Go.Proofs.YtnnhopcjlnnchaaGreat

/- A field of an element of a slice of structures, set in place. No function of the program in sight. -/
namespace Go.Proofs.YtnnhopcjlnnchaaGreat
open Go.RowKit

theorem cell_same {w w' : World} {b o : Nat} (h : w'.heap[b]? = w.heap[b]?) : w'.cell? ⟨b, o, none⟩ = w.cell? ⟨b, o, none⟩ := by simp only [World.cell?, h]
theorem frozen_same {w w' : World} {b o : Nat} (h : w'.heap[b]? = w.heap[b]?) : w'.frozen? ⟨b, o, none⟩ = w.frozen? ⟨b, o, none⟩ := by simp only [World.frozen?, h]
theorem Loose.free {w : World} {b : Nat} (h : Loose w b) : ∀ j, w.frozen? ⟨b, j, none⟩ = false := by obtain ⟨cur, E, h⟩ := h; exact freeOf h
/-- an element of a slice that may change in its own blocks; the slice's block is none of them -/
theorem Lay.sl_modb {α : Type} (L : Lay α) {w : World} {b off len cap : Nat} {xs : List α} {fp : List Nat} (h : L.sl w (some ⟨b, off, none⟩) len cap xs fp) (nd : fp.Nodup) {i : Nat} (hi : i < len) :
    ∃ x c f, xs[i]? = some x ∧ b ∈ fp ∧ (∀ j, j < L.n → w.cell? ⟨b, off + i * L.n + j, none⟩ = c[j]?) ∧ L.rep w c x f ∧ (∀ y ∈ f, y ∈ fp) ∧ f.Nodup ∧ b ∉ f ∧
      ∀ w' x', L.rep w' c x' f → (∀ y ∈ fp, y ∉ f → w'.heap[y]? = w.heap[y]?) → L.sl w' (some ⟨b, off, none⟩) len cap (xs.set i x') fp := by
  obtain ⟨h1, h2, h3, h4, ⟨rfl, rfl⟩ | ⟨b', off', cur, E, fr, fps, ha, hb, hall, rfl⟩⟩ := h
  · simp at h1; omega
  · simp only [Option.some.injEq, Addr.mk.injEq, and_true] at ha
    obtain ⟨rfl, rfl⟩ := ha
    have hx : xs[i]? = some (xs[i]'(by omega)) := List.getElem?_eq_getElem _
    obtain ⟨c, f, f1, f2, rfl, hc, hr, hm⟩ := L.all_mod hall hx
    have nd1 := List.nodup_cons.1 nd
    have nd2 := List.nodup_append.1 nd1.2
    have nd3 := List.nodup_append.1 nd2.1
    refine ⟨_, c, f, hx, by simp, fun j hj => ?_, hr, fun y hy => by simp [hy], nd3.2.1, fun hbf => nd1.1 (by simp [hbf]), fun w' x' hr' hk => ⟨by simpa using h1, h2, h3, h4, .inr ⟨b, off, cur, E, fr, _, rfl, ?_, hm w' x' hr' ?_, rfl⟩⟩⟩
    · rw [cell_of_row w b _ cur E fr hb, ← hc j hj, List.getElem?_take_of_lt, List.getElem?_drop]
      · simp [Nat.add_assoc]
      · calc i * L.n + j < i * L.n + L.n := by omega
          _ = (i + 1) * L.n := by rw [Nat.add_mul, Nat.one_mul]
          _ ≤ len * L.n := Nat.mul_le_mul_right _ (by omega)
    · rw [hk b (by simp) (fun hbf => nd1.1 (by simp [hbf]))]; exact hb
    · intro y hy
      refine hk y (by rcases hy with hy | hy <;> simp [hy]) (fun hyf => ?_)
      rcases hy with hy | hy
      · exact nd3.2.2 y hy y hyf rfl
      · exact nd2.2.2 y (by simp [hyf]) y hy rfl

theorem block_set0 {w w' : World} {c : List Value} {x : Blk} {f : List Nat} (h : blkL.rep w c x f) (hk : ∀ b ∈ f, w'.heap[b]? = w.heap[b]?) (v : Int) (hv : i64ok v) : blkL.rep w' (c.set 0 (.int .i64 v)) { x with stamp := v } f := by
  obtain ⟨a1, l1, c1, f1, ex, hv0, h1, hf⟩ := blkL_iff.1 (blkL.keep h hk)
  subst ex
  exact blkL_iff.2 ⟨a1, l1, c1, f1, rfl, hv, h1, hf⟩
theorem block_store0 {w : World} {b off len cap : Nat} {xs : List Blk} {fp : List Nat} (h : blkL.sl w (some ⟨b, off, none⟩) len cap xs fp) (nd : fp.Nodup) {i : Nat} {x : Blk} (hx : xs[i]? = some x) (v : Int) (hv : i64ok v) :
    blkL.sl (w.setCell ⟨b, off + i * 2, none⟩ (.int .i64 v)) (some ⟨b, off, none⟩) len cap (xs.set i { x with stamp := v }) fp := by
  have := blkL.sl_store h nd (i := i) (j := 0) (x := x) (x' := { x with stamp := v }) (v := .int .i64 v) hx (by decide) (fun c f hr hb => block_set0 hr (fun y hy => Below.heap_setCell _ _ _ _ (fun e => hb (by have e' : y = b := e; exact e' ▸ hy))) v hv)
  exact this
theorem drive_set0 {w w' : World} {c : List Value} {x : Drv} {f : List Nat} (h : drvL.rep w c x f) (hk : ∀ b ∈ f, w'.heap[b]? = w.heap[b]?) (v : Bool) : drvL.rep w' (c.set 0 (.bool v)) { x with wiped := v } f := by
  obtain ⟨a1, l1, c1, f1, ex, h1, hf⟩ := drvL_iff.1 (drvL.keep h hk)
  subst ex
  exact drvL_iff.2 ⟨a1, l1, c1, f1, rfl, h1, hf⟩
theorem drive_store0 {w : World} {b off len cap : Nat} {xs : List Drv} {fp : List Nat} (h : drvL.sl w (some ⟨b, off, none⟩) len cap xs fp) (nd : fp.Nodup) {i : Nat} {x : Drv} (hx : xs[i]? = some x) (v : Bool) :
    drvL.sl (w.setCell ⟨b, off + i * 2, none⟩ (.bool v)) (some ⟨b, off, none⟩) len cap (xs.set i { x with wiped := v }) fp := by
  have := drvL.sl_store h nd (i := i) (j := 0) (x := x) (x' := { x with wiped := v }) (v := .bool v) hx (by decide) (fun c f hr hb => drive_set0 hr (fun y hy => Below.heap_setCell _ _ _ _ (fun e => hb (by have e' : y = b := e; exact e' ▸ hy))) v)
  exact this
theorem rec_set0 {w w' : World} {c : List Value} {x : Rec} {f : List Nat} (h : recL.rep w c x f) (hk : ∀ b ∈ f, w'.heap[b]? = w.heap[b]?) (v : Int) (hv : i64ok v) : recL.rep w' (c.set 0 (.int .i64 v)) { x with kind := v } f := by
  obtain ⟨a6, l6, c6, f6, a7, l7, c7, f7, a8, l8, c8, f8, ex, hv0, o1, o2, o3, o4, o5, h6, h7, h8, hf⟩ := recL_iff.1 (recL.keep h hk)
  subst ex
  exact recL_iff.2 ⟨a6, l6, c6, f6, a7, l7, c7, f7, a8, l8, c8, f8, rfl, hv, o1, o2, o3, o4, o5, h6, h7, h8, hf⟩
theorem rec_store0 {w : World} {b off len cap : Nat} {xs : List Rec} {fp : List Nat} (h : recL.sl w (some ⟨b, off, none⟩) len cap xs fp) (nd : fp.Nodup) {i : Nat} {x : Rec} (hx : xs[i]? = some x) (v : Int) (hv : i64ok v) :
    recL.sl (w.setCell ⟨b, off + i * 9, none⟩ (.int .i64 v)) (some ⟨b, off, none⟩) len cap (xs.set i { x with kind := v }) fp := by
  have := recL.sl_store h nd (i := i) (j := 0) (x := x) (x' := { x with kind := v }) (v := .int .i64 v) hx (by decide) (fun c f hr hb => rec_set0 hr (fun y hy => Below.heap_setCell _ _ _ _ (fun e => hb (by have e' : y = b := e; exact e' ▸ hy))) v hv)
  exact this
theorem rec_set1 {w w' : World} {c : List Value} {x : Rec} {f : List Nat} (h : recL.rep w c x f) (hk : ∀ b ∈ f, w'.heap[b]? = w.heap[b]?) (v : Int) (hv : i64ok v) : recL.rep w' (c.set 1 (.int .i64 v)) { x with seq := v } f := by
  obtain ⟨a6, l6, c6, f6, a7, l7, c7, f7, a8, l8, c8, f8, ex, o0, hv0, o2, o3, o4, o5, h6, h7, h8, hf⟩ := recL_iff.1 (recL.keep h hk)
  subst ex
  exact recL_iff.2 ⟨a6, l6, c6, f6, a7, l7, c7, f7, a8, l8, c8, f8, rfl, o0, hv, o2, o3, o4, o5, h6, h7, h8, hf⟩
theorem rec_store1 {w : World} {b off len cap : Nat} {xs : List Rec} {fp : List Nat} (h : recL.sl w (some ⟨b, off, none⟩) len cap xs fp) (nd : fp.Nodup) {i : Nat} {x : Rec} (hx : xs[i]? = some x) (v : Int) (hv : i64ok v) :
    recL.sl (w.setCell ⟨b, off + i * 9 + 1, none⟩ (.int .i64 v)) (some ⟨b, off, none⟩) len cap (xs.set i { x with seq := v }) fp := by
  have := recL.sl_store h nd (i := i) (j := 1) (x := x) (x' := { x with seq := v }) (v := .int .i64 v) hx (by decide) (fun c f hr hb => rec_set1 hr (fun y hy => Below.heap_setCell _ _ _ _ (fun e => hb (by have e' : y = b := e; exact e' ▸ hy))) v hv)
  exact this
theorem rec_set2 {w w' : World} {c : List Value} {x : Rec} {f : List Nat} (h : recL.rep w c x f) (hk : ∀ b ∈ f, w'.heap[b]? = w.heap[b]?) (v : ByteArray) (hv : v.size ≤ maxLen) : recL.rep w' (c.set 2 (.string v)) { x with name := v } f := by
  obtain ⟨a6, l6, c6, f6, a7, l7, c7, f7, a8, l8, c8, f8, ex, o0, o1, hv0, o3, o4, o5, h6, h7, h8, hf⟩ := recL_iff.1 (recL.keep h hk)
  subst ex
  exact recL_iff.2 ⟨a6, l6, c6, f6, a7, l7, c7, f7, a8, l8, c8, f8, rfl, o0, o1, hv, o3, o4, o5, h6, h7, h8, hf⟩
theorem rec_store2 {w : World} {b off len cap : Nat} {xs : List Rec} {fp : List Nat} (h : recL.sl w (some ⟨b, off, none⟩) len cap xs fp) (nd : fp.Nodup) {i : Nat} {x : Rec} (hx : xs[i]? = some x) (v : ByteArray) (hv : v.size ≤ maxLen) :
    recL.sl (w.setCell ⟨b, off + i * 9 + 2, none⟩ (.string v)) (some ⟨b, off, none⟩) len cap (xs.set i { x with name := v }) fp := by
  have := recL.sl_store h nd (i := i) (j := 2) (x := x) (x' := { x with name := v }) (v := .string v) hx (by decide) (fun c f hr hb => rec_set2 hr (fun y hy => Below.heap_setCell _ _ _ _ (fun e => hb (by have e' : y = b := e; exact e' ▸ hy))) v hv)
  exact this
theorem rec_set3 {w w' : World} {c : List Value} {x : Rec} {f : List Nat} (h : recL.rep w c x f) (hk : ∀ b ∈ f, w'.heap[b]? = w.heap[b]?) (v : Int) (hv : i64ok v) : recL.rep w' (c.set 3 (.int .i64 v)) { x with length := v } f := by
  obtain ⟨a6, l6, c6, f6, a7, l7, c7, f7, a8, l8, c8, f8, ex, o0, o1, o2, hv0, o4, o5, h6, h7, h8, hf⟩ := recL_iff.1 (recL.keep h hk)
  subst ex
  exact recL_iff.2 ⟨a6, l6, c6, f6, a7, l7, c7, f7, a8, l8, c8, f8, rfl, o0, o1, o2, hv, o4, o5, h6, h7, h8, hf⟩
theorem rec_store3 {w : World} {b off len cap : Nat} {xs : List Rec} {fp : List Nat} (h : recL.sl w (some ⟨b, off, none⟩) len cap xs fp) (nd : fp.Nodup) {i : Nat} {x : Rec} (hx : xs[i]? = some x) (v : Int) (hv : i64ok v) :
    recL.sl (w.setCell ⟨b, off + i * 9 + 3, none⟩ (.int .i64 v)) (some ⟨b, off, none⟩) len cap (xs.set i { x with length := v }) fp := by
  have := recL.sl_store h nd (i := i) (j := 3) (x := x) (x' := { x with length := v }) (v := .int .i64 v) hx (by decide) (fun c f hr hb => rec_set3 hr (fun y hy => Below.heap_setCell _ _ _ _ (fun e => hb (by have e' : y = b := e; exact e' ▸ hy))) v hv)
  exact this
theorem rec_set4 {w w' : World} {c : List Value} {x : Rec} {f : List Nat} (h : recL.rep w c x f) (hk : ∀ b ∈ f, w'.heap[b]? = w.heap[b]?) (v : Int) (hv : i64ok v) : recL.rep w' (c.set 4 (.int .i64 v)) { x with group := v } f := by
  obtain ⟨a6, l6, c6, f6, a7, l7, c7, f7, a8, l8, c8, f8, ex, o0, o1, o2, o3, hv0, o5, h6, h7, h8, hf⟩ := recL_iff.1 (recL.keep h hk)
  subst ex
  exact recL_iff.2 ⟨a6, l6, c6, f6, a7, l7, c7, f7, a8, l8, c8, f8, rfl, o0, o1, o2, o3, hv, o5, h6, h7, h8, hf⟩
theorem rec_store4 {w : World} {b off len cap : Nat} {xs : List Rec} {fp : List Nat} (h : recL.sl w (some ⟨b, off, none⟩) len cap xs fp) (nd : fp.Nodup) {i : Nat} {x : Rec} (hx : xs[i]? = some x) (v : Int) (hv : i64ok v) :
    recL.sl (w.setCell ⟨b, off + i * 9 + 4, none⟩ (.int .i64 v)) (some ⟨b, off, none⟩) len cap (xs.set i { x with group := v }) fp := by
  have := recL.sl_store h nd (i := i) (j := 4) (x := x) (x' := { x with group := v }) (v := .int .i64 v) hx (by decide) (fun c f hr hb => rec_set4 hr (fun y hy => Below.heap_setCell _ _ _ _ (fun e => hb (by have e' : y = b := e; exact e' ▸ hy))) v hv)
  exact this
theorem rec_set5 {w w' : World} {c : List Value} {x : Rec} {f : List Nat} (h : recL.rep w c x f) (hk : ∀ b ∈ f, w'.heap[b]? = w.heap[b]?) (v : Int) (hv : i64ok v) : recL.rep w' (c.set 5 (.int .i64 v)) { x with row := v } f := by
  obtain ⟨a6, l6, c6, f6, a7, l7, c7, f7, a8, l8, c8, f8, ex, o0, o1, o2, o3, o4, hv0, h6, h7, h8, hf⟩ := recL_iff.1 (recL.keep h hk)
  subst ex
  exact recL_iff.2 ⟨a6, l6, c6, f6, a7, l7, c7, f7, a8, l8, c8, f8, rfl, o0, o1, o2, o3, o4, hv, h6, h7, h8, hf⟩
theorem rec_store5 {w : World} {b off len cap : Nat} {xs : List Rec} {fp : List Nat} (h : recL.sl w (some ⟨b, off, none⟩) len cap xs fp) (nd : fp.Nodup) {i : Nat} {x : Rec} (hx : xs[i]? = some x) (v : Int) (hv : i64ok v) :
    recL.sl (w.setCell ⟨b, off + i * 9 + 5, none⟩ (.int .i64 v)) (some ⟨b, off, none⟩) len cap (xs.set i { x with row := v }) fp := by
  have := recL.sl_store h nd (i := i) (j := 5) (x := x) (x' := { x with row := v }) (v := .int .i64 v) hx (by decide) (fun c f hr hb => rec_set5 hr (fun y hy => Below.heap_setCell _ _ _ _ (fun e => hb (by have e' : y = b := e; exact e' ▸ hy))) v hv)
  exact this
theorem tape_set0 {w w' : World} {c : List Value} {x : Tap} {f : List Nat} (h : tapL.rep w c x f) (hk : ∀ b ∈ f, w'.heap[b]? = w.heap[b]?) (v : Bool) : tapL.rep w' (c.set 0 (.bool v)) { x with wiped := v } f := by
  obtain ⟨a1, l1, c1, f1, ex, h1, hf⟩ := tapL_iff.1 (tapL.keep h hk)
  subst ex
  exact tapL_iff.2 ⟨a1, l1, c1, f1, rfl, h1, hf⟩
theorem tape_store0 {w : World} {b off len cap : Nat} {xs : List Tap} {fp : List Nat} (h : tapL.sl w (some ⟨b, off, none⟩) len cap xs fp) (nd : fp.Nodup) {i : Nat} {x : Tap} (hx : xs[i]? = some x) (v : Bool) :
    tapL.sl (w.setCell ⟨b, off + i * 2, none⟩ (.bool v)) (some ⟨b, off, none⟩) len cap (xs.set i { x with wiped := v }) fp := by
  have := tapL.sl_store h nd (i := i) (j := 0) (x := x) (x' := { x with wiped := v }) (v := .bool v) hx (by decide) (fun c f hr hb => tape_set0 hr (fun y hy => Below.heap_setCell _ _ _ _ (fun e => hb (by have e' : y = b := e; exact e' ▸ hy))) v)
  exact this
end Go.Proofs.YtnnhopcjlnnchaaGreat

/- The marks that a law lays into a world, and what it finds of them again. -/
namespace Go.Proofs.YtnnhopcjlnnchaaGreat
open Go.RowKit

theorem mdigits_zero : ∀ (n : Nat) (out : ByteArray), mdigits n 0 out = out
  | 0, _ => rfl
  | n + 1, out => by unfold mdigits; rw [if_pos rfl]
theorem mdigits_step {n k : Nat} {out : ByteArray} (h : 0 < k) : mdigits (n + 1) k out = mdigits n (k / 10) (ByteArray.mk #[(UInt8.ofNat (48 + k % 10))] ++ out) := by
  conv => lhs; unfold mdigits
  rw [if_neg (by omega)]
theorem mdigits_size : ∀ (n k : Nat) (out : ByteArray), (mdigits n k out).size ≤ out.size + n
  | 0, _, out => Nat.le_refl _
  | n + 1, k, out => by
    unfold mdigits
    split
    · omega
    · have := mdigits_size n (k / 10) (ByteArray.mk #[(UInt8.ofNat (48 + k % 10))] ++ out)
      rw [ByteArray.size_append] at this
      have e : (ByteArray.mk #[UInt8.ofNat (48 + k % 10)]).size = 1 := rfl
      omega
theorem mtext_max (k : Int) : (mtext k).size ≤ maxLen := by
  unfold mtext
  split
  · show 2 ≤ _; simp [maxLen]
  · rw [ByteArray.size_append]
    have h1 := mdigits_size 20 k.toNat (ByteArray.mk #[])
    have h2 : (ByteArray.mk #[] : ByteArray).size = 0 := rfl
    have h3 : (ByteArray.mk #[109] : ByteArray).size = 1 := rfl
    simp only [maxLen]; omega

set_option maxRecDepth 100000 in
set_option maxHeartbeats 1000000 in
theorem markText_any (k : Int) (hk : 0 ≤ k) (hk2 : k ≤ 9223372036854775807) (w : World) :
    Calls Tryz.prog 161 #[.int .i64 k] w fun e w' => e = .returned (.string (mtext k)) ∧ Chg [] w w' := by
  by_cases h0 : k ≤ 0
  · have HM := Lib.hid (show mtext k = ⟨#[109, 48]⟩ from if_pos h0)
    go_enter Tryz.func161, Tryz.ntmps161
    go_wp2_with fail
    go_ret
    exact ⟨by rw [HM.out]; rfl, Chg.refl _ _⟩
  · obtain ⟨m, rfl⟩ := Int.eq_ofNat_of_zero_le hk
    have HM := Lib.hid (show mtext (m : Int) = ⟨#[109]⟩ ++ mdigits 20 m ⟨#[]⟩ from if_neg h0)
    have hm0 : 0 < m := by omega
    have H20 := Lib.hid (show m < 10 ^ 20 by have h10 : (10 : Nat) ^ 20 = 100000000000000000000 := by decide
                                             omega)
    go_enter Tryz.func161, Tryz.ntmps161
    go_wp2_with fail
    go_loopw [0, 3] (fun v0 v3 wr => ∃ (n kk : Nat) (out : ByteArray) (Wr : World), Wr = wr ∧ v0 = .int .i64 kk ∧ v3 = .string out ∧ kk ≤ m ∧ RowKit.Hid (mdigits n kk out = mdigits 20 m ⟨#[]⟩ ∧ kk < 10 ^ n) ∧ out.size + n ≤ 20 ∧ Chg [] w wr) (fun v0 _ _ => (intOf v0).toNat)
    case atStart => exact ⟨20, m, ⟨#[]⟩, _, rfl, rfl, rfl, by omega, ⟨rfl, H20.out⟩, by show 0 + 20 ≤ 20; omega, Chg.refl _ _⟩
    case round =>
      obtain ⟨n, kk, out, wr, rfl, rfl, rfl, hkm, HN, hs, hc⟩ := hrel
      have HC := Lib.hid hc
      clear hc
      by_cases hz : kk = 0
      · subst hz
        have HO := Lib.hid (show out = mdigits 20 m ⟨#[]⟩ by rw [← HN.out.1, mdigits_zero])
        go_wp2_with fail
        go_ret
        exact ⟨by rw [HM.out, ← HO.out]; rfl, HC.out⟩
      · obtain ⟨n', rfl⟩ : ∃ n', n = n' + 1 := ⟨n - 1, by
          cases n with
          | zero => have := HN.out.2; simp at this; omega
          | succ n => rfl⟩
        have hr : ((kk : Int)).tmod 10 = ((kk % 10 : Nat) : Int) := by rw [Int.tmod_eq_emod_of_nonneg (by omega)]; omega
        have hq : ((kk : Int)).tdiv 10 = ((kk / 10 : Nat) : Int) := by rw [Int.tdiv_eq_ediv_of_nonneg (by omega)]; omega
        have hd : kk % 10 < 10 := Nat.mod_lt _ (by omega)
        have HST := Lib.hid (mdigits_step (n := n') (out := out) (show 0 < kk by omega))
        have HQ10 := Lib.hid (show kk / 10 < 10 ^ n' by
          have := HN.out.2
          rw [Nat.pow_succ] at this
          exact Nat.div_lt_of_lt_mul (by omega))
        have hkl : kk / 10 < kk := Nat.div_lt_self (by omega) (by omega)
        generalize kk / 10 = q at hq HST HQ10 hkl
        generalize kk % 10 = d at hr hd HST
        have hw8 : IntKind.u8.wrap (48 + (d : Int)) = 48 + (d : Int) := IntWalk.u8_in _ (by omega)
        obtain ⟨y, hy⟩ : ∃ y : UInt8, y = UInt8.ofNat (48 + d) := ⟨_, rfl⟩
        have hyn : 48 + (d : Int) = (y.toNat : Int) := by rw [hy, UInt8.toNat_ofNat']; omega
        rw [← hy] at HST
        have hcv : ∀ w : World, (convert 30 9 (.slice (some ⟨w.heap.size, 0, none⟩) 1 1)).run Tryz.prog (w.alloc (.cells #[.int .u8 (48 + (d : Int))] 5)) = .ok (.string ⟨#[y]⟩) (w.alloc (.cells #[.int .u8 (48 + (d : Int))] 5)) := fun w =>
          run_convert_bytes_back _ _ _ _ ⟨w.heap.size, 0, none⟩ 1 [y] Tryz.underlying30 Tryz.underlying5 Tryz.underlying9 (fun j hj => by
            have : j = 0 := by simpa using hj
            subst this
            rw [hyn]
            exact new_cell _ _ _ 0 _ rfl)
        have hsz : (⟨#[y]⟩ : ByteArray).size = 1 := rfl
        have hss : ((⟨#[y]⟩ : ByteArray) ++ out).size = 1 + out.size := by rw [ByteArray.size_append, hsz]
        have HSS := Lib.hid hss
        clear hy hyn hss
        go_wp2_with fail
        go_roundw
        case rel => exact ⟨n', q, ⟨#[y]⟩ ++ out, _, rfl, by go_num, rfl, by omega, ⟨by rw [← HST.out]; exact HN.out.1, HQ10.out⟩, by rw [HSS.out]; omega, HC.out.alloc _⟩
        case measure => simp [intOf]; omega


set_option maxRecDepth 100000 in
set_option maxHeartbeats 2000000 in
theorem markBlockS_any (a : Option Addr) (la ca : Nat) (xs : List Blk) (f : List Nat) (k : Int) (w : World) (ha : blkL.sl w a la ca xs f) (hf : Fresh 0 w f) (hk : 0 ≤ k) (hk2 : k + sumI cntBlk xs ≤ 4611686018427387904) :
    Calls Tryz.prog 160 #[.slice a la ca, .int .i64 k] w fun e w' => e = .returned (.int .i64 (k + sumI cntBlk xs)) ∧ blkL.sl w' a la ca (markL cntBlk mkBlk xs k) f ∧ Chg f w w' := by
  have hm := blkL.sl_max ha
  have hl := Lib.hid ha.1
  have HF := Lib.hid hf
  have HK := Lib.hid hk2
  go_enter Tryz.func160, Tryz.ntmps160
  go_wp2
  go_loopw [1, 5] (fun u v wr => ∃ (i : Nat) (z : Int), i ≤ la ∧ u = .int .i64 z ∧ RowKit.Hid (z = k + sumI cntBlk (xs.take i)) ∧ v = .int .i64 i ∧ blkL.sl wr a la ca (markL cntBlk mkBlk (xs.take i) k ++ xs.drop i) f ∧ Chg f w wr) (fun _ v _ => la - (intOf v).toNat)
  case atStart => exact ⟨0, k, by omega, rfl, by show k = k + 0; omega, rfl, by simpa [markL] using ha, Chg.refl _ _⟩
  case round =>
    clear ha hf hk2
    obtain ⟨i, z, hi, rfl, HZ, rfl, hs, hc⟩ := hrel
    by_cases hlt : i < la
    · obtain ⟨x0, b, off, _, _, _, _, HX, rfl, hc0, hc1, HXS⟩ := block_at hs hlt
      have hxi := markL_old HX.out.1
      have HXI := Lib.hid hxi
      have hz0 : 0 ≤ z := by rw [HZ.out]; have := sumI_nonneg cntBlk_nonneg (xs.take i); omega
      have hz1 : z + cntBlk x0 ≤ 4611686018427387904 := by
        have h1 := sumI_at cntBlk_nonneg hxi
        rw [HZ.out]; have := HK.out; omega
      have hcx : cntBlk x0 = 1 + totBs x0.bytes := rfl
      have hin : 0 ≤ totBs x0.bytes := totBs_nonneg _
      have HZO := Lib.hid (show i64ok z from ⟨by omega, by omega⟩)
      have hst := block_store0 hs HF.out.1 HX.out.1 z HZO.out
      have hcs : Chg f wr (wr.setCell ⟨b, off + i * 2, none⟩ (.int .i64 z)) := (Chg.refl f wr).setCell _ _ (.inl HX.out.2.1)
      have hfb : ∀ j, wr.frozen? ⟨b, j, none⟩ = false := by obtain ⟨cur, E, h⟩ := hc.loose b (HF.out.2 b HX.out.2.1).2; exact freeOf h
      have hlb : b < wr.heap.size := Lay.sl_lt _ hs _ HX.out.2.1
      obtain ⟨x2, b2, o2, cs, fx, hx2, e2, hb2, hcx2, hrep, hfx, hndx, hmod⟩ := blkL.sl_mod hst HF.out.1 hlt
      obtain ⟨rfl, rfl⟩ : b = b2 ∧ off = o2 := by simpa using e2
      have hlen : i < (markL cntBlk mkBlk (xs.take i) k ++ xs.drop i).length := (List.getElem?_eq_some_iff.1 HX.out.1).1
      rw [List.getElem?_set_self hlen] at hx2
      obtain rfl := Option.some.inj hx2
      obtain ⟨a1, l1, c1, f1, ex, -, h1, e1⟩ := blkL_iff.1 hrep
      replace h1 : byteL.sl _ a1 l1 c1 x0.bytes f1 := h1
      subst ex
      subst e1
      have hc1' : wr.cell? ⟨b, off + i * 2 + 1, none⟩ = some (.slice a1 l1 c1) := by
        have h5 := hcx2 1 (by decide)
        rw [show off + i * blkL.n + 1 = off + i * 2 + 1 from rfl, World.cell?_setCell_other _ _ _ _ (by intro h; have := congrArg Addr.off h; simp at this)] at h5
        exact h5
      have HI := Lib.hid (markB_any a1 l1 c1 x0.bytes fx (z + 1) _ h1 ⟨hndx, fun y hy => ⟨Nat.zero_le _, hcs.loose y (hc.loose y (HF.out.2 y (hfx y hy)).2)⟩⟩ (by omega) (by have := h1.1; unfold totBs at hcx; omega))
      have HL1 := Lib.hid h1.1
      have HMOD := Lib.hid (fun w' (h : byteL.sl w' a1 l1 c1 (markBL (z + 1) x0.bytes.length) fx) (hk : ∀ y ∈ f, y ∉ fx → w'.heap[y]? = (wr.setCell ⟨b, off + i * 2, none⟩ (.int .i64 z)).heap[y]?) => hmod w' (⟨z, markBL (z + 1) x0.bytes.length⟩ : Blk) (blkL_iff.2 ⟨a1, l1, c1, fx, rfl, HZO.out, h, rfl⟩) hk)
      have HSUB := Lib.hid hfx
      have HCS := Lib.hid (hc.trans hcs (fun x hx => .inl hx))
      have HLT := Lib.hid (fun y hy => Lay.sl_lt _ hst y hy : ∀ y ∈ f, y < _)
      have HZ2 := Lib.hid (show z + 1 + totBs x0.bytes = k + sumI cntBlk (xs.take (i + 1)) by rw [sumI_take hxi, HZ.out, hcx]; omega)
      have HMN := Lib.hid (markL_next (cnt := cntBlk) (mk := mkBlk) k hxi)
      have hz2 : z + 1 ≤ 4611686018427387904 := by omega
      clear hc1 hs hst hcs hmod hfx hndx hcx2 hrep h1 hx2 e2 hb2 hlen hxi hc hcx HXS HX HXI hz1 hin
      go_wp2_with fail
      refine HI.out.mono ?_
      rintro e w1 ⟨rfl, hs1, hc1⟩
      have hs2 := HMOD.out w1 (by rw [HL1.out] at hs1 ⊢; exact hs1) (fun y hy hny => hc1.block y (HLT.out y hy) hny)
      rw [List.set_set, show (⟨z, markBL (z + 1) x0.bytes.length⟩ : Blk) = mkBlk (k + sumI cntBlk (xs.take i)) x0 by rw [← HZ.out]; rfl, HMN.out] at hs2
      have HN := Lib.hid (And.intro hs2 (HCS.out.trans hc1 (fun y hy => .inl (HSUB.out y hy))))
      clear hs1 hs2 hc1
      go_wp2_with fail
      go_roundw
      case rel => exact ⟨i + 1, _, by omega, rfl, by show z + 1 + (l1 : Int) = _; rw [← HZ2.out, HL1.out]; rfl, by go_num, HN.out.1, HN.out.2⟩
      case measure => simp [intOf]; omega
    · have hil : i = la := by omega
      subst hil
      rw [List.take_of_length_le (by have := hl.out; omega), List.drop_of_length_le (by have := hl.out; omega), List.append_nil] at hs
      rw [List.take_of_length_le (by have := hl.out; omega)] at HZ
      have HN := Lib.hid (And.intro hs hc)
      clear hs hc
      go_wp2
      go_ret
      exact ⟨ret_int HZ.out, HN.out⟩


set_option maxRecDepth 100000 in
set_option maxHeartbeats 2000000 in
theorem markDriveS_any (a : Option Addr) (la ca : Nat) (xs : List Drv) (f : List Nat) (k : Int) (w : World) (ha : drvL.sl w a la ca xs f) (hf : Fresh 0 w f) (hk : 0 ≤ k) (hk2 : k + sumI cntDrv xs ≤ 4611686018427387904) :
    Calls Tryz.prog 115 #[.slice a la ca, .int .i64 k] w fun e w' => e = .returned (.int .i64 (k + sumI cntDrv xs)) ∧ drvL.sl w' a la ca (markL cntDrv mkDrv xs k) f ∧ Chg f w w' := by
  have hm := drvL.sl_max ha
  have hl := Lib.hid ha.1
  have HF := Lib.hid hf
  have HK := Lib.hid hk2
  go_enter Tryz.func115, Tryz.ntmps115
  go_wp2
  go_loopw [1, 5] (fun u v wr => ∃ (i : Nat) (z : Int), i ≤ la ∧ u = .int .i64 z ∧ RowKit.Hid (z = k + sumI cntDrv (xs.take i)) ∧ v = .int .i64 i ∧ drvL.sl wr a la ca (markL cntDrv mkDrv (xs.take i) k ++ xs.drop i) f ∧ Chg f w wr) (fun _ v _ => la - (intOf v).toNat)
  case atStart => exact ⟨0, k, by omega, rfl, by show k = k + 0; omega, rfl, by simpa [markL] using ha, Chg.refl _ _⟩
  case round =>
    clear ha hf hk2
    obtain ⟨i, z, hi, rfl, HZ, rfl, hs, hc⟩ := hrel
    by_cases hlt : i < la
    · obtain ⟨x0, b, off, _, _, _, _, HX, rfl, hc0, hc1, HXS⟩ := drive_at hs hlt
      have hxi := markL_old HX.out.1
      have HXI := Lib.hid hxi
      have hz0 : 0 ≤ z := by rw [HZ.out]; have := sumI_nonneg cntDrv_nonneg (xs.take i); omega
      have hz1 : z + cntDrv x0 ≤ 4611686018427387904 := by
        have h1 := sumI_at cntDrv_nonneg hxi
        rw [HZ.out]; have := HK.out; omega
      have hcx : cntDrv x0 = 1 + sumI cntBlk x0.blocks := rfl
      have hin : 0 ≤ sumI cntBlk x0.blocks := sumI_nonneg cntBlk_nonneg _
      have HZO := Lib.hid (show i64ok z from ⟨by omega, by omega⟩)
      have hst := drive_store0 hs HF.out.1 HX.out.1 (z % 3 == 0)
      have hcs : Chg f wr (wr.setCell ⟨b, off + i * 2, none⟩ (.bool (z % 3 == 0))) := (Chg.refl f wr).setCell _ _ (.inl HX.out.2.1)
      have hfb : ∀ j, wr.frozen? ⟨b, j, none⟩ = false := by obtain ⟨cur, E, h⟩ := hc.loose b (HF.out.2 b HX.out.2.1).2; exact freeOf h
      have hlb : b < wr.heap.size := Lay.sl_lt _ hs _ HX.out.2.1
      obtain ⟨x2, b2, o2, cs, fx, hx2, e2, hb2, hcx2, hrep, hfx, hndx, hmod⟩ := drvL.sl_mod hst HF.out.1 hlt
      obtain ⟨rfl, rfl⟩ : b = b2 ∧ off = o2 := by simpa using e2
      have hlen : i < (markL cntDrv mkDrv (xs.take i) k ++ xs.drop i).length := (List.getElem?_eq_some_iff.1 HX.out.1).1
      rw [List.getElem?_set_self hlen] at hx2
      obtain rfl := Option.some.inj hx2
      obtain ⟨a1, l1, c1, f1, ex, h1, e1⟩ := drvL_iff.1 hrep
      replace h1 : blkL.sl _ a1 l1 c1 x0.blocks f1 := h1
      subst ex
      subst e1
      have hc1' : wr.cell? ⟨b, off + i * 2 + 1, none⟩ = some (.slice a1 l1 c1) := by
        have h5 := hcx2 1 (by decide)
        rw [show off + i * drvL.n + 1 = off + i * 2 + 1 from rfl, World.cell?_setCell_other _ _ _ _ (by intro h; have := congrArg Addr.off h; simp at this)] at h5
        exact h5
      have HI := Lib.hid (markBlockS_any a1 l1 c1 x0.blocks fx (z + 1) _ h1 ⟨hndx, fun y hy => ⟨Nat.zero_le _, hcs.loose y (hc.loose y (HF.out.2 y (hfx y hy)).2)⟩⟩ (by omega) (by omega))
      have HL1 := Lib.hid h1.1
      have HMOD := Lib.hid (fun w' (h : blkL.sl w' a1 l1 c1 (markL cntBlk mkBlk x0.blocks (z + 1)) fx) (hk : ∀ y ∈ f, y ∉ fx → w'.heap[y]? = (wr.setCell ⟨b, off + i * 2, none⟩ (.bool (z % 3 == 0))).heap[y]?) => hmod w' (⟨(z % 3 == 0), markL cntBlk mkBlk x0.blocks (z + 1)⟩ : Drv) (drvL_iff.2 ⟨a1, l1, c1, fx, rfl, h, rfl⟩) hk)
      have HSUB := Lib.hid hfx
      have HCS := Lib.hid (hc.trans hcs (fun x hx => .inl hx))
      have HLT := Lib.hid (fun y hy => Lay.sl_lt _ hst y hy : ∀ y ∈ f, y < _)
      have HZ2 := Lib.hid (show z + 1 + sumI cntBlk x0.blocks = k + sumI cntDrv (xs.take (i + 1)) by rw [sumI_take hxi, HZ.out, hcx]; omega)
      have HMN := Lib.hid (markL_next (cnt := cntDrv) (mk := mkDrv) k hxi)
      have hz2 : z + 1 ≤ 4611686018427387904 := by omega
      clear hc1 hs hst hcs hmod hfx hndx hcx2 hrep h1 hx2 e2 hb2 hlen hxi hc hcx HXS HX HXI hz1 hin
      go_wp2_with fail
      refine HI.out.mono ?_
      rintro e w1 ⟨rfl, hs1, hc1⟩
      have hs2 := HMOD.out w1 hs1 (fun y hy hny => hc1.block y (HLT.out y hy) hny)
      rw [List.set_set, show (⟨(z % 3 == 0), markL cntBlk mkBlk x0.blocks (z + 1)⟩ : Drv) = mkDrv (k + sumI cntDrv (xs.take i)) x0 by rw [← HZ.out]; rfl, HMN.out] at hs2
      have HN := Lib.hid (And.intro hs2 (HCS.out.trans hc1 (fun y hy => .inl (HSUB.out y hy))))
      clear hs1 hs2 hc1
      go_wp2_with fail
      go_roundw
      case rel => exact ⟨i + 1, _, by omega, rfl, by exact HZ2.out, by go_num, HN.out.1, HN.out.2⟩
      case measure => simp [intOf]; omega
    · have hil : i = la := by omega
      subst hil
      rw [List.take_of_length_le (by have := hl.out; omega), List.drop_of_length_le (by have := hl.out; omega), List.append_nil] at hs
      rw [List.take_of_length_le (by have := hl.out; omega)] at HZ
      have HN := Lib.hid (And.intro hs hc)
      clear hs hc
      go_wp2
      go_ret
      exact ⟨ret_int HZ.out, HN.out⟩


set_option maxRecDepth 100000 in
set_option maxHeartbeats 1000000 in
theorem markDriveSS_any (a : Option Addr) (la ca : Nat) (xs : List (List Drv)) (f : List Nat) (k : Int) (w : World) (ha : drvL.slice.sl w a la ca xs f) (hf : Fresh 0 w f) (hk : 0 ≤ k) (hk2 : k + sumI cntDrvs xs ≤ 4611686018427387904) :
    Calls Tryz.prog 72 #[.slice a la ca, .int .i64 k] w fun e w' => e = .returned (.int .i64 (k + sumI cntDrvs xs)) ∧ drvL.slice.sl w' a la ca (markL cntDrvs mkDrvs xs k) f ∧ Chg f w w' := by
  have hm := drvL.slice.sl_max ha
  have hl := Lib.hid ha.1
  have HF := Lib.hid hf
  have HK := Lib.hid hk2
  go_enter Tryz.func72, Tryz.ntmps72
  go_wp2
  go_loopw [1, 5] (fun u v wr => ∃ (i : Nat) (z : Int), i ≤ la ∧ u = .int .i64 z ∧ RowKit.Hid (z = k + sumI cntDrvs (xs.take i)) ∧ v = .int .i64 i ∧ drvL.slice.sl wr a la ca (markL cntDrvs mkDrvs (xs.take i) k ++ xs.drop i) f ∧ Chg f w wr) (fun _ v _ => la - (intOf v).toNat)
  case atStart => exact ⟨0, k, by omega, rfl, by show k = k + 0; omega, rfl, by simpa [markL] using ha, Chg.refl _ _⟩
  case round =>
    clear ha hf hk2
    obtain ⟨i, z, hi, rfl, HZ, rfl, hs, hc⟩ := hrel
    by_cases hlt : i < la
    · obtain ⟨x, b, o, cs, fx, hx, rfl, hb, hcx, ⟨A, lx, C, rfl, hxs⟩, hfx, hndx, hmod⟩ := drvL.slice.sl_mod hs HF.out.1 hlt
      have hcx' := hcx 0 drvL.slice.pos
      rw [show o + i * drvL.slice.n + 0 = o + i by simp [Lay.slice]] at hcx'
      have hxi := markL_old hx
      have HX := Lib.hid hxi
      have hz0 : 0 ≤ z := by rw [HZ.out]; have := sumI_nonneg cntDrvs_nonneg (xs.take i); omega
      have hz1 : z + cntDrvs x ≤ 4611686018427387904 := by
        have h1 := sumI_at cntDrvs_nonneg hxi
        rw [HZ.out]; have := HK.out; omega
      have HM := Lib.hid (fun w' (h : drvL.sl w' A lx C (mkDrvs z x) fx) (hk : ∀ y ∈ f, y ∉ fx → w'.heap[y]? = wr.heap[y]?) => hmod w' (mkDrvs z x) ⟨A, lx, C, rfl, h⟩ hk)
      have HXS := Lib.hid (markDriveS_any A lx C x fx z wr hxs ⟨hndx, fun y hy => ⟨Nat.zero_le _, hc.loose y (HF.out.2 y (hfx y hy)).2⟩⟩ hz0 hz1)
      have HSub := Lib.hid hfx
      have HC := Lib.hid hc
      have HLT := Lib.hid (drvL.slice.sl_lt hs)
      have HZ2 := Lib.hid (show z + sumI cntDrv x = k + sumI cntDrvs (xs.take (i + 1)) by rw [sumI_take hxi, HZ.out]; show _ + sumI cntDrv x = k + (_ + sumI cntDrv x); omega)
      clear hcx hxs hmod hfx hndx hs hx hxi hc
      go_wp2_with fail
      refine HXS.out.mono ?_
      rintro e w1 ⟨rfl, hs1, hc1⟩
      have hs2 := HM.out w1 hs1 (fun y hy hny => hc1.block y (HLT.out y hy) hny)
      rw [HZ.out, markL_next k HX.out] at hs2
      have HN := Lib.hid (And.intro hs2 (HC.out.trans hc1 (fun y hy => .inl (HSub.out y hy))))
      clear hs1 hs2 hc1
      go_wp2_with fail
      go_roundw
      case rel => exact ⟨i + 1, _, by omega, rfl, HZ2.out, by go_num, HN.out.1, HN.out.2⟩
      case measure => simp [intOf]; omega
    · have hil : i = la := by omega
      subst hil
      rw [List.take_of_length_le (by have := hl.out; omega), List.drop_of_length_le (by have := hl.out; omega), List.append_nil] at hs
      rw [List.take_of_length_le (by have := hl.out; omega)] at HZ
      have HN := Lib.hid (And.intro hs hc)
      clear hs hc
      go_wp2
      go_ret
      exact ⟨ret_int HZ.out, HN.out⟩


set_option maxRecDepth 100000 in
set_option maxHeartbeats 4000000 in
theorem markRecS_any (a : Option Addr) (la ca : Nat) (xs : List Rec) (f : List Nat) (k : Int) (w : World) (ha : recL.sl w a la ca xs f) (hf : Fresh 0 w f) (hk : 0 ≤ k) (hk2 : k + sumI cntRec xs ≤ 4611686018427387904) :
    Calls Tryz.prog 116 #[.slice a la ca, .int .i64 k] w fun e w' => e = .returned (.int .i64 (k + sumI cntRec xs)) ∧ recL.sl w' a la ca (markL cntRec mkRec xs k) f ∧ Chg f w w' := by
  have hm := recL.sl_max ha
  have hl := Lib.hid ha.1
  have HF := Lib.hid hf
  have HK := Lib.hid hk2
  go_enter Tryz.func116, Tryz.ntmps116
  go_wp2
  go_loopw [1, 5] (fun u v wr => ∃ (i : Nat) (z : Int), i ≤ la ∧ u = .int .i64 z ∧ RowKit.Hid (z = k + sumI cntRec (xs.take i)) ∧ v = .int .i64 i ∧ recL.sl wr a la ca (markL cntRec mkRec (xs.take i) k ++ xs.drop i) f ∧ Chg f w wr) (fun _ v _ => la - (intOf v).toNat)
  case atStart => exact ⟨0, k, by omega, rfl, by show k = k + 0; omega, rfl, by simpa [markL] using ha, Chg.refl _ _⟩
  case round =>
    clear ha hf hk2
    obtain ⟨i, z, hi, rfl, HZ, rfl, hs, hc⟩ := hrel
    by_cases hlt : i < la
    · obtain ⟨x0, b, off, _, _, _, _, _, _, _, _, _, _, HX, rfl, hc0, hc1, -, -, -, -, -, -, -, -⟩ := rec_at hs hlt
      have hxi := markL_old HX.out.1
      have hz0 : 0 ≤ z := by rw [HZ.out]; have := sumI_nonneg cntRec_nonneg (xs.take i); omega
      have hz1 : z + cntRec x0 ≤ 4611686018427387904 := by
        have h1 := sumI_at cntRec_nonneg hxi
        rw [HZ.out]; have := HK.out; omega
      have hcx : cntRec x0 = 6 + totIs x0.rows + totBs x0.data + totBs x0.delta := rfl
      have hi1 := totIs_nonneg x0.rows
      have hi2 := totBs_nonneg x0.data
      have hi3 := totBs_nonneg x0.delta
      have hlen : i < (markL cntRec mkRec (xs.take i) k ++ xs.drop i).length := (List.getElem?_eq_some_iff.1 HX.out.1).1
      have HZ2 := Lib.hid (show z + 6 + totIs x0.rows + totBs x0.data + totBs x0.delta = k + sumI cntRec (xs.take (i + 1)) by rw [sumI_take hxi, HZ.out, hcx]; omega)
      have HMN := Lib.hid (markL_next (cnt := cntRec) (mk := mkRec) k hxi)
      have HZO := Lib.hid (fun (d : Int) (h1 : 0 ≤ d) (h2 : d ≤ 6) => (⟨by omega, by omega⟩ : i64ok (z + d)))
      have hst := rec_store1 (rec_store0 hs HF.out.1 HX.out.1 z ⟨by omega, by omega⟩) HF.out.1 (List.getElem?_set_self hlen) (z + 1) ⟨by omega, by omega⟩
      rw [List.set_set] at hst
      have hfb : ∀ j, wr.frozen? ⟨b, j, none⟩ = false := (hc.loose b (HF.out.2 b HX.out.2.1).2).free
      have hlb : b < wr.heap.size := Lay.sl_lt _ hs _ HX.out.2.1
      have HB := Lib.hid HX.out.2.1
      have HS1 := Lib.hid hst
      have HC1 := Lib.hid (hc.trans (((Chg.refl f wr).setCell ⟨b, off + i * 9, none⟩ (.int .i64 z) (.inl HX.out.2.1)).setCell ⟨b, off + i * 9 + 1, none⟩ (.int .i64 (z + 1)) (.inl HX.out.2.1)) (fun x hx => .inl hx))
      have hz2 : z + 6 ≤ 4611686018427387904 := by omega
      have HBD := Lib.hid (And.intro hz1 hcx)
      have HN3 := Lib.hid (And.intro hi1 (And.intro hi2 hi3))
      have HLEN := Lib.hid hlen
      clear hs hst hc HX hz1 hcx hi1 hi2 hi3 hlen hxi
      go_wp2_with fail
      refine (markText_any (z + 1 + 1) (by omega) (by omega) _).mono ?_
      rintro e w3 ⟨rfl, hc3⟩
      have hs3 := recL.sl_ext HS1.out hc3
      obtain ⟨y, b', off', _, _, _, _, _, _, _, _, _, _, HY, e', -, -, hd2, hd3, hd4, hd5, -, -, -, -⟩ := rec_at hs3 hlt
      obtain ⟨rfl, rfl⟩ : b = b' ∧ off = off' := by simpa using e'
      have hy : some y = some { x0 with kind := z, seq := z + 1 } := HY.out.1.symm.trans (List.getElem?_set_self HLEN.out)
      obtain rfl := Option.some.inj hy
      have hlb3 : b < w3.heap.size := Lay.sl_lt _ hs3 _ HB.out
      have hlo3 := hc3.loose b (HC1.out.loose b (HF.out.2 b HB.out).2)
      have hfb3 := hlo3.free
      have g2 := rec_store2 hs3 HF.out.1 HY.out.1 (mtext (z + 1 + 1)) (mtext_max _)
      have hlen2 : i < ((markL cntRec mkRec (xs.take i) k ++ xs.drop i).set i { x0 with kind := z, seq := z + 1 }).length := by rw [List.length_set]; exact HLEN.out
      have g3 := rec_store3 g2 HF.out.1 (List.getElem?_set_self hlen2) (z + 1 + 1 + 1) ⟨by omega, by omega⟩
      rw [List.set_set] at g3
      have g4 := rec_store4 g3 HF.out.1 (List.getElem?_set_self hlen2) (z + 1 + 1 + 1 + 1) ⟨by omega, by omega⟩
      rw [List.set_set] at g4
      have g5 := rec_store5 g4 HF.out.1 (List.getElem?_set_self hlen2) (z + 1 + 1 + 1 + 1 + 1) ⟨by omega, by omega⟩
      rw [List.set_set, List.set_set] at g5
      obtain ⟨x8, cs, fx, hx8, -, hcx, hrep, hfx, hndx, hbx, hmod⟩ := recL.sl_modb g5 HF.out.1 hlt
      rw [List.getElem?_set_self HLEN.out] at hx8
      obtain rfl := Option.some.inj hx8
      obtain ⟨a6, l6, c6, f6, a7, l7, c7, f7, a8, l8, c8, f8, ex, o0, o1, o2, o3, o4, o5, h6, h7, h8, e1⟩ := recL_iff.1 hrep
      subst ex e1
      replace h6 : intL.sl _ a6 l6 c6 x0.rows f6 := h6
      replace h7 : byteL.sl _ a7 l7 c7 x0.data f7 := h7
      replace h8 : byteL.sl _ a8 l8 c8 x0.delta f8 := h8
      obtain ⟨w7, hw7⟩ : ∃ w7, w7 = (((w3.setCell ⟨b, off + i * 9 + 2, none⟩ (.string (mtext (z + 1 + 1)))).setCell ⟨b, off + i * 9 + 3, none⟩ (.int .i64 (z + 1 + 1 + 1))).setCell ⟨b, off + i * 9 + 4, none⟩ (.int .i64 (z + 1 + 1 + 1 + 1))).setCell ⟨b, off + i * 9 + 5, none⟩ (.int .i64 (z + 1 + 1 + 1 + 1 + 1)) := ⟨_, rfl⟩
      rw [← hw7] at h6 h7 h8 hcx hmod g5
      have hc7 : Chg f w3 w7 := by rw [hw7]; exact ((((Chg.refl f w3).setCell _ _ (.inl HB.out)).setCell _ _ (.inl HB.out)).setCell _ _ (.inl HB.out)).setCell _ _ (.inl HB.out)
      have k6 : w7.cell? ⟨b, off + i * 9 + 6, none⟩ = some (.slice a6 l6 c6) := hcx 6 (by decide)
      have k7 : w7.cell? ⟨b, off + i * 9 + 7, none⟩ = some (.slice a7 l7 c7) := hcx 7 (by decide)
      have k8 : w7.cell? ⟨b, off + i * 9 + 8, none⟩ = some (.slice a8 l8 c8) := hcx 8 (by decide)
      have oth : ∀ j, 6 ≤ j → w7.cell? ⟨b, off + i * 9 + j, none⟩ = w3.cell? ⟨b, off + i * 9 + j, none⟩ := by
        intro j hj
        have ne : ∀ d, d < 6 → (⟨b, off + i * 9 + j, none⟩ : Addr) ≠ ⟨b, off + i * 9 + d, none⟩ := by intro d hd h; have := congrArg Addr.off h; simp at this; omega
        rw [hw7, World.cell?_setCell_other _ _ _ _ (ne 5 (by omega)).symm, World.cell?_setCell_other _ _ _ _ (ne 4 (by omega)).symm, World.cell?_setCell_other _ _ _ _ (ne 3 (by omega)).symm, World.cell?_setCell_other _ _ _ _ (ne 2 (by omega)).symm]
      have m6 := (oth 6 (by omega)).symm.trans k6
      have ndA := List.nodup_append.1 hndx
      have ndB := List.nodup_append.1 ndA.2.1
      have d67 : ∀ y ∈ f7, y ∉ f6 := fun y hy hy6 => ndA.2.2 y hy6 y (by simp [hy]) rfl
      have d68 : ∀ y ∈ f8, y ∉ f6 := fun y hy hy6 => ndA.2.2 y hy6 y (by simp [hy]) rfl
      have d78 : ∀ y ∈ f8, y ∉ f7 := fun y hy hy7 => ndB.2.2 y hy7 y hy rfl
      have hlo7 : ∀ y ∈ f, Loose w7 y := fun y hy => hc7.loose y (hc3.loose y (HC1.out.loose y (HF.out.2 y hy).2))
      have hL6 := h6.1; have hL7 := h7.1; have hL8 := h8.1
      have t6 : totIs x0.rows = (l6 : Int) := by unfold totIs; rw [hL6]
      have t7 : totBs x0.data = (l7 : Int) := by unfold totBs; rw [hL7]
      have t8 : totBs x0.delta = (l8 : Int) := by unfold totBs; rw [hL8]
      have hbd : z + 6 + l6 + l7 + l8 ≤ 4611686018427387904 := by have := HBD.out.1; have := HBD.out.2; omega
      have HI6 := Lib.hid (markI_any a6 l6 c6 x0.rows f6 (z + 1 + 1 + 1 + 1 + 1 + 1) w7 h6 ⟨ndA.1, fun y hy => ⟨Nat.zero_le _, hlo7 y (hfx y (by simp [hy]))⟩⟩ (by omega) (by omega))
      have H7 := Lib.hid h7; have H8 := Lib.hid h8
      have HLO := Lib.hid hlo7
      have HFX := Lib.hid hfx
      have HBX := Lib.hid hbx
      have HD := Lib.hid (And.intro d67 (And.intro d68 d78))
      have HND := Lib.hid (And.intro ndA.1 (And.intro ndB.1 ndB.2.1))
      have HK78 := Lib.hid (And.intro k7 k8)
      have HC7 := Lib.hid ((HC1.out.trans0 hc3).trans hc7 (fun x hx => .inl hx))
      have HLT := Lib.hid (fun y hy => Lay.sl_lt _ g5 y hy : ∀ y ∈ f, y < w7.heap.size)
      have HMOD := Lib.hid (fun w' (h6 : intL.sl w' a6 l6 c6 (markIL (z + 6) x0.rows.length) f6) (h7 : byteL.sl w' a7 l7 c7 (markBL (z + 6 + totIs x0.rows) x0.data.length) f7) (h8 : byteL.sl w' a8 l8 c8 (markBL (z + 6 + totIs x0.rows + totBs x0.data) x0.delta.length) f8) (hk : ∀ y ∈ f, y ∉ f6 ++ (f7 ++ f8) → w'.heap[y]? = w7.heap[y]?) =>
        hmod w' (mkRec z x0) (recL_iff.2 ⟨a6, l6, c6, f6, a7, l7, c7, f7, a8, l8, c8, f8, (by unfold mkRec; simp only [show z + 1 + 1 = z + 2 by omega, show z + 2 + 1 = z + 3 by omega, show z + 3 + 1 = z + 4 by omega, show z + 4 + 1 = z + 5 by omega]), o0, o1, mtext_max _, HZO.out 3 (by omega) (by omega), HZO.out 4 (by omega) (by omega), HZO.out 5 (by omega) (by omega), h6, h7, h8, rfl⟩) hk)
      have HT := Lib.hid (And.intro t6 (And.intro t7 t8))
      have HLL := Lib.hid (And.intro hL6 (And.intro hL7 hL8))
      have HW7 := Lib.hid hw7
      have hlb7 := HLT.out b HB.out
      rw [hw7] at HI6
      clear hw7 hs3 e' HY hy g2 g3 g4 g5 hcx hrep hfx hndx hbx hmod o0 o1 o2 o3 o4 o5 h6 h7 h8 k6 k7 k8 oth ndA ndB d67 d68 d78 hlo7 hL6 hL7 hL8 t6 t7 t8 hlen2 hc3 hc7 hlo3 hc0 hc1 hfb hlb
      go_wp2_with fail
      refine HI6.out.mono ?_
      rintro e w8 ⟨rfl, hs6, hc8⟩
      rw [← HW7.out] at hc8
      have e8 : ∀ j, w8.cell? ⟨b, off + i * 9 + j, none⟩ = w7.cell? ⟨b, off + i * 9 + j, none⟩ := fun j => cell_same (hc8.block b hlb7 (fun h => HBX.out (by simp [h])))
      have m7 := (e8 7).trans HK78.out.1
      have H7' := Lib.hid (byteL.sl_chg H7.out hc8 (fun y hy => HD.out.1 y hy))
      have H8' := Lib.hid (byteL.sl_chg H8.out hc8 (fun y hy => HD.out.2.1 y hy))
      have m8' := Lib.hid ((e8 8).trans HK78.out.2)
      have hlb8 : b < w8.heap.size := Nat.lt_of_lt_of_le hlb7 hc8.size
      have HI7 := Lib.hid (markB_any a7 l7 c7 x0.data f7 (z + 1 + 1 + 1 + 1 + 1 + 1 + l6) w8 H7'.out ⟨HND.out.2.1, fun y hy => ⟨Nat.zero_le _, hc8.loose y (HLO.out y (HFX.out y (by simp [hy])))⟩⟩ (by omega) (by omega))
      have HS6 := Lib.hid hs6
      have HC8 := Lib.hid hc8
      clear hs6 hc8 e8 m6 hd2 hd3 hd4 hd5 hfb3
      go_wp2_with fail
      refine HI7.out.mono ?_
      rintro e w9 ⟨rfl, hs7, hc9⟩
      have e9 : ∀ j, w9.cell? ⟨b, off + i * 9 + j, none⟩ = w8.cell? ⟨b, off + i * 9 + j, none⟩ := fun j => cell_same (hc9.block b hlb8 (fun h => HBX.out (by simp [h])))
      have m8 := (e9 8).trans m8'.out
      have H8'' := Lib.hid (byteL.sl_chg H8'.out hc9 (fun y hy => HD.out.2.2 y hy))
      have H6' := Lib.hid (intL.sl_chg HS6.out hc9 (fun y hy hy7 => HD.out.1 y hy7 hy))
      have hlb9 : b < w9.heap.size := Nat.lt_of_lt_of_le hlb8 hc9.size
      have HI8 := Lib.hid (markB_any a8 l8 c8 x0.delta f8 (z + 1 + 1 + 1 + 1 + 1 + 1 + l6 + l7) w9 H8''.out ⟨HND.out.2.2, fun y hy => ⟨Nat.zero_le _, hc9.loose y (HC8.out.loose y (HLO.out y (HFX.out y (by simp [hy]))))⟩⟩ (by omega) (by omega))
      have HS7 := Lib.hid hs7
      have HC9 := Lib.hid hc9
      clear hs7 hc9 e9 m7
      go_wp2_with fail
      refine HI8.out.mono ?_
      rintro e w10 ⟨rfl, hs8, hc10⟩
      have r6 := intL.sl_chg H6'.out hc10 (fun y hy hy8 => HD.out.2.1 y hy8 hy)
      have r7 := byteL.sl_chg HS7.out hc10 (fun y hy hy8 => HD.out.2.2 y hy8 hy)
      have hfin := HMOD.out w10 (by rw [← HLL.out.1, show z + 6 = z + 1 + 1 + 1 + 1 + 1 + 1 by omega]; exact r6) (by rw [← HLL.out.2.1, HT.out.1, show z + 6 + (l6 : Int) = z + 1 + 1 + 1 + 1 + 1 + 1 + l6 by omega]; exact r7)
        (by rw [← HLL.out.2.2, HT.out.1, HT.out.2.1, show z + 6 + (l6 : Int) + l7 = z + 1 + 1 + 1 + 1 + 1 + 1 + l6 + l7 by omega]; exact hs8) (fun y hy hny => by
          have hlt7 := HLT.out y hy
          rw [hc10.block y (Nat.lt_of_lt_of_le hlt7 (Nat.le_trans HC8.out.size HC9.out.size)) (fun h => hny (by simp [h])), HC9.out.block y (Nat.lt_of_lt_of_le hlt7 HC8.out.size) (fun h => hny (by simp [h])), HC8.out.block y hlt7 (fun h => hny (by simp [h]))])
      rw [List.set_set, show mkRec z x0 = mkRec (k + sumI cntRec (xs.take i)) x0 by rw [← HZ.out], HMN.out] at hfin
      have hch := (((HC7.out.trans HC8.out (fun y hy => .inl (HFX.out y (by simp [hy])))).trans HC9.out (fun y hy => .inl (HFX.out y (by simp [hy])))).trans hc10 (fun y hy => .inl (HFX.out y (by simp [hy]))))
      have HN := Lib.hid (And.intro hfin hch)
      have HZ3 := Lib.hid (show z + 1 + 1 + 1 + 1 + 1 + 1 + (l6 : Int) + l7 + l8 = k + sumI cntRec (xs.take (i + 1)) by rw [← HZ2.out, HT.out.1, HT.out.2.1, HT.out.2.2]; omega)
      clear hs8 hc10 r6 r7 hfin hch m8
      go_wp2_with fail
      go_roundw
      case rel => exact ⟨i + 1, _, by omega, rfl, HZ3, by go_num, HN.out.1, HN.out.2⟩
      case measure => simp [intOf]; omega
    · have hil : i = la := by omega
      subst hil
      rw [List.take_of_length_le (by have := hl.out; omega), List.drop_of_length_le (by have := hl.out; omega), List.append_nil] at hs
      rw [List.take_of_length_le (by have := hl.out; omega)] at HZ
      have HN := Lib.hid (And.intro hs hc)
      clear hs hc
      go_wp2
      go_ret
      exact ⟨ret_int HZ.out, HN.out⟩


set_option maxRecDepth 100000 in
set_option maxHeartbeats 2000000 in
theorem markTapeS_any (a : Option Addr) (la ca : Nat) (xs : List Tap) (f : List Nat) (k : Int) (w : World) (ha : tapL.sl w a la ca xs f) (hf : Fresh 0 w f) (hk : 0 ≤ k) (hk2 : k + sumI cntTap xs ≤ 4611686018427387904) :
    Calls Tryz.prog 74 #[.slice a la ca, .int .i64 k] w fun e w' => e = .returned (.int .i64 (k + sumI cntTap xs)) ∧ tapL.sl w' a la ca (markL cntTap mkTap xs k) f ∧ Chg f w w' := by
  have hm := tapL.sl_max ha
  have hl := Lib.hid ha.1
  have HF := Lib.hid hf
  have HK := Lib.hid hk2
  go_enter Tryz.func74, Tryz.ntmps74
  go_wp2
  go_loopw [1, 5] (fun u v wr => ∃ (i : Nat) (z : Int), i ≤ la ∧ u = .int .i64 z ∧ RowKit.Hid (z = k + sumI cntTap (xs.take i)) ∧ v = .int .i64 i ∧ tapL.sl wr a la ca (markL cntTap mkTap (xs.take i) k ++ xs.drop i) f ∧ Chg f w wr) (fun _ v _ => la - (intOf v).toNat)
  case atStart => exact ⟨0, k, by omega, rfl, by show k = k + 0; omega, rfl, by simpa [markL] using ha, Chg.refl _ _⟩
  case round =>
    clear ha hf hk2
    obtain ⟨i, z, hi, rfl, HZ, rfl, hs, hc⟩ := hrel
    by_cases hlt : i < la
    · obtain ⟨x0, b, off, _, _, _, _, HX, rfl, hc0, hc1, HXS⟩ := tape_at hs hlt
      have hxi := markL_old HX.out.1
      have HXI := Lib.hid hxi
      have hz0 : 0 ≤ z := by rw [HZ.out]; have := sumI_nonneg cntTap_nonneg (xs.take i); omega
      have hz1 : z + cntTap x0 ≤ 4611686018427387904 := by
        have h1 := sumI_at cntTap_nonneg hxi
        rw [HZ.out]; have := HK.out; omega
      have hcx : cntTap x0 = 1 + sumI cntRec x0.recs := rfl
      have hin : 0 ≤ sumI cntRec x0.recs := sumI_nonneg cntRec_nonneg _
      have HZO := Lib.hid (show i64ok z from ⟨by omega, by omega⟩)
      have hst := tape_store0 hs HF.out.1 HX.out.1 (z % 3 == 0)
      have hcs : Chg f wr (wr.setCell ⟨b, off + i * 2, none⟩ (.bool (z % 3 == 0))) := (Chg.refl f wr).setCell _ _ (.inl HX.out.2.1)
      have hfb : ∀ j, wr.frozen? ⟨b, j, none⟩ = false := by obtain ⟨cur, E, h⟩ := hc.loose b (HF.out.2 b HX.out.2.1).2; exact freeOf h
      have hlb : b < wr.heap.size := Lay.sl_lt _ hs _ HX.out.2.1
      obtain ⟨x2, b2, o2, cs, fx, hx2, e2, hb2, hcx2, hrep, hfx, hndx, hmod⟩ := tapL.sl_mod hst HF.out.1 hlt
      obtain ⟨rfl, rfl⟩ : b = b2 ∧ off = o2 := by simpa using e2
      have hlen : i < (markL cntTap mkTap (xs.take i) k ++ xs.drop i).length := (List.getElem?_eq_some_iff.1 HX.out.1).1
      rw [List.getElem?_set_self hlen] at hx2
      obtain rfl := Option.some.inj hx2
      obtain ⟨a1, l1, c1, f1, ex, h1, e1⟩ := tapL_iff.1 hrep
      replace h1 : recL.sl _ a1 l1 c1 x0.recs f1 := h1
      subst ex
      subst e1
      have hc1' : wr.cell? ⟨b, off + i * 2 + 1, none⟩ = some (.slice a1 l1 c1) := by
        have h5 := hcx2 1 (by decide)
        rw [show off + i * tapL.n + 1 = off + i * 2 + 1 from rfl, World.cell?_setCell_other _ _ _ _ (by intro h; have := congrArg Addr.off h; simp at this)] at h5
        exact h5
      have HI := Lib.hid (markRecS_any a1 l1 c1 x0.recs fx (z + 1) _ h1 ⟨hndx, fun y hy => ⟨Nat.zero_le _, hcs.loose y (hc.loose y (HF.out.2 y (hfx y hy)).2)⟩⟩ (by omega) (by omega))
      have HL1 := Lib.hid h1.1
      have HMOD := Lib.hid (fun w' (h : recL.sl w' a1 l1 c1 (markL cntRec mkRec x0.recs (z + 1)) fx) (hk : ∀ y ∈ f, y ∉ fx → w'.heap[y]? = (wr.setCell ⟨b, off + i * 2, none⟩ (.bool (z % 3 == 0))).heap[y]?) => hmod w' (⟨(z % 3 == 0), markL cntRec mkRec x0.recs (z + 1)⟩ : Tap) (tapL_iff.2 ⟨a1, l1, c1, fx, rfl, h, rfl⟩) hk)
      have HSUB := Lib.hid hfx
      have HCS := Lib.hid (hc.trans hcs (fun x hx => .inl hx))
      have HLT := Lib.hid (fun y hy => Lay.sl_lt _ hst y hy : ∀ y ∈ f, y < _)
      have HZ2 := Lib.hid (show z + 1 + sumI cntRec x0.recs = k + sumI cntTap (xs.take (i + 1)) by rw [sumI_take hxi, HZ.out, hcx]; omega)
      have HMN := Lib.hid (markL_next (cnt := cntTap) (mk := mkTap) k hxi)
      have hz2 : z + 1 ≤ 4611686018427387904 := by omega
      clear hc1 hs hst hcs hmod hfx hndx hcx2 hrep h1 hx2 e2 hb2 hlen hxi hc hcx HXS HX HXI hz1 hin
      go_wp2_with fail
      refine HI.out.mono ?_
      rintro e w1 ⟨rfl, hs1, hc1⟩
      have hs2 := HMOD.out w1 hs1 (fun y hy hny => hc1.block y (HLT.out y hy) hny)
      rw [List.set_set, show (⟨(z % 3 == 0), markL cntRec mkRec x0.recs (z + 1)⟩ : Tap) = mkTap (k + sumI cntTap (xs.take i)) x0 by rw [← HZ.out]; rfl, HMN.out] at hs2
      have HN := Lib.hid (And.intro hs2 (HCS.out.trans hc1 (fun y hy => .inl (HSUB.out y hy))))
      clear hs1 hs2 hc1
      go_wp2_with fail
      go_roundw
      case rel => exact ⟨i + 1, _, by omega, rfl, by exact HZ2.out, by go_num, HN.out.1, HN.out.2⟩
      case measure => simp [intOf]; omega
    · have hil : i = la := by omega
      subst hil
      rw [List.take_of_length_le (by have := hl.out; omega), List.drop_of_length_le (by have := hl.out; omega), List.append_nil] at hs
      rw [List.take_of_length_le (by have := hl.out; omega)] at HZ
      have HN := Lib.hid (And.intro hs hc)
      clear hs hc
      go_wp2
      go_ret
      exact ⟨ret_int HZ.out, HN.out⟩

end Go.Proofs.YtnnhopcjlnnchaaGreat

/- What a law finds again of the marks that it has laid into a world. -/
namespace Go.Proofs.YtnnhopcjlnnchaaGreat
open Go.RowKit


set_option maxRecDepth 100000 in
set_option maxHeartbeats 1000000 in
theorem heldBlockS_any (a : Option Addr) (la ca : Nat) (xs : List Blk) (f : List Nat) (k : Int) (w : World) (ha : blkL.sl w a la ca (markL cntBlk mkBlk xs k) f) (hk : 0 ≤ k) (hk2 : k + sumI cntBlk xs ≤ 4611686018427387904) :
    Calls Tryz.prog 189 #[.slice a la ca, .int .i64 k] w fun e w' => e = .returned (.int .i64 (k + sumI cntBlk xs)) ∧ Chg [] w w' := by
  have hm := blkL.sl_max ha
  have hl := Lib.hid (show la = xs.length by rw [ha.1, markL_length])
  have HA := Lib.hid ha
  have HK := Lib.hid hk2
  clear ha hk2
  go_enter Tryz.func189, Tryz.ntmps189
  go_wp2_with fail
  go_loopw [1, 5] (fun u v wr => ∃ (i : Nat) (z : Int) (Wr : World), Wr = wr ∧ i ≤ la ∧ u = .int .i64 z ∧ RowKit.Hid (z = k + sumI cntBlk (xs.take i)) ∧ v = .int .i64 i ∧ Chg [] w wr) (fun _ v _ => la - (intOf v).toNat)
  case atStart => exact ⟨0, k, _, rfl, by omega, rfl, by show k = k + 0; omega, rfl, Chg.refl _ _⟩
  case round =>
    obtain ⟨i, z, wr, rfl, hi, rfl, HZ, rfl, hc⟩ := hrel
    have HC := Lib.hid hc
    by_cases hlt : i < la
    · obtain ⟨y, b, off, A, ly, C, fy, HY, rfl, hc0, hc1, HYS⟩ := block_at (blkL.sl_ext HA.out hc) hlt
      have hlb : b < wr.heap.size := Lay.sl_lt _ (blkL.sl_ext HA.out hc) _ HY.out.2.1
      obtain ⟨x, hx, hy⟩ := markL_at HY.out.1
      have HX := Lib.hid hx
      rw [← HZ.out] at hy
      subst hy
      have hz0 : 0 ≤ z := by rw [HZ.out]; have := sumI_nonneg cntBlk_nonneg (xs.take i); omega
      have hz1 : z + cntBlk x ≤ 4611686018427387904 := by
        have h1 := sumI_at cntBlk_nonneg hx
        rw [HZ.out]; have := HK.out; omega
      have hcx : cntBlk x = 1 + totBs x.bytes := rfl
      have hin : 0 ≤ totBs x.bytes := totBs_nonneg _
      obtain ⟨a1, l1, c1, f1, ex, -, h1, -⟩ := blkL_iff.1 HYS.out
      obtain ⟨e1, e2, e3⟩ := Value.slice.inj (List.cons.inj (List.cons.inj ex).2).1
      subst e1 e2 e3
      replace h1 : byteL.sl wr A ly C (markBL (z + 1) x.bytes.length) f1 := h1
      have HLY := Lib.hid (show (ly : Int) = ly from rfl)
      have hly : ly = x.bytes.length := by rw [h1.1, markBL_length]
      have ht : totBs x.bytes = (ly : Int) := by unfold totBs; rw [hly]
      have HI := Lib.hid (show Calls Tryz.prog 117 #[.slice A ly C, .int .i64 (z + 1)] wr (fun e w' => e = .returned (.int .i64 (z + 1 + totBs x.bytes)) ∧ Chg [] wr w') by rw [ht]; exact heldB_any A ly C f1 (z + 1) wr (by have h9 := h1; rw [← hly] at h9; exact h9) (by omega) (by omega))
      have HZ2 := Lib.hid (show z + 1 + totBs x.bytes = k + sumI cntBlk (xs.take (i + 1)) by rw [sumI_take hx, HZ.out, hcx]; omega)
      have hc0' : wr.cell? ⟨b, off + i * 2, none⟩ = some (.int .i64 z) := hc0
      have hzz : ((z : Int) != z) = false := by simp
      have hz2 : z + 1 ≤ 4611686018427387904 := by omega
      obtain ⟨q, hq⟩ : ∃ q, q = totBs x.bytes := ⟨_, rfl⟩
      rw [← hq] at HI HZ2 hin hcx
      have hzn : ¬ (z + 1 + q < 0) := by omega
      clear hly ht
      clear hc hx hz1 hcx hc0 h1 ex HYS HY hq HX
      go_wp2_with fail
      refine HI.out.mono ?_; rintro e w1 ⟨rfl, hcN⟩
      have HC1 := Lib.hid (HC.out.trans0 hcN); clear hcN
      go_wp2_with fail
      go_roundw
      case rel => exact ⟨i + 1, z + 1 + q, _, rfl, by omega, rfl, HZ2, by go_num, HC1.out⟩
      case measure => simp [intOf]; omega
    · obtain rfl : i = la := by omega
      have HR := Lib.hid (show z = k + sumI cntBlk xs by rw [HZ.out, List.take_of_length_le (by have := hl.out; omega)])
      clear hc
      go_wp2_with fail
      go_ret
      exact ⟨ret_int HR.out, HC.out⟩


set_option maxRecDepth 100000 in
set_option maxHeartbeats 1000000 in
theorem heldDriveS_any (a : Option Addr) (la ca : Nat) (xs : List Drv) (f : List Nat) (k : Int) (w : World) (ha : drvL.sl w a la ca (markL cntDrv mkDrv xs k) f) (hk : 0 ≤ k) (hk2 : k + sumI cntDrv xs ≤ 4611686018427387904) :
    Calls Tryz.prog 172 #[.slice a la ca, .int .i64 k] w fun e w' => e = .returned (.int .i64 (k + sumI cntDrv xs)) ∧ Chg [] w w' := by
  have hm := drvL.sl_max ha
  have hl := Lib.hid (show la = xs.length by rw [ha.1, markL_length])
  have HA := Lib.hid ha
  have HK := Lib.hid hk2
  clear ha hk2
  go_enter Tryz.func172, Tryz.ntmps172
  go_wp2_with fail
  go_loopw [1, 5] (fun u v wr => ∃ (i : Nat) (z : Int) (Wr : World), Wr = wr ∧ i ≤ la ∧ u = .int .i64 z ∧ RowKit.Hid (z = k + sumI cntDrv (xs.take i)) ∧ v = .int .i64 i ∧ Chg [] w wr) (fun _ v _ => la - (intOf v).toNat)
  case atStart => exact ⟨0, k, _, rfl, by omega, rfl, by show k = k + 0; omega, rfl, Chg.refl _ _⟩
  case round =>
    obtain ⟨i, z, wr, rfl, hi, rfl, HZ, rfl, hc⟩ := hrel
    have HC := Lib.hid hc
    by_cases hlt : i < la
    · obtain ⟨y, b, off, A, ly, C, fy, HY, rfl, hc0, hc1, HYS⟩ := drive_at (drvL.sl_ext HA.out hc) hlt
      have hlb : b < wr.heap.size := Lay.sl_lt _ (drvL.sl_ext HA.out hc) _ HY.out.2.1
      obtain ⟨x, hx, hy⟩ := markL_at HY.out.1
      have HX := Lib.hid hx
      rw [← HZ.out] at hy
      subst hy
      have hz0 : 0 ≤ z := by rw [HZ.out]; have := sumI_nonneg cntDrv_nonneg (xs.take i); omega
      have hz1 : z + cntDrv x ≤ 4611686018427387904 := by
        have h1 := sumI_at cntDrv_nonneg hx
        rw [HZ.out]; have := HK.out; omega
      have hcx : cntDrv x = 1 + sumI cntBlk x.blocks := rfl
      have hin : 0 ≤ sumI cntBlk x.blocks := sumI_nonneg cntBlk_nonneg _
      obtain ⟨a1, l1, c1, f1, ex, h1, -⟩ := drvL_iff.1 HYS.out
      obtain ⟨e1, e2, e3⟩ := Value.slice.inj (List.cons.inj (List.cons.inj ex).2).1
      subst e1 e2 e3
      replace h1 : blkL.sl wr A ly C (markL cntBlk mkBlk x.blocks (z + 1)) f1 := h1
      have HLY := Lib.hid (show (ly : Int) = ly from rfl)
      skip
      have HI := Lib.hid (heldBlockS_any A ly C x.blocks f1 (z + 1) wr h1 (by omega) (by omega))
      have HZ2 := Lib.hid (show z + 1 + sumI cntBlk x.blocks = k + sumI cntDrv (xs.take (i + 1)) by rw [sumI_take hx, HZ.out, hcx]; omega)
      have hc0' : wr.cell? ⟨b, off + i * 2, none⟩ = some (.bool (z % 3 == 0)) := hc0
      have hzz : ((z % 3 == 0) != (z % 3 == 0)) = false := by simp
      have hz2 : z + 1 ≤ 4611686018427387904 := by omega
      obtain ⟨q, hq⟩ : ∃ q, q = sumI cntBlk x.blocks := ⟨_, rfl⟩
      rw [← hq] at HI HZ2 hin hcx
      have hzn : ¬ (z + 1 + q < 0) := by omega
      skip
      clear hc hx hz1 hcx hc0 h1 ex HYS HY hq HX
      go_wp2_with fail
      refine HI.out.mono ?_; rintro e w1 ⟨rfl, hcN⟩
      have HC1 := Lib.hid (HC.out.trans0 hcN); clear hcN
      go_wp2_with fail
      go_roundw
      case rel => exact ⟨i + 1, z + 1 + q, _, rfl, by omega, rfl, HZ2, by go_num, HC1.out⟩
      case measure => simp [intOf]; omega
    · obtain rfl : i = la := by omega
      have HR := Lib.hid (show z = k + sumI cntDrv xs by rw [HZ.out, List.take_of_length_le (by have := hl.out; omega)])
      clear hc
      go_wp2_with fail
      go_ret
      exact ⟨ret_int HR.out, HC.out⟩


set_option maxRecDepth 100000 in
set_option maxHeartbeats 1000000 in
theorem heldDriveSS_any (a : Option Addr) (la ca : Nat) (xs : List (List Drv)) (f : List Nat) (k : Int) (w : World) (ha : drvL.slice.sl w a la ca (markL cntDrvs mkDrvs xs k) f) (hk : 0 ≤ k) (hk2 : k + sumI cntDrvs xs ≤ 4611686018427387904) :
    Calls Tryz.prog 129 #[.slice a la ca, .int .i64 k] w fun e w' => e = .returned (.int .i64 (k + sumI cntDrvs xs)) ∧ Chg [] w w' := by
  have hm := drvL.slice.sl_max ha
  have hl := Lib.hid (show la = xs.length by rw [ha.1, markL_length])
  have HA := Lib.hid ha
  have HK := Lib.hid hk2
  clear ha hk2
  go_enter Tryz.func129, Tryz.ntmps129
  go_wp2_with fail
  go_loopw [1, 5] (fun u v wr => ∃ (i : Nat) (z : Int) (Wr : World), Wr = wr ∧ i ≤ la ∧ u = .int .i64 z ∧ RowKit.Hid (z = k + sumI cntDrvs (xs.take i)) ∧ v = .int .i64 i ∧ Chg [] w wr) (fun _ v _ => la - (intOf v).toNat)
  case atStart => exact ⟨0, k, _, rfl, by omega, rfl, by show k = k + 0; omega, rfl, Chg.refl _ _⟩
  case round =>
    obtain ⟨i, z, wr, rfl, hi, rfl, HZ, rfl, hc⟩ := hrel
    have HC := Lib.hid hc
    by_cases hlt : i < la
    · obtain ⟨y, b, o, A, ly, C, fy, HY, rfl, hcx, HYS⟩ := slc_at (drvL.slice.sl_ext HA.out hc) hlt
      obtain ⟨x, hx, hy⟩ := markL_at HY.out.1
      have HX := Lib.hid hx
      rw [← HZ.out] at hy
      subst hy
      have hz0 : 0 ≤ z := by rw [HZ.out]; have := sumI_nonneg cntDrvs_nonneg (xs.take i); omega
      have hz1 : z + sumI cntDrv x ≤ 4611686018427387904 := by
        have h1 := sumI_at cntDrvs_nonneg hx
        have h2 : cntDrvs x = sumI cntDrv x := rfl
        rw [HZ.out]; have := HK.out; omega
      have hin : 0 ≤ sumI cntDrv x := sumI_nonneg cntDrv_nonneg _
      have HE := Lib.hid (heldDriveS_any A ly C x fy z wr HYS.out hz0 hz1)
      have HZ2 := Lib.hid (show z + sumI cntDrv x = k + sumI cntDrvs (xs.take (i + 1)) by rw [sumI_take hx, HZ.out]; show _ + sumI cntDrv x = k + (_ + sumI cntDrv x); omega)
      obtain ⟨q, hq⟩ : ∃ q, q = sumI cntDrv x := ⟨_, rfl⟩
      rw [← hq] at HE HZ2 hin hz1
      have hzn : ¬ (z + q < 0) := by omega
      clear hc hx hq HX HY HYS
      go_wp2_with fail
      refine HE.out.mono ?_; rintro e w1 ⟨rfl, hc1⟩
      have HC1 := Lib.hid (HC.out.trans0 hc1); clear hc1
      go_wp2_with fail
      go_roundw
      case rel => exact ⟨i + 1, z + q, _, rfl, by omega, rfl, HZ2, by go_num, HC1.out⟩
      case measure => simp [intOf]; omega
    · obtain rfl : i = la := by omega
      have HR := Lib.hid (show z = k + sumI cntDrvs xs by rw [HZ.out, List.take_of_length_le (by have := hl.out; omega)])
      clear hc
      go_wp2_with fail
      go_ret
      exact ⟨ret_int HR.out, HC.out⟩


set_option maxRecDepth 100000 in
set_option maxHeartbeats 2000000 in
theorem heldRecS_any (a : Option Addr) (la ca : Nat) (xs : List Rec) (f : List Nat) (k : Int) (w : World) (ha : recL.sl w a la ca (markL cntRec mkRec xs k) f) (hk : 0 ≤ k) (hk2 : k + sumI cntRec xs ≤ 4611686018427387904) :
    Calls Tryz.prog 173 #[.slice a la ca, .int .i64 k] w fun e w' => e = .returned (.int .i64 (k + sumI cntRec xs)) ∧ Chg [] w w' := by
  have hm := recL.sl_max ha
  have hl := Lib.hid (show la = xs.length by rw [ha.1, markL_length])
  have HA := Lib.hid ha
  have HK := Lib.hid hk2
  clear ha hk2
  go_enter Tryz.func173, Tryz.ntmps173
  go_wp2_with fail
  go_loopw [1, 5] (fun u v wr => ∃ (i : Nat) (z : Int) (Wr : World), Wr = wr ∧ i ≤ la ∧ u = .int .i64 z ∧ RowKit.Hid (z = k + sumI cntRec (xs.take i)) ∧ v = .int .i64 i ∧ Chg [] w wr) (fun _ v _ => la - (intOf v).toNat)
  case atStart => exact ⟨0, k, _, rfl, by omega, rfl, by show k = k + 0; omega, rfl, Chg.refl _ _⟩
  case round =>
    obtain ⟨i, z, wr, rfl, hi, rfl, HZ, rfl, hc⟩ := hrel
    have HC := Lib.hid hc
    by_cases hlt : i < la
    · obtain ⟨y, b, off, a6, l6, c6, a7, l7, c7, a8, l8, c8, fy, HY, rfl, hc0, hc1, hc2, hc3, hc4, hc5, hc6, hc7, hc8, HYS⟩ := rec_at (recL.sl_ext HA.out hc) hlt
      have hlb : b < wr.heap.size := Lay.sl_lt _ (recL.sl_ext HA.out hc) _ HY.out.2.1
      obtain ⟨x, hx, hy⟩ := markL_at HY.out.1
      rw [← HZ.out] at hy
      subst hy
      have hz0 : 0 ≤ z := by rw [HZ.out]; have := sumI_nonneg cntRec_nonneg (xs.take i); omega
      have hz1 : z + cntRec x ≤ 4611686018427387904 := by
        have h1 := sumI_at cntRec_nonneg hx
        rw [HZ.out]; have := HK.out; omega
      have hcx : cntRec x = 6 + totIs x.rows + totBs x.data + totBs x.delta := rfl
      obtain ⟨a6', l6', c6', f6, a7', l7', c7', f7, a8', l8', c8', f8, ex, -, -, -, -, -, -, h6, h7, h8, -⟩ := recL_iff.1 HYS.out
      simp only [List.cons.injEq, Value.slice.injEq, and_true, true_and] at ex
      obtain ⟨⟨rfl, rfl, rfl⟩, ⟨rfl, rfl, rfl⟩, rfl, rfl, rfl⟩ := ex
      replace h6 : intL.sl wr a6 l6 c6 (markIL (z + 6) x.rows.length) f6 := h6
      replace h7 : byteL.sl wr a7 l7 c7 (markBL (z + 6 + totIs x.rows) x.data.length) f7 := h7
      replace h8 : byteL.sl wr a8 l8 c8 (markBL (z + 6 + totIs x.rows + totBs x.data) x.delta.length) f8 := h8
      have hL6 : l6 = x.rows.length := by rw [h6.1, markIL_length]
      have hL7 : l7 = x.data.length := by rw [h7.1, markBL_length]
      have hL8 : l8 = x.delta.length := by rw [h8.1, markBL_length]
      have t6 : totIs x.rows = (l6 : Int) := by unfold totIs; rw [hL6]
      have t7 : totBs x.data = (l7 : Int) := by unfold totBs; rw [hL7]
      have t8 : totBs x.delta = (l8 : Int) := by unfold totBs; rw [hL8]
      rw [← hL6] at h6; rw [t6, ← hL7] at h7; rw [t6, t7, ← hL8] at h8
      have HZ2 := Lib.hid (show z + 1 + 1 + 1 + 1 + 1 + 1 + (l6 : Int) + l7 + l8 = k + sumI cntRec (xs.take (i + 1)) by rw [sumI_take hx, HZ.out, hcx, t6, t7, t8]; omega)
      have hz2 : z + 6 + l6 + l7 + l8 ≤ 4611686018427387904 := by omega
      have H6 := Lib.hid h6; have H7 := Lib.hid h7; have H8 := Lib.hid h8
      have hd0 : wr.cell? ⟨b, off + i * 9, none⟩ = some (.int .i64 z) := hc0
      have hd1 : wr.cell? ⟨b, off + i * 9 + 1, none⟩ = some (.int .i64 (z + 1)) := hc1
      have hd2 : wr.cell? ⟨b, off + i * 9 + 2, none⟩ = some (.string (mtext (z + 2))) := hc2
      have hd3 : wr.cell? ⟨b, off + i * 9 + 3, none⟩ = some (.int .i64 (z + 3)) := hc3
      have hd4 : wr.cell? ⟨b, off + i * 9 + 4, none⟩ = some (.int .i64 (z + 4)) := hc4
      have hd5 : wr.cell? ⟨b, off + i * 9 + 5, none⟩ = some (.int .i64 (z + 5)) := hc5
      have HD2 := Lib.hid hd2
      have HD := Lib.hid (And.intro hd3 (And.intro hd4 (And.intro hd5 (And.intro hc6 (And.intro hc7 hc8)))))
      have n0 : ((z : Int) != z) = false := by simp
      have n1 : ((z + 1 : Int) != z + 1) = false := by simp
      have n3 : ((z + 3 : Int) != z + 1 + 1 + 1) = false := by rw [bne_eq_false_iff_eq]; omega
      have n4 : ((z + 4 : Int) != z + 1 + 1 + 1 + 1) = false := by rw [bne_eq_false_iff_eq]; omega
      have n5 : ((z + 5 : Int) != z + 1 + 1 + 1 + 1 + 1) = false := by rw [bne_eq_false_iff_eq]; omega
      have HT := Lib.hid (show mtext (z + 2) = mtext (z + 1 + 1) by rw [show z + 2 = z + 1 + 1 by omega])
      have hbz6 : 0 ≤ z + 1 + 1 + 1 + 1 + 1 + 1 := by omega
      clear hc hx hz1 hcx h6 h7 h8 HYS HY hc0 hc1 hc2 hc3 hc4 hc5 hd3 hd4 hd5 hc6 hc7 hc8 t6 t7 t8 hL6 hL7 hL8
      go_wp2_with fail
      obtain ⟨SS1, HSI1, HSO1⟩ := rg_cond (fun w' => w'.cell? ⟨b, off + i * 9 + 2, none⟩ = some (.string (mtext (z + 1 + 1))))
      have hS0 := HSI1.out wr.drew (by rw [← HT.out]; exact HD2.out)
      refine rg_start SS1 (by kernel_rfl) hS0 ?_
      refine rgT 0 hS0 ?_
      refine rgT 1 hS0 ?_
      refine rgT 2 hS0 ?_
      refine rgT 3 hS0 ?_
      refine rgL 4 hS0 HSO1 ?_
      refine rgT 5 hS0 ?_
      refine rg_call 6 rfl (by kernel_rfl) (fun K hK => ?_)
      go_simp
      go_at_call 161
      refine (markText_any (z + 1 + 1) (by omega) (by omega) _).mono ?_; rintro e w3 ⟨rfl, hc3⟩
      have HC3 := Lib.hid ((Chg.refl [] wr).drew.trans0 hc3); clear hc3
      go_wp2_with fail
      refine hK.out _ _ (HSI1.out _ (by rw [← HT.out]; exact cellKeep HC3.out HD2.out hlb)) (fun hS1 => ?_)
      clear hK K
      try simp only [Act.put, List.setIfInBounds_toArray, List.set_cons_zero, List.set_cons_succ]
      refine rgT 7 hS1 ?_
      refine wpAnyH_done (by kernel_rfl) ?_ _
      have hr3 := cellKeep HC3.out HD.out.1 hlb
      have hr4 := cellKeep HC3.out HD.out.2.1 hlb
      have hr5 := cellKeep HC3.out HD.out.2.2.1 hlb
      have hr6 := cellKeep HC3.out HD.out.2.2.2.1 hlb
      have HR78 := Lib.hid (And.intro (cellKeep HC3.out HD.out.2.2.2.2.1 hlb) (cellKeep HC3.out HD.out.2.2.2.2.2 hlb))
      have hlb3 := Nat.lt_of_lt_of_le hlb HC3.out.size
      have hne : ((mtext (z + 1 + 1)).toList != (mtext (z + 1 + 1)).toList) = false := by simp
      have HI6 := Lib.hid (heldI_any a6 l6 c6 f6 (z + 1 + 1 + 1 + 1 + 1 + 1) w3 (by rw [show z + 1 + 1 + 1 + 1 + 1 + 1 = z + 6 by omega]; exact intL.sl_ext H6.out HC3.out) (by omega) (by omega))
      have hn6 : ¬ (z + 1 + 1 + 1 + 1 + 1 + 1 + (l6 : Int) < 0) := by omega
      have hn7 : ¬ (z + 1 + 1 + 1 + 1 + 1 + 1 + (l6 : Int) + l7 < 0) := by omega
      have hn8 : ¬ (z + 1 + 1 + 1 + 1 + 1 + 1 + (l6 : Int) + l7 + l8 < 0) := by omega
      clear hd0 hd1 hd2
      go_wp2_with fail
      refine HI6.out.mono ?_; rintro e w4 ⟨rfl, hc4⟩
      have hr7 := cellKeep hc4 HR78.out.1 hlb3
      have HR8 := Lib.hid (cellKeep hc4 HR78.out.2 hlb3)
      have hlb4 := Nat.lt_of_lt_of_le hlb3 hc4.size
      have HC4 := Lib.hid (HC3.out.trans0 hc4); clear hc4 hr3 hr4 hr5 hr6
      have HI7 := Lib.hid (heldB_any a7 l7 c7 f7 (z + 1 + 1 + 1 + 1 + 1 + 1 + l6) w4 (by rw [show z + 1 + 1 + 1 + 1 + 1 + 1 + (l6 : Int) = z + 6 + l6 by omega]; exact byteL.sl_ext H7.out HC4.out) (by omega) (by omega))
      go_wp2_with fail
      refine HI7.out.mono ?_; rintro e w5 ⟨rfl, hc5⟩
      have hr8 := cellKeep hc5 HR8.out hlb4
      have hlb5 := Nat.lt_of_lt_of_le hlb4 hc5.size
      have HC5 := Lib.hid (HC4.out.trans0 hc5); clear hc5 hr7
      have HI8 := Lib.hid (heldB_any a8 l8 c8 f8 (z + 1 + 1 + 1 + 1 + 1 + 1 + l6 + l7) w5 (by rw [show z + 1 + 1 + 1 + 1 + 1 + 1 + (l6 : Int) + l7 = z + 6 + l6 + l7 by omega]; exact byteL.sl_ext H8.out HC5.out) (by omega) (by omega))
      go_wp2_with fail
      refine HI8.out.mono ?_; rintro e w6 ⟨rfl, hc6⟩
      have HC6 := Lib.hid (HC.out.trans0 (HC5.out.trans0 hc6)); clear hc6 hr8
      go_wp2_with fail
      go_roundw
      case rel => exact ⟨i + 1, _, _, rfl, by omega, rfl, HZ2, by go_num, HC6.out⟩
      case measure => simp [intOf]; omega
    · obtain rfl : i = la := by omega
      have HR := Lib.hid (show z = k + sumI cntRec xs by rw [HZ.out, List.take_of_length_le (by have := hl.out; omega)])
      clear hc
      go_wp2_with fail
      go_ret
      exact ⟨ret_int HR.out, HC.out⟩


set_option maxRecDepth 100000 in
set_option maxHeartbeats 1000000 in
theorem heldTapeS_any (a : Option Addr) (la ca : Nat) (xs : List Tap) (f : List Nat) (k : Int) (w : World) (ha : tapL.sl w a la ca (markL cntTap mkTap xs k) f) (hk : 0 ≤ k) (hk2 : k + sumI cntTap xs ≤ 4611686018427387904) :
    Calls Tryz.prog 131 #[.slice a la ca, .int .i64 k] w fun e w' => e = .returned (.int .i64 (k + sumI cntTap xs)) ∧ Chg [] w w' := by
  have hm := tapL.sl_max ha
  have hl := Lib.hid (show la = xs.length by rw [ha.1, markL_length])
  have HA := Lib.hid ha
  have HK := Lib.hid hk2
  clear ha hk2
  go_enter Tryz.func131, Tryz.ntmps131
  go_wp2_with fail
  go_loopw [1, 5] (fun u v wr => ∃ (i : Nat) (z : Int) (Wr : World), Wr = wr ∧ i ≤ la ∧ u = .int .i64 z ∧ RowKit.Hid (z = k + sumI cntTap (xs.take i)) ∧ v = .int .i64 i ∧ Chg [] w wr) (fun _ v _ => la - (intOf v).toNat)
  case atStart => exact ⟨0, k, _, rfl, by omega, rfl, by show k = k + 0; omega, rfl, Chg.refl _ _⟩
  case round =>
    obtain ⟨i, z, wr, rfl, hi, rfl, HZ, rfl, hc⟩ := hrel
    have HC := Lib.hid hc
    by_cases hlt : i < la
    · obtain ⟨y, b, off, A, ly, C, fy, HY, rfl, hc0, hc1, HYS⟩ := tape_at (tapL.sl_ext HA.out hc) hlt
      have hlb : b < wr.heap.size := Lay.sl_lt _ (tapL.sl_ext HA.out hc) _ HY.out.2.1
      obtain ⟨x, hx, hy⟩ := markL_at HY.out.1
      have HX := Lib.hid hx
      rw [← HZ.out] at hy
      subst hy
      have hz0 : 0 ≤ z := by rw [HZ.out]; have := sumI_nonneg cntTap_nonneg (xs.take i); omega
      have hz1 : z + cntTap x ≤ 4611686018427387904 := by
        have h1 := sumI_at cntTap_nonneg hx
        rw [HZ.out]; have := HK.out; omega
      have hcx : cntTap x = 1 + sumI cntRec x.recs := rfl
      have hin : 0 ≤ sumI cntRec x.recs := sumI_nonneg cntRec_nonneg _
      obtain ⟨a1, l1, c1, f1, ex, h1, -⟩ := tapL_iff.1 HYS.out
      obtain ⟨e1, e2, e3⟩ := Value.slice.inj (List.cons.inj (List.cons.inj ex).2).1
      subst e1 e2 e3
      replace h1 : recL.sl wr A ly C (markL cntRec mkRec x.recs (z + 1)) f1 := h1
      have HLY := Lib.hid (show (ly : Int) = ly from rfl)
      skip
      have HI := Lib.hid (heldRecS_any A ly C x.recs f1 (z + 1) wr h1 (by omega) (by omega))
      have HZ2 := Lib.hid (show z + 1 + sumI cntRec x.recs = k + sumI cntTap (xs.take (i + 1)) by rw [sumI_take hx, HZ.out, hcx]; omega)
      have hc0' : wr.cell? ⟨b, off + i * 2, none⟩ = some (.bool (z % 3 == 0)) := hc0
      have hzz : ((z % 3 == 0) != (z % 3 == 0)) = false := by simp
      have hz2 : z + 1 ≤ 4611686018427387904 := by omega
      obtain ⟨q, hq⟩ : ∃ q, q = sumI cntRec x.recs := ⟨_, rfl⟩
      rw [← hq] at HI HZ2 hin hcx
      have hzn : ¬ (z + 1 + q < 0) := by omega
      skip
      clear hc hx hz1 hcx hc0 h1 ex HYS HY hq HX
      go_wp2_with fail
      refine HI.out.mono ?_; rintro e w1 ⟨rfl, hcN⟩
      have HC1 := Lib.hid (HC.out.trans0 hcN); clear hcN
      go_wp2_with fail
      go_roundw
      case rel => exact ⟨i + 1, z + 1 + q, _, rfl, by omega, rfl, HZ2, by go_num, HC1.out⟩
      case measure => simp [intOf]; omega
    · obtain rfl : i = la := by omega
      have HR := Lib.hid (show z = k + sumI cntTap xs by rw [HZ.out, List.take_of_length_le (by have := hl.out; omega)])
      clear hc
      go_wp2_with fail
      go_ret
      exact ⟨ret_int HR.out, HC.out⟩

end Go.Proofs.YtnnhopcjlnnchaaGreat

/- Marks and finds of whole worlds; results that hold a world: equal, marked, found again. -/
namespace Go.Proofs.YtnnhopcjlnnchaaGreat
open Go.RowKit

set_option maxRecDepth 100000 in
set_option maxHeartbeats 2000000 in
theorem markWorld_any (x : Wld) (cx : Array Value) (fx : List Nat) (k : Int) (w : World) (hx : wldL.rep w cx.toList x fx) (hf : Fresh 0 w fx) (hk : 0 ≤ k) (hk2 : k + cntWld x ≤ 4611686018427387904) :
    Calls Tryz.prog 19 #[.agg cx, .int .i64 k] w fun e w' => e = .returned (.int .i64 (k + cntWld x)) ∧ wldL.rep w' cx.toList (mvWld k x) fx ∧ Chg fx w w' := by
  obtain ⟨a10, l10, c10, f10, a11, l11, c11, f11, a12, l12, c12, f12, ex, o1, o2, o3, o4, o5, o6, o7, o8, o9, h10, h11, h12, o13, o14, efp⟩ := wldL_iff.1 hx
  obtain rfl := Array.toList_inj.1 (ex.trans (List.toList_toArray).symm)
  rw [List.append_nil] at efp
  subst efp
  have hbx : w.heap.size ∉ f10 ++ (f11 ++ f12) := fun h => Nat.lt_irrefl _ (Lay.lt wldL hx _ (by simpa using h))
  obtain ⟨q10, hq10⟩ : ∃ q, q = sumI cntDrvs x.groups := ⟨_, rfl⟩
  obtain ⟨q12, hq12⟩ : ∃ q, q = sumI cntTap x.tapes := ⟨_, rfl⟩
  have n10 : 0 ≤ q10 := by rw [hq10]; exact sumI_nonneg cntDrvs_nonneg _
  have n12 : 0 ≤ q12 := by rw [hq12]; exact sumI_nonneg cntTap_nonneg _
  have t11 : totIs x.on = (l11 : Int) := by unfold totIs; rw [h11.1]
  have hcw : cntWld x = q10 + l11 + q12 := by unfold cntWld; rw [t11, hq10, hq12]
  have ndA := List.nodup_append.1 hf.1
  have ndB := List.nodup_append.1 ndA.2.1
  have lo10 : ∀ y ∈ f10, 0 ≤ y ∧ Loose (w.alloc (.cells #[.int .i64 x.shape.groups, .int .i64 x.shape.column, .int .i64 x.shape.data, .int .i64 x.shape.spare, .int .i64 x.shape.rows, .int .i64 x.shape.cap, .int .i64 x.shape.batch, .int .i64 x.shape.queue, .int .i64 x.shape.stage, .slice a10 l10 c10, .slice a11 l11 c11, .slice a12 l12 c12, .int .i64 x.writes, .int .i64 x.stop, .bool x.down] 40)) y := fun y hy => ⟨Nat.zero_le _, (hf.2 y (by simp [hy])).2.alloc _⟩
  have LO := Lib.hid (fun y hy => (hf.2 y hy).2 : ∀ y ∈ f10 ++ (f11 ++ f12), Loose w y)
  have D := Lib.hid (And.intro (fun y hy hy6 => ndA.2.2 y hy6 y (by simp [hy]) rfl : ∀ y ∈ f11, y ∉ f10) (And.intro (fun y hy hy6 => ndA.2.2 y hy6 y (by simp [hy]) rfl : ∀ y ∈ f12, y ∉ f10) (fun y hy hy7 => ndB.2.2 y hy7 y hy rfl : ∀ y ∈ f12, y ∉ f11)))
  have HI10 := Lib.hid (markDriveSS_any a10 l10 c10 x.groups f10 k _ (drvL.slice.sl_ext h10 ((Chg.refl [] w).alloc (.cells #[.int .i64 x.shape.groups, .int .i64 x.shape.column, .int .i64 x.shape.data, .int .i64 x.shape.spare, .int .i64 x.shape.rows, .int .i64 x.shape.cap, .int .i64 x.shape.batch, .int .i64 x.shape.queue, .int .i64 x.shape.stage, .slice a10 l10 c10, .slice a11 l11 c11, .slice a12 l12 c12, .int .i64 x.writes, .int .i64 x.stop, .bool x.down] 40))) ⟨ndA.1, lo10⟩ hk (by omega))
  rw [← hq10] at HI10
  have H11 := Lib.hid h11; have H12 := Lib.hid h12
  have HO := Lib.hid (And.intro o1 (And.intro o2 (And.intro o3 (And.intro o4 (And.intro o5 (And.intro o6 (And.intro o7 (And.intro o8 (And.intro o9 (And.intro o13 o14))))))))))
  have HB := Lib.hid hbx
  have HND := Lib.hid (And.intro ndB.1 ndB.2.1)
  have HW := Lib.hid hcw; have HQ := Lib.hid (And.intro hq10 (And.intro hq12 t11))
  have hbd : k + q10 + l11 + q12 ≤ 4611686018427387904 := by omega
  clear hx hf hk2 ex o1 o2 o3 o4 o5 o6 o7 o8 o9 o13 o14 h10 h11 h12 hbx ndA ndB lo10 hq10 hq12 t11 hcw
  go_enter Tryz.func19, Tryz.ntmps19
  go_wp2_with fail
  refine HI10.out.mono ?_
  rintro e w1 ⟨rfl, hs1, hc1⟩
  have hP := hc1.keepb (new_alloc w _) (fun h => HB.out (by simp [h]))
  have cP := cellsOf hP; have lP := ltOf hP; have HP := Lib.hid hP
  have g0 : Chg [] w (w.alloc (.cells #[.int .i64 x.shape.groups, .int .i64 x.shape.column, .int .i64 x.shape.data, .int .i64 x.shape.spare, .int .i64 x.shape.rows, .int .i64 x.shape.cap, .int .i64 x.shape.batch, .int .i64 x.shape.queue, .int .i64 x.shape.stage, .slice a10 l10 c10, .slice a11 l11 c11, .slice a12 l12 c12, .int .i64 x.writes, .int .i64 x.stop, .bool x.down] 40)) := (Chg.refl [] w).alloc _
  have HI11 := Lib.hid (markI_any a11 l11 c11 x.on f11 (k + q10) w1 (intL.sl_chg (intL.sl_ext H11.out g0) hc1 D.out.1) ⟨HND.out.1, fun y hy => ⟨Nat.zero_le _, hc1.loose y ((LO.out y (by simp [hy])).alloc _)⟩⟩ (by omega) (by omega))
  have H12' := Lib.hid (tapL.sl_chg (tapL.sl_ext H12.out g0) hc1 D.out.2.1)
  have HC1 := Lib.hid ((g0.mono (T := f10) (by simp)).trans hc1 (fun x hx => .inl hx))
  have HC1' := Lib.hid hc1
  have HS1 := Lib.hid hs1
  clear hs1 hc1 hP g0
  go_wp2_with fail
  refine HI11.out.mono ?_
  rintro e w2 ⟨rfl, hs2, hc2⟩
  have hP := hc2.keepb HP.out (fun h => HB.out (by simp [h]))
  clear cP lP HP
  have cP := cellsOf hP; have lP := ltOf hP
  have HI12 := Lib.hid (markTapeS_any a12 l12 c12 x.tapes f12 (k + q10 + l11) w2 (tapL.sl_chg H12'.out hc2 D.out.2.2) ⟨HND.out.2, fun y hy => ⟨Nat.zero_le _, hc2.loose y (HC1'.out.loose y ((LO.out y (by simp [hy])).alloc _))⟩⟩ (by omega) (by rw [← HQ.out.2.1]; omega))
  rw [← HQ.out.2.1] at HI12
  have HS1' := Lib.hid (drvL.slice.sl_chg HS1.out hc2 (fun y hy hm => D.out.1 y hm hy))
  have HS2 := Lib.hid hs2
  have HC2 := Lib.hid hc2
  clear hs2 hc2 hP
  go_wp2_with fail
  refine HI12.out.mono ?_
  rintro e w3 ⟨rfl, hs3, hc3⟩
  have r10 := drvL.slice.sl_chg HS1'.out hc3 (fun y hy hm => D.out.2.1 y hm hy)
  have r11 := intL.sl_chg HS2.out hc3 (fun y hy hm => D.out.2.2 y hm hy)
  have HL11 := Lib.hid H11.out.1
  have r11' : intL.sl w3 a11 l11 c11 (markIL (k + sumI cntDrvs x.groups) x.on.length) f11 := by rw [← HQ.out.1, ← HL11.out]; exact r11
  have r12' : tapL.sl w3 a12 l12 c12 (markL cntTap mkTap x.tapes (k + sumI cntDrvs x.groups + totIs x.on)) f12 := by rw [← HQ.out.1, HQ.out.2.2]; exact hs3
  have HR := Lib.hid (wldL_iff.2 ⟨a10, l10, c10, f10, a11, l11, c11, f11, a12, l12, c12, f12, rfl, HO.out.1, HO.out.2.1, HO.out.2.2.1, HO.out.2.2.2.1, HO.out.2.2.2.2.1, HO.out.2.2.2.2.2.1, HO.out.2.2.2.2.2.2.1, HO.out.2.2.2.2.2.2.2.1, HO.out.2.2.2.2.2.2.2.2.1, r10, r11', r12', HO.out.2.2.2.2.2.2.2.2.2.1, HO.out.2.2.2.2.2.2.2.2.2.2, (by simp)⟩ : wldL.rep w3 [.int .i64 x.shape.groups, .int .i64 x.shape.column, .int .i64 x.shape.data, .int .i64 x.shape.spare, .int .i64 x.shape.rows, .int .i64 x.shape.cap, .int .i64 x.shape.batch, .int .i64 x.shape.queue, .int .i64 x.shape.stage, .slice a10 l10 c10, .slice a11 l11 c11, .slice a12 l12 c12, .int .i64 x.writes, .int .i64 x.stop, .bool x.down] (mvWld k x) (f10 ++ (f11 ++ f12)))
  have HC := Lib.hid (((HC1.out.mono (T := f10 ++ (f11 ++ f12)) (fun y hy => .inl (by simp [hy]))).trans HC2.out (fun y hy => .inl (by simp [hy]))).trans hc3 (fun y hy => .inl (by simp [hy])))
  have HZ := Lib.hid (show k + q10 + (l11 : Int) + q12 = k + cntWld x by rw [HW.out]; omega)
  clear hs3 hc3 r10 r11 r11' r12' cP lP
  go_wp2_with fail
  go_ret
  exact ⟨ret_int HZ.out, HR.out, HC.out⟩

set_option maxRecDepth 100000 in
set_option maxHeartbeats 2000000 in
theorem heldWorld_any (x : Wld) (cx : Array Value) (fx : List Nat) (k : Int) (w : World) (hx : wldL.rep w cx.toList (mvWld k x) fx) (hk : 0 ≤ k) (hk2 : k + cntWld x ≤ 4611686018427387904) :
    Calls Tryz.prog 81 #[.agg cx, .int .i64 k] w fun e w' => e = .returned (.int .i64 (k + cntWld x)) ∧ Chg [] w w' := by
  obtain ⟨a10, l10, c10, f10, a11, l11, c11, f11, a12, l12, c12, f12, ex, -, -, -, -, -, -, -, -, -, h10, h11, h12, -, -, -⟩ := wldL_iff.1 hx
  obtain rfl := Array.toList_inj.1 (ex.trans (List.toList_toArray).symm)
  obtain ⟨q10, hq10⟩ : ∃ q, q = sumI cntDrvs x.groups := ⟨_, rfl⟩
  obtain ⟨q12, hq12⟩ : ∃ q, q = sumI cntTap x.tapes := ⟨_, rfl⟩
  have n10 : 0 ≤ q10 := by rw [hq10]; exact sumI_nonneg cntDrvs_nonneg _
  have n12 : 0 ≤ q12 := by rw [hq12]; exact sumI_nonneg cntTap_nonneg _
  replace h10 : drvL.slice.sl w a10 l10 c10 (markL cntDrvs mkDrvs x.groups k) f10 := h10
  replace h11 : intL.sl w a11 l11 c11 (markIL (k + sumI cntDrvs x.groups) x.on.length) f11 := h11
  replace h12 : tapL.sl w a12 l12 c12 (markL cntTap mkTap x.tapes (k + sumI cntDrvs x.groups + totIs x.on)) f12 := h12
  have hl11 : l11 = x.on.length := by rw [h11.1, markIL_length]
  have t11 : totIs x.on = (l11 : Int) := by unfold totIs; rw [hl11]
  rw [← hq10, ← hl11] at h11
  rw [← hq10, t11] at h12
  have hcw : cntWld x = q10 + l11 + q12 := by unfold cntWld; rw [t11, hq10, hq12]
  have HQ := Lib.hid (And.intro hq10 hq12)
  have hbd : k + q10 + l11 + q12 ≤ 4611686018427387904 := by omega
  have HZ := Lib.hid (show k + q10 + (l11 : Int) + q12 = k + cntWld x by rw [hcw]; omega)
  have H10 := Lib.hid h10; have H11 := Lib.hid h11; have H12 := Lib.hid h12
  have m1 : ¬ (k + q10 < 0) := by omega
  have m2 : ¬ (k + q10 + l11 < 0) := by omega
  have m3 : ¬ (k + q10 + l11 + q12 < 0) := by omega
  clear hx hk2 ex h10 h11 h12 hq10 hq12 hl11 t11 hcw
  go_enter Tryz.func81, Tryz.ntmps81
  go_wp2_with fail
  have g0 : Chg [] w (w.alloc (.cells #[.int .i64 (mvWld k x).shape.groups, .int .i64 (mvWld k x).shape.column, .int .i64 (mvWld k x).shape.data, .int .i64 (mvWld k x).shape.spare, .int .i64 (mvWld k x).shape.rows, .int .i64 (mvWld k x).shape.cap, .int .i64 (mvWld k x).shape.batch, .int .i64 (mvWld k x).shape.queue, .int .i64 (mvWld k x).shape.stage, .slice a10 l10 c10, .slice a11 l11 c11, .slice a12 l12 c12, .int .i64 (mvWld k x).writes, .int .i64 (mvWld k x).stop, .bool (mvWld k x).down] 40)) := (Chg.refl [] w).alloc _
  refine (heldDriveSS_any a10 l10 c10 x.groups f10 k _ (drvL.slice.sl_ext H10.out g0) hk (by rw [← HQ.out.1]; omega)).mono ?_
  rw [← HQ.out.1]
  rintro e w1 ⟨rfl, hc1⟩
  have hP := hc1.keep0 (new_alloc w _)
  have cP := cellsOf hP; have lP := ltOf hP; have HP := Lib.hid hP
  have HC1 := Lib.hid (g0.trans0 hc1)
  clear hc1 hP g0
  go_wp2_with fail
  refine (heldI_any a11 l11 c11 f11 (k + q10) _ (intL.sl_ext H11.out HC1.out) (by omega) (by omega)).mono ?_
  rintro e w2 ⟨rfl, hc2⟩
  have hP := hc2.keep0 HP.out
  clear cP lP HP
  have cP := cellsOf hP; have lP := ltOf hP
  have HC2 := Lib.hid (HC1.out.trans0 hc2)
  clear hc2 hP
  go_wp2_with fail
  refine (heldTapeS_any a12 l12 c12 x.tapes f12 (k + q10 + l11) _ (tapL.sl_ext H12.out HC2.out) (by omega) (by rw [← HQ.out.2]; omega)).mono ?_
  rw [← HQ.out.2]
  rintro e w3 ⟨rfl, hc3⟩
  have HC3 := Lib.hid (HC2.out.trans0 hc3)
  clear hc3 cP lP
  go_wp2_with fail
  go_ret
  exact ⟨ret_int HZ.out, HC3.out⟩

/-- a world's cells, as the walk sees them -/
theorem wrs_open {w : World} {cx : Array Value} {x : WRes} {fp : List Nat} (h : wrsL.rep w cx.toList x fp) : ∃ (a10 : Option Addr) (l10 c10 : Nat) (a11 : Option Addr) (l11 c11 : Nat) (a12 : Option Addr) (l12 c12 : Nat), cx = #[.int .i64 x.code, .int .i64 x.world.shape.groups, .int .i64 x.world.shape.column, .int .i64 x.world.shape.data, .int .i64 x.world.shape.spare, .int .i64 x.world.shape.rows, .int .i64 x.world.shape.cap, .int .i64 x.world.shape.batch, .int .i64 x.world.shape.queue, .int .i64 x.world.shape.stage, .slice a10 l10 c10, .slice a11 l11 c11, .slice a12 l12 c12, .int .i64 x.world.writes, .int .i64 x.world.stop, .bool x.world.down] ∧ i64ok x.code ∧ wldL.rep w [.int .i64 x.world.shape.groups, .int .i64 x.world.shape.column, .int .i64 x.world.shape.data, .int .i64 x.world.shape.spare, .int .i64 x.world.shape.rows, .int .i64 x.world.shape.cap, .int .i64 x.world.shape.batch, .int .i64 x.world.shape.queue, .int .i64 x.world.shape.stage, .slice a10 l10 c10, .slice a11 l11 c11, .slice a12 l12 c12, .int .i64 x.world.writes, .int .i64 x.world.stop, .bool x.world.down] x.world fp := by
  obtain ⟨rest, ex, hcode, hw⟩ := wrsL_iff.1 h
  obtain ⟨a10, l10, c10, f10, a11, l11, c11, f11, a12, l12, c12, f12, e2, _⟩ := wldL_iff.1 hw
  subst e2
  exact ⟨a10, l10, c10, a11, l11, c11, a12, l12, c12, Array.toList_inj.1 ex, hcode, hw⟩
set_option maxRecDepth 100000 in
set_option maxHeartbeats 2000000 in
theorem eqWorldResult_any (x : WRes) (cx cy : Array Value) (fx fy : List Nat) (w : World) (hx : wrsL.rep w cx.toList x fx) (hy : wrsL.rep w cy.toList x fy) :
    Calls Tryz.prog 24 #[.agg cx, .agg cy] w fun e w' => e = .returned (.bool true) ∧ Chg [] w w' := by
  obtain ⟨a10, l10, c10, a11, l11, c11, a12, l12, c12, rfl, -, h1⟩ := wrs_open hx
  obtain ⟨b10, m10, d10, b11, m11, d11, b12, m12, d12, rfl, -, h2⟩ := wrs_open hy
  have hcc : ((x.code : Int) != x.code) = false := by simp
  have H1 := Lib.hid h1; have H2 := Lib.hid h2
  clear hx hy h1 h2
  go_enter Tryz.func24, Tryz.ntmps24
  go_wp2_with fail
  refine (eqWorld_any x.world #[.int .i64 x.world.shape.groups, .int .i64 x.world.shape.column, .int .i64 x.world.shape.data, .int .i64 x.world.shape.spare, .int .i64 x.world.shape.rows, .int .i64 x.world.shape.cap, .int .i64 x.world.shape.batch, .int .i64 x.world.shape.queue, .int .i64 x.world.shape.stage, .slice a10 l10 c10, .slice a11 l11 c11, .slice a12 l12 c12, .int .i64 x.world.writes, .int .i64 x.world.stop, .bool x.world.down] #[.int .i64 x.world.shape.groups, .int .i64 x.world.shape.column, .int .i64 x.world.shape.data, .int .i64 x.world.shape.spare, .int .i64 x.world.shape.rows, .int .i64 x.world.shape.cap, .int .i64 x.world.shape.batch, .int .i64 x.world.shape.queue, .int .i64 x.world.shape.stage, .slice b10 m10 d10, .slice b11 m11 d11, .slice b12 m12 d12, .int .i64 x.world.writes, .int .i64 x.world.stop, .bool x.world.down] fx fy _ (wldL.ext H1.out ?_) (wldL.ext H2.out ?_)).mono ?_
  · exact ((Chg.refl [] w).alloc _).alloc _
  · exact ((Chg.refl [] w).alloc _).alloc _
  rintro e w1 ⟨rfl, hc1⟩
  have HC1 := Lib.hid ((((Chg.refl [] w).alloc _).alloc _).trans0 hc1)
  clear hc1
  go_wp2_with fail
  go_ret
  exact ⟨rfl, HC1.out⟩
set_option maxRecDepth 100000 in
set_option maxHeartbeats 2000000 in
theorem markWorldResult_any (x : WRes) (cx : Array Value) (fx : List Nat) (k : Int) (w : World) (hx : wrsL.rep w cx.toList x fx) (hf : Fresh 0 w fx) (hk : 0 ≤ k) (hk2 : k + cntWld x.world ≤ 4611686018427387904) :
    Calls Tryz.prog 25 #[.agg cx, .int .i64 k] w fun e w' => e = .returned (.int .i64 (k + cntWld x.world)) ∧ wrsL.rep w' cx.toList ⟨x.code, mvWld k x.world⟩ fx ∧ Chg fx w w' := by
  obtain ⟨a10, l10, c10, a11, l11, c11, a12, l12, c12, rfl, hcode, h1⟩ := wrs_open hx
  have H1 := Lib.hid h1; have HF := Lib.hid hf; have HC0 := Lib.hid hcode; have HK := Lib.hid hk2
  clear hx h1 hf hcode hk2
  go_enter Tryz.func25, Tryz.ntmps25
  go_wp2_with fail
  have g0 : Chg [] w (w.alloc (.cells #[.int .i64 x.code, .int .i64 x.world.shape.groups, .int .i64 x.world.shape.column, .int .i64 x.world.shape.data, .int .i64 x.world.shape.spare, .int .i64 x.world.shape.rows, .int .i64 x.world.shape.cap, .int .i64 x.world.shape.batch, .int .i64 x.world.shape.queue, .int .i64 x.world.shape.stage, .slice a10 l10 c10, .slice a11 l11 c11, .slice a12 l12 c12, .int .i64 x.world.writes, .int .i64 x.world.stop, .bool x.world.down] 48)) := (Chg.refl [] w).alloc _
  refine (markWorld_any x.world #[.int .i64 x.world.shape.groups, .int .i64 x.world.shape.column, .int .i64 x.world.shape.data, .int .i64 x.world.shape.spare, .int .i64 x.world.shape.rows, .int .i64 x.world.shape.cap, .int .i64 x.world.shape.batch, .int .i64 x.world.shape.queue, .int .i64 x.world.shape.stage, .slice a10 l10 c10, .slice a11 l11 c11, .slice a12 l12 c12, .int .i64 x.world.writes, .int .i64 x.world.stop, .bool x.world.down] fx k _ (wldL.ext H1.out g0) (HF.out.chg g0) hk HK.out).mono ?_
  rintro e w1 ⟨rfl, hs1, hc1⟩
  have HN := Lib.hid (And.intro (wrsL_iff.2 ⟨_, rfl, HC0.out, hs1⟩ : wrsL.rep w1 [.int .i64 x.code, .int .i64 x.world.shape.groups, .int .i64 x.world.shape.column, .int .i64 x.world.shape.data, .int .i64 x.world.shape.spare, .int .i64 x.world.shape.rows, .int .i64 x.world.shape.cap, .int .i64 x.world.shape.batch, .int .i64 x.world.shape.queue, .int .i64 x.world.shape.stage, .slice a10 l10 c10, .slice a11 l11 c11, .slice a12 l12 c12, .int .i64 x.world.writes, .int .i64 x.world.stop, .bool x.world.down] ⟨x.code, mvWld k x.world⟩ fx) ((g0.mono (T := fx) (by simp)).trans hc1 (fun x hx => .inl hx)))
  clear hs1 hc1 g0
  go_wp2_with fail
  go_ret
  exact ⟨rfl, HN.out.1, HN.out.2⟩
set_option maxRecDepth 100000 in
set_option maxHeartbeats 2000000 in
theorem heldWorldResult_any (x : WRes) (cx : Array Value) (fx : List Nat) (k : Int) (w : World) (hx : wrsL.rep w cx.toList ⟨x.code, mvWld k x.world⟩ fx) (hk : 0 ≤ k) (hk2 : k + cntWld x.world ≤ 4611686018427387904) :
    Calls Tryz.prog 26 #[.agg cx, .int .i64 k] w fun e w' => e = .returned (.int .i64 (k + cntWld x.world)) ∧ Chg [] w w' := by
  obtain ⟨a10, l10, c10, a11, l11, c11, a12, l12, c12, rfl, -, h1⟩ := wrs_open hx
  have H1 := Lib.hid h1; have HK := Lib.hid hk2
  have hn := cntWld_nonneg x.world
  obtain ⟨q, hq⟩ : ∃ q, q = cntWld x.world := ⟨_, rfl⟩
  have HQ := Lib.hid hq
  rw [← hq] at hn
  have m1 : ¬ (k + q < 0) := by omega
  rw [← hq]
  clear hx h1 hk2 hq
  go_enter Tryz.func26, Tryz.ntmps26
  go_wp2_with fail
  have HCI := Lib.hid (heldWorld_any x.world #[.int .i64 (mvWld k x.world).shape.groups, .int .i64 (mvWld k x.world).shape.column, .int .i64 (mvWld k x.world).shape.data, .int .i64 (mvWld k x.world).shape.spare, .int .i64 (mvWld k x.world).shape.rows, .int .i64 (mvWld k x.world).shape.cap, .int .i64 (mvWld k x.world).shape.batch, .int .i64 (mvWld k x.world).shape.queue, .int .i64 (mvWld k x.world).shape.stage, .slice a10 l10 c10, .slice a11 l11 c11, .slice a12 l12 c12, .int .i64 (mvWld k x.world).writes, .int .i64 (mvWld k x.world).stop, .bool (mvWld k x.world).down] fx k _ (wldL.ext H1.out ((Chg.refl [] w).alloc (.cells #[.int .i64 x.code, .int .i64 (mvWld k x.world).shape.groups, .int .i64 (mvWld k x.world).shape.column, .int .i64 (mvWld k x.world).shape.data, .int .i64 (mvWld k x.world).shape.spare, .int .i64 (mvWld k x.world).shape.rows, .int .i64 (mvWld k x.world).shape.cap, .int .i64 (mvWld k x.world).shape.batch, .int .i64 (mvWld k x.world).shape.queue, .int .i64 (mvWld k x.world).shape.stage, .slice a10 l10 c10, .slice a11 l11 c11, .slice a12 l12 c12, .int .i64 (mvWld k x.world).writes, .int .i64 (mvWld k x.world).stop, .bool (mvWld k x.world).down] 48))) hk HK.out)
  rw [← HQ.out] at HCI
  refine HCI.out.mono ?_
  rintro e w1 ⟨rfl, hc1⟩
  have HC1 := Lib.hid (((Chg.refl [] w).alloc _).trans0 hc1)
  clear hc1 HCI
  go_wp2_with fail
  go_ret
  exact ⟨rfl, HC1.out⟩

end Go.Proofs.YtnnhopcjlnnchaaGreat
