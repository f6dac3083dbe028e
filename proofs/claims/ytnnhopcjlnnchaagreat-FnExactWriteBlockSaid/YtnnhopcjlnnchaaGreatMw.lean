/- Several texts in one. -/
import Derived.Test.YtnnhopcjlnnchaaGreatGrc
import Derived.Test.YtnnhopcjlnnchaaGreatPut
import Derived.Test.YtnnhopcjlnnchaaGreatWra
import Derived.Test.YtnnhopcjlnnchaaGreatMa
import Derived.Laws.CopyRow
import Derived.Laws.Cells
import Derived.Test.YtnnhopcjlnnchaaGreatCpwM
import Derived.Test.YtnnhopcjlnnchaaGreatWrs
import Derived.Test.YtnnhopcjlnnchaaGreatL5cM
import Derived.Test.YtnnhopcjlnnchaaGreatWfj
import Derived.Test.YtnnhopcjlnnchaaGreatWfu
import Derived.Test.YtnnhopcjlnnchaaGreatWhW
/- A row of data in one block of its own, element by element; no element points into the block. No function of the program in sight. -/
namespace Go.Proofs.YtnnhopcjlnnchaaGreat
open Go.RowKit

/-- the data of a row, each with the blocks that it uses -/
def RowAt {α : Type} (L : Lay α) (w : World) (b off : Nat) (ps : List (α × List Nat)) : Prop :=
 ∃ cur E, w.heap[b]? = some (.cells cur E (0, 0)) ∧ (0 < ps.length → off + ps.length * L.n ≤ cur.size) ∧ ∀ (i : Nat) p, ps[i]? = some p → L.rep w ((cur.toList.drop (off + i * L.n)).take L.n) p.1 p.2 ∧ b ∉ p.2
section
variable {α : Type} {L : Lay α} {w w' : World} {b off : Nat} {ps : List (α × List Nat)}
theorem RowAt.lt (h : RowAt L w b off ps) : b < w.heap.size := by obtain ⟨cur, E, h1, _⟩ := h; exact ltOf h1
theorem RowAt.loose (h : RowAt L w b off ps) : Loose w b := by obtain ⟨cur, E, h1, _⟩ := h; exact ⟨_, _, h1⟩
theorem RowAt.keep (h : RowAt L w b off ps) (hb : w'.heap[b]? = w.heap[b]?) (hk : ∀ p ∈ ps, ∀ y ∈ p.2, w'.heap[y]? = w.heap[y]?) : RowAt L w' b off ps := by
 obtain ⟨cur, E, h1, h2, h3⟩ := h
 exact ⟨cur, E, hb.trans h1, h2, fun i p hp => ⟨L.keep (h3 i p hp).1 (hk p (List.mem_of_getElem? hp)), (h3 i p hp).2⟩⟩
theorem RowAt.fp_lt (h : RowAt L w b off ps) {p : α × List Nat} (hp : p ∈ ps) : ∀ y ∈ p.2, y < w.heap.size := by
 obtain ⟨cur, E, h1, h2, h3⟩ := h
 obtain ⟨i, hi, e⟩ := List.getElem_of_mem hp
 exact L.lt (h3 i p (by rw [List.getElem?_eq_getElem hi, e])).1
theorem RowAt.chg {S : List Nat} (h : RowAt L w b off ps) (hc : Chg S w w') (hb : b ∉ S) (hS : ∀ p ∈ ps, ∀ y ∈ p.2, y ∉ S) : RowAt L w' b off ps :=
 h.keep (hc.block b h.lt hb) (fun p hp y hy => hc.block y (h.fp_lt hp y hy) (hS p hp y hy))
theorem RowAt.ext (h : RowAt L w b off ps) (hc : Chg [] w w') : RowAt L w' b off ps := h.chg hc (by simp) (by simp)
/-- the cells of an element -/
theorem RowAt.at (h : RowAt L w b off ps) {i : Nat} (hi : i < ps.length) : ∃ p c, ps[i]? = some p ∧ L.rep w c p.1 p.2 ∧ b ∉ p.2 ∧ ∀ j, j < L.n → w.cell? ⟨b, off + i * L.n + j, none⟩ = c[j]? := by
 obtain ⟨cur, E, h1, h2, h3⟩ := h
 have hp : ps[i]? = some ps[i] := List.getElem?_eq_getElem hi
 refine ⟨_, _, hp, (h3 i _ hp).1, (h3 i _ hp).2, fun j hj => ?_⟩
 rw [cellsOf h1, List.getElem?_take_of_lt hj, List.getElem?_drop]
 simp
theorem RowAt.free (h : RowAt L w b off ps) : ∀ j, w.frozen? ⟨b, j, none⟩ = false := by obtain ⟨cur, E, h1, _⟩ := h; exact freeOf h1
/-- an element replaced -/
theorem RowAt.put (h : RowAt L w b off ps) {i : Nat} (hi : i < ps.length) {x : α} {c : List Value} {f : List Nat} (hr : L.rep w c x f) (hb : b ∉ f) : RowAt L (w.setCells b (off + i * L.n) c) b off (ps.set i (x, f)) := by
 obtain ⟨cur, E, h1, h2, h3⟩ := h
 have hcl := L.len hr
 have hle : (i + 1) * L.n ≤ ps.length * L.n := Nat.mul_le_mul_right _ (by omega)
 rw [Nat.add_mul, Nat.one_mul] at hle
 have hsz : off + i * L.n + c.length ≤ cur.size := by have := h2 (by omega); omega
 have htl := setRow_toList c (off + i * L.n) cur hsz
 have hct : cur.toList.length = cur.size := by simp
 refine ⟨_, E, setCells_heap c _ w cur h1, ?_, fun j p hp => ?_⟩
 ·rw [List.length_set]
  have : (setRow cur (off + i * L.n) c).size = cur.size := by
   have h5 := congrArg List.length htl
   rw [Array.length_toList] at h5
   rw [h5, List.length_append, List.length_append, List.length_take, List.length_drop]
   omega
  rw [this]; exact h2
 ·have hfar : ∀ y, y ≠ b → (w.setCells b (off + i * L.n) c).heap[y]? = w.heap[y]? := fun y hy => setCells_far hy c _ w
  by_cases e : i = j
  ·subst e
   rw [List.getElem?_set_self hi] at hp
   obtain rfl := Option.some.inj hp
   refine ⟨?_, hb⟩
   have e2 : ((setRow cur (off + i * L.n) c).toList.drop (off + i * L.n)).take L.n = c := by
    rw [htl, List.drop_append_of_le_length (by rw [List.length_take]; omega), List.drop_take, Nat.sub_self, List.take_zero, List.nil_append, List.take_append_of_le_length (by omega), List.take_of_length_le (by omega)]
   rw [e2]
   exact L.keep hr (fun y hy => hfar y (fun e => hb (e ▸ hy)))
  ·rw [List.getElem?_set_ne e] at hp
   obtain ⟨h4, h5⟩ := h3 j p hp
   refine ⟨?_, h5⟩
   have hj := (List.getElem?_eq_some_iff.1 hp).1
   have hjle : (j + 1) * L.n ≤ ps.length * L.n := Nat.mul_le_mul_right _ (by omega)
   rw [Nat.add_mul, Nat.one_mul] at hjle
   have e2 : ((setRow cur (off + i * L.n) c).toList.drop (off + j * L.n)).take L.n = (cur.toList.drop (off + j * L.n)).take L.n := by
    apply List.ext_getElem?
    intro k
    by_cases hk : k < L.n
    ·rw [List.getElem?_take_of_lt hk, List.getElem?_take_of_lt hk, List.getElem?_drop, List.getElem?_drop, htl]
     rcases Nat.lt_or_gt_of_ne e with hij | hij
     ·have : (i + 1) * L.n ≤ j * L.n := Nat.mul_le_mul_right _ hij
      rw [Nat.add_mul, Nat.one_mul] at this
      rw [List.getElem?_append_right (by rw [List.length_take]; omega), List.length_take, List.getElem?_append_right (by omega), List.getElem?_drop]
      congr 1
      omega
     ·have : (j + 1) * L.n ≤ i * L.n := Nat.mul_le_mul_right _ hij
      rw [Nat.add_mul, Nat.one_mul] at this
      rw [List.getElem?_append_left (by rw [List.length_take]; omega), List.getElem?_take_of_lt (by omega)]
    ·rw [List.getElem?_eq_none (by rw [List.length_take]; omega), List.getElem?_eq_none (by rw [List.length_take]; omega)]
   rw [e2]
   exact L.keep h4 (fun y hy => hfar y (fun e => h5 (e ▸ hy)))
/-- the beginning of a row -/
theorem RowAt.take (h : RowAt L w b off ps) (n : Nat) : RowAt L w b off (ps.take n) := by
 obtain ⟨cur, E, h1, h2, h3⟩ := h
 have hle : (ps.take n).length * L.n ≤ ps.length * L.n := Nat.mul_le_mul_right _ (by rw [List.length_take]; omega)
 refine ⟨cur, E, h1, fun h0 => by have := h2 (by rw [List.length_take] at h0; omega); omega, fun i p hp => h3 i p ?_⟩
 have hi : i < n := by have := (List.getElem?_eq_some_iff.1 hp).1; rw [List.length_take] at this; omega
 rwa [List.getElem?_take_of_lt hi] at hp
end
theorem row_all {α : Type} {L : Lay α} {w : World} : ∀ {ps : List (α × List Nat)} {cs : List Value}, cs.length = ps.length * L.n → (∀ (i : Nat) p, ps[i]? = some p → L.rep w ((cs.drop (i * L.n)).take L.n) p.1 p.2) → L.all w cs (ps.map (·.1)) (ps.flatMap (·.2)) := by
 intro ps
 induction ps with
 | nil => intro cs hl _; exact ⟨List.eq_nil_of_length_eq_zero (by simpa using hl), rfl⟩
 | cons p ps ih =>
  intro cs hl h
  rw [List.length_cons, Nat.add_mul, Nat.one_mul] at hl
  refine ⟨cs.take L.n, cs.drop L.n, p.2, ps.flatMap (·.2), (List.take_append_drop _ _).symm, by simp, ?_, ih (by rw [List.length_drop]; omega) (fun i q hq => ?_)⟩
  ·have := h 0 p rfl
   simpa using this
  ·have := h (i + 1) q (by simpa using hq)
   rw [List.drop_drop]
   rw [Nat.add_mul, Nat.one_mul, Nat.add_comm] at this
   exact this
section
variable {α : Type} {L : Lay α} {w w' : World} {b off len cap : Nat} {xs : List α} {ps : List (α × List Nat)} {fp : List Nat}
/-- a slice of a row -/
theorem RowAt.sl (h : RowAt L w b off ps) (hl : len = ps.length) (hc : len ≤ cap) (hm : cap ≤ maxLen) : L.sl w (some ⟨b, off, none⟩) len cap (ps.map (·.1)) (b :: ps.flatMap (·.2)) := by
 obtain ⟨cur, E, h1, h2, h3⟩ := h
 subst hl
 refine ⟨by simp, hc, hm, (fun h => by cases h), .inr ⟨b, off, cur, E, (0, 0), _, rfl, h1, row_all ?_ (fun i p hp => ?_), rfl⟩⟩
 ·have hct : cur.toList.length = cur.size := by simp
  rw [List.length_take, List.length_drop, hct]
  rcases Nat.eq_zero_or_pos ps.length with h0 | h0
  ·rw [h0, Nat.zero_mul]; omega
  ·have := h2 h0; omega
 ·have hi := (List.getElem?_eq_some_iff.1 hp).1
  have hle : (i + 1) * L.n ≤ ps.length * L.n := Nat.mul_le_mul_right _ (by omega)
  rw [Nat.add_mul, Nat.one_mul] at hle
  have e : (((cur.toList.drop off).take (ps.length * L.n)).drop (i * L.n)).take L.n = (cur.toList.drop (off + i * L.n)).take L.n := by
   rw [List.drop_take, List.take_take, List.drop_drop, Nat.min_eq_left (by omega)]
  rw [e]
  exact (h3 i p hp).1
end
end Go.Proofs.YtnnhopcjlnnchaaGreat

/- A store of a structure, in one step; a code and a world handed back. No function of the program in sight. -/
namespace Go.Proofs.YtnnhopcjlnnchaaGreat
open Go.RowKit

theorem Chg.setRowAt {S : List Nat} {a w : World} {b : Nat} (cs : Array Value) (h : Chg S a w) (hb : b ∈ S ∨ a.heap.size ≤ b) : Chg S a (w.setRow b cs) :=
 ⟨h.os, h.tape, h.output, by simp only [World.setRow, Array.size_modify]; exact h.size, fun k hk hS => by rw [setRow_other _ _ _ _ (hb.elim (fun hb e => hS (by rw [e]; exact hb)) (fun hb => by omega))]; exact h.block k hk hS, fun k hk => by
  obtain ⟨c, E, h1⟩ := h.loose k hk
  by_cases e : k = b
  ·subst e; exact ⟨_, E, setRow_heap w k c _ E _ h1⟩
  ·exact ⟨c, E, by rw [setRow_other _ _ _ _ e]; exact h1⟩⟩
theorem store_wp' {P : Program} {o : Oper} {a : Act} {Kc : Act → World → Prop} {Q : Exit → Act → World → Prop} {w : World} {b : Nat} {cs vs : Array Value} {E : TypeId} {n : Nat} (p v : Operand) (t : TypeId)
  (hop : o.op = .store t p v) (hp : a.eval p = .pointer (some ⟨b, 0, none⟩)) (hv : a.eval v = .agg vs) (hi : (P.info? t).map (fun i => i.size) = some n) (h : w.heap[b]? = some (.cells cs E (0, 0)))
  (hn : vs.size = n) (hs : cs.size = n) (hone : vs.toList.all Value.oneCell' = true)
  (hk : Kc (a.put o.dst undef) (w.setRow b vs)) : o.wp P a w Kc Q := by
 obtain ⟨i, hi1, hi2⟩ := Option.map_eq_some_iff.1 hi
 have hst := run_storeCells_at (P := P) b 0 E vs.toList 0 cs w h (by simp; omega) (fun v hv => List.all_eq_true.1 hone v hv)
 have e : (cs.toList.take (0 + 0) ++ vs.toList ++ cs.toList.drop (0 + 0 + vs.toList.length)).toArray = vs := by
  have : cs.toList.drop (0 + 0 + vs.toList.length) = [] := List.drop_eq_nil_of_le (by simp; omega)
  rw [this]; simp
 rw [e] at hst
 have hsz : vs.size = i.size := by omega
 unfold Oper.wp execOp
 simp only [hop, hp, hv, Instr.storeAt, Instr.sureAddr, storeVar, Value.cells, sizeOf, typeInfo, Sem.run_bind, Sem.run_pure, Result.andThen_ok]
 have hp0 : (program : Sem Program).run P w = .ok P w := rfl
 simp only [hp0, Result.andThen_ok, hi1, Sem.run_pure, ← hsz, ne_eq, not_true, if_false, hst]
 exact hk
theorem store_wp {P : Program} {o : Oper} {a : Act} {Kc : Act → World → Prop} {Q : Exit → Act → World → Prop} {w : World} {b : Nat} {cs vs : Array Value} {E : TypeId} {n : Nat} (p v : Operand) (t : TypeId)
  (hop : o.op = .store t p v) (hp : a.eval p = .pointer (some ⟨b, 0, none⟩)) (hv : a.eval v = .agg vs) (hi : (P.info? t).map (fun i => i.size) = some n) (h : w.heap[b]? = some (.cells cs E (0, 0)))
  (hn : vs.size = n) (hs : cs.size = n) (hone : vs.toList.all Value.oneCell' = true)
  (hk : ∀ w', w'.heap[b]? = some (.cells vs E (0, 0)) → Chg [b] w w' → Kc (a.put o.dst undef) w') : o.wp P a w Kc Q :=
 store_wp' p v t hop hp hv hi h hn hs hone (hk _ (setRow_heap w b cs vs E (0, 0) h) ((Chg.refl _ w).setRowAt vs (.inl (by simp))))
theorem store_wide {P : Program} {ops : Array Oper} {rest : List Oper} {o : Oper} {a : Act} {Q : Exit → Act → World → Prop} {w : World} {b : Nat} {cs vs : Array Value} {E : TypeId} {n : Nat} (hgd : o.guard = none) (p v : Operand) (t : TypeId)
  (hop : o.op = .store t p v) (hp : a.eval p = .pointer (some ⟨b, 0, none⟩)) (hv : a.eval v = .agg vs) (hi : (P.info? t).map (fun i => i.size) = some n) (h : w.heap[b]? = some (.cells cs E (0, 0)))
  (hn : vs.size = n) (hs : cs.size = n) (hone : vs.toList.all Value.oneCell' = true)
  (hk : ∀ w', w'.heap[b]? = some (.cells vs E (0, 0)) → Chg [b] w w' → wpList P ops Q rest (a.put o.dst undef) w') : wpList P ops Q (o :: rest) a w :=
 wpList_plain hgd fun _ hK => store_wp p v t hop hp hv hi h hn hs hone fun w' h1 h2 => hK _ _ (hk w' h1 h2)
theorem alloc_setRow (w : World) (cs vs : Array Value) (E : TypeId) : (w.alloc (.cells cs E)).setRow w.heap.size vs = w.alloc (.cells vs E) := by
 unfold World.setRow World.alloc
 congr 1
 apply Array.ext_getElem?
 intro k
 rw [Array.getElem?_modify]
 by_cases h : w.heap.size = k
 ·subst h; simp
 ·rw [if_neg h, Array.getElem?_push, Array.getElem?_push, if_neg (fun e => h e.symm), if_neg (fun e => h e.symm)]
theorem store_new {P : Program} {ops : Array Oper} {rest : List Oper} {o : Oper} {a : Act} {Q : Exit → Act → World → Prop} {w : World} {b : Nat} {cs vs : Array Value} {E : TypeId} {n : Nat} (hgd : o.guard = none) (p v : Operand) (t : TypeId)
  (hop : o.op = .store t p v) (hp : a.eval p = .pointer (some ⟨b, 0, none⟩)) (hv : a.eval v = .agg vs) (hb : b = w.heap.size) (hi : (P.info? t).map (fun i => i.size) = some n)
  (hn : vs.size = n) (hs : cs.size = n) (hone : vs.toList.all Value.oneCell' = true)
  (hk : wpList P ops Q rest (a.put o.dst undef) (w.alloc (.cells vs E))) : wpList P ops Q (o :: rest) a (w.alloc (.cells cs E)) := by
 subst hb
 exact wpList_plain hgd fun _ hK => store_wp' p v t hop hp hv hi (new_alloc w _) hn hs hone (by rw [alloc_setRow]; exact hK _ _ hk)
theorem load_wp {P : Program} {o : Oper} {a : Act} {Kc : Act → World → Prop} {Q : Exit → Act → World → Prop} {w : World} {b : Nat} {cs : Array Value} {E : TypeId} {fr : Nat × Nat} {n : Nat} {fs : Array Field} (p : Operand) (t : TypeId)
  (hop : o.op = .load t p) (hp : a.eval p = .pointer (some ⟨b, 0, none⟩)) (hi : (P.info? t).map (fun i => i.size) = some n) (hu : P.underlying t = some (.struct fs)) (h : w.heap[b]? = some (.cells cs E fr))
  (hs : cs.size = n) (hk : Kc (a.put o.dst (.agg cs)) w) : o.wp P a w Kc Q := by
 obtain ⟨i, hi1, hi2⟩ := Option.map_eq_some_iff.1 hi
 have hld := run_loadCells_list (P := P) (w := w) ⟨b, 0, none⟩ cs.toList (fun j v hv => by
  have := cell_of_row w b j cs E fr h
  rw [Addr.add_lit, Nat.zero_add, this]; simpa using hv)
 have hsz : cs.toList.length = i.size := by simp; omega
 rw [hsz] at hld
 unfold Oper.wp execOp
 have hp0 : (program : Sem Program).run P w = .ok P w := rfl
 simp only [hop, hp, Instr.loadAt, Instr.sureAddr, loadVar, isAgg, run_underlying hu, sizeOf, typeInfo, Sem.run_bind, Sem.run_pure, Result.andThen_ok, hp0, hi1, if_true, hld]
 rw [Array.toArray_toList]
 exact hk
theorem load_wide {P : Program} {ops : Array Oper} {rest : List Oper} {o : Oper} {a : Act} {Q : Exit → Act → World → Prop} {w : World} {b : Nat} {cs : Array Value} {E : TypeId} {fr : Nat × Nat} {n : Nat} {fs : Array Field} (hgd : o.guard = none) (p : Operand) (t : TypeId)
  (hop : o.op = .load t p) (hp : a.eval p = .pointer (some ⟨b, 0, none⟩)) (hi : (P.info? t).map (fun i => i.size) = some n) (hu : P.underlying t = some (.struct fs)) (h : w.heap[b]? = some (.cells cs E fr))
  (hs : cs.size = n) (hk : wpList P ops Q rest (a.put o.dst (.agg cs)) w) : wpList P ops Q (o :: rest) a w :=
 wpList_plain hgd fun _ hK => load_wp p t hop hp hi hu h hs (hK _ _ hk)
theorem results_wide {P : Program} {fn : Func} {tmps : Array Value} {w : World} {b : Nat} {cs : Array Value} {E : TypeId} {fr : Nat × Nat} {n : Nat} {fs : Array Field} (s : Tmp) (t : TypeId) (hr : fn.results = #[.cell s t])
  (hp : tmps.getD s undef = .pointer (some ⟨b, 0, none⟩)) (hi : (P.info? t).map (fun i => i.size) = some n) (hu : P.underlying t = some (.struct fs)) (h : w.heap[b]? = some (.cells cs E fr)) (hs : cs.size = n) :
  (results fn tmps).run P w = .ok (.agg cs) w := by
 obtain ⟨i, hi1, hi2⟩ := Option.map_eq_some_iff.1 hi
 have hld := run_loadCells_list (P := P) (w := w) ⟨b, 0, none⟩ cs.toList (fun j v hv => by
  have := cell_of_row w b j cs E fr h
  rw [Addr.add_lit, Nat.zero_add, this]; simpa using hv)
 have hsz : cs.toList.length = i.size := by simp; omega
 rw [hsz, Array.toArray_toList] at hld
 have hp0 : (program : Sem Program).run P w = .ok P w := rfl
 have hl : (loadVar t ⟨b, 0, none⟩).run P w = .ok (.agg cs) w := by
  simp only [loadVar, isAgg, run_underlying hu, sizeOf, typeInfo, Sem.run_bind, Sem.run_pure, Result.andThen_ok, hp0, hi1, if_true, hld]
 have hp2 : tmps[s]?.getD undef = .pointer (some ⟨b, 0, none⟩) := by simpa using hp
 simp [results, hr, hp2, asAddr, hl]
theorem infoWd : (Tryz.prog.info? 40).map (fun i => i.size) = some 15 := by kernel_rfl
theorem wrs_z (w : World) (q : Int) (h : i64ok q) : wrsL.rep w (#[.int .i64 q, .int .i64 0, .int .i64 0, .int .i64 0, .int .i64 0, .int .i64 0, .int .i64 0, .int .i64 0, .int .i64 0, .int .i64 0, .slice none 0 0, .slice none 0 0, .slice none 0 0, .int .i64 0, .int .i64 0, .bool false] : Array Value).toList ⟨q, zWld⟩ [] :=
 wrsL_iff.2 ⟨_, rfl, h, wldL_iff.2 ⟨none, 0, 0, [], none, 0, 0, [], none, 0, 0, [], rfl, i64z, i64z, i64z, i64z, i64z, i64z, i64z, i64z, i64z, nil_sl0 _ _, nil_sl0 _ _, nil_sl0 _ _, i64z, i64z, rfl⟩⟩
/-- a code without a world is handed back -/
theorem bad9 {w w1 w9 : World} {b : Nat} (q : Int) (hq : i64ok q) (r : WRes) (hr : r = ⟨q, zWld⟩) (hc : Chg [] w w1) (hc9 : Chg [b] w1 w9) (hb : w.heap.size ≤ b) :
  NewAgg wrsL r w (.returned (.agg #[.int .i64 q, .int .i64 0, .int .i64 0, .int .i64 0, .int .i64 0, .int .i64 0, .int .i64 0, .int .i64 0, .int .i64 0, .int .i64 0, .slice none 0 0, .slice none 0 0, .slice none 0 0, .int .i64 0, .int .i64 0, .bool false])) w9 :=
 ⟨_, [], rfl, by rw [hr]; exact wrs_z _ q hq, Fresh.nil _ _, hc.trans hc9 (fun y hy => .inr (by rw [List.mem_singleton] at hy; omega))⟩
/-- a code and a world are handed back -/
theorem fin9 {w w1 w9 : World} {b : Nat} {y : Wld} {f : List Nat} {cs : Array Value} {c : List Value} (q : Int) (hq : i64ok q) (r : WRes) (hrr : r = ⟨q, y⟩) (hr : wldL.rep w1 c y f) (hcs : cs.toList = .int .i64 q :: c) (hf : Fresh w.heap.size w1 f) (hc : Chg [] w w1) (hc9 : Chg [b] w1 w9) (hn : b ∉ f) (hb : w.heap.size ≤ b) :
  NewAgg wrsL r w (.returned (.agg cs)) w9 :=
 ⟨_, f, rfl, by rw [hrr, hcs]; exact wrsL_iff.2 ⟨_, rfl, hq, wldL.chg hr hc9 (fun y hy hm => hn (by rw [List.mem_singleton] at hm; exact hm ▸ hy))⟩, hf.chg hc9, hc.trans hc9 (fun y hy => .inr (by rw [List.mem_singleton] at hy; omega))⟩
theorem infoWR : (Tryz.prog.info? 48).map (fun i => i.size) = some 16 := by kernel_rfl
end Go.Proofs.YtnnhopcjlnnchaaGreat

/- Functions over a world: what they share. -/
namespace Go.Proofs.YtnnhopcjlnnchaaGreat
open Go.RowKit

theorem Fresh.sub {B : Nat} {w : World} {f g : List Nat} (h : Fresh B w f) (hs : g.Sublist f) : Fresh B w g := ⟨hs.nodup h.1, fun b hb => h.2 b (hs.subset hb)⟩
theorem nameFault_sml (s : ByteArray) : 0 ≤ nameFault s ∧ nameFault s ≤ 99 := by
 unfold nameFault
 repeat' split
 all_goals omega
theorem itemV_sml (s : Shp) (x : Rec) : 0 ≤ itemV s x ∧ itemV s x ≤ 99 := by
 have := nameFault_sml x.name
 unfold itemV
 repeat' split
 all_goals omega
theorem recV_sml (s : Shp) (x : Rec) : 0 ≤ recV s x ∧ recV s x ≤ 99 := by
 have := itemV_sml s x
 unfold recV
 repeat' split
 all_goals omega
theorem recsF_sml (s : Shp) : ∀ xs : List Rec, 0 ≤ recsF s xs ∧ recsF s xs ≤ 99
 | [] => by unfold recsF; omega
 | x :: xs => by have := recsF_sml s xs; have := recV_sml s x; unfold recsF; split <;> omega
theorem tapsF_sml (s : Shp) : ∀ xs : List Tap, 0 ≤ tapsF s xs ∧ tapsF s xs ≤ 99
 | [] => by unfold tapsF; omega
 | x :: xs => by have := tapsF_sml s xs; have := recsF_sml s x.recs; unfold tapsF; split <;> omega
theorem fault_sml (x : Wld) : 0 ≤ x.fault ∧ x.fault ≤ 99 := by
 have := tapsF_sml x.shape x.tapes
 unfold Wld.fault Wld.tapF
 repeat' split
 all_goals omega
theorem up_i64 (x : Wld) : i64ok x.up := by
 have := fault_sml x
 unfold Wld.up i64ok
 repeat' split
 all_goals omega
theorem cut_any (m : Nat) {u0 u1 u2 u3 u4 u5 u6 u7 u8 u9 u10 u11 u12 u13 u14 : Value} (w : World) (h : w.heap[m]? = some (.cells #[u0, u1, u2, u3, u4, u5, u6, u7, u8, u9, u10, u11, u12, u13, u14] 40 (0, 0))) :
  Calls Tryz.prog 80 #[.pointer (some ⟨m, 0, none⟩)] w fun e w' => e = .returned (.tuple #[]) ∧ w'.heap[m]? = some (.cells #[u0, u1, u2, u3, u4, u5, u6, u7, u8, u9, .slice none 0 0, u11, u12, u13, .bool true] 40 (0, 0)) ∧ Chg [m] w w' := by
 have cm := cellsOf h; have nm := ltOf h; have fm := freeOf h
 have HM := Lib.hid h
 clear h
 go_enter Tryz.func80, Tryz.ntmps80
 go_wp2_with fail
 refine bodyPost_end (v := .tuple #[]) (by simp [results, Tryz.results80, go_sem]) rfl ?_
 exact ⟨rfl, heap_set_lit (heap_set_lit HM.out rfl) rfl, ((Chg.refl _ w).setCell _ _ (.inl (by simp))).setCell _ _ (.inl (by simp))⟩
set_option maxRecDepth 100000 in
set_option maxHeartbeats 2000000 in
theorem upFault_any (x : Wld) (cx : Array Value) (fx : List Nat) (w : World) (hx : wldL.rep w cx.toList x fx) :
  Calls Tryz.prog 62 #[.agg cx] w fun e w' => e = .returned (.int .i64 x.up) ∧ Chg [] w w' := by
 obtain ⟨a10, l10, c10, _, a11, l11, c11, _, a12, l12, c12, _, ex, -⟩ := wldL_iff.1 hx
 obtain rfl := Array.toList_inj.1 (ex.trans (List.toList_toArray).symm)
 have HW := Lib.hid hx
 obtain ⟨q, hq⟩ : ∃ q, q = x.fault := ⟨_, rfl⟩
 have HQ := Lib.hid hq
 have G0 := Lib.hid (show Chg [] w (w.alloc (.cells #[.int .i64 x.shape.groups, .int .i64 x.shape.column, .int .i64 x.shape.data, .int .i64 x.shape.spare, .int .i64 x.shape.rows, .int .i64 x.shape.cap, .int .i64 x.shape.batch, .int .i64 x.shape.queue, .int .i64 x.shape.stage, .slice a10 l10 c10, .slice a11 l11 c11, .slice a12 l12 c12, .int .i64 x.writes, .int .i64 x.stop, .bool x.down] 40)) from (Chg.refl [] w).alloc _)
 have B0 := Lib.hid (new_alloc w (.cells #[.int .i64 x.shape.groups, .int .i64 x.shape.column, .int .i64 x.shape.data, .int .i64 x.shape.spare, .int .i64 x.shape.rows, .int .i64 x.shape.cap, .int .i64 x.shape.batch, .int .i64 x.shape.queue, .int .i64 x.shape.stage, .slice a10 l10 c10, .slice a11 l11 c11, .slice a12 l12 c12, .int .i64 x.writes, .int .i64 x.stop, .bool x.down] 40))
 clear hx ex hq
 go_enter Tryz.func62, Tryz.ntmps62
 go_wp2_with fail
 refine (impl_WorldFault x _ fx _ (wldL.ext HW.out G0.out)).mono ?_
 rintro e w1 ⟨rfl, hc⟩
 rw [← HQ.out]
 obtain ⟨c0, n0, A0⟩ := bk hc B0.out (by simp)
 have HC := Lib.hid (G0.out.trans0 hc)
 clear hc G0 B0
 by_cases hq0 : q = 0
 ·subst hq0
  cases hd : x.down
  ·have HU : x.up = 0 := by unfold Wld.up; rw [if_pos HQ.out.symm, if_neg (by rw [hd]; simp)]
   simp only [hd] at c0
   go_wp2_with fail
   go_ret
   exact ⟨by rw [HU]; rfl, HC.out⟩
  ·have HU : x.up = 9 := by unfold Wld.up; rw [if_pos HQ.out.symm, if_pos hd]
   simp only [hd] at c0
   go_wp2_with fail
   go_ret
   exact ⟨by rw [HU]; rfl, HC.out⟩
 ·have hb : ((q : Int) != 0) = true := by simpa using hq0
  have HU : x.up = q := by unfold Wld.up; rw [if_neg (by rw [← HQ.out]; exact hq0), HQ.out]
  go_wp2_with fail
  go_ret
  exact ⟨by rw [HU]; rfl, HC.out⟩
set_option maxRecDepth 100000 in
set_option maxHeartbeats 2000000 in
theorem l5Asked_any (x : Wld) (cx : Array Value) (fx : List Nat) (w : World) (hx : wldL.rep w cx.toList x fx) :
  Calls Tryz.prog 54 #[.agg cx] w fun e w' => e = .returned (.int .i64 x.up) ∧ Chg [] w w' := by
 obtain ⟨a10, l10, c10, _, a11, l11, c11, _, a12, l12, c12, _, ex, -⟩ := wldL_iff.1 hx
 obtain rfl := Array.toList_inj.1 (ex.trans (List.toList_toArray).symm)
 have HW := Lib.hid hx
 obtain ⟨q, hq⟩ : ∃ q, q = x.fault := ⟨_, rfl⟩
 have HQ := Lib.hid hq
 have G0 := Lib.hid (show Chg [] w (w.alloc (.cells #[.int .i64 x.shape.groups, .int .i64 x.shape.column, .int .i64 x.shape.data, .int .i64 x.shape.spare, .int .i64 x.shape.rows, .int .i64 x.shape.cap, .int .i64 x.shape.batch, .int .i64 x.shape.queue, .int .i64 x.shape.stage, .slice a10 l10 c10, .slice a11 l11 c11, .slice a12 l12 c12, .int .i64 x.writes, .int .i64 x.stop, .bool x.down] 40)) from (Chg.refl [] w).alloc _)
 have B0 := Lib.hid (new_alloc w (.cells #[.int .i64 x.shape.groups, .int .i64 x.shape.column, .int .i64 x.shape.data, .int .i64 x.shape.spare, .int .i64 x.shape.rows, .int .i64 x.shape.cap, .int .i64 x.shape.batch, .int .i64 x.shape.queue, .int .i64 x.shape.stage, .slice a10 l10 c10, .slice a11 l11 c11, .slice a12 l12 c12, .int .i64 x.writes, .int .i64 x.stop, .bool x.down] 40))
 clear hx ex hq
 go_enter Tryz.func54, Tryz.ntmps54
 go_wp2_with fail
 refine (spec_WorldFault x _ fx _ (wldL.ext HW.out G0.out)).mono ?_
 rintro e w1 ⟨rfl, hc⟩
 rw [← HQ.out]
 obtain ⟨c0, n0, A0⟩ := bk hc B0.out (by simp)
 have HC := Lib.hid (G0.out.trans0 hc)
 clear hc G0 B0
 by_cases hq0 : q = 0
 ·subst hq0
  cases hd : x.down
  ·have HU : x.up = 0 := by unfold Wld.up; rw [if_pos HQ.out.symm, if_neg (by rw [hd]; simp)]
   simp only [hd] at c0
   go_wp2_with fail
   go_ret
   exact ⟨by rw [HU]; rfl, HC.out⟩
  ·have HU : x.up = 9 := by unfold Wld.up; rw [if_pos HQ.out.symm, if_pos hd]
   simp only [hd] at c0
   go_wp2_with fail
   go_ret
   exact ⟨by rw [HU]; rfl, HC.out⟩
 ·have hb : ((q : Int) != 0) = true := by simpa using hq0
  have HU : x.up = q := by unfold Wld.up; rw [if_neg (by rw [← HQ.out]; exact hq0), HQ.out]
  go_wp2_with fail
  go_ret
  exact ⟨by rw [HU]; rfl, HC.out⟩
end Go.Proofs.YtnnhopcjlnnchaaGreat
