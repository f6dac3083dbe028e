/- Several texts in one. -/
import Derived.Test.YtnnhopcjlnnchaaGreatGrc
import Derived.Test.YtnnhopcjlnnchaaGreatPut
import Derived.Test.YtnnhopcjlnnchaaGreatWra
import Derived.Test.YtnnhopcjlnnchaaGreatMi
import Derived.Laws.CopyRow
import Derived.Laws.Cells
import Derived.Test.YtnnhopcjlnnchaaGreatMj
import Derived.Test.YtnnhopcjlnnchaaGreatWld
import Derived.Test.YtnnhopcjlnnchaaGreatGrw
/- A row of data in one block of its own, element by element; no element points into the block. No function of the program in sight. -/
namespace Go.Proofs.YtnnhopcjlnnchaaGreat
open Go.RowKit

/-- the data of a row, each with the blocks that it uses -/
def RowAt {α : Type} (L : Lay α) (w : World) (b off : Nat) (ps : List (α × List Nat)) : Prop :=
 ∃ cur E, w.heap[b]? = some (.cells cur E (0, 0)) ∧ (0 < ps.length → off + ps.length * L.n ≤ cur.size) ∧ ∀ (i : Nat) p, ps[i]? = some p → L.rep w ((cur.toList.drop (off + i * L.n)).take L.n) p.1 p.2 ∧ b ∉ p.2
section
variable {α : Type} {L : Lay α} {w w' : World} {b off : Nat} {ps : List (α × List Nat)}
theorem RowAt.lt (h : RowAt L w b off ps) : b < w.heap.size := by obtain ⟨cur, E, h1, _⟩ := h; exact ltOf h1
theorem RowAt.loose (h : RowAt L w b off ps) : Loose w b := by obtain ⟨cur, E, h1, _⟩ := h; exact ⟨_, _, h1⟩
theorem RowAt.keep (h : RowAt L w b off ps) (hb : w'.heap[b]? = w.heap[b]?) (hk : ∀ p ∈ ps, ∀ y ∈ p.2, w'.heap[y]? = w.heap[y]?) : RowAt L w' b off ps := by
 obtain ⟨cur, E, h1, h2, h3⟩ := h
 exact ⟨cur, E, hb.trans h1, h2, fun i p hp => ⟨L.keep (h3 i p hp).1 (hk p (List.mem_of_getElem? hp)), (h3 i p hp).2⟩⟩
theorem RowAt.fp_lt (h : RowAt L w b off ps) {p : α × List Nat} (hp : p ∈ ps) : ∀ y ∈ p.2, y < w.heap.size := by
 obtain ⟨cur, E, h1, h2, h3⟩ := h
 obtain ⟨i, hi, e⟩ := List.getElem_of_mem hp
 exact L.lt (h3 i p (by rw [List.getElem?_eq_getElem hi, e])).1
theorem RowAt.chg {S : List Nat} (h : RowAt L w b off ps) (hc : Chg S w w') (hb : b ∉ S) (hS : ∀ p ∈ ps, ∀ y ∈ p.2, y ∉ S) : RowAt L w' b off ps :=
 h.keep (hc.block b h.lt hb) (fun p hp y hy => hc.block y (h.fp_lt hp y hy) (hS p hp y hy))
theorem RowAt.ext (h : RowAt L w b off ps) (hc : Chg [] w w') : RowAt L w' b off ps := h.chg hc (by simp) (by simp)
/-- the cells of an element -/
theorem RowAt.at (h : RowAt L w b off ps) {i : Nat} (hi : i < ps.length) : ∃ p c, ps[i]? = some p ∧ L.rep w c p.1 p.2 ∧ b ∉ p.2 ∧ ∀ j, j < L.n → w.cell? ⟨b, off + i * L.n + j, none⟩ = c[j]? := by
 obtain ⟨cur, E, h1, h2, h3⟩ := h
 have hp : ps[i]? = some ps[i] := List.getElem?_eq_getElem hi
 refine ⟨_, _, hp, (h3 i _ hp).1, (h3 i _ hp).2, fun j hj => ?_⟩
 rw [cellsOf h1, List.getElem?_take_of_lt hj, List.getElem?_drop]
 simp
theorem RowAt.free (h : RowAt L w b off ps) : ∀ j, w.frozen? ⟨b, j, none⟩ = false := by obtain ⟨cur, E, h1, _⟩ := h; exact freeOf h1
/-- an element replaced -/
theorem RowAt.put (h : RowAt L w b off ps) {i : Nat} (hi : i < ps.length) {x : α} {c : List Value} {f : List Nat} (hr : L.rep w c x f) (hb : b ∉ f) : RowAt L (w.setCells b (off + i * L.n) c) b off (ps.set i (x, f)) := by
 obtain ⟨cur, E, h1, h2, h3⟩ := h
 have hcl := L.len hr
 have hle : (i + 1) * L.n ≤ ps.length * L.n := Nat.mul_le_mul_right _ (by omega)
 rw [Nat.add_mul, Nat.one_mul] at hle
 have hsz : off + i * L.n + c.length ≤ cur.size := by have := h2 (by omega); omega
 have htl := setRow_toList c (off + i * L.n) cur hsz
 have hct : cur.toList.length = cur.size := by simp
 refine ⟨_, E, setCells_heap c _ w cur h1, ?_, fun j p hp => ?_⟩
 ·rw [List.length_set]
  have : (setRow cur (off + i * L.n) c).size = cur.size := by
   have h5 := congrArg List.length htl
   rw [Array.length_toList] at h5
   rw [h5, List.length_append, List.length_append, List.length_take, List.length_drop]
   omega
  rw [this]; exact h2
 ·have hfar : ∀ y, y ≠ b → (w.setCells b (off + i * L.n) c).heap[y]? = w.heap[y]? := fun y hy => setCells_far hy c _ w
  by_cases e : i = j
  ·subst e
   rw [List.getElem?_set_self hi] at hp
   obtain rfl := Option.some.inj hp
   refine ⟨?_, hb⟩
   have e2 : ((setRow cur (off + i * L.n) c).toList.drop (off + i * L.n)).take L.n = c := by
    rw [htl, List.drop_append_of_le_length (by rw [List.length_take]; omega), List.drop_take, Nat.sub_self, List.take_zero, List.nil_append, List.take_append_of_le_length (by omega), List.take_of_length_le (by omega)]
   rw [e2]
   exact L.keep hr (fun y hy => hfar y (fun e => hb (e ▸ hy)))
  ·rw [List.getElem?_set_ne e] at hp
   obtain ⟨h4, h5⟩ := h3 j p hp
   refine ⟨?_, h5⟩
   have hj := (List.getElem?_eq_some_iff.1 hp).1
   have hjle : (j + 1) * L.n ≤ ps.length * L.n := Nat.mul_le_mul_right _ (by omega)
   rw [Nat.add_mul, Nat.one_mul] at hjle
   have e2 : ((setRow cur (off + i * L.n) c).toList.drop (off + j * L.n)).take L.n = (cur.toList.drop (off + j * L.n)).take L.n := by
    apply List.ext_getElem?
    intro k
    by_cases hk : k < L.n
    ·rw [List.getElem?_take_of_lt hk, List.getElem?_take_of_lt hk, List.getElem?_drop, List.getElem?_drop, htl]
     rcases Nat.lt_or_gt_of_ne e with hij | hij
     ·have : (i + 1) * L.n ≤ j * L.n := Nat.mul_le_mul_right _ hij
      rw [Nat.add_mul, Nat.one_mul] at this
      rw [List.getElem?_append_right (by rw [List.length_take]; omega), List.length_take, List.getElem?_append_right (by omega), List.getElem?_drop]
      congr 1
      omega
     ·have : (j + 1) * L.n ≤ i * L.n := Nat.mul_le_mul_right _ hij
      rw [Nat.add_mul, Nat.one_mul] at this
      rw [List.getElem?_append_left (by rw [List.length_take]; omega), List.getElem?_take_of_lt (by omega)]
    ·rw [List.getElem?_eq_none (by rw [List.length_take]; omega), List.getElem?_eq_none (by rw [List.length_take]; omega)]
   rw [e2]
   exact L.keep h4 (fun y hy => hfar y (fun e => h5 (e ▸ hy)))
/-- the beginning of a row -/
theorem RowAt.take (h : RowAt L w b off ps) (n : Nat) : RowAt L w b off (ps.take n) := by
 obtain ⟨cur, E, h1, h2, h3⟩ := h
 have hle : (ps.take n).length * L.n ≤ ps.length * L.n := Nat.mul_le_mul_right _ (by rw [List.length_take]; omega)
 refine ⟨cur, E, h1, fun h0 => by have := h2 (by rw [List.length_take] at h0; omega); omega, fun i p hp => h3 i p ?_⟩
 have hi : i < n := by have := (List.getElem?_eq_some_iff.1 hp).1; rw [List.length_take] at this; omega
 rwa [List.getElem?_take_of_lt hi] at hp
end
theorem row_all {α : Type} {L : Lay α} {w : World} : ∀ {ps : List (α × List Nat)} {cs : List Value}, cs.length = ps.length * L.n → (∀ (i : Nat) p, ps[i]? = some p → L.rep w ((cs.drop (i * L.n)).take L.n) p.1 p.2) → L.all w cs (ps.map (·.1)) (ps.flatMap (·.2)) := by
 intro ps
 induction ps with
 | nil => intro cs hl _; exact ⟨List.eq_nil_of_length_eq_zero (by simpa using hl), rfl⟩
 | cons p ps ih =>
  intro cs hl h
  rw [List.length_cons, Nat.add_mul, Nat.one_mul] at hl
  refine ⟨cs.take L.n, cs.drop L.n, p.2, ps.flatMap (·.2), (List.take_append_drop _ _).symm, by simp, ?_, ih (by rw [List.length_drop]; omega) (fun i q hq => ?_)⟩
  ·have := h 0 p rfl
   simpa using this
  ·have := h (i + 1) q (by simpa using hq)
   rw [List.drop_drop]
   rw [Nat.add_mul, Nat.one_mul, Nat.add_comm] at this
   exact this
section
variable {α : Type} {L : Lay α} {w w' : World} {b off len cap : Nat} {xs : List α} {ps : List (α × List Nat)} {fp : List Nat}
/-- a slice of a row -/
theorem RowAt.sl (h : RowAt L w b off ps) (hl : len = ps.length) (hc : len ≤ cap) (hm : cap ≤ maxLen) : L.sl w (some ⟨b, off, none⟩) len cap (ps.map (·.1)) (b :: ps.flatMap (·.2)) := by
 obtain ⟨cur, E, h1, h2, h3⟩ := h
 subst hl
 refine ⟨by simp, hc, hm, (fun h => by cases h), .inr ⟨b, off, cur, E, (0, 0), _, rfl, h1, row_all ?_ (fun i p hp => ?_), rfl⟩⟩
 ·have hct : cur.toList.length = cur.size := by simp
  rw [List.length_take, List.length_drop, hct]
  rcases Nat.eq_zero_or_pos ps.length with h0 | h0
  ·rw [h0, Nat.zero_mul]; omega
  ·have := h2 h0; omega
 ·have hi := (List.getElem?_eq_some_iff.1 hp).1
  have hle : (i + 1) * L.n ≤ ps.length * L.n := Nat.mul_le_mul_right _ (by omega)
  rw [Nat.add_mul, Nat.one_mul] at hle
  have e : (((cur.toList.drop off).take (ps.length * L.n)).drop (i * L.n)).take L.n = (cur.toList.drop (off + i * L.n)).take L.n := by
   rw [List.drop_take, List.take_take, List.drop_drop, Nat.min_eq_left (by omega)]
  rw [e]
  exact (h3 i p hp).1
end
end Go.Proofs.YtnnhopcjlnnchaaGreat

/- A store of a structure, in one step; a code and a world handed back. No function of the program in sight. -/
namespace Go.Proofs.YtnnhopcjlnnchaaGreat
open Go.RowKit

theorem Chg.setRowAt {S : List Nat} {a w : World} {b : Nat} (cs : Array Value) (h : Chg S a w) (hb : b ∈ S ∨ a.heap.size ≤ b) : Chg S a (w.setRow b cs) :=
 ⟨h.os, h.tape, h.output, by simp only [World.setRow, Array.size_modify]; exact h.size, fun k hk hS => by rw [setRow_other _ _ _ _ (hb.elim (fun hb e => hS (by rw [e]; exact hb)) (fun hb => by omega))]; exact h.block k hk hS, fun k hk => by
  obtain ⟨c, E, h1⟩ := h.loose k hk
  by_cases e : k = b
  ·subst e; exact ⟨_, E, setRow_heap w k c _ E _ h1⟩
  ·exact ⟨c, E, by rw [setRow_other _ _ _ _ e]; exact h1⟩⟩
theorem store_wp' {P : Program} {o : Oper} {a : Act} {Kc : Act → World → Prop} {Q : Exit → Act → World → Prop} {w : World} {b : Nat} {cs vs : Array Value} {E : TypeId} {n : Nat} (p v : Operand) (t : TypeId)
  (hop : o.op = .store t p v) (hp : a.eval p = .pointer (some ⟨b, 0, none⟩)) (hv : a.eval v = .agg vs) (hi : (P.info? t).map (fun i => i.size) = some n) (h : w.heap[b]? = some (.cells cs E (0, 0)))
  (hn : vs.size = n) (hs : cs.size = n) (hone : vs.toList.all Value.oneCell' = true)
  (hk : Kc (a.put o.dst undef) (w.setRow b vs)) : o.wp P a w Kc Q := by
 obtain ⟨i, hi1, hi2⟩ := Option.map_eq_some_iff.1 hi
 have hst := run_storeCells_at (P := P) b 0 E vs.toList 0 cs w h (by simp; omega) (fun v hv => List.all_eq_true.1 hone v hv)
 have e : (cs.toList.take (0 + 0) ++ vs.toList ++ cs.toList.drop (0 + 0 + vs.toList.length)).toArray = vs := by
  have : cs.toList.drop (0 + 0 + vs.toList.length) = [] := List.drop_eq_nil_of_le (by simp; omega)
  rw [this]; simp
 rw [e] at hst
 have hsz : vs.size = i.size := by omega
 unfold Oper.wp execOp
 simp only [hop, hp, hv, Instr.storeAt, Instr.sureAddr, storeVar, Value.cells, sizeOf, typeInfo, Sem.run_bind, Sem.run_pure, Result.andThen_ok]
 have hp0 : (program : Sem Program).run P w = .ok P w := rfl
 simp only [hp0, Result.andThen_ok, hi1, Sem.run_pure, ← hsz, ne_eq, not_true, if_false, hst]
 exact hk
theorem store_wp {P : Program} {o : Oper} {a : Act} {Kc : Act → World → Prop} {Q : Exit → Act → World → Prop} {w : World} {b : Nat} {cs vs : Array Value} {E : TypeId} {n : Nat} (p v : Operand) (t : TypeId)
  (hop : o.op = .store t p v) (hp : a.eval p = .pointer (some ⟨b, 0, none⟩)) (hv : a.eval v = .agg vs) (hi : (P.info? t).map (fun i => i.size) = some n) (h : w.heap[b]? = some (.cells cs E (0, 0)))
  (hn : vs.size = n) (hs : cs.size = n) (hone : vs.toList.all Value.oneCell' = true)
  (hk : ∀ w', w'.heap[b]? = some (.cells vs E (0, 0)) → Chg [b] w w' → Kc (a.put o.dst undef) w') : o.wp P a w Kc Q :=
 store_wp' p v t hop hp hv hi h hn hs hone (hk _ (setRow_heap w b cs vs E (0, 0) h) ((Chg.refl _ w).setRowAt vs (.inl (by simp))))
theorem store_wide {P : Program} {ops : Array Oper} {rest : List Oper} {o : Oper} {a : Act} {Q : Exit → Act → World → Prop} {w : World} {b : Nat} {cs vs : Array Value} {E : TypeId} {n : Nat} (hgd : o.guard = none) (p v : Operand) (t : TypeId)
  (hop : o.op = .store t p v) (hp : a.eval p = .pointer (some ⟨b, 0, none⟩)) (hv : a.eval v = .agg vs) (hi : (P.info? t).map (fun i => i.size) = some n) (h : w.heap[b]? = some (.cells cs E (0, 0)))
  (hn : vs.size = n) (hs : cs.size = n) (hone : vs.toList.all Value.oneCell' = true)
  (hk : ∀ w', w'.heap[b]? = some (.cells vs E (0, 0)) → Chg [b] w w' → wpList P ops Q rest (a.put o.dst undef) w') : wpList P ops Q (o :: rest) a w :=
 wpList_plain hgd fun _ hK => store_wp p v t hop hp hv hi h hn hs hone fun w' h1 h2 => hK _ _ (hk w' h1 h2)
theorem alloc_setRow (w : World) (cs vs : Array Value) (E : TypeId) : (w.alloc (.cells cs E)).setRow w.heap.size vs = w.alloc (.cells vs E) := by
 unfold World.setRow World.alloc
 congr 1
 apply Array.ext_getElem?
 intro k
 rw [Array.getElem?_modify]
 by_cases h : w.heap.size = k
 ·subst h; simp
 ·rw [if_neg h, Array.getElem?_push, Array.getElem?_push, if_neg (fun e => h e.symm), if_neg (fun e => h e.symm)]
theorem store_new {P : Program} {ops : Array Oper} {rest : List Oper} {o : Oper} {a : Act} {Q : Exit → Act → World → Prop} {w : World} {b : Nat} {cs vs : Array Value} {E : TypeId} {n : Nat} (hgd : o.guard = none) (p v : Operand) (t : TypeId)
  (hop : o.op = .store t p v) (hp : a.eval p = .pointer (some ⟨b, 0, none⟩)) (hv : a.eval v = .agg vs) (hb : b = w.heap.size) (hi : (P.info? t).map (fun i => i.size) = some n)
  (hn : vs.size = n) (hs : cs.size = n) (hone : vs.toList.all Value.oneCell' = true)
  (hk : wpList P ops Q rest (a.put o.dst undef) (w.alloc (.cells vs E))) : wpList P ops Q (o :: rest) a (w.alloc (.cells cs E)) := by
 subst hb
 exact wpList_plain hgd fun _ hK => store_wp' p v t hop hp hv hi (new_alloc w _) hn hs hone (by rw [alloc_setRow]; exact hK _ _ hk)
theorem load_wp {P : Program} {o : Oper} {a : Act} {Kc : Act → World → Prop} {Q : Exit → Act → World → Prop} {w : World} {b : Nat} {cs : Array Value} {E : TypeId} {fr : Nat × Nat} {n : Nat} {fs : Array Field} (p : Operand) (t : TypeId)
  (hop : o.op = .load t p) (hp : a.eval p = .pointer (some ⟨b, 0, none⟩)) (hi : (P.info? t).map (fun i => i.size) = some n) (hu : P.underlying t = some (.struct fs)) (h : w.heap[b]? = some (.cells cs E fr))
  (hs : cs.size = n) (hk : Kc (a.put o.dst (.agg cs)) w) : o.wp P a w Kc Q := by
 obtain ⟨i, hi1, hi2⟩ := Option.map_eq_some_iff.1 hi
 have hld := run_loadCells_list (P := P) (w := w) ⟨b, 0, none⟩ cs.toList (fun j v hv => by
  have := cell_of_row w b j cs E fr h
  rw [Addr.add_lit, Nat.zero_add, this]; simpa using hv)
 have hsz : cs.toList.length = i.size := by simp; omega
 rw [hsz] at hld
 unfold Oper.wp execOp
 have hp0 : (program : Sem Program).run P w = .ok P w := rfl
 simp only [hop, hp, Instr.loadAt, Instr.sureAddr, loadVar, isAgg, run_underlying hu, sizeOf, typeInfo, Sem.run_bind, Sem.run_pure, Result.andThen_ok, hp0, hi1, if_true, hld]
 rw [Array.toArray_toList]
 exact hk
theorem load_wide {P : Program} {ops : Array Oper} {rest : List Oper} {o : Oper} {a : Act} {Q : Exit → Act → World → Prop} {w : World} {b : Nat} {cs : Array Value} {E : TypeId} {fr : Nat × Nat} {n : Nat} {fs : Array Field} (hgd : o.guard = none) (p : Operand) (t : TypeId)
  (hop : o.op = .load t p) (hp : a.eval p = .pointer (some ⟨b, 0, none⟩)) (hi : (P.info? t).map (fun i => i.size) = some n) (hu : P.underlying t = some (.struct fs)) (h : w.heap[b]? = some (.cells cs E fr))
  (hs : cs.size = n) (hk : wpList P ops Q rest (a.put o.dst (.agg cs)) w) : wpList P ops Q (o :: rest) a w :=
 wpList_plain hgd fun _ hK => load_wp p t hop hp hi hu h hs (hK _ _ hk)
theorem results_wide {P : Program} {fn : Func} {tmps : Array Value} {w : World} {b : Nat} {cs : Array Value} {E : TypeId} {fr : Nat × Nat} {n : Nat} {fs : Array Field} (s : Tmp) (t : TypeId) (hr : fn.results = #[.cell s t])
  (hp : tmps.getD s undef = .pointer (some ⟨b, 0, none⟩)) (hi : (P.info? t).map (fun i => i.size) = some n) (hu : P.underlying t = some (.struct fs)) (h : w.heap[b]? = some (.cells cs E fr)) (hs : cs.size = n) :
  (results fn tmps).run P w = .ok (.agg cs) w := by
 obtain ⟨i, hi1, hi2⟩ := Option.map_eq_some_iff.1 hi
 have hld := run_loadCells_list (P := P) (w := w) ⟨b, 0, none⟩ cs.toList (fun j v hv => by
  have := cell_of_row w b j cs E fr h
  rw [Addr.add_lit, Nat.zero_add, this]; simpa using hv)
 have hsz : cs.toList.length = i.size := by simp; omega
 rw [hsz, Array.toArray_toList] at hld
 have hp0 : (program : Sem Program).run P w = .ok P w := rfl
 have hl : (loadVar t ⟨b, 0, none⟩).run P w = .ok (.agg cs) w := by
  simp only [loadVar, isAgg, run_underlying hu, sizeOf, typeInfo, Sem.run_bind, Sem.run_pure, Result.andThen_ok, hp0, hi1, if_true, hld]
 have hp2 : tmps[s]?.getD undef = .pointer (some ⟨b, 0, none⟩) := by simpa using hp
 simp [results, hr, hp2, asAddr, hl]
theorem infoWd : (Tryz.prog.info? 40).map (fun i => i.size) = some 15 := by kernel_rfl
theorem wrs_z (w : World) (q : Int) (h : i64ok q) : wrsL.rep w (#[.int .i64 q, .int .i64 0, .int .i64 0, .int .i64 0, .int .i64 0, .int .i64 0, .int .i64 0, .int .i64 0, .int .i64 0, .int .i64 0, .slice none 0 0, .slice none 0 0, .slice none 0 0, .int .i64 0, .int .i64 0, .bool false] : Array Value).toList ⟨q, zWld⟩ [] :=
 wrsL_iff.2 ⟨_, rfl, h, wldL_iff.2 ⟨none, 0, 0, [], none, 0, 0, [], none, 0, 0, [], rfl, i64z, i64z, i64z, i64z, i64z, i64z, i64z, i64z, i64z, nil_sl0 _ _, nil_sl0 _ _, nil_sl0 _ _, i64z, i64z, rfl⟩⟩
/-- a code without a world is handed back -/
theorem bad9 {w w1 w9 : World} {b : Nat} (q : Int) (hq : i64ok q) (r : WRes) (hr : r = ⟨q, zWld⟩) (hc : Chg [] w w1) (hc9 : Chg [b] w1 w9) (hb : w.heap.size ≤ b) :
  NewAgg wrsL r w (.returned (.agg #[.int .i64 q, .int .i64 0, .int .i64 0, .int .i64 0, .int .i64 0, .int .i64 0, .int .i64 0, .int .i64 0, .int .i64 0, .int .i64 0, .slice none 0 0, .slice none 0 0, .slice none 0 0, .int .i64 0, .int .i64 0, .bool false])) w9 :=
 ⟨_, [], rfl, by rw [hr]; exact wrs_z _ q hq, Fresh.nil _ _, hc.trans hc9 (fun y hy => .inr (by rw [List.mem_singleton] at hy; omega))⟩
/-- a code and a world are handed back -/
theorem fin9 {w w1 w9 : World} {b : Nat} {y : Wld} {f : List Nat} {cs : Array Value} {c : List Value} (q : Int) (hq : i64ok q) (r : WRes) (hrr : r = ⟨q, y⟩) (hr : wldL.rep w1 c y f) (hcs : cs.toList = .int .i64 q :: c) (hf : Fresh w.heap.size w1 f) (hc : Chg [] w w1) (hc9 : Chg [b] w1 w9) (hn : b ∉ f) (hb : w.heap.size ≤ b) :
  NewAgg wrsL r w (.returned (.agg cs)) w9 :=
 ⟨_, f, rfl, by rw [hrr, hcs]; exact wrsL_iff.2 ⟨_, rfl, hq, wldL.chg hr hc9 (fun y hy hm => hn (by rw [List.mem_singleton] at hm; exact hm ▸ hy))⟩, hf.chg hc9, hc.trans hc9 (fun y hy => .inr (by rw [List.mem_singleton] at hy; omega))⟩
theorem infoWR : (Tryz.prog.info? 48).map (fun i => i.size) = some 16 := by kernel_rfl
end Go.Proofs.YtnnhopcjlnnchaaGreat

/- An element of a slice that changes, also with other memory than before; footprints exchanged. No function of the program in sight. -/
namespace Go.Proofs.YtnnhopcjlnnchaaGreat
open Go.RowKit

theorem Lay.all_modN {α : Type} (L : Lay α) {w : World} {x : α} : ∀ {xs : List α} {i : Nat} {cs : List Value} {fps : List Nat}, L.all w cs xs fps → xs[i]? = some x →
  ∃ c f f1 f2, fps = f1 ++ f ++ f2 ∧ (∀ j, j < L.n → cs[i * L.n + j]? = c[j]?) ∧ L.rep w c x f ∧
   ∀ w' x' f', L.rep w' c x' f' → (∀ y, (y ∈ f1 ∨ y ∈ f2) → w'.heap[y]? = w.heap[y]?) → L.all w' cs (xs.set i x') (f1 ++ f' ++ f2) := by
 intro xs
 induction xs with
 | nil => intro i cs fps _ hx; simp at hx
 | cons y ys ih =>
  intro i cs fps h hx
  obtain ⟨c1, c2, f1, f2, rfl, rfl, h1, h2⟩ := h
  have hl := L.len h1
  cases i with
  | zero =>
   simp at hx
   subst hx
   refine ⟨c1, f1, [], f2, by simp, fun j hj => by rw [Nat.zero_mul, Nat.zero_add, List.getElem?_append_left (by omega)], h1, fun w' x' f' hr hk => ⟨c1, c2, f', f2, rfl, by simp, hr, L.all_keep h2 (fun y hy => hk y (.inr hy))⟩⟩
  | succ i =>
   obtain ⟨c, f, g1, g2, rfl, hc, hr, hm⟩ := ih h2 (by simpa using hx)
   refine ⟨c, f, f1 ++ g1, g2, by simp, fun j hj => ?_, hr, fun w' x' f' hr' hk => ⟨c1, c2, f1, _, rfl, by simp, L.keep h1 (fun y hy => hk y (.inl (by simp [hy]))), hm w' x' f' hr' (fun y hy => hk y (by rcases hy with hy | hy; exact .inl (by simp [hy]); exact .inr hy))⟩⟩
   have e : (i + 1) * L.n + j = c1.length + (i * L.n + j) := by rw [Nat.add_mul, Nat.one_mul, hl]; omega
   rw [e, List.getElem?_append_right (by omega), Nat.add_sub_cancel_left, hc j hj]
/-- an element of a slice may change in its own blocks and may get others -/
theorem Lay.sl_modN {α : Type} (L : Lay α) {w : World} {b off len cap : Nat} {xs : List α} {fp : List Nat} (h : L.sl w (some ⟨b, off, none⟩) len cap xs fp) (nd : fp.Nodup) {i : Nat} (hi : i < len) :
  ∃ x c f, xs[i]? = some x ∧ b ∈ fp ∧ (∀ j, j < L.n → w.cell? ⟨b, off + i * L.n + j, none⟩ = c[j]?) ∧ L.rep w c x f ∧ (∀ y ∈ f, y ∈ fp) ∧ f.Nodup ∧ b ∉ f ∧
   ∀ w' x' f', L.rep w' c x' f' → f'.Nodup → (∀ y ∈ f', y ∈ f ∨ y ∉ fp) → (∀ y ∈ fp, y ∉ f → w'.heap[y]? = w.heap[y]?) →
    ∃ fp', L.sl w' (some ⟨b, off, none⟩) len cap (xs.set i x') fp' ∧ fp'.Nodup ∧ ∀ y ∈ fp', (y ∈ fp ∧ y ∉ f) ∨ y ∈ f' := by
 obtain ⟨h1, h2, h3, h4, ⟨rfl, rfl⟩ | ⟨b', off', cur, E, fr, fps, ha, hb, hall, rfl⟩⟩ := h
 ·simp at h1; omega
 ·simp only [Option.some.injEq, Addr.mk.injEq, and_true] at ha
  obtain ⟨rfl, rfl⟩ := ha
  have hx : xs[i]? = some (xs[i]'(by omega)) := List.getElem?_eq_getElem _
  obtain ⟨c, f, f1, f2, rfl, hc, hr, hm⟩ := L.all_modN hall hx
  have nd1 := List.nodup_cons.1 nd
  have nd2 := List.nodup_append.1 nd1.2
  have nd3 := List.nodup_append.1 nd2.1
  have hf1 : ∀ y ∈ f1, y ∉ f := fun y hy hyf => nd3.2.2 y hy y hyf rfl
  have hf2 : ∀ y ∈ f2, y ∉ f := fun y hy hyf => nd2.2.2 y (by simp [hyf]) y hy rfl
  have hbf : b ∉ f := fun hbf => nd1.1 (by simp [hbf])
  refine ⟨_, c, f, hx, by simp, fun j hj => ?_, hr, fun y hy => by simp [hy], nd3.2.1, hbf, fun w' x' f' hr' ndf hd hk => ⟨b :: (f1 ++ f' ++ f2), ⟨by simpa using h1, h2, h3, h4, .inr ⟨b, off, cur, E, fr, _, rfl, ?_, hm w' x' f' hr' ?_, rfl⟩⟩, ?_, ?_⟩⟩
  ·rw [cell_of_row w b _ cur E fr hb, ← hc j hj, List.getElem?_take_of_lt, List.getElem?_drop]
   ·simp [Nat.add_assoc]
   ·calc i * L.n + j < i * L.n + L.n := by omega
     _ = (i + 1) * L.n := by rw [Nat.add_mul, Nat.one_mul]
     _ ≤ len * L.n := Nat.mul_le_mul_right _ (by omega)
  ·rw [hk b (by simp) hbf]; exact hb
  ·intro y hy
   refine hk y (by rcases hy with hy | hy <;> simp [hy]) (fun hyf => ?_)
   rcases hy with hy | hy
   ·exact hf1 y hy hyf
   ·exact hf2 y hy hyf
  ·have d1 : ∀ y ∈ f', y ∉ f1 := fun y hy h1 => by
    rcases hd y hy with h | h
    ·exact hf1 y h1 h
    ·exact h (by simp [h1])
   have d2 : ∀ y ∈ f', y ∉ f2 := fun y hy h1 => by
    rcases hd y hy with h | h
    ·exact hf2 y h1 h
    ·exact h (by simp [h1])
   have db : b ∉ f' := fun hy => by
    rcases hd b hy with h | h
    ·exact hbf h
    ·exact h (by simp)
   refine List.nodup_cons.2 ⟨fun hm => ?_, List.nodup_append.2 ⟨List.nodup_append.2 ⟨nd3.1, ndf, fun y hy z hz e => d1 z hz (e ▸ hy)⟩, nd2.2.1, fun y hy z hz e => ?_⟩⟩
   ·rw [List.mem_append, List.mem_append] at hm
    rcases hm with (hm | hm) | hm
    ·exact nd1.1 (by simp [hm])
    ·exact db hm
    ·exact nd1.1 (by simp [hm])
   ·subst e
    rcases List.mem_append.1 hy with hy | hy
    ·exact nd2.2.2 y (by simp [hy]) y hz rfl
    ·exact d2 y hy hz
  ·intro y hy
   simp only [List.mem_cons, List.mem_append] at hy
   rcases hy with rfl | (hy | hy) | hy
   ·exact .inl ⟨by simp, hbf⟩
   ·exact .inl ⟨by simp [hy], hf1 y hy⟩
   ·exact .inr hy
   ·exact .inl ⟨by simp [hy], hf2 y hy⟩
theorem Fresh.swap3 {B : Nat} {w : World} {a b c c' : List Nat} (h : Fresh B w (a ++ (b ++ (c ++ [])))) (nd : c'.Nodup) (hc : ∀ y ∈ c', y ∈ c ∨ (y ∉ a ++ (b ++ (c ++ [])) ∧ B ≤ y ∧ Loose w y)) : Fresh B w (a ++ (b ++ (c' ++ []))) := by
 obtain ⟨h1, h2⟩ := h
 rw [List.append_nil] at h1 h2 hc ⊢
 obtain ⟨na, nbc, dabc⟩ := List.nodup_append.1 h1
 obtain ⟨nb, nc, dbc⟩ := List.nodup_append.1 nbc
 refine ⟨List.nodup_append.2 ⟨na, List.nodup_append.2 ⟨nb, nd, fun y hy z hz e => ?_⟩, fun y hy z hz e => ?_⟩, fun y hy => ?_⟩
 ·subst e
  rcases hc y hz with h | ⟨h, -⟩
  ·exact dbc y hy y h rfl
  ·exact h (by simp [hy])
 ·subst e
  rcases List.mem_append.1 hz with hz | hz
  ·exact dabc y hy y (by simp [hz]) rfl
  ·rcases hc y hz with h | ⟨h, -⟩
   ·exact dabc y hy y (by simp [h]) rfl
   ·exact h (by simp [hy])
 ·rcases List.mem_append.1 hy with hy | hy
  ·exact h2 y (by simp [hy])
  ·rcases List.mem_append.1 hy with hy | hy
   ·exact h2 y (by simp [hy])
   ·rcases hc y hy with h | ⟨_, h, h'⟩
    ·exact h2 y (by simp [h])
    ·exact ⟨h, h'⟩
end Go.Proofs.YtnnhopcjlnnchaaGreat

/- Tapes of which the memory up to the capacity of their records is known. No function of the program in sight. -/
namespace Go.Proofs.YtnnhopcjlnnchaaGreat
open Go.RowKit

def Lay.sliceO {α : Type} (L : Lay α) (E : TypeId) : Lay (List α) where
 n := 1
 rep := fun w cs xs fp => ∃ v h fps, cs = [v] ∧ L.os E w v xs h fps ∧ fp = h.toList ++ fps
 pos := by decide
 len := by rintro w cs x fp ⟨v, h, fps, rfl, _⟩; rfl
 lt := by
  rintro w cs x fp ⟨v, h, fps, rfl, ho, rfl⟩ b hb
  obtain ⟨h1, h2⟩ := L.os_lt ho
  rcases List.mem_append.1 hb with h3 | h3
  ·exact h1 b (by simpa using h3)
  ·exact h2 b h3
 keep := by
  rintro w w' cs x fp ⟨v, h, fps, rfl, ho, rfl⟩ hk
  exact ⟨v, h, fps, rfl, L.os_keep ho (fun g hg => hk g (by simp [hg])) (fun b hb => hk b (by simp [hb])), rfl⟩
 one := by
  rintro w cs x fp ⟨v, h, fps, rfl, ho, _⟩ u hu
  simp at hu
  subst hu
  obtain ⟨a, cap, rfl⟩ := L.os_len ho
  rfl
def tapO : Lay Tap := (boolL.pair (recL.sliceO 68)).via tapT
theorem tapO_iff {w : World} {cs : List Value} {x : Tap} {fp : List Nat} : tapO.rep w cs x fp ↔ ∃ v h fps, cs = [.bool x.wiped, v] ∧ recL.os 68 w v x.recs h fps ∧ fp = h.toList ++ fps := by
 constructor
 ·rintro ⟨_, _, _, f1, rfl, rfl, ⟨rfl, rfl⟩, v, h, fps, rfl, ho, rfl⟩
  exact ⟨v, h, fps, rfl, ho, rfl⟩
 ·rintro ⟨v, h, fps, rfl, ho, rfl⟩
  exact ⟨[_], _, [], _, rfl, rfl, ⟨rfl, rfl⟩, v, h, fps, rfl, ho, rfl⟩
theorem tapO_tap {w : World} {cs : List Value} {x : Tap} {fp : List Nat} (h : tapO.rep w cs x fp) : tapL.rep w cs x fp := by
 obtain ⟨v, hd, fps, rfl, ho, rfl⟩ := tapO_iff.1 h
 obtain ⟨a, cap, rfl, hs⟩ := recL.os_sl ho
 exact tapL_iff.2 ⟨a, _, cap, _, rfl, hs, rfl⟩
theorem Lay.all_map {α : Type} {L M : Lay α} (hm : ∀ {w cs x fp}, L.rep w cs x fp → M.rep w cs x fp) {w : World} : ∀ {xs : List α} {cs : List Value} {fp : List Nat}, L.all w cs xs fp → M.all w cs xs fp
 | [], _, _, h => h
 | _ :: _, _, _, ⟨c1, c2, f1, f2, e1, e2, h1, h2⟩ => ⟨c1, c2, f1, f2, e1, e2, hm h1, Lay.all_map hm h2⟩
theorem Lay.sl_map {α : Type} {L M : Lay α} (hn : L.n = M.n) (hm : ∀ {w cs x fp}, L.rep w cs x fp → M.rep w cs x fp) {w : World} {a : Option Addr} {l c : Nat} {xs : List α} {fp : List Nat} (h : L.sl w a l c xs fp) : M.sl w a l c xs fp := by
 obtain ⟨h1, h2, h3, h4, h5⟩ := h
 refine ⟨h1, h2, h3, h4, ?_⟩
 rcases h5 with h5 | ⟨b, off, cur, E, fr, fps, e1, e2, hall, e3⟩
 ·exact .inl h5
 ·exact .inr ⟨b, off, cur, E, fr, fps, e1, e2, Lay.all_map hm (by rw [← hn]; exact hall), e3⟩
theorem tapO_sl {w : World} {a : Option Addr} {l c : Nat} {xs : List Tap} {fp : List Nat} (h : tapO.sl w a l c xs fp) : tapL.sl w a l c xs fp := Lay.sl_map (L := tapO) (M := tapL) rfl tapO_tap h
/-- what stands in a row is put in place of a list of values; what lies elsewhere may have changed -/
theorem Lay.all_putO {α : Type} (L : Lay α) {w : World} {x : α} : ∀ {xs : List α} {i : Nat} {cs : List Value} {fps : List Nat}, L.all w cs xs fps → xs[i]? = some x →
  ∃ f f1 f2, fps = f1 ++ f ++ f2 ∧ (∃ c, L.rep w c x f ∧ ∀ j, j < L.n → cs[i * L.n + j]? = c[j]?) ∧
   ∀ w' c' x' f', L.rep w' c' x' f' → (∀ y, (y ∈ f1 ∨ y ∈ f2) → w'.heap[y]? = w.heap[y]?) → L.all w' (cs.take (i * L.n) ++ (c' ++ cs.drop (i * L.n + L.n))) (xs.set i x') (f1 ++ f' ++ f2) := by
 intro xs
 induction xs with
 | nil => intro i cs fps _ hx; simp at hx
 | cons y ys ih =>
  intro i cs fps h hx
  obtain ⟨c1, c2, f1, f2, rfl, rfl, h1, h2⟩ := h
  have hl := L.len h1
  cases i with
  | zero =>
   simp at hx
   subst hx
   refine ⟨f1, [], f2, by simp, ⟨c1, h1, fun j hj => by rw [Nat.zero_mul, Nat.zero_add, List.getElem?_append_left (by omega)]⟩, fun w' c' x' f' hr hk => ⟨c', c2, f', f2, ?_, by simp, hr, L.all_keep h2 (fun y hy => hk y (.inr hy))⟩⟩
   rw [Nat.zero_mul, List.take_zero, List.nil_append, Nat.zero_add, ← hl, List.drop_left]
  | succ i =>
   obtain ⟨f, g1, g2, rfl, ⟨c, hr, hc⟩, hm⟩ := ih h2 (by simpa using hx)
   have e0 : (i + 1) * L.n = c1.length + i * L.n := by rw [Nat.add_mul, Nat.one_mul, hl]; omega
   refine ⟨f, f1 ++ g1, g2, by simp, ⟨c, hr, fun j hj => ?_⟩, fun w' c' x' f' hr' hk => ⟨c1, c2.take (i * L.n) ++ (c' ++ c2.drop (i * L.n + L.n)), f1, g1 ++ f' ++ g2, ?_, by simp, L.keep h1 (fun y hy => hk y (.inl (by simp [hy]))), hm w' c' x' f' hr' (fun y hy => hk y (by rcases hy with hy | hy; exact .inl (by simp [hy]); exact .inr hy))⟩⟩
   ·have e : (i + 1) * L.n + j = c1.length + (i * L.n + j) := by omega
    rw [e, List.getElem?_append_right (by omega), Nat.add_sub_cancel_left, hc j hj]
   ·have e2 : c1.length + i * L.n + L.n = c1.length + (i * L.n + L.n) := by omega
    rw [e0, List.take_append, List.take_of_length_le (Nat.le_add_right _ _), Nat.add_sub_cancel_left, e2, List.drop_append, List.drop_eq_nil_of_le (Nat.le_add_right _ _), Nat.add_sub_cancel_left]
    simp
theorem row_put {cur : Array Value} {off i n len : Nat} {vs : List Value} (hvl : vs.length = n) (hle : i * n + n ≤ len * n) (hsz : off + (i * n + n) ≤ cur.size) :
  ((cur.toList.take (off + i * n) ++ (vs ++ cur.toList.drop (off + i * n + vs.length))).drop off).take (len * n) = ((cur.toList.drop off).take (len * n)).take (i * n) ++ (vs ++ ((cur.toList.drop off).take (len * n)).drop (i * n + n)) := by
 have hlen : cur.toList.length = cur.size := by simp
 rw [hvl]
 rw [List.drop_append_of_le_length (by rw [List.length_take]; omega), List.drop_take, show off + i * n - off = i * n by omega]
 rw [List.take_append, List.take_take, List.take_take, List.length_take, List.length_drop]
 rw [show min (len * n) (i * n) = i * n by omega, show min (i * n) (len * n) = i * n by omega]
 congr 1
 rw [show min (i * n) (cur.toList.length - off) = i * n by omega]
 rw [List.take_append, hvl, List.take_of_length_le (show vs.length ≤ len * n - i * n by omega)]
 congr 1
 rw [List.drop_take, List.drop_drop, show off + i * n + n = off + (i * n + n) by omega]
 congr 1
 omega
/-- an element of a slice gets other cells; its blocks may change, and it may get others -/
theorem Lay.sl_putO {α : Type} (L : Lay α) {w : World} {b off len cap : Nat} {xs : List α} {fp : List Nat} (h : L.sl w (some ⟨b, off, none⟩) len cap xs fp) (nd : fp.Nodup) {i : Nat} (hi : i < len) :
  ∃ x f c, xs[i]? = some x ∧ b ∈ fp ∧ (∀ j, j < L.n → w.cell? ⟨b, off + i * L.n + j, none⟩ = c[j]?) ∧ L.rep w c x f ∧ (∀ y ∈ f, y ∈ fp) ∧ f.Nodup ∧ b ∉ f ∧
   ∀ w7 c' x' f', w7.heap[b]? = w.heap[b]? → L.rep w7 c' x' f' → f'.Nodup → (∀ y ∈ f', y ∈ f ∨ y ∉ fp) → (∀ y ∈ fp, y ∉ f → w7.heap[y]? = w.heap[y]?) →
    ∃ fp', L.sl (w7.setCells b (off + i * L.n) c') (some ⟨b, off, none⟩) len cap (xs.set i x') fp' ∧ fp'.Nodup ∧ ∀ y ∈ fp', (y ∈ fp ∧ y ∉ f) ∨ y ∈ f' := by
 obtain ⟨x, c, f, hx, hb, hc, hr, hf, hfn, hbf, -⟩ := L.sl_modN h nd hi
 obtain ⟨h1, h2, h3, h4, ⟨rfl, rfl⟩ | ⟨b', off', cur, E, fr, fps, ha, hb', hall, rfl⟩⟩ := h
 ·simp at h1; omega
 ·simp only [Option.some.injEq, Addr.mk.injEq, and_true] at ha
  obtain ⟨rfl, rfl⟩ := ha
  obtain ⟨f0, f1, f2, rfl, ⟨c0, hr0, hc0⟩, hm⟩ := L.all_putO hall hx
  have nd1 := List.nodup_cons.1 nd
  have nd2 := List.nodup_append.1 nd1.2
  have nd3 := List.nodup_append.1 nd2.1
  have hal := L.all_len hall
  rw [List.length_take, List.length_drop] at hal
  have hle : (i + 1) * L.n ≤ len * L.n := Nat.mul_le_mul_right _ (by omega)
  rw [Nat.add_mul, Nat.one_mul] at hle
  have hsz : off + (i * L.n + L.n) ≤ cur.size := by
   have := L.pos
   have e : cur.toList.length = cur.size := by simp
   rw [h1] at hle
   omega
  have hcell : ∀ j, j < L.n → w.cell? ⟨b, off + i * L.n + j, none⟩ = c0[j]? := fun j hj => by
   rw [cell_of_row w b _ cur E fr hb', ← hc0 j hj, List.getElem?_take_of_lt, List.getElem?_drop]
   ·simp [Nat.add_assoc]
   ·omega
  have hf1 : ∀ y ∈ f1, y ∉ f0 := fun y hy hyf => nd3.2.2 y hy y hyf rfl
  have hf2 : ∀ y ∈ f2, y ∉ f0 := fun y hy hyf => nd2.2.2 y (by simp [hyf]) y hy rfl
  have hbf0 : b ∉ f0 := fun hbf => nd1.1 (by simp [hbf])
  refine ⟨x, f0, c0, hx, by simp, hcell, hr0, fun y hy => by simp [hy], nd3.2.1, hbf0, fun w7 c' x' f' hb7 hr' ndf hd hk => ?_⟩
  have hvl := L.len hr'
  have db : b ∉ f' := fun hy => by
   rcases hd b hy with h | h
   ·exact hbf0 h
   ·exact h (by simp)
  have d1 : ∀ y ∈ f', y ∉ f1 := fun y hy h1 => by
   rcases hd y hy with h | h
   ·exact hf1 y h1 h
   ·exact h (by simp [h1])
  have d2 : ∀ y ∈ f', y ∉ f2 := fun y hy h1 => by
   rcases hd y hy with h | h
   ·exact hf2 y h1 h
   ·exact h (by simp [h1])
  have hfar : ∀ y, y ≠ b → (w7.setCells b (off + i * L.n) c').heap[y]? = w7.heap[y]? := fun y hy => setCells_far hy c' (off + i * L.n) w7
  have hr2 := L.keep hr' (fun y hy => hfar y (fun e => db (e ▸ hy)))
  have hall' := hm _ c' x' f' hr2 (fun y hy => by
   rw [hfar y (fun e => nd1.1 (by subst e; rcases hy with hy | hy <;> simp [hy]))]
   refine hk y (by rcases hy with hy | hy <;> simp [hy]) (fun hyf => ?_)
   rcases hy with hy | hy
   ·exact hf1 y hy hyf
   ·exact hf2 y hy hyf)
  refine ⟨b :: (f1 ++ f' ++ f2), ⟨by simpa using h1, h2, h3, h4, .inr ⟨b, off, _, E, fr, _, rfl, setCells_heap c' _ w7 cur (by rw [hb7]; exact hb'), ?_, rfl⟩⟩, ?_, ?_⟩
  ·rw [setRow_toList c' _ cur (by omega), row_put hvl hle hsz]
   exact hall'
  ·refine List.nodup_cons.2 ⟨fun hm => ?_, List.nodup_append.2 ⟨List.nodup_append.2 ⟨nd3.1, ndf, fun y hy z hz e => d1 z hz (e ▸ hy)⟩, nd2.2.1, fun y hy z hz e => ?_⟩⟩
   ·rw [List.mem_append, List.mem_append] at hm
    rcases hm with (hm | hm) | hm
    ·exact nd1.1 (by simp [hm])
    ·exact db hm
    ·exact nd1.1 (by simp [hm])
   ·subst e
    rcases List.mem_append.1 hy with hy | hy
    ·exact nd2.2.2 y (by simp [hy]) y hz rfl
    ·exact d2 y hy hz
  ·intro y hy
   simp only [List.mem_cons, List.mem_append] at hy
   rcases hy with rfl | (hy | hy) | hy
   ·exact .inl ⟨by simp, hbf0⟩
   ·exact .inl ⟨by simp [hy], hf1 y hy⟩
   ·exact .inr hy
   ·exact .inl ⟨by simp [hy], hf2 y hy⟩
end Go.Proofs.YtnnhopcjlnnchaaGreat
