/- Several texts in one. -/
import Derived.Test.YtphmpimgbmedbaaGreatQam
import Derived.Laws.CopyRow
import Derived.Laws.Cells
import Derived.Laws.IdiomCopy
import Derived.Test.YtphmpimgbmedbaaGreatQab
import Derived.Test.YtphmpimgbmedbaaGreatQal
import Derived.Test.YtphmpimgbmedbaaGreatQae
import Derived.Test.YtphmpimgbmedbaaGreatQaf
import Derived.Test.YtphmpimgbmedbaaGreatRows
import Derived.Test.YtphmpimgbmedbaaGreatQak
import Derived.Test.YtphmpimgbmedbaaGreatQaa
set_option maxRecDepth 100000
set_option maxHeartbeats 8000000
namespace Go.Proofs.YtphmpimgbmedbaaGreat
open Go.RowKit
open Go.Lib (hid)
theorem Chg.setRowAt {S : List Nat} {a w : World} {b : Nat} (cs : Array Value) (h : Chg S a w) (hb : b ∈ S ∨ a.heap.size ≤ b) : Chg S a (w.setRow b cs) :=
 ⟨h.os, h.tape, h.output, by simp only [World.setRow, Array.size_modify]; exact h.size, fun k hk hS => by rw [setRow_other _ _ _ _ (hb.elim (fun hb e => hS (by rw [e]; exact hb)) (fun hb => by omega))]; exact h.block k hk hS, fun k hk => by
  obtain ⟨c, E, h1⟩ := h.loose k hk
  by_cases e : k = b
  ·subst e; exact ⟨_, E, setRow_heap w k c _ E _ h1⟩
  ·exact ⟨c, E, by rw [setRow_other _ _ _ _ e]; exact h1⟩⟩
theorem store_wp' {P : Program} {o : Oper} {a : Act} {Kc : Act → World → Prop} {Q : Exit → Act → World → Prop} {w : World} {b : Nat} {cs vs : Array Value} {E : TypeId} {n : Nat} (p v : Operand) (t : TypeId)
  (hop : o.op = .store t p v) (hp : a.eval p = .pointer (some ⟨b, 0, none⟩)) (hv : a.eval v = .agg vs) (hi : (P.info? t).map (fun i => i.size) = some n) (h : w.heap[b]? = some (.cells cs E (0, 0)))
  (hn : vs.size = n) (hs : cs.size = n) (hone : vs.toList.all Value.oneCell' = true)
  (hk : Kc (a.put o.dst undef) (w.setRow b vs)) : o.wp P a w Kc Q := by
 obtain ⟨i, hi1, hi2⟩ := Option.map_eq_some_iff.1 hi
 have hst := run_storeCells_at (P := P) b 0 E vs.toList 0 cs w h (by simp; omega) (fun v hv => List.all_eq_true.1 hone v hv)
 have e : (cs.toList.take (0 + 0) ++ vs.toList ++ cs.toList.drop (0 + 0 + vs.toList.length)).toArray = vs := by
  have : cs.toList.drop (0 + 0 + vs.toList.length) = [] := List.drop_eq_nil_of_le (by simp; omega)
  rw [this]; simp
 rw [e] at hst
 have hsz : vs.size = i.size := by omega
 unfold Oper.wp execOp
 simp only [hop, hp, hv, Instr.storeAt, Instr.sureAddr, storeVar, Value.cells, sizeOf, typeInfo, Sem.run_bind, Sem.run_pure, Result.andThen_ok]
 have hp0 : (program : Sem Program).run P w = .ok P w := rfl
 simp only [hp0, Result.andThen_ok, hi1, Sem.run_pure, ← hsz, ne_eq, not_true, if_false, hst]
 exact hk
theorem store_wp {P : Program} {o : Oper} {a : Act} {Kc : Act → World → Prop} {Q : Exit → Act → World → Prop} {w : World} {b : Nat} {cs vs : Array Value} {E : TypeId} {n : Nat} (p v : Operand) (t : TypeId)
  (hop : o.op = .store t p v) (hp : a.eval p = .pointer (some ⟨b, 0, none⟩)) (hv : a.eval v = .agg vs) (hi : (P.info? t).map (fun i => i.size) = some n) (h : w.heap[b]? = some (.cells cs E (0, 0)))
  (hn : vs.size = n) (hs : cs.size = n) (hone : vs.toList.all Value.oneCell' = true)
  (hk : ∀ w', w'.heap[b]? = some (.cells vs E (0, 0)) → Chg [b] w w' → Kc (a.put o.dst undef) w') : o.wp P a w Kc Q :=
 store_wp' p v t hop hp hv hi h hn hs hone (hk _ (setRow_heap w b cs vs E (0, 0) h) ((Chg.refl _ w).setRowAt vs (.inl (by simp))))
theorem q5n {P : Program} {ops : Array Oper} {rest : List Oper} {o : Oper} {a : Act} {Q : Exit → Act → World → Prop} {w : World} {b : Nat} {cs vs : Array Value} {E : TypeId} {n : Nat} (hgd : o.guard = none) (p v : Operand) (t : TypeId)
  (hop : o.op = .store t p v) (hp : a.eval p = .pointer (some ⟨b, 0, none⟩)) (hv : a.eval v = .agg vs) (hi : (P.info? t).map (fun i => i.size) = some n) (h : w.heap[b]? = some (.cells cs E (0, 0)))
  (hn : vs.size = n) (hs : cs.size = n) (hone : vs.toList.all Value.oneCell' = true)
  (hk : ∀ w', w'.heap[b]? = some (.cells vs E (0, 0)) → Chg [b] w w' → wpList P ops Q rest (a.put o.dst undef) w') : wpList P ops Q (o :: rest) a w :=
 wpList_plain hgd fun _ hK => store_wp p v t hop hp hv hi h hn hs hone fun w' h1 h2 => hK _ _ (hk w' h1 h2)
theorem alloc_setRow (w : World) (cs vs : Array Value) (E : TypeId) : (w.alloc (.cells cs E)).setRow w.heap.size vs = w.alloc (.cells vs E) := by
 unfold World.setRow World.alloc
 congr 1
 apply Array.ext_getElem?
 intro k
 rw [Array.getElem?_modify]
 by_cases h : w.heap.size = k
 ·subst h; simp
 ·rw [if_neg h, Array.getElem?_push, Array.getElem?_push, if_neg (fun e => h e.symm), if_neg (fun e => h e.symm)]
theorem q0s {P : Program} {ops : Array Oper} {rest : List Oper} {o : Oper} {a : Act} {Q : Exit → Act → World → Prop} {w : World} {b : Nat} {cs vs : Array Value} {E : TypeId} {n : Nat} (hgd : o.guard = none) (p v : Operand) (t : TypeId)
  (hop : o.op = .store t p v) (hp : a.eval p = .pointer (some ⟨b, 0, none⟩)) (hv : a.eval v = .agg vs) (hb : b = w.heap.size) (hi : (P.info? t).map (fun i => i.size) = some n)
  (hn : vs.size = n) (hs : cs.size = n) (hone : vs.toList.all Value.oneCell' = true)
  (hk : wpList P ops Q rest (a.put o.dst undef) (w.alloc (.cells vs E))) : wpList P ops Q (o :: rest) a (w.alloc (.cells cs E)) := by
 subst hb
 exact wpList_plain hgd fun _ hK => store_wp' p v t hop hp hv hi (q1a w _) hn hs hone (by rw [alloc_setRow]; exact hK _ _ hk)
theorem load_wp {P : Program} {o : Oper} {a : Act} {Kc : Act → World → Prop} {Q : Exit → Act → World → Prop} {w : World} {b : Nat} {cs : Array Value} {E : TypeId} {fr : Nat × Nat} {n : Nat} {fs : Array Field} (p : Operand) (t : TypeId)
  (hop : o.op = .load t p) (hp : a.eval p = .pointer (some ⟨b, 0, none⟩)) (hi : (P.info? t).map (fun i => i.size) = some n) (hu : P.underlying t = some (.struct fs)) (h : w.heap[b]? = some (.cells cs E fr))
  (hs : cs.size = n) (hk : Kc (a.put o.dst (.agg cs)) w) : o.wp P a w Kc Q := by
 obtain ⟨i, hi1, hi2⟩ := Option.map_eq_some_iff.1 hi
 have hld := run_loadCells_list (P := P) (w := w) ⟨b, 0, none⟩ cs.toList (fun j v hv => by
  have := cell_of_row w b j cs E fr h
  rw [Addr.add_lit, Nat.zero_add, this]; simpa using hv)
 have hsz : cs.toList.length = i.size := by simp; omega
 rw [hsz] at hld
 unfold Oper.wp execOp
 have hp0 : (program : Sem Program).run P w = .ok P w := rfl
 simp only [hop, hp, Instr.loadAt, Instr.sureAddr, loadVar, isAgg, run_underlying hu, sizeOf, typeInfo, Sem.run_bind, Sem.run_pure, Result.andThen_ok, hp0, hi1, if_true, hld]
 rw [Array.toArray_toList]
 exact hk
theorem q0n {P : Program} {ops : Array Oper} {rest : List Oper} {o : Oper} {a : Act} {Q : Exit → Act → World → Prop} {w : World} {b : Nat} {cs : Array Value} {E : TypeId} {fr : Nat × Nat} {n : Nat} {fs : Array Field} (hgd : o.guard = none) (p : Operand) (t : TypeId)
  (hop : o.op = .load t p) (hp : a.eval p = .pointer (some ⟨b, 0, none⟩)) (hi : (P.info? t).map (fun i => i.size) = some n) (hu : P.underlying t = some (.struct fs)) (h : w.heap[b]? = some (.cells cs E fr))
  (hs : cs.size = n) (hk : wpList P ops Q rest (a.put o.dst (.agg cs)) w) : wpList P ops Q (o :: rest) a w :=
 wpList_plain hgd fun _ hK => load_wp p t hop hp hi hu h hs (hK _ _ hk)
theorem q3q {P : Program} {fn : Func} {tmps : Array Value} {w : World} {b : Nat} {cs : Array Value} {E : TypeId} {fr : Nat × Nat} {n : Nat} {fs : Array Field} (s : Tmp) (t : TypeId) (hr : fn.results = #[.cell s t])
  (hp : tmps.getD s undef = .pointer (some ⟨b, 0, none⟩)) (hi : (P.info? t).map (fun i => i.size) = some n) (hu : P.underlying t = some (.struct fs)) (h : w.heap[b]? = some (.cells cs E fr)) (hs : cs.size = n) :
  (results fn tmps).run P w = .ok (.agg cs) w := by
 obtain ⟨i, hi1, hi2⟩ := Option.map_eq_some_iff.1 hi
 have hld := run_loadCells_list (P := P) (w := w) ⟨b, 0, none⟩ cs.toList (fun j v hv => by
  have := cell_of_row w b j cs E fr h
  rw [Addr.add_lit, Nat.zero_add, this]; simpa using hv)
 have hsz : cs.toList.length = i.size := by simp; omega
 rw [hsz, Array.toArray_toList] at hld
 have hp0 : (program : Sem Program).run P w = .ok P w := rfl
 have hl : (loadVar t ⟨b, 0, none⟩).run P w = .ok (.agg cs) w := by
  simp only [loadVar, isAgg, run_underlying hu, sizeOf, typeInfo, Sem.run_bind, Sem.run_pure, Result.andThen_ok, hp0, hi1, if_true, hld]
 have hp2 : tmps[s]?.getD undef = .pointer (some ⟨b, 0, none⟩) := by simpa using hp
 simp [results, hr, hp2, asAddr, hl]
theorem q2c : (Tryz.prog.info? 34).map (fun i => i.size) = some 15 := by kernel_rfl
end Go.Proofs.YtphmpimgbmedbaaGreat
namespace Go.Proofs.YtphmpimgbmedbaaGreat
open Go.RowKit
open Go.Lib (hid)
theorem load_row {P : Program} {o : Oper} {a : Act} {Kc : Act → World → Prop} {Q : Exit → Act → World → Prop} {w : World} {b k n : Nat} {cs : List Value} {fs : Array Field} (p : Operand) (t : TypeId)
  (hop : o.op = .load t p) (hp : a.eval p = .pointer (some ⟨b, k, none⟩)) (hi : (P.info? t).map (fun i => i.size) = some n) (hu : P.underlying t = some (.struct fs)) (h : ∀ j v, cs[j]? = some v → w.cell? ⟨b, k + j, none⟩ = some v)
  (hs : cs.length = n) (hk : Kc (a.put o.dst (.agg cs.toArray)) w) : o.wp P a w Kc Q := by
 obtain ⟨i, hi1, hi2⟩ := Option.map_eq_some_iff.1 hi
 have hld := run_loadCells_list (P := P) (w := w) ⟨b, k, none⟩ cs (fun j v hv => by rw [Addr.add_lit]; exact h j v hv)
 have hsz : cs.length = i.size := by omega
 rw [hsz] at hld
 unfold Oper.wp execOp
 have hp0 : (program : Sem Program).run P w = .ok P w := rfl
 simp only [hop, hp, Instr.loadAt, Instr.sureAddr, loadVar, isAgg, run_underlying hu, sizeOf, typeInfo, Sem.run_bind, Sem.run_pure, Result.andThen_ok, hp0, hi1, if_true, hld]
 exact hk
theorem q4z {P : Program} {ops : Array Oper} {rest : List Oper} {o : Oper} {a : Act} {Q : Exit → Act → World → Prop} {w : World} {b k n : Nat} {cs : List Value} {fs : Array Field} (hgd : o.guard = none) (p : Operand) (t : TypeId)
  (hop : o.op = .load t p) (hp : a.eval p = .pointer (some ⟨b, k, none⟩)) (hi : (P.info? t).map (fun i => i.size) = some n) (hu : P.underlying t = some (.struct fs)) (h : ∀ j v, cs[j]? = some v → w.cell? ⟨b, k + j, none⟩ = some v)
  (hs : cs.length = n) (hk : wpList P ops Q rest (a.put o.dst (.agg cs.toArray)) w) : wpList P ops Q (o :: rest) a w :=
 wpList_plain hgd fun _ hK => load_row p t hop hp hi hu h hs (hK _ _ hk)
theorem store_row {P : Program} {o : Oper} {a : Act} {Kc : Act → World → Prop} {Q : Exit → Act → World → Prop} {w : World} {b k n : Nat} {cs : List Value} (p v : Operand) (t : TypeId)
  (hop : o.op = .store t p v) (hp : a.eval p = .pointer (some ⟨b, k, none⟩)) (hv : a.eval v = .agg cs.toArray) (hi : (P.info? t).map (fun i => i.size) = some n)
  (hc : ∀ j, j < n → (w.cell? ⟨b, k + j, none⟩).isSome = true) (hf : ∀ j, w.frozen? ⟨b, j, none⟩ = false) (hs : cs.length = n) (hone : ∀ u ∈ cs, u.oneCell' = true)
  (hk : Kc (a.put o.dst undef) (w.setCells b k cs)) : o.wp P a w Kc Q := by
 obtain ⟨i, hi1, hi2⟩ := Option.map_eq_some_iff.1 hi
 have hst := run_storeCells_cells (P := P) b k cs 0 w (fun j hj => by rw [Nat.add_zero]; exact hc j (by omega)) (fun j _ => hf _) hone
 rw [Nat.add_zero] at hst
 have hsz : cs.toArray.size = i.size := by simp; omega
 unfold Oper.wp execOp
 simp only [hop, hp, hv, Instr.storeAt, Instr.sureAddr, storeVar, Value.cells, sizeOf, typeInfo, Sem.run_bind, Sem.run_pure, Result.andThen_ok]
 have hp0 : (program : Sem Program).run P w = .ok P w := rfl
 simp only [hp0, Result.andThen_ok, hi1, Sem.run_pure, ← hsz, ne_eq, not_true, if_false, hst]
 exact hk
section
variable {α : Type} {L : Lay α} {w w' : World} {b off : Nat} {ps : List (α × List Nat)}
def q1s (w : World) (b k n : Nat) (cs : List Value) : Prop := cs.length = n ∧ (∀ j v, cs[j]? = some v → w.cell? ⟨b, k + j, none⟩ = some v) ∧ ∀ u ∈ cs, u.oneCell' = true
theorem q1b.look (h : q1b L w b off ps) {i : Nat} {p : α × List Nat} (hp : ps[i]? = some p) : ∃ c, L.rep w c p.1 p.2 ∧ b ∉ p.2 ∧ q1s w b (off + i * L.n) L.n c := by
 have hi := (List.getElem?_eq_some_iff.1 hp).1
 obtain ⟨q, c, hq, hr, hb, hc⟩ := h.at hi
 rw [hp] at hq
 obtain rfl := Option.some.inj hq
 refine ⟨c, hr, hb, L.len hr, fun j v hv => ?_, ?_⟩
 ·rw [hc j (by have := (List.getElem?_eq_some_iff.1 hv).1; have := L.len hr; omega)]; exact hv
 ·intro u hu
  exact Lay.all_one (L := L) (L.all_single hr) u hu
theorem q1b.isSome (h : q1b L w b off ps) {i : Nat} (hi : i < ps.length) : ∀ j, j < L.n → (w.cell? ⟨b, off + i * L.n + j, none⟩).isSome = true := fun j hj => by
 obtain ⟨c, hr, -, h1, h2, -⟩ := h.look (List.getElem?_eq_getElem hi)
 rw [h2 j c[j] (List.getElem?_eq_getElem (by omega))]; rfl
theorem q1s.far {k n : Nat} {cs vs : List Value} (h : q1s w b k n cs) (b2 k2 : Nat) (hd : b ≠ b2) : q1s (w.setCells b2 k2 vs) b k n cs :=
 ⟨h.1, fun j v hv => by rw [World.cell?_of_block (q4l hd vs k2 w)]; exact h.2.1 j v hv, h.2.2⟩
theorem q1b.swap (h : q1b L w b off ps) {i j : Nat} {p q : α × List Nat} (hi : ps[i]? = some p) (hj : ps[j]? = some q) {cp cq : List Value} (rp : L.rep w cp p.1 p.2) (rq : L.rep w cq q.1 q.2) (bp : b ∉ p.2) (bq : b ∉ q.2) :
  q1b L (w.setCells b (off + i * L.n) cq) b off (ps.set i q) ∧ q1b L ((w.setCells b (off + i * L.n) cq).setCells b (off + j * L.n) cp) b off ((ps.set i q).set j p) := by
 have h1 := h.put (i := i) (List.getElem?_eq_some_iff.1 hi).1 rq bq
 refine ⟨h1, h1.put (i := j) (by rw [List.length_set]; exact (List.getElem?_eq_some_iff.1 hj).1) (L.keep rp (fun y hy => q4l (fun (e : y = b) => bp (e ▸ hy)) _ _ _)) bp⟩
end
end Go.Proofs.YtphmpimgbmedbaaGreat
namespace Go.Proofs.YtphmpimgbmedbaaGreat
open Go.RowKit
open Go.Lib (hid)
theorem q1o : (Tryz.prog.info? 67).map (fun i => i.size) = some 9 := by kernel_rfl
theorem q1l {P : Program} {ρ : Operand → Value} {o : Oper} {w : World} {b k n : Nat} {cs : List Value} {fs : Array Field} (p : Operand) (t : TypeId) (hop : o.op = .load t p) (hp : ρ p = .pointer (some ⟨b, k, none⟩))
  (hi : (P.info? t).map (fun i => i.size) = some n) (hu : P.underlying t = some (.struct fs)) (h : q1s w b k n cs) : (execOp ρ o).run P w = .ok (.value (.agg cs.toArray)) w := by
 obtain ⟨i, hi1, hi2⟩ := Option.map_eq_some_iff.1 hi
 have hld := run_loadCells_list (P := P) (w := w) ⟨b, k, none⟩ cs (fun j v hv => by rw [Addr.add_lit]; exact h.2.1 j v hv)
 have hsz : cs.length = i.size := by have := h.1; omega
 rw [hsz] at hld
 have hp0 : (program : Sem Program).run P w = .ok P w := rfl
 unfold execOp
 simp only [hop, hp, Instr.loadAt, Instr.sureAddr, loadVar, isAgg, run_underlying hu, sizeOf, typeInfo, Sem.run_bind, Sem.run_pure, Result.andThen_ok, hp0, hi1, if_true, hld]
theorem q3p {P : Program} {ops : Array Oper} {o : Oper} {a : Act} {Kc : Act → World → Prop} {Q : Exit → Act → World → Prop} {R : Prop} {w : World} {b k n : Nat} {cs : List Value} (hgd : o.guard = none) (p v : Operand) (t : TypeId)
  (hop : o.op = .store t p v) (hp : a.eval p = .pointer (some ⟨b, k, none⟩)) (hv : a.eval v = .agg cs.toArray) (hi : (P.info? t).map (fun i => i.size) = some n)
  (hc : ∀ j, j < n → (w.cell? ⟨b, k + j, none⟩).isSome = true) (hf : ∀ j, w.frozen? ⟨b, j, none⟩ = false) (hs : cs.length = n) (hone : ∀ u ∈ cs, u.oneCell' = true)
  (hk : Kc (a.put o.dst undef) (w.setCells b k cs)) : if Region.wanted o (yielded ops a.tmps) = true then Oper.wp P o a w Kc Q else R := by
 have hw : Region.wanted o (yielded ops a.tmps) = true := by simp [Region.wanted, hgd]
 rw [if_pos hw]
 exact store_row p v t hop hp hv hi hc hf hs hone hk
abbrev RP := Rec × List Nat
section
variable {w w' : World} {b off : Nat} {ps : List RP}
theorem q1m (h : q1b recL w b off ps) {i : Nat} {p : RP} (hp : ps[i]? = some p) : ∃ c : List Value, recL.rep w c p.1 p.2 ∧ b ∉ p.2 ∧ q1s w b (off + i * 9) 9 c := h.look hp
theorem q9e (h : q1b recL w b off ps) {i j : Nat} {p q : RP} (hi : ps[i]? = some p) (hj : ps[j]? = some q) {cp cq : List Value} (rp : recL.rep w cp p.1 p.2) (rq : recL.rep w cq q.1 q.2) (bp : b ∉ p.2) (bq : b ∉ q.2) :
  q1b recL (w.setCells b (off + i * 9) cq) b off (ps.set i q) ∧ q1b recL ((w.setCells b (off + i * 9) cq).setCells b (off + j * 9) cp) b off ((ps.set i q).set j p) := h.swap hi hj rp rq bp bq
theorem q5g (h : q1b recL w b off ps) {i : Nat} (hi : i < ps.length) : ∀ j, j < 9 → (w.cell? ⟨b, off + i * 9 + j, none⟩).isSome = true := h.isSome hi
theorem q5t (h : q1b recL w b off ps) : q1b recL w.drew b off ps := h.ext (Chg.refl [] w).drew
theorem chg_sw {W0 : World} {k1 k2 : Nat} {c1 c2 : List Value} (h : Chg [b] W0 w) : Chg [b] W0 ((w.drew.setCells b k1 c1).setCells b k2 c2) := Chg.setCells (.inl (by simp)) _ _ (Chg.setCells (.inl (by simp)) _ _ h.drew)
end
theorem q9o (b off n cap A B k : Nat) (ps : List RP) (fv : Value) (w : World) (hr : q1b recL w b off ps) (hn : n = ps.length) (hm : n ≤ 1000000) (hab : A + k ≤ B) (hb : B + k ≤ n) :
  Calls Tryz.prog 298 #[.slice (some ⟨b, off, none⟩) n cap, .int .i64 A, .int .i64 B, .int .i64 k, fv] w fun e w' => e = .returned (.tuple #[]) ∧ ∃ ps', q1b recL w' b off ps' ∧ SwR ps ps' A B k ∧ Chg [b] w w' := by
 have HR := hid hr; have HN := hid hn
 clear hr hn
 go_enter Tryz.func298, Tryz.ntmps298
 go_wp2_with fail
 go_loopw [10] (fun vi wr => ∃ (i : Nat) (ps' : List RP) (Wr : World), Wr = wr ∧ i ≤ k ∧ vi = .int .i64 i ∧ q1b recL wr b off ps' ∧ Hid (SwR ps ps' A B i) ∧ Chg [b] w wr) (fun vi _ => k - (intOf vi).toNat)
 case atStart => exact ⟨0, ps, _, rfl, by omega, rfl, HR.out, SwR.zero _ _ _, Chg.refl _ _⟩
 case round =>
  obtain ⟨i, ps', wr, rfl, hi, rfl, hrow, HSR, hch⟩ := hrel
  have HCH := hid hch
  by_cases hlt : i < k
  ·have hpl : ps'.length = n := by rw [HSR.out.1]; exact HN.out.symm
   obtain ⟨p, hp⟩ : ∃ p, ps'[A + i]? = some p := ⟨_, List.getElem?_eq_getElem (by omega)⟩
   obtain ⟨q, hq⟩ : ∃ q, ps'[B + i]? = some q := ⟨_, List.getElem?_eq_getElem (by omega)⟩
   have hrd := q5t hrow
   obtain ⟨x, hx⟩ : ∃ x, x = A + i := ⟨_, rfl⟩
   obtain ⟨y, hy⟩ : ∃ y, y = B + i := ⟨_, rfl⟩
   have hwx : IntKind.i64.wrap ((A : Int) + (i : Int)) = (x : Int) := by rw [IntWalk.i64_in _ ⟨by omega, by omega⟩]; omega
   have hwy : IntKind.i64.wrap ((B : Int) + (i : Int)) = (y : Int) := by rw [IntWalk.i64_in _ ⟨by omega, by omega⟩]; omega
   have h1 : x < n := by omega
   have h2 : y < n := by omega
   rw [← hx] at hp; rw [← hy] at hq
   have HXY := hid (And.intro hx hy)
   clear hch hrow hx hy
   go_wp2_with fail
   obtain ⟨cp, rp, bp, kp⟩ := q1m hrd hp
   obtain ⟨cq, rq, bq, kq⟩ := q1m hrd hq
   have HSW := hid (q9e hrd hp hq rp rq bp bq)
   have HRD := hid hrd; have HPQ := hid (And.intro hp hq); have HKP := hid kp; have HKQ := hid kq
   clear rp rq bp bq kp kq hp hq hrd
   obtain ⟨CC, HCI, HCO⟩ := q0k (fun w' => q1s w' b (off + (x) * 9) 9 cp ∧ q1s w' b (off + (y) * 9) 9 cq)
   refine q9k [21, 23] CC (by kernel_rfl) (HCI.out _ ⟨HKP.out, HKQ.out⟩) (fun hcl hS => ?_)
   refine ggT 0 hcl hS ?_; clear hcl hS; intro hcl hS
   refine ggT 1 hcl hS ?_; clear hcl hS; intro hcl hS
   refine ggT 2 hcl hS ?_; clear hcl hS; intro hcl hS
   refine ggT 3 hcl hS ?_; clear hcl hS; intro hcl hS
   refine ggT 4 hcl hS ?_; clear hcl hS; intro hcl hS
   refine ggT 5 hcl hS ?_; clear hcl hS; intro hcl hS
   refine ggT 6 hcl hS ?_; clear hcl hS; intro hcl hS
   refine ggT 7 hcl hS ?_; clear hcl hS; intro hcl hS
   refine ggT 8 hcl hS ?_; clear hcl hS; intro hcl hS
   refine ggT 9 hcl hS ?_; clear hcl hS; intro hcl hS
   refine ggT 10 hcl hS ?_; clear hcl hS; intro hcl hS
   refine ggT 11 hcl hS ?_; clear hcl hS; intro hcl hS
   refine ggT 12 hcl hS ?_; clear hcl hS; intro hcl hS
   refine ggL 13 hcl hS HCO ?_ (hy := fun w' hw => q1l _ 67 rfl rfl q1o Tryz.underlying67 hw.2); clear hcl hS; intro hcl hS
   refine ggT 14 hcl hS ?_; clear hcl hS; intro hcl hS
   refine ggT 15 hcl hS ?_; clear hcl hS; intro hcl hS
   refine ggT 16 hcl hS ?_; clear hcl hS; intro hcl hS
   refine ggT 17 hcl hS ?_; clear hcl hS; intro hcl hS
   refine ggT 18 hcl hS ?_; clear hcl hS; intro hcl hS
   refine ggL 19 hcl hS HCO ?_ (hy := fun w' hw => q1l _ 67 rfl rfl q1o Tryz.underlying67 hw.1); clear hcl hS; intro hcl hS
   refine ggT 20 hcl hS ?_; clear hcl hS; intro hcl hS
   refine ggC 21 hcl rfl (by kernel_rfl) (fun K hK => ?_)
   refine q3p (cs := cq) rfl _ _ 67 rfl rfl rfl q1o (q5g HRD.out (i := x) (by first | omega | (rw [List.length_set]; omega))) (q1b.free HRD.out) HKQ.out.1 HKQ.out.2.2 ?_
   refine hK.out _ _ (Till.done (m := 21) (by simp) (by rfl)) ?_
   clear hK K hcl hS
   intro hcl hS
   try simp only [Act.put]
   refine ggT 22 hcl hS ?_; clear hcl hS; intro hcl hS
   refine ggC 23 hcl rfl (by kernel_rfl) (fun K hK => ?_)
   refine q3p (cs := cp) rfl _ _ 67 rfl rfl rfl q1o (q5g HSW.out.1 (i := y) (by first | omega | (rw [List.length_set]; omega))) (q1b.free HSW.out.1) HKP.out.1 HKP.out.2.2 ?_
   refine hK.out _ _ (Till.done (m := 21) (by simp) (by rfl)) ?_
   clear hK K hcl hS
   intro hcl hS
   try simp only [Act.put]
   refine ggEnd (by kernel_rfl) ?_ _
   go_wp2_with fail
   go_roundw
   case rel => exact ⟨i + 1, _, _, rfl, by omega, by go_num, HSW.out.2, by obtain ⟨rfl, rfl⟩ := HXY.out; exact HSR.out.next (by omega) HPQ.out.1 HPQ.out.2, chg_sw HCH.out⟩
   case measure => simp [intOf]; omega
  ·obtain rfl : i = k := by omega
   have HRW := hid hrow
   clear hch hrow
   go_wp2_with fail
   go_end0
   exact ⟨rfl, ps', HRW.out, HSR.out, HCH.out⟩
theorem rotR_any (b off n cap A m B : Nat) (X U V Y : List RP) (fv : Value) (w : World) (hr : q1b recL w b off (X ++ (U ++ (V ++ Y)))) (hn : n = (X ++ (U ++ (V ++ Y))).length) (hm : n ≤ 1000000) (hX : X.length = A) (hU : A + U.length = m) (hV : m + V.length = B) (hU1 : A < m) (hV1 : m < B) :
  Calls Tryz.prog 292 #[.slice (some ⟨b, off, none⟩) n cap, .int .i64 A, .int .i64 m, .int .i64 B, fv] w fun e w' => e = .returned (.tuple #[]) ∧ q1b recL w' b off (X ++ (V ++ (U ++ Y))) ∧ Chg [b] w w' := by
 have hBn : B ≤ n := by rw [hn]; simp only [List.length_append]; omega
 have HR := hid (show RotR m (X ++ (V ++ (U ++ Y))) (X ++ (U ++ (V ++ Y))) (m - A) (B - m) from ⟨X, U, V, Y, rfl, by omega, by omega, by omega, rfl⟩)
 have hgl : (X ++ (V ++ (U ++ Y))).length = n := by rw [hn]; simp only [List.length_append]; omega
 generalize X ++ (V ++ (U ++ Y)) = G at HR hgl ⊢
 generalize X ++ (U ++ (V ++ Y)) = ps at hr hn HR
 have HRW0 := hid hr; have HN := hid hn; have HG := hid hgl
 clear hr hn hX hU hV hgl
 obtain ⟨i0, hi0⟩ : ∃ i0, i0 = m - A := ⟨_, rfl⟩
 obtain ⟨j0, hj0⟩ : ∃ j0, j0 = B - m := ⟨_, rfl⟩
 rw [← hi0, ← hj0] at HR
 have hz1 : (m : Int) - (A : Int) = (i0 : Int) := by omega
 have hz2 : (B : Int) - (m : Int) = (j0 : Int) := by omega
 have hb1 : 1 ≤ i0 ∧ 1 ≤ j0 ∧ i0 ≤ m ∧ m + j0 ≤ n := by omega
 have HB1 := hid hb1
 clear hi0 hj0 hb1
 go_enter Tryz.func292, Tryz.ntmps292
 go_wp2_with fail
 go_loopw [10, 11] (fun vi vj wr => ∃ (i j : Nat) (ps' : List RP) (Wr : World), Wr = wr ∧ 1 ≤ i ∧ 1 ≤ j ∧ i ≤ m ∧ m + j ≤ n ∧ vi = .int .i64 i ∧ vj = .int .i64 j ∧ ps'.length = n ∧ q1b recL wr b off ps' ∧ Hid (RotR m G ps' i j) ∧ Chg [b] w wr) (fun vi vj _ => (intOf vi).toNat + (intOf vj).toNat)
 case atStart =>
  have := HB1.out
  exact ⟨i0, j0, ps, _, rfl, by omega, by omega, by omega, by omega, by go_num, by go_num, HN.out.symm, HRW0.out, HR, Chg.refl _ _⟩
 case round =>
  obtain ⟨i, j, ps', wr, rfl, hi1, hj1, him, hjn, rfl, rfl, hpl, hrow, HRT, hch⟩ := hrel
  have HCH := hid hch; have HRW := hid hrow
  obtain ⟨x, hx⟩ : ∃ x, x = m - i := ⟨_, rfl⟩
  have hwx : (m : Int) - (i : Int) = (x : Int) := by omega
  have HX := hid hx
  clear hch hrow
  rcases Nat.lt_trichotomy j i with hji | hji | hji
  ·have HS := hid (q9o b off n cap x m j ps' fv wr HRW.out hpl.symm hm (by omega) (by omega))
   have hne : ((i : Int) != (j : Int)) = true := by rw [bne_iff_ne]; omega
   have hgt : (j : Int) < (i : Int) := by omega
   have hd : (i : Int) - (j : Int) = ((i - j : Nat) : Int) := by omega
   clear hx
   go_wp2_with fail
   refine HS.out.mono ?_
   rintro e w2 ⟨rfl, ps2, hr2, hs2, hc2⟩
   have HN1 := hid (HRT.out.left hji (by rw [← HX.out]; exact hs2)); have HL2 := hid (hs2.1.trans hpl); have HR2 := hid hr2; have HC2 := hid (HCH.out.trans hc2 (fun y hy => .inl hy))
   clear hr2 hs2 hc2
   go_wp2_with fail
   go_roundw
   case rel => exact ⟨i - j, j, ps2, _, rfl, by omega, by omega, by omega, by omega, by go_num, rfl, HL2.out, HR2.out, HN1, HC2.out⟩
   case measure => simp [intOf]; omega
  ·subst hji
   have HS := hid (q9o b off n cap x m j ps' fv wr HRW.out hpl.symm hm (by omega) (by omega))
   have hne : ((j : Int) != (j : Int)) = false := by simp
   clear hx
   go_wp2_with fail
   refine HS.out.mono ?_
   rintro e w2 ⟨rfl, ps2, hr2, hs2, hc2⟩
   have e2 := HRT.out.last (by rw [← HX.out]; exact hs2)
   have HR2 := hid hr2; have HC2 := hid (HCH.out.trans hc2 (fun y hy => .inl hy)); have HE2 := hid e2
   clear hr2 hs2 hc2 e2
   go_wp2_with fail
   go_end0
   exact ⟨rfl, by rw [← HE2.out]; exact HR2.out, HC2.out⟩
  ·obtain ⟨y, hy⟩ : ∃ y, y = m + j - i := ⟨_, rfl⟩
   have hwy : (m : Int) + (j : Int) - (i : Int) = (y : Int) := by omega
   have HS := hid (q9o b off n cap x y i ps' fv wr HRW.out hpl.symm hm (by omega) (by omega))
   have hne : ((i : Int) != (j : Int)) = true := by rw [bne_iff_ne]; omega
   have hgt : ¬ (j : Int) < (i : Int) := by omega
   have hd : (j : Int) - (i : Int) = ((j - i : Nat) : Int) := by omega
   have HY := hid hy
   clear hx hy
   go_wp2_with fail
   refine HS.out.mono ?_
   rintro e w2 ⟨rfl, ps2, hr2, hs2, hc2⟩
   have HN1 := hid (HRT.out.right hji (by rw [← HX.out, ← HY.out]; exact hs2)); have HL2 := hid (hs2.1.trans hpl); have HR2 := hid hr2; have HC2 := hid (HCH.out.trans hc2 (fun y hy => .inl hy))
   clear hr2 hs2 hc2
   go_wp2_with fail
   go_roundw
   case rel => exact ⟨i, j - i, ps2, _, rfl, by omega, by omega, by omega, by omega, rfl, by go_num, HL2.out, HR2.out, HN1, HC2.out⟩
   case measure => simp [intOf]; omega
def q1z (x y : Rec) : Bool := decide (x.seq < y.seq ∨ x.seq = y.seq ∧ (x.kind < y.kind ∨ x.kind = y.kind ∧ x.group < y.group))
def ltP (p q : RP) : Bool := q1z p.1 q.1
theorem q3l : Ordr ltP := by
 refine ⟨fun x => ?_, fun x y z h k => ?_, fun x y z h k => ?_⟩ <;> simp only [ltP, q1z, decide_eq_true_eq, decide_eq_false_iff_not] at * <;> omega
def CmpOK : Prop := ∀ (w : World) (cx cy : List Value) (x y : Rec) (fx fy : List Nat), recL.rep w cx x fx → recL.rep w cy y fy → Calls Tryz.prog 170 #[.agg cx.toArray, .agg cy.toArray] w fun e w' => ∃ r : Int, e = .returned (.int .i64 r) ∧ Hid (decide (r < 0) = q1z x y) ∧ Chg [] w w'
theorem cmp_r {p q : RP} {r : Int} {v : Bool} (hl : ltP p q = v) (h : Hid (decide (r < 0) = q1z p.1 q.1)) : decide (r < 0) = v := h.out.trans hl
theorem q1s.ext {w w' : World} {b k n : Nat} {cs : List Value} (h : q1s w b k n cs) (hc : Chg [] w w') (hb : b < w.heap.size) : q1s w' b k n cs := ⟨h.1, fun j v hv => (hc.facts.1 b _ hb).trans (h.2.1 j v hv), h.2.2⟩
theorem thru_full {X S Y : List RP} {x : RP} {k : Nat} (hk : k = S.length) : thru X S Y x k = X ++ (S ++ (x :: Y)) := by
 subst hk
 unfold thru
 rw [List.take_length, List.drop_length]; rfl
theorem ins_end {X S Y Z0 : List RP} {x : RP} {k : Nat} (hs : Srt ltP S) (hb : Stab ltP Z0 S) (h1 : ∀ y ∈ S.drop k, ltP x y = true) (h2 : ∀ y ∈ S.take k, ltP x y = false) : ∃ S', thru X S Y x k = X ++ (S' ++ Y) ∧ Srt ltP S' ∧ Stab ltP (Z0 ++ [x]) S' :=
 ⟨S.take k ++ (x :: S.drop k), by unfold thru; simp, q8m q3l hs h1 h2, (hb.app (Stab.refl [x])).trans (q6z q3l h1)⟩
theorem ins_stop {S : List RP} {x : RP} {k : Nat} (hs : Srt ltP S) (hk : k < S.length) (h : ltP x S[k] = false) : ∀ y ∈ S.take (k + 1), ltP x y = false := fun y hy => by
 obtain ⟨i, hi, rfl⟩ := List.getElem_of_mem hy
 rw [List.length_take] at hi
 rw [List.getElem_take]
 exact q3l.le_trans (Srt.at q3l hs (show i ≤ k by omega) (List.getElem?_eq_getElem (by omega)) (List.getElem?_eq_getElem hk)) h
theorem ins_go {S : List RP} {x : RP} {k : Nat} (hk : k < S.length) (h : ∀ y ∈ S.drop (k + 1), ltP x y = true) (h2 : ltP x S[k] = true) : ∀ y ∈ S.drop k, ltP x y = true := fun y hy => by
 rw [List.drop_eq_getElem_cons hk] at hy
 rcases List.mem_cons.1 hy with rfl | hy
 ·exact h2
 ·exact h y hy
theorem insR_any (b off n cap A B : Nat) (X Z Y : List RP) (w : World) (HCMP : Hid CmpOK) (hr : q1b recL w b off (X ++ (Z ++ Y))) (hn : n = (X ++ (Z ++ Y)).length) (hm : n ≤ 1000000) (hX : X.length = A) (hZ : A + Z.length = B) :
  Calls Tryz.prog 271 #[.slice (some ⟨b, off, none⟩) n cap, .int .i64 A, .int .i64 B, .func (.func 170) #[] #[]] w fun e w' => e = .returned (.tuple #[]) ∧ ∃ S, q1b recL w' b off (X ++ (S ++ Y)) ∧ Srt ltP S ∧ Stab ltP Z S ∧ Chg [b] w w' := by
 have hBn : B ≤ n := by rw [hn]; simp only [List.length_append]; omega
 have hLN : n = A + (Z.length + Y.length) := by rw [hn]; simp only [List.length_append]; omega
 have hAn : A ≤ n := by omega
 have HR := hid hr; have HX := hid hX; have HLN := hid hLN; have HZ := hid hZ
 clear hr hn hLN
 by_cases hz : Z.length = 0
 ·have hlt : ¬ (A : Int) + 1 < (B : Int) := by omega
  have HE := hid (List.eq_nil_of_length_eq_zero hz)
  clear hX hZ hz
  go_enter Tryz.func271, Tryz.ntmps271
  go_wp2_with fail
  go_loopw [8] (fun vi wr => vi = .int .i64 ((A : Int) + 1) ∧ wr = w) (fun _ _ => 0)
  case atStart => exact ⟨by go_num, rfl⟩
  case round =>
  obtain ⟨rfl, rfl⟩ := hrel
  go_wp2_with fail
  go_end0
  exact ⟨rfl, [], by rw [← HE.out]; exact HR.out, List.Pairwise.nil, by rw [HE.out]; exact Stab.refl _, Chg.refl _ _⟩
 ·have hAB : A + 1 ≤ B := by omega
  clear hX hZ hz
  go_enter Tryz.func271, Tryz.ntmps271
  go_wp2_with fail
  go_loopw [8] (fun vi wr => ∃ (i : Nat) (S : List RP) (Wr : World), Wr = wr ∧ A + 1 ≤ i ∧ i ≤ B ∧ vi = .int .i64 i ∧ q1b recL wr b off (X ++ (S ++ (Z.drop (i - A) ++ Y))) ∧ Hid (Srt ltP S ∧ Stab ltP (Z.take (i - A)) S) ∧ Chg [b] w wr) (fun vi _ => B - (intOf vi).toNat)
  case atStart =>
   refine ⟨A + 1, Z.take 1, _, rfl, by omega, by omega, by go_num, ?_, ⟨?_, ?_⟩, Chg.refl _ _⟩
   ·rw [Nat.add_sub_cancel_left, ← List.append_assoc (Z.take 1), List.take_append_drop]; exact HR.out
   ·cases Z with
    | nil => exact List.Pairwise.nil
    | cons z Z => simp; exact List.pairwise_singleton _ _
   ·rw [Nat.add_sub_cancel_left]; exact Stab.refl _
  case round =>
   obtain ⟨i, S, wr, rfl, hi1, hi2, rfl, hrow, HSS, hch⟩ := hrel
   have HCH := hid hch
   by_cases hlt : i < B
   ·have hzl : i - A < Z.length := by have := HZ.out; omega
    obtain ⟨x, hx⟩ : ∃ x, x = Z[i - A] := ⟨_, rfl⟩
    obtain ⟨Y', hY'⟩ : ∃ Y', Y' = Z.drop (i - A + 1) ++ Y := ⟨_, rfl⟩
    have hsl : S.length = i - A := by have := HSS.out.2.1; rw [List.length_take] at this; omega
    have e0 : Z.drop (i - A) ++ Y = x :: Y' := by rw [List.drop_eq_getElem_cons hzl, hx, hY']; rfl
    rw [e0, ← thru_full (Y := Y') hsl.symm] at hrow
    have HRW := hid hrow; have HSL := hid hsl; have HY' := hid hY'
    have HXE := hid (show Z[i - A]? = some x by rw [List.getElem?_eq_getElem hzl, hx])
    have hpn : A + (i - A) + 1 + Y'.length = n := by have := HLN.out; rw [hY', List.length_append, List.length_drop]; omega
    have HPN := hid hpn
    clear hch hrow hx hY' hsl e0 hzl hpn
    go_wp2_with fail
    go_loopw [9] (fun vj wq => ∃ (j : Nat) (Wq : World), Wq = wq ∧ A ≤ j ∧ j ≤ i ∧ vj = .int .i64 j ∧ q1b recL wq b off (thru X S Y' x (j - A)) ∧ Hid (∀ y ∈ S.drop (j - A), ltP x y = true) ∧ Chg [b] w wq) (fun vj _ => (intOf vj).toNat)
    case atStart => exact ⟨i, _, rfl, by omega, by omega, rfl, HRW.out, hid (show ∀ y ∈ S.drop (i - A), ltP x y = true from fun y hy => by rw [List.drop_eq_nil_of_le (by have := HSL.out; omega)] at hy; cases hy), HCH.out⟩
    case round =>
     clear HCH HRW
     obtain ⟨j, wq, rfl, hj1, hj2, rfl, hrow, HDR, hch⟩ := hrel
     have HCH := hid hch
     have hln : (thru X S Y' x (j - A)).length = n := by rw [q7p, HX.out, HSL.out]; exact HPN.out
     by_cases hja : A < j
     ·have hjk : j - A - 1 < S.length := by have := HSL.out; omega
      have hk : j - A = (j - A - 1) + 1 := by omega
      obtain ⟨q, hqe⟩ : ∃ q, q = S[j - A - 1] := ⟨_, rfl⟩
      have hp : (thru X S Y' x (j - A))[j]? = some x := by
       have := thru_at (A := X) (S := S) (B := Y') (x := x) (k := j - A) (by have := HSL.out; omega)
       rwa [HX.out, show A + (j - A) = j by omega] at this
      have hq : (thru X S Y' x (j - A))[j - 1]? = some q := by
       have := thru_prev (A := X) (B := Y') (x := x) hjk
       rw [← hk, HX.out, show A + (j - A - 1) = j - 1 by omega] at this
       rw [this, hqe]
      have hrd := q5t hrow
      have HROW := hid hrow
      have hgt : (A : Int) < (j : Int) := by omega
      obtain ⟨y, hy⟩ : ∃ y, y = j - 1 := ⟨_, rfl⟩
      have hwy : IntKind.i64.wrap ((j : Int) - 1) = (y : Int) := by rw [IntWalk.i64_in _ ⟨by omega, by omega⟩]; omega
      have h1 : j < n := by omega
      have h2 : y < n := by omega
      rw [← hy] at hq
      have HY := hid hy; have HQE := hid (show S[j - A - 1]? = some q by rw [List.getElem?_eq_getElem hjk, hqe]); have HK0 := hid hk
      clear hch hrow hy hqe hk
      cases hl : ltP x q
      ·have HNL := hid hl
       go_wp2_with fail
       obtain ⟨c1, r1, -, k1⟩ := q1m hrd hp
       obtain ⟨c2, r2, -, k2⟩ := q1m hrd hq
       have HK := hid (And.intro k1 k2); have HRD := hid hrd; have HPQ := hid (And.intro hp hq); have HRC := hid (HCMP.out _ _ _ _ _ _ _ r1 r2)
       clear r1 r2 k1 k2 hp hq hrd
       obtain ⟨SS, HSI, HSO⟩ := q0k (fun w' => q1s w' b (off + (j) * 9) 9 c1 ∧ q1s w' b (off + (y) * 9) 9 c2)
       have hS0 := HSI.out _ HK.out
       refine q0g SS (by kernel_rfl) hS0 ?_
       refine rgT 0 hS0 ?_
       refine rgT 1 hS0 ?_
       refine rgT 2 hS0 ?_
       refine rgT 3 hS0 ?_
       refine rgT 4 hS0 ?_
       refine rgT 5 hS0 ?_
       refine rgT 6 hS0 ?_
       refine rgT 7 hS0 ?_
       refine rgL 8 hS0 HSO ?_ (hy := fun w' hw => q1l _ 67 rfl rfl q1o Tryz.underlying67 hw.1)
       refine rgT 9 hS0 ?_
       refine rgT 10 hS0 ?_
       refine rgT 11 hS0 ?_
       refine rgT 12 hS0 ?_
       refine rgL 13 hS0 HSO ?_ (hy := fun w' hw => q1l _ 67 rfl rfl q1o Tryz.underlying67 hw.2)
       refine q0c 14 rfl (by kernel_rfl) (fun K hK => ?_)
       go_simp
       go_at_call 170
       refine HRC.out.mono ?_
       rintro e w1 ⟨r, rfl, hrr, hc1⟩
       have hr0 := cmp_r hl hrr
       have HR1 := hid (HRD.out.ext hc1); have HC1 := hid (HCH.out.drew.trans0 hc1); have HK1 := hid (And.intro (HK.out.1.ext hc1 HRD.out.lt) (HK.out.2.ext hc1 HRD.out.lt))
       clear hc1 hrr
       go_wp2_with fail
       refine hK.out _ _ (HSI.out _ HK1.out) (fun hS1 => ?_)
       clear hK K
       try simp only [Act.put, pA, pB, pC]
       refine rgT 15 hS1 ?_
       refine rgT 16 hS1 ?_
       refine wpAnyH_done (by kernel_rfl) ?_ _
       go_wp2_with fail
       have hend := ins_end (X := X) (Y := Y') (k := j - A) HSS.out.1 HSS.out.2 HDR.out (by
        have e := (List.getElem?_eq_some_iff.1 HQE.out).2
        have := ins_stop HSS.out.1 hjk (x := x) (by rw [e]; exact HNL.out)
        rwa [← HK0.out] at this)
       obtain ⟨S', e1, s1, b1⟩ := hend
       have hrow2 := HR1.out
       rw [e1, HY'.out] at hrow2
       rw [← q1d HXE.out, show i - A + 1 = i + 1 - A by omega] at b1
       rw [show i - A + 1 = i + 1 - A by omega] at hrow2
       have HRW2 := hid hrow2; have HSS2 := hid (And.intro s1 b1)
       clear e1 s1 b1 hrow2
       go_wp2_with fail
       go_roundw
       case rel => exact ⟨i + 1, S', _, rfl, by omega, by omega, by go_num, HRW2.out, HSS2, HC1.out⟩
       case measure => simp [intOf]; omega
      ·have HL1 := hid hl
       go_wp2_with fail
       obtain ⟨c1, r1, -, k1⟩ := q1m hrd hp
       obtain ⟨c2, r2, -, k2⟩ := q1m hrd hq
       have HK := hid (And.intro k1 k2); have HRD := hid hrd; have HPQ := hid (And.intro hp hq); have HRC := hid (HCMP.out _ _ _ _ _ _ _ r1 r2)
       clear r1 r2 k1 k2 hp hq hrd
       obtain ⟨SS, HSI, HSO⟩ := q0k (fun w' => q1s w' b (off + (j) * 9) 9 c1 ∧ q1s w' b (off + (y) * 9) 9 c2)
       have hS0 := HSI.out _ HK.out
       refine q0g SS (by kernel_rfl) hS0 ?_
       refine rgT 0 hS0 ?_
       refine rgT 1 hS0 ?_
       refine rgT 2 hS0 ?_
       refine rgT 3 hS0 ?_
       refine rgT 4 hS0 ?_
       refine rgT 5 hS0 ?_
       refine rgT 6 hS0 ?_
       refine rgT 7 hS0 ?_
       refine rgL 8 hS0 HSO ?_ (hy := fun w' hw => q1l _ 67 rfl rfl q1o Tryz.underlying67 hw.1)
       refine rgT 9 hS0 ?_
       refine rgT 10 hS0 ?_
       refine rgT 11 hS0 ?_
       refine rgT 12 hS0 ?_
       refine rgL 13 hS0 HSO ?_ (hy := fun w' hw => q1l _ 67 rfl rfl q1o Tryz.underlying67 hw.2)
       refine q0c 14 rfl (by kernel_rfl) (fun K hK => ?_)
       go_simp
       go_at_call 170
       refine HRC.out.mono ?_
       rintro e w1 ⟨r, rfl, hrr, hc1⟩
       have hr0 := cmp_r hl hrr
       have HR1 := hid (HRD.out.ext hc1); have HC1 := hid (HCH.out.drew.trans0 hc1); have HK1 := hid (And.intro (HK.out.1.ext hc1 HRD.out.lt) (HK.out.2.ext hc1 HRD.out.lt))
       clear hc1 hrr
       go_wp2_with fail
       refine hK.out _ _ (HSI.out _ HK1.out) (fun hS1 => ?_)
       clear hK K
       try simp only [Act.put, pA, pB, pC]
       refine rgT 15 hS1 ?_
       refine rgT 16 hS1 ?_
       refine wpAnyH_done (by kernel_rfl) ?_ _
       go_wp2_with fail
       have hp := HPQ.out.1; have hq := HPQ.out.2
       have hrd := q5t HR1.out
       clear HRD HK HPQ HRC HK1 HROW HCH
       have HCH := HC1
       obtain ⟨cp, rp, bp, kp⟩ := q1m hrd hp
       obtain ⟨cq, rq, bq, kq⟩ := q1m hrd hq
       have HSW := hid (q9e hrd hp hq rp rq bp bq)
       have HRD := hid hrd; have HPQ := hid (And.intro hp hq); have HKP := hid kp; have HKQ := hid kq
       clear rp rq bp bq kp kq hp hq hrd
       obtain ⟨CC, HCI, HCO⟩ := q0k (fun w' => q1s w' b (off + (j) * 9) 9 cp ∧ q1s w' b (off + (y) * 9) 9 cq)
       refine q9k [15, 17] CC (by kernel_rfl) (HCI.out _ ⟨HKP.out, HKQ.out⟩) (fun hcl hS => ?_)
       refine ggT 0 hcl hS ?_; clear hcl hS; intro hcl hS
       refine ggT 1 hcl hS ?_; clear hcl hS; intro hcl hS
       refine ggT 2 hcl hS ?_; clear hcl hS; intro hcl hS
       refine ggT 3 hcl hS ?_; clear hcl hS; intro hcl hS
       refine ggT 4 hcl hS ?_; clear hcl hS; intro hcl hS
       refine ggT 5 hcl hS ?_; clear hcl hS; intro hcl hS
       refine ggT 6 hcl hS ?_; clear hcl hS; intro hcl hS
       refine ggT 7 hcl hS ?_; clear hcl hS; intro hcl hS
       refine ggT 8 hcl hS ?_; clear hcl hS; intro hcl hS
       refine ggL 9 hcl hS HCO ?_ (hy := fun w' hw => q1l _ 67 rfl rfl q1o Tryz.underlying67 hw.2); clear hcl hS; intro hcl hS
       refine ggT 10 hcl hS ?_; clear hcl hS; intro hcl hS
       refine ggT 11 hcl hS ?_; clear hcl hS; intro hcl hS
       refine ggT 12 hcl hS ?_; clear hcl hS; intro hcl hS
       refine ggL 13 hcl hS HCO ?_ (hy := fun w' hw => q1l _ 67 rfl rfl q1o Tryz.underlying67 hw.1); clear hcl hS; intro hcl hS
       refine ggT 14 hcl hS ?_; clear hcl hS; intro hcl hS
       refine ggC 15 hcl rfl (by kernel_rfl) (fun K hK => ?_)
       refine q3p (cs := cq) rfl _ _ 67 rfl rfl rfl q1o (q5g HRD.out (i := j) (by first | omega | (rw [List.length_set]; omega))) (q1b.free HRD.out) HKQ.out.1 HKQ.out.2.2 ?_
       refine hK.out _ _ (Till.done (m := 15) (by simp) (by rfl)) ?_
       clear hK K hcl hS
       intro hcl hS
       try simp only [Act.put]
       refine ggT 16 hcl hS ?_; clear hcl hS; intro hcl hS
       refine ggC 17 hcl rfl (by kernel_rfl) (fun K hK => ?_)
       refine q3p (cs := cp) rfl _ _ 67 rfl rfl rfl q1o (q5g HSW.out.1 (i := y) (by first | omega | (rw [List.length_set]; omega))) (q1b.free HSW.out.1) HKP.out.1 HKP.out.2.2 ?_
       refine hK.out _ _ (Till.done (m := 15) (by simp) (by rfl)) ?_
       clear hK K hcl hS
       intro hcl hS
       try simp only [Act.put]
       refine ggEnd (by kernel_rfl) ?_ _
       go_wp2_with fail
       have e := (List.getElem?_eq_some_iff.1 HQE.out).2
       have hrow3 := HSW.out.2
       have hdn := thru_down (A := X) (B := Y') (x := x) hjk
       rw [← HK0.out, HX.out, e, show A + (j - A - 1) + 1 = j by omega, show A + (j - A - 1) = y by have := HY.out; omega] at hdn
       rw [hdn, show j - A - 1 = y - A by have := HY.out; omega] at hrow3
       have HRW3 := hid hrow3; have HCC := hid (chg_sw (k1 := off + j * 9) (k2 := off + y * 9) (c1 := cq) (c2 := cp) HCH.out)
       have HDR3 := hid (show ∀ z ∈ S.drop (y - A), ltP x z = true by
        have := ins_go hjk (x := x) (by rw [← HK0.out]; exact HDR.out) (by rw [e]; exact HL1.out)
        rwa [show j - A - 1 = y - A by have := HY.out; omega] at this)
       have hyy := HY.out
       clear hrow3 hdn e
       go_roundw
       case rel => exact ⟨y, _, rfl, by omega, by omega, by go_num, HRW3.out, HDR3, HCC.out⟩
       case measure => simp [intOf]; omega
     ·have hle : ¬ (A : Int) < (j : Int) := by omega
      obtain rfl : j = A := by omega
      have HROW := hid hrow
      clear hch hrow
      go_wp2_with fail
      obtain ⟨SS, HSI, HSO⟩ := q0k (fun _ : World => True)
      have hS0 := HSI.out wq.drew trivial
      refine q0g SS (by kernel_rfl) hS0 ?_
      refine rgT 0 hS0 ?_
      refine rgT 1 hS0 ?_
      refine rgT 2 hS0 ?_
      refine rgT 3 hS0 ?_
      refine rgS 4 hS0 ?_
      refine rgS 5 hS0 ?_
      refine rgS 6 hS0 ?_
      refine rgS 7 hS0 ?_
      refine rgS 8 hS0 ?_
      refine rgS 9 hS0 ?_
      refine rgS 10 hS0 ?_
      refine rgS 11 hS0 ?_
      refine rgS 12 hS0 ?_
      refine rgS 13 hS0 ?_
      refine rgS 14 hS0 ?_
      refine rgS 15 hS0 ?_
      refine rgT 16 hS0 ?_
      refine wpAnyH_done (by kernel_rfl) ?_ _
      go_wp2_with fail
      have hend := ins_end (X := X) (Y := Y') (k := j - j) HSS.out.1 HSS.out.2 HDR.out (fun z hz => by rw [Nat.sub_self, List.take_zero] at hz; cases hz)
      obtain ⟨S', e1, s1, b1⟩ := hend
      have hrow2 := q5t HROW.out
      rw [e1, HY'.out] at hrow2
      rw [← q1d HXE.out, show i - j + 1 = i + 1 - j by omega] at b1
      rw [show i - j + 1 = i + 1 - j by omega] at hrow2
      have HRW2 := hid hrow2; have HSS2 := hid (And.intro s1 b1); have HCC := hid HCH.out.drew
      clear e1 s1 b1 hrow2
      go_wp2_with fail
      go_roundw
      case rel => exact ⟨i + 1, S', _, rfl, by omega, by omega, by go_num, HRW2.out, HSS2, HCC.out⟩
      case measure => simp [intOf]; omega
   ·obtain rfl : i = B := by omega
    have hzz : Z.length = i - A := by have := HZ.out; omega
    rw [List.drop_eq_nil_of_le (by omega), List.nil_append] at hrow
    have HRW := hid hrow; have HST := hid (show Stab ltP Z S by have := HSS.out.2; rwa [List.take_of_length_le (by omega)] at this)
    clear hch hrow hzz
    go_wp2_with fail
    go_end0
    exact ⟨rfl, S, HRW.out, HSS.out.1, HST.out, HCH.out⟩
end Go.Proofs.YtphmpimgbmedbaaGreat
namespace Go.Proofs.YtphmpimgbmedbaaGreat
open Go.RowKit
open Go.Lib (hid)
noncomputable def Wld.up (x : Wld) : Int := if x.fault = 0 then (if x.down = true then 9 else 0) else x.fault
def Wld.drive (x : Wld) (g d : Int) : Drv := (x.groups.getD g.toNat []).getD d.toNat ⟨false, []⟩
def Wld.cut (x : Wld) : Wld := { x with down := true, on := [] }
def Wld.setDrive (x : Wld) (g d : Int) (y : Drv) : Wld := { x with groups := x.groups.set g.toNat ((x.groups.getD g.toNat []).set d.toNat y) }
def Wld.tape (x : Wld) (t : Int) : Tap := x.tapes.getD t.toNat ⟨false, []⟩
def Wld.setBlock (x : Wld) (g d r : Int) (b : Blk) : Wld := x.setDrive g d { x.drive g d with blocks := (x.drive g d).blocks.set r.toNat b }
/-! ### how much there is of it -/
theorem q2v : Ordr q1z := by
 refine ⟨fun x => ?_, fun x y z h k => ?_, fun x y z h k => ?_⟩ <;> simp only [q1z, decide_eq_true_eq, decide_eq_false_iff_not] at * <;> omega
noncomputable def dedF : List Rec → List Rec → List Rec
 | acc, [] => acc
 | acc, r :: rs => dedF (if acc.any (fun y => q2f y r) then acc else acc ++ [r]) rs
noncomputable def dedS (acc : List Rec) (r : Rec) : List Rec := if acc.any (fun y => q2f y r) then acc else acc ++ [r]
theorem q9m : ∀ (rs qs acc : List Rec), dedF acc (rs ++ qs) = dedF (dedF acc rs) qs
 | [], _, _ => rfl
 | _ :: rs, qs, _ => q9m rs qs _
theorem dedF_next {acc : List Rec} {rs : List Rec} {k : Nat} {r : Rec} (h : rs[k]? = some r) : dedF acc (rs.take (k + 1)) = dedS (dedF acc (rs.take k)) r := by
 rw [q1d h, q9m]; rfl
theorem dedS_len (acc : List Rec) (r : Rec) : (dedS acc r).length ≤ acc.length + 1 := by
 unfold dedS; split
 ·omega
 ·simp
theorem q5z : ∀ (rs acc : List Rec), (dedF acc rs).length ≤ acc.length + rs.length
 | [], _ => Nat.le_refl _
 | r :: rs, acc => by
  have h1 := q5z rs (dedS acc r)
  have h2 := dedS_len acc r
  show (dedF (dedS acc r) rs).length ≤ _
  rw [List.length_cons]; omega
theorem dedF_mem : ∀ (rs acc : List Rec) (x : Rec), x ∈ dedF acc rs → x ∈ acc ∨ x ∈ rs
 | [], _, _, h => .inl h
 | r :: rs, acc, x, h => by
  have h1 := dedF_mem rs (dedS acc r) x h
  rcases h1 with h1 | h1
  ·unfold dedS at h1
   split at h1
   ·exact .inl h1
   ·rcases List.mem_append.1 h1 with h2 | h2
    ·exact .inl h2
    ·rw [List.mem_singleton] at h2; exact .inr (by rw [h2]; simp)
  ·exact .inr (List.mem_cons_of_mem _ h1)
def insB (r : Rec) : List Rec → List Rec
 | [] => [r]
 | y :: ys => if q1z r y then r :: y :: ys else y :: insB r ys
theorem insB_form (r : Rec) : ∀ {out : List Rec}, Srt q1z out → ∃ k, insB r out = out.take k ++ (r :: out.drop k) ∧ (∀ x ∈ out.drop k, q1z r x = true) ∧ (∀ x ∈ out.take k, q1z r x = false)
 | [], _ => ⟨0, rfl, by simp, by simp⟩
 | y :: ys, hs => by
  unfold insB
  cases h : q1z r y
  ·obtain ⟨k, e, h1, h2⟩ := insB_form r (List.Pairwise.of_cons hs)
   refine ⟨k + 1, by simp [e], by simpa using h1, fun x hx => ?_⟩
   rw [List.take_succ_cons] at hx
   rcases List.mem_cons.1 hx with rfl | hx
   ·exact h
   ·exact h2 x hx
  ·refine ⟨0, by simp, fun x hx => ?_, by simp⟩
   rw [List.drop_zero] at hx
   rcases List.mem_cons.1 hx with rfl | hx
   ·exact h
   ·exact q2v.lt_le h (List.rel_of_pairwise_cons hs hx)
def isort (l : List Rec) : List Rec := l.foldl (fun o r => insB r o) []
theorem q9h (l : List Rec) : Srt q1z (isort l) ∧ Stab q1z l (isort l) := by
 unfold isort
 have h : ∀ (l o z : List Rec), Srt q1z o → Stab q1z z o → Srt q1z (l.foldl (fun o r => insB r o) o) ∧ Stab q1z (z ++ l) (l.foldl (fun o r => insB r o) o) := by
  intro l
  induction l with
  | nil => intro o z h1 h2; rw [List.append_nil]; exact ⟨h1, h2⟩
  | cons r rs ih =>
   intro o z h1 h2
   obtain ⟨k, e, k1, k2⟩ := insB_form r h1
   have h3 := q8m q2v h1 k1 k2
   have h4 := (h2.app (Stab.refl [r])).trans (q6z q2v k1)
   have h5 := ih (insB r o) (z ++ [r]) (by rw [e]; exact h3) (by rw [e]; exact h4)
   rw [List.append_assoc] at h5
   exact h5
 have := h l [] [] List.Pairwise.nil (Stab.refl _)
 simpa using this
noncomputable def cntL (ts : List Tap) : List Rec := isort (dedF [] (ts.flatMap (·.recs)))
theorem cnt_uniq {rs ys : List Rec} (h : Srt q1z ys) (k : Stab q1z (dedF [] rs) ys) : ys = isort (dedF [] rs) :=
 Stab.uniq q2v h (q9h _).1 k (q9h _).2
theorem filter_map' {α β : Type} (f : α → β) (p : β → Bool) : ∀ l : List α, (l.map f).filter p = (l.filter (fun a => p (f a))).map f
 | [] => rfl
 | a :: l => by
  rw [List.map_cons, List.filter_cons, List.filter_cons, filter_map' f p l]
  split <;> rfl
theorem srt_fst {qs : List RP} (h : Srt ltP qs) : Srt q1z (qs.map (·.1)) := List.pairwise_map.2 h
theorem stab_fst {ps qs : List RP} (h : Stab ltP ps qs) : Stab q1z (ps.map (·.1)) (qs.map (·.1)) := by
 refine ⟨by rw [List.length_map, List.length_map]; exact h.1, fun x => ?_⟩
 rw [filter_map', filter_map']
 have := h.2 (x, [])
 exact congrArg (List.map (·.1)) this
theorem any_mem {l1 l2 : List Rec} (p : Rec → Bool) (h : ∀ x, x ∈ l1 ↔ x ∈ l2) : l1.any p = l2.any p := by
 rw [Bool.eq_iff_iff, List.any_eq_true, List.any_eq_true]
 constructor <;> rintro ⟨x, h1, h2⟩
 ·exact ⟨x, (h x).1 h1, h2⟩
 ·exact ⟨x, (h x).2 h1, h2⟩
theorem cntL_len (ts : List Tap) : (cntL ts).length ≤ (ts.flatMap (·.recs)).length := by
 have h1 := (q9h (dedF [] (ts.flatMap (·.recs)))).2.1
 have h2 := q5z (ts.flatMap (·.recs)) []
 unfold cntL
 rw [h1]; simpa using h2
theorem cntL_mem {ts : List Tap} {x : Rec} (h : x ∈ cntL ts) : ∃ t ∈ ts, x ∈ t.recs := by
 have h1 := ((q9h (dedF [] (ts.flatMap (·.recs)))).2.mem q2v).1 h
 rcases dedF_mem _ _ _ h1 with h2 | h2
 ·cases h2
 ·exact List.mem_flatMap.1 h2
def Shr (n0 : Nat) (w : World) (v : Value) (xs : List Rec) : Prop := ∃ g fps, recL.os 67 w v xs (some g) fps ∧ n0 ≤ g ∧ ∀ y ∈ fps, y < n0
theorem Shr.ext {n0 : Nat} {w w' : World} {v : Value} {xs : List Rec} (h : Shr n0 w v xs) (hc : Chg [] w w') : Shr n0 w' v xs := by
 obtain ⟨g, fps, h1, h2, h3⟩ := h
 exact ⟨g, fps, recL.os_ext h1 hc, h2, h3⟩
theorem Shr.made {n0 : Nat} {w : World} (h : n0 ≤ w.heap.size) : Shr n0 (w.alloc (.cells #[] 67)) (.slice (some ⟨w.heap.size, 0, none⟩) 0 0) [] :=
 ⟨w.heap.size, [], recL.os_made 67 w #[] 0 (by simp [maxLen]) (by simp), h, by simp⟩
theorem Shr.sl {n0 : Nat} {w : World} {v : Value} {xs : List Rec} (h : Shr n0 w v xs) : ∃ g cap fps, v = .slice (some ⟨g, 0, none⟩) xs.length cap ∧ recL.sl w (some ⟨g, 0, none⟩) xs.length cap xs (g :: fps) ∧ q4h w g ∧ n0 ≤ g ∧ ∀ y ∈ fps, y < n0 := by
 obtain ⟨g, fps, h1, h2, h3⟩ := h
 have hlo := recL.os_loose h1 g rfl
 obtain ⟨a, cap, rfl, hs⟩ := recL.os_sl h1
 rcases h1 with ⟨e, -, e2, -⟩ | ⟨g', cap', cur, e, e2, hrest⟩
 ·cases e2
 ·obtain rfl : g = g' := Option.some.inj e2
  cases e
  exact ⟨g, cap, fps, rfl, hs, hlo, h2, h3⟩
theorem Shr.row {n0 : Nat} {w : World} {v : Value} {xs : List Rec} (h : Shr n0 w v xs) : ∃ g cap ps, v = .slice (some ⟨g, 0, none⟩) xs.length cap ∧ q1b recL w g 0 ps ∧ ps.map (·.1) = xs ∧ n0 ≤ g ∧ xs.length ≤ cap ∧ cap ≤ maxLen ∧ ∀ p ∈ ps, ∀ y ∈ p.2, y < n0 := by
 obtain ⟨g, cap, fps, rfl, hs, hlo, h2, h3⟩ := h.sl
 have hc := hs.2.1; have hm := hs.2.2.1
 obtain ⟨ps, hr, e1, e2⟩ := Lay.sl_row hs hlo ⟨fps, rfl, fun hm => by have := h3 g hm; omega⟩
 refine ⟨g, cap, ps, rfl, hr, e1, h2, hc, hm, fun p hp y hy => h3 y ?_⟩
 rw [(List.cons.inj e2).2]
 exact List.mem_flatMap.2 ⟨p, hp, hy⟩


def sgn (x y : Int) : Int := if x < y then -1 else if y < x then 1 else 0
theorem isNaN_any (x : Int) (w : World) : Calls Tryz.prog 238 #[.int .i64 x] w fun e w' => e = .returned (.bool false) ∧ w = w' := by
 have h : ((x : Int) != x) = false := by simp
 go_enter Tryz.func238, Tryz.ntmps238
 go_wp2
 go_ret
 exact ⟨rfl, rfl⟩
theorem q7i (x y : Int) (w : World) : Calls Tryz.prog 172 #[.int .i64 x, .int .i64 y] w fun e w' => e = .returned (.int .i64 (sgn x y)) ∧ w = w' := by
 have N1 := hid (isNaN_any x w); have N2 := hid (isNaN_any y w)
 by_cases h1 : x < y
 ·have HR := hid (show sgn x y = -1 from if_pos h1)
  go_enter Tryz.func172, Tryz.ntmps172
  go_wp2_with fail
  refine N1.out.mono ?_; rintro e w' ⟨rfl, rfl⟩
  go_wp2_with fail
  refine N2.out.mono ?_; rintro e w' ⟨rfl, rfl⟩
  go_wp2_with fail
  go_ret
  exact ⟨q0e HR.out.symm, rfl⟩
 ·by_cases h2 : y < x
  ·have HR := hid (show sgn x y = 1 by unfold sgn; rw [if_neg h1, if_pos h2])
   go_enter Tryz.func172, Tryz.ntmps172
   go_wp2_with fail
   refine N1.out.mono ?_; rintro e w' ⟨rfl, rfl⟩
   go_wp2_with fail
   refine N2.out.mono ?_; rintro e w' ⟨rfl, rfl⟩
   go_wp2_with fail
   go_ret
   exact ⟨q0e HR.out.symm, rfl⟩
  ·have HR := hid (show sgn x y = 0 by unfold sgn; rw [if_neg h1, if_neg h2])
   go_enter Tryz.func172, Tryz.ntmps172
   go_wp2_with fail
   refine N1.out.mono ?_; rintro e w' ⟨rfl, rfl⟩
   go_wp2_with fail
   refine N2.out.mono ?_; rintro e w' ⟨rfl, rfl⟩
   go_wp2_with fail
   go_ret
   exact ⟨q0e HR.out.symm, rfl⟩
def orL : List Int → Int
 | [] => 0
 | x :: xs => if x ≠ 0 then x else orL xs
theorem z1w : ∀ {xs : List Int} {k : Nat}, (∀ y ∈ xs.take k, y = 0) → orL xs = orL (xs.drop k)
 | _, 0, _ => rfl
 | [], k + 1, _ => rfl
 | x :: xs, k + 1, h => by
  have hx : x = 0 := h x (by simp)
  show (if x ≠ 0 then x else orL xs) = orL (xs.drop k)
  rw [if_neg (by simp [hx]), z1w (k := k) (fun y hy => h y (by rw [List.take_succ_cons]; exact List.mem_cons_of_mem _ hy))]
theorem or_any (a : Option Addr) (l c : Nat) (xs : List Int) (f : List Nat) (w : World) (ha : intL.sl w a l c xs f) : Calls Tryz.prog 171 #[.slice a l c] w fun e w' => e = .returned (.int .i64 (orL xs)) ∧ w = w' := by
 have hm := intL.sl_max ha
 have HL := hid ha.1
 have HA := hid ha
 clear ha
 go_enter Tryz.func171, Tryz.ntmps171
 go_wp2_with fail
 go_loop [8] (fun i => ∃ k : Nat, k ≤ l ∧ i = .int .i64 k ∧ Hid (∀ y ∈ xs.take k, y = 0)) (fun i => l - (intOf i).toNat)
 case atStart => exact ⟨0, by omega, rfl, by intro y hy; simp at hy⟩
 case round =>
  obtain ⟨k, hk, rfl, HK⟩ := hrel
  by_cases hlt : k < l
  ·obtain ⟨y, b, off, HX, rfl, hcx, hok⟩ := q2p HA.out hlt
   by_cases h : y = 0
   ·have hne : (y != 0) = false := by simp [h]
    have HN := hid (show ∀ z ∈ xs.take (k + 1), z = 0 by
     intro z hz
     rw [q1d HX.out.1] at hz
     rcases List.mem_append.1 hz with h1 | h1
     ·exact HK.out z h1
     ·rw [List.mem_singleton] at h1; rw [h1]; exact h)
    clear h
    go_wp2_with fail
    go_round
    case rel => exact ⟨k + 1, by omega, by go_num, HN⟩
    case measure => simp [intOf]; omega
   ·have hne : (y != 0) = true := by simp [h]
    have HR := hid (show orL xs = y by
     rw [z1w HK.out, List.drop_eq_getElem_cons (List.getElem?_eq_some_iff.1 HX.out.1).1]
     show (if xs[k] ≠ 0 then xs[k] else _) = y
     rw [(List.getElem?_eq_some_iff.1 HX.out.1).2, if_pos h])
    clear h
    go_wp2_with fail
    go_ret
    exact ⟨q0e HR.out.symm, rfl⟩
  ·have HR := hid (show orL xs = 0 by rw [z1w HK.out, List.drop_eq_nil_of_le (by have := HL.out; omega)]; rfl)
   go_wp2_with fail
   go_ret
   exact ⟨q0e HR.out.symm, rfl⟩
theorem or3_lt (x y : Rec) : decide (orL [sgn x.seq y.seq, sgn x.kind y.kind, sgn x.group y.group] < 0) = q1z x y := by
 unfold q1z
 apply decide_eq_decide.2
 have h : ∀ a b : Int, (sgn a b < 0 ↔ a < b) ∧ (sgn a b = 0 ↔ a = b) := fun a b => by
  unfold sgn
  by_cases q : a < b
  ·rw [if_pos q]; omega
  ·rw [if_neg q]
   by_cases q2 : b < a
   ·rw [if_pos q2]; omega
   ·rw [if_neg q2]; omega
 show (if sgn x.seq y.seq ≠ 0 then sgn x.seq y.seq else if sgn x.kind y.kind ≠ 0 then sgn x.kind y.kind else if sgn x.group y.group ≠ 0 then sgn x.group y.group else 0) < 0 ↔ _
 have h1 := h x.seq y.seq; have h2 := h x.kind y.kind; have h3 := h x.group y.group
 split
 ·omega
 ·split
  ·omega
  ·split <;> omega
theorem sgn_ok (x y : Int) : q1t (sgn x y) := by
 unfold sgn
 by_cases q : x < y
 ·rw [if_pos q]; constructor <;> omega
 ·rw [if_neg q]
  by_cases q2 : y < x
  ·rw [if_pos q2]; constructor <;> omega
  ·rw [if_neg q2]; constructor <;> omega
theorem int3_sl (w : World) (E : TypeId) (x y z : Int) (hx : q1t x) (hy : q1t y) (hz : q1t z) (bn : Nat) (hbn : bn = w.heap.size) : intL.sl (w.alloc (.cells #[.int .i64 x, .int .i64 y, .int .i64 z] E)) (some ⟨bn, 0, none⟩) 3 3 [x, y, z] [bn] := by
 subst hbn
 exact
 ⟨rfl, Nat.le_refl _, by simp [maxLen], (fun h => by cases h), .inr ⟨w.heap.size, 0, _, E, (0, 0), [], rfl, q1a w _, intL.all_append (xs := [x]) (ys := [y, z]) (c1 := [.int .i64 x]) (f1 := []) (f2 := []) (z2j hx) (intL.all_append (xs := [y]) (ys := [z]) (c1 := [.int .i64 y]) (f1 := []) (f2 := []) (z2j hy) (z2j hz)), rfl⟩⟩
theorem cmp_ok : CmpOK := by
 intro w cx cy x y fx fy hx hy
 obtain ⟨a6, l6, c6, f6, a7, l7, c7, f7, a8, l8, c8, f8, rfl, -⟩ := q0m.1 hx
 obtain ⟨b6, m6, d6, g6, b7, m7, d7, g7, b8, m8, d8, g8, rfl, -⟩ := q0m.1 hy
 have HOR := hid (or3_lt x y)
 have HS1 := hid (sgn_ok x.seq y.seq); have HS2 := hid (sgn_ok x.kind y.kind); have HS3 := hid (sgn_ok x.group y.group)
 have C1 := hid (q7i x.seq y.seq); have C2 := hid (q7i x.kind y.kind); have C3 := hid (q7i x.group y.group)
 clear hx hy
 have G0 := hid ((((Chg.refl [] w).alloc (.cells #[.int .i64 x.kind, .int .i64 x.seq, .string x.name, .int .i64 x.length, .int .i64 x.group, .int .i64 x.row, .slice a6 l6 c6, .slice a7 l7 c7, .slice a8 l8 c8] 67)).alloc (.cells #[.int .i64 y.kind, .int .i64 y.seq, .string y.name, .int .i64 y.length, .int .i64 y.group, .int .i64 y.row, .slice b6 m6 d6, .slice b7 m7 d7, .slice b8 m8 d8] 67)).drew)
 have B0 := hid (q0a (q0b (q1a w (.cells #[.int .i64 x.kind, .int .i64 x.seq, .string x.name, .int .i64 x.length, .int .i64 x.group, .int .i64 x.row, .slice a6 l6 c6, .slice a7 l7 c7, .slice a8 l8 c8] 67)) (.cells #[.int .i64 y.kind, .int .i64 y.seq, .string y.name, .int .i64 y.length, .int .i64 y.group, .int .i64 y.row, .slice b6 m6 d6, .slice b7 m7 d7, .slice b8 m8 d8] 67)))
 have B1 := hid (show ((w.alloc (.cells #[.int .i64 x.kind, .int .i64 x.seq, .string x.name, .int .i64 x.length, .int .i64 x.group, .int .i64 x.row, .slice a6 l6 c6, .slice a7 l7 c7, .slice a8 l8 c8] 67)).alloc (.cells #[.int .i64 y.kind, .int .i64 y.seq, .string y.name, .int .i64 y.length, .int .i64 y.group, .int .i64 y.row, .slice b6 m6 d6, .slice b7 m7 d7, .slice b8 m8 d8] 67)).drew.heap[w.heap.size + 1]? = some (.cells #[.int .i64 y.kind, .int .i64 y.seq, .string y.name, .int .i64 y.length, .int .i64 y.group, .int .i64 y.row, .slice b6 m6 d6, .slice b7 m7 d7, .slice b8 m8 d8] 67 (0, 0)) from q0a (q0d (by simp) _))
 go_enter Tryz.func170, Tryz.ntmps170
 go_wp2_with fail
 obtain ⟨SS1, HSI1, HSO1⟩ := q0k (fun w' => Know w.heap.size #[.int .i64 x.kind, .int .i64 x.seq, .string x.name, .int .i64 x.length, .int .i64 x.group, .int .i64 x.row, .slice a6 l6 c6, .slice a7 l7 c7, .slice a8 l8 c8] w' ∧ Know (w.heap.size + 1) #[.int .i64 y.kind, .int .i64 y.seq, .string y.name, .int .i64 y.length, .int .i64 y.group, .int .i64 y.row, .slice b6 m6 d6, .slice b7 m7 d7, .slice b8 m8 d8] w')
 have hS0 := HSI1.out _ ⟨(Know.of B0.out), (Know.of B1.out)⟩
 refine q0g SS1 (by kernel_rfl) hS0 ?_
 refine rgT 0 hS0 ?_
 refine rgL 1 hS0 HSO1 ?_
 refine rgT 2 hS0 ?_
 refine rgL 3 hS0 HSO1 ?_
 refine rgT 5 hS0 ?_
 refine rgL 6 hS0 HSO1 ?_
 refine rgT 7 hS0 ?_
 refine rgL 8 hS0 HSO1 ?_
 refine rgT 10 hS0 ?_
 refine rgL 11 hS0 HSO1 ?_
 refine rgT 12 hS0 ?_
 refine rgL 13 hS0 HSO1 ?_
 refine q0c 4 rfl (by kernel_rfl) (fun K hK => ?_)
 go_simp
 go_at_call 172
 refine (C1.out _).mono ?_; rintro e w' ⟨rfl, rfl⟩
 go_wp2_with fail
 refine hK.out _ _ (HSI1.out _ ⟨(Know.of B0.out), (Know.of B1.out)⟩) (fun hS1 => ?_)
 clear hK K
 try simp only [Act.put, pA, pB, pC]
 refine q0c 9 rfl (by kernel_rfl) (fun K hK => ?_)
 go_simp
 go_at_call 172
 refine (C2.out _).mono ?_; rintro e w' ⟨rfl, rfl⟩
 go_wp2_with fail
 refine hK.out _ _ (HSI1.out _ ⟨(Know.of B0.out), (Know.of B1.out)⟩) (fun hS2 => ?_)
 clear hK K
 try simp only [Act.put, pA, pB, pC]
 refine q0c 14 rfl (by kernel_rfl) (fun K hK => ?_)
 go_simp
 go_at_call 172
 refine (C3.out _).mono ?_; rintro e w' ⟨rfl, rfl⟩
 go_wp2_with fail
 refine hK.out _ _ (HSI1.out _ ⟨(Know.of B0.out), (Know.of B1.out)⟩) (fun hS3 => ?_)
 clear hK K
 try simp only [Act.put, pA, pB, pC]
 refine q0c 15 rfl (by kernel_rfl) (fun K hK => ?_)
 go_simp
 have H3 := hid (int3_sl ((w.alloc (.cells #[.int .i64 x.kind, .int .i64 x.seq, .string x.name, .int .i64 x.length, .int .i64 x.group, .int .i64 x.row, .slice a6 l6 c6, .slice a7 l7 c7, .slice a8 l8 c8] 67)).alloc (.cells #[.int .i64 y.kind, .int .i64 y.seq, .string y.name, .int .i64 y.length, .int .i64 y.group, .int .i64 y.row, .slice b6 m6 d6, .slice b7 m7 d7, .slice b8 m8 d8] 67)).drew 3 _ _ _ HS1.out HS2.out HS3.out (w.heap.size + 1 + 1) (by simp [World.drew])); have HC3 := hid (G0.out.alloc (.cells #[.int .i64 (sgn x.seq y.seq), .int .i64 (sgn x.kind y.kind), .int .i64 (sgn x.group y.group)] 3))
 go_wp2_with fail
 refine hK.out _ _ (HSI1.out _ ⟨(Know.of (q0b B0.out _)), (Know.of (q0b B1.out _))⟩) (fun hS4 => ?_)
 clear hK K
 try simp only [Act.put, pA, pB, pC]
 refine q0c 16 rfl (by kernel_rfl) (fun K hK => ?_)
 go_simp
 go_at_call 171
 refine (or_any _ _ _ _ _ _ H3.out).mono ?_; rintro e w' ⟨rfl, rfl⟩
 go_wp2_with fail
 refine hK.out _ _ (HSI1.out _ ⟨(Know.of (q0b B0.out _)), (Know.of (q0b B1.out _))⟩) (fun hS5 => ?_)
 clear hK K
 try simp only [Act.put, pA, pB, pC]
 refine rgT 17 hS5 ?_
 refine wpAnyH_done (by kernel_rfl) ?_ _
 go_wp2_with fail
 go_ret
 exact ⟨_, rfl, HOR.out, HC3.out⟩
def z0q {α : Type} (q : α → Bool) (xs : List α) (r : Int) : Prop := (r = -1 ∧ xs.any q = false) ∨ ∃ j : Nat, r = j ∧ (∃ x, xs[j]? = some x ∧ q x = true) ∧ ∀ (i : Nat) x, i < j → xs[i]? = some x → q x = false
theorem z0q.ge {α : Type} {q : α → Bool} {xs : List α} {r : Int} (h : z0q q xs r) : decide (0 ≤ r) = xs.any q := by
 rcases h with ⟨rfl, h⟩ | ⟨j, rfl, ⟨x, hx, hq⟩, _⟩
 ·rw [h]; rfl
 ·rw [List.any_eq_true.2 ⟨x, List.mem_of_getElem? hx, hq⟩]; exact decide_eq_true (Int.natCast_nonneg j)
def q8p (k : Nat) (caps : Array Value) (q : Blk → Bool) (xs : List Blk) (w : World) : Prop :=
 ∀ (x : Blk) (a1 : Option Addr) (l1 c1 : Nat) (f : List Nat) (w1 : World), x ∈ xs → Chg [] w w1 → blkL.rep w1 [.int .i64 x.stamp, .slice a1 l1 c1] x f → Calls Tryz.prog k (#[.agg #[.int .i64 x.stamp, .slice a1 l1 c1]] ++ caps) w1 fun e w' => e = .returned (.bool (q x)) ∧ Chg [] w1 w'
theorem idxBlock_any (k : Nat) (caps : Array Value) (q : Blk → Bool) (a : Option Addr) (la ca : Nat) (xs : List Blk) (f : List Nat) (w : World) (ha : blkL.sl w a la ca xs f) (hcf : ∀ (args : Array Value) (w : World), (callFunc k args).run Tryz.prog w = .ok (.enter k args) w) (hq : q8p k caps q xs w) :
  Calls Tryz.prog 256 #[.slice a la ca, .func (.func k) #[] caps] w fun e w' => ∃ r : Int, e = .returned (.int .i64 r) ∧ Hid (z0q q xs r) ∧ Chg [] w w' := by
 have hla := blkL.sl_max ha
 have HA := hid ha
 have HL := hid ha.1
 have HQ := hid hq
 clear ha hq
 go_enter Tryz.func256, Tryz.ntmps256
 go_wp2
 go_loopw [5, 8] (fun _ i wr => ∃ (j : Nat) (Wr : World), Wr = wr ∧ j ≤ la ∧ i = .int .i64 j ∧ Hid (∀ (i : Nat) x, i < j → xs[i]? = some x → q x = false) ∧ Chg [] w wr) (fun _ i _ => la - (intOf i).toNat)
 case atStart => exact ⟨0, _, rfl, by omega, rfl, fun j x hj => by omega, Chg.refl _ _⟩
 case round =>
  obtain ⟨j, wr, rfl, hj, rfl, HK, hc⟩ := hrel
  have HC := hid hc
  by_cases hlt : j < la
  ·obtain ⟨x, b, off, a1, l1, c1, fx, HX, rfl, hc0, hc1, HXS⟩ := q4v (blkL.sl_ext HA.out hc) hlt
   have HT := hid (HQ.out x a1 l1 c1 fx wr (List.mem_of_getElem? HX.out.1) HC.out HXS.out)
   clear hc
   cases hqx : q x
   ·rw [hqx] at HT
    have HK2 := hid (show ∀ (i : Nat) y, i < j + 1 → xs[i]? = some y → q y = false from fun i y hi hy => by
     by_cases e : i = j
     ·subst e; rw [Option.some.inj (hy.symm.trans HX.out.1)]; exact hqx
     ·exact HK.out i y (by omega) hy)
    clear hqx
    go_wp2_with fail
    refine HT.out.mono ?_
    rintro e w1 ⟨rfl, hc1⟩
    have HC1 := hid (HC.out.trans0 hc1)
    clear hc1
    go_wp2_with fail
    go_roundw
    case rel => exact ⟨j + 1, _, rfl, by omega, by go_num, HK2, HC1.out⟩
    case measure => simp [intOf]; omega
   ·rw [hqx] at HT
    have HR := hid (show z0q q xs (j : Int) from .inr ⟨j, rfl, ⟨x, HX.out.1, hqx⟩, HK.out⟩)
    clear hqx
    go_wp2_with fail
    refine HT.out.mono ?_
    rintro e w1 ⟨rfl, hc1⟩
    have HC1 := hid (HC.out.trans0 hc1)
    clear hc1
    go_wp2_with fail
    go_ret
    exact ⟨_, rfl, HR, HC1.out⟩
  ·obtain rfl : j = la := by omega
   have HR := hid (show z0q q xs (-1) from .inl ⟨rfl, by
    rw [List.any_eq_false]
    intro x hx h1
    obtain ⟨i, hi, rfl⟩ := List.getElem_of_mem hx
    have h2 := HK.out i _ (by have := HL.out; omega) (List.getElem?_eq_getElem hi)
    rw [h2] at h1; cases h1⟩)
   clear hc
   go_wp2
   go_ret
   exact ⟨_, rfl, HR, HC.out⟩
theorem q8f (k : Nat) (caps : Array Value) (q : Blk → Bool) (a : Option Addr) (la ca : Nat) (xs : List Blk) (f : List Nat) (w : World) (ha : blkL.sl w a la ca xs f) (hcf : ∀ (args : Array Value) (w : World), (callFunc k args).run Tryz.prog w = .ok (.enter k args) w) (hq : q8p k caps q xs w) :
  Calls Tryz.prog 218 #[.slice a la ca, .func (.func k) #[] caps] w fun e w' => e = .returned (.bool (xs.any q)) ∧ Chg [] w w' := by
 have HI := hid (idxBlock_any k caps q a la ca xs f w ha hcf hq)
 clear ha hq hcf
 go_enter Tryz.func218, Tryz.ntmps218
 go_wp2_with fail
 refine HI.out.mono ?_
 rintro e w1 ⟨r, rfl, HR, hc1⟩
 have HC1 := hid hc1
 have HD := hid HR.out.ge
 clear hc1
 go_wp2_with fail
 go_ret
 refine ⟨?_, HC1.out⟩
 rw [← HD.out]
 rfl
def q8h (k : Nat) (caps : Array Value) (q : Tap → Bool) (xs : List Tap) (w : World) : Prop :=
 ∀ (x : Tap) (a1 : Option Addr) (l1 c1 : Nat) (f : List Nat) (w1 : World), x ∈ xs → Chg [] w w1 → tapL.rep w1 [.bool x.wiped, .slice a1 l1 c1] x f → Calls Tryz.prog k (#[.agg #[.bool x.wiped, .slice a1 l1 c1]] ++ caps) w1 fun e w' => e = .returned (.bool (q x)) ∧ Chg [] w1 w'
theorem idxTape_any (k : Nat) (caps : Array Value) (q : Tap → Bool) (a : Option Addr) (la ca : Nat) (xs : List Tap) (f : List Nat) (w : World) (ha : tapL.sl w a la ca xs f) (hcf : ∀ (args : Array Value) (w : World), (callFunc k args).run Tryz.prog w = .ok (.enter k args) w) (hq : q8h k caps q xs w) :
  Calls Tryz.prog 257 #[.slice a la ca, .func (.func k) #[] caps] w fun e w' => ∃ r : Int, e = .returned (.int .i64 r) ∧ Hid (z0q q xs r) ∧ Chg [] w w' := by
 have hla := tapL.sl_max ha
 have HA := hid ha
 have HL := hid ha.1
 have HQ := hid hq
 clear ha hq
 go_enter Tryz.func257, Tryz.ntmps257
 go_wp2
 go_loopw [5, 8] (fun _ i wr => ∃ (j : Nat) (Wr : World), Wr = wr ∧ j ≤ la ∧ i = .int .i64 j ∧ Hid (∀ (i : Nat) x, i < j → xs[i]? = some x → q x = false) ∧ Chg [] w wr) (fun _ i _ => la - (intOf i).toNat)
 case atStart => exact ⟨0, _, rfl, by omega, rfl, fun j x hj => by omega, Chg.refl _ _⟩
 case round =>
  obtain ⟨j, wr, rfl, hj, rfl, HK, hc⟩ := hrel
  have HC := hid hc
  by_cases hlt : j < la
  ·obtain ⟨x, b, off, a1, l1, c1, fx, HX, rfl, hc0, hc1, HXS⟩ := q2i (tapL.sl_ext HA.out hc) hlt
   have HT := hid (HQ.out x a1 l1 c1 fx wr (List.mem_of_getElem? HX.out.1) HC.out HXS.out)
   clear hc
   cases hqx : q x
   ·rw [hqx] at HT
    have HK2 := hid (show ∀ (i : Nat) y, i < j + 1 → xs[i]? = some y → q y = false from fun i y hi hy => by
     by_cases e : i = j
     ·subst e; rw [Option.some.inj (hy.symm.trans HX.out.1)]; exact hqx
     ·exact HK.out i y (by omega) hy)
    clear hqx
    go_wp2_with fail
    refine HT.out.mono ?_
    rintro e w1 ⟨rfl, hc1⟩
    have HC1 := hid (HC.out.trans0 hc1)
    clear hc1
    go_wp2_with fail
    go_roundw
    case rel => exact ⟨j + 1, _, rfl, by omega, by go_num, HK2, HC1.out⟩
    case measure => simp [intOf]; omega
   ·rw [hqx] at HT
    have HR := hid (show z0q q xs (j : Int) from .inr ⟨j, rfl, ⟨x, HX.out.1, hqx⟩, HK.out⟩)
    clear hqx
    go_wp2_with fail
    refine HT.out.mono ?_
    rintro e w1 ⟨rfl, hc1⟩
    have HC1 := hid (HC.out.trans0 hc1)
    clear hc1
    go_wp2_with fail
    go_ret
    exact ⟨_, rfl, HR, HC1.out⟩
  ·obtain rfl : j = la := by omega
   have HR := hid (show z0q q xs (-1) from .inl ⟨rfl, by
    rw [List.any_eq_false]
    intro x hx h1
    obtain ⟨i, hi, rfl⟩ := List.getElem_of_mem hx
    have h2 := HK.out i _ (by have := HL.out; omega) (List.getElem?_eq_getElem hi)
    rw [h2] at h1; cases h1⟩)
   clear hc
   go_wp2
   go_ret
   exact ⟨_, rfl, HR, HC.out⟩
theorem q5k (k : Nat) (caps : Array Value) (q : Tap → Bool) (a : Option Addr) (la ca : Nat) (xs : List Tap) (f : List Nat) (w : World) (ha : tapL.sl w a la ca xs f) (hcf : ∀ (args : Array Value) (w : World), (callFunc k args).run Tryz.prog w = .ok (.enter k args) w) (hq : q8h k caps q xs w) :
  Calls Tryz.prog 220 #[.slice a la ca, .func (.func k) #[] caps] w fun e w' => e = .returned (.bool (xs.any q)) ∧ Chg [] w w' := by
 have HI := hid (idxTape_any k caps q a la ca xs f w ha hcf hq)
 clear ha hq hcf
 go_enter Tryz.func220, Tryz.ntmps220
 go_wp2_with fail
 refine HI.out.mono ?_
 rintro e w1 ⟨r, rfl, HR, hc1⟩
 have HC1 := hid hc1
 have HD := hid HR.out.ge
 clear hc1
 go_wp2_with fail
 go_ret
 refine ⟨?_, HC1.out⟩
 rw [← HD.out]
 rfl
def TestsRec (k : Nat) (caps : Array Value) (q : Rec → Bool) (xs : List Rec) (w : World) : Prop :=
 ∀ (x : Rec) (a6 : Option Addr) (l6 c6 : Nat) (a7 : Option Addr) (l7 c7 : Nat) (a8 : Option Addr) (l8 c8 : Nat) (f : List Nat) (w1 : World), x ∈ xs → Chg [] w w1 → recL.rep w1 [.int .i64 x.kind, .int .i64 x.seq, .string x.name, .int .i64 x.length, .int .i64 x.group, .int .i64 x.row, .slice a6 l6 c6, .slice a7 l7 c7, .slice a8 l8 c8] x f → Calls Tryz.prog k (#[.agg #[.int .i64 x.kind, .int .i64 x.seq, .string x.name, .int .i64 x.length, .int .i64 x.group, .int .i64 x.row, .slice a6 l6 c6, .slice a7 l7 c7, .slice a8 l8 c8]] ++ caps) w1 fun e w' => e = .returned (.bool (q x)) ∧ Chg [] w1 w'
theorem idxRec_any (k : Nat) (caps : Array Value) (q : Rec → Bool) (a : Option Addr) (la ca : Nat) (xs : List Rec) (f : List Nat) (w : World) (ha : recL.sl w a la ca xs f) (hcf : ∀ (args : Array Value) (w : World), (callFunc k args).run Tryz.prog w = .ok (.enter k args) w) (hq : TestsRec k caps q xs w) :
  Calls Tryz.prog 201 #[.slice a la ca, .func (.func k) #[] caps] w fun e w' => ∃ r : Int, e = .returned (.int .i64 r) ∧ Hid (z0q q xs r) ∧ Chg [] w w' := by
 have hla := recL.sl_max ha
 have HA := hid ha
 have HL := hid ha.1
 have HQ := hid hq
 clear ha hq
 go_enter Tryz.func201, Tryz.ntmps201
 go_wp2
 go_loopw [5, 8] (fun _ i wr => ∃ (j : Nat) (Wr : World), Wr = wr ∧ j ≤ la ∧ i = .int .i64 j ∧ Hid (∀ (i : Nat) x, i < j → xs[i]? = some x → q x = false) ∧ Chg [] w wr) (fun _ i _ => la - (intOf i).toNat)
 case atStart => exact ⟨0, _, rfl, by omega, rfl, fun j x hj => by omega, Chg.refl _ _⟩
 case round =>
  obtain ⟨j, wr, rfl, hj, rfl, HK, hc⟩ := hrel
  have HC := hid hc
  by_cases hlt : j < la
  ·obtain ⟨x, b, off, a6, l6, c6, a7, l7, c7, a8, l8, c8, fx, HX, rfl, hc0, hc1, hc2, hc3, hc4, hc5, hc6, hc7, hc8, HXS⟩ := q4q (recL.sl_ext HA.out hc) hlt
   have HT := hid (HQ.out x a6 l6 c6 a7 l7 c7 a8 l8 c8 fx wr (List.mem_of_getElem? HX.out.1) HC.out HXS.out)
   clear hc
   cases hqx : q x
   ·rw [hqx] at HT
    have HK2 := hid (show ∀ (i : Nat) y, i < j + 1 → xs[i]? = some y → q y = false from fun i y hi hy => by
     by_cases e : i = j
     ·subst e; rw [Option.some.inj (hy.symm.trans HX.out.1)]; exact hqx
     ·exact HK.out i y (by omega) hy)
    clear hqx
    go_wp2_with fail
    refine HT.out.mono ?_
    rintro e w1 ⟨rfl, hc1⟩
    have HC1 := hid (HC.out.trans0 hc1)
    clear hc1
    go_wp2_with fail
    go_roundw
    case rel => exact ⟨j + 1, _, rfl, by omega, by go_num, HK2, HC1.out⟩
    case measure => simp [intOf]; omega
   ·rw [hqx] at HT
    have HR := hid (show z0q q xs (j : Int) from .inr ⟨j, rfl, ⟨x, HX.out.1, hqx⟩, HK.out⟩)
    clear hqx
    go_wp2_with fail
    refine HT.out.mono ?_
    rintro e w1 ⟨rfl, hc1⟩
    have HC1 := hid (HC.out.trans0 hc1)
    clear hc1
    go_wp2_with fail
    go_ret
    exact ⟨_, rfl, HR, HC1.out⟩
  ·obtain rfl : j = la := by omega
   have HR := hid (show z0q q xs (-1) from .inl ⟨rfl, by
    rw [List.any_eq_false]
    intro x hx h1
    obtain ⟨i, hi, rfl⟩ := List.getElem_of_mem hx
    have h2 := HK.out i _ (by have := HL.out; omega) (List.getElem?_eq_getElem hi)
    rw [h2] at h1; cases h1⟩)
   clear hc
   go_wp2
   go_ret
   exact ⟨_, rfl, HR, HC.out⟩
theorem contRec_any (k : Nat) (caps : Array Value) (q : Rec → Bool) (a : Option Addr) (la ca : Nat) (xs : List Rec) (f : List Nat) (w : World) (ha : recL.sl w a la ca xs f) (hcf : ∀ (args : Array Value) (w : World), (callFunc k args).run Tryz.prog w = .ok (.enter k args) w) (hq : TestsRec k caps q xs w) :
  Calls Tryz.prog 235 #[.slice a la ca, .func (.func k) #[] caps] w fun e w' => e = .returned (.bool (xs.any q)) ∧ Chg [] w w' := by
 have HI := hid (idxRec_any k caps q a la ca xs f w ha hcf hq)
 clear ha hq hcf
 go_enter Tryz.func235, Tryz.ntmps235
 go_wp2_with fail
 refine HI.out.mono ?_
 rintro e w1 ⟨r, rfl, HR, hc1⟩
 have HC1 := hid hc1
 have HD := hid HR.out.ge
 clear hc1
 go_wp2_with fail
 go_ret
 refine ⟨?_, HC1.out⟩
 rw [← HD.out]
 rfl
theorem q9v {w : World} {a : Option Addr} {len cap : Nat} {xs : List Rec} {fp : List Nat} (h : recL.sl w a len cap xs fp) {i : Nat} (hi : i < len) :
  ∃ (x : Rec) (b off : Nat) (c : List Value) (f : List Nat), Hid (xs[i]? = some x ∧ b ∈ fp ∧ (∀ y ∈ f, y ∈ fp)) ∧ a = some ⟨b, off, none⟩ ∧ Hid (q1s w b (off + i * 9) 9 c) ∧ Hid (recL.rep w c x f) := by
 obtain ⟨x, b, off, c, f, hx, ha, hb, hc, hr, hf⟩ := recL.sl_at h hi
 refine ⟨x, b, off, c, f, ⟨hx, hb, hf⟩, ha, ⟨recL.len hr, fun j v hv => ?_, Lay.all_one (L := recL) (recL.all_single hr)⟩, hr⟩
 have := hc j (by have := (List.getElem?_eq_some_iff.1 hv).1; have := recL.len hr; omega)
 rw [← hv]; exact this
theorem l6Ahead_any (x y : Rec) (cx cy : Array Value) (fx fy : List Nat) (w : World) (hx : recL.rep w cx.toList x fx) (hy : recL.rep w cy.toList y fy) :
  Calls Tryz.prog 167 #[.agg cx, .agg cy] w fun e w' => e = .returned (.bool (q1z x y)) ∧ Chg [] w w' := by
 obtain ⟨a6, l6, c6, f6, a7, l7, c7, f7, a8, l8, c8, f8, ex, -⟩ := q0m.1 hx
 obtain rfl := Array.toList_inj.1 (ex.trans (List.toList_toArray).symm)
 obtain ⟨b6, m6, d6, g6, b7, m7, d7, g7, b8, m8, d8, g8, ey, -⟩ := q0m.1 hy
 obtain rfl := Array.toList_inj.1 (ey.trans (List.toList_toArray).symm)
 have G0 := hid (((Chg.refl [] w).alloc (.cells #[.int .i64 x.kind, .int .i64 x.seq, .string x.name, .int .i64 x.length, .int .i64 x.group, .int .i64 x.row, .slice a6 l6 c6, .slice a7 l7 c7, .slice a8 l8 c8] 67)).alloc (.cells #[.int .i64 y.kind, .int .i64 y.seq, .string y.name, .int .i64 y.length, .int .i64 y.group, .int .i64 y.row, .slice b6 m6 d6, .slice b7 m7 d7, .slice b8 m8 d8] 67))
 obtain ⟨v, hv⟩ : ∃ v, v = q1z x y := ⟨_, rfl⟩
 have HV := hid hv
 rw [← hv]
 clear hx hy ex ey hv
 by_cases h1 : x.seq = y.seq
 ·have hb1 : (x.seq != y.seq) = false := by simp [h1]
  by_cases h2 : x.kind = y.kind
  ·have hb2 : (x.kind != y.kind) = false := by simp [h2]
   have HR := hid (show v = decide (x.group < y.group) by rw [HV.out]; unfold q1z; apply decide_eq_decide.2; omega)
   clear h1 h2
   go_enter Tryz.func167, Tryz.ntmps167
   go_wp2_with fail
   go_ret
   exact ⟨by rw [HR.out]; rfl, G0.out⟩
  ·have hb2 : (x.kind != y.kind) = true := by simp [h2]
   have HR := hid (show v = decide (x.kind < y.kind) by rw [HV.out]; unfold q1z; apply decide_eq_decide.2; omega)
   clear h1 h2
   go_enter Tryz.func167, Tryz.ntmps167
   go_wp2_with fail
   go_ret
   exact ⟨by rw [HR.out]; rfl, G0.out⟩
 ·have hb1 : (x.seq != y.seq) = true := by simp [h1]
  have HR := hid (show v = decide (x.seq < y.seq) by rw [HV.out]; unfold q1z; apply decide_eq_decide.2; omega)
  clear h1
  go_enter Tryz.func167, Tryz.ntmps167
  go_wp2_with fail
  go_ret
  exact ⟨by rw [HR.out]; rfl, G0.out⟩
theorem has1_any (x r : Rec) (B : Nat) {a6 a7 a8 b6 b7 b8 : Option Addr} {l6 c6 l7 c7 l8 c8 m6 d6 m7 d7 m8 d8 : Nat} (fx fr : List Nat) (E : TypeId) (w : World) (hB : w.heap[B]? = some (.cells #[.int .i64 r.kind, .int .i64 r.seq, .string r.name, .int .i64 r.length, .int .i64 r.group, .int .i64 r.row, .slice b6 m6 d6, .slice b7 m7 d7, .slice b8 m8 d8] E (0, 0))) (hx : recL.rep w (#[.int .i64 x.kind, .int .i64 x.seq, .string x.name, .int .i64 x.length, .int .i64 x.group, .int .i64 x.row, .slice a6 l6 c6, .slice a7 l7 c7, .slice a8 l8 c8] : Array Value).toList x fx) (hr : recL.rep w (#[.int .i64 r.kind, .int .i64 r.seq, .string r.name, .int .i64 r.length, .int .i64 r.group, .int .i64 r.row, .slice b6 m6 d6, .slice b7 m7 d7, .slice b8 m8 d8] : Array Value).toList r fr) :
  Calls Tryz.prog 236 #[.agg #[.int .i64 x.kind, .int .i64 x.seq, .string x.name, .int .i64 x.length, .int .i64 x.group, .int .i64 x.row, .slice a6 l6 c6, .slice a7 l7 c7, .slice a8 l8 c8], .pointer (some ⟨B, 0, none⟩)] w fun e w' => e = .returned (.bool (q2f x r)) ∧ Chg [] w w' := by
 have hS := q6j x r #[.int .i64 x.kind, .int .i64 x.seq, .string x.name, .int .i64 x.length, .int .i64 x.group, .int .i64 x.row, .slice a6 l6 c6, .slice a7 l7 c7, .slice a8 l8 c8] #[.int .i64 r.kind, .int .i64 r.seq, .string r.name, .int .i64 r.length, .int .i64 r.group, .int .i64 r.row, .slice b6 m6 d6, .slice b7 m7 d7, .slice b8 m8 d8] fx fr (w.alloc (.cells #[.int .i64 x.kind, .int .i64 x.seq, .string x.name, .int .i64 x.length, .int .i64 x.group, .int .i64 x.row, .slice a6 l6 c6, .slice a7 l7 c7, .slice a8 l8 c8] 67)) (recL.ext hx ((Chg.refl [] w).alloc _)) (recL.ext hr ((Chg.refl [] w).alloc _))
 rw [← sameV_pb] at hS
 have HS := hid hS
 have cB := cellsOf hB; have lB := ltOf hB
 have G0 := hid ((Chg.refl [] w).alloc (.cells #[.int .i64 x.kind, .int .i64 x.seq, .string x.name, .int .i64 x.length, .int .i64 x.group, .int .i64 x.row, .slice a6 l6 c6, .slice a7 l7 c7, .slice a8 l8 c8] 67))
 clear hS hx hr hB
 go_enter Tryz.func236, Tryz.ntmps236
 go_wp2_with fail
 refine HS.out.mono ?_
 rintro e w' ⟨rfl, hc⟩
 have HC := hid (G0.out.trans0 hc)
 clear hc
 go_wp2_with fail
 go_ret
 exact ⟨rfl, HC.out⟩
theorem cf_has1 : ∀ (args : Array Value) (w : World), (callFunc 236 args).run Tryz.prog w = .ok (.enter 236 args) w := fun _ _ => by go_simp
theorem has_any (a : Option Addr) (la ca : Nat) (xs : List Rec) (f : List Nat) (r : Rec) (cy : Array Value) (fr : List Nat) (w : World) (ha : recL.sl w a la ca xs f) (hy : recL.rep w cy.toList r fr) :
  Calls Tryz.prog 168 #[.slice a la ca, .agg cy] w fun e w' => e = .returned (.bool (xs.any (fun x => q2f x r))) ∧ Chg [] w w' := by
 obtain ⟨b6, m6, d6, g6, b7, m7, d7, g7, b8, m8, d8, g8, ey, -⟩ := q0m.1 hy
 obtain rfl := Array.toList_inj.1 (ey.trans (List.toList_toArray).symm)
 have hB := q1a w (.cells #[.int .i64 r.kind, .int .i64 r.seq, .string r.name, .int .i64 r.length, .int .i64 r.group, .int .i64 r.row, .slice b6 m6 d6, .slice b7 m7 d7, .slice b8 m8 d8] 67)
 have g0 : Chg [] w (w.alloc (.cells #[.int .i64 r.kind, .int .i64 r.seq, .string r.name, .int .i64 r.length, .int .i64 r.group, .int .i64 r.row, .slice b6 m6 d6, .slice b7 m7 d7, .slice b8 m8 d8] 67)) := (Chg.refl [] w).alloc _
 have HCT := hid (contRec_any 236 #[.pointer (some ⟨w.heap.size, 0, none⟩)] (fun x => q2f x r) a la ca xs f (w.alloc (.cells #[.int .i64 r.kind, .int .i64 r.seq, .string r.name, .int .i64 r.length, .int .i64 r.group, .int .i64 r.row, .slice b6 m6 d6, .slice b7 m7 d7, .slice b8 m8 d8] 67)) (recL.sl_ext ha g0) cf_has1 (fun x a6 l6 c6 a7 l7 c7 a8 l8 c8 fx w1 _ h2 h3 => has1_any x r w.heap.size fx fr 67 w1 (h2.keep0 hB) h3 (recL.ext hy (g0.trans0 h2))))
 have G0 := hid g0
 clear ha hy ey hB g0
 go_enter Tryz.func168, Tryz.ntmps168
 go_wp2_with fail
 refine HCT.out.mono ?_
 rintro e w' ⟨rfl, hc⟩
 have HC := hid (G0.out.trans0 hc)
 clear hc
 go_wp2_with fail
 go_ret
 exact ⟨rfl, HC.out⟩
theorem holds_any (a : Option Addr) (la ca : Nat) (xs : List Rec) (f : List Nat) (r : Rec) (cy : Array Value) (fr : List Nat) (w : World) (ha : recL.sl w a la ca xs f) (hy : recL.rep w cy.toList r fr) :
  Calls Tryz.prog 166 #[.slice a la ca, .agg cy] w fun e w' => e = .returned (.bool (xs.any (fun x => q2f x r))) ∧ Chg [] w w' := by
 obtain ⟨b6, m6, d6, g6, b7, m7, d7, g7, b8, m8, d8, g8, ey, -⟩ := q0m.1 hy
 obtain rfl := Array.toList_inj.1 (ey.trans (List.toList_toArray).symm)
 have hla := recL.sl_max ha
 have HB := hid (q1a w (.cells #[.int .i64 r.kind, .int .i64 r.seq, .string r.name, .int .i64 r.length, .int .i64 r.group, .int .i64 r.row, .slice b6 m6 d6, .slice b7 m7 d7, .slice b8 m8 d8] 67))
 have G0 := hid ((Chg.refl [] w).alloc (.cells #[.int .i64 r.kind, .int .i64 r.seq, .string r.name, .int .i64 r.length, .int .i64 r.group, .int .i64 r.row, .slice b6 m6 d6, .slice b7 m7 d7, .slice b8 m8 d8] 67))
 have HA := hid ha; have HY := hid hy; have HL := hid ha.1
 obtain ⟨v, hv⟩ : ∃ v, v = xs.any (fun x => q2f x r) := ⟨_, rfl⟩
 have HV := hid hv
 rw [← hv]
 clear ha hy ey hv
 go_enter Tryz.func166, Tryz.ntmps166
 go_wp2_with fail
 go_loopw [5] (fun vi wr => ∃ (k : Nat) (Wr : World), Wr = wr ∧ k ≤ la ∧ vi = .int .i64 k ∧ Hid (∀ x ∈ xs.take k, q2f x r = false) ∧ Chg [] (w.alloc (.cells #[.int .i64 r.kind, .int .i64 r.seq, .string r.name, .int .i64 r.length, .int .i64 r.group, .int .i64 r.row, .slice b6 m6 d6, .slice b7 m7 d7, .slice b8 m8 d8] 67)) wr) (fun vi _ => la - (intOf vi).toNat)
 case atStart => exact ⟨0, _, rfl, by omega, rfl, by intro y hy; simp at hy, Chg.refl _ _⟩
 case round =>
  obtain ⟨k, wr, rfl, hk, rfl, HK, hc⟩ := hrel
  have HC := hid hc
  have hbx := hc.keep0 HB.out
  have cX := cellsOf hbx; have lX := ltOf hbx
  clear hbx
  by_cases hlt : k < la
  ·obtain ⟨x, b, off, cx, fx, HX, rfl, HCE, HXS⟩ := q9v (recL.sl_ext HA.out (G0.out.trans0 hc)) hlt
   have hS := z1r x r cx.toArray #[.int .i64 r.kind, .int .i64 r.seq, .string r.name, .int .i64 r.length, .int .i64 r.group, .int .i64 r.row, .slice b6 m6 d6, .slice b7 m7 d7, .slice b8 m8 d8] fx fr wr.drew (recL.ext (by simpa using HXS.out) ((Chg.refl [] wr).drew)) (recL.ext HY.out ((G0.out.trans0 hc).drew))
   have HX0 := hid HX.out.1
   have hlb := (recL.sl_lt (recL.sl_ext HA.out (G0.out.trans0 hc))) b HX.out.2.1
   have HBX := hid (hc.keep0 HB.out)
   have HCD := hid (show q1s wr.drew b (off + k * 9) 9 cx from HCE.out)
   have HCR := hid ((Chg.refl [] wr).drew)
   clear hc HX cX lX
   cases hq : q2f x r
   ·rw [hq] at hS
    have HS := hid hS
    have HN := hid (show ∀ z ∈ xs.take (k + 1), q2f z r = false by
     intro z hz
     rw [q1d HX0.out] at hz
     rcases List.mem_append.1 hz with h1 | h1
     ·exact HK.out z h1
     ·rw [List.mem_singleton] at h1; rw [h1]; exact hq)
    clear hS hq
    go_wp2_with fail
    obtain ⟨SS, HSI, HSO⟩ := q0k (fun w' => q1s w' b (off + k * 9) 9 cx ∧ Know w.heap.size #[.int .i64 r.kind, .int .i64 r.seq, .string r.name, .int .i64 r.length, .int .i64 r.group, .int .i64 r.row, .slice b6 m6 d6, .slice b7 m7 d7, .slice b8 m8 d8] w')
    have hS0 := HSI.out _ ⟨HCD.out, (Know.of (q0a HBX.out))⟩
    refine q0g SS (by kernel_rfl) hS0 ?_
    refine rgT 0 hS0 ?_
    refine rgT 1 hS0 ?_
    refine rgT 2 hS0 ?_
    refine rgL 3 hS0 HSO ?_ (hy := fun w' hw => q1l _ 67 rfl rfl q1o Tryz.underlying67 hw.1)
    refine rgL 4 hS0 HSO ?_
    refine q0c 5 rfl (by kernel_rfl) (fun K hK => ?_)
    go_simp
    go_at_call 234
    refine HS.out.mono ?_
    rintro e w2 ⟨rfl, hc2⟩
    have HC2 := hid (HC.out.trans0 (HCR.out.trans0 hc2)); have HCE2 := hid (HCD.out.ext hc2 hlb); have HBX2 := hid (hc2.keep0 (q0a HBX.out))
    clear hc2
    go_wp2_with fail
    refine hK.out _ _ (HSI.out _ ⟨HCE2.out, (Know.of HBX2.out)⟩) (fun hS1 => ?_)
    clear hK K
    try simp only [Act.put, pA, pB, pC]
    refine wpAnyH_done (by kernel_rfl) ?_ _
    skip
    go_wp2_with fail
    go_roundw
    case rel => exact ⟨k + 1, _, rfl, by omega, by go_num, HN, HC2.out⟩
    case measure => simp [intOf]; omega
   ·rw [hq] at hS
    have HS := hid hS
    have HR := hid (show v = true by rw [HV.out]; exact List.any_eq_true.2 ⟨x, List.mem_of_getElem? HX0.out, hq⟩)
    clear hS hq
    go_wp2_with fail
    obtain ⟨SS, HSI, HSO⟩ := q0k (fun w' => q1s w' b (off + k * 9) 9 cx ∧ Know w.heap.size #[.int .i64 r.kind, .int .i64 r.seq, .string r.name, .int .i64 r.length, .int .i64 r.group, .int .i64 r.row, .slice b6 m6 d6, .slice b7 m7 d7, .slice b8 m8 d8] w')
    have hS0 := HSI.out _ ⟨HCD.out, (Know.of (q0a HBX.out))⟩
    refine q0g SS (by kernel_rfl) hS0 ?_
    refine rgT 0 hS0 ?_
    refine rgT 1 hS0 ?_
    refine rgT 2 hS0 ?_
    refine rgL 3 hS0 HSO ?_ (hy := fun w' hw => q1l _ 67 rfl rfl q1o Tryz.underlying67 hw.1)
    refine rgL 4 hS0 HSO ?_
    refine q0c 5 rfl (by kernel_rfl) (fun K hK => ?_)
    go_simp
    go_at_call 234
    refine HS.out.mono ?_
    rintro e w2 ⟨rfl, hc2⟩
    have HC2 := hid (HC.out.trans0 (HCR.out.trans0 hc2)); have HCE2 := hid (HCD.out.ext hc2 hlb); have HBX2 := hid (hc2.keep0 (q0a HBX.out))
    clear hc2
    go_wp2_with fail
    refine hK.out _ _ (HSI.out _ ⟨HCE2.out, (Know.of HBX2.out)⟩) (fun hS1 => ?_)
    clear hK K
    try simp only [Act.put, pA, pB, pC]
    refine wpAnyH_done (by kernel_rfl) ?_ _
    skip
    go_wp2_with fail
    go_ret
    exact ⟨by rw [HR.out]; rfl, G0.out.trans0 HC2.out⟩
  ·have HR := hid (show v = false by
    rw [HV.out, List.any_eq_false]
    intro x hx
    rw [HK.out x (by rw [List.take_of_length_le (by have := HL.out; omega)]; exact hx)]
    simp)
   clear hc
   go_wp2_with fail
   go_ret
   exact ⟨by rw [HR.out]; rfl, G0.out.trans0 HC.out⟩
end Go.Proofs.YtphmpimgbmedbaaGreat
namespace Go.Proofs.YtphmpimgbmedbaaGreat
open Go.RowKit
open Go.Lib (hid)
section
variable {P : Program} {ops : Array Oper} {Q : Exit → Act → World → Prop} {md : Region.Mode} {S : World → Prop} {fuel : Nat} {listed : Array Bool} {a : Act} {w : World}
theorem q5f (i j : Nat) {oi oj : Oper} (hi : ops.toList[i]? = some oi) (hj : ops.toList[j]? = some oj) (hr : Region.ready md ops listed = [i, j])
  (h : ∀ K' : Act → World → Prop, Shut (∀ a w, S w → (S w → wpAnyH P md ops Q S fuel (listed.setIfInBounds i true) a w) → K' a w) → if Region.wanted oi (yielded ops a.tmps) = true then Oper.wp P oi a w K' Q else K' (a.put oi.dst undef) w)
  (h2 : ∀ K' : Act → World → Prop, Shut (∀ a w, S w → (S w → wpAnyH P md ops Q S fuel (listed.setIfInBounds j true) a w) → K' a w) → if Region.wanted oj (yielded ops a.tmps) = true then Oper.wp P oj a w K' Q else K' (a.put oj.dst undef) w) :
  wpAnyH P md ops Q S (fuel + 1) listed a w :=
 wpAnyH_ready hr (by simp) (AllReadyH.cons (q2x hi) h (AllReadyH.cons (q2x hj) h2 AllReadyH.nil))
theorem store_step {o : Oper} {Kc : Act → World → Prop} {R : Prop} {b : Nat} {cs vs : Array Value} {E : TypeId} {n : Nat} (hgd : o.guard = none) (p v : Operand) (t : TypeId)
  (hop : o.op = .store t p v) (hp : a.eval p = .pointer (some ⟨b, 0, none⟩)) (hv : a.eval v = .agg vs) (hi : (P.info? t).map (fun i => i.size) = some n) (h : w.heap[b]? = some (.cells cs E (0, 0)))
  (hn : vs.size = n) (hs : cs.size = n) (hone : vs.toList.all Value.oneCell' = true)
  (hk : ∀ w', w'.heap[b]? = some (.cells vs E (0, 0)) → Chg [b] w w' → Kc (a.put o.dst undef) w') : if Region.wanted o (yielded ops a.tmps) = true then Oper.wp P o a w Kc Q else R := by
 have hw : Region.wanted o (yielded ops a.tmps) = true := by simp [Region.wanted, hgd]
 rw [if_pos hw]
 exact store_wp p v t hop hp hv hi h hn hs hone hk
end
end Go.Proofs.YtphmpimgbmedbaaGreat
namespace Go.Proofs.YtphmpimgbmedbaaGreat
open Go.RowKit
open Go.Lib (hid)

end Go.Proofs.YtphmpimgbmedbaaGreat
