/- Several texts in one. -/
import Derived.Test.YtphmpimgbmedbaaGreatGad
import Derived.Test.YtphmpimgbmedbaaGreatGae
import Derived.Test.YtphmpimgbmedbaaGreatGaf
import Derived.Laws.CopyRow
import Derived.Laws.Cells
import Derived.Laws.IdiomCopy
/- A region that draws its order, walked by hand: what is known of the world is asked for only till all loads have come up. No function of the program in sight. -/
namespace Go.Proofs.YtphmpimgbmedbaaGreat
open Go.RowKit
open Go.Lib (hid)
def wpAnyG (P : Program) (md : Region.Mode) (ops : Array Oper) (Q : Exit → Act → World → Prop) (S : Array Bool → World → Prop) : Nat → Array Bool → Act → World → Prop
 | 0, listed, a, w => Region.ready md ops listed = [] ∧ Q .normal a w
 | fuel + 1, listed, a, w =>
  (Region.ready md ops listed = [] → Q .normal a w) ∧
  ∀ i ∈ Region.ready md ops listed, wpOp P ops Q i (fun a' w' => S (listed.setIfInBounds i true) w' ∧ wpAnyG P md ops Q S fuel (listed.setIfInBounds i true) a' w') a w
def Till (M : List Nat) (C : World → Prop) (l : Array Bool) (w : World) : Prop := (∀ m ∈ M, l.getD m false = false) → C w
def LClosed (md : Region.Mode) (ops : Array Oper) (l : Array Bool) : Prop := ∀ (j : Nat) (o : Oper), ops[j]? = some o → l.getD j false = true → ∀ e ∈ o.after, Region.binds md e = true → l.getD e.on false = true
def waits (md : Region.Mode) (ops : Array Oper) : Nat → Nat → Nat → Bool
 | 0, m, i => m == i
 | n + 1, m, i => m == i || (match ops[m]? with
  | none => false
  | some o => o.after.toList.any (fun e => Region.binds md e && waits md ops n e.on i))
section
variable {P : Program} {ops : Array Oper} {Q : Exit → Act → World → Prop} {md : Region.Mode} {M : List Nat} {C : World → Prop} {fuel : Nat} {listed : Array Bool} {a : Act} {w : World}
theorem waits_listed (hc : LClosed md ops listed) : ∀ (n m i : Nat), waits md ops n m i = true → listed.getD m false = true → listed.getD i false = true
 | 0, m, i, h, hm => by simp [waits] at h; subst h; exact hm
 | n + 1, m, i, h, hm => by
  unfold waits at h
  rw [Bool.or_eq_true] at h
  rcases h with h | h
  ·simp at h; subst h; exact hm
  ·cases ho : ops[m]? with
   | none => rw [ho] at h; cases h
   | some o =>
    rw [ho] at h
    simp only [List.any_eq_true, Bool.and_eq_true] at h
    obtain ⟨e, he, hb, hw⟩ := h
    exact waits_listed hc n e.on i hw (hc m o ho hm e (by simpa using he) hb)
theorem LClosed.next (hc : LClosed md ops listed) {j : Nat} (hj : j ∈ Region.ready md ops listed) : LClosed md ops (listed.setIfInBounds j true) := by
 intro k o ho hk e he hb
 obtain ⟨_, oj, hoj, hall⟩ := mem_ready.1 hj
 by_cases h : j = k
 ·subst h
  rw [hoj] at ho
  cases ho
  exact getD_set_true (hall e he hb)
 ·rw [getD_set_ne false h] at hk
  exact getD_set_true (hc k o ho hk e he hb)
theorem LClosed.none : LClosed md ops (Array.replicate ops.size false) := by
 intro k o ho hk
 rw [Array.getD_eq_getD_getElem?, Array.getElem?_replicate] at hk
 split at hk <;> cases hk
theorem unl {i : Nat} (h : i ∈ Region.ready md ops listed) : listed.getD i false = false := by
 have h0 := (mem_ready.1 h).1
 rw [Array.getD_eq_getD_getElem?] at h0 ⊢
 cases e : listed[i]? with
 | none => rfl
 | some b => rw [e] at h0; exact h0
theorem wpAny_of_G {S : Array Bool → World → Prop} : ∀ (fuel : Nat) (listed : Array Bool) (a : Act) (w : World), wpAnyG P md ops Q S fuel listed a w → wpAny P md ops Q fuel listed a w
 | 0, _, _, _, h => h
 | fuel + 1, _, _, _, h => ⟨h.1, fun i hi => wpOp_mono (fun a' w' h' => wpAny_of_G fuel _ a' w' h'.2) (h.2 i hi)⟩
theorem Till.now {i n : Nat} (hS : Till M C listed w) (hcl : LClosed md ops listed) (hi : listed.getD i false = false) (hM : ∀ m ∈ M, waits md ops n m i = true) : C w :=
 hS (fun m hm => by
  cases e : listed.getD m false
  ·rfl
  ·rw [waits_listed hcl n m i (hM m hm) e] at hi; cases hi)
theorem Till.more (hS : Till M C listed w) (j : Nat) : Till M C (listed.setIfInBounds j true) w := fun hm => hS (fun m hmM => by
  have := hm m hmM
  cases e : listed.getD m false
  ·rfl
  ·rw [getD_set_true e] at this; cases this)
theorem wpAnyG_first {i : Nat} {oi : Oper} {v : Value} (hi : ops[i]? = some oi) (hsel : ∀ (j : Nat) (o : Oper) cs b, ops[j]? = some o → o.op ≠ .select cs b)
  (hQ : ∀ c a w, Q (.panic c) (a.put oi.dst v) w → Q (.panic c) a w) {D : World → Prop} (hD : ∀ (l : Array Bool) w, LClosed md ops l → l.getD i false = false → Till M C l w → D w) (hiM : i ∉ M) :
  ∀ (fuel : Nat) (listed : Array Bool) (a : Act) (w : World),
   (∀ j oj, ops[j]? = some oj → j ≠ i → listed.getD j true = false → (∀ e ∈ oj.after, Region.binds md e = true → e.on ≠ i) → oi.apart ops oj = true) →
   i ∈ Region.ready md ops listed → LClosed md ops listed → YieldsIf P ops D oi v a → Till M C listed w →
   wpAnyG P md ops Q (Till M C) fuel (listed.setIfInBounds i true) (a.put oi.dst v) w → wpAnyG P md ops Q (Till M C) (fuel + 1) listed a w := by
 intro fuel
 induction fuel with
 | zero =>
  intro listed a w _ hr hcl hy hS H
  refine ⟨fun h => (by rw [h] at hr; cases hr), fun j hj => ?_⟩
  by_cases hji : j = i
  ·subst hji
   exact hy.wpOp hi (hD _ _ hcl (unl hr) hS) ⟨hS.more j, H⟩
  ·have := ready_mono hj hji
   rw [H.1] at this
   cases this
 | succ fuel ih =>
  intro listed a w hfree hr hcl hy hS H
  refine ⟨fun h => (by rw [h] at hr; cases hr), fun j hj => ?_⟩
  by_cases hji : j = i
  ·subst hji
   exact hy.wpOp hi (hD _ _ hcl (unl hr) hS) ⟨hS.more j, H⟩
  ·have h1 := H.2 j (ready_mono hj hji)
   obtain ⟨hjun, oj, hoj, hall⟩ := mem_ready.1 hj
   have hnot : ∀ e ∈ oj.after, Region.binds md e = true → e.on ≠ i := fun e he hb heq => by
    have h1 := hall e he hb
    rw [heq, unl hr] at h1
    cases h1
   have h2 := wpOp_putIf hoj (hfree j oj hoj hji hjun hnot) (fun cs b => hsel i oi cs b hi) (fun cs b => hsel j oj cs b hoj) hQ hy h1
   have hfree' : ∀ k ok, ops[k]? = some ok → k ≠ i → (listed.setIfInBounds j true).getD k true = false →
     (∀ e ∈ ok.after, Region.binds md e = true → e.on ≠ i) → oi.apart ops ok = true := fun k ok hk hki hun hno => by
    refine hfree k ok hk hki ?_ hno
    by_cases hjk : j = k
    ·subst hjk; exact hjun
    ·rw [getD_set_ne true hjk] at hun; exact hun
   refine wpOp_mono (fun a' w' h3 => ?_) h2
   obtain ⟨hy', hS', hW⟩ := h3
   have hTl : Till M C (listed.setIfInBounds j true) w' := fun hm => hS' (fun m hmM => by
    have hne : i ≠ m := fun e => hiM (by rw [e]; exact hmM)
    rw [Array.setIfInBounds_comm _ _ (Ne.symm hji), getD_set_ne false hne]
    exact hm m hmM)
   refine ⟨hTl, ih (listed.setIfInBounds j true) a' w' hfree' (ready_mono hr (Ne.symm hji)) (hcl.next hj) hy' hTl ?_⟩
   rw [Array.setIfInBounds_comm _ _ hji]
   exact hW
theorem gg_start {id : Nat} (M : List Nat) (C : World → Prop) (hm : P.follows .mixedOrders = true) (hC : C w.drew) (h : LClosed .any ops (Array.replicate ops.size false) → Till M C (Array.replicate ops.size false) w.drew → wpAnyG P .any ops Q (Till M C) ops.size (Array.replicate ops.size false) a w.drew) : (Code.region id ops true).wp P Q a w :=
 wp_region_any hm (wpAny_of_G _ _ _ _ (h LClosed.none (fun _ => hC)))
theorem ggT (i : Nat) {oi : Oper} {v : Value} {a' : Act} (hcl : LClosed md ops listed) (hS : Till M C listed w)
  (h : LClosed md ops (listed.setIfInBounds i true) → Till M C (listed.setIfInBounds i true) w → wpAnyG P md ops Q (Till M C) fuel (listed.setIfInBounds i true) a' w) (hi : ops.toList[i]? = some oi := by rfl)
  (hc : (Region.noSelect ops && Region.free md ops listed i && (Region.ready md ops listed).contains i && !M.contains i) = true := by kernel_rfl)
  (hQ : ∀ c a w, Q (.panic c) (a.put oi.dst v) w → Q (.panic c) a w := by exact fun _ _ _ h => h) (hw : Region.wanted oi (yielded ops a.tmps) = true := by rfl)
  (hy : ∀ w : World, (execOp a.eval oi).run P w = .ok (.value v) w := by intro w; go_simp; (try with_reducible rfl))
  (ha : a.put oi.dst v = a' := by (try simp only [Act.put, List.setIfInBounds_toArray, List.set_cons_zero, List.set_cons_succ]); (try rfl)) : wpAnyG P md ops Q (Till M C) (fuel + 1) listed a w := by
 simp only [Bool.and_eq_true, Bool.not_eq_true'] at hc
 have hr : i ∈ Region.ready md ops listed := by simpa using hc.1.2
 exact wpAnyG_first (D := fun _ => True) (get_toList hi) (Region.noSelect_spec hc.1.1.1) hQ (fun _ _ _ _ _ => trivial) (by simpa using hc.2) fuel listed a w (Region.free_spec (get_toList hi) hc.1.1.2) hr hcl (.inl ⟨hw, fun w _ => hy w⟩) hS (ha ▸ h (hcl.next hr) (hS.more i))
theorem ggL (i : Nat) {oi : Oper} {v : Value} {a' : Act} {D : World → Prop} (hcl : LClosed md ops listed) (hS : Till M C listed w) (hCD : Hid (∀ w, C w → D w))
  (h : LClosed md ops (listed.setIfInBounds i true) → Till M C (listed.setIfInBounds i true) w → wpAnyG P md ops Q (Till M C) fuel (listed.setIfInBounds i true) a' w) (hi : ops.toList[i]? = some oi := by rfl)
  (hc : (Region.noSelect ops && Region.free md ops listed i && (Region.ready md ops listed).contains i && M.all (fun m => waits md ops ops.size m i) && !M.contains i) = true := by kernel_rfl)
  (hQ : ∀ c a w, Q (.panic c) (a.put oi.dst v) w → Q (.panic c) a w := by exact fun _ _ _ h => h) (hw : Region.wanted oi (yielded ops a.tmps) = true := by rfl)
  (hy : ∀ w : World, D w → (execOp a.eval oi).run P w = .ok (.value v) w := by intro w hSw; (try unfold Know at hSw); go_simp; (try with_reducible rfl))
  (ha : a.put oi.dst v = a' := by (try simp only [Act.put, List.setIfInBounds_toArray, List.set_cons_zero, List.set_cons_succ]); (try rfl)) : wpAnyG P md ops Q (Till M C) (fuel + 1) listed a w := by
 simp only [Bool.and_eq_true, List.all_eq_true, Bool.not_eq_true'] at hc
 have hr : i ∈ Region.ready md ops listed := by simpa using hc.1.1.2
 exact wpAnyG_first (D := D) (get_toList hi) (Region.noSelect_spec hc.1.1.1.1) hQ (fun l w h1 h2 h3 => hCD.out w (h3.now h1 h2 hc.1.2)) (by simpa using hc.2) fuel listed a w (Region.free_spec (get_toList hi) hc.1.1.1.2) hr hcl (.inl ⟨hw, hy⟩) hS (ha ▸ h (hcl.next hr) (hS.more i))
theorem ggC (i : Nat) {oi : Oper} (hcl : LClosed md ops listed) (hi : ops.toList[i]? = some oi) (hr : Region.ready md ops listed = [i])
  (h : ∀ K' : Act → World → Prop, Shut (∀ a w, Till M C (listed.setIfInBounds i true) w → (LClosed md ops (listed.setIfInBounds i true) → Till M C (listed.setIfInBounds i true) w → wpAnyG P md ops Q (Till M C) fuel (listed.setIfInBounds i true) a w) → K' a w) → if Region.wanted oi (yielded ops a.tmps) = true then Oper.wp P oi a w K' Q else K' (a.put oi.dst undef) w) :
  wpAnyG P md ops Q (Till M C) (fuel + 1) listed a w := by
 refine ⟨fun h0 => (by rw [hr] at h0; cases h0), fun j hj => ?_⟩
 have hji : j = i := by rw [hr] at hj; simpa using hj
 subst hji
 exact wpOp_step (get_toList hi) (fun K' hK => h K' (fun a w hS hW => hK a w ⟨hS, hW (hcl.next hj) hS⟩))
theorem ggEnd {a : Act} (hr : Region.ready md ops listed = []) (h : Q .normal a w) : ∀ fuel, wpAnyG P md ops Q (Till M C) fuel listed a w
 | 0 => ⟨hr, h⟩
 | _ + 1 => ⟨fun _ => h, by rw [hr]; simp⟩
theorem Till.done {m : Nat} (hm : m ∈ M) (h : listed.getD m false = true) : Till M C listed w := fun hall => by rw [hall m hm] at h; cases h
end
end Go.Proofs.YtphmpimgbmedbaaGreat
/- A store of a structure, in one step; a code and a world handed back. No function of the program in sight. -/
namespace Go.Proofs.YtphmpimgbmedbaaGreat
open Go.RowKit
open Go.Lib (hid)
theorem Chg.setRowAt {S : List Nat} {a w : World} {b : Nat} (cs : Array Value) (h : Chg S a w) (hb : b ∈ S ∨ a.heap.size ≤ b) : Chg S a (w.setRow b cs) :=
 ⟨h.os, h.tape, h.output, by simp only [World.setRow, Array.size_modify]; exact h.size, fun k hk hS => by rw [setRow_other _ _ _ _ (hb.elim (fun hb e => hS (by rw [e]; exact hb)) (fun hb => by omega))]; exact h.block k hk hS, fun k hk => by
  obtain ⟨c, E, h1⟩ := h.loose k hk
  by_cases e : k = b
  ·subst e; exact ⟨_, E, setRow_heap w k c _ E _ h1⟩
  ·exact ⟨c, E, by rw [setRow_other _ _ _ _ e]; exact h1⟩⟩
theorem store_wp' {P : Program} {o : Oper} {a : Act} {Kc : Act → World → Prop} {Q : Exit → Act → World → Prop} {w : World} {b : Nat} {cs vs : Array Value} {E : TypeId} {n : Nat} (p v : Operand) (t : TypeId)
  (hop : o.op = .store t p v) (hp : a.eval p = .pointer (some ⟨b, 0, none⟩)) (hv : a.eval v = .agg vs) (hi : (P.info? t).map (fun i => i.size) = some n) (h : w.heap[b]? = some (.cells cs E (0, 0)))
  (hn : vs.size = n) (hs : cs.size = n) (hone : vs.toList.all Value.oneCell' = true)
  (hk : Kc (a.put o.dst undef) (w.setRow b vs)) : o.wp P a w Kc Q := by
 obtain ⟨i, hi1, hi2⟩ := Option.map_eq_some_iff.1 hi
 have hst := run_storeCells_at (P := P) b 0 E vs.toList 0 cs w h (by simp; omega) (fun v hv => List.all_eq_true.1 hone v hv)
 have e : (cs.toList.take (0 + 0) ++ vs.toList ++ cs.toList.drop (0 + 0 + vs.toList.length)).toArray = vs := by
  have : cs.toList.drop (0 + 0 + vs.toList.length) = [] := List.drop_eq_nil_of_le (by simp; omega)
  rw [this]; simp
 rw [e] at hst
 have hsz : vs.size = i.size := by omega
 unfold Oper.wp execOp
 simp only [hop, hp, hv, Instr.storeAt, Instr.sureAddr, storeVar, Value.cells, sizeOf, typeInfo, Sem.run_bind, Sem.run_pure, Result.andThen_ok]
 have hp0 : (program : Sem Program).run P w = .ok P w := rfl
 simp only [hp0, Result.andThen_ok, hi1, Sem.run_pure, ← hsz, ne_eq, not_true, if_false, hst]
 exact hk
theorem store_wp {P : Program} {o : Oper} {a : Act} {Kc : Act → World → Prop} {Q : Exit → Act → World → Prop} {w : World} {b : Nat} {cs vs : Array Value} {E : TypeId} {n : Nat} (p v : Operand) (t : TypeId)
  (hop : o.op = .store t p v) (hp : a.eval p = .pointer (some ⟨b, 0, none⟩)) (hv : a.eval v = .agg vs) (hi : (P.info? t).map (fun i => i.size) = some n) (h : w.heap[b]? = some (.cells cs E (0, 0)))
  (hn : vs.size = n) (hs : cs.size = n) (hone : vs.toList.all Value.oneCell' = true)
  (hk : ∀ w', w'.heap[b]? = some (.cells vs E (0, 0)) → Chg [b] w w' → Kc (a.put o.dst undef) w') : o.wp P a w Kc Q :=
 store_wp' p v t hop hp hv hi h hn hs hone (hk _ (setRow_heap w b cs vs E (0, 0) h) ((Chg.refl _ w).setRowAt vs (.inl (by simp))))
theorem store_wide {P : Program} {ops : Array Oper} {rest : List Oper} {o : Oper} {a : Act} {Q : Exit → Act → World → Prop} {w : World} {b : Nat} {cs vs : Array Value} {E : TypeId} {n : Nat} (hgd : o.guard = none) (p v : Operand) (t : TypeId)
  (hop : o.op = .store t p v) (hp : a.eval p = .pointer (some ⟨b, 0, none⟩)) (hv : a.eval v = .agg vs) (hi : (P.info? t).map (fun i => i.size) = some n) (h : w.heap[b]? = some (.cells cs E (0, 0)))
  (hn : vs.size = n) (hs : cs.size = n) (hone : vs.toList.all Value.oneCell' = true)
  (hk : ∀ w', w'.heap[b]? = some (.cells vs E (0, 0)) → Chg [b] w w' → wpList P ops Q rest (a.put o.dst undef) w') : wpList P ops Q (o :: rest) a w :=
 wpList_plain hgd fun _ hK => store_wp p v t hop hp hv hi h hn hs hone fun w' h1 h2 => hK _ _ (hk w' h1 h2)
theorem alloc_setRow (w : World) (cs vs : Array Value) (E : TypeId) : (w.alloc (.cells cs E)).setRow w.heap.size vs = w.alloc (.cells vs E) := by
 unfold World.setRow World.alloc
 congr 1
 apply Array.ext_getElem?
 intro k
 rw [Array.getElem?_modify]
 by_cases h : w.heap.size = k
 ·subst h; simp
 ·rw [if_neg h, Array.getElem?_push, Array.getElem?_push, if_neg (fun e => h e.symm), if_neg (fun e => h e.symm)]
theorem store_new {P : Program} {ops : Array Oper} {rest : List Oper} {o : Oper} {a : Act} {Q : Exit → Act → World → Prop} {w : World} {b : Nat} {cs vs : Array Value} {E : TypeId} {n : Nat} (hgd : o.guard = none) (p v : Operand) (t : TypeId)
  (hop : o.op = .store t p v) (hp : a.eval p = .pointer (some ⟨b, 0, none⟩)) (hv : a.eval v = .agg vs) (hb : b = w.heap.size) (hi : (P.info? t).map (fun i => i.size) = some n)
  (hn : vs.size = n) (hs : cs.size = n) (hone : vs.toList.all Value.oneCell' = true)
  (hk : wpList P ops Q rest (a.put o.dst undef) (w.alloc (.cells vs E))) : wpList P ops Q (o :: rest) a (w.alloc (.cells cs E)) := by
 subst hb
 exact wpList_plain hgd fun _ hK => store_wp' p v t hop hp hv hi (new_alloc w _) hn hs hone (by rw [alloc_setRow]; exact hK _ _ hk)
theorem load_wp {P : Program} {o : Oper} {a : Act} {Kc : Act → World → Prop} {Q : Exit → Act → World → Prop} {w : World} {b : Nat} {cs : Array Value} {E : TypeId} {fr : Nat × Nat} {n : Nat} {fs : Array Field} (p : Operand) (t : TypeId)
  (hop : o.op = .load t p) (hp : a.eval p = .pointer (some ⟨b, 0, none⟩)) (hi : (P.info? t).map (fun i => i.size) = some n) (hu : P.underlying t = some (.struct fs)) (h : w.heap[b]? = some (.cells cs E fr))
  (hs : cs.size = n) (hk : Kc (a.put o.dst (.agg cs)) w) : o.wp P a w Kc Q := by
 obtain ⟨i, hi1, hi2⟩ := Option.map_eq_some_iff.1 hi
 have hld := run_loadCells_list (P := P) (w := w) ⟨b, 0, none⟩ cs.toList (fun j v hv => by
  have := cell_of_row w b j cs E fr h
  rw [Addr.add_lit, Nat.zero_add, this]; simpa using hv)
 have hsz : cs.toList.length = i.size := by simp; omega
 rw [hsz] at hld
 unfold Oper.wp execOp
 have hp0 : (program : Sem Program).run P w = .ok P w := rfl
 simp only [hop, hp, Instr.loadAt, Instr.sureAddr, loadVar, isAgg, run_underlying hu, sizeOf, typeInfo, Sem.run_bind, Sem.run_pure, Result.andThen_ok, hp0, hi1, if_true, hld]
 rw [Array.toArray_toList]
 exact hk
theorem load_wide {P : Program} {ops : Array Oper} {rest : List Oper} {o : Oper} {a : Act} {Q : Exit → Act → World → Prop} {w : World} {b : Nat} {cs : Array Value} {E : TypeId} {fr : Nat × Nat} {n : Nat} {fs : Array Field} (hgd : o.guard = none) (p : Operand) (t : TypeId)
  (hop : o.op = .load t p) (hp : a.eval p = .pointer (some ⟨b, 0, none⟩)) (hi : (P.info? t).map (fun i => i.size) = some n) (hu : P.underlying t = some (.struct fs)) (h : w.heap[b]? = some (.cells cs E fr))
  (hs : cs.size = n) (hk : wpList P ops Q rest (a.put o.dst (.agg cs)) w) : wpList P ops Q (o :: rest) a w :=
 wpList_plain hgd fun _ hK => load_wp p t hop hp hi hu h hs (hK _ _ hk)
theorem results_wide {P : Program} {fn : Func} {tmps : Array Value} {w : World} {b : Nat} {cs : Array Value} {E : TypeId} {fr : Nat × Nat} {n : Nat} {fs : Array Field} (s : Tmp) (t : TypeId) (hr : fn.results = #[.cell s t])
  (hp : tmps.getD s undef = .pointer (some ⟨b, 0, none⟩)) (hi : (P.info? t).map (fun i => i.size) = some n) (hu : P.underlying t = some (.struct fs)) (h : w.heap[b]? = some (.cells cs E fr)) (hs : cs.size = n) :
  (results fn tmps).run P w = .ok (.agg cs) w := by
 obtain ⟨i, hi1, hi2⟩ := Option.map_eq_some_iff.1 hi
 have hld := run_loadCells_list (P := P) (w := w) ⟨b, 0, none⟩ cs.toList (fun j v hv => by
  have := cell_of_row w b j cs E fr h
  rw [Addr.add_lit, Nat.zero_add, this]; simpa using hv)
 have hsz : cs.toList.length = i.size := by simp; omega
 rw [hsz, Array.toArray_toList] at hld
 have hp0 : (program : Sem Program).run P w = .ok P w := rfl
 have hl : (loadVar t ⟨b, 0, none⟩).run P w = .ok (.agg cs) w := by
  simp only [loadVar, isAgg, run_underlying hu, sizeOf, typeInfo, Sem.run_bind, Sem.run_pure, Result.andThen_ok, hp0, hi1, if_true, hld]
 have hp2 : tmps[s]?.getD undef = .pointer (some ⟨b, 0, none⟩) := by simpa using hp
 simp [results, hr, hp2, asAddr, hl]
theorem infoWd : (Tryz.prog.info? 34).map (fun i => i.size) = some 15 := by kernel_rfl
end Go.Proofs.YtphmpimgbmedbaaGreat
/- An element of a row loaded, stored and swapped whole, each in one step. No function of the program in sight. -/
namespace Go.Proofs.YtphmpimgbmedbaaGreat
open Go.RowKit
open Go.Lib (hid)
theorem load_row {P : Program} {o : Oper} {a : Act} {Kc : Act → World → Prop} {Q : Exit → Act → World → Prop} {w : World} {b k n : Nat} {cs : List Value} {fs : Array Field} (p : Operand) (t : TypeId)
  (hop : o.op = .load t p) (hp : a.eval p = .pointer (some ⟨b, k, none⟩)) (hi : (P.info? t).map (fun i => i.size) = some n) (hu : P.underlying t = some (.struct fs)) (h : ∀ j v, cs[j]? = some v → w.cell? ⟨b, k + j, none⟩ = some v)
  (hs : cs.length = n) (hk : Kc (a.put o.dst (.agg cs.toArray)) w) : o.wp P a w Kc Q := by
 obtain ⟨i, hi1, hi2⟩ := Option.map_eq_some_iff.1 hi
 have hld := run_loadCells_list (P := P) (w := w) ⟨b, k, none⟩ cs (fun j v hv => by rw [Addr.add_lit]; exact h j v hv)
 have hsz : cs.length = i.size := by omega
 rw [hsz] at hld
 unfold Oper.wp execOp
 have hp0 : (program : Sem Program).run P w = .ok P w := rfl
 simp only [hop, hp, Instr.loadAt, Instr.sureAddr, loadVar, isAgg, run_underlying hu, sizeOf, typeInfo, Sem.run_bind, Sem.run_pure, Result.andThen_ok, hp0, hi1, if_true, hld]
 exact hk
theorem load_rowL {P : Program} {ops : Array Oper} {rest : List Oper} {o : Oper} {a : Act} {Q : Exit → Act → World → Prop} {w : World} {b k n : Nat} {cs : List Value} {fs : Array Field} (hgd : o.guard = none) (p : Operand) (t : TypeId)
  (hop : o.op = .load t p) (hp : a.eval p = .pointer (some ⟨b, k, none⟩)) (hi : (P.info? t).map (fun i => i.size) = some n) (hu : P.underlying t = some (.struct fs)) (h : ∀ j v, cs[j]? = some v → w.cell? ⟨b, k + j, none⟩ = some v)
  (hs : cs.length = n) (hk : wpList P ops Q rest (a.put o.dst (.agg cs.toArray)) w) : wpList P ops Q (o :: rest) a w :=
 wpList_plain hgd fun _ hK => load_row p t hop hp hi hu h hs (hK _ _ hk)
theorem store_row {P : Program} {o : Oper} {a : Act} {Kc : Act → World → Prop} {Q : Exit → Act → World → Prop} {w : World} {b k n : Nat} {cs : List Value} (p v : Operand) (t : TypeId)
  (hop : o.op = .store t p v) (hp : a.eval p = .pointer (some ⟨b, k, none⟩)) (hv : a.eval v = .agg cs.toArray) (hi : (P.info? t).map (fun i => i.size) = some n)
  (hc : ∀ j, j < n → (w.cell? ⟨b, k + j, none⟩).isSome = true) (hf : ∀ j, w.frozen? ⟨b, j, none⟩ = false) (hs : cs.length = n) (hone : ∀ u ∈ cs, u.oneCell' = true)
  (hk : Kc (a.put o.dst undef) (w.setCells b k cs)) : o.wp P a w Kc Q := by
 obtain ⟨i, hi1, hi2⟩ := Option.map_eq_some_iff.1 hi
 have hst := run_storeCells_cells (P := P) b k cs 0 w (fun j hj => by rw [Nat.add_zero]; exact hc j (by omega)) (fun j _ => hf _) hone
 rw [Nat.add_zero] at hst
 have hsz : cs.toArray.size = i.size := by simp; omega
 unfold Oper.wp execOp
 simp only [hop, hp, hv, Instr.storeAt, Instr.sureAddr, storeVar, Value.cells, sizeOf, typeInfo, Sem.run_bind, Sem.run_pure, Result.andThen_ok]
 have hp0 : (program : Sem Program).run P w = .ok P w := rfl
 simp only [hp0, Result.andThen_ok, hi1, Sem.run_pure, ← hsz, ne_eq, not_true, if_false, hst]
 exact hk
theorem store_rowL {P : Program} {ops : Array Oper} {rest : List Oper} {o : Oper} {a : Act} {Q : Exit → Act → World → Prop} {w : World} {b k n : Nat} {cs : List Value} (hgd : o.guard = none) (p v : Operand) (t : TypeId)
  (hop : o.op = .store t p v) (hp : a.eval p = .pointer (some ⟨b, k, none⟩)) (hv : a.eval v = .agg cs.toArray) (hi : (P.info? t).map (fun i => i.size) = some n)
  (hc : ∀ j, j < n → (w.cell? ⟨b, k + j, none⟩).isSome = true) (hf : ∀ j, w.frozen? ⟨b, j, none⟩ = false) (hs : cs.length = n) (hone : ∀ u ∈ cs, u.oneCell' = true)
  (hk : wpList P ops Q rest (a.put o.dst undef) (w.setCells b k cs)) : wpList P ops Q (o :: rest) a w :=
 wpList_plain hgd fun _ hK => store_row p v t hop hp hv hi hc hf hs hone (hK _ _ hk)
section
variable {α : Type} {L : Lay α} {w w' : World} {b off : Nat} {ps : List (α × List Nat)}
def Celled (w : World) (b k n : Nat) (cs : List Value) : Prop := cs.length = n ∧ (∀ j v, cs[j]? = some v → w.cell? ⟨b, k + j, none⟩ = some v) ∧ ∀ u ∈ cs, u.oneCell' = true
theorem RowAt.look (h : RowAt L w b off ps) {i : Nat} {p : α × List Nat} (hp : ps[i]? = some p) : ∃ c, L.rep w c p.1 p.2 ∧ b ∉ p.2 ∧ Celled w b (off + i * L.n) L.n c := by
 have hi := (List.getElem?_eq_some_iff.1 hp).1
 obtain ⟨q, c, hq, hr, hb, hc⟩ := h.at hi
 rw [hp] at hq
 obtain rfl := Option.some.inj hq
 refine ⟨c, hr, hb, L.len hr, fun j v hv => ?_, ?_⟩
 ·rw [hc j (by have := (List.getElem?_eq_some_iff.1 hv).1; have := L.len hr; omega)]; exact hv
 ·intro u hu
  exact Lay.all_one (L := L) (L.all_single hr) u hu
theorem RowAt.isSome (h : RowAt L w b off ps) {i : Nat} (hi : i < ps.length) : ∀ j, j < L.n → (w.cell? ⟨b, off + i * L.n + j, none⟩).isSome = true := fun j hj => by
 obtain ⟨c, hr, -, h1, h2, -⟩ := h.look (List.getElem?_eq_getElem hi)
 rw [h2 j c[j] (List.getElem?_eq_getElem (by omega))]; rfl
theorem Celled.far {k n : Nat} {cs vs : List Value} (h : Celled w b k n cs) (b2 k2 : Nat) (hd : b ≠ b2) : Celled (w.setCells b2 k2 vs) b k n cs :=
 ⟨h.1, fun j v hv => by rw [World.cell?_of_block (setCells_far hd vs k2 w)]; exact h.2.1 j v hv, h.2.2⟩
theorem RowAt.swap (h : RowAt L w b off ps) {i j : Nat} {p q : α × List Nat} (hi : ps[i]? = some p) (hj : ps[j]? = some q) {cp cq : List Value} (rp : L.rep w cp p.1 p.2) (rq : L.rep w cq q.1 q.2) (bp : b ∉ p.2) (bq : b ∉ q.2) :
  RowAt L (w.setCells b (off + i * L.n) cq) b off (ps.set i q) ∧ RowAt L ((w.setCells b (off + i * L.n) cq).setCells b (off + j * L.n) cp) b off ((ps.set i q).set j p) := by
 have h1 := h.put (i := i) (List.getElem?_eq_some_iff.1 hi).1 rq bq
 refine ⟨h1, h1.put (i := j) (by rw [List.length_set]; exact (List.getElem?_eq_some_iff.1 hj).1) (L.keep rp (fun y hy => setCells_far (fun (e : y = b) => bp (e ▸ hy)) _ _ _)) bp⟩
end
end Go.Proofs.YtphmpimgbmedbaaGreat
/- The stable sort of records: swaps, turns, insertions and merges in place. -/
namespace Go.Proofs.YtphmpimgbmedbaaGreat
open Go.RowKit
open Go.Lib (hid)
theorem infoRc : (Tryz.prog.info? 67).map (fun i => i.size) = some 9 := by kernel_rfl
theorem exec_row {P : Program} {ρ : Operand → Value} {o : Oper} {w : World} {b k n : Nat} {cs : List Value} {fs : Array Field} (p : Operand) (t : TypeId) (hop : o.op = .load t p) (hp : ρ p = .pointer (some ⟨b, k, none⟩))
  (hi : (P.info? t).map (fun i => i.size) = some n) (hu : P.underlying t = some (.struct fs)) (h : Celled w b k n cs) : (execOp ρ o).run P w = .ok (.value (.agg cs.toArray)) w := by
 obtain ⟨i, hi1, hi2⟩ := Option.map_eq_some_iff.1 hi
 have hld := run_loadCells_list (P := P) (w := w) ⟨b, k, none⟩ cs (fun j v hv => by rw [Addr.add_lit]; exact h.2.1 j v hv)
 have hsz : cs.length = i.size := by have := h.1; omega
 rw [hsz] at hld
 have hp0 : (program : Sem Program).run P w = .ok P w := rfl
 unfold execOp
 simp only [hop, hp, Instr.loadAt, Instr.sureAddr, loadVar, isAgg, run_underlying hu, sizeOf, typeInfo, Sem.run_bind, Sem.run_pure, Result.andThen_ok, hp0, hi1, if_true, hld]
theorem store_rowS {P : Program} {ops : Array Oper} {o : Oper} {a : Act} {Kc : Act → World → Prop} {Q : Exit → Act → World → Prop} {R : Prop} {w : World} {b k n : Nat} {cs : List Value} (hgd : o.guard = none) (p v : Operand) (t : TypeId)
  (hop : o.op = .store t p v) (hp : a.eval p = .pointer (some ⟨b, k, none⟩)) (hv : a.eval v = .agg cs.toArray) (hi : (P.info? t).map (fun i => i.size) = some n)
  (hc : ∀ j, j < n → (w.cell? ⟨b, k + j, none⟩).isSome = true) (hf : ∀ j, w.frozen? ⟨b, j, none⟩ = false) (hs : cs.length = n) (hone : ∀ u ∈ cs, u.oneCell' = true)
  (hk : Kc (a.put o.dst undef) (w.setCells b k cs)) : if Region.wanted o (yielded ops a.tmps) = true then Oper.wp P o a w Kc Q else R := by
 have hw : Region.wanted o (yielded ops a.tmps) = true := by simp [Region.wanted, hgd]
 rw [if_pos hw]
 exact store_row p v t hop hp hv hi hc hf hs hone hk
abbrev RP := Rec × List Nat
section
variable {w w' : World} {b off : Nat} {ps : List RP}
theorem rec_look (h : RowAt recL w b off ps) {i : Nat} {p : RP} (hp : ps[i]? = some p) : ∃ c : List Value, recL.rep w c p.1 p.2 ∧ b ∉ p.2 ∧ Celled w b (off + i * 9) 9 c := h.look hp
theorem rec_swap (h : RowAt recL w b off ps) {i j : Nat} {p q : RP} (hi : ps[i]? = some p) (hj : ps[j]? = some q) {cp cq : List Value} (rp : recL.rep w cp p.1 p.2) (rq : recL.rep w cq q.1 q.2) (bp : b ∉ p.2) (bq : b ∉ q.2) :
  RowAt recL (w.setCells b (off + i * 9) cq) b off (ps.set i q) ∧ RowAt recL ((w.setCells b (off + i * 9) cq).setCells b (off + j * 9) cp) b off ((ps.set i q).set j p) := h.swap hi hj rp rq bp bq
theorem rec_some (h : RowAt recL w b off ps) {i : Nat} (hi : i < ps.length) : ∀ j, j < 9 → (w.cell? ⟨b, off + i * 9 + j, none⟩).isSome = true := h.isSome hi
theorem row_ind (h : RowAt recL w b off ps) : RowAt recL w.drew b off ps := h.ext (Chg.refl [] w).drew
theorem chg_sw {W0 : World} {k1 k2 : Nat} {c1 c2 : List Value} (h : Chg [b] W0 w) : Chg [b] W0 ((w.drew.setCells b k1 c1).setCells b k2 c2) := Chg.setCells (.inl (by simp)) _ _ (Chg.setCells (.inl (by simp)) _ _ h.drew)
end
set_option maxRecDepth 100000 in
set_option maxHeartbeats 2000000 in
theorem swapR_any (b off n cap A B k : Nat) (ps : List RP) (fv : Value) (w : World) (hr : RowAt recL w b off ps) (hn : n = ps.length) (hm : n ≤ 1000000) (hab : A + k ≤ B) (hb : B + k ≤ n) :
  Calls Tryz.prog 298 #[.slice (some ⟨b, off, none⟩) n cap, .int .i64 A, .int .i64 B, .int .i64 k, fv] w fun e w' => e = .returned (.tuple #[]) ∧ ∃ ps', RowAt recL w' b off ps' ∧ SwR ps ps' A B k ∧ Chg [b] w w' := by
 have HR := hid hr; have HN := hid hn
 clear hr hn
 go_enter Tryz.func298, Tryz.ntmps298
 go_wp2_with fail
 go_loopw [10] (fun vi wr => ∃ (i : Nat) (ps' : List RP) (Wr : World), Wr = wr ∧ i ≤ k ∧ vi = .int .i64 i ∧ RowAt recL wr b off ps' ∧ Hid (SwR ps ps' A B i) ∧ Chg [b] w wr) (fun vi _ => k - (intOf vi).toNat)
 case atStart => exact ⟨0, ps, _, rfl, by omega, rfl, HR.out, SwR.zero _ _ _, Chg.refl _ _⟩
 case round =>
  obtain ⟨i, ps', wr, rfl, hi, rfl, hrow, HSR, hch⟩ := hrel
  have HCH := hid hch
  by_cases hlt : i < k
  ·have hpl : ps'.length = n := by rw [HSR.out.1]; exact HN.out.symm
   obtain ⟨p, hp⟩ : ∃ p, ps'[A + i]? = some p := ⟨_, List.getElem?_eq_getElem (by omega)⟩
   obtain ⟨q, hq⟩ : ∃ q, ps'[B + i]? = some q := ⟨_, List.getElem?_eq_getElem (by omega)⟩
   have hrd := row_ind hrow
   obtain ⟨x, hx⟩ : ∃ x, x = A + i := ⟨_, rfl⟩
   obtain ⟨y, hy⟩ : ∃ y, y = B + i := ⟨_, rfl⟩
   have hwx : IntKind.i64.wrap ((A : Int) + (i : Int)) = (x : Int) := by rw [IntWalk.i64_in _ ⟨by omega, by omega⟩]; omega
   have hwy : IntKind.i64.wrap ((B : Int) + (i : Int)) = (y : Int) := by rw [IntWalk.i64_in _ ⟨by omega, by omega⟩]; omega
   have h1 : x < n := by omega
   have h2 : y < n := by omega
   rw [← hx] at hp; rw [← hy] at hq
   have HXY := hid (And.intro hx hy)
   clear hch hrow hx hy
   go_wp2_with fail
   obtain ⟨cp, rp, bp, kp⟩ := rec_look hrd hp
   obtain ⟨cq, rq, bq, kq⟩ := rec_look hrd hq
   have HSW := hid (rec_swap hrd hp hq rp rq bp bq)
   have HRD := hid hrd; have HPQ := hid (And.intro hp hq); have HKP := hid kp; have HKQ := hid kq
   clear rp rq bp bq kp kq hp hq hrd
   obtain ⟨CC, HCI, HCO⟩ := rg_cond (fun w' => Celled w' b (off + (x) * 9) 9 cp ∧ Celled w' b (off + (y) * 9) 9 cq)
   refine gg_start [21, 23] CC (by kernel_rfl) (HCI.out _ ⟨HKP.out, HKQ.out⟩) (fun hcl hS => ?_)
   refine ggT 0 hcl hS ?_; clear hcl hS; intro hcl hS
   refine ggT 1 hcl hS ?_; clear hcl hS; intro hcl hS
   refine ggT 2 hcl hS ?_; clear hcl hS; intro hcl hS
   refine ggT 3 hcl hS ?_; clear hcl hS; intro hcl hS
   refine ggT 4 hcl hS ?_; clear hcl hS; intro hcl hS
   refine ggT 5 hcl hS ?_; clear hcl hS; intro hcl hS
   refine ggT 6 hcl hS ?_; clear hcl hS; intro hcl hS
   refine ggT 7 hcl hS ?_; clear hcl hS; intro hcl hS
   refine ggT 8 hcl hS ?_; clear hcl hS; intro hcl hS
   refine ggT 9 hcl hS ?_; clear hcl hS; intro hcl hS
   refine ggT 10 hcl hS ?_; clear hcl hS; intro hcl hS
   refine ggT 11 hcl hS ?_; clear hcl hS; intro hcl hS
   refine ggT 12 hcl hS ?_; clear hcl hS; intro hcl hS
   refine ggL 13 hcl hS HCO ?_ (hy := fun w' hw => exec_row _ 67 rfl rfl infoRc Tryz.underlying67 hw.2); clear hcl hS; intro hcl hS
   refine ggT 14 hcl hS ?_; clear hcl hS; intro hcl hS
   refine ggT 15 hcl hS ?_; clear hcl hS; intro hcl hS
   refine ggT 16 hcl hS ?_; clear hcl hS; intro hcl hS
   refine ggT 17 hcl hS ?_; clear hcl hS; intro hcl hS
   refine ggT 18 hcl hS ?_; clear hcl hS; intro hcl hS
   refine ggL 19 hcl hS HCO ?_ (hy := fun w' hw => exec_row _ 67 rfl rfl infoRc Tryz.underlying67 hw.1); clear hcl hS; intro hcl hS
   refine ggT 20 hcl hS ?_; clear hcl hS; intro hcl hS
   refine ggC 21 hcl rfl (by kernel_rfl) (fun K hK => ?_)
   refine store_rowS (cs := cq) rfl _ _ 67 rfl rfl rfl infoRc (rec_some HRD.out (i := x) (by first | omega | (rw [List.length_set]; omega))) (RowAt.free HRD.out) HKQ.out.1 HKQ.out.2.2 ?_
   refine hK.out _ _ (Till.done (m := 21) (by simp) (by rfl)) ?_
   clear hK K hcl hS
   intro hcl hS
   try simp only [Act.put]
   refine ggT 22 hcl hS ?_; clear hcl hS; intro hcl hS
   refine ggC 23 hcl rfl (by kernel_rfl) (fun K hK => ?_)
   refine store_rowS (cs := cp) rfl _ _ 67 rfl rfl rfl infoRc (rec_some HSW.out.1 (i := y) (by first | omega | (rw [List.length_set]; omega))) (RowAt.free HSW.out.1) HKP.out.1 HKP.out.2.2 ?_
   refine hK.out _ _ (Till.done (m := 21) (by simp) (by rfl)) ?_
   clear hK K hcl hS
   intro hcl hS
   try simp only [Act.put]
   refine ggEnd (by kernel_rfl) ?_ _
   go_wp2_with fail
   go_roundw
   case rel => exact ⟨i + 1, _, _, rfl, by omega, by go_num, HSW.out.2, by obtain ⟨rfl, rfl⟩ := HXY.out; exact HSR.out.next (by omega) HPQ.out.1 HPQ.out.2, chg_sw HCH.out⟩
   case measure => simp [intOf]; omega
  ·obtain rfl : i = k := by omega
   have HRW := hid hrow
   clear hch hrow
   go_wp2_with fail
   go_end0
   exact ⟨rfl, ps', HRW.out, HSR.out, HCH.out⟩
set_option maxRecDepth 100000 in
set_option maxHeartbeats 2000000 in
theorem rotR_any (b off n cap A m B : Nat) (X U V Y : List RP) (fv : Value) (w : World) (hr : RowAt recL w b off (X ++ (U ++ (V ++ Y)))) (hn : n = (X ++ (U ++ (V ++ Y))).length) (hm : n ≤ 1000000) (hX : X.length = A) (hU : A + U.length = m) (hV : m + V.length = B) (hU1 : A < m) (hV1 : m < B) :
  Calls Tryz.prog 292 #[.slice (some ⟨b, off, none⟩) n cap, .int .i64 A, .int .i64 m, .int .i64 B, fv] w fun e w' => e = .returned (.tuple #[]) ∧ RowAt recL w' b off (X ++ (V ++ (U ++ Y))) ∧ Chg [b] w w' := by
 have hBn : B ≤ n := by rw [hn]; simp only [List.length_append]; omega
 have HR := hid (show RotR m (X ++ (V ++ (U ++ Y))) (X ++ (U ++ (V ++ Y))) (m - A) (B - m) from ⟨X, U, V, Y, rfl, by omega, by omega, by omega, rfl⟩)
 have hgl : (X ++ (V ++ (U ++ Y))).length = n := by rw [hn]; simp only [List.length_append]; omega
 generalize X ++ (V ++ (U ++ Y)) = G at HR hgl ⊢
 generalize X ++ (U ++ (V ++ Y)) = ps at hr hn HR
 have HRW0 := hid hr; have HN := hid hn; have HG := hid hgl
 clear hr hn hX hU hV hgl
 obtain ⟨i0, hi0⟩ : ∃ i0, i0 = m - A := ⟨_, rfl⟩
 obtain ⟨j0, hj0⟩ : ∃ j0, j0 = B - m := ⟨_, rfl⟩
 rw [← hi0, ← hj0] at HR
 have hz1 : (m : Int) - (A : Int) = (i0 : Int) := by omega
 have hz2 : (B : Int) - (m : Int) = (j0 : Int) := by omega
 have hb1 : 1 ≤ i0 ∧ 1 ≤ j0 ∧ i0 ≤ m ∧ m + j0 ≤ n := by omega
 have HB1 := hid hb1
 clear hi0 hj0 hb1
 go_enter Tryz.func292, Tryz.ntmps292
 go_wp2_with fail
 go_loopw [10, 11] (fun vi vj wr => ∃ (i j : Nat) (ps' : List RP) (Wr : World), Wr = wr ∧ 1 ≤ i ∧ 1 ≤ j ∧ i ≤ m ∧ m + j ≤ n ∧ vi = .int .i64 i ∧ vj = .int .i64 j ∧ ps'.length = n ∧ RowAt recL wr b off ps' ∧ Hid (RotR m G ps' i j) ∧ Chg [b] w wr) (fun vi vj _ => (intOf vi).toNat + (intOf vj).toNat)
 case atStart =>
  have := HB1.out
  exact ⟨i0, j0, ps, _, rfl, by omega, by omega, by omega, by omega, by go_num, by go_num, HN.out.symm, HRW0.out, HR, Chg.refl _ _⟩
 case round =>
  obtain ⟨i, j, ps', wr, rfl, hi1, hj1, him, hjn, rfl, rfl, hpl, hrow, HRT, hch⟩ := hrel
  have HCH := hid hch; have HRW := hid hrow
  obtain ⟨x, hx⟩ : ∃ x, x = m - i := ⟨_, rfl⟩
  have hwx : (m : Int) - (i : Int) = (x : Int) := by omega
  have HX := hid hx
  clear hch hrow
  rcases Nat.lt_trichotomy j i with hji | hji | hji
  ·have HS := hid (swapR_any b off n cap x m j ps' fv wr HRW.out hpl.symm hm (by omega) (by omega))
   have hne : ((i : Int) != (j : Int)) = true := by rw [bne_iff_ne]; omega
   have hgt : (j : Int) < (i : Int) := by omega
   have hd : (i : Int) - (j : Int) = ((i - j : Nat) : Int) := by omega
   clear hx
   go_wp2_with fail
   refine HS.out.mono ?_
   rintro e w2 ⟨rfl, ps2, hr2, hs2, hc2⟩
   have HN1 := hid (HRT.out.left hji (by rw [← HX.out]; exact hs2)); have HL2 := hid (hs2.1.trans hpl); have HR2 := hid hr2; have HC2 := hid (HCH.out.trans hc2 (fun y hy => .inl hy))
   clear hr2 hs2 hc2
   go_wp2_with fail
   go_roundw
   case rel => exact ⟨i - j, j, ps2, _, rfl, by omega, by omega, by omega, by omega, by go_num, rfl, HL2.out, HR2.out, HN1, HC2.out⟩
   case measure => simp [intOf]; omega
  ·subst hji
   have HS := hid (swapR_any b off n cap x m j ps' fv wr HRW.out hpl.symm hm (by omega) (by omega))
   have hne : ((j : Int) != (j : Int)) = false := by simp
   clear hx
   go_wp2_with fail
   refine HS.out.mono ?_
   rintro e w2 ⟨rfl, ps2, hr2, hs2, hc2⟩
   have e2 := HRT.out.last (by rw [← HX.out]; exact hs2)
   have HR2 := hid hr2; have HC2 := hid (HCH.out.trans hc2 (fun y hy => .inl hy)); have HE2 := hid e2
   clear hr2 hs2 hc2 e2
   go_wp2_with fail
   go_end0
   exact ⟨rfl, by rw [← HE2.out]; exact HR2.out, HC2.out⟩
  ·obtain ⟨y, hy⟩ : ∃ y, y = m + j - i := ⟨_, rfl⟩
   have hwy : (m : Int) + (j : Int) - (i : Int) = (y : Int) := by omega
   have HS := hid (swapR_any b off n cap x y i ps' fv wr HRW.out hpl.symm hm (by omega) (by omega))
   have hne : ((i : Int) != (j : Int)) = true := by rw [bne_iff_ne]; omega
   have hgt : ¬ (j : Int) < (i : Int) := by omega
   have hd : (j : Int) - (i : Int) = ((j - i : Nat) : Int) := by omega
   have HY := hid hy
   clear hx hy
   go_wp2_with fail
   refine HS.out.mono ?_
   rintro e w2 ⟨rfl, ps2, hr2, hs2, hc2⟩
   have HN1 := hid (HRT.out.right hji (by rw [← HX.out, ← HY.out]; exact hs2)); have HL2 := hid (hs2.1.trans hpl); have HR2 := hid hr2; have HC2 := hid (HCH.out.trans hc2 (fun y hy => .inl hy))
   clear hr2 hs2 hc2
   go_wp2_with fail
   go_roundw
   case rel => exact ⟨i, j - i, ps2, _, rfl, by omega, by omega, by omega, by omega, rfl, by go_num, HL2.out, HR2.out, HN1, HC2.out⟩
   case measure => simp [intOf]; omega
def recLt (x y : Rec) : Bool := decide (x.seq < y.seq ∨ x.seq = y.seq ∧ (x.kind < y.kind ∨ x.kind = y.kind ∧ x.group < y.group))
def ltP (p q : RP) : Bool := recLt p.1 q.1
theorem ltP_ordr : Ordr ltP := by
 refine ⟨fun x => ?_, fun x y z h k => ?_, fun x y z h k => ?_⟩ <;> simp only [ltP, recLt, decide_eq_true_eq, decide_eq_false_iff_not] at * <;> omega
def CmpOK : Prop := ∀ (w : World) (cx cy : List Value) (x y : Rec) (fx fy : List Nat), recL.rep w cx x fx → recL.rep w cy y fy → Calls Tryz.prog 170 #[.agg cx.toArray, .agg cy.toArray] w fun e w' => ∃ r : Int, e = .returned (.int .i64 r) ∧ Hid (decide (r < 0) = recLt x y) ∧ Chg [] w w'
theorem cmp_r {p q : RP} {r : Int} {v : Bool} (hl : ltP p q = v) (h : Hid (decide (r < 0) = recLt p.1 q.1)) : decide (r < 0) = v := h.out.trans hl
theorem Celled.ext {w w' : World} {b k n : Nat} {cs : List Value} (h : Celled w b k n cs) (hc : Chg [] w w') (hb : b < w.heap.size) : Celled w' b k n cs := ⟨h.1, fun j v hv => (hc.facts.1 b _ hb).trans (h.2.1 j v hv), h.2.2⟩
theorem thru_full {X S Y : List RP} {x : RP} {k : Nat} (hk : k = S.length) : thru X S Y x k = X ++ (S ++ (x :: Y)) := by
 subst hk
 unfold thru
 rw [List.take_length, List.drop_length]; rfl
theorem ins_end {X S Y Z0 : List RP} {x : RP} {k : Nat} (hs : Srt ltP S) (hb : Stab ltP Z0 S) (h1 : ∀ y ∈ S.drop k, ltP x y = true) (h2 : ∀ y ∈ S.take k, ltP x y = false) : ∃ S', thru X S Y x k = X ++ (S' ++ Y) ∧ Srt ltP S' ∧ Stab ltP (Z0 ++ [x]) S' :=
 ⟨S.take k ++ (x :: S.drop k), by unfold thru; simp, ins_srt ltP_ordr hs h1 h2, (hb.app (Stab.refl [x])).trans (ins_stab ltP_ordr h1)⟩
theorem ins_stop {S : List RP} {x : RP} {k : Nat} (hs : Srt ltP S) (hk : k < S.length) (h : ltP x S[k] = false) : ∀ y ∈ S.take (k + 1), ltP x y = false := fun y hy => by
 obtain ⟨i, hi, rfl⟩ := List.getElem_of_mem hy
 rw [List.length_take] at hi
 rw [List.getElem_take]
 exact ltP_ordr.le_trans (Srt.at ltP_ordr hs (show i ≤ k by omega) (List.getElem?_eq_getElem (by omega)) (List.getElem?_eq_getElem hk)) h
theorem ins_go {S : List RP} {x : RP} {k : Nat} (hk : k < S.length) (h : ∀ y ∈ S.drop (k + 1), ltP x y = true) (h2 : ltP x S[k] = true) : ∀ y ∈ S.drop k, ltP x y = true := fun y hy => by
 rw [List.drop_eq_getElem_cons hk] at hy
 rcases List.mem_cons.1 hy with rfl | hy
 ·exact h2
 ·exact h y hy
set_option maxRecDepth 100000 in
set_option maxHeartbeats 4000000 in
theorem insR_any (b off n cap A B : Nat) (X Z Y : List RP) (w : World) (HCMP : Hid CmpOK) (hr : RowAt recL w b off (X ++ (Z ++ Y))) (hn : n = (X ++ (Z ++ Y)).length) (hm : n ≤ 1000000) (hX : X.length = A) (hZ : A + Z.length = B) :
  Calls Tryz.prog 271 #[.slice (some ⟨b, off, none⟩) n cap, .int .i64 A, .int .i64 B, .func (.func 170) #[] #[]] w fun e w' => e = .returned (.tuple #[]) ∧ ∃ S, RowAt recL w' b off (X ++ (S ++ Y)) ∧ Srt ltP S ∧ Stab ltP Z S ∧ Chg [b] w w' := by
 have hBn : B ≤ n := by rw [hn]; simp only [List.length_append]; omega
 have hLN : n = A + (Z.length + Y.length) := by rw [hn]; simp only [List.length_append]; omega
 have hAn : A ≤ n := by omega
 have HR := hid hr; have HX := hid hX; have HLN := hid hLN; have HZ := hid hZ
 clear hr hn hLN
 by_cases hz : Z.length = 0
 ·have hlt : ¬ (A : Int) + 1 < (B : Int) := by omega
  have HE := hid (List.eq_nil_of_length_eq_zero hz)
  clear hX hZ hz
  go_enter Tryz.func271, Tryz.ntmps271
  go_wp2_with fail
  go_loopw [8] (fun vi wr => vi = .int .i64 ((A : Int) + 1) ∧ wr = w) (fun _ _ => 0)
  case atStart => exact ⟨by go_num, rfl⟩
  case round =>
  obtain ⟨rfl, rfl⟩ := hrel
  go_wp2_with fail
  go_end0
  exact ⟨rfl, [], by rw [← HE.out]; exact HR.out, List.Pairwise.nil, by rw [HE.out]; exact Stab.refl _, Chg.refl _ _⟩
 ·have hAB : A + 1 ≤ B := by omega
  clear hX hZ hz
  go_enter Tryz.func271, Tryz.ntmps271
  go_wp2_with fail
  go_loopw [8] (fun vi wr => ∃ (i : Nat) (S : List RP) (Wr : World), Wr = wr ∧ A + 1 ≤ i ∧ i ≤ B ∧ vi = .int .i64 i ∧ RowAt recL wr b off (X ++ (S ++ (Z.drop (i - A) ++ Y))) ∧ Hid (Srt ltP S ∧ Stab ltP (Z.take (i - A)) S) ∧ Chg [b] w wr) (fun vi _ => B - (intOf vi).toNat)
  case atStart =>
   refine ⟨A + 1, Z.take 1, _, rfl, by omega, by omega, by go_num, ?_, ⟨?_, ?_⟩, Chg.refl _ _⟩
   ·rw [Nat.add_sub_cancel_left, ← List.append_assoc (Z.take 1), List.take_append_drop]; exact HR.out
   ·cases Z with
    | nil => exact List.Pairwise.nil
    | cons z Z => simp; exact List.pairwise_singleton _ _
   ·rw [Nat.add_sub_cancel_left]; exact Stab.refl _
  case round =>
   obtain ⟨i, S, wr, rfl, hi1, hi2, rfl, hrow, HSS, hch⟩ := hrel
   have HCH := hid hch
   by_cases hlt : i < B
   ·have hzl : i - A < Z.length := by have := HZ.out; omega
    obtain ⟨x, hx⟩ : ∃ x, x = Z[i - A] := ⟨_, rfl⟩
    obtain ⟨Y', hY'⟩ : ∃ Y', Y' = Z.drop (i - A + 1) ++ Y := ⟨_, rfl⟩
    have hsl : S.length = i - A := by have := HSS.out.2.1; rw [List.length_take] at this; omega
    have e0 : Z.drop (i - A) ++ Y = x :: Y' := by rw [List.drop_eq_getElem_cons hzl, hx, hY']; rfl
    rw [e0, ← thru_full (Y := Y') hsl.symm] at hrow
    have HRW := hid hrow; have HSL := hid hsl; have HY' := hid hY'
    have HXE := hid (show Z[i - A]? = some x by rw [List.getElem?_eq_getElem hzl, hx])
    have hpn : A + (i - A) + 1 + Y'.length = n := by have := HLN.out; rw [hY', List.length_append, List.length_drop]; omega
    have HPN := hid hpn
    clear hch hrow hx hY' hsl e0 hzl hpn
    go_wp2_with fail
    go_loopw [9] (fun vj wq => ∃ (j : Nat) (Wq : World), Wq = wq ∧ A ≤ j ∧ j ≤ i ∧ vj = .int .i64 j ∧ RowAt recL wq b off (thru X S Y' x (j - A)) ∧ Hid (∀ y ∈ S.drop (j - A), ltP x y = true) ∧ Chg [b] w wq) (fun vj _ => (intOf vj).toNat)
    case atStart => exact ⟨i, _, rfl, by omega, by omega, rfl, HRW.out, hid (show ∀ y ∈ S.drop (i - A), ltP x y = true from fun y hy => by rw [List.drop_eq_nil_of_le (by have := HSL.out; omega)] at hy; cases hy), HCH.out⟩
    case round =>
     clear HCH HRW
     obtain ⟨j, wq, rfl, hj1, hj2, rfl, hrow, HDR, hch⟩ := hrel
     have HCH := hid hch
     have hln : (thru X S Y' x (j - A)).length = n := by rw [thru_len, HX.out, HSL.out]; exact HPN.out
     by_cases hja : A < j
     ·have hjk : j - A - 1 < S.length := by have := HSL.out; omega
      have hk : j - A = (j - A - 1) + 1 := by omega
      obtain ⟨q, hqe⟩ : ∃ q, q = S[j - A - 1] := ⟨_, rfl⟩
      have hp : (thru X S Y' x (j - A))[j]? = some x := by
       have := thru_at (A := X) (S := S) (B := Y') (x := x) (k := j - A) (by have := HSL.out; omega)
       rwa [HX.out, show A + (j - A) = j by omega] at this
      have hq : (thru X S Y' x (j - A))[j - 1]? = some q := by
       have := thru_prev (A := X) (B := Y') (x := x) hjk
       rw [← hk, HX.out, show A + (j - A - 1) = j - 1 by omega] at this
       rw [this, hqe]
      have hrd := row_ind hrow
      have HROW := hid hrow
      have hgt : (A : Int) < (j : Int) := by omega
      obtain ⟨y, hy⟩ : ∃ y, y = j - 1 := ⟨_, rfl⟩
      have hwy : IntKind.i64.wrap ((j : Int) - 1) = (y : Int) := by rw [IntWalk.i64_in _ ⟨by omega, by omega⟩]; omega
      have h1 : j < n := by omega
      have h2 : y < n := by omega
      rw [← hy] at hq
      have HY := hid hy; have HQE := hid (show S[j - A - 1]? = some q by rw [List.getElem?_eq_getElem hjk, hqe]); have HK0 := hid hk
      clear hch hrow hy hqe hk
      cases hl : ltP x q
      ·have HNL := hid hl
       go_wp2_with fail
       obtain ⟨c1, r1, -, k1⟩ := rec_look hrd hp
       obtain ⟨c2, r2, -, k2⟩ := rec_look hrd hq
       have HK := hid (And.intro k1 k2); have HRD := hid hrd; have HPQ := hid (And.intro hp hq); have HRC := hid (HCMP.out _ _ _ _ _ _ _ r1 r2)
       clear r1 r2 k1 k2 hp hq hrd
       obtain ⟨SS, HSI, HSO⟩ := rg_cond (fun w' => Celled w' b (off + (j) * 9) 9 c1 ∧ Celled w' b (off + (y) * 9) 9 c2)
       have hS0 := HSI.out _ HK.out
       refine rg_start SS (by kernel_rfl) hS0 ?_
       refine rgT 0 hS0 ?_
       refine rgT 1 hS0 ?_
       refine rgT 2 hS0 ?_
       refine rgT 3 hS0 ?_
       refine rgT 4 hS0 ?_
       refine rgT 5 hS0 ?_
       refine rgT 6 hS0 ?_
       refine rgT 7 hS0 ?_
       refine rgL 8 hS0 HSO ?_ (hy := fun w' hw => exec_row _ 67 rfl rfl infoRc Tryz.underlying67 hw.1)
       refine rgT 9 hS0 ?_
       refine rgT 10 hS0 ?_
       refine rgT 11 hS0 ?_
       refine rgT 12 hS0 ?_
       refine rgL 13 hS0 HSO ?_ (hy := fun w' hw => exec_row _ 67 rfl rfl infoRc Tryz.underlying67 hw.2)
       refine rg_call 14 rfl (by kernel_rfl) (fun K hK => ?_)
       go_simp
       go_at_call 170
       refine HRC.out.mono ?_
       rintro e w1 ⟨r, rfl, hrr, hc1⟩
       have hr0 := cmp_r hl hrr
       have HR1 := hid (HRD.out.ext hc1); have HC1 := hid (HCH.out.drew.trans0 hc1); have HK1 := hid (And.intro (HK.out.1.ext hc1 HRD.out.lt) (HK.out.2.ext hc1 HRD.out.lt))
       clear hc1 hrr
       go_wp2_with fail
       refine hK.out _ _ (HSI.out _ HK1.out) (fun hS1 => ?_)
       clear hK K
       try simp only [Act.put, List.setIfInBounds_toArray, List.set_cons_zero, List.set_cons_succ]
       refine rgT 15 hS1 ?_
       refine rgT 16 hS1 ?_
       refine wpAnyH_done (by kernel_rfl) ?_ _
       go_wp2_with fail
       have hend := ins_end (X := X) (Y := Y') (k := j - A) HSS.out.1 HSS.out.2 HDR.out (by
        have e := (List.getElem?_eq_some_iff.1 HQE.out).2
        have := ins_stop HSS.out.1 hjk (x := x) (by rw [e]; exact HNL.out)
        rwa [← HK0.out] at this)
       obtain ⟨S', e1, s1, b1⟩ := hend
       have hrow2 := HR1.out
       rw [e1, HY'.out] at hrow2
       rw [← take_next HXE.out, show i - A + 1 = i + 1 - A by omega] at b1
       rw [show i - A + 1 = i + 1 - A by omega] at hrow2
       have HRW2 := hid hrow2; have HSS2 := hid (And.intro s1 b1)
       clear e1 s1 b1 hrow2
       go_wp2_with fail
       go_roundw
       case rel => exact ⟨i + 1, S', _, rfl, by omega, by omega, by go_num, HRW2.out, HSS2, HC1.out⟩
       case measure => simp [intOf]; omega
      ·have HL1 := hid hl
       go_wp2_with fail
       obtain ⟨c1, r1, -, k1⟩ := rec_look hrd hp
       obtain ⟨c2, r2, -, k2⟩ := rec_look hrd hq
       have HK := hid (And.intro k1 k2); have HRD := hid hrd; have HPQ := hid (And.intro hp hq); have HRC := hid (HCMP.out _ _ _ _ _ _ _ r1 r2)
       clear r1 r2 k1 k2 hp hq hrd
       obtain ⟨SS, HSI, HSO⟩ := rg_cond (fun w' => Celled w' b (off + (j) * 9) 9 c1 ∧ Celled w' b (off + (y) * 9) 9 c2)
       have hS0 := HSI.out _ HK.out
       refine rg_start SS (by kernel_rfl) hS0 ?_
       refine rgT 0 hS0 ?_
       refine rgT 1 hS0 ?_
       refine rgT 2 hS0 ?_
       refine rgT 3 hS0 ?_
       refine rgT 4 hS0 ?_
       refine rgT 5 hS0 ?_
       refine rgT 6 hS0 ?_
       refine rgT 7 hS0 ?_
       refine rgL 8 hS0 HSO ?_ (hy := fun w' hw => exec_row _ 67 rfl rfl infoRc Tryz.underlying67 hw.1)
       refine rgT 9 hS0 ?_
       refine rgT 10 hS0 ?_
       refine rgT 11 hS0 ?_
       refine rgT 12 hS0 ?_
       refine rgL 13 hS0 HSO ?_ (hy := fun w' hw => exec_row _ 67 rfl rfl infoRc Tryz.underlying67 hw.2)
       refine rg_call 14 rfl (by kernel_rfl) (fun K hK => ?_)
       go_simp
       go_at_call 170
       refine HRC.out.mono ?_
       rintro e w1 ⟨r, rfl, hrr, hc1⟩
       have hr0 := cmp_r hl hrr
       have HR1 := hid (HRD.out.ext hc1); have HC1 := hid (HCH.out.drew.trans0 hc1); have HK1 := hid (And.intro (HK.out.1.ext hc1 HRD.out.lt) (HK.out.2.ext hc1 HRD.out.lt))
       clear hc1 hrr
       go_wp2_with fail
       refine hK.out _ _ (HSI.out _ HK1.out) (fun hS1 => ?_)
       clear hK K
       try simp only [Act.put, List.setIfInBounds_toArray, List.set_cons_zero, List.set_cons_succ]
       refine rgT 15 hS1 ?_
       refine rgT 16 hS1 ?_
       refine wpAnyH_done (by kernel_rfl) ?_ _
       go_wp2_with fail
       have hp := HPQ.out.1; have hq := HPQ.out.2
       have hrd := row_ind HR1.out
       clear HRD HK HPQ HRC HK1 HROW HCH
       have HCH := HC1
       obtain ⟨cp, rp, bp, kp⟩ := rec_look hrd hp
       obtain ⟨cq, rq, bq, kq⟩ := rec_look hrd hq
       have HSW := hid (rec_swap hrd hp hq rp rq bp bq)
       have HRD := hid hrd; have HPQ := hid (And.intro hp hq); have HKP := hid kp; have HKQ := hid kq
       clear rp rq bp bq kp kq hp hq hrd
       obtain ⟨CC, HCI, HCO⟩ := rg_cond (fun w' => Celled w' b (off + (j) * 9) 9 cp ∧ Celled w' b (off + (y) * 9) 9 cq)
       refine gg_start [15, 17] CC (by kernel_rfl) (HCI.out _ ⟨HKP.out, HKQ.out⟩) (fun hcl hS => ?_)
       refine ggT 0 hcl hS ?_; clear hcl hS; intro hcl hS
       refine ggT 1 hcl hS ?_; clear hcl hS; intro hcl hS
       refine ggT 2 hcl hS ?_; clear hcl hS; intro hcl hS
       refine ggT 3 hcl hS ?_; clear hcl hS; intro hcl hS
       refine ggT 4 hcl hS ?_; clear hcl hS; intro hcl hS
       refine ggT 5 hcl hS ?_; clear hcl hS; intro hcl hS
       refine ggT 6 hcl hS ?_; clear hcl hS; intro hcl hS
       refine ggT 7 hcl hS ?_; clear hcl hS; intro hcl hS
       refine ggT 8 hcl hS ?_; clear hcl hS; intro hcl hS
       refine ggL 9 hcl hS HCO ?_ (hy := fun w' hw => exec_row _ 67 rfl rfl infoRc Tryz.underlying67 hw.2); clear hcl hS; intro hcl hS
       refine ggT 10 hcl hS ?_; clear hcl hS; intro hcl hS
       refine ggT 11 hcl hS ?_; clear hcl hS; intro hcl hS
       refine ggT 12 hcl hS ?_; clear hcl hS; intro hcl hS
       refine ggL 13 hcl hS HCO ?_ (hy := fun w' hw => exec_row _ 67 rfl rfl infoRc Tryz.underlying67 hw.1); clear hcl hS; intro hcl hS
       refine ggT 14 hcl hS ?_; clear hcl hS; intro hcl hS
       refine ggC 15 hcl rfl (by kernel_rfl) (fun K hK => ?_)
       refine store_rowS (cs := cq) rfl _ _ 67 rfl rfl rfl infoRc (rec_some HRD.out (i := j) (by first | omega | (rw [List.length_set]; omega))) (RowAt.free HRD.out) HKQ.out.1 HKQ.out.2.2 ?_
       refine hK.out _ _ (Till.done (m := 15) (by simp) (by rfl)) ?_
       clear hK K hcl hS
       intro hcl hS
       try simp only [Act.put]
       refine ggT 16 hcl hS ?_; clear hcl hS; intro hcl hS
       refine ggC 17 hcl rfl (by kernel_rfl) (fun K hK => ?_)
       refine store_rowS (cs := cp) rfl _ _ 67 rfl rfl rfl infoRc (rec_some HSW.out.1 (i := y) (by first | omega | (rw [List.length_set]; omega))) (RowAt.free HSW.out.1) HKP.out.1 HKP.out.2.2 ?_
       refine hK.out _ _ (Till.done (m := 15) (by simp) (by rfl)) ?_
       clear hK K hcl hS
       intro hcl hS
       try simp only [Act.put]
       refine ggEnd (by kernel_rfl) ?_ _
       go_wp2_with fail
       have e := (List.getElem?_eq_some_iff.1 HQE.out).2
       have hrow3 := HSW.out.2
       have hdn := thru_down (A := X) (B := Y') (x := x) hjk
       rw [← HK0.out, HX.out, e, show A + (j - A - 1) + 1 = j by omega, show A + (j - A - 1) = y by have := HY.out; omega] at hdn
       rw [hdn, show j - A - 1 = y - A by have := HY.out; omega] at hrow3
       have HRW3 := hid hrow3; have HCC := hid (chg_sw (k1 := off + j * 9) (k2 := off + y * 9) (c1 := cq) (c2 := cp) HCH.out)
       have HDR3 := hid (show ∀ z ∈ S.drop (y - A), ltP x z = true by
        have := ins_go hjk (x := x) (by rw [← HK0.out]; exact HDR.out) (by rw [e]; exact HL1.out)
        rwa [show j - A - 1 = y - A by have := HY.out; omega] at this)
       have hyy := HY.out
       clear hrow3 hdn e
       go_roundw
       case rel => exact ⟨y, _, rfl, by omega, by omega, by go_num, HRW3.out, HDR3, HCC.out⟩
       case measure => simp [intOf]; omega
     ·have hle : ¬ (A : Int) < (j : Int) := by omega
      obtain rfl : j = A := by omega
      have HROW := hid hrow
      clear hch hrow
      go_wp2_with fail
      obtain ⟨SS, HSI, HSO⟩ := rg_cond (fun _ : World => True)
      have hS0 := HSI.out wq.drew trivial
      refine rg_start SS (by kernel_rfl) hS0 ?_
      refine rgT 0 hS0 ?_
      refine rgT 1 hS0 ?_
      refine rgT 2 hS0 ?_
      refine rgT 3 hS0 ?_
      refine rgS 4 hS0 ?_
      refine rgS 5 hS0 ?_
      refine rgS 6 hS0 ?_
      refine rgS 7 hS0 ?_
      refine rgS 8 hS0 ?_
      refine rgS 9 hS0 ?_
      refine rgS 10 hS0 ?_
      refine rgS 11 hS0 ?_
      refine rgS 12 hS0 ?_
      refine rgS 13 hS0 ?_
      refine rgS 14 hS0 ?_
      refine rgS 15 hS0 ?_
      refine rgT 16 hS0 ?_
      refine wpAnyH_done (by kernel_rfl) ?_ _
      go_wp2_with fail
      have hend := ins_end (X := X) (Y := Y') (k := j - j) HSS.out.1 HSS.out.2 HDR.out (fun z hz => by rw [Nat.sub_self, List.take_zero] at hz; cases hz)
      obtain ⟨S', e1, s1, b1⟩ := hend
      have hrow2 := row_ind HROW.out
      rw [e1, HY'.out] at hrow2
      rw [← take_next HXE.out, show i - j + 1 = i + 1 - j by omega] at b1
      rw [show i - j + 1 = i + 1 - j by omega] at hrow2
      have HRW2 := hid hrow2; have HSS2 := hid (And.intro s1 b1); have HCC := hid HCH.out.drew
      clear e1 s1 b1 hrow2
      go_wp2_with fail
      go_roundw
      case rel => exact ⟨i + 1, S', _, rfl, by omega, by omega, by go_num, HRW2.out, HSS2, HCC.out⟩
      case measure => simp [intOf]; omega
   ·obtain rfl : i = B := by omega
    have hzz : Z.length = i - A := by have := HZ.out; omega
    rw [List.drop_eq_nil_of_le (by omega), List.nil_append] at hrow
    have HRW := hid hrow; have HST := hid (show Stab ltP Z S by have := HSS.out.2; rwa [List.take_of_length_le (by omega)] at this)
    clear hch hrow hzz
    go_wp2_with fail
    go_end0
    exact ⟨rfl, S, HRW.out, HSS.out.1, HST.out, HCH.out⟩
end Go.Proofs.YtphmpimgbmedbaaGreat
/- Is the record of an item right; are the weights of a share right: the reference. -/
namespace Go.Proofs.YtphmpimgbmedbaaGreat
open Go.RowKit
open Go.Lib (hid)
theorem zfacts {l : Nat} (h : l = 0) : ((l : Int) == 0) = true ∧ ¬ (0 : Int) < (l : Int) ∧ ¬ 0 < l ∧ decide ((0 : Int) < (l : Int)) = false ∧ decide (0 < l) = false := by subst h; decide
def partsN (s : Shp) (n : Int) : Int := (n + 4 * s.data - 1) / (4 * s.data)
def ItemOk (s : Shp) (x : Rec) : Prop := if x.length = -1 then x.data = [] ∧ x.rows = [] else
 (partsV s.data x.length).2 = 0 ∧ (if x.data = [] then (x.rows.length : Int) = partsN s x.length ∧ Apart (s.rows - 1) x.rows else (x.data.length : Int) = x.length ∧ x.rows = [])
theorem parts0 {s : Shp} {n : Int} (hd : 1 ≤ s.data ∧ s.data ≤ 3) (h : (partsV s.data n).2 = 0) : 1 ≤ n ∧ n ≤ 36 ∧ (partsV s.data n).1 = partsN s n := by
 rcases partsV_cases s.data n hd.1 hd.2 with h1 | h1 | h1
 ·rw [h1] at h; cases h
 ·rw [h1] at h; cases h
 ·exact ⟨h1.2.1, h1.2.2, by rw [h1.1]; rfl⟩
theorem ItemOk.del {s : Shp} {x : Rec} (h : x.length = -1) : ItemOk s x ↔ x.data = [] ∧ x.rows = [] := by unfold ItemOk; rw [if_pos h]
theorem ItemOk.long {s : Shp} {x : Rec} (h : ¬ x.length = -1) (h2 : ¬ (partsV s.data x.length).2 = 0) : ¬ ItemOk s x := by unfold ItemOk; rw [if_neg h]; exact fun h3 => h2 h3.1
theorem ItemOk.data {s : Shp} {x : Rec} (h : ¬ x.length = -1) (h2 : (partsV s.data x.length).2 = 0) (h3 : ¬ x.data = []) : ItemOk s x ↔ (x.data.length : Int) = x.length ∧ x.rows = [] := by
 unfold ItemOk; rw [if_neg h, if_neg h3]; exact ⟨fun h => h.2, fun h => ⟨h2, h⟩⟩
theorem ItemOk.row {s : Shp} {x : Rec} (h : ¬ x.length = -1) (h2 : (partsV s.data x.length).2 = 0) (h3 : x.data = []) : ItemOk s x ↔ (x.rows.length : Int) = partsN s x.length ∧ Apart (s.rows - 1) x.rows := by
 unfold ItemOk; rw [if_neg h, if_pos h3]; exact ⟨fun h => h.2, fun h => ⟨h2, h⟩⟩
set_option maxRecDepth 100000 in
set_option maxHeartbeats 4000000 in
theorem l5Item_any (s : Shp) (hs : s.ok) (x : Rec) (cx : Array Value) (fx : List Nat) (w : World) (hx : recL.rep w cx.toList x fx) :
  Calls Tryz.prog 193 #[.agg s.cells, .agg cx] w fun e w' => e = .returned (.bool (pb (ItemOk s x))) ∧ Chg [] w w' := by
 have HX := hid hx
 obtain ⟨a6, l6, c6, f6, a7, l7, c7, f7, a8, l8, c8, f8, ex, o0, o1, on, o3, o4, o5, h6, h7, h8, -⟩ := recL_iff.1 hx
 have HO := hid (And.intro o0 o1)
 clear hx o0 o1
 obtain rfl := Array.toList_inj.1 (ex.trans (List.toList_toArray).symm)
 clear ex
 have q6 := intL.sl_max h6; have q7 := byteL.sl_max h7; have q8 := byteL.sl_max h8
 have Z6 := hid h6.1; have Z7 := hid h7.1; have Z8 := hid h8.1
 have H6 := hid h6; have H7 := hid h7; have H8 := hid h8
 clear h6 h7 h8
 have hd := hs.data; have hr := hs.rows; have hg := hs.groups; have hal := hs.all
 have HS := hid hs
 clear hs
 have e50 : IntKind.i64.wrap (s.rows - 1) = s.rows - 1 := IntWalk.i64_in _ (by omega)
 have e51 : IntKind.i64.wrap (s.groups - 1) = s.groups - 1 := IntWalk.i64_in _ (by omega)
 have e52 : IntKind.i64.wrap (s.all - 1) = s.all - 1 := IntWalk.i64_in _ (by omega)
 show Calls _ _ #[.agg #[.int .i64 s.groups, .int .i64 s.column, .int .i64 s.data, .int .i64 s.spare, .int .i64 s.rows, .int .i64 s.cap, .int .i64 s.batch, .int .i64 s.queue, .int .i64 s.stage], .agg _] _ _
 have HT := hid (fun h => pb_true h : ItemOk s x → pb (ItemOk s x) = true)
 have HF := hid (fun h => pb_false h : ¬ ItemOk s x → pb (ItemOk s x) = false)
 have HE := hid (fun Q h => pb_iff h : ∀ Q, (ItemOk s x ↔ Q) → pb (ItemOk s x) = pb Q)
 generalize pb (ItemOk s x) = r at HT HF HE ⊢
 obtain ⟨p2, hp2⟩ : ∃ p, p = (partsV s.data x.length).2 := ⟨_, rfl⟩
 obtain ⟨pn, hpn⟩ : ∃ p, p = partsN s x.length := ⟨_, rfl⟩
 have HP := hid hp2; have HN := hid hpn
 clear hp2 hpn
 by_cases hA : x.length = -1
 ·by_cases hB : l7 = 0
  ·by_cases hD : l6 = 0
   ·have HC : Hid (Chg [] w w) := Chg.refl _ _
    have HR := hid (HT.out ((ItemOk.del hA).2 ⟨len0 Z7.out hB, len0 Z6.out hD⟩))
    have eA : (x.length == -1) = true := by simp; exact hA
    obtain ⟨za, zb, zc, zd, ze⟩ := zfacts hB; obtain ⟨ya, yb, yc, yd, ye⟩ := zfacts hD; clear hB hD hA
    go_enter Tryz.func193, Tryz.ntmps193
    go_wp2_with fail
    go_ret
    exact ⟨ret_bool HR.out.symm, (Chg.alloc (Chg.alloc HC.out _) _)⟩
   ·have HC : Hid (Chg [] w w) := Chg.refl _ _
    have HR := hid (HF.out (fun h => len1 Z6.out hD ((ItemOk.del hA).1 h).2))
    have e1 : ((l6 : Int) == 0) = false := by simp; exact hD
    have eA : (x.length == -1) = true := by simp; exact hA
    obtain ⟨za, zb, zc, zd, ze⟩ := zfacts hB; clear hB hD hA
    go_enter Tryz.func193, Tryz.ntmps193
    go_wp2_with fail
    go_ret
    exact ⟨ret_bool HR.out.symm, (Chg.alloc (Chg.alloc HC.out _) _)⟩
  ·have HC : Hid (Chg [] w w) := Chg.refl _ _
   have HR := hid (HF.out (fun h => len1 Z7.out hB ((ItemOk.del hA).1 h).1))
   have e1 : ((l7 : Int) == 0) = false := by simp; exact hB
   have eA : (x.length == -1) = true := by simp; exact hA
   clear hB hA
   go_enter Tryz.func193, Tryz.ntmps193
   go_wp2_with fail
   go_ret
   exact ⟨ret_bool HR.out.symm, (Chg.alloc (Chg.alloc HC.out _) _)⟩
 have eA : (x.length == -1) = false := by simp; exact hA
 by_cases hP : p2 = 0
 rotate_left
 ·have HC : Hid (Chg [] w w) := Chg.refl _ _
  have HR := hid (HF.out (ItemOk.long hA (by rw [← HP.out]; exact hP)))
  have e1 : (p2 != 0) = true := by simp; exact hP
  clear hA hP
  go_enter Tryz.func193, Tryz.ntmps193
  go_wp2_with fail
  refine (l4Long_any s x.length hd.1 hd.2 o3 _).mono ?_
  rintro e w1 ⟨rfl, hc⟩
  rw [← HP.out]
  obtain ⟨cS, lS, HBS⟩ := bk hc (b := w.heap.size) (keep_alloc (new_at (by simp) _) _) (by simp)
  obtain ⟨cR, lR, HBR⟩ := bk hc (b := w.heap.size + 1) (new_at (by simp) _) (by simp)
  have h := Chg.trans0 (Chg.alloc (Chg.alloc HC.out _) _) hc; clear HC; have HC := hid h; clear h
  clear hc
  go_wp2_with fail
  go_ret
  exact ⟨ret_bool HR.out.symm, HC.out⟩
 subst hP
 have hb := parts0 hd HP.out.symm
 have hb1 := hb.1; have hb2 := hb.2.1
 clear hb
 by_cases hB : l7 = 0
 ·by_cases hD : (l6 : Int) = pn
  ·have HC : Hid (Chg [] w w) := Chg.refl _ _
   have HR := hid ((HE.out _ ((ItemOk.row hA HP.out.symm (len0 Z7.out hB)).trans ⟨fun h => h.2, fun h => ⟨by rw [← Z6.out, ← HN.out]; exact hD, h⟩⟩)))
   obtain ⟨ra, hra⟩ : ∃ v, v = pb (Apart (s.rows - 1) x.rows) := ⟨_, rfl⟩
   rw [← hra] at HR
   have HA := hid hra
   have e1 : ((l6 : Int) == pn) = true := by simp; exact hD
   obtain ⟨za, zb, zc, zd, ze⟩ := zfacts hB; clear hB hA hD hra
   go_enter Tryz.func193, Tryz.ntmps193
   go_wp2_with fail
   refine (l4Long_any s x.length hd.1 hd.2 o3 _).mono ?_
   rintro e w1 ⟨rfl, hc⟩
   rw [← HP.out]
   obtain ⟨cS, lS, HBS⟩ := bk hc (b := w.heap.size) (keep_alloc (new_at (by simp) _) _) (by simp)
   obtain ⟨cR, lR, HBR⟩ := bk hc (b := w.heap.size + 1) (new_at (by simp) _) (by simp)
   have h := Chg.trans0 (Chg.alloc (Chg.alloc HC.out _) _) hc; clear HC; have HC := hid h; clear h
   clear hc
   go_wp2_with fail
   obtain ⟨SS1, HSI1, HSO1⟩ := rg_cond (fun w' => Know (w.heap.size) #[.int .i64 s.groups, .int .i64 s.column, .int .i64 s.data, .int .i64 s.spare, .int .i64 s.rows, .int .i64 s.cap, .int .i64 s.batch, .int .i64 s.queue, .int .i64 s.stage] w' ∧ Know (w.heap.size + 1) #[.int .i64 x.kind, .int .i64 x.seq, .string x.name, .int .i64 x.length, .int .i64 x.group, .int .i64 x.row, .slice a6 l6 c6, .slice a7 l7 c7, .slice a8 l8 c8] w')
   have hS0 := HSI1.out (w1.drew) ⟨(Know.of (by refine keep_drew ?_; exact HBS.out)), (Know.of (by refine keep_drew ?_; exact HBR.out))⟩
   refine rg_start SS1 (by kernel_rfl) hS0 ?_
   refine rgT 0 hS0 ?_
   refine rgL 1 hS0 HSO1 ?_
   refine rgT 2 hS0 ?_
   refine rgL 3 hS0 HSO1 ?_
   refine rgT 4 hS0 ?_
   refine rgL 5 hS0 HSO1 ?_
   refine rg_call 6 rfl (by kernel_rfl) (fun K hK => ?_)
   go_simp
   go_at_call 249
   refine (l4Parts_any s x.length hd.1 hd.2 (by omega) (by omega) _).mono ?_
   rintro e w2 ⟨rfl, hc⟩
   rw [show (x.length + 4 * s.data - 1) / (4 * s.data) = pn from HN.out.symm]
   have h := bk hc (keep_drew HBS.out) (by simp); clear HBS cS lS; obtain ⟨cS, lS, HBS⟩ := h
   have h := bk hc (keep_drew HBR.out) (by simp); clear HBR cR lR; obtain ⟨cR, lR, HBR⟩ := h
   have h := Chg.trans0 (Chg.drew HC.out) hc; clear HC; have HC := hid h; clear h
   clear hc
   go_wp2_with fail
   refine hK.out _ _ (HSI1.out _ ⟨cS, cR⟩) (fun hS1 => ?_)
   clear hK K
   try simp only [Act.put, List.setIfInBounds_toArray, List.set_cons_zero, List.set_cons_succ]
   refine rgT 7 hS1 ?_
   refine rgT 8 hS1 ?_
   refine rgT 9 hS1 ?_
   refine rgL 10 hS1 HSO1 ?_
   refine rgT 11 hS1 ?_
   refine rgL 12 hS1 HSO1 ?_
   refine rgT 13 hS1 ?_
   refine rg_call 14 rfl (by kernel_rfl) (fun K hK => ?_)
   go_simp
   go_at_call 118
   refine (l5Apart_any a6 l6 c6 x.rows f6 (s.rows - 1) _ (Lay.sl_ext intL H6.out HC.out)).mono ?_
   rintro e w3 ⟨rfl, hc⟩
   rw [← HA.out]
   have h := bk hc HBS.out (by simp); clear HBS cS lS; obtain ⟨cS, lS, HBS⟩ := h
   have h := bk hc HBR.out (by simp); clear HBR cR lR; obtain ⟨cR, lR, HBR⟩ := h
   replace HC := hct HC hc
   clear hc
   go_wp2_with fail
   refine hK.out _ _ (HSI1.out _ ⟨cS, cR⟩) (fun hS2 => ?_)
   clear hK K
   try simp only [Act.put, List.setIfInBounds_toArray, List.set_cons_zero, List.set_cons_succ]
   refine rgT 15 hS2 ?_
   refine rgT 16 hS2 ?_
   refine wpAnyH_done (by kernel_rfl) ?_ _
   go_wp2_with fail
   go_ret
   exact ⟨ret_bool HR.out.symm, HC.out⟩
  ·have HC : Hid (Chg [] w w) := Chg.refl _ _
   have HR := hid (HF.out (fun h => hD (by rw [Z6.out, HN.out]; exact ((ItemOk.row hA HP.out.symm (len0 Z7.out hB)).1 h).1)))
   have e1 : ((l6 : Int) == pn) = false := by simp; exact hD
   obtain ⟨za, zb, zc, zd, ze⟩ := zfacts hB; clear hB hA hD
   go_enter Tryz.func193, Tryz.ntmps193
   go_wp2_with fail
   refine (l4Long_any s x.length hd.1 hd.2 o3 _).mono ?_
   rintro e w1 ⟨rfl, hc⟩
   rw [← HP.out]
   obtain ⟨cS, lS, HBS⟩ := bk hc (b := w.heap.size) (keep_alloc (new_at (by simp) _) _) (by simp)
   obtain ⟨cR, lR, HBR⟩ := bk hc (b := w.heap.size + 1) (new_at (by simp) _) (by simp)
   have h := Chg.trans0 (Chg.alloc (Chg.alloc HC.out _) _) hc; clear HC; have HC := hid h; clear h
   clear hc
   go_wp2_with fail
   obtain ⟨SS1, HSI1, HSO1⟩ := rg_cond (fun w' => Know (w.heap.size) #[.int .i64 s.groups, .int .i64 s.column, .int .i64 s.data, .int .i64 s.spare, .int .i64 s.rows, .int .i64 s.cap, .int .i64 s.batch, .int .i64 s.queue, .int .i64 s.stage] w' ∧ Know (w.heap.size + 1) #[.int .i64 x.kind, .int .i64 x.seq, .string x.name, .int .i64 x.length, .int .i64 x.group, .int .i64 x.row, .slice a6 l6 c6, .slice a7 l7 c7, .slice a8 l8 c8] w')
   have hS0 := HSI1.out (w1.drew) ⟨(Know.of (by refine keep_drew ?_; exact HBS.out)), (Know.of (by refine keep_drew ?_; exact HBR.out))⟩
   refine rg_start SS1 (by kernel_rfl) hS0 ?_
   refine rgT 0 hS0 ?_
   refine rgL 1 hS0 HSO1 ?_
   refine rgT 2 hS0 ?_
   refine rgL 3 hS0 HSO1 ?_
   refine rgT 4 hS0 ?_
   refine rgL 5 hS0 HSO1 ?_
   refine rg_call 6 rfl (by kernel_rfl) (fun K hK => ?_)
   go_simp
   go_at_call 249
   refine (l4Parts_any s x.length hd.1 hd.2 (by omega) (by omega) _).mono ?_
   rintro e w2 ⟨rfl, hc⟩
   rw [show (x.length + 4 * s.data - 1) / (4 * s.data) = pn from HN.out.symm]
   have h := bk hc (keep_drew HBS.out) (by simp); clear HBS cS lS; obtain ⟨cS, lS, HBS⟩ := h
   have h := bk hc (keep_drew HBR.out) (by simp); clear HBR cR lR; obtain ⟨cR, lR, HBR⟩ := h
   have h := Chg.trans0 (Chg.drew HC.out) hc; clear HC; have HC := hid h; clear h
   clear hc
   go_wp2_with fail
   refine hK.out _ _ (HSI1.out _ ⟨cS, cR⟩) (fun hS1 => ?_)
   clear hK K
   try simp only [Act.put, List.setIfInBounds_toArray, List.set_cons_zero, List.set_cons_succ]
   refine rgT 7 hS1 ?_
   refine rgT 8 hS1 ?_
   refine rgS 9 hS1 ?_
   refine rgS 10 hS1 ?_
   refine rgS 11 hS1 ?_
   refine rgS 12 hS1 ?_
   refine rgS 13 hS1 ?_
   refine rgS 14 hS1 ?_
   refine rgT 15 hS1 ?_
   refine rgT 16 hS1 ?_
   refine wpAnyH_done (by kernel_rfl) ?_ _
   go_wp2_with fail
   go_ret
   exact ⟨ret_bool HR.out.symm, HC.out⟩
 have hB0 : (0 : Int) < (l7 : Int) := by omega
 by_cases hD : (l7 : Int) = x.length
 ·by_cases hE : l6 = 0
  ·have HC : Hid (Chg [] w w) := Chg.refl _ _
   have HR := hid (HT.out ((ItemOk.data hA HP.out.symm (len1 Z7.out hB)).2 ⟨by rw [← Z7.out]; exact hD, len0 Z6.out hE⟩))
   have e1 : ((l7 : Int) == x.length) = true := by simp; exact hD
   obtain ⟨za, zb, zc, zd, ze⟩ := zfacts hE; clear hE hA hB
   go_enter Tryz.func193, Tryz.ntmps193
   go_wp2_with fail
   refine (l4Long_any s x.length hd.1 hd.2 o3 _).mono ?_
   rintro e w1 ⟨rfl, hc⟩
   rw [← HP.out]
   obtain ⟨cS, lS, HBS⟩ := bk hc (b := w.heap.size) (keep_alloc (new_at (by simp) _) _) (by simp)
   obtain ⟨cR, lR, HBR⟩ := bk hc (b := w.heap.size + 1) (new_at (by simp) _) (by simp)
   have h := Chg.trans0 (Chg.alloc (Chg.alloc HC.out _) _) hc; clear HC; have HC := hid h; clear h
   clear hc
   go_wp2_with fail
   go_ret
   exact ⟨ret_bool HR.out.symm, HC.out⟩
  ·have HC : Hid (Chg [] w w) := Chg.refl _ _
   have HR := hid (HF.out (fun h => len1 Z6.out hE ((ItemOk.data hA HP.out.symm (len1 Z7.out hB)).1 h).2))
   have e1 : ((l7 : Int) == x.length) = true := by simp; exact hD
   have e2 : ((l6 : Int) == 0) = false := by simp; exact hE
   clear hE hA hB
   go_enter Tryz.func193, Tryz.ntmps193
   go_wp2_with fail
   refine (l4Long_any s x.length hd.1 hd.2 o3 _).mono ?_
   rintro e w1 ⟨rfl, hc⟩
   rw [← HP.out]
   obtain ⟨cS, lS, HBS⟩ := bk hc (b := w.heap.size) (keep_alloc (new_at (by simp) _) _) (by simp)
   obtain ⟨cR, lR, HBR⟩ := bk hc (b := w.heap.size + 1) (new_at (by simp) _) (by simp)
   have h := Chg.trans0 (Chg.alloc (Chg.alloc HC.out _) _) hc; clear HC; have HC := hid h; clear h
   clear hc
   go_wp2_with fail
   go_ret
   exact ⟨ret_bool HR.out.symm, HC.out⟩
 ·have HC : Hid (Chg [] w w) := Chg.refl _ _
  have HR := hid (HF.out (fun h => hD (by rw [Z7.out]; exact ((ItemOk.data hA HP.out.symm (len1 Z7.out hB)).1 h).1)))
  have e1 : ((l7 : Int) == x.length) = false := by simp; exact hD
  clear hD hA hB
  go_enter Tryz.func193, Tryz.ntmps193
  go_wp2_with fail
  refine (l4Long_any s x.length hd.1 hd.2 o3 _).mono ?_
  rintro e w1 ⟨rfl, hc⟩
  rw [← HP.out]
  obtain ⟨cS, lS, HBS⟩ := bk hc (b := w.heap.size) (keep_alloc (new_at (by simp) _) _) (by simp)
  obtain ⟨cR, lR, HBR⟩ := bk hc (b := w.heap.size + 1) (new_at (by simp) _) (by simp)
  have h := Chg.trans0 (Chg.alloc (Chg.alloc HC.out _) _) hc; clear HC; have HC := hid h; clear h
  clear hc
  go_wp2_with fail
  go_ret
  exact ⟨ret_bool HR.out.symm, HC.out⟩
def WeightsOk (s : Shp) (x : Rec) : Prop := (x.delta.length : Int) = s.all ∧ x.delta[x.group.toNat]? = some 0 ∧ ∀ k ∈ x.rows, ¬ x.delta[k.toNat]? = some 0
theorem Rises.mem {m : Int} {xs : List Int} (h : Rises m xs) {x : Int} (hx : x ∈ xs) : 0 ≤ x ∧ x ≤ m := by
 obtain ⟨i, hi⟩ := List.getElem?_of_mem hx
 exact (h i x hi).1
theorem byte0 {z : UInt8} {Z : Int} (h : Z = z.toNat) : (z = 0 → (Z == 0) = true ∧ (Z != 0) = false) ∧ (¬ z = 0 → (Z == 0) = false ∧ (Z != 0) = true) := by
 subst h
 refine ⟨fun h => by subst h; simp, fun h => ?_⟩
 have h1 : z.toNat ≠ 0 := fun h0 => h (UInt8.toNat_inj.1 (by rw [h0]; rfl))
 have : (z.toNat : Int) ≠ 0 := by omega
 exact ⟨by simpa using h1, by simpa using h1⟩
set_option maxRecDepth 100000 in
set_option maxHeartbeats 4000000 in
theorem l5Weights_any (s : Shp) (hs : s.ok) (x : Rec) (cx : Array Value) (fx : List Nat) (w : World) (hx : recL.rep w cx.toList x fx) (hgr : 0 ≤ x.group ∧ x.group ≤ s.all - 1) (hri : Rises (s.all - 1) x.rows) :
  Calls Tryz.prog 196 #[.agg s.cells, .agg cx] w fun e w' => e = .returned (.bool (pb (WeightsOk s x))) ∧ Chg [] w w' := by
 have HX := hid hx
 obtain ⟨a6, l6, c6, f6, a7, l7, c7, f7, a8, l8, c8, f8, ex, o0, o1, on, o3, o4, o5, h6, h7, h8, -⟩ := recL_iff.1 hx
 have HO := hid (And.intro o0 o1)
 clear hx o0 o1
 obtain rfl := Array.toList_inj.1 (ex.trans (List.toList_toArray).symm)
 clear ex
 have q6 := intL.sl_max h6; have q7 := byteL.sl_max h7; have q8 := byteL.sl_max h8
 have Z6 := hid h6.1; have Z7 := hid h7.1; have Z8 := hid h8.1
 have H6 := hid h6; have H7 := hid h7; have H8 := hid h8
 clear h6 h7 h8
 have hd := hs.data; have hr := hs.rows; have hg := hs.groups; have hal := hs.all
 have HS := hid hs
 clear hs
 have e50 : IntKind.i64.wrap (s.rows - 1) = s.rows - 1 := IntWalk.i64_in _ (by omega)
 have e51 : IntKind.i64.wrap (s.groups - 1) = s.groups - 1 := IntWalk.i64_in _ (by omega)
 have e52 : IntKind.i64.wrap (s.all - 1) = s.all - 1 := IntWalk.i64_in _ (by omega)
 show Calls _ _ #[.agg #[.int .i64 s.groups, .int .i64 s.column, .int .i64 s.data, .int .i64 s.spare, .int .i64 s.rows, .int .i64 s.cap, .int .i64 s.batch, .int .i64 s.queue, .int .i64 s.stage], .agg _] _ _
 have HT := hid (fun h => pb_true h : WeightsOk s x → pb (WeightsOk s x) = true)
 have HF := hid (fun h => pb_false h : ¬ WeightsOk s x → pb (WeightsOk s x) = false)
 have HE := hid (fun Q h => pb_iff h : ∀ Q, (WeightsOk s x ↔ Q) → pb (WeightsOk s x) = pb Q)
 generalize pb (WeightsOk s x) = r at HT HF HE ⊢
 have HRI := hid hri
 clear hri
 obtain ⟨hg1, hg2⟩ := hgr
 by_cases hA : (l8 : Int) = s.all
 rotate_left
 ·have HC : Hid (Chg [] w w) := Chg.refl _ _
  have HR := hid (HF.out (fun h => hA (by rw [Z8.out]; exact h.1)))
  have e1 : ((l8 : Int) != s.all) = true := by simp; exact hA
  clear hA
  go_enter Tryz.func196, Tryz.ntmps196
  go_wp2_with fail
  obtain ⟨SS1, HSI1, HSO1⟩ := rg_cond (fun w' => Know (w.heap.size) #[.int .i64 s.groups, .int .i64 s.column, .int .i64 s.data, .int .i64 s.spare, .int .i64 s.rows, .int .i64 s.cap, .int .i64 s.batch, .int .i64 s.queue, .int .i64 s.stage] w' ∧ Know (w.heap.size + 1) #[.int .i64 x.kind, .int .i64 x.seq, .string x.name, .int .i64 x.length, .int .i64 x.group, .int .i64 x.row, .slice a6 l6 c6, .slice a7 l7 c7, .slice a8 l8 c8] w')
  have hS0 := HSI1.out (((w.alloc (.cells #[.int .i64 s.groups, .int .i64 s.column, .int .i64 s.data, .int .i64 s.spare, .int .i64 s.rows, .int .i64 s.cap, .int .i64 s.batch, .int .i64 s.queue, .int .i64 s.stage] 30)).alloc (.cells #[.int .i64 x.kind, .int .i64 x.seq, .string x.name, .int .i64 x.length, .int .i64 x.group, .int .i64 x.row, .slice a6 l6 c6, .slice a7 l7 c7, .slice a8 l8 c8] 67)).drew) ⟨(Know.of (by refine keep_drew ?_; refine keep_alloc ?_ _; exact new_at (by simp) _)), (Know.of (by refine keep_drew ?_; exact new_at (by simp) _))⟩
  refine rg_start SS1 (by kernel_rfl) hS0 ?_
  refine rgT 0 hS0 ?_
  refine rgL 1 hS0 HSO1 ?_
  refine rgT 2 hS0 ?_
  refine rgL 3 hS0 HSO1 ?_
  refine rg_call 4 rfl (by kernel_rfl) (fun K hK => ?_)
  go_simp
  go_at_call 100
  refine (l5All_any s HS.out _).mono ?_
  rintro e w1 ⟨rfl, hc⟩
  obtain ⟨cS, lS, HBS⟩ := bk hc (b := w.heap.size) (keep_drew (keep_alloc (new_at (by simp) _) _)) (by simp)
  obtain ⟨cR, lR, HBR⟩ := bk hc (b := w.heap.size + 1) (keep_drew (new_at (by simp) _)) (by simp)
  have h := Chg.trans0 (Chg.drew (Chg.alloc (Chg.alloc HC.out _) _)) hc; clear HC; have HC := hid h; clear h
  clear hc
  go_wp2_with fail
  refine hK.out _ _ (HSI1.out _ ⟨cS, cR⟩) (fun hS1 => ?_)
  clear hK K
  try simp only [Act.put, List.setIfInBounds_toArray, List.set_cons_zero, List.set_cons_succ]
  refine rgT 5 hS1 ?_
  refine rgT 6 hS1 ?_
  refine rgS 7 hS1 ?_
  refine rgS 8 hS1 ?_
  refine rgS 9 hS1 ?_
  refine rgS 10 hS1 ?_
  refine rgS 11 hS1 ?_
  refine rgS 12 hS1 ?_
  refine rgS 13 hS1 ?_
  refine rgT 14 hS1 ?_
  refine wpAnyH_done (by kernel_rfl) ?_ _
  go_wp2_with fail
  go_ret
  exact ⟨ret_bool HR.out.symm, HC.out⟩
 have e1 : ((l8 : Int) != s.all) = false := by simp; exact hA
 have HAA := hid hA
 have hgl : x.group.toNat < l8 := by omega
 have hgl2 : x.group < (l8 : Int) := by omega
 obtain ⟨z, Z, b, o, HXB, hA8, hcz, hz0, hz1⟩ := byte_at H8.out hgl
 have HD := hid (show x.delta[x.group.toNat]? = some z from HXB.out.1)
 subst hA8
 have hb0 := byte0 HXB.out.2.1
 have HCZ := hid hcz
 clear hcz
 by_cases hZ : z = 0
 rotate_left
 ·have HC : Hid (Chg [] w w) := Chg.refl _ _
  have HR := hid (HF.out (fun h => hZ (by have h2 := h.2.1; rw [HD.out] at h2; exact Option.some.inj h2)))
  have e2 := (hb0.2 hZ).2
  clear hb0 hA hZ
  go_enter Tryz.func196, Tryz.ntmps196
  go_wp2_with fail
  obtain ⟨SS1, HSI1, HSO1⟩ := rg_cond (fun w' => Know (w.heap.size) #[.int .i64 s.groups, .int .i64 s.column, .int .i64 s.data, .int .i64 s.spare, .int .i64 s.rows, .int .i64 s.cap, .int .i64 s.batch, .int .i64 s.queue, .int .i64 s.stage] w' ∧ Know (w.heap.size + 1) #[.int .i64 x.kind, .int .i64 x.seq, .string x.name, .int .i64 x.length, .int .i64 x.group, .int .i64 x.row, .slice a6 l6 c6, .slice a7 l7 c7, .slice (some ⟨b, o, none⟩) l8 c8] w' ∧ w'.cell? ⟨b, o + x.group.toNat, none⟩ = some (.int .u8 Z))
  have hS0 := HSI1.out (((w.alloc (.cells #[.int .i64 s.groups, .int .i64 s.column, .int .i64 s.data, .int .i64 s.spare, .int .i64 s.rows, .int .i64 s.cap, .int .i64 s.batch, .int .i64 s.queue, .int .i64 s.stage] 30)).alloc (.cells #[.int .i64 x.kind, .int .i64 x.seq, .string x.name, .int .i64 x.length, .int .i64 x.group, .int .i64 x.row, .slice a6 l6 c6, .slice a7 l7 c7, .slice (some ⟨b, o, none⟩) l8 c8] 67)).drew) ⟨(Know.of (by refine keep_drew ?_; refine keep_alloc ?_ _; exact new_at (by simp) _)), (Know.of (by refine keep_drew ?_; exact new_at (by simp) _)), (cellKeep (Chg.drew (Chg.alloc (Chg.alloc HC.out _) _)) HCZ.out (Lay.sl_lt _ H8.out _ HXB.out.2.2))⟩
  refine rg_start SS1 (by kernel_rfl) hS0 ?_
  refine rgT 0 hS0 ?_
  refine rgL 1 hS0 HSO1 ?_
  refine rgT 2 hS0 ?_
  refine rgL 3 hS0 HSO1 ?_
  refine rg_call 4 rfl (by kernel_rfl) (fun K hK => ?_)
  go_simp
  go_at_call 100
  refine (l5All_any s HS.out _).mono ?_
  rintro e w1 ⟨rfl, hc⟩
  obtain ⟨cS, lS, HBS⟩ := bk hc (b := w.heap.size) (keep_drew (keep_alloc (new_at (by simp) _) _)) (by simp)
  obtain ⟨cR, lR, HBR⟩ := bk hc (b := w.heap.size + 1) (keep_drew (new_at (by simp) _)) (by simp)
  have h := Chg.trans0 (Chg.drew (Chg.alloc (Chg.alloc HC.out _) _)) hc; clear HC; have HC := hid h; clear h
  clear hc
  go_wp2_with fail
  refine hK.out _ _ (HSI1.out _ ⟨cS, cR, (cellKeep HC.out HCZ.out (Lay.sl_lt _ H8.out _ HXB.out.2.2))⟩) (fun hS1 => ?_)
  clear hK K
  try simp only [Act.put, List.setIfInBounds_toArray, List.set_cons_zero, List.set_cons_succ]
  refine rgT 5 hS1 ?_
  refine rgT 6 hS1 ?_
  refine rgT 7 hS1 ?_
  refine rgL 8 hS1 HSO1 ?_
  refine rgT 9 hS1 ?_
  refine rgL 10 hS1 HSO1 ?_
  refine rgT 11 hS1 ?_
  refine rgL 12 hS1 HSO1 ?_
  refine rgT 13 hS1 ?_
  refine rgT 14 hS1 ?_
  refine wpAnyH_done (by kernel_rfl) ?_ _
  go_wp2_with fail
  go_ret
  exact ⟨ret_bool HR.out.symm, HC.out⟩
 have HC : Hid (Chg [] w w) := Chg.refl _ _
 have e2 := (hb0.1 hZ).2
 subst hZ
 clear hb0 hA
 go_enter Tryz.func196, Tryz.ntmps196
 go_wp2_with fail
 obtain ⟨SS1, HSI1, HSO1⟩ := rg_cond (fun w' => Know (w.heap.size) #[.int .i64 s.groups, .int .i64 s.column, .int .i64 s.data, .int .i64 s.spare, .int .i64 s.rows, .int .i64 s.cap, .int .i64 s.batch, .int .i64 s.queue, .int .i64 s.stage] w' ∧ Know (w.heap.size + 1) #[.int .i64 x.kind, .int .i64 x.seq, .string x.name, .int .i64 x.length, .int .i64 x.group, .int .i64 x.row, .slice a6 l6 c6, .slice a7 l7 c7, .slice (some ⟨b, o, none⟩) l8 c8] w' ∧ w'.cell? ⟨b, o + x.group.toNat, none⟩ = some (.int .u8 Z))
 have hS0 := HSI1.out (((w.alloc (.cells #[.int .i64 s.groups, .int .i64 s.column, .int .i64 s.data, .int .i64 s.spare, .int .i64 s.rows, .int .i64 s.cap, .int .i64 s.batch, .int .i64 s.queue, .int .i64 s.stage] 30)).alloc (.cells #[.int .i64 x.kind, .int .i64 x.seq, .string x.name, .int .i64 x.length, .int .i64 x.group, .int .i64 x.row, .slice a6 l6 c6, .slice a7 l7 c7, .slice (some ⟨b, o, none⟩) l8 c8] 67)).drew) ⟨(Know.of (by refine keep_drew ?_; refine keep_alloc ?_ _; exact new_at (by simp) _)), (Know.of (by refine keep_drew ?_; exact new_at (by simp) _)), (cellKeep (Chg.drew (Chg.alloc (Chg.alloc HC.out _) _)) HCZ.out (Lay.sl_lt _ H8.out _ HXB.out.2.2))⟩
 refine rg_start SS1 (by kernel_rfl) hS0 ?_
 refine rgT 0 hS0 ?_
 refine rgL 1 hS0 HSO1 ?_
 refine rgT 2 hS0 ?_
 refine rgL 3 hS0 HSO1 ?_
 refine rg_call 4 rfl (by kernel_rfl) (fun K hK => ?_)
 go_simp
 go_at_call 100
 refine (l5All_any s HS.out _).mono ?_
 rintro e w1 ⟨rfl, hc⟩
 obtain ⟨cS, lS, HBS⟩ := bk hc (b := w.heap.size) (keep_drew (keep_alloc (new_at (by simp) _) _)) (by simp)
 obtain ⟨cR, lR, HBR⟩ := bk hc (b := w.heap.size + 1) (keep_drew (new_at (by simp) _)) (by simp)
 have h := Chg.trans0 (Chg.drew (Chg.alloc (Chg.alloc HC.out _) _)) hc; clear HC; have HC := hid h; clear h
 clear hc
 go_wp2_with fail
 refine hK.out _ _ (HSI1.out _ ⟨cS, cR, (cellKeep HC.out HCZ.out (Lay.sl_lt _ H8.out _ HXB.out.2.2))⟩) (fun hS1 => ?_)
 clear hK K
 try simp only [Act.put, List.setIfInBounds_toArray, List.set_cons_zero, List.set_cons_succ]
 refine rgT 5 hS1 ?_
 refine rgT 6 hS1 ?_
 refine rgT 7 hS1 ?_
 refine rgL 8 hS1 HSO1 ?_
 refine rgT 9 hS1 ?_
 refine rgL 10 hS1 HSO1 ?_
 refine rgT 11 hS1 ?_
 refine rgL 12 hS1 HSO1 ?_
 refine rgT 13 hS1 ?_
 refine rgT 14 hS1 ?_
 refine wpAnyH_done (by kernel_rfl) ?_ _
 go_wp2_with fail
 go_loopw [5] (fun i wr => ∃ k : Nat, k ≤ l6 ∧ i = .int .i64 k ∧ Hid (∀ y ∈ x.rows.take k, ¬ x.delta[y.toNat]? = some 0) ∧ Hid (Chg [] w1 wr)) (fun i _ => l6 - (intOf i).toNat)
 case atStart => exact ⟨0, by omega, rfl, by intro y hy; simp at hy, Chg.refl _ _⟩
 case round =>
  obtain ⟨k, hk, rfl, HK, HCr⟩ := hrel
  have hR := HCr.out.keep0 HBR.out
  have cR2 := cellsOf hR; have lR2 := ltOf hR
  have HCW := hid (HC.out.trans0 HCr.out)
  clear hR cR lR cS lS
  by_cases hlt : k < l6
  ·obtain ⟨y, b2, o2, HY, rfl, hcy, hok⟩ := int_at (intL.sl_ext H6.out HCW.out) hlt
   have hy := HRI.out.mem (List.mem_of_getElem? HY.out.1)
   obtain ⟨j, rfl⟩ : ∃ j : Nat, y = (j : Int) := ⟨y.toNat, by omega⟩
   have hjl : j < l8 := by have := HAA.out; omega
   have hj1 : (j : Int) < (l8 : Int) := by omega
   have hk1 : (k : Int) < (l6 : Int) := by omega
   obtain ⟨u, U, b3, o3, HU, e', hcu, hu0, hu1⟩ := byte_at (byteL.sl_ext H8.out HCW.out) hjl
   simp only [Option.some.injEq, Addr.mk.injEq, and_true] at e'
   obtain ⟨rfl, rfl⟩ := e'
   have hb1 := byte0 HU.out.2.1
   by_cases hU : u = 0
   ·have HR := hid (HF.out (fun h => h.2.2 _ (List.mem_of_getElem? HY.out.1) (by rw [← hU]; simpa using HU.out.1)))
    have e3 := (hb1.1 hU).1
    clear hb1 hU hy
    go_wp2_with fail
    go_quiet (fail)
    go_wp2_with fail
    go_ret
    exact ⟨ret_bool HR.out.symm, HCW.out.drewN _⟩
   ·have HN := hid (show ∀ y ∈ x.rows.take (k + 1), ¬ x.delta[y.toNat]? = some 0 by
     intro y hy
     rw [take_next HY.out.1] at hy
     rcases List.mem_append.1 hy with h1 | h1
     ·exact HK.out y h1
     ·simp at h1; subst h1; have h2 := HU.out.1; simp only [Int.toNat_natCast]; rw [h2]; exact fun h => hU (Option.some.inj h))
    have e3 := (hb1.2 hU).1
    clear hb1 hU hy
    go_wp2_with fail
    go_quiet (fail)
    go_wp2_with fail
    go_roundw
    case rel => exact ⟨k + 1, by omega, by go_num, HN, HCr.out.drewN _⟩
    case measure => simp [intOf]; omega
  ·have HR := hid (HT.out ⟨by rw [← Z8.out]; exact HAA.out, HD.out, fun y hy => HK.out y (by rw [List.take_of_length_le (by have := Z6.out; omega)]; exact hy)⟩)
   go_wp2_with fail
   go_ret
   exact ⟨ret_bool HR.out.symm, HCW.out⟩
end Go.Proofs.YtphmpimgbmedbaaGreat
