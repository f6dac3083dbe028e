/- Several texts in one. -/
import Derived.Test.YthhaednigdgclaaGreatYbb
import Derived.Maps.RangeRun
import Derived.Test.YthhaednigdgclaaGreatYac
import Derived.Maps.RangeWalk
import Derived.Shelf.SlSortCmp.WholeK
import Derived.Shelf.Small.Strs
import Derived.Test.YthhaednigdgclaaGreatYae
import Derived.Laws.OwnMore
open Go.Value renaming int → I, slice → Aa, string → Ab, bool → Ac
open Go.IntKind renaming i64 → J
open Go.Obj renaming cells → Ad
open List renaming mem_singleton → Bo, mem_append → Bq, getElem?_eq_getElem → Bt, getElem?_eq_none → Bu, flatMap_cons → Bz, mem_cons → B5, getElem?_take_of_lt → BD, pairwise_singleton → BF, length_singleton → BH, pairwise_append → BI, getElem_of_mem → BJ, length_append → BL, getElem?_map → BP, ext_getElem? → BQ, length_cons → BR, mem_filter → BU, length_map → BV
open Array renaming getElem?_toList → Bp, getElem?_modify → Br, getElem?_eq_some_iff → Bv, getElem?_eq_getElem → Bw, mem_of_getElem? → B7, mem_toList_iff → BA, replicate → BC, toList_push → BO, toList_inj → BS
open Nat renaming le_trans → BB, le_refl → BG, lt_or_eq_of_le → BK, le_of_lt_succ → BN, zero_add → BW
open And renaming intro → BM
set_option maxRecDepth 100000
set_option maxHeartbeats 8000000
namespace Go.Proofs.YthhaednigdgclaaGreat
open Go.RowKit
open Go.Lib (hid)
open Go.ChangeMaps (setBlock)
def RecV (w : World) (f : List Nat) (v : Value) (r : Rec) : Prop := ∃ (cs : List Value) (fq : List Nat), v = .agg cs.toArray ∧ recL.rep w cs r fq ∧ ∀ y ∈ fq, y ∈ f
theorem RecV.chg {w w' : World} {S f : List Nat} {v : Value} {r : Rec} (h : RecV w f v r) (hc : Chg S w w') (hS : ∀ b ∈ f, b ∉ S) : RecV w' f v r := by
 obtain ⟨cs, fq, h1, h2, h3⟩ := h;exact ⟨cs, fq, h1, recL.chg h2 hc (fun b hb => hS b (h3 b hb)), h3⟩
def NewS (xs : List Rec) (k : Nat) (r : Rec) : Prop := ∃ i, i < k ∧ xs[i]? = some r ∧ r.kD = 1 ∧ nwI xs r.nM k = (i : Int)
theorem NewS.uniq {xs : List Rec} {k : Nat} {r s : Rec} (h : NewS xs k r) (h2 : NewS xs k s) (hn : r.nM = s.nM) : r = s := by
 obtain ⟨i, -, hi, -, ei⟩ := h;obtain ⟨j, -, hj, -, ej⟩ := h2;rw [hn, ej] at ei;obtain rfl : j = i := by omega
 rw [hi] at hj;exact Option.some.inj hj
theorem NewS.zero {xs : List Rec} {r : Rec} : ¬ NewS xs 0 r := fun ⟨_, h, _⟩ => absurd h (Nat.not_lt_zero _)
theorem news_skip {xs : List Rec} {k : Nat} {x : Rec} (hx : xs[k]? = some x) (hk : x.kD ≠ 1) (r : Rec) : NewS xs (k + 1) r ↔ NewS xs k r := by
 have e : nwI xs r.nM (k + 1) = nwI xs r.nM k := by rw [q6g hx, q0d (fun h => hk h.1)]; rfl
 constructor
 ·rintro ⟨i, h1, h2, h3, h4⟩;rw [e] at h4;have := (nwI_lt xs r.nM k).2;exact ⟨i, by omega, h2, h3, h4⟩
 ·rintro ⟨i, h1, h2, h3, h4⟩;exact ⟨i, by omega, h2, h3, by rw [e]; exact h4⟩
theorem q9i {xs : List Rec} {k : Nat} {x : Rec} (hx : xs[k]? = some x) (hk : x.kD = 1) (r : Rec) : NewS xs (k + 1) r ↔ r = x ∨ (NewS xs k r ∧ r.nM ≠ x.nM) := by
 by_cases hn : x.nM = r.nM
 ·have e : nwI xs r.nM (k + 1) = (k : Int) := by rw [q6g hx, q0e ⟨hk, hn⟩]; rfl
  constructor
  ·rintro ⟨i, h1, h2, h3, h4⟩;rw [e] at h4;obtain rfl : k = i := by omega
   rw [hx] at h2;exact .inl (Option.some.inj h2).symm
  ·rintro (rfl | ⟨-, h⟩)
   ·exact ⟨k, by omega, hx, hk, e⟩
   ·exact absurd hn.symm h
 ·have e : nwI xs r.nM (k + 1) = nwI xs r.nM k := by rw [q6g hx, q0d (fun h => hn h.2)]; rfl
  constructor
  ·rintro ⟨i, h1, h2, h3, h4⟩;rw [e] at h4;have := (nwI_lt xs r.nM k).2;exact .inr ⟨⟨i, by omega, h2, h3, h4⟩, fun h => hn h.symm⟩
  ·rintro (rfl | ⟨⟨i, h1, h2, h3, h4⟩, -⟩)
   ·exact absurd rfl hn
   ·exact ⟨i, by omega, h2, h3, by rw [e]; exact h4⟩
theorem z1h (l : List Rec) (r : Rec) : ∀ k, k ≤ l.length → (r ∈ livF l k ↔ ∃ i, i < k ∧ l[i]? = some r ∧ livP l i r = true)
 | 0, _ => by simp [livF]
 | k + 1, hk => by
  have ih := z1h l r k (by omega);have hx : l[k]? = some l[k] := Bt (by omega);cases hp : livP l k l[k]
  ·rw [q7x hx hp, ih];constructor
   ·rintro ⟨i, h1, h2⟩; exact ⟨i, by omega, h2⟩
   ·rintro ⟨i, h1, h2, h3⟩;refine ⟨i, ?_, h2, h3⟩;rcases BK (BN h1) with h | rfl
    ·exact h
    ·rw [hx] at h2; cases h2; rw [hp] at h3; cases h3
  ·rw [q8t hx hp, Bq, ih, Bo];constructor
   ·rintro (⟨i, h1, h2⟩ | rfl)
    ·exact ⟨i, by omega, h2⟩
    ·exact ⟨k, by omega, hx, hp⟩
   ·rintro ⟨i, h1, h2, h3⟩;rcases BK (BN h1) with h | rfl
    ·exact .inl ⟨i, h, h2, h3⟩
    ·rw [hx] at h2; exact .inr (Option.some.inj h2).symm
theorem q9k {l : List Rec} {r : Rec} : r ∈ livF l l.length ↔ NewS l l.length r ∧ 0 ≤ r.length := by
 rw [z1h l r _ (BG _)];constructor
 ·rintro ⟨i, h1, h2, h3⟩;obtain ⟨k1, k2, k3⟩ := q9h h3;exact ⟨⟨i, h1, h2, k1, k3⟩, k2⟩
 ·rintro ⟨⟨i, h1, h2, h3, h4⟩, h5⟩;exact ⟨i, h1, h2, q0e ⟨h3, h5, h4⟩⟩
def z0b (ys : List Rec) : Prop := ys.Pairwise (fun x y => x.nM ≠ y.nM)
theorem q7y (l : List Rec) : ∀ k, k ≤ l.length → z0b (livF l k)
 | 0, _ => List.Pairwise.nil
 | k + 1, hk => by
  have ih := q7y l k (by omega);have hx : l[k]? = some l[k] := Bt (by omega);cases hp : livP l k l[k]
  ·rw [q7x hx hp]; exact ih
  ·rw [q8t hx hp];refine BI.2 ⟨ih, BF _ _, fun a ha b hb hn => ?_⟩;rw [Bo] at hb;subst hb;obtain ⟨i, h1, h2, h3⟩ := (z1h l a k (by omega)).1 ha;have e1 := (q9h h3).2.2;have e2 := (q9h hp).2.2;rw [hn, e2] at e1;omega
theorem bl_eq {a b : ByteArray} (h : a.toList = b.toList) : a = b := by
 rw [ByteArray.toList_eq, ByteArray.toList_eq] at h;obtain ⟨⟨x⟩⟩ := a;obtain ⟨⟨y⟩⟩ := b;have h : x = y := h;rw [h]
theorem namLt_eqv {x y : Rec} (h : eqv q2z x y = true) : x.nM = y.nM :=
 bl_eq (bl_tot (q7n h).1 (q7n h).2)
theorem apart_stab {xs ys : List Rec} (hx : z0b xs) (hy : z0b ys) (hm : ∀ r, r ∈ ys ↔ r ∈ xs) : Stab q2z xs ys := by
 have nd : ∀ {l : List Rec}, z0b l → l.Nodup := fun h => h.imp (fun h e => h (by rw [e]))
 have hp : ys.Perm xs := (List.perm_ext_iff_of_nodup (nd hy) (nd hx)).2 hm;refine ⟨hp.length_eq, fun z => ?_⟩;have h1 : ∀ {l : List Rec}, z0b l → (l.filter (eqv q2z z)).length ≤ 1 := by
  intro l hl;have h2 : (l.filter (eqv q2z z)).Pairwise (fun x y => x.nM ≠ y.nM) := hl.filter _
  match hf : l.filter (eqv q2z z) with
  | [] => simp
  | [_] => simp
  | a :: b :: t =>
   rw [hf] at h2;have ha : eqv q2z z a = true := (BU.1 (hf ▸ (by simp : a ∈ a :: b :: t))).2;have hb : eqv q2z z b = true := (BU.1 (hf ▸ (by simp : b ∈ a :: b :: t))).2;exact absurd ((namLt_eqv ha).symm.trans (namLt_eqv hb)) (List.rel_of_pairwise_cons h2 (by simp))
 have AB := hp.filter (eqv q2z z);have := h1 hy
 match hf : ys.filter (eqv q2z z) with
 | [] => rw [hf] at AB; exact (List.Perm.nil_eq AB)
 | [a] => rw [hf] at AB; exact (List.perm_singleton.1 AB.symm).symm
 | a :: b :: t => rw [hf] at this; simp at this
theorem liv_apart {l ys : List Rec} (h : Srt q2z ys) (ha : z0b ys) (hm : ∀ r, r ∈ ys ↔ NewS l l.length r ∧ 0 ≤ r.length) : ys = livL l :=
 liv_uniq h (apart_stab (q7y l _ (BG _)) ha (fun r => (hm r).trans q9k.symm))
structure NewM (w : World) (m : Nat) (f : List Nat) (xs : List Rec) (k : Nat) (es : Array MapEntry) (clock : Nat) : Prop where
 at_ : w.heap[m]? = some (.map es clock)
 stamped : MapKept.Stamped es clock
 size : es.size ≤ k
 each : ∀ e ∈ es.toList, ∃ r, NewS xs k r ∧ e.key = Ab r.nM ∧ RecV w f e.val r
 all : ∀ r, NewS xs k r → ∃ e ∈ es.toList, e.key = Ab r.nM
theorem NewM.made {w : World} {f : List Nat} {xs : List Rec} : NewM (w.alloc (.map #[] 0)) w.heap.size f xs 0 #[] 0 :=
 ⟨q0k w _, MapKept.stamped_empty 0, by simp, by simp, fun r h => absurd h NewS.zero⟩
theorem NewM.chg {w w' : World} {m k clock : Nat} {S f : List Nat} {xs : List Rec} {es : Array MapEntry} (h : NewM w m f xs k es clock) (hc : Chg S w w') (hm : m ∉ S) (hS : ∀ b ∈ f, b ∉ S) : NewM w' m f xs k es clock :=
 ⟨hc.keepb h.at_ hm, h.stamped, h.size, fun e he => by obtain ⟨r, h1, h2, h3⟩ := h.each e he; exact ⟨r, h1, h2, h3.chg hc hS⟩, h.all⟩
theorem NewM.ext {w w' : World} {m k clock : Nat} {f : List Nat} {xs : List Rec} {es : Array MapEntry} (h : NewM w m f xs k es clock) (hc : Chg [] w w') : NewM w' m f xs k es clock := h.chg hc (by simp) (by simp)
theorem NewM.skip {w : World} {m k clock : Nat} {f : List Nat} {xs : List Rec} {es : Array MapEntry} {x : Rec} (h : NewM w m f xs k es clock) (hx : xs[k]? = some x) (hk : x.kD ≠ 1) : NewM w m f xs (k + 1) es clock :=
 ⟨h.at_, h.stamped, Nat.le_succ_of_le h.size, fun e he => by obtain ⟨r, h1, h2⟩ := h.each e he; exact ⟨r, (news_skip hx hk r).2 h1, h2⟩, fun r hr => h.all r ((news_skip hx hk r).1 hr)⟩
theorem q9d {w : World} {b : Nat} {o o' : Obj} (h : w.heap[b]? = some o) : (setBlock w b o').heap[b]? = some o' := (MapKept.heap_set h).1
theorem Chg.setBlock {S : List Nat} {a w : World} {b : Nat} {o o' : Obj} (h : Chg S a w) (hb : w.heap[b]? = some o) (hn : ∀ c E fr, o ≠ Ad c E fr) (hp : b ∈ S ∨ a.heap.size ≤ b) : Chg S a (setBlock w b o') := by
 refine h.trans (T := [b]) ⟨rfl, rfl, rfl, by simp [ChangeMaps.setBlock], fun k _ hk => ?_, fun k ⟨c, E, hk⟩ => ⟨c, E, ?_⟩⟩ ?_
 ·exact (MapKept.heap_set hb).2 k (by simpa using hk)
 ·have : k ≠ b := fun e => by subst e; rw [hb] at hk; exact hn _ _ _ (Option.some.inj hk)
  exact ((MapKept.heap_set hb).2 k this).trans hk
 ·intro x hx; simp at hx; subst hx; exact hp
theorem NewM.put {P : Program} {t kt et : TypeId} {w : World} {m k clock : Nat} {f : List Nat} {xs : List Rec} {es : Array MapEntry} {x : Rec} {v : Value} (ht : P.underlying t = some (.map kt et)) (hs : P.underlying kt = some .string) (h : NewM w m f xs k es clock) (hx : xs[k]? = some x) (hk : x.kD = 1) (hv : RecV w f v x) (hm : m ∉ f) :
  ∃ w' es' clock', (Instr.mapUpdate t (.map (some m)) (Ab x.nM) v).run P w = .ok () w' ∧ NewM w' m f xs (k + 1) es' clock' ∧ Chg [m] w w' := by
 have hks : ∀ e ∈ es.toList, MapKept.IsKey .string e.key := fun e he => by
  obtain ⟨r, -, h2, -⟩ := h.each e he;rw [h2]; trivial
 have key : ∀ (es' : Array MapEntry) (clock' : Nat), MapKept.Stamped es' clock' → es'.size ≤ es.size + 1 → (∀ e ∈ es'.toList, (e.key = Ab x.nM ∧ e.val = v) ∨ (e ∈ es.toList ∧ e.key ≠ Ab x.nM)) → (∀ e ∈ es.toList, e.key ≠ Ab x.nM → e ∈ es'.toList) → (∃ e ∈ es'.toList, e.key = Ab x.nM) →
   NewM (setBlock w m (.map es' clock')) m f xs (k + 1) es' clock' ∧ Chg [m] w (setBlock w m (.map es' clock')) := by
  intro es' clock' h1 h2 h3 h4 h5;have hc : Chg [m] w (setBlock w m (.map es' clock')) := (Chg.refl [m] w).setBlock h.at_ (fun _ _ _ e => by cases e) (.inl (by simp));have hS : ∀ b ∈ f, b ∉ [m] := fun b hb e => by simp at e; subst e; exact hm hb
  refine ⟨⟨q9d h.at_, h1, by have := h.size; omega, fun e he => ?_, fun r hr => ?_⟩, hc⟩
  ·rcases h3 e he with ⟨k1, k2⟩ | ⟨k1, k2⟩
   ·exact ⟨x, (q9i hx hk x).2 (.inl rfl), k1, by rw [k2]; exact hv.chg hc hS⟩
   ·obtain ⟨r, r1, r2, r3⟩ := h.each e k1;refine ⟨r, (q9i hx hk r).2 (.inr ⟨r1, fun hn => k2 (by rw [r2, hn])⟩), r2, r3.chg hc hS⟩
  ·rcases (q9i hx hk r).1 hr with rfl | ⟨r1, r2⟩
   ·exact h5
   ·obtain ⟨e, he, ek⟩ := h.all r r1;exact ⟨e, h4 e he (by rw [ek]; intro e2; exact r2 (by injection e2)), ek⟩
 rcases MapKept.findNow_spec (d := .string) (k := Ab x.nM) trivial es.toList 0 hks with ⟨h1, h2⟩ | ⟨j, e, h1, h2, h3⟩
 ·refine ⟨_, _, _, ?_, key (es.push { key := Ab x.nM, val := v, born := clock }) (clock + 1) (MapKept.stamped_push h.stamped h2) (by simp) ?_ ?_ ?_⟩
  ·simp [Instr.mapUpdate, run_underlying ht, MapKept.run_getObj_map h.at_, MapKept.run_checkKey (k := Ab x.nM) hs trivial, MapKept.run_findKey hs h1, MapKept.run_setObj_map _ h.at_, Result.andThen, ChangeMaps.setBlock]
  ·intro e he;simp only [BO, Bq, Bo] at he;rcases he with he | rfl
   ·exact .inr ⟨he, h2 e he⟩
   ·exact .inl ⟨rfl, rfl⟩
  ·intro e he _;simp only [BO, Bq];exact .inl he
  ·exact ⟨{ key := Ab x.nM, val := v, born := clock }, by simp, rfl⟩
 ·have hj : es[j]? = some e := by simpa using h2
  have hkey : ∀ e', es[j]? = some e' → ({ e' with key := Ab x.nM, val := v } : MapEntry).key = e'.key := fun e' Ah => by rw [hj] at Ah; cases Ah; exact h3.symm
  have AU : ∀ i e', es[i]? = some e' → e'.key = Ab x.nM → i = j := by
   intro i e' hi AR;have hn := h.stamped.2.2;have a1 : (es.toList.map (·.key))[i]? = some (Ab x.nM) := by rw [BP, Bp, hi, Option.map_some, AR]
   have a2 : (es.toList.map (·.key))[j]? = some (Ab x.nM) := by rw [BP, Bp, hj, Option.map_some, h3]
   exact (List.getElem?_inj (List.getElem?_eq_some_iff.1 a1).1 hn).1 (a1.trans a2.symm)
  refine ⟨_, _, _, ?_, key (es.modify j fun e => { e with key := Ab x.nM, val := v }) clock (MapKept.stamped_modify h.stamped _ _ (fun _ _ => rfl) (fun e' _ Ah => hkey e' Ah)) (by simp) ?_ ?_ ?_⟩
  ·simp [Instr.mapUpdate, run_underlying ht, MapKept.run_getObj_map h.at_, MapKept.run_checkKey (k := Ab x.nM) hs trivial, MapKept.run_findKey hs h1, hj, h3, MapKept.run_keyThatStays (d := .string) (k := Ab x.nM) trivial, MapKept.run_setObj_map _ h.at_, Result.andThen, ChangeMaps.setBlock]
  ·intro e' Ah;obtain ⟨i, hi, e1⟩ := BJ Ah;have e2 : (es.modify j fun e => { e with key := Ab x.nM, val := v })[i]? = some e' := by
    rw [← Bp, Bt hi, e1]
   rw [Br] at e2;by_cases Aw : j = i
   ·subst Aw;rw [if_pos rfl, hj] at e2;cases e2;exact .inl ⟨rfl, rfl⟩
   ·rw [if_neg Aw] at e2;exact .inr ⟨BA.2 (B7 e2), fun AR => Aw (AU i e' e2 AR).symm⟩
  ·intro e' Ah hne;obtain ⟨i, hi, e1⟩ := BJ Ah;have e2 : es[i]? = some e' := by rw [← Bp, Bt hi, e1]
   have Aw : j ≠ i := fun e3 => by subst e3; rw [hj] at e2; cases e2; exact hne h3
   refine BA.2 (B7 (i := i) ?_);rw [Br, if_neg Aw];exact e2
  ·refine ⟨{ e with key := Ab x.nM, val := v }, BA.2 (B7 (i := j) ?_), rfl⟩;rw [Br, if_pos rfl, hj]
   rfl
end Go.Proofs.YthhaednigdgclaaGreat
namespace Go.Proofs.YthhaednigdgclaaGreat
open Go.RowKit
open Go.Lib (hid)
open Go.ChangeMaps (setBlock)
def q8k (w : World) (it b clock : Nat) (seen : Array Nat) : Prop := w.heap[it]? = some (.mapIter (some b) clock seen clock)
def LeftNo (es : Array MapEntry) (seen : Array Nat) : Prop := (leftOf es seen).size = 0
def LeftIn (e : MapEntry) (es : Array MapEntry) (seen : Array Nat) : Prop := e ∈ (leftOf es seen).toList
def Said (es : Array MapEntry) (seen : Array Nat) (r : Rec) : Prop := ∃ e ∈ es.toList, e.key = Ab r.nM ∧ seen.contains e.born = true
section
variable {P : Program} (w : World) {ops : Array Oper} {rest : List Oper} {o : Oper} {a : Act} {Q : Exit → Act → World → Prop}
theorem wpl_put (hg : o.guard = none) (m x v : Operand) (t : TypeId) (hop : o.op = Op.mapUpdate t m x v) {kt et : TypeId} (ht : P.underlying t = some (.map kt et)) (hs : P.underlying kt = some .string) {b k clock : Nat} {f : List Nat} {xs : List Rec} {es : Array MapEntry} {r : Rec} {val : Value}
  (em : a.eval m = .map (some b)) (ex : a.eval x = Ab r.nM) (ev : a.eval v = val) (h : NewM w b f xs k es clock) (hx : xs[k]? = some r) (hk : r.kD = 1) (hv : RecV w f val r) (hb : b ∉ f)
  (hK : ∀ w' es' clock', NewM w' b f xs (k + 1) es' clock' → Chg [b] w w' → wpList P ops Q rest (a.put o.dst undef) w') : wpList P ops Q (o :: rest) a w := by
 refine wpList_plain hg fun K' hK' => ?_
 obtain ⟨w', es', clock', hrun, h1, h2⟩ := h.put ht hs hx hk hv hb;unfold Oper.wp;simp [execOp, hop, em, ex, ev, hrun, Result.andThen];exact hK' _ _ (hK w' es' clock' h1 h2)
theorem wpl_range (hg : o.guard = none) (m : Operand) (t : TypeId) (hop : o.op = Op.range t m) {kt et : TypeId} (ht : P.underlying t = some (.map kt et)) {b clock : Nat} {es : Array MapEntry} (em : a.eval m = .map (some b)) (hb : w.heap[b]? = some (.map es clock))
  (hK : wpList P ops Q rest (a.put o.dst (.pointer (some ⟨w.heap.size, 0, none⟩))) (w.alloc (.mapIter (some b) clock #[] clock))) : wpList P ops Q (o :: rest) a w := by
 refine wpList_plain hg fun K' hK' => ?_
 have hrun := run_range_map (P := P) w t kt et b es clock ht hb;unfold Oper.wp;simp [execOp, hop, em, hrun, Result.andThen];exact hK' _ _ hK
theorem wpl_next (hg : o.guard = none) (p : Operand) (hop : o.op = Op.next p false) {it b clock : Nat} {seen : Array Nat} {f : List Nat} {xs : List Rec} {k : Nat} {es : Array MapEntry} (em : a.eval p = .pointer (some ⟨it, 0, none⟩)) (h : NewM w b f xs k es clock) (hi : q8k w it b clock seen)
  (hDone : LeftNo es seen → wpList P ops Q rest (a.put o.dst (.tuple #[Ac false])) w)
  (hMore : ∀ (e : MapEntry) (w' : World), Hid (LeftIn e es seen ∧ q8k w' it b clock (seen.push e.born) ∧ Chg [it] w w' ∧ w'.heap.size = w.heap.size) → wpList P ops Q rest (a.put o.dst (.tuple #[Ac true, e.key, e.val])) w') : wpList P ops Q (o :: rest) a w := by
 refine wpList_plain hg fun K' hK' => ?_
 unfold Oper.wp;rcases run_next_at (P := P) w o.type it b clock clock seen es clock hi h.at_ h.stamped.1 (BG _) with ⟨h0, hrun⟩ | ⟨e, he, w1, AP, hrun⟩
 ·simp [execOp, hop, em, hrun, Result.andThen];exact hK' _ _ (hDone h0)
 ·simp [execOp, hop, em, hrun, Result.andThen];have hi1 : w1.heap[it]? = some (.mapIter (some b) clock seen clock) := by rcases AP with rfl | rfl <;> exact hi
  have hc1 : Chg [it] w w1 := by rcases AP with rfl | rfl; exact Chg.refl _ _; exact (Chg.refl _ _).drew
  have hs1 : w1.heap.size = w.heap.size := by rcases AP with rfl | rfl <;> rfl
  exact hK' _ _ (hMore e _ ⟨he, q9d hi1, hc1.setBlock hi1 (fun _ _ _ e => by cases e) (.inl (by simp)), by rw [← hs1]; simp [ChangeMaps.setBlock]⟩)
end
theorem NewM.entry {w : World} {m k clock : Nat} {f : List Nat} {xs : List Rec} {es : Array MapEntry} {e : MapEntry} {seen : Array Nat} (h : NewM w m f xs k es clock) (he : e ∈ (leftOf es seen).toList) :
  ∃ (r : Rec) (a6 : Option Addr) (l6 c6 : Nat) (a7 : Option Addr) (l7 c7 : Nat) (a8 : Option Addr) (l8 c8 : Nat) (fq : List Nat), Hid (NewS xs k r ∧ recL.rep w [I J r.kD, I J r.seq, Ab r.nM, I J r.length, I J r.gP, I J r.row, Aa a6 l6 c6, Aa a7 l7 c7, Aa a8 l8 c8] r fq ∧ (∀ y ∈ fq, y ∈ f)) ∧
   e.key = Ab r.nM ∧ e.val = .agg #[I J r.kD, I J r.seq, Ab r.nM, I J r.length, I J r.gP, I J r.row, Aa a6 l6 c6, Aa a7 l7 c7, Aa a8 l8 c8] := by
 obtain ⟨r, h1, h2, cs, fq, h3, h4, h5⟩ := h.each e (mem_left he).1;obtain ⟨a6, l6, c6, f6, a7, l7, c7, f7, a8, l8, c8, f8, ex, -⟩ := q0m.1 h4;subst ex;exact ⟨r, a6, l6, c6, a7, l7, c7, a8, l8, c8, fq, ⟨h1, h4, h5⟩, h2, h3⟩
theorem entry_at {P : Program} {w : World} {it b clock : Nat} {seen : Array Nat} {es : Array MapEntry} {e : MapEntry} {f : List Nat} {xs : List Rec} {k : Nat} (h : NewM w b f xs k es clock) (hi : q8k w it b clock (seen.push e.born)) (he : e ∈ (leftOf es seen).toList) :
  (Instr.entry (.pointer (some ⟨it, 0, none⟩))).run P w = .ok (.tuple #[e.key, e.val]) w := run_entry_at w it b clock seen es clock e hi h.at_ (mem_left he).1 h.stamped.2.1
def Gath (xs : List Rec) (k : Nat) (es : Array MapEntry) (seen : Array Nat) (ys : List Rec) : Prop :=
 z0b ys ∧ (∀ r, r ∈ ys ↔ (NewS xs k r ∧ r.length ≠ -1 ∧ Said es seen r)) ∧ ys.length + (leftOf es seen).size ≤ es.size
theorem Gath.start (xs : List Rec) (k : Nat) (es : Array MapEntry) : Gath xs k es #[] [] := by
 refine ⟨List.Pairwise.nil, fun r => ⟨fun h => by simp at h, fun ⟨_, _, e, _, _, h⟩ => by simp at h⟩, ?_⟩;unfold leftOf;simp only [List.length_nil, BW];exact Array.size_filter_le
theorem q5p {xs : List Rec} {k : Nat} {w : World} {m clock : Nat} {f : List Nat} {es : Array MapEntry} {seen : Array Nat} {e : MapEntry} {r s : Rec} (h : NewM w m f xs k es clock) (he : e ∈ (leftOf es seen).toList) (hr : NewS xs k r) (hk : e.key = Ab r.nM) (hs : NewS xs k s) : Said es (seen.push e.born) s ↔ Said es seen s ∨ s = r := by
 constructor
 ·rintro ⟨e2, h1, h2, h3⟩;rw [contains_push, Bool.or_eq_true] at h3;rcases h3 with h3 | h3
  ·exact .inl ⟨e2, h1, h2, h3⟩
  ·have hb : e2.born = e.born := by simpa using h3
   have e3 : e2 = e := born_inj h.stamped.2.1 h1 (mem_left he).1 hb;subst e3;rw [hk] at h2
   injection h2 with h2
   exact .inr (hs.uniq hr h2.symm)
 ·rintro (⟨e2, h1, h2, h3⟩ | rfl)
  ·exact ⟨e2, h1, h2, by rw [contains_push, h3]; rfl⟩
  ·exact ⟨e, (mem_left he).1, hk, by rw [contains_push]; simp⟩
theorem not_said {xs : List Rec} {k : Nat} {w : World} {m clock : Nat} {f : List Nat} {es : Array MapEntry} {seen : Array Nat} {e : MapEntry} {r : Rec} (h : NewM w m f xs k es clock) (he : e ∈ (leftOf es seen).toList) (hk : e.key = Ab r.nM) : ¬ Said es seen r := by
 rintro ⟨e2, h1, h2, h3⟩;have hn := ((MapKept.stamped_iff es clock).1 h.stamped).2.2;have e3 : e2 = e := entry_eq_of_key hn h1 (mem_left he).1 (h2.trans hk.symm);subst e3;rw [(mem_left he).2] at h3; cases h3
theorem Gath.no {xs : List Rec} {k : Nat} {w : World} {m clock : Nat} {f : List Nat} {es : Array MapEntry} {seen : Array Nat} {e : MapEntry} {r : Rec} {ys : List Rec} (g : Gath xs k es seen ys) (h : NewM w m f xs k es clock) (he : e ∈ (leftOf es seen).toList) (hr : NewS xs k r) (hk : e.key = Ab r.nM) (hl : r.length = -1) : Gath xs k es (seen.push e.born) ys := by
 obtain ⟨g1, g2, g3⟩ := g;refine ⟨g1, fun s => ?_, by have := left_shrinks es seen e he; omega⟩;rw [g2 s];constructor
 ·rintro ⟨h1, h2, h3⟩; exact ⟨h1, h2, (q5p h he hr hk h1).2 (.inl h3)⟩
 ·rintro ⟨h1, h2, h3⟩;rcases (q5p h he hr hk h1).1 h3 with h3 | rfl
  ·exact ⟨h1, h2, h3⟩
  ·exact absurd hl h2
theorem Gath.yes {xs : List Rec} {k : Nat} {w : World} {m clock : Nat} {f : List Nat} {es : Array MapEntry} {seen : Array Nat} {e : MapEntry} {r : Rec} {ys : List Rec} (g : Gath xs k es seen ys) (h : NewM w m f xs k es clock) (he : e ∈ (leftOf es seen).toList) (hr : NewS xs k r) (hk : e.key = Ab r.nM) (hl : r.length ≠ -1) : Gath xs k es (seen.push e.born) (ys ++ [r]) := by
 obtain ⟨g1, g2, g3⟩ := g;refine ⟨BI.2 ⟨g1, BF _ _, fun x hx y hy hn => ?_⟩, fun s => ?_, by have := left_shrinks es seen e he; simp only [BL, BH]; omega⟩
 ·rw [Bo] at hy;subst hy;obtain ⟨h1, -, h3⟩ := (g2 x).1 hx;have := h1.uniq hr hn;subst this;exact not_said h he hk h3
 ·rw [Bq, Bo, g2 s];constructor
  ·rintro (⟨h1, h2, h3⟩ | rfl)
   ·exact ⟨h1, h2, (q5p h he hr hk h1).2 (.inl h3)⟩
   ·exact ⟨hr, hl, (q5p h he hr hk hr).2 (.inr rfl)⟩
  ·rintro ⟨h1, h2, h3⟩;rcases (q5p h he hr hk h1).1 h3 with h3 | rfl
   ·exact .inl ⟨h1, h2, h3⟩
   ·exact .inr rfl
theorem Gath.last {xs : List Rec} {k : Nat} {w : World} {m clock : Nat} {f : List Nat} {es : Array MapEntry} {seen : Array Nat} {ys : List Rec} (g : Gath xs k es seen ys) (h : NewM w m f xs k es clock) (h0 : (leftOf es seen).size = 0) : z0b ys ∧ ∀ r, r ∈ ys ↔ (NewS xs k r ∧ r.length ≠ -1) := by
 obtain ⟨g1, g2, -⟩ := g;refine ⟨g1, fun r => ?_⟩;rw [g2 r];constructor
 ·rintro ⟨h1, h2, -⟩; exact ⟨h1, h2⟩
 ·rintro ⟨h1, h2⟩;obtain ⟨e, he, hk⟩ := h.all r h1;exact ⟨h1, h2, e, he, hk, all_seen es seen h0 e he⟩
def Lay.celled {α : Type} (L : Lay α) : Prop := ∀ {w : World} {cs : List Value} {x : α} {fp : List Nat}, L.rep w cs x fp → ∀ b ∈ fp, ∃ cur E fr, w.heap[b]? = some (Ad cur E fr)
theorem Lay.all_celled {α : Type} {L : Lay α} (hL : L.celled) {w : World} : ∀ {xs : List α} {cs : List Value} {fp : List Nat}, L.all w cs xs fp → ∀ b ∈ fp, ∃ cur E fr, w.heap[b]? = some (Ad cur E fr) := by
 intro xs
 induction xs with
 | nil => intro cs fp h b hb; obtain ⟨_, rfl⟩ := h; cases hb
 | cons x xs ih =>
  intro cs fp h b hb;obtain ⟨c1, c2, f1, f2, rfl, rfl, h1, h2⟩ := h;rcases Bq.1 hb with h | h
  ·exact hL h1 b h
  ·exact ih h2 b h
theorem Lay.sl_celled {α : Type} {L : Lay α} (hL : L.celled) {w : World} {a : Option Addr} {l c : Nat} {xs : List α} {f : List Nat} (h : L.sl w a l c xs f) : ∀ b ∈ f, ∃ cur E fr, w.heap[b]? = some (Ad cur E fr) := by
 intro b hb;obtain ⟨_, _, _, _, h⟩ := h;rcases h with ⟨_, rfl⟩ | ⟨g, off, cur, E, fr, Ae, rfl, hg, hall, rfl⟩
 ·cases hb
 ·rcases B5.1 hb with rfl | hb
  ·exact ⟨cur, E, fr, hg⟩
  ·exact L.all_celled hL hall b hb
theorem Lay.flat_celled {α : Type} {L : Lay α} (hL : L.flat) : L.celled := fun h b hb => by rw [hL _ _ _ _ h] at hb; cases hb
theorem rec_celled : recL.celled := fun h b hb => by
 obtain ⟨a6, l6, c6, f6, a7, l7, c7, f7, a8, l8, c8, f8, -, -, -, -, -, -, -, h6, h7, h8, rfl⟩ := q0m.1 h;rcases Bq.1 hb with h | hb
 ·exact Lay.sl_celled (Lay.flat_celled q8v) h6 b h
 ·rcases Bq.1 hb with h | h
  ·exact Lay.sl_celled (Lay.flat_celled q5w) h7 b h
  ·exact Lay.sl_celled (Lay.flat_celled q5w) h8 b h
theorem not_in_recs {w : World} {m clock : Nat} {f : List Nat} {xs : List Rec} {es : Array MapEntry} {a : Option Addr} {l c : Nat} (h : w.heap[m]? = some (.map es clock)) (hs : recL.sl w a l c xs f) : m ∉ f := fun hm => by
 obtain ⟨cur, E, fr, e⟩ := Lay.sl_celled rec_celled hs m hm;rw [h] at e; cases e
theorem os_ne {w : World} {v : Value} {xs : List Rec} {g b : Nat} {Ae : List Nat} {o : Obj} {E : TypeId} (ho : recL.os E w v xs (some g) Ae) (hb : w.heap[b]? = some o) (hn : ∀ c E fr, o ≠ Ad c E fr) : g ≠ b := fun e => by
 obtain ⟨c, E, h⟩ := recL.os_loose ho g rfl;rw [e, hb] at h;exact hn _ _ _ (Option.some.inj h)
theorem q5r {w : World} {it b clock k : Nat} {seen : Array Nat} {f : List Nat} {xs : List Rec} {es : Array MapEntry} (h : NewM w b f xs k es clock) (hi : q8k w it b clock seen) : w.rangeLeft b it = (leftOf es seen).size := by
 unfold World.rangeLeft;rw [h.at_, show w.heap[it]? = _ from hi]
end Go.Proofs.YthhaednigdgclaaGreat
namespace Go.Proofs.YthhaednigdgclaaGreat
open Go.RowKit
open Go.Lib (hid)
def q9v (k : Nat) (fn : Value) : Prop := ∀ (v : Value) (ys : List Rec) (g : Nat) (Ae : List Nat) (w : World), recL.os 38 w v ys (some g) Ae → ys.length ≤ 400 →
 Calls Tryz.prog k #[v, fn] w fun e w' => e = .returned (.tuple #[]) ∧ ∃ zs a l c f', v = Aa a l c ∧ recL.sl w' a l c zs f' ∧ Srt q2z zs ∧ zs.Perm ys ∧ Chg [g] w w' ∧ ∀ y ∈ f', y = g ∨ y ∈ Ae
theorem q7s.full {n0 : Nat} {xs : List Rec} {w : World} {e : Ending} {w' : World} (h : q7s n0 xs w e w') : ∃ a l c f, e = .returned (Aa a l c) ∧ recL.sl w' a l c xs f ∧ l = xs.length ∧ Chg [] w w' ∧ ∀ y ∈ f, y < n0 ∨ w.heap.size ≤ y := by
 obtain ⟨g, n, cap, qs, rfl, h1, h2, h3, h4, h5, h6, h7, h8⟩ := h;have hs := h1.sl h3 h5 h6;rw [h2] at hs;refine ⟨_, _, _, _, rfl, hs, by rw [h3, ← h2, BV], h8, fun y hy => ?_⟩;rcases B5.1 hy with rfl | hy
 ·exact .inr h4
 ·obtain ⟨p, hp, hy⟩ := List.mem_flatMap.1 hy;exact .inl (h7 p hp y hy)
def SlR2 (n0 : Nat) (xs : List Rec) (w : World) (e : Ending) (w' : World) : Prop := ∃ a l c f, e = .returned (Aa a l c) ∧ recL.sl w' a l c xs f ∧ Chg [] w w' ∧ ∀ y ∈ f, y < n0 ∨ w.heap.size ≤ y
theorem q9w.full {xs : List Rec} {w : World} {e : Ending} {w' : World} (h : q9w xs w e w') : ∃ a l c f, e = .returned (Aa a l c) ∧ recL.sl w' a l c xs f ∧ l = xs.length ∧ Chg [] w w' := by
 obtain ⟨v, rfl, hr, hc⟩ := h.rwd;obtain ⟨a, l, c, f, rfl, hs, hl⟩ := hr.sl;exact ⟨a, l, c, f, rfl, hs, hl, hc⟩
theorem gath_liv {xs ys zs : List Rec} (h : z0b ys ∧ ∀ r, r ∈ ys ↔ (NewS xs xs.length r ∧ r.length ≠ -1)) (hl : ∀ r ∈ xs, r.kD = 1 → r.length ≠ -1 → 0 ≤ r.length) (hs : Srt q2z zs) (hp : zs.Perm ys) : zs = livL xs := by
 refine liv_apart hs ((hp.pairwise_iff (fun h => h.symm)).2 h.1) (fun r => ?_);rw [hp.mem_iff, h.2 r];constructor
 ·rintro ⟨h1, h2⟩;refine ⟨h1, ?_⟩;obtain ⟨i, -, h3, h4, -⟩ := h1;exact hl r (List.mem_of_getElem? h3) h4 h2
 ·rintro ⟨h1, h2⟩; exact ⟨h1, by omega⟩
theorem newest_at (n0 : Nat) (Ag : q9v 47 (.func (.func 48) #[] #[])) (m : Nat) {u0 u1 u2 u3 u4 u5 u6 u7 u8 u9 AL AK AJ AH : Value} (Am : Option Addr) (Ai c12 : Nat) (Au : List Nat) (ts : List Tap) (w : World) (h : w.heap[m]? = some (.cells #[u0, u1, u2, u3, u4, u5, u6, u7, u8, u9, AL, Aa Am Ai c12, AK, AJ, AH] 30 (0, 0))) (Az : tapL.sl w Am Ai c12 ts Au) (hz : (ts.flatMap (·.rC)).length ≤ 400) (hlv : ∀ r ∈ cntL ts, r.kD = 1 → r.length ≠ -1 → 0 ≤ r.length) (hn0 : ∀ y ∈ Au, y < n0) (h00 : n0 ≤ w.heap.size) :
  Calls Tryz.prog 19 #[.pointer (some ⟨m, 0, none⟩)] w (SlR2 n0 (livL (cntL ts)) w) := by
 obtain ⟨KR, _⟩ := q4y;obtain ⟨W, hW⟩ : ∃ W, W = w.alloc (.map #[] 0) := ⟨_, rfl⟩;obtain ⟨b, hb⟩ : ∃ b, b = w.heap.size := ⟨_, rfl⟩;have g0 : Chg [] w W := by rw [hW]; exact (Chg.refl [] w).alloc _
 have HN := hid (z0u n0 m Am Ai c12 Au ts W (g0.keep0 h) (tapL.sl_ext Az g0) (by omega) hn0 (BB h00 g0.size)); have HWS := hid g0.size;have AA := hid (show W.heap[b]? = some (.map #[] 0) by rw [hW, hb]; exact q0k w _);have HLC := hid (BB (cntL_len ts) hz); have HLV := hid hlv; have G0 := hid g0; have HBW := hid (show w.heap.size ≤ b by omega);have hmk := run_makeMap (P := Tryz.prog) 74 w;rw [← hW, ← hb] at hmk;have HS := hid Ag;clear h Az hz hlv g0 hW hb Ag hn0 h00;go_enter Tryz.func19, Tryz.ntmps19;go_wp2_with fail;refine HN.o.mono ?_;rintro e w2 hp;obtain ⟨a, l, c, f, rfl, hs, hlx, hc, hfn⟩ := q7s.full hp;have Bl := hid hfn; clear hfn;obtain ⟨xs, AO⟩ : ∃ xs, xs = cntL ts := ⟨_, rfl⟩;have HX9 := hid AO;rw [← AO] at hs hlx HLC HLV;have hll : l ≤ 400 := by have := HLC.o; omega
 have A9 := hid (hc.keep0 AA.o);have HBF := hid (not_in_recs A9.o hs);have HFS := hid (fun y (hy : y ∈ f) => recL.sl_lt hs y hy);have HS2 := hid hs; have HC2 := hid (G0.o.trans0 hc); have HL := hid hlx;have HM0 := hid (⟨A9.o, MapKept.stamped_empty 0, by simp, by simp, fun r h => absurd h NewS.zero⟩ : NewM w2 b f xs 0 #[] 0);clear hp hs hlx hc AO hmk AA;go_wp2_with fail;go_loopw [13] (fun vi wr => ∃ (k : Nat) (es : Array MapEntry) (clock : Nat) (Wr : World), Wr = wr ∧ k ≤ l ∧ vi = I J k ∧ NewM wr b f xs k es clock ∧ recL.sl wr a l c xs f ∧ Chg [b] w2 wr) (fun vi _ => l - (intOf vi).toNat)
 case atStart => exact ⟨0, _, _, _, rfl, by omega, rfl, HM0.o, HS2.o, Chg.refl _ _⟩
 case round =>
  obtain ⟨k, es, clock, wr, rfl, hk, rfl, hm, hs, hc⟩ := hrel;by_cases hlt : k < l
  ·obtain ⟨r, b2, off2, cy, fq, HR, rfl, AG, AX⟩ := q4w hs hlt;obtain ⟨a6, l6, c6, f6, a7, l7, c7, f7, a8, l8, c8, f8, hcy, -⟩ := q0m.1 AX.o;subst hcy;have HXL := hid (show xs[k]? = some r from HR.o.1);have g1 : Chg [] wr (wr.alloc (.cells #[I J r.kD, I J r.seq, Ab r.nM, I J r.length, I J r.gP, I J r.row, Aa a6 l6 c6, Aa a7 l7 c7, Aa a8 l8 c8] 38)) := (Chg.refl [] wr).alloc _;have AA := hid (hm.ext g1); have HSB := hid (recL.sl_ext hs g1); have HCB := hid (hc.trans0 g1);have HRV := hid (show RecV (wr.alloc (.cells #[I J r.kD, I J r.seq, Ab r.nM, I J r.length, I J r.gP, I J r.row, Aa a6 l6 c6, Aa a7 l7 c7, Aa a8 l8 c8] 38)) f (.agg #[I J r.kD, I J r.seq, Ab r.nM, I J r.length, I J r.gP, I J r.row, Aa a6 l6 c6, Aa a7 l7 c7, Aa a8 l8 c8]) r from ⟨_, fq, rfl, recL.ext AX.o g1, HR.o.2.2⟩);clear hm hs hc g1 HR AX;by_cases Aq : r.kD = 1
   ·have hbk : (r.kD == 1) = true := by simp [Aq]
    have HKD := hid Aq;clear Aq;go_wp2_with (first | (at_mapUpdate; refine wpl_put _ rfl _ _ _ 74 rfl Tryz.underlying74 Tryz.underlying9 rfl rfl rfl AA.o HXL.o HKD.o HRV.o HBF.o ?_; intro w5 es5 clock5 hn5 hc5; have H5 := hid (BM hn5 hc5); clear hn5 hc5) | (refine q3d rfl _ 38 rfl rfl q1b Tryz.underlying38 AG.o.2.1 AG.o.1 ?_));have H6 := hid (BM H5.o.1 (BM (recL.sl_chg HSB.o H5.o.2 (fun y hy hm => HBF.o (by rw [Bo] at hm; exact hm ▸ hy))) (HCB.o.trans H5.o.2 (fun y hy => .inl hy))));go_roundw
    case rel => exact ⟨k + 1, _, _, _, rfl, by omega, by go_num, H6.o.1, H6.o.2.1, H6.o.2.2⟩
    case measure => simp [intOf]; omega
   ·have hbk : (r.kD == 1) = false := by simp [Aq]
    have HM1 := hid (AA.o.skip HXL.o Aq);clear Aq;go_wp2_with (refine q3d rfl _ 38 rfl rfl q1b Tryz.underlying38 AG.o.2.1 AG.o.1 ?_);go_roundw
    case rel => exact ⟨k + 1, _, _, _, rfl, by omega, by go_num, HM1.o, HSB.o, HCB.o⟩
    case measure => simp [intOf]; omega
  ·obtain rfl : k = l := by omega
   have HNM := hid hm; have HC := hid hc;have Bi := hid (fun y (hy : y ∈ f) => recL.sl_lt hs y hy);obtain ⟨it, hit⟩ : ∃ it, it = wr.heap.size + 1 := ⟨_, rfl⟩;have HIT := hid hit;obtain ⟨W4, Ay⟩ : ∃ W4, W4 = (wr.alloc (.cells #[] 38)).alloc (.mapIter (some b) clock #[] clock) := ⟨_, rfl⟩;have g4 : Chg [] wr W4 := by rw [Ay]; exact ((Chg.refl [] wr).alloc _).alloc _
   have hcw : Chg [] w wr := HC2.o.trans hc (fun y hy => .inr (by rw [Bo] at hy; rw [hy]; exact HBW.o));have HOM := hid (show ShF w.heap.size f W4 (Aa (some ⟨wr.heap.size, 0, none⟩) 0 0) [] by rw [Ay]; exact (ShF.made2 rfl hcw.size (fun hm => by have := Bi.o _ hm; omega)).ext ((Chg.refl [] _).alloc _));have Bb := hid (hm.ext g4); have Bn := hid (hcw.trans0 g4);have Be := hid (show q8k W4 it b clock #[] by rw [Ay, hit]; exact q0c (by simp) _);have Av : (wr.alloc (.cells #[] 38)).heap.size = it := by rw [hit]; simp
   have AY := hid g4.size; have HIW := hid (show w.heap.size ≤ it by have := hcw.size; omega);have HMA := hid (show (wr.alloc (.cells #[] 38)).heap[b]? = some (.map es clock) from q0b hm.at_ _);have HKL := hid HL.o;clear hm hs hc g4 hcw hit;go_wp2_with (at_range; refine wpl_range _ rfl _ 74 rfl Tryz.underlying74 rfl HMA.o ?_; rw [Av, ← Ay]; clear Av Ay);go_frame;go_loopw [6] (fun vo wq => ∃ (seen : Array Nat) (ys : List Rec) (Wq : World), Wq = wq ∧ q8k wq it b clock seen ∧ NewM wq b f xs k es clock ∧ ShF w.heap.size f wq vo ys ∧ Hid (Gath xs k es seen ys) ∧ Chg [] w wq ∧ wr.heap.size ≤ wq.heap.size) (fun _ wq => wq.rangeLeft b it)
   case atStart => exact ⟨#[], [], _, rfl, Be.o, Bb.o, HOM.o, Gath.start _ _ _, Bn.o, AY.o⟩
   case round =>
    obtain ⟨seen, ys, wq, rfl, hi, hm, hsh, AE, hcq, hsq⟩ := hrel;have HI := hid hi; have HM := hid hm; have HSH := hid hsh; have HCQ := hid hcq; have HSQ := hid hsq;have HRL := hid (q5r hm hi);have HYL := hid (show ys.length ≤ 400 by have h1 := AE.o.2.2; have h2 := hm.size; omega);clear hi hm hsh hcq hsq;go_wp2_with (at_next; refine wpl_next _ rfl _ rfl rfl HM.o HI.o ?_ ?_)
    ·intro h0;have HE := hid (AE.o.last HM.o h0);obtain ⟨g, Ae, ho, hg, Ar, Ak⟩ := HSH.o;have Bj := hid Ak;have HQ := hid (HS.o _ ys g Ae wq ho HYL.o);have HG := hid hg;clear h0 ho hg Ar Ak;go_wp2_with fail;refine HQ.o.mono ?_;rintro e w6 ⟨rfl, zs, a9, l9, c9, f9, rfl, hz1, hz2, hz3, hz4, hz5⟩;have HZ5 := hid (fun y (hy : y ∈ f9) => ((hz5 y hy).elim (fun e => .inr (e ▸ HG.o)) (fun h => (Bl.o y (Bj.o y h)).imp id (fun h => BB HWS.o h)) : y < n0 ∨ w.heap.size ≤ y)); clear hz5;have HZ := hid (show zs = livL xs from gath_liv (by have h := HE.o; rw [HKL.o] at h; exact h) HLV.o hz2 hz3);have HZ4 := hid (HCQ.o.trans hz4 (fun y hy => .inr (by rw [Bo] at hy; rw [hy]; exact HG.o)));have HZ1 := hid hz1;clear hz1 hz2 hz3 hz4;go_wp2_with fail;go_ret;exact ⟨_, _, _, _, rfl, by rw [← HX9.o, ← HZ.o]; exact HZ1.o, HZ4.o, HZ5.o⟩
    ·intro e wn Aj;obtain ⟨he, hi, Al, -⟩ := Aj.out;obtain ⟨r, a6, l6, c6, a7, l7, c7, a8, l8, c8, fq, HE, Ap, AQ⟩ := HM.o.entry he;have AV : b ≠ it := fun e1 => by have h1 := HM.o.at_; have h2 : wq.heap[it]? = _ := HI.o; rw [e1, h2] at h1; cases h1
     have Ax : ∀ y ∈ f, y ∉ [it] := fun y hy hm => by rw [Bo] at hm; have := Bi.o y hy; have := HIT.o; omega
     have AC := HM.o.chg Al (by simpa using AV) Ax;have hen := entry_at (P := Tryz.prog) AC hi he;rw [Ap, AQ] at hen ⊢;obtain ⟨g0, Ae, ho, hg, Ar, Ak⟩ := HSH.o;have AD : g0 ≠ it := os_ne ho HI.o (fun _ _ _ e => by cases e);have hgb : g0 ≠ b := os_ne ho HM.o.at_ (fun _ _ _ e => by cases e);have g1 : Chg [] wn (wn.alloc (.cells #[I J r.kD, I J r.seq, Ab r.nM, I J r.length, I J r.gP, I J r.row, Aa a6 l6 c6, Aa a7 l7 c7, Aa a8 l8 c8] 38)) := (Chg.refl [] wn).alloc _;have HON := hid (recL.os_chg ho Al (fun g' e => by cases e; simpa using AD) (fun y hy => Ax y (Ak y hy)));obtain ⟨a9, c9, rfl⟩ := recL.os_len ho;have Ba := hid (recL.os_ext HON.o g1);have AW := hid (recL.ext (recL.chg HE.o.2.1 Al (fun y hy => Ax y (HE.o.2.2 y hy))) g1);have HCN := hid (show Chg [] w (wn.alloc (.cells #[I J r.kD, I J r.seq, Ab r.nM, I J r.length, I J r.gP, I J r.row, Aa a6 l6 c6, Aa a7 l7 c7, Aa a8 l8 c8] 38)) from (HCQ.o.trans Al (fun y hy => .inr (by rw [Bo] at hy; rw [hy]; exact HIW.o))).trans0 g1);have Bc := hid (AC.ext g1); have Bf := hid (show q8k (wn.alloc (.cells #[I J r.kD, I J r.seq, Ab r.nM, I J r.length, I J r.gP, I J r.row, Aa a6 l6 c6, Aa a7 l7 c7, Aa a8 l8 c8] 38)) it b clock (seen.push e.born) from q0b hi _);have AZ := hid (show wr.heap.size ≤ (wn.alloc (.cells #[I J r.kD, I J r.seq, Ab r.nM, I J r.length, I J r.gP, I J r.row, Aa a6 l6 c6, Aa a7 l7 c7, Aa a8 l8 c8] 38)).heap.size by have h1 := HSQ.o; have h2 := g1.size; have h3 := Al.size; omega);have Bl := hid (fun y (hy : y ∈ f) => show y < (wn.alloc (.cells #[I J r.kD, I J r.seq, Ab r.nM, I J r.length, I J r.gP, I J r.row, Aa a6 l6 c6, Aa a7 l7 c7, Aa a8 l8 c8] 38)).heap.size by have h1 := Bi.o y hy; have h2 := AZ.o; omega);have HMS := hid (left_shrinks es seen e he);have HG := hid hg; have Bh := hid Ar; have HFP := hid Ak; have HFQ := hid HE.o.2.2;have HGQ := hid (show ∀ g', some g0 = some g' → g' ∉ fq from fun g' e hm => by cases e; exact Ar (HE.o.2.2 g0 hm));have HGB := hid (BM hgb AD);have HHE := hid he; have HKE := hid Ap;obtain ⟨lx, hlx⟩ : ∃ lx, lx = ys.length := ⟨_, rfl⟩;have HLL := hid (show ys.length + [r].length ≤ maxLen ∧ (ys.length + [r].length) * 128 ≤ 140737488355328 by have := HYL.o; simp only [BH, maxLen]; omega);rw [← hlx] at Ba HON ⊢;by_cases Ao : r.length = -1
     ·have hbl : (r.length != -1) = false := by simp [Ao]
      have Bg := hid (AE.o.no HM.o he HE.o.1 Ap Ao);clear hlx Aj Ao he Ap AQ AV Ax AC ho hg Ar Ak AD hgb g1 Al hi;go_wp2_with fail;go_roundw
      case rel => exact ⟨_, ys, _, rfl, Bf.o, Bc.o, ⟨g0, Ae, Ba.o, HG.o, Bh.o, HFP.o⟩, Bg, HCN.o, AZ.o⟩
      case measure => rw [q5r Bc.o Bf.o, HRL.o]; exact HMS.o
     ·have hbl : (r.length != -1) = true := by simp [Ao]
      have Bg := hid (AE.o.yes HM.o he HE.o.1 Ap Ao);clear hlx Aj Ao he Ap AQ AV Ax AC ho hg Ar Ak AD hgb g1 Al hi;go_wp2_with (at_builtin; refine recL.wpList_append rfl _ _ 32 rfl Tryz.underlying32 KR rfl (recL.os_ext Ba.o ((Chg.refl [] (wn.alloc (.cells #[I J r.kD, I J r.seq, Ab r.nM, I J r.length, I J r.gP, I J r.row, Aa a6 l6 c6, Aa a7 l7 c7, Aa a8 l8 c8] 38))).alloc (.cells #[I J r.kD, I J r.seq, Ab r.nM, I J r.length, I J r.gP, I J r.row, Aa a6 l6 c6, Aa a7 l7 c7, Aa a8 l8 c8] 38))) ⟨wn.heap.size + 1, 0, none⟩ 1 1 [I J r.kD, I J r.seq, Ab r.nM, I J r.length, I J r.gP, I J r.row, Aa a6 l6 c6, Aa a7 l7 c7, Aa a8 l8 c8] (ys := [r]) (f := fq) rfl rfl (q2f (b := wn.heap.size + 1) (q0c (by simp) _)) (recL.all_single (recL.ext AW.o ((Chg.refl [] (wn.alloc (.cells #[I J r.kD, I J r.seq, Ab r.nM, I J r.length, I J r.gP, I J r.row, Aa a6 l6 c6, Aa a7 l7 c7, Aa a8 l8 c8] 38))).alloc _))) HGQ.o HLL.o.1 HLL.o.2 ?_; intro v' w4 h' ho' hh' hc'; have Af := hid (ShF.step2 (F := f) HG.o Bh.o HFP.o HFQ.o (fun y hy => by have := Bl.o y hy; simp at this ⊢; omega) (HCN.o.alloc (.cells #[I J r.kD, I J r.seq, Ab r.nM, I J r.length, I J r.gP, I J r.row, Aa a6 l6 c6, Aa a7 l7 c7, Aa a8 l8 c8] 38)) ho' hh' hc'); clear ho' hh' hc');have H7 := hid (show NewM w4 b f xs k es clock ∧ q8k w4 it b clock (seen.push e.born) from ⟨(Bc.o.ext ((Chg.refl [] _).alloc _)).chg Af.o.2.2 (by simpa using HGB.o.1.symm) (fun y hy hm => Bh.o (by rw [Bo] at hm; exact hm ▸ hy)), Af.o.2.2.keepb (q0b Bf.o _) (by simpa using HGB.o.2.symm)⟩);have H8 := hid (BB AZ.o (BB (((Chg.refl [] (wn.alloc (.cells #[I J r.kD, I J r.seq, Ab r.nM, I J r.length, I J r.gP, I J r.row, Aa a6 l6 c6, Aa a7 l7 c7, Aa a8 l8 c8] 38))).alloc (.cells #[I J r.kD, I J r.seq, Ab r.nM, I J r.length, I J r.gP, I J r.row, Aa a6 l6 c6, Aa a7 l7 c7, Aa a8 l8 c8] 38)).size) Af.o.2.2.size));go_roundw
      case rel => exact ⟨_, ys ++ [r], _, rfl, H7.o.2, H7.o.1, Af.o.1, Bg, Af.o.2.1, H8.o⟩
      case measure => rw [q5r H7.o.1 H7.o.2, HRL.o]; exact HMS.o
theorem q7w (Ag : q9v 47 (.func (.func 48) #[] #[])) (m : Nat) {u0 u1 u2 u3 u4 u5 u6 u7 u8 u9 AL AK AJ AH : Value} (Am : Option Addr) (Ai c12 : Nat) (Au : List Nat) (ts : List Tap) (w : World) (h : w.heap[m]? = some (.cells #[u0, u1, u2, u3, u4, u5, u6, u7, u8, u9, AL, Aa Am Ai c12, AK, AJ, AH] 30 (0, 0))) (Az : tapL.sl w Am Ai c12 ts Au) (hz : (ts.flatMap (·.rC)).length ≤ 400) (hlv : ∀ r ∈ cntL ts, r.kD = 1 → r.length ≠ -1 → 0 ≤ r.length) :
  Calls Tryz.prog 19 #[.pointer (some ⟨m, 0, none⟩)] w (SlR (livL (cntL ts)) w) :=
 (newest_at w.heap.size Ag m Am Ai c12 Au ts w h Az hz hlv (fun y hy => tapL.sl_lt Az y hy) (BG _)).mono (fun _ _ ⟨a, l, c, f, e, hs, hc, _⟩ => ⟨a, l, c, f, e, hs, hc⟩)
open Go.Shelf Go.Lib Go.Sort
def q9y : Go.Shelf.Ren := ⟨fun | 6 => 47 | 15 => 100 | 14 => 99 | 28 => 127 | 29 => 128 | 20 => 119 | 21 => 120 | 22 => 121 | 23 => 122 | 24 => 123 | 25 => 124 | 26 => 125 | 27 => 126 | 46 => 137 | 47 => 138 | 48 => 139 | 49 => 140 | 50 => 141 | 57 => 144 | n => n, fun | 22 => 32 | 24 => 38 | 25 => 77 | 3 => 3 | 39 => 116 | 0 => 0 | 53 => 137 | 55 => 139 | 4 => 4 | 46 => 130 | 45 => 129 | 50 => 134 | 5 => 5 | 9 => 9 | 66 => 143 | 70 => 147 | 76 => 150 | 77 => 151 | n => n, fun | n => n⟩
theorem sortRecLay : Go.Proofs.SlLaysF0.n6 Tryz.prog q9y := {
 mixed := by kernel_rfl
 f6 := ⟨Tryz.f47.name, by decide, Tryz.func47.trans (congrArg some (by kernel_rfl))⟩
 f14 := ⟨Tryz.f99.name, by decide, Tryz.func99.trans (congrArg some (by kernel_rfl))⟩
 f15 := Tryz.func100.trans (congrArg some (by kernel_rfl))
 f20 := ⟨Tryz.f119.name, by decide, Tryz.func119.trans (congrArg some (by kernel_rfl))⟩
 f21 := ⟨Tryz.f120.name, by decide, Tryz.func120.trans (congrArg some (by kernel_rfl))⟩
 f22 := ⟨Tryz.f121.name, by decide, Tryz.func121.trans (congrArg some (by kernel_rfl))⟩
 f23 := ⟨Tryz.f122.name, by decide, Tryz.func122.trans (congrArg some (by kernel_rfl))⟩
 f24 := ⟨Tryz.f123.name, by decide, Tryz.func123.trans (congrArg some (by kernel_rfl))⟩
 f25 := ⟨Tryz.f124.name, by decide, Tryz.func124.trans (congrArg some (by kernel_rfl))⟩
 f26 := ⟨Tryz.f125.name, by decide, Tryz.func125.trans (congrArg some (by kernel_rfl))⟩
 f27 := ⟨Tryz.f126.name, by decide, Tryz.func126.trans (congrArg some (by kernel_rfl))⟩
 f28 := Tryz.func127.trans (congrArg some (by kernel_rfl))
 f29 := Tryz.func128.trans (congrArg some (by kernel_rfl))
 f46 := ⟨Tryz.f137.name, by decide, Tryz.func137.trans (congrArg some (by kernel_rfl))⟩
 f47 := Tryz.func138.trans (congrArg some (by kernel_rfl))
 f48 := Tryz.func139.trans (congrArg some (by kernel_rfl))
 f49 := ⟨Tryz.f140.name, by decide, Tryz.func140.trans (congrArg some (by kernel_rfl))⟩
 f50 := ⟨Tryz.f141.name, by decide, Tryz.func141.trans (congrArg some (by kernel_rfl))⟩
 f57 := ⟨Tryz.f144.name, by decide, Tryz.func144.trans (congrArg some (by kernel_rfl))⟩
 t0 := Tryz.underlying0
 a0 := Tryz.isAgg0
 z0 := Tryz.sizeOf0
 v0 := Tryz.zeroValue0
 t3 := Tryz.underlying3
 a3 := Tryz.isAgg3
 z3 := Tryz.sizeOf3
 v3 := Tryz.zeroValue3
 t4 := Tryz.underlying4
 a4 := Tryz.isAgg4
 z4 := Tryz.sizeOf4
 v4 := Tryz.zeroValue4
 t5 := Tryz.underlying5
 a5 := Tryz.isAgg5
 z5 := Tryz.sizeOf5
 v5 := Tryz.zeroValue5
 t9 := Tryz.underlying9
 a9 := Tryz.isAgg9
 z9 := Tryz.sizeOf9
 v9 := Tryz.zeroValue9
 t22 := Tryz.underlying32
 a22 := Tryz.isAgg32
 z22 := Tryz.sizeOf32
 v22 := Tryz.zeroValue32
 t25 := Tryz.underlying77
 a25 := Tryz.isAgg77
 z25 := Tryz.sizeOf77
 v25 := Tryz.zeroValue77
 t39 := Tryz.underlying116
 a39 := Tryz.isAgg116
 z39 := Tryz.sizeOf116
 v39 := Tryz.zeroValue116
 t45 := Tryz.underlying129
 a45 := Tryz.isAgg129
 z45 := Tryz.sizeOf129
 v45 := Tryz.zeroValue129
 t46 := Tryz.underlying130
 a46 := Tryz.isAgg130
 z46 := Tryz.sizeOf130
 v46 := Tryz.zeroValue130
 t50 := Tryz.underlying134
 a50 := Tryz.isAgg134
 z50 := Tryz.sizeOf134
 v50 := Tryz.zeroValue134
 t53 := Tryz.underlying137
 a53 := Tryz.isAgg137
 z53 := Tryz.sizeOf137
 v53 := Tryz.zeroValue137
 t55 := Tryz.underlying139
 a55 := Tryz.isAgg139
 z55 := Tryz.sizeOf139
 v55 := Tryz.zeroValue139
 t66 := Tryz.underlying143
 a66 := Tryz.isAgg143
 z66 := Tryz.sizeOf143
 v66 := Tryz.zeroValue143
 t70 := Tryz.underlying147
 a70 := Tryz.isAgg147
 z70 := Tryz.sizeOf147
 v70 := Tryz.zeroValue147
 t76 := Tryz.underlying150
 a76 := Tryz.isAgg150
 z76 := Tryz.sizeOf150
 v76 := Tryz.zeroValue150
 t77 := Tryz.underlying151
 a77 := Tryz.isAgg151
 z77 := Tryz.sizeOf151
 v77 := Tryz.zeroValue151 }
def z0z : Go.Shelf.Ren := ⟨fun | 106 => 49 | 213 => 101 | 265 => 129 | n => n, fun | n => n, fun | n => n⟩
theorem strCmpLay : Go.Proofs.Lays.n106 Tryz.prog z0z := {
 mixed := by kernel_rfl
 f106 := Tryz.func49.trans (congrArg some (by kernel_rfl))
 f213 := Tryz.func101.trans (congrArg some (by kernel_rfl))
 f265 := Tryz.func129.trans (congrArg some (by kernel_rfl))
 t3 := Tryz.underlying3
 a3 := Tryz.isAgg3
 z3 := Tryz.sizeOf3
 v3 := Tryz.zeroValue3
 t9 := Tryz.underlying9
 a9 := Tryz.isAgg9
 z9 := Tryz.sizeOf9
 v9 := Tryz.zeroValue9 }
abbrev RE := Rec × (Option Addr × Nat × Nat) × (Option Addr × Nat × Nat) × (Option Addr × Nat × Nat)
instance : Inhabited RE := ⟨(⟨0, 0, .empty, 0, 0, 0, [], [], []⟩, (none, 0, 0), (none, 0, 0), (none, 0, 0))⟩
def encR (x : RE) : List Value := [I J x.1.kD, I J x.1.seq, Ab x.1.nM, I J x.1.length, I J x.1.gP, I J x.1.row, Aa x.2.1.1 x.2.1.2.1 x.2.1.2.2, Aa x.2.2.1.1 x.2.2.1.2.1 x.2.2.1.2.2, Aa x.2.2.2.1 x.2.2.2.2.1 x.2.2.2.2.2]
def cmpR (x y : RE) : Int := Lib.compareBytes x.1.nM.data.toList y.1.nM.data.toList
theorem cmp_lt : ∀ a b : List UInt8, decide (Lib.compareBytes a b < 0) = Go.Op.bytesLess a b
 | [], [] => rfl
 | [], _ :: _ => rfl
 | _ :: _, [] => rfl
 | a :: x, b :: y => by
  have ih := cmp_lt x y;unfold Lib.compareBytes Go.Op.bytesLess;by_cases h : a < b
  ·rw [if_pos h]; simp [h]
  ·rw [if_neg h];by_cases h2 : b < a
   ·rw [if_pos h2];have h3 : (a == b) = false := by
     rw [beq_eq_false_iff_ne]; intro e; subst e; exact h h2
    simp [h, h3]
   ·rw [if_neg h2];have h3 : (a == b) = true := by
     rw [beq_iff_eq];exact UInt8.toNat_inj.1 (by rw [UInt8.lt_iff_toNat_lt] at h h2; omega)
    rw [ih]; simp [h, h3]
theorem q7f (x y : RE) : Go.Proofs.ltOf cmpR x y = q2z x.1 y.1 := by
 unfold Go.Proofs.ltOf cmpR q2z;rw [cmp_lt, ByteArray.toList_eq, ByteArray.toList_eq]
theorem swo_cmpR : SWO (Go.Proofs.ltOf cmpR) where
 irrefl x := by rw [q7f]; exact q2k.irr _
 trans x y z h k := by rw [q7f] at *; exact q2k.tr _ _ _ h k
 ntrans x y z h k := by rw [q7f] at *; exact q2k.ntr _ _ _ h k
theorem q5a (x : RE) : (encR x).length = 9 := rfl
theorem encR_one (x : RE) : ∀ v ∈ encR x, v.oneCell' = true := by
 intro v hv;simp only [encR, B5, List.not_mem_nil, or_false] at hv;rcases hv with rfl | rfl | rfl | rfl | rfl | rfl | rfl | rfl | rfl <;> rfl
theorem z1q : ∀ (ds : List RE) (t : Nat), t < ds.length * 9 → (ds.flatMap encR)[t]? = some ((encR ds.toArray[t / 9]!)[t % 9]!)
 | [], t, h => by simp at h
 | d :: ds, t, h => by
  rw [Bz];by_cases h9 : t < 9
  ·rw [List.getElem?_append_left (by rw [q5a]; exact h9), Nat.div_eq_of_lt h9, Nat.mod_eq_of_lt h9, Bt (by rw [q5a]; exact h9)];have e1 : (d :: ds).toArray[0]! = d := rfl;rw [e1, getElem!_pos (encR d) t (by rw [q5a]; exact h9)]
  ·rw [List.getElem?_append_right (by rw [q5a]; omega), q5a, z1q ds (t - 9) (by rw [BR] at h; omega)];have e1 : t / 9 = (t - 9) / 9 + 1 := by omega
   have e2 : t % 9 = (t - 9) % 9 := by omega
   have e3 : ∀ i, (d :: ds).toArray[i + 1]! = ds.toArray[i]! := fun i => by simp
   rw [e1, e2, e3]
theorem encR_flat (ds : List RE) : (ds.flatMap encR).length = ds.length * 9 := by
 induction ds with
 | nil => rfl
 | cons d ds ih => rw [Bz, BL, q5a, ih, BR]; omega
theorem flatK_list (ds : List RE) : (flatK encR 9 ds.toArray).toList = ds.flatMap encR := by
 apply BQ;intro t;by_cases h : t < ds.length * 9
 ·rw [z1q ds t h, Bp];have hs : t < (flatK encR 9 ds.toArray).size := by rw [size_flatK]; simpa using h
  have := get_flatK encR 9 ds.toArray t (by simpa using h);rw [getElem!_pos _ t hs] at this;rw [Bw hs, this]
 ·rw [Bu (by rw [Array.length_toList, size_flatK]; simpa using h), Bu (by rw [encR_flat]; omega)]
theorem all_enc {w : World} : ∀ {xs : List Rec} {cs : List Value} {fp : List Nat}, recL.all w cs xs fp → ∃ ds : List RE, ds.map (·.1) = xs ∧ cs = ds.flatMap encR ∧ ∀ x ∈ ds, ∃ fq, recL.rep w (encR x) x.1 fq ∧ ∀ y ∈ fq, y ∈ fp := by
 intro xs
 induction xs with
 | nil => intro cs fp h; obtain ⟨rfl, rfl⟩ := h; exact ⟨[], rfl, rfl, by simp⟩
 | cons x xs ih =>
  intro cs fp h;obtain ⟨c1, c2, f1, f2, rfl, rfl, h1, h2⟩ := h;obtain ⟨ds, e1, e2, e3⟩ := ih h2;obtain ⟨a6, l6, c6, f6, a7, l7, c7, f7, a8, l8, c8, f8, ex, -⟩ := q0m.1 h1;refine ⟨(x, (a6, l6, c6), (a7, l7, c7), (a8, l8, c8)) :: ds, by rw [List.map_cons, e1], by rw [Bz, ← e2, ex]; rfl, fun y hy => ?_⟩;rcases B5.1 hy with rfl | hy
  ·exact ⟨f1, by rw [ex] at h1; exact h1, fun z hz => Bq.2 (.inl hz)⟩
  ·obtain ⟨fq, k1, k2⟩ := e3 y hy;exact ⟨fq, k1, fun z hz => Bq.2 (.inr (k2 z hz))⟩
theorem enc_all {w : World} {fp : List Nat} : ∀ (ds : List RE), (∀ x ∈ ds, ∃ fq, recL.rep w (encR x) x.1 fq ∧ ∀ y ∈ fq, y ∈ fp) → ∃ Ae, recL.all w (ds.flatMap encR) (ds.map (·.1)) Ae ∧ ∀ y ∈ Ae, y ∈ fp
 | [], _ => ⟨[], ⟨rfl, rfl⟩, by simp⟩
 | d :: ds, h => by
  obtain ⟨Ae, h1, h2⟩ := enc_all ds (fun x hx => h x (List.mem_cons_of_mem _ hx));obtain ⟨fq, k1, k2⟩ := h d (by simp);exact ⟨fq ++ Ae, ⟨_, _, _, _, Bz, rfl, k1, h1⟩, fun y hy => (Bq.1 hy).elim (k2 y) (h2 y)⟩
theorem newest1_any (x y : RE) (W : World) : Calls Tryz.prog 48 (#[.agg (encR x).toArray, .agg (encR y).toArray] ++ #[]) W fun e w' => e = .returned (I J (cmpR x y)) ∧ ∃ q os', w' = grow (W.drewN q) os' := by
 have hcon := fun W' => Any.strings_Compare strCmpLay x.1.nM y.1.nM W'
 change ∀ W', Calls Tryz.prog 49 _ _ _ at hcon;unfold cmpR;generalize Lib.compareBytes x.1.nM.data.toList y.1.nM.data.toList = r at hcon ⊢;obtain ⟨x, ⟨a6, l6, c6⟩, ⟨a7, l7, c7⟩, a8, l8, c8⟩ := x;obtain ⟨y, ⟨b6, m6, d6⟩, ⟨b7, m7, d7⟩, b8, m8, d8⟩ := y;simp only [encR, List.append_toArray, List.append_nil];go_enter Tryz.func48, Tryz.ntmps48;go_wp2_with (go_at_call 49; refine (hcon _).mono ?_; rintro e w' ⟨rfl, rfl⟩);go_ret;exact ⟨rfl, 0, _, by rw [alloc_eq_grow, alloc_eq_grow, grow_grow]; rfl⟩
theorem chg_sortw (w : World) (g n : Nat) (F : Array Value) (os : Array Obj) : Chg [g] w (grow (putRow id (Sort.ahead w n) g 0 F) os) := by
 refine ⟨rfl, rfl, rfl, ?_, fun k hk hS => ?_, fun k ⟨c, E, hk⟩ => ?_⟩
 ·simp only [size_grow, putRow, mapBlock, Array.size_modify]; exact Nat.le_add_right _ _
 ·rw [heap_grow_old _ _ (by simpa [putRow, mapBlock] using hk)];simp only [putRow, mapBlock, Br];rw [if_neg (fun e => hS (by simp [e]))]
  rfl
 ·have hk2 := (Bv.1 hk).1;by_cases e : g = k
  ·subst e;refine ⟨putCells id 0 F c, E, ?_⟩;rw [heap_grow_old _ _ (by simpa [putRow, mapBlock] using hk2)];simp only [putRow, mapBlock, Br, if_true];rw [show (Sort.ahead w n).heap[g]? = _ from hk]; rfl
  ·refine ⟨c, E, ?_⟩;rw [heap_grow_old _ _ (by simpa [putRow, mapBlock] using hk2)];simp only [putRow, mapBlock, Br];rw [if_neg e]; exact hk
theorem at_sortw {w : World} {g : Nat} {c : Array Value} {E : TypeId} {fr : Nat × Nat} (n : Nat) (F : Array Value) (os : Array Obj) (hk : w.heap[g]? = some (Ad c E fr)) : (grow (putRow id (Sort.ahead w n) g 0 F) os).heap[g]? = some (Ad (putCells id 0 F c) E fr) := by
 have hk2 := (Bv.1 hk).1;rw [heap_grow_old _ _ (by simpa [putRow, mapBlock] using hk2)];simp only [putRow, mapBlock, Br, if_true];rw [show (Sort.ahead w n).heap[g]? = _ from hk]; rfl
theorem z1c (F c : Array Value) (h : F.size ≤ c.size) : (putCells id 0 F c).toList.take F.size = F.toList := by
 apply BQ;intro t;by_cases ht : t < F.size
 ·rw [BD ht, Bp, Bp];simp only [putCells, Array.getElem?_mapIdx];rw [Bw (by omega), Bw ht];simp [ht]
 ·rw [Bu (by simp; omega), Bu (by simp; omega)]
theorem perm_extract {d d' : Array RE} (h : PermIn 0 d.size d d') : d'.toList.Perm d.toList := by
 obtain ⟨h1, -, h3⟩ := h;have e1 : d.extract 0 d.size = d := by simp
 have e2 : d'.extract 0 d.size = d' := by rw [← h1]; simp
 rw [e1, e2] at h3;exact h3
theorem sorted_srt {d : Array RE} {n : Nat} (hn : n = d.size) (h : SortedIn (Go.Proofs.ltOf cmpR) 0 n d) : Srt q2z (d.toList.map (·.1)) := by
 subst hn;unfold Srt;rw [List.pairwise_iff_getElem];intro i j hi hj hij;have h1 := h i j (Nat.zero_le _) hij (by simpa using hj);rw [q7f] at h1;have hi' : i < d.size := by simpa using hi
 have hj' : j < d.size := by simpa using hj
 rw [getElem!_pos d j hj', getElem!_pos d i hi'] at h1
 simpa using h1
theorem q4t : q9v 47 (.func (.func 48) #[] #[]) := by
 intro v ys g Ae w ho hl;rcases ho with ⟨-, -, e, -⟩ | ⟨g', cap, cur, rfl, e, hg, h1, h2, h3, hall, h4⟩
 ·cases e
 cases e;obtain ⟨ds, hd1, hd2, hd3⟩ := all_enc hall;have hdl : ds.length = ys.length := by rw [← hd1, BV]
 have hgl := (Bv.1 hg).1;have h9 : recL.n = 9 := rfl;rw [h9] at h3 hd2;have hcl : ys.length * 9 ≤ cur.size := by rw [h3]; exact Nat.mul_le_mul_right 9 h1
 have hH : HoldsK encR 9 w g 0 ds.toArray := by
  intro t ht;rw [size_flatK] at ht;have ht' : t < ds.length * 9 := by simpa using ht
  rw [BW];refine ⟨?_, q0j hg _⟩;rw [cellsOf hg];have e1 := z1q ds t ht';rw [← hd2, BD (by omega), Bp] at e1;rw [e1, get_flatK encR 9 ds.toArray t (by simpa using ht')]; rfl
 have eg : ∀ args w, (callFunc 48 args).run Tryz.prog w = .ok (.enter 48 args) w := fun _ _ => by go_simp
 have hs := AnyQ.slices_SortFunc sortRecLay 9 Tryz.isAgg38 Tryz.sizeOf38 encR q5a encR_one cmpR swo_cmpR 48 #[] g 0 cap ds.toArray w eg (fun _ _ _ _ x y => newest1_any x y _) hH hgl (by simp; omega);change Calls Tryz.prog 47 _ _ _ at hs;have e0 : ds.toArray.size = ys.length := by simpa using hdl
 rw [e0] at hs;refine hs.mono ?_;rintro e w' ⟨rfl, d', n, os, hp, hso, rfl⟩;rw [← e0] at hp;have hp2 := perm_extract hp;have hsz : d'.size = ys.length := by rw [hp.1, e0]
 have hc : Chg [g] w (sortWorldK encR 9 w g 0 n d' os) := chg_sortw w g n _ os;have hat : (sortWorldK encR 9 w g 0 n d' os).heap[g]? = _ := at_sortw n (flatK encR 9 d') os hg;obtain ⟨fq, hq1, hq2⟩ := enc_all (w := sortWorldK encR 9 w g 0 n d' os) (fp := Ae) d'.toList (fun x hx => by
  obtain ⟨fq, k1, k2⟩ := hd3 x (hp2.mem_iff.1 hx);exact ⟨fq, recL.chg k1 hc (fun b hb hm => h4 (by rw [Bo] at hm; exact hm ▸ k2 b hb)), k2⟩)
 refine ⟨rfl, d'.toList.map (·.1), _, _, _, g :: fq, rfl, ⟨by simp [hsz], h1, h2, (fun h => by cases h), .inr ⟨g, 0, _, _, _, fq, rfl, hat, ?_, rfl⟩⟩, sorted_srt hsz.symm hso, by rw [← hd1]; exact hp2.map _, hc, fun y hy => (B5.1 hy).imp id (hq2 y)⟩;rw [List.drop_zero];have e3 := z1c (flatK encR 9 d') cur (by rw [size_flatK, hsz]; exact hcl);have e4 : (flatK encR 9 d').toList = d'.toList.flatMap encR := by
  have := flatK_list d'.toList
  simpa using this
 rw [size_flatK, hsz, e4] at e3;rw [h9, e3];exact hq1
def q1u (w : World) (b : Nat) (bs : List Bool) : Prop := w.heap[b]? = some (.cells (bs.map Value.bool).toArray 4 (0, 0))
theorem q1u.ext {w w' : World} {b : Nat} {bs : List Bool} (h : q1u w b bs) (hc : Chg [] w w') : q1u w' b bs := hc.keep0 h
theorem q1u.cell {w : World} {b : Nat} {bs : List Bool} (h : q1u w b bs) {i : Nat} {v : Bool} (hv : bs[i]? = some v) : w.cell? ⟨b, i, none⟩ = some (Ac v) := by
 rw [cellsOf h]; simp [hv]
theorem q1u.set {w : World} {b : Nat} {bs : List Bool} (h : q1u w b bs) (i : Nat) (v : Bool) : q1u (w.setCell ⟨b, i, none⟩ (Ac v)) b (bs.set i v) := by
 have h1 := q3a (o := i) (v := Ac v) h;unfold q1u;rw [h1]
 congr 2
 simp [List.map_set]
theorem infoBo : (Tryz.prog.info? 4).map (fun i => (i.zero, i.size, i.bytes)) = some (some (Ac false), 1, 1) := by kernel_rfl
theorem kindBo : ∃ K : Kind Tryz.prog 4 1 1, K.z = Ac false := by
 obtain ⟨i0, hi, hz0, hz1, hz2⟩ := info_parts infoBo;exact ⟨⟨i0, Ac false, hi, hz0, hz1, hz2, rfl⟩, rfl⟩
theorem make_bools (n : Nat) (hn : n ≤ 140737488355327) (w : World) :
  (Instr.makeSlice 92 (I J (n : Int)) (I J (n : Int))).run Tryz.prog w = .ok (Aa (some ⟨w.heap.size, 0, none⟩) n n) (w.alloc (Ad (BC n (Ac false)) 4)) := by
 obtain ⟨K, hK⟩ := kindBo;have h := q8s Tryz.underlying92 K n (by omega) (by omega) w;have e : zrow K.z (n * 1) = BC n (Ac false) := by
  rw [Nat.mul_one, hK];apply BS.1;rw [Array.toList_replicate];exact toList_madeCells_one (Ac false) n
 rw [e] at h;exact h
theorem q1u.made (w : World) (n b : Nat) (hb : b = w.heap.size) : q1u (w.alloc (Ad (BC n (Ac false)) 4)) b (List.replicate n false) := by
 subst hb;have h := q0k w (Ad (BC n (Ac false)) 4);unfold q1u;rw [h]
 congr 2
 apply BS.1;simp
end Go.Proofs.YthhaednigdgclaaGreat
