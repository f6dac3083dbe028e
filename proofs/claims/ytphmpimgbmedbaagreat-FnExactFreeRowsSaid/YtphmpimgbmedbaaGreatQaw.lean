/- Several texts in one. -/
import Derived.Test.YtphmpimgbmedbaaGreatQav
import Derived.Maps.RangeRun
import Derived.Test.YtphmpimgbmedbaaGreatQaa
import Derived.Maps.RangeWalk
import Derived.Shelf.SlSortCmp.WholeK
import Derived.Shelf.Small.Strs
import Derived.Test.YtphmpimgbmedbaaGreatQaf
import Derived.Laws.OwnMore
set_option maxRecDepth 100000
set_option maxHeartbeats 8000000
namespace Go.Proofs.YtphmpimgbmedbaaGreat
open Go.RowKit
open Go.Lib (hid)
open Go.ChangeMaps (setBlock)
def RecV (w : World) (f : List Nat) (v : Value) (r : Rec) : Prop := ∃ (cs : List Value) (fq : List Nat), v = .agg cs.toArray ∧ recL.rep w cs r fq ∧ ∀ y ∈ fq, y ∈ f
theorem RecV.chg {w w' : World} {S f : List Nat} {v : Value} {r : Rec} (h : RecV w f v r) (hc : Chg S w w') (hS : ∀ b ∈ f, b ∉ S) : RecV w' f v r := by
 obtain ⟨cs, fq, h1, h2, h3⟩ := h
 exact ⟨cs, fq, h1, recL.chg h2 hc (fun b hb => hS b (h3 b hb)), h3⟩
def NewS (xs : List Rec) (k : Nat) (r : Rec) : Prop := ∃ i, i < k ∧ xs[i]? = some r ∧ r.kind = 1 ∧ nwI xs r.name k = (i : Int)
theorem NewS.uniq {xs : List Rec} {k : Nat} {r s : Rec} (h : NewS xs k r) (h2 : NewS xs k s) (hn : r.name = s.name) : r = s := by
 obtain ⟨i, -, hi, -, ei⟩ := h
 obtain ⟨j, -, hj, -, ej⟩ := h2
 rw [hn, ej] at ei
 obtain rfl : j = i := by omega
 rw [hi] at hj
 exact Option.some.inj hj
theorem NewS.zero {xs : List Rec} {r : Rec} : ¬ NewS xs 0 r := fun ⟨_, h, _⟩ => absurd h (Nat.not_lt_zero _)
theorem news_skip {xs : List Rec} {k : Nat} {x : Rec} (hx : xs[k]? = some x) (hk : x.kind ≠ 1) (r : Rec) : NewS xs (k + 1) r ↔ NewS xs k r := by
 have e : nwI xs r.name (k + 1) = nwI xs r.name k := by rw [q6x hx, q0h (fun h => hk h.1)]; rfl
 constructor
 ·rintro ⟨i, h1, h2, h3, h4⟩
  rw [e] at h4
  have := (nwI_lt xs r.name k).2
  exact ⟨i, by omega, h2, h3, h4⟩
 ·rintro ⟨i, h1, h2, h3, h4⟩
  exact ⟨i, by omega, h2, h3, by rw [e]; exact h4⟩
theorem q9z {xs : List Rec} {k : Nat} {x : Rec} (hx : xs[k]? = some x) (hk : x.kind = 1) (r : Rec) : NewS xs (k + 1) r ↔ r = x ∨ (NewS xs k r ∧ r.name ≠ x.name) := by
 by_cases hn : x.name = r.name
 ·have e : nwI xs r.name (k + 1) = (k : Int) := by rw [q6x hx, q0i ⟨hk, hn⟩]; rfl
  constructor
  ·rintro ⟨i, h1, h2, h3, h4⟩
   rw [e] at h4
   obtain rfl : k = i := by omega
   rw [hx] at h2
   exact .inl (Option.some.inj h2).symm
  ·rintro (rfl | ⟨-, h⟩)
   ·exact ⟨k, by omega, hx, hk, e⟩
   ·exact absurd hn.symm h
 ·have e : nwI xs r.name (k + 1) = nwI xs r.name k := by rw [q6x hx, q0h (fun h => hn h.2)]; rfl
  constructor
  ·rintro ⟨i, h1, h2, h3, h4⟩
   rw [e] at h4
   have := (nwI_lt xs r.name k).2
   exact .inr ⟨⟨i, by omega, h2, h3, h4⟩, fun h => hn h.symm⟩
  ·rintro (rfl | ⟨⟨i, h1, h2, h3, h4⟩, -⟩)
   ·exact absurd rfl hn
   ·exact ⟨i, by omega, h2, h3, by rw [e]; exact h4⟩
theorem z2g (l : List Rec) (r : Rec) : ∀ k, k ≤ l.length → (r ∈ livF l k ↔ ∃ i, i < k ∧ l[i]? = some r ∧ livP l i r = true)
 | 0, _ => by simp [livF]
 | k + 1, hk => by
  have ih := z2g l r k (by omega)
  have hx : l[k]? = some l[k] := List.getElem?_eq_getElem (by omega)
  cases hp : livP l k l[k]
  ·rw [z0d hx hp, ih]
   constructor
   ·rintro ⟨i, h1, h2⟩; exact ⟨i, by omega, h2⟩
   ·rintro ⟨i, h1, h2, h3⟩
    refine ⟨i, ?_, h2, h3⟩
    rcases Nat.lt_or_eq_of_le (Nat.le_of_lt_succ h1) with h | rfl
    ·exact h
    ·rw [hx] at h2; cases h2; rw [hp] at h3; cases h3
  ·rw [z2f hx hp, List.mem_append, ih, List.mem_singleton]
   constructor
   ·rintro (⟨i, h1, h2⟩ | rfl)
    ·exact ⟨i, by omega, h2⟩
    ·exact ⟨k, by omega, hx, hp⟩
   ·rintro ⟨i, h1, h2, h3⟩
    rcases Nat.lt_or_eq_of_le (Nat.le_of_lt_succ h1) with h | rfl
    ·exact .inl ⟨i, h, h2, h3⟩
    ·rw [hx] at h2; exact .inr (Option.some.inj h2).symm
theorem livF_news {l : List Rec} {r : Rec} : r ∈ livF l l.length ↔ NewS l l.length r ∧ 0 ≤ r.length := by
 rw [z2g l r _ (Nat.le_refl _)]
 constructor
 ·rintro ⟨i, h1, h2, h3⟩
  obtain ⟨k1, k2, k3⟩ := z0u h3
  exact ⟨⟨i, h1, h2, k1, k3⟩, k2⟩
 ·rintro ⟨⟨i, h1, h2, h3, h4⟩, h5⟩
  exact ⟨i, h1, h2, q0i ⟨h3, h5, h4⟩⟩
def z2t (ys : List Rec) : Prop := ys.Pairwise (fun x y => x.name ≠ y.name)
theorem z1b (l : List Rec) : ∀ k, k ≤ l.length → z2t (livF l k)
 | 0, _ => List.Pairwise.nil
 | k + 1, hk => by
  have ih := z1b l k (by omega)
  have hx : l[k]? = some l[k] := List.getElem?_eq_getElem (by omega)
  cases hp : livP l k l[k]
  ·rw [z0d hx hp]; exact ih
  ·rw [z2f hx hp]
   refine List.pairwise_append.2 ⟨ih, List.pairwise_singleton _ _, fun a ha b hb hn => ?_⟩
   rw [List.mem_singleton] at hb
   subst hb
   obtain ⟨i, h1, h2, h3⟩ := (z2g l a k (by omega)).1 ha
   have e1 := (z0u h3).2.2
   have e2 := (z0u hp).2.2
   rw [hn, e2] at e1
   omega
theorem bl_eq {a b : ByteArray} (h : a.toList = b.toList) : a = b := by
 rw [ByteArray.toList_eq, ByteArray.toList_eq] at h
 obtain ⟨⟨x⟩⟩ := a
 obtain ⟨⟨y⟩⟩ := b
 have h : x = y := h
 rw [h]
theorem namLt_eqv {x y : Rec} (h : eqv q3v x y = true) : x.name = y.name :=
 bl_eq (bl_tot (q8e h).1 (q8e h).2)
theorem apart_stab {xs ys : List Rec} (hx : z2t xs) (hy : z2t ys) (hm : ∀ r, r ∈ ys ↔ r ∈ xs) : Stab q3v xs ys := by
 have nd : ∀ {l : List Rec}, z2t l → l.Nodup := fun h => h.imp (fun h e => h (by rw [e]))
 have hp : ys.Perm xs := (List.perm_ext_iff_of_nodup (nd hy) (nd hx)).2 hm
 refine ⟨hp.length_eq, fun z => ?_⟩
 have h1 : ∀ {l : List Rec}, z2t l → (l.filter (eqv q3v z)).length ≤ 1 := by
  intro l hl
  have h2 : (l.filter (eqv q3v z)).Pairwise (fun x y => x.name ≠ y.name) := hl.filter _
  match hf : l.filter (eqv q3v z) with
  | [] => simp
  | [_] => simp
  | a :: b :: t =>
   rw [hf] at h2
   have ha : eqv q3v z a = true := (List.mem_filter.1 (hf ▸ (by simp : a ∈ a :: b :: t))).2
   have hb : eqv q3v z b = true := (List.mem_filter.1 (hf ▸ (by simp : b ∈ a :: b :: t))).2
   exact absurd ((namLt_eqv ha).symm.trans (namLt_eqv hb)) (List.rel_of_pairwise_cons h2 (by simp))
 have hpf := hp.filter (eqv q3v z)
 have := h1 hy
 match hf : ys.filter (eqv q3v z) with
 | [] => rw [hf] at hpf; exact (List.Perm.nil_eq hpf)
 | [a] => rw [hf] at hpf; exact (List.perm_singleton.1 hpf.symm).symm
 | a :: b :: t => rw [hf] at this; simp at this
theorem liv_apart {l ys : List Rec} (h : Srt q3v ys) (ha : z2t ys) (hm : ∀ r, r ∈ ys ↔ NewS l l.length r ∧ 0 ≤ r.length) : ys = livL l :=
 liv_uniq h (apart_stab (z1b l _ (Nat.le_refl _)) ha (fun r => (hm r).trans livF_news.symm))
structure NewM (w : World) (m : Nat) (f : List Nat) (xs : List Rec) (k : Nat) (es : Array MapEntry) (clock : Nat) : Prop where
 at_ : w.heap[m]? = some (.map es clock)
 stamped : MapKept.Stamped es clock
 size : es.size ≤ k
 each : ∀ e ∈ es.toList, ∃ r, NewS xs k r ∧ e.key = .string r.name ∧ RecV w f e.val r
 all : ∀ r, NewS xs k r → ∃ e ∈ es.toList, e.key = .string r.name
theorem NewM.made {w : World} {f : List Nat} {xs : List Rec} : NewM (w.alloc (.map #[] 0)) w.heap.size f xs 0 #[] 0 :=
 ⟨q1a w _, MapKept.stamped_empty 0, by simp, by simp, fun r h => absurd h NewS.zero⟩
theorem NewM.chg {w w' : World} {m k clock : Nat} {S f : List Nat} {xs : List Rec} {es : Array MapEntry} (h : NewM w m f xs k es clock) (hc : Chg S w w') (hm : m ∉ S) (hS : ∀ b ∈ f, b ∉ S) : NewM w' m f xs k es clock :=
 ⟨hc.keepb h.at_ hm, h.stamped, h.size, fun e he => by obtain ⟨r, h1, h2, h3⟩ := h.each e he; exact ⟨r, h1, h2, h3.chg hc hS⟩, h.all⟩
theorem NewM.ext {w w' : World} {m k clock : Nat} {f : List Nat} {xs : List Rec} {es : Array MapEntry} (h : NewM w m f xs k es clock) (hc : Chg [] w w') : NewM w' m f xs k es clock := h.chg hc (by simp) (by simp)
theorem NewM.skip {w : World} {m k clock : Nat} {f : List Nat} {xs : List Rec} {es : Array MapEntry} {x : Rec} (h : NewM w m f xs k es clock) (hx : xs[k]? = some x) (hk : x.kind ≠ 1) : NewM w m f xs (k + 1) es clock :=
 ⟨h.at_, h.stamped, Nat.le_succ_of_le h.size, fun e he => by obtain ⟨r, h1, h2⟩ := h.each e he; exact ⟨r, (news_skip hx hk r).2 h1, h2⟩, fun r hr => h.all r ((news_skip hx hk r).1 hr)⟩
theorem q9t {w : World} {b : Nat} {o o' : Obj} (h : w.heap[b]? = some o) : (setBlock w b o').heap[b]? = some o' := (MapKept.heap_set h).1
theorem Chg.setBlock {S : List Nat} {a w : World} {b : Nat} {o o' : Obj} (h : Chg S a w) (hb : w.heap[b]? = some o) (hn : ∀ c E fr, o ≠ .cells c E fr) (hp : b ∈ S ∨ a.heap.size ≤ b) : Chg S a (setBlock w b o') := by
 refine h.trans (T := [b]) ⟨rfl, rfl, rfl, by simp [ChangeMaps.setBlock], fun k _ hk => ?_, fun k ⟨c, E, hk⟩ => ⟨c, E, ?_⟩⟩ ?_
 ·exact (MapKept.heap_set hb).2 k (by simpa using hk)
 ·have : k ≠ b := fun e => by subst e; rw [hb] at hk; exact hn _ _ _ (Option.some.inj hk)
  exact ((MapKept.heap_set hb).2 k this).trans hk
 ·intro x hx; simp at hx; subst hx; exact hp
theorem NewM.put {P : Program} {t kt et : TypeId} {w : World} {m k clock : Nat} {f : List Nat} {xs : List Rec} {es : Array MapEntry} {x : Rec} {v : Value} (ht : P.underlying t = some (.map kt et)) (hs : P.underlying kt = some .string) (h : NewM w m f xs k es clock) (hx : xs[k]? = some x) (hk : x.kind = 1) (hv : RecV w f v x) (hm : m ∉ f) :
  ∃ w' es' clock', (Instr.mapUpdate t (.map (some m)) (.string x.name) v).run P w = .ok () w' ∧ NewM w' m f xs (k + 1) es' clock' ∧ Chg [m] w w' := by
 have hks : ∀ e ∈ es.toList, MapKept.IsKey .string e.key := fun e he => by
  obtain ⟨r, -, h2, -⟩ := h.each e he
  rw [h2]; trivial
 have key : ∀ (es' : Array MapEntry) (clock' : Nat), MapKept.Stamped es' clock' → es'.size ≤ es.size + 1 → (∀ e ∈ es'.toList, (e.key = .string x.name ∧ e.val = v) ∨ (e ∈ es.toList ∧ e.key ≠ .string x.name)) → (∀ e ∈ es.toList, e.key ≠ .string x.name → e ∈ es'.toList) → (∃ e ∈ es'.toList, e.key = .string x.name) →
   NewM (setBlock w m (.map es' clock')) m f xs (k + 1) es' clock' ∧ Chg [m] w (setBlock w m (.map es' clock')) := by
  intro es' clock' h1 h2 h3 h4 h5
  have hc : Chg [m] w (setBlock w m (.map es' clock')) := (Chg.refl [m] w).setBlock h.at_ (fun _ _ _ e => by cases e) (.inl (by simp))
  have hS : ∀ b ∈ f, b ∉ [m] := fun b hb e => by simp at e; subst e; exact hm hb
  refine ⟨⟨q9t h.at_, h1, by have := h.size; omega, fun e he => ?_, fun r hr => ?_⟩, hc⟩
  ·rcases h3 e he with ⟨k1, k2⟩ | ⟨k1, k2⟩
   ·exact ⟨x, (q9z hx hk x).2 (.inl rfl), k1, by rw [k2]; exact hv.chg hc hS⟩
   ·obtain ⟨r, r1, r2, r3⟩ := h.each e k1
    refine ⟨r, (q9z hx hk r).2 (.inr ⟨r1, fun hn => k2 (by rw [r2, hn])⟩), r2, r3.chg hc hS⟩
  ·rcases (q9z hx hk r).1 hr with rfl | ⟨r1, r2⟩
   ·exact h5
   ·obtain ⟨e, he, ek⟩ := h.all r r1
    exact ⟨e, h4 e he (by rw [ek]; intro e2; exact r2 (by injection e2)), ek⟩
 rcases MapKept.findNow_spec (d := .string) (k := .string x.name) trivial es.toList 0 hks with ⟨h1, h2⟩ | ⟨j, e, h1, h2, h3⟩
 ·refine ⟨_, _, _, ?_, key (es.push { key := .string x.name, val := v, born := clock }) (clock + 1) (MapKept.stamped_push h.stamped h2) (by simp) ?_ ?_ ?_⟩
  ·simp [Instr.mapUpdate, run_underlying ht, MapKept.run_getObj_map h.at_, MapKept.run_checkKey (k := .string x.name) hs trivial, MapKept.run_findKey hs h1, MapKept.run_setObj_map _ h.at_, Result.andThen, ChangeMaps.setBlock]
  ·intro e he
   simp only [Array.toList_push, List.mem_append, List.mem_singleton] at he
   rcases he with he | rfl
   ·exact .inr ⟨he, h2 e he⟩
   ·exact .inl ⟨rfl, rfl⟩
  ·intro e he _
   simp only [Array.toList_push, List.mem_append]
   exact .inl he
  ·exact ⟨{ key := .string x.name, val := v, born := clock }, by simp, rfl⟩
 ·have hj : es[j]? = some e := by simpa using h2
  have hkey : ∀ e', es[j]? = some e' → ({ e' with key := .string x.name, val := v } : MapEntry).key = e'.key := fun e' he' => by rw [hj] at he'; cases he'; exact h3.symm
  have hget : ∀ i e', es[i]? = some e' → e'.key = .string x.name → i = j := by
   intro i e' hi hk'
   have hn := h.stamped.2.2
   have a1 : (es.toList.map (·.key))[i]? = some (.string x.name) := by rw [List.getElem?_map, Array.getElem?_toList, hi, Option.map_some, hk']
   have a2 : (es.toList.map (·.key))[j]? = some (.string x.name) := by rw [List.getElem?_map, Array.getElem?_toList, hj, Option.map_some, h3]
   exact (List.getElem?_inj (List.getElem?_eq_some_iff.1 a1).1 hn).1 (a1.trans a2.symm)
  refine ⟨_, _, _, ?_, key (es.modify j fun e => { e with key := .string x.name, val := v }) clock (MapKept.stamped_modify h.stamped _ _ (fun _ _ => rfl) (fun e' _ he' => hkey e' he')) (by simp) ?_ ?_ ?_⟩
  ·simp [Instr.mapUpdate, run_underlying ht, MapKept.run_getObj_map h.at_, MapKept.run_checkKey (k := .string x.name) hs trivial, MapKept.run_findKey hs h1, hj, h3, MapKept.run_keyThatStays (d := .string) (k := .string x.name) trivial, MapKept.run_setObj_map _ h.at_, Result.andThen, ChangeMaps.setBlock]
  ·intro e' he'
   obtain ⟨i, hi, e1⟩ := List.getElem_of_mem he'
   have e2 : (es.modify j fun e => { e with key := .string x.name, val := v })[i]? = some e' := by
    rw [← Array.getElem?_toList, List.getElem?_eq_getElem hi, e1]
   rw [Array.getElem?_modify] at e2
   by_cases hji : j = i
   ·subst hji
    rw [if_pos rfl, hj] at e2
    cases e2
    exact .inl ⟨rfl, rfl⟩
   ·rw [if_neg hji] at e2
    exact .inr ⟨Array.mem_toList_iff.2 (Array.mem_of_getElem? e2), fun hk' => hji (hget i e' e2 hk').symm⟩
  ·intro e' he' hne
   obtain ⟨i, hi, e1⟩ := List.getElem_of_mem he'
   have e2 : es[i]? = some e' := by rw [← Array.getElem?_toList, List.getElem?_eq_getElem hi, e1]
   have hji : j ≠ i := fun e3 => by subst e3; rw [hj] at e2; cases e2; exact hne h3
   refine Array.mem_toList_iff.2 (Array.mem_of_getElem? (i := i) ?_)
   rw [Array.getElem?_modify, if_neg hji]
   exact e2
  ·refine ⟨{ e with key := .string x.name, val := v }, Array.mem_toList_iff.2 (Array.mem_of_getElem? (i := j) ?_), rfl⟩
   rw [Array.getElem?_modify, if_pos rfl, hj]
   rfl
end Go.Proofs.YtphmpimgbmedbaaGreat
namespace Go.Proofs.YtphmpimgbmedbaaGreat
open Go.RowKit
open Go.Lib (hid)
open Go.ChangeMaps (setBlock)
def q8z (w : World) (it b clock : Nat) (seen : Array Nat) : Prop := w.heap[it]? = some (.mapIter (some b) clock seen clock)
def LeftNo (es : Array MapEntry) (seen : Array Nat) : Prop := (leftOf es seen).size = 0
def LeftIn (e : MapEntry) (es : Array MapEntry) (seen : Array Nat) : Prop := e ∈ (leftOf es seen).toList
def Said (es : Array MapEntry) (seen : Array Nat) (r : Rec) : Prop := ∃ e ∈ es.toList, e.key = .string r.name ∧ seen.contains e.born = true
section
variable {P : Program} (w : World) {ops : Array Oper} {rest : List Oper} {o : Oper} {a : Act} {Q : Exit → Act → World → Prop}
theorem wpl_put (hg : o.guard = none) (m x v : Operand) (t : TypeId) (hop : o.op = Op.mapUpdate t m x v) {kt et : TypeId} (ht : P.underlying t = some (.map kt et)) (hs : P.underlying kt = some .string) {b k clock : Nat} {f : List Nat} {xs : List Rec} {es : Array MapEntry} {r : Rec} {val : Value}
  (em : a.eval m = .map (some b)) (ex : a.eval x = .string r.name) (ev : a.eval v = val) (h : NewM w b f xs k es clock) (hx : xs[k]? = some r) (hk : r.kind = 1) (hv : RecV w f val r) (hb : b ∉ f)
  (hK : ∀ w' es' clock', NewM w' b f xs (k + 1) es' clock' → Chg [b] w w' → wpList P ops Q rest (a.put o.dst undef) w') : wpList P ops Q (o :: rest) a w := by
 refine wpList_plain hg fun K' hK' => ?_
 obtain ⟨w', es', clock', hrun, h1, h2⟩ := h.put ht hs hx hk hv hb
 unfold Oper.wp
 simp [execOp, hop, em, ex, ev, hrun, Result.andThen]
 exact hK' _ _ (hK w' es' clock' h1 h2)
theorem wpl_range (hg : o.guard = none) (m : Operand) (t : TypeId) (hop : o.op = Op.range t m) {kt et : TypeId} (ht : P.underlying t = some (.map kt et)) {b clock : Nat} {es : Array MapEntry} (em : a.eval m = .map (some b)) (hb : w.heap[b]? = some (.map es clock))
  (hK : wpList P ops Q rest (a.put o.dst (.pointer (some ⟨w.heap.size, 0, none⟩))) (w.alloc (.mapIter (some b) clock #[] clock))) : wpList P ops Q (o :: rest) a w := by
 refine wpList_plain hg fun K' hK' => ?_
 have hrun := run_range_map (P := P) w t kt et b es clock ht hb
 unfold Oper.wp
 simp [execOp, hop, em, hrun, Result.andThen]
 exact hK' _ _ hK
theorem wpl_next (hg : o.guard = none) (p : Operand) (hop : o.op = Op.next p false) {it b clock : Nat} {seen : Array Nat} {f : List Nat} {xs : List Rec} {k : Nat} {es : Array MapEntry} (em : a.eval p = .pointer (some ⟨it, 0, none⟩)) (h : NewM w b f xs k es clock) (hi : q8z w it b clock seen)
  (hDone : LeftNo es seen → wpList P ops Q rest (a.put o.dst (.tuple #[.bool false])) w)
  (hMore : ∀ (e : MapEntry) (w' : World), Hid (LeftIn e es seen ∧ q8z w' it b clock (seen.push e.born) ∧ Chg [it] w w' ∧ w'.heap.size = w.heap.size) → wpList P ops Q rest (a.put o.dst (.tuple #[.bool true, e.key, e.val])) w') : wpList P ops Q (o :: rest) a w := by
 refine wpList_plain hg fun K' hK' => ?_
 unfold Oper.wp
 rcases run_next_at (P := P) w o.type it b clock clock seen es clock hi h.at_ h.stamped.1 (Nat.le_refl _) with ⟨h0, hrun⟩ | ⟨e, he, w1, hw1, hrun⟩
 ·simp [execOp, hop, em, hrun, Result.andThen]
  exact hK' _ _ (hDone h0)
 ·simp [execOp, hop, em, hrun, Result.andThen]
  have hi1 : w1.heap[it]? = some (.mapIter (some b) clock seen clock) := by rcases hw1 with rfl | rfl <;> exact hi
  have hc1 : Chg [it] w w1 := by rcases hw1 with rfl | rfl; exact Chg.refl _ _; exact (Chg.refl _ _).drew
  have hs1 : w1.heap.size = w.heap.size := by rcases hw1 with rfl | rfl <;> rfl
  exact hK' _ _ (hMore e _ ⟨he, q9t hi1, hc1.setBlock hi1 (fun _ _ _ e => by cases e) (.inl (by simp)), by rw [← hs1]; simp [ChangeMaps.setBlock]⟩)
end
theorem NewM.entry {w : World} {m k clock : Nat} {f : List Nat} {xs : List Rec} {es : Array MapEntry} {e : MapEntry} {seen : Array Nat} (h : NewM w m f xs k es clock) (he : e ∈ (leftOf es seen).toList) :
  ∃ (r : Rec) (a6 : Option Addr) (l6 c6 : Nat) (a7 : Option Addr) (l7 c7 : Nat) (a8 : Option Addr) (l8 c8 : Nat) (fq : List Nat), Hid (NewS xs k r ∧ recL.rep w [.int .i64 r.kind, .int .i64 r.seq, .string r.name, .int .i64 r.length, .int .i64 r.group, .int .i64 r.row, .slice a6 l6 c6, .slice a7 l7 c7, .slice a8 l8 c8] r fq ∧ (∀ y ∈ fq, y ∈ f)) ∧
   e.key = .string r.name ∧ e.val = .agg #[.int .i64 r.kind, .int .i64 r.seq, .string r.name, .int .i64 r.length, .int .i64 r.group, .int .i64 r.row, .slice a6 l6 c6, .slice a7 l7 c7, .slice a8 l8 c8] := by
 obtain ⟨r, h1, h2, cs, fq, h3, h4, h5⟩ := h.each e (mem_left he).1
 obtain ⟨a6, l6, c6, f6, a7, l7, c7, f7, a8, l8, c8, f8, ex, -⟩ := q0m.1 h4
 subst ex
 exact ⟨r, a6, l6, c6, a7, l7, c7, a8, l8, c8, fq, ⟨h1, h4, h5⟩, h2, h3⟩
theorem entry_at {P : Program} {w : World} {it b clock : Nat} {seen : Array Nat} {es : Array MapEntry} {e : MapEntry} {f : List Nat} {xs : List Rec} {k : Nat} (h : NewM w b f xs k es clock) (hi : q8z w it b clock (seen.push e.born)) (he : e ∈ (leftOf es seen).toList) :
  (Instr.entry (.pointer (some ⟨it, 0, none⟩))).run P w = .ok (.tuple #[e.key, e.val]) w := run_entry_at w it b clock seen es clock e hi h.at_ (mem_left he).1 h.stamped.2.1
def Gath (xs : List Rec) (k : Nat) (es : Array MapEntry) (seen : Array Nat) (ys : List Rec) : Prop :=
 z2t ys ∧ (∀ r, r ∈ ys ↔ (NewS xs k r ∧ r.length ≠ -1 ∧ Said es seen r)) ∧ ys.length + (leftOf es seen).size ≤ es.size
theorem Gath.start (xs : List Rec) (k : Nat) (es : Array MapEntry) : Gath xs k es #[] [] := by
 refine ⟨List.Pairwise.nil, fun r => ⟨fun h => by simp at h, fun ⟨_, _, e, _, _, h⟩ => by simp at h⟩, ?_⟩
 unfold leftOf
 simp only [List.length_nil, Nat.zero_add]
 exact Array.size_filter_le
theorem q6k {xs : List Rec} {k : Nat} {w : World} {m clock : Nat} {f : List Nat} {es : Array MapEntry} {seen : Array Nat} {e : MapEntry} {r s : Rec} (h : NewM w m f xs k es clock) (he : e ∈ (leftOf es seen).toList) (hr : NewS xs k r) (hk : e.key = .string r.name) (hs : NewS xs k s) : Said es (seen.push e.born) s ↔ Said es seen s ∨ s = r := by
 constructor
 ·rintro ⟨e2, h1, h2, h3⟩
  rw [contains_push, Bool.or_eq_true] at h3
  rcases h3 with h3 | h3
  ·exact .inl ⟨e2, h1, h2, h3⟩
  ·have hb : e2.born = e.born := by simpa using h3
   have e3 : e2 = e := born_inj h.stamped.2.1 h1 (mem_left he).1 hb
   subst e3
   rw [hk] at h2
   injection h2 with h2
   exact .inr (hs.uniq hr h2.symm)
 ·rintro (⟨e2, h1, h2, h3⟩ | rfl)
  ·exact ⟨e2, h1, h2, by rw [contains_push, h3]; rfl⟩
  ·exact ⟨e, (mem_left he).1, hk, by rw [contains_push]; simp⟩
theorem not_said {xs : List Rec} {k : Nat} {w : World} {m clock : Nat} {f : List Nat} {es : Array MapEntry} {seen : Array Nat} {e : MapEntry} {r : Rec} (h : NewM w m f xs k es clock) (he : e ∈ (leftOf es seen).toList) (hk : e.key = .string r.name) : ¬ Said es seen r := by
 rintro ⟨e2, h1, h2, h3⟩
 have hn := ((MapKept.stamped_iff es clock).1 h.stamped).2.2
 have e3 : e2 = e := entry_eq_of_key hn h1 (mem_left he).1 (h2.trans hk.symm)
 subst e3
 rw [(mem_left he).2] at h3; cases h3
theorem Gath.no {xs : List Rec} {k : Nat} {w : World} {m clock : Nat} {f : List Nat} {es : Array MapEntry} {seen : Array Nat} {e : MapEntry} {r : Rec} {ys : List Rec} (g : Gath xs k es seen ys) (h : NewM w m f xs k es clock) (he : e ∈ (leftOf es seen).toList) (hr : NewS xs k r) (hk : e.key = .string r.name) (hl : r.length = -1) : Gath xs k es (seen.push e.born) ys := by
 obtain ⟨g1, g2, g3⟩ := g
 refine ⟨g1, fun s => ?_, by have := left_shrinks es seen e he; omega⟩
 rw [g2 s]
 constructor
 ·rintro ⟨h1, h2, h3⟩; exact ⟨h1, h2, (q6k h he hr hk h1).2 (.inl h3)⟩
 ·rintro ⟨h1, h2, h3⟩
  rcases (q6k h he hr hk h1).1 h3 with h3 | rfl
  ·exact ⟨h1, h2, h3⟩
  ·exact absurd hl h2
theorem Gath.yes {xs : List Rec} {k : Nat} {w : World} {m clock : Nat} {f : List Nat} {es : Array MapEntry} {seen : Array Nat} {e : MapEntry} {r : Rec} {ys : List Rec} (g : Gath xs k es seen ys) (h : NewM w m f xs k es clock) (he : e ∈ (leftOf es seen).toList) (hr : NewS xs k r) (hk : e.key = .string r.name) (hl : r.length ≠ -1) : Gath xs k es (seen.push e.born) (ys ++ [r]) := by
 obtain ⟨g1, g2, g3⟩ := g
 refine ⟨List.pairwise_append.2 ⟨g1, List.pairwise_singleton _ _, fun x hx y hy hn => ?_⟩, fun s => ?_, by have := left_shrinks es seen e he; simp only [List.length_append, List.length_singleton]; omega⟩
 ·rw [List.mem_singleton] at hy
  subst hy
  obtain ⟨h1, -, h3⟩ := (g2 x).1 hx
  have := h1.uniq hr hn
  subst this
  exact not_said h he hk h3
 ·rw [List.mem_append, List.mem_singleton, g2 s]
  constructor
  ·rintro (⟨h1, h2, h3⟩ | rfl)
   ·exact ⟨h1, h2, (q6k h he hr hk h1).2 (.inl h3)⟩
   ·exact ⟨hr, hl, (q6k h he hr hk hr).2 (.inr rfl)⟩
  ·rintro ⟨h1, h2, h3⟩
   rcases (q6k h he hr hk h1).1 h3 with h3 | rfl
   ·exact .inl ⟨h1, h2, h3⟩
   ·exact .inr rfl
theorem Gath.last {xs : List Rec} {k : Nat} {w : World} {m clock : Nat} {f : List Nat} {es : Array MapEntry} {seen : Array Nat} {ys : List Rec} (g : Gath xs k es seen ys) (h : NewM w m f xs k es clock) (h0 : (leftOf es seen).size = 0) : z2t ys ∧ ∀ r, r ∈ ys ↔ (NewS xs k r ∧ r.length ≠ -1) := by
 obtain ⟨g1, g2, -⟩ := g
 refine ⟨g1, fun r => ?_⟩
 rw [g2 r]
 constructor
 ·rintro ⟨h1, h2, -⟩; exact ⟨h1, h2⟩
 ·rintro ⟨h1, h2⟩
  obtain ⟨e, he, hk⟩ := h.all r h1
  exact ⟨h1, h2, e, he, hk, all_seen es seen h0 e he⟩
def Lay.celled {α : Type} (L : Lay α) : Prop := ∀ {w : World} {cs : List Value} {x : α} {fp : List Nat}, L.rep w cs x fp → ∀ b ∈ fp, ∃ cur E fr, w.heap[b]? = some (.cells cur E fr)
theorem Lay.all_celled {α : Type} {L : Lay α} (hL : L.celled) {w : World} : ∀ {xs : List α} {cs : List Value} {fp : List Nat}, L.all w cs xs fp → ∀ b ∈ fp, ∃ cur E fr, w.heap[b]? = some (.cells cur E fr) := by
 intro xs
 induction xs with
 | nil => intro cs fp h b hb; obtain ⟨_, rfl⟩ := h; cases hb
 | cons x xs ih =>
  intro cs fp h b hb
  obtain ⟨c1, c2, f1, f2, rfl, rfl, h1, h2⟩ := h
  rcases List.mem_append.1 hb with h | h
  ·exact hL h1 b h
  ·exact ih h2 b h
theorem Lay.sl_celled {α : Type} {L : Lay α} (hL : L.celled) {w : World} {a : Option Addr} {l c : Nat} {xs : List α} {f : List Nat} (h : L.sl w a l c xs f) : ∀ b ∈ f, ∃ cur E fr, w.heap[b]? = some (.cells cur E fr) := by
 intro b hb
 obtain ⟨_, _, _, _, h⟩ := h
 rcases h with ⟨_, rfl⟩ | ⟨g, off, cur, E, fr, fps, rfl, hg, hall, rfl⟩
 ·cases hb
 ·rcases List.mem_cons.1 hb with rfl | hb
  ·exact ⟨cur, E, fr, hg⟩
  ·exact L.all_celled hL hall b hb
theorem Lay.flat_celled {α : Type} {L : Lay α} (hL : L.flat) : L.celled := fun h b hb => by rw [hL _ _ _ _ h] at hb; cases hb
theorem rec_celled : recL.celled := fun h b hb => by
 obtain ⟨a6, l6, c6, f6, a7, l7, c7, f7, a8, l8, c8, f8, -, -, -, -, -, -, -, h6, h7, h8, rfl⟩ := q0m.1 h
 rcases List.mem_append.1 hb with h | hb
 ·exact Lay.sl_celled (Lay.flat_celled q9j) h6 b h
 ·rcases List.mem_append.1 hb with h | h
  ·exact Lay.sl_celled (Lay.flat_celled byte_flat) h7 b h
  ·exact Lay.sl_celled (Lay.flat_celled byte_flat) h8 b h
theorem not_in_recs {w : World} {m clock : Nat} {f : List Nat} {xs : List Rec} {es : Array MapEntry} {a : Option Addr} {l c : Nat} (h : w.heap[m]? = some (.map es clock)) (hs : recL.sl w a l c xs f) : m ∉ f := fun hm => by
 obtain ⟨cur, E, fr, e⟩ := Lay.sl_celled rec_celled hs m hm
 rw [h] at e; cases e
theorem os_ne {w : World} {v : Value} {xs : List Rec} {g b : Nat} {fps : List Nat} {o : Obj} {E : TypeId} (ho : recL.os E w v xs (some g) fps) (hb : w.heap[b]? = some o) (hn : ∀ c E fr, o ≠ .cells c E fr) : g ≠ b := fun e => by
 obtain ⟨c, E, h⟩ := recL.os_loose ho g rfl
 rw [e, hb] at h
 exact hn _ _ _ (Option.some.inj h)
theorem q6m {w : World} {it b clock k : Nat} {seen : Array Nat} {f : List Nat} {xs : List Rec} {es : Array MapEntry} (h : NewM w b f xs k es clock) (hi : q8z w it b clock seen) : w.rangeLeft b it = (leftOf es seen).size := by
 unfold World.rangeLeft
 rw [h.at_, show w.heap[it]? = _ from hi]
end Go.Proofs.YtphmpimgbmedbaaGreat
namespace Go.Proofs.YtphmpimgbmedbaaGreat
open Go.RowKit
open Go.Lib (hid)
def SortsRecs (k : Nat) (fn : Value) : Prop := ∀ (v : Value) (ys : List Rec) (g : Nat) (fps : List Nat) (w : World), recL.os 67 w v ys (some g) fps → ys.length ≤ 400 →
 Calls Tryz.prog k #[v, fn] w fun e w' => e = .returned (.tuple #[]) ∧ ∃ zs a l c f', v = .slice a l c ∧ recL.sl w' a l c zs f' ∧ Srt q3v zs ∧ zs.Perm ys ∧ Chg [g] w w'
theorem z0r.full {xs : List Rec} {w : World} {e : Ending} {w' : World} (h : z0r xs w e w') : ∃ a l c f, e = .returned (.slice a l c) ∧ recL.sl w' a l c xs f ∧ l = xs.length ∧ Chg [] w w' := by
 obtain ⟨v, rfl, hr, hc⟩ := h.rwd
 obtain ⟨a, l, c, f, rfl, hs, hl⟩ := hr.sl
 exact ⟨a, l, c, f, rfl, hs, hl, hc⟩
theorem gath_liv {xs ys zs : List Rec} (h : z2t ys ∧ ∀ r, r ∈ ys ↔ (NewS xs xs.length r ∧ r.length ≠ -1)) (hl : ∀ r ∈ xs, r.kind = 1 → r.length ≠ -1 → 0 ≤ r.length) (hs : Srt q3v zs) (hp : zs.Perm ys) : zs = livL xs := by
 refine liv_apart hs ((hp.pairwise_iff (fun h => h.symm)).2 h.1) (fun r => ?_)
 rw [hp.mem_iff, h.2 r]
 constructor
 ·rintro ⟨h1, h2⟩
  refine ⟨h1, ?_⟩
  obtain ⟨i, -, h3, h4, -⟩ := h1
  exact hl r (List.mem_of_getElem? h3) h4 h2
 ·rintro ⟨h1, h2⟩; exact ⟨h1, by omega⟩
theorem newest_any (HSRT : SortsRecs 198 (.func (.func 199) #[] #[])) (m : Nat) {u0 u1 u2 u3 u4 u5 u6 u7 u8 u9 u10 u12 u13 u14 : Value} (a12 : Option Addr) (l12 c12 : Nat) (f12 : List Nat) (ts : List Tap) (w : World) (h : w.heap[m]? = some (.cells #[u0, u1, u2, u3, u4, u5, u6, u7, u8, u9, u10, .slice a12 l12 c12, u12, u13, u14] 34 (0, 0))) (h12 : tapL.sl w a12 l12 c12 ts f12) (hz : (ts.flatMap (·.recs)).length ≤ 400) (hlv : ∀ r ∈ cntL ts, r.kind = 1 → r.length ≠ -1 → 0 ≤ r.length) :
  Calls Tryz.prog 120 #[.pointer (some ⟨m, 0, none⟩)] w (SlR (livL (cntL ts)) w) := by
 obtain ⟨KR, _⟩ := z0g
 obtain ⟨W, hW⟩ : ∃ W, W = w.alloc (.map #[] 0) := ⟨_, rfl⟩
 obtain ⟨b, hb⟩ : ∃ b, b = w.heap.size := ⟨_, rfl⟩
 have g0 : Chg [] w W := by rw [hW]; exact (Chg.refl [] w).alloc _
 have HN := hid (z0n m a12 l12 c12 f12 ts W (g0.keep0 h) (tapL.sl_ext h12 g0) (by omega))
 have HMB := hid (show W.heap[b]? = some (.map #[] 0) by rw [hW, hb]; exact q1a w _)
 have HLC := hid (Nat.le_trans (cntL_len ts) hz); have HLV := hid hlv; have G0 := hid g0; have HBW := hid (show w.heap.size ≤ b by omega)
 have hmk := run_makeMap (P := Tryz.prog) 183 w
 rw [← hW, ← hb] at hmk
 have HS := hid HSRT
 clear h h12 hz hlv g0 hW hb HSRT
 go_enter Tryz.func120, Tryz.ntmps120
 go_wp2_with fail
 refine HN.out.mono ?_
 rintro e w2 hp
 obtain ⟨a, l, c, f, rfl, hs, hlx, hc⟩ := hp.full
 obtain ⟨xs, hxs⟩ : ∃ xs, xs = cntL ts := ⟨_, rfl⟩
 have HX9 := hid hxs
 rw [← hxs] at hs hlx HLC HLV
 have hll : l ≤ 400 := by have := HLC.out; omega
 have HMB2 := hid (hc.keep0 HMB.out)
 have HBF := hid (not_in_recs HMB2.out hs)
 have HFS := hid (fun y (hy : y ∈ f) => recL.sl_lt hs y hy)
 have HS2 := hid hs; have HC2 := hid (G0.out.trans0 hc); have HL := hid hlx
 have HM0 := hid (⟨HMB2.out, MapKept.stamped_empty 0, by simp, by simp, fun r h => absurd h NewS.zero⟩ : NewM w2 b f xs 0 #[] 0)
 clear hp hs hlx hc hxs hmk HMB
 go_wp2_with fail
 go_loopw [13] (fun vi wr => ∃ (k : Nat) (es : Array MapEntry) (clock : Nat) (Wr : World), Wr = wr ∧ k ≤ l ∧ vi = .int .i64 k ∧ NewM wr b f xs k es clock ∧ recL.sl wr a l c xs f ∧ Chg [b] w2 wr) (fun vi _ => l - (intOf vi).toNat)
 case atStart => exact ⟨0, _, _, _, rfl, by omega, rfl, HM0.out, HS2.out, Chg.refl _ _⟩
 case round =>
  obtain ⟨k, es, clock, wr, rfl, hk, rfl, hm, hs, hc⟩ := hrel
  by_cases hlt : k < l
  ·obtain ⟨r, b2, off2, cy, fq, HR, rfl, HCE, HXS⟩ := q9v hs hlt
   obtain ⟨a6, l6, c6, f6, a7, l7, c7, f7, a8, l8, c8, f8, hcy, -⟩ := q0m.1 HXS.out
   subst hcy
   have HXL := hid (show xs[k]? = some r from HR.out.1)
   have g1 : Chg [] wr (wr.alloc (.cells #[.int .i64 r.kind, .int .i64 r.seq, .string r.name, .int .i64 r.length, .int .i64 r.group, .int .i64 r.row, .slice a6 l6 c6, .slice a7 l7 c7, .slice a8 l8 c8] 67)) := (Chg.refl [] wr).alloc _
   have HMB := hid (hm.ext g1); have HSB := hid (recL.sl_ext hs g1); have HCB := hid (hc.trans0 g1)
   have HRV := hid (show RecV (wr.alloc (.cells #[.int .i64 r.kind, .int .i64 r.seq, .string r.name, .int .i64 r.length, .int .i64 r.group, .int .i64 r.row, .slice a6 l6 c6, .slice a7 l7 c7, .slice a8 l8 c8] 67)) f (.agg #[.int .i64 r.kind, .int .i64 r.seq, .string r.name, .int .i64 r.length, .int .i64 r.group, .int .i64 r.row, .slice a6 l6 c6, .slice a7 l7 c7, .slice a8 l8 c8]) r from ⟨_, fq, rfl, recL.ext HXS.out g1, HR.out.2.2⟩)
   clear hm hs hc g1 HR HXS
   by_cases hkd : r.kind = 1
   ·have hbk : (r.kind == 1) = true := by simp [hkd]
    have HKD := hid hkd
    clear hkd
    go_wp2_with (first | (at_mapUpdate; refine wpl_put _ rfl _ _ _ 183 rfl Tryz.underlying183 Tryz.underlying9 rfl rfl rfl HMB.out HXL.out HKD.out HRV.out HBF.out ?_; intro w5 es5 clock5 hn5 hc5; have H5 := hid (And.intro hn5 hc5); clear hn5 hc5) | (refine q4z rfl _ 67 rfl rfl q1o Tryz.underlying67 HCE.out.2.1 HCE.out.1 ?_))
    have H6 := hid (And.intro H5.out.1 (And.intro (recL.sl_chg HSB.out H5.out.2 (fun y hy hm => HBF.out (by rw [List.mem_singleton] at hm; exact hm ▸ hy))) (HCB.out.trans H5.out.2 (fun y hy => .inl hy))))
    go_roundw
    case rel => exact ⟨k + 1, _, _, _, rfl, by omega, by go_num, H6.out.1, H6.out.2.1, H6.out.2.2⟩
    case measure => simp [intOf]; omega
   ·have hbk : (r.kind == 1) = false := by simp [hkd]
    have HM1 := hid (HMB.out.skip HXL.out hkd)
    clear hkd
    go_wp2_with (refine q4z rfl _ 67 rfl rfl q1o Tryz.underlying67 HCE.out.2.1 HCE.out.1 ?_)
    go_roundw
    case rel => exact ⟨k + 1, _, _, _, rfl, by omega, by go_num, HM1.out, HSB.out, HCB.out⟩
    case measure => simp [intOf]; omega
  ·obtain rfl : k = l := by omega
   have HNM := hid hm; have HC := hid hc
   have HFW := hid (fun y (hy : y ∈ f) => recL.sl_lt hs y hy)
   obtain ⟨it, hit⟩ : ∃ it, it = wr.heap.size + 1 := ⟨_, rfl⟩
   have HIT := hid hit
   obtain ⟨W4, hW4⟩ : ∃ W4, W4 = (wr.alloc (.cells #[] 67)).alloc (.mapIter (some b) clock #[] clock) := ⟨_, rfl⟩
   have g4 : Chg [] wr W4 := by rw [hW4]; exact ((Chg.refl [] wr).alloc _).alloc _
   have hcw : Chg [] w wr := HC2.out.trans hc (fun y hy => .inr (by rw [List.mem_singleton] at hy; rw [hy]; exact HBW.out))
   have HOM := hid (show ShF w.heap.size f W4 (.slice (some ⟨wr.heap.size, 0, none⟩) 0 0) [] by rw [hW4]; exact (ShF.made2 rfl hcw.size (fun hm => by have := HFW.out _ hm; omega)).ext ((Chg.refl [] _).alloc _))
   have HNM4 := hid (hm.ext g4); have HCW4 := hid (hcw.trans0 g4)
   have HIT4 := hid (show q8z W4 it b clock #[] by rw [hW4, hit]; exact q0d (by simp) _)
   have hsz4 : (wr.alloc (.cells #[] 67)).heap.size = it := by rw [hit]; simp
   have HSW4 := hid g4.size; have HIW := hid (show w.heap.size ≤ it by have := hcw.size; omega)
   have HMA := hid (show (wr.alloc (.cells #[] 67)).heap[b]? = some (.map es clock) from q0b hm.at_ _)
   have HKL := hid HL.out
   clear hm hs hc g4 hcw hit
   go_wp2_with (at_range; refine wpl_range _ rfl _ 183 rfl Tryz.underlying183 rfl HMA.out ?_; rw [hsz4, ← hW4]; clear hsz4 hW4)
   go_frame
   go_loopw [6] (fun vo wq => ∃ (seen : Array Nat) (ys : List Rec) (Wq : World), Wq = wq ∧ q8z wq it b clock seen ∧ NewM wq b f xs k es clock ∧ ShF w.heap.size f wq vo ys ∧ Hid (Gath xs k es seen ys) ∧ Chg [] w wq ∧ wr.heap.size ≤ wq.heap.size) (fun _ wq => wq.rangeLeft b it)
   case atStart => exact ⟨#[], [], _, rfl, HIT4.out, HNM4.out, HOM.out, Gath.start _ _ _, HCW4.out, HSW4.out⟩
   case round =>
    obtain ⟨seen, ys, wq, rfl, hi, hm, hsh, HGT, hcq, hsq⟩ := hrel
    have HI := hid hi; have HM := hid hm; have HSH := hid hsh; have HCQ := hid hcq; have HSQ := hid hsq
    have HRL := hid (q6m hm hi)
    have HYL := hid (show ys.length ≤ 400 by have h1 := HGT.out.2.2; have h2 := hm.size; omega)
    clear hi hm hsh hcq hsq
    go_wp2_with (at_next; refine wpl_next _ rfl _ rfl rfl HM.out HI.out ?_ ?_)
    ·intro h0
     have HE := hid (HGT.out.last HM.out h0)
     obtain ⟨g, fps, ho, hg, hgf, hfp⟩ := HSH.out
     have HQ := hid (HS.out _ ys g fps wq ho HYL.out)
     have HG := hid hg
     clear h0 ho hg hgf hfp
     go_wp2_with fail
     refine HQ.out.mono ?_
     rintro e w6 ⟨rfl, zs, a9, l9, c9, f9, rfl, hz1, hz2, hz3, hz4⟩
     have HZ := hid (show zs = livL xs from gath_liv (by have h := HE.out; rw [HKL.out] at h; exact h) HLV.out hz2 hz3)
     have HZ4 := hid (HCQ.out.trans hz4 (fun y hy => .inr (by rw [List.mem_singleton] at hy; rw [hy]; exact HG.out)))
     have HZ1 := hid hz1
     clear hz1 hz2 hz3 hz4
     go_wp2_with fail
     go_ret
     exact ⟨_, _, _, _, rfl, by rw [← HX9.out, ← HZ.out]; exact HZ1.out, HZ4.out⟩
    ·intro e wn hgot
     obtain ⟨he, hi, hcn, -⟩ := hgot.out
     obtain ⟨r, a6, l6, c6, a7, l7, c7, a8, l8, c8, fq, HE, hke, hve⟩ := HM.out.entry he
     have hbi : b ≠ it := fun e1 => by have h1 := HM.out.at_; have h2 : wq.heap[it]? = _ := HI.out; rw [e1, h2] at h1; cases h1
     have hfi : ∀ y ∈ f, y ∉ [it] := fun y hy hm => by rw [List.mem_singleton] at hm; have := HFW.out y hy; have := HIT.out; omega
     have hmn := HM.out.chg hcn (by simpa using hbi) hfi
     have hen := entry_at (P := Tryz.prog) hmn hi he
     rw [hke, hve] at hen ⊢
     obtain ⟨g0, fps, ho, hg, hgf, hfp⟩ := HSH.out
     have hgi : g0 ≠ it := os_ne ho HI.out (fun _ _ _ e => by cases e)
     have hgb : g0 ≠ b := os_ne ho HM.out.at_ (fun _ _ _ e => by cases e)
     have g1 : Chg [] wn (wn.alloc (.cells #[.int .i64 r.kind, .int .i64 r.seq, .string r.name, .int .i64 r.length, .int .i64 r.group, .int .i64 r.row, .slice a6 l6 c6, .slice a7 l7 c7, .slice a8 l8 c8] 67)) := (Chg.refl [] wn).alloc _
     have HON := hid (recL.os_chg ho hcn (fun g' e => by cases e; simpa using hgi) (fun y hy => hfi y (hfp y hy)))
     obtain ⟨a9, c9, rfl⟩ := recL.os_len ho
     have HOS := hid (recL.os_ext HON.out g1)
     have HXSB := hid (recL.ext (recL.chg HE.out.2.1 hcn (fun y hy => hfi y (HE.out.2.2 y hy))) g1)
     have HCN := hid (show Chg [] w (wn.alloc (.cells #[.int .i64 r.kind, .int .i64 r.seq, .string r.name, .int .i64 r.length, .int .i64 r.group, .int .i64 r.row, .slice a6 l6 c6, .slice a7 l7 c7, .slice a8 l8 c8] 67)) from (HCQ.out.trans hcn (fun y hy => .inr (by rw [List.mem_singleton] at hy; rw [hy]; exact HIW.out))).trans0 g1)
     have HMN := hid (hmn.ext g1); have HIN := hid (show q8z (wn.alloc (.cells #[.int .i64 r.kind, .int .i64 r.seq, .string r.name, .int .i64 r.length, .int .i64 r.group, .int .i64 r.row, .slice a6 l6 c6, .slice a7 l7 c7, .slice a8 l8 c8] 67)) it b clock (seen.push e.born) from q0b hi _)
     have HSN := hid (show wr.heap.size ≤ (wn.alloc (.cells #[.int .i64 r.kind, .int .i64 r.seq, .string r.name, .int .i64 r.length, .int .i64 r.group, .int .i64 r.row, .slice a6 l6 c6, .slice a7 l7 c7, .slice a8 l8 c8] 67)).heap.size by have h1 := HSQ.out; have h2 := g1.size; have h3 := hcn.size; omega)
     have HFN := hid (fun y (hy : y ∈ f) => show y < (wn.alloc (.cells #[.int .i64 r.kind, .int .i64 r.seq, .string r.name, .int .i64 r.length, .int .i64 r.group, .int .i64 r.row, .slice a6 l6 c6, .slice a7 l7 c7, .slice a8 l8 c8] 67)).heap.size by have h1 := HFW.out y hy; have h2 := HSN.out; omega)
     have HMS := hid (left_shrinks es seen e he)
     have HG := hid hg; have HGF := hid hgf; have HFP := hid hfp; have HFQ := hid HE.out.2.2
     have HGQ := hid (show ∀ g', some g0 = some g' → g' ∉ fq from fun g' e hm => by cases e; exact hgf (HE.out.2.2 g0 hm))
     have HGB := hid (And.intro hgb hgi)
     have HHE := hid he; have HKE := hid hke
     obtain ⟨lx, hlx⟩ : ∃ lx, lx = ys.length := ⟨_, rfl⟩
     have HLL := hid (show ys.length + [r].length ≤ maxLen ∧ (ys.length + [r].length) * 128 ≤ 140737488355328 by have := HYL.out; simp only [List.length_singleton, maxLen]; omega)
     rw [← hlx] at HOS HON ⊢
     by_cases hln : r.length = -1
     ·have hbl : (r.length != -1) = false := by simp [hln]
      have HGN := hid (HGT.out.no HM.out he HE.out.1 hke hln)
      clear hlx hgot hln he hke hve hbi hfi hmn ho hg hgf hfp hgi hgb g1 hcn hi
      go_wp2_with fail
      go_roundw
      case rel => exact ⟨_, ys, _, rfl, HIN.out, HMN.out, ⟨g0, fps, HOS.out, HG.out, HGF.out, HFP.out⟩, HGN, HCN.out, HSN.out⟩
      case measure => rw [q6m HMN.out HIN.out, HRL.out]; exact HMS.out
     ·have hbl : (r.length != -1) = true := by simp [hln]
      have HGN := hid (HGT.out.yes HM.out he HE.out.1 hke hln)
      clear hlx hgot hln he hke hve hbi hfi hmn ho hg hgf hfp hgi hgb g1 hcn hi
      go_wp2_with (at_builtin; refine recL.wpList_append rfl _ _ 44 rfl Tryz.underlying44 KR rfl (recL.os_ext HOS.out ((Chg.refl [] (wn.alloc (.cells #[.int .i64 r.kind, .int .i64 r.seq, .string r.name, .int .i64 r.length, .int .i64 r.group, .int .i64 r.row, .slice a6 l6 c6, .slice a7 l7 c7, .slice a8 l8 c8] 67))).alloc (.cells #[.int .i64 r.kind, .int .i64 r.seq, .string r.name, .int .i64 r.length, .int .i64 r.group, .int .i64 r.row, .slice a6 l6 c6, .slice a7 l7 c7, .slice a8 l8 c8] 67))) ⟨wn.heap.size + 1, 0, none⟩ 1 1 [.int .i64 r.kind, .int .i64 r.seq, .string r.name, .int .i64 r.length, .int .i64 r.group, .int .i64 r.row, .slice a6 l6 c6, .slice a7 l7 c7, .slice a8 l8 c8] (ys := [r]) (f := fq) rfl rfl (q2g (b := wn.heap.size + 1) (q0d (by simp) _)) (recL.all_single (recL.ext HXSB.out ((Chg.refl [] (wn.alloc (.cells #[.int .i64 r.kind, .int .i64 r.seq, .string r.name, .int .i64 r.length, .int .i64 r.group, .int .i64 r.row, .slice a6 l6 c6, .slice a7 l7 c7, .slice a8 l8 c8] 67))).alloc _))) HGQ.out HLL.out.1 HLL.out.2 ?_; intro v' w4 h' ho' hh' hc'; have HSH4 := hid (ShF.step2 (F := f) HG.out HGF.out HFP.out HFQ.out (fun y hy => by have := HFN.out y hy; simp at this ⊢; omega) (HCN.out.alloc (.cells #[.int .i64 r.kind, .int .i64 r.seq, .string r.name, .int .i64 r.length, .int .i64 r.group, .int .i64 r.row, .slice a6 l6 c6, .slice a7 l7 c7, .slice a8 l8 c8] 67)) ho' hh' hc'); clear ho' hh' hc')
      have H7 := hid (show NewM w4 b f xs k es clock ∧ q8z w4 it b clock (seen.push e.born) from ⟨(HMN.out.ext ((Chg.refl [] _).alloc _)).chg HSH4.out.2.2 (by simpa using HGB.out.1.symm) (fun y hy hm => HGF.out (by rw [List.mem_singleton] at hm; exact hm ▸ hy)), HSH4.out.2.2.keepb (q0b HIN.out _) (by simpa using HGB.out.2.symm)⟩)
      have H8 := hid (Nat.le_trans HSN.out (Nat.le_trans (((Chg.refl [] (wn.alloc (.cells #[.int .i64 r.kind, .int .i64 r.seq, .string r.name, .int .i64 r.length, .int .i64 r.group, .int .i64 r.row, .slice a6 l6 c6, .slice a7 l7 c7, .slice a8 l8 c8] 67))).alloc (.cells #[.int .i64 r.kind, .int .i64 r.seq, .string r.name, .int .i64 r.length, .int .i64 r.group, .int .i64 r.row, .slice a6 l6 c6, .slice a7 l7 c7, .slice a8 l8 c8] 67)).size) HSH4.out.2.2.size))
      go_roundw
      case rel => exact ⟨_, ys ++ [r], _, rfl, H7.out.2, H7.out.1, HSH4.out.1, HGN, HSH4.out.2.1, H8.out⟩
      case measure => rw [q6m H7.out.1 H7.out.2, HRL.out]; exact HMS.out
open Go.Shelf Go.Lib Go.Sort
def z0t : Go.Shelf.Ren := ⟨fun | 6 => 198 | 15 => 251 | 14 => 250 | 28 => 280 | 29 => 281 | 20 => 271 | 21 => 273 | 22 => 274 | 23 => 275 | 24 => 276 | 25 => 277 | 26 => 278 | 27 => 279 | 46 => 293 | 47 => 294 | 48 => 295 | 49 => 296 | 50 => 297 | 57 => 299 | n => n, fun | 22 => 44 | 24 => 67 | 25 => 168 | 3 => 3 | 39 => 216 | 0 => 0 | 53 => 240 | 55 => 242 | 4 => 4 | 46 => 233 | 45 => 232 | 50 => 237 | 5 => 5 | 9 => 9 | 66 => 249 | 70 => 253 | 76 => 255 | 77 => 256 | n => n, fun | n => n⟩
theorem sortRecLay : Go.Proofs.SlLaysF0.n6 Tryz.prog z0t := {
 mixed := by kernel_rfl
 f6 := ⟨Tryz.f198.name, by decide, Tryz.func198.trans (congrArg some (by kernel_rfl))⟩
 f14 := ⟨Tryz.f250.name, by decide, Tryz.func250.trans (congrArg some (by kernel_rfl))⟩
 f15 := Tryz.func251.trans (congrArg some (by kernel_rfl))
 f20 := ⟨Tryz.f271.name, by decide, Tryz.func271.trans (congrArg some (by kernel_rfl))⟩
 f21 := ⟨Tryz.f273.name, by decide, Tryz.func273.trans (congrArg some (by kernel_rfl))⟩
 f22 := ⟨Tryz.f274.name, by decide, Tryz.func274.trans (congrArg some (by kernel_rfl))⟩
 f23 := ⟨Tryz.f275.name, by decide, Tryz.func275.trans (congrArg some (by kernel_rfl))⟩
 f24 := ⟨Tryz.f276.name, by decide, Tryz.func276.trans (congrArg some (by kernel_rfl))⟩
 f25 := ⟨Tryz.f277.name, by decide, Tryz.func277.trans (congrArg some (by kernel_rfl))⟩
 f26 := ⟨Tryz.f278.name, by decide, Tryz.func278.trans (congrArg some (by kernel_rfl))⟩
 f27 := ⟨Tryz.f279.name, by decide, Tryz.func279.trans (congrArg some (by kernel_rfl))⟩
 f28 := Tryz.func280.trans (congrArg some (by kernel_rfl))
 f29 := Tryz.func281.trans (congrArg some (by kernel_rfl))
 f46 := ⟨Tryz.f293.name, by decide, Tryz.func293.trans (congrArg some (by kernel_rfl))⟩
 f47 := Tryz.func294.trans (congrArg some (by kernel_rfl))
 f48 := Tryz.func295.trans (congrArg some (by kernel_rfl))
 f49 := ⟨Tryz.f296.name, by decide, Tryz.func296.trans (congrArg some (by kernel_rfl))⟩
 f50 := ⟨Tryz.f297.name, by decide, Tryz.func297.trans (congrArg some (by kernel_rfl))⟩
 f57 := ⟨Tryz.f299.name, by decide, Tryz.func299.trans (congrArg some (by kernel_rfl))⟩
 t0 := Tryz.underlying0
 a0 := Tryz.isAgg0
 z0 := Tryz.sizeOf0
 v0 := Tryz.zeroValue0
 t3 := Tryz.underlying3
 a3 := Tryz.isAgg3
 z3 := Tryz.sizeOf3
 v3 := Tryz.zeroValue3
 t4 := Tryz.underlying4
 a4 := Tryz.isAgg4
 z4 := Tryz.sizeOf4
 v4 := Tryz.zeroValue4
 t5 := Tryz.underlying5
 a5 := Tryz.isAgg5
 z5 := Tryz.sizeOf5
 v5 := Tryz.zeroValue5
 t9 := Tryz.underlying9
 a9 := Tryz.isAgg9
 z9 := Tryz.sizeOf9
 v9 := Tryz.zeroValue9
 t22 := Tryz.underlying44
 a22 := Tryz.isAgg44
 z22 := Tryz.sizeOf44
 v22 := Tryz.zeroValue44
 t25 := Tryz.underlying168
 a25 := Tryz.isAgg168
 z25 := Tryz.sizeOf168
 v25 := Tryz.zeroValue168
 t39 := Tryz.underlying216
 a39 := Tryz.isAgg216
 z39 := Tryz.sizeOf216
 v39 := Tryz.zeroValue216
 t45 := Tryz.underlying232
 a45 := Tryz.isAgg232
 z45 := Tryz.sizeOf232
 v45 := Tryz.zeroValue232
 t46 := Tryz.underlying233
 a46 := Tryz.isAgg233
 z46 := Tryz.sizeOf233
 v46 := Tryz.zeroValue233
 t50 := Tryz.underlying237
 a50 := Tryz.isAgg237
 z50 := Tryz.sizeOf237
 v50 := Tryz.zeroValue237
 t53 := Tryz.underlying240
 a53 := Tryz.isAgg240
 z53 := Tryz.sizeOf240
 v53 := Tryz.zeroValue240
 t55 := Tryz.underlying242
 a55 := Tryz.isAgg242
 z55 := Tryz.sizeOf242
 v55 := Tryz.zeroValue242
 t66 := Tryz.underlying249
 a66 := Tryz.isAgg249
 z66 := Tryz.sizeOf249
 v66 := Tryz.zeroValue249
 t70 := Tryz.underlying253
 a70 := Tryz.isAgg253
 z70 := Tryz.sizeOf253
 v70 := Tryz.zeroValue253
 t76 := Tryz.underlying255
 a76 := Tryz.isAgg255
 z76 := Tryz.sizeOf255
 v76 := Tryz.zeroValue255
 t77 := Tryz.underlying256
 a77 := Tryz.isAgg256
 z77 := Tryz.sizeOf256
 v77 := Tryz.zeroValue256 }
def z1q : Go.Shelf.Ren := ⟨fun | 106 => 200 | 213 => 252 | 265 => 282 | n => n, fun | n => n, fun | n => n⟩
theorem strCmpLay : Go.Proofs.Lays.n106 Tryz.prog z1q := {
 mixed := by kernel_rfl
 f106 := Tryz.func200.trans (congrArg some (by kernel_rfl))
 f213 := Tryz.func252.trans (congrArg some (by kernel_rfl))
 f265 := Tryz.func282.trans (congrArg some (by kernel_rfl))
 t3 := Tryz.underlying3
 a3 := Tryz.isAgg3
 z3 := Tryz.sizeOf3
 v3 := Tryz.zeroValue3
 t9 := Tryz.underlying9
 a9 := Tryz.isAgg9
 z9 := Tryz.sizeOf9
 v9 := Tryz.zeroValue9 }
abbrev RE := Rec × (Option Addr × Nat × Nat) × (Option Addr × Nat × Nat) × (Option Addr × Nat × Nat)
instance : Inhabited RE := ⟨(⟨0, 0, .empty, 0, 0, 0, [], [], []⟩, (none, 0, 0), (none, 0, 0), (none, 0, 0))⟩
def encR (x : RE) : List Value := [.int .i64 x.1.kind, .int .i64 x.1.seq, .string x.1.name, .int .i64 x.1.length, .int .i64 x.1.group, .int .i64 x.1.row, .slice x.2.1.1 x.2.1.2.1 x.2.1.2.2, .slice x.2.2.1.1 x.2.2.1.2.1 x.2.2.1.2.2, .slice x.2.2.2.1 x.2.2.2.2.1 x.2.2.2.2.2]
def cmpR (x y : RE) : Int := Lib.compareBytes x.1.name.data.toList y.1.name.data.toList
theorem cmp_lt : ∀ a b : List UInt8, decide (Lib.compareBytes a b < 0) = Go.Op.bytesLess a b
 | [], [] => rfl
 | [], _ :: _ => rfl
 | _ :: _, [] => rfl
 | a :: x, b :: y => by
  have ih := cmp_lt x y
  unfold Lib.compareBytes Go.Op.bytesLess
  by_cases h : a < b
  ·rw [if_pos h]; simp [h]
  ·rw [if_neg h]
   by_cases h2 : b < a
   ·rw [if_pos h2]
    have h3 : (a == b) = false := by
     rw [beq_eq_false_iff_ne]; intro e; subst e; exact h h2
    simp [h, h3]
   ·rw [if_neg h2]
    have h3 : (a == b) = true := by
     rw [beq_iff_eq]
     exact UInt8.toNat_inj.1 (by rw [UInt8.lt_iff_toNat_lt] at h h2; omega)
    rw [ih]; simp [h, h3]
theorem q7x (x y : RE) : Go.Proofs.ltOf cmpR x y = q3v x.1 y.1 := by
 unfold Go.Proofs.ltOf cmpR q3v
 rw [cmp_lt, ByteArray.toList_eq, ByteArray.toList_eq]
theorem swo_cmpR : SWO (Go.Proofs.ltOf cmpR) where
 irrefl x := by rw [q7x]; exact q2o.irr _
 trans x y z h k := by rw [q7x] at *; exact q2o.tr _ _ _ h k
 ntrans x y z h k := by rw [q7x] at *; exact q2o.ntr _ _ _ h k
theorem q5y (x : RE) : (encR x).length = 9 := rfl
theorem encR_one (x : RE) : ∀ v ∈ encR x, v.oneCell' = true := by
 intro v hv
 simp only [encR, List.mem_cons, List.not_mem_nil, or_false] at hv
 rcases hv with rfl | rfl | rfl | rfl | rfl | rfl | rfl | rfl | rfl <;> rfl
theorem z2m : ∀ (ds : List RE) (t : Nat), t < ds.length * 9 → (ds.flatMap encR)[t]? = some ((encR ds.toArray[t / 9]!)[t % 9]!)
 | [], t, h => by simp at h
 | d :: ds, t, h => by
  rw [List.flatMap_cons]
  by_cases h9 : t < 9
  ·rw [List.getElem?_append_left (by rw [q5y]; exact h9), Nat.div_eq_of_lt h9, Nat.mod_eq_of_lt h9, List.getElem?_eq_getElem (by rw [q5y]; exact h9)]
   have e1 : (d :: ds).toArray[0]! = d := rfl
   rw [e1, getElem!_pos (encR d) t (by rw [q5y]; exact h9)]
  ·rw [List.getElem?_append_right (by rw [q5y]; omega), q5y, z2m ds (t - 9) (by rw [List.length_cons] at h; omega)]
   have e1 : t / 9 = (t - 9) / 9 + 1 := by omega
   have e2 : t % 9 = (t - 9) % 9 := by omega
   have e3 : ∀ i, (d :: ds).toArray[i + 1]! = ds.toArray[i]! := fun i => by simp
   rw [e1, e2, e3]
theorem encR_flat (ds : List RE) : (ds.flatMap encR).length = ds.length * 9 := by
 induction ds with
 | nil => rfl
 | cons d ds ih => rw [List.flatMap_cons, List.length_append, q5y, ih, List.length_cons]; omega
theorem flatK_list (ds : List RE) : (flatK encR 9 ds.toArray).toList = ds.flatMap encR := by
 apply List.ext_getElem?
 intro t
 by_cases h : t < ds.length * 9
 ·rw [z2m ds t h, Array.getElem?_toList]
  have hs : t < (flatK encR 9 ds.toArray).size := by rw [size_flatK]; simpa using h
  have := get_flatK encR 9 ds.toArray t (by simpa using h)
  rw [getElem!_pos _ t hs] at this
  rw [Array.getElem?_eq_getElem hs, this]
 ·rw [List.getElem?_eq_none (by rw [Array.length_toList, size_flatK]; simpa using h), List.getElem?_eq_none (by rw [encR_flat]; omega)]
theorem all_enc {w : World} : ∀ {xs : List Rec} {cs : List Value} {fp : List Nat}, recL.all w cs xs fp → ∃ ds : List RE, ds.map (·.1) = xs ∧ cs = ds.flatMap encR ∧ ∀ x ∈ ds, ∃ fq, recL.rep w (encR x) x.1 fq ∧ ∀ y ∈ fq, y ∈ fp := by
 intro xs
 induction xs with
 | nil => intro cs fp h; obtain ⟨rfl, rfl⟩ := h; exact ⟨[], rfl, rfl, by simp⟩
 | cons x xs ih =>
  intro cs fp h
  obtain ⟨c1, c2, f1, f2, rfl, rfl, h1, h2⟩ := h
  obtain ⟨ds, e1, e2, e3⟩ := ih h2
  obtain ⟨a6, l6, c6, f6, a7, l7, c7, f7, a8, l8, c8, f8, ex, -⟩ := q0m.1 h1
  refine ⟨(x, (a6, l6, c6), (a7, l7, c7), (a8, l8, c8)) :: ds, by rw [List.map_cons, e1], by rw [List.flatMap_cons, ← e2, ex]; rfl, fun y hy => ?_⟩
  rcases List.mem_cons.1 hy with rfl | hy
  ·exact ⟨f1, by rw [ex] at h1; exact h1, fun z hz => List.mem_append.2 (.inl hz)⟩
  ·obtain ⟨fq, k1, k2⟩ := e3 y hy
   exact ⟨fq, k1, fun z hz => List.mem_append.2 (.inr (k2 z hz))⟩
theorem enc_all {w : World} {fp : List Nat} : ∀ (ds : List RE), (∀ x ∈ ds, ∃ fq, recL.rep w (encR x) x.1 fq ∧ ∀ y ∈ fq, y ∈ fp) → ∃ fps, recL.all w (ds.flatMap encR) (ds.map (·.1)) fps ∧ ∀ y ∈ fps, y ∈ fp
 | [], _ => ⟨[], ⟨rfl, rfl⟩, by simp⟩
 | d :: ds, h => by
  obtain ⟨fps, h1, h2⟩ := enc_all ds (fun x hx => h x (List.mem_cons_of_mem _ hx))
  obtain ⟨fq, k1, k2⟩ := h d (by simp)
  exact ⟨fq ++ fps, ⟨_, _, _, _, List.flatMap_cons, rfl, k1, h1⟩, fun y hy => (List.mem_append.1 hy).elim (k2 y) (h2 y)⟩
theorem newest1_any (x y : RE) (W : World) : Calls Tryz.prog 199 (#[.agg (encR x).toArray, .agg (encR y).toArray] ++ #[]) W fun e w' => e = .returned (.int .i64 (cmpR x y)) ∧ ∃ q os', w' = grow (W.drewN q) os' := by
 have hcon := fun W' => Any.strings_Compare strCmpLay x.1.name y.1.name W'
 change ∀ W', Calls Tryz.prog 200 _ _ _ at hcon
 unfold cmpR
 generalize Lib.compareBytes x.1.name.data.toList y.1.name.data.toList = r at hcon ⊢
 obtain ⟨x, ⟨a6, l6, c6⟩, ⟨a7, l7, c7⟩, a8, l8, c8⟩ := x
 obtain ⟨y, ⟨b6, m6, d6⟩, ⟨b7, m7, d7⟩, b8, m8, d8⟩ := y
 simp only [encR, List.append_toArray, List.append_nil]
 go_enter Tryz.func199, Tryz.ntmps199
 go_wp2_with (go_at_call 200; refine (hcon _).mono ?_; rintro e w' ⟨rfl, rfl⟩)
 go_ret
 exact ⟨rfl, 0, _, by rw [alloc_eq_grow, alloc_eq_grow, grow_grow]; rfl⟩
theorem chg_sortw (w : World) (g n : Nat) (F : Array Value) (os : Array Obj) : Chg [g] w (grow (putRow id (Sort.ahead w n) g 0 F) os) := by
 refine ⟨rfl, rfl, rfl, ?_, fun k hk hS => ?_, fun k ⟨c, E, hk⟩ => ?_⟩
 ·simp only [size_grow, putRow, mapBlock, Array.size_modify]; exact Nat.le_add_right _ _
 ·rw [heap_grow_old _ _ (by simpa [putRow, mapBlock] using hk)]
  simp only [putRow, mapBlock, Array.getElem?_modify]
  rw [if_neg (fun e => hS (by simp [e]))]
  rfl
 ·have hk2 := (Array.getElem?_eq_some_iff.1 hk).1
  by_cases e : g = k
  ·subst e
   refine ⟨putCells id 0 F c, E, ?_⟩
   rw [heap_grow_old _ _ (by simpa [putRow, mapBlock] using hk2)]
   simp only [putRow, mapBlock, Array.getElem?_modify, if_true]
   rw [show (Sort.ahead w n).heap[g]? = _ from hk]; rfl
  ·refine ⟨c, E, ?_⟩
   rw [heap_grow_old _ _ (by simpa [putRow, mapBlock] using hk2)]
   simp only [putRow, mapBlock, Array.getElem?_modify]
   rw [if_neg e]; exact hk
theorem at_sortw {w : World} {g : Nat} {c : Array Value} {E : TypeId} {fr : Nat × Nat} (n : Nat) (F : Array Value) (os : Array Obj) (hk : w.heap[g]? = some (.cells c E fr)) : (grow (putRow id (Sort.ahead w n) g 0 F) os).heap[g]? = some (.cells (putCells id 0 F c) E fr) := by
 have hk2 := (Array.getElem?_eq_some_iff.1 hk).1
 rw [heap_grow_old _ _ (by simpa [putRow, mapBlock] using hk2)]
 simp only [putRow, mapBlock, Array.getElem?_modify, if_true]
 rw [show (Sort.ahead w n).heap[g]? = _ from hk]; rfl
theorem z1u (F c : Array Value) (h : F.size ≤ c.size) : (putCells id 0 F c).toList.take F.size = F.toList := by
 apply List.ext_getElem?
 intro t
 by_cases ht : t < F.size
 ·rw [List.getElem?_take_of_lt ht, Array.getElem?_toList, Array.getElem?_toList]
  simp only [putCells, Array.getElem?_mapIdx]
  rw [Array.getElem?_eq_getElem (by omega), Array.getElem?_eq_getElem ht]
  simp [ht]
 ·rw [List.getElem?_eq_none (by simp; omega), List.getElem?_eq_none (by simp; omega)]
theorem perm_extract {d d' : Array RE} (h : PermIn 0 d.size d d') : d'.toList.Perm d.toList := by
 obtain ⟨h1, -, h3⟩ := h
 have e1 : d.extract 0 d.size = d := by simp
 have e2 : d'.extract 0 d.size = d' := by rw [← h1]; simp
 rw [e1, e2] at h3
 exact h3
theorem sorted_srt {d : Array RE} {n : Nat} (hn : n = d.size) (h : SortedIn (Go.Proofs.ltOf cmpR) 0 n d) : Srt q3v (d.toList.map (·.1)) := by
 subst hn
 unfold Srt
 rw [List.pairwise_iff_getElem]
 intro i j hi hj hij
 have h1 := h i j (Nat.zero_le _) hij (by simpa using hj)
 rw [q7x] at h1
 have hi' : i < d.size := by simpa using hi
 have hj' : j < d.size := by simpa using hj
 rw [getElem!_pos d j hj', getElem!_pos d i hi'] at h1
 simpa using h1
theorem sortRecs_ok : SortsRecs 198 (.func (.func 199) #[] #[]) := by
 intro v ys g fps w ho hl
 rcases ho with ⟨-, -, e, -⟩ | ⟨g', cap, cur, rfl, e, hg, h1, h2, h3, hall, h4⟩
 ·cases e
 cases e
 obtain ⟨ds, hd1, hd2, hd3⟩ := all_enc hall
 have hdl : ds.length = ys.length := by rw [← hd1, List.length_map]
 have hgl := (Array.getElem?_eq_some_iff.1 hg).1
 have h9 : recL.n = 9 := rfl
 rw [h9] at h3 hd2
 have hcl : ys.length * 9 ≤ cur.size := by rw [h3]; exact Nat.mul_le_mul_right 9 h1
 have hH : HoldsK encR 9 w g 0 ds.toArray := by
  intro t ht
  rw [size_flatK] at ht
  have ht' : t < ds.length * 9 := by simpa using ht
  rw [Nat.zero_add]
  refine ⟨?_, q0l hg _⟩
  rw [cellsOf hg]
  have e1 := z2m ds t ht'
  rw [← hd2, List.getElem?_take_of_lt (by omega), Array.getElem?_toList] at e1
  rw [e1, get_flatK encR 9 ds.toArray t (by simpa using ht')]; rfl
 have eg : ∀ args w, (callFunc 199 args).run Tryz.prog w = .ok (.enter 199 args) w := fun _ _ => by go_simp
 have hs := AnyQ.slices_SortFunc sortRecLay 9 Tryz.isAgg67 Tryz.sizeOf67 encR q5y encR_one cmpR swo_cmpR 199 #[] g 0 cap ds.toArray w eg (fun _ _ _ _ x y => newest1_any x y _) hH hgl (by simp; omega)
 change Calls Tryz.prog 198 _ _ _ at hs
 have e0 : ds.toArray.size = ys.length := by simpa using hdl
 rw [e0] at hs
 refine hs.mono ?_
 rintro e w' ⟨rfl, d', n, os, hp, hso, rfl⟩
 rw [← e0] at hp
 have hp2 := perm_extract hp
 have hsz : d'.size = ys.length := by rw [hp.1, e0]
 have hc : Chg [g] w (sortWorldK encR 9 w g 0 n d' os) := chg_sortw w g n _ os
 have hat : (sortWorldK encR 9 w g 0 n d' os).heap[g]? = _ := at_sortw n (flatK encR 9 d') os hg
 obtain ⟨fq, hq1, hq2⟩ := enc_all (w := sortWorldK encR 9 w g 0 n d' os) (fp := fps) d'.toList (fun x hx => by
  obtain ⟨fq, k1, k2⟩ := hd3 x (hp2.mem_iff.1 hx)
  exact ⟨fq, recL.chg k1 hc (fun b hb hm => h4 (by rw [List.mem_singleton] at hm; exact hm ▸ k2 b hb)), k2⟩)
 refine ⟨rfl, d'.toList.map (·.1), _, _, _, g :: fq, rfl, ⟨by simp [hsz], h1, h2, (fun h => by cases h), .inr ⟨g, 0, _, _, _, fq, rfl, hat, ?_, rfl⟩⟩, sorted_srt hsz.symm hso, by rw [← hd1]; exact hp2.map _, hc⟩
 rw [List.drop_zero]
 have e3 := z1u (flatK encR 9 d') cur (by rw [size_flatK, hsz]; exact hcl)
 have e4 : (flatK encR 9 d').toList = d'.toList.flatMap encR := by
  have := flatK_list d'.toList
  simpa using this
 rw [size_flatK, hsz, e4] at e3
 rw [h9, e3]
 exact hq1
def q1u (w : World) (b : Nat) (bs : List Bool) : Prop := w.heap[b]? = some (.cells (bs.map Value.bool).toArray 4 (0, 0))
theorem q1u.ext {w w' : World} {b : Nat} {bs : List Bool} (h : q1u w b bs) (hc : Chg [] w w') : q1u w' b bs := hc.keep0 h
theorem q1u.cell {w : World} {b : Nat} {bs : List Bool} (h : q1u w b bs) {i : Nat} {v : Bool} (hv : bs[i]? = some v) : w.cell? ⟨b, i, none⟩ = some (.bool v) := by
 rw [cellsOf h]; simp [hv]
theorem q1u.set {w : World} {b : Nat} {bs : List Bool} (h : q1u w b bs) (i : Nat) (v : Bool) : q1u (w.setCell ⟨b, i, none⟩ (.bool v)) b (bs.set i v) := by
 have h1 := q2q (o := i) (v := .bool v) h
 unfold q1u
 rw [h1]
 congr 2
 simp [List.map_set]
theorem infoBo : (Tryz.prog.info? 4).map (fun i => (i.zero, i.size, i.bytes)) = some (some (.bool false), 1, 1) := by kernel_rfl
theorem kindBo : ∃ K : Kind Tryz.prog 4 1 1, K.z = .bool false := by
 obtain ⟨i0, hi, hz0, hz1, hz2⟩ := info_parts infoBo
 exact ⟨⟨i0, .bool false, hi, hz0, hz1, hz2, rfl⟩, rfl⟩
theorem make_bools (n : Nat) (hn : n ≤ 140737488355327) (w : World) :
  (Instr.makeSlice 173 (.int .i64 (n : Int)) (.int .i64 (n : Int))).run Tryz.prog w = .ok (.slice (some ⟨w.heap.size, 0, none⟩) n n) (w.alloc (.cells (Array.replicate n (.bool false)) 4)) := by
 obtain ⟨K, hK⟩ := kindBo
 have h := q5i Tryz.underlying173 K n (by omega) (by omega) w
 have e : zrow K.z (n * 1) = Array.replicate n (.bool false) := by
  rw [Nat.mul_one, hK]
  apply Array.toList_inj.1
  rw [Array.toList_replicate]
  exact toList_madeCells_one (.bool false) n
 rw [e] at h
 exact h
theorem q1u.made (w : World) (n b : Nat) (hb : b = w.heap.size) : q1u (w.alloc (.cells (Array.replicate n (.bool false)) 4)) b (List.replicate n false) := by
 subst hb
 have h := q1a w (.cells (Array.replicate n (.bool false)) 4)
 unfold q1u
 rw [h]
 congr 2
 apply Array.toList_inj.1
 simp
end Go.Proofs.YtphmpimgbmedbaaGreat
