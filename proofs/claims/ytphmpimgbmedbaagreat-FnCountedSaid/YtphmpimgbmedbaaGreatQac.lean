/- Several texts in one. -/
import Derived.Test.YtphmpimgbmedbaaGreatQaa
import Derived.Test.YtphmpimgbmedbaaGreatRows
import Derived.Deep.RegionLaw
set_option maxRecDepth 100000
set_option maxHeartbeats 8000000
namespace Go.Proofs.YtphmpimgbmedbaaGreat
open Go.RowKit
open Go.Lib (hid)
theorem ElT.one {T : List TRow} {k : Kd} {cs : List Value} (h : ElT T k cs) : ∀ u ∈ cs, u.oneCell' = true := by
 have hv : ∀ {k : Kd} {v : Value}, SlT T k v → v.oneCell' = true := fun ⟨_, _, _, e, _⟩ => by rw [e]; rfl
 intro u hu
 cases k with
 | bt => obtain ⟨_, rfl⟩ := h; simp at hu; subst hu; rfl
 | it => obtain ⟨_, rfl, _⟩ := h; simp at hu; subst hu; rfl
 | bk => obtain ⟨_, v, rfl, _, h2⟩ := h; simp at hu; rcases hu with rfl | rfl; rfl; exact hv h2
 | dr R => obtain ⟨_, _, _, _, rfl, h2, _⟩ := h; simp at hu; rcases hu with rfl | rfl; rfl; exact hv h2
 | ds D R => obtain ⟨_, _, _, rfl, h2, _⟩ := h; simp at hu; subst hu; exact hv h2
 | rc =>
  obtain ⟨_, _, _, _, _, _, v6, v7, v8, rfl, _, _, h6, h7, h8⟩ := h
  simp only [List.mem_cons, List.not_mem_nil, or_false] at hu
  rcases hu with rfl | rfl | rfl | rfl | rfl | rfl | rfl | rfl | rfl
  iterate 6 rfl
  ·exact hv h6
  ·exact hv h7
  ·exact hv h8
 | tp => obtain ⟨_, v, rfl, h2⟩ := h; simp at hu; rcases hu with rfl | rfl; rfl; exact hv h2
theorem Well.lt {T : List TRow} {w : World} (h : Well T w) {r : TRow} (hr : r ∈ T) : r.b < w.heap.size := by
 obtain ⟨cur, h1, -⟩ := h.row r hr
 exact (Array.getElem?_eq_some_iff.1 h1).1
theorem Well.uniq {T : List TRow} {w : World} (h : Well T w) {r q : TRow} (hr : r ∈ T) (hq : q ∈ T) (e : q.b = r.b) : q = r := by
 have hn := h.nd
 obtain ⟨i, hi, rfl⟩ := List.getElem_of_mem hr
 obtain ⟨j, hj, rfl⟩ := List.getElem_of_mem hq
 have : j = i := (List.getElem?_inj (l := T.map (·.b)) (by simpa using hj) hn).1 (by rw [List.getElem?_map, List.getElem?_map, List.getElem?_eq_getElem hj, List.getElem?_eq_getElem hi, Option.map_some, Option.map_some, e])
 subst this; rfl
theorem Well.chg {T : List TRow} {w w' : World} {S : List Nat} (h : Well T w) (hc : Chg S w w') (hS : ∀ r ∈ T, r.b ∉ S) : Well T w' :=
 ⟨h.nd, fun r hr => by
  obtain ⟨cur, h1, h2⟩ := h.row r hr
  exact ⟨cur, hc.keepb h1 (hS r hr), h2⟩⟩
theorem Well.ext {T : List TRow} {w w' : World} (h : Well T w) (hc : Chg [] w w') : Well T w' := h.chg hc (by simp)
theorem Well.put {T : List TRow} {w w' : World} (h : Well T w) {r : TRow} (hr : r ∈ T) {cur : Array Value} (hc : Chg [r.b] w w') (hb : w'.heap[r.b]? = some (.cells cur r.k.E (0, 0))) (hs : cur.size = r.z * r.k.n)
  (hel : ∀ i, i < r.m → ElT T r.k ((cur.toList.drop (i * r.k.n)).take r.k.n)) : Well T w' :=
 ⟨h.nd, fun q hq => by
  by_cases e : q.b = r.b
  ·obtain rfl := h.uniq hr hq e
   obtain ⟨_, _, _, h3, _⟩ := h.row q hr
   exact ⟨cur, hb, hs, h3, hel⟩
  ·obtain ⟨cur, h1, h2⟩ := h.row q hq
   exact ⟨cur, hc.keepb h1 (by simpa using e), h2⟩⟩
theorem chunk_put {l vs : List Value} {n i : Nat} (hv : vs.length = n) (hi : i * n + n ≤ l.length) (p : Nat) : ((l.take (i * n) ++ (vs ++ l.drop (i * n + n))).drop (p * n)).take n = if p = i then vs else (l.drop (p * n)).take n := by
 by_cases e : p = i
 ·subst e
  rw [if_pos rfl, List.drop_append_of_le_length (by rw [List.length_take]; omega), List.drop_take, Nat.sub_self, List.take_zero, List.nil_append, List.take_append_of_le_length (by omega), List.take_of_length_le (by omega)]
 ·rw [if_neg e]
  apply List.ext_getElem?
  intro t
  by_cases ht : t < n
  ·rw [List.getElem?_take_of_lt ht, List.getElem?_take_of_lt ht, List.getElem?_drop, List.getElem?_drop]
   rcases Nat.lt_or_gt_of_ne e with h | h
   ·have : p * n + n ≤ i * n := by
     have := Nat.mul_le_mul_right n (show p + 1 ≤ i by omega)
     rwa [Nat.add_mul, Nat.one_mul] at this
    rw [List.getElem?_append_left (by rw [List.length_take]; omega), List.getElem?_take_of_lt (by omega)]
   ·have : i * n + n ≤ p * n := by
     have := Nat.mul_le_mul_right n (show i + 1 ≤ p by omega)
     rwa [Nat.add_mul, Nat.one_mul] at this
    rw [List.getElem?_append_right (by rw [List.length_take]; omega), List.length_take, Nat.min_eq_left (by omega), List.getElem?_append_right (by omega), List.getElem?_drop, hv]
    congr 1; omega
  ·rw [List.getElem?_eq_none (by rw [List.length_take]; omega), List.getElem?_eq_none (by rw [List.length_take]; omega)]
theorem Well.put1 {T : List TRow} {w : World} (h : Well T w) {r : TRow} (hr : r ∈ T) {i : Nat} (hi : i < r.m) {cs : List Value} (he : ElT T r.k cs) : Well T (w.setCells r.b (i * r.k.n) cs) ∧ Chg [r.b] w (w.setCells r.b (i * r.k.n) cs) := by
 obtain ⟨cur, h1, h2, h3, h4⟩ := h.row r hr
 have hl := he.len
 have hsz : i * r.k.n + r.k.n ≤ cur.size := by
  have := Nat.mul_le_mul_right r.k.n (show i + 1 ≤ r.z by omega)
  rw [Nat.add_mul, Nat.one_mul] at this
  omega
 have hc : Chg [r.b] w (w.setCells r.b (i * r.k.n) cs) := Chg.setCells (.inl (by simp)) cs _ (Chg.refl _ w)
 have hb := q2w cs (i * r.k.n) w cur h1
 have ht := q4h cs (i * r.k.n) cur (by rw [hl]; exact hsz)
 refine ⟨h.put hr hc hb ?_ (fun p hp => ?_), hc⟩
 ·have := congrArg List.length ht
  simp only [Array.length_toList, List.length_append, List.length_take, List.length_drop] at this
  omega
 ·rw [ht, hl, chunk_put hl (by rw [Array.length_toList]; exact hsz)]
  split
  ·exact he
  ·exact h4 p hp
theorem Well.push {T : List TRow} {w : World} (h : Well T w) (k : Kd) (m z : Nat) (cur : Array Value) (hm : m ≤ z) (hs : cur.size = z * k.n) (hel : ∀ i, i < m → ElT T k ((cur.toList.drop (i * k.n)).take k.n)) :
  Well (⟨w.heap.size, k, m, z⟩ :: T) (w.alloc (.cells cur k.E)) ∧ SubT T (⟨w.heap.size, k, m, z⟩ :: T) := by
 have hsb := SubT.cons T ⟨w.heap.size, k, m, z⟩
 refine ⟨⟨?_, fun r hr => ?_⟩, hsb⟩
 ·rw [List.map_cons, List.nodup_cons]
  refine ⟨fun hm => ?_, h.nd⟩
  obtain ⟨r, hr, e⟩ := List.mem_map.1 hm
  have := h.lt hr
  simp only at e
  omega
 ·rcases List.mem_cons.1 hr with rfl | hr
  ·exact ⟨cur, q0o w _, hs, hm, fun i hi => (hel i hi).sub hsb⟩
  ·obtain ⟨c, h1, h2, h3, h4⟩ := h.row r hr
   exact ⟨c, q0b h1 _, h2, h3, fun i hi => (h4 i hi).sub hsb⟩
def growT (T : List TRow) (b m : Nat) : List TRow := T.map (fun q => if q.b = b then { q with m := m } else q)
theorem growT_sub {T : List TRow} {b m : Nat} (h : ∀ q ∈ T, q.b = b → q.m ≤ m) : SubT T (growT T b m) := fun q hq => by
 refine ⟨_, List.mem_map.2 ⟨q, hq, rfl⟩, ?_⟩
 by_cases e : q.b = b
 ·rw [if_pos e]; exact ⟨rfl, rfl, h q hq e, rfl⟩
 ·rw [if_neg e]; exact ⟨rfl, rfl, Nat.le_refl _, rfl⟩
theorem growT_b (T : List TRow) (b m : Nat) : (growT T b m).map (·.b) = T.map (·.b) := by
 unfold growT
 rw [List.map_map]
 apply List.map_congr_left
 intro q _
 show (if q.b = b then _ else q : TRow).b = q.b
 split <;> rfl
theorem Well.grow1 {T : List TRow} {w : World} (h : Well T w) {r : TRow} (hr : r ∈ T) {i : Nat} (hi : i ≤ r.m) (hz : i < r.z) {cs : List Value} (he : ElT T r.k cs) :
  ∃ m', r.m ≤ m' ∧ i < m' ∧ Well (growT T r.b m') (w.setCells r.b (i * r.k.n) cs) ∧ SubT T (growT T r.b m') ∧ Chg [r.b] w (w.setCells r.b (i * r.k.n) cs) := by
 obtain ⟨cur, h1, h2, h3, h4⟩ := h.row r hr
 have hl := he.len
 have hsz : i * r.k.n + r.k.n ≤ cur.size := by
  have := Nat.mul_le_mul_right r.k.n (show i + 1 ≤ r.z by omega)
  rw [Nat.add_mul, Nat.one_mul] at this
  omega
 have hc : Chg [r.b] w (w.setCells r.b (i * r.k.n) cs) := Chg.setCells (.inl (by simp)) cs _ (Chg.refl _ w)
 have hb := q2w cs (i * r.k.n) w cur h1
 have ht := q4h cs (i * r.k.n) cur (by rw [hl]; exact hsz)
 have hcs : (setRow cur (i * r.k.n) cs).size = r.z * r.k.n := by
  have := congrArg List.length ht
  simp only [Array.length_toList, List.length_append, List.length_take, List.length_drop] at this
  omega
 refine ⟨max r.m (i + 1), Nat.le_max_left _ _, by omega, ?_⟩
 have hsb : SubT T (growT T r.b (max r.m (i + 1))) := growT_sub (fun q hq e => by rw [h.uniq hr hq e]; exact Nat.le_max_left _ _)
 refine ⟨⟨by rw [growT_b]; exact h.nd, fun q hq => ?_⟩, hsb, hc⟩
 obtain ⟨p, hp, rfl⟩ := List.mem_map.1 hq
 by_cases e : p.b = r.b
 ·obtain rfl := h.uniq hr hp e
  rw [if_pos rfl]
  refine ⟨_, hb, hcs, by show max p.m (i + 1) ≤ p.z; omega, fun t htm => ?_⟩
  show ElT _ p.k _
  rw [ht, hl, chunk_put hl (by rw [Array.length_toList]; exact hsz)]
  split
  ·exact he.sub hsb
  ·exact (h4 t (by have : t < max p.m (i + 1) := htm; omega)).sub hsb
 ·rw [if_neg e]
  obtain ⟨c, k1, k2, k3, k4⟩ := h.row p hp
  exact ⟨c, hc.keepb k1 (by simpa using e), k2, k3, fun t ht => (k4 t ht).sub hsb⟩
theorem chunk_all {T : List TRow} {k : Kd} {A B : List Value} {l : Nat} (hA : A.length = l * k.n) (h : ∀ i, i < l → ElT T k ((A.drop (i * k.n)).take k.n)) {cs : List Value} (he : ElT T k cs) : ∀ i, i < l + 1 → ElT T k (((A ++ (cs ++ B)).drop (i * k.n)).take k.n) := by
 intro i hi
 have hn := k.npos
 by_cases e : i = l
 ·subst e
  rw [List.drop_append_of_le_length (by omega), List.drop_of_length_le (by omega), List.nil_append, List.take_append_of_le_length (by rw [he.len]; exact Nat.le_refl _), List.take_of_length_le (by rw [he.len]; exact Nat.le_refl _)]
  exact he
 ·have : i * k.n + k.n ≤ l * k.n := by
   have := Nat.mul_le_mul_right k.n (show i + 1 ≤ l by omega)
   rwa [Nat.add_mul, Nat.one_mul] at this
  rw [List.drop_append_of_le_length (by omega), List.take_append_of_le_length (by rw [List.length_drop]; omega)]
  exact h i (by omega)
def ofA : Option Addr → List Nat | none => [] | some ad => [ad.block]
theorem Well.append {P : Program} {T : List TRow} {w : World} (h : Well T w) {k : Kd} {bytes : Nat} (t ty : TypeId) (ht : P.underlying t = some (.slice k.E)) (K : Kind P k.E k.n bytes) (hbt : 1000 * bytes ≤ 140737488355328) {a : Option Addr} {l c : Nat} (hv : SlT T k (.slice a l c)) {cs : List Value} (he : ElT T k cs) (hl : l + 1 ≤ k.max)
  (ad : Addr) (cn : Nat) (hnews : ∀ j u, cs[j]? = some u → w.cell? (ad.add j) = some u) :
  ∃ a' c' w' T', (Builtin.append_ #[t, t] ty #[.slice a l c, .slice (some ad) 1 cn]).run P w = .ok (.slice a' (l + 1) c') w' ∧ Well T' w' ∧ SubT T T' ∧ SlT T' k (.slice a' (l + 1) c') ∧ Chg (T.map (·.b)) w w' ∧ (∀ q ∈ T', q.b ∈ T.map (·.b) ∨ w.heap.size ≤ q.b) ∧ Chg (ofA a) w w' := by
 have hkm : k.max ≤ 450 := by cases k <;> simp [Kd.max]
 have hn := k.npos
 have hcl := he.len
 have hl1 : cs.length = 1 * K.i.size := by rw [K.size, hcl, Nat.one_mul]
 have hb1 : (l + 1) * K.i.bytes ≤ 140737488355328 := by rw [K.byt]; exact Nat.le_trans (Nat.mul_le_mul_right _ (by omega)) hbt
 have hmax : l + 1 ≤ maxLen := by simp only [maxLen]; omega
 obtain ⟨a0, l0, c0, e, h1, h2, h3, h4⟩ := hv
 cases e
 rcases h4 with ⟨rfl, rfl⟩ | ⟨r, hr, rfl, j, rfl, h5, h6⟩
 ·obtain rfl : l = 0 := by omega
  have hr := run_append_nil (P := P) w t ty k.E K.i K.z ht K.info K.zero ad 1 cn cs hl1 hnews (by omega) (by omega) (by omega)
  have hge := grownCap_ge w 1 0 k.E
  have hle := grownCap_le_maxLen w 1 0 k.E (by simp only [maxLen]; omega)
  have hp := (h.ext (Chg.refl [] w).drew).push k 1 (grownCap w 1 0 k.E) (cs.toArray ++ Builtin.zeroCells K.z.cells (grownCap w 1 0 k.E - 1)) hge (by
   simp only [Array.size_append, List.size_toArray, size_zeroCells, K.zc, hcl]
   rw [Nat.sub_mul, Nat.one_mul]
   have := Nat.mul_le_mul_right k.n hge
   omega) (fun i hi => by
   obtain rfl : i = 0 := by omega
   rw [Nat.zero_mul, List.drop_zero, Array.toList_append, List.take_append_of_le_length (by simp [hcl]), List.take_of_length_le (by simp [hcl])]
   exact he)
  refine ⟨_, _, _, _, hr, hp.1, hp.2, ⟨_, _, _, rfl, hl, hge, hle, .inr ⟨_, List.mem_cons_self, rfl, 0, by rw [Nat.zero_mul]; rfl, by simp, by simp⟩⟩, ((Chg.refl _ w).drew).alloc _, fun q hq => ?_, ((Chg.refl _ w).drew).alloc _⟩
  rcases List.mem_cons.1 hq with rfl | hq
  ·exact .inr (Nat.le_refl _)
  ·exact .inl (List.mem_map.2 ⟨q, hq, rfl⟩)
 ·obtain ⟨cur, g1, g2, g3, g4⟩ := h.row r hr
  by_cases hroom : l + 1 ≤ c
  ·have hsz : (j + l) * r.k.n + r.k.n ≤ cur.size := by
    have := Nat.mul_le_mul_right r.k.n (show j + l + 1 ≤ r.z by omega)
    rw [Nat.add_mul, Nat.one_mul] at this
    omega
   have hoff : j * r.k.n + l * K.i.size = (j + l) * r.k.n := by rw [K.size, Nat.add_mul]
   have hr1 := run_append_room_cells (P := P) (w := w) t ty r.k.E K.i ht K.info r.b (j * r.k.n) l c ad 1 cn cs hl1 hnews he.one hroom (fun q hq => by
    rw [hoff, cellsOf g1, Array.getElem?_eq_getElem (by omega)]; rfl) (fun q _ => q0c g1 _)
   rw [hoff] at hr1
   obtain ⟨m', m1, m2, m3, m4, m5⟩ := h.grow1 hr (i := j + l) h5 (by omega) he
   refine ⟨_, _, _, _, hr1, m3, m4, ⟨_, _, _, rfl, hl, hroom, h3, .inr ⟨{ r with m := m' }, List.mem_map.2 ⟨r, hr, by rw [if_pos rfl]⟩, rfl, j, rfl, by show j + (l + 1) ≤ m'; omega, h6⟩⟩, m5.mono (fun x hx => .inl (by rw [List.mem_singleton] at hx; rw [hx]; exact List.mem_map.2 ⟨r, hr, rfl⟩)), fun q hq => .inl ?_, m5⟩
   have hm : q.b ∈ (growT T r.b m').map (·.b) := List.mem_map.2 ⟨q, hq, rfl⟩
   rwa [growT_b] at hm
  ·have hlc : l = c := by omega
   have hsz : (j + l) * r.k.n ≤ cur.size := by
    rw [g2]; exact Nat.mul_le_mul_right _ (by omega)
   rw [Nat.add_mul] at hsz
   have hol : ((cur.toList.drop (j * r.k.n)).take (l * r.k.n)).length = l * r.k.n := by rw [List.length_take, List.length_drop, Array.length_toList]; omega
   have holds : ∀ q u, ((cur.toList.drop (j * r.k.n)).take (l * r.k.n))[q]? = some u → w.cell? ((⟨r.b, j * r.k.n, none⟩ : Addr).add q) = some u := by
    intro q u hu
    rw [Addr.add_lit, cellsOf g1]
    rw [List.getElem?_take] at hu
    split at hu
    ·rw [List.getElem?_drop, Array.getElem?_toList] at hu; exact hu
    ·cases hu
   have hr1 := run_append_grow (P := P) w t ty r.k.E K.i K.z ht K.info K.zero ⟨r.b, j * r.k.n, none⟩ l c _ (by rw [K.size]; exact hol) holds ad 1 cn cs hl1 hnews (by omega) (by omega) (growslice_fits (by omega) hb1)
   have hge := grownCap_ge w (l + 1) c r.k.E
   have hle := grownCap_le_maxLen w (l + 1) c r.k.E hmax
   have hel : ∀ i, i < l → ElT T r.k ((((cur.toList.drop (j * r.k.n)).take (l * r.k.n)).drop (i * r.k.n)).take r.k.n) := fun i hi => by
    have := g4 (j + i) (by omega)
    have hb : i * r.k.n + r.k.n ≤ l * r.k.n := by
     have := Nat.mul_le_mul_right r.k.n (show i + 1 ≤ l by omega)
     rwa [Nat.add_mul, Nat.one_mul] at this
    rw [List.drop_take, List.take_take, Nat.min_eq_left (by omega), List.drop_drop, ← Nat.add_mul]
    exact this
   have hp := (h.ext (Chg.refl [] w).drew).push r.k (l + 1) (grownCap w (l + 1) c r.k.E) (((cur.toList.drop (j * r.k.n)).take (l * r.k.n)).toArray ++ cs.toArray ++ Builtin.zeroCells K.z.cells (grownCap w (l + 1) c r.k.E - (l + 1))) hge (by
    simp only [Array.size_append, List.size_toArray, size_zeroCells, K.zc, hcl, hol]
    rw [Nat.sub_mul, Nat.add_mul, Nat.one_mul]
    have := Nat.mul_le_mul_right r.k.n hge
    rw [Nat.add_mul, Nat.one_mul] at this
    omega) (fun i hi => by
    rw [Array.toList_append, Array.toList_append, List.append_assoc]
    exact chunk_all hol hel he i hi)
   refine ⟨_, _, _, _, hr1, hp.1, hp.2, ⟨_, _, _, rfl, hl, hge, hle, .inr ⟨_, List.mem_cons_self, rfl, 0, by rw [Nat.zero_mul]; rfl, by simp, by simp⟩⟩, ((Chg.refl _ w).drew).alloc _, fun q hq => ?_, ((Chg.refl _ w).drew).alloc _⟩
   rcases List.mem_cons.1 hq with rfl | hq
   ·exact .inr (Nat.le_refl _)
   ·exact .inl (List.mem_map.2 ⟨q, hq, rfl⟩)
theorem q5p {P : Program} {T : List TRow} {w : World} {ops : Array Oper} {rest : List Oper} {o : Oper} {ac : Act} {Q : Exit → Act → World → Prop} (hgd : o.guard = none) (s x : Operand) (t : TypeId)
  (hop : o.op = .call { callee := .builtin .append, args := #[s, x], argTypes := #[t, t] }) (h : Well T w) {k : Kd} {bytes : Nat} (ht : P.underlying t = some (.slice k.E)) (K : Kind P k.E k.n bytes) (hbt : 1000 * bytes ≤ 140737488355328) {a : Option Addr} {l c : Nat} (hs : ac.eval s = .slice a l c) (hv : SlT T k (.slice a l c)) {cs : List Value} (he : ElT T k cs) (hl : l + 1 ≤ k.max)
  (ad : Addr) (cn : Nat) (hx : ac.eval x = .slice (some ad) 1 cn) (hnews : ∀ j u, cs[j]? = some u → w.cell? (ad.add j) = some u)
  (hk : ∀ a' c' w' T', Well T' w' → SubT T T' → SlT T' k (.slice a' (l + 1) c') → Chg (T.map (·.b)) w w' → (∀ q ∈ T', q.b ∈ T.map (·.b) ∨ w.heap.size ≤ q.b) → wpList P ops Q rest (ac.put o.dst (.slice a' (l + 1) c')) w') : wpList P ops Q (o :: rest) ac w := by
 refine wpList_plain hgd fun _ hK => ?_
 obtain ⟨a', c', w', T', hr, h1, h2, h3, h4, h5, -⟩ := h.append t o.type ht K hbt hv he hl ad cn hnews
 unfold Oper.wp execOp
 simp only [hop, resolve, invoke, builtin, Sem.run_bind, Sem.run_pure, Result.andThen_ok, List.map_toArray, List.map_cons, List.map_nil, hs, hx, hr]
 exact hK _ _ (hk a' c' w' T' h1 h2 h3 h4 h5)
theorem q4b {P : Program} {T : List TRow} {w : World} {ops : Array Oper} {o : Oper} {ac : Act} {Kc : Act → World → Prop} {Q : Exit → Act → World → Prop} {R : Prop} (hgd : o.guard = none) (s x : Operand) (t : TypeId)
  (hop : o.op = .call { callee := .builtin .append, args := #[s, x], argTypes := #[t, t] }) (h : Well T w) {k : Kd} {bytes : Nat} (ht : P.underlying t = some (.slice k.E)) (K : Kind P k.E k.n bytes) (hbt : 1000 * bytes ≤ 140737488355328) {a : Option Addr} {l c : Nat} (hs : ac.eval s = .slice a l c) (hv : SlT T k (.slice a l c)) {cs : List Value} (he : ElT T k cs) (hl : l + 1 ≤ k.max)
  (ad : Addr) (cn : Nat) (hx : ac.eval x = .slice (some ad) 1 cn) (hnews : ∀ j u, cs[j]? = some u → w.cell? (ad.add j) = some u)
  (hk : ∀ a' c' w' T', Well T' w' → SubT T T' → SlT T' k (.slice a' (l + 1) c') → Chg (T.map (·.b)) w w' → (∀ q ∈ T', q.b ∈ T.map (·.b) ∨ w.heap.size ≤ q.b) → Kc (ac.put o.dst (.slice a' (l + 1) c')) w') :
  if Region.wanted o (yielded ops ac.tmps) = true then Oper.wp P o ac w Kc Q else R := by
 have hw : Region.wanted o (yielded ops ac.tmps) = true := by simp [Region.wanted, hgd]
 rw [if_pos hw]
 obtain ⟨a', c', w', T', hr, h1, h2, h3, h4, h5, -⟩ := h.append t o.type ht K hbt hv he hl ad cn hnews
 unfold Oper.wp execOp
 simp only [hop, resolve, invoke, builtin, Sem.run_bind, Sem.run_pure, Result.andThen_ok, List.map_toArray, List.map_cons, List.map_nil, hs, hx, hr]
 exact hk a' c' w' T' h1 h2 h3 h4 h5
theorem step_tapp2 {P : Program} {T : List TRow} {w : World} {ops : Array Oper} {o : Oper} {ac : Act} {Kc : Act → World → Prop} {Q : Exit → Act → World → Prop} {R : Prop} (hgd : o.guard = none) (s x : Operand) (t : TypeId)
  (hop : o.op = .call { callee := .builtin .append, args := #[s, x], argTypes := #[t, t] }) (h : Well T w) {k : Kd} {bytes : Nat} (ht : P.underlying t = some (.slice k.E)) (K : Kind P k.E k.n bytes) (hbt : 1000 * bytes ≤ 140737488355328) {a : Option Addr} {l c : Nat} (hs : ac.eval s = .slice a l c) (hv : SlT T k (.slice a l c)) {cs : List Value} (he : ElT T k cs) (hl : l + 1 ≤ k.max)
  (ad : Addr) (cn : Nat) (hx : ac.eval x = .slice (some ad) 1 cn) (hnews : ∀ j u, cs[j]? = some u → w.cell? (ad.add j) = some u)
  (hk : ∀ a' c' w' T', Well T' w' → SubT T T' → SlT T' k (.slice a' (l + 1) c') → Chg (T.map (·.b)) w w' → (∀ q ∈ T', q.b ∈ T.map (·.b) ∨ w.heap.size ≤ q.b) → Chg (ofA a) w w' → Kc (ac.put o.dst (.slice a' (l + 1) c')) w') :
  if Region.wanted o (yielded ops ac.tmps) = true then Oper.wp P o ac w Kc Q else R := by
 have hw : Region.wanted o (yielded ops ac.tmps) = true := by simp [Region.wanted, hgd]
 rw [if_pos hw]
 obtain ⟨a', c', w', T', hr, h1, h2, h3, h4, h5, h6⟩ := h.append t o.type ht K hbt hv he hl ad cn hnews
 unfold Oper.wp execOp
 simp only [hop, resolve, invoke, builtin, Sem.run_bind, Sem.run_pure, Result.andThen_ok, List.map_toArray, List.map_cons, List.map_nil, hs, hx, hr]
 exact hk a' c' w' T' h1 h2 h3 h4 h5 h6
structure TyStep (T : List TRow) (w : World) (T' : List TRow) (w' : World) : Prop where
 well : Well T' w'
 sub : SubT T T'
 chg : Chg (T.map (·.b)) w w'
 new : ∀ q ∈ T', q.b ∈ T.map (·.b) ∨ w.heap.size ≤ q.b
theorem TyStep.refl {T : List TRow} {w : World} (h : Well T w) : TyStep T w T w := ⟨h, SubT.refl T, Chg.refl _ w, fun q hq => .inl (List.mem_map.2 ⟨q, hq, rfl⟩)⟩
theorem TyStep.trans {A B C : List TRow} {w w1 w2 : World} (h : TyStep A w B w1) (k : TyStep B w1 C w2) : TyStep A w C w2 := by
 have hb : ∀ x ∈ B.map (·.b), x ∈ A.map (·.b) ∨ w.heap.size ≤ x := fun x hx => by
  obtain ⟨q, hq, rfl⟩ := List.mem_map.1 hx
  exact h.new q hq
 refine ⟨k.well, h.sub.trans k.sub, h.chg.trans k.chg hb, fun q hq => ?_⟩
 rcases k.new q hq with h1 | h1
 ·exact hb _ h1
 ·exact .inr (Nat.le_trans h.chg.size h1)
theorem TyStep.chg0 {A B : List TRow} {w w1 w2 : World} {S : List Nat} (h : TyStep A w B w1) (hc : Chg S w1 w2) (hS : ∀ x ∈ S, w.heap.size ≤ x) (hT : ∀ r ∈ B, r.b ∉ S) : TyStep A w B w2 :=
 ⟨h.well.chg hc hT, h.sub, h.chg.trans hc (fun x hx => .inr (hS x hx)), h.new⟩
theorem TyStep.ext {A B : List TRow} {w w1 w2 : World} (h : TyStep A w B w1) (hc : Chg [] w1 w2) : TyStep A w B w2 := h.chg0 hc (by simp) (by simp)
theorem TyStep.put1 {A B : List TRow} {w w1 : World} (h : TyStep A w B w1) {r : TRow} (hr : r ∈ B) {i : Nat} (hi : i < r.m) {cs : List Value} (he : ElT B r.k cs) : TyStep A w B (w1.setCells r.b (i * r.k.n) cs) := by
 obtain ⟨h1, h2⟩ := h.well.put1 hr hi he
 exact h.trans ⟨h1, SubT.refl B, h2.mono (fun x hx => .inl (by rw [List.mem_singleton] at hx; rw [hx]; exact List.mem_map.2 ⟨r, hr, rfl⟩)), fun q hq => .inl (List.mem_map.2 ⟨q, hq, rfl⟩)⟩
theorem TyStep.push {A B : List TRow} {w w1 : World} (h : TyStep A w B w1) (k : Kd) (m z : Nat) (cur : Array Value) (hm : m ≤ z) (hs : cur.size = z * k.n) (hel : ∀ i, i < m → ElT B k ((cur.toList.drop (i * k.n)).take k.n)) :
  TyStep A w (⟨w1.heap.size, k, m, z⟩ :: B) (w1.alloc (.cells cur k.E)) := by
 obtain ⟨h1, h2⟩ := h.well.push k m z cur hm hs hel
 refine h.trans ⟨h1, h2, (Chg.refl _ w1).alloc _, fun q hq => ?_⟩
 rcases List.mem_cons.1 hq with rfl | hq
 ·exact .inr (Nat.le_refl _)
 ·exact .inl (List.mem_map.2 ⟨q, hq, rfl⟩)
theorem SlT.at {T : List TRow} {w : World} (h : Well T w) {k : Kd} {a : Option Addr} {l c : Nat} (hv : SlT T k (.slice a l c)) {i : Nat} (hi : i < l) :
  ∃ (b off : Nat) (cs : List Value), a = some ⟨b, off, none⟩ ∧ ElT T k cs ∧ (∀ j u, cs[j]? = some u → w.cell? ⟨b, off + i * k.n + j, none⟩ = some u) ∧ (∀ j, w.frozen? ⟨b, j, none⟩ = false) ∧ b < w.heap.size ∧ ∃ r ∈ T, r.k = k ∧ r.b = b ∧ ∃ p, p < r.m ∧ off + i * k.n = p * k.n := by
 obtain ⟨a0, l0, c0, e, h1, h2, h3, h4⟩ := hv
 cases e
 rcases h4 with ⟨rfl, rfl⟩ | ⟨r, hr, rfl, j, rfl, h5, h6⟩
 ·omega
 ·obtain ⟨cur, g1, g2, g3, g4⟩ := h.row r hr
  refine ⟨r.b, j * r.k.n, _, rfl, g4 (j + i) (by omega), fun q u hu => ?_, q0c g1, h.lt hr, r, hr, rfl, rfl, j + i, by omega, by rw [Nat.add_mul]⟩
  rw [cellsOf g1, ← Nat.add_mul]
  rw [List.getElem?_take] at hu
  split at hu
  ·rw [List.getElem?_drop, Array.getElem?_toList] at hu; exact hu
  ·cases hu
end Go.Proofs.YtphmpimgbmedbaaGreat
namespace Go.Proofs.YtphmpimgbmedbaaGreat
open Go.RowKit
open Go.Lib (hid)
theorem q1p.lts {B : Nat} {w : World} {fp : List Nat} (h : q1p B w fp) : ∀ b ∈ fp, b < w.heap.size := fun b hb => (h.2 b hb).2.lt
theorem Lay.os_loose {α : Type} (L : Lay α) {E : TypeId} {w : World} {v : Value} {xs : List α} {h : Option Nat} {fps : List Nat} (ho : L.os E w v xs h fps) : ∀ g, h = some g → q3z w g := by
 rcases ho with ⟨_, _, rfl, _⟩ | ⟨g, cap, cur, _, rfl, hg, _⟩
 ·intro g hg; cases hg
 ·intro g' hg'; cases hg'; exact ⟨_, _, hg⟩
theorem q1p.grow {B : Nat} {wr w3 w4 : World} {h h' : Option Nat} {fps f : List Nat} (fr : q1p B wr (h.toList ++ fps)) (hB : B ≤ wr.heap.size) (ff : q1p wr.heap.size w3 f) (c3 : Chg [] wr w3)
  (hh : h' = h ∨ h' = some w3.heap.size) (c4 : Chg h.toList w3 w4) (hl : ∀ g, h' = some g → q3z w4 g) : q1p B w4 (h'.toList ++ (fps ++ f)) := by
 have f3 := fr.chg c3
 have f4 := f3.chg c4
 have g4 := ff.chg c4
 have nd := List.nodup_append.1 fr.1
 have dj : ∀ a ∈ h.toList ++ fps, ∀ b ∈ f, a ≠ b := fun a ha b hb e => by have h1 := fr.lts a ha; have h2 := (ff.2 b hb).1; omega
 rcases hh with rfl | rfl
 ·rw [← List.append_assoc]
  exact ⟨List.nodup_append.2 ⟨fr.1, ff.1, dj⟩, fun b hb => by
   rcases List.mem_append.1 hb with hb | hb
   ·exact f4.2 b hb
   ·exact ⟨Nat.le_trans hB (g4.2 b hb).1, (g4.2 b hb).2⟩⟩
 ·refine ⟨?_, fun b hb => ?_⟩
  ·rw [Option.toList_some, List.singleton_append, List.nodup_cons]
   refine ⟨fun hb => ?_, List.nodup_append.2 ⟨nd.2.1, ff.1, fun a ha b hb => dj a (List.mem_append.2 (.inr ha)) b hb⟩⟩
   rcases List.mem_append.1 hb with hb | hb
   ·have := f3.lts _ (List.mem_append.2 (.inr hb)); omega
   ·have := ff.lts _ hb; omega
  ·rw [Option.toList_some, List.singleton_append, List.mem_cons] at hb
   rcases hb with rfl | hb
   ·exact ⟨Nat.le_trans hB c3.size, hl _ rfl⟩
   ·rcases List.mem_append.1 hb with hb | hb
    ·exact f4.2 b (List.mem_append.2 (.inr hb))
    ·exact ⟨Nat.le_trans hB (g4.2 b hb).1, (g4.2 b hb).2⟩
def Grow {α : Type} (L : Lay α) (E : TypeId) (w wr : World) (v : Value) (xs : List α) : Prop :=
 ∃ h fps, L.os E wr v xs h fps ∧ q1p w.heap.size wr (h.toList ++ fps) ∧ Chg [] w wr
section
variable {α : Type} {L : Lay α} {E : TypeId} {w wr w' : World} {v : Value} {xs : List α}
theorem Grow.nil (hc : Chg [] w wr) : Grow L E w wr (.slice none 0 0) [] := ⟨none, [], Lay.os_nil _ _ _, q1p.nil _ _, hc⟩
theorem Grow.made (hc : Chg [] w wr) : Grow L E w (wr.alloc (.cells #[] E)) (.slice (some ⟨wr.heap.size, 0, none⟩) 0 0) [] :=
 ⟨some wr.heap.size, [], Lay.os_made _ _ _ _ _ (by simp [maxLen]) (by simp), ⟨by simp, fun b hb => by simp at hb; subst hb; exact ⟨hc.size, _, _, q0o wr _⟩⟩, hc.alloc _⟩
theorem Grow.ext (h : Grow L E w wr v xs) (hc : Chg [] wr w') : Grow L E w w' v xs := by
 obtain ⟨hd, fps, ho, hf, hch⟩ := h
 exact ⟨hd, fps, L.os_ext ho hc, hf.chg hc, hch.trans0 hc⟩
theorem Grow.chg (h : Grow L E w wr v xs) : Chg [] w wr := by obtain ⟨_, _, _, _, h⟩ := h; exact h
theorem Grow.new (h : Grow L E w wr v xs) : q7s L xs w (.returned v) wr := by
 obtain ⟨hd, fps, ho, hf, hch⟩ := h
 obtain ⟨a, cap, rfl, hs⟩ := L.os_sl ho
 exact ⟨a, cap, _, rfl, hs, hf, hch⟩
theorem Grow.sl (h : Grow L E w wr v xs) : ∃ a cap fp, v = .slice a xs.length cap ∧ L.sl wr a xs.length cap xs fp ∧ q1p w.heap.size wr fp ∧ Chg [] w wr := by
 obtain ⟨hd, fps, ho, hf, hch⟩ := h
 obtain ⟨a, cap, rfl, hs⟩ := L.os_sl ho
 exact ⟨a, cap, _, rfl, hs, hf, hch⟩
theorem Grow.since {w0 : World} (h : Grow L E w wr v xs) (hc : Chg [] w0 w) : Grow L E w0 wr v xs := by
 obtain ⟨hd, fps, ho, hf, hch⟩ := h
 exact ⟨hd, fps, ho, hf.mono hc.size, hc.trans0 hch⟩
end
section
variable {α : Type} (L : Lay α) {P : Program} {E : TypeId} {bytes : Nat} {w wr w3 : World} {v : Value} {xs ys : List α} {f : List Nat}
theorem Lay.wp_grow {o : Oper} {a : Act} {Kc : Act → World → Prop} {Q : Exit → Act → World → Prop} (s x : Operand) (t : TypeId)
  (hop : o.op = .call { callee := .builtin .append, args := #[s, x], argTypes := #[t, t] }) (ht : P.underlying t = some (.slice E)) (K : Kind P E L.n bytes)
  (hs : a.eval s = v) (hg : Grow L E w wr v xs) (c3 : Chg [] wr w3)
  (ad : Addr) (m c : Nat) (news : List Value) (hx : a.eval x = .slice (some ad) m c) (hm : m = ys.length) (hnews : ∀ j u, news[j]? = some u → w3.cell? (ad.add j) = some u) (hall : L.all w3 news ys f) (ff : q1p wr.heap.size w3 f)
  (h63 : xs.length + ys.length ≤ maxLen) (hbytes : (xs.length + ys.length) * bytes ≤ 140737488355328)
  (hk : ∀ v' w', Grow L E w w' v' (xs ++ ys) → Kc (a.put o.dst v') w') : o.wp P a w3 Kc Q := by
 obtain ⟨h, fps, ho, fr, hc⟩ := hg
 have hlt := L.os_lt ho
 refine L.wp_append s x t hop ht K hs (L.os_ext ho c3) ad m c news hx hm hnews hall (fun g hg hf => ?_) h63 hbytes (fun v' w' h' ho' hh' hc' => hk _ _ ⟨h', fps ++ f, ho', fr.grow hc.size ff c3 hh' hc' (L.os_loose ho'), ?_⟩)
 ·have := hlt.1 g hg; have := (ff.2 g hf).1; omega
 ·exact (hc.trans0 c3).trans hc' (fun b hb => .inr (by
   have := (fr.2 b (List.mem_append.2 (.inl hb))).1; exact this))
theorem Lay.wpList_grow {ops : Array Oper} {rest : List Oper} {o : Oper} {a : Act} {Q : Exit → Act → World → Prop} (hgd : o.guard = none) (s x : Operand) (t : TypeId)
  (hop : o.op = .call { callee := .builtin .append, args := #[s, x], argTypes := #[t, t] }) (ht : P.underlying t = some (.slice E)) (K : Kind P E L.n bytes)
  (hs : a.eval s = v) (hg : Grow L E w wr v xs) (c3 : Chg [] wr w3)
  (ad : Addr) (m c : Nat) (news : List Value) (hx : a.eval x = .slice (some ad) m c) (hm : m = ys.length) (hnews : ∀ j u, news[j]? = some u → w3.cell? (ad.add j) = some u) (hall : L.all w3 news ys f) (ff : q1p wr.heap.size w3 f)
  (h63 : xs.length + ys.length ≤ maxLen) (hbytes : (xs.length + ys.length) * bytes ≤ 140737488355328)
  (hk : ∀ v' w', Grow L E w w' v' (xs ++ ys) → wpList P ops Q rest (a.put o.dst v') w') : wpList P ops Q (o :: rest) a w3 :=
 wpList_plain hgd fun _ hK => L.wp_grow s x t hop ht K hs hg c3 ad m c news hx hm hnews hall ff h63 hbytes fun v' w' h1 => hK _ _ (hk v' w' h1)
end
theorem q1n (w : World) (cs : Array Value) (E : TypeId) : ∀ j u, cs.toList[j]? = some u → (w.alloc (.cells cs E)).cell? ((⟨w.heap.size, 0, none⟩ : Addr).add j) = some u := by
 intro j u hu
 have hadd : (⟨w.heap.size, 0, none⟩ : Addr).add j = ⟨w.heap.size, j, none⟩ := by unfold Addr.add; split <;> simp_all
 rw [hadd, cellsOf (q0o w _)]
 simpa using hu
section
variable {α : Type} (L : Lay α) {P : Program} {E : TypeId} {bytes : Nat} {w wr w3 : World} {v : Value} {xs ys : List α} {h : Option Nat} {f fps : List Nat}
theorem Lay.run_append_none (t ty : TypeId) (ht : P.underlying t = some (.slice E)) (K : Kind P E L.n bytes) (ho : L.os E w v xs h fps) : (Builtin.append_ #[t, t] ty #[v, .slice none 0 0]).run P w = .ok v w := by
 rcases ho with ⟨rfl, _⟩ | ⟨g, cap, cur, rfl, _, _, hnc, _⟩
 ·simp [Builtin.append_, run_underlying ht, sizeOf, typeInfo, K.info, Builtin.lenOf, Builtin.firstCells]
 ·simp [Builtin.append_, run_underlying ht, sizeOf, typeInfo, K.info, Builtin.lenOf, Builtin.firstCells, hnc, storeCells]
theorem Lay.run_growS (hL : L.flat) (t ty : TypeId) (ht : P.underlying t = some (.slice E)) (K : Kind P E L.n bytes) (hg : Grow L E w wr v xs) (c3 : Chg [] wr w3)
  {a : Option Addr} {len cap : Nat} (hs : L.sl w3 a len cap ys f)
  (h63 : xs.length + ys.length ≤ maxLen) (hbytes : (xs.length + ys.length) * bytes ≤ 140737488355328) :
  ∃ v' w', (Builtin.append_ #[t, t] ty #[v, .slice a len cap]).run P w3 = .ok v' w' ∧ Grow L E w w' v' (xs ++ ys) := by
 obtain ⟨h, fps, ho, fr, hc⟩ := hg
 cases a with
 | none =>
  have h0 : cap = 0 := hs.2.2.2.1 rfl
  have h1 : len = 0 := by have := hs.2.1; omega
  have h2 : ys = [] := List.eq_nil_of_length_eq_zero (by have := hs.1; omega)
  subst h0 h1 h2
  exact ⟨v, w3, L.run_append_none t ty ht K (L.os_ext ho c3), by rw [List.append_nil]; exact ⟨h, fps, L.os_ext ho c3, fr.chg c3, hc.trans0 c3⟩⟩
 | some ad =>
  obtain ⟨news, fy, hnews, hall, hsub⟩ := L.sl_cells hs
  have hfy := Lay.flat_all hL hall
  subst hfy
  have hlen := hs.1
  subst hlen
  obtain ⟨v', w', h', hr, ho', hh', hc', hl⟩ := L.run_append t ty ht K (L.os_ext ho c3) ad cap news hnews hall (by simp) h63 hbytes
  refine ⟨v', w', hr, h', fps ++ [], ho', fr.grow hc.size (q1p.nil _ _) c3 hh' hc' (L.os_loose ho'), (hc.trans0 c3).trans hc' (fun b hb => .inr ?_)⟩
  exact (fr.2 b (List.mem_append.2 (.inl hb))).1
theorem Lay.wp_growS (hL : L.flat) {o : Oper} {a : Act} {Kc : Act → World → Prop} {Q : Exit → Act → World → Prop} (s x : Operand) (t : TypeId)
  (hop : o.op = .call { callee := .builtin .append, args := #[s, x], argTypes := #[t, t] }) (ht : P.underlying t = some (.slice E)) (K : Kind P E L.n bytes)
  (hs : a.eval s = v) (hg : Grow L E w wr v xs) (c3 : Chg [] wr w3)
  {ad : Option Addr} {m c : Nat} (hx : a.eval x = .slice ad m c) (hsl : L.sl w3 ad m c ys f)
  (h63 : xs.length + ys.length ≤ maxLen) (hbytes : (xs.length + ys.length) * bytes ≤ 140737488355328)
  (hk : ∀ v' w', Grow L E w w' v' (xs ++ ys) → Kc (a.put o.dst v') w') : o.wp P a w3 Kc Q := by
 obtain ⟨v', w', hr, h2⟩ := L.run_growS hL (P := P) t o.type ht K hg c3 hsl h63 hbytes
 unfold Oper.wp execOp
 simp only [hop, resolve, invoke, builtin, Sem.run_bind, Sem.run_pure, Result.andThen_ok, List.map_toArray, List.map_cons, List.map_nil, hs, hx, hr]
 exact hk v' w' h2
theorem Lay.wpList_growS (hL : L.flat) {ops : Array Oper} {rest : List Oper} {o : Oper} {a : Act} {Q : Exit → Act → World → Prop} (hgd : o.guard = none) (s x : Operand) (t : TypeId)
  (hop : o.op = .call { callee := .builtin .append, args := #[s, x], argTypes := #[t, t] }) (ht : P.underlying t = some (.slice E)) (K : Kind P E L.n bytes)
  (hs : a.eval s = v) (hg : Grow L E w wr v xs) (c3 : Chg [] wr w3)
  {ad : Option Addr} {m c : Nat} (hx : a.eval x = .slice ad m c) (hsl : L.sl w3 ad m c ys f)
  (h63 : xs.length + ys.length ≤ maxLen) (hbytes : (xs.length + ys.length) * bytes ≤ 140737488355328)
  (hk : ∀ v' w', Grow L E w w' v' (xs ++ ys) → wpList P ops Q rest (a.put o.dst v') w') : wpList P ops Q (o :: rest) a w3 :=
 wpList_plain hgd fun _ hK => L.wp_growS hL s x t hop ht K hs hg c3 hx hsl h63 hbytes fun v' w' h1 => hK _ _ (hk v' w' h1)
end
theorem Grow.bytes {E : TypeId} {w wr : World} {v : Value} {xs : List UInt8} (h : Grow q0p E w wr v xs) : ∃ a c f, v = .slice a xs.length c ∧ q0p.sl wr a xs.length c xs f ∧ q1p w.heap.size wr f ∧ Chg [] w wr := by
 obtain ⟨a, c, f, h1, h2, h3, h4⟩ := h.sl
 exact ⟨a, c, f, h1, h2, h3, h4⟩
end Go.Proofs.YtphmpimgbmedbaaGreat
namespace Go.Proofs.YtphmpimgbmedbaaGreat
open Go.RowKit
open Go.Lib (hid)
def cutW (w : World) (n : Nat) : World := { w with heap := w.heap.extract 0 n }
theorem q3j {w : World} {n : Nat} (h : n ≤ w.heap.size) : (cutW w n).heap.size = n := by simp [cutW]; omega
theorem q7o {w : World} {n k : Nat} (h : k < n) : (cutW w n).heap[k]? = w.heap[k]? := by
 unfold cutW
 simp only [Array.getElem?_extract]
 by_cases hk : k < w.heap.size
 ·rw [if_pos (by omega)]; simp
 ·rw [if_neg (by omega), Array.getElem?_eq_none (by omega)]
theorem cutW_chg {w : World} {n : Nat} (h : n ≤ w.heap.size) : Chg [] (cutW w n) w := by
 refine ⟨rfl, rfl, rfl, by rw [q3j h]; exact h, fun k hk _ => ?_, fun k hk => ?_⟩
 ·rw [q3j h] at hk; exact (q7o hk).symm
 ·have hlt := hk.lt
  rw [q3j h] at hlt
  obtain ⟨cur, E, hb⟩ := hk
  exact ⟨cur, E, by rw [← q7o hlt]; exact hb⟩
def q2k {α : Type} (L : Lay α) (E : TypeId) (n : Nat) (wr : World) (v : Value) (xs : List α) : Prop :=
 n ≤ wr.heap.size ∧ ∃ h fps, L.os E wr v xs h fps ∧ q1p n wr (h.toList ++ fps)
section
variable {α : Type} {L : Lay α} {E : TypeId} {n : Nat} {w wr w' : World} {v : Value} {xs : List α}
theorem q2k.to (h : q2k L E n wr v xs) : Grow L E (cutW wr n) wr v xs := by
 obtain ⟨h0, hd, fps, h1, h2⟩ := h
 exact ⟨hd, fps, h1, by rw [q3j h0]; exact h2, cutW_chg h0⟩
theorem q2k.of (h : Grow L E w wr v xs) : q2k L E w.heap.size wr v xs := by
 obtain ⟨hd, fps, h1, h2, h3⟩ := h
 exact ⟨h3.size, hd, fps, h1, h2⟩
theorem q2k.of' (h : Grow L E w wr v xs) (hn : n = w.heap.size) : q2k L E n wr v xs := by subst hn; exact q2k.of h
theorem q2k.chg {S : List Nat} (h : q2k L E n wr v xs) (hc : Chg S wr w') (hS : ∀ x ∈ S, x < n) : q2k L E n w' v xs := by
 obtain ⟨h0, hd, fps, h1, h2⟩ := h
 refine ⟨Nat.le_trans h0 hc.size, hd, fps, L.os_chg h1 hc (fun g hg hm => ?_) (fun b hb hm => ?_), h2.chg hc⟩
 ·have := (h2.2 g (List.mem_append.2 (.inl (by simp [hg])))).1; have := hS g hm; omega
 ·have := (h2.2 b (List.mem_append.2 (.inr hb))).1; have := hS b hm; omega
theorem q2k.ext (h : q2k L E n wr v xs) (hc : Chg [] wr w') : q2k L E n w' v xs := h.chg hc (by simp)
theorem q2k.next {ys : List α} {v' : Value} {S : List Nat} {w0 : World} (hn : n ≤ wr.heap.size) (h : Grow L E (cutW wr n) w' v' ys) (hc : Chg S w0 wr) (h0 : w0.heap.size ≤ n) : q2k L E n w' v' ys ∧ Chg S w0 w' := by
 refine ⟨q2k.of' h (q3j hn).symm, ?_⟩
 have h1 := h.chg
 refine ⟨h1.os.trans hc.os, h1.tape.trans hc.tape, h1.output.trans hc.output, ?_, fun k hk hS => ?_, fun k hk => ?_⟩
 ·have := h1.size; rw [q3j hn] at this; omega
 ·rw [h1.block k (by rw [q3j hn]; omega) (by simp), q7o (by omega), hc.block k hk hS]
 ·have hlt := hk.lt
  have h2 := hc.loose k hk
  refine h1.loose k ?_
  obtain ⟨cur, T, hb⟩ := h2
  exact ⟨cur, T, by rw [q7o (by omega)]; exact hb⟩
theorem q2k.low {ys : List α} {v' : Value} (hn : n ≤ wr.heap.size) (h : Grow L E (cutW wr n) w' v' ys) : ∀ k, k < n → w'.heap[k]? = wr.heap[k]? := fun k hk => by
 rw [h.chg.block k (by rw [q3j hn]; exact hk) (by simp), q7o hk]
theorem q2k.sl (h : q2k L E n wr v xs) : ∃ a cap fp, v = .slice a xs.length cap ∧ L.sl wr a xs.length cap xs fp ∧ q1p n wr fp := by
 obtain ⟨h0, hd, fps, h1, h2⟩ := h
 obtain ⟨a, cap, rfl, hs⟩ := L.os_sl h1
 exact ⟨a, cap, _, rfl, hs, h2⟩
theorem q2k.made (h : n ≤ wr.heap.size) : q2k L E n (wr.alloc (.cells #[] E)) (.slice (some ⟨wr.heap.size, 0, none⟩) 0 0) [] :=
 ⟨by simp; omega, some wr.heap.size, [], Lay.os_made _ _ _ _ _ (by simp [maxLen]) (by simp), ⟨by simp, fun b hb => by simp at hb; subst hb; exact ⟨h, _, _, q0o wr _⟩⟩⟩
theorem q2k.nil (h : n ≤ wr.heap.size) : q2k L E n wr (.slice none 0 0) [] := ⟨h, none, [], Lay.os_nil _ _ _, q1p.nil _ _⟩
end
structure Up (n : Nat) (w w' : World) : Prop where
 os : w'.os = w.os
 tape : w'.tape = w.tape
 output : w'.output = w.output
 size : w.heap.size ≤ w'.heap.size
 low : ∀ k, k < n → w'.heap[k]? = w.heap[k]?
 loose : ∀ k, q3z w k → q3z w' k
theorem Up.chg {n : Nat} {S : List Nat} {w0 w w' : World} (h : Up n w w') (hc : Chg S w0 w) (h0 : w0.heap.size ≤ n) : Chg S w0 w' :=
 ⟨h.os.trans hc.os, h.tape.trans hc.tape, h.output.trans hc.output, Nat.le_trans hc.size h.size, fun k hk hS => by rw [h.low k (by omega), hc.block k hk hS], fun k hk => h.loose k (hc.loose k hk)⟩
theorem Up.of {n : Nat} {S : List Nat} {w w' : World} (hc : Chg S w w') (hS : ∀ x ∈ S, n ≤ x) (hn : n ≤ w.heap.size) : Up n w w' :=
 ⟨hc.os, hc.tape, hc.output, hc.size, fun k hk => hc.block k (by omega) (fun hm => by have := hS k hm; omega), hc.loose⟩
def q5m {α : Type} (L : Lay α) (E : TypeId) (n B : Nat) (wr : World) (v : Value) (xs : List α) : Prop :=
 n ≤ B ∧ B ≤ wr.heap.size ∧ ∃ h fps, L.os E wr v xs h fps ∧ q1p n wr (h.toList ++ fps) ∧ ∀ b ∈ h.toList ++ fps, b < B
section
variable {α : Type} {L : Lay α} {E : TypeId} {n B : Nat} {w wr w' : World} {v : Value} {xs : List α}
theorem q2k.b (h : q2k L E n wr v xs) : q5m L E n wr.heap.size wr v xs := by
 obtain ⟨h0, hd, fps, h1, h2⟩ := h
 exact ⟨h0, Nat.le_refl _, hd, fps, h1, h2, h2.lts⟩
theorem q5m.chg {S : List Nat} (h : q5m L E n B wr v xs) (hc : Chg S wr w') (hS : ∀ x ∈ S, x < n) : q5m L E n B w' v xs := by
 obtain ⟨h0, h9, hd, fps, h1, h2, h3⟩ := h
 refine ⟨h0, Nat.le_trans h9 hc.size, hd, fps, L.os_chg h1 hc (fun g hg hm => ?_) (fun b hb hm => ?_), h2.chg hc, h3⟩
 ·have := (h2.2 g (List.mem_append.2 (.inl (by simp [hg])))).1; have := hS g hm; omega
 ·have := (h2.2 b (List.mem_append.2 (.inr hb))).1; have := hS b hm; omega
theorem q5m.ext (h : q5m L E n B wr v xs) (hc : Chg [] wr w') : q5m L E n B w' v xs := h.chg hc (by simp)
theorem q5m.run {P : Program} {bytes : Nat} {ys : List α} {f : List Nat} (t ty : TypeId) (ht : P.underlying t = some (.slice E)) (K : Kind P E L.n bytes) (hg : q5m L E n B w v xs)
  (ad : Addr) (c : Nat) (news : List Value) (hnews : ∀ j u, news[j]? = some u → w.cell? (ad.add j) = some u) (hall : L.all w news ys f) (ff : q1p B w f)
  (h63 : xs.length + ys.length ≤ maxLen) (hbytes : (xs.length + ys.length) * bytes ≤ 140737488355328) :
  ∃ v' w', (Builtin.append_ #[t, t] ty #[v, .slice (some ad) ys.length c]).run P w = .ok v' w' ∧ q2k L E n w' v' (xs ++ ys) ∧ Up n w w' := by
 obtain ⟨h0, h9, hd, fps, h1, h2, h3⟩ := hg
 have hlt := L.os_lt h1
 obtain ⟨v', w', h', hr, ho', hh', hc', hl⟩ := L.run_append (P := P) t ty ht K h1 ad c news hnews hall (fun g hg hf => by have a1 := h3 g (by simp [hg]); have a2 := (ff.2 g hf).1; omega) h63 hbytes
 have hle : Up n w w' := Up.of hc' (fun x hx => (h2.2 x (List.mem_append.2 (.inl hx))).1) (by omega)
 refine ⟨v', w', hr, ⟨Nat.le_trans (Nat.le_trans h0 h9) hle.size, h', fps ++ f, ho', ?_⟩, hle⟩
 have f2 := h2.chg hc'
 have g2 := ff.chg hc'
 have nd := List.nodup_append.1 h2.1
 have dj : ∀ a ∈ hd.toList ++ fps, ∀ b ∈ f, a ≠ b := fun a ha b hb e => by have a1 := h3 a ha; have a2 := (ff.2 b hb).1; omega
 have hlo := L.os_loose ho'
 rcases hh' with rfl | rfl
 ·rw [← List.append_assoc]
  exact ⟨List.nodup_append.2 ⟨h2.1, ff.1, dj⟩, fun b hb => by
   rcases List.mem_append.1 hb with hb | hb
   ·exact f2.2 b hb
   ·exact ⟨Nat.le_trans h0 (g2.2 b hb).1, (g2.2 b hb).2⟩⟩
 ·refine ⟨?_, fun b hb => ?_⟩
  ·rw [Option.toList_some, List.singleton_append, List.nodup_cons]
   refine ⟨fun hb => ?_, List.nodup_append.2 ⟨nd.2.1, ff.1, fun a ha b hb => dj a (List.mem_append.2 (.inr ha)) b hb⟩⟩
   rcases List.mem_append.1 hb with hb | hb
   ·have := h3 _ (List.mem_append.2 (.inr hb)); omega
   ·have := ff.lts _ hb; omega
  ·rw [Option.toList_some, List.singleton_append, List.mem_cons] at hb
   rcases hb with rfl | hb
   ·exact ⟨by omega, hlo _ rfl⟩
   ·rcases List.mem_append.1 hb with hb | hb
    ·exact f2.2 b (List.mem_append.2 (.inr hb))
    ·exact ⟨Nat.le_trans h0 (g2.2 b hb).1, (g2.2 b hb).2⟩
theorem q5m.wp {P : Program} {bytes : Nat} {ys : List α} {f : List Nat} {o : Oper} {a : Act} {Kc : Act → World → Prop} {Q : Exit → Act → World → Prop} (s x : Operand) (t : TypeId)
  (hop : o.op = .call { callee := .builtin .append, args := #[s, x], argTypes := #[t, t] }) (ht : P.underlying t = some (.slice E)) (K : Kind P E L.n bytes)
  (hs : a.eval s = v) (hg : q5m L E n B w v xs)
  (ad : Addr) (m c : Nat) (news : List Value) (hx : a.eval x = .slice (some ad) m c) (hm : m = ys.length) (hnews : ∀ j u, news[j]? = some u → w.cell? (ad.add j) = some u) (hall : L.all w news ys f) (ff : q1p B w f)
  (h63 : xs.length + ys.length ≤ maxLen) (hbytes : (xs.length + ys.length) * bytes ≤ 140737488355328)
  (hk : ∀ v' w', q2k L E n w' v' (xs ++ ys) → Up n w w' → Kc (a.put o.dst v') w') : o.wp P a w Kc Q := by
 subst hm
 obtain ⟨v', w', hr, h2, h3⟩ := hg.run (P := P) t o.type ht K ad c news hnews hall ff h63 hbytes
 unfold Oper.wp execOp
 simp only [hop, resolve, invoke, builtin, Sem.run_bind, Sem.run_pure, Result.andThen_ok, List.map_toArray, List.map_cons, List.map_nil, hs, hx, hr]
 exact hk v' w' h2 h3
theorem q5m.wpList {P : Program} {bytes : Nat} {ys : List α} {f : List Nat} {ops : Array Oper} {rest : List Oper} {o : Oper} {a : Act} {Q : Exit → Act → World → Prop} (hgd : o.guard = none) (s x : Operand) (t : TypeId)
  (hop : o.op = .call { callee := .builtin .append, args := #[s, x], argTypes := #[t, t] }) (ht : P.underlying t = some (.slice E)) (K : Kind P E L.n bytes)
  (hs : a.eval s = v) (hg : q5m L E n B w v xs)
  (ad : Addr) (m c : Nat) (news : List Value) (hx : a.eval x = .slice (some ad) m c) (hm : m = ys.length) (hnews : ∀ j u, news[j]? = some u → w.cell? (ad.add j) = some u) (hall : L.all w news ys f) (ff : q1p B w f)
  (h63 : xs.length + ys.length ≤ maxLen) (hbytes : (xs.length + ys.length) * bytes ≤ 140737488355328)
  (hk : ∀ v' w', q2k L E n w' v' (xs ++ ys) → Up n w w' → wpList P ops Q rest (a.put o.dst v') w') : wpList P ops Q (o :: rest) a w :=
 wpList_plain hgd fun _ hK => hg.wp s x t hop ht K hs ad m c news hx hm hnews hall ff h63 hbytes fun v' w' h1 h2 => hK _ _ (hk v' w' h1 h2)
theorem q5m.step {P : Program} {bytes : Nat} {ys : List α} {f : List Nat} {ops : Array Oper} {o : Oper} {a : Act} {Kc : Act → World → Prop} {Q : Exit → Act → World → Prop} {R : Prop} (hgd : o.guard = none) (s x : Operand) (t : TypeId)
  (hop : o.op = .call { callee := .builtin .append, args := #[s, x], argTypes := #[t, t] }) (ht : P.underlying t = some (.slice E)) (K : Kind P E L.n bytes)
  (hs : a.eval s = v) (hg : q5m L E n B w v xs)
  (ad : Addr) (m c : Nat) (news : List Value) (hx : a.eval x = .slice (some ad) m c) (hm : m = ys.length) (hnews : ∀ j u, news[j]? = some u → w.cell? (ad.add j) = some u) (hall : L.all w news ys f) (ff : q1p B w f)
  (h63 : xs.length + ys.length ≤ maxLen) (hbytes : (xs.length + ys.length) * bytes ≤ 140737488355328)
  (hk : ∀ v' w', q2k L E n w' v' (xs ++ ys) → Up n w w' → Kc (a.put o.dst v') w') :
  if Region.wanted o (yielded ops a.tmps) = true then Oper.wp P o a w Kc Q else R := by
 have hw : Region.wanted o (yielded ops a.tmps) = true := by simp [Region.wanted, hgd]
 rw [if_pos hw]
 exact hg.wp s x t hop ht K hs ad m c news hx hm hnews hall ff h63 hbytes hk
end
end Go.Proofs.YtphmpimgbmedbaaGreat
namespace Go.Proofs.YtphmpimgbmedbaaGreat
open Go.RowKit
open Go.Lib (hid)
def q0y {α : Type} (L : Lay α) (w : World) (b off : Nat) (ps : List (α × List Nat)) : Prop :=
 ∃ cur E, w.heap[b]? = some (.cells cur E (0, 0)) ∧ (0 < ps.length → off + ps.length * L.n ≤ cur.size) ∧ ∀ (i : Nat) p, ps[i]? = some p → L.rep w ((cur.toList.drop (off + i * L.n)).take L.n) p.1 p.2 ∧ b ∉ p.2
section
variable {α : Type} {L : Lay α} {w w' : World} {b off : Nat} {ps : List (α × List Nat)}
theorem q0y.lt (h : q0y L w b off ps) : b < w.heap.size := by obtain ⟨cur, E, h1, _⟩ := h; exact ltOf h1
theorem q0y.loose (h : q0y L w b off ps) : q3z w b := by obtain ⟨cur, E, h1, _⟩ := h; exact ⟨_, _, h1⟩
theorem q0y.keep (h : q0y L w b off ps) (hb : w'.heap[b]? = w.heap[b]?) (hk : ∀ p ∈ ps, ∀ y ∈ p.2, w'.heap[y]? = w.heap[y]?) : q0y L w' b off ps := by
 obtain ⟨cur, E, h1, h2, h3⟩ := h
 exact ⟨cur, E, hb.trans h1, h2, fun i p hp => ⟨L.keep (h3 i p hp).1 (hk p (List.mem_of_getElem? hp)), (h3 i p hp).2⟩⟩
theorem q0y.fp_lt (h : q0y L w b off ps) {p : α × List Nat} (hp : p ∈ ps) : ∀ y ∈ p.2, y < w.heap.size := by
 obtain ⟨cur, E, h1, h2, h3⟩ := h
 obtain ⟨i, hi, e⟩ := List.getElem_of_mem hp
 exact L.lt (h3 i p (by rw [List.getElem?_eq_getElem hi, e])).1
theorem q0y.chg {S : List Nat} (h : q0y L w b off ps) (hc : Chg S w w') (hb : b ∉ S) (hS : ∀ p ∈ ps, ∀ y ∈ p.2, y ∉ S) : q0y L w' b off ps :=
 h.keep (hc.block b h.lt hb) (fun p hp y hy => hc.block y (h.fp_lt hp y hy) (hS p hp y hy))
theorem q0y.ext (h : q0y L w b off ps) (hc : Chg [] w w') : q0y L w' b off ps := h.chg hc (by simp) (by simp)
theorem q0y.at (h : q0y L w b off ps) {i : Nat} (hi : i < ps.length) : ∃ p c, ps[i]? = some p ∧ L.rep w c p.1 p.2 ∧ b ∉ p.2 ∧ ∀ j, j < L.n → w.cell? ⟨b, off + i * L.n + j, none⟩ = c[j]? := by
 obtain ⟨cur, E, h1, h2, h3⟩ := h
 have hp : ps[i]? = some ps[i] := List.getElem?_eq_getElem hi
 refine ⟨_, _, hp, (h3 i _ hp).1, (h3 i _ hp).2, fun j hj => ?_⟩
 rw [cellsOf h1, List.getElem?_take_of_lt hj, List.getElem?_drop]
 simp
theorem q0y.free (h : q0y L w b off ps) : ∀ j, w.frozen? ⟨b, j, none⟩ = false := by obtain ⟨cur, E, h1, _⟩ := h; exact q0c h1
theorem q0y.put (h : q0y L w b off ps) {i : Nat} (hi : i < ps.length) {x : α} {c : List Value} {f : List Nat} (hr : L.rep w c x f) (hb : b ∉ f) : q0y L (w.setCells b (off + i * L.n) c) b off (ps.set i (x, f)) := by
 obtain ⟨cur, E, h1, h2, h3⟩ := h
 have hcl := L.len hr
 have hle : (i + 1) * L.n ≤ ps.length * L.n := Nat.mul_le_mul_right _ (by omega)
 rw [Nat.add_mul, Nat.one_mul] at hle
 have hsz : off + i * L.n + c.length ≤ cur.size := by have := h2 (by omega); omega
 have htl := q4h c (off + i * L.n) cur hsz
 have hct : cur.toList.length = cur.size := by simp
 refine ⟨_, E, q2w c _ w cur h1, ?_, fun j p hp => ?_⟩
 ·rw [List.length_set]
  have : (setRow cur (off + i * L.n) c).size = cur.size := by
   have h5 := congrArg List.length htl
   rw [Array.length_toList] at h5
   rw [h5, List.length_append, List.length_append, List.length_take, List.length_drop]
   omega
  rw [this]; exact h2
 ·have hfar : ∀ y, y ≠ b → (w.setCells b (off + i * L.n) c).heap[y]? = w.heap[y]? := fun y hy => q4v hy c _ w
  by_cases e : i = j
  ·subst e
   rw [List.getElem?_set_self hi] at hp
   obtain rfl := Option.some.inj hp
   refine ⟨?_, hb⟩
   have e2 : ((setRow cur (off + i * L.n) c).toList.drop (off + i * L.n)).take L.n = c := by
    rw [htl, List.drop_append_of_le_length (by rw [List.length_take]; omega), List.drop_take, Nat.sub_self, List.take_zero, List.nil_append, List.take_append_of_le_length (by omega), List.take_of_length_le (by omega)]
   rw [e2]
   exact L.keep hr (fun y hy => hfar y (fun e => hb (e ▸ hy)))
  ·rw [List.getElem?_set_ne e] at hp
   obtain ⟨h4, h5⟩ := h3 j p hp
   refine ⟨?_, h5⟩
   have hj := (List.getElem?_eq_some_iff.1 hp).1
   have hjle : (j + 1) * L.n ≤ ps.length * L.n := Nat.mul_le_mul_right _ (by omega)
   rw [Nat.add_mul, Nat.one_mul] at hjle
   have e2 : ((setRow cur (off + i * L.n) c).toList.drop (off + j * L.n)).take L.n = (cur.toList.drop (off + j * L.n)).take L.n := by
    apply List.ext_getElem?
    intro k
    by_cases hk : k < L.n
    ·rw [List.getElem?_take_of_lt hk, List.getElem?_take_of_lt hk, List.getElem?_drop, List.getElem?_drop, htl]
     rcases Nat.lt_or_gt_of_ne e with hij | hij
     ·have : (i + 1) * L.n ≤ j * L.n := Nat.mul_le_mul_right _ hij
      rw [Nat.add_mul, Nat.one_mul] at this
      rw [List.getElem?_append_right (by rw [List.length_take]; omega), List.length_take, List.getElem?_append_right (by omega), List.getElem?_drop]
      congr 1
      omega
     ·have : (j + 1) * L.n ≤ i * L.n := Nat.mul_le_mul_right _ hij
      rw [Nat.add_mul, Nat.one_mul] at this
      rw [List.getElem?_append_left (by rw [List.length_take]; omega), List.getElem?_take_of_lt (by omega)]
    ·rw [List.getElem?_eq_none (by rw [List.length_take]; omega), List.getElem?_eq_none (by rw [List.length_take]; omega)]
   rw [e2]
   exact L.keep h4 (fun y hy => hfar y (fun e => h5 (e ▸ hy)))
theorem q0y.take (h : q0y L w b off ps) (n : Nat) : q0y L w b off (ps.take n) := by
 obtain ⟨cur, E, h1, h2, h3⟩ := h
 have hle : (ps.take n).length * L.n ≤ ps.length * L.n := Nat.mul_le_mul_right _ (by rw [List.length_take]; omega)
 refine ⟨cur, E, h1, fun h0 => by have := h2 (by rw [List.length_take] at h0; omega); omega, fun i p hp => h3 i p ?_⟩
 have hi : i < n := by have := (List.getElem?_eq_some_iff.1 hp).1; rw [List.length_take] at this; omega
 rwa [List.getElem?_take_of_lt hi] at hp
end
theorem row_all {α : Type} {L : Lay α} {w : World} : ∀ {ps : List (α × List Nat)} {cs : List Value}, cs.length = ps.length * L.n → (∀ (i : Nat) p, ps[i]? = some p → L.rep w ((cs.drop (i * L.n)).take L.n) p.1 p.2) → L.all w cs (ps.map (·.1)) (ps.flatMap (·.2)) := by
 intro ps
 induction ps with
 | nil => intro cs hl _; exact ⟨List.eq_nil_of_length_eq_zero (by simpa using hl), rfl⟩
 | cons p ps ih =>
  intro cs hl h
  rw [List.length_cons, Nat.add_mul, Nat.one_mul] at hl
  refine ⟨cs.take L.n, cs.drop L.n, p.2, ps.flatMap (·.2), (List.take_append_drop _ _).symm, by simp, ?_, ih (by rw [List.length_drop]; omega) (fun i q hq => ?_)⟩
  ·have := h 0 p rfl
   simpa using this
  ·have := h (i + 1) q (by simpa using hq)
   rw [List.drop_drop]
   rw [Nat.add_mul, Nat.one_mul, Nat.add_comm] at this
   exact this
theorem all_row {α : Type} {L : Lay α} {w : World} : ∀ {xs : List α} {cs : List Value} {fps : List Nat}, L.all w cs xs fps → ∃ ps : List (α × List Nat), ps.map (·.1) = xs ∧ ps.flatMap (·.2) = fps ∧ ∀ (i : Nat) p, ps[i]? = some p → L.rep w ((cs.drop (i * L.n)).take L.n) p.1 p.2 := by
 intro xs
 induction xs with
 | nil => intro cs fps h; exact ⟨[], rfl, h.2.symm, fun i p hp => by simp at hp⟩
 | cons x xs ih =>
  intro cs fps h
  obtain ⟨c1, c2, f1, f2, rfl, rfl, h1, h2⟩ := h
  obtain ⟨ps, e1, e2, e3⟩ := ih h2
  have hl := L.len h1
  refine ⟨(x, f1) :: ps, by simp [e1], by simp [e2], fun i p hp => ?_⟩
  cases i with
  | zero =>
   simp at hp
   subst hp
   rw [Nat.zero_mul, List.drop_zero, ← hl, List.take_left]
   exact h1
  | succ i =>
   have := e3 i p (by simpa using hp)
   rw [Nat.add_mul, Nat.one_mul, Nat.add_comm, ← List.drop_drop, ← hl, List.drop_left, hl]
   exact this
section
variable {α : Type} {L : Lay α} {w w' : World} {b off len cap : Nat} {xs : List α} {ps : List (α × List Nat)} {fp : List Nat}
theorem q0y.sl (h : q0y L w b off ps) (hl : len = ps.length) (hc : len ≤ cap) (hm : cap ≤ maxLen) : L.sl w (some ⟨b, off, none⟩) len cap (ps.map (·.1)) (b :: ps.flatMap (·.2)) := by
 obtain ⟨cur, E, h1, h2, h3⟩ := h
 subst hl
 refine ⟨by simp, hc, hm, (fun h => by cases h), .inr ⟨b, off, cur, E, (0, 0), _, rfl, h1, row_all ?_ (fun i p hp => ?_), rfl⟩⟩
 ·have hct : cur.toList.length = cur.size := by simp
  rw [List.length_take, List.length_drop, hct]
  rcases Nat.eq_zero_or_pos ps.length with h0 | h0
  ·rw [h0, Nat.zero_mul]; omega
  ·have := h2 h0; omega
 ·have hi := (List.getElem?_eq_some_iff.1 hp).1
  have hle : (i + 1) * L.n ≤ ps.length * L.n := Nat.mul_le_mul_right _ (by omega)
  rw [Nat.add_mul, Nat.one_mul] at hle
  have e : (((cur.toList.drop off).take (ps.length * L.n)).drop (i * L.n)).take L.n = (cur.toList.drop (off + i * L.n)).take L.n := by
   rw [List.drop_take, List.take_take, List.drop_drop, Nat.min_eq_left (by omega)]
  rw [e]
  exact (h3 i p hp).1
theorem Lay.sl_row (h : L.sl w (some ⟨b, off, none⟩) len cap xs fp) (hlo : q3z w b) (hn : ∃ fps, fp = b :: fps ∧ b ∉ fps) : ∃ ps, q0y L w b off ps ∧ ps.map (·.1) = xs ∧ fp = b :: ps.flatMap (·.2) := by
 obtain ⟨fps0, hfp, hb⟩ := hn
 obtain ⟨h1, h2, h3, h4, ⟨rfl, rfl⟩ | ⟨b', off', cur, E, fr, fps, ha, hb', hall, hfp'⟩⟩ := h
 ·cases hfp
 ·simp only [Option.some.injEq, Addr.mk.injEq, and_true] at ha
  obtain ⟨rfl, rfl⟩ := ha
  obtain rfl : fps = fps0 := by rw [hfp] at hfp'; exact (List.cons.inj hfp').2.symm
  obtain ⟨cur', E', hlo⟩ := hlo
  obtain ⟨rfl, rfl, rfl⟩ : cur' = cur ∧ E' = E ∧ fr = (0, 0) := by
   have := Option.some.inj (hlo.symm.trans hb'); injection this with e1 e2 e3; exact ⟨e1, e2, e3.symm⟩
  obtain ⟨ps, e1, e2, e3⟩ := all_row hall
  have hpl : ps.length = xs.length := by rw [← e1, List.length_map]
  have hal := L.all_len hall
  rw [List.length_take, List.length_drop, Array.length_toList] at hal
  refine ⟨ps, ⟨cur', E', hb', ?_, fun i p hp => ?_⟩, e1, by rw [hfp, e2]⟩
  ·rw [hpl]
   intro h0
   have : 0 < xs.length * L.n := Nat.mul_pos h0 L.pos
   rw [h1] at hal; omega
  ·have hi := (List.getElem?_eq_some_iff.1 hp).1
   have hle : (i + 1) * L.n ≤ len * L.n := Nat.mul_le_mul_right _ (by omega)
   rw [Nat.add_mul, Nat.one_mul] at hle
   have := e3 i p hp
   rw [List.drop_take, List.take_take, List.drop_drop, Nat.min_eq_left (by omega)] at this
   refine ⟨this, fun hm => hb ?_⟩
   rw [← e2]
   exact List.mem_flatMap.2 ⟨p, List.mem_of_getElem? hp, hm⟩
end
end Go.Proofs.YtphmpimgbmedbaaGreat
namespace Go.Proofs.YtphmpimgbmedbaaGreat
open Go.RowKit
open Go.Lib (hid)
theorem i64z : q0u 0 := ⟨by omega, by omega⟩
theorem nil_sl0 {α : Type} (L : Lay α) (w : World) : L.sl w none 0 0 [] [] := ⟨rfl, Nat.le_refl _, by unfold maxLen; omega, fun _ => rfl, .inl ⟨rfl, rfl⟩⟩
theorem q9m {w : World} {a : Option Addr} {len cap : Nat} {xs : List Blk} {fp : List Nat} (h : blkL.sl w a len cap xs fp) {i : Nat} (hi : i < len) :
  ∃ (x : Blk) (b off : Nat) (a1 : Option Addr) (l1 c1 : Nat) (f : List Nat), Hid (xs[i]? = some x ∧ b ∈ fp ∧ (∀ y ∈ f, y ∈ fp)) ∧ a = some ⟨b, off, none⟩ ∧ w.cell? ⟨b, off + i * 2, none⟩ = some (.int .i64 x.sM) ∧ w.cell? ⟨b, off + i * 2 + 1, none⟩ = some (.slice a1 l1 c1) ∧ Hid (blkL.rep w [.int .i64 x.sM, .slice a1 l1 c1] x f) := by
 obtain ⟨x, b, off, c, f, hx, ha, hb, hc, hr, hf⟩ := blkL.sl_at h hi
 obtain ⟨a1, l1, c1, _, ex, -⟩ := q4m.1 hr
 subst ex
 refine ⟨x, b, off, a1, l1, c1, f, ⟨hx, hb, hf⟩, ha, hc 0 (by decide), hc 1 (by decide), hr⟩
def zBlk : Blk := ⟨0, []⟩
theorem infoBlock : (Tryz.prog.info? 76).map (fun i => (i.zero, i.size, i.bytes)) = some (some (.agg #[.int .i64 0, .slice none 0 0]), 2, 32) := by kernel_rfl
theorem kindBlock : ∃ K : Kind Tryz.prog 76 blkL.n 32, K.z = .agg #[.int .i64 0, .slice none 0 0] := by
 obtain ⟨i0, hi, hz0, hz1, hz2⟩ := info_parts infoBlock
 exact ⟨⟨i0, .agg #[.int .i64 0, .slice none 0 0], hi, hz0, hz1, hz2, rfl⟩, rfl⟩
theorem q9g {w : World} {a : Option Addr} {len cap : Nat} {xs : List Drv} {fp : List Nat} (h : drvL.sl w a len cap xs fp) {i : Nat} (hi : i < len) :
  ∃ (x : Drv) (b off : Nat) (a1 : Option Addr) (l1 c1 : Nat) (f : List Nat), Hid (xs[i]? = some x ∧ b ∈ fp ∧ (∀ y ∈ f, y ∈ fp)) ∧ a = some ⟨b, off, none⟩ ∧ w.cell? ⟨b, off + i * 2, none⟩ = some (.bool x.wiped) ∧ w.cell? ⟨b, off + i * 2 + 1, none⟩ = some (.slice a1 l1 c1) ∧ Hid (drvL.rep w [.bool x.wiped, .slice a1 l1 c1] x f) := by
 obtain ⟨x, b, off, c, f, hx, ha, hb, hc, hr, hf⟩ := drvL.sl_at h hi
 obtain ⟨a1, l1, c1, _, ex, -⟩ := q6x.1 hr
 subst ex
 refine ⟨x, b, off, a1, l1, c1, f, ⟨hx, hb, hf⟩, ha, hc 0 (by decide), hc 1 (by decide), hr⟩
theorem infoDrive : (Tryz.prog.info? 82).map (fun i => (i.zero, i.size, i.bytes)) = some (some (.agg #[.bool false, .slice none 0 0]), 2, 32) := by kernel_rfl
theorem kindDrive : ∃ K : Kind Tryz.prog 82 drvL.n 32, K.z = .agg #[.bool false, .slice none 0 0] := by
 obtain ⟨i0, hi, hz0, hz1, hz2⟩ := info_parts infoDrive
 exact ⟨⟨i0, .agg #[.bool false, .slice none 0 0], hi, hz0, hz1, hz2, rfl⟩, rfl⟩
theorem infoDS : (Tryz.prog.info? 83).map (fun i => (i.zero, i.size, i.bytes)) = some (some (.slice none 0 0), 1, 24) := by kernel_rfl
theorem kindDS : ∃ K : Kind Tryz.prog 83 drvL.slice.n 24, K.z = .slice none 0 0 := by
 obtain ⟨i0, hi, hz0, hz1, hz2⟩ := info_parts infoDS
 exact ⟨⟨i0, .slice none 0 0, hi, hz0, hz1, hz2, rfl⟩, rfl⟩
theorem q7e {w : World} {a : Option Addr} {len cap : Nat} {xs : List Rec} {fp : List Nat} (h : recL.sl w a len cap xs fp) {i : Nat} (hi : i < len) :
  ∃ (x : Rec) (b off : Nat) (a6 : Option Addr) (l6 c6 : Nat) (a7 : Option Addr) (l7 c7 : Nat) (a8 : Option Addr) (l8 c8 : Nat) (f : List Nat), Hid (xs[i]? = some x ∧ b ∈ fp ∧ (∀ y ∈ f, y ∈ fp)) ∧ a = some ⟨b, off, none⟩ ∧ w.cell? ⟨b, off + i * 9, none⟩ = some (.int .i64 x.kind) ∧ w.cell? ⟨b, off + i * 9 + 1, none⟩ = some (.int .i64 x.seq) ∧ w.cell? ⟨b, off + i * 9 + 2, none⟩ = some (.string x.name) ∧ w.cell? ⟨b, off + i * 9 + 3, none⟩ = some (.int .i64 x.length) ∧ w.cell? ⟨b, off + i * 9 + 4, none⟩ = some (.int .i64 x.group) ∧ w.cell? ⟨b, off + i * 9 + 5, none⟩ = some (.int .i64 x.row) ∧ w.cell? ⟨b, off + i * 9 + 6, none⟩ = some (.slice a6 l6 c6) ∧ w.cell? ⟨b, off + i * 9 + 7, none⟩ = some (.slice a7 l7 c7) ∧ w.cell? ⟨b, off + i * 9 + 8, none⟩ = some (.slice a8 l8 c8) ∧ Hid (recL.rep w [.int .i64 x.kind, .int .i64 x.seq, .string x.name, .int .i64 x.length, .int .i64 x.group, .int .i64 x.row, .slice a6 l6 c6, .slice a7 l7 c7, .slice a8 l8 c8] x f) := by
 obtain ⟨x, b, off, c, f, hx, ha, hb, hc, hr, hf⟩ := recL.sl_at h hi
 obtain ⟨a6, l6, c6, _, a7, l7, c7, _, a8, l8, c8, _, ex, -⟩ := q0v.1 hr
 subst ex
 refine ⟨x, b, off, a6, l6, c6, a7, l7, c7, a8, l8, c8, f, ⟨hx, hb, hf⟩, ha, hc 0 (by decide), hc 1 (by decide), hc 2 (by decide), hc 3 (by decide), hc 4 (by decide), hc 5 (by decide), hc 6 (by decide), hc 7 (by decide), hc 8 (by decide), hr⟩
theorem infoRec : (Tryz.prog.info? 67).map (fun i => (i.zero, i.size, i.bytes)) = some (some (.agg #[.int .i64 0, .int .i64 0, .string ⟨#[]⟩, .int .i64 0, .int .i64 0, .int .i64 0, .slice none 0 0, .slice none 0 0, .slice none 0 0]), 9, 128) := by kernel_rfl
theorem q7j : ∃ K : Kind Tryz.prog 67 recL.n 128, K.z = .agg #[.int .i64 0, .int .i64 0, .string ⟨#[]⟩, .int .i64 0, .int .i64 0, .int .i64 0, .slice none 0 0, .slice none 0 0, .slice none 0 0] := by
 obtain ⟨i0, hi, hz0, hz1, hz2⟩ := info_parts infoRec
 exact ⟨⟨i0, .agg #[.int .i64 0, .int .i64 0, .string ⟨#[]⟩, .int .i64 0, .int .i64 0, .int .i64 0, .slice none 0 0, .slice none 0 0, .slice none 0 0], hi, hz0, hz1, hz2, rfl⟩, rfl⟩
theorem makeRec (n : Nat) (hn : n ≤ 1048576) (w : World) :
  (Instr.makeSlice 44 (.int .i64 (n : Int)) (.int .i64 (n : Int))).run Tryz.prog w = .ok (.slice (some ⟨w.heap.size, 0, none⟩) n n) (w.alloc (.cells (zrow (.agg #[.int .i64 0, .int .i64 0, .string ⟨#[]⟩, .int .i64 0, .int .i64 0, .int .i64 0, .slice none 0 0, .slice none 0 0, .slice none 0 0]) (n * 9)) 67)) := by
 obtain ⟨K, hK⟩ := q7j
 rw [← hK]
 exact q9b Tryz.underlying44 K n (by omega) (by omega) w
theorem q2q {w : World} {a : Option Addr} {len cap : Nat} {xs : List Tap} {fp : List Nat} (h : tapL.sl w a len cap xs fp) {i : Nat} (hi : i < len) :
  ∃ (x : Tap) (b off : Nat) (a1 : Option Addr) (l1 c1 : Nat) (f : List Nat), Hid (xs[i]? = some x ∧ b ∈ fp ∧ (∀ y ∈ f, y ∈ fp)) ∧ a = some ⟨b, off, none⟩ ∧ w.cell? ⟨b, off + i * 2, none⟩ = some (.bool x.wiped) ∧ w.cell? ⟨b, off + i * 2 + 1, none⟩ = some (.slice a1 l1 c1) ∧ Hid (tapL.rep w [.bool x.wiped, .slice a1 l1 c1] x f) := by
 obtain ⟨x, b, off, c, f, hx, ha, hb, hc, hr, hf⟩ := tapL.sl_at h hi
 obtain ⟨a1, l1, c1, _, ex, -⟩ := q1r.1 hr
 subst ex
 refine ⟨x, b, off, a1, l1, c1, f, ⟨hx, hb, hf⟩, ha, hc 0 (by decide), hc 1 (by decide), hr⟩
theorem infoTape : (Tryz.prog.info? 69).map (fun i => (i.zero, i.size, i.bytes)) = some (some (.agg #[.bool false, .slice none 0 0]), 2, 32) := by kernel_rfl
theorem kindTape : ∃ K : Kind Tryz.prog 69 tapL.n 32, K.z = .agg #[.bool false, .slice none 0 0] := by
 obtain ⟨i0, hi, hz0, hz1, hz2⟩ := info_parts infoTape
 exact ⟨⟨i0, .agg #[.bool false, .slice none 0 0], hi, hz0, hz1, hz2, rfl⟩, rfl⟩
theorem makeTape (n : Nat) (hn : n ≤ 1048576) (w : World) :
  (Instr.makeSlice 32 (.int .i64 (n : Int)) (.int .i64 (n : Int))).run Tryz.prog w = .ok (.slice (some ⟨w.heap.size, 0, none⟩) n n) (w.alloc (.cells (zrow (.agg #[.bool false, .slice none 0 0]) (n * 2)) 69)) := by
 obtain ⟨K, hK⟩ := kindTape
 rw [← hK]
 exact q9b Tryz.underlying32 K n (by omega) (by omega) w
def Shp.cells (s : Shp) : Array Value := #[.int .i64 s.gS, .int .i64 s.cM, .int .i64 s.data, .int .i64 s.spare, .int .i64 s.rows, .int .i64 s.cap, .int .i64 s.bT, .int .i64 s.qU, .int .i64 s.sG]
def inB (n a b : Int) : Bool := decide (a ≤ n) && decide (n ≤ b)
theorem q3e {n a b : Int} (h : inB n a b = true) : a ≤ n ∧ n ≤ b := by simpa [inB] using h
theorem inB_false {n a b : Int} (h : inB n a b = false) : ¬ (a ≤ n ∧ n ≤ b) := by
 intro ⟨h1, h2⟩; simp [inB, h1, h2] at h
theorem q1m {n a b : Int} (h1 : a ≤ n) (h2 : n ≤ b) : inB n a b = true := by simp [inB, h1, h2]
theorem q1t {n a b : Int} (h : ¬ (a ≤ n ∧ n ≤ b)) : inB n a b = false := by
 cases e : inB n a b
 ·rfl
 ·exact absurd (q3e e) h
def Shp.ok (s : Shp) : Prop := (1 ≤ s.gS ∧ s.gS ≤ 4) ∧ (0 ≤ s.cM ∧ s.cM ≤ 2) ∧ (1 ≤ s.data ∧ s.data ≤ 3) ∧ (0 ≤ s.spare ∧ s.spare ≤ 2) ∧ (1 ≤ s.rows ∧ s.rows ≤ 6) ∧ (1 ≤ s.cap ∧ s.cap ≤ 6) ∧ (1 ≤ s.bT ∧ s.bT ≤ 4) ∧ (1 ≤ s.qU ∧ s.qU ≤ 6) ∧ (0 ≤ s.sG ∧ s.sG ≤ 400)
instance (s : Shp) : Decidable s.ok := by unfold Shp.ok; infer_instance
def Shp.fault (s : Shp) : Int := if s.ok then 0 else 3
theorem Shp.fault_of {s : Shp} (h1 : inB s.gS 1 4 = true) (h2 : inB s.cM 0 2 = true) (h3 : inB s.data 1 3 = true) (h4 : inB s.spare 0 2 = true) (h5 : inB s.rows 1 6 = true)
  (h6 : inB s.cap 1 6 = true) (h7 : inB s.bT 1 4 = true) (h8 : inB s.qU 1 6 = true) (h9 : inB s.sG 0 400 = true) : (0 : Int) = s.fault := by
 rw [Shp.fault, if_pos ⟨q3e h1, q3e h2, q3e h3, q3e h4, q3e h5, q3e h6, q3e h7, q3e h8, q3e h9⟩]
theorem Shp.fault_no {s : Shp} (h : inB s.gS 1 4 = false ∨ inB s.cM 0 2 = false ∨ inB s.data 1 3 = false ∨ inB s.spare 0 2 = false ∨ inB s.rows 1 6 = false
  ∨ inB s.cap 1 6 = false ∨ inB s.bT 1 4 = false ∨ inB s.qU 1 6 = false ∨ inB s.sG 0 400 = false) : (3 : Int) = s.fault := by
 rw [Shp.fault, if_neg]
 rintro ⟨g1, g2, g3, g4, g5, g6, g7, g8, g9⟩
 rcases h with h | h | h | h | h | h | h | h | h <;> exact absurd (by assumption) (inB_false h)
theorem Shp.ok_of {s : Shp} (h : s.fault = 0) : s.ok := by
 unfold Shp.fault at h; split at h
 ·assumption
 ·cases h
theorem q2a (n a b : Int) (w : World) :
  Calls Tryz.prog 147 #[.int .i64 n, .int .i64 a, .int .i64 b] w fun e w' => e = .returned (.bool (inB n a b)) ∧ w = w' := by
 by_cases h : a ≤ n
 ·have H := hid (show decide (n ≤ b) = inB n a b by simp [inB, h])
  go_enter Tryz.func147, Tryz.ntmps147
  go_wp2
  go_ret
  exact ⟨q0l H.out, rfl⟩
 ·have H := hid (show false = inB n a b by simp [inB, h])
  go_enter Tryz.func147, Tryz.ntmps147
  go_wp2
  go_ret
  exact ⟨q0l H.out, rfl⟩
theorem q6b (n a b : Int) (w : World) :
  Calls Tryz.prog 70 #[.int .i64 n, .int .i64 a, .int .i64 b] w fun e w' => e = .returned (.bool (inB n a b)) ∧ w = w' := by
 by_cases h : a ≤ n
 ·have H := hid (show decide (n ≤ b) = inB n a b by simp [inB, h])
  go_enter Tryz.func70, Tryz.ntmps70
  go_wp2
  go_ret
  exact ⟨q0l H.out, rfl⟩
 ·have H := hid (show false = inB n a b by simp [inB, h])
  go_enter Tryz.func70, Tryz.ntmps70
  go_wp2
  go_ret
  exact ⟨q0l H.out, rfl⟩
theorem impl_shape (s : Shp) (w : World) :
  Calls Tryz.prog 124 #[.agg s.cells] w fun e w' => e = .returned (.int .i64 s.fault) ∧ w.alloc (.cells s.cells 30) = w' := by
 have HY := hid (@Shp.fault_of s)
 have HN := hid (@Shp.fault_no s)
 generalize s.fault = F at HY HN ⊢
 obtain ⟨g, c, d, p, r, q, b, u, t⟩ := s
 simp only [Shp.cells] at HY HN ⊢
 go_enter Tryz.func124, Tryz.ntmps124
 go_wp2_with (go_at_call 147; refine (q2a _ _ _ _).mono ?_; rintro e w' ⟨rfl, rfl⟩)
 all_goals go_ret
 all_goals refine ⟨?_, rfl⟩
 all_goals simp only [Bool.not_eq_true, Bool.not_eq_true', Bool.not_eq_false'] at *
 all_goals first
  | exact q0i (HY.out ‹_› ‹_› ‹_› ‹_› ‹_› ‹_› ‹_› ‹_› ‹_›)
  | exact q0i (HN.out (by simp [*]))
theorem l3Shape_any (a b : Int) (w : World) :
  Calls Tryz.prog 189 #[.int .i64 a, .int .i64 b] w fun e w' => e = .returned (.bool (inB a 1 4 && inB b 0 2)) ∧ w = w' := by
 go_enter Tryz.func189, Tryz.ntmps189
 go_wp2_with (go_at_call 70; refine (q6b _ _ _ _).mono ?_; rintro e w' ⟨rfl, rfl⟩)
 all_goals go_ret
 all_goals refine ⟨?_, rfl⟩
 all_goals simp only [Bool.not_eq_true] at *
 all_goals exact q0l (by simp [*])
theorem l2Shape_any (a b : Int) (w : World) :
  Calls Tryz.prog 190 #[.int .i64 a, .int .i64 b] w fun e w' => e = .returned (.bool (inB a 1 3 && inB b 0 2)) ∧ w = w' := by
 go_enter Tryz.func190, Tryz.ntmps190
 go_wp2_with (go_at_call 70; refine (q6b _ _ _ _).mono ?_; rintro e w' ⟨rfl, rfl⟩)
 all_goals go_ret
 all_goals refine ⟨?_, rfl⟩
 all_goals simp only [Bool.not_eq_true] at *
 all_goals exact q0l (by simp [*])
def inBs (a p q b r s : Int) : Bool := inB a p q && inB b r s
theorem q6d {a p q b r s : Int} (h : inBs a p q b r s = true) : inB a p q = true ∧ inB b r s = true := by simpa [inBs] using h
theorem q8k {a p q b r s : Int} (h : inBs a p q b r s = false) : inB a p q = false ∨ inB b r s = false := by
 cases e : inB a p q <;> simp [inBs, e] at h ⊢
 exact h
theorem Shp.fault_ofs {s : Shp} (h1 : inBs s.gS 1 4 s.cM 0 2 = true) (h3 : inBs s.data 1 3 s.spare 0 2 = true) (h5 : inB s.rows 1 6 = true)
  (h6 : inB s.cap 1 6 = true) (h7 : inB s.bT 1 4 = true) (h8 : inB s.qU 1 6 = true) (h9 : inB s.sG 0 400 = true) : (0 : Int) = s.fault :=
 Shp.fault_of (q6d h1).1 (q6d h1).2 (q6d h3).1 (q6d h3).2 h5 h6 h7 h8 h9
theorem Shp.fault_nos {s : Shp} (h : inBs s.gS 1 4 s.cM 0 2 = false ∨ inBs s.data 1 3 s.spare 0 2 = false ∨ inB s.rows 1 6 = false
  ∨ inB s.cap 1 6 = false ∨ inB s.bT 1 4 = false ∨ inB s.qU 1 6 = false ∨ inB s.sG 0 400 = false) : (3 : Int) = s.fault := by
 rcases h with h | h | h | h | h | h | h
 ·rcases q8k h with h | h <;> exact Shp.fault_no (by simp [h])
 ·rcases q8k h with h | h <;> exact Shp.fault_no (by simp [h])
 all_goals exact Shp.fault_no (by simp [h])
theorem l3Shape_s (a b : Int) (w : World) :
  Calls Tryz.prog 189 #[.int .i64 a, .int .i64 b] w fun e w' => e = .returned (.bool (inBs a 1 4 b 0 2)) ∧ w = w' := l3Shape_any a b w
theorem l2Shape_s (a b : Int) (w : World) :
  Calls Tryz.prog 190 #[.int .i64 a, .int .i64 b] w fun e w' => e = .returned (.bool (inBs a 1 3 b 0 2)) ∧ w = w' := l2Shape_any a b w
theorem spec_shape (s : Shp) (w : World) :
  Calls Tryz.prog 116 #[.agg s.cells] w fun e w' => e = .returned (.int .i64 s.fault) ∧ w.alloc (.cells s.cells 30) = w' := by
 have HY := hid (@Shp.fault_ofs s)
 have HN := hid (@Shp.fault_nos s)
 generalize s.fault = F at HY HN ⊢
 obtain ⟨g, c, d, p, r, q, b, u, t⟩ := s
 simp only [Shp.cells] at HY HN ⊢
 go_enter Tryz.func116, Tryz.ntmps116
 go_wp2_with (first | (go_at_call 70; refine (q6b _ _ _ _).mono ?_; rintro e w' ⟨rfl, rfl⟩) | (go_at_call 189; refine (l3Shape_s _ _ _).mono ?_; rintro e w' ⟨rfl, rfl⟩) | (go_at_call 190; refine (l2Shape_s _ _ _).mono ?_; rintro e w' ⟨rfl, rfl⟩))
 all_goals go_ret
 all_goals refine ⟨?_, rfl⟩
 all_goals simp only [Bool.not_eq_true, Bool.not_eq_true', Bool.not_eq_false'] at *
 all_goals first
  | exact q0i (HY.out (by simp [*]) (by simp [*]) (by simp [*]) (by simp [*]) (by simp [*]) (by simp [*]) (by simp [*]))
  | exact q0i (HN.out (by simp [*]))
theorem q2i (s : Shp) (w : World) :
  Calls Tryz.prog 124 #[.agg s.cells] w fun e w' => e = .returned (.int .i64 s.fault) ∧ Chg [] w w' :=
 (impl_shape s w).mono fun _ _ ⟨h1, h2⟩ => ⟨h1, h2 ▸ (Chg.refl [] w).alloc _⟩
theorem q0n (s : Shp) (w : World) :
  Calls Tryz.prog 116 #[.agg s.cells] w fun e w' => e = .returned (.int .i64 s.fault) ∧ Chg [] w w' :=
 (spec_shape s w).mono fun _ _ ⟨h1, h2⟩ => ⟨h1, h2 ▸ (Chg.refl [] w).alloc _⟩
def Good (k : Nat) (c : Int) : Prop := (97 ≤ c ∧ c ≤ 122) ∨ (k ≠ 0 ∧ 48 ≤ c ∧ c ≤ 57)
def NameOk (s : ByteArray) : Prop := (1 ≤ s.size ∧ s.size ≤ 8) ∧ ∀ (k : Nat) (h : k < s.size), Good k (s[k].toNat : Int)
open Classical in
noncomputable def q1b (s : ByteArray) : Int := if NameOk s then 0 else 5
theorem q6w {s : ByteArray} {k : Nat} (h : k < s.size) (hb : ¬ Good k (s[k].toNat : Int)) : (5 : Int) = q1b s := by
  rw [q1b, if_neg (fun hn => hb (hn.2 k h))]
theorem name_len {s : ByteArray} (h : ¬ (1 ≤ s.size ∧ s.size ≤ 8)) : (5 : Int) = q1b s := by
  rw [q1b, if_neg (fun hn => h hn.1)]
theorem name_good {s : ByteArray} (h : 1 ≤ s.size ∧ s.size ≤ 8) (hg : ∀ (k : Nat) (h : k < s.size), Good k (s[k].toNat : Int)) : (0 : Int) = q1b s := by
  rw [q1b, if_pos ⟨h, hg⟩]
def q6s (s : ByteArray) (k : Nat) : Prop := ∀ (j : Nat) (h : j < s.size), j < k → Good j (s[j].toNat : Int)
theorem q7k {s : ByteArray} {k : Nat} (h : q6s s k) (hk : k < s.size) (hg : Good k (s[k].toNat : Int)) : q6s s (k + 1) := by
  intro j hj hjk
  by_cases e : j = k
  · subst e; exact hg
  · exact h j hj (by omega)
theorem q8l {s : ByteArray} {k : Nat} (h : q6s s k) (hk : s.size ≤ k) : ∀ (k : Nat) (h : k < s.size), Good k (s[k].toNat : Int) := fun j hj => h j hj (by omega)
theorem impl_name (s : ByteArray) (hs : s.size ≤ maxLen) (w : World) :
    Calls Tryz.prog 125 #[.string s] w fun e w' => e = .returned (.int .i64 (q1b s)) ∧ w = w' := by
  unfold maxLen at hs
  go_enter Tryz.func125, Tryz.ntmps125
  go_wp2
  go_loop [3, 4, 7] (fun _ _ i => ∃ k : Nat, k ≤ s.size ∧ q6s s k ∧ i = .int .i64 k) (fun _ _ i => s.size - (intOf i).toNat)
  case atStart => exact ⟨0, by omega, fun j _ h => by omega, rfl⟩
  case round =>
    obtain ⟨k, hk, hg, rfl⟩ := hrel
    by_cases hlt : k < s.size
    · have HB : Hid (¬ Good k (s[k].toNat : Int) → (5 : Int) = q1b s) := fun hb => q6w hlt hb
      have HG : Hid (Good k (s[k].toNat : Int) → q6s s (k + 1)) := fun h => q7k hg hlt h
      clear hg
      have hc : (s[k].toNat : Int) < 48 ∨ (48 ≤ (s[k].toNat : Int) ∧ (s[k].toNat : Int) ≤ 57) ∨ (57 < (s[k].toNat : Int) ∧ (s[k].toNat : Int) < 97) ∨ (97 ≤ (s[k].toNat : Int) ∧ (s[k].toNat : Int) ≤ 122) ∨ 122 < (s[k].toNat : Int) := by omega
      by_cases h0 : k = 0
      · subst h0
        rcases hc with hc | ⟨hc, hc2⟩ | ⟨hc, hc2⟩ | ⟨hc, hc2⟩ | hc
        all_goals
          go_wp2
          all_goals first
            | (go_round
               case rel => exact ⟨1, by omega, HG.out (by unfold Good; omega), rfl⟩
               case measure => simp [intOf]; omega)
            | (go_ret; exact ⟨q0i (HB.out (by unfold Good; omega)), rfl⟩)
            | (exfalso; simp_all; done)
            | (exfalso; simp_all; omega)
      · have hk0 : (((k : Nat) : Int) == 0) = false := by rw [beq_eq_false_iff_ne]; omega
        rcases hc with hc | ⟨hc, hc2⟩ | ⟨hc, hc2⟩ | ⟨hc, hc2⟩ | hc
        all_goals
          go_wp2
          all_goals first
            | (go_round
               case rel => exact ⟨k + 1, by omega, HG.out (by unfold Good; omega), by go_num⟩
               case measure => simp [intOf]; omega)
            | (go_ret; exact ⟨q0i (HB.out (by unfold Good; omega)), rfl⟩)
            | (exfalso; simp_all; done)
            | (exfalso; simp_all; omega)
    · have ha := q8l hg (by omega)
      by_cases hl : 1 ≤ s.size ∧ s.size ≤ 8
      · have H := hid (name_good hl ha)
        obtain ⟨hl1, hl2⟩ := hl
        clear ha hg
        have a1 : (1 : Int) ≤ (s.size : Int) := by omega
        have a2 : (s.size : Int) ≤ 8 := by omega
        go_wp2
        go_ret
        exact ⟨q0i H.out, rfl⟩
      · have H := hid (name_len hl)
        clear ha hg
        by_cases a1 : (1 : Int) ≤ (s.size : Int)
        · have a2 : (8 : Int) < (s.size : Int) := by omega
          have d1 : decide ((s.size : Int) ≤ 8) = false := by simp; omega
          clear hl
          go_wp2
          go_ret
          exact ⟨q0i H.out, rfl⟩
        · clear hl
          go_wp2
          go_ret
          exact ⟨q0i H.out, rfl⟩
theorem spec_name (s : ByteArray) (hs : s.size ≤ maxLen) (w : World) :
    Calls Tryz.prog 192 #[.string s] w fun e w' => e = .returned (.int .i64 (q1b s)) ∧ w = w' := by
  unfold maxLen at hs
  by_cases hl : 1 ≤ s.size ∧ s.size ≤ 8
  · have hlt : 0 < s.size := by omega
    have a1 : (1 : Int) ≤ (s.size : Int) := by omega
    have a2 : (s.size : Int) ≤ 8 := by omega
    have hc : (s[0].toNat : Int) < 97 ∨ 122 < (s[0].toNat : Int) ∨ (97 ≤ (s[0].toNat : Int) ∧ (s[0].toNat : Int) ≤ 122) := by omega
    rcases hc with hc | hc | ⟨hc1, hc2⟩
    · have H := hid (q6w hlt (by unfold Good; omega))
      clear hl
      go_enter Tryz.func192, Tryz.ntmps192
      go_wp2
      go_ret
      exact ⟨q0i H.out, rfl⟩
    · have H := hid (q6w hlt (by unfold Good; omega))
      clear hl
      go_enter Tryz.func192, Tryz.ntmps192
      go_wp2
      go_ret
      exact ⟨q0i H.out, rfl⟩
    · have hl' := hid hl
      have hc' : Hid (97 ≤ (s[0].toNat : Int) ∧ (s[0].toNat : Int) ≤ 122) := ⟨hc1, hc2⟩
      clear hl
      go_enter Tryz.func192, Tryz.ntmps192
      go_wp2
      clear hc1 hc2
      go_loop [3] (fun i => ∃ k : Nat, k ≤ s.size ∧ q6s s k ∧ i = .int .i64 k) (fun i => s.size - (intOf i).toNat)
      case atStart => exact ⟨0, by omega, fun j _ h => by omega, rfl⟩
      case round =>
        obtain ⟨k, hk, hg, rfl⟩ := hrel
        by_cases hlt : k < s.size
        · have HB : Hid (¬ Good k (s[k].toNat : Int) → (5 : Int) = q1b s) := fun hb => q6w hlt hb
          have HG : Hid (Good k (s[k].toNat : Int) → q6s s (k + 1)) := fun h => q7k hg hlt h
          clear hg
          have hc : (s[k].toNat : Int) < 48 ∨ (48 ≤ (s[k].toNat : Int) ∧ (s[k].toNat : Int) ≤ 57) ∨ (57 < (s[k].toNat : Int) ∧ (s[k].toNat : Int) < 97) ∨ (97 ≤ (s[k].toNat : Int) ∧ (s[k].toNat : Int) ≤ 122) ∨ 122 < (s[k].toNat : Int) := by omega
          by_cases h0 : k = 0
          · subst h0
            obtain ⟨hc1, hc2⟩ := hc'.out
            have hgood : q6s s 1 := HG.out (by unfold Good; omega)
            clear hc
            go_wp2
            go_round
            case rel => exact ⟨1, by omega, hgood, rfl⟩
            case measure => simp [intOf]; omega
          · rcases hc with hc | ⟨hc, hc2⟩ | ⟨hc, hc2⟩ | ⟨hc, hc2⟩ | hc
            all_goals
              go_wp2
              all_goals first
                | (go_round
                   case rel => exact ⟨k + 1, by omega, HG.out (by unfold Good; omega), by go_num⟩
                   case measure => simp [intOf]; omega)
                | (go_ret; exact ⟨q0i (HB.out (by unfold Good; omega)), rfl⟩)
                | (exfalso; simp_all; done)
                | (exfalso; simp_all; omega)
        · have H := hid (name_good hl'.out (q8l hg (by omega)))
          clear hg
          go_wp2
          go_ret
          exact ⟨q0i H.out, rfl⟩
  · have H := hid (name_len hl)
    by_cases a1 : (1 : Int) ≤ (s.size : Int)
    · have a2 : (8 : Int) < (s.size : Int) := by omega
      clear hl
      go_enter Tryz.func192, Tryz.ntmps192
      go_wp2
      go_ret
      exact ⟨q0i H.out, rfl⟩
    · clear hl
      go_enter Tryz.func192, Tryz.ntmps192
      go_wp2
      go_ret
      exact ⟨q0i H.out, rfl⟩
/-! ### FactorOf -/
/-! ### PartsFor -/
def q0s (d n : Int) : Int × Int := if n < 1 then (0, 6) else if 12 * d < n then (0, 2) else ((n + 4 * d - 1) / (4 * d), 0)
def Shp.parts (s : Shp) (n : Int) : Int × Int := if s.ok then ((q0s s.data n).2, (q0s s.data n).1) else (3, 0)
theorem q4e (s : Shp) (n : Int) (hd : 1 ≤ s.data) (hd2 : s.data ≤ 3) (hn : q0u n) (w : World) :
  Calls Tryz.prog 283 #[.agg s.cells, .int .i64 n] w fun e w' => e = .returned (.tuple #[.int .i64 (q0s s.data n).1, .int .i64 (q0s s.data n).2]) ∧ Chg [] w w' := by
 obtain ⟨hn1, hn2⟩ := hn
 obtain ⟨g, c, d, p, r', q, b, u, t⟩ := s
 simp only at hd hd2 ⊢
 have h : d = 1 ∨ d = 2 ∨ d = 3 := by omega
 clear hd hd2
 rcases h with rfl | rfl | rfl
 ·simp only [Shp.cells]
  by_cases h1 : n < 1
  ·have HR := hid (show q0s 1 n = (0, 6) by rw [q0s, if_pos h1])
   generalize q0s 1 n = r at HR ⊢
   go_enter Tryz.func283, Tryz.ntmps283
   go_wp2
   go_ret2
   exact ⟨by rw [HR.out]; rfl, by repeat (first | exact Chg.refl _ _ | refine Chg.alloc ?_ _ | refine Chg.drewN ?_ _ | refine Chg.drew ?_)⟩
  ·by_cases h2 : 12 < n
   ·have HR := hid (show q0s 1 n = (0, 2) by rw [q0s, if_neg h1, if_pos (by omega)])
    generalize q0s 1 n = r at HR ⊢
    go_enter Tryz.func283, Tryz.ntmps283
    go_wp2
    go_ret2
    exact ⟨by rw [HR.out]; rfl, by repeat (first | exact Chg.refl _ _ | refine Chg.alloc ?_ _ | refine Chg.drewN ?_ _ | refine Chg.drew ?_)⟩
   ·have HR := hid (show q0s 1 n = ((n - 1) / 4 + 1, 0) by rw [q0s, if_neg h1, if_neg (by omega)]; exact Prod.ext (by show _ / _ = _; omega) rfl)
    generalize q0s 1 n = r at HR ⊢
    go_enter Tryz.func283, Tryz.ntmps283
    go_wp2
    go_ret2
    exact ⟨by rw [HR.out]; rfl, by repeat (first | exact Chg.refl _ _ | refine Chg.alloc ?_ _ | refine Chg.drewN ?_ _ | refine Chg.drew ?_)⟩
 ·simp only [Shp.cells]
  by_cases h1 : n < 1
  ·have HR := hid (show q0s 2 n = (0, 6) by rw [q0s, if_pos h1])
   generalize q0s 2 n = r at HR ⊢
   go_enter Tryz.func283, Tryz.ntmps283
   go_wp2
   go_ret2
   exact ⟨by rw [HR.out]; rfl, by repeat (first | exact Chg.refl _ _ | refine Chg.alloc ?_ _ | refine Chg.drewN ?_ _ | refine Chg.drew ?_)⟩
  ·by_cases h2 : 24 < n
   ·have HR := hid (show q0s 2 n = (0, 2) by rw [q0s, if_neg h1, if_pos (by omega)])
    generalize q0s 2 n = r at HR ⊢
    go_enter Tryz.func283, Tryz.ntmps283
    go_wp2
    go_ret2
    exact ⟨by rw [HR.out]; rfl, by repeat (first | exact Chg.refl _ _ | refine Chg.alloc ?_ _ | refine Chg.drewN ?_ _ | refine Chg.drew ?_)⟩
   ·have HR := hid (show q0s 2 n = ((n - 1) / 8 + 1, 0) by rw [q0s, if_neg h1, if_neg (by omega)]; exact Prod.ext (by show _ / _ = _; omega) rfl)
    generalize q0s 2 n = r at HR ⊢
    go_enter Tryz.func283, Tryz.ntmps283
    go_wp2
    go_ret2
    exact ⟨by rw [HR.out]; rfl, by repeat (first | exact Chg.refl _ _ | refine Chg.alloc ?_ _ | refine Chg.drewN ?_ _ | refine Chg.drew ?_)⟩
 ·simp only [Shp.cells]
  by_cases h1 : n < 1
  ·have HR := hid (show q0s 3 n = (0, 6) by rw [q0s, if_pos h1])
   generalize q0s 3 n = r at HR ⊢
   go_enter Tryz.func283, Tryz.ntmps283
   go_wp2
   go_ret2
   exact ⟨by rw [HR.out]; rfl, by repeat (first | exact Chg.refl _ _ | refine Chg.alloc ?_ _ | refine Chg.drewN ?_ _ | refine Chg.drew ?_)⟩
  ·by_cases h2 : 36 < n
   ·have HR := hid (show q0s 3 n = (0, 2) by rw [q0s, if_neg h1, if_pos (by omega)])
    generalize q0s 3 n = r at HR ⊢
    go_enter Tryz.func283, Tryz.ntmps283
    go_wp2
    go_ret2
    exact ⟨by rw [HR.out]; rfl, by repeat (first | exact Chg.refl _ _ | refine Chg.alloc ?_ _ | refine Chg.drewN ?_ _ | refine Chg.drew ?_)⟩
   ·have HR := hid (show q0s 3 n = ((n - 1) / 12 + 1, 0) by rw [q0s, if_neg h1, if_neg (by omega)]; exact Prod.ext (by show _ / _ = _; omega) rfl)
    generalize q0s 3 n = r at HR ⊢
    go_enter Tryz.func283, Tryz.ntmps283
    go_wp2
    go_ret2
    exact ⟨by rw [HR.out]; rfl, by repeat (first | exact Chg.refl _ _ | refine Chg.alloc ?_ _ | refine Chg.drewN ?_ _ | refine Chg.drew ?_)⟩
theorem q3p (s : Shp) (n : Int) (hd : 1 ≤ s.data) (hd2 : s.data ≤ 3) (hn : q0u n) (w : World) :
  Calls Tryz.prog 248 #[.agg s.cells, .int .i64 n] w fun e w' => e = .returned (.int .i64 (q0s s.data n).2) ∧ Chg [] w w' := by
 obtain ⟨hn1, hn2⟩ := hn
 obtain ⟨g, c, d, p, r', q, b, u, t⟩ := s
 simp only at hd hd2 ⊢
 have h : d = 1 ∨ d = 2 ∨ d = 3 := by omega
 clear hd hd2
 rcases h with rfl | rfl | rfl
 ·simp only [Shp.cells]
  by_cases h1 : n < 1
  ·have HR := hid (show q0s 1 n = (0, 6) by rw [q0s, if_pos h1])
   generalize q0s 1 n = r at HR ⊢
   go_enter Tryz.func248, Tryz.ntmps248
   go_wp2
   go_ret
   exact ⟨by rw [HR.out]; rfl, by repeat (first | exact Chg.refl _ _ | refine Chg.alloc ?_ _ | refine Chg.drewN ?_ _ | refine Chg.drew ?_)⟩
  ·by_cases h2 : 12 < n
   ·have HR := hid (show q0s 1 n = (0, 2) by rw [q0s, if_neg h1, if_pos (by omega)])
    generalize q0s 1 n = r at HR ⊢
    go_enter Tryz.func248, Tryz.ntmps248
    go_wp2
    go_ret
    exact ⟨by rw [HR.out]; rfl, by repeat (first | exact Chg.refl _ _ | refine Chg.alloc ?_ _ | refine Chg.drewN ?_ _ | refine Chg.drew ?_)⟩
   ·have HR := hid (show q0s 1 n = ((n - 1) / 4 + 1, 0) by rw [q0s, if_neg h1, if_neg (by omega)]; exact Prod.ext (by show _ / _ = _; omega) rfl)
    generalize q0s 1 n = r at HR ⊢
    go_enter Tryz.func248, Tryz.ntmps248
    go_wp2
    go_ret
    exact ⟨by rw [HR.out]; rfl, by repeat (first | exact Chg.refl _ _ | refine Chg.alloc ?_ _ | refine Chg.drewN ?_ _ | refine Chg.drew ?_)⟩
 ·simp only [Shp.cells]
  by_cases h1 : n < 1
  ·have HR := hid (show q0s 2 n = (0, 6) by rw [q0s, if_pos h1])
   generalize q0s 2 n = r at HR ⊢
   go_enter Tryz.func248, Tryz.ntmps248
   go_wp2
   go_ret
   exact ⟨by rw [HR.out]; rfl, by repeat (first | exact Chg.refl _ _ | refine Chg.alloc ?_ _ | refine Chg.drewN ?_ _ | refine Chg.drew ?_)⟩
  ·by_cases h2 : 24 < n
   ·have HR := hid (show q0s 2 n = (0, 2) by rw [q0s, if_neg h1, if_pos (by omega)])
    generalize q0s 2 n = r at HR ⊢
    go_enter Tryz.func248, Tryz.ntmps248
    go_wp2
    go_ret
    exact ⟨by rw [HR.out]; rfl, by repeat (first | exact Chg.refl _ _ | refine Chg.alloc ?_ _ | refine Chg.drewN ?_ _ | refine Chg.drew ?_)⟩
   ·have HR := hid (show q0s 2 n = ((n - 1) / 8 + 1, 0) by rw [q0s, if_neg h1, if_neg (by omega)]; exact Prod.ext (by show _ / _ = _; omega) rfl)
    generalize q0s 2 n = r at HR ⊢
    go_enter Tryz.func248, Tryz.ntmps248
    go_wp2
    go_ret
    exact ⟨by rw [HR.out]; rfl, by repeat (first | exact Chg.refl _ _ | refine Chg.alloc ?_ _ | refine Chg.drewN ?_ _ | refine Chg.drew ?_)⟩
 ·simp only [Shp.cells]
  by_cases h1 : n < 1
  ·have HR := hid (show q0s 3 n = (0, 6) by rw [q0s, if_pos h1])
   generalize q0s 3 n = r at HR ⊢
   go_enter Tryz.func248, Tryz.ntmps248
   go_wp2
   go_ret
   exact ⟨by rw [HR.out]; rfl, by repeat (first | exact Chg.refl _ _ | refine Chg.alloc ?_ _ | refine Chg.drewN ?_ _ | refine Chg.drew ?_)⟩
  ·by_cases h2 : 36 < n
   ·have HR := hid (show q0s 3 n = (0, 2) by rw [q0s, if_neg h1, if_pos (by omega)])
    generalize q0s 3 n = r at HR ⊢
    go_enter Tryz.func248, Tryz.ntmps248
    go_wp2
    go_ret
    exact ⟨by rw [HR.out]; rfl, by repeat (first | exact Chg.refl _ _ | refine Chg.alloc ?_ _ | refine Chg.drewN ?_ _ | refine Chg.drew ?_)⟩
   ·have HR := hid (show q0s 3 n = ((n - 1) / 12 + 1, 0) by rw [q0s, if_neg h1, if_neg (by omega)]; exact Prod.ext (by show _ / _ = _; omega) rfl)
    generalize q0s 3 n = r at HR ⊢
    go_enter Tryz.func248, Tryz.ntmps248
    go_wp2
    go_ret
    exact ⟨by rw [HR.out]; rfl, by repeat (first | exact Chg.refl _ _ | refine Chg.alloc ?_ _ | refine Chg.drewN ?_ _ | refine Chg.drew ?_)⟩
theorem q8h (s : Shp) (hd : 1 ≤ s.data) (hd2 : s.data ≤ 3) (w : World) :
  Calls Tryz.prog 194 #[.agg s.cells] w fun e w' => e = .returned (.int .i64 (s.data * 4)) ∧ w.alloc (.cells s.cells 30) = w' := by
 obtain ⟨g, c, d, p, r', q, b, u, t⟩ := s
 simp only [Shp.cells] at *
 go_enter Tryz.func194, Tryz.ntmps194
 go_wp2
 go_ret
 exact ⟨rfl, rfl⟩
theorem q6k (n k : Int) (hn : 0 ≤ n) (hn2 : n ≤ 1000000000) (hk : 1 ≤ k) (hk2 : k ≤ 12) : IntKind.i64.wrap ((IntKind.i64.wrap (IntKind.i64.wrap (n + k) - 1)).tdiv k) = (n + k - 1) / k := by
 rw [IntWalk.i64_in (n + k) ⟨by omega, by omega⟩, IntWalk.i64_in (n + k - 1) ⟨by omega, by omega⟩, Int.tdiv_eq_ediv_of_nonneg (by omega)]
 have h1 : 0 ≤ (n + k - 1) / k := Int.ediv_nonneg (by omega) (by omega)
 have h2 : (n + k - 1) / k ≤ n + k - 1 := Int.ediv_le_self _ (by omega)
 exact IntWalk.i64_in _ ⟨by omega, by omega⟩
theorem q7i (s : Shp) (n : Int) (hd : 1 ≤ s.data) (hd2 : s.data ≤ 3) (hn : 0 ≤ n) (hn2 : n ≤ 1000000000) (w : World) :
  Calls Tryz.prog 249 #[.agg s.cells, .int .i64 n] w fun e w' => e = .returned (.int .i64 ((n + 4 * s.data - 1) / (4 * s.data))) ∧ Chg [] w w' := by
 have HW := hid (q8h s hd hd2)
 obtain ⟨g, c, d, p, r', q, b, u, t⟩ := s
 simp only [Shp.cells] at *
 have h : d = 1 ∨ d = 2 ∨ d = 3 := by omega
 clear hd hd2
 rcases h with rfl | rfl | rfl
 all_goals
  go_enter Tryz.func249, Tryz.ntmps249
  go_wp2_with fail
  go_region_law (go_simp; go_at_call 194; refine (HW.out _).mono ?_; rintro e w' ⟨rfl, rfl⟩)
  all_goals (go_wp2; go_ret)
  all_goals refine ⟨q0i ?_, by repeat (first | exact Chg.refl _ _ | refine Chg.alloc ?_ _ | refine Chg.drewN ?_ _ | refine Chg.drew ?_)⟩
  all_goals (first | rw [q6k n 4 (by omega) (by omega) (by omega) (by omega)] | rw [q6k n 8 (by omega) (by omega) (by omega) (by omega)] | rw [q6k n 12 (by omega) (by omega) (by omega) (by omega)])
  all_goals rfl
theorem partsV_cases (d n : Int) (h : 1 ≤ d) (h2 : d ≤ 3) : q0s d n = (0, 6) ∨ q0s d n = (0, 2) ∨ (q0s d n = ((n + 4 * d - 1) / (4 * d), 0) ∧ 1 ≤ n ∧ n ≤ 36) := by
 unfold q0s; split
 ·exact .inl rfl
 ·split
  ·exact .inr (.inl rfl)
  ·exact .inr (.inr ⟨rfl, by omega, by omega⟩)
/-! ### HomeOf -/
theorem NewRes.store {L : Lay UInt8} {r : Int × List UInt8} {xs : List UInt8} {w wr w2 : World} {o : Obj} {a : Option Addr} {cap : Nat} {fp : List Nat} (hr : r = (0, xs)) (hs : L.sl wr a xs.length cap xs fp)
  (hf : q1p (w.alloc o).heap.size wr fp) (hc : Chg [] (w.alloc o) wr) (h2 : ∃ v u, w2 = (wr.setCell ⟨w.heap.size, 0, none⟩ v).setCell ⟨w.heap.size, 1, none⟩ u) :
  NewRes L r w (.returned (.agg #[.int .i64 0, .slice a xs.length cap])) w2 := by
 obtain ⟨v, u, rfl⟩ := h2
 have hc2 : Chg [w.heap.size] wr ((wr.setCell ⟨w.heap.size, 0, none⟩ v).setCell ⟨w.heap.size, 1, none⟩ u) := ((Chg.refl _ wr).setCell _ _ (.inl (by simp))).setCell _ _ (.inl (by simp))
 have hfw : ∀ b ∈ fp, b ∉ [w.heap.size] := fun b hb hb' => by have := (hf.2 b hb).1; simp at this hb'; omega
 rw [hr]
 exact ⟨a, cap, fp, rfl, L.sl_chg hs hc2 hfw, (hf.mono (by simp)).chg hc2, (((Chg.refl [] w).alloc _).trans0 hc).trans hc2 (fun x hx => .inr (by simp at hx; omega))⟩
def Alike (xs : List (List UInt8)) : Prop := ∀ x ∈ xs, x.length = (xs.headD []).length
instance (xs : List (List UInt8)) : Decidable (Alike xs) := by unfold Alike; infer_instance
/-! ### the sum -/
theorem q3z.free {w : World} {b : Nat} (h : q3z w b) : ∀ j, w.frozen? ⟨b, j, none⟩ = false := by obtain ⟨cur, E, h⟩ := h; exact q0c h

end Go.Proofs.YtphmpimgbmedbaaGreat
