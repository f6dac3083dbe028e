/- Several texts in one. -/
import Derived.Test.YthhaednigdgclaaGreatYaa
import Derived.Test.YthhaednigdgclaaGreatRows
import Derived.Laws.BytesArg
import Derived.Deep.RegionLaw
open Go.Value renaming int → I, slice → Aa, string → Ab, bool → Ac
open Go.IntKind renaming i64 → J
open Go.Obj renaming cells → Ad
open Nat renaming mul_le_mul_right → AJ, add_mul → AO, one_mul → AQ, le_trans → AX, le_refl → Bh, min_eq_left → Bu, zero_mul → Bv, lt_or_gt_of_ne → BI, le_max_left → BR, sub_self → BV, add_comm → BX, sub_mul → BZ
open List renaming length_take → AK, mem_append → AL, take_of_length_le → AP, getElem?_take_of_lt → AR, getElem?_drop → AU, mem_map → AV, take_append_of_le_length → AW, length_drop → AZ, drop_append_of_le_length → Ba, getElem?_append_right → Bb, nodup_append → Bc, getElem?_eq_some_iff → Be, getElem?_eq_getElem → Bf, mem_cons → Bg, eq_nil_of_length_eq_zero → Bi, getElem?_eq_none → Bj, singleton_append → Bl, map_toArray → Bn, map_cons → Bo, length_append → Bp, drop_take → Br, drop_drop → Bt, map_nil → Bw, getElem_of_mem → Bz, getElem?_map → B7, append_assoc → BA, getElem?_append_left → BB, nil_append → BC, nodup_cons → BD, take_take → BG, mem_of_getElem? → BH, mem_cons_self → BJ, mem_singleton → BK, getElem?_take → BL, ext_getElem? → BM, size_toArray → BO, length → BP, take_zero → BS, drop_zero → BU, map_map → BW
open Array renaming length_toList → AY, toList_append → B5, getElem?_toList → BF, size_append → BN
open Option renaming toList_some → Bq, map_some → BQ
set_option maxRecDepth 100000
set_option maxHeartbeats 8000000
namespace Go.Proofs.YthhaednigdgclaaGreat
open Go.RowKit
open Go.Lib (hid)
theorem ElT.one {T : List TRow} {k : Kd} {cs : List Value} (h : ElT T k cs) : ∀ u ∈ cs, u.oneCell' = true := by
 have hv : ∀ {k : Kd} {v : Value}, SlT T k v → v.oneCell' = true := fun ⟨_, _, _, e, _⟩ => by rw [e]; rfl
 intro u hu;cases k with
 | bt => obtain ⟨_, rfl⟩ := h; simp at hu; subst hu; rfl
 | it => obtain ⟨_, rfl, _⟩ := h; simp at hu; subst hu; rfl
 | bk => obtain ⟨_, v, rfl, _, h2⟩ := h; simp at hu; rcases hu with rfl | rfl; rfl; exact hv h2
 | dr R => obtain ⟨_, _, _, _, rfl, h2, _⟩ := h; simp at hu; rcases hu with rfl | rfl; rfl; exact hv h2
 | ds D R => obtain ⟨_, _, _, rfl, h2, _⟩ := h; simp at hu; subst hu; exact hv h2
 | rc =>
  obtain ⟨_, _, _, _, _, _, v6, v7, v8, rfl, _, _, h6, h7, h8⟩ := h;simp only [Bg, List.not_mem_nil, or_false] at hu;rcases hu with rfl | rfl | rfl | rfl | rfl | rfl | rfl | rfl | rfl
  iterate 6 rfl
  ·exact hv h6
  ·exact hv h7
  ·exact hv h8
 | tp => obtain ⟨_, v, rfl, h2⟩ := h; simp at hu; rcases hu with rfl | rfl; rfl; exact hv h2
theorem Well.lt {T : List TRow} {w : World} (h : Well T w) {r : TRow} (hr : r ∈ T) : r.b < w.heap.size := by
 obtain ⟨cur, h1, -⟩ := h.row r hr;exact (Array.getElem?_eq_some_iff.1 h1).1
theorem Well.uniq {T : List TRow} {w : World} (h : Well T w) {r q : TRow} (hr : r ∈ T) (hq : q ∈ T) (e : q.b = r.b) : q = r := by
 have hn := h.nd;obtain ⟨i, hi, rfl⟩ := Bz hr;obtain ⟨j, hj, rfl⟩ := Bz hq;have : j = i := (List.getElem?_inj (l := T.map (·.b)) (by simpa using hj) hn).1 (by rw [B7, B7, Bf hj, Bf hi, BQ, BQ, e]);subst this; rfl
theorem Well.chg {T : List TRow} {w w' : World} {S : List Nat} (h : Well T w) (hc : Chg S w w') (hS : ∀ r ∈ T, r.b ∉ S) : Well T w' :=
 ⟨h.nd, fun r hr => by
  obtain ⟨cur, h1, h2⟩ := h.row r hr;exact ⟨cur, hc.keepb h1 (hS r hr), h2⟩⟩
theorem Well.ext {T : List TRow} {w w' : World} (h : Well T w) (hc : Chg [] w w') : Well T w' := h.chg hc (by simp)
theorem Well.put {T : List TRow} {w w' : World} (h : Well T w) {r : TRow} (hr : r ∈ T) {cur : Array Value} (hc : Chg [r.b] w w') (hb : w'.heap[r.b]? = some (Ad cur r.k.E (0, 0))) (hs : cur.size = r.z * r.k.n)
  (Am : ∀ i, i < r.m → ElT T r.k ((cur.toList.drop (i * r.k.n)).take r.k.n)) : Well T w' :=
 ⟨h.nd, fun q hq => by
  by_cases e : q.b = r.b
  ·obtain rfl := h.uniq hr hq e;obtain ⟨_, _, _, h3, _⟩ := h.row q hr;exact ⟨cur, hb, hs, h3, Am⟩
  ·obtain ⟨cur, h1, h2⟩ := h.row q hq;exact ⟨cur, hc.keepb h1 (by simpa using e), h2⟩⟩
theorem chunk_put {l vs : List Value} {n i : Nat} (hv : vs.length = n) (hi : i * n + n ≤ l.length) (p : Nat) : ((l.take (i * n) ++ (vs ++ l.drop (i * n + n))).drop (p * n)).take n = if p = i then vs else (l.drop (p * n)).take n := by
 by_cases e : p = i
 ·subst e;rw [if_pos rfl, Ba (by rw [AK]; omega), Br, BV, BS, BC, AW (by omega), AP (by omega)]
 ·rw [if_neg e];apply BM;intro t;by_cases ht : t < n
  ·rw [AR ht, AR ht, AU, AU];rcases BI e with h | h
   ·have : p * n + n ≤ i * n := by
     have := AJ n (show p + 1 ≤ i by omega)
     rwa [AO, AQ] at this
    rw [BB (by rw [AK]; omega), AR (by omega)]
   ·have : i * n + n ≤ p * n := by
     have := AJ n (show i + 1 ≤ p by omega)
     rwa [AO, AQ] at this
    rw [Bb (by rw [AK]; omega), AK, Bu (by omega), Bb (by omega), AU, hv]
    congr 1; omega
  ·rw [Bj (by rw [AK]; omega), Bj (by rw [AK]; omega)]
theorem Well.put1 {T : List TRow} {w : World} (h : Well T w) {r : TRow} (hr : r ∈ T) {i : Nat} (hi : i < r.m) {cs : List Value} (he : ElT T r.k cs) : Well T (w.setCells r.b (i * r.k.n) cs) ∧ Chg [r.b] w (w.setCells r.b (i * r.k.n) cs) := by
 obtain ⟨cur, h1, h2, h3, h4⟩ := h.row r hr;have hl := he.len;have hsz : i * r.k.n + r.k.n ≤ cur.size := by
  have := AJ r.k.n (show i + 1 ≤ r.z by omega);rw [AO, AQ] at this;omega
 have hc : Chg [r.b] w (w.setCells r.b (i * r.k.n) cs) := Chg.setCells (.inl (by simp)) cs _ (Chg.refl _ w);have hb := q3k cs (i * r.k.n) w cur h1;have ht := q4u cs (i * r.k.n) cur (by rw [hl]; exact hsz);refine ⟨h.put hr hc hb ?_ (fun p hp => ?_), hc⟩
 ·have := congrArg BP ht;simp only [AY, Bp, AK, AZ] at this;omega
 ·rw [ht, hl, chunk_put hl (by rw [AY]; exact hsz)]
  split
  ·exact he
  ·exact h4 p hp
theorem Well.push {T : List TRow} {w : World} (h : Well T w) (k : Kd) (m z : Nat) (cur : Array Value) (hm : m ≤ z) (hs : cur.size = z * k.n) (Am : ∀ i, i < m → ElT T k ((cur.toList.drop (i * k.n)).take k.n)) :
  Well (⟨w.heap.size, k, m, z⟩ :: T) (w.alloc (Ad cur k.E)) ∧ SubT T (⟨w.heap.size, k, m, z⟩ :: T) := by
 have Ag := SubT.cons T ⟨w.heap.size, k, m, z⟩;refine ⟨⟨?_, fun r hr => ?_⟩, Ag⟩
 ·rw [Bo, BD];refine ⟨fun hm => ?_, h.nd⟩;obtain ⟨r, hr, e⟩ := AV.1 hm;have := h.lt hr;simp only at e;omega
 ·rcases Bg.1 hr with rfl | hr
  ·exact ⟨cur, q0k w _, hs, hm, fun i hi => (Am i hi).sub Ag⟩
  ·obtain ⟨c, h1, h2, h3, h4⟩ := h.row r hr;exact ⟨c, q0b h1 _, h2, h3, fun i hi => (h4 i hi).sub Ag⟩
def growT (T : List TRow) (b m : Nat) : List TRow := T.map (fun q => if q.b = b then { q with m := m } else q)
theorem growT_sub {T : List TRow} {b m : Nat} (h : ∀ q ∈ T, q.b = b → q.m ≤ m) : SubT T (growT T b m) := fun q hq => by
 refine ⟨_, AV.2 ⟨q, hq, rfl⟩, ?_⟩;by_cases e : q.b = b
 ·rw [if_pos e]; exact ⟨rfl, rfl, h q hq e, rfl⟩
 ·rw [if_neg e]; exact ⟨rfl, rfl, Bh _, rfl⟩
theorem growT_b (T : List TRow) (b m : Nat) : (growT T b m).map (·.b) = T.map (·.b) := by
 unfold growT;rw [BW];apply List.map_congr_left;intro q _;show (if q.b = b then _ else q : TRow).b = q.b
 split <;> rfl
theorem Well.grow1 {T : List TRow} {w : World} (h : Well T w) {r : TRow} (hr : r ∈ T) {i : Nat} (hi : i ≤ r.m) (hz : i < r.z) {cs : List Value} (he : ElT T r.k cs) :
  ∃ m', r.m ≤ m' ∧ i < m' ∧ Well (growT T r.b m') (w.setCells r.b (i * r.k.n) cs) ∧ SubT T (growT T r.b m') ∧ Chg [r.b] w (w.setCells r.b (i * r.k.n) cs) := by
 obtain ⟨cur, h1, h2, h3, h4⟩ := h.row r hr;have hl := he.len;have hsz : i * r.k.n + r.k.n ≤ cur.size := by
  have := AJ r.k.n (show i + 1 ≤ r.z by omega);rw [AO, AQ] at this;omega
 have hc : Chg [r.b] w (w.setCells r.b (i * r.k.n) cs) := Chg.setCells (.inl (by simp)) cs _ (Chg.refl _ w);have hb := q3k cs (i * r.k.n) w cur h1;have ht := q4u cs (i * r.k.n) cur (by rw [hl]; exact hsz);have hcs : (setRow cur (i * r.k.n) cs).size = r.z * r.k.n := by
  have := congrArg BP ht;simp only [AY, Bp, AK, AZ] at this;omega
 refine ⟨max r.m (i + 1), BR _ _, by omega, ?_⟩;have Ag : SubT T (growT T r.b (max r.m (i + 1))) := growT_sub (fun q hq e => by rw [h.uniq hr hq e]; exact BR _ _);refine ⟨⟨by rw [growT_b]; exact h.nd, fun q hq => ?_⟩, Ag, hc⟩;obtain ⟨p, hp, rfl⟩ := AV.1 hq;by_cases e : p.b = r.b
 ·obtain rfl := h.uniq hr hp e;rw [if_pos rfl];refine ⟨_, hb, hcs, by show max p.m (i + 1) ≤ p.z; omega, fun t htm => ?_⟩;show ElT _ p.k _;rw [ht, hl, chunk_put hl (by rw [AY]; exact hsz)]
  split
  ·exact he.sub Ag
  ·exact (h4 t (by have : t < max p.m (i + 1) := htm; omega)).sub Ag
 ·rw [if_neg e];obtain ⟨c, k1, k2, k3, k4⟩ := h.row p hp;exact ⟨c, hc.keepb k1 (by simpa using e), k2, k3, fun t ht => (k4 t ht).sub Ag⟩
theorem chunk_all {T : List TRow} {k : Kd} {A B : List Value} {l : Nat} (hA : A.length = l * k.n) (h : ∀ i, i < l → ElT T k ((A.drop (i * k.n)).take k.n)) {cs : List Value} (he : ElT T k cs) : ∀ i, i < l + 1 → ElT T k (((A ++ (cs ++ B)).drop (i * k.n)).take k.n) := by
 intro i hi;have hn := k.npos;by_cases e : i = l
 ·subst e;rw [Ba (by omega), List.drop_of_length_le (by omega), BC, AW (by rw [he.len]; exact Bh _), AP (by rw [he.len]; exact Bh _)];exact he
 ·have : i * k.n + k.n ≤ l * k.n := by
   have := AJ k.n (show i + 1 ≤ l by omega)
   rwa [AO, AQ] at this
  rw [Ba (by omega), AW (by rw [AZ]; omega)];exact h i (by omega)
def ofA : Option Addr → List Nat | none => [] | some ad => [ad.block]
theorem Well.append {P : Program} {T : List TRow} {w : World} (h : Well T w) {k : Kd} {bytes : Nat} (t ty : TypeId) (ht : P.underlying t = some (.slice k.E)) (K : Kind P k.E k.n bytes) (Ai : 1000 * bytes ≤ 140737488355328) {a : Option Addr} {l c : Nat} (hv : SlT T k (Aa a l c)) {cs : List Value} (he : ElT T k cs) (hl : l + 1 ≤ k.max)
  (ad : Addr) (cn : Nat) (hnews : ∀ j u, cs[j]? = some u → w.cell? (ad.add j) = some u) :
  ∃ a' c' w' T', (Builtin.append_ #[t, t] ty #[Aa a l c, Aa (some ad) 1 cn]).run P w = .ok (Aa a' (l + 1) c') w' ∧ Well T' w' ∧ SubT T T' ∧ SlT T' k (Aa a' (l + 1) c') ∧ Chg (T.map (·.b)) w w' ∧ (∀ q ∈ T', q.b ∈ T.map (·.b) ∨ w.heap.size ≤ q.b) ∧ Chg (ofA a) w w' := by
 have hkm : k.max ≤ 450 := by cases k <;> simp [Kd.max]
 have hn := k.npos;have Ao := he.len;have A9 : cs.length = 1 * K.i.size := by rw [K.size, Ao, AQ]
 have hb1 : (l + 1) * K.i.bytes ≤ 140737488355328 := by rw [K.byt]; exact AX (AJ _ (by omega)) Ai
 have AC : l + 1 ≤ maxLen := by simp only [maxLen]; omega
 obtain ⟨a0, l0, c0, e, h1, h2, h3, h4⟩ := hv;cases e;rcases h4 with ⟨rfl, rfl⟩ | ⟨r, hr, rfl, j, rfl, h5, h6⟩
 ·obtain rfl : l = 0 := by omega
  have hr := run_append_nil (P := P) w t ty k.E K.i K.z ht K.info K.zero ad 1 cn cs A9 hnews (by omega) (by omega) (by omega);have Al := grownCap_ge w 1 0 k.E;have hle := grownCap_le_maxLen w 1 0 k.E (by simp only [maxLen]; omega);have hp := (h.ext (Chg.refl [] w).drew).push k 1 (grownCap w 1 0 k.E) (cs.toArray ++ Builtin.zeroCells K.z.cells (grownCap w 1 0 k.E - 1)) Al (by
   simp only [BN, BO, size_zeroCells, K.zc, Ao];rw [BZ, AQ];have := AJ k.n Al;omega) (fun i hi => by
   obtain rfl : i = 0 := by omega
   rw [Bv, BU, B5, AW (by simp [Ao]), AP (by simp [Ao])];exact he)
  refine ⟨_, _, _, _, hr, hp.1, hp.2, ⟨_, _, _, rfl, hl, Al, hle, .inr ⟨_, BJ, rfl, 0, by rw [Bv]; rfl, by simp, by simp⟩⟩, ((Chg.refl _ w).drew).alloc _, fun q hq => ?_, ((Chg.refl _ w).drew).alloc _⟩;rcases Bg.1 hq with rfl | hq
  ·exact .inr (Bh _)
  ·exact .inl (AV.2 ⟨q, hq, rfl⟩)
 ·obtain ⟨cur, g1, g2, g3, g4⟩ := h.row r hr;by_cases hroom : l + 1 ≤ c
  ·have hsz : (j + l) * r.k.n + r.k.n ≤ cur.size := by
    have := AJ r.k.n (show j + l + 1 ≤ r.z by omega);rw [AO, AQ] at this;omega
   have Aq : j * r.k.n + l * K.i.size = (j + l) * r.k.n := by rw [K.size, AO]
   have hr1 := run_append_room_cells (P := P) (w := w) t ty r.k.E K.i ht K.info r.b (j * r.k.n) l c ad 1 cn cs A9 hnews he.one hroom (fun q hq => by
    rw [Aq, cellsOf g1, Array.getElem?_eq_getElem (by omega)]; rfl) (fun q _ => q0j g1 _)
   rw [Aq] at hr1;obtain ⟨m', m1, m2, m3, m4, m5⟩ := h.grow1 hr (i := j + l) h5 (by omega) he;refine ⟨_, _, _, _, hr1, m3, m4, ⟨_, _, _, rfl, hl, hroom, h3, .inr ⟨{ r with m := m' }, AV.2 ⟨r, hr, by rw [if_pos rfl]⟩, rfl, j, rfl, by show j + (l + 1) ≤ m'; omega, h6⟩⟩, m5.mono (fun x hx => .inl (by rw [BK] at hx; rw [hx]; exact AV.2 ⟨r, hr, rfl⟩)), fun q hq => .inl ?_, m5⟩;have hm : q.b ∈ (growT T r.b m').map (·.b) := AV.2 ⟨q, hq, rfl⟩
   rwa [growT_b] at hm
  ·have hlc : l = c := by omega
   have hsz : (j + l) * r.k.n ≤ cur.size := by
    rw [g2]; exact AJ _ (by omega)
   rw [AO] at hsz;have AB : ((cur.toList.drop (j * r.k.n)).take (l * r.k.n)).length = l * r.k.n := by rw [AK, AZ, AY]; omega
   have holds : ∀ q u, ((cur.toList.drop (j * r.k.n)).take (l * r.k.n))[q]? = some u → w.cell? ((⟨r.b, j * r.k.n, none⟩ : Addr).add q) = some u := by
    intro q u hu;rw [Addr.add_lit, cellsOf g1];rw [BL] at hu
    split at hu
    ·rw [AU, BF] at hu; exact hu
    ·cases hu
   have hr1 := run_append_grow (P := P) w t ty r.k.E K.i K.z ht K.info K.zero ⟨r.b, j * r.k.n, none⟩ l c _ (by rw [K.size]; exact AB) holds ad 1 cn cs A9 hnews (by omega) (by omega) (growslice_fits (by omega) hb1);have Al := grownCap_ge w (l + 1) c r.k.E;have hle := grownCap_le_maxLen w (l + 1) c r.k.E AC;have Am : ∀ i, i < l → ElT T r.k ((((cur.toList.drop (j * r.k.n)).take (l * r.k.n)).drop (i * r.k.n)).take r.k.n) := fun i hi => by
    have := g4 (j + i) (by omega);have hb : i * r.k.n + r.k.n ≤ l * r.k.n := by
     have := AJ r.k.n (show i + 1 ≤ l by omega)
     rwa [AO, AQ] at this
    rw [Br, BG, Bu (by omega), Bt, ← AO];exact this
   have hp := (h.ext (Chg.refl [] w).drew).push r.k (l + 1) (grownCap w (l + 1) c r.k.E) (((cur.toList.drop (j * r.k.n)).take (l * r.k.n)).toArray ++ cs.toArray ++ Builtin.zeroCells K.z.cells (grownCap w (l + 1) c r.k.E - (l + 1))) Al (by
    simp only [BN, BO, size_zeroCells, K.zc, Ao, AB];rw [BZ, AO, AQ];have := AJ r.k.n Al;rw [AO, AQ] at this;omega) (fun i hi => by
    rw [B5, B5, BA];exact chunk_all AB Am he i hi)
   refine ⟨_, _, _, _, hr1, hp.1, hp.2, ⟨_, _, _, rfl, hl, Al, hle, .inr ⟨_, BJ, rfl, 0, by rw [Bv]; rfl, by simp, by simp⟩⟩, ((Chg.refl _ w).drew).alloc _, fun q hq => ?_, ((Chg.refl _ w).drew).alloc _⟩;rcases Bg.1 hq with rfl | hq
   ·exact .inr (Bh _)
   ·exact .inl (AV.2 ⟨q, hq, rfl⟩)
theorem q6u {P : Program} {T : List TRow} {w : World} {ops : Array Oper} {rest : List Oper} {o : Oper} {ac : Act} {Q : Exit → Act → World → Prop} (hgd : o.guard = none) (s x : Operand) (t : TypeId)
  (hop : o.op = .call { callee := .builtin .append, args := #[s, x], argTypes := #[t, t] }) (h : Well T w) {k : Kd} {bytes : Nat} (ht : P.underlying t = some (.slice k.E)) (K : Kind P k.E k.n bytes) (Ai : 1000 * bytes ≤ 140737488355328) {a : Option Addr} {l c : Nat} (hs : ac.eval s = Aa a l c) (hv : SlT T k (Aa a l c)) {cs : List Value} (he : ElT T k cs) (hl : l + 1 ≤ k.max)
  (ad : Addr) (cn : Nat) (hx : ac.eval x = Aa (some ad) 1 cn) (hnews : ∀ j u, cs[j]? = some u → w.cell? (ad.add j) = some u)
  (hk : ∀ a' c' w' T', Well T' w' → SubT T T' → SlT T' k (Aa a' (l + 1) c') → Chg (T.map (·.b)) w w' → (∀ q ∈ T', q.b ∈ T.map (·.b) ∨ w.heap.size ≤ q.b) → wpList P ops Q rest (ac.put o.dst (Aa a' (l + 1) c')) w') : wpList P ops Q (o :: rest) ac w := by
 refine wpList_plain hgd fun _ hK => ?_
 obtain ⟨a', c', w', T', hr, h1, h2, h3, h4, h5, -⟩ := h.append t o.type ht K Ai hv he hl ad cn hnews;unfold Oper.wp execOp;simp only [hop, resolve, invoke, builtin, Sem.run_bind, Sem.run_pure, Result.andThen_ok, Bn, Bo, Bw, hs, hx, hr];exact hK _ _ (hk a' c' w' T' h1 h2 h3 h4 h5)
theorem q4p {P : Program} {T : List TRow} {w : World} {ops : Array Oper} {o : Oper} {ac : Act} {Kc : Act → World → Prop} {Q : Exit → Act → World → Prop} {R : Prop} (hgd : o.guard = none) (s x : Operand) (t : TypeId)
  (hop : o.op = .call { callee := .builtin .append, args := #[s, x], argTypes := #[t, t] }) (h : Well T w) {k : Kd} {bytes : Nat} (ht : P.underlying t = some (.slice k.E)) (K : Kind P k.E k.n bytes) (Ai : 1000 * bytes ≤ 140737488355328) {a : Option Addr} {l c : Nat} (hs : ac.eval s = Aa a l c) (hv : SlT T k (Aa a l c)) {cs : List Value} (he : ElT T k cs) (hl : l + 1 ≤ k.max)
  (ad : Addr) (cn : Nat) (hx : ac.eval x = Aa (some ad) 1 cn) (hnews : ∀ j u, cs[j]? = some u → w.cell? (ad.add j) = some u)
  (hk : ∀ a' c' w' T', Well T' w' → SubT T T' → SlT T' k (Aa a' (l + 1) c') → Chg (T.map (·.b)) w w' → (∀ q ∈ T', q.b ∈ T.map (·.b) ∨ w.heap.size ≤ q.b) → Kc (ac.put o.dst (Aa a' (l + 1) c')) w') :
  if Region.wanted o (yielded ops ac.tmps) = true then Oper.wp P o ac w Kc Q else R := by
 have hw : Region.wanted o (yielded ops ac.tmps) = true := by simp [Region.wanted, hgd]
 rw [if_pos hw];obtain ⟨a', c', w', T', hr, h1, h2, h3, h4, h5, -⟩ := h.append t o.type ht K Ai hv he hl ad cn hnews;unfold Oper.wp execOp;simp only [hop, resolve, invoke, builtin, Sem.run_bind, Sem.run_pure, Result.andThen_ok, Bn, Bo, Bw, hs, hx, hr];exact hk a' c' w' T' h1 h2 h3 h4 h5
theorem step_tapp2 {P : Program} {T : List TRow} {w : World} {ops : Array Oper} {o : Oper} {ac : Act} {Kc : Act → World → Prop} {Q : Exit → Act → World → Prop} {R : Prop} (hgd : o.guard = none) (s x : Operand) (t : TypeId)
  (hop : o.op = .call { callee := .builtin .append, args := #[s, x], argTypes := #[t, t] }) (h : Well T w) {k : Kd} {bytes : Nat} (ht : P.underlying t = some (.slice k.E)) (K : Kind P k.E k.n bytes) (Ai : 1000 * bytes ≤ 140737488355328) {a : Option Addr} {l c : Nat} (hs : ac.eval s = Aa a l c) (hv : SlT T k (Aa a l c)) {cs : List Value} (he : ElT T k cs) (hl : l + 1 ≤ k.max)
  (ad : Addr) (cn : Nat) (hx : ac.eval x = Aa (some ad) 1 cn) (hnews : ∀ j u, cs[j]? = some u → w.cell? (ad.add j) = some u)
  (hk : ∀ a' c' w' T', Well T' w' → SubT T T' → SlT T' k (Aa a' (l + 1) c') → Chg (T.map (·.b)) w w' → (∀ q ∈ T', q.b ∈ T.map (·.b) ∨ w.heap.size ≤ q.b) → Chg (ofA a) w w' → Kc (ac.put o.dst (Aa a' (l + 1) c')) w') :
  if Region.wanted o (yielded ops ac.tmps) = true then Oper.wp P o ac w Kc Q else R := by
 have hw : Region.wanted o (yielded ops ac.tmps) = true := by simp [Region.wanted, hgd]
 rw [if_pos hw];obtain ⟨a', c', w', T', hr, h1, h2, h3, h4, h5, h6⟩ := h.append t o.type ht K Ai hv he hl ad cn hnews;unfold Oper.wp execOp;simp only [hop, resolve, invoke, builtin, Sem.run_bind, Sem.run_pure, Result.andThen_ok, Bn, Bo, Bw, hs, hx, hr];exact hk a' c' w' T' h1 h2 h3 h4 h5 h6
structure TyStep (T : List TRow) (w : World) (T' : List TRow) (w' : World) : Prop where
 well : Well T' w'
 sub : SubT T T'
 chg : Chg (T.map (·.b)) w w'
 new : ∀ q ∈ T', q.b ∈ T.map (·.b) ∨ w.heap.size ≤ q.b
theorem TyStep.refl {T : List TRow} {w : World} (h : Well T w) : TyStep T w T w := ⟨h, SubT.refl T, Chg.refl _ w, fun q hq => .inl (AV.2 ⟨q, hq, rfl⟩)⟩
theorem TyStep.trans {A B C : List TRow} {w w1 w2 : World} (h : TyStep A w B w1) (k : TyStep B w1 C w2) : TyStep A w C w2 := by
 have hb : ∀ x ∈ B.map (·.b), x ∈ A.map (·.b) ∨ w.heap.size ≤ x := fun x hx => by
  obtain ⟨q, hq, rfl⟩ := AV.1 hx;exact h.new q hq
 refine ⟨k.well, h.sub.trans k.sub, h.chg.trans k.chg hb, fun q hq => ?_⟩;rcases k.new q hq with h1 | h1
 ·exact hb _ h1
 ·exact .inr (AX h.chg.size h1)
theorem TyStep.chg0 {A B : List TRow} {w w1 w2 : World} {S : List Nat} (h : TyStep A w B w1) (hc : Chg S w1 w2) (hS : ∀ x ∈ S, w.heap.size ≤ x) (hT : ∀ r ∈ B, r.b ∉ S) : TyStep A w B w2 :=
 ⟨h.well.chg hc hT, h.sub, h.chg.trans hc (fun x hx => .inr (hS x hx)), h.new⟩
theorem TyStep.ext {A B : List TRow} {w w1 w2 : World} (h : TyStep A w B w1) (hc : Chg [] w1 w2) : TyStep A w B w2 := h.chg0 hc (by simp) (by simp)
theorem TyStep.put1 {A B : List TRow} {w w1 : World} (h : TyStep A w B w1) {r : TRow} (hr : r ∈ B) {i : Nat} (hi : i < r.m) {cs : List Value} (he : ElT B r.k cs) : TyStep A w B (w1.setCells r.b (i * r.k.n) cs) := by
 obtain ⟨h1, h2⟩ := h.well.put1 hr hi he;exact h.trans ⟨h1, SubT.refl B, h2.mono (fun x hx => .inl (by rw [BK] at hx; rw [hx]; exact AV.2 ⟨r, hr, rfl⟩)), fun q hq => .inl (AV.2 ⟨q, hq, rfl⟩)⟩
theorem TyStep.push {A B : List TRow} {w w1 : World} (h : TyStep A w B w1) (k : Kd) (m z : Nat) (cur : Array Value) (hm : m ≤ z) (hs : cur.size = z * k.n) (Am : ∀ i, i < m → ElT B k ((cur.toList.drop (i * k.n)).take k.n)) :
  TyStep A w (⟨w1.heap.size, k, m, z⟩ :: B) (w1.alloc (Ad cur k.E)) := by
 obtain ⟨h1, h2⟩ := h.well.push k m z cur hm hs Am;refine h.trans ⟨h1, h2, (Chg.refl _ w1).alloc _, fun q hq => ?_⟩;rcases Bg.1 hq with rfl | hq
 ·exact .inr (Bh _)
 ·exact .inl (AV.2 ⟨q, hq, rfl⟩)
theorem SlT.at {T : List TRow} {w : World} (h : Well T w) {k : Kd} {a : Option Addr} {l c : Nat} (hv : SlT T k (Aa a l c)) {i : Nat} (hi : i < l) :
  ∃ (b off : Nat) (cs : List Value), a = some ⟨b, off, none⟩ ∧ ElT T k cs ∧ (∀ j u, cs[j]? = some u → w.cell? ⟨b, off + i * k.n + j, none⟩ = some u) ∧ (∀ j, w.frozen? ⟨b, j, none⟩ = false) ∧ b < w.heap.size ∧ ∃ r ∈ T, r.k = k ∧ r.b = b ∧ ∃ p, p < r.m ∧ off + i * k.n = p * k.n := by
 obtain ⟨a0, l0, c0, e, h1, h2, h3, h4⟩ := hv;cases e;rcases h4 with ⟨rfl, rfl⟩ | ⟨r, hr, rfl, j, rfl, h5, h6⟩
 ·omega
 ·obtain ⟨cur, g1, g2, g3, g4⟩ := h.row r hr;refine ⟨r.b, j * r.k.n, _, rfl, g4 (j + i) (by omega), fun q u hu => ?_, q0j g1, h.lt hr, r, hr, rfl, rfl, j + i, by omega, by rw [AO]⟩;rw [cellsOf g1, ← AO];rw [BL] at hu
  split at hu
  ·rw [AU, BF] at hu; exact hu
  ·cases hu
end Go.Proofs.YthhaednigdgclaaGreat
namespace Go.Proofs.YthhaednigdgclaaGreat
open Go.RowKit
open Go.Lib (hid)
theorem q1r.lts {B : Nat} {w : World} {fp : List Nat} (h : q1r B w fp) : ∀ b ∈ fp, b < w.heap.size := fun b hb => (h.2 b hb).2.lt
theorem Lay.os_loose {α : Type} (L : Lay α) {E : TypeId} {w : World} {v : Value} {xs : List α} {h : Option Nat} {Ae : List Nat} (ho : L.os E w v xs h Ae) : ∀ g, h = some g → q4j w g := by
 rcases ho with ⟨_, _, rfl, _⟩ | ⟨g, cap, cur, _, rfl, hg, _⟩
 ·intro g hg; cases hg
 ·intro g' hg'; cases hg'; exact ⟨_, _, hg⟩
theorem q1r.grow {B : Nat} {wr w3 w4 : World} {h h' : Option Nat} {Ae f : List Nat} (fr : q1r B wr (h.toList ++ Ae)) (hB : B ≤ wr.heap.size) (ff : q1r wr.heap.size w3 f) (c3 : Chg [] wr w3)
  (hh : h' = h ∨ h' = some w3.heap.size) (c4 : Chg h.toList w3 w4) (hl : ∀ g, h' = some g → q4j w4 g) : q1r B w4 (h'.toList ++ (Ae ++ f)) := by
 have f3 := fr.chg c3;have f4 := f3.chg c4;have g4 := ff.chg c4;have nd := Bc.1 fr.1;have dj : ∀ a ∈ h.toList ++ Ae, ∀ b ∈ f, a ≠ b := fun a ha b hb e => by have h1 := fr.lts a ha; have h2 := (ff.2 b hb).1; omega
 rcases hh with rfl | rfl
 ·rw [← BA];exact ⟨Bc.2 ⟨fr.1, ff.1, dj⟩, fun b hb => by
   rcases AL.1 hb with hb | hb
   ·exact f4.2 b hb
   ·exact ⟨AX hB (g4.2 b hb).1, (g4.2 b hb).2⟩⟩
 ·refine ⟨?_, fun b hb => ?_⟩
  ·rw [Bq, Bl, BD];refine ⟨fun hb => ?_, Bc.2 ⟨nd.2.1, ff.1, fun a ha b hb => dj a (AL.2 (.inr ha)) b hb⟩⟩;rcases AL.1 hb with hb | hb
   ·have := f3.lts _ (AL.2 (.inr hb)); omega
   ·have := ff.lts _ hb; omega
  ·rw [Bq, Bl, Bg] at hb;rcases hb with rfl | hb
   ·exact ⟨AX hB c3.size, hl _ rfl⟩
   ·rcases AL.1 hb with hb | hb
    ·exact f4.2 b (AL.2 (.inr hb))
    ·exact ⟨AX hB (g4.2 b hb).1, (g4.2 b hb).2⟩
def Grow {α : Type} (L : Lay α) (E : TypeId) (w wr : World) (v : Value) (xs : List α) : Prop :=
 ∃ h Ae, L.os E wr v xs h Ae ∧ q1r w.heap.size wr (h.toList ++ Ae) ∧ Chg [] w wr
section
variable {α : Type} {L : Lay α} {E : TypeId} {w wr w' : World} {v : Value} {xs : List α}
theorem Grow.nil (hc : Chg [] w wr) : Grow L E w wr (Aa none 0 0) [] := ⟨none, [], Lay.os_nil _ _ _, q1r.nil _ _, hc⟩
theorem Grow.made (hc : Chg [] w wr) : Grow L E w (wr.alloc (.cells #[] E)) (Aa (some ⟨wr.heap.size, 0, none⟩) 0 0) [] :=
 ⟨some wr.heap.size, [], Lay.os_made _ _ _ _ _ (by simp [maxLen]) (by simp), ⟨by simp, fun b hb => by simp at hb; subst hb; exact ⟨hc.size, _, _, q0k wr _⟩⟩, hc.alloc _⟩
theorem Grow.madeN {n : Nat} (hc : Chg [] w wr) (hn : n = wr.heap.size) : Grow L E w (wr.alloc (.cells #[] E)) (Aa (some ⟨n, 0, none⟩) 0 0) [] := by subst hn; exact Grow.made hc
theorem Grow.ext (h : Grow L E w wr v xs) (hc : Chg [] wr w') : Grow L E w w' v xs := by
 obtain ⟨hd, Ae, ho, hf, hch⟩ := h;exact ⟨hd, Ae, L.os_ext ho hc, hf.chg hc, hch.trans0 hc⟩
theorem Grow.chg (h : Grow L E w wr v xs) : Chg [] w wr := by obtain ⟨_, _, _, _, h⟩ := h; exact h
theorem Grow.new (h : Grow L E w wr v xs) : q7r L xs w (.returned v) wr := by
 obtain ⟨hd, Ae, ho, hf, hch⟩ := h;obtain ⟨a, cap, rfl, hs⟩ := L.os_sl ho;exact ⟨a, cap, _, rfl, hs, hf, hch⟩
theorem Grow.sl (h : Grow L E w wr v xs) : ∃ a cap fp, v = Aa a xs.length cap ∧ L.sl wr a xs.length cap xs fp ∧ q1r w.heap.size wr fp ∧ Chg [] w wr := by
 obtain ⟨hd, Ae, ho, hf, hch⟩ := h;obtain ⟨a, cap, rfl, hs⟩ := L.os_sl ho;exact ⟨a, cap, _, rfl, hs, hf, hch⟩
theorem Grow.since {w0 : World} (h : Grow L E w wr v xs) (hc : Chg [] w0 w) : Grow L E w0 wr v xs := by
 obtain ⟨hd, Ae, ho, hf, hch⟩ := h;exact ⟨hd, Ae, ho, hf.mono hc.size, hc.trans0 hch⟩
end
section
variable {α : Type} (L : Lay α) {P : Program} {E : TypeId} {bytes : Nat} {w wr w3 : World} {v : Value} {xs ys : List α} {f : List Nat}
theorem Lay.wp_grow {o : Oper} {a : Act} {Kc : Act → World → Prop} {Q : Exit → Act → World → Prop} (s x : Operand) (t : TypeId)
  (hop : o.op = .call { callee := .builtin .append, args := #[s, x], argTypes := #[t, t] }) (ht : P.underlying t = some (.slice E)) (K : Kind P E L.n bytes)
  (hs : a.eval s = v) (hg : Grow L E w wr v xs) (c3 : Chg [] wr w3)
  (ad : Addr) (m c : Nat) (news : List Value) (hx : a.eval x = Aa (some ad) m c) (hm : m = ys.length) (hnews : ∀ j u, news[j]? = some u → w3.cell? (ad.add j) = some u) (hall : L.all w3 news ys f) (ff : q1r wr.heap.size w3 f)
  (h63 : xs.length + ys.length ≤ maxLen) (hbytes : (xs.length + ys.length) * bytes ≤ 140737488355328)
  (hk : ∀ v' w', Grow L E w w' v' (xs ++ ys) → Kc (a.put o.dst v') w') : o.wp P a w3 Kc Q := by
 obtain ⟨h, Ae, ho, fr, hc⟩ := hg;have hlt := L.os_lt ho;refine L.wp_append s x t hop ht K hs (L.os_ext ho c3) ad m c news hx hm hnews hall (fun g hg hf => ?_) h63 hbytes (fun v' w' h' Ah Av hc' => hk _ _ ⟨h', Ae ++ f, Ah, fr.grow hc.size ff c3 Av hc' (L.os_loose Ah), ?_⟩)
 ·have := hlt.1 g hg; have := (ff.2 g hf).1; omega
 ·exact (hc.trans0 c3).trans hc' (fun b hb => .inr (by
   have := (fr.2 b (AL.2 (.inl hb))).1; exact this))
theorem Lay.wpList_grow {ops : Array Oper} {rest : List Oper} {o : Oper} {a : Act} {Q : Exit → Act → World → Prop} (hgd : o.guard = none) (s x : Operand) (t : TypeId)
  (hop : o.op = .call { callee := .builtin .append, args := #[s, x], argTypes := #[t, t] }) (ht : P.underlying t = some (.slice E)) (K : Kind P E L.n bytes)
  (hs : a.eval s = v) (hg : Grow L E w wr v xs) (c3 : Chg [] wr w3)
  (ad : Addr) (m c : Nat) (news : List Value) (hx : a.eval x = Aa (some ad) m c) (hm : m = ys.length) (hnews : ∀ j u, news[j]? = some u → w3.cell? (ad.add j) = some u) (hall : L.all w3 news ys f) (ff : q1r wr.heap.size w3 f)
  (h63 : xs.length + ys.length ≤ maxLen) (hbytes : (xs.length + ys.length) * bytes ≤ 140737488355328)
  (hk : ∀ v' w', Grow L E w w' v' (xs ++ ys) → wpList P ops Q rest (a.put o.dst v') w') : wpList P ops Q (o :: rest) a w3 :=
 wpList_plain hgd fun _ hK => L.wp_grow s x t hop ht K hs hg c3 ad m c news hx hm hnews hall ff h63 hbytes fun v' w' h1 => hK _ _ (hk v' w' h1)
end
theorem q1p (w : World) (cs : Array Value) (E : TypeId) : ∀ j u, cs.toList[j]? = some u → (w.alloc (Ad cs E)).cell? ((⟨w.heap.size, 0, none⟩ : Addr).add j) = some u := by
 intro j u hu;have AH : (⟨w.heap.size, 0, none⟩ : Addr).add j = ⟨w.heap.size, j, none⟩ := by unfold Addr.add; split <;> simp_all
 rw [AH, cellsOf (q0k w _)]
 simpa using hu
section
variable {α : Type} (L : Lay α) {P : Program} {E : TypeId} {bytes : Nat} {w wr w3 : World} {v : Value} {xs ys : List α} {h : Option Nat} {f Ae : List Nat}
theorem Lay.run_append_none (t ty : TypeId) (ht : P.underlying t = some (.slice E)) (K : Kind P E L.n bytes) (ho : L.os E w v xs h Ae) : (Builtin.append_ #[t, t] ty #[v, Aa none 0 0]).run P w = .ok v w := by
 rcases ho with ⟨rfl, _⟩ | ⟨g, cap, cur, rfl, _, _, hnc, _⟩
 ·simp [Builtin.append_, run_underlying ht, sizeOf, typeInfo, K.info, Builtin.lenOf, Builtin.firstCells]
 ·simp [Builtin.append_, run_underlying ht, sizeOf, typeInfo, K.info, Builtin.lenOf, Builtin.firstCells, hnc, storeCells]
theorem Lay.run_growS (hL : L.flat) (t ty : TypeId) (ht : P.underlying t = some (.slice E)) (K : Kind P E L.n bytes) (hg : Grow L E w wr v xs) (c3 : Chg [] wr w3)
  {a : Option Addr} {len cap : Nat} (hs : L.sl w3 a len cap ys f)
  (h63 : xs.length + ys.length ≤ maxLen) (hbytes : (xs.length + ys.length) * bytes ≤ 140737488355328) :
  ∃ v' w', (Builtin.append_ #[t, t] ty #[v, Aa a len cap]).run P w3 = .ok v' w' ∧ Grow L E w w' v' (xs ++ ys) := by
 obtain ⟨h, Ae, ho, fr, hc⟩ := hg;cases a with
 | none =>
  have h0 : cap = 0 := hs.2.2.2.1 rfl;have h1 : len = 0 := by have := hs.2.1; omega
  have h2 : ys = [] := Bi (by have := hs.1; omega);subst h0 h1 h2;exact ⟨v, w3, L.run_append_none t ty ht K (L.os_ext ho c3), by rw [List.append_nil]; exact ⟨h, Ae, L.os_ext ho c3, fr.chg c3, hc.trans0 c3⟩⟩
 | some ad =>
  obtain ⟨news, fy, hnews, hall, hsub⟩ := L.sl_cells hs;have hfy := Lay.flat_all hL hall;subst hfy;have hlen := hs.1;subst hlen;obtain ⟨v', w', h', hr, Ah, Av, hc', hl⟩ := L.run_append t ty ht K (L.os_ext ho c3) ad cap news hnews hall (by simp) h63 hbytes;refine ⟨v', w', hr, h', Ae ++ [], Ah, fr.grow hc.size (q1r.nil _ _) c3 Av hc' (L.os_loose Ah), (hc.trans0 c3).trans hc' (fun b hb => .inr ?_)⟩;exact (fr.2 b (AL.2 (.inl hb))).1
theorem Lay.wp_growS (hL : L.flat) {o : Oper} {a : Act} {Kc : Act → World → Prop} {Q : Exit → Act → World → Prop} (s x : Operand) (t : TypeId)
  (hop : o.op = .call { callee := .builtin .append, args := #[s, x], argTypes := #[t, t] }) (ht : P.underlying t = some (.slice E)) (K : Kind P E L.n bytes)
  (hs : a.eval s = v) (hg : Grow L E w wr v xs) (c3 : Chg [] wr w3)
  {ad : Option Addr} {m c : Nat} (hx : a.eval x = Aa ad m c) (hsl : L.sl w3 ad m c ys f)
  (h63 : xs.length + ys.length ≤ maxLen) (hbytes : (xs.length + ys.length) * bytes ≤ 140737488355328)
  (hk : ∀ v' w', Grow L E w w' v' (xs ++ ys) → Kc (a.put o.dst v') w') : o.wp P a w3 Kc Q := by
 obtain ⟨v', w', hr, h2⟩ := L.run_growS hL (P := P) t o.type ht K hg c3 hsl h63 hbytes;unfold Oper.wp execOp;simp only [hop, resolve, invoke, builtin, Sem.run_bind, Sem.run_pure, Result.andThen_ok, Bn, Bo, Bw, hs, hx, hr];exact hk v' w' h2
theorem Lay.wpList_growS (hL : L.flat) {ops : Array Oper} {rest : List Oper} {o : Oper} {a : Act} {Q : Exit → Act → World → Prop} (hgd : o.guard = none) (s x : Operand) (t : TypeId)
  (hop : o.op = .call { callee := .builtin .append, args := #[s, x], argTypes := #[t, t] }) (ht : P.underlying t = some (.slice E)) (K : Kind P E L.n bytes)
  (hs : a.eval s = v) (hg : Grow L E w wr v xs) (c3 : Chg [] wr w3)
  {ad : Option Addr} {m c : Nat} (hx : a.eval x = Aa ad m c) (hsl : L.sl w3 ad m c ys f)
  (h63 : xs.length + ys.length ≤ maxLen) (hbytes : (xs.length + ys.length) * bytes ≤ 140737488355328)
  (hk : ∀ v' w', Grow L E w w' v' (xs ++ ys) → wpList P ops Q rest (a.put o.dst v') w') : wpList P ops Q (o :: rest) a w3 :=
 wpList_plain hgd fun _ hK => L.wp_growS hL s x t hop ht K hs hg c3 hx hsl h63 hbytes fun v' w' h1 => hK _ _ (hk v' w' h1)
end
theorem Grow.bytes {E : TypeId} {w wr : World} {v : Value} {xs : List UInt8} (h : Grow q0o E w wr v xs) : ∃ a c f, v = Aa a xs.length c ∧ q0o.sl wr a xs.length c xs f ∧ q1r w.heap.size wr f ∧ Chg [] w wr := by
 obtain ⟨a, c, f, h1, h2, h3, h4⟩ := h.sl;exact ⟨a, c, f, h1, h2, h3, h4⟩
end Go.Proofs.YthhaednigdgclaaGreat
namespace Go.Proofs.YthhaednigdgclaaGreat
open Go.RowKit
open Go.Lib (hid)
def cutW (w : World) (n : Nat) : World := { w with heap := w.heap.extract 0 n }
theorem q3t {w : World} {n : Nat} (h : n ≤ w.heap.size) : (cutW w n).heap.size = n := by simp [cutW]; omega
theorem q9s {w : World} {n k : Nat} (h : k < n) : (cutW w n).heap[k]? = w.heap[k]? := by
 unfold cutW;simp only [Array.getElem?_extract];by_cases hk : k < w.heap.size
 ·rw [if_pos (by omega)]; simp
 ·rw [if_neg (by omega), Array.getElem?_eq_none (by omega)]
theorem cutW_chg {w : World} {n : Nat} (h : n ≤ w.heap.size) : Chg [] (cutW w n) w := by
 refine ⟨rfl, rfl, rfl, by rw [q3t h]; exact h, fun k hk _ => ?_, fun k hk => ?_⟩
 ·rw [q3t h] at hk; exact (q9s hk).symm
 ·have hlt := hk.lt;rw [q3t h] at hlt;obtain ⟨cur, E, hb⟩ := hk;exact ⟨cur, E, by rw [← q9s hlt]; exact hb⟩
def q2x {α : Type} (L : Lay α) (E : TypeId) (n : Nat) (wr : World) (v : Value) (xs : List α) : Prop :=
 n ≤ wr.heap.size ∧ ∃ h Ae, L.os E wr v xs h Ae ∧ q1r n wr (h.toList ++ Ae)
section
variable {α : Type} {L : Lay α} {E : TypeId} {n : Nat} {w wr w' : World} {v : Value} {xs : List α}
theorem q2x.to (h : q2x L E n wr v xs) : Grow L E (cutW wr n) wr v xs := by
 obtain ⟨h0, hd, Ae, h1, h2⟩ := h;exact ⟨hd, Ae, h1, by rw [q3t h0]; exact h2, cutW_chg h0⟩
theorem q2x.of (h : Grow L E w wr v xs) : q2x L E w.heap.size wr v xs := by
 obtain ⟨hd, Ae, h1, h2, h3⟩ := h;exact ⟨h3.size, hd, Ae, h1, h2⟩
theorem q2x.of' (h : Grow L E w wr v xs) (hn : n = w.heap.size) : q2x L E n wr v xs := by subst hn; exact q2x.of h
theorem q2x.chg {S : List Nat} (h : q2x L E n wr v xs) (hc : Chg S wr w') (hS : ∀ x ∈ S, x < n) : q2x L E n w' v xs := by
 obtain ⟨h0, hd, Ae, h1, h2⟩ := h;refine ⟨AX h0 hc.size, hd, Ae, L.os_chg h1 hc (fun g hg hm => ?_) (fun b hb hm => ?_), h2.chg hc⟩
 ·have := (h2.2 g (AL.2 (.inl (by simp [hg])))).1; have := hS g hm; omega
 ·have := (h2.2 b (AL.2 (.inr hb))).1; have := hS b hm; omega
theorem q2x.ext (h : q2x L E n wr v xs) (hc : Chg [] wr w') : q2x L E n w' v xs := h.chg hc (by simp)
theorem q2x.next {ys : List α} {v' : Value} {S : List Nat} {w0 : World} (hn : n ≤ wr.heap.size) (h : Grow L E (cutW wr n) w' v' ys) (hc : Chg S w0 wr) (h0 : w0.heap.size ≤ n) : q2x L E n w' v' ys ∧ Chg S w0 w' := by
 refine ⟨q2x.of' h (q3t hn).symm, ?_⟩;have h1 := h.chg;refine ⟨h1.os.trans hc.os, h1.tape.trans hc.tape, h1.output.trans hc.output, ?_, fun k hk hS => ?_, fun k hk => ?_⟩
 ·have := h1.size; rw [q3t hn] at this; omega
 ·rw [h1.block k (by rw [q3t hn]; omega) (by simp), q9s (by omega), hc.block k hk hS]
 ·have hlt := hk.lt;have h2 := hc.loose k hk;refine h1.loose k ?_;obtain ⟨cur, T, hb⟩ := h2;exact ⟨cur, T, by rw [q9s (by omega)]; exact hb⟩
theorem q2x.low {ys : List α} {v' : Value} (hn : n ≤ wr.heap.size) (h : Grow L E (cutW wr n) w' v' ys) : ∀ k, k < n → w'.heap[k]? = wr.heap[k]? := fun k hk => by
 rw [h.chg.block k (by rw [q3t hn]; exact hk) (by simp), q9s hk]
theorem q2x.sl (h : q2x L E n wr v xs) : ∃ a cap fp, v = Aa a xs.length cap ∧ L.sl wr a xs.length cap xs fp ∧ q1r n wr fp := by
 obtain ⟨h0, hd, Ae, h1, h2⟩ := h;obtain ⟨a, cap, rfl, hs⟩ := L.os_sl h1;exact ⟨a, cap, _, rfl, hs, h2⟩
theorem q2x.made (h : n ≤ wr.heap.size) : q2x L E n (wr.alloc (.cells #[] E)) (Aa (some ⟨wr.heap.size, 0, none⟩) 0 0) [] :=
 ⟨by simp; omega, some wr.heap.size, [], Lay.os_made _ _ _ _ _ (by simp [maxLen]) (by simp), ⟨by simp, fun b hb => by simp at hb; subst hb; exact ⟨h, _, _, q0k wr _⟩⟩⟩
theorem q2x.nil (h : n ≤ wr.heap.size) : q2x L E n wr (Aa none 0 0) [] := ⟨h, none, [], Lay.os_nil _ _ _, q1r.nil _ _⟩
end
structure Up (n : Nat) (w w' : World) : Prop where
 os : w'.os = w.os
 tape : w'.tape = w.tape
 output : w'.output = w.output
 size : w.heap.size ≤ w'.heap.size
 low : ∀ k, k < n → w'.heap[k]? = w.heap[k]?
 loose : ∀ k, q4j w k → q4j w' k
theorem Up.chg {n : Nat} {S : List Nat} {w0 w w' : World} (h : Up n w w') (hc : Chg S w0 w) (h0 : w0.heap.size ≤ n) : Chg S w0 w' :=
 ⟨h.os.trans hc.os, h.tape.trans hc.tape, h.output.trans hc.output, AX hc.size h.size, fun k hk hS => by rw [h.low k (by omega), hc.block k hk hS], fun k hk => h.loose k (hc.loose k hk)⟩
theorem Up.of {n : Nat} {S : List Nat} {w w' : World} (hc : Chg S w w') (hS : ∀ x ∈ S, n ≤ x) (hn : n ≤ w.heap.size) : Up n w w' :=
 ⟨hc.os, hc.tape, hc.output, hc.size, fun k hk => hc.block k (by omega) (fun hm => by have := hS k hm; omega), hc.loose⟩
def q6s {α : Type} (L : Lay α) (E : TypeId) (n B : Nat) (wr : World) (v : Value) (xs : List α) : Prop :=
 n ≤ B ∧ B ≤ wr.heap.size ∧ ∃ h Ae, L.os E wr v xs h Ae ∧ q1r n wr (h.toList ++ Ae) ∧ ∀ b ∈ h.toList ++ Ae, b < B
section
variable {α : Type} {L : Lay α} {E : TypeId} {n B : Nat} {w wr w' : World} {v : Value} {xs : List α}
theorem q2x.b (h : q2x L E n wr v xs) : q6s L E n wr.heap.size wr v xs := by
 obtain ⟨h0, hd, Ae, h1, h2⟩ := h;exact ⟨h0, Bh _, hd, Ae, h1, h2, h2.lts⟩
theorem q6s.chg {S : List Nat} (h : q6s L E n B wr v xs) (hc : Chg S wr w') (hS : ∀ x ∈ S, x < n) : q6s L E n B w' v xs := by
 obtain ⟨h0, h9, hd, Ae, h1, h2, h3⟩ := h;refine ⟨h0, AX h9 hc.size, hd, Ae, L.os_chg h1 hc (fun g hg hm => ?_) (fun b hb hm => ?_), h2.chg hc, h3⟩
 ·have := (h2.2 g (AL.2 (.inl (by simp [hg])))).1; have := hS g hm; omega
 ·have := (h2.2 b (AL.2 (.inr hb))).1; have := hS b hm; omega
theorem q6s.ext (h : q6s L E n B wr v xs) (hc : Chg [] wr w') : q6s L E n B w' v xs := h.chg hc (by simp)
theorem q6s.run {P : Program} {bytes : Nat} {ys : List α} {f : List Nat} (t ty : TypeId) (ht : P.underlying t = some (.slice E)) (K : Kind P E L.n bytes) (hg : q6s L E n B w v xs)
  (ad : Addr) (c : Nat) (news : List Value) (hnews : ∀ j u, news[j]? = some u → w.cell? (ad.add j) = some u) (hall : L.all w news ys f) (ff : q1r B w f)
  (h63 : xs.length + ys.length ≤ maxLen) (hbytes : (xs.length + ys.length) * bytes ≤ 140737488355328) :
  ∃ v' w', (Builtin.append_ #[t, t] ty #[v, Aa (some ad) ys.length c]).run P w = .ok v' w' ∧ q2x L E n w' v' (xs ++ ys) ∧ Up n w w' := by
 obtain ⟨h0, h9, hd, Ae, h1, h2, h3⟩ := hg;have hlt := L.os_lt h1;obtain ⟨v', w', h', hr, Ah, Av, hc', hl⟩ := L.run_append (P := P) t ty ht K h1 ad c news hnews hall (fun g hg hf => by have a1 := h3 g (by simp [hg]); have a2 := (ff.2 g hf).1; omega) h63 hbytes;have hle : Up n w w' := Up.of hc' (fun x hx => (h2.2 x (AL.2 (.inl hx))).1) (by omega);refine ⟨v', w', hr, ⟨AX (AX h0 h9) hle.size, h', Ae ++ f, Ah, ?_⟩, hle⟩;have f2 := h2.chg hc';have g2 := ff.chg hc';have nd := Bc.1 h2.1;have dj : ∀ a ∈ hd.toList ++ Ae, ∀ b ∈ f, a ≠ b := fun a ha b hb e => by have a1 := h3 a ha; have a2 := (ff.2 b hb).1; omega
 have Ar := L.os_loose Ah;rcases Av with rfl | rfl
 ·rw [← BA];exact ⟨Bc.2 ⟨h2.1, ff.1, dj⟩, fun b hb => by
   rcases AL.1 hb with hb | hb
   ·exact f2.2 b hb
   ·exact ⟨AX h0 (g2.2 b hb).1, (g2.2 b hb).2⟩⟩
 ·refine ⟨?_, fun b hb => ?_⟩
  ·rw [Bq, Bl, BD];refine ⟨fun hb => ?_, Bc.2 ⟨nd.2.1, ff.1, fun a ha b hb => dj a (AL.2 (.inr ha)) b hb⟩⟩;rcases AL.1 hb with hb | hb
   ·have := h3 _ (AL.2 (.inr hb)); omega
   ·have := ff.lts _ hb; omega
  ·rw [Bq, Bl, Bg] at hb;rcases hb with rfl | hb
   ·exact ⟨by omega, Ar _ rfl⟩
   ·rcases AL.1 hb with hb | hb
    ·exact f2.2 b (AL.2 (.inr hb))
    ·exact ⟨AX h0 (g2.2 b hb).1, (g2.2 b hb).2⟩
theorem q6s.wp {P : Program} {bytes : Nat} {ys : List α} {f : List Nat} {o : Oper} {a : Act} {Kc : Act → World → Prop} {Q : Exit → Act → World → Prop} (s x : Operand) (t : TypeId)
  (hop : o.op = .call { callee := .builtin .append, args := #[s, x], argTypes := #[t, t] }) (ht : P.underlying t = some (.slice E)) (K : Kind P E L.n bytes)
  (hs : a.eval s = v) (hg : q6s L E n B w v xs)
  (ad : Addr) (m c : Nat) (news : List Value) (hx : a.eval x = Aa (some ad) m c) (hm : m = ys.length) (hnews : ∀ j u, news[j]? = some u → w.cell? (ad.add j) = some u) (hall : L.all w news ys f) (ff : q1r B w f)
  (h63 : xs.length + ys.length ≤ maxLen) (hbytes : (xs.length + ys.length) * bytes ≤ 140737488355328)
  (hk : ∀ v' w', q2x L E n w' v' (xs ++ ys) → Up n w w' → Kc (a.put o.dst v') w') : o.wp P a w Kc Q := by
 subst hm;obtain ⟨v', w', hr, h2, h3⟩ := hg.run (P := P) t o.type ht K ad c news hnews hall ff h63 hbytes;unfold Oper.wp execOp;simp only [hop, resolve, invoke, builtin, Sem.run_bind, Sem.run_pure, Result.andThen_ok, Bn, Bo, Bw, hs, hx, hr];exact hk v' w' h2 h3
theorem q6s.wpList {P : Program} {bytes : Nat} {ys : List α} {f : List Nat} {ops : Array Oper} {rest : List Oper} {o : Oper} {a : Act} {Q : Exit → Act → World → Prop} (hgd : o.guard = none) (s x : Operand) (t : TypeId)
  (hop : o.op = .call { callee := .builtin .append, args := #[s, x], argTypes := #[t, t] }) (ht : P.underlying t = some (.slice E)) (K : Kind P E L.n bytes)
  (hs : a.eval s = v) (hg : q6s L E n B w v xs)
  (ad : Addr) (m c : Nat) (news : List Value) (hx : a.eval x = Aa (some ad) m c) (hm : m = ys.length) (hnews : ∀ j u, news[j]? = some u → w.cell? (ad.add j) = some u) (hall : L.all w news ys f) (ff : q1r B w f)
  (h63 : xs.length + ys.length ≤ maxLen) (hbytes : (xs.length + ys.length) * bytes ≤ 140737488355328)
  (hk : ∀ v' w', q2x L E n w' v' (xs ++ ys) → Up n w w' → wpList P ops Q rest (a.put o.dst v') w') : wpList P ops Q (o :: rest) a w :=
 wpList_plain hgd fun _ hK => hg.wp s x t hop ht K hs ad m c news hx hm hnews hall ff h63 hbytes fun v' w' h1 h2 => hK _ _ (hk v' w' h1 h2)
theorem q6s.step {P : Program} {bytes : Nat} {ys : List α} {f : List Nat} {ops : Array Oper} {o : Oper} {a : Act} {Kc : Act → World → Prop} {Q : Exit → Act → World → Prop} {R : Prop} (hgd : o.guard = none) (s x : Operand) (t : TypeId)
  (hop : o.op = .call { callee := .builtin .append, args := #[s, x], argTypes := #[t, t] }) (ht : P.underlying t = some (.slice E)) (K : Kind P E L.n bytes)
  (hs : a.eval s = v) (hg : q6s L E n B w v xs)
  (ad : Addr) (m c : Nat) (news : List Value) (hx : a.eval x = Aa (some ad) m c) (hm : m = ys.length) (hnews : ∀ j u, news[j]? = some u → w.cell? (ad.add j) = some u) (hall : L.all w news ys f) (ff : q1r B w f)
  (h63 : xs.length + ys.length ≤ maxLen) (hbytes : (xs.length + ys.length) * bytes ≤ 140737488355328)
  (hk : ∀ v' w', q2x L E n w' v' (xs ++ ys) → Up n w w' → Kc (a.put o.dst v') w') :
  if Region.wanted o (yielded ops a.tmps) = true then Oper.wp P o a w Kc Q else R := by
 have hw : Region.wanted o (yielded ops a.tmps) = true := by simp [Region.wanted, hgd]
 rw [if_pos hw];exact hg.wp s x t hop ht K hs ad m c news hx hm hnews hall ff h63 hbytes hk
end
end Go.Proofs.YthhaednigdgclaaGreat
namespace Go.Proofs.YthhaednigdgclaaGreat
open Go.RowKit
open Go.Lib (hid)
def q1c {α : Type} (L : Lay α) (w : World) (b off : Nat) (ps : List (α × List Nat)) : Prop :=
 ∃ cur E, w.heap[b]? = some (Ad cur E (0, 0)) ∧ (0 < ps.length → off + ps.length * L.n ≤ cur.size) ∧ ∀ (i : Nat) p, ps[i]? = some p → L.rep w ((cur.toList.drop (off + i * L.n)).take L.n) p.1 p.2 ∧ b ∉ p.2
section
variable {α : Type} {L : Lay α} {w w' : World} {b off : Nat} {ps : List (α × List Nat)}
theorem q1c.lt (h : q1c L w b off ps) : b < w.heap.size := by obtain ⟨cur, E, h1, _⟩ := h; exact ltOf h1
theorem q1c.loose (h : q1c L w b off ps) : q4j w b := by obtain ⟨cur, E, h1, _⟩ := h; exact ⟨_, _, h1⟩
theorem q1c.keep (h : q1c L w b off ps) (hb : w'.heap[b]? = w.heap[b]?) (hk : ∀ p ∈ ps, ∀ y ∈ p.2, w'.heap[y]? = w.heap[y]?) : q1c L w' b off ps := by
 obtain ⟨cur, E, h1, h2, h3⟩ := h;exact ⟨cur, E, hb.trans h1, h2, fun i p hp => ⟨L.keep (h3 i p hp).1 (hk p (BH hp)), (h3 i p hp).2⟩⟩
theorem q1c.fp_lt (h : q1c L w b off ps) {p : α × List Nat} (hp : p ∈ ps) : ∀ y ∈ p.2, y < w.heap.size := by
 obtain ⟨cur, E, h1, h2, h3⟩ := h;obtain ⟨i, hi, e⟩ := Bz hp;exact L.lt (h3 i p (by rw [Bf hi, e])).1
theorem q1c.chg {S : List Nat} (h : q1c L w b off ps) (hc : Chg S w w') (hb : b ∉ S) (hS : ∀ p ∈ ps, ∀ y ∈ p.2, y ∉ S) : q1c L w' b off ps :=
 h.keep (hc.block b h.lt hb) (fun p hp y hy => hc.block y (h.fp_lt hp y hy) (hS p hp y hy))
theorem q1c.ext (h : q1c L w b off ps) (hc : Chg [] w w') : q1c L w' b off ps := h.chg hc (by simp) (by simp)
theorem q1c.at (h : q1c L w b off ps) {i : Nat} (hi : i < ps.length) : ∃ p c, ps[i]? = some p ∧ L.rep w c p.1 p.2 ∧ b ∉ p.2 ∧ ∀ j, j < L.n → w.cell? ⟨b, off + i * L.n + j, none⟩ = c[j]? := by
 obtain ⟨cur, E, h1, h2, h3⟩ := h;have hp : ps[i]? = some ps[i] := Bf hi;refine ⟨_, _, hp, (h3 i _ hp).1, (h3 i _ hp).2, fun j hj => ?_⟩;rw [cellsOf h1, AR hj, AU];simp
theorem q1c.free (h : q1c L w b off ps) : ∀ j, w.frozen? ⟨b, j, none⟩ = false := by obtain ⟨cur, E, h1, _⟩ := h; exact q0j h1
theorem q1c.put (h : q1c L w b off ps) {i : Nat} (hi : i < ps.length) {x : α} {c : List Value} {f : List Nat} (hr : L.rep w c x f) (hb : b ∉ f) : q1c L (w.setCells b (off + i * L.n) c) b off (ps.set i (x, f)) := by
 obtain ⟨cur, E, h1, h2, h3⟩ := h;have Ao := L.len hr;have hle : (i + 1) * L.n ≤ ps.length * L.n := AJ _ (by omega);rw [AO, AQ] at hle;have hsz : off + i * L.n + c.length ≤ cur.size := by have := h2 (by omega); omega
 have AA := q4u c (off + i * L.n) cur hsz;have hct : cur.toList.length = cur.size := by simp
 refine ⟨_, E, q3k c _ w cur h1, ?_, fun j p hp => ?_⟩
 ·rw [List.length_set];have : (setRow cur (off + i * L.n) c).size = cur.size := by
   have h5 := congrArg BP AA;rw [AY] at h5;rw [h5, Bp, Bp, AK, AZ];omega
  rw [this]; exact h2
 ·have Ay : ∀ y, y ≠ b → (w.setCells b (off + i * L.n) c).heap[y]? = w.heap[y]? := fun y hy => q5n hy c _ w
  by_cases e : i = j
  ·subst e;rw [List.getElem?_set_self hi] at hp;obtain rfl := Option.some.inj hp;refine ⟨?_, hb⟩;have e2 : ((setRow cur (off + i * L.n) c).toList.drop (off + i * L.n)).take L.n = c := by
    rw [AA, Ba (by rw [AK]; omega), Br, BV, BS, BC, AW (by omega), AP (by omega)]
   rw [e2];exact L.keep hr (fun y hy => Ay y (fun e => hb (e ▸ hy)))
  ·rw [List.getElem?_set_ne e] at hp;obtain ⟨h4, h5⟩ := h3 j p hp;refine ⟨?_, h5⟩;have hj := (Be.1 hp).1;have AD : (j + 1) * L.n ≤ ps.length * L.n := AJ _ (by omega);rw [AO, AQ] at AD;have e2 : ((setRow cur (off + i * L.n) c).toList.drop (off + j * L.n)).take L.n = (cur.toList.drop (off + j * L.n)).take L.n := by
    apply BM;intro k;by_cases hk : k < L.n
    ·rw [AR hk, AR hk, AU, AU, AA];rcases BI e with AE | AE
     ·have : (i + 1) * L.n ≤ j * L.n := AJ _ AE;rw [AO, AQ] at this;rw [Bb (by rw [AK]; omega), AK, Bb (by omega), AU]
      congr 1
      omega
     ·have : (j + 1) * L.n ≤ i * L.n := AJ _ AE;rw [AO, AQ] at this;rw [BB (by rw [AK]; omega), AR (by omega)]
    ·rw [Bj (by rw [AK]; omega), Bj (by rw [AK]; omega)]
   rw [e2];exact L.keep h4 (fun y hy => Ay y (fun e => h5 (e ▸ hy)))
theorem q1c.take (h : q1c L w b off ps) (n : Nat) : q1c L w b off (ps.take n) := by
 obtain ⟨cur, E, h1, h2, h3⟩ := h;have hle : (ps.take n).length * L.n ≤ ps.length * L.n := AJ _ (by rw [AK]; omega);refine ⟨cur, E, h1, fun h0 => by have := h2 (by rw [AK] at h0; omega); omega, fun i p hp => h3 i p ?_⟩;have hi : i < n := by have := (Be.1 hp).1; rw [AK] at this; omega
 rwa [AR hi] at hp
end
theorem row_all {α : Type} {L : Lay α} {w : World} : ∀ {ps : List (α × List Nat)} {cs : List Value}, cs.length = ps.length * L.n → (∀ (i : Nat) p, ps[i]? = some p → L.rep w ((cs.drop (i * L.n)).take L.n) p.1 p.2) → L.all w cs (ps.map (·.1)) (ps.flatMap (·.2)) := by
 intro ps
 induction ps with
 | nil => intro cs hl _; exact ⟨Bi (by simpa using hl), rfl⟩
 | cons p ps ih =>
  intro cs hl h;rw [List.length_cons, AO, AQ] at hl;refine ⟨cs.take L.n, cs.drop L.n, p.2, ps.flatMap (·.2), (List.take_append_drop _ _).symm, by simp, ?_, ih (by rw [AZ]; omega) (fun i q hq => ?_)⟩
  ·have := h 0 p rfl
   simpa using this
  ·have := h (i + 1) q (by simpa using hq);rw [Bt];rw [AO, AQ, BX] at this;exact this
theorem all_row {α : Type} {L : Lay α} {w : World} : ∀ {xs : List α} {cs : List Value} {Ae : List Nat}, L.all w cs xs Ae → ∃ ps : List (α × List Nat), ps.map (·.1) = xs ∧ ps.flatMap (·.2) = Ae ∧ ∀ (i : Nat) p, ps[i]? = some p → L.rep w ((cs.drop (i * L.n)).take L.n) p.1 p.2 := by
 intro xs
 induction xs with
 | nil => intro cs Ae h; exact ⟨[], rfl, h.2.symm, fun i p hp => by simp at hp⟩
 | cons x xs ih =>
  intro cs Ae h;obtain ⟨c1, c2, f1, f2, rfl, rfl, h1, h2⟩ := h;obtain ⟨ps, e1, e2, e3⟩ := ih h2;have hl := L.len h1;refine ⟨(x, f1) :: ps, by simp [e1], by simp [e2], fun i p hp => ?_⟩;cases i with
  | zero =>
   simp at hp;subst hp;rw [Bv, BU, ← hl, List.take_left];exact h1
  | succ i =>
   have := e3 i p (by simpa using hp);rw [AO, AQ, BX, ← Bt, ← hl, List.drop_left, hl];exact this
section
variable {α : Type} {L : Lay α} {w w' : World} {b off len cap : Nat} {xs : List α} {ps : List (α × List Nat)} {fp : List Nat}
theorem q1c.sl (h : q1c L w b off ps) (hl : len = ps.length) (hc : len ≤ cap) (hm : cap ≤ maxLen) : L.sl w (some ⟨b, off, none⟩) len cap (ps.map (·.1)) (b :: ps.flatMap (·.2)) := by
 obtain ⟨cur, E, h1, h2, h3⟩ := h;subst hl;refine ⟨by simp, hc, hm, (fun h => by cases h), .inr ⟨b, off, cur, E, (0, 0), _, rfl, h1, row_all ?_ (fun i p hp => ?_), rfl⟩⟩
 ·have hct : cur.toList.length = cur.size := by simp
  rw [AK, AZ, hct];rcases Nat.eq_zero_or_pos ps.length with h0 | h0
  ·rw [h0, Bv]; omega
  ·have := h2 h0; omega
 ·have hi := (Be.1 hp).1;have hle : (i + 1) * L.n ≤ ps.length * L.n := AJ _ (by omega);rw [AO, AQ] at hle;have e : (((cur.toList.drop off).take (ps.length * L.n)).drop (i * L.n)).take L.n = (cur.toList.drop (off + i * L.n)).take L.n := by
   rw [Br, BG, Bt, Bu (by omega)]
  rw [e];exact (h3 i p hp).1
theorem Lay.sl_row (h : L.sl w (some ⟨b, off, none⟩) len cap xs fp) (Ar : q4j w b) (hn : ∃ Ae, fp = b :: Ae ∧ b ∉ Ae) : ∃ ps, q1c L w b off ps ∧ ps.map (·.1) = xs ∧ fp = b :: ps.flatMap (·.2) := by
 obtain ⟨fps0, AG, hb⟩ := hn;obtain ⟨h1, h2, h3, h4, ⟨rfl, rfl⟩ | ⟨b', off', cur, E, fr, Ae, ha, hb', hall, Ax⟩⟩ := h
 ·cases AG
 ·simp only [Option.some.injEq, Addr.mk.injEq, and_true] at ha;obtain ⟨rfl, rfl⟩ := ha;obtain rfl : Ae = fps0 := by rw [AG] at Ax; exact (List.cons.inj Ax).2.symm
  obtain ⟨cur', E', Ar⟩ := Ar;obtain ⟨rfl, rfl, rfl⟩ : cur' = cur ∧ E' = E ∧ fr = (0, 0) := by
   have := Option.some.inj (Ar.symm.trans hb'); injection this with e1 e2 e3; exact ⟨e1, e2, e3.symm⟩
  obtain ⟨ps, e1, e2, e3⟩ := all_row hall;have hpl : ps.length = xs.length := by rw [← e1, List.length_map]
  have hal := L.all_len hall;rw [AK, AZ, AY] at hal;refine ⟨ps, ⟨cur', E', hb', ?_, fun i p hp => ?_⟩, e1, by rw [AG, e2]⟩
  ·rw [hpl];intro h0;have : 0 < xs.length * L.n := Nat.mul_pos h0 L.pos;rw [h1] at hal; omega
  ·have hi := (Be.1 hp).1;have hle : (i + 1) * L.n ≤ len * L.n := AJ _ (by omega);rw [AO, AQ] at hle;have := e3 i p hp;rw [Br, BG, Bt, Bu (by omega)] at this;refine ⟨this, fun hm => hb ?_⟩;rw [← e2];exact List.mem_flatMap.2 ⟨p, BH hp, hm⟩
end
end Go.Proofs.YthhaednigdgclaaGreat
namespace Go.Proofs.YthhaednigdgclaaGreat
open Go.RowKit
open Go.Lib (hid)
theorem i64z : q0s 0 := ⟨by omega, by omega⟩
theorem z1e {α : Type} (L : Lay α) (w : World) : L.sl w none 0 0 [] [] := ⟨rfl, Bh _, by unfold maxLen; omega, fun _ => rfl, .inl ⟨rfl, rfl⟩⟩
theorem z1y {w : World} {a : Option Addr} {len cap : Nat} {xs : List Blk} {fp : List Nat} (h : blkL.sl w a len cap xs fp) {i : Nat} (hi : i < len) :
  ∃ (x : Blk) (b off : Nat) (a1 : Option Addr) (l1 c1 : Nat) (f : List Nat), Hid (xs[i]? = some x ∧ b ∈ fp ∧ (∀ y ∈ f, y ∈ fp)) ∧ a = some ⟨b, off, none⟩ ∧ w.cell? ⟨b, off + i * 2, none⟩ = some (I J x.sM) ∧ w.cell? ⟨b, off + i * 2 + 1, none⟩ = some (Aa a1 l1 c1) ∧ Hid (blkL.rep w [I J x.sM, Aa a1 l1 c1] x f) := by
 obtain ⟨x, b, off, c, f, hx, ha, hb, hc, hr, hf⟩ := blkL.sl_at h hi;obtain ⟨a1, l1, c1, _, ex, -⟩ := q5c.1 hr;subst ex;refine ⟨x, b, off, a1, l1, c1, f, ⟨hx, hb, hf⟩, ha, hc 0 (by decide), hc 1 (by decide), hr⟩
def zBlk : Blk := ⟨0, []⟩
theorem infoBlock : (Tryz.prog.info? 84).map (fun i => (i.zero, i.size, i.bytes)) = some (some (.agg #[I J 0, Aa none 0 0]), 2, 32) := by kernel_rfl
theorem kindBlock : ∃ K : Kind Tryz.prog 84 blkL.n 32, K.z = .agg #[I J 0, Aa none 0 0] := by
 obtain ⟨i0, hi, hz0, hz1, hz2⟩ := info_parts infoBlock;exact ⟨⟨i0, .agg #[I J 0, Aa none 0 0], hi, hz0, hz1, hz2, rfl⟩, rfl⟩
theorem z1r {w : World} {a : Option Addr} {len cap : Nat} {xs : List Drv} {fp : List Nat} (h : drvL.sl w a len cap xs fp) {i : Nat} (hi : i < len) :
  ∃ (x : Drv) (b off : Nat) (a1 : Option Addr) (l1 c1 : Nat) (f : List Nat), Hid (xs[i]? = some x ∧ b ∈ fp ∧ (∀ y ∈ f, y ∈ fp)) ∧ a = some ⟨b, off, none⟩ ∧ w.cell? ⟨b, off + i * 2, none⟩ = some (Ac x.wD) ∧ w.cell? ⟨b, off + i * 2 + 1, none⟩ = some (Aa a1 l1 c1) ∧ Hid (drvL.rep w [Ac x.wD, Aa a1 l1 c1] x f) := by
 obtain ⟨x, b, off, c, f, hx, ha, hb, hc, hr, hf⟩ := drvL.sl_at h hi;obtain ⟨a1, l1, c1, _, ex, -⟩ := q8w.1 hr;subst ex;refine ⟨x, b, off, a1, l1, c1, f, ⟨hx, hb, hf⟩, ha, hc 0 (by decide), hc 1 (by decide), hr⟩
theorem infoDrive : (Tryz.prog.info? 82).map (fun i => (i.zero, i.size, i.bytes)) = some (some (.agg #[Ac false, Aa none 0 0]), 2, 32) := by kernel_rfl
theorem kindDrive : ∃ K : Kind Tryz.prog 82 drvL.n 32, K.z = .agg #[Ac false, Aa none 0 0] := by
 obtain ⟨i0, hi, hz0, hz1, hz2⟩ := info_parts infoDrive;exact ⟨⟨i0, .agg #[Ac false, Aa none 0 0], hi, hz0, hz1, hz2, rfl⟩, rfl⟩
theorem infoDS : (Tryz.prog.info? 79).map (fun i => (i.zero, i.size, i.bytes)) = some (some (Aa none 0 0), 1, 24) := by kernel_rfl
theorem kindDS : ∃ K : Kind Tryz.prog 79 drvL.slice.n 24, K.z = Aa none 0 0 := by
 obtain ⟨i0, hi, hz0, hz1, hz2⟩ := info_parts infoDS;exact ⟨⟨i0, Aa none 0 0, hi, hz0, hz1, hz2, rfl⟩, rfl⟩
theorem q6m {w : World} {a : Option Addr} {len cap : Nat} {xs : List Rec} {fp : List Nat} (h : recL.sl w a len cap xs fp) {i : Nat} (hi : i < len) :
  ∃ (x : Rec) (b off : Nat) (a6 : Option Addr) (l6 c6 : Nat) (a7 : Option Addr) (l7 c7 : Nat) (a8 : Option Addr) (l8 c8 : Nat) (f : List Nat), Hid (xs[i]? = some x ∧ b ∈ fp ∧ (∀ y ∈ f, y ∈ fp)) ∧ a = some ⟨b, off, none⟩ ∧ w.cell? ⟨b, off + i * 9, none⟩ = some (I J x.kD) ∧ w.cell? ⟨b, off + i * 9 + 1, none⟩ = some (I J x.seq) ∧ w.cell? ⟨b, off + i * 9 + 2, none⟩ = some (Ab x.nM) ∧ w.cell? ⟨b, off + i * 9 + 3, none⟩ = some (I J x.length) ∧ w.cell? ⟨b, off + i * 9 + 4, none⟩ = some (I J x.gP) ∧ w.cell? ⟨b, off + i * 9 + 5, none⟩ = some (I J x.row) ∧ w.cell? ⟨b, off + i * 9 + 6, none⟩ = some (Aa a6 l6 c6) ∧ w.cell? ⟨b, off + i * 9 + 7, none⟩ = some (Aa a7 l7 c7) ∧ w.cell? ⟨b, off + i * 9 + 8, none⟩ = some (Aa a8 l8 c8) ∧ Hid (recL.rep w [I J x.kD, I J x.seq, Ab x.nM, I J x.length, I J x.gP, I J x.row, Aa a6 l6 c6, Aa a7 l7 c7, Aa a8 l8 c8] x f) := by
 obtain ⟨x, b, off, c, f, hx, ha, hb, hc, hr, hf⟩ := recL.sl_at h hi;obtain ⟨a6, l6, c6, _, a7, l7, c7, _, a8, l8, c8, _, ex, -⟩ := q0m.1 hr;subst ex;refine ⟨x, b, off, a6, l6, c6, a7, l7, c7, a8, l8, c8, f, ⟨hx, hb, hf⟩, ha, hc 0 (by decide), hc 1 (by decide), hc 2 (by decide), hc 3 (by decide), hc 4 (by decide), hc 5 (by decide), hc 6 (by decide), hc 7 (by decide), hc 8 (by decide), hr⟩
theorem infoRec : (Tryz.prog.info? 38).map (fun i => (i.zero, i.size, i.bytes)) = some (some (.agg #[I J 0, I J 0, Ab ⟨#[]⟩, I J 0, I J 0, I J 0, Aa none 0 0, Aa none 0 0, Aa none 0 0]), 9, 128) := by kernel_rfl
theorem q4y : ∃ K : Kind Tryz.prog 38 recL.n 128, K.z = .agg #[I J 0, I J 0, Ab ⟨#[]⟩, I J 0, I J 0, I J 0, Aa none 0 0, Aa none 0 0, Aa none 0 0] := by
 obtain ⟨i0, hi, hz0, hz1, hz2⟩ := info_parts infoRec;exact ⟨⟨i0, .agg #[I J 0, I J 0, Ab ⟨#[]⟩, I J 0, I J 0, I J 0, Aa none 0 0, Aa none 0 0, Aa none 0 0], hi, hz0, hz1, hz2, rfl⟩, rfl⟩
theorem makeRec (n : Nat) (hn : n ≤ 1048576) (w : World) :
  (Instr.makeSlice 32 (I J (n : Int)) (I J (n : Int))).run Tryz.prog w = .ok (Aa (some ⟨w.heap.size, 0, none⟩) n n) (w.alloc (Ad (zrow (.agg #[I J 0, I J 0, Ab ⟨#[]⟩, I J 0, I J 0, I J 0, Aa none 0 0, Aa none 0 0, Aa none 0 0]) (n * 9)) 38)) := by
 obtain ⟨K, hK⟩ := q4y;rw [← hK];exact q8s Tryz.underlying32 K n (by omega) (by omega) w
theorem q3b {w : World} {a : Option Addr} {len cap : Nat} {xs : List Tap} {fp : List Nat} (h : tapL.sl w a len cap xs fp) {i : Nat} (hi : i < len) :
  ∃ (x : Tap) (b off : Nat) (a1 : Option Addr) (l1 c1 : Nat) (f : List Nat), Hid (xs[i]? = some x ∧ b ∈ fp ∧ (∀ y ∈ f, y ∈ fp)) ∧ a = some ⟨b, off, none⟩ ∧ w.cell? ⟨b, off + i * 2, none⟩ = some (Ac x.wD) ∧ w.cell? ⟨b, off + i * 2 + 1, none⟩ = some (Aa a1 l1 c1) ∧ Hid (tapL.rep w [Ac x.wD, Aa a1 l1 c1] x f) := by
 obtain ⟨x, b, off, c, f, hx, ha, hb, hc, hr, hf⟩ := tapL.sl_at h hi;obtain ⟨a1, l1, c1, _, ex, -⟩ := q2d.1 hr;subst ex;refine ⟨x, b, off, a1, l1, c1, f, ⟨hx, hb, hf⟩, ha, hc 0 (by decide), hc 1 (by decide), hr⟩
theorem infoTape : (Tryz.prog.info? 57).map (fun i => (i.zero, i.size, i.bytes)) = some (some (.agg #[Ac false, Aa none 0 0]), 2, 32) := by kernel_rfl
theorem kindTape : ∃ K : Kind Tryz.prog 57 tapL.n 32, K.z = .agg #[Ac false, Aa none 0 0] := by
 obtain ⟨i0, hi, hz0, hz1, hz2⟩ := info_parts infoTape;exact ⟨⟨i0, .agg #[Ac false, Aa none 0 0], hi, hz0, hz1, hz2, rfl⟩, rfl⟩
theorem makeTape (n : Nat) (hn : n ≤ 1048576) (w : World) :
  (Instr.makeSlice 28 (I J (n : Int)) (I J (n : Int))).run Tryz.prog w = .ok (Aa (some ⟨w.heap.size, 0, none⟩) n n) (w.alloc (Ad (zrow (.agg #[Ac false, Aa none 0 0]) (n * 2)) 57)) := by
 obtain ⟨K, hK⟩ := kindTape;rw [← hK];exact q8s Tryz.underlying28 K n (by omega) (by omega) w
def Shp.cells (s : Shp) : Array Value := #[I J s.gS, I J s.cZ, I J s.data, I J s.spare, I J s.rows, I J s.cap, I J s.bT, I J s.qU, I J s.sG]
def inB (n a b : Int) : Bool := decide (a ≤ n) && decide (n ≤ b)
theorem q3r {n a b : Int} (h : inB n a b = true) : a ≤ n ∧ n ≤ b := by simpa [inB] using h
theorem inB_false {n a b : Int} (h : inB n a b = false) : ¬ (a ≤ n ∧ n ≤ b) := by
 intro ⟨h1, h2⟩; simp [inB, h1, h2] at h
theorem q1s {n a b : Int} (h1 : a ≤ n) (h2 : n ≤ b) : inB n a b = true := by simp [inB, h1, h2]
theorem q1w {n a b : Int} (h : ¬ (a ≤ n ∧ n ≤ b)) : inB n a b = false := by
 cases e : inB n a b
 ·rfl
 ·exact absurd (q3r e) h
def Shp.ok (s : Shp) : Prop := (1 ≤ s.gS ∧ s.gS ≤ 4) ∧ (0 ≤ s.cZ ∧ s.cZ ≤ 2) ∧ (1 ≤ s.data ∧ s.data ≤ 3) ∧ (0 ≤ s.spare ∧ s.spare ≤ 2) ∧ (1 ≤ s.rows ∧ s.rows ≤ 6) ∧ (1 ≤ s.cap ∧ s.cap ≤ 6) ∧ (1 ≤ s.bT ∧ s.bT ≤ 4) ∧ (1 ≤ s.qU ∧ s.qU ≤ 6) ∧ (0 ≤ s.sG ∧ s.sG ≤ 400)
instance (s : Shp) : Decidable s.ok := by unfold Shp.ok; infer_instance
def Shp.fault (s : Shp) : Int := if s.ok then 0 else 3
theorem Shp.fault_of {s : Shp} (h1 : inB s.gS 1 4 = true) (h2 : inB s.cZ 0 2 = true) (h3 : inB s.data 1 3 = true) (h4 : inB s.spare 0 2 = true) (h5 : inB s.rows 1 6 = true)
  (h6 : inB s.cap 1 6 = true) (h7 : inB s.bT 1 4 = true) (h8 : inB s.qU 1 6 = true) (h9 : inB s.sG 0 400 = true) : (0 : Int) = s.fault := by
 rw [Shp.fault, if_pos ⟨q3r h1, q3r h2, q3r h3, q3r h4, q3r h5, q3r h6, q3r h7, q3r h8, q3r h9⟩]
theorem Shp.fault_no {s : Shp} (h : inB s.gS 1 4 = false ∨ inB s.cZ 0 2 = false ∨ inB s.data 1 3 = false ∨ inB s.spare 0 2 = false ∨ inB s.rows 1 6 = false
  ∨ inB s.cap 1 6 = false ∨ inB s.bT 1 4 = false ∨ inB s.qU 1 6 = false ∨ inB s.sG 0 400 = false) : (3 : Int) = s.fault := by
 rw [Shp.fault, if_neg];rintro ⟨g1, g2, g3, g4, g5, g6, g7, g8, g9⟩;rcases h with h | h | h | h | h | h | h | h | h <;> exact absurd (by assumption) (inB_false h)
theorem Shp.ok_of {s : Shp} (h : s.fault = 0) : s.ok := by
 unfold Shp.fault at h; split at h
 ·assumption
 ·cases h
theorem q2g (n a b : Int) (w : World) :
  Calls Tryz.prog 45 #[I J n, I J a, I J b] w fun e w' => e = .returned (Ac (inB n a b)) ∧ w = w' := by
 by_cases h : a ≤ n
 ·have H := hid (show decide (n ≤ b) = inB n a b by simp [inB, h]);go_enter Tryz.func45, Tryz.ntmps45;go_wp2;go_ret;exact ⟨q0l H.o, rfl⟩
 ·have H := hid (show false = inB n a b by simp [inB, h]);go_enter Tryz.func45, Tryz.ntmps45;go_wp2;go_ret;exact ⟨q0l H.o, rfl⟩
theorem q7h (n a b : Int) (w : World) :
  Calls Tryz.prog 25 #[I J n, I J a, I J b] w fun e w' => e = .returned (Ac (inB n a b)) ∧ w = w' := by
 by_cases h : a ≤ n
 ·have H := hid (show decide (n ≤ b) = inB n a b by simp [inB, h]);go_enter Tryz.func25, Tryz.ntmps25;go_wp2;go_ret;exact ⟨q0l H.o, rfl⟩
 ·have H := hid (show false = inB n a b by simp [inB, h]);go_enter Tryz.func25, Tryz.ntmps25;go_wp2;go_ret;exact ⟨q0l H.o, rfl⟩
theorem impl_shape (s : Shp) (w : World) :
  Calls Tryz.prog 31 #[.agg s.cells] w fun e w' => e = .returned (I J s.fault) ∧ w.alloc (Ad s.cells 25) = w' := by
 have HY := hid (@Shp.fault_of s);have HN := hid (@Shp.fault_no s);generalize s.fault = F at HY HN ⊢;obtain ⟨g, c, d, p, r, q, b, u, t⟩ := s;simp only [Shp.cells] at HY HN ⊢;go_enter Tryz.func31, Tryz.ntmps31;go_wp2_with (go_at_call 45; refine (q2g _ _ _ _).mono ?_; rintro e w' ⟨rfl, rfl⟩);all_goals go_ret
 all_goals refine ⟨?_, rfl⟩
 all_goals simp only [Bool.not_eq_true, Bool.not_eq_true', Bool.not_eq_false'] at *
 all_goals first
  | exact q0i (HY.o ‹_› ‹_› ‹_› ‹_› ‹_› ‹_› ‹_› ‹_› ‹_›)
  | exact q0i (HN.o (by simp [*]))
theorem l3Shape_any (a b : Int) (w : World) :
  Calls Tryz.prog 50 #[I J a, I J b] w fun e w' => e = .returned (Ac (inB a 1 4 && inB b 0 2)) ∧ w = w' := by
 go_enter Tryz.func50, Tryz.ntmps50;go_wp2_with (go_at_call 25; refine (q7h _ _ _ _).mono ?_; rintro e w' ⟨rfl, rfl⟩);all_goals go_ret
 all_goals refine ⟨?_, rfl⟩
 all_goals simp only [Bool.not_eq_true] at *
 all_goals exact q0l (by simp [*])
theorem l2Shape_any (a b : Int) (w : World) :
  Calls Tryz.prog 51 #[I J a, I J b] w fun e w' => e = .returned (Ac (inB a 1 3 && inB b 0 2)) ∧ w = w' := by
 go_enter Tryz.func51, Tryz.ntmps51;go_wp2_with (go_at_call 25; refine (q7h _ _ _ _).mono ?_; rintro e w' ⟨rfl, rfl⟩);all_goals go_ret
 all_goals refine ⟨?_, rfl⟩
 all_goals simp only [Bool.not_eq_true] at *
 all_goals exact q0l (by simp [*])
def inBs (a p q b r s : Int) : Bool := inB a p q && inB b r s
theorem q7k {a p q b r s : Int} (h : inBs a p q b r s = true) : inB a p q = true ∧ inB b r s = true := by simpa [inBs] using h
theorem z0p {a p q b r s : Int} (h : inBs a p q b r s = false) : inB a p q = false ∨ inB b r s = false := by
 cases e : inB a p q <;> simp [inBs, e] at h ⊢
 exact h
theorem Shp.fault_ofs {s : Shp} (h1 : inBs s.gS 1 4 s.cZ 0 2 = true) (h3 : inBs s.data 1 3 s.spare 0 2 = true) (h5 : inB s.rows 1 6 = true)
  (h6 : inB s.cap 1 6 = true) (h7 : inB s.bT 1 4 = true) (h8 : inB s.qU 1 6 = true) (h9 : inB s.sG 0 400 = true) : (0 : Int) = s.fault :=
 Shp.fault_of (q7k h1).1 (q7k h1).2 (q7k h3).1 (q7k h3).2 h5 h6 h7 h8 h9
theorem Shp.fault_nos {s : Shp} (h : inBs s.gS 1 4 s.cZ 0 2 = false ∨ inBs s.data 1 3 s.spare 0 2 = false ∨ inB s.rows 1 6 = false
  ∨ inB s.cap 1 6 = false ∨ inB s.bT 1 4 = false ∨ inB s.qU 1 6 = false ∨ inB s.sG 0 400 = false) : (3 : Int) = s.fault := by
 rcases h with h | h | h | h | h | h | h
 ·rcases z0p h with h | h <;> exact Shp.fault_no (by simp [h])
 ·rcases z0p h with h | h <;> exact Shp.fault_no (by simp [h])
 all_goals exact Shp.fault_no (by simp [h])
theorem l3Shape_s (a b : Int) (w : World) :
  Calls Tryz.prog 50 #[I J a, I J b] w fun e w' => e = .returned (Ac (inBs a 1 4 b 0 2)) ∧ w = w' := l3Shape_any a b w
theorem l2Shape_s (a b : Int) (w : World) :
  Calls Tryz.prog 51 #[I J a, I J b] w fun e w' => e = .returned (Ac (inBs a 1 3 b 0 2)) ∧ w = w' := l2Shape_any a b w
theorem spec_shape (s : Shp) (w : World) :
  Calls Tryz.prog 20 #[.agg s.cells] w fun e w' => e = .returned (I J s.fault) ∧ w.alloc (Ad s.cells 25) = w' := by
 have HY := hid (@Shp.fault_ofs s);have HN := hid (@Shp.fault_nos s);generalize s.fault = F at HY HN ⊢;obtain ⟨g, c, d, p, r, q, b, u, t⟩ := s;simp only [Shp.cells] at HY HN ⊢;go_enter Tryz.func20, Tryz.ntmps20;go_wp2_with (first | (go_at_call 25; refine (q7h _ _ _ _).mono ?_; rintro e w' ⟨rfl, rfl⟩) | (go_at_call 50; refine (l3Shape_s _ _ _).mono ?_; rintro e w' ⟨rfl, rfl⟩) | (go_at_call 51; refine (l2Shape_s _ _ _).mono ?_; rintro e w' ⟨rfl, rfl⟩));all_goals go_ret
 all_goals refine ⟨?_, rfl⟩
 all_goals simp only [Bool.not_eq_true, Bool.not_eq_true', Bool.not_eq_false'] at *
 all_goals first
  | exact q0i (HY.o (by simp [*]) (by simp [*]) (by simp [*]) (by simp [*]) (by simp [*]) (by simp [*]) (by simp [*]))
  | exact q0i (HN.o (by simp [*]))
theorem q2v (s : Shp) (w : World) :
  Calls Tryz.prog 31 #[.agg s.cells] w fun e w' => e = .returned (I J s.fault) ∧ Chg [] w w' :=
 (impl_shape s w).mono fun _ _ ⟨h1, h2⟩ => ⟨h1, h2 ▸ (Chg.refl [] w).alloc _⟩
theorem q0p (s : Shp) (w : World) :
  Calls Tryz.prog 20 #[.agg s.cells] w fun e w' => e = .returned (I J s.fault) ∧ Chg [] w w' :=
 (spec_shape s w).mono fun _ _ ⟨h1, h2⟩ => ⟨h1, h2 ▸ (Chg.refl [] w).alloc _⟩
def Good (k : Nat) (c : Int) : Prop := (97 ≤ c ∧ c ≤ 122) ∨ (k ≠ 0 ∧ 48 ≤ c ∧ c ≤ 57)
def NameOk (s : ByteArray) : Prop := (1 ≤ s.size ∧ s.size ≤ 8) ∧ ∀ (k : Nat) (h : k < s.size), Good k (s[k].toNat : Int)
open Classical in
noncomputable def q0z (s : ByteArray) : Int := if NameOk s then 0 else 5
theorem q8r {s : ByteArray} {k : Nat} (h : k < s.size) (hb : ¬ Good k (s[k].toNat : Int)) : (5 : Int) = q0z s := by
  rw [q0z, if_neg (fun hn => hb (hn.2 k h))]
theorem name_len {s : ByteArray} (h : ¬ (1 ≤ s.size ∧ s.size ≤ 8)) : (5 : Int) = q0z s := by
  rw [q0z, if_neg (fun hn => h hn.1)]
theorem name_good {s : ByteArray} (h : 1 ≤ s.size ∧ s.size ≤ 8) (hg : ∀ (k : Nat) (h : k < s.size), Good k (s[k].toNat : Int)) : (0 : Int) = q0z s := by
  rw [q0z, if_pos ⟨h, hg⟩]
theorem name_or (s : ByteArray) : q0z s = 0 ∨ q0z s = 5 := by
  unfold q0z; split <;> simp
theorem q9j {s : ByteArray} (h : q0z s = 0) : NameOk s := by
  unfold q0z at h; split at h
  · assumption
  · cases h
def q8l (s : ByteArray) (k : Nat) : Prop := ∀ (j : Nat) (h : j < s.size), j < k → Good j (s[j].toNat : Int)
theorem q9q {s : ByteArray} {k : Nat} (h : q8l s k) (hk : k < s.size) (hg : Good k (s[k].toNat : Int)) : q8l s (k + 1) := by
  intro j hj hjk;by_cases e : j = k
  · subst e; exact hg
  · exact h j hj (by omega)
theorem z0r {s : ByteArray} {k : Nat} (h : q8l s k) (hk : s.size ≤ k) : ∀ (k : Nat) (h : k < s.size), Good k (s[k].toNat : Int) := fun j hj => h j hj (by omega)
theorem impl_name (s : ByteArray) (hs : s.size ≤ maxLen) (w : World) :
    Calls Tryz.prog 32 #[Ab s] w fun e w' => e = .returned (I J (q0z s)) ∧ w = w' := by
  unfold maxLen at hs;go_enter Tryz.func32, Tryz.ntmps32;go_wp2;go_loop [3, 4, 7] (fun _ _ i => ∃ k : Nat, k ≤ s.size ∧ q8l s k ∧ i = I J k) (fun _ _ i => s.size - (intOf i).toNat)
  case atStart => exact ⟨0, by omega, fun j _ h => by omega, rfl⟩
  case round =>
    obtain ⟨k, hk, hg, rfl⟩ := hrel;by_cases hlt : k < s.size
    · have HB : Hid (¬ Good k (s[k].toNat : Int) → (5 : Int) = q0z s) := fun hb => q8r hlt hb
      have HG : Hid (Good k (s[k].toNat : Int) → q8l s (k + 1)) := fun h => q9q hg hlt h
      clear hg;have hc : (s[k].toNat : Int) < 48 ∨ (48 ≤ (s[k].toNat : Int) ∧ (s[k].toNat : Int) ≤ 57) ∨ (57 < (s[k].toNat : Int) ∧ (s[k].toNat : Int) < 97) ∨ (97 ≤ (s[k].toNat : Int) ∧ (s[k].toNat : Int) ≤ 122) ∨ 122 < (s[k].toNat : Int) := by omega
      by_cases h0 : k = 0
      · subst h0;rcases hc with hc | ⟨hc, hc2⟩ | ⟨hc, hc2⟩ | ⟨hc, hc2⟩ | hc
        all_goals
          go_wp2;all_goals first
            | (go_round
               case rel => exact ⟨1, by omega, HG.o (by unfold Good; omega), rfl⟩
               case measure => simp [intOf]; omega)
            | (go_ret; exact ⟨q0i (HB.o (by unfold Good; omega)), rfl⟩)
            | (exfalso; simp_all; done)
            | (exfalso; simp_all; omega)
      · have hk0 : (((k : Nat) : Int) == 0) = false := by rw [beq_eq_false_iff_ne]; omega
        rcases hc with hc | ⟨hc, hc2⟩ | ⟨hc, hc2⟩ | ⟨hc, hc2⟩ | hc
        all_goals
          go_wp2;all_goals first
            | (go_round
               case rel => exact ⟨k + 1, by omega, HG.o (by unfold Good; omega), by go_num⟩
               case measure => simp [intOf]; omega)
            | (go_ret; exact ⟨q0i (HB.o (by unfold Good; omega)), rfl⟩)
            | (exfalso; simp_all; done)
            | (exfalso; simp_all; omega)
    · have ha := z0r hg (by omega);by_cases hl : 1 ≤ s.size ∧ s.size ≤ 8
      · have H := hid (name_good hl ha);obtain ⟨A9, hl2⟩ := hl;clear ha hg;have a1 : (1 : Int) ≤ (s.size : Int) := by omega
        have a2 : (s.size : Int) ≤ 8 := by omega
        go_wp2;go_ret;exact ⟨q0i H.o, rfl⟩
      · have H := hid (name_len hl);clear ha hg;by_cases a1 : (1 : Int) ≤ (s.size : Int)
        · have a2 : (8 : Int) < (s.size : Int) := by omega
          have d1 : decide ((s.size : Int) ≤ 8) = false := by simp; omega
          clear hl;go_wp2;go_ret;exact ⟨q0i H.o, rfl⟩
        · clear hl;go_wp2;go_ret;exact ⟨q0i H.o, rfl⟩
theorem spec_name (s : ByteArray) (hs : s.size ≤ maxLen) (w : World) :
    Calls Tryz.prog 54 #[Ab s] w fun e w' => e = .returned (I J (q0z s)) ∧ w = w' := by
  unfold maxLen at hs;by_cases hl : 1 ≤ s.size ∧ s.size ≤ 8
  · have hlt : 0 < s.size := by omega
    have a1 : (1 : Int) ≤ (s.size : Int) := by omega
    have a2 : (s.size : Int) ≤ 8 := by omega
    have hc : (s[0].toNat : Int) < 97 ∨ 122 < (s[0].toNat : Int) ∨ (97 ≤ (s[0].toNat : Int) ∧ (s[0].toNat : Int) ≤ 122) := by omega
    rcases hc with hc | hc | ⟨hc1, hc2⟩
    · have H := hid (q8r hlt (by unfold Good; omega));clear hl;go_enter Tryz.func54, Tryz.ntmps54;go_wp2;go_ret;exact ⟨q0i H.o, rfl⟩
    · have H := hid (q8r hlt (by unfold Good; omega));clear hl;go_enter Tryz.func54, Tryz.ntmps54;go_wp2;go_ret;exact ⟨q0i H.o, rfl⟩
    · have hl' := hid hl;have hc' : Hid (97 ≤ (s[0].toNat : Int) ∧ (s[0].toNat : Int) ≤ 122) := ⟨hc1, hc2⟩;clear hl;go_enter Tryz.func54, Tryz.ntmps54;go_wp2;clear hc1 hc2;go_loop [3] (fun i => ∃ k : Nat, k ≤ s.size ∧ q8l s k ∧ i = I J k) (fun i => s.size - (intOf i).toNat)
      case atStart => exact ⟨0, by omega, fun j _ h => by omega, rfl⟩
      case round =>
        obtain ⟨k, hk, hg, rfl⟩ := hrel;by_cases hlt : k < s.size
        · have HB : Hid (¬ Good k (s[k].toNat : Int) → (5 : Int) = q0z s) := fun hb => q8r hlt hb
          have HG : Hid (Good k (s[k].toNat : Int) → q8l s (k + 1)) := fun h => q9q hg hlt h
          clear hg;have hc : (s[k].toNat : Int) < 48 ∨ (48 ≤ (s[k].toNat : Int) ∧ (s[k].toNat : Int) ≤ 57) ∨ (57 < (s[k].toNat : Int) ∧ (s[k].toNat : Int) < 97) ∨ (97 ≤ (s[k].toNat : Int) ∧ (s[k].toNat : Int) ≤ 122) ∨ 122 < (s[k].toNat : Int) := by omega
          by_cases h0 : k = 0
          · subst h0;obtain ⟨hc1, hc2⟩ := hc'.out;have Aw : q8l s 1 := HG.o (by unfold Good; omega);clear hc;go_wp2;go_round
            case rel => exact ⟨1, by omega, Aw, rfl⟩
            case measure => simp [intOf]; omega
          · rcases hc with hc | ⟨hc, hc2⟩ | ⟨hc, hc2⟩ | ⟨hc, hc2⟩ | hc
            all_goals
              go_wp2;all_goals first
                | (go_round
                   case rel => exact ⟨k + 1, by omega, HG.o (by unfold Good; omega), by go_num⟩
                   case measure => simp [intOf]; omega)
                | (go_ret; exact ⟨q0i (HB.o (by unfold Good; omega)), rfl⟩)
                | (exfalso; simp_all; done)
                | (exfalso; simp_all; omega)
        · have H := hid (name_good hl'.out (z0r hg (by omega)));clear hg;go_wp2;go_ret;exact ⟨q0i H.o, rfl⟩
  · have H := hid (name_len hl);by_cases a1 : (1 : Int) ≤ (s.size : Int)
    · have a2 : (8 : Int) < (s.size : Int) := by omega
      clear hl;go_enter Tryz.func54, Tryz.ntmps54;go_wp2;go_ret;exact ⟨q0i H.o, rfl⟩
    · clear hl;go_enter Tryz.func54, Tryz.ntmps54;go_wp2;go_ret;exact ⟨q0i H.o, rfl⟩
theorem take_ne {α : Type} {xs ys : List α} {k : Nat} {x y : α} (hx : xs[k]? = some x) (hy : ys[k]? = some y) (h : x ≠ y) : xs ≠ ys := fun e => by
 subst e; exact h (Option.some.inj (hx.symm.trans hy))
noncomputable def q2c {α : Type} (x y : α) : Bool := @decide (x = y) (Classical.propDecidable _)
theorem q1x {α : Type} {x y : α} (h : x = y) : q2c x y = true := by unfold q2c; simp [h]
theorem q0w {α : Type} {x y : α} (h : x ≠ y) : q2c x y = false := by unfold q2c; simp [h]
theorem l6Nums_any (a b : Option Addr) (la ca lb cb : Nat) (xs ys : List Int) (f g : List Nat) (w : World) (ha : intL.sl w a la ca xs f) (hb : intL.sl w b lb cb ys g) :
  Calls Tryz.prog 130 #[Aa a la ca, Aa b lb cb] w fun e w' => e = .returned (Ac (q2c xs ys)) ∧ Chg [] w w' := by
 have hma := intL.sl_max ha;have hmb := intL.sl_max hb;have Ak := hid ha.1;have Aj := hid hb.1;have HA := hid ha;have HB := hid hb;clear ha hb;by_cases hl : la = lb
 ·subst hl;have hne : ((la : Int) != (la : Int)) = false := by simp
  go_enter Tryz.func130, Tryz.ntmps130;go_wp2;go_loopw [5] (fun i wr => ∃ k : Nat, k ≤ la ∧ i = I J k ∧ Chg [] w wr ∧ Hid (xs.take k = ys.take k)) (fun i _ => la - (intOf i).toNat)
  case atStart => exact ⟨0, by omega, rfl, Chg.refl _ _, rfl⟩
  case round =>
   obtain ⟨k, hk, rfl, hc, HT⟩ := hrel;by_cases hlt : k < la
   ·obtain ⟨x, b1, o1, HX, rfl, hcx, _⟩ := q2n (intL.sl_ext HA.o hc) hlt;obtain ⟨y, b2, o2, HY, rfl, hcy, _⟩ := q2n (intL.sl_ext HB.o hc) hlt;by_cases Af : x = y
    ·have Az := hid (show xs.take (k + 1) = ys.take (k + 1) by rw [q1e HX.o.1, q1e HY.o.1, HT.o, Af]);subst Af;have Ap : (x != x) = false := by simp
     have HC := hid hc;clear hc;go_wp2_with fail;go_region;all_goals (try go_wp2)
     all_goals
      go_roundw
      case rel => exact ⟨k + 1, by omega, by go_num, HC.o.drew, Az⟩
      case measure => simp [intOf]; omega
    ·have HF := hid (q0w (take_ne HX.o.1 HY.o.1 Af));have Ap : (x != y) = true := by rw [bne_iff_ne]; exact Af
     have HC := hid hc;clear hc Af;go_wp2_with fail;go_region;all_goals (try go_wp2)
     all_goals
      go_ret;exact ⟨by rw [HF.o]; rfl, HC.o.drew⟩
   ·have Au : k = la := by omega
    subst Au;have HF := hid (q1x (show xs = ys by rw [← AP (l := xs) (i := k) (by have := Ak.o; omega), HT.o, AP (by have := Aj.o; omega)]));have HC := hid hc;clear hc;go_wp2;go_ret;exact ⟨by rw [HF.o]; rfl, HC.o⟩
 ·have hne : ((la : Int) != (lb : Int)) = true := by rw [bne_iff_ne]; omega
  have HF := hid (q0w (show xs ≠ ys from fun e => hl (by rw [Ak.o, Aj.o, e])));clear hl;go_enter Tryz.func130, Tryz.ntmps130;go_wp2;go_ret;exact ⟨by rw [HF.o]; rfl, Chg.refl _ _⟩
theorem slEq_any (a b : Option Addr) (la ca lb cb : Nat) (xs ys : List Int) (f g : List Nat) (w : World) (ha : intL.sl w a la ca xs f) (hb : intL.sl w b lb cb ys g) :
  Calls Tryz.prog 64 #[Aa a la ca, Aa b lb cb] w fun e w' => e = .returned (Ac (q2c xs ys)) ∧ Chg [] w w' := by
 have hma := intL.sl_max ha;have hmb := intL.sl_max hb;have Ak := hid ha.1;have Aj := hid hb.1;have HA := hid ha;have HB := hid hb;clear ha hb;by_cases hl : la = lb
 ·subst hl;have hne : ((la : Int) != (la : Int)) = false := by simp
  go_enter Tryz.func64, Tryz.ntmps64;go_wp2;go_loopw [13] (fun i wr => ∃ k : Nat, k ≤ la ∧ i = I J k ∧ Chg [] w wr ∧ Hid (xs.take k = ys.take k)) (fun i _ => la - (intOf i).toNat)
  case atStart => exact ⟨0, by omega, rfl, Chg.refl _ _, rfl⟩
  case round =>
   obtain ⟨k, hk, rfl, hc, HT⟩ := hrel;by_cases hlt : k < la
   ·obtain ⟨x, b1, o1, HX, rfl, hcx, _⟩ := q2n (intL.sl_ext HA.o hc) hlt;obtain ⟨y, b2, o2, HY, rfl, hcy, _⟩ := q2n (intL.sl_ext HB.o hc) hlt;by_cases Af : x = y
    ·have Az := hid (show xs.take (k + 1) = ys.take (k + 1) by rw [q1e HX.o.1, q1e HY.o.1, HT.o, Af]);subst Af;have Ap : (x != x) = false := by simp
     have HC := hid hc;clear hc;go_wp2_with fail;go_region;all_goals (try go_wp2)
     all_goals
      go_roundw
      case rel => exact ⟨k + 1, by omega, by go_num, HC.o.drew, Az⟩
      case measure => simp [intOf]; omega
    ·have HF := hid (q0w (take_ne HX.o.1 HY.o.1 Af));have Ap : (x != y) = true := by rw [bne_iff_ne]; exact Af
     have HC := hid hc;clear hc Af;go_wp2_with fail;go_region;all_goals (try go_wp2)
     all_goals
      go_ret;exact ⟨by rw [HF.o]; rfl, HC.o.drew⟩
   ·have Au : k = la := by omega
    subst Au;have HF := hid (q1x (show xs = ys by rw [← AP (l := xs) (i := k) (by have := Ak.o; omega), HT.o, AP (by have := Aj.o; omega)]));have HC := hid hc;clear hc;go_wp2;go_ret;exact ⟨by rw [HF.o]; rfl, HC.o⟩
 ·have hne : ((la : Int) != (lb : Int)) = true := by rw [bne_iff_ne]; omega
  have HF := hid (q0w (show xs ≠ ys from fun e => hl (by rw [Ak.o, Aj.o, e])));clear hl;go_enter Tryz.func64, Tryz.ntmps64;go_wp2;go_ret;exact ⟨by rw [HF.o]; rfl, Chg.refl _ _⟩
theorem z0l (a b : Option Addr) (la ca lb cb : Nat) (xs ys : List UInt8) (f g : List Nat) (w : World) (ha : q0o.sl w a la ca xs f) (hb : q0o.sl w b lb cb ys g) :
  Calls Tryz.prog 131 #[Aa a la ca, Aa b lb cb] w fun e w' => e = .returned (Ac (q2c xs ys)) ∧ Chg [] w w' := by
 have hma := q0o.sl_max ha;have hmb := q0o.sl_max hb;have Ak := hid ha.1;have Aj := hid hb.1;have HA := hid ha;have HB := hid hb;clear ha hb;by_cases hl : la = lb
 ·subst hl;have hne : ((la : Int) != (la : Int)) = false := by simp
  go_enter Tryz.func131, Tryz.ntmps131;go_wp2;go_loopw [5] (fun i wr => ∃ k : Nat, k ≤ la ∧ i = I J k ∧ Chg [] w wr ∧ Hid (xs.take k = ys.take k)) (fun i _ => la - (intOf i).toNat)
  case atStart => exact ⟨0, by omega, rfl, Chg.refl _ _, rfl⟩
  case round =>
   obtain ⟨k, hk, rfl, hc, HT⟩ := hrel;by_cases hlt : k < la
   ·obtain ⟨x, X, b1, o1, HX, rfl, hcx, _, _⟩ := q4o (q0o.sl_ext HA.o hc) hlt;obtain ⟨y, Y, b2, o2, HY, rfl, hcy, _, _⟩ := q4o (q0o.sl_ext HB.o hc) hlt;by_cases Af : x = y
    ·have Az := hid (show xs.take (k + 1) = ys.take (k + 1) by rw [q1e HX.o.1, q1e HY.o.1, HT.o, Af]);have hXY : X = Y := by rw [HX.o.2.1, HY.o.2.1, Af]
     subst hXY;have Ap : (X != X) = false := by simp
     have HC := hid hc;clear hc;go_wp2_with fail;go_region;all_goals (try go_wp2)
     all_goals
      go_roundw
      case rel => exact ⟨k + 1, by omega, by go_num, HC.o.drew, Az⟩
      case measure => simp [intOf]; omega
    ·have HF := hid (q0w (take_ne HX.o.1 HY.o.1 Af));have Ap : (X != Y) = true := by rw [bne_iff_ne]; intro e; exact Af (UInt8.toNat_inj.1 (by have h1 := HX.o.2.1; have h2 := HY.o.2.1; omega))
     have HC := hid hc;clear hc Af;go_wp2_with fail;go_region;all_goals (try go_wp2)
     all_goals
      go_ret;exact ⟨by rw [HF.o]; rfl, HC.o.drew⟩
   ·have Au : k = la := by omega
    subst Au;have HF := hid (q1x (show xs = ys by rw [← AP (l := xs) (i := k) (by have := Ak.o; omega), HT.o, AP (by have := Aj.o; omega)]));have HC := hid hc;clear hc;go_wp2;go_ret;exact ⟨by rw [HF.o]; rfl, HC.o⟩
 ·have hne : ((la : Int) != (lb : Int)) = true := by rw [bne_iff_ne]; omega
  have HF := hid (q0w (show xs ≠ ys from fun e => hl (by rw [Ak.o, Aj.o, e])));clear hl;go_enter Tryz.func131, Tryz.ntmps131;go_wp2;go_ret;exact ⟨by rw [HF.o]; rfl, Chg.refl _ _⟩
theorem toList_inj {s t : ByteArray} (h : s.toList = t.toList) : s = t := by
 rw [ByteArray.toList_eq, ByteArray.toList_eq] at h;exact ByteArray.ext (Array.toList_inj.1 h)
theorem z0g {P : Program} {w : World} {a : Option Addr} {la ca : Nat} {xs : List UInt8} {f : List Nat} (h : q0o.sl w a la ca xs f) (src e dst : TypeId)
  (hs : P.underlying src = some (.slice e)) (he : P.underlying e = some (.int .u8)) (hd : P.underlying dst = some .string) :
  (convert src dst (Aa a la ca)).run P w = .ok (Ab ⟨xs.toArray⟩) w := by
 have hl := h.1;by_cases h0 : la = 0
 ·subst h0;obtain rfl : xs = [] := Bi hl.symm;rw [run_convert_bytes_string w src dst e _ 0 ca hs he hd];cases a <;> simp [Conv.bytesToString, loadCells]
  all_goals rfl
 ·obtain ⟨x, X, b, o, _, rfl, _, _, _⟩ := q4o h (i := 0) (by omega);have := run_convert_bytes_arg (P := P) w src e hs he b o la ca (xs.map fun x => (x.toNat : Int)) (by simp [hl]) (fun i hi => by
   obtain ⟨y, Y, b', o', HY, e', hc, _, _⟩ := q4o h hi;obtain ⟨rfl, rfl⟩ : b = b' ∧ o = o' := by simpa using e'
   rw [hc, HY.o.2.1, List.getD_eq_getElem?_getD, B7, HY.o.1]
   rfl) dst hd
  rw [this]
  congr 3
  unfold strOfNums
  congr 2
  rw [BW];exact List.map_id'' (fun y => by simp) xs
theorem byEq_any (a b : Option Addr) (la ca lb cb : Nat) (xs ys : List UInt8) (f g : List Nat) (w : World) (ha : q0o.sl w a la ca xs f) (hb : q0o.sl w b lb cb ys g) :
  Calls Tryz.prog 65 #[Aa a la ca, Aa b lb cb] w fun e w' => e = .returned (Ac (q2c xs ys)) ∧ Chg [] w w' := by
 have h1 := z0g ha 22 5 9 Tryz.underlying22 Tryz.underlying5 Tryz.underlying9;have h2 := z0g hb 22 5 9 Tryz.underlying22 Tryz.underlying5 Tryz.underlying9;obtain ⟨s, hs⟩ : ∃ s : ByteArray, (⟨xs.toArray⟩ : ByteArray) = s := ⟨_, rfl⟩;obtain ⟨t, ht⟩ : ∃ s : ByteArray, (⟨ys.toArray⟩ : ByteArray) = s := ⟨_, rfl⟩;have hst : s = t ↔ xs = ys := by
  rw [← hs, ← ht];constructor
  ·intro h; have h2 := congrArg (fun z : ByteArray => z.data.toList) h; exact h2
  ·intro h; rw [h]
 rw [hs] at h1;rw [ht] at h2;have HST := hid hst;clear ha hb hs ht hst;by_cases Af : s = t
 ·have HF := hid (q1x (HST.o.1 Af));subst Af;go_enter Tryz.func65, Tryz.ntmps65;go_wp2;go_ret;exact ⟨by rw [HF.o]; first | rfl | simp, Chg.refl _ _⟩
 ·have Ai : (s.toList == t.toList) = false := by rw [beq_eq_false_iff_ne]; exact fun h => Af (toList_inj h)
  have HF := hid (q0w (fun h => Af (HST.o.2 h)));go_enter Tryz.func65, Tryz.ntmps65;go_wp2;go_ret;exact ⟨by rw [HF.o]; first | rfl | simp, Chg.refl _ _⟩
theorem new_two (w : World) (x y : Obj) : ((w.alloc x).alloc y).heap[w.heap.size + 1]? = some y := by
 have h := q0k (w.alloc x) y
 simpa using h
theorem q4j.free {w : World} {b : Nat} (h : q4j w b) : ∀ j, w.frozen? ⟨b, j, none⟩ = false := by obtain ⟨cur, E, h⟩ := h; exact q0j h

end Go.Proofs.YthhaednigdgclaaGreat
