/- Several texts in one. -/
import Derived.Test.YtphmpimgbmedbaaGreatVas
import Derived.Test.YtphmpimgbmedbaaGreatVaf
import Derived.Test.YtphmpimgbmedbaaGreatVak
namespace Go.Proofs.YtphmpimgbmedbaaGreat
open Go.RowKit
open Go.Lib (hid)
theorem RowAt.wipe {α : Type} {L : Lay α} {w : World} {b off : Nat} {ps : List (α × List Nat)} (h : RowAt L w b off ps) {i : Nat} (hi : i ≤ ps.length) {vs : List Value} (hv : vs.length = (ps.length - i) * L.n) : RowAt L (w.setCells b (off + i * L.n) vs) b off (ps.take i) := by
 obtain ⟨cur, E, h1, h2, h3⟩ := h
 rcases Nat.eq_zero_or_pos ps.length with h0 | h0
 ·have : vs = [] := List.eq_nil_of_length_eq_zero (by rw [hv, h0]; simp)
  subst this
  refine ⟨cur, E, h1, fun hp => ?_, fun j p hp => ?_⟩
  ·rw [List.length_take] at hp; omega
  ·have := (List.getElem?_eq_some_iff.1 hp).1
   rw [List.length_take] at this; omega
 have hle := h2 h0
 have hmul : i * L.n + (ps.length - i) * L.n = ps.length * L.n := by rw [← Nat.add_mul]; congr 1; omega
 have hsz : off + i * L.n + vs.length ≤ cur.size := by omega
 have htl := setRow_toList vs (off + i * L.n) cur hsz
 have hct : cur.toList.length = cur.size := by simp
 have hs2 : (setRow cur (off + i * L.n) vs).size = cur.size := by
  have h5 := congrArg List.length htl
  rw [Array.length_toList] at h5
  rw [h5, List.length_append, List.length_append, List.length_take, List.length_drop]
  omega
 refine ⟨_, E, setCells_heap vs _ w cur h1, fun hp => ?_, fun j p hp => ?_⟩
 ·rw [hs2, List.length_take, Nat.min_eq_left hi]
  omega
 ·have hj := (List.getElem?_eq_some_iff.1 hp).1
  rw [List.length_take] at hj
  rw [List.getElem?_take_of_lt (by omega)] at hp
  obtain ⟨h4, h5⟩ := h3 j p hp
  refine ⟨?_, h5⟩
  have hjle : (j + 1) * L.n ≤ i * L.n := Nat.mul_le_mul_right _ (by omega)
  rw [Nat.add_mul, Nat.one_mul] at hjle
  have e2 : ((setRow cur (off + i * L.n) vs).toList.drop (off + j * L.n)).take L.n = (cur.toList.drop (off + j * L.n)).take L.n := by
   apply List.ext_getElem?
   intro k
   by_cases hk : k < L.n
   ·rw [List.getElem?_take_of_lt hk, List.getElem?_take_of_lt hk, List.getElem?_drop, List.getElem?_drop, htl]
    rw [List.getElem?_append_left (by rw [List.length_take]; omega), List.getElem?_take_of_lt (by omega)]
   ·rw [List.getElem?_eq_none (by rw [List.length_take]; omega), List.getElem?_eq_none (by rw [List.length_take]; omega)]
  rw [e2]
  exact L.keep h4 (fun y hy => setCells_far (fun (e : y = b) => h5 (e ▸ hy)) vs _ w)
theorem zeros_len (z : Array Value) (n : Nat) : (Builtin.zeroCells z n).toList.length = n * z.size := by unfold Builtin.zeroCells; simp
theorem run_clear_wide {P : Program} (w : World) (t e ty : TypeId) (z : Value) (ht : P.underlying t = some (.slice e)) (hv : ∀ w, (zeroValue e).run P w = .ok z w) (m : Nat) (hz : z.cells.size = m) (hm : 0 < m) (h1 : ∀ u ∈ z.cells, u.oneCell' = true) (b o n c : Nat) (hn : 0 < n)
  (hc : ∀ j, j < n * m → (w.cell? ⟨b, o + j, none⟩).isSome = true) (hf : ∀ j, w.frozen? ⟨b, j, none⟩ = false) :
  (Builtin.clear_ #[t] ty #[.slice (some ⟨b, o, none⟩) n c]).run P w = .ok (.tuple #[]) (w.setCells b o (Builtin.zeroCells z.cells n).toList) := by
 have hst := run_storeCells_cells (P := P) b o (Builtin.zeroCells z.cells n).toList 0 w (fun j hj => by rw [Nat.add_zero]; exact hc j (by rw [zeros_len, hz] at hj; exact hj)) (fun j _ => hf _) (by
  intro v hv'
  unfold Builtin.zeroCells at hv'
  rw [Array.toList_map, List.mem_map] at hv'
  obtain ⟨i, -, rfl⟩ := hv'
  have hi : i % z.cells.size < z.cells.size := Nat.mod_lt _ (by omega)
  rw [getElem!_pos z.cells _ hi]
  exact h1 _ (Array.getElem_mem hi))
 simp only [Nat.add_zero] at hst
 obtain ⟨m2, rfl⟩ : ∃ m, n = m + 1 := ⟨n - 1, by omega⟩
 simp [Builtin.clear_, run_underlying ht, hv, hst]
theorem rec_put {w : World} {b off : Nat} {ps : List RP} (h : RowAt recL w b off ps) {i : Nat} (hi : i < ps.length) {p : RP} {c : List Value} (hr : recL.rep w c p.1 p.2) (hb : b ∉ p.2) : RowAt recL (w.setCells b (off + i * 9) c) b off (ps.set i p) := h.put hi hr hb
theorem rec_wipe {w : World} {b off : Nat} {ps : List RP} (h : RowAt recL w b off ps) {i : Nat} (hi : i ≤ ps.length) {vs : List Value} (hv : vs.length = (ps.length - i) * 9) : RowAt recL (w.setCells b (off + i * 9) vs) b off (ps.take i) := h.wipe hi hv
def DelR (b off cap : Nat) (qs : List RP) (w : World) (e : Ending) (w' : World) : Prop := e = .returned (.slice (some ⟨b, off, none⟩) qs.length cap) ∧ RowAt recL w' b off qs ∧ Chg [b] w w'
theorem filt_all {q : Rec → Bool} {ps : List RP} (h : ∀ p ∈ ps, q p.1 = false) : ps.filter (fun p => !q p.1) = ps := List.filter_eq_self.2 (fun p hp => by rw [h p hp]; rfl)
set_option maxRecDepth 100000 in
set_option maxHeartbeats 4000000 in
theorem delR_any (k : Nat) (caps : Array Value) (q : Rec → Bool) (b off n cap : Nat) (ps0 : List RP) (w : World) (hr : RowAt recL w b off ps0) (hn : n = ps0.length) (hc : n ≤ cap) (hm : cap ≤ maxLen) (hcf : ∀ (args : Array Value) (w : World), (callFunc k args).run Tryz.prog w = .ok (.enter k args) w) (hq : ∀ w1, Chg [b] w w1 → TestsRec k caps q (ps0.map (·.1)) w1) :
  Calls Tryz.prog 158 #[.slice (some ⟨b, off, none⟩) n cap, .func (.func k) #[] caps] w (DelR b off cap (ps0.filter (fun p => !q p.1)) w) := by
 have hsl := hr.sl hn hc hm
 have HI := hid (idxRec_any k caps q _ _ _ _ _ w hsl hcf (hq w (Chg.refl _ _)))
 have HR := hid hr; have HN := hid hn; have HQ := hid hq
 simp only [maxLen] at hm
 clear hsl hr hn hq
 go_enter Tryz.func158, Tryz.ntmps158
 go_wp2_with fail
 refine HI.out.mono ?_
 rintro e w0 ⟨r, rfl, HK, hc0⟩
 rcases HK.out with ⟨rfl, hall⟩ | ⟨k0, rfl, ⟨x0, hx0, hq0⟩, hall⟩
 ·have HF := hid (show ps0.filter (fun p => !q p.1) = ps0 from filt_all (fun p hp => by have := List.any_eq_false.1 hall p.1 (List.mem_map.2 ⟨p, hp, rfl⟩); simpa using this))
  have HC := hid hc0
  clear hall hc0 HK
  go_wp2_with fail
  go_ret
  exact ⟨by rw [HF.out, ← HN.out]; rfl, by rw [HF.out]; exact HR.out.ext HC.out, HC.out.mono (by simp)⟩
 ·have hne : ((k0 : Int) == -1) = false := by simp
  have hk0 : k0 < n := by have := (List.getElem?_eq_some_iff.1 hx0).1; rw [List.length_map] at this; rw [HN.out]; exact this
  have HK0 := hid (show ps0.take k0 = (ps0.take (k0 + 1)).filter (fun p => !q p.1) by
   obtain ⟨p, hp, e⟩ : ∃ p, ps0[k0]? = some p ∧ p.1 = x0 := by rw [List.getElem?_map] at hx0; cases h : ps0[k0]? with | none => rw [h] at hx0; cases hx0 | some p => rw [h] at hx0; exact ⟨p, rfl, Option.some.inj hx0⟩
   rw [take_next hp, List.filter_append, filt_all (fun y hy => by
    obtain ⟨i, hi, rfl⟩ := List.getElem_of_mem hy
    rw [List.length_take] at hi
    exact hall i _ (by omega) (by rw [List.getElem?_map, List.getElem_take, List.getElem?_eq_getElem (by omega)]; rfl)), List.filter_cons_of_neg (by rw [e, hq0]; simp)]
   simp)
  have HC := hid hc0
  clear hx0 hq0 hall HK hc0 HI
  go_wp2_with fail
  go_loopw [5, 6] (fun vi vj wr => ∃ (i j : Nat) (ps : List RP) (Wr : World), Wr = wr ∧ vi = .int .i64 i ∧ vj = .int .i64 j ∧ i < j ∧ j ≤ n ∧ ps.length = n ∧ RowAt recL wr b off ps ∧ Hid (ps.take i = (ps0.take j).filter (fun p => !q p.1)) ∧ Hid (ps.drop j = ps0.drop j) ∧ Chg [b] w wr) (fun _ vj _ => n - (intOf vj).toNat)
  case atStart => exact ⟨k0, k0 + 1, ps0, _, rfl, rfl, by go_num, by omega, by omega, HN.out.symm, HR.out.ext HC.out, HK0, hid rfl, HC.out.mono (by simp)⟩
  case round =>
   obtain ⟨i, j, ps, wr, rfl, rfl, rfl, hij, hj, hpl, hrow, HT, HD, hch⟩ := hrel
   have HRW := hid hrow; have HCH := hid hch; have HPL := hid hpl
   have hbl := hrow.lt
   clear hch
   by_cases hlt : j < n
   ·obtain ⟨p, hp⟩ : ∃ p, ps[j]? = some p := ⟨_, List.getElem?_eq_getElem (by omega)⟩
    obtain ⟨cl, ry, hbp, ky⟩ := rec_look hrow hp
    obtain ⟨a6, l6, c6, f6, a7, l7, c7, f7, a8, l8, c8, f8, hcl, -⟩ := recL_iff.1 ry
    have hp0 : ps0[j]? = some p := by
     have h1 := congrArg (fun l => l[0]?) HD.out
     simp only [List.getElem?_drop, Nat.add_zero, hp] at h1
     exact h1.symm
    have HT3 := hid (show Calls Tryz.prog k (#[.agg cl.toArray] ++ caps) (wr.alloc (.cells cl.toArray 67)) (fun e w' => e = .returned (.bool (q p.1)) ∧ Chg [] (wr.alloc (.cells cl.toArray 67)) w') by
     have h1 := recL.ext ry ((Chg.refl [] wr).alloc (.cells cl.toArray 67))
     subst hcl
     exact HQ.out wr HCH.out p.1 a6 l6 c6 a7 l7 c7 a8 l8 c8 p.2 _ (List.mem_map.2 ⟨p, List.mem_of_getElem? hp0, rfl⟩) ((Chg.refl [] wr).alloc _) h1)
    have HKA := hid (show cl.toArray.size = 9 ∧ cl.toArray.toList.all Value.oneCell' = true from ⟨by simpa using ky.1, List.all_eq_true.2 (fun v hv => ky.2.2 v (by simpa using hv))⟩)
    have HP := hid (And.intro ry hbp); have HP0 := hid hp0; have HKY := hid ky
    have HD2 := hid (show ps.drop (j + 1) = ps0.drop (j + 1) by have h1 := congrArg (List.drop 1) HD.out; rw [List.drop_drop, List.drop_drop] at h1; exact h1)
    clear hrow hp ry hbp ky hp0 hpl hcl
    have HC0 := hid ((Chg.refl [] wr).alloc (.cells cl.toArray 67))
    cases hqx : q p.1
    ·rw [hqx] at HT3
     have HQX := hid hqx
     clear hqx
     go_wp2_with (first | (refine load_rowL rfl _ 67 rfl rfl infoRc Tryz.underlying67 HKY.out.2.1 HKY.out.1 ?_) | (refine store_new rfl _ _ 67 rfl rfl rfl (by simp) infoRc HKA.out.1 rfl HKA.out.2 ?_) | (refine load_wide rfl _ 67 rfl rfl infoRc Tryz.underlying67 (new_alloc _ _) HKA.out.1 ?_))
     refine HT3.out.mono ?_
     rintro e w3 ⟨rfl, hc3⟩
     have HB3 := hid (hc3.keep0 (new_alloc wr (.cells cl.toArray 67)))
     have HC3 := hid (HC0.out.trans0 hc3)
     have HRW3 := hid (HRW.out.ext HC3.out)
     have HIS := hid (rec_some HRW3.out (i := i) (by have := HPL.out; omega)); have HFR := hid HRW3.out.free
     have HPUT := hid (show RowAt recL (w3.setCells b (off + i * 9) cl) b off (ps.set i p) from rec_put HRW3.out (by have := HPL.out; omega) (recL.ext HP.out.1 HC3.out) HP.out.2)
     have HN1 := hid (show (ps.set i p).take (i + 1) = (ps0.take (j + 1)).filter (fun p => !q p.1) by
      rw [take_next HP0.out, List.filter_append, ← HT.out, take_next (show (ps.set i p)[i]? = some p by rw [List.getElem?_set_self (by have := HPL.out; omega)]), List.take_set_of_le (Nat.le_refl _), List.filter_cons_of_pos (by rw [HQX.out]; rfl)]
      rfl)
     have HN2 := hid (show (ps.set i p).drop (j + 1) = ps0.drop (j + 1) by rw [List.drop_set_of_lt (by omega)]; exact HD2.out)
     clear hc3
     go_wp2_with (first | (refine load_wide rfl _ 67 rfl rfl infoRc Tryz.underlying67 HB3.out HKA.out.1 ?_) | (refine store_rowL rfl _ _ 67 rfl rfl rfl infoRc HIS.out HFR.out HKY.out.1 HKY.out.2.2 ?_))
     go_roundw
     case rel => exact ⟨i + 1, j + 1, ps.set i p, _, rfl, by go_num, by go_num, by omega, by omega, by rw [List.length_set]; exact HPL.out, HPUT.out, HN1, HN2, (HCH.out.trans0 HC3.out).setCells (.inl (by simp)) _ _⟩
     case measure => simp [intOf]; omega
    ·rw [hqx] at HT3
     have HN1 := hid (show ps.take i = (ps0.take (j + 1)).filter (fun p => !q p.1) by rw [take_next HP0.out, List.filter_append, HT.out, List.filter_cons_of_neg (by rw [hqx]; simp)]; simp)
     clear hqx
     go_wp2_with (first | (refine load_rowL rfl _ 67 rfl rfl infoRc Tryz.underlying67 HKY.out.2.1 HKY.out.1 ?_) | (refine store_new rfl _ _ 67 rfl rfl rfl (by simp) infoRc HKA.out.1 rfl HKA.out.2 ?_) | (refine load_wide rfl _ 67 rfl rfl infoRc Tryz.underlying67 (new_alloc _ _) HKA.out.1 ?_))
     refine HT3.out.mono ?_
     rintro e w3 ⟨rfl, hc3⟩
     have HC3 := hid (HC0.out.trans0 hc3)
     clear hc3
     go_wp2_with fail
     go_roundw
     case rel => exact ⟨i, j + 1, ps, _, rfl, rfl, by go_num, by omega, by omega, HPL.out, HRW.out.ext HC3.out, HN1, HD2, HCH.out.trans0 HC3.out⟩
     case measure => simp [intOf]; omega
   ·obtain rfl : j = n := by omega
    have hltz : ¬ (j : Int) < (j : Int) := by omega
    have hfull : ps.take i = ps0.filter (fun p => !q p.1) := by rw [HT.out, List.take_of_length_le (by have := HN.out; omega)]
    obtain ⟨ZS, hZS⟩ : ∃ ZS, ZS = (Builtin.zeroCells (Value.cells (.agg #[.int .i64 0, .int .i64 0, .string ⟨#[]⟩, .int .i64 0, .int .i64 0, .int .i64 0, .slice none 0 0, .slice none 0 0, .slice none 0 0])) (j - i)).toList := ⟨_, rfl⟩
    have hcl2 : ∀ ty, (Builtin.clear_ #[44] ty #[.slice (some ⟨b, off + i * 9, none⟩) (j - i) (cap - i)]).run Tryz.prog wr = .ok (.tuple #[]) (wr.setCells b (off + i * 9) ZS) := fun ty => by
     rw [hZS]
     refine run_clear_wide wr _ _ ty _ Tryz.underlying44 Tryz.zeroValue67 9 rfl (by omega) (by simp [Value.cells, Value.oneCell']) b (off + i * 9) _ _ (by omega) (fun t ht => ?_) hrow.free
     have h1 := rec_some hrow (i := i + t / 9) (by omega) (t % 9) (Nat.mod_lt _ (by omega))
     have e : off + (i + t / 9) * 9 + t % 9 = off + i * 9 + t := by
      have := Nat.div_add_mod t 9
      omega
     rw [e] at h1; exact h1
    have hwp : RowAt recL (wr.setCells b (off + i * 9) ZS) b off (ps.take i) := rec_wipe hrow (by omega) (by rw [hZS, zeros_len, hpl]; rfl)
    rw [hfull] at hwp
    have HQ2 := hid (And.intro hwp (show (ps0.filter (fun p => !q p.1)).length = i by rw [← hfull, List.length_take]; omega))
    clear hwp hfull hrow hZS hpl
    go_wp2_with fail
    go_ret
    exact ⟨by rw [HQ2.out.2]; rfl, HQ2.out.1, HCH.out.setCells (.inl (by simp)) _ _⟩
theorem cellKeepT {S : List Nat} {w w' : World} (hc : Chg S w w') {b o : Nat} {v : Value} (h : w.cell? ⟨b, o, none⟩ = some v) (hb : b < w.heap.size) (hS : b ∉ S) : w'.cell? ⟨b, o, none⟩ = some v := by
 rw [cell_same (hc.block b hb hS)]; exact h
theorem setCell_id {w : World} {b o : Nat} {v : Value} (hlo : Loose w b) (h : w.cell? ⟨b, o, none⟩ = some v) : w.setCell ⟨b, o, none⟩ v = w := by
 obtain ⟨cur, E, hb⟩ := hlo
 rw [cellsOf hb] at h
 have hc : cur.setIfInBounds o v = cur := by
  apply Array.ext_getElem?
  intro j
  rw [Array.getElem?_setIfInBounds]
  by_cases e : o = j
  ·subst e; rw [if_pos rfl, h, if_pos (Array.getElem?_eq_some_iff.1 h).1]
  ·rw [if_neg e]
 have h1 := heap_setCell_same (o := o) (v := v) hb
 rw [hc] at h1
 have h2 : (w.setCell ⟨b, o, none⟩ v).heap = w.heap := by
  apply Array.ext_getElem?
  intro k
  by_cases e : k = b
  ·subst e; rw [h1, hb]
  ·exact setCells_far (vs := [v]) e o w
 cases w
 unfold World.setCell at h2 ⊢
 simp only at h2 ⊢
 rw [h2]
def Struck (B : Nat) (w : World) (f : List Nat) (xs : List Rec) (v : Value) (wz : World) : Prop :=
 ∃ a l c f', v = .slice a l c ∧ recL.sl wz a l c xs f' ∧ Fresh B wz f' ∧ (∀ y ∈ f', y ∈ f ∨ w.heap.size ≤ y) ∧ Chg f w wz
theorem Struck.since {B : Nat} {w0 w wz : World} {f : List Nat} {xs : List Rec} {v : Value} (h : Struck B w f xs v wz) (hc : Chg [] w0 w) : Struck B w0 f xs v wz := by
 obtain ⟨a, l, c, f', h0, h1, h2, h3, h4⟩ := h
 exact ⟨a, l, c, f', h0, h1, h2, fun y hy => by rcases h3 y hy with h | h; exact .inl h; exact .inr (Nat.le_trans hc.size h), (hc.mono (T := f) (by simp)).trans h4 (fun y hy => .inl hy)⟩
theorem Struck.chg {B : Nat} {w wz : World} {f : List Nat} {xs : List Rec} {v : Value} (h : Struck B w f xs v wz) : Chg f w wz := by obtain ⟨_, _, _, _, _, _, _, _, h⟩ := h; exact h
theorem tap_struck {x : Wld} {B t : Nat} {wk : World} {b off m12 d12 : Nat} {g10 g11 g12 : List Nat}
  (h12 : tapL.sl wk (some ⟨b, off, none⟩) m12 d12 x.tapes g12) (hf : Fresh B wk (g10 ++ (g11 ++ (g12 ++ [])))) (hB : B ≤ wk.heap.size) (ht : t < m12) :
  ∃ (X : Tap) (f : List Nat) (a : Option Addr) (l c : Nat), x.tapes[t]? = some X ∧ b ∈ g12 ∧ wk.cell? ⟨b, off + t * 2 + 1, none⟩ = some (.slice a l c) ∧ recL.sl wk a l c X.recs f ∧ Fresh B wk f ∧ (∀ y ∈ f, y ∈ g12) ∧ b ∉ f ∧
   ∀ ys v wz, Struck B wk f ys v wz → ∃ fp', tapL.sl (wz.setCell ⟨b, off + t * 2 + 1, none⟩ v) (some ⟨b, off, none⟩) m12 d12 (x.tapes.set t ⟨X.wiped, ys⟩) fp' ∧
    Fresh B (wz.setCell ⟨b, off + t * 2 + 1, none⟩ v) (g10 ++ (g11 ++ (fp' ++ []))) ∧ (∀ y ∈ fp', y ∈ g12 ∨ wk.heap.size ≤ y) ∧ Chg (b :: f) wk (wz.setCell ⟨b, off + t * 2 + 1, none⟩ v) := by
 have nd := List.nodup_append.1 hf.1; have nd2 := List.nodup_append.1 nd.2.1; have nd3 := List.nodup_append.1 nd2.2.1
 obtain ⟨X, f, cs, hX, hb, hc, hr, hfs, hfn, hbf, hup⟩ := tapL.sl_putO h12 nd3.1 ht
 obtain ⟨a, l, c, f1, ecs, h1, rfl⟩ := tapL_iff.1 hr
 subst ecs
 have hsub : ∀ y ∈ f, y ∈ g10 ++ (g11 ++ (g12 ++ [])) := fun y hy => by simp [hfs y hy]
 refine ⟨X, f, a, l, c, hX, hb, hc 1 (by decide), h1, ⟨hfn, fun y hy => hf.2 y (hsub y hy)⟩, hfs, hbf, fun ys v wz hA => ?_⟩
 obtain ⟨a', l', c', f', rfl, q1, q2, q3, q4⟩ := hA
 have hlt12 : ∀ y ∈ g12, y < wk.heap.size := tapL.sl_lt h12
 have hbb : wz.heap[b]? = wk.heap[b]? := q4.block b (hlt12 b hb) hbf
 have hlo : Loose wz b := by
  obtain ⟨cur, E, hbw⟩ := (hf.2 b (by simp [hb])).2
  exact ⟨cur, E, by rw [hbb]; exact hbw⟩
 have hcell0 : wz.cell? ⟨b, off + t * 2, none⟩ = some (.bool X.wiped) := by
  rw [cell_same hbb]; exact hc 0 (by decide)
 obtain ⟨fp', r1, r2, r3⟩ := hup wz [.bool X.wiped, .slice a' l' c'] ⟨X.wiped, ys⟩ f' hbb (tapL_iff.2 ⟨a', l', c', f', rfl, q1, rfl⟩) q2.1 (fun y hy => by
   rcases q3 y hy with h | h
   ·exact .inl h
   ·exact .inr (fun h2 => by have := hlt12 y h2; omega)) (fun y hy hyf => q4.block y (hlt12 y hy) hyf)
 have e : wz.setCells b (off + t * tapL.n) [.bool X.wiped, .slice a' l' c'] = wz.setCell ⟨b, off + t * 2 + 1, none⟩ (.slice a' l' c') := by
  show (wz.setCell ⟨b, off + t * 2, none⟩ (.bool X.wiped)).setCell ⟨b, off + t * 2 + 1, none⟩ (.slice a' l' c') = _
  rw [setCell_id hlo hcell0]
 rw [e] at r1
 have cb : Chg [b] wz (wz.setCell ⟨b, off + t * 2 + 1, none⟩ (.slice a' l' c')) := (Chg.refl _ _).setCell _ _ (.inl (by simp))
 have cW : Chg (b :: f) wk (wz.setCell ⟨b, off + t * 2 + 1, none⟩ (.slice a' l' c')) := (q4.mono (T := b :: f) (fun y hy => .inl (List.mem_cons_of_mem _ hy))).trans cb (fun y hy => .inl (by simp at hy ⊢; exact .inl hy))
 have hm : ∀ y ∈ fp', y ∈ g12 ∨ wk.heap.size ≤ y := fun y hy => by
  rcases r3 y hy with ⟨h, -⟩ | h
  ·exact .inl h
  ·rcases q3 y h with h | h
   ·exact .inl (hfs y h)
   ·exact .inr h
 refine ⟨fp', r1, (hf.chg cW).swap3 r2 (fun y hy => ?_), hm, cW⟩
 rcases r3 y hy with ⟨h, -⟩ | h
 ·exact .inl h
 ·by_cases hg : y ∈ g12
  ·exact .inl hg
  ·rcases q3 y h with h1 | h1
   ·exact absurd (hfs y h1) hg
   ·exact .inr ⟨fun h2 => by
     have : y < wk.heap.size := hf.lts y h2
     omega, Nat.le_trans hB h1, cb.loose y (q2.2 y h).2⟩
set_option maxRecDepth 100000 in
set_option maxHeartbeats 2000000 in
theorem stk1_any (x : Rec) (kd sq : Int) (B1 B2 : Nat) {a6 a7 a8 : Option Addr} {l6 c6 l7 c7 l8 c8 : Nat} (w : World) (h1 : w.heap[B1]? = some (.cells #[.int .i64 kd] 2 (0, 0))) (h2 : w.heap[B2]? = some (.cells #[.int .i64 sq] 2 (0, 0))) :
  Calls Tryz.prog 159 #[.agg #[.int .i64 x.kind, .int .i64 x.seq, .string x.name, .int .i64 x.length, .int .i64 x.group, .int .i64 x.row, .slice a6 l6 c6, .slice a7 l7 c7, .slice a8 l8 c8], .pointer (some ⟨B1, 0, none⟩), .pointer (some ⟨B2, 0, none⟩)] w fun e w' => e = .returned (.bool (pb (x.kind = kd ∧ x.seq = sq))) ∧ Chg [] w w' := by
 have c1 := cellsOf h1; have l1 := ltOf h1; have c2 := cellsOf h2; have l2 := ltOf h2
 have G0 := hid ((Chg.refl [] w).alloc (.cells #[.int .i64 x.kind, .int .i64 x.seq, .string x.name, .int .i64 x.length, .int .i64 x.group, .int .i64 x.row, .slice a6 l6 c6, .slice a7 l7 c7, .slice a8 l8 c8] 67))
 clear h1 h2
 by_cases h3 : x.kind = kd
 ·have hb3 : (x.kind == kd) = true := by simp [h3]
  by_cases h4 : x.seq = sq
  ·have hb4 : (x.seq == sq) = true := by simp [h4]
   have HR := hid (show pb (x.kind = kd ∧ x.seq = sq) = true from pb_true ⟨h3, h4⟩)
   clear h3 h4
   rw [HR.out]
   go_enter Tryz.func159, Tryz.ntmps159
   go_wp2_with fail
   go_ret
   exact ⟨rfl, G0.out⟩
  ·have hb4 : (x.seq == sq) = false := by simp [h4]
   have HR := hid (show pb (x.kind = kd ∧ x.seq = sq) = false from pb_false (fun h => h4 h.2))
   clear h3 h4
   rw [HR.out]
   go_enter Tryz.func159, Tryz.ntmps159
   go_wp2_with fail
   go_ret
   exact ⟨rfl, G0.out⟩
 ·have hb3 : (x.kind == kd) = false := by simp [h3]
  have HR := hid (show pb (x.kind = kd ∧ x.seq = sq) = false from pb_false (fun h => h3 h.1))
  clear h3
  rw [HR.out]
  go_enter Tryz.func159, Tryz.ntmps159
  go_wp2_with fail
  go_ret
  exact ⟨rfl, G0.out⟩
theorem cf_stk1 : ∀ (args : Array Value) (w : World), (callFunc 159 args).run Tryz.prog w = .ok (.enter 159 args) w := fun _ _ => by go_simp
theorem filt_fps {q : RP → Bool} : ∀ ps : List RP, ((ps.filter q).flatMap (·.2)).Sublist (ps.flatMap (·.2))
 | [] => List.Sublist.refl _
 | p :: ps => by
  rw [List.filter_cons]
  split
  ·rw [List.flatMap_cons, List.flatMap_cons]; exact (List.Sublist.refl _).append (filt_fps ps)
  ·rw [List.flatMap_cons]; exact (filt_fps ps).trans (List.sublist_append_right _ _)
set_option maxRecDepth 100000 in
set_option maxHeartbeats 1000000 in
theorem delS_any (k : Nat) (caps : Array Value) (q : Rec → Bool) (B : Nat) (a : Option Addr) (l c : Nat) (xs : List Rec) (f : List Nat) (w : World) (hs : recL.sl w a l c xs f) (hfr : Fresh B w f) (hcf : ∀ (args : Array Value) (w : World), (callFunc k args).run Tryz.prog w = .ok (.enter k args) w) (hq : ∀ w1, Chg f w w1 → TestsRec k caps q xs w1) :
  Calls Tryz.prog 158 #[.slice a l c, .func (.func k) #[] caps] w fun e w' => ∃ v, e = .returned v ∧ Struck B w f (xs.filter (fun r => !q r)) v w' := by
 have hs0 := hs
 obtain ⟨h1, h2, h3, h4, ⟨rfl, rfl⟩ | ⟨g, off, cur, E, fr, fps, rfl, hb, hall, rfl⟩⟩ := hs
 ·have HI := hid (idxRec_any k caps q a l c [] [] w hs0 hcf (hq w (Chg.refl _ _)))
  have HS := hid hs0
  clear h1 h2 h3 h4 hs0 hq hfr
  go_enter Tryz.func158, Tryz.ntmps158
  go_wp2_with fail
  refine HI.out.mono ?_
  rintro e w0 ⟨r, rfl, HK, hc0⟩
  obtain rfl : r = -1 := by
   rcases HK.out with ⟨rfl, -⟩ | ⟨k0, -, ⟨x0, hx0, -⟩, -⟩
   ·rfl
   ·simp at hx0
  have HC := hid hc0
  clear hc0 HK
  go_wp2_with fail
  go_ret
  exact ⟨_, rfl, a, l, c, [], rfl, recL.sl_ext HS.out HC.out, Fresh.nil _ _, by simp, HC.out⟩
 ·have hnd := List.nodup_cons.1 hfr.1
  obtain ⟨ps, hrow, hpm, hpf⟩ := Lay.sl_row hs0 (hfr.2 g (by simp)).2 ⟨fps, rfl, hnd.1⟩
  have hpl : l = ps.length := by rw [h1, ← hpm, List.length_map]
  refine (delR_any k caps q g off l c ps w hrow hpl h2 h3 hcf (fun w1 hc1 => by rw [hpm]; exact hq w1 (hc1.mono (fun y hy => .inl (by simp at hy ⊢; exact .inl hy))))).mono ?_
  rintro e w' ⟨rfl, hr, hc⟩
  have e1 : (ps.filter (fun p => !q p.1)).map (·.1) = xs.filter (fun r => !q r) := by rw [← hpm, filter_map']
  have hsl := hr.sl rfl (Nat.le_trans (List.length_filter_le _ _) (by rw [← hpl]; exact h2)) h3
  rw [e1] at hsl
  have hsub : (g :: (ps.filter (fun p => !q p.1)).flatMap (·.2)).Sublist (g :: fps) := by
   rw [(List.cons.inj hpf).2]; exact (filt_fps ps).cons_cons g
  exact ⟨_, rfl, _, _, _, _, rfl, hsl, (hfr.chg (hc.mono (T := g :: fps) (fun y hy => .inl (by simp at hy ⊢; exact .inl hy)))).sub hsub, fun y hy => .inl (hsub.subset hy), hc.mono (fun y hy => .inl (by simp at hy ⊢; exact .inl hy))⟩
set_option maxRecDepth 100000 in
set_option maxHeartbeats 4000000 in
theorem strk_c (B m n1 n2 n3 n4 b off t m12 d12 : Nat) (kd sq : Int) (f : List Nat) (xs : List Rec) {a : Option Addr} {l c : Nat} {z0 z1 z2 z3 z4 z5 z6 z7 z8 z9 z10 z14 : Value} {wr st : Int} (w : World)
  (h1 : w.heap[n1]? = some (.cells #[.pointer (some ⟨m, 0, none⟩)] 97 (0, 0))) (h2 : w.heap[n2]? = some (.cells #[.int .i64 t] 2 (0, 0))) (h3 : w.heap[n3]? = some (.cells #[.int .i64 kd] 2 (0, 0))) (h4 : w.heap[n4]? = some (.cells #[.int .i64 sq] 2 (0, 0))) (h : w.heap[m]? = some (.cells #[z0, z1, z2, z3, z4, z5, z6, z7, z8, z9, z10, .slice (some ⟨b, off, none⟩) m12 d12, .int .i64 wr, .int .i64 st, z14] 34 (0, 0))) (htm : t < m12)
  (hv1 : w.cell? ⟨b, off + t * 2 + 1, none⟩ = some (.slice a l c)) (hlo : Loose w b) (hs : recL.sl w a l c xs f) (hfr : Fresh B w f) (hbf : b ∉ f) (h3f : n3 ∉ f) (h4f : n4 ∉ f) :
  Calls Tryz.prog 157 #[.pointer (some ⟨n1, 0, none⟩), .pointer (some ⟨n2, 0, none⟩), .pointer (some ⟨n3, 0, none⟩), .pointer (some ⟨n4, 0, none⟩)] w fun e w' => e = .returned (.tuple #[]) ∧ ∃ v wz, Struck B w f (xs.filter (fun r => !pb (r.kind = kd ∧ r.seq = sq))) v wz ∧ w' = wz.setCell ⟨b, off + t * 2 + 1, none⟩ v := by
 have g0 : Chg [] w w.drew := (Chg.refl [] w).drew
 have H1 := hid (keep_drew h1); have H2 := hid (keep_drew h2); have HM := hid (keep_drew h); have HV := hid (cellKeep g0 hv1 hlo.lt)
 have HD := hid (delS_any 159 #[.pointer (some ⟨n3, 0, none⟩), .pointer (some ⟨n4, 0, none⟩)] (fun x => pb (x.kind = kd ∧ x.seq = sq)) B a l c xs f w.drew (recL.sl_ext hs g0) (hfr.chg g0) cf_stk1 (fun w1 hc1 x a6 l6 c6 a7 l7 c7 a8 l8 c8 fx w2 _ hc2 _ => stk1_any x kd sq n3 n4 w2 (hc2.keep0 (hc1.keepb (keep_drew h3) h3f)) (hc2.keep0 (hc1.keepb (keep_drew h4) h4f))))
 have G0 := hid g0; have HLO := hid (g0.loose b hlo); have HBF := hid hbf
 clear h1 h2 h3 h4 h hv1 hlo hs hfr hbf h3f h4f g0
 go_enter Tryz.func157, Tryz.ntmps157
 go_wp2_with fail
 obtain ⟨SS1, HSI1, HSO1⟩ := rg_cond (fun w' => Know n1 #[.pointer (some ⟨m, 0, none⟩)] w' ∧ Know n2 #[.int .i64 t] w' ∧ Know m #[z0, z1, z2, z3, z4, z5, z6, z7, z8, z9, z10, .slice (some ⟨b, off, none⟩) m12 d12, .int .i64 wr, .int .i64 st, z14] w')
 have hS0 := HSI1.out _ ⟨(Know.of H1.out), (Know.of H2.out), (Know.of HM.out)⟩
 refine rg_start SS1 (by kernel_rfl) hS0 ?_
 refine rgL 0 hS0 HSO1 ?_
 refine rgT 1 hS0 ?_
 refine rgT 2 hS0 ?_
 refine rgL 3 hS0 HSO1 ?_
 refine rgL 4 hS0 HSO1 ?_
 refine rgT 5 hS0 ?_
 refine rgT 6 hS0 ?_
 refine wpAnyH_done (by kernel_rfl) ?_ _
 have hv := HV.out
 go_wp2_with fail
 refine HD.out.mono ?_
 rintro e w5 ⟨v, rfl, hst⟩
 obtain ⟨a5, l5, c5, f5, rfl, -⟩ := id hst
 have hlb : Loose w5 b := hst.chg.loose b HLO.out
 have hcell := cellKeepT hst.chg HV.out HLO.out.lt HBF.out
 have hfb := hlb.free
 have HS5 := hid (hst.since G0.out)
 clear hst hv hlb
 go_wp2_with fail
 refine bodyPost_end (v := .tuple #[]) (by simp [results, Tryz.results157, go_sem]) rfl ⟨rfl, _, w5, HS5.out, rfl⟩
set_option maxHeartbeats 2000000 in
theorem rawe_ok1 (m : Nat) (c0 c1 c2 c3 : Value) {z0 z1 z2 z3 z4 z5 z6 z7 z8 z9 z10 z11 z14 : Value} {wr st : Int} (w : World) (R : World → Prop) (h : w.heap[m]? = some (.cells #[z0, z1, z2, z3, z4, z5, z6, z7, z8, z9, z10, z11, .int .i64 wr, .int .i64 st, z14] 34 (0, 0))) (h1 : st = -1) (hw : 0 ≤ wr ∧ wr ≤ 1000000000)
  (hF : Calls Tryz.prog 157 #[c0, c1, c2, c3] w.drew fun e w' => e = .returned (.tuple #[]) ∧ R w') (hR : ∀ w', R w' → w'.heap[m]? = some (.cells #[z0, z1, z2, z3, z4, z5, z6, z7, z8, z9, z10, z11, .int .i64 wr, .int .i64 st, z14] 34 (0, 0))) :
  Calls Tryz.prog 156 #[.pointer (some ⟨m, 0, none⟩), .func (.func 157) #[] #[c0, c1, c2, c3]] w fun e w' => e = .returned (.bool true) ∧ ∃ w1, R w1 ∧ w' = w1.setCell ⟨m, 12, none⟩ (.int .i64 (wr + 1)) := by
 have hne : ((st : Int) != -1) = false := by simp [h1]
 have HM := hid h; have HRR := hid hR; have HFF := hid hF
 have H1 := hid h1
 clear h hR hF h1
 go_enter Tryz.func156, Tryz.ntmps156
 go_wp2_with fail
 obtain ⟨SS1, HSI1, HSO1⟩ := rg_cond (fun w' => Know m #[z0, z1, z2, z3, z4, z5, z6, z7, z8, z9, z10, z11, .int .i64 wr, .int .i64 st, z14] w')
 have hS0 := HSI1.out _ (Know.of (keep_drew HM.out))
 refine rg_start SS1 (by kernel_rfl) hS0 ?_
 refine rgT 0 hS0 ?_
 refine rgT 1 hS0 ?_
 refine rgT 2 hS0 ?_
 refine rgL 3 hS0 HSO1 ?_
 refine rgT 4 hS0 ?_
 refine rgT 5 hS0 ?_
 refine rgS 6 hS0 ?_
 refine rgS 7 hS0 ?_
 refine rgS 8 hS0 ?_
 refine rgS 9 hS0 ?_
 refine rgS 10 hS0 ?_
 refine rgS 11 hS0 ?_
 refine rgS 12 hS0 ?_
 refine rgS 13 hS0 ?_
 refine rgS 14 hS0 ?_
 refine rgT 15 hS0 ?_
 refine wpAnyH_done (by kernel_rfl) ?_ _
 go_wp2_with fail
 refine HFF.out.mono ?_
 rintro e w1 ⟨rfl, hr⟩
 have hm1 := HRR.out w1 hr
 have HR1 := hid hr
 have cm := cellsOf hm1; have nm := ltOf hm1; have fm := freeOf hm1
 clear hm1 hr
 go_wp2_with fail
 go_ret
 exact ⟨rfl, w1, HR1.out, rfl⟩
set_option maxHeartbeats 2000000 in
theorem rawe_ok2 (m : Nat) (c0 c1 c2 c3 : Value) {z0 z1 z2 z3 z4 z5 z6 z7 z8 z9 z10 z11 z14 : Value} {wr st : Int} (w : World) (R : World → Prop) (h : w.heap[m]? = some (.cells #[z0, z1, z2, z3, z4, z5, z6, z7, z8, z9, z10, z11, .int .i64 wr, .int .i64 st, z14] 34 (0, 0))) (h1 : st ≠ -1 ∧ wr < st) (hw : 0 ≤ wr ∧ wr ≤ 1000000000)
  (hF : Calls Tryz.prog 157 #[c0, c1, c2, c3] w.drew fun e w' => e = .returned (.tuple #[]) ∧ R w') (hR : ∀ w', R w' → w'.heap[m]? = some (.cells #[z0, z1, z2, z3, z4, z5, z6, z7, z8, z9, z10, z11, .int .i64 wr, .int .i64 st, z14] 34 (0, 0))) :
  Calls Tryz.prog 156 #[.pointer (some ⟨m, 0, none⟩), .func (.func 157) #[] #[c0, c1, c2, c3]] w fun e w' => e = .returned (.bool true) ∧ ∃ w1, R w1 ∧ w' = w1.setCell ⟨m, 12, none⟩ (.int .i64 (wr + 1)) := by
 have hne : ((st : Int) != -1) = true := by simpa using h1.1
 have hlt : ¬ st ≤ wr := by omega
 have HM := hid h; have HRR := hid hR; have HFF := hid hF
 have H1 := hid h1
 clear h hR hF h1
 go_enter Tryz.func156, Tryz.ntmps156
 go_wp2_with fail
 obtain ⟨SS1, HSI1, HSO1⟩ := rg_cond (fun w' => Know m #[z0, z1, z2, z3, z4, z5, z6, z7, z8, z9, z10, z11, .int .i64 wr, .int .i64 st, z14] w')
 have hS0 := HSI1.out _ (Know.of (keep_drew HM.out))
 refine rg_start SS1 (by kernel_rfl) hS0 ?_
 refine rgT 0 hS0 ?_
 refine rgT 1 hS0 ?_
 refine rgT 2 hS0 ?_
 refine rgL 3 hS0 HSO1 ?_
 refine rgT 4 hS0 ?_
 refine rgT 5 hS0 ?_
 refine rgT 6 hS0 ?_
 refine rgT 7 hS0 ?_
 refine rgT 8 hS0 ?_
 refine rgL 9 hS0 HSO1 ?_
 refine rgT 10 hS0 ?_
 refine rgT 11 hS0 ?_
 refine rgT 12 hS0 ?_
 refine rgL 13 hS0 HSO1 ?_
 refine rgT 14 hS0 ?_
 refine rgT 15 hS0 ?_
 refine wpAnyH_done (by kernel_rfl) ?_ _
 go_wp2_with fail
 refine HFF.out.mono ?_
 rintro e w1 ⟨rfl, hr⟩
 have hm1 := HRR.out w1 hr
 have HR1 := hid hr
 have cm := cellsOf hm1; have nm := ltOf hm1; have fm := freeOf hm1
 clear hm1 hr
 go_wp2_with fail
 go_ret
 exact ⟨rfl, w1, HR1.out, rfl⟩
set_option maxHeartbeats 2000000 in
theorem strk_fail (m : Nat) (t kd sq : Int) {z0 z1 z2 z3 z4 z5 z6 z7 z8 z9 z10 z11 z14 : Value} {wr st : Int} (w : World) (h : w.heap[m]? = some (.cells #[z0, z1, z2, z3, z4, z5, z6, z7, z8, z9, z10, z11, .int .i64 wr, .int .i64 st, z14] 34 (0, 0))) (h1 : st ≠ -1) (h2 : st ≤ wr) :
  Calls Tryz.prog 81 #[.pointer (some ⟨m, 0, none⟩), .int .i64 t, .int .i64 kd, .int .i64 sq] w fun e w' => e = .returned (.bool false) ∧ w'.heap[m]? = some (.cells #[z0, z1, z2, z3, z4, z5, z6, z7, z8, z9, .slice none 0 0, z11, .int .i64 wr, .int .i64 st, .bool true] 34 (0, 0)) ∧ Chg [m] w w' := by
 have HM := hid h
 clear h
 go_enter Tryz.func81, Tryz.ntmps81
 go_wp2_with fail
 refine (raw_fail m _ _ (keep_alloc (keep_alloc (keep_alloc (keep_alloc HM.out _) _) _) _) h1 h2).mono ?_
 rintro e w' ⟨rfl, hm, hc⟩
 have HN := hid (And.intro hm (((((((Chg.refl [m] w).alloc _).alloc _).alloc _).alloc _)).trans hc (fun y hy => .inl hy)))
 clear hm hc
 go_wp2_with fail
 go_ret
 exact ⟨rfl, HN.out.1, HN.out.2⟩
set_option maxHeartbeats 4000000 in
theorem strk_ok (B m b off t m12 d12 : Nat) (kd sq : Int) (f : List Nat) (xs : List Rec) {a : Option Addr} {l c : Nat} {z0 z1 z2 z3 z4 z5 z6 z7 z8 z9 z10 z14 : Value} {wr st : Int} (w : World)
  (h : w.heap[m]? = some (.cells #[z0, z1, z2, z3, z4, z5, z6, z7, z8, z9, z10, .slice (some ⟨b, off, none⟩) m12 d12, .int .i64 wr, .int .i64 st, z14] 34 (0, 0))) (h1 : st = -1 ∨ st ≠ -1 ∧ wr < st) (hw : 0 ≤ wr ∧ wr ≤ 1000000000) (htm : t < m12)
  (hv1 : w.cell? ⟨b, off + t * 2 + 1, none⟩ = some (.slice a l c)) (hlo : Loose w b) (hs : recL.sl w a l c xs f) (hfr : Fresh B w f) (hbf : b ∉ f) (hbm : b ≠ m) (hmf : m ∉ f) :
  Calls Tryz.prog 81 #[.pointer (some ⟨m, 0, none⟩), .int .i64 t, .int .i64 kd, .int .i64 sq] w fun e w' => e = .returned (.bool true) ∧ ∃ v wz, Struck B w f (xs.filter (fun r => !pb (r.kind = kd ∧ r.seq = sq))) v wz ∧ w' = (wz.setCell ⟨b, off + t * 2 + 1, none⟩ v).setCell ⟨m, 12, none⟩ (.int .i64 (wr + 1)) := by
 have G0 := hid (show Chg [] w ((((w.alloc (.cells #[.pointer (some ⟨m, 0, none⟩)] 97)).alloc (.cells #[.int .i64 t] 2)).alloc (.cells #[.int .i64 kd] 2)).alloc (.cells #[.int .i64 sq] 2)) from ((((Chg.refl [] w).alloc _).alloc _).alloc _).alloc _)
 have B0 := hid (show ((((w.alloc (.cells #[.pointer (some ⟨m, 0, none⟩)] 97)).alloc (.cells #[.int .i64 t] 2)).alloc (.cells #[.int .i64 kd] 2)).alloc (.cells #[.int .i64 sq] 2)).heap[w.heap.size]? = some (.cells #[.pointer (some ⟨m, 0, none⟩)] 97 (0, 0)) from keep_alloc (keep_alloc (keep_alloc (new_alloc w _) _) _) _)
 have B1 := hid (show ((((w.alloc (.cells #[.pointer (some ⟨m, 0, none⟩)] 97)).alloc (.cells #[.int .i64 t] 2)).alloc (.cells #[.int .i64 kd] 2)).alloc (.cells #[.int .i64 sq] 2)).heap[w.heap.size + 1]? = some (.cells #[.int .i64 t] 2 (0, 0)) from keep_alloc (keep_alloc (new_at (by simp) _) _) _)
 have B2 := hid (show ((((w.alloc (.cells #[.pointer (some ⟨m, 0, none⟩)] 97)).alloc (.cells #[.int .i64 t] 2)).alloc (.cells #[.int .i64 kd] 2)).alloc (.cells #[.int .i64 sq] 2)).heap[w.heap.size + 2]? = some (.cells #[.int .i64 kd] 2 (0, 0)) from keep_alloc (new_at (by simp) _) _)
 have B3 := hid (show ((((w.alloc (.cells #[.pointer (some ⟨m, 0, none⟩)] 97)).alloc (.cells #[.int .i64 t] 2)).alloc (.cells #[.int .i64 kd] 2)).alloc (.cells #[.int .i64 sq] 2)).heap[w.heap.size + 3]? = some (.cells #[.int .i64 sq] 2 (0, 0)) from new_at (by simp) _)
 have HM := hid (show ((((w.alloc (.cells #[.pointer (some ⟨m, 0, none⟩)] 97)).alloc (.cells #[.int .i64 t] 2)).alloc (.cells #[.int .i64 kd] 2)).alloc (.cells #[.int .i64 sq] 2)).heap[m]? = some (.cells #[z0, z1, z2, z3, z4, z5, z6, z7, z8, z9, z10, .slice (some ⟨b, off, none⟩) m12 d12, .int .i64 wr, .int .i64 st, z14] 34 (0, 0)) from keep_alloc (keep_alloc (keep_alloc (keep_alloc h _) _) _) _)
 have GD := G0.out.drew
 have HF := hid (strk_c B m w.heap.size (w.heap.size + 1) (w.heap.size + 2) (w.heap.size + 3) b off t m12 d12 kd sq f xs ((((w.alloc (.cells #[.pointer (some ⟨m, 0, none⟩)] 97)).alloc (.cells #[.int .i64 t] 2)).alloc (.cells #[.int .i64 kd] 2)).alloc (.cells #[.int .i64 sq] 2)).drew (keep_drew B0.out) (keep_drew B1.out) (keep_drew B2.out) (keep_drew B3.out) (keep_drew HM.out) htm (cellKeep GD hv1 hlo.lt) (GD.loose b hlo) (recL.sl_ext hs GD) (hfr.chg GD) hbf (fun hm => by have := recL.sl_lt hs _ hm; omega) (fun hm => by have := recL.sl_lt hs _ hm; omega))
 have HR := hid (show ∀ w' : World, (∃ v wz, Struck B ((((w.alloc (.cells #[.pointer (some ⟨m, 0, none⟩)] 97)).alloc (.cells #[.int .i64 t] 2)).alloc (.cells #[.int .i64 kd] 2)).alloc (.cells #[.int .i64 sq] 2)).drew f (xs.filter (fun r => !pb (r.kind = kd ∧ r.seq = sq))) v wz ∧ w' = wz.setCell ⟨b, off + t * 2 + 1, none⟩ v) → w'.heap[m]? = some (.cells #[z0, z1, z2, z3, z4, z5, z6, z7, z8, z9, z10, .slice (some ⟨b, off, none⟩) m12 d12, .int .i64 wr, .int .i64 st, z14] 34 (0, 0)) from by
  rintro w' ⟨v, wz, hA, rfl⟩
  exact keep_set (hA.chg.keepb (keep_drew HM.out) hmf) _ _ (fun e => hbm e.symm))
 have HGD := hid GD
 clear h hv1 hlo hs hfr GD
 go_enter Tryz.func81, Tryz.ntmps81
 go_wp2_with fail
 rcases h1 with h1 | h1
 ·refine (rawe_ok1 m _ _ _ _ _ _ HM.out h1 hw HF.out HR.out).mono ?_
  rintro e w' ⟨rfl, w1, ⟨v, wz, q1, rfl⟩, rfl⟩
  have HN := hid (q1.since HGD.out)
  clear q1
  go_wp2_with fail
  go_ret
  exact ⟨rfl, v, wz, HN.out, rfl⟩
 ·refine (rawe_ok2 m _ _ _ _ _ _ HM.out h1 hw HF.out HR.out).mono ?_
  rintro e w' ⟨rfl, w1, ⟨v, wz, q1, rfl⟩, rfl⟩
  have HN := hid (q1.since HGD.out)
  clear q1
  go_wp2_with fail
  go_ret
  exact ⟨rfl, v, wz, HN.out, rfl⟩
theorem filtS_next {α : Type} {p : α → Bool} {xs : List α} {k : Nat} {x : α} (h : xs[k]? = some x) : (xs.take (k + 1)).filter p = (xs.take k).filter p ++ (if p x then [x] else []) := by
 rw [take_next h, List.filter_append]
 cases hp : p x <;> simp [hp]
theorem filtS_yes {α : Type} {p : α → Bool} {xs : List α} {k : Nat} {x : α} (h : xs[k]? = some x) (hp : p x = true) : (xs.take (k + 1)).filter p = (xs.take k).filter p ++ [x] := by
 rw [filtS_next h, if_pos hp]
theorem filtS_no {α : Type} {p : α → Bool} {xs : List α} {k : Nat} {x : α} (h : xs[k]? = some x) (hp : p x = false) : (xs.take (k + 1)).filter p = (xs.take k).filter p := by
 rw [filtS_next h, if_neg (by rw [hp]; simp), List.append_nil]
theorem grow_step {w W w' : World} {v' : Value} {xs : List Rec} {g : Nat} {fps : List Nat} {h' : Option Nat} (hg : w.heap.size ≤ g) (hc : Chg [] w W) (ho : recL.os 67 w' v' xs h' fps) (hh : h' = some g ∨ h' = some W.heap.size) (hc' : Chg (some g).toList W w') : ∃ g', recL.os 67 w' v' xs (some g') fps ∧ w.heap.size ≤ g' ∧ Chg [] w w' := by
 have h9 := hc.trans hc' (fun y hy => .inr (by simp at hy; omega))
 rcases hh with rfl | rfl
 ·exact ⟨g, ho, hg, h9⟩
 ·exact ⟨_, ho, hc.size, h9⟩
theorem sl_elems {w : World} {a : Option Addr} {l c : Nat} {xs : List Rec} {f : List Nat} {B : Nat} (hs : recL.sl w a l c xs f) (hfr : Fresh B w f) :
  ∃ ps : List RP, ps.map (·.1) = xs ∧ (ps.flatMap (·.2)).Sublist f ∧ ∀ wr, Chg [] w wr → ∀ (k : Nat) p, ps[k]? = some p → ∃ g0 off cs, a = some ⟨g0, off, none⟩ ∧ recL.rep wr cs p.1 p.2 ∧ Celled wr g0 (off + k * 9) 9 cs ∧ g0 < w.heap.size := by
 have hs0 := hs
 obtain ⟨h1, h2, h3, h4, ⟨rfl, rfl⟩ | ⟨g, off, cur, E, fr, fps, rfl, hb, hall, rfl⟩⟩ := hs
 ·exact ⟨[], rfl, List.Sublist.refl _, fun _ _ k p hp => by simp at hp⟩
 ·have hnd := List.nodup_cons.1 hfr.1
  obtain ⟨ps, hrow, hpm, hpf⟩ := Lay.sl_row hs0 (hfr.2 g (by simp)).2 ⟨fps, rfl, hnd.1⟩
  refine ⟨ps, hpm, by rw [(List.cons.inj hpf).2]; exact List.sublist_cons_self _ _, fun wr hc k p hp => ?_⟩
  obtain ⟨cs, r1, -, r3⟩ := rec_look (hrow.ext hc) hp
  exact ⟨g, off, cs, rfl, r1, r3, ltOf hb⟩
set_option maxRecDepth 100000 in
set_option maxHeartbeats 8000000 in
theorem l5Strike_any (B : Nat) (a : Option Addr) (l c : Nat) (xs : List Rec) (f : List Nat) (kd sq : Int) (w : World) (hs : recL.sl w a l c xs f) (hfr : Fresh B w f) (hB : B ≤ w.heap.size) (hl : xs.length ≤ 1048576) :
  Calls Tryz.prog 73 #[.slice a l c, .int .i64 kd, .int .i64 sq] w fun e w' => ∃ v, e = .returned v ∧ Struck B w f (xs.filter (fun r : Rec => !pb (r.kind = kd ∧ r.seq = sq))) v w' ∧ Chg [] w w' := by
 obtain ⟨KR, _⟩ := kindRec
 obtain ⟨ps, hpm, hpf, hat⟩ := sl_elems hs hfr
 have hll : l ≤ 1048576 := by have := hs.1; omega
 have HPL := hid (show l = ps.length by rw [hs.1, ← hpm, List.length_map])
 have HPM := hid hpm; have HPF := hid hpf; have HAT := hid hat; have HFR := hid hfr
 have HLT := hid (recL.sl_lt hs)
 clear hs hfr hl hpm hpf hat
 go_enter Tryz.func73, Tryz.ntmps73
 go_wp2_with fail
 go_loopw [7, 8] (fun vo vi wr => ∃ (k : Nat) (Wr : World), Wr = wr ∧ k ≤ l ∧ vi = .int .i64 k ∧ (∃ g, recL.os 67 wr vo (((ps.take k).filter (fun p : RP => !pb (p.1.kind = kd ∧ p.1.seq = sq))).map (·.1)) (some g) (((ps.take k).filter (fun p : RP => !pb (p.1.kind = kd ∧ p.1.seq = sq))).flatMap (·.2)) ∧ w.heap.size ≤ g ∧ Chg [] w wr)) (fun _ vi _ => l - (intOf vi).toNat)
 case atStart => exact ⟨0, _, rfl, by omega, rfl, w.heap.size, recL.os_made 67 w #[] 0 (by simp [maxLen]) (by simp), Nat.le_refl _, (Chg.refl [] w).alloc _⟩
 case round =>
  obtain ⟨k, wr, rfl, hk, rfl, g, ho, hg, hc⟩ := hrel
  have HC := hid hc; have HG := hid hg
  by_cases hlt : k < l
  ·obtain ⟨p, hp⟩ : ∃ p, ps[k]? = some p := ⟨_, List.getElem?_eq_getElem (by have := HPL.out; omega)⟩
   obtain ⟨g0, off, cy, rfl, hrep, hce, hg0⟩ := HAT.out wr hc k p hp
   obtain ⟨r, fq⟩ := p
   have HXS := hid (show recL.rep wr cy r fq from hrep); have HCE := hid hce
   obtain ⟨a6, l6, c6, f6, a7, l7, c7, f7, a8, l8, c8, f8, hcy, -⟩ := recL_iff.1 HXS.out
   subst hcy
   have hq0 : wr.cell? ⟨g0, off + k * 9, none⟩ = some (.int .i64 r.kind) := by have h := HCE.out.2.1 0 _ rfl; simpa using h
   have hq1 : wr.cell? ⟨g0, off + k * 9 + 1, none⟩ = some (.int .i64 r.seq) := HCE.out.2.1 1 _ rfl
   have hlg : g0 < wr.heap.size := Nat.lt_of_lt_of_le hg0 hc.size
   have HPK := hid hp
   have HGQ := hid (show ∀ g', some g = some g' → g' ∉ fq from fun g' e hm => by
    cases e
    have h1 := HLT.out g (HPF.out.subset (List.mem_flatMap.2 ⟨_, List.mem_of_getElem? hp, hm⟩))
    omega)
   obtain ⟨a9, c9, rfl⟩ := recL.os_len ho
   obtain ⟨ys, hys⟩ : ∃ ys, ys = (ps.take k).filter (fun p : RP => !pb (p.1.kind = kd ∧ p.1.seq = sq)) := ⟨_, rfl⟩
   have hyl : ys.length ≤ 1048576 := by
    have h1 := List.length_filter_le (fun p : RP => !pb (p.1.kind = kd ∧ p.1.seq = sq)) (ps.take k)
    rw [← hys, List.length_take] at h1; omega
   rw [← hys] at ho ⊢
   have HYS := hid hys
   obtain ⟨lx, hlx⟩ : ∃ lx, lx = (ys.map (·.1)).length := ⟨_, rfl⟩
   have HLL := hid (show (ys.map (·.1)).length + [r].length ≤ maxLen ∧ ((ys.map (·.1)).length + [r].length) * 128 ≤ 140737488355328 by rw [List.length_map]; simp only [List.length_singleton, maxLen]; omega)
   rw [← hlx] at ho ⊢
   have HOS := hid ho
   clear hc hg hp hrep hce hg0 ho hys hyl hlx
   by_cases h1 : r.kind = kd
   ·have b1 : (r.kind != kd) = false := by simp [h1]
    by_cases h2 : r.seq = sq
    ·have b2 : (r.seq != sq) = false := by simp [h2]
     have HNX := hid (show (ps.take (k + 1)).filter (fun p : RP => !pb (p.1.kind = kd ∧ p.1.seq = sq)) = ys by rw [filtS_no HPK.out (show (!pb (r.kind = kd ∧ r.seq = sq)) = false by rw [pb_true ⟨h1, h2⟩]; rfl), HYS.out])
     clear h1 h2
     go_wp2_with fail
     go_roundw
     case rel => exact ⟨k + 1, _, rfl, by omega, rfl, g, by rw [HNX.out]; exact HOS.out, HG.out, HC.out⟩
     case measure => simp [intOf]; omega
    ·have b2 : (r.seq != sq) = true := by simpa using h2
     have HNX := hid (show (ps.take (k + 1)).filter (fun p : RP => !pb (p.1.kind = kd ∧ p.1.seq = sq)) = ys ++ [(r, fq)] by rw [filtS_yes HPK.out (show (!pb (r.kind = kd ∧ r.seq = sq)) = true by rw [pb_false (fun h => h2 h.2)]; rfl), HYS.out])
     clear h1 h2
     go_upto_region 6 with fail
     go_wp2_with (first | (at_builtin; refine recL.wpList_append rfl _ _ 44 rfl Tryz.underlying44 KR rfl (recL.os_ext HOS.out ((Chg.refl [] wr).alloc (.cells #[.int .i64 r.kind, .int .i64 r.seq, .string r.name, .int .i64 r.length, .int .i64 r.group, .int .i64 r.row, .slice a6 l6 c6, .slice a7 l7 c7, .slice a8 l8 c8] 67))) ⟨wr.heap.size, 0, none⟩ 1 1 [.int .i64 r.kind, .int .i64 r.seq, .string r.name, .int .i64 r.length, .int .i64 r.group, .int .i64 r.row, .slice a6 l6 c6, .slice a7 l7 c7, .slice a8 l8 c8] (ys := [r]) (f := fq) rfl rfl (new_cells wr #[.int .i64 r.kind, .int .i64 r.seq, .string r.name, .int .i64 r.length, .int .i64 r.group, .int .i64 r.row, .slice a6 l6 c6, .slice a7 l7 c7, .slice a8 l8 c8] 67) (recL.all_single (recL.ext HXS.out ((Chg.refl [] wr).alloc _))) HGQ.out HLL.out.1 HLL.out.2 ?_; intro v' w4 h' ho' hh' hc'; have HSH4 := hid (grow_step HG.out (HC.out.alloc (.cells #[.int .i64 r.kind, .int .i64 r.seq, .string r.name, .int .i64 r.length, .int .i64 r.group, .int .i64 r.row, .slice a6 l6 c6, .slice a7 l7 c7, .slice a8 l8 c8] 67)) ho' hh' hc'); clear ho' hh' hc') | (refine load_rowL rfl _ 67 rfl rfl infoRc Tryz.underlying67 HCE.out.2.1 HCE.out.1 ?_))
     go_roundw
     case rel => exact ⟨k + 1, _, rfl, by omega, rfl, by obtain ⟨g2, q1, q2, q3⟩ := HSH4.out; exact ⟨g2, by rw [HNX.out, List.map_append, List.flatMap_append]; simpa using q1, q2, q3⟩⟩
     case measure => simp [intOf]; omega
   ·have b1 : (r.kind != kd) = true := by simpa using h1
    have HNX := hid (show (ps.take (k + 1)).filter (fun p : RP => !pb (p.1.kind = kd ∧ p.1.seq = sq)) = ys ++ [(r, fq)] by rw [filtS_yes HPK.out (show (!pb (r.kind = kd ∧ r.seq = sq)) = true by rw [pb_false (fun h => h1 h.1)]; rfl), HYS.out])
    clear h1
    go_upto_region 6 with fail
    go_wp2_with (first | (at_builtin; refine recL.wpList_append rfl _ _ 44 rfl Tryz.underlying44 KR rfl (recL.os_ext HOS.out ((Chg.refl [] wr).alloc (.cells #[.int .i64 r.kind, .int .i64 r.seq, .string r.name, .int .i64 r.length, .int .i64 r.group, .int .i64 r.row, .slice a6 l6 c6, .slice a7 l7 c7, .slice a8 l8 c8] 67))) ⟨wr.heap.size, 0, none⟩ 1 1 [.int .i64 r.kind, .int .i64 r.seq, .string r.name, .int .i64 r.length, .int .i64 r.group, .int .i64 r.row, .slice a6 l6 c6, .slice a7 l7 c7, .slice a8 l8 c8] (ys := [r]) (f := fq) rfl rfl (new_cells wr #[.int .i64 r.kind, .int .i64 r.seq, .string r.name, .int .i64 r.length, .int .i64 r.group, .int .i64 r.row, .slice a6 l6 c6, .slice a7 l7 c7, .slice a8 l8 c8] 67) (recL.all_single (recL.ext HXS.out ((Chg.refl [] wr).alloc _))) HGQ.out HLL.out.1 HLL.out.2 ?_; intro v' w4 h' ho' hh' hc'; have HSH4 := hid (grow_step HG.out (HC.out.alloc (.cells #[.int .i64 r.kind, .int .i64 r.seq, .string r.name, .int .i64 r.length, .int .i64 r.group, .int .i64 r.row, .slice a6 l6 c6, .slice a7 l7 c7, .slice a8 l8 c8] 67)) ho' hh' hc'); clear ho' hh' hc') | (refine load_rowL rfl _ 67 rfl rfl infoRc Tryz.underlying67 HCE.out.2.1 HCE.out.1 ?_))
    go_roundw
    case rel => exact ⟨k + 1, _, rfl, by omega, rfl, by obtain ⟨g2, q1, q2, q3⟩ := HSH4.out; exact ⟨g2, by rw [HNX.out, List.map_append, List.flatMap_append]; simpa using q1, q2, q3⟩⟩
    case measure => simp [intOf]; omega
  ·obtain rfl : k = l := by omega
   rw [List.take_of_length_le (by have := HPL.out; omega)] at ho
   obtain ⟨a9, cap, rfl, hsl⟩ := recL.os_sl ho
   have hlo := recL.os_loose ho g rfl
   have e1 : (ps.filter (fun p : RP => !pb (p.1.kind = kd ∧ p.1.seq = sq))).map (·.1) = xs.filter (fun r : Rec => !pb (r.kind = kd ∧ r.seq = sq)) := by rw [← HPM.out, filter_map']
   have hsub : ((ps.filter (fun p : RP => !pb (p.1.kind = kd ∧ p.1.seq = sq))).flatMap (·.2)).Sublist f := (filt_fps ps).trans HPF.out
   have HR := hid (show Struck B w f (xs.filter (fun r : Rec => !pb (r.kind = kd ∧ r.seq = sq))) (.slice a9 ((ps.filter (fun p : RP => !pb (p.1.kind = kd ∧ p.1.seq = sq))).map (·.1)).length cap) wr from ⟨_, _, _, _, rfl, by rw [← e1]; exact hsl, ⟨List.nodup_cons.2 ⟨fun hm => by have := HLT.out g (hsub.subset hm); omega, hsub.nodup HFR.out.1⟩, fun y hy => by
    rcases List.mem_cons.1 hy with rfl | hy
    ·exact ⟨Nat.le_trans hB hg, hlo⟩
    ·exact ⟨(HFR.out.2 y (hsub.subset hy)).1, hc.loose y (HFR.out.2 y (hsub.subset hy)).2⟩⟩, fun y hy => by
    rcases List.mem_cons.1 hy with rfl | hy
    ·exact .inr hg
    ·exact .inl (hsub.subset hy), hc.mono (by simp)⟩)
   clear hc hg ho hsl hlo hsub e1
   go_wp2_with fail
   go_ret
   exact ⟨_, rfl, HR.out, HC.out⟩
set_option maxHeartbeats 2000000 in
theorem wrote_false (s0 s1 s2 s3 s4 s5 s6 s7 s8 wr st : Int) (a10 a11 a12 : Option Addr) (l10 c10 l11 c11 l12 c12 : Nat) (dn : Bool) (w : World) :
  Calls Tryz.prog 82 #[.agg #[.int .i64 s0, .int .i64 s1, .int .i64 s2, .int .i64 s3, .int .i64 s4, .int .i64 s5, .int .i64 s6, .int .i64 s7, .int .i64 s8, .slice a10 l10 c10, .slice a11 l11 c11, .slice a12 l12 c12, .int .i64 wr, .int .i64 st, .bool dn], .bool false] w fun e w' => e = .returned (.agg #[.int .i64 9, .int .i64 s0, .int .i64 s1, .int .i64 s2, .int .i64 s3, .int .i64 s4, .int .i64 s5, .int .i64 s6, .int .i64 s7, .int .i64 s8, .slice a10 l10 c10, .slice a11 l11 c11, .slice a12 l12 c12, .int .i64 wr, .int .i64 st, .bool dn]) ∧ Chg [] w w' := by
 have B0 := hid (show ((w.alloc (.cells #[.int .i64 s0, .int .i64 s1, .int .i64 s2, .int .i64 s3, .int .i64 s4, .int .i64 s5, .int .i64 s6, .int .i64 s7, .int .i64 s8, .slice a10 l10 c10, .slice a11 l11 c11, .slice a12 l12 c12, .int .i64 wr, .int .i64 st, .bool dn] 34)).alloc (.cells #[.int .i64 0, .int .i64 0, .int .i64 0, .int .i64 0, .int .i64 0, .int .i64 0, .int .i64 0, .int .i64 0, .int .i64 0, .int .i64 0, .slice none 0 0, .slice none 0 0, .slice none 0 0, .int .i64 0, .int .i64 0, .bool false] 36)).heap[w.heap.size]? = some (.cells #[.int .i64 s0, .int .i64 s1, .int .i64 s2, .int .i64 s3, .int .i64 s4, .int .i64 s5, .int .i64 s6, .int .i64 s7, .int .i64 s8, .slice a10 l10 c10, .slice a11 l11 c11, .slice a12 l12 c12, .int .i64 wr, .int .i64 st, .bool dn] 34 (0, 0)) from keep_alloc (new_alloc w _) _)
 have B1 := hid (show ((w.alloc (.cells #[.int .i64 s0, .int .i64 s1, .int .i64 s2, .int .i64 s3, .int .i64 s4, .int .i64 s5, .int .i64 s6, .int .i64 s7, .int .i64 s8, .slice a10 l10 c10, .slice a11 l11 c11, .slice a12 l12 c12, .int .i64 wr, .int .i64 st, .bool dn] 34)).alloc (.cells #[.int .i64 0, .int .i64 0, .int .i64 0, .int .i64 0, .int .i64 0, .int .i64 0, .int .i64 0, .int .i64 0, .int .i64 0, .int .i64 0, .slice none 0 0, .slice none 0 0, .slice none 0 0, .int .i64 0, .int .i64 0, .bool false] 36)).heap[w.heap.size + 1]? = some (.cells #[.int .i64 0, .int .i64 0, .int .i64 0, .int .i64 0, .int .i64 0, .int .i64 0, .int .i64 0, .int .i64 0, .int .i64 0, .int .i64 0, .slice none 0 0, .slice none 0 0, .slice none 0 0, .int .i64 0, .int .i64 0, .bool false] 36 (0, 0)) from new_at (by simp) _)
 go_enter Tryz.func82, Tryz.ntmps82
 go_wp2_with (first | (refine load_wide rfl _ 34 rfl rfl infoWd Tryz.underlying34 B0.out rfl ?_) | (refine store_wide rfl _ _ 36 rfl rfl rfl infoWR B1.out rfl rfl rfl ?_; intro w9 hb9 hc9; have HB9 := hid hb9; have HC9 := hid hc9; clear hb9 hc9))
 refine bodyPost_ret (v := .agg #[.int .i64 9, .int .i64 s0, .int .i64 s1, .int .i64 s2, .int .i64 s3, .int .i64 s4, .int .i64 s5, .int .i64 s6, .int .i64 s7, .int .i64 s8, .slice a10 l10 c10, .slice a11 l11 c11, .slice a12 l12 c12, .int .i64 wr, .int .i64 st, .bool dn]) (results_wide _ _ Tryz.results82 rfl infoWR Tryz.underlying36 HB9.out rfl) rfl ⟨rfl, ?_⟩
 exact (((Chg.refl [] w).alloc _).alloc _).trans HC9.out (fun y hy => .inr (by rw [List.mem_singleton] at hy; omega))
set_option maxHeartbeats 2000000 in
theorem wrote_true (s0 s1 s2 s3 s4 s5 s6 s7 s8 wr st : Int) (a10 a11 a12 : Option Addr) (l10 c10 l11 c11 l12 c12 : Nat) (dn : Bool) (w : World) :
  Calls Tryz.prog 82 #[.agg #[.int .i64 s0, .int .i64 s1, .int .i64 s2, .int .i64 s3, .int .i64 s4, .int .i64 s5, .int .i64 s6, .int .i64 s7, .int .i64 s8, .slice a10 l10 c10, .slice a11 l11 c11, .slice a12 l12 c12, .int .i64 wr, .int .i64 st, .bool dn], .bool true] w fun e w' => e = .returned (.agg #[.int .i64 0, .int .i64 s0, .int .i64 s1, .int .i64 s2, .int .i64 s3, .int .i64 s4, .int .i64 s5, .int .i64 s6, .int .i64 s7, .int .i64 s8, .slice a10 l10 c10, .slice a11 l11 c11, .slice a12 l12 c12, .int .i64 wr, .int .i64 st, .bool dn]) ∧ Chg [] w w' := by
 have B0 := hid (show ((w.alloc (.cells #[.int .i64 s0, .int .i64 s1, .int .i64 s2, .int .i64 s3, .int .i64 s4, .int .i64 s5, .int .i64 s6, .int .i64 s7, .int .i64 s8, .slice a10 l10 c10, .slice a11 l11 c11, .slice a12 l12 c12, .int .i64 wr, .int .i64 st, .bool dn] 34)).alloc (.cells #[.int .i64 0, .int .i64 0, .int .i64 0, .int .i64 0, .int .i64 0, .int .i64 0, .int .i64 0, .int .i64 0, .int .i64 0, .int .i64 0, .slice none 0 0, .slice none 0 0, .slice none 0 0, .int .i64 0, .int .i64 0, .bool false] 36)).heap[w.heap.size]? = some (.cells #[.int .i64 s0, .int .i64 s1, .int .i64 s2, .int .i64 s3, .int .i64 s4, .int .i64 s5, .int .i64 s6, .int .i64 s7, .int .i64 s8, .slice a10 l10 c10, .slice a11 l11 c11, .slice a12 l12 c12, .int .i64 wr, .int .i64 st, .bool dn] 34 (0, 0)) from keep_alloc (new_alloc w _) _)
 have B1 := hid (show ((w.alloc (.cells #[.int .i64 s0, .int .i64 s1, .int .i64 s2, .int .i64 s3, .int .i64 s4, .int .i64 s5, .int .i64 s6, .int .i64 s7, .int .i64 s8, .slice a10 l10 c10, .slice a11 l11 c11, .slice a12 l12 c12, .int .i64 wr, .int .i64 st, .bool dn] 34)).alloc (.cells #[.int .i64 0, .int .i64 0, .int .i64 0, .int .i64 0, .int .i64 0, .int .i64 0, .int .i64 0, .int .i64 0, .int .i64 0, .int .i64 0, .slice none 0 0, .slice none 0 0, .slice none 0 0, .int .i64 0, .int .i64 0, .bool false] 36)).heap[w.heap.size + 1]? = some (.cells #[.int .i64 0, .int .i64 0, .int .i64 0, .int .i64 0, .int .i64 0, .int .i64 0, .int .i64 0, .int .i64 0, .int .i64 0, .int .i64 0, .slice none 0 0, .slice none 0 0, .slice none 0 0, .int .i64 0, .int .i64 0, .bool false] 36 (0, 0)) from new_at (by simp) _)
 go_enter Tryz.func82, Tryz.ntmps82
 go_wp2_with (first | (refine load_wide rfl _ 34 rfl rfl infoWd Tryz.underlying34 B0.out rfl ?_) | (refine store_wide rfl _ _ 36 rfl rfl rfl infoWR B1.out rfl rfl rfl ?_; intro w9 hb9 hc9; have HB9 := hid hb9; have HC9 := hid hc9; clear hb9 hc9))
 refine bodyPost_ret (v := .agg #[.int .i64 0, .int .i64 s0, .int .i64 s1, .int .i64 s2, .int .i64 s3, .int .i64 s4, .int .i64 s5, .int .i64 s6, .int .i64 s7, .int .i64 s8, .slice a10 l10 c10, .slice a11 l11 c11, .slice a12 l12 c12, .int .i64 wr, .int .i64 st, .bool dn]) (results_wide _ _ Tryz.results82 rfl infoWR Tryz.underlying36 HB9.out rfl) rfl ⟨rfl, ?_⟩
 exact (((Chg.refl [] w).alloc _).alloc _).trans HC9.out (fun y hy => .inr (by rw [List.mem_singleton] at hy; omega))
set_option maxHeartbeats 2000000 in
theorem l5Raw_fail (m : Nat) {u0 u1 u2 u3 u4 u5 u6 u7 u8 u9 u10 u11 : Value} {wr st : Int} (w : World) (h : w.heap[m]? = some (.cells #[u0, u1, u2, u3, u4, u5, u6, u7, u8, u9, u10, u11, .int .i64 wr, .int .i64 st, .bool false] 34 (0, 0))) (h1 : st ≠ -1 ∧ st ≤ wr) :
  Calls Tryz.prog 72 #[.pointer (some ⟨m, 0, none⟩)] w fun e w' => e = .returned (.bool false) ∧ w'.heap[m]? = some (.cells #[u0, u1, u2, u3, u4, u5, u6, u7, u8, u9, .slice none 0 0, u11, .int .i64 wr, .int .i64 st, .bool true] 34 (0, 0)) ∧ Chg [m] w w' := by
 have hne : ((st : Int) != -1) = true := by simpa using h1.1
 have hle := h1.2
 have HM := hid h; have H1 := hid h1
 have cm := cellsOf h; have nm := ltOf h; have fm := freeOf h
 clear h h1
 go_enter Tryz.func72, Tryz.ntmps72
 go_wp2_with fail
 obtain ⟨SS1, HSI1, HSO1⟩ := rg_cond (fun w' => Know m #[u0, u1, u2, u3, u4, u5, u6, u7, u8, u9, u10, u11, .int .i64 wr, .int .i64 st, .bool false] w')
 have hS0 := HSI1.out _ (Know.of (keep_drew HM.out))
 refine rg_start SS1 (by kernel_rfl) hS0 ?_
 refine rgT 0 hS0 ?_
 refine rgT 1 hS0 ?_
 refine rgT 2 hS0 ?_
 refine rgL 3 hS0 HSO1 ?_
 refine rgT 4 hS0 ?_
 refine rgT 5 hS0 ?_
 refine rgT 6 hS0 ?_
 refine rgT 7 hS0 ?_
 refine rgT 8 hS0 ?_
 refine rgL 9 hS0 HSO1 ?_
 refine rgT 10 hS0 ?_
 refine rgT 11 hS0 ?_
 refine rgT 12 hS0 ?_
 refine rgL 13 hS0 HSO1 ?_
 refine rgT 14 hS0 ?_
 refine rgT 15 hS0 ?_
 refine wpAnyH_done (by kernel_rfl) ?_ _
 go_wp2_with fail
 go_ret
 exact ⟨rfl, heap_set_lit (heap_set_lit (keep_drew HM.out) rfl) rfl, (((Chg.refl [m] w).drew).setCell _ _ (.inl (by simp))).setCell _ _ (.inl (by simp))⟩
set_option maxHeartbeats 2000000 in
theorem l5Raw_ok1 (m : Nat) {u0 u1 u2 u3 u4 u5 u6 u7 u8 u9 u10 u11 : Value} {wr st : Int} (w : World) (h : w.heap[m]? = some (.cells #[u0, u1, u2, u3, u4, u5, u6, u7, u8, u9, u10, u11, .int .i64 wr, .int .i64 st, .bool false] 34 (0, 0))) (h1 : st = -1) (hw : 0 ≤ wr ∧ wr ≤ 1000000000) :
  Calls Tryz.prog 72 #[.pointer (some ⟨m, 0, none⟩)] w fun e w' => e = .returned (.bool true) ∧ w' = w.drew.setCell ⟨m, 12, none⟩ (.int .i64 (wr + 1)) := by
 have hne : ((st : Int) != -1) = false := by simp [h1]
 have HM := hid h; have H1 := hid h1
 have cm := cellsOf h; have nm := ltOf h; have fm := freeOf h
 clear h h1
 go_enter Tryz.func72, Tryz.ntmps72
 go_wp2_with fail
 obtain ⟨SS1, HSI1, HSO1⟩ := rg_cond (fun w' => Know m #[u0, u1, u2, u3, u4, u5, u6, u7, u8, u9, u10, u11, .int .i64 wr, .int .i64 st, .bool false] w')
 have hS0 := HSI1.out _ (Know.of (keep_drew HM.out))
 refine rg_start SS1 (by kernel_rfl) hS0 ?_
 refine rgT 0 hS0 ?_
 refine rgT 1 hS0 ?_
 refine rgT 2 hS0 ?_
 refine rgL 3 hS0 HSO1 ?_
 refine rgT 4 hS0 ?_
 refine rgT 5 hS0 ?_
 refine rgS 6 hS0 ?_
 refine rgS 7 hS0 ?_
 refine rgS 8 hS0 ?_
 refine rgS 9 hS0 ?_
 refine rgS 10 hS0 ?_
 refine rgS 11 hS0 ?_
 refine rgS 12 hS0 ?_
 refine rgS 13 hS0 ?_
 refine rgS 14 hS0 ?_
 refine rgT 15 hS0 ?_
 refine wpAnyH_done (by kernel_rfl) ?_ _
 go_wp2_with fail
 go_ret
 exact ⟨rfl, rfl⟩
set_option maxHeartbeats 2000000 in
theorem l5Raw_ok2 (m : Nat) {u0 u1 u2 u3 u4 u5 u6 u7 u8 u9 u10 u11 : Value} {wr st : Int} (w : World) (h : w.heap[m]? = some (.cells #[u0, u1, u2, u3, u4, u5, u6, u7, u8, u9, u10, u11, .int .i64 wr, .int .i64 st, .bool false] 34 (0, 0))) (h1 : st ≠ -1 ∧ wr < st) (hw : 0 ≤ wr ∧ wr ≤ 1000000000) :
  Calls Tryz.prog 72 #[.pointer (some ⟨m, 0, none⟩)] w fun e w' => e = .returned (.bool true) ∧ w' = w.drew.setCell ⟨m, 12, none⟩ (.int .i64 (wr + 1)) := by
 have hne : ((st : Int) != -1) = true := by simpa using h1.1
 have hlt : ¬ st ≤ wr := by omega
 have HM := hid h; have H1 := hid h1
 have cm := cellsOf h; have nm := ltOf h; have fm := freeOf h
 clear h h1
 go_enter Tryz.func72, Tryz.ntmps72
 go_wp2_with fail
 obtain ⟨SS1, HSI1, HSO1⟩ := rg_cond (fun w' => Know m #[u0, u1, u2, u3, u4, u5, u6, u7, u8, u9, u10, u11, .int .i64 wr, .int .i64 st, .bool false] w')
 have hS0 := HSI1.out _ (Know.of (keep_drew HM.out))
 refine rg_start SS1 (by kernel_rfl) hS0 ?_
 refine rgT 0 hS0 ?_
 refine rgT 1 hS0 ?_
 refine rgT 2 hS0 ?_
 refine rgL 3 hS0 HSO1 ?_
 refine rgT 4 hS0 ?_
 refine rgT 5 hS0 ?_
 refine rgT 6 hS0 ?_
 refine rgT 7 hS0 ?_
 refine rgT 8 hS0 ?_
 refine rgL 9 hS0 HSO1 ?_
 refine rgT 10 hS0 ?_
 refine rgT 11 hS0 ?_
 refine rgT 12 hS0 ?_
 refine rgL 13 hS0 HSO1 ?_
 refine rgT 14 hS0 ?_
 refine rgT 15 hS0 ?_
 refine wpAnyH_done (by kernel_rfl) ?_ _
 go_wp2_with fail
 go_ret
 exact ⟨rfl, rfl⟩
end Go.Proofs.YtphmpimgbmedbaaGreat
