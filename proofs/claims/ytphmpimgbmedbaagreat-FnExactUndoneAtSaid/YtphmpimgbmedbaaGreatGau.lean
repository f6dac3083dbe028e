/- Several texts in one. -/
import Derived.Test.YtphmpimgbmedbaaGreatGal
import Derived.Test.YtphmpimgbmedbaaGreatGak
import Derived.Test.YtphmpimgbmedbaaGreatGag
import Derived.Test.YtphmpimgbmedbaaGreatGaq
/- slices.DeleteFunc at records, whatever the test: the rest is wiped. -/
namespace Go.Proofs.YtphmpimgbmedbaaGreat
open Go.RowKit
open Go.Lib (hid)
theorem RowAt.wipe {α : Type} {L : Lay α} {w : World} {b off : Nat} {ps : List (α × List Nat)} (h : RowAt L w b off ps) {i : Nat} (hi : i ≤ ps.length) {vs : List Value} (hv : vs.length = (ps.length - i) * L.n) : RowAt L (w.setCells b (off + i * L.n) vs) b off (ps.take i) := by
 obtain ⟨cur, E, h1, h2, h3⟩ := h
 rcases Nat.eq_zero_or_pos ps.length with h0 | h0
 ·have : vs = [] := List.eq_nil_of_length_eq_zero (by rw [hv, h0]; simp)
  subst this
  refine ⟨cur, E, h1, fun hp => ?_, fun j p hp => ?_⟩
  ·rw [List.length_take] at hp; omega
  ·have := (List.getElem?_eq_some_iff.1 hp).1
   rw [List.length_take] at this; omega
 have hle := h2 h0
 have hmul : i * L.n + (ps.length - i) * L.n = ps.length * L.n := by rw [← Nat.add_mul]; congr 1; omega
 have hsz : off + i * L.n + vs.length ≤ cur.size := by omega
 have htl := setRow_toList vs (off + i * L.n) cur hsz
 have hct : cur.toList.length = cur.size := by simp
 have hs2 : (setRow cur (off + i * L.n) vs).size = cur.size := by
  have h5 := congrArg List.length htl
  rw [Array.length_toList] at h5
  rw [h5, List.length_append, List.length_append, List.length_take, List.length_drop]
  omega
 refine ⟨_, E, setCells_heap vs _ w cur h1, fun hp => ?_, fun j p hp => ?_⟩
 ·rw [hs2, List.length_take, Nat.min_eq_left hi]
  omega
 ·have hj := (List.getElem?_eq_some_iff.1 hp).1
  rw [List.length_take] at hj
  rw [List.getElem?_take_of_lt (by omega)] at hp
  obtain ⟨h4, h5⟩ := h3 j p hp
  refine ⟨?_, h5⟩
  have hjle : (j + 1) * L.n ≤ i * L.n := Nat.mul_le_mul_right _ (by omega)
  rw [Nat.add_mul, Nat.one_mul] at hjle
  have e2 : ((setRow cur (off + i * L.n) vs).toList.drop (off + j * L.n)).take L.n = (cur.toList.drop (off + j * L.n)).take L.n := by
   apply List.ext_getElem?
   intro k
   by_cases hk : k < L.n
   ·rw [List.getElem?_take_of_lt hk, List.getElem?_take_of_lt hk, List.getElem?_drop, List.getElem?_drop, htl]
    rw [List.getElem?_append_left (by rw [List.length_take]; omega), List.getElem?_take_of_lt (by omega)]
   ·rw [List.getElem?_eq_none (by rw [List.length_take]; omega), List.getElem?_eq_none (by rw [List.length_take]; omega)]
  rw [e2]
  exact L.keep h4 (fun y hy => setCells_far (fun (e : y = b) => h5 (e ▸ hy)) vs _ w)
theorem zeros_len (z : Array Value) (n : Nat) : (Builtin.zeroCells z n).toList.length = n * z.size := by unfold Builtin.zeroCells; simp
theorem run_clear_wide {P : Program} (w : World) (t e ty : TypeId) (z : Value) (ht : P.underlying t = some (.slice e)) (hv : ∀ w, (zeroValue e).run P w = .ok z w) (m : Nat) (hz : z.cells.size = m) (hm : 0 < m) (h1 : ∀ u ∈ z.cells, u.oneCell' = true) (b o n c : Nat) (hn : 0 < n)
  (hc : ∀ j, j < n * m → (w.cell? ⟨b, o + j, none⟩).isSome = true) (hf : ∀ j, w.frozen? ⟨b, j, none⟩ = false) :
  (Builtin.clear_ #[t] ty #[.slice (some ⟨b, o, none⟩) n c]).run P w = .ok (.tuple #[]) (w.setCells b o (Builtin.zeroCells z.cells n).toList) := by
 have hst := run_storeCells_cells (P := P) b o (Builtin.zeroCells z.cells n).toList 0 w (fun j hj => by rw [Nat.add_zero]; exact hc j (by rw [zeros_len, hz] at hj; exact hj)) (fun j _ => hf _) (by
  intro v hv'
  unfold Builtin.zeroCells at hv'
  rw [Array.toList_map, List.mem_map] at hv'
  obtain ⟨i, -, rfl⟩ := hv'
  have hi : i % z.cells.size < z.cells.size := Nat.mod_lt _ (by omega)
  rw [getElem!_pos z.cells _ hi]
  exact h1 _ (Array.getElem_mem hi))
 simp only [Nat.add_zero] at hst
 obtain ⟨m2, rfl⟩ : ∃ m, n = m + 1 := ⟨n - 1, by omega⟩
 simp [Builtin.clear_, run_underlying ht, hv, hst]
theorem rec_put {w : World} {b off : Nat} {ps : List RP} (h : RowAt recL w b off ps) {i : Nat} (hi : i < ps.length) {p : RP} {c : List Value} (hr : recL.rep w c p.1 p.2) (hb : b ∉ p.2) : RowAt recL (w.setCells b (off + i * 9) c) b off (ps.set i p) := h.put hi hr hb
theorem rec_wipe {w : World} {b off : Nat} {ps : List RP} (h : RowAt recL w b off ps) {i : Nat} (hi : i ≤ ps.length) {vs : List Value} (hv : vs.length = (ps.length - i) * 9) : RowAt recL (w.setCells b (off + i * 9) vs) b off (ps.take i) := h.wipe hi hv
def DelR (b off cap : Nat) (qs : List RP) (w : World) (e : Ending) (w' : World) : Prop := e = .returned (.slice (some ⟨b, off, none⟩) qs.length cap) ∧ RowAt recL w' b off qs ∧ Chg [b] w w'
theorem filt_all {q : Rec → Bool} {ps : List RP} (h : ∀ p ∈ ps, q p.1 = false) : ps.filter (fun p => !q p.1) = ps := List.filter_eq_self.2 (fun p hp => by rw [h p hp]; rfl)
set_option maxRecDepth 100000 in
set_option maxHeartbeats 4000000 in
theorem delR_any (k : Nat) (caps : Array Value) (q : Rec → Bool) (b off n cap : Nat) (ps0 : List RP) (w : World) (hr : RowAt recL w b off ps0) (hn : n = ps0.length) (hc : n ≤ cap) (hm : cap ≤ maxLen) (hcf : ∀ (args : Array Value) (w : World), (callFunc k args).run Tryz.prog w = .ok (.enter k args) w) (hq : ∀ w1, Chg [b] w w1 → TestsRec k caps q (ps0.map (·.1)) w1) :
  Calls Tryz.prog 158 #[.slice (some ⟨b, off, none⟩) n cap, .func (.func k) #[] caps] w (DelR b off cap (ps0.filter (fun p => !q p.1)) w) := by
 have hsl := hr.sl hn hc hm
 have HI := hid (idxRec_any k caps q _ _ _ _ _ w hsl hcf (hq w (Chg.refl _ _)))
 have HR := hid hr; have HN := hid hn; have HQ := hid hq
 simp only [maxLen] at hm
 clear hsl hr hn hq
 go_enter Tryz.func158, Tryz.ntmps158
 go_wp2_with fail
 refine HI.out.mono ?_
 rintro e w0 ⟨r, rfl, HK, hc0⟩
 rcases HK.out with ⟨rfl, hall⟩ | ⟨k0, rfl, ⟨x0, hx0, hq0⟩, hall⟩
 ·have HF := hid (show ps0.filter (fun p => !q p.1) = ps0 from filt_all (fun p hp => by have := List.any_eq_false.1 hall p.1 (List.mem_map.2 ⟨p, hp, rfl⟩); simpa using this))
  have HC := hid hc0
  clear hall hc0 HK
  go_wp2_with fail
  go_ret
  exact ⟨by rw [HF.out, ← HN.out]; rfl, by rw [HF.out]; exact HR.out.ext HC.out, HC.out.mono (by simp)⟩
 ·have hne : ((k0 : Int) == -1) = false := by simp
  have hk0 : k0 < n := by have := (List.getElem?_eq_some_iff.1 hx0).1; rw [List.length_map] at this; rw [HN.out]; exact this
  have HK0 := hid (show ps0.take k0 = (ps0.take (k0 + 1)).filter (fun p => !q p.1) by
   obtain ⟨p, hp, e⟩ : ∃ p, ps0[k0]? = some p ∧ p.1 = x0 := by rw [List.getElem?_map] at hx0; cases h : ps0[k0]? with | none => rw [h] at hx0; cases hx0 | some p => rw [h] at hx0; exact ⟨p, rfl, Option.some.inj hx0⟩
   rw [take_next hp, List.filter_append, filt_all (fun y hy => by
    obtain ⟨i, hi, rfl⟩ := List.getElem_of_mem hy
    rw [List.length_take] at hi
    exact hall i _ (by omega) (by rw [List.getElem?_map, List.getElem_take, List.getElem?_eq_getElem (by omega)]; rfl)), List.filter_cons_of_neg (by rw [e, hq0]; simp)]
   simp)
  have HC := hid hc0
  clear hx0 hq0 hall HK hc0 HI
  go_wp2_with fail
  go_loopw [5, 6] (fun vi vj wr => ∃ (i j : Nat) (ps : List RP) (Wr : World), Wr = wr ∧ vi = .int .i64 i ∧ vj = .int .i64 j ∧ i < j ∧ j ≤ n ∧ ps.length = n ∧ RowAt recL wr b off ps ∧ Hid (ps.take i = (ps0.take j).filter (fun p => !q p.1)) ∧ Hid (ps.drop j = ps0.drop j) ∧ Chg [b] w wr) (fun _ vj _ => n - (intOf vj).toNat)
  case atStart => exact ⟨k0, k0 + 1, ps0, _, rfl, rfl, by go_num, by omega, by omega, HN.out.symm, HR.out.ext HC.out, HK0, hid rfl, HC.out.mono (by simp)⟩
  case round =>
   obtain ⟨i, j, ps, wr, rfl, rfl, rfl, hij, hj, hpl, hrow, HT, HD, hch⟩ := hrel
   have HRW := hid hrow; have HCH := hid hch; have HPL := hid hpl
   have hbl := hrow.lt
   clear hch
   by_cases hlt : j < n
   ·obtain ⟨p, hp⟩ : ∃ p, ps[j]? = some p := ⟨_, List.getElem?_eq_getElem (by omega)⟩
    obtain ⟨cl, ry, hbp, ky⟩ := rec_look hrow hp
    obtain ⟨a6, l6, c6, f6, a7, l7, c7, f7, a8, l8, c8, f8, hcl, -⟩ := recL_iff.1 ry
    have hp0 : ps0[j]? = some p := by
     have h1 := congrArg (fun l => l[0]?) HD.out
     simp only [List.getElem?_drop, Nat.add_zero, hp] at h1
     exact h1.symm
    have HT3 := hid (show Calls Tryz.prog k (#[.agg cl.toArray] ++ caps) (wr.alloc (.cells cl.toArray 67)) (fun e w' => e = .returned (.bool (q p.1)) ∧ Chg [] (wr.alloc (.cells cl.toArray 67)) w') by
     have h1 := recL.ext ry ((Chg.refl [] wr).alloc (.cells cl.toArray 67))
     subst hcl
     exact HQ.out wr HCH.out p.1 a6 l6 c6 a7 l7 c7 a8 l8 c8 p.2 _ (List.mem_map.2 ⟨p, List.mem_of_getElem? hp0, rfl⟩) ((Chg.refl [] wr).alloc _) h1)
    have HKA := hid (show cl.toArray.size = 9 ∧ cl.toArray.toList.all Value.oneCell' = true from ⟨by simpa using ky.1, List.all_eq_true.2 (fun v hv => ky.2.2 v (by simpa using hv))⟩)
    have HP := hid (And.intro ry hbp); have HP0 := hid hp0; have HKY := hid ky
    have HD2 := hid (show ps.drop (j + 1) = ps0.drop (j + 1) by have h1 := congrArg (List.drop 1) HD.out; rw [List.drop_drop, List.drop_drop] at h1; exact h1)
    clear hrow hp ry hbp ky hp0 hpl hcl
    have HC0 := hid ((Chg.refl [] wr).alloc (.cells cl.toArray 67))
    cases hqx : q p.1
    ·rw [hqx] at HT3
     have HQX := hid hqx
     clear hqx
     go_wp2_with (first | (refine load_rowL rfl _ 67 rfl rfl infoRc Tryz.underlying67 HKY.out.2.1 HKY.out.1 ?_) | (refine store_new rfl _ _ 67 rfl rfl rfl (by simp) infoRc HKA.out.1 rfl HKA.out.2 ?_) | (refine load_wide rfl _ 67 rfl rfl infoRc Tryz.underlying67 (new_alloc _ _) HKA.out.1 ?_))
     refine HT3.out.mono ?_
     rintro e w3 ⟨rfl, hc3⟩
     have HB3 := hid (hc3.keep0 (new_alloc wr (.cells cl.toArray 67)))
     have HC3 := hid (HC0.out.trans0 hc3)
     have HRW3 := hid (HRW.out.ext HC3.out)
     have HIS := hid (rec_some HRW3.out (i := i) (by have := HPL.out; omega)); have HFR := hid HRW3.out.free
     have HPUT := hid (show RowAt recL (w3.setCells b (off + i * 9) cl) b off (ps.set i p) from rec_put HRW3.out (by have := HPL.out; omega) (recL.ext HP.out.1 HC3.out) HP.out.2)
     have HN1 := hid (show (ps.set i p).take (i + 1) = (ps0.take (j + 1)).filter (fun p => !q p.1) by
      rw [take_next HP0.out, List.filter_append, ← HT.out, take_next (show (ps.set i p)[i]? = some p by rw [List.getElem?_set_self (by have := HPL.out; omega)]), List.take_set_of_le (Nat.le_refl _), List.filter_cons_of_pos (by rw [HQX.out]; rfl)]
      rfl)
     have HN2 := hid (show (ps.set i p).drop (j + 1) = ps0.drop (j + 1) by rw [List.drop_set_of_lt (by omega)]; exact HD2.out)
     clear hc3
     go_wp2_with (first | (refine load_wide rfl _ 67 rfl rfl infoRc Tryz.underlying67 HB3.out HKA.out.1 ?_) | (refine store_rowL rfl _ _ 67 rfl rfl rfl infoRc HIS.out HFR.out HKY.out.1 HKY.out.2.2 ?_))
     go_roundw
     case rel => exact ⟨i + 1, j + 1, ps.set i p, _, rfl, by go_num, by go_num, by omega, by omega, by rw [List.length_set]; exact HPL.out, HPUT.out, HN1, HN2, (HCH.out.trans0 HC3.out).setCells (.inl (by simp)) _ _⟩
     case measure => simp [intOf]; omega
    ·rw [hqx] at HT3
     have HN1 := hid (show ps.take i = (ps0.take (j + 1)).filter (fun p => !q p.1) by rw [take_next HP0.out, List.filter_append, HT.out, List.filter_cons_of_neg (by rw [hqx]; simp)]; simp)
     clear hqx
     go_wp2_with (first | (refine load_rowL rfl _ 67 rfl rfl infoRc Tryz.underlying67 HKY.out.2.1 HKY.out.1 ?_) | (refine store_new rfl _ _ 67 rfl rfl rfl (by simp) infoRc HKA.out.1 rfl HKA.out.2 ?_) | (refine load_wide rfl _ 67 rfl rfl infoRc Tryz.underlying67 (new_alloc _ _) HKA.out.1 ?_))
     refine HT3.out.mono ?_
     rintro e w3 ⟨rfl, hc3⟩
     have HC3 := hid (HC0.out.trans0 hc3)
     clear hc3
     go_wp2_with fail
     go_roundw
     case rel => exact ⟨i, j + 1, ps, _, rfl, rfl, by go_num, by omega, by omega, HPL.out, HRW.out.ext HC3.out, HN1, HD2, HCH.out.trans0 HC3.out⟩
     case measure => simp [intOf]; omega
   ·obtain rfl : j = n := by omega
    have hltz : ¬ (j : Int) < (j : Int) := by omega
    have hfull : ps.take i = ps0.filter (fun p => !q p.1) := by rw [HT.out, List.take_of_length_le (by have := HN.out; omega)]
    obtain ⟨ZS, hZS⟩ : ∃ ZS, ZS = (Builtin.zeroCells (Value.cells (.agg #[.int .i64 0, .int .i64 0, .string ⟨#[]⟩, .int .i64 0, .int .i64 0, .int .i64 0, .slice none 0 0, .slice none 0 0, .slice none 0 0])) (j - i)).toList := ⟨_, rfl⟩
    have hcl2 : ∀ ty, (Builtin.clear_ #[44] ty #[.slice (some ⟨b, off + i * 9, none⟩) (j - i) (cap - i)]).run Tryz.prog wr = .ok (.tuple #[]) (wr.setCells b (off + i * 9) ZS) := fun ty => by
     rw [hZS]
     refine run_clear_wide wr _ _ ty _ Tryz.underlying44 Tryz.zeroValue67 9 rfl (by omega) (by simp [Value.cells, Value.oneCell']) b (off + i * 9) _ _ (by omega) (fun t ht => ?_) hrow.free
     have h1 := rec_some hrow (i := i + t / 9) (by omega) (t % 9) (Nat.mod_lt _ (by omega))
     have e : off + (i + t / 9) * 9 + t % 9 = off + i * 9 + t := by
      have := Nat.div_add_mod t 9
      omega
     rw [e] at h1; exact h1
    have hwp : RowAt recL (wr.setCells b (off + i * 9) ZS) b off (ps.take i) := rec_wipe hrow (by omega) (by rw [hZS, zeros_len, hpl]; rfl)
    rw [hfull] at hwp
    have HQ2 := hid (And.intro hwp (show (ps0.filter (fun p => !q p.1)).length = i by rw [← hfull, List.length_take]; omega))
    clear hwp hfull hrow hZS hpl
    go_wp2_with fail
    go_ret
    exact ⟨by rw [HQ2.out.2]; rfl, HQ2.out.1, HCH.out.setCells (.inl (by simp)) _ _⟩
theorem del_rwd {q : Rec → Bool} {g cap n0 : Nat} {qs : List RP} {xs : List Rec} {w1 w4 : World} {e : Ending} (h : DelR g 0 cap (qs.filter (fun p => !q p.1)) w1 e w4) (hqm : qs.map (·.1) = xs) (hg : n0 ≤ g) (hn : qs.length ≤ cap) (hcm : cap ≤ maxLen) (hfp : ∀ p ∈ qs, ∀ y ∈ p.2, y < n0) :
  ∃ v, e = .returned v ∧ (∃ g cap ps, v = .slice (some ⟨g, 0, none⟩) (xs.filter (fun r => !q r)).length cap ∧ RowAt recL w4 g 0 ps ∧ ps.map (·.1) = xs.filter (fun r => !q r) ∧ n0 ≤ g ∧ (xs.filter (fun r => !q r)).length ≤ cap ∧ cap ≤ maxLen ∧ ∀ p ∈ ps, ∀ y ∈ p.2, y < n0) ∧ Chg [g] w1 w4 := by
 obtain ⟨rfl, hr, hc⟩ := h
 have e1 : (qs.filter (fun p => !q p.1)).map (·.1) = xs.filter (fun r => !q r) := by rw [← hqm, filter_map']
 have e2 : (qs.filter (fun p => !q p.1)).length = (xs.filter (fun r => !q r)).length := by rw [← e1, List.length_map]
 refine ⟨_, rfl, ⟨g, cap, _, by rw [e2], hr, e1, hg, ?_, hcm, fun p hp => hfp p (List.mem_filter.1 hp).1⟩, hc⟩
 rw [← e2]
 exact Nat.le_trans (List.length_filter_le _ _) hn
end Go.Proofs.YtphmpimgbmedbaaGreat
/- What of the counted records is missing, undone or spent, in plain Lean. No function of the program in sight. -/
namespace Go.Proofs.YtphmpimgbmedbaaGreat
open Go.RowKit
open Go.Lib (hid)
theorem filt_next {α : Type} {p : α → Bool} {xs : List α} {k : Nat} {x : α} (h : xs[k]? = some x) : (xs.take (k + 1)).filter p = (xs.take k).filter p ++ (if p x then [x] else []) := by
 rw [take_next h, List.filter_append]
 cases hp : p x <;> simp [hp]
theorem filt_yes {α : Type} {p : α → Bool} {xs : List α} {k : Nat} {x : α} (h : xs[k]? = some x) (hp : p x = true) : (xs.take (k + 1)).filter p = (xs.take k).filter p ++ [x] := by
 rw [filt_next h, if_pos hp]
theorem filt_no {α : Type} {p : α → Bool} {xs : List α} {k : Nat} {x : α} (h : xs[k]? = some x) (hp : p x = false) : (xs.take (k + 1)).filter p = (xs.take k).filter p := by
 rw [filt_next h, if_neg (by rw [hp]; simp), List.append_nil]
theorem totL_filt {f : Rec → Int} (hf : ∀ x, 0 ≤ f x) (p : Rec → Bool) (xs : List Rec) : totL f (xs.filter p) ≤ totL f xs := by
 have h1 := sumI_filter_le hf p xs
 have h2 := List.length_filter_le p xs
 unfold totL; omega
theorem totF (p : Rec → Bool) (x : Wld) (hz : totWld x ≤ 1048576) : totL totRec ((cntL x.tapes).filter p) ≤ 1048576 :=
 Int.le_trans (totL_filt totRec_nonneg p _) (Int.le_trans (totCnt x) hz)
theorem cntF (p : Rec → Bool) (x : Wld) : sumI cntRec ((cntL x.tapes).filter p) ≤ cntWld x :=
 Int.le_trans (sumI_filter_le cntRec_nonneg p _) (cntCnt x)
def tapR (ts : List Tap) (t : Int) : List Rec := (ts[t.toNat]?.map (·.recs)).getD []
noncomputable def misP (rs : List Rec) (r : Rec) : Bool := !rs.any (fun y => sameV y r)
noncomputable def misL (l rs : List Rec) : List Rec := l.filter (misP rs)
noncomputable def donB (l : List Rec) (s g : Int) : Bool := l.any (fun x => pb (x.kind = 3 ∧ x.seq = s ∧ x.group = g))
noncomputable def undP (gs g : Int) (l : List Rec) (r : Rec) : Bool := pb (r.kind = 2 ∧ (gs ≤ g ∨ r.group = g)) && !donB l r.seq g
noncomputable def undL (gs g : Int) (l : List Rec) : List Rec := l.filter (undP gs g l)
noncomputable def misR (x : Wld) (t : Int) : RRes := if x.fault = 0 then (if 0 ≤ t ∧ t ≤ 1 then ⟨0, misL (cntL x.tapes) (tapR x.tapes t)⟩ else ⟨3, []⟩) else ⟨x.fault, []⟩
noncomputable def undR (x : Wld) (g : Int) : RRes := if x.fault = 0 then (if 0 ≤ g ∧ g ≤ x.shape.groups + x.shape.column - 1 then ⟨0, undL x.shape.groups g (cntL x.tapes)⟩ else ⟨3, []⟩) else ⟨x.fault, []⟩
theorem misR_bad {x : Wld} {t : Int} (h : ¬ x.fault = 0) : misR x t = ⟨x.fault, []⟩ := if_neg h
theorem misR_rng {x : Wld} {t : Int} (h : x.fault = 0) (k : ¬ (0 ≤ t ∧ t ≤ 1)) : misR x t = ⟨3, []⟩ := by unfold misR; rw [if_pos h, if_neg k]
theorem misR_ok {x : Wld} {t : Int} (h : x.fault = 0) (k : 0 ≤ t ∧ t ≤ 1) : misR x t = ⟨0, misL (cntL x.tapes) (tapR x.tapes t)⟩ := by unfold misR; rw [if_pos h, if_pos k]
theorem undR_bad {x : Wld} {g : Int} (h : ¬ x.fault = 0) : undR x g = ⟨x.fault, []⟩ := if_neg h
theorem undR_rng {x : Wld} {g : Int} (h : x.fault = 0) (k : ¬ (0 ≤ g ∧ g ≤ x.shape.groups + x.shape.column - 1)) : undR x g = ⟨3, []⟩ := by unfold undR; rw [if_pos h, if_neg k]
theorem undR_ok {x : Wld} {g : Int} (h : x.fault = 0) (k : 0 ≤ g ∧ g ≤ x.shape.groups + x.shape.column - 1) : undR x g = ⟨0, undL x.shape.groups g (cntL x.tapes)⟩ := by unfold undR; rw [if_pos h, if_pos k]
theorem sum_nilR (x : Wld) : sumI cntRec ([] : List Rec) ≤ cntWld x := cntWld_nonneg x
theorem cntMis (x : Wld) (t : Int) : sumI cntRec (misR x t).recs ≤ cntWld x := by
 unfold misR; split
 ·split
  ·exact cntF _ x
  ·exact sum_nilR x
 ·exact sum_nilR x
theorem cntUnd (x : Wld) (g : Int) : sumI cntRec (undR x g).recs ≤ cntWld x := by
 unfold undR; split
 ·split
  ·exact cntF _ x
  ·exact sum_nilR x
 ·exact sum_nilR x
theorem fault_ok0 {x : Wld} (hf : x.fault = 0) : x.shape.ok := Classical.byContradiction fun hn => by
 unfold Wld.fault at hf
 rw [pb_false hn] at hf
 simp at hf
end Go.Proofs.YtphmpimgbmedbaaGreat
/- A growing row of records that share their memory with a list of records. No function of the program in sight. -/
namespace Go.Proofs.YtphmpimgbmedbaaGreat
open Go.RowKit
open Go.Lib (hid)
def SlR (xs : List Rec) (w : World) (e : Ending) (w' : World) : Prop := ∃ a l c f, e = .returned (.slice a l c) ∧ recL.sl w' a l c xs f ∧ Chg [] w w'
theorem SlR.of {xs : List Rec} {n0 : Nat} {w : World} {e : Ending} {w' : World} {v : Value} (he : e = .returned v) (h : Rwd n0 w' v xs) (hc : Chg [] w w') : SlR xs w e w' := by
 obtain ⟨a, l, c, f, rfl, hs, -⟩ := h.sl
 exact ⟨a, l, c, f, he, hs, hc⟩
def ShF (n0 : Nat) (f : List Nat) (w : World) (v : Value) (xs : List Rec) : Prop := ∃ g fps, recL.os 67 w v xs (some g) fps ∧ n0 ≤ g ∧ g ∉ f ∧ ∀ y ∈ fps, y ∈ f
theorem ShF.ext {n0 : Nat} {f : List Nat} {w w' : World} {v : Value} {xs : List Rec} (h : ShF n0 f w v xs) (hc : Chg [] w w') : ShF n0 f w' v xs := by
 obtain ⟨g, fps, h1, h2⟩ := h
 exact ⟨g, fps, recL.os_ext h1 hc, h2⟩
theorem ShF.made {n0 : Nat} {f : List Nat} {w : World} (h : n0 ≤ w.heap.size) (hf : w.heap.size ∉ f) : ShF n0 f (w.alloc (.cells #[] 67)) (.slice (some ⟨w.heap.size, 0, none⟩) 0 0) [] :=
 ⟨w.heap.size, [], recL.os_made 67 w #[] 0 (by simp [maxLen]) (by simp), h, hf, by simp⟩
theorem ShF.made2 {n0 n : Nat} {f : List Nat} {w : World} (hn : n = w.heap.size) (h : n0 ≤ n) (hf : n ∉ f) : ShF n0 f (w.alloc (.cells #[] 67)) (.slice (some ⟨n, 0, none⟩) 0 0) [] := by subst hn; exact ShF.made h hf
theorem ShF.step {f : List Nat} {w W w' : World} {v' : Value} {xs rs : List Rec} {r : Rec} {g : Nat} {fps fq : List Nat} {h' : Option Nat} {a : Option Addr} {l c : Nat} (hg : w.heap.size ≤ g) (hgf : g ∉ f) (hf : ∀ y ∈ fps, y ∈ f) (hq : ∀ y ∈ fq, y ∈ f) (hs : recL.sl W a l c rs f) (hc : Chg [] w W)
  (ho : recL.os 67 w' v' (xs ++ [r]) h' (fps ++ fq)) (hh : h' = some g ∨ h' = some W.heap.size) (hc' : Chg (some g).toList W w') : ShF w.heap.size f w' v' (xs ++ [r]) ∧ recL.sl w' a l c rs f ∧ Chg [] w w' := by
 refine ⟨?_, recL.sl_chg hs hc' (fun y hy hm => hgf (by simp at hm; exact hm ▸ hy)), hc.trans hc' (fun y hy => .inr (by simp at hy; omega))⟩
 have hff : ∀ y ∈ fps ++ fq, y ∈ f := fun y hy => (List.mem_append.1 hy).elim (hf y) (hq y)
 rcases hh with rfl | rfl
 ·exact ⟨g, _, ho, hg, hgf, hff⟩
 ·exact ⟨W.heap.size, _, ho, hc.size, fun hm => Nat.lt_irrefl _ (recL.sl_lt hs _ hm), hff⟩
theorem ShF.slr {n0 : Nat} {f : List Nat} {w w' : World} {v : Value} {xs : List Rec} (h : ShF n0 f w' v xs) (hc : Chg [] w w') : SlR xs w (.returned v) w' := by
 obtain ⟨g, fps, h1, -⟩ := h
 obtain ⟨a, cap, rfl, hs⟩ := recL.os_sl h1
 exact ⟨_, _, _, _, rfl, hs, hc⟩
end Go.Proofs.YtphmpimgbmedbaaGreat
