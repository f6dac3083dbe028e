/- Several texts in one. -/
import Derived.Test.YtphmpimgbmedbaaGreatRows
import Derived.Test.YtphmpimgbmedbaaGreatQaq
import Derived.Test.YtphmpimgbmedbaaGreatQaz
import Derived.Test.YtphmpimgbmedbaaGreatQal
import Derived.Test.YtphmpimgbmedbaaGreatQad
import Derived.Deep.CutBlock
import Derived.Test.YtphmpimgbmedbaaGreatQaw
import Derived.Test.YtphmpimgbmedbaaGreatQav
import Derived.Test.YtphmpimgbmedbaaGreatQat
import Derived.Test.YtphmpimgbmedbaaGreatQax
import Derived.Test.YtphmpimgbmedbaaGreatQar
set_option maxRecDepth 100000
set_option maxHeartbeats 8000000
namespace Go.Proofs.YtphmpimgbmedbaaGreat
open Go.RowKit
open Go.Lib (hid)


def Rwd (n0 : Nat) (w : World) (v : Value) (xs : List Rec) : Prop := ∃ g cap ps, v = .slice (some ⟨g, 0, none⟩) xs.length cap ∧ q0y recL w g 0 ps ∧ ps.map (·.1) = xs ∧ n0 ≤ g ∧ xs.length ≤ cap ∧ cap ≤ maxLen ∧ ∀ p ∈ ps, ∀ y ∈ p.2, y < n0
theorem Rwd.ext {n0 : Nat} {w w' : World} {v : Value} {xs : List Rec} (h : Rwd n0 w v xs) (hc : Chg [] w w') : Rwd n0 w' v xs := by
 obtain ⟨g, cap, ps, h1, h2, h3⟩ := h
 exact ⟨g, cap, ps, h1, h2.ext hc, h3⟩
def topL (xs : List Rec) : Int := (xs.getLast?.map (·.seq)).getD 0
theorem topL_at {xs : List Rec} {z n : Nat} {r : Rec} (h : xs[z]? = some r) (hn : n = xs.length) (hz : n = z + 1) : topL xs = r.seq := by
 unfold topL
 rw [List.getLast?_eq_getElem?, ← hn, hz, Nat.add_sub_cancel, h]; rfl
noncomputable def nxtL (ts : List Tap) : Int := IntKind.i64.wrap (topL (cntL ts) + 1)
noncomputable def nsqL (ts : List Tap) : Int × Int := if nxtL ts > 1000000000 then (0, 2) else (nxtL ts, 0)
noncomputable def nsqR (x : Wld) : Int × Int := if x.fault = 0 then ((nsqL x.tapes).2, (nsqL x.tapes).1) else (x.fault, 0)
theorem q8m {x : Wld} (hf : x.fault = 0) : x.tapes.length = 2 ∧ ∀ t ∈ x.tapes, t.recs.length ≤ 200 := by
 refine ⟨Classical.byContradiction (fun hn => ?_), fun t ht => Classical.byContradiction (fun hn => ?_)⟩
 ·unfold Wld.fault at hf
  rw [q0f (P := x.built ∧ x.onOk ∧ x.tapes.length = 2) (fun g => hn g.2.2)] at hf
  split at hf <;> simp at hf
 ·unfold Wld.fault at hf
  have h2 : x.tapF = 2 := by unfold Wld.tapF; rw [if_pos (q0g ⟨t, ht, by omega⟩)]
  rw [h2] at hf
  split at hf
  ·split at hf
   ·simp at hf
   ·omega
  ·omega
theorem flat_le : ∀ (ts : List Tap) (_ : ∀ t ∈ ts, t.recs.length ≤ 200), (ts.flatMap (·.recs)).length ≤ 200 * ts.length
 | [], _ => by simp
 | t :: ts, h => by
  rw [List.flatMap_cons, List.length_append, List.length_cons]
  have h1 := h t (by simp)
  have h2 := flat_le ts (fun t ht => h t (by simp [ht]))
  omega
theorem q8n {x : Wld} (hf : x.fault = 0) : (x.tapes.flatMap (·.recs)).length ≤ 400 := by
 have h := q8m hf
 have h2 := flat_le x.tapes h.2
 rw [h.1] at h2; exact h2
theorem CntPost.rwd {xs : List Rec} {w : World} {e : Ending} {w' : World} (h : CntPost xs w e w') : ∃ v, e = .returned v ∧ Rwd w.heap.size w' v xs ∧ Chg [] w w' := by
 obtain ⟨g, n, cap, qs, rfl, h1, h2, h3, h4, h5, h6, h7, h8⟩ := h
 have hl : n = xs.length := by rw [h3, ← h2, List.length_map]
 subst hl
 exact ⟨_, rfl, ⟨g, cap, qs, rfl, h1, h2, h4, h5, h6, h7⟩, h8⟩
theorem Rwd.sl {n0 : Nat} {w : World} {v : Value} {xs : List Rec} (h : Rwd n0 w v xs) : ∃ a l cap f, v = .slice a l cap ∧ recL.sl w a l cap xs f ∧ l = xs.length := by
 obtain ⟨g, cap, ps, h1, h2, h3, h4, h5, h6, h7⟩ := h
 have hl : xs.length = ps.length := by rw [← h3, List.length_map]
 have := h2.sl hl h5 h6
 rw [h3] at this
 exact ⟨_, _, _, _, h1, this, rfl⟩
theorem lastAt {n z : Nat} (hn : n = z + 1) (h : n ≤ 1000000) : IntKind.i64.wrap ((n : Int) - 1) = (z : Int) := by
 rw [IntWalk.i64_in _ ⟨by omega, by omega⟩]; omega
theorem nextSeq_any (m : Nat) {u0 u1 u2 u3 u4 u5 u6 u7 u8 u9 u10 u12 u13 u14 : Value} (a12 : Option Addr) (l12 c12 : Nat) (f12 : List Nat) (ts : List Tap) (w : World) (h : w.heap[m]? = some (.cells #[u0, u1, u2, u3, u4, u5, u6, u7, u8, u9, u10, .slice a12 l12 c12, u12, u13, u14] 34 (0, 0))) (h12 : tapL.sl w a12 l12 c12 ts f12) (hz : (ts.flatMap (·.recs)).length ≤ 400) :
  Calls Tryz.prog 105 #[.pointer (some ⟨m, 0, none⟩)] w fun e w' => e = .returned (.tuple #[.int .i64 (nsqL ts).1, .int .i64 (nsqL ts).2]) ∧ Chg [] w w' := by
 have HC := hid (q7p m a12 l12 c12 f12 ts w h h12 (by omega))
 have HL := hid (Nat.le_trans (cntL_len ts) hz)
 clear h h12 hz
 go_enter Tryz.func105, Tryz.ntmps105
 go_wp2_with fail
 refine HC.out.mono ?_
 rintro e w2 hp
 obtain ⟨v, rfl, hr, hc⟩ := hp.rwd
 obtain ⟨a, l, c, f, rfl, hs, hlx⟩ := hr.sl
 have HC2 := hid hc
 clear hp hr hc
 obtain ⟨y, hy⟩ : ∃ y, y = nxtL ts := ⟨_, rfl⟩
 have HY := hid (show nsqL ts = if y > 1000000000 then (0, 2) else (y, 0) by rw [hy]; rfl)
 rcases Nat.eq_zero_or_pos l with h0 | h0
 ·have hx : cntL ts = [] := List.eq_nil_of_length_eq_zero (by omega)
  have hb : ¬ 0 < l := by omega
  have hy1 : y = 1 := by rw [hy]; unfold nxtL; rw [hx]; rfl
  have HE := hid (show nsqL ts = (1, 0) by rw [HY.out, hy1]; rfl)
  clear hx hy hy1 hs hlx HY h0
  go_wp2_with fail
  refine bodyPost_ret (v := .tuple #[.int .i64 1, .int .i64 0]) (by simp [results, Tryz.results105, go_sem]) rfl ⟨by rw [HE.out], HC2.out⟩
 ·obtain ⟨z, rfl⟩ : ∃ z, l = z + 1 := ⟨l - 1, by omega⟩
  have hl4 := HL.out
  obtain ⟨r, b2, off2, a6, l6, c6, a7, l7, c7, a8, l8, c8, fq, HR, rfl, hq0, hq1, hq2, hq3, hq4, hq5, hq6, hq7, hq8, HXS⟩ := q7e hs (show z < z + 1 by omega)
  have hw1 : IntKind.i64.wrap (r.seq + 1) = y := by rw [hy]; unfold nxtL; rw [topL_at HR.out.1 hlx rfl]
  have hwz := lastAt (n := z + 1) (z := z) rfl (by omega)
  obtain ⟨l, hl2⟩ : ∃ l, l = z + 1 := ⟨_, rfl⟩
  rw [← hl2] at hwz ⊢
  have hzl : z < l := by omega
  have hb : 0 < l := by omega
  clear hlx HR hl2 hs hl4 hy
  by_cases hbig : y > 1000000000
  ·have HE := hid (show nsqL ts = (0, 2) by rw [HY.out, if_pos hbig])
   have hbb : 1000000000 < y := hbig
   clear hbig
   go_wp2_with fail
   refine bodyPost_ret (v := .tuple #[.int .i64 0, .int .i64 2]) (by simp [results, Tryz.results105, go_sem]) rfl ⟨by rw [HE.out], HC2.out⟩
  ·have HE := hid (show nsqL ts = (y, 0) by rw [HY.out, if_neg hbig])
   have hbb : ¬ 1000000000 < y := hbig
   clear hbig
   go_wp2_with fail
   refine bodyPost_ret (v := .tuple #[.int .i64 y, .int .i64 0]) (by simp [results, Tryz.results105, go_sem]) rfl ⟨by rw [HE.out], HC2.out⟩
theorem infoIR : (Tryz.prog.info? 54).map (fun i => i.size) = some 2 := by kernel_rfl
theorem nsqR_bad {x : Wld} (h : ¬ x.fault = 0) : nsqR x = (x.fault, 0) := if_neg h
theorem nsqR_ok {x : Wld} (h : x.fault = 0) : nsqR x = ((nsqL x.tapes).2, (nsqL x.tapes).1) := if_pos h
theorem impl_NextSeq (x : Wld) (cx : Array Value) (fx : List Nat) (w : World) (hx : wldL.rep w cx.toList x fx) (hz : q2t x ≤ 1048576) :
  Calls Tryz.prog 34 #[.agg cx] w (fun e w' => e = .returned (.agg #[.int .i64 (nsqR x).1, .int .i64 (nsqR x).2]) ∧ Chg [] w w') := by
 obtain ⟨a10, l10, c10, _, a11, l11, c11, f11, a12, l12, c12, _, ex, -, -, -, -, -, -, -, -, -, h10, h11, h12, oo13, oo14, -⟩ := q1a.1 hx
 obtain rfl := Array.toList_inj.1 (ex.trans (List.toList_toArray).symm)
 have HW := hid hx; have HZ := hid hz; have H10 := hid h10; have H11 := hid h11; have H12 := hid h12; have HOO := hid (And.intro oo13 oo14)
 have hl11 : l11 ≤ 1048576 := by have h := h11.1; have q10 := q1s (q1s q3m) x.gS; have q12 := q1s q4g x.tapes; unfold q2t q5u at hz; omega
 clear hx ex hz h10 h11 h12 oo13 oo14
 have G0 := hid (show Chg [] w ((w.alloc (.cells #[.int .i64 x.sH.gS, .int .i64 x.sH.cM, .int .i64 x.sH.data, .int .i64 x.sH.spare, .int .i64 x.sH.rows, .int .i64 x.sH.cap, .int .i64 x.sH.bT, .int .i64 x.sH.qU, .int .i64 x.sH.sG, .slice a10 l10 c10, .slice a11 l11 c11, .slice a12 l12 c12, .int .i64 x.wT, .int .i64 x.stop, .bool x.down] 34)).alloc (.cells #[.int .i64 0, .int .i64 0] 54)) from (Chg.alloc (Chg.alloc (Chg.refl [] w) _) _))
 have B0 := hid (show ((w.alloc (.cells #[.int .i64 x.sH.gS, .int .i64 x.sH.cM, .int .i64 x.sH.data, .int .i64 x.sH.spare, .int .i64 x.sH.rows, .int .i64 x.sH.cap, .int .i64 x.sH.bT, .int .i64 x.sH.qU, .int .i64 x.sH.sG, .slice a10 l10 c10, .slice a11 l11 c11, .slice a12 l12 c12, .int .i64 x.wT, .int .i64 x.stop, .bool x.down] 34)).alloc (.cells #[.int .i64 0, .int .i64 0] 54)).heap[w.heap.size]? = some (.cells #[.int .i64 x.sH.gS, .int .i64 x.sH.cM, .int .i64 x.sH.data, .int .i64 x.sH.spare, .int .i64 x.sH.rows, .int .i64 x.sH.cap, .int .i64 x.sH.bT, .int .i64 x.sH.qU, .int .i64 x.sH.sG, .slice a10 l10 c10, .slice a11 l11 c11, .slice a12 l12 c12, .int .i64 x.wT, .int .i64 x.stop, .bool x.down] 34 (0, 0)) from q0b (q0o w _) _)
 have B1 := hid (show ((w.alloc (.cells #[.int .i64 x.sH.gS, .int .i64 x.sH.cM, .int .i64 x.sH.data, .int .i64 x.sH.spare, .int .i64 x.sH.rows, .int .i64 x.sH.cap, .int .i64 x.sH.bT, .int .i64 x.sH.qU, .int .i64 x.sH.sG, .slice a10 l10 c10, .slice a11 l11 c11, .slice a12 l12 c12, .int .i64 x.wT, .int .i64 x.stop, .bool x.down] 34)).alloc (.cells #[.int .i64 0, .int .i64 0] 54)).heap[w.heap.size + 1]? = some (.cells #[.int .i64 0, .int .i64 0] 54 (0, 0)) from q0e (by simp) _)
 go_enter Tryz.func34, Tryz.ntmps34
 obtain ⟨q, hq⟩ : ∃ q, q = x.fault := ⟨_, rfl⟩
 have HQ := hid hq; clear hq
 go_wp2_with (first | (refine q1c rfl _ 34 rfl rfl q1x Tryz.underlying34 B0.out rfl ?_))
 refine (q4y x #[.int .i64 x.sH.gS, .int .i64 x.sH.cM, .int .i64 x.sH.data, .int .i64 x.sH.spare, .int .i64 x.sH.rows, .int .i64 x.sH.cap, .int .i64 x.sH.bT, .int .i64 x.sH.qU, .int .i64 x.sH.sG, .slice a10 l10 c10, .slice a11 l11 c11, .slice a12 l12 c12, .int .i64 x.wT, .int .i64 x.stop, .bool x.down] fx _ (wldL.ext HW.out G0.out)).mono ?_
 rintro e w1 ⟨rfl, hc⟩
 rw [← HQ.out]
 obtain ⟨c0, n0, A0_1⟩ := bk0 hc B0.out
 obtain ⟨c1, n1, A1_1⟩ := bk0 hc B1.out
 have G1 := hid (G0.out.trans0 hc)
 have fz := q0c A1_1.out
 clear hc
 have hqk : q0u q := by rw [HQ.out]; exact fault_i64 x
 by_cases hq0 : q = 0
 ·subst hq0
  have hf0 : x.fault = 0 := HQ.out.symm
  have HN := hid (nextSeq_any w.heap.size a12 l12 c12 _ x.tapes w1 A0_1.out (tapL.sl_ext H12.out G1.out) (q8n hf0))
  have HR := hid (nsqR_ok hf0)
  go_wp2_with (first | (refine q1c rfl _ 34 rfl rfl q1x Tryz.underlying34 A0_1.out rfl ?_))
  refine (HN.out).mono ?_
  rintro e w2 ⟨rfl, hc⟩
  clear c0 n0
  obtain ⟨c0, n0, A0_2⟩ := bk0 hc A0_1.out
  clear c1 n1
  obtain ⟨c1, n1, A1_2⟩ := bk0 hc A1_1.out
  have G2 := hid (G1.out.trans0 hc)
  clear fz; have fz := q0c A1_2.out
  clear hc
  go_wp2_with (first | (refine q0z rfl _ _ 54 rfl rfl rfl infoIR A1_2.out rfl rfl rfl ?_; intro w9 hb9 hc9; have HB9 := hid hb9; have HC9 := hid hc9; clear hb9 hc9))
  refine bodyPost_ret (v := .agg #[.int .i64 ((nsqL x.tapes).2), .int .i64 (nsqL x.tapes).1]) (q0t _ _ Tryz.results34 rfl infoIR Tryz.underlying54 HB9.out rfl) rfl (⟨by rw [HR.out], G2.out.trans HC9.out (fun y hy => .inr (by rw [List.mem_singleton] at hy; omega))⟩)
 ·have hb : ((q : Int) != 0) = true := by simpa using hq0
  go_wp2_with (first | (refine q0z rfl _ _ 54 rfl rfl rfl infoIR A1_1.out rfl rfl rfl ?_; intro w9 hb9 hc9; have HB9 := hid hb9; have HC9 := hid hc9; clear hb9 hc9))
  refine bodyPost_ret (v := .agg #[.int .i64 (q), .int .i64 0]) (q0t _ _ Tryz.results34 rfl infoIR Tryz.underlying54 HB9.out rfl) rfl (⟨by rw [nsqR_bad (by rw [← HQ.out]; exact hq0), ← HQ.out], G1.out.trans HC9.out (fun y hy => .inr (by rw [List.mem_singleton] at hy; omega))⟩)
noncomputable def crsR (x : Wld) : RRes := if x.fault = 0 then ⟨0, cntL x.tapes⟩ else ⟨x.fault, []⟩
theorem crsR_bad {x : Wld} (h : ¬ x.fault = 0) : crsR x = ⟨x.fault, []⟩ := if_neg h
theorem crsR_ok {x : Wld} (h : x.fault = 0) : crsR x = ⟨0, cntL x.tapes⟩ := if_pos h
theorem badR9 {w w1 w9 : World} {b : Nat} (q : Int) (hq : q0u q) (r : RRes) (hr : r = ⟨q, []⟩) (hc : Chg [] w w1) (hc9 : Chg [b] w1 w9) (hb : w.heap.size ≤ b) :
  q8r rrsL r w (.returned (.agg #[.int .i64 q, .slice none 0 0])) w9 :=
 ⟨_, [], rfl, by rw [hr]; exact q5z.2 ⟨none, 0, 0, rfl, hq, nil_sl0 _ _⟩, q1p.nil _ _, hc.trans hc9 (fun y hy => .inr (by rw [List.mem_singleton] at hy; omega))⟩
theorem finR9 {w w1 w9 : World} {b : Nat} {y : List Rec} {f : List Nat} {a : Option Addr} {l c : Nat} (r : RRes) (hrr : r = ⟨0, y⟩) (hs : recL.sl w1 a l c y f) (hf : q1p w.heap.size w1 f) (hc : Chg [] w w1) (hc9 : Chg [b] w1 w9) (hn : b ∉ f) (hb : w.heap.size ≤ b) :
  q8r rrsL r w (.returned (.agg #[.int .i64 0, .slice a l c])) w9 :=
 ⟨_, f, rfl, by rw [hrr]; exact q5z.2 ⟨a, l, c, rfl, i64z, recL.sl_chg hs hc9 (fun y hy hm => hn (by rw [List.mem_singleton] at hm; exact hm ▸ hy))⟩, hf.chg hc9, hc.trans hc9 (fun y hy => .inr (by rw [List.mem_singleton] at hy; omega))⟩
theorem q4q (x : Wld) (cx : Array Value) (fx : List Nat) (w : World) (hx : wldL.rep w cx.toList x fx) (hz : q2t x ≤ 1048576) :
  Calls Tryz.prog 25 #[.agg cx] w (q8r rrsL (crsR x) w) := by
 obtain ⟨a10, l10, c10, _, a11, l11, c11, f11, a12, l12, c12, _, ex, -, -, -, -, -, -, -, -, -, h10, h11, h12, oo13, oo14, -⟩ := q1a.1 hx
 obtain rfl := Array.toList_inj.1 (ex.trans (List.toList_toArray).symm)
 have HW := hid hx; have HZ := hid hz; have H10 := hid h10; have H11 := hid h11; have H12 := hid h12; have HOO := hid (And.intro oo13 oo14)
 have hl11 : l11 ≤ 1048576 := by have h := h11.1; have q10 := q1s (q1s q3m) x.gS; have q12 := q1s q4g x.tapes; unfold q2t q5u at hz; omega
 clear hx ex hz h10 h11 h12 oo13 oo14
 have G0 := hid (show Chg [] w ((w.alloc (.cells #[.int .i64 x.sH.gS, .int .i64 x.sH.cM, .int .i64 x.sH.data, .int .i64 x.sH.spare, .int .i64 x.sH.rows, .int .i64 x.sH.cap, .int .i64 x.sH.bT, .int .i64 x.sH.qU, .int .i64 x.sH.sG, .slice a10 l10 c10, .slice a11 l11 c11, .slice a12 l12 c12, .int .i64 x.wT, .int .i64 x.stop, .bool x.down] 34)).alloc (.cells #[.int .i64 0, .slice none 0 0] 46)) from (Chg.alloc (Chg.alloc (Chg.refl [] w) _) _))
 have B0 := hid (show ((w.alloc (.cells #[.int .i64 x.sH.gS, .int .i64 x.sH.cM, .int .i64 x.sH.data, .int .i64 x.sH.spare, .int .i64 x.sH.rows, .int .i64 x.sH.cap, .int .i64 x.sH.bT, .int .i64 x.sH.qU, .int .i64 x.sH.sG, .slice a10 l10 c10, .slice a11 l11 c11, .slice a12 l12 c12, .int .i64 x.wT, .int .i64 x.stop, .bool x.down] 34)).alloc (.cells #[.int .i64 0, .slice none 0 0] 46)).heap[w.heap.size]? = some (.cells #[.int .i64 x.sH.gS, .int .i64 x.sH.cM, .int .i64 x.sH.data, .int .i64 x.sH.spare, .int .i64 x.sH.rows, .int .i64 x.sH.cap, .int .i64 x.sH.bT, .int .i64 x.sH.qU, .int .i64 x.sH.sG, .slice a10 l10 c10, .slice a11 l11 c11, .slice a12 l12 c12, .int .i64 x.wT, .int .i64 x.stop, .bool x.down] 34 (0, 0)) from q0b (q0o w _) _)
 have B1 := hid (show ((w.alloc (.cells #[.int .i64 x.sH.gS, .int .i64 x.sH.cM, .int .i64 x.sH.data, .int .i64 x.sH.spare, .int .i64 x.sH.rows, .int .i64 x.sH.cap, .int .i64 x.sH.bT, .int .i64 x.sH.qU, .int .i64 x.sH.sG, .slice a10 l10 c10, .slice a11 l11 c11, .slice a12 l12 c12, .int .i64 x.wT, .int .i64 x.stop, .bool x.down] 34)).alloc (.cells #[.int .i64 0, .slice none 0 0] 46)).heap[w.heap.size + 1]? = some (.cells #[.int .i64 0, .slice none 0 0] 46 (0, 0)) from q0e (by simp) _)
 go_enter Tryz.func25, Tryz.ntmps25
 obtain ⟨q, hq⟩ : ∃ q, q = x.fault := ⟨_, rfl⟩
 have HQ := hid hq; clear hq
 go_wp2_with (first | (refine q1c rfl _ 34 rfl rfl q1x Tryz.underlying34 B0.out rfl ?_))
 refine (q4y x #[.int .i64 x.sH.gS, .int .i64 x.sH.cM, .int .i64 x.sH.data, .int .i64 x.sH.spare, .int .i64 x.sH.rows, .int .i64 x.sH.cap, .int .i64 x.sH.bT, .int .i64 x.sH.qU, .int .i64 x.sH.sG, .slice a10 l10 c10, .slice a11 l11 c11, .slice a12 l12 c12, .int .i64 x.wT, .int .i64 x.stop, .bool x.down] fx _ (wldL.ext HW.out G0.out)).mono ?_
 rintro e w1 ⟨rfl, hc⟩
 rw [← HQ.out]
 obtain ⟨c0, n0, A0_1⟩ := bk0 hc B0.out
 obtain ⟨c1, n1, A1_1⟩ := bk0 hc B1.out
 have G1 := hid (G0.out.trans0 hc)
 have fz := q0c A1_1.out
 clear hc
 have hqk : q0u q := by rw [HQ.out]; exact fault_i64 x
 by_cases hq0 : q = 0
 ·subst hq0
  have hf0 : x.fault = 0 := HQ.out.symm
  have HR := hid (crsR_ok hf0)
  have HN := hid (q7p w.heap.size a12 l12 c12 _ x.tapes w1 A0_1.out (tapL.sl_ext H12.out G1.out) (by have := q8n hf0; omega))
  go_wp2_with (first | (refine q1c rfl _ 34 rfl rfl q1x Tryz.underlying34 A0_1.out rfl ?_))
  refine (HN.out).mono ?_
  rintro e w2 hp
  obtain ⟨v, rfl, hr, hc⟩ := hp.rwd
  obtain ⟨a, l, c, f, rfl, hs, -⟩ := hr.sl
  have HS0 := hid hs; clear hs hr hp
  clear c0 n0
  obtain ⟨c0, n0, A0_2⟩ := bk0 hc A0_1.out
  clear c1 n1
  obtain ⟨c1, n1, A1_2⟩ := bk0 hc A1_1.out
  have G2 := hid (G1.out.trans0 hc)
  clear fz; have fz := q0c A1_2.out
  clear hc
  have nR0 := n1
  go_wp2_with (first | (refine q1c rfl _ 34 rfl rfl q1x Tryz.underlying34 A0_2.out rfl ?_))
  refine (q9l a l c _ f w2 HS0.out (Int.le_trans (totCnt x) HZ.out)).mono ?_
  rintro e w3 ⟨pa, pc, pf, rfl, hs, hf, hc⟩
  have HS := hid hs; have HFR := hid (hf.mono (C := w.heap.size) G2.out.size)
  have HLO := hid (fun y hy => (hf.2 y hy).1)
  clear hs hf
  clear c0 n0
  obtain ⟨c0, n0, A0_3⟩ := bk0 hc A0_2.out
  clear c1 n1
  obtain ⟨c1, n1, A1_3⟩ := bk0 hc A1_2.out
  have G3 := hid (G2.out.trans0 hc)
  clear fz; have fz := q0c A1_3.out
  clear hc
  have HNF := hid (fun hy => absurd (HLO.out _ hy) (by omega) : w.heap.size + 1 ∉ pf)
  go_wp2_with (first | (refine q0z rfl _ _ 46 rfl rfl rfl infoRR A1_3.out rfl rfl rfl ?_; intro w9 hb9 hc9; have HB9 := hid hb9; have HC9 := hid hc9; clear hb9 hc9))
  refine bodyPost_ret (v := .agg #[.int .i64 0, .slice pa (cntL x.tapes).length pc]) (q0t _ _ Tryz.results25 rfl infoRR Tryz.underlying46 HB9.out rfl) rfl (finR9 (crsR x) (HR.out) HS.out HFR.out G3.out HC9.out HNF.out (by omega))
 ·have hb : ((q : Int) != 0) = true := by simpa using hq0
  go_wp2_with (first | (refine q0z rfl _ _ 46 rfl rfl rfl infoRR A1_1.out rfl rfl rfl ?_; intro w9 hb9 hc9; have HB9 := hid hb9; have HC9 := hid hc9; clear hb9 hc9))
  refine bodyPost_ret (v := .agg #[.int .i64 (q), .slice none 0 0]) (q0t _ _ Tryz.results25 rfl infoRR Tryz.underlying46 HB9.out rfl) rfl (badR9 (q) (hqk) (crsR x) (by rw [crsR_bad (by rw [← HQ.out]; exact hq0), ← HQ.out]) G1.out HC9.out (by omega))
theorem recsF_0 (s : Shp) : ∀ (rs : List Rec), q2r s rs = 0 → ∀ r ∈ rs, recV s r = 0
 | [], _, r, hr => by cases hr
 | q :: qs, h, r, hr => by
  unfold q2r at h
  split at h
  ·rename_i h0
   rcases List.mem_cons.1 hr with rfl | hr
   ·exact h0
   ·exact recsF_0 s qs h r hr
  ·rename_i h0; exact absurd h h0
theorem tapsF_0 (s : Shp) : ∀ (ts : List Tap), q2v s ts = 0 → ∀ t ∈ ts, ∀ r ∈ t.recs, recV s r = 0
 | [], _, t, ht => by cases ht
 | q :: qs, h, t, ht => by
  unfold q2v at h
  split at h
  ·rename_i h0
   rcases List.mem_cons.1 ht with rfl | ht
   ·exact recsF_0 s _ h0
   ·exact tapsF_0 s qs h t ht
  ·rename_i h0; exact absurd h h0
theorem fault_recV {x : Wld} (hf : x.fault = 0) : ∀ t ∈ x.tapes, ∀ r ∈ t.recs, recV x.sH r = 0 := by
 have ht : q2v x.sH x.tapes = 0 := by
  refine Classical.byContradiction fun hn => ?_
  have h2 : ¬ x.tapF = 0 := by
   unfold Wld.tapF
   split
   ·simp
   ·first | exact hn | (rw [if_neg hn]; exact hn)
  unfold Wld.fault at hf
  repeat' split at hf
  all_goals first | (exact absurd hf h2) | (exact absurd ‹x.tapF = 0› h2) | (simp at hf)
 exact tapsF_0 _ _ ht
theorem recV_kind0 {s : Shp} {r : Rec} (h : recV s r = 0) : 1 ≤ r.kind ∧ r.kind ≤ 4 := Classical.byContradiction fun hn => by
 rw [q7f hn] at h; cases h
theorem q8p : ∀ (rs acc : List Rec), acc.Nodup → (dedF acc rs).Nodup
 | [], _, h => h
 | r :: rs, acc, h => by
  refine q8p rs (dedS acc r) ?_
  unfold dedS
  split
  ·exact h
  ·rename_i hn
   rw [List.nodup_append]
   refine ⟨h, by simp, fun a ha b hb e => hn ?_⟩
   rw [List.mem_singleton] at hb
   subst e; subst hb
   exact List.any_eq_true.2 ⟨_, ha, q1z rfl⟩
theorem q8q : ∀ (rs acc : List Rec), (acc ++ rs).Nodup → dedF acc rs = acc ++ rs
 | [], acc, _ => (List.append_nil acc).symm
 | r :: rs, acc, h => by
  have hn : ¬ acc.any (fun y => q2m y r) = true := fun ha => by
   obtain ⟨y, hy, e⟩ := List.any_eq_true.1 ha
   obtain rfl : y = r := Classical.byContradiction fun hne => by rw [q1f hne] at e; cases e
   exact (List.nodup_append.1 h).2.2 y hy y (by simp) rfl
  show dedF (dedS acc r) rs = _
  unfold dedS
  rw [if_neg hn, q8q rs (acc ++ [r]) (by rw [List.append_assoc]; exact h), List.append_assoc]; rfl
theorem dedF_old : ∀ (rs acc : List Rec), (∀ x ∈ rs, x ∈ acc) → dedF acc rs = acc
 | [], _, _ => rfl
 | r :: rs, acc, h => by
  show dedF (dedS acc r) rs = _
  unfold dedS
  have h0 : acc.any (fun y => q2m y r) = true := List.any_eq_true.2 ⟨r, h r (by simp), q1z rfl⟩
  rw [if_pos h0]
  exact dedF_old rs acc (fun x hx => h x (List.mem_cons_of_mem _ hx))
theorem insB_perm (r : Rec) : ∀ out : List Rec, (insB r out).Perm (r :: out)
 | [] => List.Perm.refl _
 | y :: ys => by
  unfold insB
  split
  ·exact List.Perm.refl _
  ·exact ((insB_perm r ys).cons y).trans (List.Perm.swap r y ys)
theorem q8j (l : List Rec) : (isort l).Perm l := by
 have h : ∀ (l o : List Rec), (l.foldl (fun o r => insB r o) o).Perm (l ++ o) := by
  intro l
  induction l with
  | nil => intro o; exact List.Perm.refl _
  | cons r rs ih => intro o; exact (ih (insB r o)).trans (((insB_perm r o).append_left rs).trans List.perm_middle)
 have := h l []
 rw [List.append_nil] at this
 exact this
theorem cntL_nodup (ts : List Tap) : (cntL ts).Nodup := (q8j _).nodup_iff.2 (q8p _ _ List.nodup_nil)
theorem q9k (ts : List Tap) : Srt q2x (cntL ts) := (q4k _).1
def two (l : List Rec) : List Tap := [⟨false, l⟩, ⟨false, l⟩]
theorem cnt_two {l : List Rec} (hn : l.Nodup) (hs : Srt q2x l) : cntL (two l) = l := by
 have e : dedF [] ((two l).flatMap (·.recs)) = l := by
  show dedF [] (l ++ (l ++ [])) = l
  rw [List.append_nil, q6y, q8q l [] (by simpa using hn), List.nil_append, dedF_old l l (fun x h => h)]
 unfold cntL
 rw [e]
 exact (Stab.uniq q3o hs (q4k l).1 (Stab.refl l) (q4k l).2).symm
theorem recLt_seq {a b : Rec} (h : q2x b a = false) : a.seq ≤ b.seq := by
 unfold q2x at h
 simp only [decide_eq_false_iff_not] at h
 omega
theorem srt_seq {l : List Rec} (hs : Srt q2x l) {i : Nat} {a b : Rec} (hi : l[i]? = some a) (hj : l[i + 1]? = some b) : a.seq ≤ b.seq := by
 obtain ⟨h1, rfl⟩ := List.getElem?_eq_some_iff.1 hi
 obtain ⟨h2, rfl⟩ := List.getElem?_eq_some_iff.1 hj
 exact recLt_seq ((List.pairwise_iff_getElem.1 hs) i (i + 1) h1 h2 (by omega))
theorem seq_top {l : List Rec} (hs : Srt q2x l) {a : Rec} (ha : a ∈ l) : a.seq ≤ topL l := by
 obtain ⟨i, hi, rfl⟩ := List.getElem_of_mem ha
 unfold topL
 rw [List.getLast?_eq_getElem?, List.getElem?_eq_getElem (by omega)]
 show l[i].seq ≤ (l[l.length - 1]'(by omega)).seq
 by_cases e : i = l.length - 1
 ·subst e; exact Int.le_refl _
 ·exact recLt_seq ((List.pairwise_iff_getElem.1 hs) i (l.length - 1) hi (by omega) (by omega))
theorem recV_seq0 {s : Shp} {r : Rec} (h : recV s r = 0) : 1 ≤ r.seq ∧ r.seq ≤ 1000000000 := Classical.byContradiction fun hn => by
 rw [q8x (recV_kind0 h) hn] at h; cases h
theorem cntL_recV {x : Wld} (hf : x.fault = 0) : ∀ r ∈ cntL x.tapes, recV x.sH r = 0 := fun r hr => by
 obtain ⟨t, ht, h⟩ := cntL_mem hr
 exact fault_recV hf t ht r h
theorem topL_in {x : Wld} (hf : x.fault = 0) : 0 ≤ topL (cntL x.tapes) ∧ topL (cntL x.tapes) ≤ 1000000000 := by
 cases h : (cntL x.tapes).getLast? with
 | none => unfold topL; rw [h]; exact ⟨by decide, by decide⟩
 | some r =>
  have hm := List.mem_of_getLast? h
  have := recV_seq0 (cntL_recV hf r hm)
  unfold topL; rw [h]; show 0 ≤ r.seq ∧ r.seq ≤ 1000000000
  omega
theorem next_above {x : Wld} (hf : x.fault = 0) (hc : (nsqR x).1 = 0) {r : Rec} (hr : r ∈ cntL x.tapes) : ¬ (nsqR x).2 ≤ r.seq := by
 rw [nsqR_ok hf] at hc ⊢
 have h1 := topL_in hf
 have h2 := seq_top (q9k x.tapes) hr
 have e : nxtL x.tapes = topL (cntL x.tapes) + 1 := by
  unfold nxtL; exact IntWalk.i64_in _ (by omega)
 unfold nsqL at hc ⊢
 rw [e] at hc ⊢
 split at hc
 ·exact absurd hc (by decide)
 ·rename_i hn
  rw [if_neg hn]
  show ¬ topL (cntL x.tapes) + 1 ≤ r.seq
  omega
theorem two_fault {x : Wld} (hf : x.fault = 0) {l : List Rec} (hl : l.length ≤ 200) (hv : ∀ r ∈ l, recV x.sH r = 0) : ({ x with tapes := two l } : Wld).fault = 0 := by
 obtain ⟨h1, ⟨h2, h3, -⟩, -, h5⟩ := q3b hf
 refine fault_of h1 ⟨h2, h3, rfl⟩ ?_ h5
 have hr : q2r x.sH l = 0 := q4c (fun i q hq => hv q (List.mem_of_getElem? hq))
 have ht : q2v x.sH (two l) = 0 := q4a (fun i q hq => by
  have hm := List.mem_of_getElem? hq
  have : q = ⟨false, l⟩ := by simpa [two] using hm
  rw [this]; exact hr)
 have hm : ∀ q ∈ two l, q = ⟨false, l⟩ := fun q hq => by simpa [two] using hq
 have h7 : pb (∃ t ∈ two l, 200 < t.recs.length) = false := q0f (fun ⟨q, hq, hlt⟩ => by rw [hm q hq] at hlt; exact absurd hlt (Nat.not_lt.2 hl))
 have h8 : pb (∃ t ∈ two l, t.wiped = true ∧ t.recs ≠ []) = false := q0f (fun ⟨q, hq, hw, _⟩ => by rw [hm q hq] at hw; cases hw)
 unfold Wld.tapF
 show (if pb (∃ t ∈ two l, 200 < t.recs.length) = true then 2 else if q2v x.sH (two l) = 0 then (if pb (∃ t ∈ two l, t.wiped = true ∧ t.recs ≠ []) = true then 1 else 0) else q2v x.sH (two l)) = (0 : Int)
 rw [h7, h8, if_neg (by simp), if_pos ht, if_neg (by simp)]
theorem two_tot (x : Wld) : q2t ({ x with tapes := two (cntL x.tapes) } : Wld) ≤ 3 * q2t x + 2 := by
 have h1 := totCnt x
 have h2 := q1s (q1s q3m) x.gS
 have h3 := q3g x.on
 have h4 := q1s q4g x.tapes
 have e : totL q5s (two (cntL x.tapes)) = 2 + 2 * totL q3f (cntL x.tapes) := by
  show (2 : Int) + (totL q3f (cntL x.tapes) + (totL q3f (cntL x.tapes) + 0)) = _
  omega
 unfold q2t at h1 ⊢
 simp only [e]
 omega
theorem counted_two {x : Wld} (hf : x.fault = 0) (hl : (cntL x.tapes).length ≤ 200) : crsR { x with tapes := two (cntL x.tapes) } = ⟨0, cntL x.tapes⟩ := by
 rw [crsR_ok (two_fault hf hl (cntL_recV hf))]
 show (⟨0, cntL (two (cntL x.tapes))⟩ : RRes) = _
 rw [cnt_two (cntL_nodup _) (q9k _)]
theorem counted_none {ts : List Tap} (h : cntL ts = []) : ∀ t ∈ ts, t.recs = [] := by
 intro t ht
 have hp := (q8j (dedF [] (ts.flatMap (·.recs)))).length_eq
 have hz : dedF [] (ts.flatMap (·.recs)) = [] := List.eq_nil_of_length_eq_zero (by
  have : (cntL ts).length = 0 := by rw [h]; rfl
  unfold cntL at this
  omega)
 cases hr : t.recs with
 | nil => rfl
 | cons r rs =>
  exfalso
  have hm : r ∈ ts.flatMap (·.recs) := List.mem_flatMap.2 ⟨t, ht, by rw [hr]; simp⟩
  have hsub : ∀ (rs acc : List Rec), (∀ x ∈ acc, x ∈ dedF acc rs) ∧ ∀ x ∈ rs, x ∈ dedF acc rs := by
   intro rs
   induction rs with
   | nil => exact fun acc => ⟨fun x h => h, by simp⟩
   | cons q qs ih =>
    intro acc
    have h1 : ∀ x ∈ acc, x ∈ dedS acc q := fun x hx => by
     unfold dedS; split
     ·exact hx
     ·exact List.mem_append_left _ hx
    have h2 : q ∈ dedS acc q := by
     unfold dedS; split
     ·rename_i ha
      obtain ⟨y, hy, e⟩ := List.any_eq_true.1 ha
      obtain rfl : y = q := Classical.byContradiction fun hne => by rw [q1f hne] at e; cases e
      exact hy
     ·simp
    refine ⟨fun x hx => (ih (dedS acc q)).1 x (h1 x hx), fun x hx => ?_⟩
    rcases List.mem_cons.1 hx with rfl | hx
    ·exact (ih (dedS acc x)).1 x h2
    ·exact (ih (dedS acc q)).2 x hx
  have := (hsub _ []).2 r hm
  rw [hz] at this
  cases this
theorem field_recs {u0 u1 : Value} (w : World) : (Instr.field 46 (.agg #[u0, u1]) 1).run Tryz.prog w = .ok u1 w := by kernel_rfl
theorem infoIR2 : (Tryz.prog.info? 54).map (fun i => i.size) = some 2 := by kernel_rfl
theorem two_sl {w : World} {nb : Nat} {a : Option Addr} {l c : Nat} {xs : List Rec} {f : List Nat} {E : TypeId} {fr : Nat × Nat} (hb : w.heap[nb]? = some (.cells #[.bool false, .slice a l c, .bool false, .slice a l c] E fr)) (hs : recL.sl w a l c xs f) : ∃ fp, tapL.sl w (some ⟨nb, 0, none⟩) 2 2 (two xs) fp :=
 ⟨_, rfl, Nat.le_refl _, by simp [maxLen], by simp, .inr ⟨nb, 0, _, E, fr, _, rfl, hb, ⟨[.bool false, .slice a l c], [.bool false, .slice a l c], f, f ++ [], rfl, rfl, q1r.2 ⟨a, l, c, f, rfl, hs, rfl⟩, ⟨[.bool false, .slice a l c], [], f, [], rfl, rfl, q1r.2 ⟨a, l, c, f, rfl, hs, rfl⟩, rfl, rfl⟩⟩, rfl⟩⟩
theorem none_cells {w : World} {a : Option Addr} {c : Nat} {ts : List Tap} {f : List Nat} (h : tapL.sl w a 2 c ts f) (hz : ∀ t ∈ ts, t.recs = []) : ∃ b off p0 c0 p1 c1, a = some ⟨b, off, none⟩ ∧ b < w.heap.size ∧ w.cell? ⟨b, off + 0 * 2 + 1, none⟩ = some (.slice p0 0 c0) ∧ w.cell? ⟨b, off + 1 * 2 + 1, none⟩ = some (.slice p1 0 c1) := by
 obtain ⟨x, b, off, cx, fx, hx, rfl, hb, hc, hr, -⟩ := tapL.sl_at h (show 0 < 2 by decide)
 obtain ⟨y, b', off', cy, fy, hy, e, -, hd, hq, -⟩ := tapL.sl_at h (show 1 < 2 by decide)
 obtain ⟨rfl, rfl⟩ : b = b' ∧ off = off' := by simpa using e
 obtain ⟨p0, l0, c0, g0, rfl, h0, -⟩ := q1r.1 hr
 obtain ⟨p1, l1, c1, g1, rfl, h1, -⟩ := q1r.1 hq
 rw [hz x (List.mem_of_getElem? hx)] at h0
 rw [hz y (List.mem_of_getElem? hy)] at h1
 obtain rfl : l0 = 0 := h0.1
 obtain rfl : l1 = 0 := h1.1
 exact ⟨b, off, p0, c0, p1, c1, rfl, tapL.sl_lt h _ hb, hc 1 (by decide), hd 1 (by decide)⟩
theorem q7u (W : World) (a : Option Addr) (la ca : Nat) (xs : List UInt8) (f : List Nat) (o : q0p.sl W a la ca xs f) :
  Calls Tryz.prog 11 #[.slice a la ca] W fun e w' => e = .returned (.bool true) ∧ Chg [] W w' := by
 have hm := q0p.sl_max o
 have HA := hid o
 have HBG := hid (lwBig_any a la ca W)
 clear o
 by_cases hz : (1048576 : Int) < (la : Int)
 ·rw [decide_eq_true hz] at HBG
  go_enter Tryz.func11, Tryz.ntmps11
  go_wp2_with fail
  refine HBG.out.mono ?_; rintro e w' ⟨rfl, rfl⟩
  go_wp2_with fail
  go_ret
  exact ⟨rfl, Chg.refl _ _⟩
 rw [decide_eq_false hz] at HBG
 go_enter Tryz.func11, Tryz.ntmps11
 go_wp2_with fail
 refine HBG.out.mono ?_; rintro e w' ⟨rfl, rfl⟩
 go_wp2_with fail
 refine (q7m a la ca xs f W HA.out (by omega)).mono ?_
 rintro e w1 ⟨cs, rfl, hdr, hc1⟩
 obtain ⟨X, fx, hrep, hX⟩ := hdr.x
 obtain ⟨a10, l10, c10, f10, a11, l11, c11, f11, a12, l12, c12, f12, ex, -, -, -, -, -, -, -, -, -, -, -, -, -, -, -⟩ := q1a.1 hrep
 obtain rfl := Array.toList_inj.1 (ex.trans (List.toList_toArray).symm)
 have hcA : Chg [] w1 (w1.alloc (.cells #[.int .i64 X.sH.gS, .int .i64 X.sH.cM, .int .i64 X.sH.data, .int .i64 X.sH.spare, .int .i64 X.sH.rows, .int .i64 X.sH.cap, .int .i64 X.sH.bT, .int .i64 X.sH.qU, .int .i64 X.sH.sG, .slice a10 l10 c10, .slice a11 l11 c11, .slice a12 l12 c12, .int .i64 X.wT, .int .i64 X.stop, .bool X.down] 34)) := (Chg.refl [] w1).alloc _
 have HM := hid (q0o w1 (.cells #[.int .i64 X.sH.gS, .int .i64 X.sH.cM, .int .i64 X.sH.data, .int .i64 X.sH.spare, .int .i64 X.sH.rows, .int .i64 X.sH.cap, .int .i64 X.sH.bT, .int .i64 X.sH.qU, .int .i64 X.sH.sG, .slice a10 l10 c10, .slice a11 l11 c11, .slice a12 l12 c12, .int .i64 X.wT, .int .i64 X.stop, .bool X.down] 34))
 have HX := hid (wldL.ext hrep hcA); have HC := hid (hc1.trans0 hcA); have HXT := hid hX
 clear hrep hX hdr hc1 ex hcA HBG HA
 go_upto_region 4 with (refine q2l rfl _ _ 34 rfl rfl rfl rfl q1x rfl rfl rfl ?_)
 try simp only [Act.put]
 generalize w1.alloc (.cells #[.int .i64 X.sH.gS, .int .i64 X.sH.cM, .int .i64 X.sH.data, .int .i64 X.sH.spare, .int .i64 X.sH.rows, .int .i64 X.sH.cap, .int .i64 X.sH.bT, .int .i64 X.sH.qU, .int .i64 X.sH.sG, .slice a10 l10 c10, .slice a11 l11 c11, .slice a12 l12 c12, .int .i64 X.wT, .int .i64 X.stop, .bool X.down] 34) = w3 at HM HX HC ⊢
 generalize w1.heap.size = m at HM ⊢
 have HI := hid (fun w h => (q4q X #[.int .i64 X.sH.gS, .int .i64 X.sH.cM, .int .i64 X.sH.data, .int .i64 X.sH.spare, .int .i64 X.sH.rows, .int .i64 X.sH.cap, .int .i64 X.sH.bT, .int .i64 X.sH.qU, .int .i64 X.sH.sG, .slice a10 l10 c10, .slice a11 l11 c11, .slice a12 l12 c12, .int .i64 X.wT, .int .i64 X.stop, .bool X.down] fx w h (by have := HXT.out; omega) : Calls Tryz.prog 25 #[.agg #[.int .i64 X.sH.gS, .int .i64 X.sH.cM, .int .i64 X.sH.data, .int .i64 X.sH.spare, .int .i64 X.sH.rows, .int .i64 X.sH.cap, .int .i64 X.sH.bT, .int .i64 X.sH.qU, .int .i64 X.sH.sG, .slice a10 l10 c10, .slice a11 l11 c11, .slice a12 l12 c12, .int .i64 X.wT, .int .i64 X.stop, .bool X.down]] w (q8r rrsL (crsR X) w)))
 obtain ⟨r, hr⟩ : ∃ r, r = crsR X := ⟨_, rfl⟩
 rw [← hr] at HI
 have HR := hid hr; clear hr
 go_wp2_with (refine q1c rfl _ 34 rfl rfl q1x Tryz.underlying34 HM.out rfl ?_)
 refine (HI.out _ HX.out).mono ?_
 rintro e w4 ⟨cr, fr, rfl, hr, -, hc⟩
 obtain ⟨ar, lr, cr', ex2, -, hrs⟩ := q5z.1 hr
 obtain rfl := Array.toList_inj.1 (ex2.trans (List.toList_toArray).symm)
 have hc4 : Chg [] w3 (w4.alloc (.cells #[.int .i64 r.code, .slice ar lr cr'] 46)) := hc.alloc _
 have HM4 := hid (hc4.keep0 HM.out); have HX4 := hid (wldL.ext HX.out hc4); have HC4 := hid (HC.out.trans0 hc4); have HB4 := hid (q0o w4 (.cells #[.int .i64 r.code, .slice ar lr cr'] 46)); have HS4 := hid (recL.sl_ext hrs ((Chg.refl [] w4).alloc (.cells #[.int .i64 r.code, .slice ar lr cr'] 46)))
 clear hr hc hrs ex2 hc4 HI HM HX HC
 go_upto_region 5 with (refine q2l rfl _ _ 46 rfl rfl rfl rfl infoRR rfl rfl rfl ?_)
 try simp only [Act.put]
 generalize w4.alloc (.cells #[.int .i64 r.code, .slice ar lr cr'] 46) = wB at HM4 HX4 HC4 HB4 HS4 ⊢
 generalize w4.heap.size = p at HB4 ⊢
 by_cases hf : X.fault = 0
 rotate_left
 ·obtain ⟨q, hq⟩ : ∃ q, q = X.fault := ⟨_, rfl⟩
  have hrc : r.code = q := by rw [HR.out, crsR_bad hf, hq]
  have hqb : (q != 0) = true := by rw [hq]; simpa using hf
  have HWF := hid (fun w h => q4u X #[.int .i64 X.sH.gS, .int .i64 X.sH.cM, .int .i64 X.sH.data, .int .i64 X.sH.spare, .int .i64 X.sH.rows, .int .i64 X.sH.cap, .int .i64 X.sH.bT, .int .i64 X.sH.qU, .int .i64 X.sH.sG, .slice a10 l10 c10, .slice a11 l11 c11, .slice a12 l12 c12, .int .i64 X.wT, .int .i64 X.stop, .bool X.down] fx w h)
  rw [← hq] at HWF
  rw [hrc] at HB4
  clear hf hq hrc HR
  have cB := cellsOf HB4.out; have lB := ltOf HB4.out
  go_upto_region 6 with fail
  clear cB lB hqb
  obtain ⟨CC, HCI, HCO⟩ := q0j (fun w' => w'.heap[m]? = some (.cells #[.int .i64 X.sH.gS, .int .i64 X.sH.cM, .int .i64 X.sH.data, .int .i64 X.sH.spare, .int .i64 X.sH.rows, .int .i64 X.sH.cap, .int .i64 X.sH.bT, .int .i64 X.sH.qU, .int .i64 X.sH.sG, .slice a10 l10 c10, .slice a11 l11 c11, .slice a12 l12 c12, .int .i64 X.wT, .int .i64 X.stop, .bool X.down] 34 (0, 0)) ∧ Know p #[.int .i64 q, .slice ar lr cr'] w')
  refine q1j [] CC (by kernel_rfl) (HCI.out _ ⟨(q0a HM4.out), (Know.of (q0a HB4.out))⟩) (fun hcl hS => ?_)
  refine ggL 0 hcl hS HCO ?_ (hy := fun w' hw => q7l _ 34 rfl rfl q1x Tryz.underlying34 hw.1 rfl); clear hcl hS; intro hcl hS
  refine ggT 2 hcl hS ?_; clear hcl hS; intro hcl hS
  refine ggL 3 hcl hS HCO ?_; clear hcl hS; intro hcl hS
  refine ggC 1 hcl rfl (by kernel_rfl) (fun K hK => ?_)
  go_simp
  go_at_call 47
  refine (HWF.out _ (wldL.ext HX4.out ((Chg.refl [] wB).drew))).mono ?_; rintro e w6 ⟨rfl, hc6⟩; have HB6 := hid (hc6.keep0 (q0a HB4.out)); have HM6 := hid (hc6.keep0 (q0a HM4.out)); have HC6 := hid ((HC4.out.drew).trans0 hc6); clear hc6
  go_wp2_with fail
  refine hK.out _ _ (fun _ => HCI.out _ ⟨HM6.out, (Know.of HB6.out)⟩) ?_
  clear hK K hcl hS
  intro hcl hS
  try simp only [Act.put, pA, pB, pC]
  refine ggT 4 hcl hS ?_; clear hcl hS; intro hcl hS
  refine ggT 5 hcl hS ?_; clear hcl hS; intro hcl hS
  refine q3i (by kernel_rfl) ?_ _
  go_wp2_with fail
  go_ret
  exact ⟨by simp, HC6.out⟩
 ·obtain ⟨ys, hys⟩ : ∃ ys, ys = cntL X.tapes := ⟨_, rfl⟩
  have hr0 : r = ⟨0, ys⟩ := by rw [HR.out, crsR_ok hf, hys]
  subst hr0
  obtain ⟨nq, hnq⟩ : ∃ nq, nq = nsqR X := ⟨_, rfl⟩
  have HNX := hid (fun (h : nq.1 = 0) r (hr : r ∈ ys) => (by subst hnq; subst hys; exact next_above hf h hr : ¬ nq.2 ≤ r.seq))
  have HSQ := hid (fun (i : Nat) a b (hi : ys[i]? = some a) (hj : ys[i + 1]? = some b) => (by subst hys; exact srt_seq (q9k X.tapes) hi hj : a.seq ≤ b.seq))
  have HTW := hid (fun (h : ys.length ≤ 200) => (by subst hys; exact counted_two hf h : crsR { X with tapes := two ys } = ⟨0, ys⟩))
  have HNN := hid (fun (h : ys = []) => (counted_none (hys.symm.trans h) : ∀ t ∈ X.tapes, t.recs = []))
  have HTT := hid (show q2t ({ X with tapes := two ys } : Wld) ≤ 1048576 by subst hys; have := two_tot X; have := HXT.out; omega)
  have HN := hid (fun w h => (impl_NextSeq X #[.int .i64 X.sH.gS, .int .i64 X.sH.cM, .int .i64 X.sH.data, .int .i64 X.sH.spare, .int .i64 X.sH.rows, .int .i64 X.sH.cap, .int .i64 X.sH.bT, .int .i64 X.sH.qU, .int .i64 X.sH.sG, .slice a10 l10 c10, .slice a11 l11 c11, .slice a12 l12 c12, .int .i64 X.wT, .int .i64 X.stop, .bool X.down] fx w h (by have := HXT.out; omega) : Calls Tryz.prog 34 #[.agg #[.int .i64 X.sH.gS, .int .i64 X.sH.cM, .int .i64 X.sH.data, .int .i64 X.sH.spare, .int .i64 X.sH.rows, .int .i64 X.sH.cap, .int .i64 X.sH.bT, .int .i64 X.sH.qU, .int .i64 X.sH.sG, .slice a10 l10 c10, .slice a11 l11 c11, .slice a12 l12 c12, .int .i64 X.wT, .int .i64 X.stop, .bool X.down]] w _))
  rw [← hnq] at HN
  have HF := hid hf
  clear hf hys hnq HR
  obtain ⟨nc, nv⟩ := nq
  dsimp only at HB4 HS4 HNX HN
  have hml := recL.sl_max HS4.out
  have cB := cellsOf HB4.out; have lB := ltOf HB4.out
  go_wp2_with (refine q1c rfl _ 34 rfl rfl q1x Tryz.underlying34 HM4.out rfl ?_)
  refine (HN.out _ HX4.out).mono ?_
  rintro e w5 ⟨rfl, hc⟩
  have hc5 : Chg [] wB (w5.alloc (.cells #[.int .i64 nc, .int .i64 nv] 54)) := hc.alloc _
  have HM5 := hid (hc5.keep0 HM4.out); have HX5 := hid (wldL.ext HX4.out hc5); have HC5 := hid (HC4.out.trans0 hc5); have HB5 := hid (hc5.keep0 HB4.out); have HS5 := hid (recL.sl_ext HS4.out hc5); have HN5 := hid (q0o w5 (.cells #[.int .i64 nc, .int .i64 nv] 54))
  clear hc hc5 HM4 HX4 HC4 HB4 HS4 HN cB lB
  go_upto_region 8 with (refine q2l rfl _ _ 54 rfl rfl rfl rfl infoIR2 rfl rfl rfl ?_)
  try simp only [Act.put]
  generalize w5.alloc (.cells #[.int .i64 nc, .int .i64 nv] 54) = w6 at HM5 HX5 HC5 HB5 HS5 HN5 ⊢
  generalize w5.heap.size = n5 at HN5 ⊢
  go_wp2_with fail
  go_loopw [6] (fun v6 wr => ∃ (k : Nat) (Wr : World), Wr = wr ∧ k ≤ lr ∧ v6 = .int .i64 k ∧ Chg [] w6 wr) (fun v6 _ => lr - (intOf v6).toNat)
  case atStart => exact ⟨0, _, rfl, by omega, rfl, Chg.refl _ _⟩
  case round =>
   obtain ⟨k, wr, rfl, hk, rfl, hc⟩ := hrel
   have HCR := hid hc
   have HBR := hid (hc.keep0 HB5.out); have HNR := hid (hc.keep0 HN5.out); have HSR := hid (recL.sl_ext HS5.out hc)
   clear hc
   have cB := cellsOf HBR.out; have lB := ltOf HBR.out; have cN := cellsOf HNR.out; have lN := ltOf HNR.out
   by_cases hlt : k < lr
   ·obtain ⟨x, b1, o1, cx1, fx1, HX1, rfl, HCX, HRX⟩ := q8w HSR.out hlt
    obtain ⟨_, _, _, _, _, _, _, _, _, _, _, _, hcx, -⟩ := q0v.1 HRX.out
    subst hcx
    have hc1 : wr.cell? ⟨b1, o1 + k * 9 + 1, none⟩ = some (.int .i64 x.seq) := HCX.out.2.1 1 _ rfl
    have hab : (nc == 0) = false ∨ ((nc == 0) = true ∧ decide (nv ≤ x.seq) = false) := by
     by_cases h : nc = 0
     ·exact .inr ⟨by simpa using h, decide_eq_false (by have := HNX.out h x (List.mem_of_getElem? HX1.out.1); omega)⟩
     ·exact .inl (by simpa using h)
    by_cases hk0 : 0 < k
    ·obtain ⟨z, hz1⟩ : ∃ z, k = z + 1 := ⟨k - 1, by omega⟩
     obtain ⟨y, b2, o2, cy1, fy1, HY1, e2, HCY, HRY⟩ := q8w HSR.out (show z < lr by omega)
     obtain ⟨rfl, rfl⟩ : b1 = b2 ∧ o1 = o2 := by simpa using e2
     obtain ⟨_, _, _, _, _, _, _, _, _, _, _, _, hcy, -⟩ := q0v.1 HRY.out
     subst hcy
     have hc2 : wr.cell? ⟨b1, o1 + z * 9 + 1, none⟩ = some (.int .i64 y.seq) := HCY.out.2.1 1 _ rfl
     have hle : decide (x.seq < y.seq) = false := decide_eq_false (by have := HSQ.out z y x HY1.out.1 (by rw [← hz1]; exact HX1.out.1); omega)
     have hzz : IntKind.i64.wrap ((k : Int) - 1) = (z : Int) := by rw [IntWalk.i64_in _ (by omega)]; omega
     have hzl : z < lr := by omega
     clear e2 hz1 HX1 HY1 HCX HCY HRX HRY
     rcases hab with h1 | ⟨h1, h2⟩
     ·go_wp2_with fail
      go_region
      go_wp2_with fail
      go_roundw
      case rel => exact ⟨k + 1, _, rfl, by omega, by go_num, by first | exact HCR.out | exact HCR.out.drew⟩
      case measure => simp [intOf]; omega
     ·go_wp2_with fail
      go_region
      go_wp2_with fail
      go_roundw
      case rel => exact ⟨k + 1, _, rfl, by omega, by go_num, by first | exact HCR.out | exact HCR.out.drew⟩
      case measure => simp [intOf]; omega
    ·obtain rfl : k = 0 := by omega
     rcases hab with h1 | ⟨h1, h2⟩
     ·go_wp2_with fail
      go_region
      go_wp2_with fail
      go_roundw
      case rel => exact ⟨1, _, rfl, by omega, by go_num, by first | exact HCR.out | exact HCR.out.drew⟩
      case measure => simp [intOf]; omega
     ·go_wp2_with fail
      go_region
      go_wp2_with fail
      go_roundw
      case rel => exact ⟨1, _, rfl, by omega, by go_num, by first | exact HCR.out | exact HCR.out.drew⟩
      case measure => simp [intOf]; omega
   ·obtain rfl : k = lr := by omega
    have HMR := hid (HCR.out.keep0 HM5.out); have HXR := hid (wldL.ext HX5.out HCR.out); have HCT := hid (HC5.out.trans0 HCR.out)
    have hpn := ltOf HBR.out; have hmn := ltOf HMR.out; have HFX := hid (wldL.lt HXR.out); have HFS := hid (recL.sl_lt HSR.out); have HWN := hid HCT.out.size
    clear cN lN HNR HCR HM5 HX5 HC5 HB5 HS5 HN5 hlt hk lB
    go_upto_region 14 with (first | (refine q1c rfl _ 34 rfl rfl q1x Tryz.underlying34 HMR.out rfl ?_) | (refine q2l rfl _ _ 34 rfl rfl rfl rfl q1x rfl rfl rfl ?_))
    try simp only [Act.put]
    have hc7 : Chg [] wr (wr.alloc (.cells #[.int .i64 X.sH.gS, .int .i64 X.sH.cM, .int .i64 X.sH.data, .int .i64 X.sH.spare, .int .i64 X.sH.rows, .int .i64 X.sH.cap, .int .i64 X.sH.bT, .int .i64 X.sH.qU, .int .i64 X.sH.sG, .slice a10 l10 c10, .slice a11 l11 c11, .slice a12 l12 c12, .int .i64 X.wT, .int .i64 X.stop, .bool X.down] 34)) := (Chg.refl [] wr).alloc _
    have HM7 := hid (hc7.keep0 HMR.out); have HB7 := hid (hc7.keep0 HBR.out); have HX7 := hid (wldL.ext HXR.out hc7); have HS7 := hid (recL.sl_ext HSR.out hc7); have HC7 := hid (HCT.out.trans0 hc7); have HK7 := hid (q0o wr (.cells #[.int .i64 X.sH.gS, .int .i64 X.sH.cM, .int .i64 X.sH.data, .int .i64 X.sH.spare, .int .i64 X.sH.rows, .int .i64 X.sH.cap, .int .i64 X.sH.bT, .int .i64 X.sH.qU, .int .i64 X.sH.sG, .slice a10 l10 c10, .slice a11 l11 c11, .slice a12 l12 c12, .int .i64 X.wT, .int .i64 X.stop, .bool X.down] 34))
    clear hc7 HMR HBR HXR HSR HCT cB
    generalize wr.alloc (.cells #[.int .i64 X.sH.gS, .int .i64 X.sH.cM, .int .i64 X.sH.data, .int .i64 X.sH.spare, .int .i64 X.sH.rows, .int .i64 X.sH.cap, .int .i64 X.sH.bT, .int .i64 X.sH.qU, .int .i64 X.sH.sG, .slice a10 l10 c10, .slice a11 l11 c11, .slice a12 l12 c12, .int .i64 X.wT, .int .i64 X.stop, .bool X.down] 34) = w7 at HM7 HB7 HX7 HS7 HC7 HK7 ⊢
    generalize wr.heap.size = n7 at hpn hmn HFX HFS HWN HK7 ⊢
    have cB := cellsOf HB7.out; have lB := ltOf HB7.out; have cK := cellsOf HK7.out; have lK := ltOf HK7.out; have fK := q0c HK7.out
    go_upto_region 15 with fail
    have hc8 : Chg [n7] w7 ((w7.setCell ⟨n7, 11, none⟩ (.slice (some ⟨w7.heap.size, 0, none⟩) 2 2)).alloc (.cells #[.bool false, .slice ar k cr', .bool false, .slice ar k cr'] 69)) := Chg.alloc ((Chg.refl [n7] w7).setCell _ _ (.inl (by simp))) _
    have HK8 := hid (show ((w7.setCell ⟨n7, 11, none⟩ (.slice (some ⟨w7.heap.size, 0, none⟩) 2 2)).alloc (.cells #[.bool false, .slice ar k cr', .bool false, .slice ar k cr'] 69)).heap[n7]? = some (.cells #[.int .i64 X.sH.gS, .int .i64 X.sH.cM, .int .i64 X.sH.data, .int .i64 X.sH.spare, .int .i64 X.sH.rows, .int .i64 X.sH.cap, .int .i64 X.sH.bT, .int .i64 X.sH.qU, .int .i64 X.sH.sG, .slice a10 l10 c10, .slice a11 l11 c11, .slice (some ⟨w7.heap.size, 0, none⟩) 2 2, .int .i64 X.wT, .int .i64 X.stop, .bool X.down] 34 (0, 0)) from q0b (q0m HK7.out rfl) _)
    have HT8 := hid (show ((w7.setCell ⟨n7, 11, none⟩ (.slice (some ⟨w7.heap.size, 0, none⟩) 2 2)).alloc (.cells #[.bool false, .slice ar k cr', .bool false, .slice ar k cr'] 69)).heap[w7.heap.size]? = some (.cells #[.bool false, .slice ar k cr', .bool false, .slice ar k cr'] 69) from q0e (by simp) _)
    have HB8 := hid (hc8.keepb HB7.out (by rw [List.mem_singleton]; omega)); have HM8 := hid (hc8.keepb HM7.out (by rw [List.mem_singleton]; omega))
    have HX8 := hid (wldL.chg HX7.out hc8 (fun y hy hm => by have := HFX.out y hy; rw [List.mem_singleton] at hm; omega)); have HS8 := hid (recL.sl_chg HS7.out hc8 (fun y hy hm => by have := HFS.out y hy; rw [List.mem_singleton] at hm; omega))
    have HC8 := hid (HC7.out.trans hc8 (fun y hy => .inr (by have := HWN.out; rw [List.mem_singleton] at hy; omega)))
    clear hc8 HM7 HB7 HX7 HS7 HC7 HK7 cB lB cK lK fK
    generalize ((w7.setCell ⟨n7, 11, none⟩ (.slice (some ⟨w7.heap.size, 0, none⟩) 2 2)).alloc (.cells #[.bool false, .slice ar k cr', .bool false, .slice ar k cr'] 69)) = w8 at HK8 HT8 HB8 HM8 HX8 HS8 HC8 ⊢
    generalize w7.heap.size = tb2 at HK8 HT8 ⊢
    obtain ⟨ft, h2⟩ := two_sl HT8.out HS8.out
    obtain ⟨fy, HR2⟩ : ∃ fy, Hid (wldL.rep w8 #[.int .i64 X.sH.gS, .int .i64 X.sH.cM, .int .i64 X.sH.data, .int .i64 X.sH.spare, .int .i64 X.sH.rows, .int .i64 X.sH.cap, .int .i64 X.sH.bT, .int .i64 X.sH.qU, .int .i64 X.sH.sG, .slice a10 l10 c10, .slice a11 l11 c11, .slice (some ⟨tb2, 0, none⟩) 2 2, .int .i64 X.wT, .int .i64 X.stop, .bool X.down].toList { X with tapes := two ys } fy) := by
     obtain ⟨b10, m10, d10, g10, b11, m11, d11, g11, b12, m12, d12, g12, ex, o1, o2, o3, o4, o5, o6, o7, o8, o9, k10, k11, k12, o13, o14, -⟩ := q1a.1 HX8.out
     simp only [List.cons.injEq, Value.slice.injEq, and_true, true_and] at ex
     obtain ⟨⟨rfl, rfl, rfl⟩, ⟨rfl, rfl, rfl⟩, -⟩ := ex
     exact ⟨_, q1a.2 ⟨_, _, _, g10, _, _, _, g11, _, _, _, ft, rfl, o1, o2, o3, o4, o5, o6, o7, o8, o9, k10, k11, h2, o13, o14, rfl⟩⟩
    have h12 : ys = [] → l12 = 2 := fun _ => by
     have h1 := (q8m HF.out).1
     obtain ⟨b10, m10, d10, g10, b11, m11, d11, g11, b12, m12, d12, g12, ex, -, -, -, -, -, -, -, -, -, -, -, k12, -⟩ := q1a.1 HX8.out
     simp only [List.cons.injEq, Value.slice.injEq, and_true, true_and] at ex
     obtain ⟨-, -, -, rfl, -⟩ := ex
     have := k12.1; omega
    have H12 := hid h12
    clear h2 h12
    have hly : k = ys.length := HS8.out.1
    have HLY := hid hly; clear hly
    have cB := cellsOf HB8.out; have lB := ltOf HB8.out
    by_cases hbig : 200 < k
    ·go_wp2_with fail
     go_ret
     exact ⟨rfl, HC8.out⟩
    ·have HI2 := hid (fun w (h : wldL.rep w #[.int .i64 X.sH.gS, .int .i64 X.sH.cM, .int .i64 X.sH.data, .int .i64 X.sH.spare, .int .i64 X.sH.rows, .int .i64 X.sH.cap, .int .i64 X.sH.bT, .int .i64 X.sH.qU, .int .i64 X.sH.sG, .slice a10 l10 c10, .slice a11 l11 c11, .slice (some ⟨tb2, 0, none⟩) 2 2, .int .i64 X.wT, .int .i64 X.stop, .bool X.down].toList { X with tapes := two ys } fy) => (by rw [← HTW.out (by have := HLY.out; omega)]; exact q4q { X with tapes := two ys } #[.int .i64 X.sH.gS, .int .i64 X.sH.cM, .int .i64 X.sH.data, .int .i64 X.sH.spare, .int .i64 X.sH.rows, .int .i64 X.sH.cap, .int .i64 X.sH.bT, .int .i64 X.sH.qU, .int .i64 X.sH.sG, .slice a10 l10 c10, .slice a11 l11 c11, .slice (some ⟨tb2, 0, none⟩) 2 2, .int .i64 X.wT, .int .i64 X.stop, .bool X.down] fy w h HTT.out : Calls Tryz.prog 25 #[.agg #[.int .i64 X.sH.gS, .int .i64 X.sH.cM, .int .i64 X.sH.data, .int .i64 X.sH.spare, .int .i64 X.sH.rows, .int .i64 X.sH.cap, .int .i64 X.sH.bT, .int .i64 X.sH.qU, .int .i64 X.sH.sG, .slice a10 l10 c10, .slice a11 l11 c11, .slice (some ⟨tb2, 0, none⟩) 2 2, .int .i64 X.wT, .int .i64 X.stop, .bool X.down]] w (q8r rrsL ⟨0, ys⟩ w)))
     have hfr := @field_recs
     by_cases hl0 : 0 < k
     ·go_upto_region 17 with fail
      clear cB lB
      obtain ⟨CC, HCI, HCO⟩ := q0j (fun w' => w'.heap[n7]? = some (.cells #[.int .i64 X.sH.gS, .int .i64 X.sH.cM, .int .i64 X.sH.data, .int .i64 X.sH.spare, .int .i64 X.sH.rows, .int .i64 X.sH.cap, .int .i64 X.sH.bT, .int .i64 X.sH.qU, .int .i64 X.sH.sG, .slice a10 l10 c10, .slice a11 l11 c11, .slice (some ⟨tb2, 0, none⟩) 2 2, .int .i64 X.wT, .int .i64 X.stop, .bool X.down] 34 (0, 0)) ∧ Know p #[.int .i64 0, .slice ar k cr'] w')
      refine q1j [] CC (by kernel_rfl) (HCI.out _ ⟨(q0a HK8.out), (Know.of (q0a HB8.out))⟩) (fun hcl hS => ?_)
      refine ggL 0 hcl hS HCO ?_ (hy := fun w' hw => q7l _ 34 rfl rfl q1x Tryz.underlying34 hw.1 rfl); clear hcl hS; intro hcl hS
      refine ggT 3 hcl hS ?_; clear hcl hS; intro hcl hS
      refine ggL 4 hcl hS HCO ?_; clear hcl hS; intro hcl hS
      refine ggC 1 hcl rfl (by kernel_rfl) (fun K hK => ?_)
      go_simp
      go_at_call 25
      refine (HI2.out _ (wldL.ext HR2.out ((Chg.refl [] w8).drew))).mono ?_; rintro e w9 ⟨c9s, f9, rfl, hr9, -, hc9⟩; obtain ⟨a9, l9, c9, ex9, -, hs9⟩ := q5z.1 hr9; obtain rfl := Array.toList_inj.1 (ex9.trans (List.toList_toArray).symm); have HC9 := hid ((Chg.refl [] w8).drew.trans0 hc9); have HS9 := hid hs9; clear hr9 ex9 hs9 hc9
      go_wp2_with fail
      refine hK.out _ _ (fun _ => HCI.out _ ⟨(HC9.out.keep0 HK8.out), (Know.of (HC9.out.keep0 HB8.out))⟩) ?_
      clear hK K hcl hS
      intro hcl hS
      try simp only [Act.put, pA, pB, pC]
      refine ggT 2 hcl hS ?_ (hy := by intro w'; go_simp) (v := .slice a9 l9 c9); clear hcl hS; intro hcl hS
      refine ggC 5 hcl rfl (by kernel_rfl) (fun K hK => ?_)
      go_simp
      go_at_call 48
      refine (q8e a9 ar l9 k c9 cr' ys f9 _ w9 HS9.out (recL.sl_ext HS8.out HC9.out)).mono ?_; rintro e w10 ⟨rfl, hc10⟩; have HC10 := hid (HC9.out.trans0 hc10); clear hc10
      go_wp2_with fail
      refine hK.out _ _ (fun _ => HCI.out _ ⟨(HC10.out.keep0 HK8.out), (Know.of (HC10.out.keep0 HB8.out))⟩) ?_
      clear hK K hcl hS
      intro hcl hS
      try simp only [Act.put, pA, pB, pC]
      refine ggT 6 hcl hS ?_; clear hcl hS; intro hcl hS
      refine ggT 7 hcl hS ?_; clear hcl hS; intro hcl hS
      refine ggL 8 hcl hS HCO ?_; clear hcl hS; intro hcl hS
      refine ggT 9 hcl hS ?_; clear hcl hS; intro hcl hS
      refine ggT 10 hcl hS ?_; clear hcl hS; intro hcl hS
      refine ggT 11 hcl hS ?_; clear hcl hS; intro hcl hS
      refine ggS 12 hcl hS ?_; clear hcl hS; intro hcl hS
      refine ggS 13 hcl hS ?_; clear hcl hS; intro hcl hS
      refine ggS 14 hcl hS ?_; clear hcl hS; intro hcl hS
      refine ggS 15 hcl hS ?_; clear hcl hS; intro hcl hS
      refine ggS 16 hcl hS ?_; clear hcl hS; intro hcl hS
      refine ggS 17 hcl hS ?_; clear hcl hS; intro hcl hS
      refine ggS 18 hcl hS ?_; clear hcl hS; intro hcl hS
      refine ggS 19 hcl hS ?_; clear hcl hS; intro hcl hS
      refine ggS 20 hcl hS ?_; clear hcl hS; intro hcl hS
      refine ggS 21 hcl hS ?_; clear hcl hS; intro hcl hS
      refine ggS 22 hcl hS ?_; clear hcl hS; intro hcl hS
      refine ggS 23 hcl hS ?_; clear hcl hS; intro hcl hS
      refine ggS 24 hcl hS ?_; clear hcl hS; intro hcl hS
      refine ggS 25 hcl hS ?_; clear hcl hS; intro hcl hS
      refine ggT 26 hcl hS ?_; clear hcl hS; intro hcl hS
      refine ggT 27 hcl hS ?_; clear hcl hS; intro hcl hS
      refine ggT 28 hcl hS ?_; clear hcl hS; intro hcl hS
      refine q3i (by kernel_rfl) ?_ _
      go_wp2_with fail
      go_ret
      exact ⟨by simp, HC8.out.trans0 HC10.out⟩
     ·obtain rfl : k = 0 := by omega
      have hy0 : ys = [] := List.eq_nil_of_length_eq_zero HLY.out.symm
      obtain rfl := H12.out hy0
      obtain ⟨b10, m10, d10, g10, b11, m11, d11, g11, b12, m12, d12, g12, ex, -, -, -, -, -, -, -, -, -, -, -, k12, -⟩ := q1a.1 HX8.out
      simp only [List.cons.injEq, Value.slice.injEq, and_true, true_and] at ex
      obtain ⟨-, -, rfl, rfl, rfl⟩ := ex
      obtain ⟨bt, ot, p0, c0, p1, c1, rfl, hbt, ht0, ht1⟩ := none_cells k12 (HNN.out hy0)
      have HBT := hid (And.intro hbt (And.intro ht0 ht1))
      clear k12 hbt ht0 ht1 hy0
      go_upto_region 17 with fail
      have hw0 : IntKind.i64.wrap 0 = 0 := by decide
      clear cB lB
      obtain ⟨CC, HCI, HCO⟩ := q0j (fun w' => w'.heap[n7]? = some (.cells #[.int .i64 X.sH.gS, .int .i64 X.sH.cM, .int .i64 X.sH.data, .int .i64 X.sH.spare, .int .i64 X.sH.rows, .int .i64 X.sH.cap, .int .i64 X.sH.bT, .int .i64 X.sH.qU, .int .i64 X.sH.sG, .slice a10 l10 c10, .slice a11 l11 c11, .slice (some ⟨tb2, 0, none⟩) 2 2, .int .i64 X.wT, .int .i64 X.stop, .bool X.down] 34 (0, 0)) ∧ Know m #[.int .i64 X.sH.gS, .int .i64 X.sH.cM, .int .i64 X.sH.data, .int .i64 X.sH.spare, .int .i64 X.sH.rows, .int .i64 X.sH.cap, .int .i64 X.sH.bT, .int .i64 X.sH.qU, .int .i64 X.sH.sG, .slice a10 l10 c10, .slice a11 l11 c11, .slice (some ⟨bt, ot, none⟩) 2 c12, .int .i64 X.wT, .int .i64 X.stop, .bool X.down] w' ∧ w'.cell? ⟨bt, ot + 0 * 2 + 1, none⟩ = some (.slice p0 0 c0) ∧ w'.cell? ⟨bt, ot + 1 * 2 + 1, none⟩ = some (.slice p1 0 c1) ∧ Know p #[.int .i64 0, .slice ar 0 cr'] w')
      refine q1j [] CC (by kernel_rfl) (HCI.out _ ⟨(q0a HK8.out), (Know.of (q0a HM8.out)), HBT.out.2.1, HBT.out.2.2, (Know.of (q0a HB8.out))⟩) (fun hcl hS => ?_)
      refine ggL 0 hcl hS HCO ?_ (hy := fun w' hw => q7l _ 34 rfl rfl q1x Tryz.underlying34 hw.1 rfl); clear hcl hS; intro hcl hS
      refine ggT 3 hcl hS ?_; clear hcl hS; intro hcl hS
      refine ggL 4 hcl hS HCO ?_; clear hcl hS; intro hcl hS
      refine ggC 1 hcl rfl (by kernel_rfl) (fun K hK => ?_)
      go_simp
      go_at_call 25
      refine (HI2.out _ (wldL.ext HR2.out ((Chg.refl [] w8).drew))).mono ?_; rintro e w9 ⟨c9s, f9, rfl, hr9, -, hc9⟩; obtain ⟨a9, l9, c9, ex9, -, hs9⟩ := q5z.1 hr9; obtain rfl := Array.toList_inj.1 (ex9.trans (List.toList_toArray).symm); have HC9 := hid ((Chg.refl [] w8).drew.trans0 hc9); have HS9 := hid hs9; clear hr9 ex9 hs9 hc9
      go_wp2_with fail
      refine hK.out _ _ (fun _ => HCI.out _ ⟨(HC9.out.keep0 HK8.out), (Know.of (HC9.out.keep0 HM8.out)), (q0h HC9.out HBT.out.2.1 HBT.out.1), (q0h HC9.out HBT.out.2.2 HBT.out.1), (Know.of (HC9.out.keep0 HB8.out))⟩) ?_
      clear hK K hcl hS
      intro hcl hS
      try simp only [Act.put, pA, pB, pC]
      refine ggT 2 hcl hS ?_ (hy := by intro w'; go_simp) (v := .slice a9 l9 c9); clear hcl hS; intro hcl hS
      refine ggC 5 hcl rfl (by kernel_rfl) (fun K hK => ?_)
      go_simp
      go_at_call 48
      refine (q8e a9 ar l9 0 c9 cr' ys f9 _ w9 HS9.out (recL.sl_ext HS8.out HC9.out)).mono ?_; rintro e w10 ⟨rfl, hc10⟩; have HC10 := hid (HC9.out.trans0 hc10); clear hc10
      go_wp2_with fail
      refine hK.out _ _ (fun _ => HCI.out _ ⟨(HC10.out.keep0 HK8.out), (Know.of (HC10.out.keep0 HM8.out)), (q0h HC10.out HBT.out.2.1 HBT.out.1), (q0h HC10.out HBT.out.2.2 HBT.out.1), (Know.of (HC10.out.keep0 HB8.out))⟩) ?_
      clear hK K hcl hS
      intro hcl hS
      try simp only [Act.put, pA, pB, pC]
      refine ggT 6 hcl hS ?_; clear hcl hS; intro hcl hS
      refine ggT 7 hcl hS ?_; clear hcl hS; intro hcl hS
      refine ggL 8 hcl hS HCO ?_; clear hcl hS; intro hcl hS
      refine ggT 9 hcl hS ?_; clear hcl hS; intro hcl hS
      refine ggT 10 hcl hS ?_; clear hcl hS; intro hcl hS
      refine ggT 11 hcl hS ?_; clear hcl hS; intro hcl hS
      refine ggT 12 hcl hS ?_; clear hcl hS; intro hcl hS
      refine ggL 13 hcl hS HCO ?_; clear hcl hS; intro hcl hS
      refine ggT 14 hcl hS ?_; clear hcl hS; intro hcl hS
      refine ggT 15 hcl hS ?_; clear hcl hS; intro hcl hS
      refine ggL 16 hcl hS HCO ?_; clear hcl hS; intro hcl hS
      refine ggT 17 hcl hS ?_; clear hcl hS; intro hcl hS
      refine ggT 18 hcl hS ?_; clear hcl hS; intro hcl hS
      refine ggL 19 hcl hS HCO ?_; clear hcl hS; intro hcl hS
      refine ggT 20 hcl hS ?_; clear hcl hS; intro hcl hS
      refine ggT 21 hcl hS ?_; clear hcl hS; intro hcl hS
      refine ggL 22 hcl hS HCO ?_; clear hcl hS; intro hcl hS
      refine ggT 23 hcl hS ?_; clear hcl hS; intro hcl hS
      refine ggT 24 hcl hS ?_; clear hcl hS; intro hcl hS
      refine ggT 25 hcl hS ?_; clear hcl hS; intro hcl hS
      refine ggT 26 hcl hS ?_; clear hcl hS; intro hcl hS
      refine ggT 27 hcl hS ?_; clear hcl hS; intro hcl hS
      refine ggT 28 hcl hS ?_; clear hcl hS; intro hcl hS
      refine q3i (by kernel_rfl) ?_ _
      go_wp2_with fail
      go_ret
      exact ⟨by simp, HC8.out.trans0 HC10.out⟩
end Go.Proofs.YtphmpimgbmedbaaGreat
