/- Several texts in one. -/
import Derived.Test.YtphmpimgbmedbaaGreatGaq
import Derived.Test.YtphmpimgbmedbaaGreatGas
import Derived.Test.YtphmpimgbmedbaaGreatGae
import Derived.Test.YtphmpimgbmedbaaGreatGag
/- CountedRecs: both sides. -/
namespace Go.Proofs.YtphmpimgbmedbaaGreat
open Go.RowKit
open Go.Lib (hid)
noncomputable def crsR (x : Wld) : RRes := if x.fault = 0 then ⟨0, cntL x.tapes⟩ else ⟨x.fault, []⟩
theorem crsR_bad {x : Wld} (h : ¬ x.fault = 0) : crsR x = ⟨x.fault, []⟩ := if_neg h
theorem crsR_ok {x : Wld} (h : x.fault = 0) : crsR x = ⟨0, cntL x.tapes⟩ := if_pos h
theorem cntCrs (x : Wld) : sumI cntRec (crsR x).recs ≤ cntWld x := by
 unfold crsR
 split
 ·exact cntCnt x
 ·exact cntWld_nonneg x
theorem badR9 {w w1 w9 : World} {b : Nat} (q : Int) (hq : i64ok q) (r : RRes) (hr : r = ⟨q, []⟩) (hc : Chg [] w w1) (hc9 : Chg [b] w1 w9) (hb : w.heap.size ≤ b) :
  NewAgg rrsL r w (.returned (.agg #[.int .i64 q, .slice none 0 0])) w9 :=
 ⟨_, [], rfl, by rw [hr]; exact rrsL_iff.2 ⟨none, 0, 0, rfl, hq, nil_sl0 _ _⟩, Fresh.nil _ _, hc.trans hc9 (fun y hy => .inr (by rw [List.mem_singleton] at hy; omega))⟩
theorem finR9 {w w1 w9 : World} {b : Nat} {y : List Rec} {f : List Nat} {a : Option Addr} {l c : Nat} (r : RRes) (hrr : r = ⟨0, y⟩) (hs : recL.sl w1 a l c y f) (hf : Fresh w.heap.size w1 f) (hc : Chg [] w w1) (hc9 : Chg [b] w1 w9) (hn : b ∉ f) (hb : w.heap.size ≤ b) :
  NewAgg rrsL r w (.returned (.agg #[.int .i64 0, .slice a l c])) w9 :=
 ⟨_, f, rfl, by rw [hrr]; exact rrsL_iff.2 ⟨a, l, c, rfl, i64z, recL.sl_chg hs hc9 (fun y hy hm => hn (by rw [List.mem_singleton] at hm; exact hm ▸ hy))⟩, hf.chg hc9, hc.trans hc9 (fun y hy => .inr (by rw [List.mem_singleton] at hy; omega))⟩
set_option maxRecDepth 100000 in
set_option maxHeartbeats 8000000 in
theorem impl_CountedRecs (x : Wld) (cx : Array Value) (fx : List Nat) (w : World) (hx : wldL.rep w cx.toList x fx) (hz : totWld x ≤ 1048576) :
  Calls Tryz.prog 25 #[.agg cx] w (NewAgg rrsL (crsR x) w) := by
 obtain ⟨a10, l10, c10, _, a11, l11, c11, f11, a12, l12, c12, _, ex, -, -, -, -, -, -, -, -, -, h10, h11, h12, oo13, oo14, -⟩ := wldL_iff.1 hx
 obtain rfl := Array.toList_inj.1 (ex.trans (List.toList_toArray).symm)
 have HW := hid hx; have HZ := hid hz; have H10 := hid h10; have H11 := hid h11; have H12 := hid h12; have HOO := hid (And.intro oo13 oo14)
 have hl11 : l11 ≤ 1048576 := by have h := h11.1; have q10 := totL_nonneg (totL_nonneg totDrv_nonneg) x.groups; have q12 := totL_nonneg totTap_nonneg x.tapes; unfold totWld totIs at hz; omega
 clear hx ex hz h10 h11 h12 oo13 oo14
 have G0 := hid (show Chg [] w ((w.alloc (.cells #[.int .i64 x.shape.groups, .int .i64 x.shape.column, .int .i64 x.shape.data, .int .i64 x.shape.spare, .int .i64 x.shape.rows, .int .i64 x.shape.cap, .int .i64 x.shape.batch, .int .i64 x.shape.queue, .int .i64 x.shape.stage, .slice a10 l10 c10, .slice a11 l11 c11, .slice a12 l12 c12, .int .i64 x.writes, .int .i64 x.stop, .bool x.down] 34)).alloc (.cells #[.int .i64 0, .slice none 0 0] 46)) from (Chg.alloc (Chg.alloc (Chg.refl [] w) _) _))
 have B0 := hid (show ((w.alloc (.cells #[.int .i64 x.shape.groups, .int .i64 x.shape.column, .int .i64 x.shape.data, .int .i64 x.shape.spare, .int .i64 x.shape.rows, .int .i64 x.shape.cap, .int .i64 x.shape.batch, .int .i64 x.shape.queue, .int .i64 x.shape.stage, .slice a10 l10 c10, .slice a11 l11 c11, .slice a12 l12 c12, .int .i64 x.writes, .int .i64 x.stop, .bool x.down] 34)).alloc (.cells #[.int .i64 0, .slice none 0 0] 46)).heap[w.heap.size]? = some (.cells #[.int .i64 x.shape.groups, .int .i64 x.shape.column, .int .i64 x.shape.data, .int .i64 x.shape.spare, .int .i64 x.shape.rows, .int .i64 x.shape.cap, .int .i64 x.shape.batch, .int .i64 x.shape.queue, .int .i64 x.shape.stage, .slice a10 l10 c10, .slice a11 l11 c11, .slice a12 l12 c12, .int .i64 x.writes, .int .i64 x.stop, .bool x.down] 34 (0, 0)) from keep_alloc (new_alloc w _) _)
 have B1 := hid (show ((w.alloc (.cells #[.int .i64 x.shape.groups, .int .i64 x.shape.column, .int .i64 x.shape.data, .int .i64 x.shape.spare, .int .i64 x.shape.rows, .int .i64 x.shape.cap, .int .i64 x.shape.batch, .int .i64 x.shape.queue, .int .i64 x.shape.stage, .slice a10 l10 c10, .slice a11 l11 c11, .slice a12 l12 c12, .int .i64 x.writes, .int .i64 x.stop, .bool x.down] 34)).alloc (.cells #[.int .i64 0, .slice none 0 0] 46)).heap[w.heap.size + 1]? = some (.cells #[.int .i64 0, .slice none 0 0] 46 (0, 0)) from new_at (by simp) _)
 go_enter Tryz.func25, Tryz.ntmps25
 obtain ⟨q, hq⟩ : ∃ q, q = x.fault := ⟨_, rfl⟩
 have HQ := hid hq; clear hq
 go_wp2_with (first | (refine load_wide rfl _ 34 rfl rfl infoWd Tryz.underlying34 B0.out rfl ?_))
 refine (impl_WorldFault x #[.int .i64 x.shape.groups, .int .i64 x.shape.column, .int .i64 x.shape.data, .int .i64 x.shape.spare, .int .i64 x.shape.rows, .int .i64 x.shape.cap, .int .i64 x.shape.batch, .int .i64 x.shape.queue, .int .i64 x.shape.stage, .slice a10 l10 c10, .slice a11 l11 c11, .slice a12 l12 c12, .int .i64 x.writes, .int .i64 x.stop, .bool x.down] fx _ (wldL.ext HW.out G0.out)).mono ?_
 rintro e w1 ⟨rfl, hc⟩
 rw [← HQ.out]
 obtain ⟨c0, n0, A0_1⟩ := bk hc B0.out (by simp)
 obtain ⟨c1, n1, A1_1⟩ := bk hc B1.out (by simp)
 have G1 := hid (G0.out.trans0 hc)
 have fz := freeOf A1_1.out
 clear hc
 have hqk : i64ok q := by rw [HQ.out]; exact fault_i64 x
 by_cases hq0 : q = 0
 ·subst hq0
  have hf0 : x.fault = 0 := HQ.out.symm
  have HR := hid (crsR_ok hf0)
  have HN := hid (counted_any w.heap.size a12 l12 c12 _ x.tapes w1 A0_1.out (tapL.sl_ext H12.out G1.out) (by have := fault_flat hf0; omega))
  go_wp2_with (first | (refine load_wide rfl _ 34 rfl rfl infoWd Tryz.underlying34 A0_1.out rfl ?_))
  refine (HN.out).mono ?_
  rintro e w2 hp
  obtain ⟨v, rfl, hr, hc⟩ := hp.rwd
  obtain ⟨a, l, c, f, rfl, hs, -⟩ := hr.sl
  have HS0 := hid hs; clear hs hr hp
  clear c0 n0
  obtain ⟨c0, n0, A0_2⟩ := bk hc A0_1.out (by simp)
  clear c1 n1
  obtain ⟨c1, n1, A1_2⟩ := bk hc A1_1.out (by simp)
  have G2 := hid (G1.out.trans0 hc)
  clear fz; have fz := freeOf A1_2.out
  clear hc
  have nR0 := n1
  go_wp2_with (first | (refine load_wide rfl _ 34 rfl rfl infoWd Tryz.underlying34 A0_2.out rfl ?_))
  refine (cloneRecs_any a l c _ f w2 HS0.out (Int.le_trans (totCnt x) HZ.out)).mono ?_
  rintro e w3 ⟨pa, pc, pf, rfl, hs, hf, hc⟩
  have HS := hid hs; have HFR := hid (hf.mono (C := w.heap.size) G2.out.size)
  have HLO := hid (fun y hy => (hf.2 y hy).1)
  clear hs hf
  clear c0 n0
  obtain ⟨c0, n0, A0_3⟩ := bk hc A0_2.out (by simp)
  clear c1 n1
  obtain ⟨c1, n1, A1_3⟩ := bk hc A1_2.out (by simp)
  have G3 := hid (G2.out.trans0 hc)
  clear fz; have fz := freeOf A1_3.out
  clear hc
  have HNF := hid (fun hy => absurd (HLO.out _ hy) (by omega) : w.heap.size + 1 ∉ pf)
  go_wp2_with (first | (refine store_wide rfl _ _ 46 rfl rfl rfl infoRR A1_3.out rfl rfl rfl ?_; intro w9 hb9 hc9; have HB9 := hid hb9; have HC9 := hid hc9; clear hb9 hc9))
  refine bodyPost_ret (v := .agg #[.int .i64 0, .slice pa (cntL x.tapes).length pc]) (results_wide _ _ Tryz.results25 rfl infoRR Tryz.underlying46 HB9.out rfl) rfl (finR9 (crsR x) (HR.out) HS.out HFR.out G3.out HC9.out HNF.out (by omega))
 ·have hb : ((q : Int) != 0) = true := by simpa using hq0
  go_wp2_with (first | (refine store_wide rfl _ _ 46 rfl rfl rfl infoRR A1_1.out rfl rfl rfl ?_; intro w9 hb9 hc9; have HB9 := hid hb9; have HC9 := hid hc9; clear hb9 hc9))
  refine bodyPost_ret (v := .agg #[.int .i64 (q), .slice none 0 0]) (results_wide _ _ Tryz.results25 rfl infoRR Tryz.underlying46 HB9.out rfl) rfl (badR9 (q) (hqk) (crsR x) (by rw [crsR_bad (by rw [← HQ.out]; exact hq0), ← HQ.out]) G1.out HC9.out (by omega))
set_option maxRecDepth 100000 in
set_option maxHeartbeats 8000000 in
theorem spec_CountedRecs (x : Wld) (cx : Array Value) (fx : List Nat) (w : World) (hx : wldL.rep w cx.toList x fx) (hz : totWld x ≤ 1048576) :
  Calls Tryz.prog 24 #[.agg cx] w (NewAgg rrsL (crsR x) w) := by
 obtain ⟨a10, l10, c10, _, a11, l11, c11, f11, a12, l12, c12, _, ex, -, -, -, -, -, -, -, -, -, h10, h11, h12, oo13, oo14, -⟩ := wldL_iff.1 hx
 obtain rfl := Array.toList_inj.1 (ex.trans (List.toList_toArray).symm)
 have HW := hid hx; have HZ := hid hz; have H10 := hid h10; have H11 := hid h11; have H12 := hid h12; have HOO := hid (And.intro oo13 oo14)
 have hl11 : l11 ≤ 1048576 := by have h := h11.1; have q10 := totL_nonneg (totL_nonneg totDrv_nonneg) x.groups; have q12 := totL_nonneg totTap_nonneg x.tapes; unfold totWld totIs at hz; omega
 clear hx ex hz h10 h11 h12 oo13 oo14
 have G0 := hid (show Chg [] w ((w.alloc (.cells #[.int .i64 x.shape.groups, .int .i64 x.shape.column, .int .i64 x.shape.data, .int .i64 x.shape.spare, .int .i64 x.shape.rows, .int .i64 x.shape.cap, .int .i64 x.shape.batch, .int .i64 x.shape.queue, .int .i64 x.shape.stage, .slice a10 l10 c10, .slice a11 l11 c11, .slice a12 l12 c12, .int .i64 x.writes, .int .i64 x.stop, .bool x.down] 34)).alloc (.cells #[.int .i64 0, .slice none 0 0] 46)) from (Chg.alloc (Chg.alloc (Chg.refl [] w) _) _))
 have B0 := hid (show ((w.alloc (.cells #[.int .i64 x.shape.groups, .int .i64 x.shape.column, .int .i64 x.shape.data, .int .i64 x.shape.spare, .int .i64 x.shape.rows, .int .i64 x.shape.cap, .int .i64 x.shape.batch, .int .i64 x.shape.queue, .int .i64 x.shape.stage, .slice a10 l10 c10, .slice a11 l11 c11, .slice a12 l12 c12, .int .i64 x.writes, .int .i64 x.stop, .bool x.down] 34)).alloc (.cells #[.int .i64 0, .slice none 0 0] 46)).heap[w.heap.size]? = some (.cells #[.int .i64 x.shape.groups, .int .i64 x.shape.column, .int .i64 x.shape.data, .int .i64 x.shape.spare, .int .i64 x.shape.rows, .int .i64 x.shape.cap, .int .i64 x.shape.batch, .int .i64 x.shape.queue, .int .i64 x.shape.stage, .slice a10 l10 c10, .slice a11 l11 c11, .slice a12 l12 c12, .int .i64 x.writes, .int .i64 x.stop, .bool x.down] 34 (0, 0)) from keep_alloc (new_alloc w _) _)
 have B1 := hid (show ((w.alloc (.cells #[.int .i64 x.shape.groups, .int .i64 x.shape.column, .int .i64 x.shape.data, .int .i64 x.shape.spare, .int .i64 x.shape.rows, .int .i64 x.shape.cap, .int .i64 x.shape.batch, .int .i64 x.shape.queue, .int .i64 x.shape.stage, .slice a10 l10 c10, .slice a11 l11 c11, .slice a12 l12 c12, .int .i64 x.writes, .int .i64 x.stop, .bool x.down] 34)).alloc (.cells #[.int .i64 0, .slice none 0 0] 46)).heap[w.heap.size + 1]? = some (.cells #[.int .i64 0, .slice none 0 0] 46 (0, 0)) from new_at (by simp) _)
 go_enter Tryz.func24, Tryz.ntmps24
 obtain ⟨q, hq⟩ : ∃ q, q = x.fault := ⟨_, rfl⟩
 have HQ := hid hq; clear hq
 go_wp2_with (first | (refine load_wide rfl _ 34 rfl rfl infoWd Tryz.underlying34 B0.out rfl ?_))
 refine (spec_WorldFault x #[.int .i64 x.shape.groups, .int .i64 x.shape.column, .int .i64 x.shape.data, .int .i64 x.shape.spare, .int .i64 x.shape.rows, .int .i64 x.shape.cap, .int .i64 x.shape.batch, .int .i64 x.shape.queue, .int .i64 x.shape.stage, .slice a10 l10 c10, .slice a11 l11 c11, .slice a12 l12 c12, .int .i64 x.writes, .int .i64 x.stop, .bool x.down] fx _ (wldL.ext HW.out G0.out)).mono ?_
 rintro e w1 ⟨rfl, hc⟩
 rw [← HQ.out]
 obtain ⟨c0, n0, A0_1⟩ := bk hc B0.out (by simp)
 obtain ⟨c1, n1, A1_1⟩ := bk hc B1.out (by simp)
 have G1 := hid (G0.out.trans0 hc)
 have fz := freeOf A1_1.out
 clear hc
 have hqk : i64ok q := by rw [HQ.out]; exact fault_i64 x
 by_cases hq0 : q = 0
 ·subst hq0
  have hf0 : x.fault = 0 := HQ.out.symm
  have HR := hid (crsR_ok hf0)
  obtain rfl : l12 = 2 := by have h1 := H12.out.1; have h2 := (fault_recs hf0).1; omega
  have HN := hid (l6Counted_any w.heap.size a12 c12 _ x.tapes w1 A0_1.out (tapL.sl_ext H12.out G1.out) (by have := fault_flat hf0; omega))
  go_wp2_with (first | (refine load_wide rfl _ 34 rfl rfl infoWd Tryz.underlying34 A0_1.out rfl ?_))
  refine (HN.out).mono ?_
  rintro e w2 ⟨v, rfl, hr, hc⟩
  obtain ⟨a, l, c, f, rfl, hs, -⟩ := hr.sl
  have HS0 := hid hs; clear hs hr
  clear c0 n0
  obtain ⟨c0, n0, A0_2⟩ := bk hc A0_1.out (by simp)
  clear c1 n1
  obtain ⟨c1, n1, A1_2⟩ := bk hc A1_1.out (by simp)
  have G2 := hid (G1.out.trans0 hc)
  clear fz; have fz := freeOf A1_2.out
  clear hc
  have nR0 := n1
  go_wp2_with (first | (refine load_wide rfl _ 34 rfl rfl infoWd Tryz.underlying34 A0_2.out rfl ?_))
  refine (l5CopyRecs_any a l c _ f w2 HS0.out (Int.le_trans (totCnt x) HZ.out)).mono ?_
  rintro e w3 ⟨pa, pc, pf, rfl, hs, hf, hc⟩
  have HS := hid hs; have HFR := hid (hf.mono (C := w.heap.size) G2.out.size)
  have HLO := hid (fun y hy => (hf.2 y hy).1)
  clear hs hf
  clear c0 n0
  obtain ⟨c0, n0, A0_3⟩ := bk hc A0_2.out (by simp)
  clear c1 n1
  obtain ⟨c1, n1, A1_3⟩ := bk hc A1_2.out (by simp)
  have G3 := hid (G2.out.trans0 hc)
  clear fz; have fz := freeOf A1_3.out
  clear hc
  have HNF := hid (fun hy => absurd (HLO.out _ hy) (by omega) : w.heap.size + 1 ∉ pf)
  go_wp2_with (first | (refine store_wide rfl _ _ 46 rfl rfl rfl infoRR A1_3.out rfl rfl rfl ?_; intro w9 hb9 hc9; have HB9 := hid hb9; have HC9 := hid hc9; clear hb9 hc9))
  refine bodyPost_ret (v := .agg #[.int .i64 0, .slice pa (cntL x.tapes).length pc]) (results_wide _ _ Tryz.results24 rfl infoRR Tryz.underlying46 HB9.out rfl) rfl (finR9 (crsR x) (HR.out) HS.out HFR.out G3.out HC9.out HNF.out (by omega))
 ·have hb : ((q : Int) != 0) = true := by simpa using hq0
  go_wp2_with (first | (refine store_wide rfl _ _ 46 rfl rfl rfl infoRR A1_1.out rfl rfl rfl ?_; intro w9 hb9 hc9; have HB9 := hid hb9; have HC9 := hid hc9; clear hb9 hc9))
  refine bodyPost_ret (v := .agg #[.int .i64 (q), .slice none 0 0]) (results_wide _ _ Tryz.results24 rfl infoRR Tryz.underlying46 HB9.out rfl) rfl (badR9 (q) (hqk) (crsR x) (by rw [crsR_bad (by rw [← HQ.out]; exact hq0), ← HQ.out]) G1.out HC9.out (by omega))
end Go.Proofs.YtphmpimgbmedbaaGreat
