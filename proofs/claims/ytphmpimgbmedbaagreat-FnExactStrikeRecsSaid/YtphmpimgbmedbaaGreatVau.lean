/- Several texts in one. -/
import Derived.Test.YtphmpimgbmedbaaGreatVat
import Derived.Test.YtphmpimgbmedbaaGreatVar
import Derived.Test.YtphmpimgbmedbaaGreatVas
import Derived.Test.YtphmpimgbmedbaaGreatVaq
import Derived.Test.YtphmpimgbmedbaaGreatVam
namespace Go.Proofs.YtphmpimgbmedbaaGreat
open Go.RowKit
open Go.Lib (hid)
theorem up_parts {x : Wld} (h : x.up = 0) : x.fault = 0 ∧ x.down = false ∧ x.built ∧ x.nums ∧ x.shape.ok := by
 have hf : x.fault = 0 := by
  unfold Wld.up at h
  split at h
  ·assumption
  ·exact h
 have hd : x.down = false := by
  unfold Wld.up at h
  rw [if_pos hf] at h
  cases hd : x.down
  ·rfl
  ·rw [if_pos hd] at h; omega
 refine ⟨hf, hd, Classical.byContradiction (fun hn => ?_), Classical.byContradiction (fun hn => ?_), rows_ok hf⟩
 ·unfold Wld.fault at hf
  rw [pb_false (P := x.built ∧ x.onOk ∧ x.tapes.length = 2) (fun g => hn g.1)] at hf
  split at hf <;> simp at hf
 ·unfold Wld.fault at hf
  rw [pb_false (P := x.nums) hn] at hf
  simp only [Bool.false_eq_true, if_false] at hf
  split at hf
  ·split at hf
   ·split at hf
    ·omega
    ·contradiction
   ·omega
  ·omega
theorem up_tapes {x : Wld} (h : x.up = 0) : x.tapes.length = 2 ∧ ∀ t ∈ x.tapes, t.recs.length ≤ 200 := by
 have hf := (up_parts h).1
 refine ⟨Classical.byContradiction (fun hn => ?_), fun t ht => Classical.byContradiction (fun hn => ?_)⟩
 ·unfold Wld.fault at hf
  rw [pb_false (P := x.built ∧ x.onOk ∧ x.tapes.length = 2) (fun g => hn g.2.2)] at hf
  split at hf <;> simp at hf
 ·unfold Wld.fault at hf
  have h2 : x.tapF = 2 := by unfold Wld.tapF; rw [if_pos (pb_true ⟨t, ht, by omega⟩)]
  rw [h2] at hf
  split at hf
  ·split at hf
   ·simp at hf
   ·omega
  ·omega
theorem tape_isK {x : Wld} {t : Nat} {X : Tap} (h : x.tapes[t]? = some X) : x.tape (t : Int) = X := by
 unfold Wld.tape
 rw [Int.toNat_natCast, List.getD_eq_getElem?_getD, h]; rfl
theorem keep_eq (kd sq : Int) : (fun r : Rec => !(r.kind == kd && r.seq == sq)) = fun r : Rec => !pb (r.kind = kd ∧ r.seq = sq) := by
 funext r
 by_cases h : r.kind = kd ∧ r.seq = sq
 ·rw [pb_true h]; simp [h.1, h.2]
 ·rw [pb_false h]
  by_cases h1 : r.kind = kd
  ·have h2 : ¬ r.seq = sq := fun h2 => h ⟨h1, h2⟩
   simp [h2]
  ·simp [h1]
theorem strikeR_bad {x : Wld} {t kd sq : Int} (h : ¬ x.up = 0) : strikeR x t kd sq = ⟨x.up, zWld⟩ := if_pos h
theorem strikeR_out {x : Wld} {t kd sq : Int} (h : x.up = 0) (h2 : ¬ (0 ≤ t ∧ t ≤ 1)) : strikeR x t kd sq = ⟨3, zWld⟩ := by unfold strikeR; rw [if_neg (fun g => g h), if_pos (pb_false (P := isTape t) h2)]
theorem strikeR_fail {x : Wld} {t : Nat} {kd sq : Int} (h : x.up = 0) (h2 : 0 ≤ (t : Int) ∧ (t : Int) ≤ 1) (h5 : x.stop ≠ -1 ∧ x.stop ≤ x.writes) : strikeR x t kd sq = ⟨9, x.cut⟩ := by
 unfold strikeR
 rw [if_neg (fun g => g h), if_neg (by rw [pb_true (P := isTape (t : Int)) h2]; simp)]
 unfold Wld.raw
 rw [if_pos h5]
theorem strikeR_ok {x : Wld} {t : Nat} {kd sq : Int} {X : Tap} (h : x.up = 0) (h2 : 0 ≤ (t : Int) ∧ (t : Int) ≤ 1) (hX : x.tapes[t]? = some X) (h5 : ¬ (x.stop ≠ -1 ∧ x.stop ≤ x.writes)) : strikeR x t kd sq = ⟨0, { x with tapes := x.tapes.set t ⟨X.wiped, X.recs.filter (fun r => !pb (r.kind = kd ∧ r.seq = sq))⟩, writes := x.writes + 1 }⟩ := by
 unfold strikeR
 rw [if_neg (fun g => g h), if_neg (by rw [pb_true (P := isTape (t : Int)) h2]; simp)]
 unfold Wld.raw
 rw [if_neg h5]
 unfold Wld.setTape
 rw [Int.toNat_natCast]
 show (⟨0, { x with tapes := x.tapes.set t ⟨(x.tape (t : Int)).wiped, (x.tape (t : Int)).recs.filter (fun r => !(r.kind == kd && r.seq == sq))⟩, writes := x.writes + 1 }⟩ : WRes) = _
 rw [keep_eq, tape_isK hX]
theorem isTapeK_any (s : Int) (w : World) : Calls Tryz.prog 79 #[.int .i64 s] w fun e w' => e = .returned (.bool (inB s 0 1)) ∧ w = w' := by
 go_enter Tryz.func79, Tryz.ntmps79
 go_wp2_with fail
 refine (inside_any s 0 1 _).mono ?_
 rintro e w' ⟨rfl, rfl⟩
 go_wp2_with fail
 go_ret
 exact ⟨rfl, rfl⟩
set_option maxRecDepth 100000 in
set_option maxHeartbeats 8000000 in
theorem impl_StrikeRecs (x : Wld) (cx : Array Value) (fx : List Nat) (s : Int) (kd : Int) (sq : Int) (w : World) (hx : wldL.rep w cx.toList x fx) (hz : totWld x ≤ 1048576) (_os : i64ok s) (_ok : i64ok kd) (_oq : i64ok sq) :
  Calls Tryz.prog 18 #[.agg cx, .int .i64 s, .int .i64 kd, .int .i64 sq] w (NewAgg wrsL (strikeR x s kd sq) w) := by
 obtain ⟨a10, l10, c10, _, a11, l11, c11, f11, a12, l12, c12, _, ex, -, -, -, -, -, -, -, -, -, h10, h11, h12, oo13, oo14, -⟩ := wldL_iff.1 hx
 obtain rfl := Array.toList_inj.1 (ex.trans (List.toList_toArray).symm)
 have HW := hid hx; have HZ := hid hz; have H10 := hid h10; have H11 := hid h11; have H12 := hid h12; have HOO := hid (And.intro oo13 oo14)
 have hl11 : l11 ≤ 1048576 := by have h := h11.1; have q10 := totL_nonneg (totL_nonneg totDrv_nonneg) x.groups; have q12 := totL_nonneg totTap_nonneg x.tapes; unfold totWld totIs at hz; omega
 clear hx ex hz h10 h11 h12 oo13 oo14
 have G0 := hid (show Chg [] w ((w.alloc (.cells #[.int .i64 x.shape.groups, .int .i64 x.shape.column, .int .i64 x.shape.data, .int .i64 x.shape.spare, .int .i64 x.shape.rows, .int .i64 x.shape.cap, .int .i64 x.shape.batch, .int .i64 x.shape.queue, .int .i64 x.shape.stage, .slice a10 l10 c10, .slice a11 l11 c11, .slice a12 l12 c12, .int .i64 x.writes, .int .i64 x.stop, .bool x.down] 34)).alloc (.cells #[.int .i64 0, .int .i64 0, .int .i64 0, .int .i64 0, .int .i64 0, .int .i64 0, .int .i64 0, .int .i64 0, .int .i64 0, .int .i64 0, .slice none 0 0, .slice none 0 0, .slice none 0 0, .int .i64 0, .int .i64 0, .bool false] 36)) from (Chg.alloc (Chg.alloc (Chg.refl [] w) _) _))
 have B0 := hid (show ((w.alloc (.cells #[.int .i64 x.shape.groups, .int .i64 x.shape.column, .int .i64 x.shape.data, .int .i64 x.shape.spare, .int .i64 x.shape.rows, .int .i64 x.shape.cap, .int .i64 x.shape.batch, .int .i64 x.shape.queue, .int .i64 x.shape.stage, .slice a10 l10 c10, .slice a11 l11 c11, .slice a12 l12 c12, .int .i64 x.writes, .int .i64 x.stop, .bool x.down] 34)).alloc (.cells #[.int .i64 0, .int .i64 0, .int .i64 0, .int .i64 0, .int .i64 0, .int .i64 0, .int .i64 0, .int .i64 0, .int .i64 0, .int .i64 0, .slice none 0 0, .slice none 0 0, .slice none 0 0, .int .i64 0, .int .i64 0, .bool false] 36)).heap[w.heap.size]? = some (.cells #[.int .i64 x.shape.groups, .int .i64 x.shape.column, .int .i64 x.shape.data, .int .i64 x.shape.spare, .int .i64 x.shape.rows, .int .i64 x.shape.cap, .int .i64 x.shape.batch, .int .i64 x.shape.queue, .int .i64 x.shape.stage, .slice a10 l10 c10, .slice a11 l11 c11, .slice a12 l12 c12, .int .i64 x.writes, .int .i64 x.stop, .bool x.down] 34 (0, 0)) from keep_alloc (new_alloc w _) _)
 have B1 := hid (show ((w.alloc (.cells #[.int .i64 x.shape.groups, .int .i64 x.shape.column, .int .i64 x.shape.data, .int .i64 x.shape.spare, .int .i64 x.shape.rows, .int .i64 x.shape.cap, .int .i64 x.shape.batch, .int .i64 x.shape.queue, .int .i64 x.shape.stage, .slice a10 l10 c10, .slice a11 l11 c11, .slice a12 l12 c12, .int .i64 x.writes, .int .i64 x.stop, .bool x.down] 34)).alloc (.cells #[.int .i64 0, .int .i64 0, .int .i64 0, .int .i64 0, .int .i64 0, .int .i64 0, .int .i64 0, .int .i64 0, .int .i64 0, .int .i64 0, .slice none 0 0, .slice none 0 0, .slice none 0 0, .int .i64 0, .int .i64 0, .bool false] 36)).heap[w.heap.size + 1]? = some (.cells #[.int .i64 0, .int .i64 0, .int .i64 0, .int .i64 0, .int .i64 0, .int .i64 0, .int .i64 0, .int .i64 0, .int .i64 0, .int .i64 0, .slice none 0 0, .slice none 0 0, .slice none 0 0, .int .i64 0, .int .i64 0, .bool false] 36 (0, 0)) from new_at (by simp) _)
 go_enter Tryz.func18, Tryz.ntmps18
 obtain ⟨q, hq⟩ : ∃ q, q = x.up := ⟨_, rfl⟩
 have HQ := hid hq; clear hq
 go_wp2_with (first | (refine load_wide rfl _ 34 rfl rfl infoWd Tryz.underlying34 B0.out rfl ?_))
 refine (upFault_any x #[.int .i64 x.shape.groups, .int .i64 x.shape.column, .int .i64 x.shape.data, .int .i64 x.shape.spare, .int .i64 x.shape.rows, .int .i64 x.shape.cap, .int .i64 x.shape.batch, .int .i64 x.shape.queue, .int .i64 x.shape.stage, .slice a10 l10 c10, .slice a11 l11 c11, .slice a12 l12 c12, .int .i64 x.writes, .int .i64 x.stop, .bool x.down] fx _ (wldL.ext HW.out G0.out)).mono ?_
 rintro e w1 ⟨rfl, hc⟩
 rw [← HQ.out]
 obtain ⟨c0, n0, A0_1⟩ := bk0 hc B0.out
 obtain ⟨c1, n1, A1_1⟩ := bk0 hc B1.out
 have G1 := hid (G0.out.trans0 hc)
 have fz := freeOf A1_1.out
 clear hc
 have hqk : i64ok q := by rw [HQ.out]; exact up_i64 x
 by_cases hq0 : q = 0
 ·subst hq0
  have hf0 : x.up = 0 := HQ.out.symm
  obtain ⟨-, hdn0, hbt0, hnu0, hok⟩ := up_parts hf0
  have hdn := hid hdn0; have HNU := hid hnu0; clear hdn0 hbt0 hnu0 hok
  by_cases hin : 0 ≤ s ∧ s ≤ 1
  ·have HI := hid (show inB s 0 1 = true by simp [inB, hin.1, hin.2])
   go_wp2_with (first | (refine load_wide rfl _ 34 rfl rfl infoWd Tryz.underlying34 A0_1.out rfl ?_))
   refine (isTapeK_any s _).mono ?_
   rintro e w' ⟨rfl, rfl⟩
   rw [HI.out]
   go_wp2_with (first | (refine load_wide rfl _ 34 rfl rfl infoWd Tryz.underlying34 A0_1.out rfl ?_))
   refine (cloneWorld_any x #[.int .i64 x.shape.groups, .int .i64 x.shape.column, .int .i64 x.shape.data, .int .i64 x.shape.spare, .int .i64 x.shape.rows, .int .i64 x.shape.cap, .int .i64 x.shape.batch, .int .i64 x.shape.queue, .int .i64 x.shape.stage, .slice a10 l10 c10, .slice a11 l11 c11, .slice a12 l12 c12, .int .i64 x.writes, .int .i64 x.stop, .bool x.down] fx _ (wldL.ext HW.out G1.out) HZ.out).mono ?_
   rintro e w2 ⟨cs2, f2, rfl, hs, hf, hc⟩
   obtain ⟨p10, m10, d10, g10, p11, m11, d11, g11, p12, m12, d12, g12, ex, o1, o2, o3, o4, o5, o6, o7, o8, o9, K10, K11, K12, o13, o14, rfl⟩ := wldL_iff.1 hs
   obtain rfl := Array.toList_inj.1 (ex.trans (List.toList_toArray).symm)
   have HO := hid (And.intro o1 (And.intro o2 (And.intro o3 (And.intro o4 (And.intro o5 (And.intro o6 (And.intro o7 (And.intro o8 (And.intro o9 (And.intro o13 o14))))))))))
   have HK := hid (And.intro K10 (And.intro K11 K12)); have HF := hid hf; have HFn := hid (fun b hb => (hf.2 b hb).1); have nR0 := n1
   clear hs ex K10 K11 K12 o1 o2 o3 o4 o5 o6 o7 o8 o9 o13 o14 hf
   clear c0 n0
   obtain ⟨c0, n0, A0_2⟩ := bk0 hc A0_1.out
   clear c1 n1
   obtain ⟨c1, n1, A1_2⟩ := bk0 hc A1_1.out
   have G2 := hid (G1.out.trans0 hc)
   clear fz; have fz := freeOf A1_2.out
   clear hc
   go_upto_region 7 with (refine store_wide rfl _ _ 34 rfl rfl rfl infoWd (new_alloc _ _) rfl rfl rfl ?_; intro w3 hm hc0)
   have hc : Chg [] w2 w3 := ((Chg.refl [] w2).alloc _).trans hc0 (fun y hy => .inr (by rw [List.mem_singleton] at hy; omega)); clear hc0
   have HM := hid hm; have cm := cellsOf hm; have nm := ltOf hm; have fm := freeOf hm; have nR : w.heap.size + 1 < w2.heap.size := n1; clear hm
   have hF := HF.out.lts; have HKe := hid (And.intro (drvL.slice.sl_ext HK.out.1 hc) (And.intro (intL.sl_ext HK.out.2.1 hc) (tapL.sl_ext HK.out.2.2 hc))); have HFe := hid ((HF.out.mono (C := w.heap.size) G1.out.size).chg hc)
   have HFl := hid hF; clear hF
   clear c0 n0
   obtain ⟨c0, n0, A0_3⟩ := bk0 hc A0_2.out
   clear c1 n1
   obtain ⟨c1, n1, A1_3⟩ := bk0 hc A1_2.out
   have G3 := hid (G2.out.trans0 hc)
   clear fz; have fz := freeOf A1_3.out
   clear hc
   obtain ⟨t, rfl⟩ : ∃ t : Nat, s = t := ⟨s.toNat, by omega⟩
   by_cases hst : x.stop ≠ -1 ∧ x.stop ≤ x.writes
   ·have HST := hid hst; clear hst
    go_wp2_with fail
    refine (strk_fail w2.heap.size t kd sq w3 HM.out HST.out.1 HST.out.2).mono ?_
    rintro e w7 ⟨rfl, hm, hc⟩
    have hR := hid (hc.keepb A1_3.out (by simp; omega))
    have hnm : ∀ y ∈ g10 ++ (g11 ++ (g12 ++ [])), y ∉ [w2.heap.size] := fun y hy hm => by have := HFl.out y hy; rw [List.mem_singleton] at hm; omega
    obtain ⟨o1, o2, o3, o4, o5, o6, o7, o8, o9, o13, o14⟩ := HO.out
    have hsub : (g10 ++ ([] ++ (g12 ++ []))).Sublist (g10 ++ (g11 ++ (g12 ++ []))) := (List.Sublist.refl g10).append ((List.nil_sublist g11).append (List.Sublist.refl _))
    have HE := hid (And.intro (show wldL.rep w7 [.int .i64 x.shape.groups, .int .i64 x.shape.column, .int .i64 x.shape.data, .int .i64 x.shape.spare, .int .i64 x.shape.rows, .int .i64 x.shape.cap, .int .i64 x.shape.batch, .int .i64 x.shape.queue, .int .i64 x.shape.stage, .slice p10 m10 d10, .slice none 0 0, .slice p12 m12 d12, .int .i64 x.writes, .int .i64 x.stop, .bool true] _ _ from (wldL_iff.2 ⟨p10, m10, d10, g10, none, 0, 0, [], p12, m12, d12, g12, rfl, o1, o2, o3, o4, o5, o6, o7, o8, o9, drvL.slice.sl_chg HKe.out.1 hc (fun y hy => hnm y (by simp [hy])), nil_sl0 _ _, tapL.sl_chg HKe.out.2.2 hc (fun y hy => hnm y (by simp [hy])), o13, o14, rfl⟩ : wldL.rep _ _ x.cut _)) (And.intro (show Fresh w.heap.size w7 (g10 ++ ([] ++ (g12 ++ []))) from (HFe.out.chg hc).sub hsub) (And.intro (show Chg [] w w7 from G3.out.trans hc (fun y hy => .inr (by rw [List.mem_singleton] at hy; omega))) (show w.heap.size + 1 ∉ g10 ++ ([] ++ (g12 ++ [])) from fun hy => by have := HFn.out _ (hsub.subset hy); omega))))
    have HRR := hid hR.out; have HMR := hid (show w7.heap[w2.heap.size]? = some (.cells #[.int .i64 x.shape.groups, .int .i64 x.shape.column, .int .i64 x.shape.data, .int .i64 x.shape.spare, .int .i64 x.shape.rows, .int .i64 x.shape.cap, .int .i64 x.shape.batch, .int .i64 x.shape.queue, .int .i64 x.shape.stage, .slice p10 m10 d10, .slice none 0 0, .slice p12 m12 d12, .int .i64 x.writes, .int .i64 x.stop, .bool true] 34 (0, 0)) from hm)
    clear o1 o2 o3 o4 o5 o6 o7 o8 o9 o13 o14 hc hnm hsub hm cm nm fm
    go_wp2_with (refine load_wide rfl _ 34 rfl rfl infoWd Tryz.underlying34 HMR.out rfl ?_)
    refine (wrote_false _ _ _ _ _ _ _ _ _ _ _ _ _ _ _ _ _ _ _ _ _ _).mono ?_
    rintro e w8 ⟨rfl, hc8⟩
    have HE8 := hid (And.intro (wldL.ext HE.out.1 hc8) (And.intro (HE.out.2.1.chg hc8) (And.intro (HE.out.2.2.1.trans0 hc8) HE.out.2.2.2))); have HR8 := hid (hc8.keep0 HRR.out); clear hc8
    go_wp2_with (first | (refine store_wide rfl _ _ 36 rfl rfl rfl infoWR HR8.out rfl rfl rfl ?_; intro w9 hb9 hc9; have HB9 := hid hb9; have HC9 := hid hc9; clear hb9 hc9))
    refine bodyPost_ret (v := .agg #[.int .i64 9, .int .i64 x.shape.groups, .int .i64 x.shape.column, .int .i64 x.shape.data, .int .i64 x.shape.spare, .int .i64 x.shape.rows, .int .i64 x.shape.cap, .int .i64 x.shape.batch, .int .i64 x.shape.queue, .int .i64 x.shape.stage, .slice p10 m10 d10, .slice none 0 0, .slice p12 m12 d12, .int .i64 x.writes, .int .i64 x.stop, .bool true]) (results_wide _ _ Tryz.results18 rfl infoWR Tryz.underlying36 HB9.out rfl) rfl (fin9 9 ⟨by omega, by omega⟩ (strikeR x t kd sq) (strikeR_fail hf0 hin HST.out) HE8.out.1 rfl HE8.out.2.1 HE8.out.2.2.1 HC9.out HE8.out.2.2.2 (by omega))
   ·have HST := hid hst; clear hst
    have htm : t < m12 := by have h1 := HKe.out.2.2.1; have h2 := (up_tapes hf0).1; omega
    obtain ⟨-, b, off, -, -, -, -, -, rfl, -, -, -⟩ := tape_at HKe.out.2.2 htm
    have hsto : x.stop = -1 ∨ x.stop ≠ -1 ∧ x.writes < x.stop := by have := HST.out; omega
    obtain ⟨X, f, aq, lq, cq, hX, hb12, hv1, hsl, hfr, hsub12, hbf, hup⟩ := tap_struck HKe.out.2.2 HFe.out G3.out.size htm
    have hbm := HFl.out b (by simp [hb12]); have hbl : b < w3.heap.size := Nat.lt_trans hbm nm
    have hdm : ∀ y ∈ f, y < w2.heap.size := fun y hy => HFl.out y (by simp [hsub12 y hy])
    have hxl : X.recs.length ≤ 1048576 := by have := (up_tapes hf0).2 X (List.mem_of_getElem? hX); omega
    go_wp2_with fail
    refine (strk_ok w.heap.size w2.heap.size b off t m12 d12 kd sq f X.recs w3 HM.out hsto HNU.out.1 htm hv1 (HFe.out.2 b (by simp [hb12])).2 hsl hfr hbf (by omega) (fun h => Nat.lt_irrefl _ (hdm _ h))).mono ?_
    rintro e w7 ⟨rfl, v, wz, hA, rfl⟩
    obtain ⟨fp2, hS, hFW, hp, hcT⟩ := hup _ _ wz hA
    have hcm : Chg [w2.heap.size] (wz.setCell ⟨b, off + t * 2 + 1, none⟩ v) ((wz.setCell ⟨b, off + t * 2 + 1, none⟩ v).setCell ⟨w2.heap.size, 12, none⟩ (.int .i64 (x.writes + 1))) := (Chg.refl _ _).setCell _ _ (.inl (by simp))
    have hmW : ((wz.setCell ⟨b, off + t * 2 + 1, none⟩ v).setCell ⟨w2.heap.size, 12, none⟩ (.int .i64 (x.writes + 1))).heap[w2.heap.size]? = some (.cells #[.int .i64 x.shape.groups, .int .i64 x.shape.column, .int .i64 x.shape.data, .int .i64 x.shape.spare, .int .i64 x.shape.rows, .int .i64 x.shape.cap, .int .i64 x.shape.batch, .int .i64 x.shape.queue, .int .i64 x.shape.stage, .slice p10 m10 d10, .slice p11 m11 d11, .slice (some ⟨b, off, none⟩) m12 d12, .int .i64 (x.writes + 1), .int .i64 x.stop, .bool x.down] 34 (0, 0)) := heap_set_lit (cur := #[.int .i64 x.shape.groups, .int .i64 x.shape.column, .int .i64 x.shape.data, .int .i64 x.shape.spare, .int .i64 x.shape.rows, .int .i64 x.shape.cap, .int .i64 x.shape.batch, .int .i64 x.shape.queue, .int .i64 x.shape.stage, .slice p10 m10 d10, .slice p11 m11 d11, .slice (some ⟨b, off, none⟩) m12 d12, .int .i64 x.writes, .int .i64 x.stop, .bool x.down]) (hcT.keepb HM.out (fun h => by rcases List.mem_cons.1 h with h | h; omega; exact Nat.lt_irrefl _ (hdm _ h))) rfl
    have hfm : ∀ y ∈ g10 ++ (g11 ++ (fp2 ++ [])), y ∉ [w2.heap.size] := fun y hy hm => by
     rw [List.mem_singleton] at hm
     rcases List.mem_append.1 hy with h | h
     ·have := HFl.out y (List.mem_append.2 (.inl h)); omega
     ·rcases List.mem_append.1 h with h | h
      ·have := HFl.out y (List.mem_append.2 (.inr (List.mem_append.2 (.inl h)))); omega
      ·rcases hp y (by simpa using h) with h | h
       ·have := HFl.out y (by simp [h]); omega
       ·omega
    have hcW : Chg (w2.heap.size :: b :: f) w3 ((wz.setCell ⟨b, off + t * 2 + 1, none⟩ v).setCell ⟨w2.heap.size, 12, none⟩ (.int .i64 (x.writes + 1))) := (hcT.mono (T := w2.heap.size :: b :: f) (fun y hy => .inl (List.mem_cons_of_mem _ hy))).trans hcm (fun y hy => .inl (by rw [List.mem_singleton] at hy; simp [hy]))
    have nd := List.nodup_append.1 HFe.out.1; have nd2 := List.nodup_append.1 nd.2.1
    have hRW : ((wz.setCell ⟨b, off + t * 2 + 1, none⟩ v).setCell ⟨w2.heap.size, 12, none⟩ (.int .i64 (x.writes + 1))).heap[w.heap.size + 1]? = some (.cells #[.int .i64 0, .int .i64 0, .int .i64 0, .int .i64 0, .int .i64 0, .int .i64 0, .int .i64 0, .int .i64 0, .int .i64 0, .int .i64 0, .slice none 0 0, .slice none 0 0, .slice none 0 0, .int .i64 0, .int .i64 0, .bool false] 36 (0, 0)) := hcW.keepb A1_3.out (fun h => by rcases List.mem_cons.1 h with h | h; omega; rcases List.mem_cons.1 h with h | h; have := HFn.out b (by simp [hb12]); omega; have := HFn.out _ (by simp [hsub12 _ h] : w.heap.size + 1 ∈ g10 ++ (g11 ++ (g12 ++ []))); omega)
    have hRn : w.heap.size + 1 ∉ g10 ++ (g11 ++ (fp2 ++ [])) := fun hy => by
     rcases List.mem_append.1 hy with h | h
     ·have := HFn.out _ (List.mem_append.2 (.inl h) : w.heap.size + 1 ∈ g10 ++ (g11 ++ (g12 ++ []))); omega
     ·rcases List.mem_append.1 h with h | h
      ·have := HFn.out _ (List.mem_append.2 (.inr (List.mem_append.2 (.inl h))) : w.heap.size + 1 ∈ g10 ++ (g11 ++ (g12 ++ []))); omega
      ·rcases hp _ (by simpa using h) with h | h
       ·have := HFn.out _ (by simp [h] : w.heap.size + 1 ∈ g10 ++ (g11 ++ (g12 ++ []))); omega
       ·have h3 := n1; omega
    obtain ⟨o1, o2, o3, o4, o5, o6, o7, o8, o9, o13, o14⟩ := HO.out
    have ow : i64ok (x.writes + 1) := by have := HNU.out.1; constructor <;> omega
    have HE := hid (And.intro (show wldL.rep ((wz.setCell ⟨b, off + t * 2 + 1, none⟩ v).setCell ⟨w2.heap.size, 12, none⟩ (.int .i64 (x.writes + 1))) [.int .i64 x.shape.groups, .int .i64 x.shape.column, .int .i64 x.shape.data, .int .i64 x.shape.spare, .int .i64 x.shape.rows, .int .i64 x.shape.cap, .int .i64 x.shape.batch, .int .i64 x.shape.queue, .int .i64 x.shape.stage, .slice p10 m10 d10, .slice p11 m11 d11, .slice (some ⟨b, off, none⟩) m12 d12, .int .i64 (x.writes + 1), .int .i64 x.stop, .bool x.down] _ _ from (wldL_iff.2 ⟨p10, m10, d10, g10, p11, m11, d11, g11, (some ⟨b, off, none⟩), m12, d12, fp2, rfl, o1, o2, o3, o4, o5, o6, o7, o8, o9, drvL.slice.sl_chg (drvL.slice.sl_chg HKe.out.1 hcT (fun y hy h => by have h2 := nd.2.2 y hy; rcases List.mem_cons.1 h with h | h; exact h2 b (by simp [hb12]) h; exact h2 y (by simp [hsub12 y h]) rfl)) hcm (fun y hy => hfm y (by simp [hy])), intL.sl_chg (intL.sl_chg HKe.out.2.1 hcT (fun y hy h => by have h2 := nd2.2.2 y hy; rcases List.mem_cons.1 h with h | h; exact h2 b (by simp [hb12]) h; exact h2 y (by simp [hsub12 y h]) rfl)) hcm (fun y hy => hfm y (by simp [hy])), tapL.sl_chg hS hcm (fun y hy => hfm y (by simp [hy])), ow, o14, rfl⟩ : wldL.rep _ _ ({ x with tapes := x.tapes.set t ⟨X.wiped, X.recs.filter (fun r : Rec => !pb (r.kind = kd ∧ r.seq = sq))⟩, writes := x.writes + 1 }) _)) (And.intro (show Fresh w.heap.size ((wz.setCell ⟨b, off + t * 2 + 1, none⟩ v).setCell ⟨w2.heap.size, 12, none⟩ (.int .i64 (x.writes + 1))) (g10 ++ (g11 ++ (fp2 ++ []))) from hFW.chg hcm) (And.intro (show Chg [] w ((wz.setCell ⟨b, off + t * 2 + 1, none⟩ v).setCell ⟨w2.heap.size, 12, none⟩ (.int .i64 (x.writes + 1))) from G3.out.trans hcW (fun y hy => .inr (by have h0 := G1.out.size; rcases List.mem_cons.1 hy with h | h; omega; rcases List.mem_cons.1 h with h | h; have := HFn.out b (by simp [hb12]); omega; have := HFn.out y (by simp [hsub12 y h]); omega))) (show w.heap.size + 1 ∉ g10 ++ (g11 ++ (fp2 ++ [])) from hRn))))
    have HRR := hid hRW; have HMR := hid (show ((wz.setCell ⟨b, off + t * 2 + 1, none⟩ v).setCell ⟨w2.heap.size, 12, none⟩ (.int .i64 (x.writes + 1))).heap[w2.heap.size]? = some (.cells #[.int .i64 x.shape.groups, .int .i64 x.shape.column, .int .i64 x.shape.data, .int .i64 x.shape.spare, .int .i64 x.shape.rows, .int .i64 x.shape.cap, .int .i64 x.shape.batch, .int .i64 x.shape.queue, .int .i64 x.shape.stage, .slice p10 m10 d10, .slice p11 m11 d11, .slice (some ⟨b, off, none⟩) m12 d12, .int .i64 (x.writes + 1), .int .i64 x.stop, .bool x.down] 34 (0, 0)) from hmW)
    have HX := hid hX
    clear o1 o2 o3 o4 o5 o6 o7 o8 o9 o13 o14 hcW hcT hcm hS hFW hp hfm hRW hRn hmW nd nd2 ow hup hsl hfr hsub12 hbf hdm hv1 hA hX cm nm fm
    go_wp2_with (refine load_wide rfl _ 34 rfl rfl infoWd Tryz.underlying34 HMR.out rfl ?_)
    refine (wrote_true _ _ _ _ _ _ _ _ _ _ _ _ _ _ _ _ _ _ _ _ _ _).mono ?_
    rintro e w8 ⟨rfl, hc8⟩
    have HE8 := hid (And.intro (wldL.ext HE.out.1 hc8) (And.intro (HE.out.2.1.chg hc8) (And.intro (HE.out.2.2.1.trans0 hc8) HE.out.2.2.2))); have HR8 := hid (hc8.keep0 HRR.out); clear hc8
    go_wp2_with (first | (refine store_wide rfl _ _ 36 rfl rfl rfl infoWR HR8.out rfl rfl rfl ?_; intro w9 hb9 hc9; have HB9 := hid hb9; have HC9 := hid hc9; clear hb9 hc9))
    refine bodyPost_ret (v := .agg #[.int .i64 0, .int .i64 x.shape.groups, .int .i64 x.shape.column, .int .i64 x.shape.data, .int .i64 x.shape.spare, .int .i64 x.shape.rows, .int .i64 x.shape.cap, .int .i64 x.shape.batch, .int .i64 x.shape.queue, .int .i64 x.shape.stage, .slice p10 m10 d10, .slice p11 m11 d11, .slice (some ⟨b, off, none⟩) m12 d12, .int .i64 (x.writes + 1), .int .i64 x.stop, .bool x.down]) (results_wide _ _ Tryz.results18 rfl infoWR Tryz.underlying36 HB9.out rfl) rfl (fin9 0 ⟨by omega, by omega⟩ (strikeR x t kd sq) (strikeR_ok hf0 hin HX.out HST.out) HE8.out.1 rfl HE8.out.2.1 HE8.out.2.2.1 HC9.out HE8.out.2.2.2 (by omega))
  ·have HI := hid (show inB s 0 1 = false by unfold inB; simp; omega)
   go_wp2_with (first | (refine load_wide rfl _ 34 rfl rfl infoWd Tryz.underlying34 A0_1.out rfl ?_))
   refine (isTapeK_any s _).mono ?_
   rintro e w' ⟨rfl, rfl⟩
   rw [HI.out]
   go_wp2_with (first | (refine store_wide rfl _ _ 36 rfl rfl rfl infoWR A1_1.out rfl rfl rfl ?_; intro w9 hb9 hc9; have HB9 := hid hb9; have HC9 := hid hc9; clear hb9 hc9))
   refine bodyPost_ret (v := .agg #[.int .i64 (3), .int .i64 0, .int .i64 0, .int .i64 0, .int .i64 0, .int .i64 0, .int .i64 0, .int .i64 0, .int .i64 0, .int .i64 0, .slice none 0 0, .slice none 0 0, .slice none 0 0, .int .i64 0, .int .i64 0, .bool false]) (results_wide _ _ Tryz.results18 rfl infoWR Tryz.underlying36 HB9.out rfl) rfl (bad9 (3) (⟨by omega, by omega⟩) (strikeR x s kd sq) (strikeR_out hf0 hin) G1.out HC9.out (by omega))
 ·have hb : ((q : Int) != 0) = true := by simpa using hq0
  go_wp2_with (first | (refine store_wide rfl _ _ 36 rfl rfl rfl infoWR A1_1.out rfl rfl rfl ?_; intro w9 hb9 hc9; have HB9 := hid hb9; have HC9 := hid hc9; clear hb9 hc9))
  refine bodyPost_ret (v := .agg #[.int .i64 (q), .int .i64 0, .int .i64 0, .int .i64 0, .int .i64 0, .int .i64 0, .int .i64 0, .int .i64 0, .int .i64 0, .int .i64 0, .slice none 0 0, .slice none 0 0, .slice none 0 0, .int .i64 0, .int .i64 0, .bool false]) (results_wide _ _ Tryz.results18 rfl infoWR Tryz.underlying36 HB9.out rfl) rfl (bad9 (q) (hqk) (strikeR x s kd sq) (by rw [strikeR_bad (by rw [← HQ.out]; exact hq0), ← HQ.out]) G1.out HC9.out (by omega))
set_option maxRecDepth 100000 in
set_option maxHeartbeats 8000000 in
theorem spec_StrikeRecs (x : Wld) (cx : Array Value) (fx : List Nat) (s : Int) (kd : Int) (sq : Int) (w : World) (hx : wldL.rep w cx.toList x fx) (hz : totWld x ≤ 1048576) (_os : i64ok s) (_ok : i64ok kd) (_oq : i64ok sq) :
  Calls Tryz.prog 16 #[.agg cx, .int .i64 s, .int .i64 kd, .int .i64 sq] w (NewAgg wrsL (strikeR x s kd sq) w) := by
 obtain ⟨a10, l10, c10, _, a11, l11, c11, f11, a12, l12, c12, _, ex, -, -, -, -, -, -, -, -, -, h10, h11, h12, oo13, oo14, -⟩ := wldL_iff.1 hx
 obtain rfl := Array.toList_inj.1 (ex.trans (List.toList_toArray).symm)
 have HW := hid hx; have HZ := hid hz; have H10 := hid h10; have H11 := hid h11; have H12 := hid h12; have HOO := hid (And.intro oo13 oo14)
 have hl11 : l11 ≤ 1048576 := by have h := h11.1; have q10 := totL_nonneg (totL_nonneg totDrv_nonneg) x.groups; have q12 := totL_nonneg totTap_nonneg x.tapes; unfold totWld totIs at hz; omega
 clear hx ex hz h10 h11 h12 oo13 oo14
 have G0 := hid (show Chg [] w ((w.alloc (.cells #[.int .i64 x.shape.groups, .int .i64 x.shape.column, .int .i64 x.shape.data, .int .i64 x.shape.spare, .int .i64 x.shape.rows, .int .i64 x.shape.cap, .int .i64 x.shape.batch, .int .i64 x.shape.queue, .int .i64 x.shape.stage, .slice a10 l10 c10, .slice a11 l11 c11, .slice a12 l12 c12, .int .i64 x.writes, .int .i64 x.stop, .bool x.down] 34)).alloc (.cells #[.int .i64 0, .int .i64 0, .int .i64 0, .int .i64 0, .int .i64 0, .int .i64 0, .int .i64 0, .int .i64 0, .int .i64 0, .int .i64 0, .slice none 0 0, .slice none 0 0, .slice none 0 0, .int .i64 0, .int .i64 0, .bool false] 36)) from (Chg.alloc (Chg.alloc (Chg.refl [] w) _) _))
 have B0 := hid (show ((w.alloc (.cells #[.int .i64 x.shape.groups, .int .i64 x.shape.column, .int .i64 x.shape.data, .int .i64 x.shape.spare, .int .i64 x.shape.rows, .int .i64 x.shape.cap, .int .i64 x.shape.batch, .int .i64 x.shape.queue, .int .i64 x.shape.stage, .slice a10 l10 c10, .slice a11 l11 c11, .slice a12 l12 c12, .int .i64 x.writes, .int .i64 x.stop, .bool x.down] 34)).alloc (.cells #[.int .i64 0, .int .i64 0, .int .i64 0, .int .i64 0, .int .i64 0, .int .i64 0, .int .i64 0, .int .i64 0, .int .i64 0, .int .i64 0, .slice none 0 0, .slice none 0 0, .slice none 0 0, .int .i64 0, .int .i64 0, .bool false] 36)).heap[w.heap.size]? = some (.cells #[.int .i64 x.shape.groups, .int .i64 x.shape.column, .int .i64 x.shape.data, .int .i64 x.shape.spare, .int .i64 x.shape.rows, .int .i64 x.shape.cap, .int .i64 x.shape.batch, .int .i64 x.shape.queue, .int .i64 x.shape.stage, .slice a10 l10 c10, .slice a11 l11 c11, .slice a12 l12 c12, .int .i64 x.writes, .int .i64 x.stop, .bool x.down] 34 (0, 0)) from keep_alloc (new_alloc w _) _)
 have B1 := hid (show ((w.alloc (.cells #[.int .i64 x.shape.groups, .int .i64 x.shape.column, .int .i64 x.shape.data, .int .i64 x.shape.spare, .int .i64 x.shape.rows, .int .i64 x.shape.cap, .int .i64 x.shape.batch, .int .i64 x.shape.queue, .int .i64 x.shape.stage, .slice a10 l10 c10, .slice a11 l11 c11, .slice a12 l12 c12, .int .i64 x.writes, .int .i64 x.stop, .bool x.down] 34)).alloc (.cells #[.int .i64 0, .int .i64 0, .int .i64 0, .int .i64 0, .int .i64 0, .int .i64 0, .int .i64 0, .int .i64 0, .int .i64 0, .int .i64 0, .slice none 0 0, .slice none 0 0, .slice none 0 0, .int .i64 0, .int .i64 0, .bool false] 36)).heap[w.heap.size + 1]? = some (.cells #[.int .i64 0, .int .i64 0, .int .i64 0, .int .i64 0, .int .i64 0, .int .i64 0, .int .i64 0, .int .i64 0, .int .i64 0, .int .i64 0, .slice none 0 0, .slice none 0 0, .slice none 0 0, .int .i64 0, .int .i64 0, .bool false] 36 (0, 0)) from new_at (by simp) _)
 go_enter Tryz.func16, Tryz.ntmps16
 obtain ⟨q, hq⟩ : ∃ q, q = x.up := ⟨_, rfl⟩
 have HQ := hid hq; clear hq
 go_wp2_with (first | (refine load_wide rfl _ 34 rfl rfl infoWd Tryz.underlying34 B0.out rfl ?_))
 refine (l5Asked_any x #[.int .i64 x.shape.groups, .int .i64 x.shape.column, .int .i64 x.shape.data, .int .i64 x.shape.spare, .int .i64 x.shape.rows, .int .i64 x.shape.cap, .int .i64 x.shape.batch, .int .i64 x.shape.queue, .int .i64 x.shape.stage, .slice a10 l10 c10, .slice a11 l11 c11, .slice a12 l12 c12, .int .i64 x.writes, .int .i64 x.stop, .bool x.down] fx _ (wldL.ext HW.out G0.out)).mono ?_
 rintro e w1 ⟨rfl, hc⟩
 rw [← HQ.out]
 obtain ⟨c0, n0, A0_1⟩ := bk0 hc B0.out
 obtain ⟨c1, n1, A1_1⟩ := bk0 hc B1.out
 have G1 := hid (G0.out.trans0 hc)
 have fz := freeOf A1_1.out
 clear hc
 have hqk : i64ok q := by rw [HQ.out]; exact up_i64 x
 by_cases hq0 : q = 0
 ·subst hq0
  have hf0 : x.up = 0 := HQ.out.symm
  obtain ⟨-, hdn0, hbt0, hnu0, hok⟩ := up_parts hf0
  have hdn := hid hdn0; have HNU := hid hnu0; clear hdn0 hbt0 hnu0 hok
  by_cases hin : 0 ≤ s ∧ s ≤ 1
  ·have HI := hid (show inB s 0 1 = true by simp [inB, hin.1, hin.2])
   go_wp2_with (first | (refine load_wide rfl _ 34 rfl rfl infoWd Tryz.underlying34 A0_1.out rfl ?_))
   refine (l1In_any s 0 1 _).mono ?_
   rintro e w' ⟨rfl, rfl⟩
   rw [HI.out]
   go_wp2_with (first | (refine load_wide rfl _ 34 rfl rfl infoWd Tryz.underlying34 A0_1.out rfl ?_))
   refine (l5Copy_any x #[.int .i64 x.shape.groups, .int .i64 x.shape.column, .int .i64 x.shape.data, .int .i64 x.shape.spare, .int .i64 x.shape.rows, .int .i64 x.shape.cap, .int .i64 x.shape.batch, .int .i64 x.shape.queue, .int .i64 x.shape.stage, .slice a10 l10 c10, .slice a11 l11 c11, .slice a12 l12 c12, .int .i64 x.writes, .int .i64 x.stop, .bool x.down] fx _ (wldL.ext HW.out G1.out) HZ.out).mono ?_
   rintro e w2 ⟨cs2, f2, rfl, hs, hf, hc⟩
   obtain ⟨p10, m10, d10, g10, p11, m11, d11, g11, p12, m12, d12, g12, ex, o1, o2, o3, o4, o5, o6, o7, o8, o9, K10, K11, K12, o13, o14, rfl⟩ := wldL_iff.1 hs
   obtain rfl := Array.toList_inj.1 (ex.trans (List.toList_toArray).symm)
   have HO := hid (And.intro o1 (And.intro o2 (And.intro o3 (And.intro o4 (And.intro o5 (And.intro o6 (And.intro o7 (And.intro o8 (And.intro o9 (And.intro o13 o14))))))))))
   have HK := hid (And.intro K10 (And.intro K11 K12)); have HF := hid hf; have HFn := hid (fun b hb => (hf.2 b hb).1); have nR0 := n1
   clear hs ex K10 K11 K12 o1 o2 o3 o4 o5 o6 o7 o8 o9 o13 o14 hf
   clear c0 n0
   obtain ⟨c0, n0, A0_2⟩ := bk0 hc A0_1.out
   clear c1 n1
   obtain ⟨c1, n1, A1_2⟩ := bk0 hc A1_1.out
   have G2 := hid (G1.out.trans0 hc)
   clear fz; have fz := freeOf A1_2.out
   clear hc
   go_upto_region 7 with (refine store_wide rfl _ _ 34 rfl rfl rfl infoWd (new_alloc _ _) rfl rfl rfl ?_; intro w3 hm hc0)
   have hc : Chg [] w2 w3 := ((Chg.refl [] w2).alloc _).trans hc0 (fun y hy => .inr (by rw [List.mem_singleton] at hy; omega)); clear hc0
   have HM := hid hm; have cm := cellsOf hm; have nm := ltOf hm; have fm := freeOf hm; have nR : w.heap.size + 1 < w2.heap.size := n1; clear hm
   have hF := HF.out.lts; have HKe := hid (And.intro (drvL.slice.sl_ext HK.out.1 hc) (And.intro (intL.sl_ext HK.out.2.1 hc) (tapL.sl_ext HK.out.2.2 hc))); have HFe := hid ((HF.out.mono (C := w.heap.size) G1.out.size).chg hc)
   have HFl := hid hF; clear hF
   clear c0 n0
   obtain ⟨c0, n0, A0_3⟩ := bk0 hc A0_2.out
   clear c1 n1
   obtain ⟨c1, n1, A1_3⟩ := bk0 hc A1_2.out
   have G3 := hid (G2.out.trans0 hc)
   clear fz; have fz := freeOf A1_3.out
   clear hc
   obtain ⟨t, rfl⟩ : ∃ t : Nat, s = t := ⟨s.toNat, by omega⟩
   by_cases hst : x.stop ≠ -1 ∧ x.stop ≤ x.writes
   ·have HST := hid hst; clear hst
    go_wp2_with fail
    have HM2 := hid (show w3.heap[w2.heap.size]? = some (.cells #[.int .i64 x.shape.groups, .int .i64 x.shape.column, .int .i64 x.shape.data, .int .i64 x.shape.spare, .int .i64 x.shape.rows, .int .i64 x.shape.cap, .int .i64 x.shape.batch, .int .i64 x.shape.queue, .int .i64 x.shape.stage, .slice p10 m10 d10, .slice p11 m11 d11, .slice p12 m12 d12, .int .i64 x.writes, .int .i64 x.stop, .bool false] 34 (0, 0)) from by have h := HM.out; rw [hdn.out] at h; exact h)
    refine (l5Raw_fail w2.heap.size w3 HM2.out HST.out).mono ?_
    rintro e w7 ⟨rfl, hm, hc⟩
    have hR := hid (hc.keepb A1_3.out (by simp; omega))
    have hnm : ∀ y ∈ g10 ++ (g11 ++ (g12 ++ [])), y ∉ [w2.heap.size] := fun y hy hm => by have := HFl.out y hy; rw [List.mem_singleton] at hm; omega
    obtain ⟨o1, o2, o3, o4, o5, o6, o7, o8, o9, o13, o14⟩ := HO.out
    have hsub : (g10 ++ ([] ++ (g12 ++ []))).Sublist (g10 ++ (g11 ++ (g12 ++ []))) := (List.Sublist.refl g10).append ((List.nil_sublist g11).append (List.Sublist.refl _))
    have HE := hid (And.intro (show wldL.rep w7 [.int .i64 x.shape.groups, .int .i64 x.shape.column, .int .i64 x.shape.data, .int .i64 x.shape.spare, .int .i64 x.shape.rows, .int .i64 x.shape.cap, .int .i64 x.shape.batch, .int .i64 x.shape.queue, .int .i64 x.shape.stage, .slice p10 m10 d10, .slice none 0 0, .slice p12 m12 d12, .int .i64 x.writes, .int .i64 x.stop, .bool true] _ _ from (wldL_iff.2 ⟨p10, m10, d10, g10, none, 0, 0, [], p12, m12, d12, g12, rfl, o1, o2, o3, o4, o5, o6, o7, o8, o9, drvL.slice.sl_chg HKe.out.1 hc (fun y hy => hnm y (by simp [hy])), nil_sl0 _ _, tapL.sl_chg HKe.out.2.2 hc (fun y hy => hnm y (by simp [hy])), o13, o14, rfl⟩ : wldL.rep _ _ x.cut _)) (And.intro (show Fresh w.heap.size w7 (g10 ++ ([] ++ (g12 ++ []))) from (HFe.out.chg hc).sub hsub) (And.intro (show Chg [] w w7 from G3.out.trans hc (fun y hy => .inr (by rw [List.mem_singleton] at hy; omega))) (show w.heap.size + 1 ∉ g10 ++ ([] ++ (g12 ++ [])) from fun hy => by have := HFn.out _ (hsub.subset hy); omega))))
    have HRR := hid hR.out; have HMR := hid (show w7.heap[w2.heap.size]? = some (.cells #[.int .i64 x.shape.groups, .int .i64 x.shape.column, .int .i64 x.shape.data, .int .i64 x.shape.spare, .int .i64 x.shape.rows, .int .i64 x.shape.cap, .int .i64 x.shape.batch, .int .i64 x.shape.queue, .int .i64 x.shape.stage, .slice p10 m10 d10, .slice none 0 0, .slice p12 m12 d12, .int .i64 x.writes, .int .i64 x.stop, .bool true] 34 (0, 0)) from hm)
    clear o1 o2 o3 o4 o5 o6 o7 o8 o9 o13 o14 hc hnm hsub hm cm nm fm
    go_wp2_with (first | (refine load_wide rfl _ 34 rfl rfl infoWd Tryz.underlying34 HMR.out rfl ?_) | (refine store_wide rfl _ _ 36 rfl rfl rfl infoWR HRR.out rfl rfl rfl ?_; intro w9 hb9 hc9; have HB9 := hid hb9; have HC9 := hid hc9; clear hb9 hc9))
    refine bodyPost_ret (v := .agg #[.int .i64 (9), .int .i64 x.shape.groups, .int .i64 x.shape.column, .int .i64 x.shape.data, .int .i64 x.shape.spare, .int .i64 x.shape.rows, .int .i64 x.shape.cap, .int .i64 x.shape.batch, .int .i64 x.shape.queue, .int .i64 x.shape.stage, .slice p10 m10 d10, .slice none 0 0, .slice p12 m12 d12, .int .i64 x.writes, .int .i64 x.stop, .bool true]) (results_wide _ _ Tryz.results16 rfl infoWR Tryz.underlying36 HB9.out rfl) rfl (fin9 (9) (⟨by omega, by omega⟩) (strikeR x t kd sq) (strikeR_fail hf0 hin HST.out) HE.out.1 rfl HE.out.2.1 HE.out.2.2.1 HC9.out HE.out.2.2.2 (by omega))
   ·have HST := hid hst; clear hst
    have htm : t < m12 := by have h1 := HKe.out.2.2.1; have h2 := (up_tapes hf0).1; omega
    obtain ⟨-, b, off, -, -, -, -, -, rfl, -, -, -⟩ := tape_at HKe.out.2.2 htm
    have hsto : x.stop = -1 ∨ x.stop ≠ -1 ∧ x.writes < x.stop := by have := HST.out; omega
    have HM2 := hid (show w3.heap[w2.heap.size]? = some (.cells #[.int .i64 x.shape.groups, .int .i64 x.shape.column, .int .i64 x.shape.data, .int .i64 x.shape.spare, .int .i64 x.shape.rows, .int .i64 x.shape.cap, .int .i64 x.shape.batch, .int .i64 x.shape.queue, .int .i64 x.shape.stage, .slice p10 m10 d10, .slice p11 m11 d11, .slice (some ⟨b, off, none⟩) m12 d12, .int .i64 x.writes, .int .i64 x.stop, .bool false] 34 (0, 0)) from by have h := HM.out; rw [hdn.out] at h; exact h)
    have HRAW := hid (show Calls Tryz.prog 72 #[.pointer (some ⟨w2.heap.size, 0, none⟩)] w3 fun e w' => e = .returned (.bool true) ∧ w' = w3.drew.setCell ⟨w2.heap.size, 12, none⟩ (.int .i64 (x.writes + 1)) from by rcases hsto with h | h; exact l5Raw_ok1 w2.heap.size w3 HM2.out h HNU.out.1; exact l5Raw_ok2 w2.heap.size w3 HM2.out h HNU.out.1)
    go_wp2_with fail
    refine HRAW.out.mono ?_
    rintro e w6 ⟨rfl, hw6⟩
    have hm6 : w6.heap[w2.heap.size]? = some (.cells #[.int .i64 x.shape.groups, .int .i64 x.shape.column, .int .i64 x.shape.data, .int .i64 x.shape.spare, .int .i64 x.shape.rows, .int .i64 x.shape.cap, .int .i64 x.shape.batch, .int .i64 x.shape.queue, .int .i64 x.shape.stage, .slice p10 m10 d10, .slice p11 m11 d11, .slice (some ⟨b, off, none⟩) m12 d12, .int .i64 (x.writes + 1), .int .i64 x.stop, .bool x.down] 34 (0, 0)) := by rw [hw6]; exact heap_set_lit (cur := #[.int .i64 x.shape.groups, .int .i64 x.shape.column, .int .i64 x.shape.data, .int .i64 x.shape.spare, .int .i64 x.shape.rows, .int .i64 x.shape.cap, .int .i64 x.shape.batch, .int .i64 x.shape.queue, .int .i64 x.shape.stage, .slice p10 m10 d10, .slice p11 m11 d11, .slice (some ⟨b, off, none⟩) m12 d12, .int .i64 x.writes, .int .i64 x.stop, .bool x.down]) (keep_drew HM.out) rfl
    have hc6 : Chg [w2.heap.size] w3 w6 := by rw [hw6]; exact ((Chg.refl _ _).drew).setCell _ _ (.inl (by simp))
    have hnm0 : ∀ y ∈ g10 ++ (g11 ++ (g12 ++ [])), y ∉ [w2.heap.size] := fun y hy hm => by have := HFl.out y hy; rw [List.mem_singleton] at hm; omega
    have HKe6 := hid (And.intro (drvL.slice.sl_chg HKe.out.1 hc6 (fun y hy => hnm0 y (by simp [hy]))) (And.intro (intL.sl_chg HKe.out.2.1 hc6 (fun y hy => hnm0 y (by simp [hy]))) (tapL.sl_chg HKe.out.2.2 hc6 (fun y hy => hnm0 y (by simp [hy])))))
    have HF6 := hid (HFe.out.chg hc6); have HQ6 := hid (Nat.le_trans G3.out.size hc6.size)
    have HM6 := hid hm6; have HC6 := hid hc6; clear hw6 cm nm fm hnm0
    have nm := ltOf hm6; have cm := cellsOf hm6; have fm := freeOf hm6
    clear hm6 hc6
    obtain ⟨X, f, aq, lq, cq, hX, hb12, hv1, hsl, hfr, hsub12, hbf, hup⟩ := tap_struck HKe6.out.2.2 HF6.out HQ6.out htm
    have hbm := HFl.out b (by simp [hb12]); have hbl : b < w6.heap.size := Nat.lt_trans hbm nm
    have hdm : ∀ y ∈ f, y < w2.heap.size := fun y hy => HFl.out y (by simp [hsub12 y hy])
    have hxl : X.recs.length ≤ 1048576 := by have := (up_tapes hf0).2 X (List.mem_of_getElem? hX); omega
    have HV1 := hid hv1; have HLO := hid (HF6.out.2 b (by simp [hb12])).2; have HHM := hid (show w2.heap.size ∉ f from fun h => Nat.lt_irrefl _ (hdm _ h)); have HBF := hid hbf
    have HSTK := hid (l5Strike_any w.heap.size aq lq cq X.recs f kd sq w6.drew (recL.sl_ext hsl ((Chg.refl [] w6).drew)) (hfr.chg ((Chg.refl [] w6).drew)) HQ6.out hxl)
    clear hv1 hsl hfr hbf
    go_wp2_with fail
    obtain ⟨CC, HCI, HCO⟩ := rg_cond (fun w' => Know (w2.heap.size) #[.int .i64 x.shape.groups, .int .i64 x.shape.column, .int .i64 x.shape.data, .int .i64 x.shape.spare, .int .i64 x.shape.rows, .int .i64 x.shape.cap, .int .i64 x.shape.batch, .int .i64 x.shape.queue, .int .i64 x.shape.stage, .slice p10 m10 d10, .slice p11 m11 d11, .slice (some ⟨b, off, none⟩) m12 d12, .int .i64 (x.writes + 1), .int .i64 x.stop, .bool x.down] w' ∧ w'.cell? ⟨b, off + t * 2 + 1, none⟩ = some (.slice aq lq cq))
    refine gg_start [14] CC (by kernel_rfl) (HCI.out _ ⟨(Know.of (keep_drew HM6.out)), HV1.out⟩) (fun hcl hS => ?_)
    refine ggT 0 hcl hS ?_; clear hcl hS; intro hcl hS
    refine ggL 1 hcl hS HCO ?_; clear hcl hS; intro hcl hS
    refine ggT 2 hcl hS ?_; clear hcl hS; intro hcl hS
    refine ggT 3 hcl hS ?_; clear hcl hS; intro hcl hS
    refine ggL 4 hcl hS HCO ?_; clear hcl hS; intro hcl hS
    refine ggT 5 hcl hS ?_; clear hcl hS; intro hcl hS
    refine ggT 6 hcl hS ?_; clear hcl hS; intro hcl hS
    refine ggT 7 hcl hS ?_; clear hcl hS; intro hcl hS
    refine ggL 8 hcl hS HCO ?_; clear hcl hS; intro hcl hS
    refine ggT 9 hcl hS ?_; clear hcl hS; intro hcl hS
    refine ggT 10 hcl hS ?_; clear hcl hS; intro hcl hS
    refine ggC 11 hcl rfl (by kernel_rfl) (fun K hK => ?_)
    go_simp
    go_at_call 73
    refine HSTK.out.mono ?_; rintro e w9 ⟨v, rfl, hst, hc9⟩
    obtain ⟨a5, l5, c5, f5, rfl, -⟩ := id hst
    have F1 := hid (hc9.keep0 (keep_drew HM6.out)); have k4 := cellKeep hc9 (show w6.drew.cell? ⟨b, off + t * 2 + 1, none⟩ = some (.slice aq lq cq) from HV1.out) (show b < w6.drew.heap.size from hbl); have hbl9 : b < w9.heap.size := Nat.lt_of_lt_of_le hbl hc9.size; have hfb := (hc9.loose b (((Chg.refl [] w6).drew).loose b HLO.out)).free
    have HAP := hid (hst.since ((Chg.refl [] w6).drew)); clear hst hc9
    refine hK.out _ _ (fun _ => HCI.out _ ⟨(Know.of F1.out), k4⟩) ?_
    clear hK K hcl hS
    intro hcl hS
    try simp only [Act.put, pA, pB, pC]
    refine ggT 12 hcl hS ?_; clear hcl hS; intro hcl hS
    refine ggT 13 hcl hS ?_; clear hcl hS; intro hcl hS
    refine ggC 14 hcl rfl (by kernel_rfl) (fun K hK => ?_)
    go_simp
    refine hK.out _ _ (Till.done (m := 14) (by simp) (by rfl)) ?_
    clear hK K hcl hS
    intro hcl hS
    try simp only [Act.put, pA, pB, pC]
    refine ggEnd (by kernel_rfl) ?_ _
    obtain ⟨fp2, hS, hFW, hp, hcT⟩ := hup _ _ w9 HAP.out
    have hmW : (w9.setCell ⟨b, off + t * 2 + 1, none⟩ (.slice a5 l5 c5)).heap[w2.heap.size]? = some (.cells #[.int .i64 x.shape.groups, .int .i64 x.shape.column, .int .i64 x.shape.data, .int .i64 x.shape.spare, .int .i64 x.shape.rows, .int .i64 x.shape.cap, .int .i64 x.shape.batch, .int .i64 x.shape.queue, .int .i64 x.shape.stage, .slice p10 m10 d10, .slice p11 m11 d11, .slice (some ⟨b, off, none⟩) m12 d12, .int .i64 (x.writes + 1), .int .i64 x.stop, .bool x.down] 34 (0, 0)) := hcT.keepb HM6.out (fun h => by rcases List.mem_cons.1 h with h | h; omega; exact HHM.out h)
    have hcW : Chg (w2.heap.size :: b :: f) w3 (w9.setCell ⟨b, off + t * 2 + 1, none⟩ (.slice a5 l5 c5)) := (HC6.out.mono (T := w2.heap.size :: b :: f) (by simp)).trans hcT (fun y hy => .inl (List.mem_cons_of_mem _ hy))
    have nd := List.nodup_append.1 HFe.out.1; have nd2 := List.nodup_append.1 nd.2.1
    have hRW : (w9.setCell ⟨b, off + t * 2 + 1, none⟩ (.slice a5 l5 c5)).heap[w.heap.size + 1]? = some (.cells #[.int .i64 0, .int .i64 0, .int .i64 0, .int .i64 0, .int .i64 0, .int .i64 0, .int .i64 0, .int .i64 0, .int .i64 0, .int .i64 0, .slice none 0 0, .slice none 0 0, .slice none 0 0, .int .i64 0, .int .i64 0, .bool false] 36 (0, 0)) := hcW.keepb A1_3.out (fun h => by rcases List.mem_cons.1 h with h | h; omega; rcases List.mem_cons.1 h with h | h; have := HFn.out b (by simp [hb12]); omega; have := HFn.out _ (by simp [hsub12 _ h] : w.heap.size + 1 ∈ g10 ++ (g11 ++ (g12 ++ []))); omega)
    have hRn : w.heap.size + 1 ∉ g10 ++ (g11 ++ (fp2 ++ [])) := fun hy => by
     rcases List.mem_append.1 hy with h | h
     ·have := HFn.out _ (List.mem_append.2 (.inl h) : w.heap.size + 1 ∈ g10 ++ (g11 ++ (g12 ++ []))); omega
     ·rcases List.mem_append.1 h with h | h
      ·have := HFn.out _ (List.mem_append.2 (.inr (List.mem_append.2 (.inl h))) : w.heap.size + 1 ∈ g10 ++ (g11 ++ (g12 ++ []))); omega
      ·rcases hp _ (by simpa using h) with h | h
       ·have := HFn.out _ (by simp [h] : w.heap.size + 1 ∈ g10 ++ (g11 ++ (g12 ++ []))); omega
       ·have h3 := n1; have h4 := HC6.out.size; omega
    obtain ⟨o1, o2, o3, o4, o5, o6, o7, o8, o9, o13, o14⟩ := HO.out
    have ow : i64ok (x.writes + 1) := by have := HNU.out.1; constructor <;> omega
    have HE := hid (And.intro (show wldL.rep (w9.setCell ⟨b, off + t * 2 + 1, none⟩ (.slice a5 l5 c5)) [.int .i64 x.shape.groups, .int .i64 x.shape.column, .int .i64 x.shape.data, .int .i64 x.shape.spare, .int .i64 x.shape.rows, .int .i64 x.shape.cap, .int .i64 x.shape.batch, .int .i64 x.shape.queue, .int .i64 x.shape.stage, .slice p10 m10 d10, .slice p11 m11 d11, .slice (some ⟨b, off, none⟩) m12 d12, .int .i64 (x.writes + 1), .int .i64 x.stop, .bool x.down] _ _ from (wldL_iff.2 ⟨p10, m10, d10, g10, p11, m11, d11, g11, (some ⟨b, off, none⟩), m12, d12, fp2, rfl, o1, o2, o3, o4, o5, o6, o7, o8, o9, drvL.slice.sl_chg HKe6.out.1 hcT (fun y hy h => by have h2 := nd.2.2 y hy; rcases List.mem_cons.1 h with h | h; exact h2 b (by simp [hb12]) h; exact h2 y (by simp [hsub12 y h]) rfl), intL.sl_chg HKe6.out.2.1 hcT (fun y hy h => by have h2 := nd2.2.2 y hy; rcases List.mem_cons.1 h with h | h; exact h2 b (by simp [hb12]) h; exact h2 y (by simp [hsub12 y h]) rfl), hS, ow, o14, rfl⟩ : wldL.rep _ _ ({ x with tapes := x.tapes.set t ⟨X.wiped, X.recs.filter (fun r : Rec => !pb (r.kind = kd ∧ r.seq = sq))⟩, writes := x.writes + 1 }) _)) (And.intro (show Fresh w.heap.size (w9.setCell ⟨b, off + t * 2 + 1, none⟩ (.slice a5 l5 c5)) (g10 ++ (g11 ++ (fp2 ++ []))) from hFW) (And.intro (show Chg [] w (w9.setCell ⟨b, off + t * 2 + 1, none⟩ (.slice a5 l5 c5)) from G3.out.trans hcW (fun y hy => .inr (by have h0 := G1.out.size; rcases List.mem_cons.1 hy with h | h; omega; rcases List.mem_cons.1 h with h | h; have := HFn.out b (by simp [hb12]); omega; have := HFn.out y (by simp [hsub12 y h]); omega))) (show w.heap.size + 1 ∉ g10 ++ (g11 ++ (fp2 ++ [])) from hRn))))
    have HRR := hid hRW; have HMR := hid (show (w9.setCell ⟨b, off + t * 2 + 1, none⟩ (.slice a5 l5 c5)).heap[w2.heap.size]? = some (.cells #[.int .i64 x.shape.groups, .int .i64 x.shape.column, .int .i64 x.shape.data, .int .i64 x.shape.spare, .int .i64 x.shape.rows, .int .i64 x.shape.cap, .int .i64 x.shape.batch, .int .i64 x.shape.queue, .int .i64 x.shape.stage, .slice p10 m10 d10, .slice p11 m11 d11, .slice (some ⟨b, off, none⟩) m12 d12, .int .i64 (x.writes + 1), .int .i64 x.stop, .bool x.down] 34 (0, 0)) from hmW)
    have HX := hid hX
    clear o1 o2 o3 o4 o5 o6 o7 o8 o9 o13 o14 hcW hcT hS hFW hp hRW hRn hmW nd nd2 ow hup hsub12 hdm hX k4
    go_upto_region 10 with fail
    go_wp2_with (first | (refine load_wide rfl _ 34 rfl rfl infoWd Tryz.underlying34 HMR.out rfl ?_) | (refine store_wide rfl _ _ 36 rfl rfl rfl infoWR HRR.out rfl rfl rfl ?_; intro w9 hb9 hc9; have HB9 := hid hb9; have HC9 := hid hc9; clear hb9 hc9))
    refine bodyPost_ret (v := .agg #[.int .i64 0, .int .i64 x.shape.groups, .int .i64 x.shape.column, .int .i64 x.shape.data, .int .i64 x.shape.spare, .int .i64 x.shape.rows, .int .i64 x.shape.cap, .int .i64 x.shape.batch, .int .i64 x.shape.queue, .int .i64 x.shape.stage, .slice p10 m10 d10, .slice p11 m11 d11, .slice (some ⟨b, off, none⟩) m12 d12, .int .i64 (x.writes + 1), .int .i64 x.stop, .bool x.down]) (results_wide _ _ Tryz.results16 rfl infoWR Tryz.underlying36 HB9.out rfl) rfl (fin9 (0) (i64z) (strikeR x t kd sq) (strikeR_ok hf0 hin HX.out HST.out) HE.out.1 rfl HE.out.2.1 HE.out.2.2.1 HC9.out HE.out.2.2.2 (by omega))
  ·have HI := hid (show inB s 0 1 = false by unfold inB; simp; omega)
   go_wp2_with (first | (refine load_wide rfl _ 34 rfl rfl infoWd Tryz.underlying34 A0_1.out rfl ?_))
   refine (l1In_any s 0 1 _).mono ?_
   rintro e w' ⟨rfl, rfl⟩
   rw [HI.out]
   go_wp2_with (first | (refine store_wide rfl _ _ 36 rfl rfl rfl infoWR A1_1.out rfl rfl rfl ?_; intro w9 hb9 hc9; have HB9 := hid hb9; have HC9 := hid hc9; clear hb9 hc9))
   refine bodyPost_ret (v := .agg #[.int .i64 (3), .int .i64 0, .int .i64 0, .int .i64 0, .int .i64 0, .int .i64 0, .int .i64 0, .int .i64 0, .int .i64 0, .int .i64 0, .slice none 0 0, .slice none 0 0, .slice none 0 0, .int .i64 0, .int .i64 0, .bool false]) (results_wide _ _ Tryz.results16 rfl infoWR Tryz.underlying36 HB9.out rfl) rfl (bad9 (3) (⟨by omega, by omega⟩) (strikeR x s kd sq) (strikeR_out hf0 hin) G1.out HC9.out (by omega))
 ·have hb : ((q : Int) != 0) = true := by simpa using hq0
  go_wp2_with (first | (refine store_wide rfl _ _ 36 rfl rfl rfl infoWR A1_1.out rfl rfl rfl ?_; intro w9 hb9 hc9; have HB9 := hid hb9; have HC9 := hid hc9; clear hb9 hc9))
  refine bodyPost_ret (v := .agg #[.int .i64 (q), .int .i64 0, .int .i64 0, .int .i64 0, .int .i64 0, .int .i64 0, .int .i64 0, .int .i64 0, .int .i64 0, .int .i64 0, .slice none 0 0, .slice none 0 0, .slice none 0 0, .int .i64 0, .int .i64 0, .bool false]) (results_wide _ _ Tryz.results16 rfl infoWR Tryz.underlying36 HB9.out rfl) rfl (bad9 (q) (hqk) (strikeR x s kd sq) (by rw [strikeR_bad (by rw [← HQ.out]; exact hq0), ← HQ.out]) G1.out HC9.out (by omega))
end Go.Proofs.YtphmpimgbmedbaaGreat
