import Derived.Test.YtnnhopcjlnnchaaGreatMd
import Derived.Test.YtnnhopcjlnnchaaGreatMe
/- SwitchOn: both sides. -/
namespace Go.Proofs.YtnnhopcjlnnchaaGreat
open Go.RowKit

set_option maxRecDepth 100000 in
set_option maxHeartbeats 8000000 in
theorem impl_SwitchOn (x : Wld) (cx : Array Value) (fx : List Nat) (g : Int) (w : World) (hx : wldL.rep w cx.toList x fx) (hz : totWld x ≤ 1048576) (og : i64ok g) :
    Calls Tryz.prog 34 #[.agg cx, .int .i64 g] w (NewAgg wrsL (onR x g) w) := by
  obtain ⟨a10, l10, c10, _, a11, l11, c11, f11, a12, l12, c12, _, ex, -, -, -, -, -, -, -, -, -, h10, h11, h12, oo13, oo14, -⟩ := wldL_iff.1 hx
  obtain rfl := Array.toList_inj.1 (ex.trans (List.toList_toArray).symm)
  have HW := Lib.hid hx; have HZ := Lib.hid hz; have H10 := Lib.hid h10; have H11 := Lib.hid h11; have H12 := Lib.hid h12; have HOO := Lib.hid (And.intro oo13 oo14)
  have hl11 : l11 ≤ 1048576 := by have h := h11.1; have q10 := totL_nonneg (totL_nonneg totDrv_nonneg) x.groups; have q12 := totL_nonneg totTap_nonneg x.tapes; unfold totWld totIs at hz; omega
  clear hx ex hz h10 h11 h12 oo13 oo14
  obtain ⟨KI, _⟩ := kindI
  have G0 := Lib.hid (show Chg [] w ((w.alloc (.cells #[.int .i64 x.shape.groups, .int .i64 x.shape.column, .int .i64 x.shape.data, .int .i64 x.shape.spare, .int .i64 x.shape.rows, .int .i64 x.shape.cap, .int .i64 x.shape.batch, .int .i64 x.shape.queue, .int .i64 x.shape.stage, .slice a10 l10 c10, .slice a11 l11 c11, .slice a12 l12 c12, .int .i64 x.writes, .int .i64 x.stop, .bool x.down] 40)).alloc (.cells #[.int .i64 0, .int .i64 0, .int .i64 0, .int .i64 0, .int .i64 0, .int .i64 0, .int .i64 0, .int .i64 0, .int .i64 0, .int .i64 0, .slice none 0 0, .slice none 0 0, .slice none 0 0, .int .i64 0, .int .i64 0, .bool false] 48)) from (Chg.alloc (Chg.alloc (Chg.refl [] w) _) _))
  have B0 := Lib.hid (show ((w.alloc (.cells #[.int .i64 x.shape.groups, .int .i64 x.shape.column, .int .i64 x.shape.data, .int .i64 x.shape.spare, .int .i64 x.shape.rows, .int .i64 x.shape.cap, .int .i64 x.shape.batch, .int .i64 x.shape.queue, .int .i64 x.shape.stage, .slice a10 l10 c10, .slice a11 l11 c11, .slice a12 l12 c12, .int .i64 x.writes, .int .i64 x.stop, .bool x.down] 40)).alloc (.cells #[.int .i64 0, .int .i64 0, .int .i64 0, .int .i64 0, .int .i64 0, .int .i64 0, .int .i64 0, .int .i64 0, .int .i64 0, .int .i64 0, .slice none 0 0, .slice none 0 0, .slice none 0 0, .int .i64 0, .int .i64 0, .bool false] 48)).heap[w.heap.size]? = some (.cells #[.int .i64 x.shape.groups, .int .i64 x.shape.column, .int .i64 x.shape.data, .int .i64 x.shape.spare, .int .i64 x.shape.rows, .int .i64 x.shape.cap, .int .i64 x.shape.batch, .int .i64 x.shape.queue, .int .i64 x.shape.stage, .slice a10 l10 c10, .slice a11 l11 c11, .slice a12 l12 c12, .int .i64 x.writes, .int .i64 x.stop, .bool x.down] 40 (0, 0)) from keep_alloc (new_alloc w _) _)
  have B1 := Lib.hid (show ((w.alloc (.cells #[.int .i64 x.shape.groups, .int .i64 x.shape.column, .int .i64 x.shape.data, .int .i64 x.shape.spare, .int .i64 x.shape.rows, .int .i64 x.shape.cap, .int .i64 x.shape.batch, .int .i64 x.shape.queue, .int .i64 x.shape.stage, .slice a10 l10 c10, .slice a11 l11 c11, .slice a12 l12 c12, .int .i64 x.writes, .int .i64 x.stop, .bool x.down] 40)).alloc (.cells #[.int .i64 0, .int .i64 0, .int .i64 0, .int .i64 0, .int .i64 0, .int .i64 0, .int .i64 0, .int .i64 0, .int .i64 0, .int .i64 0, .slice none 0 0, .slice none 0 0, .slice none 0 0, .int .i64 0, .int .i64 0, .bool false] 48)).heap[w.heap.size + 1]? = some (.cells #[.int .i64 0, .int .i64 0, .int .i64 0, .int .i64 0, .int .i64 0, .int .i64 0, .int .i64 0, .int .i64 0, .int .i64 0, .int .i64 0, .slice none 0 0, .slice none 0 0, .slice none 0 0, .int .i64 0, .int .i64 0, .bool false] 48 (0, 0)) from new_at (by simp) _)
  go_enter Tryz.func34, Tryz.ntmps34
  obtain ⟨q, hq⟩ : ∃ q, q = x.up := ⟨_, rfl⟩
  have HQ := Lib.hid hq; clear hq
  go_wp2_with (first | (refine load_wide rfl _ 40 rfl rfl infoWd Tryz.underlying40 B0.out rfl ?_))
  refine (upFault_any x #[.int .i64 x.shape.groups, .int .i64 x.shape.column, .int .i64 x.shape.data, .int .i64 x.shape.spare, .int .i64 x.shape.rows, .int .i64 x.shape.cap, .int .i64 x.shape.batch, .int .i64 x.shape.queue, .int .i64 x.shape.stage, .slice a10 l10 c10, .slice a11 l11 c11, .slice a12 l12 c12, .int .i64 x.writes, .int .i64 x.stop, .bool x.down] fx _ (wldL.ext HW.out G0.out)).mono ?_
  rintro e w1 ⟨rfl, hc⟩
  rw [← HQ.out]
  obtain ⟨c0, n0, A0_1⟩ := bk hc B0.out (by simp)
  obtain ⟨c1, n1, A1_1⟩ := bk hc B1.out (by simp)
  have G1 := Lib.hid (G0.out.trans0 hc)
  have fz := freeOf A1_1.out
  clear hc
  have hqk : i64ok q := by rw [HQ.out]; exact up_i64 x
  by_cases hq0 : q = 0
  · subst hq0
    have hf0 : x.up = 0 := HQ.out.symm
    obtain ⟨-, -, -, -, hok⟩ := up_parts hf0
    have hcap : (l11 : Int) ≤ x.shape.cap := by have h := up_cap hf0; have h2 := H11.out.1; omega
    by_cases hg : 0 ≤ g ∧ g ≤ x.shape.all - 1
    · have HI := Lib.hid (show inB g 0 (x.shape.all - 1) = true by simp [inB, hg.1, hg.2])
      go_wp2_with (first | (refine load_wide rfl _ 40 rfl rfl infoWd Tryz.underlying40 A0_1.out rfl ?_))
      refine (st_isGroup_any x.shape hok g _).mono ?_
      rintro e w2 ⟨rfl, hc⟩
      rw [HI.out]
      clear c0 n0
      obtain ⟨c0, n0, A0_2⟩ := bk hc A0_1.out (by simp)
      clear c1 n1
      obtain ⟨c1, n1, A1_2⟩ := bk hc A1_1.out (by simp)
      have G2 := Lib.hid (G1.out.trans0 hc)
      clear fz; have fz := freeOf A1_2.out
      clear hc
      by_cases hon : g ∈ x.on
      · go_wp2_with fail
        obtain ⟨SS1, HSI1, HSO1⟩ := rg_cond (fun w' => Know w.heap.size #[.int .i64 x.shape.groups, .int .i64 x.shape.column, .int .i64 x.shape.data, .int .i64 x.shape.spare, .int .i64 x.shape.rows, .int .i64 x.shape.cap, .int .i64 x.shape.batch, .int .i64 x.shape.queue, .int .i64 x.shape.stage, .slice a10 l10 c10, .slice a11 l11 c11, .slice a12 l12 c12, .int .i64 x.writes, .int .i64 x.stop, .bool x.down] w')
        have hS0 := HSI1.out _ (Know.of (keep_drew A0_2.out))
        refine rg_start SS1 (by kernel_rfl) hS0 ?_
        refine rgT 0 hS0 ?_
        refine rg_call 1 rfl (by kernel_rfl) (fun K hK => ?_)
        go_simp
        go_at_call 66
        refine (st_isOn_any w.heap.size a11 l11 c11 x.on f11 g _ (keep_drew A0_2.out) (intL.sl_ext H11.out G2.out.drew)).mono ?_; rintro e w' ⟨rfl, rfl⟩; rw [pb_true hon]
        go_wp2_with fail
        refine hK.out _ _ (HSI1.out _ (Know.of (keep_drew A0_2.out))) (fun hS1 => ?_)
        clear hK K
        try simp only [Act.put, List.setIfInBounds_toArray, List.set_cons_zero, List.set_cons_succ]
        refine rgT 2 hS1 ?_
        refine rgT 3 hS1 ?_
        refine rgS 4 hS1 ?_
        refine rgS 5 hS1 ?_
        refine rgS 6 hS1 ?_
        refine rgS 7 hS1 ?_
        refine rgS 8 hS1 ?_
        refine rgS 9 hS1 ?_
        refine rgS 10 hS1 ?_
        refine rgT 11 hS1 ?_
        refine rgT 12 hS1 ?_
        refine wpAnyH_done (by kernel_rfl) ?_ _
        generalize hw3 : w2.drew = w3
        have hc : Chg [] w2 w3 := by rw [← hw3]; exact (Chg.refl [] _).drew
        clear hw3
        clear c0 n0
        obtain ⟨c0, n0, A0_3⟩ := bk hc A0_2.out (by simp)
        clear c1 n1
        obtain ⟨c1, n1, A1_3⟩ := bk hc A1_2.out (by simp)
        have G3 := Lib.hid (G2.out.trans0 hc)
        clear fz; have fz := freeOf A1_3.out
        clear hc
        go_wp2_with (first | (refine load_wide rfl _ 40 rfl rfl infoWd Tryz.underlying40 A0_3.out rfl ?_))
        refine (cloneWorld_on x #[.int .i64 x.shape.groups, .int .i64 x.shape.column, .int .i64 x.shape.data, .int .i64 x.shape.spare, .int .i64 x.shape.rows, .int .i64 x.shape.cap, .int .i64 x.shape.batch, .int .i64 x.shape.queue, .int .i64 x.shape.stage, .slice a10 l10 c10, .slice a11 l11 c11, .slice a12 l12 c12, .int .i64 x.writes, .int .i64 x.stop, .bool x.down] fx _ (wldL.ext HW.out G3.out) HZ.out).mono ?_
        rintro e w4 ⟨p10, m10, d10, g10, p11, m11, d11, g11, p12, m12, d12, g12, hO, rfl, o11, K10, K11, K12, hf, hc, hos, hho⟩
        have HO := Lib.hid o11; have HOS0 := Lib.hid hos; have HHO := Lib.hid hho; have HQ1 := Lib.hid hc.size
        have HK := Lib.hid (And.intro K10 (And.intro K11 K12)); have HF := Lib.hid hf; have HFn := Lib.hid (fun b hb => (hf.2 b hb).1); have nR0 := n1
        clear K10 K11 K12 o11 hf hos hho
        clear c0 n0
        obtain ⟨c0, n0, A0_4⟩ := bk hc A0_3.out (by simp)
        clear c1 n1
        obtain ⟨c1, n1, A1_4⟩ := bk hc A1_3.out (by simp)
        have G4 := Lib.hid (G3.out.trans0 hc)
        clear fz; have fz := freeOf A1_4.out
        clear hc
        go_upto_region 9 with (refine store_wide rfl _ _ 40 rfl rfl rfl infoWd (new_alloc _ _) rfl rfl rfl ?_; intro w5 hm hc0)
        have hc : Chg [] w4 w5 := ((Chg.refl [] w4).alloc _).trans hc0 (fun y hy => .inr (by rw [List.mem_singleton] at hy; omega)); clear hc0
        have HM := Lib.hid hm; have cm := cellsOf hm; have nm := ltOf hm; have fm := freeOf hm; have nR : w.heap.size + 1 < w4.heap.size := n1; clear hm
        have hF := HF.out.lts; have HKe := Lib.hid (And.intro (drvL.slice.sl_ext HK.out.1 hc) (And.intro (intL.sl_ext HK.out.2.1 hc) (tapL.sl_ext HK.out.2.2 hc))); have HFG := Lib.hid (HF.out.chg hc); have HFe := Lib.hid (HFG.out.mono (C := w.heap.size) G3.out.size); have HOS := Lib.hid (intL.os_ext HOS0.out hc); have HQ2 := Lib.hid (Nat.le_trans HQ1.out hc.size)
        have HFl := Lib.hid hF; clear hF
        clear c0 n0
        obtain ⟨c0, n0, A0_5⟩ := bk hc A0_4.out (by simp)
        clear c1 n1
        obtain ⟨c1, n1, A1_5⟩ := bk hc A1_4.out (by simp)
        have G5 := Lib.hid (G4.out.trans0 hc)
        clear fz; have fz := freeOf A1_5.out
        clear hc
        go_wp2_with (first | (refine load_wide rfl _ 40 rfl rfl infoWd Tryz.underlying40 A0_5.out rfl ?_))
        refine (st_isOn_any w.heap.size a11 l11 c11 x.on f11 g _ A0_5.out (intL.sl_ext H11.out G5.out)).mono ?_
        rintro e w' ⟨rfl, rfl⟩
        rw [pb_true hon]
        have hc : Chg [w4.heap.size] w5 w5 := Chg.refl _ _
        have hR := Lib.hid (hc.keepb A1_5.out (by simp; omega))
        have hnm : ∀ y ∈ g10 ++ (g11 ++ (g12 ++ [])), y ∉ [w4.heap.size] := fun y hy hm => by have := HFl.out y hy; rw [List.mem_singleton] at hm; omega
        obtain ⟨o1, o2, o3, o4, o5, o6, o7, o8, o9, o13, o14⟩ := HO.out
        have hsub : (g10 ++ (g11 ++ (g12 ++ []))).Sublist (g10 ++ (g11 ++ (g12 ++ []))) := List.Sublist.refl _
        have HE := Lib.hid (And.intro (show wldL.rep w5 [.int .i64 x.shape.groups, .int .i64 x.shape.column, .int .i64 x.shape.data, .int .i64 x.shape.spare, .int .i64 x.shape.rows, .int .i64 x.shape.cap, .int .i64 x.shape.batch, .int .i64 x.shape.queue, .int .i64 x.shape.stage, .slice p10 m10 d10, .slice p11 m11 d11, .slice p12 m12 d12, .int .i64 x.writes, .int .i64 x.stop, .bool x.down] _ _ from (wldL_iff.2 ⟨p10, m10, d10, g10, p11, m11, d11, g11, p12, m12, d12, g12, rfl, o1, o2, o3, o4, o5, o6, o7, o8, o9, drvL.slice.sl_chg HKe.out.1 hc (fun y hy => hnm y (by simp [hy])), intL.sl_chg HKe.out.2.1 hc (fun y hy => hnm y (by simp [hy])), tapL.sl_chg HKe.out.2.2 hc (fun y hy => hnm y (by simp [hy])), o13, o14, rfl⟩ : wldL.rep _ _ (x) _)) (And.intro (show Fresh w.heap.size w5 (g10 ++ (g11 ++ (g12 ++ []))) from (HFe.out.chg hc).sub hsub) (And.intro (show Chg [] w w5 from G5.out.trans hc (fun y hy => .inr (by rw [List.mem_singleton] at hy; omega))) (show w.heap.size + 1 ∉ g10 ++ (g11 ++ (g12 ++ [])) from fun hy => by have := HFn.out _ (hsub.subset hy); omega))))
        have HRR := Lib.hid hR.out; have HMR := Lib.hid (show w5.heap[w4.heap.size]? = some (.cells #[.int .i64 x.shape.groups, .int .i64 x.shape.column, .int .i64 x.shape.data, .int .i64 x.shape.spare, .int .i64 x.shape.rows, .int .i64 x.shape.cap, .int .i64 x.shape.batch, .int .i64 x.shape.queue, .int .i64 x.shape.stage, .slice p10 m10 d10, .slice p11 m11 d11, .slice p12 m12 d12, .int .i64 x.writes, .int .i64 x.stop, .bool x.down] 40 (0, 0)) from HM.out)
        clear o1 o2 o3 o4 o5 o6 o7 o8 o9 o13 o14 hc hnm hsub
        go_wp2_with (first | (refine load_wide rfl _ 40 rfl rfl infoWd Tryz.underlying40 HMR.out rfl ?_) | (refine store_wide rfl _ _ 48 rfl rfl rfl infoWR HRR.out rfl rfl rfl ?_; intro w9 hb9 hc9; have HB9 := Lib.hid hb9; have HC9 := Lib.hid hc9; clear hb9 hc9))
        refine bodyPost_ret (v := .agg #[.int .i64 0, .int .i64 x.shape.groups, .int .i64 x.shape.column, .int .i64 x.shape.data, .int .i64 x.shape.spare, .int .i64 x.shape.rows, .int .i64 x.shape.cap, .int .i64 x.shape.batch, .int .i64 x.shape.queue, .int .i64 x.shape.stage, .slice p10 m10 d10, .slice p11 m11 d11, .slice p12 m12 d12, .int .i64 x.writes, .int .i64 x.stop, .bool x.down]) (results_wide _ _ Tryz.results34 rfl infoWR Tryz.underlying48 HB9.out rfl) rfl (fin9 (0) (i64z) (onR x g) (onR_in hf0 hg hon) HE.out.1 rfl HE.out.2.1 HE.out.2.2.1 HC9.out HE.out.2.2.2 (by omega))
      · by_cases hfull : (l11 : Int) = x.shape.cap
        · have hfb : ((l11 : Int) == x.shape.cap) = true := by simp [hfull]
          have HFU := Lib.hid hfull; clear hfull
          go_wp2_with fail
          obtain ⟨SS1, HSI1, HSO1⟩ := rg_cond (fun w' => Know w.heap.size #[.int .i64 x.shape.groups, .int .i64 x.shape.column, .int .i64 x.shape.data, .int .i64 x.shape.spare, .int .i64 x.shape.rows, .int .i64 x.shape.cap, .int .i64 x.shape.batch, .int .i64 x.shape.queue, .int .i64 x.shape.stage, .slice a10 l10 c10, .slice a11 l11 c11, .slice a12 l12 c12, .int .i64 x.writes, .int .i64 x.stop, .bool x.down] w')
          have hS0 := HSI1.out _ (Know.of (keep_drew A0_2.out))
          refine rg_start SS1 (by kernel_rfl) hS0 ?_
          refine rgT 0 hS0 ?_
          refine rg_call 1 rfl (by kernel_rfl) (fun K hK => ?_)
          go_simp
          go_at_call 66
          refine (st_isOn_any w.heap.size a11 l11 c11 x.on f11 g _ (keep_drew A0_2.out) (intL.sl_ext H11.out G2.out.drew)).mono ?_; rintro e w' ⟨rfl, rfl⟩; rw [pb_false hon]
          go_wp2_with fail
          refine hK.out _ _ (HSI1.out _ (Know.of (keep_drew A0_2.out))) (fun hS1 => ?_)
          clear hK K
          try simp only [Act.put, List.setIfInBounds_toArray, List.set_cons_zero, List.set_cons_succ]
          refine rgT 2 hS1 ?_
          refine rgT 3 hS1 ?_
          refine rgT 4 hS1 ?_
          refine rgL 5 hS1 HSO1 ?_
          refine rgT 7 hS1 ?_
          refine rgT 8 hS1 ?_
          refine rgL 9 hS1 HSO1 ?_
          refine rg_call 6 rfl (by kernel_rfl) (fun K hK => ?_)
          go_simp
          go_at_call 88
          refine (sizeI_any a11 l11 c11 _ (by omega)).mono ?_; rintro e w' ⟨rfl, rfl⟩
          go_wp2_with fail
          refine hK.out _ _ (HSI1.out _ (Know.of (keep_drew A0_2.out))) (fun hS2 => ?_)
          clear hK K
          try simp only [Act.put, List.setIfInBounds_toArray, List.set_cons_zero, List.set_cons_succ]
          refine rgT 10 hS2 ?_
          refine rgT 11 hS2 ?_
          refine rgT 12 hS2 ?_
          refine wpAnyH_done (by kernel_rfl) ?_ _
          generalize hw3 : w2.drew = w3
          have hc : Chg [] w2 w3 := by rw [← hw3]; exact (Chg.refl [] _).drew
          clear hw3
          clear c0 n0
          obtain ⟨c0, n0, A0_3⟩ := bk hc A0_2.out (by simp)
          clear c1 n1
          obtain ⟨c1, n1, A1_3⟩ := bk hc A1_2.out (by simp)
          have G3 := Lib.hid (G2.out.trans0 hc)
          clear fz; have fz := freeOf A1_3.out
          clear hc
          go_wp2_with (first | (refine store_wide rfl _ _ 48 rfl rfl rfl infoWR A1_3.out rfl rfl rfl ?_; intro w9 hb9 hc9; have HB9 := Lib.hid hb9; have HC9 := Lib.hid hc9; clear hb9 hc9))
          refine bodyPost_ret (v := .agg #[.int .i64 (7), .int .i64 0, .int .i64 0, .int .i64 0, .int .i64 0, .int .i64 0, .int .i64 0, .int .i64 0, .int .i64 0, .int .i64 0, .slice none 0 0, .slice none 0 0, .slice none 0 0, .int .i64 0, .int .i64 0, .bool false]) (results_wide _ _ Tryz.results34 rfl infoWR Tryz.underlying48 HB9.out rfl) rfl (bad9 (7) (⟨by omega, by omega⟩) (onR x g) (onR_full hf0 hg hon (by rw [← H11.out.1]; exact HFU.out)) G3.out HC9.out (by omega))
        · have hfb : ((l11 : Int) == x.shape.cap) = false := by simp [hfull]
          have HFU := Lib.hid hfull; clear hfull
          go_wp2_with fail
          obtain ⟨SS1, HSI1, HSO1⟩ := rg_cond (fun w' => Know w.heap.size #[.int .i64 x.shape.groups, .int .i64 x.shape.column, .int .i64 x.shape.data, .int .i64 x.shape.spare, .int .i64 x.shape.rows, .int .i64 x.shape.cap, .int .i64 x.shape.batch, .int .i64 x.shape.queue, .int .i64 x.shape.stage, .slice a10 l10 c10, .slice a11 l11 c11, .slice a12 l12 c12, .int .i64 x.writes, .int .i64 x.stop, .bool x.down] w')
          have hS0 := HSI1.out _ (Know.of (keep_drew A0_2.out))
          refine rg_start SS1 (by kernel_rfl) hS0 ?_
          refine rgT 0 hS0 ?_
          refine rg_call 1 rfl (by kernel_rfl) (fun K hK => ?_)
          go_simp
          go_at_call 66
          refine (st_isOn_any w.heap.size a11 l11 c11 x.on f11 g _ (keep_drew A0_2.out) (intL.sl_ext H11.out G2.out.drew)).mono ?_; rintro e w' ⟨rfl, rfl⟩; rw [pb_false hon]
          go_wp2_with fail
          refine hK.out _ _ (HSI1.out _ (Know.of (keep_drew A0_2.out))) (fun hS1 => ?_)
          clear hK K
          try simp only [Act.put, List.setIfInBounds_toArray, List.set_cons_zero, List.set_cons_succ]
          refine rgT 2 hS1 ?_
          refine rgT 3 hS1 ?_
          refine rgT 4 hS1 ?_
          refine rgL 5 hS1 HSO1 ?_
          refine rgT 7 hS1 ?_
          refine rgT 8 hS1 ?_
          refine rgL 9 hS1 HSO1 ?_
          refine rg_call 6 rfl (by kernel_rfl) (fun K hK => ?_)
          go_simp
          go_at_call 88
          refine (sizeI_any a11 l11 c11 _ (by omega)).mono ?_; rintro e w' ⟨rfl, rfl⟩
          go_wp2_with fail
          refine hK.out _ _ (HSI1.out _ (Know.of (keep_drew A0_2.out))) (fun hS2 => ?_)
          clear hK K
          try simp only [Act.put, List.setIfInBounds_toArray, List.set_cons_zero, List.set_cons_succ]
          refine rgT 10 hS2 ?_
          refine rgT 11 hS2 ?_
          refine rgT 12 hS2 ?_
          refine wpAnyH_done (by kernel_rfl) ?_ _
          generalize hw3 : w2.drew = w3
          have hc : Chg [] w2 w3 := by rw [← hw3]; exact (Chg.refl [] _).drew
          clear hw3
          clear c0 n0
          obtain ⟨c0, n0, A0_3⟩ := bk hc A0_2.out (by simp)
          clear c1 n1
          obtain ⟨c1, n1, A1_3⟩ := bk hc A1_2.out (by simp)
          have G3 := Lib.hid (G2.out.trans0 hc)
          clear fz; have fz := freeOf A1_3.out
          clear hc
          go_wp2_with (first | (refine load_wide rfl _ 40 rfl rfl infoWd Tryz.underlying40 A0_3.out rfl ?_))
          refine (cloneWorld_on x #[.int .i64 x.shape.groups, .int .i64 x.shape.column, .int .i64 x.shape.data, .int .i64 x.shape.spare, .int .i64 x.shape.rows, .int .i64 x.shape.cap, .int .i64 x.shape.batch, .int .i64 x.shape.queue, .int .i64 x.shape.stage, .slice a10 l10 c10, .slice a11 l11 c11, .slice a12 l12 c12, .int .i64 x.writes, .int .i64 x.stop, .bool x.down] fx _ (wldL.ext HW.out G3.out) HZ.out).mono ?_
          rintro e w4 ⟨p10, m10, d10, g10, p11, m11, d11, g11, p12, m12, d12, g12, hO, rfl, o11, K10, K11, K12, hf, hc, hos, hho⟩
          have HO := Lib.hid o11; have HOS0 := Lib.hid hos; have HHO := Lib.hid hho; have HQ1 := Lib.hid hc.size
          have HK := Lib.hid (And.intro K10 (And.intro K11 K12)); have HF := Lib.hid hf; have HFn := Lib.hid (fun b hb => (hf.2 b hb).1); have nR0 := n1
          clear K10 K11 K12 o11 hf hos hho
          clear c0 n0
          obtain ⟨c0, n0, A0_4⟩ := bk hc A0_3.out (by simp)
          clear c1 n1
          obtain ⟨c1, n1, A1_4⟩ := bk hc A1_3.out (by simp)
          have G4 := Lib.hid (G3.out.trans0 hc)
          clear fz; have fz := freeOf A1_4.out
          clear hc
          go_upto_region 9 with (refine store_wide rfl _ _ 40 rfl rfl rfl infoWd (new_alloc _ _) rfl rfl rfl ?_; intro w5 hm hc0)
          have hc : Chg [] w4 w5 := ((Chg.refl [] w4).alloc _).trans hc0 (fun y hy => .inr (by rw [List.mem_singleton] at hy; omega)); clear hc0
          have HM := Lib.hid hm; have cm := cellsOf hm; have nm := ltOf hm; have fm := freeOf hm; have nR : w.heap.size + 1 < w4.heap.size := n1; clear hm
          have hF := HF.out.lts; have HKe := Lib.hid (And.intro (drvL.slice.sl_ext HK.out.1 hc) (And.intro (intL.sl_ext HK.out.2.1 hc) (tapL.sl_ext HK.out.2.2 hc))); have HFG := Lib.hid (HF.out.chg hc); have HFe := Lib.hid (HFG.out.mono (C := w.heap.size) G3.out.size); have HOS := Lib.hid (intL.os_ext HOS0.out hc); have HQ2 := Lib.hid (Nat.le_trans HQ1.out hc.size)
          have HFl := Lib.hid hF; clear hF
          clear c0 n0
          obtain ⟨c0, n0, A0_5⟩ := bk hc A0_4.out (by simp)
          clear c1 n1
          obtain ⟨c1, n1, A1_5⟩ := bk hc A1_4.out (by simp)
          have G5 := Lib.hid (G4.out.trans0 hc)
          clear fz; have fz := freeOf A1_5.out
          clear hc
          go_wp2_with (first | (refine load_wide rfl _ 40 rfl rfl infoWd Tryz.underlying40 A0_5.out rfl ?_))
          refine (st_isOn_any w.heap.size a11 l11 c11 x.on f11 g _ A0_5.out (intL.sl_ext H11.out G5.out)).mono ?_
          rintro e w' ⟨rfl, rfl⟩
          rw [pb_false hon]
          have HL63 := Lib.hid (show x.on.length + [g].length ≤ maxLen ∧ (x.on.length + [g].length) * 8 ≤ 140737488355328 from by have h2 := H11.out.1; simp only [List.length_singleton, maxLen]; omega)
          have HRH : ∀ k ∈ hO.toList, k ≠ w4.heap.size ∧ k ≠ w.heap.size + 1 := fun k hk => by have h1 := HHO.out k (by simpa using hk); have h2 := HFl.out k (by simp [h1]); have h3 := HFn.out k (by simp [h1]); omega
          have HKP := Lib.hid (show ∀ w7, Chg hO.toList (w5.alloc (.cells #[.int .i64 g] 2)) w7 → w7.heap[w4.heap.size]? = some (.cells #[.int .i64 x.shape.groups, .int .i64 x.shape.column, .int .i64 x.shape.data, .int .i64 x.shape.spare, .int .i64 x.shape.rows, .int .i64 x.shape.cap, .int .i64 x.shape.batch, .int .i64 x.shape.queue, .int .i64 x.shape.stage, .slice p10 m10 d10, .slice p11 m11 d11, .slice p12 m12 d12, .int .i64 x.writes, .int .i64 x.stop, .bool x.down] 40 (0, 0)) from fun w7 h => h.keepb (keep_alloc HM.out _) (fun hk => (HRH _ hk).1 rfl))
          have HKR := Lib.hid (show ∀ w7, Chg hO.toList (w5.alloc (.cells #[.int .i64 g] 2)) w7 → w7.heap[w.heap.size + 1]? = some (.cells #[.int .i64 0, .int .i64 0, .int .i64 0, .int .i64 0, .int .i64 0, .int .i64 0, .int .i64 0, .int .i64 0, .int .i64 0, .int .i64 0, .slice none 0 0, .slice none 0 0, .slice none 0 0, .int .i64 0, .int .i64 0, .bool false] 48 (0, 0)) from fun w7 h => h.keepb (keep_alloc A1_5.out _) (fun hk => (HRH _ hk).2 rfl))
          clear HRH
          go_upto_region 11 with (at_builtin; refine Lay.wpList_append intL rfl _ _ 25 rfl Tryz.underlying25 KI rfl (intL.os_alloc HOS.out _) ⟨w5.heap.size, 0, none⟩ 1 1 [.int .i64 g] (ys := [g]) (f := []) rfl rfl (new_cell w5 (.int .i64 g) 2) (intL.all_single ⟨rfl, og, rfl⟩) (by simp) HL63.out.1 HL63.out.2 ?_; intro v7 w7 h7 hos7 hh7 hc7; obtain ⟨a7, l7, k7, e7⟩ : ∃ (a : Option Addr) (l c : Nat), v7 = .slice a l c := (by obtain ⟨a, c, e, -⟩ := intL.os_sl hos7; exact ⟨a, _, c, e⟩); subst e7; have H7 := Lib.hid (And.intro hos7 (And.intro hh7 hc7)); have hm7 := HKP.out _ hc7; have hR7 := HKR.out _ hc7; clear hos7 hh7 hc7 cm nm fm; have cm := cellsOf hm7; have nm := ltOf hm7; have fm := freeOf hm7; have HR7 := Lib.hid hR7; clear hm7 hR7)
          obtain ⟨a, l, c, f, e7, hrep, hfr, hcW, hrow, hfb2, hkb⟩ := on_grown x g HO.out HKe.out.1 HKe.out.2.2 HFG.out HQ2.out HHO.out HFl.out HM.out ((Chg.refl [] w5).alloc _) H7.out.2.2 H7.out.1 H7.out.2.1
          obtain ⟨rfl, rfl, rfl⟩ := Value.slice.inj e7
          have HE := Lib.hid (And.intro (show wldL.rep (w7.setCell ⟨w4.heap.size, 10, none⟩ (.slice a7 l7 k7)) [.int .i64 x.shape.groups, .int .i64 x.shape.column, .int .i64 x.shape.data, .int .i64 x.shape.spare, .int .i64 x.shape.rows, .int .i64 x.shape.cap, .int .i64 x.shape.batch, .int .i64 x.shape.queue, .int .i64 x.shape.stage, .slice p10 m10 d10, .slice a7 l7 k7, .slice p12 m12 d12, .int .i64 x.writes, .int .i64 x.stop, .bool x.down] _ _ from hrep) (And.intro (show Fresh w.heap.size (w7.setCell ⟨w4.heap.size, 10, none⟩ (.slice a7 l7 k7)) (f) from hfr.mono (C := w.heap.size) G3.out.size) (And.intro (show Chg [] w (w7.setCell ⟨w4.heap.size, 10, none⟩ (.slice a7 l7 k7)) from G5.out.trans hcW (fun y hy => .inr (by rcases List.mem_cons.1 hy with h | h; omega; have := (hkb y (by simpa using h)).2; have := G3.out.size; omega))) (show w.heap.size + 1 ∉ f from fun hy => by have h1 := (hfr.2 _ hy).1; omega))))
          have HRR := Lib.hid (keep_set HR7.out ⟨w4.heap.size, 10, none⟩ (.slice a7 l7 k7) (by show w.heap.size + 1 ≠ w4.heap.size; omega)); have HMR := Lib.hid (show (w7.setCell ⟨w4.heap.size, 10, none⟩ (.slice a7 l7 k7)).heap[w4.heap.size]? = some (.cells #[.int .i64 x.shape.groups, .int .i64 x.shape.column, .int .i64 x.shape.data, .int .i64 x.shape.spare, .int .i64 x.shape.rows, .int .i64 x.shape.cap, .int .i64 x.shape.batch, .int .i64 x.shape.queue, .int .i64 x.shape.stage, .slice p10 m10 d10, .slice a7 l7 k7, .slice p12 m12 d12, .int .i64 x.writes, .int .i64 x.stop, .bool x.down] 40 (0, 0)) from hrow)
          clear hrep hfr hcW hrow hfb2 hkb
          go_wp2_with (first | (refine load_wide rfl _ 40 rfl rfl infoWd Tryz.underlying40 HMR.out rfl ?_) | (refine store_wide rfl _ _ 48 rfl rfl rfl infoWR HRR.out rfl rfl rfl ?_; intro w9 hb9 hc9; have HB9 := Lib.hid hb9; have HC9 := Lib.hid hc9; clear hb9 hc9))
          refine bodyPost_ret (v := .agg #[.int .i64 0, .int .i64 x.shape.groups, .int .i64 x.shape.column, .int .i64 x.shape.data, .int .i64 x.shape.spare, .int .i64 x.shape.rows, .int .i64 x.shape.cap, .int .i64 x.shape.batch, .int .i64 x.shape.queue, .int .i64 x.shape.stage, .slice p10 m10 d10, .slice a7 l7 k7, .slice p12 m12 d12, .int .i64 x.writes, .int .i64 x.stop, .bool x.down]) (results_wide _ _ Tryz.results34 rfl infoWR Tryz.underlying48 HB9.out rfl) rfl (fin9 (0) (i64z) (onR x g) (onR_ok hf0 hg hon (by rw [← H11.out.1]; exact HFU.out)) HE.out.1 rfl HE.out.2.1 HE.out.2.2.1 HC9.out HE.out.2.2.2 (by omega))
    · have HI := Lib.hid (show inB g 0 (x.shape.all - 1) = false by unfold inB; simp; omega)
      go_wp2_with (first | (refine load_wide rfl _ 40 rfl rfl infoWd Tryz.underlying40 A0_1.out rfl ?_))
      refine (st_isGroup_any x.shape hok g _).mono ?_
      rintro e w2 ⟨rfl, hc⟩
      rw [HI.out]
      clear c0 n0
      obtain ⟨c0, n0, A0_2⟩ := bk hc A0_1.out (by simp)
      clear c1 n1
      obtain ⟨c1, n1, A1_2⟩ := bk hc A1_1.out (by simp)
      have G2 := Lib.hid (G1.out.trans0 hc)
      clear fz; have fz := freeOf A1_2.out
      clear hc
      go_wp2_with (first | (refine store_wide rfl _ _ 48 rfl rfl rfl infoWR A1_2.out rfl rfl rfl ?_; intro w9 hb9 hc9; have HB9 := Lib.hid hb9; have HC9 := Lib.hid hc9; clear hb9 hc9))
      refine bodyPost_ret (v := .agg #[.int .i64 (3), .int .i64 0, .int .i64 0, .int .i64 0, .int .i64 0, .int .i64 0, .int .i64 0, .int .i64 0, .int .i64 0, .int .i64 0, .slice none 0 0, .slice none 0 0, .slice none 0 0, .int .i64 0, .int .i64 0, .bool false]) (results_wide _ _ Tryz.results34 rfl infoWR Tryz.underlying48 HB9.out rfl) rfl (bad9 (3) (⟨by omega, by omega⟩) (onR x g) (onR_out hf0 hg) G2.out HC9.out (by omega))
  · have hb : ((q : Int) != 0) = true := by simpa using hq0
    go_wp2_with (first | (refine store_wide rfl _ _ 48 rfl rfl rfl infoWR A1_1.out rfl rfl rfl ?_; intro w9 hb9 hc9; have HB9 := Lib.hid hb9; have HC9 := Lib.hid hc9; clear hb9 hc9))
    refine bodyPost_ret (v := .agg #[.int .i64 (q), .int .i64 0, .int .i64 0, .int .i64 0, .int .i64 0, .int .i64 0, .int .i64 0, .int .i64 0, .int .i64 0, .int .i64 0, .slice none 0 0, .slice none 0 0, .slice none 0 0, .int .i64 0, .int .i64 0, .bool false]) (results_wide _ _ Tryz.results34 rfl infoWR Tryz.underlying48 HB9.out rfl) rfl (bad9 (q) (hqk) (onR x g) (by rw [onR_bad (by rw [← HQ.out]; exact hq0), ← HQ.out]) G1.out HC9.out (by omega))
set_option maxRecDepth 100000 in
set_option maxHeartbeats 8000000 in
theorem spec_SwitchOn (x : Wld) (cx : Array Value) (fx : List Nat) (g : Int) (w : World) (hx : wldL.rep w cx.toList x fx) (hz : totWld x ≤ 1048576) (og : i64ok g) :
    Calls Tryz.prog 33 #[.agg cx, .int .i64 g] w (NewAgg wrsL (onR x g) w) := by
  obtain ⟨a10, l10, c10, _, a11, l11, c11, f11, a12, l12, c12, _, ex, -, -, -, -, -, -, -, -, -, h10, h11, h12, oo13, oo14, -⟩ := wldL_iff.1 hx
  obtain rfl := Array.toList_inj.1 (ex.trans (List.toList_toArray).symm)
  have HW := Lib.hid hx; have HZ := Lib.hid hz; have H10 := Lib.hid h10; have H11 := Lib.hid h11; have H12 := Lib.hid h12; have HOO := Lib.hid (And.intro oo13 oo14)
  have hl11 : l11 ≤ 1048576 := by have h := h11.1; have q10 := totL_nonneg (totL_nonneg totDrv_nonneg) x.groups; have q12 := totL_nonneg totTap_nonneg x.tapes; unfold totWld totIs at hz; omega
  clear hx ex hz h10 h11 h12 oo13 oo14
  obtain ⟨KI, _⟩ := kindI
  have G0 := Lib.hid (show Chg [] w ((w.alloc (.cells #[.int .i64 x.shape.groups, .int .i64 x.shape.column, .int .i64 x.shape.data, .int .i64 x.shape.spare, .int .i64 x.shape.rows, .int .i64 x.shape.cap, .int .i64 x.shape.batch, .int .i64 x.shape.queue, .int .i64 x.shape.stage, .slice a10 l10 c10, .slice a11 l11 c11, .slice a12 l12 c12, .int .i64 x.writes, .int .i64 x.stop, .bool x.down] 40)).alloc (.cells #[.int .i64 0, .int .i64 0, .int .i64 0, .int .i64 0, .int .i64 0, .int .i64 0, .int .i64 0, .int .i64 0, .int .i64 0, .int .i64 0, .slice none 0 0, .slice none 0 0, .slice none 0 0, .int .i64 0, .int .i64 0, .bool false] 48)) from (Chg.alloc (Chg.alloc (Chg.refl [] w) _) _))
  have B0 := Lib.hid (show ((w.alloc (.cells #[.int .i64 x.shape.groups, .int .i64 x.shape.column, .int .i64 x.shape.data, .int .i64 x.shape.spare, .int .i64 x.shape.rows, .int .i64 x.shape.cap, .int .i64 x.shape.batch, .int .i64 x.shape.queue, .int .i64 x.shape.stage, .slice a10 l10 c10, .slice a11 l11 c11, .slice a12 l12 c12, .int .i64 x.writes, .int .i64 x.stop, .bool x.down] 40)).alloc (.cells #[.int .i64 0, .int .i64 0, .int .i64 0, .int .i64 0, .int .i64 0, .int .i64 0, .int .i64 0, .int .i64 0, .int .i64 0, .int .i64 0, .slice none 0 0, .slice none 0 0, .slice none 0 0, .int .i64 0, .int .i64 0, .bool false] 48)).heap[w.heap.size]? = some (.cells #[.int .i64 x.shape.groups, .int .i64 x.shape.column, .int .i64 x.shape.data, .int .i64 x.shape.spare, .int .i64 x.shape.rows, .int .i64 x.shape.cap, .int .i64 x.shape.batch, .int .i64 x.shape.queue, .int .i64 x.shape.stage, .slice a10 l10 c10, .slice a11 l11 c11, .slice a12 l12 c12, .int .i64 x.writes, .int .i64 x.stop, .bool x.down] 40 (0, 0)) from keep_alloc (new_alloc w _) _)
  have B1 := Lib.hid (show ((w.alloc (.cells #[.int .i64 x.shape.groups, .int .i64 x.shape.column, .int .i64 x.shape.data, .int .i64 x.shape.spare, .int .i64 x.shape.rows, .int .i64 x.shape.cap, .int .i64 x.shape.batch, .int .i64 x.shape.queue, .int .i64 x.shape.stage, .slice a10 l10 c10, .slice a11 l11 c11, .slice a12 l12 c12, .int .i64 x.writes, .int .i64 x.stop, .bool x.down] 40)).alloc (.cells #[.int .i64 0, .int .i64 0, .int .i64 0, .int .i64 0, .int .i64 0, .int .i64 0, .int .i64 0, .int .i64 0, .int .i64 0, .int .i64 0, .slice none 0 0, .slice none 0 0, .slice none 0 0, .int .i64 0, .int .i64 0, .bool false] 48)).heap[w.heap.size + 1]? = some (.cells #[.int .i64 0, .int .i64 0, .int .i64 0, .int .i64 0, .int .i64 0, .int .i64 0, .int .i64 0, .int .i64 0, .int .i64 0, .int .i64 0, .slice none 0 0, .slice none 0 0, .slice none 0 0, .int .i64 0, .int .i64 0, .bool false] 48 (0, 0)) from new_at (by simp) _)
  go_enter Tryz.func33, Tryz.ntmps33
  obtain ⟨q, hq⟩ : ∃ q, q = x.up := ⟨_, rfl⟩
  have HQ := Lib.hid hq; clear hq
  go_wp2_with (first | (refine load_wide rfl _ 40 rfl rfl infoWd Tryz.underlying40 B0.out rfl ?_))
  refine (l5Asked_any x #[.int .i64 x.shape.groups, .int .i64 x.shape.column, .int .i64 x.shape.data, .int .i64 x.shape.spare, .int .i64 x.shape.rows, .int .i64 x.shape.cap, .int .i64 x.shape.batch, .int .i64 x.shape.queue, .int .i64 x.shape.stage, .slice a10 l10 c10, .slice a11 l11 c11, .slice a12 l12 c12, .int .i64 x.writes, .int .i64 x.stop, .bool x.down] fx _ (wldL.ext HW.out G0.out)).mono ?_
  rintro e w1 ⟨rfl, hc⟩
  rw [← HQ.out]
  obtain ⟨c0, n0, A0_1⟩ := bk hc B0.out (by simp)
  obtain ⟨c1, n1, A1_1⟩ := bk hc B1.out (by simp)
  have G1 := Lib.hid (G0.out.trans0 hc)
  have fz := freeOf A1_1.out
  clear hc
  have hqk : i64ok q := by rw [HQ.out]; exact up_i64 x
  by_cases hq0 : q = 0
  · subst hq0
    have hf0 : x.up = 0 := HQ.out.symm
    obtain ⟨-, -, -, -, hok⟩ := up_parts hf0
    have hcap : (l11 : Int) ≤ x.shape.cap := by have h := up_cap hf0; have h2 := H11.out.1; omega
    by_cases hg : 0 ≤ g ∧ g ≤ x.shape.all - 1
    · have HI := Lib.hid (show inB g 0 (x.shape.all - 1) = true by simp [inB, hg.1, hg.2])
      go_wp2_with (first | (refine load_wide rfl _ 40 rfl rfl infoWd Tryz.underlying40 A0_1.out rfl ?_))
      refine (l5All_any x.shape hok _).mono ?_
      rintro e w2 ⟨rfl, hc⟩
      clear c0 n0
      obtain ⟨c0, n0, A0_2⟩ := bk hc A0_1.out (by simp)
      clear c1 n1
      obtain ⟨c1, n1, A1_2⟩ := bk hc A1_1.out (by simp)
      have G2 := Lib.hid (G1.out.trans0 hc)
      clear fz; have fz := freeOf A1_2.out
      clear hc
      have hak := hok.all
      go_wp2_with (first | (refine load_wide rfl _ 40 rfl rfl infoWd Tryz.underlying40 A0_2.out rfl ?_))
      refine (l1In_any g 0 (x.shape.all - 1) _).mono ?_
      rintro e w' ⟨rfl, rfl⟩
      rw [HI.out]
      by_cases hon : g ∈ x.on
      · go_wp2_with (first | (refine load_wide rfl _ 40 rfl rfl infoWd Tryz.underlying40 A0_2.out rfl ?_))
        refine (l5Copy_on x #[.int .i64 x.shape.groups, .int .i64 x.shape.column, .int .i64 x.shape.data, .int .i64 x.shape.spare, .int .i64 x.shape.rows, .int .i64 x.shape.cap, .int .i64 x.shape.batch, .int .i64 x.shape.queue, .int .i64 x.shape.stage, .slice a10 l10 c10, .slice a11 l11 c11, .slice a12 l12 c12, .int .i64 x.writes, .int .i64 x.stop, .bool x.down] fx _ (wldL.ext HW.out G2.out) HZ.out).mono ?_
        rintro e w3 ⟨p10, m10, d10, g10, p11, m11, d11, g11, p12, m12, d12, g12, hO, rfl, o11, K10, K11, K12, hf, hc, hos, hho⟩
        have HO := Lib.hid o11; have HOS0 := Lib.hid hos; have HHO := Lib.hid hho; have HQ1 := Lib.hid hc.size
        have HK := Lib.hid (And.intro K10 (And.intro K11 K12)); have HF := Lib.hid hf; have HFn := Lib.hid (fun b hb => (hf.2 b hb).1); have nR0 := n1
        clear K10 K11 K12 o11 hf hos hho
        clear c0 n0
        obtain ⟨c0, n0, A0_3⟩ := bk hc A0_2.out (by simp)
        clear c1 n1
        obtain ⟨c1, n1, A1_3⟩ := bk hc A1_2.out (by simp)
        have G3 := Lib.hid (G2.out.trans0 hc)
        clear fz; have fz := freeOf A1_3.out
        clear hc
        go_upto_region 7 with (refine store_wide rfl _ _ 40 rfl rfl rfl infoWd (new_alloc _ _) rfl rfl rfl ?_; intro w4 hm hc0)
        have hc : Chg [] w3 w4 := ((Chg.refl [] w3).alloc _).trans hc0 (fun y hy => .inr (by rw [List.mem_singleton] at hy; omega)); clear hc0
        have HM := Lib.hid hm; have cm := cellsOf hm; have nm := ltOf hm; have fm := freeOf hm; have nR : w.heap.size + 1 < w3.heap.size := n1; clear hm
        have hF := HF.out.lts; have HKe := Lib.hid (And.intro (drvL.slice.sl_ext HK.out.1 hc) (And.intro (intL.sl_ext HK.out.2.1 hc) (tapL.sl_ext HK.out.2.2 hc))); have HFG := Lib.hid (HF.out.chg hc); have HFe := Lib.hid (HFG.out.mono (C := w.heap.size) G2.out.size); have HOS := Lib.hid (intL.os_ext HOS0.out hc); have HQ2 := Lib.hid (Nat.le_trans HQ1.out hc.size)
        have HFl := Lib.hid hF; clear hF
        clear c0 n0
        obtain ⟨c0, n0, A0_4⟩ := bk hc A0_3.out (by simp)
        clear c1 n1
        obtain ⟨c1, n1, A1_4⟩ := bk hc A1_3.out (by simp)
        have G4 := Lib.hid (G3.out.trans0 hc)
        clear fz; have fz := freeOf A1_4.out
        clear hc
        go_wp2_with (first | (refine load_wide rfl _ 40 rfl rfl infoWd Tryz.underlying40 A0_4.out rfl ?_))
        refine (l1Has_any a11 l11 c11 x.on f11 g _ (intL.sl_ext H11.out G4.out)).mono ?_
        rintro e w' ⟨rfl, rfl⟩
        rw [pb_true hon]
        have hc : Chg [w3.heap.size] w4 w4 := Chg.refl _ _
        have hR := Lib.hid (hc.keepb A1_4.out (by simp; omega))
        have hnm : ∀ y ∈ g10 ++ (g11 ++ (g12 ++ [])), y ∉ [w3.heap.size] := fun y hy hm => by have := HFl.out y hy; rw [List.mem_singleton] at hm; omega
        obtain ⟨o1, o2, o3, o4, o5, o6, o7, o8, o9, o13, o14⟩ := HO.out
        have hsub : (g10 ++ (g11 ++ (g12 ++ []))).Sublist (g10 ++ (g11 ++ (g12 ++ []))) := List.Sublist.refl _
        have HE := Lib.hid (And.intro (show wldL.rep w4 [.int .i64 x.shape.groups, .int .i64 x.shape.column, .int .i64 x.shape.data, .int .i64 x.shape.spare, .int .i64 x.shape.rows, .int .i64 x.shape.cap, .int .i64 x.shape.batch, .int .i64 x.shape.queue, .int .i64 x.shape.stage, .slice p10 m10 d10, .slice p11 m11 d11, .slice p12 m12 d12, .int .i64 x.writes, .int .i64 x.stop, .bool x.down] _ _ from (wldL_iff.2 ⟨p10, m10, d10, g10, p11, m11, d11, g11, p12, m12, d12, g12, rfl, o1, o2, o3, o4, o5, o6, o7, o8, o9, drvL.slice.sl_chg HKe.out.1 hc (fun y hy => hnm y (by simp [hy])), intL.sl_chg HKe.out.2.1 hc (fun y hy => hnm y (by simp [hy])), tapL.sl_chg HKe.out.2.2 hc (fun y hy => hnm y (by simp [hy])), o13, o14, rfl⟩ : wldL.rep _ _ (x) _)) (And.intro (show Fresh w.heap.size w4 (g10 ++ (g11 ++ (g12 ++ []))) from (HFe.out.chg hc).sub hsub) (And.intro (show Chg [] w w4 from G4.out.trans hc (fun y hy => .inr (by rw [List.mem_singleton] at hy; omega))) (show w.heap.size + 1 ∉ g10 ++ (g11 ++ (g12 ++ [])) from fun hy => by have := HFn.out _ (hsub.subset hy); omega))))
        have HRR := Lib.hid hR.out; have HMR := Lib.hid (show w4.heap[w3.heap.size]? = some (.cells #[.int .i64 x.shape.groups, .int .i64 x.shape.column, .int .i64 x.shape.data, .int .i64 x.shape.spare, .int .i64 x.shape.rows, .int .i64 x.shape.cap, .int .i64 x.shape.batch, .int .i64 x.shape.queue, .int .i64 x.shape.stage, .slice p10 m10 d10, .slice p11 m11 d11, .slice p12 m12 d12, .int .i64 x.writes, .int .i64 x.stop, .bool x.down] 40 (0, 0)) from HM.out)
        clear o1 o2 o3 o4 o5 o6 o7 o8 o9 o13 o14 hc hnm hsub
        go_wp2_with (first | (refine load_wide rfl _ 40 rfl rfl infoWd Tryz.underlying40 HMR.out rfl ?_) | (refine store_wide rfl _ _ 48 rfl rfl rfl infoWR HRR.out rfl rfl rfl ?_; intro w9 hb9 hc9; have HB9 := Lib.hid hb9; have HC9 := Lib.hid hc9; clear hb9 hc9))
        refine bodyPost_ret (v := .agg #[.int .i64 0, .int .i64 x.shape.groups, .int .i64 x.shape.column, .int .i64 x.shape.data, .int .i64 x.shape.spare, .int .i64 x.shape.rows, .int .i64 x.shape.cap, .int .i64 x.shape.batch, .int .i64 x.shape.queue, .int .i64 x.shape.stage, .slice p10 m10 d10, .slice p11 m11 d11, .slice p12 m12 d12, .int .i64 x.writes, .int .i64 x.stop, .bool x.down]) (results_wide _ _ Tryz.results33 rfl infoWR Tryz.underlying48 HB9.out rfl) rfl (fin9 (0) (i64z) (onR x g) (onR_in hf0 hg hon) HE.out.1 rfl HE.out.2.1 HE.out.2.2.1 HC9.out HE.out.2.2.2 (by omega))
      · by_cases hfull : (l11 : Int) = x.shape.cap
        · go_wp2_with (first | (refine load_wide rfl _ 40 rfl rfl infoWd Tryz.underlying40 A0_2.out rfl ?_))
          refine (l5Copy_on x #[.int .i64 x.shape.groups, .int .i64 x.shape.column, .int .i64 x.shape.data, .int .i64 x.shape.spare, .int .i64 x.shape.rows, .int .i64 x.shape.cap, .int .i64 x.shape.batch, .int .i64 x.shape.queue, .int .i64 x.shape.stage, .slice a10 l10 c10, .slice a11 l11 c11, .slice a12 l12 c12, .int .i64 x.writes, .int .i64 x.stop, .bool x.down] fx _ (wldL.ext HW.out G2.out) HZ.out).mono ?_
          rintro e w3 ⟨p10, m10, d10, g10, p11, m11, d11, g11, p12, m12, d12, g12, hO, rfl, o11, K10, K11, K12, hf, hc, hos, hho⟩
          have HO := Lib.hid o11; have HOS0 := Lib.hid hos; have HHO := Lib.hid hho; have HQ1 := Lib.hid hc.size
          have HK := Lib.hid (And.intro K10 (And.intro K11 K12)); have HF := Lib.hid hf; have HFn := Lib.hid (fun b hb => (hf.2 b hb).1); have nR0 := n1
          clear K10 K11 K12 o11 hf hos hho
          clear c0 n0
          obtain ⟨c0, n0, A0_3⟩ := bk hc A0_2.out (by simp)
          clear c1 n1
          obtain ⟨c1, n1, A1_3⟩ := bk hc A1_2.out (by simp)
          have G3 := Lib.hid (G2.out.trans0 hc)
          clear fz; have fz := freeOf A1_3.out
          clear hc
          go_upto_region 7 with (refine store_wide rfl _ _ 40 rfl rfl rfl infoWd (new_alloc _ _) rfl rfl rfl ?_; intro w4 hm hc0)
          have hc : Chg [] w3 w4 := ((Chg.refl [] w3).alloc _).trans hc0 (fun y hy => .inr (by rw [List.mem_singleton] at hy; omega)); clear hc0
          have HM := Lib.hid hm; have cm := cellsOf hm; have nm := ltOf hm; have fm := freeOf hm; have nR : w.heap.size + 1 < w3.heap.size := n1; clear hm
          have hF := HF.out.lts; have HKe := Lib.hid (And.intro (drvL.slice.sl_ext HK.out.1 hc) (And.intro (intL.sl_ext HK.out.2.1 hc) (tapL.sl_ext HK.out.2.2 hc))); have HFG := Lib.hid (HF.out.chg hc); have HFe := Lib.hid (HFG.out.mono (C := w.heap.size) G2.out.size); have HOS := Lib.hid (intL.os_ext HOS0.out hc); have HQ2 := Lib.hid (Nat.le_trans HQ1.out hc.size)
          have HFl := Lib.hid hF; clear hF
          clear c0 n0
          obtain ⟨c0, n0, A0_4⟩ := bk hc A0_3.out (by simp)
          clear c1 n1
          obtain ⟨c1, n1, A1_4⟩ := bk hc A1_3.out (by simp)
          have G4 := Lib.hid (G3.out.trans0 hc)
          clear fz; have fz := freeOf A1_4.out
          clear hc
          go_wp2_with (first | (refine load_wide rfl _ 40 rfl rfl infoWd Tryz.underlying40 A0_4.out rfl ?_))
          refine (l1Has_any a11 l11 c11 x.on f11 g _ (intL.sl_ext H11.out G4.out)).mono ?_
          rintro e w' ⟨rfl, rfl⟩
          rw [pb_false hon]
          have hfb : decide ((l11 : Int) ≥ x.shape.cap) = true := by simp [hfull]
          have HFU := Lib.hid hfull; clear hfull
          go_wp2_with (first | (refine store_wide rfl _ _ 48 rfl rfl rfl infoWR A1_4.out rfl rfl rfl ?_; intro w9 hb9 hc9; have HB9 := Lib.hid hb9; have HC9 := Lib.hid hc9; clear hb9 hc9))
          refine bodyPost_ret (v := .agg #[.int .i64 (7), .int .i64 0, .int .i64 0, .int .i64 0, .int .i64 0, .int .i64 0, .int .i64 0, .int .i64 0, .int .i64 0, .int .i64 0, .slice none 0 0, .slice none 0 0, .slice none 0 0, .int .i64 0, .int .i64 0, .bool false]) (results_wide _ _ Tryz.results33 rfl infoWR Tryz.underlying48 HB9.out rfl) rfl (bad9 (7) (⟨by omega, by omega⟩) (onR x g) (onR_full hf0 hg hon (by rw [← H11.out.1]; exact HFU.out)) G4.out HC9.out (by omega))
        · go_wp2_with (first | (refine load_wide rfl _ 40 rfl rfl infoWd Tryz.underlying40 A0_2.out rfl ?_))
          refine (l5Copy_on x #[.int .i64 x.shape.groups, .int .i64 x.shape.column, .int .i64 x.shape.data, .int .i64 x.shape.spare, .int .i64 x.shape.rows, .int .i64 x.shape.cap, .int .i64 x.shape.batch, .int .i64 x.shape.queue, .int .i64 x.shape.stage, .slice a10 l10 c10, .slice a11 l11 c11, .slice a12 l12 c12, .int .i64 x.writes, .int .i64 x.stop, .bool x.down] fx _ (wldL.ext HW.out G2.out) HZ.out).mono ?_
          rintro e w3 ⟨p10, m10, d10, g10, p11, m11, d11, g11, p12, m12, d12, g12, hO, rfl, o11, K10, K11, K12, hf, hc, hos, hho⟩
          have HO := Lib.hid o11; have HOS0 := Lib.hid hos; have HHO := Lib.hid hho; have HQ1 := Lib.hid hc.size
          have HK := Lib.hid (And.intro K10 (And.intro K11 K12)); have HF := Lib.hid hf; have HFn := Lib.hid (fun b hb => (hf.2 b hb).1); have nR0 := n1
          clear K10 K11 K12 o11 hf hos hho
          clear c0 n0
          obtain ⟨c0, n0, A0_3⟩ := bk hc A0_2.out (by simp)
          clear c1 n1
          obtain ⟨c1, n1, A1_3⟩ := bk hc A1_2.out (by simp)
          have G3 := Lib.hid (G2.out.trans0 hc)
          clear fz; have fz := freeOf A1_3.out
          clear hc
          go_upto_region 7 with (refine store_wide rfl _ _ 40 rfl rfl rfl infoWd (new_alloc _ _) rfl rfl rfl ?_; intro w4 hm hc0)
          have hc : Chg [] w3 w4 := ((Chg.refl [] w3).alloc _).trans hc0 (fun y hy => .inr (by rw [List.mem_singleton] at hy; omega)); clear hc0
          have HM := Lib.hid hm; have cm := cellsOf hm; have nm := ltOf hm; have fm := freeOf hm; have nR : w.heap.size + 1 < w3.heap.size := n1; clear hm
          have hF := HF.out.lts; have HKe := Lib.hid (And.intro (drvL.slice.sl_ext HK.out.1 hc) (And.intro (intL.sl_ext HK.out.2.1 hc) (tapL.sl_ext HK.out.2.2 hc))); have HFG := Lib.hid (HF.out.chg hc); have HFe := Lib.hid (HFG.out.mono (C := w.heap.size) G2.out.size); have HOS := Lib.hid (intL.os_ext HOS0.out hc); have HQ2 := Lib.hid (Nat.le_trans HQ1.out hc.size)
          have HFl := Lib.hid hF; clear hF
          clear c0 n0
          obtain ⟨c0, n0, A0_4⟩ := bk hc A0_3.out (by simp)
          clear c1 n1
          obtain ⟨c1, n1, A1_4⟩ := bk hc A1_3.out (by simp)
          have G4 := Lib.hid (G3.out.trans0 hc)
          clear fz; have fz := freeOf A1_4.out
          clear hc
          go_wp2_with (first | (refine load_wide rfl _ 40 rfl rfl infoWd Tryz.underlying40 A0_4.out rfl ?_))
          refine (l1Has_any a11 l11 c11 x.on f11 g _ (intL.sl_ext H11.out G4.out)).mono ?_
          rintro e w' ⟨rfl, rfl⟩
          rw [pb_false hon]
          have hfb : decide ((l11 : Int) ≥ x.shape.cap) = false := by simp; omega
          have HFU := Lib.hid hfull; clear hfull
          have HL63 := Lib.hid (show x.on.length + [g].length ≤ maxLen ∧ (x.on.length + [g].length) * 8 ≤ 140737488355328 from by have h2 := H11.out.1; simp only [List.length_singleton, maxLen]; omega)
          have HRH : ∀ k ∈ hO.toList, k ≠ w3.heap.size ∧ k ≠ w.heap.size + 1 := fun k hk => by have h1 := HHO.out k (by simpa using hk); have h2 := HFl.out k (by simp [h1]); have h3 := HFn.out k (by simp [h1]); omega
          have HKP := Lib.hid (show ∀ w7, Chg hO.toList (w4.alloc (.cells #[.int .i64 g] 2)) w7 → w7.heap[w3.heap.size]? = some (.cells #[.int .i64 x.shape.groups, .int .i64 x.shape.column, .int .i64 x.shape.data, .int .i64 x.shape.spare, .int .i64 x.shape.rows, .int .i64 x.shape.cap, .int .i64 x.shape.batch, .int .i64 x.shape.queue, .int .i64 x.shape.stage, .slice p10 m10 d10, .slice p11 m11 d11, .slice p12 m12 d12, .int .i64 x.writes, .int .i64 x.stop, .bool x.down] 40 (0, 0)) from fun w7 h => h.keepb (keep_alloc HM.out _) (fun hk => (HRH _ hk).1 rfl))
          have HKR := Lib.hid (show ∀ w7, Chg hO.toList (w4.alloc (.cells #[.int .i64 g] 2)) w7 → w7.heap[w.heap.size + 1]? = some (.cells #[.int .i64 0, .int .i64 0, .int .i64 0, .int .i64 0, .int .i64 0, .int .i64 0, .int .i64 0, .int .i64 0, .int .i64 0, .int .i64 0, .slice none 0 0, .slice none 0 0, .slice none 0 0, .int .i64 0, .int .i64 0, .bool false] 48 (0, 0)) from fun w7 h => h.keepb (keep_alloc A1_4.out _) (fun hk => (HRH _ hk).2 rfl))
          clear HRH
          go_upto_region 12 with (at_builtin; refine Lay.wpList_append intL rfl _ _ 25 rfl Tryz.underlying25 KI rfl (intL.os_alloc HOS.out _) ⟨w4.heap.size, 0, none⟩ 1 1 [.int .i64 g] (ys := [g]) (f := []) rfl rfl (new_cell w4 (.int .i64 g) 2) (intL.all_single ⟨rfl, og, rfl⟩) (by simp) HL63.out.1 HL63.out.2 ?_; intro v7 w7 h7 hos7 hh7 hc7; obtain ⟨a7, l7, k7, e7⟩ : ∃ (a : Option Addr) (l c : Nat), v7 = .slice a l c := (by obtain ⟨a, c, e, -⟩ := intL.os_sl hos7; exact ⟨a, _, c, e⟩); subst e7; have H7 := Lib.hid (And.intro hos7 (And.intro hh7 hc7)); have hm7 := HKP.out _ hc7; have hR7 := HKR.out _ hc7; clear hos7 hh7 hc7 cm nm fm; have cm := cellsOf hm7; have nm := ltOf hm7; have fm := freeOf hm7; have HR7 := Lib.hid hR7; clear hm7 hR7)
          obtain ⟨a, l, c, f, e7, hrep, hfr, hcW, hrow, hfb2, hkb⟩ := on_grown x g HO.out HKe.out.1 HKe.out.2.2 HFG.out HQ2.out HHO.out HFl.out HM.out ((Chg.refl [] w4).alloc _) H7.out.2.2 H7.out.1 H7.out.2.1
          obtain ⟨rfl, rfl, rfl⟩ := Value.slice.inj e7
          have HE := Lib.hid (And.intro (show wldL.rep (w7.setCell ⟨w3.heap.size, 10, none⟩ (.slice a7 l7 k7)) [.int .i64 x.shape.groups, .int .i64 x.shape.column, .int .i64 x.shape.data, .int .i64 x.shape.spare, .int .i64 x.shape.rows, .int .i64 x.shape.cap, .int .i64 x.shape.batch, .int .i64 x.shape.queue, .int .i64 x.shape.stage, .slice p10 m10 d10, .slice a7 l7 k7, .slice p12 m12 d12, .int .i64 x.writes, .int .i64 x.stop, .bool x.down] _ _ from hrep) (And.intro (show Fresh w.heap.size (w7.setCell ⟨w3.heap.size, 10, none⟩ (.slice a7 l7 k7)) (f) from hfr.mono (C := w.heap.size) G2.out.size) (And.intro (show Chg [] w (w7.setCell ⟨w3.heap.size, 10, none⟩ (.slice a7 l7 k7)) from G4.out.trans hcW (fun y hy => .inr (by rcases List.mem_cons.1 hy with h | h; omega; have := (hkb y (by simpa using h)).2; have := G2.out.size; omega))) (show w.heap.size + 1 ∉ f from fun hy => by have h1 := (hfr.2 _ hy).1; omega))))
          have HRR := Lib.hid (keep_set HR7.out ⟨w3.heap.size, 10, none⟩ (.slice a7 l7 k7) (by show w.heap.size + 1 ≠ w3.heap.size; omega)); have HMR := Lib.hid (show (w7.setCell ⟨w3.heap.size, 10, none⟩ (.slice a7 l7 k7)).heap[w3.heap.size]? = some (.cells #[.int .i64 x.shape.groups, .int .i64 x.shape.column, .int .i64 x.shape.data, .int .i64 x.shape.spare, .int .i64 x.shape.rows, .int .i64 x.shape.cap, .int .i64 x.shape.batch, .int .i64 x.shape.queue, .int .i64 x.shape.stage, .slice p10 m10 d10, .slice a7 l7 k7, .slice p12 m12 d12, .int .i64 x.writes, .int .i64 x.stop, .bool x.down] 40 (0, 0)) from hrow)
          clear hrep hfr hcW hrow hfb2 hkb
          go_wp2_with (first | (refine load_wide rfl _ 40 rfl rfl infoWd Tryz.underlying40 HMR.out rfl ?_) | (refine store_wide rfl _ _ 48 rfl rfl rfl infoWR HRR.out rfl rfl rfl ?_; intro w9 hb9 hc9; have HB9 := Lib.hid hb9; have HC9 := Lib.hid hc9; clear hb9 hc9))
          refine bodyPost_ret (v := .agg #[.int .i64 0, .int .i64 x.shape.groups, .int .i64 x.shape.column, .int .i64 x.shape.data, .int .i64 x.shape.spare, .int .i64 x.shape.rows, .int .i64 x.shape.cap, .int .i64 x.shape.batch, .int .i64 x.shape.queue, .int .i64 x.shape.stage, .slice p10 m10 d10, .slice a7 l7 k7, .slice p12 m12 d12, .int .i64 x.writes, .int .i64 x.stop, .bool x.down]) (results_wide _ _ Tryz.results33 rfl infoWR Tryz.underlying48 HB9.out rfl) rfl (fin9 (0) (i64z) (onR x g) (onR_ok hf0 hg hon (by rw [← H11.out.1]; exact HFU.out)) HE.out.1 rfl HE.out.2.1 HE.out.2.2.1 HC9.out HE.out.2.2.2 (by omega))
    · have HI := Lib.hid (show inB g 0 (x.shape.all - 1) = false by unfold inB; simp; omega)
      go_wp2_with (first | (refine load_wide rfl _ 40 rfl rfl infoWd Tryz.underlying40 A0_1.out rfl ?_))
      refine (l5All_any x.shape hok _).mono ?_
      rintro e w2 ⟨rfl, hc⟩
      clear c0 n0
      obtain ⟨c0, n0, A0_2⟩ := bk hc A0_1.out (by simp)
      clear c1 n1
      obtain ⟨c1, n1, A1_2⟩ := bk hc A1_1.out (by simp)
      have G2 := Lib.hid (G1.out.trans0 hc)
      clear fz; have fz := freeOf A1_2.out
      clear hc
      have hak := hok.all
      go_wp2_with (first | (refine load_wide rfl _ 40 rfl rfl infoWd Tryz.underlying40 A0_2.out rfl ?_))
      refine (l1In_any g 0 (x.shape.all - 1) _).mono ?_
      rintro e w' ⟨rfl, rfl⟩
      rw [HI.out]
      go_wp2_with (first | (refine store_wide rfl _ _ 48 rfl rfl rfl infoWR A1_2.out rfl rfl rfl ?_; intro w9 hb9 hc9; have HB9 := Lib.hid hb9; have HC9 := Lib.hid hc9; clear hb9 hc9))
      refine bodyPost_ret (v := .agg #[.int .i64 (3), .int .i64 0, .int .i64 0, .int .i64 0, .int .i64 0, .int .i64 0, .int .i64 0, .int .i64 0, .int .i64 0, .int .i64 0, .slice none 0 0, .slice none 0 0, .slice none 0 0, .int .i64 0, .int .i64 0, .bool false]) (results_wide _ _ Tryz.results33 rfl infoWR Tryz.underlying48 HB9.out rfl) rfl (bad9 (3) (⟨by omega, by omega⟩) (onR x g) (onR_out hf0 hg) G2.out HC9.out (by omega))
  · have hb : ((q : Int) != 0) = true := by simpa using hq0
    go_wp2_with (first | (refine store_wide rfl _ _ 48 rfl rfl rfl infoWR A1_1.out rfl rfl rfl ?_; intro w9 hb9 hc9; have HB9 := Lib.hid hb9; have HC9 := Lib.hid hc9; clear hb9 hc9))
    refine bodyPost_ret (v := .agg #[.int .i64 (q), .int .i64 0, .int .i64 0, .int .i64 0, .int .i64 0, .int .i64 0, .int .i64 0, .int .i64 0, .int .i64 0, .int .i64 0, .slice none 0 0, .slice none 0 0, .slice none 0 0, .int .i64 0, .int .i64 0, .bool false]) (results_wide _ _ Tryz.results33 rfl infoWR Tryz.underlying48 HB9.out rfl) rfl (bad9 (q) (hqk) (onR x g) (by rw [onR_bad (by rw [← HQ.out]; exact hq0), ← HQ.out]) G1.out HC9.out (by omega))
end Go.Proofs.YtnnhopcjlnnchaaGreat
