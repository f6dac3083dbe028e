import Derived.Test.YtnnhopcjlnnchaaGreatRows
import Derived.Test.YtnnhopcjlnnchaaGreatMj
import Derived.Test.YtnnhopcjlnnchaaGreatMm
import Derived.Deep.DeepCutAuto
import Derived.ShutString
import Derived.ChangeOld
/- The program's AppendRec returns what the reference returns, leaves its arguments and shares no memory, for all arguments: the law FnExactAppendRec returns true.
Conditions: none. -/
namespace Go.Proofs.YtnnhopcjlnnchaaGreat
open Go.ChangeShapes Go.WideShapes Go.ChangeAt Go.RowKit

theorem infoWRl : (Tryz.prog.info? 48).map (fun i => i.size) = some 16 := by kernel_rfl
theorem infoLW : (Tryz.prog.info? 28).map (fun i => i.size) = some 15 := by kernel_rfl
abbrev zWR : Obj := .cells #[.int .i64 0, .int .i64 0, .int .i64 0, .int .i64 0, .int .i64 0, .int .i64 0, .int .i64 0, .int .i64 0, .int .i64 0, .int .i64 0, .slice none 0 0, .slice none 0 0, .slice none 0 0, .int .i64 0, .int .i64 0, .bool false] 48
theorem cntRec_le2 (x : Rec) : cntRec x ≤ 6 + totRec x := by have h := cvRec_le x; have h2 := cntRec_cv x; omega
set_option maxRecDepth 100000 in
set_option maxHeartbeats 8000000 in
theorem walk_FnExactAppendRec (W : World) (cs0 : Array Value) (x0 : Wld) (fp0 : List Nat) (o0 : wldL.rep W cs0.toList x0 fp0) (x1 : Int) (o1 : i64ok x1) (cs2 : Array Value) (x2 : Rec) (fp2 : List Nat) (o2 : recL.rep W cs2.toList x2 fp2) :
  Calls Tryz.prog 12 #[.agg cs0, .int .i64 x1, .agg cs2] W fun e w' => e = .returned (.bool true) ∧ Chg [] W w' := by
 have HC : RowKit.Hid (Chg [] W W) := Chg.refl _ _
 obtain ⟨a10o0, l10o0, c10o0, _, a11o0, l11o0, c11o0, _, a12o0, l12o0, c12o0, _, ex, -⟩ := wldL_iff.1 o0
 obtain rfl := Array.toList_inj.1 (ex.trans (List.toList_toArray).symm); clear ex
 have HO0 := Lib.hid o0; clear o0
 obtain ⟨t0, ht0⟩ : ∃ t, t = totWld x0 := ⟨_, rfl⟩
 have n0 : 0 ≤ t0 := by rw [ht0]; exact totWld_nonneg _
 have HT0 := Lib.hid ht0; clear ht0
 obtain ⟨a6o2, l6o2, c6o2, _, a7o2, l7o2, c7o2, _, a8o2, l8o2, c8o2, _, ex, -⟩ := recL_iff.1 o2
 obtain rfl := Array.toList_inj.1 (ex.trans (List.toList_toArray).symm); clear ex
 have HO2 := Lib.hid o2; clear o2
 obtain ⟨t2, ht2⟩ : ∃ t, t = totRec x2 := ⟨_, rfl⟩
 have n2 : 0 ≤ t2 := by rw [ht2]; exact totRec_nonneg _
 have HT2 := Lib.hid ht2; clear ht2
 obtain ⟨r, hr⟩ : ∃ r, r = appendR x0 x1 x2 := ⟨_, rfl⟩
 have HS : RowKit.Hid (∀ (c0 : Array Value) (p0 : List Nat) (c2 : Array Value) (p2 : List Nat) (w : World), wldL.rep w c0.toList x0 p0 → recL.rep w c2.toList x2 p2 → totWld x0 ≤ 1048576 → totRec x2 ≤ 1048576 → Calls Tryz.prog 46 #[.agg c0, .int .i64 x1, .agg c2] w (NewAgg wrsL r w)) := by rw [hr]; exact fun c0 p0 c2 p2 w h0 h2 z0 z2 => spec_AppendRec x0 c0 p0 x1 x2 c2 p2 w h0 z0 o1 h2 z2
 have HI : RowKit.Hid (∀ (c0 : Array Value) (p0 : List Nat) (c2 : Array Value) (p2 : List Nat) (w : World), wldL.rep w c0.toList x0 p0 → recL.rep w c2.toList x2 p2 → totWld x0 ≤ 1048576 → totRec x2 ≤ 1048576 → Calls Tryz.prog 48 #[.agg c0, .int .i64 x1, .agg c2] w (NewAgg wrsL r w)) := by rw [hr]; exact fun c0 p0 c2 p2 w h0 h2 z0 z2 => impl_AppendRec x0 c0 p0 x1 x2 c2 p2 w h0 z0 o1 h2 z2
 have HR := Lib.hid hr; clear hr
 obtain ⟨K, hK⟩ : ∃ K, K = cntWld r.world := ⟨_, rfl⟩
 have hn : 0 ≤ K := by rw [hK]; exact cntWld_nonneg r.world
 have HK := Lib.hid hK; clear hK
 go_enter Tryz.func12, Tryz.ntmps12
 go_wp2_with (first | (refine load_wide (b := W.heap.size) rfl _ 28 rfl rfl infoLW Tryz.underlying28 (keep_alloc (new_at (by simp) _) _) rfl ?_) | (refine store_new rfl _ _ 48 rfl rfl rfl (by simp) infoWRl rfl rfl rfl ?_) | (refine store_new rfl _ _ 28 rfl rfl rfl (by simp) infoLW rfl rfl rfl ?_) | (refine store_new rfl _ _ 40 rfl rfl rfl (by simp) infoWd rfl rfl rfl ?_))
 refine (szWorld_any x0 #[.int .i64 x0.shape.groups, .int .i64 x0.shape.column, .int .i64 x0.shape.data, .int .i64 x0.shape.spare, .int .i64 x0.shape.rows, .int .i64 x0.shape.cap, .int .i64 x0.shape.batch, .int .i64 x0.shape.queue, .int .i64 x0.shape.stage, .slice a10o0 l10o0 c10o0, .slice a11o0 l11o0 c11o0, .slice a12o0 l12o0 c12o0, .int .i64 x0.writes, .int .i64 x0.stop, .bool x0.down] fp0 (1048576) _ (Lay.ext wldL HO0.out (Chg.alloc (Chg.alloc HC.out _) _)) (by omega) (by omega)).mono ?_
 rintro e w1 ⟨rfl, hc⟩
 rw [← HT0.out]
 obtain ⟨cA0, lA0, HBA0⟩ := bk hc (b := W.heap.size) (keep_alloc (new_at (by simp) _) _) (by simp)
 obtain ⟨cA2, lA2, HBA2⟩ := bk hc (b := W.heap.size + 1) (new_at (by simp) _) (by simp)
 have h := Chg.trans0 (Chg.alloc (Chg.alloc HC.out _) _) hc; clear HC; have HC := Lib.hid h; clear h
 clear hc
 by_cases m0 : 1048576 - t0 < 0
 ·rw [if_pos m0]
  go_wp2_with fail
  go_ret
  exact ⟨rfl, HC.out⟩
 rw [if_neg m0]
 have HZ0 := Lib.hid (show totWld x0 ≤ 1048576 by rw [← HT0.out]; omega)
 go_wp2_with (first | (refine load_wide rfl _ 28 rfl rfl infoLW Tryz.underlying28 HBA0.out rfl ?_) | (refine store_new rfl _ _ 48 rfl rfl rfl (by simp) infoWRl rfl rfl rfl ?_) | (refine store_new rfl _ _ 28 rfl rfl rfl (by simp) infoLW rfl rfl rfl ?_) | (refine store_new rfl _ _ 40 rfl rfl rfl (by simp) infoWd rfl rfl rfl ?_))
 refine (szRec_any x2 #[.int .i64 x2.kind, .int .i64 x2.seq, .string x2.name, .int .i64 x2.length, .int .i64 x2.group, .int .i64 x2.row, .slice a6o2 l6o2 c6o2, .slice a7o2 l7o2 c7o2, .slice a8o2 l8o2 c8o2] fp2 (1048576 - t0) _ (Lay.ext recL HO2.out HC.out) (by omega) (by omega)).mono ?_
 rintro e w2 ⟨rfl, hc⟩
 rw [← HT2.out]
 have h := bk hc HBA0.out (by simp); clear HBA0 cA0 lA0; obtain ⟨cA0, lA0, HBA0⟩ := h
 have h := bk hc HBA2.out (by simp); clear HBA2 cA2 lA2; obtain ⟨cA2, lA2, HBA2⟩ := h
 replace HC := hct HC hc
 clear hc
 by_cases m2 : 1048576 - t0 - t2 < 0
 ·rw [if_pos m2]
  go_wp2_with fail
  go_ret
  exact ⟨rfl, HC.out⟩
 rw [if_neg m2]
 have HZ2 := Lib.hid (show totRec x2 ≤ 1048576 by rw [← HT2.out]; omega)
 obtain ⟨M0, hM0⟩ : ∃ M, M = cntWld x0 := ⟨_, rfl⟩
 have hM0n : 0 ≤ M0 := by rw [hM0]; exact cntWld_nonneg _
 have hM0b : M0 ≤ 6291456 := by have h1 := cntWld_le x0; have h2 := HZ0.out; omega
 have HM0 := Lib.hid hM0; clear hM0
 obtain ⟨M2, hM2⟩ : ∃ M, M = cvRec x2 := ⟨_, rfl⟩
 have hM2n : 0 ≤ M2 := by rw [hM2]; exact cvRec_nonneg _
 have hM2b : M2 ≤ 6291456 := by have h1 := cvRec_le x2; have h2 := HZ2.out; omega
 have HM2 := Lib.hid hM2; clear hM2
 have hle : K ≤ 4611686018427387000 := by
  have hb := cntAppendR x0 x1 x2
  have h10 := cntWld_le x0; have h20 := HZ0.out; have h12 := cntRec_le2 x2; have h22 := HZ2.out; rw [HK.out, HR.out]; omega
 go_upto_region 8 with fail
 go_cut [8] (fun s8 wx => ∃ (m : Nat) (rc : Array Value) (fp : List Nat), s8 = .pointer (some ⟨m, 0, none⟩) ∧ w2.heap.size ≤ m ∧ wx.heap[m]? = some (.cells rc 48 (0, 0)) ∧ wrsL.rep wx rc.toList r fp ∧ Fresh w2.heap.size wx fp ∧ m ∉ fp ∧ Chg [] w2 wx)
 case first =>
  as_aux_lemma =>
   obtain ⟨SS, HSI, HSO⟩ := rg_cond (fun w' => Know (W.heap.size) #[.int .i64 x0.shape.groups, .int .i64 x0.shape.column, .int .i64 x0.shape.data, .int .i64 x0.shape.spare, .int .i64 x0.shape.rows, .int .i64 x0.shape.cap, .int .i64 x0.shape.batch, .int .i64 x0.shape.queue, .int .i64 x0.shape.stage, .slice a10o0 l10o0 c10o0, .slice a11o0 l11o0 c11o0, .slice a12o0 l12o0 c12o0, .int .i64 x0.writes, .int .i64 x0.stop, .bool x0.down] w' ∧ Know (W.heap.size + 1) #[.int .i64 x2.kind, .int .i64 x2.seq, .string x2.name, .int .i64 x2.length, .int .i64 x2.group, .int .i64 x2.row, .slice a6o2 l6o2 c6o2, .slice a7o2 l7o2 c7o2, .slice a8o2 l8o2 c8o2] w')
   have hS0 := HSI.out (w2.drew) ⟨(Know.of (keep_drew HBA0.out)), (Know.of (keep_drew HBA2.out))⟩
   refine rg_start SS (by kernel_rfl) hS0 ?_
   have HC0 := Lib.hid ((Chg.refl [] w2).drew)
   refine rgL 0 hS0 HSO ?_
   refine rgT 2 hS0 ?_
   refine rgL 3 hS0 HSO ?_
   refine rg_call2 1 6 rfl rfl (by kernel_rfl) (fun K hK => ?_) (fun K hK => ?_)
   ·go_simp
    go_at_call 15
    refine (toWorld_any x0 #[.int .i64 x0.shape.groups, .int .i64 x0.shape.column, .int .i64 x0.shape.data, .int .i64 x0.shape.spare, .int .i64 x0.shape.rows, .int .i64 x0.shape.cap, .int .i64 x0.shape.batch, .int .i64 x0.shape.queue, .int .i64 x0.shape.stage, .slice a10o0 l10o0 c10o0, .slice a11o0 l11o0 c11o0, .slice a12o0 l12o0 c12o0, .int .i64 x0.writes, .int .i64 x0.stop, .bool x0.down] fp0 _ (wldL.ext HO0.out (HC.out.trans0 HC0.out)) HZ0.out).mono ?_
    rintro e v1 ⟨z0, p0, rfl, hs, hf, hc⟩
    have E1 := Lib.hid hc; have HC1 := Lib.hid (HC0.out.trans0 hc); have HV0 := Lib.hid hs; clear hs hf hc
    go_wp2_with fail
    refine hK.out _ _ (HSI.out _ ⟨(Know.of (HC1.out.keep0 HBA0.out)), (Know.of (HC1.out.keep0 HBA2.out))⟩) (fun hS4 => ?_)
    clear hK K
    try simp only [Act.put, List.setIfInBounds_toArray, List.set_cons_zero, List.set_cons_succ]
    refine rg_call2 4 6 rfl rfl (by kernel_rfl) (fun K hK => ?_) (fun K hK => ?_)
    ·go_simp
     go_at_call 47
     refine (toRec_any x2 #[.int .i64 x2.kind, .int .i64 x2.seq, .string x2.name, .int .i64 x2.length, .int .i64 x2.group, .int .i64 x2.row, .slice a6o2 l6o2 c6o2, .slice a7o2 l7o2 c7o2, .slice a8o2 l8o2 c8o2] fp2 _ (recL.ext HO2.out (HC.out.trans0 HC1.out)) HZ2.out).mono ?_
     rintro e v2 ⟨z2, p2, rfl, hs, hf, hc⟩
     have E2 := Lib.hid hc; have HC2 := Lib.hid (HC1.out.trans0 hc); have HV2 := Lib.hid hs; clear hs hf hc
     go_wp2_with fail
     refine hK.out _ _ (HSI.out _ ⟨(Know.of (HC2.out.keep0 HBA0.out)), (Know.of (HC2.out.keep0 HBA2.out))⟩) (fun hS5 => ?_)
     clear hK K
     try simp only [Act.put, List.setIfInBounds_toArray, List.set_cons_zero, List.set_cons_succ]
     refine rg_call2 5 6 rfl rfl (by kernel_rfl) (fun K hK => ?_) (fun K hK => ?_)
     ·go_simp
      go_at_call 46
      refine (HS.out z0 p0 z2 p2 _ (wldL.ext HV0.out E2.out) HV2.out HZ0.out HZ2.out).mono ?_
      rintro e v3 ⟨zr, pr, rfl, hs, hf, hc⟩
      obtain ⟨a10r3, l10r3, c10r3, a11r3, l11r3, c11r3, a12r3, l12r3, c12r3, rfl, -, -⟩ := wrs_open hs
      have E3 := Lib.hid hc; have HC3 := Lib.hid (HC2.out.trans0 hc); have HRR := Lib.hid hs; have HRF := Lib.hid hf; clear hs hf hc
      go_wp2_with fail
      refine hK.out _ _ (HSI.out _ ⟨(Know.of (HC3.out.keep0 HBA0.out)), (Know.of (HC3.out.keep0 HBA2.out))⟩) (fun hS6 => ?_)
      clear hK K
      try simp only [Act.put, List.setIfInBounds_toArray, List.set_cons_zero, List.set_cons_succ]
      refine rg_call 6 rfl (by kernel_rfl) (fun K hK => ?_)
      have HM := Lib.hid (show w2.heap.size ≤ v3.heap.size from HC3.out.size)
      have E4 := Lib.hid ((Chg.refl [] v3).alloc zWR); have HC4 := Lib.hid (HC3.out.trans0 E4.out)
      have HROW := Lib.hid (new_alloc v3 zWR)
      go_simp
      refine hK.out _ _ (HSI.out _ ⟨(Know.of (HC4.out.keep0 HBA0.out)), (Know.of (HC4.out.keep0 HBA2.out))⟩) (fun hS7 => ?_)
      clear hK K
      try simp only [Act.put, List.setIfInBounds_toArray, List.set_cons_zero, List.set_cons_succ]
      refine rg_call 7 rfl (by kernel_rfl) (fun K hK => ?_)
      refine store_step rfl _ _ 48 rfl rfl rfl infoWRl HROW.out rfl rfl rfl ?_
      intro w9 hb9 hc9
      have HB9 := Lib.hid hb9
      have HMF := Lib.hid (show v3.heap.size ∉ pr from fun hb => Nat.lt_irrefl _ (HRF.out.lts _ hb))
      have HR9 := Lib.hid (wrsL.chg (wrsL.ext HRR.out E4.out) hc9 (fun y hy hm => HMF.out (by rw [List.mem_singleton] at hm; exact hm ▸ hy)))
      have HF9 := Lib.hid (((HRF.out.chg E4.out).mono (C := w2.heap.size) HC2.out.size).chg hc9)
      have HC9 := Lib.hid (HC4.out.trans hc9 (fun y hy => .inr (by rw [List.mem_singleton] at hy; subst hy; exact HM.out)))
      refine hK.out _ _ (HSI.out _ ⟨(Know.of (hc9.keepb (HC4.out.keep0 HBA0.out) (fun h => absurd (List.mem_singleton.1 h) (Nat.ne_of_lt (Nat.lt_of_lt_of_le lA0 HM.out))))), (Know.of (hc9.keepb (HC4.out.keep0 HBA2.out) (fun h => absurd (List.mem_singleton.1 h) (Nat.ne_of_lt (Nat.lt_of_lt_of_le lA2 HM.out)))))⟩) (fun hS8 => ?_)
      clear hK K
      try simp only [Act.put]
      refine wpAnyH_done (by kernel_rfl) ?_ _
      go_wp2_with fail
      go_meet
      exact ⟨_, _, _, rfl, HM.out, HB9.out, HR9.out, HF9.out, HMF.out, HC9.out⟩
     ·have HM := Lib.hid (show w2.heap.size ≤ v2.heap.size from HC2.out.size)
      have E3 := Lib.hid ((Chg.refl [] v2).alloc zWR); have HC3 := Lib.hid (HC2.out.trans0 E3.out)
      have HROW := Lib.hid (new_alloc v2 zWR)
      go_simp
      refine hK.out _ _ (HSI.out _ ⟨(Know.of (HC3.out.keep0 HBA0.out)), (Know.of (HC3.out.keep0 HBA2.out))⟩) (fun hS6 => ?_)
      clear hK K
      try simp only [Act.put, List.setIfInBounds_toArray, List.set_cons_zero, List.set_cons_succ]
      refine rg_call 5 rfl (by kernel_rfl) (fun K hK => ?_)
      go_simp
      go_at_call 46
      refine (HS.out z0 p0 z2 p2 _ (wldL.ext HV0.out (E2.out.trans0 E3.out)) (recL.ext HV2.out E3.out) HZ0.out HZ2.out).mono ?_
      rintro e v4 ⟨zr, pr, rfl, hs, hf, hc⟩
      obtain ⟨a10r3, l10r3, c10r3, a11r3, l11r3, c11r3, a12r3, l12r3, c12r3, rfl, -, -⟩ := wrs_open hs
      have E4 := Lib.hid hc; have HC4 := Lib.hid (HC3.out.trans0 hc); have HRR := Lib.hid hs; have HRF := Lib.hid hf; clear hs hf hc
      go_wp2_with fail
      refine hK.out _ _ (HSI.out _ ⟨(Know.of (HC4.out.keep0 HBA0.out)), (Know.of (HC4.out.keep0 HBA2.out))⟩) (fun hS7 => ?_)
      clear hK K
      try simp only [Act.put, List.setIfInBounds_toArray, List.set_cons_zero, List.set_cons_succ]
      refine rg_call 7 rfl (by kernel_rfl) (fun K hK => ?_)
      refine store_step rfl _ _ 48 rfl rfl rfl infoWRl (E4.out.keep0 HROW.out) rfl rfl rfl ?_
      intro w9 hb9 hc9
      have HB9 := Lib.hid hb9
      have HMF := Lib.hid (show v2.heap.size ∉ pr from fun hb => Nat.lt_irrefl _ (Nat.lt_of_lt_of_le (ltOf HROW.out) (HRF.out.2 _ hb).1))
      have HR9 := Lib.hid (wrsL.chg HRR.out hc9 (fun y hy hm => HMF.out (by rw [List.mem_singleton] at hm; exact hm ▸ hy)))
      have HF9 := Lib.hid (((HRF.out).mono (C := w2.heap.size) HC3.out.size).chg hc9)
      have HC9 := Lib.hid (HC4.out.trans hc9 (fun y hy => .inr (by rw [List.mem_singleton] at hy; subst hy; exact HM.out)))
      refine hK.out _ _ (HSI.out _ ⟨(Know.of (hc9.keepb (HC4.out.keep0 HBA0.out) (fun h => absurd (List.mem_singleton.1 h) (Nat.ne_of_lt (Nat.lt_of_lt_of_le lA0 HM.out))))), (Know.of (hc9.keepb (HC4.out.keep0 HBA2.out) (fun h => absurd (List.mem_singleton.1 h) (Nat.ne_of_lt (Nat.lt_of_lt_of_le lA2 HM.out)))))⟩) (fun hS8 => ?_)
      clear hK K
      try simp only [Act.put]
      refine wpAnyH_done (by kernel_rfl) ?_ _
      go_wp2_with fail
      go_meet
      exact ⟨_, _, _, rfl, HM.out, HB9.out, HR9.out, HF9.out, HMF.out, HC9.out⟩
    ·have HM := Lib.hid (show w2.heap.size ≤ v1.heap.size from HC1.out.size)
     have E2 := Lib.hid ((Chg.refl [] v1).alloc zWR); have HC2 := Lib.hid (HC1.out.trans0 E2.out)
     have HROW := Lib.hid (new_alloc v1 zWR)
     go_simp
     refine hK.out _ _ (HSI.out _ ⟨(Know.of (HC2.out.keep0 HBA0.out)), (Know.of (HC2.out.keep0 HBA2.out))⟩) (fun hS5 => ?_)
     clear hK K
     try simp only [Act.put, List.setIfInBounds_toArray, List.set_cons_zero, List.set_cons_succ]
     refine rg_call 4 rfl (by kernel_rfl) (fun K hK => ?_)
     go_simp
     go_at_call 47
     refine (toRec_any x2 #[.int .i64 x2.kind, .int .i64 x2.seq, .string x2.name, .int .i64 x2.length, .int .i64 x2.group, .int .i64 x2.row, .slice a6o2 l6o2 c6o2, .slice a7o2 l7o2 c7o2, .slice a8o2 l8o2 c8o2] fp2 _ (recL.ext HO2.out (HC.out.trans0 HC2.out)) HZ2.out).mono ?_
     rintro e v3 ⟨z2, p2, rfl, hs, hf, hc⟩
     have E3 := Lib.hid hc; have HC3 := Lib.hid (HC2.out.trans0 hc); have HV2 := Lib.hid hs; clear hs hf hc
     go_wp2_with fail
     refine hK.out _ _ (HSI.out _ ⟨(Know.of (HC3.out.keep0 HBA0.out)), (Know.of (HC3.out.keep0 HBA2.out))⟩) (fun hS6 => ?_)
     clear hK K
     try simp only [Act.put, List.setIfInBounds_toArray, List.set_cons_zero, List.set_cons_succ]
     refine rg_call 5 rfl (by kernel_rfl) (fun K hK => ?_)
     go_simp
     go_at_call 46
     refine (HS.out z0 p0 z2 p2 _ (wldL.ext HV0.out (E2.out.trans0 E3.out)) HV2.out HZ0.out HZ2.out).mono ?_
     rintro e v4 ⟨zr, pr, rfl, hs, hf, hc⟩
     obtain ⟨a10r3, l10r3, c10r3, a11r3, l11r3, c11r3, a12r3, l12r3, c12r3, rfl, -, -⟩ := wrs_open hs
     have E4 := Lib.hid hc; have HC4 := Lib.hid (HC3.out.trans0 hc); have HRR := Lib.hid hs; have HRF := Lib.hid hf; clear hs hf hc
     go_wp2_with fail
     refine hK.out _ _ (HSI.out _ ⟨(Know.of (HC4.out.keep0 HBA0.out)), (Know.of (HC4.out.keep0 HBA2.out))⟩) (fun hS7 => ?_)
     clear hK K
     try simp only [Act.put, List.setIfInBounds_toArray, List.set_cons_zero, List.set_cons_succ]
     refine rg_call 7 rfl (by kernel_rfl) (fun K hK => ?_)
     refine store_step rfl _ _ 48 rfl rfl rfl infoWRl ((E3.out.trans0 E4.out).keep0 HROW.out) rfl rfl rfl ?_
     intro w9 hb9 hc9
     have HB9 := Lib.hid hb9
     have HMF := Lib.hid (show v1.heap.size ∉ pr from fun hb => Nat.lt_irrefl _ (Nat.lt_of_lt_of_le (ltOf (E3.out.keep0 HROW.out)) (HRF.out.2 _ hb).1))
     have HR9 := Lib.hid (wrsL.chg HRR.out hc9 (fun y hy hm => HMF.out (by rw [List.mem_singleton] at hm; exact hm ▸ hy)))
     have HF9 := Lib.hid (((HRF.out).mono (C := w2.heap.size) HC3.out.size).chg hc9)
     have HC9 := Lib.hid (HC4.out.trans hc9 (fun y hy => .inr (by rw [List.mem_singleton] at hy; subst hy; exact HM.out)))
     refine hK.out _ _ (HSI.out _ ⟨(Know.of (hc9.keepb (HC4.out.keep0 HBA0.out) (fun h => absurd (List.mem_singleton.1 h) (Nat.ne_of_lt (Nat.lt_of_lt_of_le lA0 HM.out))))), (Know.of (hc9.keepb (HC4.out.keep0 HBA2.out) (fun h => absurd (List.mem_singleton.1 h) (Nat.ne_of_lt (Nat.lt_of_lt_of_le lA2 HM.out)))))⟩) (fun hS8 => ?_)
     clear hK K
     try simp only [Act.put]
     refine wpAnyH_done (by kernel_rfl) ?_ _
     go_wp2_with fail
     go_meet
     exact ⟨_, _, _, rfl, HM.out, HB9.out, HR9.out, HF9.out, HMF.out, HC9.out⟩
   ·have HM := Lib.hid (show w2.heap.size ≤ w2.heap.size from HC0.out.size)
    have HC1 := Lib.hid (((Chg.refl [] w2).alloc zWR).drew)
    have HROW := Lib.hid (keep_drew (new_alloc w2 zWR))
    go_simp
    refine hK.out _ _ (HSI.out _ ⟨(Know.of (HC1.out.keep0 HBA0.out)), (Know.of (HC1.out.keep0 HBA2.out))⟩) (fun hS4 => ?_)
    clear hK K
    try simp only [Act.put, List.setIfInBounds_toArray, List.set_cons_zero, List.set_cons_succ]
    refine rg_call 1 rfl (by kernel_rfl) (fun K hK => ?_)
    go_simp
    go_at_call 15
    refine (toWorld_any x0 #[.int .i64 x0.shape.groups, .int .i64 x0.shape.column, .int .i64 x0.shape.data, .int .i64 x0.shape.spare, .int .i64 x0.shape.rows, .int .i64 x0.shape.cap, .int .i64 x0.shape.batch, .int .i64 x0.shape.queue, .int .i64 x0.shape.stage, .slice a10o0 l10o0 c10o0, .slice a11o0 l11o0 c11o0, .slice a12o0 l12o0 c12o0, .int .i64 x0.writes, .int .i64 x0.stop, .bool x0.down] fp0 _ (wldL.ext HO0.out (HC.out.trans0 HC1.out)) HZ0.out).mono ?_
    rintro e v2 ⟨z0, p0, rfl, hs, hf, hc⟩
    have E2 := Lib.hid hc; have HC2 := Lib.hid (HC1.out.trans0 hc); have HV0 := Lib.hid hs; clear hs hf hc
    go_wp2_with fail
    refine hK.out _ _ (HSI.out _ ⟨(Know.of (HC2.out.keep0 HBA0.out)), (Know.of (HC2.out.keep0 HBA2.out))⟩) (fun hS5 => ?_)
    clear hK K
    try simp only [Act.put, List.setIfInBounds_toArray, List.set_cons_zero, List.set_cons_succ]
    refine rg_call 4 rfl (by kernel_rfl) (fun K hK => ?_)
    go_simp
    go_at_call 47
    refine (toRec_any x2 #[.int .i64 x2.kind, .int .i64 x2.seq, .string x2.name, .int .i64 x2.length, .int .i64 x2.group, .int .i64 x2.row, .slice a6o2 l6o2 c6o2, .slice a7o2 l7o2 c7o2, .slice a8o2 l8o2 c8o2] fp2 _ (recL.ext HO2.out (HC.out.trans0 HC2.out)) HZ2.out).mono ?_
    rintro e v3 ⟨z2, p2, rfl, hs, hf, hc⟩
    have E3 := Lib.hid hc; have HC3 := Lib.hid (HC2.out.trans0 hc); have HV2 := Lib.hid hs; clear hs hf hc
    go_wp2_with fail
    refine hK.out _ _ (HSI.out _ ⟨(Know.of (HC3.out.keep0 HBA0.out)), (Know.of (HC3.out.keep0 HBA2.out))⟩) (fun hS6 => ?_)
    clear hK K
    try simp only [Act.put, List.setIfInBounds_toArray, List.set_cons_zero, List.set_cons_succ]
    refine rg_call 5 rfl (by kernel_rfl) (fun K hK => ?_)
    go_simp
    go_at_call 46
    refine (HS.out z0 p0 z2 p2 _ (wldL.ext HV0.out E3.out) HV2.out HZ0.out HZ2.out).mono ?_
    rintro e v4 ⟨zr, pr, rfl, hs, hf, hc⟩
    obtain ⟨a10r3, l10r3, c10r3, a11r3, l11r3, c11r3, a12r3, l12r3, c12r3, rfl, -, -⟩ := wrs_open hs
    have E4 := Lib.hid hc; have HC4 := Lib.hid (HC3.out.trans0 hc); have HRR := Lib.hid hs; have HRF := Lib.hid hf; clear hs hf hc
    go_wp2_with fail
    refine hK.out _ _ (HSI.out _ ⟨(Know.of (HC4.out.keep0 HBA0.out)), (Know.of (HC4.out.keep0 HBA2.out))⟩) (fun hS7 => ?_)
    clear hK K
    try simp only [Act.put, List.setIfInBounds_toArray, List.set_cons_zero, List.set_cons_succ]
    refine rg_call 7 rfl (by kernel_rfl) (fun K hK => ?_)
    refine store_step rfl _ _ 48 rfl rfl rfl infoWRl (((E2.out.trans0 E3.out).trans0 E4.out).keep0 HROW.out) rfl rfl rfl ?_
    intro w9 hb9 hc9
    have HB9 := Lib.hid hb9
    have HMF := Lib.hid (show w2.heap.size ∉ pr from fun hb => Nat.lt_irrefl _ (Nat.lt_of_lt_of_le (ltOf ((E2.out.trans0 E3.out).keep0 HROW.out)) (HRF.out.2 _ hb).1))
    have HR9 := Lib.hid (wrsL.chg HRR.out hc9 (fun y hy hm => HMF.out (by rw [List.mem_singleton] at hm; exact hm ▸ hy)))
    have HF9 := Lib.hid (((HRF.out).mono (C := w2.heap.size) HC3.out.size).chg hc9)
    have HC9 := Lib.hid (HC4.out.trans hc9 (fun y hy => .inr (by rw [List.mem_singleton] at hy; subst hy; exact HM.out)))
    refine hK.out _ _ (HSI.out _ ⟨(Know.of (hc9.keepb (HC4.out.keep0 HBA0.out) (fun h => absurd (List.mem_singleton.1 h) (Nat.ne_of_lt (Nat.lt_of_lt_of_le lA0 HM.out))))), (Know.of (hc9.keepb (HC4.out.keep0 HBA2.out) (fun h => absurd (List.mem_singleton.1 h) (Nat.ne_of_lt (Nat.lt_of_lt_of_le lA2 HM.out)))))⟩) (fun hS8 => ?_)
    clear hK K
    try simp only [Act.put]
    refine wpAnyH_done (by kernel_rfl) ?_ _
    go_wp2_with fail
    go_meet
    exact ⟨_, _, _, rfl, HM.out, HB9.out, HR9.out, HF9.out, HMF.out, HC9.out⟩
 case rest =>
 revert wc; intro w3 hcut
 obtain ⟨mQ, zr, p3, rfl, hm, hrow, hs, hf, hmf, hc⟩ := hcut
 obtain ⟨a10r3, l10r3, c10r3, a11r3, l11r3, c11r3, a12r3, l12r3, c12r3, rfl, -, -⟩ := wrs_open hs
 have HMQ := Lib.hid hm; have HRWQ := Lib.hid hrow; have DBBQ_Q := Lib.hid hmf; clear hm hrow hmf
 have hG := fun (x : Nat) (hx : x ∈ p3) => Nat.le_trans HC.out.size (hf.2 x hx).1
 have HGQ := Lib.hid hG; clear hG
 have DBA0_Q := Lib.hid (fun hb => Nat.lt_irrefl _ (Nat.lt_of_lt_of_le (ltOf HBA0.out) (hf.2 _ hb).1) : W.heap.size ∉ p3)
 have DBA2_Q := Lib.hid (fun hb => Nat.lt_irrefl _ (Nat.lt_of_lt_of_le (ltOf HBA2.out) (hf.2 _ hb).1) : W.heap.size + 1 ∉ p3)
 have h := bk hc HBA0.out (by simp); clear HBA0 cA0 lA0; obtain ⟨cA0, lA0, HBA0⟩ := h
 have h := bk hc HBA2.out (by simp); clear HBA2 cA2 lA2; obtain ⟨cA2, lA2, HBA2⟩ := h
 replace HC := hct HC hc
 have HQ := Lib.hid hs; have HFQ := Lib.hid (hf.mono (Nat.zero_le _)); clear hs hf
 clear hc
 have cBQ := cellsOf HRWQ.out; have lBQ := ltOf HRWQ.out; have HBBQ := Lib.hid HRWQ.out; clear HRWQ
 as_aux_lemma =>
  go_wp2_with (first | (refine load_wide rfl _ 28 rfl rfl infoLW Tryz.underlying28 HBA0.out rfl ?_) | (refine load_wide rfl _ 48 rfl rfl infoWRl Tryz.underlying48 HBBQ.out rfl ?_) | (refine store_new rfl _ _ 48 rfl rfl rfl (by simp) infoWRl rfl rfl rfl ?_) | (refine store_new rfl _ _ 28 rfl rfl rfl (by simp) infoLW rfl rfl rfl ?_) | (refine store_new rfl _ _ 40 rfl rfl rfl (by simp) infoWd rfl rfl rfl ?_))
  refine (toWorld_any x0 #[.int .i64 x0.shape.groups, .int .i64 x0.shape.column, .int .i64 x0.shape.data, .int .i64 x0.shape.spare, .int .i64 x0.shape.rows, .int .i64 x0.shape.cap, .int .i64 x0.shape.batch, .int .i64 x0.shape.queue, .int .i64 x0.shape.stage, .slice a10o0 l10o0 c10o0, .slice a11o0 l11o0 c11o0, .slice a12o0 l12o0 c12o0, .int .i64 x0.writes, .int .i64 x0.stop, .bool x0.down] fp0 _ (Lay.ext wldL HO0.out HC.out) HZ0.out).mono ?_
  rintro e w4 ⟨z4, p4, rfl, hs, hf, hc⟩
  obtain ⟨a10q4, l10q4, c10q4, _, a11q4, l11q4, c11q4, _, a12q4, l12q4, c12q4, _, ex, -⟩ := wldL_iff.1 hs
  obtain rfl := Array.toList_inj.1 (ex.trans (List.toList_toArray).symm); clear ex
  have hG := fun (x : Nat) (hx : x ∈ p4) => Nat.le_trans HC.out.size (hf.2 x hx).1
  have HGX0 := Lib.hid hG; clear hG
  have hD := fun (b : Nat) (hb : b ∈ p3) (hb' : b ∈ p4) => Nat.lt_irrefl _ (Nat.lt_of_lt_of_le ((Lay.lt wrsL HQ.out) b hb) (hf.2 b hb').1)
  have DQ_X0 := Lib.hid hD; have DX0_Q := Lib.hid (fun (b : Nat) (hb : b ∈ p4) (hb' : b ∈ p3) => hD b hb' hb); clear hD
  have DBA0_X0 := Lib.hid (fun hb => Nat.lt_irrefl _ (Nat.lt_of_lt_of_le (ltOf HBA0.out) (hf.2 _ hb).1) : W.heap.size ∉ p4)
  have DBA2_X0 := Lib.hid (fun hb => Nat.lt_irrefl _ (Nat.lt_of_lt_of_le (ltOf HBA2.out) (hf.2 _ hb).1) : W.heap.size + 1 ∉ p4)
  have DBBQ_X0 := Lib.hid (fun hb => Nat.lt_irrefl _ (Nat.lt_of_lt_of_le (ltOf HBBQ.out) (hf.2 _ hb).1) : mQ ∉ p4)
  replace HQ := hre HQ hc
  have h := Fresh.chg HFQ.out hc; clear HFQ; have HFQ := Lib.hid h; clear h
  have h := bk hc HBA0.out (by simp); clear HBA0 cA0 lA0; obtain ⟨cA0, lA0, HBA0⟩ := h
  have h := bk hc HBA2.out (by simp); clear HBA2 cA2 lA2; obtain ⟨cA2, lA2, HBA2⟩ := h
  have h := bk hc HBBQ.out (by simp); clear HBBQ cBQ lBQ; obtain ⟨cBQ, lBQ, HBBQ⟩ := h
  replace HC := hct HC hc
  have HX0 := Lib.hid hs; have HFX0 := Lib.hid (hf.mono (Nat.zero_le _)); clear hs hf
  clear hc
  go_wp2_with (first | (refine load_wide rfl _ 28 rfl rfl infoLW Tryz.underlying28 (keep_alloc HBA0.out _) rfl ?_) | (refine load_wide rfl _ 48 rfl rfl infoWRl Tryz.underlying48 (keep_alloc HBBQ.out _) rfl ?_) | (refine load_wide (b := w4.heap.size) rfl _ 40 rfl rfl infoWd Tryz.underlying40 (new_at (by simp) _) rfl ?_) | (refine store_new rfl _ _ 48 rfl rfl rfl (by simp) infoWRl rfl rfl rfl ?_) | (refine store_new rfl _ _ 28 rfl rfl rfl (by simp) infoLW rfl rfl rfl ?_) | (refine store_new rfl _ _ 40 rfl rfl rfl (by simp) infoWd rfl rfl rfl ?_))
  refine (toRec_any x2 #[.int .i64 x2.kind, .int .i64 x2.seq, .string x2.name, .int .i64 x2.length, .int .i64 x2.group, .int .i64 x2.row, .slice a6o2 l6o2 c6o2, .slice a7o2 l7o2 c7o2, .slice a8o2 l8o2 c8o2] fp2 _ (Lay.ext recL HO2.out (Chg.alloc HC.out _)) HZ2.out).mono ?_
  rintro e w5 ⟨z5, p5, rfl, hs, hf, hc⟩
  obtain ⟨a6q5, l6q5, c6q5, _, a7q5, l7q5, c7q5, _, a8q5, l8q5, c8q5, _, ex, -⟩ := recL_iff.1 hs
  obtain rfl := Array.toList_inj.1 (ex.trans (List.toList_toArray).symm); clear ex
  have hG := fun (x : Nat) (hx : x ∈ p5) => Nat.le_trans HC.out.size (Nat.le_trans (show w4.heap.size ≤ (w4.alloc (.cells #[.int .i64 x0.shape.groups, .int .i64 x0.shape.column, .int .i64 x0.shape.data, .int .i64 x0.shape.spare, .int .i64 x0.shape.rows, .int .i64 x0.shape.cap, .int .i64 x0.shape.batch, .int .i64 x0.shape.queue, .int .i64 x0.shape.stage, .slice a10q4 l10q4 c10q4, .slice a11q4 l11q4 c11q4, .slice a12q4 l12q4 c12q4, .int .i64 x0.writes, .int .i64 x0.stop, .bool x0.down] 40)).heap.size by simp) (hf.2 x hx).1)
  have HGX2 := Lib.hid hG; clear hG
  have hD := fun (b : Nat) (hb : b ∈ p3) (hb' : b ∈ p5) => Nat.lt_irrefl _ (Nat.lt_of_lt_of_le ((Lay.lt wrsL (Lay.ext wrsL HQ.out (Chg.alloc (Chg.refl [] w4) _))) b hb) (hf.2 b hb').1)
  have DQ_X2 := Lib.hid hD; have DX2_Q := Lib.hid (fun (b : Nat) (hb : b ∈ p5) (hb' : b ∈ p3) => hD b hb' hb); clear hD
  have hD := fun (b : Nat) (hb : b ∈ p4) (hb' : b ∈ p5) => Nat.lt_irrefl _ (Nat.lt_of_lt_of_le ((Lay.lt wldL (Lay.ext wldL HX0.out (Chg.alloc (Chg.refl [] w4) _))) b hb) (hf.2 b hb').1)
  have DX0_X2 := Lib.hid hD; have DX2_X0 := Lib.hid (fun (b : Nat) (hb : b ∈ p5) (hb' : b ∈ p4) => hD b hb' hb); clear hD
  have DBA0_X2 := Lib.hid (fun hb => Nat.lt_irrefl _ (Nat.lt_of_lt_of_le (ltOf (show (w4.alloc (.cells #[.int .i64 x0.shape.groups, .int .i64 x0.shape.column, .int .i64 x0.shape.data, .int .i64 x0.shape.spare, .int .i64 x0.shape.rows, .int .i64 x0.shape.cap, .int .i64 x0.shape.batch, .int .i64 x0.shape.queue, .int .i64 x0.shape.stage, .slice a10q4 l10q4 c10q4, .slice a11q4 l11q4 c11q4, .slice a12q4 l12q4 c12q4, .int .i64 x0.writes, .int .i64 x0.stop, .bool x0.down] 40)).heap[W.heap.size]? = some (.cells #[.int .i64 x0.shape.groups, .int .i64 x0.shape.column, .int .i64 x0.shape.data, .int .i64 x0.shape.spare, .int .i64 x0.shape.rows, .int .i64 x0.shape.cap, .int .i64 x0.shape.batch, .int .i64 x0.shape.queue, .int .i64 x0.shape.stage, .slice a10o0 l10o0 c10o0, .slice a11o0 l11o0 c11o0, .slice a12o0 l12o0 c12o0, .int .i64 x0.writes, .int .i64 x0.stop, .bool x0.down] 28) from (by refine keep_alloc ?_ _; exact HBA0.out))) (hf.2 _ hb).1) : W.heap.size ∉ p5)
  have DBA2_X2 := Lib.hid (fun hb => Nat.lt_irrefl _ (Nat.lt_of_lt_of_le (ltOf (show (w4.alloc (.cells #[.int .i64 x0.shape.groups, .int .i64 x0.shape.column, .int .i64 x0.shape.data, .int .i64 x0.shape.spare, .int .i64 x0.shape.rows, .int .i64 x0.shape.cap, .int .i64 x0.shape.batch, .int .i64 x0.shape.queue, .int .i64 x0.shape.stage, .slice a10q4 l10q4 c10q4, .slice a11q4 l11q4 c11q4, .slice a12q4 l12q4 c12q4, .int .i64 x0.writes, .int .i64 x0.stop, .bool x0.down] 40)).heap[W.heap.size + 1]? = some (.cells #[.int .i64 x2.kind, .int .i64 x2.seq, .string x2.name, .int .i64 x2.length, .int .i64 x2.group, .int .i64 x2.row, .slice a6o2 l6o2 c6o2, .slice a7o2 l7o2 c7o2, .slice a8o2 l8o2 c8o2] 65) from (by refine keep_alloc ?_ _; exact HBA2.out))) (hf.2 _ hb).1) : W.heap.size + 1 ∉ p5)
  have DBBQ_X2 := Lib.hid (fun hb => Nat.lt_irrefl _ (Nat.lt_of_lt_of_le (ltOf (show (w4.alloc (.cells #[.int .i64 x0.shape.groups, .int .i64 x0.shape.column, .int .i64 x0.shape.data, .int .i64 x0.shape.spare, .int .i64 x0.shape.rows, .int .i64 x0.shape.cap, .int .i64 x0.shape.batch, .int .i64 x0.shape.queue, .int .i64 x0.shape.stage, .slice a10q4 l10q4 c10q4, .slice a11q4 l11q4 c11q4, .slice a12q4 l12q4 c12q4, .int .i64 x0.writes, .int .i64 x0.stop, .bool x0.down] 40)).heap[mQ]? = some (.cells #[.int .i64 r.code, .int .i64 r.world.shape.groups, .int .i64 r.world.shape.column, .int .i64 r.world.shape.data, .int .i64 r.world.shape.spare, .int .i64 r.world.shape.rows, .int .i64 r.world.shape.cap, .int .i64 r.world.shape.batch, .int .i64 r.world.shape.queue, .int .i64 r.world.shape.stage, .slice a10r3 l10r3 c10r3, .slice a11r3 l11r3 c11r3, .slice a12r3 l12r3 c12r3, .int .i64 r.world.writes, .int .i64 r.world.stop, .bool r.world.down] 48) from (by refine keep_alloc ?_ _; exact HBBQ.out))) (hf.2 _ hb).1) : mQ ∉ p5)
  have DBC0_X2 := Lib.hid (fun hb => Nat.lt_irrefl _ (Nat.lt_of_lt_of_le (ltOf (show (w4.alloc (.cells #[.int .i64 x0.shape.groups, .int .i64 x0.shape.column, .int .i64 x0.shape.data, .int .i64 x0.shape.spare, .int .i64 x0.shape.rows, .int .i64 x0.shape.cap, .int .i64 x0.shape.batch, .int .i64 x0.shape.queue, .int .i64 x0.shape.stage, .slice a10q4 l10q4 c10q4, .slice a11q4 l11q4 c11q4, .slice a12q4 l12q4 c12q4, .int .i64 x0.writes, .int .i64 x0.stop, .bool x0.down] 40)).heap[w4.heap.size]? = some (.cells #[.int .i64 x0.shape.groups, .int .i64 x0.shape.column, .int .i64 x0.shape.data, .int .i64 x0.shape.spare, .int .i64 x0.shape.rows, .int .i64 x0.shape.cap, .int .i64 x0.shape.batch, .int .i64 x0.shape.queue, .int .i64 x0.shape.stage, .slice a10q4 l10q4 c10q4, .slice a11q4 l11q4 c11q4, .slice a12q4 l12q4 c12q4, .int .i64 x0.writes, .int .i64 x0.stop, .bool x0.down] 40) from (by exact new_at (by simp) _))) (hf.2 _ hb).1) : w4.heap.size ∉ p5)
  have DBC0_Q := Lib.hid (fun hb => Nat.lt_irrefl _ (Nat.lt_of_lt_of_le ((Lay.lt wrsL HQ.out) _ hb) (show w4.heap.size ≤ w4.heap.size by omega)) : w4.heap.size ∉ p3)
  have DBC0_X0 := Lib.hid (fun hb => Nat.lt_irrefl _ (Nat.lt_of_lt_of_le ((Lay.lt wldL HX0.out) _ hb) (show w4.heap.size ≤ w4.heap.size by omega)) : w4.heap.size ∉ p4)
  have h := (Lay.ext wrsL (Lay.ext wrsL HQ.out (Chg.alloc (Chg.refl [] w4) _)) hc); clear HQ; have HQ := Lib.hid h; clear h
  have h := (Lay.ext wldL (Lay.ext wldL HX0.out (Chg.alloc (Chg.refl [] w4) _)) hc); clear HX0; have HX0 := Lib.hid h; clear h
  have h := Fresh.chg (HFQ.out.chg (Chg.alloc (Chg.refl [] w4) _)) hc; clear HFQ; have HFQ := Lib.hid h; clear h
  have h := Fresh.chg (HFX0.out.chg (Chg.alloc (Chg.refl [] w4) _)) hc; clear HFX0; have HFX0 := Lib.hid h; clear h
  have h := bk hc (keep_alloc HBA0.out _) (by simp); clear HBA0 cA0 lA0; obtain ⟨cA0, lA0, HBA0⟩ := h
  have h := bk hc (keep_alloc HBA2.out _) (by simp); clear HBA2 cA2 lA2; obtain ⟨cA2, lA2, HBA2⟩ := h
  have h := bk hc (keep_alloc HBBQ.out _) (by simp); clear HBBQ cBQ lBQ; obtain ⟨cBQ, lBQ, HBBQ⟩ := h
  obtain ⟨cC0, lC0, HBC0⟩ := bk hc (b := w4.heap.size) (new_at (by simp) _) (by simp)
  have h := Chg.trans0 (Chg.alloc HC.out _) hc; clear HC; have HC := Lib.hid h; clear h
  have HX2 := Lib.hid hs; have HFX2 := Lib.hid (hf.mono (Nat.zero_le _)); clear hs hf
  clear hc
  go_wp2_with (first | (refine load_wide rfl _ 28 rfl rfl infoLW Tryz.underlying28 (keep_alloc HBA0.out _) rfl ?_) | (refine load_wide rfl _ 48 rfl rfl infoWRl Tryz.underlying48 (keep_alloc HBBQ.out _) rfl ?_) | (refine load_wide rfl _ 40 rfl rfl infoWd Tryz.underlying40 (keep_alloc HBC0.out _) rfl ?_) | (refine store_new rfl _ _ 48 rfl rfl rfl (by simp) infoWRl rfl rfl rfl ?_) | (refine store_new rfl _ _ 28 rfl rfl rfl (by simp) infoLW rfl rfl rfl ?_) | (refine store_new rfl _ _ 40 rfl rfl rfl (by simp) infoWd rfl rfl rfl ?_))
  refine (HI.out #[.int .i64 x0.shape.groups, .int .i64 x0.shape.column, .int .i64 x0.shape.data, .int .i64 x0.shape.spare, .int .i64 x0.shape.rows, .int .i64 x0.shape.cap, .int .i64 x0.shape.batch, .int .i64 x0.shape.queue, .int .i64 x0.shape.stage, .slice a10q4 l10q4 c10q4, .slice a11q4 l11q4 c11q4, .slice a12q4 l12q4 c12q4, .int .i64 x0.writes, .int .i64 x0.stop, .bool x0.down] p4 #[.int .i64 x2.kind, .int .i64 x2.seq, .string x2.name, .int .i64 x2.length, .int .i64 x2.group, .int .i64 x2.row, .slice a6q5 l6q5 c6q5, .slice a7q5 l7q5 c7q5, .slice a8q5 l8q5 c8q5] p5 _ (Lay.ext wldL HX0.out (Chg.alloc (Chg.refl [] w5) _)) (Lay.ext recL HX2.out (Chg.alloc (Chg.refl [] w5) _)) HZ0.out HZ2.out).mono ?_
  rintro e w6 ⟨z6, p6, rfl, hs, hf, hc⟩
  obtain ⟨a10r6, l10r6, c10r6, a11r6, l11r6, c11r6, a12r6, l12r6, c12r6, rfl, -, -⟩ := wrs_open hs
  have hG := fun (x : Nat) (hx : x ∈ p6) => Nat.le_trans HC.out.size (Nat.le_trans (show w5.heap.size ≤ (w5.alloc (.cells #[.int .i64 x2.kind, .int .i64 x2.seq, .string x2.name, .int .i64 x2.length, .int .i64 x2.group, .int .i64 x2.row, .slice a6q5 l6q5 c6q5, .slice a7q5 l7q5 c7q5, .slice a8q5 l8q5 c8q5] 68)).heap.size by simp) (hf.2 x hx).1)
  have HGP := Lib.hid hG; clear hG
  have hD := fun (b : Nat) (hb : b ∈ p3) (hb' : b ∈ p6) => Nat.lt_irrefl _ (Nat.lt_of_lt_of_le ((Lay.lt wrsL (Lay.ext wrsL HQ.out (Chg.alloc (Chg.refl [] w5) _))) b hb) (hf.2 b hb').1)
  have DQ_P := Lib.hid hD; have DP_Q := Lib.hid (fun (b : Nat) (hb : b ∈ p6) (hb' : b ∈ p3) => hD b hb' hb); clear hD
  have hD := fun (b : Nat) (hb : b ∈ p4) (hb' : b ∈ p6) => Nat.lt_irrefl _ (Nat.lt_of_lt_of_le ((Lay.lt wldL (Lay.ext wldL HX0.out (Chg.alloc (Chg.refl [] w5) _))) b hb) (hf.2 b hb').1)
  have DX0_P := Lib.hid hD; have DP_X0 := Lib.hid (fun (b : Nat) (hb : b ∈ p6) (hb' : b ∈ p4) => hD b hb' hb); clear hD
  have hD := fun (b : Nat) (hb : b ∈ p5) (hb' : b ∈ p6) => Nat.lt_irrefl _ (Nat.lt_of_lt_of_le ((Lay.lt recL (Lay.ext recL HX2.out (Chg.alloc (Chg.refl [] w5) _))) b hb) (hf.2 b hb').1)
  have DX2_P := Lib.hid hD; have DP_X2 := Lib.hid (fun (b : Nat) (hb : b ∈ p6) (hb' : b ∈ p5) => hD b hb' hb); clear hD
  have DBA0_P := Lib.hid (fun hb => Nat.lt_irrefl _ (Nat.lt_of_lt_of_le (ltOf (show (w5.alloc (.cells #[.int .i64 x2.kind, .int .i64 x2.seq, .string x2.name, .int .i64 x2.length, .int .i64 x2.group, .int .i64 x2.row, .slice a6q5 l6q5 c6q5, .slice a7q5 l7q5 c7q5, .slice a8q5 l8q5 c8q5] 68)).heap[W.heap.size]? = some (.cells #[.int .i64 x0.shape.groups, .int .i64 x0.shape.column, .int .i64 x0.shape.data, .int .i64 x0.shape.spare, .int .i64 x0.shape.rows, .int .i64 x0.shape.cap, .int .i64 x0.shape.batch, .int .i64 x0.shape.queue, .int .i64 x0.shape.stage, .slice a10o0 l10o0 c10o0, .slice a11o0 l11o0 c11o0, .slice a12o0 l12o0 c12o0, .int .i64 x0.writes, .int .i64 x0.stop, .bool x0.down] 28) from (by refine keep_alloc ?_ _; exact HBA0.out))) (hf.2 _ hb).1) : W.heap.size ∉ p6)
  have DBA2_P := Lib.hid (fun hb => Nat.lt_irrefl _ (Nat.lt_of_lt_of_le (ltOf (show (w5.alloc (.cells #[.int .i64 x2.kind, .int .i64 x2.seq, .string x2.name, .int .i64 x2.length, .int .i64 x2.group, .int .i64 x2.row, .slice a6q5 l6q5 c6q5, .slice a7q5 l7q5 c7q5, .slice a8q5 l8q5 c8q5] 68)).heap[W.heap.size + 1]? = some (.cells #[.int .i64 x2.kind, .int .i64 x2.seq, .string x2.name, .int .i64 x2.length, .int .i64 x2.group, .int .i64 x2.row, .slice a6o2 l6o2 c6o2, .slice a7o2 l7o2 c7o2, .slice a8o2 l8o2 c8o2] 65) from (by refine keep_alloc ?_ _; exact HBA2.out))) (hf.2 _ hb).1) : W.heap.size + 1 ∉ p6)
  have DBBQ_P := Lib.hid (fun hb => Nat.lt_irrefl _ (Nat.lt_of_lt_of_le (ltOf (show (w5.alloc (.cells #[.int .i64 x2.kind, .int .i64 x2.seq, .string x2.name, .int .i64 x2.length, .int .i64 x2.group, .int .i64 x2.row, .slice a6q5 l6q5 c6q5, .slice a7q5 l7q5 c7q5, .slice a8q5 l8q5 c8q5] 68)).heap[mQ]? = some (.cells #[.int .i64 r.code, .int .i64 r.world.shape.groups, .int .i64 r.world.shape.column, .int .i64 r.world.shape.data, .int .i64 r.world.shape.spare, .int .i64 r.world.shape.rows, .int .i64 r.world.shape.cap, .int .i64 r.world.shape.batch, .int .i64 r.world.shape.queue, .int .i64 r.world.shape.stage, .slice a10r3 l10r3 c10r3, .slice a11r3 l11r3 c11r3, .slice a12r3 l12r3 c12r3, .int .i64 r.world.writes, .int .i64 r.world.stop, .bool r.world.down] 48) from (by refine keep_alloc ?_ _; exact HBBQ.out))) (hf.2 _ hb).1) : mQ ∉ p6)
  have DBC0_P := Lib.hid (fun hb => Nat.lt_irrefl _ (Nat.lt_of_lt_of_le (ltOf (show (w5.alloc (.cells #[.int .i64 x2.kind, .int .i64 x2.seq, .string x2.name, .int .i64 x2.length, .int .i64 x2.group, .int .i64 x2.row, .slice a6q5 l6q5 c6q5, .slice a7q5 l7q5 c7q5, .slice a8q5 l8q5 c8q5] 68)).heap[w4.heap.size]? = some (.cells #[.int .i64 x0.shape.groups, .int .i64 x0.shape.column, .int .i64 x0.shape.data, .int .i64 x0.shape.spare, .int .i64 x0.shape.rows, .int .i64 x0.shape.cap, .int .i64 x0.shape.batch, .int .i64 x0.shape.queue, .int .i64 x0.shape.stage, .slice a10q4 l10q4 c10q4, .slice a11q4 l11q4 c11q4, .slice a12q4 l12q4 c12q4, .int .i64 x0.writes, .int .i64 x0.stop, .bool x0.down] 40) from (by refine keep_alloc ?_ _; exact HBC0.out))) (hf.2 _ hb).1) : w4.heap.size ∉ p6)
  have DBC2_P := Lib.hid (fun hb => Nat.lt_irrefl _ (Nat.lt_of_lt_of_le (ltOf (show (w5.alloc (.cells #[.int .i64 x2.kind, .int .i64 x2.seq, .string x2.name, .int .i64 x2.length, .int .i64 x2.group, .int .i64 x2.row, .slice a6q5 l6q5 c6q5, .slice a7q5 l7q5 c7q5, .slice a8q5 l8q5 c8q5] 68)).heap[w5.heap.size]? = some (.cells #[.int .i64 x2.kind, .int .i64 x2.seq, .string x2.name, .int .i64 x2.length, .int .i64 x2.group, .int .i64 x2.row, .slice a6q5 l6q5 c6q5, .slice a7q5 l7q5 c7q5, .slice a8q5 l8q5 c8q5] 68) from (by exact new_at (by simp) _))) (hf.2 _ hb).1) : w5.heap.size ∉ p6)
  have DBC2_Q := Lib.hid (fun hb => Nat.lt_irrefl _ (Nat.lt_of_lt_of_le ((Lay.lt wrsL HQ.out) _ hb) (show w5.heap.size ≤ w5.heap.size by omega)) : w5.heap.size ∉ p3)
  have DBC2_X0 := Lib.hid (fun hb => Nat.lt_irrefl _ (Nat.lt_of_lt_of_le ((Lay.lt wldL HX0.out) _ hb) (show w5.heap.size ≤ w5.heap.size by omega)) : w5.heap.size ∉ p4)
  have DBC2_X2 := Lib.hid (fun hb => Nat.lt_irrefl _ (Nat.lt_of_lt_of_le ((Lay.lt recL HX2.out) _ hb) (show w5.heap.size ≤ w5.heap.size by omega)) : w5.heap.size ∉ p5)
  have h := (Lay.ext wrsL (Lay.ext wrsL HQ.out (Chg.alloc (Chg.refl [] w5) _)) hc); clear HQ; have HQ := Lib.hid h; clear h
  have h := (Lay.ext wldL (Lay.ext wldL HX0.out (Chg.alloc (Chg.refl [] w5) _)) hc); clear HX0; have HX0 := Lib.hid h; clear h
  have h := (Lay.ext recL (Lay.ext recL HX2.out (Chg.alloc (Chg.refl [] w5) _)) hc); clear HX2; have HX2 := Lib.hid h; clear h
  have h := Fresh.chg (HFQ.out.chg (Chg.alloc (Chg.refl [] w5) _)) hc; clear HFQ; have HFQ := Lib.hid h; clear h
  have h := Fresh.chg (HFX0.out.chg (Chg.alloc (Chg.refl [] w5) _)) hc; clear HFX0; have HFX0 := Lib.hid h; clear h
  have h := Fresh.chg (HFX2.out.chg (Chg.alloc (Chg.refl [] w5) _)) hc; clear HFX2; have HFX2 := Lib.hid h; clear h
  have h := bk hc (keep_alloc HBA0.out _) (by simp); clear HBA0 cA0 lA0; obtain ⟨cA0, lA0, HBA0⟩ := h
  have h := bk hc (keep_alloc HBA2.out _) (by simp); clear HBA2 cA2 lA2; obtain ⟨cA2, lA2, HBA2⟩ := h
  have h := bk hc (keep_alloc HBBQ.out _) (by simp); clear HBBQ cBQ lBQ; obtain ⟨cBQ, lBQ, HBBQ⟩ := h
  have h := bk hc (keep_alloc HBC0.out _) (by simp); clear HBC0 cC0 lC0; obtain ⟨cC0, lC0, HBC0⟩ := h
  obtain ⟨cC2, lC2, HBC2⟩ := bk hc (b := w5.heap.size) (new_at (by simp) _) (by simp)
  have h := Chg.trans0 (Chg.alloc HC.out _) hc; clear HC; have HC := Lib.hid h; clear h
  have HP := Lib.hid hs; have HFP := Lib.hid (hf.mono (Nat.zero_le _)); clear hs hf
  clear hc
  go_wp2_with (first | (refine load_wide rfl _ 28 rfl rfl infoLW Tryz.underlying28 (keep_alloc HBA0.out _) rfl ?_) | (refine load_wide rfl _ 48 rfl rfl infoWRl Tryz.underlying48 (keep_alloc HBBQ.out _) rfl ?_) | (refine load_wide rfl _ 40 rfl rfl infoWd Tryz.underlying40 (keep_alloc HBC0.out _) rfl ?_) | (refine load_wide (b := w6.heap.size) rfl _ 48 rfl rfl infoWRl Tryz.underlying48 (new_at (by simp) _) rfl ?_) | (refine store_new rfl _ _ 48 rfl rfl rfl (by simp) infoWRl rfl rfl rfl ?_) | (refine store_new rfl _ _ 28 rfl rfl rfl (by simp) infoLW rfl rfl rfl ?_) | (refine store_new rfl _ _ 40 rfl rfl rfl (by simp) infoWd rfl rfl rfl ?_))
  refine (eqWorldResult_any r #[.int .i64 r.code, .int .i64 r.world.shape.groups, .int .i64 r.world.shape.column, .int .i64 r.world.shape.data, .int .i64 r.world.shape.spare, .int .i64 r.world.shape.rows, .int .i64 r.world.shape.cap, .int .i64 r.world.shape.batch, .int .i64 r.world.shape.queue, .int .i64 r.world.shape.stage, .slice a10r6 l10r6 c10r6, .slice a11r6 l11r6 c11r6, .slice a12r6 l12r6 c12r6, .int .i64 r.world.writes, .int .i64 r.world.stop, .bool r.world.down] #[.int .i64 r.code, .int .i64 r.world.shape.groups, .int .i64 r.world.shape.column, .int .i64 r.world.shape.data, .int .i64 r.world.shape.spare, .int .i64 r.world.shape.rows, .int .i64 r.world.shape.cap, .int .i64 r.world.shape.batch, .int .i64 r.world.shape.queue, .int .i64 r.world.shape.stage, .slice a10r3 l10r3 c10r3, .slice a11r3 l11r3 c11r3, .slice a12r3 l12r3 c12r3, .int .i64 r.world.writes, .int .i64 r.world.stop, .bool r.world.down] p6 p3 _ (Lay.ext wrsL HP.out (Chg.alloc (Chg.refl [] w6) _)) (Lay.ext wrsL HQ.out (Chg.alloc (Chg.refl [] w6) _))).mono ?_
  rintro e w7 ⟨rfl, hc⟩
  have DBBP_Q := Lib.hid (fun hb => Nat.lt_irrefl _ (Nat.lt_of_lt_of_le ((Lay.lt wrsL HQ.out) _ hb) (show w6.heap.size ≤ w6.heap.size by omega)) : w6.heap.size ∉ p3)
  have DBBP_X0 := Lib.hid (fun hb => Nat.lt_irrefl _ (Nat.lt_of_lt_of_le ((Lay.lt wldL HX0.out) _ hb) (show w6.heap.size ≤ w6.heap.size by omega)) : w6.heap.size ∉ p4)
  have DBBP_X2 := Lib.hid (fun hb => Nat.lt_irrefl _ (Nat.lt_of_lt_of_le ((Lay.lt recL HX2.out) _ hb) (show w6.heap.size ≤ w6.heap.size by omega)) : w6.heap.size ∉ p5)
  have DBBP_P := Lib.hid (fun hb => Nat.lt_irrefl _ (Nat.lt_of_lt_of_le ((Lay.lt wrsL HP.out) _ hb) (show w6.heap.size ≤ w6.heap.size by omega)) : w6.heap.size ∉ p6)
  have h := (Lay.ext wrsL (Lay.ext wrsL HQ.out (Chg.alloc (Chg.refl [] w6) _)) hc); clear HQ; have HQ := Lib.hid h; clear h
  have h := (Lay.ext wldL (Lay.ext wldL HX0.out (Chg.alloc (Chg.refl [] w6) _)) hc); clear HX0; have HX0 := Lib.hid h; clear h
  have h := (Lay.ext recL (Lay.ext recL HX2.out (Chg.alloc (Chg.refl [] w6) _)) hc); clear HX2; have HX2 := Lib.hid h; clear h
  have h := (Lay.ext wrsL (Lay.ext wrsL HP.out (Chg.alloc (Chg.refl [] w6) _)) hc); clear HP; have HP := Lib.hid h; clear h
  have h := Fresh.chg (HFQ.out.chg (Chg.alloc (Chg.refl [] w6) _)) hc; clear HFQ; have HFQ := Lib.hid h; clear h
  have h := Fresh.chg (HFX0.out.chg (Chg.alloc (Chg.refl [] w6) _)) hc; clear HFX0; have HFX0 := Lib.hid h; clear h
  have h := Fresh.chg (HFX2.out.chg (Chg.alloc (Chg.refl [] w6) _)) hc; clear HFX2; have HFX2 := Lib.hid h; clear h
  have h := Fresh.chg (HFP.out.chg (Chg.alloc (Chg.refl [] w6) _)) hc; clear HFP; have HFP := Lib.hid h; clear h
  have h := bk hc (keep_alloc HBA0.out _) (by simp); clear HBA0 cA0 lA0; obtain ⟨cA0, lA0, HBA0⟩ := h
  have h := bk hc (keep_alloc HBA2.out _) (by simp); clear HBA2 cA2 lA2; obtain ⟨cA2, lA2, HBA2⟩ := h
  have h := bk hc (keep_alloc HBBQ.out _) (by simp); clear HBBQ cBQ lBQ; obtain ⟨cBQ, lBQ, HBBQ⟩ := h
  have h := bk hc (keep_alloc HBC0.out _) (by simp); clear HBC0 cC0 lC0; obtain ⟨cC0, lC0, HBC0⟩ := h
  have h := bk hc (keep_alloc HBC2.out _) (by simp); clear HBC2 cC2 lC2; obtain ⟨cC2, lC2, HBC2⟩ := h
  obtain ⟨cBP, lBP, HBBP⟩ := bk hc (b := w6.heap.size) (new_at (by simp) _) (by simp)
  have h := Chg.trans0 (Chg.alloc HC.out _) hc; clear HC; have HC := Lib.hid h; clear h
  clear hc
  go_wp2_with (first | (refine load_wide rfl _ 28 rfl rfl infoLW Tryz.underlying28 HBA0.out rfl ?_) | (refine load_wide rfl _ 48 rfl rfl infoWRl Tryz.underlying48 HBBQ.out rfl ?_) | (refine load_wide rfl _ 40 rfl rfl infoWd Tryz.underlying40 HBC0.out rfl ?_) | (refine load_wide rfl _ 48 rfl rfl infoWRl Tryz.underlying48 HBBP.out rfl ?_) | (refine store_new rfl _ _ 48 rfl rfl rfl (by simp) infoWRl rfl rfl rfl ?_) | (refine store_new rfl _ _ 28 rfl rfl rfl (by simp) infoLW rfl rfl rfl ?_) | (refine store_new rfl _ _ 40 rfl rfl rfl (by simp) infoWd rfl rfl rfl ?_))
  obtain ⟨SS1, HSI1, HSO1⟩ := rg_cond (fun w' => Know (w4.heap.size) #[.int .i64 x0.shape.groups, .int .i64 x0.shape.column, .int .i64 x0.shape.data, .int .i64 x0.shape.spare, .int .i64 x0.shape.rows, .int .i64 x0.shape.cap, .int .i64 x0.shape.batch, .int .i64 x0.shape.queue, .int .i64 x0.shape.stage, .slice a10q4 l10q4 c10q4, .slice a11q4 l11q4 c11q4, .slice a12q4 l12q4 c12q4, .int .i64 x0.writes, .int .i64 x0.stop, .bool x0.down] w' ∧ Know (W.heap.size) #[.int .i64 x0.shape.groups, .int .i64 x0.shape.column, .int .i64 x0.shape.data, .int .i64 x0.shape.spare, .int .i64 x0.shape.rows, .int .i64 x0.shape.cap, .int .i64 x0.shape.batch, .int .i64 x0.shape.queue, .int .i64 x0.shape.stage, .slice a10o0 l10o0 c10o0, .slice a11o0 l11o0 c11o0, .slice a12o0 l12o0 c12o0, .int .i64 x0.writes, .int .i64 x0.stop, .bool x0.down] w')
  have hS0 := HSI1.out (w7.drew) ⟨(Know.of (by refine keep_drew ?_; exact HBC0.out)), (Know.of (by refine keep_drew ?_; exact HBA0.out))⟩
  refine rg_start SS1 (by kernel_rfl) hS0 ?_
  refine rgL 0 hS0 HSO1 ?_
  refine rgL 1 hS0 HSO1 ?_
  refine rg_call 2 rfl (by kernel_rfl) (fun K hK => ?_)
  go_simp
  go_at_call 15
  refine (toWorld_any x0 #[.int .i64 x0.shape.groups, .int .i64 x0.shape.column, .int .i64 x0.shape.data, .int .i64 x0.shape.spare, .int .i64 x0.shape.rows, .int .i64 x0.shape.cap, .int .i64 x0.shape.batch, .int .i64 x0.shape.queue, .int .i64 x0.shape.stage, .slice a10o0 l10o0 c10o0, .slice a11o0 l11o0 c11o0, .slice a12o0 l12o0 c12o0, .int .i64 x0.writes, .int .i64 x0.stop, .bool x0.down] fp0 _ (Lay.ext wldL HO0.out (Chg.drew HC.out)) HZ0.out).mono ?_
  rintro e w8 ⟨z8, p8, rfl, hs, hf, hc⟩
  have hG := fun (x : Nat) (hx : x ∈ p8) => Nat.le_trans HC.out.size (Nat.le_trans (show w7.heap.size ≤ (w7.drew).heap.size by simp) (hf.2 x hx).1)
  have HGY0 := Lib.hid hG; clear hG
  have hD := fun (b : Nat) (hb : b ∈ p3) (hb' : b ∈ p8) => Nat.lt_irrefl _ (Nat.lt_of_lt_of_le ((Lay.lt wrsL (Lay.ext wrsL HQ.out (Chg.drew (Chg.refl [] w7)))) b hb) (hf.2 b hb').1)
  have DQ_Y0 := Lib.hid hD; have DY0_Q := Lib.hid (fun (b : Nat) (hb : b ∈ p8) (hb' : b ∈ p3) => hD b hb' hb); clear hD
  have hD := fun (b : Nat) (hb : b ∈ p4) (hb' : b ∈ p8) => Nat.lt_irrefl _ (Nat.lt_of_lt_of_le ((Lay.lt wldL (Lay.ext wldL HX0.out (Chg.drew (Chg.refl [] w7)))) b hb) (hf.2 b hb').1)
  have DX0_Y0 := Lib.hid hD; have DY0_X0 := Lib.hid (fun (b : Nat) (hb : b ∈ p8) (hb' : b ∈ p4) => hD b hb' hb); clear hD
  have hD := fun (b : Nat) (hb : b ∈ p5) (hb' : b ∈ p8) => Nat.lt_irrefl _ (Nat.lt_of_lt_of_le ((Lay.lt recL (Lay.ext recL HX2.out (Chg.drew (Chg.refl [] w7)))) b hb) (hf.2 b hb').1)
  have DX2_Y0 := Lib.hid hD; have DY0_X2 := Lib.hid (fun (b : Nat) (hb : b ∈ p8) (hb' : b ∈ p5) => hD b hb' hb); clear hD
  have hD := fun (b : Nat) (hb : b ∈ p6) (hb' : b ∈ p8) => Nat.lt_irrefl _ (Nat.lt_of_lt_of_le ((Lay.lt wrsL (Lay.ext wrsL HP.out (Chg.drew (Chg.refl [] w7)))) b hb) (hf.2 b hb').1)
  have DP_Y0 := Lib.hid hD; have DY0_P := Lib.hid (fun (b : Nat) (hb : b ∈ p8) (hb' : b ∈ p6) => hD b hb' hb); clear hD
  have DBA0_Y0 := Lib.hid (fun hb => Nat.lt_irrefl _ (Nat.lt_of_lt_of_le (ltOf (show (w7.drew).heap[W.heap.size]? = some (.cells #[.int .i64 x0.shape.groups, .int .i64 x0.shape.column, .int .i64 x0.shape.data, .int .i64 x0.shape.spare, .int .i64 x0.shape.rows, .int .i64 x0.shape.cap, .int .i64 x0.shape.batch, .int .i64 x0.shape.queue, .int .i64 x0.shape.stage, .slice a10o0 l10o0 c10o0, .slice a11o0 l11o0 c11o0, .slice a12o0 l12o0 c12o0, .int .i64 x0.writes, .int .i64 x0.stop, .bool x0.down] 28) from (by refine keep_drew ?_; exact HBA0.out))) (hf.2 _ hb).1) : W.heap.size ∉ p8)
  have DBA2_Y0 := Lib.hid (fun hb => Nat.lt_irrefl _ (Nat.lt_of_lt_of_le (ltOf (show (w7.drew).heap[W.heap.size + 1]? = some (.cells #[.int .i64 x2.kind, .int .i64 x2.seq, .string x2.name, .int .i64 x2.length, .int .i64 x2.group, .int .i64 x2.row, .slice a6o2 l6o2 c6o2, .slice a7o2 l7o2 c7o2, .slice a8o2 l8o2 c8o2] 65) from (by refine keep_drew ?_; exact HBA2.out))) (hf.2 _ hb).1) : W.heap.size + 1 ∉ p8)
  have DBBQ_Y0 := Lib.hid (fun hb => Nat.lt_irrefl _ (Nat.lt_of_lt_of_le (ltOf (show (w7.drew).heap[mQ]? = some (.cells #[.int .i64 r.code, .int .i64 r.world.shape.groups, .int .i64 r.world.shape.column, .int .i64 r.world.shape.data, .int .i64 r.world.shape.spare, .int .i64 r.world.shape.rows, .int .i64 r.world.shape.cap, .int .i64 r.world.shape.batch, .int .i64 r.world.shape.queue, .int .i64 r.world.shape.stage, .slice a10r3 l10r3 c10r3, .slice a11r3 l11r3 c11r3, .slice a12r3 l12r3 c12r3, .int .i64 r.world.writes, .int .i64 r.world.stop, .bool r.world.down] 48) from (by refine keep_drew ?_; exact HBBQ.out))) (hf.2 _ hb).1) : mQ ∉ p8)
  have DBC0_Y0 := Lib.hid (fun hb => Nat.lt_irrefl _ (Nat.lt_of_lt_of_le (ltOf (show (w7.drew).heap[w4.heap.size]? = some (.cells #[.int .i64 x0.shape.groups, .int .i64 x0.shape.column, .int .i64 x0.shape.data, .int .i64 x0.shape.spare, .int .i64 x0.shape.rows, .int .i64 x0.shape.cap, .int .i64 x0.shape.batch, .int .i64 x0.shape.queue, .int .i64 x0.shape.stage, .slice a10q4 l10q4 c10q4, .slice a11q4 l11q4 c11q4, .slice a12q4 l12q4 c12q4, .int .i64 x0.writes, .int .i64 x0.stop, .bool x0.down] 40) from (by refine keep_drew ?_; exact HBC0.out))) (hf.2 _ hb).1) : w4.heap.size ∉ p8)
  have DBC2_Y0 := Lib.hid (fun hb => Nat.lt_irrefl _ (Nat.lt_of_lt_of_le (ltOf (show (w7.drew).heap[w5.heap.size]? = some (.cells #[.int .i64 x2.kind, .int .i64 x2.seq, .string x2.name, .int .i64 x2.length, .int .i64 x2.group, .int .i64 x2.row, .slice a6q5 l6q5 c6q5, .slice a7q5 l7q5 c7q5, .slice a8q5 l8q5 c8q5] 68) from (by refine keep_drew ?_; exact HBC2.out))) (hf.2 _ hb).1) : w5.heap.size ∉ p8)
  have DBBP_Y0 := Lib.hid (fun hb => Nat.lt_irrefl _ (Nat.lt_of_lt_of_le (ltOf (show (w7.drew).heap[w6.heap.size]? = some (.cells #[.int .i64 r.code, .int .i64 r.world.shape.groups, .int .i64 r.world.shape.column, .int .i64 r.world.shape.data, .int .i64 r.world.shape.spare, .int .i64 r.world.shape.rows, .int .i64 r.world.shape.cap, .int .i64 r.world.shape.batch, .int .i64 r.world.shape.queue, .int .i64 r.world.shape.stage, .slice a10r6 l10r6 c10r6, .slice a11r6 l11r6 c11r6, .slice a12r6 l12r6 c12r6, .int .i64 r.world.writes, .int .i64 r.world.stop, .bool r.world.down] 48) from (by refine keep_drew ?_; exact HBBP.out))) (hf.2 _ hb).1) : w6.heap.size ∉ p8)
  have h := (Lay.ext wrsL (Lay.ext wrsL HQ.out (Chg.drew (Chg.refl [] w7))) hc); clear HQ; have HQ := Lib.hid h; clear h
  have h := (Lay.ext wldL (Lay.ext wldL HX0.out (Chg.drew (Chg.refl [] w7))) hc); clear HX0; have HX0 := Lib.hid h; clear h
  have h := (Lay.ext recL (Lay.ext recL HX2.out (Chg.drew (Chg.refl [] w7))) hc); clear HX2; have HX2 := Lib.hid h; clear h
  have h := (Lay.ext wrsL (Lay.ext wrsL HP.out (Chg.drew (Chg.refl [] w7))) hc); clear HP; have HP := Lib.hid h; clear h
  have h := Fresh.chg (HFQ.out.chg (Chg.drew (Chg.refl [] w7))) hc; clear HFQ; have HFQ := Lib.hid h; clear h
  have h := Fresh.chg (HFX0.out.chg (Chg.drew (Chg.refl [] w7))) hc; clear HFX0; have HFX0 := Lib.hid h; clear h
  have h := Fresh.chg (HFX2.out.chg (Chg.drew (Chg.refl [] w7))) hc; clear HFX2; have HFX2 := Lib.hid h; clear h
  have h := Fresh.chg (HFP.out.chg (Chg.drew (Chg.refl [] w7))) hc; clear HFP; have HFP := Lib.hid h; clear h
  have h := bk hc (keep_drew HBA0.out) (by simp); clear HBA0 cA0 lA0; obtain ⟨cA0, lA0, HBA0⟩ := h
  have h := bk hc (keep_drew HBA2.out) (by simp); clear HBA2 cA2 lA2; obtain ⟨cA2, lA2, HBA2⟩ := h
  have h := bk hc (keep_drew HBBQ.out) (by simp); clear HBBQ cBQ lBQ; obtain ⟨cBQ, lBQ, HBBQ⟩ := h
  have h := bk hc (keep_drew HBC0.out) (by simp); clear HBC0 cC0 lC0; obtain ⟨cC0, lC0, HBC0⟩ := h
  have h := bk hc (keep_drew HBC2.out) (by simp); clear HBC2 cC2 lC2; obtain ⟨cC2, lC2, HBC2⟩ := h
  have h := bk hc (keep_drew HBBP.out) (by simp); clear HBBP cBP lBP; obtain ⟨cBP, lBP, HBBP⟩ := h
  have h := Chg.trans0 (Chg.drew HC.out) hc; clear HC; have HC := Lib.hid h; clear h
  have HY0 := Lib.hid hs; have HFY0 := Lib.hid (hf.mono (Nat.zero_le _)); clear hs hf
  clear hc
  go_wp2_with fail
  refine hK.out _ _ (HSI1.out _ ⟨cC0, cA0⟩) (fun hS1 => ?_)
  clear hK K
  try simp only [Act.put, List.setIfInBounds_toArray, List.set_cons_zero, List.set_cons_succ]
  refine rg_call 3 rfl (by kernel_rfl) (fun K hK => ?_)
  go_simp
  go_at_call 18
  refine (eqWorld_any x0 #[.int .i64 x0.shape.groups, .int .i64 x0.shape.column, .int .i64 x0.shape.data, .int .i64 x0.shape.spare, .int .i64 x0.shape.rows, .int .i64 x0.shape.cap, .int .i64 x0.shape.batch, .int .i64 x0.shape.queue, .int .i64 x0.shape.stage, .slice a10q4 l10q4 c10q4, .slice a11q4 l11q4 c11q4, .slice a12q4 l12q4 c12q4, .int .i64 x0.writes, .int .i64 x0.stop, .bool x0.down] z8 p4 p8 _ HX0.out HY0.out).mono ?_
  rintro e w9 ⟨rfl, hc⟩
  replace HQ := hre HQ hc
  replace HX0 := hre HX0 hc
  replace HX2 := hre HX2 hc
  replace HP := hre HP hc
  replace HY0 := hre HY0 hc
  have h := Fresh.chg HFQ.out hc; clear HFQ; have HFQ := Lib.hid h; clear h
  have h := Fresh.chg HFX0.out hc; clear HFX0; have HFX0 := Lib.hid h; clear h
  have h := Fresh.chg HFX2.out hc; clear HFX2; have HFX2 := Lib.hid h; clear h
  have h := Fresh.chg HFP.out hc; clear HFP; have HFP := Lib.hid h; clear h
  have h := Fresh.chg HFY0.out hc; clear HFY0; have HFY0 := Lib.hid h; clear h
  have h := bk hc HBA0.out (by simp); clear HBA0 cA0 lA0; obtain ⟨cA0, lA0, HBA0⟩ := h
  have h := bk hc HBA2.out (by simp); clear HBA2 cA2 lA2; obtain ⟨cA2, lA2, HBA2⟩ := h
  have h := bk hc HBBQ.out (by simp); clear HBBQ cBQ lBQ; obtain ⟨cBQ, lBQ, HBBQ⟩ := h
  have h := bk hc HBC0.out (by simp); clear HBC0 cC0 lC0; obtain ⟨cC0, lC0, HBC0⟩ := h
  have h := bk hc HBC2.out (by simp); clear HBC2 cC2 lC2; obtain ⟨cC2, lC2, HBC2⟩ := h
  have h := bk hc HBBP.out (by simp); clear HBBP cBP lBP; obtain ⟨cBP, lBP, HBBP⟩ := h
  replace HC := hct HC hc
  clear hc
  go_wp2_with fail
  refine hK.out _ _ (HSI1.out _ ⟨cC0, cA0⟩) (fun hS2 => ?_)
  clear hK K
  try simp only [Act.put, List.setIfInBounds_toArray, List.set_cons_zero, List.set_cons_succ]
  refine rgT 4 hS2 ?_
  refine wpAnyH_done (by kernel_rfl) ?_ _
  go_wp2_with (first | (refine load_wide rfl _ 28 rfl rfl infoLW Tryz.underlying28 HBA0.out rfl ?_) | (refine load_wide rfl _ 48 rfl rfl infoWRl Tryz.underlying48 HBBQ.out rfl ?_) | (refine load_wide rfl _ 40 rfl rfl infoWd Tryz.underlying40 HBC0.out rfl ?_) | (refine load_wide rfl _ 48 rfl rfl infoWRl Tryz.underlying48 HBBP.out rfl ?_) | (refine store_new rfl _ _ 48 rfl rfl rfl (by simp) infoWRl rfl rfl rfl ?_) | (refine store_new rfl _ _ 28 rfl rfl rfl (by simp) infoLW rfl rfl rfl ?_) | (refine store_new rfl _ _ 40 rfl rfl rfl (by simp) infoWd rfl rfl rfl ?_))
  obtain ⟨SS2, HSI2, HSO2⟩ := rg_cond (fun w' => Know (w5.heap.size) #[.int .i64 x2.kind, .int .i64 x2.seq, .string x2.name, .int .i64 x2.length, .int .i64 x2.group, .int .i64 x2.row, .slice a6q5 l6q5 c6q5, .slice a7q5 l7q5 c7q5, .slice a8q5 l8q5 c8q5] w' ∧ Know (W.heap.size + 1) #[.int .i64 x2.kind, .int .i64 x2.seq, .string x2.name, .int .i64 x2.length, .int .i64 x2.group, .int .i64 x2.row, .slice a6o2 l6o2 c6o2, .slice a7o2 l7o2 c7o2, .slice a8o2 l8o2 c8o2] w')
  have hS0 := HSI2.out (w9.drew) ⟨(Know.of (by refine keep_drew ?_; exact HBC2.out)), (Know.of (by refine keep_drew ?_; exact HBA2.out))⟩
  refine rg_start SS2 (by kernel_rfl) hS0 ?_
  refine rgL 0 hS0 HSO2 ?_
  refine rgL 1 hS0 HSO2 ?_
  refine rg_call 2 rfl (by kernel_rfl) (fun K hK => ?_)
  go_simp
  go_at_call 47
  refine (toRec_any x2 #[.int .i64 x2.kind, .int .i64 x2.seq, .string x2.name, .int .i64 x2.length, .int .i64 x2.group, .int .i64 x2.row, .slice a6o2 l6o2 c6o2, .slice a7o2 l7o2 c7o2, .slice a8o2 l8o2 c8o2] fp2 _ (Lay.ext recL HO2.out (Chg.drew HC.out)) HZ2.out).mono ?_
  rintro e w10 ⟨z10, p10, rfl, hs, hf, hc⟩
  have hG := fun (x : Nat) (hx : x ∈ p10) => Nat.le_trans HC.out.size (Nat.le_trans (show w9.heap.size ≤ (w9.drew).heap.size by simp) (hf.2 x hx).1)
  have HGY2 := Lib.hid hG; clear hG
  have hD := fun (b : Nat) (hb : b ∈ p3) (hb' : b ∈ p10) => Nat.lt_irrefl _ (Nat.lt_of_lt_of_le ((Lay.lt wrsL (Lay.ext wrsL HQ.out (Chg.drew (Chg.refl [] w9)))) b hb) (hf.2 b hb').1)
  have DQ_Y2 := Lib.hid hD; have DY2_Q := Lib.hid (fun (b : Nat) (hb : b ∈ p10) (hb' : b ∈ p3) => hD b hb' hb); clear hD
  have hD := fun (b : Nat) (hb : b ∈ p4) (hb' : b ∈ p10) => Nat.lt_irrefl _ (Nat.lt_of_lt_of_le ((Lay.lt wldL (Lay.ext wldL HX0.out (Chg.drew (Chg.refl [] w9)))) b hb) (hf.2 b hb').1)
  have DX0_Y2 := Lib.hid hD; have DY2_X0 := Lib.hid (fun (b : Nat) (hb : b ∈ p10) (hb' : b ∈ p4) => hD b hb' hb); clear hD
  have hD := fun (b : Nat) (hb : b ∈ p5) (hb' : b ∈ p10) => Nat.lt_irrefl _ (Nat.lt_of_lt_of_le ((Lay.lt recL (Lay.ext recL HX2.out (Chg.drew (Chg.refl [] w9)))) b hb) (hf.2 b hb').1)
  have DX2_Y2 := Lib.hid hD; have DY2_X2 := Lib.hid (fun (b : Nat) (hb : b ∈ p10) (hb' : b ∈ p5) => hD b hb' hb); clear hD
  have hD := fun (b : Nat) (hb : b ∈ p6) (hb' : b ∈ p10) => Nat.lt_irrefl _ (Nat.lt_of_lt_of_le ((Lay.lt wrsL (Lay.ext wrsL HP.out (Chg.drew (Chg.refl [] w9)))) b hb) (hf.2 b hb').1)
  have DP_Y2 := Lib.hid hD; have DY2_P := Lib.hid (fun (b : Nat) (hb : b ∈ p10) (hb' : b ∈ p6) => hD b hb' hb); clear hD
  have DBA0_Y2 := Lib.hid (fun hb => Nat.lt_irrefl _ (Nat.lt_of_lt_of_le (ltOf (show (w9.drew).heap[W.heap.size]? = some (.cells #[.int .i64 x0.shape.groups, .int .i64 x0.shape.column, .int .i64 x0.shape.data, .int .i64 x0.shape.spare, .int .i64 x0.shape.rows, .int .i64 x0.shape.cap, .int .i64 x0.shape.batch, .int .i64 x0.shape.queue, .int .i64 x0.shape.stage, .slice a10o0 l10o0 c10o0, .slice a11o0 l11o0 c11o0, .slice a12o0 l12o0 c12o0, .int .i64 x0.writes, .int .i64 x0.stop, .bool x0.down] 28) from (by refine keep_drew ?_; exact HBA0.out))) (hf.2 _ hb).1) : W.heap.size ∉ p10)
  have DBA2_Y2 := Lib.hid (fun hb => Nat.lt_irrefl _ (Nat.lt_of_lt_of_le (ltOf (show (w9.drew).heap[W.heap.size + 1]? = some (.cells #[.int .i64 x2.kind, .int .i64 x2.seq, .string x2.name, .int .i64 x2.length, .int .i64 x2.group, .int .i64 x2.row, .slice a6o2 l6o2 c6o2, .slice a7o2 l7o2 c7o2, .slice a8o2 l8o2 c8o2] 65) from (by refine keep_drew ?_; exact HBA2.out))) (hf.2 _ hb).1) : W.heap.size + 1 ∉ p10)
  have DBBQ_Y2 := Lib.hid (fun hb => Nat.lt_irrefl _ (Nat.lt_of_lt_of_le (ltOf (show (w9.drew).heap[mQ]? = some (.cells #[.int .i64 r.code, .int .i64 r.world.shape.groups, .int .i64 r.world.shape.column, .int .i64 r.world.shape.data, .int .i64 r.world.shape.spare, .int .i64 r.world.shape.rows, .int .i64 r.world.shape.cap, .int .i64 r.world.shape.batch, .int .i64 r.world.shape.queue, .int .i64 r.world.shape.stage, .slice a10r3 l10r3 c10r3, .slice a11r3 l11r3 c11r3, .slice a12r3 l12r3 c12r3, .int .i64 r.world.writes, .int .i64 r.world.stop, .bool r.world.down] 48) from (by refine keep_drew ?_; exact HBBQ.out))) (hf.2 _ hb).1) : mQ ∉ p10)
  have DBC0_Y2 := Lib.hid (fun hb => Nat.lt_irrefl _ (Nat.lt_of_lt_of_le (ltOf (show (w9.drew).heap[w4.heap.size]? = some (.cells #[.int .i64 x0.shape.groups, .int .i64 x0.shape.column, .int .i64 x0.shape.data, .int .i64 x0.shape.spare, .int .i64 x0.shape.rows, .int .i64 x0.shape.cap, .int .i64 x0.shape.batch, .int .i64 x0.shape.queue, .int .i64 x0.shape.stage, .slice a10q4 l10q4 c10q4, .slice a11q4 l11q4 c11q4, .slice a12q4 l12q4 c12q4, .int .i64 x0.writes, .int .i64 x0.stop, .bool x0.down] 40) from (by refine keep_drew ?_; exact HBC0.out))) (hf.2 _ hb).1) : w4.heap.size ∉ p10)
  have DBC2_Y2 := Lib.hid (fun hb => Nat.lt_irrefl _ (Nat.lt_of_lt_of_le (ltOf (show (w9.drew).heap[w5.heap.size]? = some (.cells #[.int .i64 x2.kind, .int .i64 x2.seq, .string x2.name, .int .i64 x2.length, .int .i64 x2.group, .int .i64 x2.row, .slice a6q5 l6q5 c6q5, .slice a7q5 l7q5 c7q5, .slice a8q5 l8q5 c8q5] 68) from (by refine keep_drew ?_; exact HBC2.out))) (hf.2 _ hb).1) : w5.heap.size ∉ p10)
  have DBBP_Y2 := Lib.hid (fun hb => Nat.lt_irrefl _ (Nat.lt_of_lt_of_le (ltOf (show (w9.drew).heap[w6.heap.size]? = some (.cells #[.int .i64 r.code, .int .i64 r.world.shape.groups, .int .i64 r.world.shape.column, .int .i64 r.world.shape.data, .int .i64 r.world.shape.spare, .int .i64 r.world.shape.rows, .int .i64 r.world.shape.cap, .int .i64 r.world.shape.batch, .int .i64 r.world.shape.queue, .int .i64 r.world.shape.stage, .slice a10r6 l10r6 c10r6, .slice a11r6 l11r6 c11r6, .slice a12r6 l12r6 c12r6, .int .i64 r.world.writes, .int .i64 r.world.stop, .bool r.world.down] 48) from (by refine keep_drew ?_; exact HBBP.out))) (hf.2 _ hb).1) : w6.heap.size ∉ p10)
  have h := (Lay.ext wrsL (Lay.ext wrsL HQ.out (Chg.drew (Chg.refl [] w9))) hc); clear HQ; have HQ := Lib.hid h; clear h
  have h := (Lay.ext wldL (Lay.ext wldL HX0.out (Chg.drew (Chg.refl [] w9))) hc); clear HX0; have HX0 := Lib.hid h; clear h
  have h := (Lay.ext recL (Lay.ext recL HX2.out (Chg.drew (Chg.refl [] w9))) hc); clear HX2; have HX2 := Lib.hid h; clear h
  have h := (Lay.ext wrsL (Lay.ext wrsL HP.out (Chg.drew (Chg.refl [] w9))) hc); clear HP; have HP := Lib.hid h; clear h
  have h := Fresh.chg (HFQ.out.chg (Chg.drew (Chg.refl [] w9))) hc; clear HFQ; have HFQ := Lib.hid h; clear h
  have h := Fresh.chg (HFX0.out.chg (Chg.drew (Chg.refl [] w9))) hc; clear HFX0; have HFX0 := Lib.hid h; clear h
  have h := Fresh.chg (HFX2.out.chg (Chg.drew (Chg.refl [] w9))) hc; clear HFX2; have HFX2 := Lib.hid h; clear h
  have h := Fresh.chg (HFP.out.chg (Chg.drew (Chg.refl [] w9))) hc; clear HFP; have HFP := Lib.hid h; clear h
  have h := bk hc (keep_drew HBA0.out) (by simp); clear HBA0 cA0 lA0; obtain ⟨cA0, lA0, HBA0⟩ := h
  have h := bk hc (keep_drew HBA2.out) (by simp); clear HBA2 cA2 lA2; obtain ⟨cA2, lA2, HBA2⟩ := h
  have h := bk hc (keep_drew HBBQ.out) (by simp); clear HBBQ cBQ lBQ; obtain ⟨cBQ, lBQ, HBBQ⟩ := h
  have h := bk hc (keep_drew HBC0.out) (by simp); clear HBC0 cC0 lC0; obtain ⟨cC0, lC0, HBC0⟩ := h
  have h := bk hc (keep_drew HBC2.out) (by simp); clear HBC2 cC2 lC2; obtain ⟨cC2, lC2, HBC2⟩ := h
  have h := bk hc (keep_drew HBBP.out) (by simp); clear HBBP cBP lBP; obtain ⟨cBP, lBP, HBBP⟩ := h
  have h := Chg.trans0 (Chg.drew HC.out) hc; clear HC; have HC := Lib.hid h; clear h
  have HY2 := Lib.hid hs; have HFY2 := Lib.hid (hf.mono (Nat.zero_le _)); clear hs hf
  clear hc
  go_wp2_with fail
  refine hK.out _ _ (HSI2.out _ ⟨cC2, cA2⟩) (fun hS1 => ?_)
  clear hK K
  try simp only [Act.put, List.setIfInBounds_toArray, List.set_cons_zero, List.set_cons_succ]
  refine rg_call 3 rfl (by kernel_rfl) (fun K hK => ?_)
  go_simp
  go_at_call 49
  refine (eqRec_any x2 #[.int .i64 x2.kind, .int .i64 x2.seq, .string x2.name, .int .i64 x2.length, .int .i64 x2.group, .int .i64 x2.row, .slice a6q5 l6q5 c6q5, .slice a7q5 l7q5 c7q5, .slice a8q5 l8q5 c8q5] z10 p5 p10 _ HX2.out HY2.out).mono ?_
  rintro e w11 ⟨rfl, hc⟩
  replace HQ := hre HQ hc
  replace HX0 := hre HX0 hc
  replace HX2 := hre HX2 hc
  replace HP := hre HP hc
  replace HY2 := hre HY2 hc
  have h := Fresh.chg HFQ.out hc; clear HFQ; have HFQ := Lib.hid h; clear h
  have h := Fresh.chg HFX0.out hc; clear HFX0; have HFX0 := Lib.hid h; clear h
  have h := Fresh.chg HFX2.out hc; clear HFX2; have HFX2 := Lib.hid h; clear h
  have h := Fresh.chg HFP.out hc; clear HFP; have HFP := Lib.hid h; clear h
  have h := Fresh.chg HFY2.out hc; clear HFY2; have HFY2 := Lib.hid h; clear h
  have h := bk hc HBA0.out (by simp); clear HBA0 cA0 lA0; obtain ⟨cA0, lA0, HBA0⟩ := h
  have h := bk hc HBA2.out (by simp); clear HBA2 cA2 lA2; obtain ⟨cA2, lA2, HBA2⟩ := h
  have h := bk hc HBBQ.out (by simp); clear HBBQ cBQ lBQ; obtain ⟨cBQ, lBQ, HBBQ⟩ := h
  have h := bk hc HBC0.out (by simp); clear HBC0 cC0 lC0; obtain ⟨cC0, lC0, HBC0⟩ := h
  have h := bk hc HBC2.out (by simp); clear HBC2 cC2 lC2; obtain ⟨cC2, lC2, HBC2⟩ := h
  have h := bk hc HBBP.out (by simp); clear HBBP cBP lBP; obtain ⟨cBP, lBP, HBBP⟩ := h
  replace HC := hct HC hc
  clear hc
  go_wp2_with fail
  refine hK.out _ _ (HSI2.out _ ⟨cC2, cA2⟩) (fun hS2 => ?_)
  clear hK K
  try simp only [Act.put, List.setIfInBounds_toArray, List.set_cons_zero, List.set_cons_succ]
  refine rgT 4 hS2 ?_
  refine wpAnyH_done (by kernel_rfl) ?_ _
  go_wp2_with (first | (refine load_wide rfl _ 28 rfl rfl infoLW Tryz.underlying28 HBA0.out rfl ?_) | (refine load_wide rfl _ 48 rfl rfl infoWRl Tryz.underlying48 HBBQ.out rfl ?_) | (refine load_wide rfl _ 40 rfl rfl infoWd Tryz.underlying40 HBC0.out rfl ?_) | (refine load_wide rfl _ 48 rfl rfl infoWRl Tryz.underlying48 HBBP.out rfl ?_) | (refine store_new rfl _ _ 48 rfl rfl rfl (by simp) infoWRl rfl rfl rfl ?_) | (refine store_new rfl _ _ 28 rfl rfl rfl (by simp) infoLW rfl rfl rfl ?_) | (refine store_new rfl _ _ 40 rfl rfl rfl (by simp) infoWd rfl rfl rfl ?_))
  refine (markWorld_any x0 #[.int .i64 x0.shape.groups, .int .i64 x0.shape.column, .int .i64 x0.shape.data, .int .i64 x0.shape.spare, .int .i64 x0.shape.rows, .int .i64 x0.shape.cap, .int .i64 x0.shape.batch, .int .i64 x0.shape.queue, .int .i64 x0.shape.stage, .slice a10q4 l10q4 c10q4, .slice a11q4 l11q4 c11q4, .slice a12q4 l12q4 c12q4, .int .i64 x0.writes, .int .i64 x0.stop, .bool x0.down] p4 (1) _ HX0.out HFX0.out (by omega) (by rw [← HM0.out]; omega)).mono ?_
  rintro e w12 ⟨rfl, hs, hc⟩
  rw [← HM0.out]
  have h := (Lay.chg wrsL HQ.out hc DQ_X0.out); clear HQ; have HQ := Lib.hid h; clear h
  have h := (Lay.chg recL HX2.out hc DX2_X0.out); clear HX2; have HX2 := Lib.hid h; clear h
  have h := (Lay.chg wrsL HP.out hc DP_X0.out); clear HP; have HP := Lib.hid h; clear h
  have h := Fresh.chg HFQ.out hc; clear HFQ; have HFQ := Lib.hid h; clear h
  have h := Fresh.chg HFX0.out hc; clear HFX0; have HFX0 := Lib.hid h; clear h
  have h := Fresh.chg HFX2.out hc; clear HFX2; have HFX2 := Lib.hid h; clear h
  have h := Fresh.chg HFP.out hc; clear HFP; have HFP := Lib.hid h; clear h
  have h := bk hc HBA0.out DBA0_X0.out; clear HBA0 cA0 lA0; obtain ⟨cA0, lA0, HBA0⟩ := h
  have h := bk hc HBA2.out DBA2_X0.out; clear HBA2 cA2 lA2; obtain ⟨cA2, lA2, HBA2⟩ := h
  have h := bk hc HBBQ.out DBBQ_X0.out; clear HBBQ cBQ lBQ; obtain ⟨cBQ, lBQ, HBBQ⟩ := h
  have h := bk hc HBC0.out DBC0_X0.out; clear HBC0 cC0 lC0; obtain ⟨cC0, lC0, HBC0⟩ := h
  have h := bk hc HBC2.out DBC2_X0.out; clear HBC2 cC2 lC2; obtain ⟨cC2, lC2, HBC2⟩ := h
  have h := bk hc HBBP.out DBBP_X0.out; clear HBBP cBP lBP; obtain ⟨cBP, lBP, HBBP⟩ := h
  have h := Chg.trans HC.out hc (fun x hx => .inr (HGX0.out x hx)); clear HC; have HC := Lib.hid h; clear h
  clear HX0; have HX0 := Lib.hid hs
  clear hs
  clear hc
  go_wp2_with (first | (refine load_wide rfl _ 28 rfl rfl infoLW Tryz.underlying28 HBA0.out rfl ?_) | (refine load_wide rfl _ 48 rfl rfl infoWRl Tryz.underlying48 HBBQ.out rfl ?_) | (refine load_wide rfl _ 40 rfl rfl infoWd Tryz.underlying40 HBC0.out rfl ?_) | (refine load_wide rfl _ 48 rfl rfl infoWRl Tryz.underlying48 HBBP.out rfl ?_) | (refine store_new rfl _ _ 48 rfl rfl rfl (by simp) infoWRl rfl rfl rfl ?_) | (refine store_new rfl _ _ 28 rfl rfl rfl (by simp) infoLW rfl rfl rfl ?_) | (refine store_new rfl _ _ 40 rfl rfl rfl (by simp) infoWd rfl rfl rfl ?_))
  refine (markRec_any x2 #[.int .i64 x2.kind, .int .i64 x2.seq, .string x2.name, .int .i64 x2.length, .int .i64 x2.group, .int .i64 x2.row, .slice a6q5 l6q5 c6q5, .slice a7q5 l7q5 c7q5, .slice a8q5 l8q5 c8q5] p5 (1 + M0) _ HX2.out HFX2.out (by omega) (by rw [← HM2.out]; omega)).mono ?_
  rintro e w13 ⟨rfl, hs, hc⟩
  rw [← HM2.out]
  have h := (Lay.chg wrsL HQ.out hc DQ_X2.out); clear HQ; have HQ := Lib.hid h; clear h
  have h := (Lay.chg wldL HX0.out hc DX0_X2.out); clear HX0; have HX0 := Lib.hid h; clear h
  have h := (Lay.chg wrsL HP.out hc DP_X2.out); clear HP; have HP := Lib.hid h; clear h
  have h := Fresh.chg HFQ.out hc; clear HFQ; have HFQ := Lib.hid h; clear h
  have h := Fresh.chg HFX0.out hc; clear HFX0; have HFX0 := Lib.hid h; clear h
  have h := Fresh.chg HFX2.out hc; clear HFX2; have HFX2 := Lib.hid h; clear h
  have h := Fresh.chg HFP.out hc; clear HFP; have HFP := Lib.hid h; clear h
  have h := bk hc HBA0.out DBA0_X2.out; clear HBA0 cA0 lA0; obtain ⟨cA0, lA0, HBA0⟩ := h
  have h := bk hc HBA2.out DBA2_X2.out; clear HBA2 cA2 lA2; obtain ⟨cA2, lA2, HBA2⟩ := h
  have h := bk hc HBBQ.out DBBQ_X2.out; clear HBBQ cBQ lBQ; obtain ⟨cBQ, lBQ, HBBQ⟩ := h
  have h := bk hc HBC0.out DBC0_X2.out; clear HBC0 cC0 lC0; obtain ⟨cC0, lC0, HBC0⟩ := h
  have h := bk hc HBC2.out DBC2_X2.out; clear HBC2 cC2 lC2; obtain ⟨cC2, lC2, HBC2⟩ := h
  have h := bk hc HBBP.out DBBP_X2.out; clear HBBP cBP lBP; obtain ⟨cBP, lBP, HBBP⟩ := h
  have h := Chg.trans HC.out hc (fun x hx => .inr (HGX2.out x hx)); clear HC; have HC := Lib.hid h; clear h
  clear HX2; have HX2 := Lib.hid hs
  clear hs
  clear hc
  have hk : ¬ (1 + M0 + M2 < 0) := by omega
  go_wp2_with (first | (refine load_wide rfl _ 28 rfl rfl infoLW Tryz.underlying28 HBA0.out rfl ?_) | (refine load_wide rfl _ 48 rfl rfl infoWRl Tryz.underlying48 HBBQ.out rfl ?_) | (refine load_wide rfl _ 40 rfl rfl infoWd Tryz.underlying40 HBC0.out rfl ?_) | (refine load_wide rfl _ 48 rfl rfl infoWRl Tryz.underlying48 HBBP.out rfl ?_) | (refine store_new rfl _ _ 48 rfl rfl rfl (by simp) infoWRl rfl rfl rfl ?_) | (refine store_new rfl _ _ 28 rfl rfl rfl (by simp) infoLW rfl rfl rfl ?_) | (refine store_new rfl _ _ 40 rfl rfl rfl (by simp) infoWd rfl rfl rfl ?_))
  refine (eqWorldResult_any r #[.int .i64 r.code, .int .i64 r.world.shape.groups, .int .i64 r.world.shape.column, .int .i64 r.world.shape.data, .int .i64 r.world.shape.spare, .int .i64 r.world.shape.rows, .int .i64 r.world.shape.cap, .int .i64 r.world.shape.batch, .int .i64 r.world.shape.queue, .int .i64 r.world.shape.stage, .slice a10r6 l10r6 c10r6, .slice a11r6 l11r6 c11r6, .slice a12r6 l12r6 c12r6, .int .i64 r.world.writes, .int .i64 r.world.stop, .bool r.world.down] #[.int .i64 r.code, .int .i64 r.world.shape.groups, .int .i64 r.world.shape.column, .int .i64 r.world.shape.data, .int .i64 r.world.shape.spare, .int .i64 r.world.shape.rows, .int .i64 r.world.shape.cap, .int .i64 r.world.shape.batch, .int .i64 r.world.shape.queue, .int .i64 r.world.shape.stage, .slice a10r3 l10r3 c10r3, .slice a11r3 l11r3 c11r3, .slice a12r3 l12r3 c12r3, .int .i64 r.world.writes, .int .i64 r.world.stop, .bool r.world.down] p6 p3 _ HP.out HQ.out).mono ?_
  rintro e w14 ⟨rfl, hc⟩
  replace HQ := hre HQ hc
  replace HX0 := hre HX0 hc
  replace HX2 := hre HX2 hc
  replace HP := hre HP hc
  have h := Fresh.chg HFQ.out hc; clear HFQ; have HFQ := Lib.hid h; clear h
  have h := Fresh.chg HFX0.out hc; clear HFX0; have HFX0 := Lib.hid h; clear h
  have h := Fresh.chg HFX2.out hc; clear HFX2; have HFX2 := Lib.hid h; clear h
  have h := Fresh.chg HFP.out hc; clear HFP; have HFP := Lib.hid h; clear h
  have h := bk hc HBA0.out (by simp); clear HBA0 cA0 lA0; obtain ⟨cA0, lA0, HBA0⟩ := h
  have h := bk hc HBA2.out (by simp); clear HBA2 cA2 lA2; obtain ⟨cA2, lA2, HBA2⟩ := h
  have h := bk hc HBBQ.out (by simp); clear HBBQ cBQ lBQ; obtain ⟨cBQ, lBQ, HBBQ⟩ := h
  have h := bk hc HBC0.out (by simp); clear HBC0 cC0 lC0; obtain ⟨cC0, lC0, HBC0⟩ := h
  have h := bk hc HBC2.out (by simp); clear HBC2 cC2 lC2; obtain ⟨cC2, lC2, HBC2⟩ := h
  have h := bk hc HBBP.out (by simp); clear HBBP cBP lBP; obtain ⟨cBP, lBP, HBBP⟩ := h
  replace HC := hct HC hc
  clear hc
  go_wp2_with (first | (refine load_wide rfl _ 28 rfl rfl infoLW Tryz.underlying28 HBA0.out rfl ?_) | (refine load_wide rfl _ 48 rfl rfl infoWRl Tryz.underlying48 HBBQ.out rfl ?_) | (refine load_wide rfl _ 40 rfl rfl infoWd Tryz.underlying40 HBC0.out rfl ?_) | (refine load_wide rfl _ 48 rfl rfl infoWRl Tryz.underlying48 HBBP.out rfl ?_) | (refine store_new rfl _ _ 48 rfl rfl rfl (by simp) infoWRl rfl rfl rfl ?_) | (refine store_new rfl _ _ 28 rfl rfl rfl (by simp) infoLW rfl rfl rfl ?_) | (refine store_new rfl _ _ 40 rfl rfl rfl (by simp) infoWd rfl rfl rfl ?_))
  refine (markWorldResult_any r #[.int .i64 r.code, .int .i64 r.world.shape.groups, .int .i64 r.world.shape.column, .int .i64 r.world.shape.data, .int .i64 r.world.shape.spare, .int .i64 r.world.shape.rows, .int .i64 r.world.shape.cap, .int .i64 r.world.shape.batch, .int .i64 r.world.shape.queue, .int .i64 r.world.shape.stage, .slice a10r6 l10r6 c10r6, .slice a11r6 l11r6 c11r6, .slice a12r6 l12r6 c12r6, .int .i64 r.world.writes, .int .i64 r.world.stop, .bool r.world.down] p6 1 _ HP.out HFP.out (by omega) (by rw [← HK.out]; omega)).mono ?_
  rintro e w15 ⟨rfl, hs, hc⟩
  rw [← HK.out]
  have h := (Lay.chg wrsL HQ.out hc DQ_P.out); clear HQ; have HQ := Lib.hid h; clear h
  have h := Fresh.chg HFQ.out hc; clear HFQ; have HFQ := Lib.hid h; clear h
  have h := Fresh.chg HFP.out hc; clear HFP; have HFP := Lib.hid h; clear h
  have h := bk hc HBA0.out DBA0_P.out; clear HBA0 cA0 lA0; obtain ⟨cA0, lA0, HBA0⟩ := h
  have h := bk hc HBA2.out DBA2_P.out; clear HBA2 cA2 lA2; obtain ⟨cA2, lA2, HBA2⟩ := h
  have h := bk hc HBBQ.out DBBQ_P.out; clear HBBQ cBQ lBQ; obtain ⟨cBQ, lBQ, HBBQ⟩ := h
  have h := bk hc HBC0.out DBC0_P.out; clear HBC0 cC0 lC0; obtain ⟨cC0, lC0, HBC0⟩ := h
  have h := bk hc HBC2.out DBC2_P.out; clear HBC2 cC2 lC2; obtain ⟨cC2, lC2, HBC2⟩ := h
  have h := bk hc HBBP.out DBBP_P.out; clear HBBP cBP lBP; obtain ⟨cBP, lBP, HBBP⟩ := h
  have h := Chg.trans HC.out hc (fun x hx => .inr (HGP.out x hx)); clear HC; have HC := Lib.hid h; clear h
  clear HP; have HP := Lib.hid hs
  clear hs
  clear hc
  have hq : ¬ ((1 : Int) + K < 0) := by omega
  have hqq : (((1 : Int) + K) != 1 + K) = false := by simp
  go_wp2_with (first | (refine load_wide rfl _ 28 rfl rfl infoLW Tryz.underlying28 HBA0.out rfl ?_) | (refine load_wide rfl _ 48 rfl rfl infoWRl Tryz.underlying48 HBBQ.out rfl ?_) | (refine load_wide rfl _ 40 rfl rfl infoWd Tryz.underlying40 HBC0.out rfl ?_) | (refine load_wide rfl _ 48 rfl rfl infoWRl Tryz.underlying48 HBBP.out rfl ?_) | (refine store_new rfl _ _ 48 rfl rfl rfl (by simp) infoWRl rfl rfl rfl ?_) | (refine store_new rfl _ _ 28 rfl rfl rfl (by simp) infoLW rfl rfl rfl ?_) | (refine store_new rfl _ _ 40 rfl rfl rfl (by simp) infoWd rfl rfl rfl ?_))
  refine (heldWorldResult_any r #[.int .i64 r.code, .int .i64 r.world.shape.groups, .int .i64 r.world.shape.column, .int .i64 r.world.shape.data, .int .i64 r.world.shape.spare, .int .i64 r.world.shape.rows, .int .i64 r.world.shape.cap, .int .i64 r.world.shape.batch, .int .i64 r.world.shape.queue, .int .i64 r.world.shape.stage, .slice a10r6 l10r6 c10r6, .slice a11r6 l11r6 c11r6, .slice a12r6 l12r6 c12r6, .int .i64 r.world.writes, .int .i64 r.world.stop, .bool r.world.down] p6 1 _ HP.out (by omega) (by rw [← HK.out]; omega)).mono ?_
  rintro e w16 ⟨rfl, hc⟩
  rw [← HK.out]
  replace HQ := hre HQ hc
  replace HP := hre HP hc
  have h := Fresh.chg HFQ.out hc; clear HFQ; have HFQ := Lib.hid h; clear h
  have h := Fresh.chg HFP.out hc; clear HFP; have HFP := Lib.hid h; clear h
  have h := bk hc HBA0.out (by simp); clear HBA0 cA0 lA0; obtain ⟨cA0, lA0, HBA0⟩ := h
  have h := bk hc HBA2.out (by simp); clear HBA2 cA2 lA2; obtain ⟨cA2, lA2, HBA2⟩ := h
  have h := bk hc HBBQ.out (by simp); clear HBBQ cBQ lBQ; obtain ⟨cBQ, lBQ, HBBQ⟩ := h
  have h := bk hc HBC0.out (by simp); clear HBC0 cC0 lC0; obtain ⟨cC0, lC0, HBC0⟩ := h
  have h := bk hc HBC2.out (by simp); clear HBC2 cC2 lC2; obtain ⟨cC2, lC2, HBC2⟩ := h
  have h := bk hc HBBP.out (by simp); clear HBBP cBP lBP; obtain ⟨cBP, lBP, HBBP⟩ := h
  replace HC := hct HC hc
  clear hc
  go_upto_region 31 with fail
  go_cut [15] (fun s15 wx => ∃ (m : Nat) (rc : Array Value) (fp : List Nat), s15 = .pointer (some ⟨m, 0, none⟩) ∧ w16.heap.size ≤ m ∧ wx.heap[m]? = some (.cells rc 48 (0, 0)) ∧ wrsL.rep wx rc.toList r fp ∧ Fresh w16.heap.size wx fp ∧ m ∉ fp ∧ Chg [] w16 wx)
  case first =>
   as_aux_lemma =>
    obtain ⟨SS, HSI, HSO⟩ := rg_cond (fun w' => Know (W.heap.size) #[.int .i64 x0.shape.groups, .int .i64 x0.shape.column, .int .i64 x0.shape.data, .int .i64 x0.shape.spare, .int .i64 x0.shape.rows, .int .i64 x0.shape.cap, .int .i64 x0.shape.batch, .int .i64 x0.shape.queue, .int .i64 x0.shape.stage, .slice a10o0 l10o0 c10o0, .slice a11o0 l11o0 c11o0, .slice a12o0 l12o0 c12o0, .int .i64 x0.writes, .int .i64 x0.stop, .bool x0.down] w' ∧ Know (W.heap.size + 1) #[.int .i64 x2.kind, .int .i64 x2.seq, .string x2.name, .int .i64 x2.length, .int .i64 x2.group, .int .i64 x2.row, .slice a6o2 l6o2 c6o2, .slice a7o2 l7o2 c7o2, .slice a8o2 l8o2 c8o2] w')
    have hS0 := HSI.out (w16.drew) ⟨(Know.of (keep_drew HBA0.out)), (Know.of (keep_drew HBA2.out))⟩
    refine rg_start SS (by kernel_rfl) hS0 ?_
    have HC0 := Lib.hid ((Chg.refl [] w16).drew)
    refine rgL 0 hS0 HSO ?_
    refine rgT 2 hS0 ?_
    refine rgL 3 hS0 HSO ?_
    refine rg_call2 1 6 rfl rfl (by kernel_rfl) (fun K hK => ?_) (fun K hK => ?_)
    ·go_simp
     go_at_call 15
     refine (toWorld_any x0 #[.int .i64 x0.shape.groups, .int .i64 x0.shape.column, .int .i64 x0.shape.data, .int .i64 x0.shape.spare, .int .i64 x0.shape.rows, .int .i64 x0.shape.cap, .int .i64 x0.shape.batch, .int .i64 x0.shape.queue, .int .i64 x0.shape.stage, .slice a10o0 l10o0 c10o0, .slice a11o0 l11o0 c11o0, .slice a12o0 l12o0 c12o0, .int .i64 x0.writes, .int .i64 x0.stop, .bool x0.down] fp0 _ (wldL.ext HO0.out (HC.out.trans0 HC0.out)) HZ0.out).mono ?_
     rintro e v1 ⟨z0, p0, rfl, hs, hf, hc⟩
     have E1 := Lib.hid hc; have HC1 := Lib.hid (HC0.out.trans0 hc); have HV0 := Lib.hid hs; clear hs hf hc
     go_wp2_with fail
     refine hK.out _ _ (HSI.out _ ⟨(Know.of (HC1.out.keep0 HBA0.out)), (Know.of (HC1.out.keep0 HBA2.out))⟩) (fun hS4 => ?_)
     clear hK K
     try simp only [Act.put, List.setIfInBounds_toArray, List.set_cons_zero, List.set_cons_succ]
     refine rg_call2 4 6 rfl rfl (by kernel_rfl) (fun K hK => ?_) (fun K hK => ?_)
     ·go_simp
      go_at_call 47
      refine (toRec_any x2 #[.int .i64 x2.kind, .int .i64 x2.seq, .string x2.name, .int .i64 x2.length, .int .i64 x2.group, .int .i64 x2.row, .slice a6o2 l6o2 c6o2, .slice a7o2 l7o2 c7o2, .slice a8o2 l8o2 c8o2] fp2 _ (recL.ext HO2.out (HC.out.trans0 HC1.out)) HZ2.out).mono ?_
      rintro e v2 ⟨z2, p2, rfl, hs, hf, hc⟩
      have E2 := Lib.hid hc; have HC2 := Lib.hid (HC1.out.trans0 hc); have HV2 := Lib.hid hs; clear hs hf hc
      go_wp2_with fail
      refine hK.out _ _ (HSI.out _ ⟨(Know.of (HC2.out.keep0 HBA0.out)), (Know.of (HC2.out.keep0 HBA2.out))⟩) (fun hS5 => ?_)
      clear hK K
      try simp only [Act.put, List.setIfInBounds_toArray, List.set_cons_zero, List.set_cons_succ]
      refine rg_call2 5 6 rfl rfl (by kernel_rfl) (fun K hK => ?_) (fun K hK => ?_)
      ·go_simp
       go_at_call 48
       refine (HI.out z0 p0 z2 p2 _ (wldL.ext HV0.out E2.out) HV2.out HZ0.out HZ2.out).mono ?_
       rintro e v3 ⟨zr, pr, rfl, hs, hf, hc⟩
       obtain ⟨a10r17, l10r17, c10r17, a11r17, l11r17, c11r17, a12r17, l12r17, c12r17, rfl, -, -⟩ := wrs_open hs
       have E3 := Lib.hid hc; have HC3 := Lib.hid (HC2.out.trans0 hc); have HRR := Lib.hid hs; have HRF := Lib.hid hf; clear hs hf hc
       go_wp2_with fail
       refine hK.out _ _ (HSI.out _ ⟨(Know.of (HC3.out.keep0 HBA0.out)), (Know.of (HC3.out.keep0 HBA2.out))⟩) (fun hS6 => ?_)
       clear hK K
       try simp only [Act.put, List.setIfInBounds_toArray, List.set_cons_zero, List.set_cons_succ]
       refine rg_call 6 rfl (by kernel_rfl) (fun K hK => ?_)
       have HM := Lib.hid (show w16.heap.size ≤ v3.heap.size from HC3.out.size)
       have E4 := Lib.hid ((Chg.refl [] v3).alloc zWR); have HC4 := Lib.hid (HC3.out.trans0 E4.out)
       have HROW := Lib.hid (new_alloc v3 zWR)
       go_simp
       refine hK.out _ _ (HSI.out _ ⟨(Know.of (HC4.out.keep0 HBA0.out)), (Know.of (HC4.out.keep0 HBA2.out))⟩) (fun hS7 => ?_)
       clear hK K
       try simp only [Act.put, List.setIfInBounds_toArray, List.set_cons_zero, List.set_cons_succ]
       refine rg_call 7 rfl (by kernel_rfl) (fun K hK => ?_)
       refine store_step rfl _ _ 48 rfl rfl rfl infoWRl HROW.out rfl rfl rfl ?_
       intro w9 hb9 hc9
       have HB9 := Lib.hid hb9
       have HMF := Lib.hid (show v3.heap.size ∉ pr from fun hb => Nat.lt_irrefl _ (HRF.out.lts _ hb))
       have HR9 := Lib.hid (wrsL.chg (wrsL.ext HRR.out E4.out) hc9 (fun y hy hm => HMF.out (by rw [List.mem_singleton] at hm; exact hm ▸ hy)))
       have HF9 := Lib.hid (((HRF.out.chg E4.out).mono (C := w16.heap.size) HC2.out.size).chg hc9)
       have HC9 := Lib.hid (HC4.out.trans hc9 (fun y hy => .inr (by rw [List.mem_singleton] at hy; subst hy; exact HM.out)))
       refine hK.out _ _ (HSI.out _ ⟨(Know.of (hc9.keepb (HC4.out.keep0 HBA0.out) (fun h => absurd (List.mem_singleton.1 h) (Nat.ne_of_lt (Nat.lt_of_lt_of_le lA0 HM.out))))), (Know.of (hc9.keepb (HC4.out.keep0 HBA2.out) (fun h => absurd (List.mem_singleton.1 h) (Nat.ne_of_lt (Nat.lt_of_lt_of_le lA2 HM.out)))))⟩) (fun hS8 => ?_)
       clear hK K
       try simp only [Act.put]
       refine wpAnyH_done (by kernel_rfl) ?_ _
       go_wp2_with fail
       go_meet
       exact ⟨_, _, _, rfl, HM.out, HB9.out, HR9.out, HF9.out, HMF.out, HC9.out⟩
      ·have HM := Lib.hid (show w16.heap.size ≤ v2.heap.size from HC2.out.size)
       have E3 := Lib.hid ((Chg.refl [] v2).alloc zWR); have HC3 := Lib.hid (HC2.out.trans0 E3.out)
       have HROW := Lib.hid (new_alloc v2 zWR)
       go_simp
       refine hK.out _ _ (HSI.out _ ⟨(Know.of (HC3.out.keep0 HBA0.out)), (Know.of (HC3.out.keep0 HBA2.out))⟩) (fun hS6 => ?_)
       clear hK K
       try simp only [Act.put, List.setIfInBounds_toArray, List.set_cons_zero, List.set_cons_succ]
       refine rg_call 5 rfl (by kernel_rfl) (fun K hK => ?_)
       go_simp
       go_at_call 48
       refine (HI.out z0 p0 z2 p2 _ (wldL.ext HV0.out (E2.out.trans0 E3.out)) (recL.ext HV2.out E3.out) HZ0.out HZ2.out).mono ?_
       rintro e v4 ⟨zr, pr, rfl, hs, hf, hc⟩
       obtain ⟨a10r17, l10r17, c10r17, a11r17, l11r17, c11r17, a12r17, l12r17, c12r17, rfl, -, -⟩ := wrs_open hs
       have E4 := Lib.hid hc; have HC4 := Lib.hid (HC3.out.trans0 hc); have HRR := Lib.hid hs; have HRF := Lib.hid hf; clear hs hf hc
       go_wp2_with fail
       refine hK.out _ _ (HSI.out _ ⟨(Know.of (HC4.out.keep0 HBA0.out)), (Know.of (HC4.out.keep0 HBA2.out))⟩) (fun hS7 => ?_)
       clear hK K
       try simp only [Act.put, List.setIfInBounds_toArray, List.set_cons_zero, List.set_cons_succ]
       refine rg_call 7 rfl (by kernel_rfl) (fun K hK => ?_)
       refine store_step rfl _ _ 48 rfl rfl rfl infoWRl (E4.out.keep0 HROW.out) rfl rfl rfl ?_
       intro w9 hb9 hc9
       have HB9 := Lib.hid hb9
       have HMF := Lib.hid (show v2.heap.size ∉ pr from fun hb => Nat.lt_irrefl _ (Nat.lt_of_lt_of_le (ltOf HROW.out) (HRF.out.2 _ hb).1))
       have HR9 := Lib.hid (wrsL.chg HRR.out hc9 (fun y hy hm => HMF.out (by rw [List.mem_singleton] at hm; exact hm ▸ hy)))
       have HF9 := Lib.hid (((HRF.out).mono (C := w16.heap.size) HC3.out.size).chg hc9)
       have HC9 := Lib.hid (HC4.out.trans hc9 (fun y hy => .inr (by rw [List.mem_singleton] at hy; subst hy; exact HM.out)))
       refine hK.out _ _ (HSI.out _ ⟨(Know.of (hc9.keepb (HC4.out.keep0 HBA0.out) (fun h => absurd (List.mem_singleton.1 h) (Nat.ne_of_lt (Nat.lt_of_lt_of_le lA0 HM.out))))), (Know.of (hc9.keepb (HC4.out.keep0 HBA2.out) (fun h => absurd (List.mem_singleton.1 h) (Nat.ne_of_lt (Nat.lt_of_lt_of_le lA2 HM.out)))))⟩) (fun hS8 => ?_)
       clear hK K
       try simp only [Act.put]
       refine wpAnyH_done (by kernel_rfl) ?_ _
       go_wp2_with fail
       go_meet
       exact ⟨_, _, _, rfl, HM.out, HB9.out, HR9.out, HF9.out, HMF.out, HC9.out⟩
     ·have HM := Lib.hid (show w16.heap.size ≤ v1.heap.size from HC1.out.size)
      have E2 := Lib.hid ((Chg.refl [] v1).alloc zWR); have HC2 := Lib.hid (HC1.out.trans0 E2.out)
      have HROW := Lib.hid (new_alloc v1 zWR)
      go_simp
      refine hK.out _ _ (HSI.out _ ⟨(Know.of (HC2.out.keep0 HBA0.out)), (Know.of (HC2.out.keep0 HBA2.out))⟩) (fun hS5 => ?_)
      clear hK K
      try simp only [Act.put, List.setIfInBounds_toArray, List.set_cons_zero, List.set_cons_succ]
      refine rg_call 4 rfl (by kernel_rfl) (fun K hK => ?_)
      go_simp
      go_at_call 47
      refine (toRec_any x2 #[.int .i64 x2.kind, .int .i64 x2.seq, .string x2.name, .int .i64 x2.length, .int .i64 x2.group, .int .i64 x2.row, .slice a6o2 l6o2 c6o2, .slice a7o2 l7o2 c7o2, .slice a8o2 l8o2 c8o2] fp2 _ (recL.ext HO2.out (HC.out.trans0 HC2.out)) HZ2.out).mono ?_
      rintro e v3 ⟨z2, p2, rfl, hs, hf, hc⟩
      have E3 := Lib.hid hc; have HC3 := Lib.hid (HC2.out.trans0 hc); have HV2 := Lib.hid hs; clear hs hf hc
      go_wp2_with fail
      refine hK.out _ _ (HSI.out _ ⟨(Know.of (HC3.out.keep0 HBA0.out)), (Know.of (HC3.out.keep0 HBA2.out))⟩) (fun hS6 => ?_)
      clear hK K
      try simp only [Act.put, List.setIfInBounds_toArray, List.set_cons_zero, List.set_cons_succ]
      refine rg_call 5 rfl (by kernel_rfl) (fun K hK => ?_)
      go_simp
      go_at_call 48
      refine (HI.out z0 p0 z2 p2 _ (wldL.ext HV0.out (E2.out.trans0 E3.out)) HV2.out HZ0.out HZ2.out).mono ?_
      rintro e v4 ⟨zr, pr, rfl, hs, hf, hc⟩
      obtain ⟨a10r17, l10r17, c10r17, a11r17, l11r17, c11r17, a12r17, l12r17, c12r17, rfl, -, -⟩ := wrs_open hs
      have E4 := Lib.hid hc; have HC4 := Lib.hid (HC3.out.trans0 hc); have HRR := Lib.hid hs; have HRF := Lib.hid hf; clear hs hf hc
      go_wp2_with fail
      refine hK.out _ _ (HSI.out _ ⟨(Know.of (HC4.out.keep0 HBA0.out)), (Know.of (HC4.out.keep0 HBA2.out))⟩) (fun hS7 => ?_)
      clear hK K
      try simp only [Act.put, List.setIfInBounds_toArray, List.set_cons_zero, List.set_cons_succ]
      refine rg_call 7 rfl (by kernel_rfl) (fun K hK => ?_)
      refine store_step rfl _ _ 48 rfl rfl rfl infoWRl ((E3.out.trans0 E4.out).keep0 HROW.out) rfl rfl rfl ?_
      intro w9 hb9 hc9
      have HB9 := Lib.hid hb9
      have HMF := Lib.hid (show v1.heap.size ∉ pr from fun hb => Nat.lt_irrefl _ (Nat.lt_of_lt_of_le (ltOf (E3.out.keep0 HROW.out)) (HRF.out.2 _ hb).1))
      have HR9 := Lib.hid (wrsL.chg HRR.out hc9 (fun y hy hm => HMF.out (by rw [List.mem_singleton] at hm; exact hm ▸ hy)))
      have HF9 := Lib.hid (((HRF.out).mono (C := w16.heap.size) HC3.out.size).chg hc9)
      have HC9 := Lib.hid (HC4.out.trans hc9 (fun y hy => .inr (by rw [List.mem_singleton] at hy; subst hy; exact HM.out)))
      refine hK.out _ _ (HSI.out _ ⟨(Know.of (hc9.keepb (HC4.out.keep0 HBA0.out) (fun h => absurd (List.mem_singleton.1 h) (Nat.ne_of_lt (Nat.lt_of_lt_of_le lA0 HM.out))))), (Know.of (hc9.keepb (HC4.out.keep0 HBA2.out) (fun h => absurd (List.mem_singleton.1 h) (Nat.ne_of_lt (Nat.lt_of_lt_of_le lA2 HM.out)))))⟩) (fun hS8 => ?_)
      clear hK K
      try simp only [Act.put]
      refine wpAnyH_done (by kernel_rfl) ?_ _
      go_wp2_with fail
      go_meet
      exact ⟨_, _, _, rfl, HM.out, HB9.out, HR9.out, HF9.out, HMF.out, HC9.out⟩
    ·have HM := Lib.hid (show w16.heap.size ≤ w16.heap.size from HC0.out.size)
     have HC1 := Lib.hid (((Chg.refl [] w16).alloc zWR).drew)
     have HROW := Lib.hid (keep_drew (new_alloc w16 zWR))
     go_simp
     refine hK.out _ _ (HSI.out _ ⟨(Know.of (HC1.out.keep0 HBA0.out)), (Know.of (HC1.out.keep0 HBA2.out))⟩) (fun hS4 => ?_)
     clear hK K
     try simp only [Act.put, List.setIfInBounds_toArray, List.set_cons_zero, List.set_cons_succ]
     refine rg_call 1 rfl (by kernel_rfl) (fun K hK => ?_)
     go_simp
     go_at_call 15
     refine (toWorld_any x0 #[.int .i64 x0.shape.groups, .int .i64 x0.shape.column, .int .i64 x0.shape.data, .int .i64 x0.shape.spare, .int .i64 x0.shape.rows, .int .i64 x0.shape.cap, .int .i64 x0.shape.batch, .int .i64 x0.shape.queue, .int .i64 x0.shape.stage, .slice a10o0 l10o0 c10o0, .slice a11o0 l11o0 c11o0, .slice a12o0 l12o0 c12o0, .int .i64 x0.writes, .int .i64 x0.stop, .bool x0.down] fp0 _ (wldL.ext HO0.out (HC.out.trans0 HC1.out)) HZ0.out).mono ?_
     rintro e v2 ⟨z0, p0, rfl, hs, hf, hc⟩
     have E2 := Lib.hid hc; have HC2 := Lib.hid (HC1.out.trans0 hc); have HV0 := Lib.hid hs; clear hs hf hc
     go_wp2_with fail
     refine hK.out _ _ (HSI.out _ ⟨(Know.of (HC2.out.keep0 HBA0.out)), (Know.of (HC2.out.keep0 HBA2.out))⟩) (fun hS5 => ?_)
     clear hK K
     try simp only [Act.put, List.setIfInBounds_toArray, List.set_cons_zero, List.set_cons_succ]
     refine rg_call 4 rfl (by kernel_rfl) (fun K hK => ?_)
     go_simp
     go_at_call 47
     refine (toRec_any x2 #[.int .i64 x2.kind, .int .i64 x2.seq, .string x2.name, .int .i64 x2.length, .int .i64 x2.group, .int .i64 x2.row, .slice a6o2 l6o2 c6o2, .slice a7o2 l7o2 c7o2, .slice a8o2 l8o2 c8o2] fp2 _ (recL.ext HO2.out (HC.out.trans0 HC2.out)) HZ2.out).mono ?_
     rintro e v3 ⟨z2, p2, rfl, hs, hf, hc⟩
     have E3 := Lib.hid hc; have HC3 := Lib.hid (HC2.out.trans0 hc); have HV2 := Lib.hid hs; clear hs hf hc
     go_wp2_with fail
     refine hK.out _ _ (HSI.out _ ⟨(Know.of (HC3.out.keep0 HBA0.out)), (Know.of (HC3.out.keep0 HBA2.out))⟩) (fun hS6 => ?_)
     clear hK K
     try simp only [Act.put, List.setIfInBounds_toArray, List.set_cons_zero, List.set_cons_succ]
     refine rg_call 5 rfl (by kernel_rfl) (fun K hK => ?_)
     go_simp
     go_at_call 48
     refine (HI.out z0 p0 z2 p2 _ (wldL.ext HV0.out E3.out) HV2.out HZ0.out HZ2.out).mono ?_
     rintro e v4 ⟨zr, pr, rfl, hs, hf, hc⟩
     obtain ⟨a10r17, l10r17, c10r17, a11r17, l11r17, c11r17, a12r17, l12r17, c12r17, rfl, -, -⟩ := wrs_open hs
     have E4 := Lib.hid hc; have HC4 := Lib.hid (HC3.out.trans0 hc); have HRR := Lib.hid hs; have HRF := Lib.hid hf; clear hs hf hc
     go_wp2_with fail
     refine hK.out _ _ (HSI.out _ ⟨(Know.of (HC4.out.keep0 HBA0.out)), (Know.of (HC4.out.keep0 HBA2.out))⟩) (fun hS7 => ?_)
     clear hK K
     try simp only [Act.put, List.setIfInBounds_toArray, List.set_cons_zero, List.set_cons_succ]
     refine rg_call 7 rfl (by kernel_rfl) (fun K hK => ?_)
     refine store_step rfl _ _ 48 rfl rfl rfl infoWRl (((E2.out.trans0 E3.out).trans0 E4.out).keep0 HROW.out) rfl rfl rfl ?_
     intro w9 hb9 hc9
     have HB9 := Lib.hid hb9
     have HMF := Lib.hid (show w16.heap.size ∉ pr from fun hb => Nat.lt_irrefl _ (Nat.lt_of_lt_of_le (ltOf ((E2.out.trans0 E3.out).keep0 HROW.out)) (HRF.out.2 _ hb).1))
     have HR9 := Lib.hid (wrsL.chg HRR.out hc9 (fun y hy hm => HMF.out (by rw [List.mem_singleton] at hm; exact hm ▸ hy)))
     have HF9 := Lib.hid (((HRF.out).mono (C := w16.heap.size) HC3.out.size).chg hc9)
     have HC9 := Lib.hid (HC4.out.trans hc9 (fun y hy => .inr (by rw [List.mem_singleton] at hy; subst hy; exact HM.out)))
     refine hK.out _ _ (HSI.out _ ⟨(Know.of (hc9.keepb (HC4.out.keep0 HBA0.out) (fun h => absurd (List.mem_singleton.1 h) (Nat.ne_of_lt (Nat.lt_of_lt_of_le lA0 HM.out))))), (Know.of (hc9.keepb (HC4.out.keep0 HBA2.out) (fun h => absurd (List.mem_singleton.1 h) (Nat.ne_of_lt (Nat.lt_of_lt_of_le lA2 HM.out)))))⟩) (fun hS8 => ?_)
     clear hK K
     try simp only [Act.put]
     refine wpAnyH_done (by kernel_rfl) ?_ _
     go_wp2_with fail
     go_meet
     exact ⟨_, _, _, rfl, HM.out, HB9.out, HR9.out, HF9.out, HMF.out, HC9.out⟩
  case rest =>
  revert wc; intro w17 hcut
  obtain ⟨mN, zr, p17, rfl, hm, hrow, hs, hf, hmf, hc⟩ := hcut
  obtain ⟨a10r17, l10r17, c10r17, a11r17, l11r17, c11r17, a12r17, l12r17, c12r17, rfl, -, -⟩ := wrs_open hs
  have HMN := Lib.hid hm; have HRWN := Lib.hid hrow; have DBBN_N := Lib.hid hmf; clear hm hrow hmf
  have hG := fun (x : Nat) (hx : x ∈ p17) => Nat.le_trans HC.out.size (hf.2 x hx).1
  have HGN := Lib.hid hG; clear hG
  have hD := fun (b : Nat) (hb : b ∈ p3) (hb' : b ∈ p17) => Nat.lt_irrefl _ (Nat.lt_of_lt_of_le ((Lay.lt wrsL HQ.out) b hb) (hf.2 b hb').1)
  have DQ_N := Lib.hid hD; have DN_Q := Lib.hid (fun (b : Nat) (hb : b ∈ p17) (hb' : b ∈ p3) => hD b hb' hb); clear hD
  have hD := fun (b : Nat) (hb : b ∈ p6) (hb' : b ∈ p17) => Nat.lt_irrefl _ (Nat.lt_of_lt_of_le ((Lay.lt wrsL HP.out) b hb) (hf.2 b hb').1)
  have DP_N := Lib.hid hD; have DN_P := Lib.hid (fun (b : Nat) (hb : b ∈ p17) (hb' : b ∈ p6) => hD b hb' hb); clear hD
  have DBA0_N := Lib.hid (fun hb => Nat.lt_irrefl _ (Nat.lt_of_lt_of_le (ltOf HBA0.out) (hf.2 _ hb).1) : W.heap.size ∉ p17)
  have DBA2_N := Lib.hid (fun hb => Nat.lt_irrefl _ (Nat.lt_of_lt_of_le (ltOf HBA2.out) (hf.2 _ hb).1) : W.heap.size + 1 ∉ p17)
  have DBBQ_N := Lib.hid (fun hb => Nat.lt_irrefl _ (Nat.lt_of_lt_of_le (ltOf HBBQ.out) (hf.2 _ hb).1) : mQ ∉ p17)
  have DBC0_N := Lib.hid (fun hb => Nat.lt_irrefl _ (Nat.lt_of_lt_of_le (ltOf HBC0.out) (hf.2 _ hb).1) : w4.heap.size ∉ p17)
  have DBC2_N := Lib.hid (fun hb => Nat.lt_irrefl _ (Nat.lt_of_lt_of_le (ltOf HBC2.out) (hf.2 _ hb).1) : w5.heap.size ∉ p17)
  have DBBP_N := Lib.hid (fun hb => Nat.lt_irrefl _ (Nat.lt_of_lt_of_le (ltOf HBBP.out) (hf.2 _ hb).1) : w6.heap.size ∉ p17)
  replace HQ := hre HQ hc
  replace HP := hre HP hc
  have h := Fresh.chg HFQ.out hc; clear HFQ; have HFQ := Lib.hid h; clear h
  have h := Fresh.chg HFP.out hc; clear HFP; have HFP := Lib.hid h; clear h
  have h := bk hc HBA0.out (by simp); clear HBA0 cA0 lA0; obtain ⟨cA0, lA0, HBA0⟩ := h
  have h := bk hc HBA2.out (by simp); clear HBA2 cA2 lA2; obtain ⟨cA2, lA2, HBA2⟩ := h
  have h := bk hc HBBQ.out (by simp); clear HBBQ cBQ lBQ; obtain ⟨cBQ, lBQ, HBBQ⟩ := h
  have h := bk hc HBC0.out (by simp); clear HBC0 cC0 lC0; obtain ⟨cC0, lC0, HBC0⟩ := h
  have h := bk hc HBC2.out (by simp); clear HBC2 cC2 lC2; obtain ⟨cC2, lC2, HBC2⟩ := h
  have h := bk hc HBBP.out (by simp); clear HBBP cBP lBP; obtain ⟨cBP, lBP, HBBP⟩ := h
  replace HC := hct HC hc
  have HN := Lib.hid hs; have HFN := Lib.hid (hf.mono (Nat.zero_le _)); clear hs hf
  clear hc
  have cBN := cellsOf HRWN.out; have lBN := ltOf HRWN.out; have HBBN := Lib.hid HRWN.out; clear HRWN
  as_aux_lemma =>
   go_wp2_with (first | (refine load_wide rfl _ 28 rfl rfl infoLW Tryz.underlying28 HBA0.out rfl ?_) | (refine load_wide rfl _ 48 rfl rfl infoWRl Tryz.underlying48 HBBQ.out rfl ?_) | (refine load_wide rfl _ 40 rfl rfl infoWd Tryz.underlying40 HBC0.out rfl ?_) | (refine load_wide rfl _ 48 rfl rfl infoWRl Tryz.underlying48 HBBP.out rfl ?_) | (refine load_wide rfl _ 48 rfl rfl infoWRl Tryz.underlying48 HBBN.out rfl ?_) | (refine store_new rfl _ _ 48 rfl rfl rfl (by simp) infoWRl rfl rfl rfl ?_) | (refine store_new rfl _ _ 28 rfl rfl rfl (by simp) infoLW rfl rfl rfl ?_) | (refine store_new rfl _ _ 40 rfl rfl rfl (by simp) infoWd rfl rfl rfl ?_))
   refine (eqWorldResult_any r #[.int .i64 r.code, .int .i64 r.world.shape.groups, .int .i64 r.world.shape.column, .int .i64 r.world.shape.data, .int .i64 r.world.shape.spare, .int .i64 r.world.shape.rows, .int .i64 r.world.shape.cap, .int .i64 r.world.shape.batch, .int .i64 r.world.shape.queue, .int .i64 r.world.shape.stage, .slice a10r17 l10r17 c10r17, .slice a11r17 l11r17 c11r17, .slice a12r17 l12r17 c12r17, .int .i64 r.world.writes, .int .i64 r.world.stop, .bool r.world.down] #[.int .i64 r.code, .int .i64 r.world.shape.groups, .int .i64 r.world.shape.column, .int .i64 r.world.shape.data, .int .i64 r.world.shape.spare, .int .i64 r.world.shape.rows, .int .i64 r.world.shape.cap, .int .i64 r.world.shape.batch, .int .i64 r.world.shape.queue, .int .i64 r.world.shape.stage, .slice a10r3 l10r3 c10r3, .slice a11r3 l11r3 c11r3, .slice a12r3 l12r3 c12r3, .int .i64 r.world.writes, .int .i64 r.world.stop, .bool r.world.down] p17 p3 _ HN.out HQ.out).mono ?_
   rintro e w18 ⟨rfl, hc⟩
   replace HQ := hre HQ hc
   replace HP := hre HP hc
   replace HN := hre HN hc
   have h := Fresh.chg HFQ.out hc; clear HFQ; have HFQ := Lib.hid h; clear h
   have h := Fresh.chg HFP.out hc; clear HFP; have HFP := Lib.hid h; clear h
   have h := Fresh.chg HFN.out hc; clear HFN; have HFN := Lib.hid h; clear h
   have h := bk hc HBA0.out (by simp); clear HBA0 cA0 lA0; obtain ⟨cA0, lA0, HBA0⟩ := h
   have h := bk hc HBA2.out (by simp); clear HBA2 cA2 lA2; obtain ⟨cA2, lA2, HBA2⟩ := h
   have h := bk hc HBBQ.out (by simp); clear HBBQ cBQ lBQ; obtain ⟨cBQ, lBQ, HBBQ⟩ := h
   have h := bk hc HBC0.out (by simp); clear HBC0 cC0 lC0; obtain ⟨cC0, lC0, HBC0⟩ := h
   have h := bk hc HBC2.out (by simp); clear HBC2 cC2 lC2; obtain ⟨cC2, lC2, HBC2⟩ := h
   have h := bk hc HBBP.out (by simp); clear HBBP cBP lBP; obtain ⟨cBP, lBP, HBBP⟩ := h
   have h := bk hc HBBN.out (by simp); clear HBBN cBN lBN; obtain ⟨cBN, lBN, HBBN⟩ := h
   replace HC := hct HC hc
   clear hc
   go_wp2_with (first | (refine load_wide rfl _ 28 rfl rfl infoLW Tryz.underlying28 HBA0.out rfl ?_) | (refine load_wide rfl _ 48 rfl rfl infoWRl Tryz.underlying48 HBBQ.out rfl ?_) | (refine load_wide rfl _ 40 rfl rfl infoWd Tryz.underlying40 HBC0.out rfl ?_) | (refine load_wide rfl _ 48 rfl rfl infoWRl Tryz.underlying48 HBBP.out rfl ?_) | (refine load_wide rfl _ 48 rfl rfl infoWRl Tryz.underlying48 HBBN.out rfl ?_) | (refine store_new rfl _ _ 48 rfl rfl rfl (by simp) infoWRl rfl rfl rfl ?_) | (refine store_new rfl _ _ 28 rfl rfl rfl (by simp) infoLW rfl rfl rfl ?_) | (refine store_new rfl _ _ 40 rfl rfl rfl (by simp) infoWd rfl rfl rfl ?_))
   refine (heldWorldResult_any r #[.int .i64 r.code, .int .i64 r.world.shape.groups, .int .i64 r.world.shape.column, .int .i64 r.world.shape.data, .int .i64 r.world.shape.spare, .int .i64 r.world.shape.rows, .int .i64 r.world.shape.cap, .int .i64 r.world.shape.batch, .int .i64 r.world.shape.queue, .int .i64 r.world.shape.stage, .slice a10r6 l10r6 c10r6, .slice a11r6 l11r6 c11r6, .slice a12r6 l12r6 c12r6, .int .i64 r.world.writes, .int .i64 r.world.stop, .bool r.world.down] p6 1 _ HP.out (by omega) (by rw [← HK.out]; omega)).mono ?_
   rintro e w19 ⟨rfl, hc⟩
   rw [← HK.out]
   replace HQ := hre HQ hc
   replace HP := hre HP hc
   replace HN := hre HN hc
   have h := Fresh.chg HFQ.out hc; clear HFQ; have HFQ := Lib.hid h; clear h
   have h := Fresh.chg HFP.out hc; clear HFP; have HFP := Lib.hid h; clear h
   have h := Fresh.chg HFN.out hc; clear HFN; have HFN := Lib.hid h; clear h
   have h := bk hc HBA0.out (by simp); clear HBA0 cA0 lA0; obtain ⟨cA0, lA0, HBA0⟩ := h
   have h := bk hc HBA2.out (by simp); clear HBA2 cA2 lA2; obtain ⟨cA2, lA2, HBA2⟩ := h
   have h := bk hc HBBQ.out (by simp); clear HBBQ cBQ lBQ; obtain ⟨cBQ, lBQ, HBBQ⟩ := h
   have h := bk hc HBC0.out (by simp); clear HBC0 cC0 lC0; obtain ⟨cC0, lC0, HBC0⟩ := h
   have h := bk hc HBC2.out (by simp); clear HBC2 cC2 lC2; obtain ⟨cC2, lC2, HBC2⟩ := h
   have h := bk hc HBBP.out (by simp); clear HBBP cBP lBP; obtain ⟨cBP, lBP, HBBP⟩ := h
   have h := bk hc HBBN.out (by simp); clear HBBN cBN lBN; obtain ⟨cBN, lBN, HBBN⟩ := h
   replace HC := hct HC hc
   clear hc
   go_wp2_with fail
   go_ret
   exact ⟨rfl, HC.out⟩

/-! ### FnExactAppendRec -/
namespace fnExactAppendRec
theorem own : ownKnob Tryz.prog.godebug = none := by kernel_rfl
theorem laidOut : laidOutB Tryz.prog = true := by kernel_rfl
set_option linter.unusedVariables false in
set_option maxRecDepth 100000 in
theorem lifted (os : Os) (started : os.Started) (H : Type) (enc : TypeId × Value → H) :
  ReturnsInHanded {} Tryz.checked os 12 .any (Rows.fnExactAppendRecSpec.pre6 enc Tryz.prog Tryz.f12 Rows.fnExactAppendRecRow.domain false) (Rows.fnExactAppendRecSpec.post enc Tryz.prog Tryz.f12 false true false false) := by
 refine returnsInHanded_of_change (C := Tryz.checked) own started (by kernel_rfl) Tryz.func12
  (ChangeSpec.witness6 (enc := enc) (C := Tryz.checked) false ⟨#[], #[.agg #[.int .i64 0, .int .i64 0, .int .i64 0, .int .i64 0, .int .i64 0, .int .i64 0, .int .i64 0, .int .i64 0, .int .i64 0, .slice none 0 0, .slice none 0 0, .slice none 0 0, .int .i64 0, .int .i64 0, .bool false], .int .i64 0, .agg #[.int .i64 0, .int .i64 0, .string ⟨#[]⟩, .int .i64 0, .int .i64 0, .int .i64 0, .slice none 0 0, .slice none 0 0, .slice none 0 0]], []⟩ 8 (by kernel_rfl) (by kernel_rfl) (by kernel_rfl) (by kernel_rfl)) ?_
 intro W base args ds gs before hval0 hW hcnd _
 have hval : ∀ (j : Nat) t v, Tryz.f12.params[j]? = some t → args[j]? = some v → Value.okWide Tryz.prog W .any base t v := hval0
 have hW' := hW
 obtain ⟨p, q, hA0, hV, rfl, hfz, hnd⟩ := hW
 have hA : DataW.TrodAll enc Tryz.prog W 0 (fun _ => true) true Tryz.f12.params.toList args.toList ds p := hA0
 rw [Tryz.params12] at hA hval
 obtain ⟨v0, vs0, d0, ds0, p0, q0, hargs, rfl, rfl, h0, r0⟩ := trodAll_cons hA
 obtain ⟨v1, vs1, d1, ds1, p1, q1, rfl, rfl, rfl, h1, r1⟩ := trodAll_cons r0
 obtain ⟨v2, vs2, d2, ds2, p2, q2, rfl, rfl, rfl, h2, r2⟩ := trodAll_cons r1
 obtain ⟨rfl, rfl, rfl⟩ := trodAll_nil r2
 obtain rfl : args = #[v0, v1, v2] := by cases args; simp_all
 obtain ⟨rfl, rfl⟩ := trodVars_none hV
 have k0 := h0
 have lt0 : ∀ x ∈ p0, x.block < W.heap.size := by obtain ⟨m, hm⟩ := k0; exact DataW.trod_lt m _ _ _ hm
 obtain ⟨cs0, rfl, _⟩ := okWide_struct Tryz.underlying28 (hval 0 28 v0 rfl rfl)
 obtain ⟨x0, fp0, o0⟩ := op_wld.trod h0
 have k1 := h1
 have lt1 : ∀ x ∈ p1, x.block < W.heap.size := by obtain ⟨m, hm⟩ := k1; exact DataW.trod_lt m _ _ _ hm
 obtain ⟨x1, rfl, _, _, w1⟩ := open_int Tryz.underlying2 (hval 1 2 v1 rfl rfl) h1
 have k2 := h2
 have lt2 : ∀ x ∈ p2, x.block < W.heap.size := by obtain ⟨m, hm⟩ := k2; exact DataW.trod_lt m _ _ _ hm
 obtain ⟨cs2, rfl, _⟩ := okWide_struct Tryz.underlying65 (hval 2 65 v2 rfl rfl)
 obtain ⟨x2, fp2, o2⟩ := op_rec.trod h2
 clear hA0 hval0
 simp only [List.append_nil] at hW'
 refine (walk_FnExactAppendRec W cs0 x0 fp0 o0 x1 (i64_of_wf w1) cs2 x2 fp2 o2).mono fun e W' ⟨he, hc⟩ => ?_
 subst he
 have bel := hc.below0
 exact ⟨_, rfl, _, _, _, [], _, [], hW', trodAll_mk1 (shut_bool Tryz.underlying4 _), (trodAll_cons_mk (Below.trod laidOut (by kernel_rfl) (of_decide_eq_true (by kernel_rfl)) k0 bel lt0) (trodAll_cons_mk (Below.trod laidOut (by kernel_rfl) (of_decide_eq_true (by kernel_rfl)) k1 bel lt1) (trodAll_cons_mk (Below.trod laidOut (by kernel_rfl) (of_decide_eq_true (by kernel_rfl)) k2 bel lt2) trodAll_mk0))), rfl, bel.frame _, fun h => by cases h⟩

theorem over : Rows.fnExactAppendRecRow.holds Tryz.pinned (OpenSpec.ofChange Rows.fnExactAppendRecSpec) :=
 OpenClaim.holds_of_wide 12 Tryz.f12 rfl rfl rfl rfl rfl rfl rfl ⟨rfl, rfl, rfl, rfl, rfl⟩ rfl rfl rfl rfl rfl (by kernel_rfl) Tryz.func12 (by kernel_rfl)
  (of_decide_eq_true (by kernel_rfl)) (by unfold Func.isWrapper; first | (rw [if_pos (by decide +kernel)]; kernel_rfl) | (rw [if_neg (by decide +kernel)]; exact ⟨rfl, rfl⟩))
  (fun os started H enc _ => lifted os started H enc)
end fnExactAppendRec
theorem FnExactAppendRec_holds : Rows.FnExactAppendRecSaid := fnExactAppendRec.over
#print axioms FnExactAppendRec_holds
end Go.Proofs.YtnnhopcjlnnchaaGreat
