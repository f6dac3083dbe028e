import Derived.Test.YtphmpimgbmedbaaGreatRows
import Derived.Test.YtphmpimgbmedbaaGreatWhSM
/- The laws' helpers at structures of the world: measured, compared. -/
namespace Go.Proofs.YtphmpimgbmedbaaGreat
open Go.RowKit

set_option maxRecDepth 100000 in
set_option maxHeartbeats 2000000 in
theorem szBlock_any (x : Blk) (cx : Array Value) (fx : List Nat) (k : Int) (w : World) (hx : blkL.rep w cx.toList x fx) (hk : 0 ≤ k) (hk2 : k ≤ 1048576) :
    Calls Tryz.prog 287 #[.agg cx, .int .i64 k] w (SzPost (totBlk x) k w) := by
  obtain ⟨a1, l1, c1, f1, ex, o0, h1, -⟩ := blkL_iff.1 hx
  clear hx
  obtain ⟨v0, v1⟩ := x
  simp only at ex o0 h1
  obtain rfl := Array.toList_inj.1 (ex.trans (List.toList_toArray).symm)
  clear ex o0
  have H1 := Lib.hid h1; clear h1
  obtain ⟨t1, ht1⟩ : ∃ t, t = totBs v1 := ⟨_, rfl⟩
  have n1 : 0 ≤ t1 := by rw [ht1]; exact totBs_nonneg _
  have HT1 := Lib.hid ht1
  have HT := Lib.hid (show totBlk ⟨v0, v1⟩ = t1 by rw [ht1]; unfold totBlk; rfl)
  clear ht1
  go_enter Tryz.func287, Tryz.ntmps287
  go_wp2_with fail
  refine (szByteS_any a1 l1 c1 v1 f1 (k) _ (byteL.sl_ext H1.out (by refine Chg.alloc ?_ _; exact Chg.refl _ _)) (by omega) (by omega)).mono ?_
  rintro e w1 ⟨rfl, hc⟩
  rw [← HT1.out]
  have hP := hc.keep0 (b := w.heap.size) (new_at (by simp) _)
  have cP := cellsOf hP; have lP := ltOf hP; have fP := freeOf hP; have HBP := Lib.hid hP; clear hP
  have HC1 := Lib.hid hc; clear hc
  by_cases m1 : k - t1 < 0
  · rw [if_pos m1]
    go_wp2_with fail
    go_ret
    exact ⟨ret_int (by rw [HT.out, if_pos (by omega)]), by refine Chg.trans0 ?_ HC1.out; refine Chg.alloc ?_ _; exact Chg.refl _ _⟩
  rw [if_neg m1]
  go_wp2_with fail
  go_ret
  exact ⟨ret_int (by rw [HT.out, if_neg (by omega)] <;> omega), by refine Chg.trans0 ?_ HC1.out; refine Chg.alloc ?_ _; exact Chg.refl _ _⟩

set_option maxRecDepth 100000 in
set_option maxHeartbeats 2000000 in
theorem eqBlock_any (x : Blk) (cx cy : Array Value) (fx fy : List Nat) (w : World) (hx : blkL.rep w cx.toList x fx) (hy : blkL.rep w cy.toList x fy) :
    Calls Tryz.prog 291 #[.agg cx, .agg cy] w fun e w' => e = .returned (.bool true) ∧ Chg [] w w' := by
  obtain ⟨a1, l1, c1, f1, ex, o0, h1, -⟩ := blkL_iff.1 hx
  obtain ⟨b1, m1, d1, g1, ey, q0, j1, -⟩ := blkL_iff.1 hy
  clear hx hy
  obtain ⟨v0, v1⟩ := x
  simp only at ex ey h1 j1
  obtain rfl := Array.toList_inj.1 (ex.trans (List.toList_toArray).symm)
  obtain rfl := Array.toList_inj.1 (ey.trans (List.toList_toArray).symm)
  clear ex ey o0 q0
  obtain rfl : l1 = m1 := h1.1.trans j1.1.symm
  have H1 := Lib.hid h1; have J1 := Lib.hid j1; clear h1 j1
  have e0 : ((v0 : Int) != v0) = false := by simp
  go_enter Tryz.func291, Tryz.ntmps291
  go_wp2_with fail
  refine (eqB_any a1 b1 l1 c1 d1 v1 f1 g1 _ (byteL.sl_ext H1.out (by refine Chg.alloc ?_ _; refine Chg.alloc ?_ _; exact Chg.refl _ _)) (byteL.sl_ext J1.out (by refine Chg.alloc ?_ _; refine Chg.alloc ?_ _; exact Chg.refl _ _))).mono ?_
  rintro e w1 ⟨rfl, hc⟩
  have hP := hc.keep0 (b := w.heap.size) (keep_alloc (new_at (by simp) _) _)
  have hQ := hc.keep0 (b := w.heap.size + 1) (new_at (by simp) _)
  have cP := cellsOf hP; have lP := ltOf hP; have fP := freeOf hP; have HBP := Lib.hid hP; clear hP
  have cQ := cellsOf hQ; have lQ := ltOf hQ; have fQ := freeOf hQ; have HBQ := Lib.hid hQ; clear hQ
  have HC1 := Lib.hid hc; clear hc
  go_wp2_with fail
  go_ret
  exact ⟨rfl, by refine Chg.trans0 ?_ HC1.out; refine Chg.alloc ?_ _; refine Chg.alloc ?_ _; exact Chg.refl _ _⟩


set_option maxRecDepth 100000 in
set_option maxHeartbeats 1000000 in
theorem szBlockS_any (a : Option Addr) (la ca : Nat) (xs : List (Blk)) (f : List Nat) (k : Int) (w : World) (ha : blkL.sl w a la ca xs f) (hk : 0 ≤ k) (hk2 : k ≤ 1048576) :
    Calls Tryz.prog 263 #[.slice a la ca, .int .i64 k] w (SzPost (totL (totBlk) xs) k w) := by
  have hm := blkL.sl_max ha
  have HL := Lib.hid ha.1
  have HA := Lib.hid ha
  have HN := Lib.hid (sumI_nonneg (f := totBlk) totBlk_nonneg xs)
  have HT := Lib.hid (show totL (totBlk) xs = (la : Int) + sumI (totBlk) xs by unfold totL; rw [ha.1])
  clear ha
  by_cases hn : k - (la : Int) < 0
  · go_enter Tryz.func263, Tryz.ntmps263
    go_wp2
    go_ret
    exact ⟨ret_int (by rw [HT.out, if_pos (by have := HN.out; omega)]), Chg.refl _ _⟩
  go_enter Tryz.func263, Tryz.ntmps263
  go_wp2
  go_loopw [1, 5] (fun u v wr => ∃ (j : Nat) (z : Int), j ≤ la ∧ u = .int .i64 z ∧ v = .int .i64 j ∧ RowKit.Hid (z = k - la - sumI (totBlk) (xs.take j)) ∧ 0 ≤ z ∧ z ≤ 1048576 ∧ RowKit.Hid (Chg [] w wr)) (fun _ v _ => la - (intOf v).toNat)
  case atStart => exact ⟨0, k - la, by omega, rfl, rfl, by show k - la = k - la - 0; omega, by omega, by omega, Chg.refl _ _⟩
  case round =>
    obtain ⟨j, z, hj, rfl, rfl, HZ, hz0, hz1, HC⟩ := hrel
    by_cases hlt : j < la
    · obtain ⟨x, b, o, a1, l1, c1, fx, HX, rfl, hc0, hc1, HXS⟩ := block_at (blkL.sl_ext HA.out HC.out) hlt
      have HS := Lib.hid (sumI_at (f := totBlk) totBlk_nonneg HX.out.1)
      have HSN := Lib.hid (sumI_take (f := totBlk) HX.out.1)
      obtain ⟨t, ht⟩ : ∃ t, t = (totBlk) x := ⟨_, rfl⟩
      have ht0 : 0 ≤ t := by rw [ht]; exact totBlk_nonneg x
      have HTX := Lib.hid ht
      clear ht
      go_wp2_with fail
      refine (szBlock_any x #[.int .i64 x.stamp, .slice a1 l1 c1] fx z _ HXS.out hz0 hz1).mono ?_
      rintro e w1 ⟨rfl, hc⟩
      have HC2 := Lib.hid (HC.out.trans0 hc)
      clear hc
      rw [← HTX.out]
      by_cases hneg : z - t < 0
      · rw [if_pos hneg]
        go_wp2_with fail
        go_ret
        exact ⟨ret_int (by rw [HT.out, if_pos (by have h1 := HS.out; have h2 := HZ.out; have h3 := HTX.out; omega)]), HC2.out⟩
      · rw [if_neg hneg]
        have HN2 := Lib.hid (show z - t = k - la - sumI (totBlk) (xs.take (j + 1)) by rw [HSN.out, HZ.out, HTX.out]; omega)
        go_wp2_with fail
        go_roundw
        case rel => exact ⟨j + 1, z - t, by omega, rfl, by go_num, HN2, by omega, by omega, HC2⟩
        case measure => simp [intOf]; omega
    · have hjl : j = la := by omega
      subst hjl
      have HR := Lib.hid (show (if k - totL (totBlk) xs < 0 then -1 else k - totL (totBlk) xs) = z by
        have h1 := HZ.out
        rw [List.take_of_length_le (by have := HL.out; omega)] at h1
        rw [HT.out, if_neg (by omega)]; omega)
      go_wp2
      go_ret
      exact ⟨ret_int HR.out.symm, HC.out⟩


set_option maxRecDepth 100000 in
set_option maxHeartbeats 1000000 in
theorem eqBlockS_any (a b : Option Addr) (la ca cb : Nat) (xs : List (Blk)) (f g : List Nat) (w : World) (ha : blkL.sl w a la ca xs f) (hb : blkL.sl w b la cb xs g) :
    Calls Tryz.prog 267 #[.slice a la ca, .slice b la cb] w fun e w' => e = .returned (.bool true) ∧ Chg [] w w' := by
  have hm := blkL.sl_max ha
  have hne : ((la : Int) != (la : Int)) = false := by simp
  have HA := Lib.hid ha
  have HB := Lib.hid hb
  clear ha hb
  go_enter Tryz.func267, Tryz.ntmps267
  go_wp2
  go_loopw [5] (fun i wr => ∃ k : Nat, k ≤ la ∧ i = .int .i64 k ∧ Chg [] w wr) (fun i _ => la - (intOf i).toNat)
  case atStart => exact ⟨0, by omega, rfl, Chg.refl _ _⟩
  case round =>
    obtain ⟨k, hk, rfl, hc⟩ := hrel
    rename_i wr
    by_cases hlt : k < la
    · obtain ⟨x, b1, o1, a1, l1, c1, fx, HX, rfl, hx0, hx1, HXS⟩ := block_at (blkL.sl_ext HA.out hc) hlt
      obtain ⟨y, b2, o2, bb1, m1, d1, fy, HY, rfl, hy0, hy1, HYS⟩ := block_at (blkL.sl_ext HB.out hc) hlt
      have hxy : x = y := by have := HX.out.1.symm.trans HY.out.1; exact Option.some.inj this
      subst hxy
      have HC := Lib.hid hc
      have HE := Lib.hid (eqBlock_any x #[.int .i64 x.stamp, .slice a1 l1 c1] #[.int .i64 x.stamp, .slice bb1 m1 d1] fx fy wr.drew (Lay.keep _ HXS.out (fun _ _ => rfl)) (Lay.keep _ HYS.out (fun _ _ => rfl)))
      clear hc
      go_wp2_with fail
      go_region_law (go_simp; go_at_call 291; refine HE.out.mono ?_; rintro e w' ⟨rfl, hc⟩)
      all_goals
        have HC2 := Lib.hid (HC.out.drew.trans0 hc)
        clear hc
        go_wp2
        go_roundw
        case rel => exact ⟨k + 1, by omega, by go_num, HC2.out⟩
        case measure => simp [intOf]; omega
    · have HC := Lib.hid hc
      clear hc
      go_wp2
      go_ret
      exact ⟨rfl, HC.out⟩

set_option maxRecDepth 100000 in
set_option maxHeartbeats 2000000 in
theorem szDrive_any (x : Drv) (cx : Array Value) (fx : List Nat) (k : Int) (w : World) (hx : drvL.rep w cx.toList x fx) (hk : 0 ≤ k) (hk2 : k ≤ 1048576) :
    Calls Tryz.prog 226 #[.agg cx, .int .i64 k] w (SzPost (totDrv x) k w) := by
  obtain ⟨a1, l1, c1, f1, ex, h1, -⟩ := drvL_iff.1 hx
  clear hx
  obtain ⟨v0, v1⟩ := x
  simp only at ex h1
  obtain rfl := Array.toList_inj.1 (ex.trans (List.toList_toArray).symm)
  clear ex
  have H1 := Lib.hid h1; clear h1
  obtain ⟨t1, ht1⟩ : ∃ t, t = totL totBlk v1 := ⟨_, rfl⟩
  have n1 : 0 ≤ t1 := by rw [ht1]; exact totL_nonneg totBlk_nonneg _
  have HT1 := Lib.hid ht1
  have HT := Lib.hid (show totDrv ⟨v0, v1⟩ = t1 by rw [ht1]; unfold totDrv; rfl)
  clear ht1
  go_enter Tryz.func226, Tryz.ntmps226
  go_wp2_with fail
  refine (szBlockS_any a1 l1 c1 v1 f1 (k) _ (blkL.sl_ext H1.out (by refine Chg.alloc ?_ _; exact Chg.refl _ _)) (by omega) (by omega)).mono ?_
  rintro e w1 ⟨rfl, hc⟩
  rw [← HT1.out]
  have hP := hc.keep0 (b := w.heap.size) (new_at (by simp) _)
  have cP := cellsOf hP; have lP := ltOf hP; have fP := freeOf hP; have HBP := Lib.hid hP; clear hP
  have HC1 := Lib.hid hc; clear hc
  by_cases m1 : k - t1 < 0
  · rw [if_pos m1]
    go_wp2_with fail
    go_ret
    exact ⟨ret_int (by rw [HT.out, if_pos (by omega)]), by refine Chg.trans0 ?_ HC1.out; refine Chg.alloc ?_ _; exact Chg.refl _ _⟩
  rw [if_neg m1]
  go_wp2_with fail
  go_ret
  exact ⟨ret_int (by rw [HT.out, if_neg (by omega)] <;> omega), by refine Chg.trans0 ?_ HC1.out; refine Chg.alloc ?_ _; exact Chg.refl _ _⟩

set_option maxRecDepth 100000 in
set_option maxHeartbeats 2000000 in
theorem eqDrive_any (x : Drv) (cx cy : Array Value) (fx fy : List Nat) (w : World) (hx : drvL.rep w cx.toList x fx) (hy : drvL.rep w cy.toList x fy) :
    Calls Tryz.prog 231 #[.agg cx, .agg cy] w fun e w' => e = .returned (.bool true) ∧ Chg [] w w' := by
  obtain ⟨a1, l1, c1, f1, ex, h1, -⟩ := drvL_iff.1 hx
  obtain ⟨b1, m1, d1, g1, ey, j1, -⟩ := drvL_iff.1 hy
  clear hx hy
  obtain ⟨v0, v1⟩ := x
  simp only at ex ey h1 j1
  obtain rfl := Array.toList_inj.1 (ex.trans (List.toList_toArray).symm)
  obtain rfl := Array.toList_inj.1 (ey.trans (List.toList_toArray).symm)
  clear ex ey
  obtain rfl : l1 = m1 := h1.1.trans j1.1.symm
  have H1 := Lib.hid h1; have J1 := Lib.hid j1; clear h1 j1
  have e0 : (v0 != v0) = false := by simp
  go_enter Tryz.func231, Tryz.ntmps231
  go_wp2_with fail
  refine (eqBlockS_any a1 b1 l1 c1 d1 v1 f1 g1 _ (blkL.sl_ext H1.out (by refine Chg.alloc ?_ _; refine Chg.alloc ?_ _; exact Chg.refl _ _)) (blkL.sl_ext J1.out (by refine Chg.alloc ?_ _; refine Chg.alloc ?_ _; exact Chg.refl _ _))).mono ?_
  rintro e w1 ⟨rfl, hc⟩
  have hP := hc.keep0 (b := w.heap.size) (keep_alloc (new_at (by simp) _) _)
  have hQ := hc.keep0 (b := w.heap.size + 1) (new_at (by simp) _)
  have cP := cellsOf hP; have lP := ltOf hP; have fP := freeOf hP; have HBP := Lib.hid hP; clear hP
  have cQ := cellsOf hQ; have lQ := ltOf hQ; have fQ := freeOf hQ; have HBQ := Lib.hid hQ; clear hQ
  have HC1 := Lib.hid hc; clear hc
  go_wp2_with fail
  go_ret
  exact ⟨rfl, by refine Chg.trans0 ?_ HC1.out; refine Chg.alloc ?_ _; refine Chg.alloc ?_ _; exact Chg.refl _ _⟩


set_option maxRecDepth 100000 in
set_option maxHeartbeats 1000000 in
theorem szDriveS_any (a : Option Addr) (la ca : Nat) (xs : List (Drv)) (f : List Nat) (k : Int) (w : World) (ha : drvL.sl w a la ca xs f) (hk : 0 ≤ k) (hk2 : k ≤ 1048576) :
    Calls Tryz.prog 150 #[.slice a la ca, .int .i64 k] w (SzPost (totL (totDrv) xs) k w) := by
  have hm := drvL.sl_max ha
  have HL := Lib.hid ha.1
  have HA := Lib.hid ha
  have HN := Lib.hid (sumI_nonneg (f := totDrv) totDrv_nonneg xs)
  have HT := Lib.hid (show totL (totDrv) xs = (la : Int) + sumI (totDrv) xs by unfold totL; rw [ha.1])
  clear ha
  by_cases hn : k - (la : Int) < 0
  · go_enter Tryz.func150, Tryz.ntmps150
    go_wp2
    go_ret
    exact ⟨ret_int (by rw [HT.out, if_pos (by have := HN.out; omega)]), Chg.refl _ _⟩
  go_enter Tryz.func150, Tryz.ntmps150
  go_wp2
  go_loopw [1, 5] (fun u v wr => ∃ (j : Nat) (z : Int), j ≤ la ∧ u = .int .i64 z ∧ v = .int .i64 j ∧ RowKit.Hid (z = k - la - sumI (totDrv) (xs.take j)) ∧ 0 ≤ z ∧ z ≤ 1048576 ∧ RowKit.Hid (Chg [] w wr)) (fun _ v _ => la - (intOf v).toNat)
  case atStart => exact ⟨0, k - la, by omega, rfl, rfl, by show k - la = k - la - 0; omega, by omega, by omega, Chg.refl _ _⟩
  case round =>
    obtain ⟨j, z, hj, rfl, rfl, HZ, hz0, hz1, HC⟩ := hrel
    by_cases hlt : j < la
    · obtain ⟨x, b, o, a1, l1, c1, fx, HX, rfl, hc0, hc1, HXS⟩ := drive_at (drvL.sl_ext HA.out HC.out) hlt
      have HS := Lib.hid (sumI_at (f := totDrv) totDrv_nonneg HX.out.1)
      have HSN := Lib.hid (sumI_take (f := totDrv) HX.out.1)
      obtain ⟨t, ht⟩ : ∃ t, t = (totDrv) x := ⟨_, rfl⟩
      have ht0 : 0 ≤ t := by rw [ht]; exact totDrv_nonneg x
      have HTX := Lib.hid ht
      clear ht
      go_wp2_with fail
      refine (szDrive_any x #[.bool x.wiped, .slice a1 l1 c1] fx z _ HXS.out hz0 hz1).mono ?_
      rintro e w1 ⟨rfl, hc⟩
      have HC2 := Lib.hid (HC.out.trans0 hc)
      clear hc
      rw [← HTX.out]
      by_cases hneg : z - t < 0
      · rw [if_pos hneg]
        go_wp2_with fail
        go_ret
        exact ⟨ret_int (by rw [HT.out, if_pos (by have h1 := HS.out; have h2 := HZ.out; have h3 := HTX.out; omega)]), HC2.out⟩
      · rw [if_neg hneg]
        have HN2 := Lib.hid (show z - t = k - la - sumI (totDrv) (xs.take (j + 1)) by rw [HSN.out, HZ.out, HTX.out]; omega)
        go_wp2_with fail
        go_roundw
        case rel => exact ⟨j + 1, z - t, by omega, rfl, by go_num, HN2, by omega, by omega, HC2⟩
        case measure => simp [intOf]; omega
    · have hjl : j = la := by omega
      subst hjl
      have HR := Lib.hid (show (if k - totL (totDrv) xs < 0 then -1 else k - totL (totDrv) xs) = z by
        have h1 := HZ.out
        rw [List.take_of_length_le (by have := HL.out; omega)] at h1
        rw [HT.out, if_neg (by omega)]; omega)
      go_wp2
      go_ret
      exact ⟨ret_int HR.out.symm, HC.out⟩


set_option maxRecDepth 100000 in
set_option maxHeartbeats 1000000 in
theorem eqDriveS_any (a b : Option Addr) (la ca cb : Nat) (xs : List (Drv)) (f g : List Nat) (w : World) (ha : drvL.sl w a la ca xs f) (hb : drvL.sl w b la cb xs g) :
    Calls Tryz.prog 160 #[.slice a la ca, .slice b la cb] w fun e w' => e = .returned (.bool true) ∧ Chg [] w w' := by
  have hm := drvL.sl_max ha
  have hne : ((la : Int) != (la : Int)) = false := by simp
  have HA := Lib.hid ha
  have HB := Lib.hid hb
  clear ha hb
  go_enter Tryz.func160, Tryz.ntmps160
  go_wp2
  go_loopw [5] (fun i wr => ∃ k : Nat, k ≤ la ∧ i = .int .i64 k ∧ Chg [] w wr) (fun i _ => la - (intOf i).toNat)
  case atStart => exact ⟨0, by omega, rfl, Chg.refl _ _⟩
  case round =>
    obtain ⟨k, hk, rfl, hc⟩ := hrel
    rename_i wr
    by_cases hlt : k < la
    · obtain ⟨x, b1, o1, a1, l1, c1, fx, HX, rfl, hx0, hx1, HXS⟩ := drive_at (drvL.sl_ext HA.out hc) hlt
      obtain ⟨y, b2, o2, bb1, m1, d1, fy, HY, rfl, hy0, hy1, HYS⟩ := drive_at (drvL.sl_ext HB.out hc) hlt
      have hxy : x = y := by have := HX.out.1.symm.trans HY.out.1; exact Option.some.inj this
      subst hxy
      have HC := Lib.hid hc
      have HE := Lib.hid (eqDrive_any x #[.bool x.wiped, .slice a1 l1 c1] #[.bool x.wiped, .slice bb1 m1 d1] fx fy wr.drew (Lay.keep _ HXS.out (fun _ _ => rfl)) (Lay.keep _ HYS.out (fun _ _ => rfl)))
      clear hc
      go_wp2_with fail
      go_region_law (go_simp; go_at_call 231; refine HE.out.mono ?_; rintro e w' ⟨rfl, hc⟩)
      all_goals
        have HC2 := Lib.hid (HC.out.drew.trans0 hc)
        clear hc
        go_wp2
        go_roundw
        case rel => exact ⟨k + 1, by omega, by go_num, HC2.out⟩
        case measure => simp [intOf]; omega
    · have HC := Lib.hid hc
      clear hc
      go_wp2
      go_ret
      exact ⟨rfl, HC.out⟩


set_option maxRecDepth 100000 in
set_option maxHeartbeats 1000000 in
theorem szDriveSS_any (a : Option Addr) (la ca : Nat) (xs : List (List Drv)) (f : List Nat) (k : Int) (w : World) (ha : drvL.slice.sl w a la ca xs f) (hk : 0 ≤ k) (hk2 : k ≤ 1048576) :
    Calls Tryz.prog 66 #[.slice a la ca, .int .i64 k] w (SzPost (totL (totL totDrv) xs) k w) := by
  have hm := drvL.slice.sl_max ha
  have HL := Lib.hid ha.1
  have HA := Lib.hid ha
  have HN := Lib.hid (sumI_nonneg (f := totL totDrv) (totL_nonneg totDrv_nonneg) xs)
  have HT := Lib.hid (show totL (totL totDrv) xs = (la : Int) + sumI (totL totDrv) xs by unfold totL; rw [ha.1])
  clear ha
  by_cases hn : k - (la : Int) < 0
  · go_enter Tryz.func66, Tryz.ntmps66
    go_wp2
    go_ret
    exact ⟨ret_int (by rw [HT.out, if_pos (by have := HN.out; omega)]), Chg.refl _ _⟩
  go_enter Tryz.func66, Tryz.ntmps66
  go_wp2
  go_loopw [1, 5] (fun u v wr => ∃ (j : Nat) (z : Int), j ≤ la ∧ u = .int .i64 z ∧ v = .int .i64 j ∧ RowKit.Hid (z = k - la - sumI (totL totDrv) (xs.take j)) ∧ 0 ≤ z ∧ z ≤ 1048576 ∧ RowKit.Hid (Chg [] w wr)) (fun _ v _ => la - (intOf v).toNat)
  case atStart => exact ⟨0, k - la, by omega, rfl, rfl, by show k - la = k - la - 0; omega, by omega, by omega, Chg.refl _ _⟩
  case round =>
    obtain ⟨j, z, hj, rfl, rfl, HZ, hz0, hz1, HC⟩ := hrel
    by_cases hlt : j < la
    · obtain ⟨x, b, o, A, lx, C, fx, HX, rfl, hcx, HXS⟩ := slc_at (drvL.slice.sl_ext HA.out HC.out) hlt
      have HS := Lib.hid (sumI_at (f := totL totDrv) (totL_nonneg totDrv_nonneg) HX.out.1)
      have HSN := Lib.hid (sumI_take (f := totL totDrv) HX.out.1)
      obtain ⟨t, ht⟩ : ∃ t, t = (totL totDrv) x := ⟨_, rfl⟩
      have ht0 : 0 ≤ t := by rw [ht]; exact (totL_nonneg totDrv_nonneg) x
      have HTX := Lib.hid ht
      clear ht
      go_wp2_with fail
      refine (szDriveS_any A lx C x fx z _ HXS.out hz0 hz1).mono ?_
      rintro e w1 ⟨rfl, hc⟩
      have HC2 := Lib.hid (HC.out.trans0 hc)
      clear hc
      rw [← HTX.out]
      by_cases hneg : z - t < 0
      · rw [if_pos hneg]
        go_wp2_with fail
        go_ret
        exact ⟨ret_int (by rw [HT.out, if_pos (by have h1 := HS.out; have h2 := HZ.out; have h3 := HTX.out; omega)]), HC2.out⟩
      · rw [if_neg hneg]
        have HN2 := Lib.hid (show z - t = k - la - sumI (totL totDrv) (xs.take (j + 1)) by rw [HSN.out, HZ.out, HTX.out]; omega)
        go_wp2_with fail
        go_roundw
        case rel => exact ⟨j + 1, z - t, by omega, rfl, by go_num, HN2, by omega, by omega, HC2⟩
        case measure => simp [intOf]; omega
    · have hjl : j = la := by omega
      subst hjl
      have HR := Lib.hid (show (if k - totL (totL totDrv) xs < 0 then -1 else k - totL (totL totDrv) xs) = z by
        have h1 := HZ.out
        rw [List.take_of_length_le (by have := HL.out; omega)] at h1
        rw [HT.out, if_neg (by omega)]; omega)
      go_wp2
      go_ret
      exact ⟨ret_int HR.out.symm, HC.out⟩


set_option maxRecDepth 100000 in
set_option maxHeartbeats 1000000 in
theorem eqDriveSS_any (a b : Option Addr) (la ca cb : Nat) (xs : List (List Drv)) (f g : List Nat) (w : World) (ha : drvL.slice.sl w a la ca xs f) (hb : drvL.slice.sl w b la cb xs g) :
    Calls Tryz.prog 84 #[.slice a la ca, .slice b la cb] w fun e w' => e = .returned (.bool true) ∧ Chg [] w w' := by
  have hm := drvL.slice.sl_max ha
  have hne : ((la : Int) != (la : Int)) = false := by simp
  have HA := Lib.hid ha
  have HB := Lib.hid hb
  clear ha hb
  go_enter Tryz.func84, Tryz.ntmps84
  go_wp2
  go_loopw [5] (fun i wr => ∃ k : Nat, k ≤ la ∧ i = .int .i64 k ∧ Chg [] w wr) (fun i _ => la - (intOf i).toNat)
  case atStart => exact ⟨0, by omega, rfl, Chg.refl _ _⟩
  case round =>
    obtain ⟨k, hk, rfl, hc⟩ := hrel
    rename_i wr
    by_cases hlt : k < la
    · obtain ⟨x, b1, o1, A, lx, C, fx, HX, rfl, hcx, HXS⟩ := slc_at (drvL.slice.sl_ext HA.out hc) hlt
      obtain ⟨y, b2, o2, B, ly, D, fy, HY, rfl, hcy, HYS⟩ := slc_at (drvL.slice.sl_ext HB.out hc) hlt
      have hxy : x = y := by have := HX.out.1.symm.trans HY.out.1; exact Option.some.inj this
      subst hxy
      obtain rfl : lx = ly := HXS.out.1.trans HYS.out.1.symm
      have HC := Lib.hid hc
      have HE := Lib.hid (eqDriveS_any A B lx C D x fx fy wr.drew (Lay.sl_keep _ HXS.out (fun _ _ => rfl)) (Lay.sl_keep _ HYS.out (fun _ _ => rfl)))
      clear hc
      go_wp2_with fail
      go_region_law (go_simp; go_at_call 160; refine HE.out.mono ?_; rintro e w' ⟨rfl, hc⟩)
      all_goals
        have HC2 := Lib.hid (HC.out.drew.trans0 hc)
        clear hc
        go_wp2
        go_roundw
        case rel => exact ⟨k + 1, by omega, by go_num, HC2.out⟩
        case measure => simp [intOf]; omega
    · have HC := Lib.hid hc
      clear hc
      go_wp2
      go_ret
      exact ⟨rfl, HC.out⟩


set_option maxRecDepth 100000 in
set_option maxHeartbeats 1000000 in
theorem szRecS_any (a : Option Addr) (la ca : Nat) (xs : List (Rec)) (f : List Nat) (k : Int) (w : World) (ha : recL.sl w a la ca xs f) (hk : 0 ≤ k) (hk2 : k ≤ 1048576) :
    Calls Tryz.prog 227 #[.slice a la ca, .int .i64 k] w (SzPost (totL (totRec) xs) k w) := by
  have hm := recL.sl_max ha
  have HL := Lib.hid ha.1
  have HA := Lib.hid ha
  have HN := Lib.hid (sumI_nonneg (f := totRec) totRec_nonneg xs)
  have HT := Lib.hid (show totL (totRec) xs = (la : Int) + sumI (totRec) xs by unfold totL; rw [ha.1])
  clear ha
  by_cases hn : k - (la : Int) < 0
  · go_enter Tryz.func227, Tryz.ntmps227
    go_wp2
    go_ret
    exact ⟨ret_int (by rw [HT.out, if_pos (by have := HN.out; omega)]), Chg.refl _ _⟩
  go_enter Tryz.func227, Tryz.ntmps227
  go_wp2
  go_loopw [1, 5] (fun u v wr => ∃ (j : Nat) (z : Int), j ≤ la ∧ u = .int .i64 z ∧ v = .int .i64 j ∧ RowKit.Hid (z = k - la - sumI (totRec) (xs.take j)) ∧ 0 ≤ z ∧ z ≤ 1048576 ∧ RowKit.Hid (Chg [] w wr)) (fun _ v _ => la - (intOf v).toNat)
  case atStart => exact ⟨0, k - la, by omega, rfl, rfl, by show k - la = k - la - 0; omega, by omega, by omega, Chg.refl _ _⟩
  case round =>
    obtain ⟨j, z, hj, rfl, rfl, HZ, hz0, hz1, HC⟩ := hrel
    by_cases hlt : j < la
    · obtain ⟨x, b, o, a6, l6, c6, a7, l7, c7, a8, l8, c8, fx, HX, rfl, hc0, hc1, hc2, hc3, hc4, hc5, hc6, hc7, hc8, HXS⟩ := rec_at (recL.sl_ext HA.out HC.out) hlt
      have HS := Lib.hid (sumI_at (f := totRec) totRec_nonneg HX.out.1)
      have HSN := Lib.hid (sumI_take (f := totRec) HX.out.1)
      obtain ⟨t, ht⟩ : ∃ t, t = (totRec) x := ⟨_, rfl⟩
      have ht0 : 0 ≤ t := by rw [ht]; exact totRec_nonneg x
      have HTX := Lib.hid ht
      clear ht
      go_wp2_with fail
      refine (szRec_any x #[.int .i64 x.kind, .int .i64 x.seq, .string x.name, .int .i64 x.length, .int .i64 x.group, .int .i64 x.row, .slice a6 l6 c6, .slice a7 l7 c7, .slice a8 l8 c8] fx z _ HXS.out hz0 hz1).mono ?_
      rintro e w1 ⟨rfl, hc⟩
      have HC2 := Lib.hid (HC.out.trans0 hc)
      clear hc
      rw [← HTX.out]
      by_cases hneg : z - t < 0
      · rw [if_pos hneg]
        go_wp2_with fail
        go_ret
        exact ⟨ret_int (by rw [HT.out, if_pos (by have h1 := HS.out; have h2 := HZ.out; have h3 := HTX.out; omega)]), HC2.out⟩
      · rw [if_neg hneg]
        have HN2 := Lib.hid (show z - t = k - la - sumI (totRec) (xs.take (j + 1)) by rw [HSN.out, HZ.out, HTX.out]; omega)
        go_wp2_with fail
        go_roundw
        case rel => exact ⟨j + 1, z - t, by omega, rfl, by go_num, HN2, by omega, by omega, HC2⟩
        case measure => simp [intOf]; omega
    · have hjl : j = la := by omega
      subst hjl
      have HR := Lib.hid (show (if k - totL (totRec) xs < 0 then -1 else k - totL (totRec) xs) = z by
        have h1 := HZ.out
        rw [List.take_of_length_le (by have := HL.out; omega)] at h1
        rw [HT.out, if_neg (by omega)]; omega)
      go_wp2
      go_ret
      exact ⟨ret_int HR.out.symm, HC.out⟩


set_option maxRecDepth 100000 in
set_option maxHeartbeats 1000000 in
theorem eqRecS_any (a b : Option Addr) (la ca cb : Nat) (xs : List (Rec)) (f g : List Nat) (w : World) (ha : recL.sl w a la ca xs f) (hb : recL.sl w b la cb xs g) :
    Calls Tryz.prog 95 #[.slice a la ca, .slice b la cb] w fun e w' => e = .returned (.bool true) ∧ Chg [] w w' := by
  have hm := recL.sl_max ha
  have hne : ((la : Int) != (la : Int)) = false := by simp
  have HA := Lib.hid ha
  have HB := Lib.hid hb
  clear ha hb
  go_enter Tryz.func95, Tryz.ntmps95
  go_wp2
  go_loopw [5] (fun i wr => ∃ k : Nat, k ≤ la ∧ i = .int .i64 k ∧ Chg [] w wr) (fun i _ => la - (intOf i).toNat)
  case atStart => exact ⟨0, by omega, rfl, Chg.refl _ _⟩
  case round =>
    obtain ⟨k, hk, rfl, hc⟩ := hrel
    rename_i wr
    by_cases hlt : k < la
    · obtain ⟨x, b1, o1, a6, l6, c6, a7, l7, c7, a8, l8, c8, fx, HX, rfl, hx0, hx1, hx2, hx3, hx4, hx5, hx6, hx7, hx8, HXS⟩ := rec_at (recL.sl_ext HA.out hc) hlt
      obtain ⟨y, b2, o2, bb6, m6, d6, bb7, m7, d7, bb8, m8, d8, fy, HY, rfl, hy0, hy1, hy2, hy3, hy4, hy5, hy6, hy7, hy8, HYS⟩ := rec_at (recL.sl_ext HB.out hc) hlt
      have hxy : x = y := by have := HX.out.1.symm.trans HY.out.1; exact Option.some.inj this
      subst hxy
      have HC := Lib.hid hc
      have HE := Lib.hid (eqRec_any x #[.int .i64 x.kind, .int .i64 x.seq, .string x.name, .int .i64 x.length, .int .i64 x.group, .int .i64 x.row, .slice a6 l6 c6, .slice a7 l7 c7, .slice a8 l8 c8] #[.int .i64 x.kind, .int .i64 x.seq, .string x.name, .int .i64 x.length, .int .i64 x.group, .int .i64 x.row, .slice bb6 m6 d6, .slice bb7 m7 d7, .slice bb8 m8 d8] fx fy wr.drew (Lay.keep _ HXS.out (fun _ _ => rfl)) (Lay.keep _ HYS.out (fun _ _ => rfl)))
      clear hc
      go_wp2_with fail
      go_region_law (go_simp; go_at_call 173; refine HE.out.mono ?_; rintro e w' ⟨rfl, hc⟩)
      all_goals
        have HC2 := Lib.hid (HC.out.drew.trans0 hc)
        clear hc
        go_wp2
        go_roundw
        case rel => exact ⟨k + 1, by omega, by go_num, HC2.out⟩
        case measure => simp [intOf]; omega
    · have HC := Lib.hid hc
      clear hc
      go_wp2
      go_ret
      exact ⟨rfl, HC.out⟩

set_option maxRecDepth 100000 in
set_option maxHeartbeats 2000000 in
theorem szTape_any (x : Tap) (cx : Array Value) (fx : List Nat) (k : Int) (w : World) (hx : tapL.rep w cx.toList x fx) (hk : 0 ≤ k) (hk2 : k ≤ 1048576) :
    Calls Tryz.prog 151 #[.agg cx, .int .i64 k] w (SzPost (totTap x) k w) := by
  obtain ⟨a1, l1, c1, f1, ex, h1, -⟩ := tapL_iff.1 hx
  clear hx
  obtain ⟨v0, v1⟩ := x
  simp only at ex h1
  obtain rfl := Array.toList_inj.1 (ex.trans (List.toList_toArray).symm)
  clear ex
  have H1 := Lib.hid h1; clear h1
  obtain ⟨t1, ht1⟩ : ∃ t, t = totL totRec v1 := ⟨_, rfl⟩
  have n1 : 0 ≤ t1 := by rw [ht1]; exact totL_nonneg totRec_nonneg _
  have HT1 := Lib.hid ht1
  have HT := Lib.hid (show totTap ⟨v0, v1⟩ = t1 by rw [ht1]; unfold totTap; rfl)
  clear ht1
  go_enter Tryz.func151, Tryz.ntmps151
  go_wp2_with fail
  refine (szRecS_any a1 l1 c1 v1 f1 (k) _ (recL.sl_ext H1.out (by refine Chg.alloc ?_ _; exact Chg.refl _ _)) (by omega) (by omega)).mono ?_
  rintro e w1 ⟨rfl, hc⟩
  rw [← HT1.out]
  have hP := hc.keep0 (b := w.heap.size) (new_at (by simp) _)
  have cP := cellsOf hP; have lP := ltOf hP; have fP := freeOf hP; have HBP := Lib.hid hP; clear hP
  have HC1 := Lib.hid hc; clear hc
  by_cases m1 : k - t1 < 0
  · rw [if_pos m1]
    go_wp2_with fail
    go_ret
    exact ⟨ret_int (by rw [HT.out, if_pos (by omega)]), by refine Chg.trans0 ?_ HC1.out; refine Chg.alloc ?_ _; exact Chg.refl _ _⟩
  rw [if_neg m1]
  go_wp2_with fail
  go_ret
  exact ⟨ret_int (by rw [HT.out, if_neg (by omega)] <;> omega), by refine Chg.trans0 ?_ HC1.out; refine Chg.alloc ?_ _; exact Chg.refl _ _⟩

set_option maxRecDepth 100000 in
set_option maxHeartbeats 2000000 in
theorem eqTape_any (x : Tap) (cx cy : Array Value) (fx fy : List Nat) (w : World) (hx : tapL.rep w cx.toList x fx) (hy : tapL.rep w cy.toList x fy) :
    Calls Tryz.prog 161 #[.agg cx, .agg cy] w fun e w' => e = .returned (.bool true) ∧ Chg [] w w' := by
  obtain ⟨a1, l1, c1, f1, ex, h1, -⟩ := tapL_iff.1 hx
  obtain ⟨b1, m1, d1, g1, ey, j1, -⟩ := tapL_iff.1 hy
  clear hx hy
  obtain ⟨v0, v1⟩ := x
  simp only at ex ey h1 j1
  obtain rfl := Array.toList_inj.1 (ex.trans (List.toList_toArray).symm)
  obtain rfl := Array.toList_inj.1 (ey.trans (List.toList_toArray).symm)
  clear ex ey
  obtain rfl : l1 = m1 := h1.1.trans j1.1.symm
  have H1 := Lib.hid h1; have J1 := Lib.hid j1; clear h1 j1
  have e0 : (v0 != v0) = false := by simp
  go_enter Tryz.func161, Tryz.ntmps161
  go_wp2_with fail
  refine (eqRecS_any a1 b1 l1 c1 d1 v1 f1 g1 _ (recL.sl_ext H1.out (by refine Chg.alloc ?_ _; refine Chg.alloc ?_ _; exact Chg.refl _ _)) (recL.sl_ext J1.out (by refine Chg.alloc ?_ _; refine Chg.alloc ?_ _; exact Chg.refl _ _))).mono ?_
  rintro e w1 ⟨rfl, hc⟩
  have hP := hc.keep0 (b := w.heap.size) (keep_alloc (new_at (by simp) _) _)
  have hQ := hc.keep0 (b := w.heap.size + 1) (new_at (by simp) _)
  have cP := cellsOf hP; have lP := ltOf hP; have fP := freeOf hP; have HBP := Lib.hid hP; clear hP
  have cQ := cellsOf hQ; have lQ := ltOf hQ; have fQ := freeOf hQ; have HBQ := Lib.hid hQ; clear hQ
  have HC1 := Lib.hid hc; clear hc
  go_wp2_with fail
  go_ret
  exact ⟨rfl, by refine Chg.trans0 ?_ HC1.out; refine Chg.alloc ?_ _; refine Chg.alloc ?_ _; exact Chg.refl _ _⟩


set_option maxRecDepth 100000 in
set_option maxHeartbeats 1000000 in
theorem szTapeS_any (a : Option Addr) (la ca : Nat) (xs : List (Tap)) (f : List Nat) (k : Int) (w : World) (ha : tapL.sl w a la ca xs f) (hk : 0 ≤ k) (hk2 : k ≤ 1048576) :
    Calls Tryz.prog 68 #[.slice a la ca, .int .i64 k] w (SzPost (totL (totTap) xs) k w) := by
  have hm := tapL.sl_max ha
  have HL := Lib.hid ha.1
  have HA := Lib.hid ha
  have HN := Lib.hid (sumI_nonneg (f := totTap) totTap_nonneg xs)
  have HT := Lib.hid (show totL (totTap) xs = (la : Int) + sumI (totTap) xs by unfold totL; rw [ha.1])
  clear ha
  by_cases hn : k - (la : Int) < 0
  · go_enter Tryz.func68, Tryz.ntmps68
    go_wp2
    go_ret
    exact ⟨ret_int (by rw [HT.out, if_pos (by have := HN.out; omega)]), Chg.refl _ _⟩
  go_enter Tryz.func68, Tryz.ntmps68
  go_wp2
  go_loopw [1, 5] (fun u v wr => ∃ (j : Nat) (z : Int), j ≤ la ∧ u = .int .i64 z ∧ v = .int .i64 j ∧ RowKit.Hid (z = k - la - sumI (totTap) (xs.take j)) ∧ 0 ≤ z ∧ z ≤ 1048576 ∧ RowKit.Hid (Chg [] w wr)) (fun _ v _ => la - (intOf v).toNat)
  case atStart => exact ⟨0, k - la, by omega, rfl, rfl, by show k - la = k - la - 0; omega, by omega, by omega, Chg.refl _ _⟩
  case round =>
    obtain ⟨j, z, hj, rfl, rfl, HZ, hz0, hz1, HC⟩ := hrel
    by_cases hlt : j < la
    · obtain ⟨x, b, o, a1, l1, c1, fx, HX, rfl, hc0, hc1, HXS⟩ := tape_at (tapL.sl_ext HA.out HC.out) hlt
      have HS := Lib.hid (sumI_at (f := totTap) totTap_nonneg HX.out.1)
      have HSN := Lib.hid (sumI_take (f := totTap) HX.out.1)
      obtain ⟨t, ht⟩ : ∃ t, t = (totTap) x := ⟨_, rfl⟩
      have ht0 : 0 ≤ t := by rw [ht]; exact totTap_nonneg x
      have HTX := Lib.hid ht
      clear ht
      go_wp2_with fail
      refine (szTape_any x #[.bool x.wiped, .slice a1 l1 c1] fx z _ HXS.out hz0 hz1).mono ?_
      rintro e w1 ⟨rfl, hc⟩
      have HC2 := Lib.hid (HC.out.trans0 hc)
      clear hc
      rw [← HTX.out]
      by_cases hneg : z - t < 0
      · rw [if_pos hneg]
        go_wp2_with fail
        go_ret
        exact ⟨ret_int (by rw [HT.out, if_pos (by have h1 := HS.out; have h2 := HZ.out; have h3 := HTX.out; omega)]), HC2.out⟩
      · rw [if_neg hneg]
        have HN2 := Lib.hid (show z - t = k - la - sumI (totTap) (xs.take (j + 1)) by rw [HSN.out, HZ.out, HTX.out]; omega)
        go_wp2_with fail
        go_roundw
        case rel => exact ⟨j + 1, z - t, by omega, rfl, by go_num, HN2, by omega, by omega, HC2⟩
        case measure => simp [intOf]; omega
    · have hjl : j = la := by omega
      subst hjl
      have HR := Lib.hid (show (if k - totL (totTap) xs < 0 then -1 else k - totL (totTap) xs) = z by
        have h1 := HZ.out
        rw [List.take_of_length_le (by have := HL.out; omega)] at h1
        rw [HT.out, if_neg (by omega)]; omega)
      go_wp2
      go_ret
      exact ⟨ret_int HR.out.symm, HC.out⟩


set_option maxRecDepth 100000 in
set_option maxHeartbeats 1000000 in
theorem eqTapeS_any (a b : Option Addr) (la ca cb : Nat) (xs : List (Tap)) (f g : List Nat) (w : World) (ha : tapL.sl w a la ca xs f) (hb : tapL.sl w b la cb xs g) :
    Calls Tryz.prog 86 #[.slice a la ca, .slice b la cb] w fun e w' => e = .returned (.bool true) ∧ Chg [] w w' := by
  have hm := tapL.sl_max ha
  have hne : ((la : Int) != (la : Int)) = false := by simp
  have HA := Lib.hid ha
  have HB := Lib.hid hb
  clear ha hb
  go_enter Tryz.func86, Tryz.ntmps86
  go_wp2
  go_loopw [5] (fun i wr => ∃ k : Nat, k ≤ la ∧ i = .int .i64 k ∧ Chg [] w wr) (fun i _ => la - (intOf i).toNat)
  case atStart => exact ⟨0, by omega, rfl, Chg.refl _ _⟩
  case round =>
    obtain ⟨k, hk, rfl, hc⟩ := hrel
    rename_i wr
    by_cases hlt : k < la
    · obtain ⟨x, b1, o1, a1, l1, c1, fx, HX, rfl, hx0, hx1, HXS⟩ := tape_at (tapL.sl_ext HA.out hc) hlt
      obtain ⟨y, b2, o2, bb1, m1, d1, fy, HY, rfl, hy0, hy1, HYS⟩ := tape_at (tapL.sl_ext HB.out hc) hlt
      have hxy : x = y := by have := HX.out.1.symm.trans HY.out.1; exact Option.some.inj this
      subst hxy
      have HC := Lib.hid hc
      have HE := Lib.hid (eqTape_any x #[.bool x.wiped, .slice a1 l1 c1] #[.bool x.wiped, .slice bb1 m1 d1] fx fy wr.drew (Lay.keep _ HXS.out (fun _ _ => rfl)) (Lay.keep _ HYS.out (fun _ _ => rfl)))
      clear hc
      go_wp2_with fail
      go_region_law (go_simp; go_at_call 161; refine HE.out.mono ?_; rintro e w' ⟨rfl, hc⟩)
      all_goals
        have HC2 := Lib.hid (HC.out.drew.trans0 hc)
        clear hc
        go_wp2
        go_roundw
        case rel => exact ⟨k + 1, by omega, by go_num, HC2.out⟩
        case measure => simp [intOf]; omega
    · have HC := Lib.hid hc
      clear hc
      go_wp2
      go_ret
      exact ⟨rfl, HC.out⟩

end Go.Proofs.YtphmpimgbmedbaaGreat
