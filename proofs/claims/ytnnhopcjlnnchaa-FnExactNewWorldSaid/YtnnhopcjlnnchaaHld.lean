
/- What a law finds again of the marks that it has laid into a world. -/
import Derived.Test.YtnnhopcjlnnchaaReg
import Derived.Test.YtnnhopcjlnnchaaMrk
import Derived.Test.YtnnhopcjlnnchaaHelp
import Derived.Test.YtnnhopcjlnnchaaWra
namespace Go.Proofs.Ytnnhopcjlnnchaa
open Go.RowKit


set_option maxRecDepth 100000 in
set_option maxHeartbeats 1000000 in
theorem heldBlockS_any (a : Option Addr) (la ca : Nat) (xs : List Blk) (f : List Nat) (k : Int) (w : World) (ha : blkL.sl w a la ca (markL cntBlk mkBlk xs k) f) (hk : 0 ≤ k) (hk2 : k + sumI cntBlk xs ≤ 4611686018427387904) :
    Calls Try.prog 105 #[.slice a la ca, .int .i64 k] w fun e w' => e = .returned (.int .i64 (k + sumI cntBlk xs)) ∧ Chg [] w w' := by
  have hm := blkL.sl_max ha
  have hl := Lib.hid (show la = xs.length by rw [ha.1, markL_length])
  have HA := Lib.hid ha
  have HK := Lib.hid hk2
  clear ha hk2
  go_enter Try.func105, Try.ntmps105
  go_wp2_with fail
  go_loopw [1, 5] (fun u v wr => ∃ (i : Nat) (z : Int) (Wr : World), Wr = wr ∧ i ≤ la ∧ u = .int .i64 z ∧ RowKit.Hid (z = k + sumI cntBlk (xs.take i)) ∧ v = .int .i64 i ∧ Chg [] w wr) (fun _ v _ => la - (intOf v).toNat)
  case atStart => exact ⟨0, k, _, rfl, by omega, rfl, by show k = k + 0; omega, rfl, Chg.refl _ _⟩
  case round =>
    obtain ⟨i, z, wr, rfl, hi, rfl, HZ, rfl, hc⟩ := hrel
    have HC := Lib.hid hc
    by_cases hlt : i < la
    · obtain ⟨y, b, off, A, ly, C, fy, HY, rfl, hc0, hc1, HYS⟩ := block_at (blkL.sl_ext HA.out hc) hlt
      have hlb : b < wr.heap.size := Lay.sl_lt _ (blkL.sl_ext HA.out hc) _ HY.out.2.1
      obtain ⟨x, hx, hy⟩ := markL_at HY.out.1
      have HX := Lib.hid hx
      rw [← HZ.out] at hy
      subst hy
      have hz0 : 0 ≤ z := by rw [HZ.out]; have := sumI_nonneg cntBlk_nonneg (xs.take i); omega
      have hz1 : z + cntBlk x ≤ 4611686018427387904 := by
        have h1 := sumI_at cntBlk_nonneg hx
        rw [HZ.out]; have := HK.out; omega
      have hcx : cntBlk x = 1 + totBs x.bytes := rfl
      have hin : 0 ≤ totBs x.bytes := totBs_nonneg _
      obtain ⟨a1, l1, c1, f1, ex, -, h1, -⟩ := blkL_iff.1 HYS.out
      obtain ⟨e1, e2, e3⟩ := Value.slice.inj (List.cons.inj (List.cons.inj ex).2).1
      subst e1 e2 e3
      replace h1 : byteL.sl wr A ly C (markBL (z + 1) x.bytes.length) f1 := h1
      have HLY := Lib.hid (show (ly : Int) = ly from rfl)
      have hly : ly = x.bytes.length := by rw [h1.1, markBL_length]
      have ht : totBs x.bytes = (ly : Int) := by unfold totBs; rw [hly]
      have HI := Lib.hid (show Calls Try.prog 106 #[.slice A ly C, .int .i64 (z + 1)] wr (fun e w' => e = .returned (.int .i64 (z + 1 + totBs x.bytes)) ∧ Chg [] wr w') by rw [ht]; exact heldB_any A ly C f1 (z + 1) wr (by have h9 := h1; rw [← hly] at h9; exact h9) (by omega) (by omega))
      have HZ2 := Lib.hid (show z + 1 + totBs x.bytes = k + sumI cntBlk (xs.take (i + 1)) by rw [sumI_take hx, HZ.out, hcx]; omega)
      have hc0' : wr.cell? ⟨b, off + i * 2, none⟩ = some (.int .i64 z) := hc0
      have hzz : ((z : Int) != z) = false := by simp
      have hz2 : z + 1 ≤ 4611686018427387904 := by omega
      obtain ⟨q, hq⟩ : ∃ q, q = totBs x.bytes := ⟨_, rfl⟩
      rw [← hq] at HI HZ2 hin hcx
      have hzn : ¬ (z + 1 + q < 0) := by omega
      clear hly ht
      clear hc hx hz1 hcx hc0 h1 ex HYS HY hq HX
      go_wp2_with fail
      refine HI.out.mono ?_; rintro e w1 ⟨rfl, hcN⟩
      have HC1 := Lib.hid (HC.out.trans0 hcN); clear hcN
      go_wp2_with fail
      go_roundw
      case rel => exact ⟨i + 1, z + 1 + q, _, rfl, by omega, rfl, HZ2, by go_num, HC1.out⟩
      case measure => simp [intOf]; omega
    · obtain rfl : i = la := by omega
      have HR := Lib.hid (show z = k + sumI cntBlk xs by rw [HZ.out, List.take_of_length_le (by have := hl.out; omega)])
      clear hc
      go_wp2_with fail
      go_ret
      exact ⟨ret_int HR.out, HC.out⟩


set_option maxRecDepth 100000 in
set_option maxHeartbeats 1000000 in
theorem heldDriveS_any (a : Option Addr) (la ca : Nat) (xs : List Drv) (f : List Nat) (k : Int) (w : World) (ha : drvL.sl w a la ca (markL cntDrv mkDrv xs k) f) (hk : 0 ≤ k) (hk2 : k + sumI cntDrv xs ≤ 4611686018427387904) :
    Calls Try.prog 81 #[.slice a la ca, .int .i64 k] w fun e w' => e = .returned (.int .i64 (k + sumI cntDrv xs)) ∧ Chg [] w w' := by
  have hm := drvL.sl_max ha
  have hl := Lib.hid (show la = xs.length by rw [ha.1, markL_length])
  have HA := Lib.hid ha
  have HK := Lib.hid hk2
  clear ha hk2
  go_enter Try.func81, Try.ntmps81
  go_wp2_with fail
  go_loopw [1, 5] (fun u v wr => ∃ (i : Nat) (z : Int) (Wr : World), Wr = wr ∧ i ≤ la ∧ u = .int .i64 z ∧ RowKit.Hid (z = k + sumI cntDrv (xs.take i)) ∧ v = .int .i64 i ∧ Chg [] w wr) (fun _ v _ => la - (intOf v).toNat)
  case atStart => exact ⟨0, k, _, rfl, by omega, rfl, by show k = k + 0; omega, rfl, Chg.refl _ _⟩
  case round =>
    obtain ⟨i, z, wr, rfl, hi, rfl, HZ, rfl, hc⟩ := hrel
    have HC := Lib.hid hc
    by_cases hlt : i < la
    · obtain ⟨y, b, off, A, ly, C, fy, HY, rfl, hc0, hc1, HYS⟩ := drive_at (drvL.sl_ext HA.out hc) hlt
      have hlb : b < wr.heap.size := Lay.sl_lt _ (drvL.sl_ext HA.out hc) _ HY.out.2.1
      obtain ⟨x, hx, hy⟩ := markL_at HY.out.1
      have HX := Lib.hid hx
      rw [← HZ.out] at hy
      subst hy
      have hz0 : 0 ≤ z := by rw [HZ.out]; have := sumI_nonneg cntDrv_nonneg (xs.take i); omega
      have hz1 : z + cntDrv x ≤ 4611686018427387904 := by
        have h1 := sumI_at cntDrv_nonneg hx
        rw [HZ.out]; have := HK.out; omega
      have hcx : cntDrv x = 1 + sumI cntBlk x.blocks := rfl
      have hin : 0 ≤ sumI cntBlk x.blocks := sumI_nonneg cntBlk_nonneg _
      obtain ⟨a1, l1, c1, f1, ex, h1, -⟩ := drvL_iff.1 HYS.out
      obtain ⟨e1, e2, e3⟩ := Value.slice.inj (List.cons.inj (List.cons.inj ex).2).1
      subst e1 e2 e3
      replace h1 : blkL.sl wr A ly C (markL cntBlk mkBlk x.blocks (z + 1)) f1 := h1
      have HLY := Lib.hid (show (ly : Int) = ly from rfl)
      skip
      have HI := Lib.hid (heldBlockS_any A ly C x.blocks f1 (z + 1) wr h1 (by omega) (by omega))
      have HZ2 := Lib.hid (show z + 1 + sumI cntBlk x.blocks = k + sumI cntDrv (xs.take (i + 1)) by rw [sumI_take hx, HZ.out, hcx]; omega)
      have hc0' : wr.cell? ⟨b, off + i * 2, none⟩ = some (.bool (z % 3 == 0)) := hc0
      have hzz : ((z % 3 == 0) != (z % 3 == 0)) = false := by simp
      have hz2 : z + 1 ≤ 4611686018427387904 := by omega
      obtain ⟨q, hq⟩ : ∃ q, q = sumI cntBlk x.blocks := ⟨_, rfl⟩
      rw [← hq] at HI HZ2 hin hcx
      have hzn : ¬ (z + 1 + q < 0) := by omega
      skip
      clear hc hx hz1 hcx hc0 h1 ex HYS HY hq HX
      go_wp2_with fail
      refine HI.out.mono ?_; rintro e w1 ⟨rfl, hcN⟩
      have HC1 := Lib.hid (HC.out.trans0 hcN); clear hcN
      go_wp2_with fail
      go_roundw
      case rel => exact ⟨i + 1, z + 1 + q, _, rfl, by omega, rfl, HZ2, by go_num, HC1.out⟩
      case measure => simp [intOf]; omega
    · obtain rfl : i = la := by omega
      have HR := Lib.hid (show z = k + sumI cntDrv xs by rw [HZ.out, List.take_of_length_le (by have := hl.out; omega)])
      clear hc
      go_wp2_with fail
      go_ret
      exact ⟨ret_int HR.out, HC.out⟩


set_option maxRecDepth 100000 in
set_option maxHeartbeats 1000000 in
theorem heldDriveSS_any (a : Option Addr) (la ca : Nat) (xs : List (List Drv)) (f : List Nat) (k : Int) (w : World) (ha : drvL.slice.sl w a la ca (markL cntDrvs mkDrvs xs k) f) (hk : 0 ≤ k) (hk2 : k + sumI cntDrvs xs ≤ 4611686018427387904) :
    Calls Try.prog 50 #[.slice a la ca, .int .i64 k] w fun e w' => e = .returned (.int .i64 (k + sumI cntDrvs xs)) ∧ Chg [] w w' := by
  have hm := drvL.slice.sl_max ha
  have hl := Lib.hid (show la = xs.length by rw [ha.1, markL_length])
  have HA := Lib.hid ha
  have HK := Lib.hid hk2
  clear ha hk2
  go_enter Try.func50, Try.ntmps50
  go_wp2_with fail
  go_loopw [1, 5] (fun u v wr => ∃ (i : Nat) (z : Int) (Wr : World), Wr = wr ∧ i ≤ la ∧ u = .int .i64 z ∧ RowKit.Hid (z = k + sumI cntDrvs (xs.take i)) ∧ v = .int .i64 i ∧ Chg [] w wr) (fun _ v _ => la - (intOf v).toNat)
  case atStart => exact ⟨0, k, _, rfl, by omega, rfl, by show k = k + 0; omega, rfl, Chg.refl _ _⟩
  case round =>
    obtain ⟨i, z, wr, rfl, hi, rfl, HZ, rfl, hc⟩ := hrel
    have HC := Lib.hid hc
    by_cases hlt : i < la
    · obtain ⟨y, b, o, A, ly, C, fy, HY, rfl, hcx, HYS⟩ := slc_at (drvL.slice.sl_ext HA.out hc) hlt
      obtain ⟨x, hx, hy⟩ := markL_at HY.out.1
      have HX := Lib.hid hx
      rw [← HZ.out] at hy
      subst hy
      have hz0 : 0 ≤ z := by rw [HZ.out]; have := sumI_nonneg cntDrvs_nonneg (xs.take i); omega
      have hz1 : z + sumI cntDrv x ≤ 4611686018427387904 := by
        have h1 := sumI_at cntDrvs_nonneg hx
        have h2 : cntDrvs x = sumI cntDrv x := rfl
        rw [HZ.out]; have := HK.out; omega
      have hin : 0 ≤ sumI cntDrv x := sumI_nonneg cntDrv_nonneg _
      have HE := Lib.hid (heldDriveS_any A ly C x fy z wr HYS.out hz0 hz1)
      have HZ2 := Lib.hid (show z + sumI cntDrv x = k + sumI cntDrvs (xs.take (i + 1)) by rw [sumI_take hx, HZ.out]; show _ + sumI cntDrv x = k + (_ + sumI cntDrv x); omega)
      obtain ⟨q, hq⟩ : ∃ q, q = sumI cntDrv x := ⟨_, rfl⟩
      rw [← hq] at HE HZ2 hin hz1
      have hzn : ¬ (z + q < 0) := by omega
      clear hc hx hq HX HY HYS
      go_wp2_with fail
      refine HE.out.mono ?_; rintro e w1 ⟨rfl, hc1⟩
      have HC1 := Lib.hid (HC.out.trans0 hc1); clear hc1
      go_wp2_with fail
      go_roundw
      case rel => exact ⟨i + 1, z + q, _, rfl, by omega, rfl, HZ2, by go_num, HC1.out⟩
      case measure => simp [intOf]; omega
    · obtain rfl : i = la := by omega
      have HR := Lib.hid (show z = k + sumI cntDrvs xs by rw [HZ.out, List.take_of_length_le (by have := hl.out; omega)])
      clear hc
      go_wp2_with fail
      go_ret
      exact ⟨ret_int HR.out, HC.out⟩


set_option maxRecDepth 100000 in
set_option maxHeartbeats 2000000 in
theorem heldRecS_any (a : Option Addr) (la ca : Nat) (xs : List Rec) (f : List Nat) (k : Int) (w : World) (ha : recL.sl w a la ca (markL cntRec mkRec xs k) f) (hk : 0 ≤ k) (hk2 : k + sumI cntRec xs ≤ 4611686018427387904) :
    Calls Try.prog 82 #[.slice a la ca, .int .i64 k] w fun e w' => e = .returned (.int .i64 (k + sumI cntRec xs)) ∧ Chg [] w w' := by
  have hm := recL.sl_max ha
  have hl := Lib.hid (show la = xs.length by rw [ha.1, markL_length])
  have HA := Lib.hid ha
  have HK := Lib.hid hk2
  clear ha hk2
  go_enter Try.func82, Try.ntmps82
  go_wp2_with fail
  go_loopw [1, 5] (fun u v wr => ∃ (i : Nat) (z : Int) (Wr : World), Wr = wr ∧ i ≤ la ∧ u = .int .i64 z ∧ RowKit.Hid (z = k + sumI cntRec (xs.take i)) ∧ v = .int .i64 i ∧ Chg [] w wr) (fun _ v _ => la - (intOf v).toNat)
  case atStart => exact ⟨0, k, _, rfl, by omega, rfl, by show k = k + 0; omega, rfl, Chg.refl _ _⟩
  case round =>
    obtain ⟨i, z, wr, rfl, hi, rfl, HZ, rfl, hc⟩ := hrel
    have HC := Lib.hid hc
    by_cases hlt : i < la
    · obtain ⟨y, b, off, a6, l6, c6, a7, l7, c7, a8, l8, c8, fy, HY, rfl, hc0, hc1, hc2, hc3, hc4, hc5, hc6, hc7, hc8, HYS⟩ := rec_at (recL.sl_ext HA.out hc) hlt
      have hlb : b < wr.heap.size := Lay.sl_lt _ (recL.sl_ext HA.out hc) _ HY.out.2.1
      obtain ⟨x, hx, hy⟩ := markL_at HY.out.1
      rw [← HZ.out] at hy
      subst hy
      have hz0 : 0 ≤ z := by rw [HZ.out]; have := sumI_nonneg cntRec_nonneg (xs.take i); omega
      have hz1 : z + cntRec x ≤ 4611686018427387904 := by
        have h1 := sumI_at cntRec_nonneg hx
        rw [HZ.out]; have := HK.out; omega
      have hcx : cntRec x = 6 + totIs x.rows + totBs x.data + totBs x.delta := rfl
      obtain ⟨a6', l6', c6', f6, a7', l7', c7', f7, a8', l8', c8', f8, ex, -, -, -, -, -, -, h6, h7, h8, -⟩ := recL_iff.1 HYS.out
      simp only [List.cons.injEq, Value.slice.injEq, and_true, true_and] at ex
      obtain ⟨⟨rfl, rfl, rfl⟩, ⟨rfl, rfl, rfl⟩, rfl, rfl, rfl⟩ := ex
      replace h6 : intL.sl wr a6 l6 c6 (markIL (z + 6) x.rows.length) f6 := h6
      replace h7 : byteL.sl wr a7 l7 c7 (markBL (z + 6 + totIs x.rows) x.data.length) f7 := h7
      replace h8 : byteL.sl wr a8 l8 c8 (markBL (z + 6 + totIs x.rows + totBs x.data) x.delta.length) f8 := h8
      have hL6 : l6 = x.rows.length := by rw [h6.1, markIL_length]
      have hL7 : l7 = x.data.length := by rw [h7.1, markBL_length]
      have hL8 : l8 = x.delta.length := by rw [h8.1, markBL_length]
      have t6 : totIs x.rows = (l6 : Int) := by unfold totIs; rw [hL6]
      have t7 : totBs x.data = (l7 : Int) := by unfold totBs; rw [hL7]
      have t8 : totBs x.delta = (l8 : Int) := by unfold totBs; rw [hL8]
      rw [← hL6] at h6; rw [t6, ← hL7] at h7; rw [t6, t7, ← hL8] at h8
      have HZ2 := Lib.hid (show z + 1 + 1 + 1 + 1 + 1 + 1 + (l6 : Int) + l7 + l8 = k + sumI cntRec (xs.take (i + 1)) by rw [sumI_take hx, HZ.out, hcx, t6, t7, t8]; omega)
      have hz2 : z + 6 + l6 + l7 + l8 ≤ 4611686018427387904 := by omega
      have H6 := Lib.hid h6; have H7 := Lib.hid h7; have H8 := Lib.hid h8
      have hd0 : wr.cell? ⟨b, off + i * 9, none⟩ = some (.int .i64 z) := hc0
      have hd1 : wr.cell? ⟨b, off + i * 9 + 1, none⟩ = some (.int .i64 (z + 1)) := hc1
      have hd2 : wr.cell? ⟨b, off + i * 9 + 2, none⟩ = some (.string (mtext (z + 2))) := hc2
      have hd3 : wr.cell? ⟨b, off + i * 9 + 3, none⟩ = some (.int .i64 (z + 3)) := hc3
      have hd4 : wr.cell? ⟨b, off + i * 9 + 4, none⟩ = some (.int .i64 (z + 4)) := hc4
      have hd5 : wr.cell? ⟨b, off + i * 9 + 5, none⟩ = some (.int .i64 (z + 5)) := hc5
      have HD2 := Lib.hid hd2
      have HD := Lib.hid (And.intro hd3 (And.intro hd4 (And.intro hd5 (And.intro hc6 (And.intro hc7 hc8)))))
      have n0 : ((z : Int) != z) = false := by simp
      have n1 : ((z + 1 : Int) != z + 1) = false := by simp
      have n3 : ((z + 3 : Int) != z + 1 + 1 + 1) = false := by rw [bne_eq_false_iff_eq]; omega
      have n4 : ((z + 4 : Int) != z + 1 + 1 + 1 + 1) = false := by rw [bne_eq_false_iff_eq]; omega
      have n5 : ((z + 5 : Int) != z + 1 + 1 + 1 + 1 + 1) = false := by rw [bne_eq_false_iff_eq]; omega
      have HT := Lib.hid (show mtext (z + 2) = mtext (z + 1 + 1) by rw [show z + 2 = z + 1 + 1 by omega])
      have hbz6 : 0 ≤ z + 1 + 1 + 1 + 1 + 1 + 1 := by omega
      clear hc hx hz1 hcx h6 h7 h8 HYS HY hc0 hc1 hc2 hc3 hc4 hc5 hd3 hd4 hd5 hc6 hc7 hc8 t6 t7 t8 hL6 hL7 hL8
      go_wp2_with fail
      obtain ⟨SS1, HSI1, HSO1⟩ := rg_cond (fun w' => w'.cell? ⟨b, off + i * 9 + 2, none⟩ = some (.string (mtext (z + 1 + 1))))
      have hS0 := HSI1.out wr.drew (by rw [← HT.out]; exact HD2.out)
      refine rg_start SS1 (by kernel_rfl) hS0 ?_
      refine rgT 0 hS0 ?_
      refine rgT 1 hS0 ?_
      refine rgT 2 hS0 ?_
      refine rgT 3 hS0 ?_
      refine rgL 4 hS0 HSO1 ?_
      refine rgT 5 hS0 ?_
      refine rg_call 6 rfl (by kernel_rfl) (fun K hK => ?_)
      go_simp
      go_at_call 103
      refine (markText_any (z + 1 + 1) (by omega) (by omega) _).mono ?_; rintro e w3 ⟨rfl, hc3⟩
      have HC3 := Lib.hid ((Chg.refl [] wr).drew.trans0 hc3); clear hc3
      go_wp2_with fail
      refine hK.out _ _ (HSI1.out _ (by rw [← HT.out]; exact cellKeep HC3.out HD2.out hlb)) (fun hS1 => ?_)
      clear hK K
      try simp only [Act.put, List.setIfInBounds_toArray, List.set_cons_zero, List.set_cons_succ]
      refine rgT 7 hS1 ?_
      refine wpAnyH_done (by kernel_rfl) ?_ _
      have hr3 := cellKeep HC3.out HD.out.1 hlb
      have hr4 := cellKeep HC3.out HD.out.2.1 hlb
      have hr5 := cellKeep HC3.out HD.out.2.2.1 hlb
      have hr6 := cellKeep HC3.out HD.out.2.2.2.1 hlb
      have HR78 := Lib.hid (And.intro (cellKeep HC3.out HD.out.2.2.2.2.1 hlb) (cellKeep HC3.out HD.out.2.2.2.2.2 hlb))
      have hlb3 := Nat.lt_of_lt_of_le hlb HC3.out.size
      have hne : ((mtext (z + 1 + 1)).toList != (mtext (z + 1 + 1)).toList) = false := by simp
      have HI6 := Lib.hid (heldI_any a6 l6 c6 f6 (z + 1 + 1 + 1 + 1 + 1 + 1) w3 (by rw [show z + 1 + 1 + 1 + 1 + 1 + 1 = z + 6 by omega]; exact intL.sl_ext H6.out HC3.out) (by omega) (by omega))
      have hn6 : ¬ (z + 1 + 1 + 1 + 1 + 1 + 1 + (l6 : Int) < 0) := by omega
      have hn7 : ¬ (z + 1 + 1 + 1 + 1 + 1 + 1 + (l6 : Int) + l7 < 0) := by omega
      have hn8 : ¬ (z + 1 + 1 + 1 + 1 + 1 + 1 + (l6 : Int) + l7 + l8 < 0) := by omega
      clear hd0 hd1 hd2
      go_wp2_with fail
      refine HI6.out.mono ?_; rintro e w4 ⟨rfl, hc4⟩
      have hr7 := cellKeep hc4 HR78.out.1 hlb3
      have HR8 := Lib.hid (cellKeep hc4 HR78.out.2 hlb3)
      have hlb4 := Nat.lt_of_lt_of_le hlb3 hc4.size
      have HC4 := Lib.hid (HC3.out.trans0 hc4); clear hc4 hr3 hr4 hr5 hr6
      have HI7 := Lib.hid (heldB_any a7 l7 c7 f7 (z + 1 + 1 + 1 + 1 + 1 + 1 + l6) w4 (by rw [show z + 1 + 1 + 1 + 1 + 1 + 1 + (l6 : Int) = z + 6 + l6 by omega]; exact byteL.sl_ext H7.out HC4.out) (by omega) (by omega))
      go_wp2_with fail
      refine HI7.out.mono ?_; rintro e w5 ⟨rfl, hc5⟩
      have hr8 := cellKeep hc5 HR8.out hlb4
      have hlb5 := Nat.lt_of_lt_of_le hlb4 hc5.size
      have HC5 := Lib.hid (HC4.out.trans0 hc5); clear hc5 hr7
      have HI8 := Lib.hid (heldB_any a8 l8 c8 f8 (z + 1 + 1 + 1 + 1 + 1 + 1 + l6 + l7) w5 (by rw [show z + 1 + 1 + 1 + 1 + 1 + 1 + (l6 : Int) + l7 = z + 6 + l6 + l7 by omega]; exact byteL.sl_ext H8.out HC5.out) (by omega) (by omega))
      go_wp2_with fail
      refine HI8.out.mono ?_; rintro e w6 ⟨rfl, hc6⟩
      have HC6 := Lib.hid (HC.out.trans0 (HC5.out.trans0 hc6)); clear hc6 hr8
      go_wp2_with fail
      go_roundw
      case rel => exact ⟨i + 1, _, _, rfl, by omega, rfl, HZ2, by go_num, HC6.out⟩
      case measure => simp [intOf]; omega
    · obtain rfl : i = la := by omega
      have HR := Lib.hid (show z = k + sumI cntRec xs by rw [HZ.out, List.take_of_length_le (by have := hl.out; omega)])
      clear hc
      go_wp2_with fail
      go_ret
      exact ⟨ret_int HR.out, HC.out⟩


set_option maxRecDepth 100000 in
set_option maxHeartbeats 1000000 in
theorem heldTapeS_any (a : Option Addr) (la ca : Nat) (xs : List Tap) (f : List Nat) (k : Int) (w : World) (ha : tapL.sl w a la ca (markL cntTap mkTap xs k) f) (hk : 0 ≤ k) (hk2 : k + sumI cntTap xs ≤ 4611686018427387904) :
    Calls Try.prog 52 #[.slice a la ca, .int .i64 k] w fun e w' => e = .returned (.int .i64 (k + sumI cntTap xs)) ∧ Chg [] w w' := by
  have hm := tapL.sl_max ha
  have hl := Lib.hid (show la = xs.length by rw [ha.1, markL_length])
  have HA := Lib.hid ha
  have HK := Lib.hid hk2
  clear ha hk2
  go_enter Try.func52, Try.ntmps52
  go_wp2_with fail
  go_loopw [1, 5] (fun u v wr => ∃ (i : Nat) (z : Int) (Wr : World), Wr = wr ∧ i ≤ la ∧ u = .int .i64 z ∧ RowKit.Hid (z = k + sumI cntTap (xs.take i)) ∧ v = .int .i64 i ∧ Chg [] w wr) (fun _ v _ => la - (intOf v).toNat)
  case atStart => exact ⟨0, k, _, rfl, by omega, rfl, by show k = k + 0; omega, rfl, Chg.refl _ _⟩
  case round =>
    obtain ⟨i, z, wr, rfl, hi, rfl, HZ, rfl, hc⟩ := hrel
    have HC := Lib.hid hc
    by_cases hlt : i < la
    · obtain ⟨y, b, off, A, ly, C, fy, HY, rfl, hc0, hc1, HYS⟩ := tape_at (tapL.sl_ext HA.out hc) hlt
      have hlb : b < wr.heap.size := Lay.sl_lt _ (tapL.sl_ext HA.out hc) _ HY.out.2.1
      obtain ⟨x, hx, hy⟩ := markL_at HY.out.1
      have HX := Lib.hid hx
      rw [← HZ.out] at hy
      subst hy
      have hz0 : 0 ≤ z := by rw [HZ.out]; have := sumI_nonneg cntTap_nonneg (xs.take i); omega
      have hz1 : z + cntTap x ≤ 4611686018427387904 := by
        have h1 := sumI_at cntTap_nonneg hx
        rw [HZ.out]; have := HK.out; omega
      have hcx : cntTap x = 1 + sumI cntRec x.recs := rfl
      have hin : 0 ≤ sumI cntRec x.recs := sumI_nonneg cntRec_nonneg _
      obtain ⟨a1, l1, c1, f1, ex, h1, -⟩ := tapL_iff.1 HYS.out
      obtain ⟨e1, e2, e3⟩ := Value.slice.inj (List.cons.inj (List.cons.inj ex).2).1
      subst e1 e2 e3
      replace h1 : recL.sl wr A ly C (markL cntRec mkRec x.recs (z + 1)) f1 := h1
      have HLY := Lib.hid (show (ly : Int) = ly from rfl)
      skip
      have HI := Lib.hid (heldRecS_any A ly C x.recs f1 (z + 1) wr h1 (by omega) (by omega))
      have HZ2 := Lib.hid (show z + 1 + sumI cntRec x.recs = k + sumI cntTap (xs.take (i + 1)) by rw [sumI_take hx, HZ.out, hcx]; omega)
      have hc0' : wr.cell? ⟨b, off + i * 2, none⟩ = some (.bool (z % 3 == 0)) := hc0
      have hzz : ((z % 3 == 0) != (z % 3 == 0)) = false := by simp
      have hz2 : z + 1 ≤ 4611686018427387904 := by omega
      obtain ⟨q, hq⟩ : ∃ q, q = sumI cntRec x.recs := ⟨_, rfl⟩
      rw [← hq] at HI HZ2 hin hcx
      have hzn : ¬ (z + 1 + q < 0) := by omega
      skip
      clear hc hx hz1 hcx hc0 h1 ex HYS HY hq HX
      go_wp2_with fail
      refine HI.out.mono ?_; rintro e w1 ⟨rfl, hcN⟩
      have HC1 := Lib.hid (HC.out.trans0 hcN); clear hcN
      go_wp2_with fail
      go_roundw
      case rel => exact ⟨i + 1, z + 1 + q, _, rfl, by omega, rfl, HZ2, by go_num, HC1.out⟩
      case measure => simp [intOf]; omega
    · obtain rfl : i = la := by omega
      have HR := Lib.hid (show z = k + sumI cntTap xs by rw [HZ.out, List.take_of_length_le (by have := hl.out; omega)])
      clear hc
      go_wp2_with fail
      go_ret
      exact ⟨ret_int HR.out, HC.out⟩

end Go.Proofs.Ytnnhopcjlnnchaa
