/- Several texts in one. -/
import Derived.Test.YtphmpimgbmedbaaGreatQae
import Derived.Test.YtphmpimgbmedbaaGreatQag
import Derived.Test.YtphmpimgbmedbaaGreatQac
import Derived.Test.YtphmpimgbmedbaaGreatRows
import Derived.Test.YtphmpimgbmedbaaGreatQaf
namespace Go.Proofs.YtphmpimgbmedbaaGreat
open Go.RowKit
open Go.Lib (hid)
/-! ### how much there is of it -/
section
variable {α : Type} {f : α → Int}
theorem sumI_filter_le (hf : ∀ x, 0 ≤ f x) (p : α → Bool) : ∀ (xs : List α), sumI f (xs.filter p) ≤ sumI f xs
 | [] => Int.le_refl _
 | x :: xs => by
  have := sumI_filter_le hf p xs
  have := hf x
  rw [List.filter_cons]
  split
  ·simp only [sumI]; omega
  ·simp only [sumI]; omega
end
end Go.Proofs.YtphmpimgbmedbaaGreat
namespace Go.Proofs.YtphmpimgbmedbaaGreat
open Go.RowKit
open Go.Lib (hid)
set_option maxRecDepth 100000 in
set_option maxHeartbeats 2000000 in
theorem heldRecS_any (a : Option Addr) (la ca : Nat) (xs : List Rec) (f : List Nat) (k : Int) (w : World) (ha : recL.sl w a la ca (markL cntRec mkRec xs k) f) (hk : 0 ≤ k) (hk2 : k + sumI cntRec xs ≤ 4611686018427387904) :
  Calls Tryz.prog 97 #[.slice a la ca, .int .i64 k] w fun e w' => e = .returned (.int .i64 (k + sumI cntRec xs)) ∧ Chg [] w w' := by
 have hm := recL.sl_max ha
 have hl := hid (show la = xs.length by rw [ha.1, markL_length])
 have HA := hid ha
 have HK := hid hk2
 clear ha hk2
 go_enter Tryz.func97, Tryz.ntmps97
 go_wp2_with fail
 go_loopw [1, 5] (fun u v wr => ∃ (i : Nat) (z : Int) (Wr : World), Wr = wr ∧ i ≤ la ∧ u = .int .i64 z ∧ Hid (z = k + sumI cntRec (xs.take i)) ∧ v = .int .i64 i ∧ Chg [] w wr) (fun _ v _ => la - (intOf v).toNat)
 case atStart => exact ⟨0, k, _, rfl, by omega, rfl, by show k = k + 0; omega, rfl, Chg.refl _ _⟩
 case round =>
  obtain ⟨i, z, wr, rfl, hi, rfl, HZ, rfl, hc⟩ := hrel
  have HC := hid hc
  by_cases hlt : i < la
  ·obtain ⟨y, b, off, a6, l6, c6, a7, l7, c7, a8, l8, c8, fy, HY, rfl, hc0, hc1, hc2, hc3, hc4, hc5, hc6, hc7, hc8, HYS⟩ := rec_at (recL.sl_ext HA.out hc) hlt
   have hlb : b < wr.heap.size := Lay.sl_lt _ (recL.sl_ext HA.out hc) _ HY.out.2.1
   obtain ⟨x, hx, hy⟩ := markL_at HY.out.1
   rw [← HZ.out] at hy
   subst hy
   have hz0 : 0 ≤ z := by rw [HZ.out]; have := sumI_nonneg cntRec_nonneg (xs.take i); omega
   have hz1 : z + cntRec x ≤ 4611686018427387904 := by
    have h1 := sumI_at cntRec_nonneg hx
    rw [HZ.out]; have := HK.out; omega
   have hcx : cntRec x = 6 + totIs x.rows + totBs x.data + totBs x.delta := rfl
   obtain ⟨a6', l6', c6', f6, a7', l7', c7', f7, a8', l8', c8', f8, ex, -, -, -, -, -, -, h6, h7, h8, -⟩ := recL_iff.1 HYS.out
   simp only [List.cons.injEq, Value.slice.injEq, and_true, true_and] at ex
   obtain ⟨⟨rfl, rfl, rfl⟩, ⟨rfl, rfl, rfl⟩, rfl, rfl, rfl⟩ := ex
   replace h6 : intL.sl wr a6 l6 c6 (markIL (z + 6) x.rows.length) f6 := h6
   replace h7 : byteL.sl wr a7 l7 c7 (markBL (z + 6 + totIs x.rows) x.data.length) f7 := h7
   replace h8 : byteL.sl wr a8 l8 c8 (markBL (z + 6 + totIs x.rows + totBs x.data) x.delta.length) f8 := h8
   have hL6 : l6 = x.rows.length := by rw [h6.1, markIL_length]
   have hL7 : l7 = x.data.length := by rw [h7.1, markBL_length]
   have hL8 : l8 = x.delta.length := by rw [h8.1, markBL_length]
   have t6 : totIs x.rows = (l6 : Int) := by unfold totIs; rw [hL6]
   have t7 : totBs x.data = (l7 : Int) := by unfold totBs; rw [hL7]
   have t8 : totBs x.delta = (l8 : Int) := by unfold totBs; rw [hL8]
   rw [← hL6] at h6; rw [t6, ← hL7] at h7; rw [t6, t7, ← hL8] at h8
   have HZ2 := hid (show z + 1 + 1 + 1 + 1 + 1 + 1 + (l6 : Int) + l7 + l8 = k + sumI cntRec (xs.take (i + 1)) by rw [sumI_take hx, HZ.out, hcx, t6, t7, t8]; omega)
   have hz2 : z + 6 + l6 + l7 + l8 ≤ 4611686018427387904 := by omega
   have H6 := hid h6; have H7 := hid h7; have H8 := hid h8
   have hd0 : wr.cell? ⟨b, off + i * 9, none⟩ = some (.int .i64 z) := hc0
   have hd1 : wr.cell? ⟨b, off + i * 9 + 1, none⟩ = some (.int .i64 (z + 1)) := hc1
   have hd2 : wr.cell? ⟨b, off + i * 9 + 2, none⟩ = some (.string (mtext (z + 2))) := hc2
   have hd3 : wr.cell? ⟨b, off + i * 9 + 3, none⟩ = some (.int .i64 (z + 3)) := hc3
   have hd4 : wr.cell? ⟨b, off + i * 9 + 4, none⟩ = some (.int .i64 (z + 4)) := hc4
   have hd5 : wr.cell? ⟨b, off + i * 9 + 5, none⟩ = some (.int .i64 (z + 5)) := hc5
   have HD2 := hid hd2
   have HD := hid (And.intro hd3 (And.intro hd4 (And.intro hd5 (And.intro hc6 (And.intro hc7 hc8)))))
   have n0 : ((z : Int) != z) = false := by simp
   have n1 : ((z + 1 : Int) != z + 1) = false := by simp
   have n3 : ((z + 3 : Int) != z + 1 + 1 + 1) = false := by rw [bne_eq_false_iff_eq]; omega
   have n4 : ((z + 4 : Int) != z + 1 + 1 + 1 + 1) = false := by rw [bne_eq_false_iff_eq]; omega
   have n5 : ((z + 5 : Int) != z + 1 + 1 + 1 + 1 + 1) = false := by rw [bne_eq_false_iff_eq]; omega
   have HT := hid (show mtext (z + 2) = mtext (z + 1 + 1) by rw [show z + 2 = z + 1 + 1 by omega])
   have hbz6 : 0 ≤ z + 1 + 1 + 1 + 1 + 1 + 1 := by omega
   clear hc hx hz1 hcx h6 h7 h8 HYS HY hc0 hc1 hc2 hc3 hc4 hc5 hd3 hd4 hd5 hc6 hc7 hc8 t6 t7 t8 hL6 hL7 hL8
   go_wp2_with fail
   obtain ⟨SS1, HSI1, HSO1⟩ := rg_cond (fun w' => w'.cell? ⟨b, off + i * 9 + 2, none⟩ = some (.string (mtext (z + 1 + 1))))
   have hS0 := HSI1.out wr.drew (by rw [← HT.out]; exact HD2.out)
   refine rg_start SS1 (by kernel_rfl) hS0 ?_
   refine rgT 0 hS0 ?_
   refine rgT 1 hS0 ?_
   refine rgT 2 hS0 ?_
   refine rgT 3 hS0 ?_
   refine rgL 4 hS0 HSO1 ?_
   refine rgT 5 hS0 ?_
   refine rg_call 6 rfl (by kernel_rfl) (fun K hK => ?_)
   go_simp
   go_at_call 174
   refine (markText_any (z + 1 + 1) (by omega) (by omega) _).mono ?_; rintro e w3 ⟨rfl, hc3⟩
   have HC3 := hid ((Chg.refl [] wr).drew.trans0 hc3); clear hc3
   go_wp2_with fail
   refine hK.out _ _ (HSI1.out _ (by rw [← HT.out]; exact cellKeep HC3.out HD2.out hlb)) (fun hS1 => ?_)
   clear hK K
   try simp only [Act.put, pA, pB, pC]
   refine rgT 7 hS1 ?_
   refine wpAnyH_done (by kernel_rfl) ?_ _
   have hr3 := cellKeep HC3.out HD.out.1 hlb
   have hr4 := cellKeep HC3.out HD.out.2.1 hlb
   have hr5 := cellKeep HC3.out HD.out.2.2.1 hlb
   have hr6 := cellKeep HC3.out HD.out.2.2.2.1 hlb
   have HR78 := hid (And.intro (cellKeep HC3.out HD.out.2.2.2.2.1 hlb) (cellKeep HC3.out HD.out.2.2.2.2.2 hlb))
   have hlb3 := Nat.lt_of_lt_of_le hlb HC3.out.size
   have hne : ((mtext (z + 1 + 1)).toList != (mtext (z + 1 + 1)).toList) = false := by simp
   have HI6 := hid (heldI_any a6 l6 c6 f6 (z + 1 + 1 + 1 + 1 + 1 + 1) w3 (by rw [show z + 1 + 1 + 1 + 1 + 1 + 1 = z + 6 by omega]; exact intL.sl_ext H6.out HC3.out) (by omega) (by omega))
   have hn6 : ¬ (z + 1 + 1 + 1 + 1 + 1 + 1 + (l6 : Int) < 0) := by omega
   have hn7 : ¬ (z + 1 + 1 + 1 + 1 + 1 + 1 + (l6 : Int) + l7 < 0) := by omega
   have hn8 : ¬ (z + 1 + 1 + 1 + 1 + 1 + 1 + (l6 : Int) + l7 + l8 < 0) := by omega
   clear hd0 hd1 hd2
   go_wp2_with fail
   refine HI6.out.mono ?_; rintro e w4 ⟨rfl, hc4⟩
   have hr7 := cellKeep hc4 HR78.out.1 hlb3
   have HR8 := hid (cellKeep hc4 HR78.out.2 hlb3)
   have hlb4 := Nat.lt_of_lt_of_le hlb3 hc4.size
   have HC4 := hid (HC3.out.trans0 hc4); clear hc4 hr3 hr4 hr5 hr6
   have HI7 := hid (heldB_any a7 l7 c7 f7 (z + 1 + 1 + 1 + 1 + 1 + 1 + l6) w4 (by rw [show z + 1 + 1 + 1 + 1 + 1 + 1 + (l6 : Int) = z + 6 + l6 by omega]; exact byteL.sl_ext H7.out HC4.out) (by omega) (by omega))
   go_wp2_with fail
   refine HI7.out.mono ?_; rintro e w5 ⟨rfl, hc5⟩
   have hr8 := cellKeep hc5 HR8.out hlb4
   have hlb5 := Nat.lt_of_lt_of_le hlb4 hc5.size
   have HC5 := hid (HC4.out.trans0 hc5); clear hc5 hr7
   have HI8 := hid (heldB_any a8 l8 c8 f8 (z + 1 + 1 + 1 + 1 + 1 + 1 + l6 + l7) w5 (by rw [show z + 1 + 1 + 1 + 1 + 1 + 1 + (l6 : Int) + l7 = z + 6 + l6 + l7 by omega]; exact byteL.sl_ext H8.out HC5.out) (by omega) (by omega))
   go_wp2_with fail
   refine HI8.out.mono ?_; rintro e w6 ⟨rfl, hc6⟩
   have HC6 := hid (HC.out.trans0 (HC5.out.trans0 hc6)); clear hc6 hr8
   go_wp2_with fail
   go_roundw
   case rel => exact ⟨i + 1, _, _, rfl, by omega, rfl, HZ2, by go_num, HC6.out⟩
   case measure => simp [intOf]; omega
  ·obtain rfl : i = la := by omega
   have HR := hid (show z = k + sumI cntRec xs by rw [HZ.out, List.take_of_length_le (by have := hl.out; omega)])
   clear hc
   go_wp2_with fail
   go_ret
   exact ⟨ret_int HR.out, HC.out⟩
set_option maxRecDepth 100000 in
set_option maxHeartbeats 2000000 in
theorem szWorld_any (x : Wld) (cx : Array Value) (fx : List Nat) (k : Int) (w : World) (hx : wldL.rep w cx.toList x fx) (hk : 0 ≤ k) (hk2 : k ≤ 1048576) :
    Calls Tryz.prog 15 #[.agg cx, .int .i64 k] w (SzPost (totWld x) k w) := by
  obtain ⟨a10, l10, c10, f10, a11, l11, c11, f11, a12, l12, c12, f12, ex, o1, o2, o3, o4, o5, o6, o7, o8, o9, h10, h11, h12, o13, o14, -⟩ := wldL_iff.1 hx
  clear hx
  obtain rfl := Array.toList_inj.1 (ex.trans (List.toList_toArray).symm)
  clear ex o1 o2 o3 o4 o5 o6 o7 o8 o9 o13 o14
  have H10 := hid h10; clear h10
  have H11 := hid h11; clear h11
  have H12 := hid h12; clear h12
  obtain ⟨t10, ht10⟩ : ∃ t, t = totL (totL totDrv) x.groups := ⟨_, rfl⟩
  have n10 : 0 ≤ t10 := by rw [ht10]; exact totL_nonneg (totL_nonneg totDrv_nonneg) _
  have HT10 := hid ht10
  obtain ⟨t11, ht11⟩ : ∃ t, t = totIs x.on := ⟨_, rfl⟩
  have n11 : 0 ≤ t11 := by rw [ht11]; exact totIs_nonneg _
  have HT11 := hid ht11
  obtain ⟨t12, ht12⟩ : ∃ t, t = totL totTap x.tapes := ⟨_, rfl⟩
  have n12 : 0 ≤ t12 := by rw [ht12]; exact totL_nonneg totTap_nonneg _
  have HT12 := hid ht12
  have HT := hid (show totWld x = t10 + t11 + t12 by rw [ht10, ht11, ht12]; rfl)
  clear ht10 ht11 ht12
  go_enter Tryz.func15, Tryz.ntmps15
  go_wp2_with fail
  refine (szDriveSS_any a10 l10 c10 x.groups f10 (k) _ (drvL.slice.sl_ext H10.out (by refine Chg.alloc ?_ _; exact Chg.refl _ _)) (by omega) (by omega)).mono ?_
  rintro e w1 ⟨rfl, hc⟩
  rw [← HT10.out]
  have hP := hc.keep0 (b := w.heap.size) (new_at (by simp) _)
  have cP := cellsOf hP; have lP := ltOf hP; have fP := freeOf hP; have HBP := hid hP; clear hP
  have HC1 := hid hc; clear hc
  by_cases m10 : k - t10 < 0
  · rw [if_pos m10]
    go_wp2_with fail
    go_ret
    exact ⟨ret_int (by rw [HT.out, if_pos (by omega)]), by refine Chg.trans0 ?_ HC1.out; refine Chg.alloc ?_ _; exact Chg.refl _ _⟩
  rw [if_neg m10]
  go_wp2_with fail
  refine (szInt64S_any a11 l11 c11 x.on f11 (k - t10) _ (intL.sl_ext H11.out (by refine Chg.trans0 ?_ HC1.out; refine Chg.alloc ?_ _; exact Chg.refl _ _)) (by omega) (by omega)).mono ?_
  rintro e w2 ⟨rfl, hc⟩
  rw [← HT11.out]
  have hP := hc.keep0 HBP.out
  clear HBP cP lP fP
  have cP := cellsOf hP; have lP := ltOf hP; have fP := freeOf hP; have HBP := hid hP; clear hP
  have HC2 := hid hc; clear hc
  by_cases m11 : k - t10 - t11 < 0
  · rw [if_pos m11]
    go_wp2_with fail
    go_ret
    exact ⟨ret_int (by rw [HT.out, if_pos (by omega)]), by refine Chg.trans0 ?_ HC2.out; refine Chg.trans0 ?_ HC1.out; refine Chg.alloc ?_ _; exact Chg.refl _ _⟩
  rw [if_neg m11]
  go_wp2_with fail
  refine (szTapeS_any a12 l12 c12 x.tapes f12 (k - t10 - t11) _ (tapL.sl_ext H12.out (by refine Chg.trans0 ?_ HC2.out; refine Chg.trans0 ?_ HC1.out; refine Chg.alloc ?_ _; exact Chg.refl _ _)) (by omega) (by omega)).mono ?_
  rintro e w3 ⟨rfl, hc⟩
  rw [← HT12.out]
  have hP := hc.keep0 HBP.out
  clear HBP cP lP fP
  have cP := cellsOf hP; have lP := ltOf hP; have fP := freeOf hP; have HBP := hid hP; clear hP
  have HC3 := hid hc; clear hc
  by_cases m12 : k - t10 - t11 - t12 < 0
  · rw [if_pos m12]
    go_wp2_with fail
    go_ret
    exact ⟨ret_int (by rw [HT.out, if_pos (by omega)]), by refine Chg.trans0 ?_ HC3.out; refine Chg.trans0 ?_ HC2.out; refine Chg.trans0 ?_ HC1.out; refine Chg.alloc ?_ _; exact Chg.refl _ _⟩
  rw [if_neg m12]
  go_wp2_with fail
  go_ret
  exact ⟨ret_int (by rw [HT.out, if_neg (by omega)] <;> omega), by refine Chg.trans0 ?_ HC3.out; refine Chg.trans0 ?_ HC2.out; refine Chg.trans0 ?_ HC1.out; refine Chg.alloc ?_ _; exact Chg.refl _ _⟩
theorem eqShape_any (s : Shp) (w : World) : Calls Tryz.prog 83 #[.agg #[.int .i64 s.groups, .int .i64 s.column, .int .i64 s.data, .int .i64 s.spare, .int .i64 s.rows, .int .i64 s.cap, .int .i64 s.batch, .int .i64 s.queue, .int .i64 s.stage], .agg #[.int .i64 s.groups, .int .i64 s.column, .int .i64 s.data, .int .i64 s.spare, .int .i64 s.rows, .int .i64 s.cap, .int .i64 s.batch, .int .i64 s.queue, .int .i64 s.stage]] w fun e w' => e = .returned (.bool true) ∧ Chg [] w w' := by
  have e_groups : ((s.groups : Int) != s.groups) = false := by simp
  have e_column : ((s.column : Int) != s.column) = false := by simp
  have e_data : ((s.data : Int) != s.data) = false := by simp
  have e_spare : ((s.spare : Int) != s.spare) = false := by simp
  have e_rows : ((s.rows : Int) != s.rows) = false := by simp
  have e_cap : ((s.cap : Int) != s.cap) = false := by simp
  have e_batch : ((s.batch : Int) != s.batch) = false := by simp
  have e_queue : ((s.queue : Int) != s.queue) = false := by simp
  have e_stage : ((s.stage : Int) != s.stage) = false := by simp
  go_enter Tryz.func83, Tryz.ntmps83
  go_wp2
  go_ret
  exact ⟨rfl, by repeat (first | exact Chg.refl _ _ | refine Chg.alloc ?_ _)⟩
set_option maxRecDepth 100000 in
set_option maxHeartbeats 2000000 in
theorem eqWorld_any (x : Wld) (cx cy : Array Value) (fx fy : List Nat) (w : World) (hx : wldL.rep w cx.toList x fx) (hy : wldL.rep w cy.toList x fy) :
    Calls Tryz.prog 20 #[.agg cx, .agg cy] w fun e w' => e = .returned (.bool true) ∧ Chg [] w w' := by
  obtain ⟨a10, l10, c10, f10, a11, l11, c11, f11, a12, l12, c12, f12, ex, o1, o2, o3, o4, o5, o6, o7, o8, o9, h10, h11, h12, o13, o14, -⟩ := wldL_iff.1 hx
  obtain ⟨b10, m10, d10, g10, b11, m11, d11, g11, b12, m12, d12, g12, ey, -, -, -, -, -, -, -, -, -, j10, j11, j12, -⟩ := wldL_iff.1 hy
  clear hx hy
  obtain rfl := Array.toList_inj.1 (ex.trans (List.toList_toArray).symm)
  obtain rfl := Array.toList_inj.1 (ey.trans (List.toList_toArray).symm)
  clear ex ey o1 o2 o3 o4 o5 o6 o7 o8 o9 o13 o14
  obtain rfl : l10 = m10 := h10.1.trans j10.1.symm
  have H10 := hid h10; have J10 := hid j10; clear h10 j10
  obtain rfl : l11 = m11 := h11.1.trans j11.1.symm
  have H11 := hid h11; have J11 := hid j11; clear h11 j11
  obtain rfl : l12 = m12 := h12.1.trans j12.1.symm
  have H12 := hid h12; have J12 := hid j12; clear h12 j12
  have e1 : ((x.writes : Int) != x.writes) = false := by simp
  have e2 : ((x.stop : Int) != x.stop) = false := by simp
  have e3 : (x.down != x.down) = false := by simp
  go_enter Tryz.func20, Tryz.ntmps20
  go_wp2_with fail
  refine (eqShape_any x.shape _).mono ?_
  rintro e w1 ⟨rfl, hc⟩
  have hP := hc.keep0 (b := w.heap.size) (keep_alloc (new_at (by simp) _) _)
  have hQ := hc.keep0 (b := w.heap.size + 1) (new_at (by simp) _)
  have cP := cellsOf hP; have lP := ltOf hP; have fP := freeOf hP; have HBP := hid hP; clear hP
  have cQ := cellsOf hQ; have lQ := ltOf hQ; have fQ := freeOf hQ; have HBQ := hid hQ; clear hQ
  have HC1 := hid hc; clear hc
  go_wp2_with fail
  refine (eqDriveSS_any a10 b10 l10 c10 d10 x.groups f10 g10 _ (drvL.slice.sl_ext H10.out (by refine Chg.trans0 ?_ HC1.out; refine Chg.alloc ?_ _; refine Chg.alloc ?_ _; exact Chg.refl _ _)) (drvL.slice.sl_ext J10.out (by refine Chg.trans0 ?_ HC1.out; refine Chg.alloc ?_ _; refine Chg.alloc ?_ _; exact Chg.refl _ _))).mono ?_
  rintro e w2 ⟨rfl, hc⟩
  have hP := hc.keep0 HBP.out
  have hQ := hc.keep0 HBQ.out
  clear HBP cP lP fP HBQ cQ lQ fQ
  have cP := cellsOf hP; have lP := ltOf hP; have fP := freeOf hP; have HBP := hid hP; clear hP
  have cQ := cellsOf hQ; have lQ := ltOf hQ; have fQ := freeOf hQ; have HBQ := hid hQ; clear hQ
  have HC2 := hid hc; clear hc
  go_wp2_with fail
  refine (eqI_any a11 b11 l11 c11 d11 x.on f11 g11 _ (intL.sl_ext H11.out (by refine Chg.trans0 ?_ HC2.out; refine Chg.trans0 ?_ HC1.out; refine Chg.alloc ?_ _; refine Chg.alloc ?_ _; exact Chg.refl _ _)) (intL.sl_ext J11.out (by refine Chg.trans0 ?_ HC2.out; refine Chg.trans0 ?_ HC1.out; refine Chg.alloc ?_ _; refine Chg.alloc ?_ _; exact Chg.refl _ _))).mono ?_
  rintro e w3 ⟨rfl, hc⟩
  have hP := hc.keep0 HBP.out
  have hQ := hc.keep0 HBQ.out
  clear HBP cP lP fP HBQ cQ lQ fQ
  have cP := cellsOf hP; have lP := ltOf hP; have fP := freeOf hP; have HBP := hid hP; clear hP
  have cQ := cellsOf hQ; have lQ := ltOf hQ; have fQ := freeOf hQ; have HBQ := hid hQ; clear hQ
  have HC3 := hid hc; clear hc
  go_wp2_with fail
  refine (eqTapeS_any a12 b12 l12 c12 d12 x.tapes f12 g12 _ (tapL.sl_ext H12.out (by refine Chg.trans0 ?_ HC3.out; refine Chg.trans0 ?_ HC2.out; refine Chg.trans0 ?_ HC1.out; refine Chg.alloc ?_ _; refine Chg.alloc ?_ _; exact Chg.refl _ _)) (tapL.sl_ext J12.out (by refine Chg.trans0 ?_ HC3.out; refine Chg.trans0 ?_ HC2.out; refine Chg.trans0 ?_ HC1.out; refine Chg.alloc ?_ _; refine Chg.alloc ?_ _; exact Chg.refl _ _))).mono ?_
  rintro e w4 ⟨rfl, hc⟩
  have hP := hc.keep0 HBP.out
  have hQ := hc.keep0 HBQ.out
  clear HBP cP lP fP HBQ cQ lQ fQ
  have cP := cellsOf hP; have lP := ltOf hP; have fP := freeOf hP; have HBP := hid hP; clear hP
  have cQ := cellsOf hQ; have lQ := ltOf hQ; have fQ := freeOf hQ; have HBQ := hid hQ; clear hQ
  have HC4 := hid hc; clear hc
  go_wp2_with fail
  go_ret
  exact ⟨rfl, by refine Chg.trans0 ?_ HC4.out; refine Chg.trans0 ?_ HC3.out; refine Chg.trans0 ?_ HC2.out; refine Chg.trans0 ?_ HC1.out; refine Chg.alloc ?_ _; refine Chg.alloc ?_ _; exact Chg.refl _ _⟩
theorem toShape_lit (s : Shp) (w : World) : Calls Tryz.prog 74 #[.agg #[.int .i64 s.groups, .int .i64 s.column, .int .i64 s.data, .int .i64 s.spare, .int .i64 s.rows, .int .i64 s.cap, .int .i64 s.batch, .int .i64 s.queue, .int .i64 s.stage]] w fun e w' => e = .returned (.agg #[.int .i64 s.groups, .int .i64 s.column, .int .i64 s.data, .int .i64 s.spare, .int .i64 s.rows, .int .i64 s.cap, .int .i64 s.batch, .int .i64 s.queue, .int .i64 s.stage]) ∧ Chg [] w w' := toShape_any s w
set_option maxRecDepth 100000 in
set_option maxHeartbeats 2000000 in
theorem toWorld_any (x : Wld) (cx : Array Value) (fx : List Nat) (w : World) (hx : wldL.rep w cx.toList x fx) (hz : totWld x ≤ 1048576) :
    Calls Tryz.prog 17 #[.agg cx] w (NewAgg wldL x w) := by
  obtain ⟨a10, l10, c10, f10, a11, l11, c11, f11, a12, l12, c12, f12, ex, o1, o2, o3, o4, o5, o6, o7, o8, o9, h10, h11, h12, o13, o14, -⟩ := wldL_iff.1 hx
  clear hx
  obtain rfl := Array.toList_inj.1 (ex.trans (List.toList_toArray).symm)
  clear ex
  have HO := hid (And.intro o1 (And.intro o2 (And.intro o3 (And.intro o4 (And.intro o5 (And.intro o6 (And.intro o7 (And.intro o8 (And.intro o9 (And.intro o13 o14))))))))))
  clear o1 o2 o3 o4 o5 o6 o7 o8 o9 o13 o14
  have q1 := totL_nonneg (totL_nonneg totDrv_nonneg) x.groups; have q2 := totIs_nonneg x.on; have q3 := totL_nonneg totTap_nonneg x.tapes
  unfold totWld at hz
  have z10 : totL (totL totDrv) x.groups ≤ 1048576 := by omega
  have z11 : l11 ≤ 1048576 := by have : totIs x.on ≤ 1048576 := by omega
                                 unfold totIs at this; rw [h11.1]; omega
  have z12 : totL totTap x.tapes ≤ 1048576 := by omega
  clear hz q1 q2 q3
  have H10 := hid h10; have HL10 := hid (show x.groups.length = l10 from h10.1.symm); clear h10
  have H11 := hid h11; have HL11 := hid (show x.on.length = l11 from h11.1.symm); clear h11
  have H12 := hid h12; have HL12 := hid (show x.tapes.length = l12 from h12.1.symm); clear h12
  go_enter Tryz.func17, Tryz.ntmps17
  go_wp2_with fail
  refine (toShape_lit x.shape _).mono ?_
  rintro e w1 ⟨rfl, hc⟩
  have hP := hc.keep0 (b := w.heap.size) (keep_alloc (keep_alloc (new_at (by simp) _) _) _)
  have hQ := hc.keep0 (b := w.heap.size + 1) (keep_alloc (new_at (by simp) _) _)
  have hR := hc.keep0 (b := w.heap.size + 1 + 1) (new_at (by simp) _)
  have cP := cellsOf hP; have lP := ltOf hP; have fP := freeOf hP; have HBP := hid hP; clear hP
  have cQ := cellsOf hQ; have lQ := ltOf hQ; have fQ := freeOf hQ; have HBQ := hid hQ; clear hQ
  have cR := cellsOf hR; have lR := ltOf hR; have fR := freeOf hR; have HBR := hid hR; clear hR
  have HC1 := hid hc; clear hc
  go_wp2_with fail
  refine (toDriveSS_any a10 l10 c10 x.groups f10 _ (drvL.slice.sl_ext H10.out (by refine Chg.setCell ?_ _ _ (.inr (by simp <;> omega)); refine Chg.setCell ?_ _ _ (.inr (by simp <;> omega)); refine Chg.setCell ?_ _ _ (.inr (by simp <;> omega)); refine Chg.setCell ?_ _ _ (.inr (by simp <;> omega)); refine Chg.setCell ?_ _ _ (.inr (by simp <;> omega)); refine Chg.setCell ?_ _ _ (.inr (by simp <;> omega)); refine Chg.setCell ?_ _ _ (.inr (by simp <;> omega)); refine Chg.setCell ?_ _ _ (.inr (by simp <;> omega)); refine Chg.setCell ?_ _ _ (.inr (by simp <;> omega)); refine Chg.trans0 ?_ HC1.out; refine Chg.alloc ?_ _; refine Chg.alloc ?_ _; refine Chg.alloc ?_ _; exact Chg.refl _ _)) z10).mono ?_
  rintro e w2 ⟨b10, d10, g10, rfl, hs, hf, hc⟩
  rw [HL10.out] at hs ⊢
  have HS10 := hid hs; clear hs
  have hP := hc.keep0 (keep_set (keep_set (keep_set (keep_set (keep_set (keep_set (keep_set (keep_set (keep_set HBP.out _ _ (show w.heap.size ≠ w.heap.size + 1 + 1 by omega)) _ _ (show w.heap.size ≠ w.heap.size + 1 + 1 by omega)) _ _ (show w.heap.size ≠ w.heap.size + 1 + 1 by omega)) _ _ (show w.heap.size ≠ w.heap.size + 1 + 1 by omega)) _ _ (show w.heap.size ≠ w.heap.size + 1 + 1 by omega)) _ _ (show w.heap.size ≠ w.heap.size + 1 + 1 by omega)) _ _ (show w.heap.size ≠ w.heap.size + 1 + 1 by omega)) _ _ (show w.heap.size ≠ w.heap.size + 1 + 1 by omega)) _ _ (show w.heap.size ≠ w.heap.size + 1 + 1 by omega))
  have hQ := hc.keep0 (keep_set (keep_set (keep_set (keep_set (keep_set (keep_set (keep_set (keep_set (keep_set HBQ.out _ _ (show w.heap.size + 1 ≠ w.heap.size + 1 + 1 by omega)) _ _ (show w.heap.size + 1 ≠ w.heap.size + 1 + 1 by omega)) _ _ (show w.heap.size + 1 ≠ w.heap.size + 1 + 1 by omega)) _ _ (show w.heap.size + 1 ≠ w.heap.size + 1 + 1 by omega)) _ _ (show w.heap.size + 1 ≠ w.heap.size + 1 + 1 by omega)) _ _ (show w.heap.size + 1 ≠ w.heap.size + 1 + 1 by omega)) _ _ (show w.heap.size + 1 ≠ w.heap.size + 1 + 1 by omega)) _ _ (show w.heap.size + 1 ≠ w.heap.size + 1 + 1 by omega)) _ _ (show w.heap.size + 1 ≠ w.heap.size + 1 + 1 by omega))
  have hR := hc.keep0 (b := w.heap.size + 1 + 1) (o := .cells #[.int .i64 x.shape.groups, .int .i64 x.shape.column, .int .i64 x.shape.data, .int .i64 x.shape.spare, .int .i64 x.shape.rows, .int .i64 x.shape.cap, .int .i64 x.shape.batch, .int .i64 x.shape.queue, .int .i64 x.shape.stage, .slice none 0 0, .slice none 0 0, .slice none 0 0, .int .i64 0, .int .i64 0, .bool false] 34) (by refine heap_set_lit (cur := #[.int .i64 x.shape.groups, .int .i64 x.shape.column, .int .i64 x.shape.data, .int .i64 x.shape.spare, .int .i64 x.shape.rows, .int .i64 x.shape.cap, .int .i64 x.shape.batch, .int .i64 x.shape.queue, .int .i64 0, .slice none 0 0, .slice none 0 0, .slice none 0 0, .int .i64 0, .int .i64 0, .bool false]) ?_ rfl; refine heap_set_lit (cur := #[.int .i64 x.shape.groups, .int .i64 x.shape.column, .int .i64 x.shape.data, .int .i64 x.shape.spare, .int .i64 x.shape.rows, .int .i64 x.shape.cap, .int .i64 x.shape.batch, .int .i64 0, .int .i64 0, .slice none 0 0, .slice none 0 0, .slice none 0 0, .int .i64 0, .int .i64 0, .bool false]) ?_ rfl; refine heap_set_lit (cur := #[.int .i64 x.shape.groups, .int .i64 x.shape.column, .int .i64 x.shape.data, .int .i64 x.shape.spare, .int .i64 x.shape.rows, .int .i64 x.shape.cap, .int .i64 0, .int .i64 0, .int .i64 0, .slice none 0 0, .slice none 0 0, .slice none 0 0, .int .i64 0, .int .i64 0, .bool false]) ?_ rfl; refine heap_set_lit (cur := #[.int .i64 x.shape.groups, .int .i64 x.shape.column, .int .i64 x.shape.data, .int .i64 x.shape.spare, .int .i64 x.shape.rows, .int .i64 0, .int .i64 0, .int .i64 0, .int .i64 0, .slice none 0 0, .slice none 0 0, .slice none 0 0, .int .i64 0, .int .i64 0, .bool false]) ?_ rfl; refine heap_set_lit (cur := #[.int .i64 x.shape.groups, .int .i64 x.shape.column, .int .i64 x.shape.data, .int .i64 x.shape.spare, .int .i64 0, .int .i64 0, .int .i64 0, .int .i64 0, .int .i64 0, .slice none 0 0, .slice none 0 0, .slice none 0 0, .int .i64 0, .int .i64 0, .bool false]) ?_ rfl; refine heap_set_lit (cur := #[.int .i64 x.shape.groups, .int .i64 x.shape.column, .int .i64 x.shape.data, .int .i64 0, .int .i64 0, .int .i64 0, .int .i64 0, .int .i64 0, .int .i64 0, .slice none 0 0, .slice none 0 0, .slice none 0 0, .int .i64 0, .int .i64 0, .bool false]) ?_ rfl; refine heap_set_lit (cur := #[.int .i64 x.shape.groups, .int .i64 x.shape.column, .int .i64 0, .int .i64 0, .int .i64 0, .int .i64 0, .int .i64 0, .int .i64 0, .int .i64 0, .slice none 0 0, .slice none 0 0, .slice none 0 0, .int .i64 0, .int .i64 0, .bool false]) ?_ rfl; refine heap_set_lit (cur := #[.int .i64 x.shape.groups, .int .i64 0, .int .i64 0, .int .i64 0, .int .i64 0, .int .i64 0, .int .i64 0, .int .i64 0, .int .i64 0, .slice none 0 0, .slice none 0 0, .slice none 0 0, .int .i64 0, .int .i64 0, .bool false]) ?_ rfl; refine heap_set_lit (cur := #[.int .i64 0, .int .i64 0, .int .i64 0, .int .i64 0, .int .i64 0, .int .i64 0, .int .i64 0, .int .i64 0, .int .i64 0, .slice none 0 0, .slice none 0 0, .slice none 0 0, .int .i64 0, .int .i64 0, .bool false]) ?_ rfl; exact HBR.out)
  have HD10 := hid (Fresh.nots hf [w.heap.size, w.heap.size + 1, w.heap.size + 1 + 1] (by intro b hb; simp only [List.mem_cons, List.not_mem_nil, or_false] at hb; rcases hb with rfl | rfl | rfl <;> simp <;> omega)); have HF10 := hid hf; clear hf
  clear HBP cP lP fP HBQ cQ lQ fQ HBR cR lR fR
  have cP := cellsOf hP; have lP := ltOf hP; have fP := freeOf hP; have HBP := hid hP; clear hP
  have cQ := cellsOf hQ; have lQ := ltOf hQ; have fQ := freeOf hQ; have HBQ := hid hQ; clear hQ
  have cR := cellsOf hR; have lR := ltOf hR; have fR := freeOf hR; have HBR := hid hR; clear hR
  have HC2 := hid hc; clear hc
  go_wp2_with fail
  refine (toI_any a11 l11 c11 x.on f11 _ (intL.sl_ext H11.out (by refine Chg.setCell ?_ _ _ (.inr (by simp <;> omega)); refine Chg.trans0 ?_ HC2.out; refine Chg.setCell ?_ _ _ (.inr (by simp <;> omega)); refine Chg.setCell ?_ _ _ (.inr (by simp <;> omega)); refine Chg.setCell ?_ _ _ (.inr (by simp <;> omega)); refine Chg.setCell ?_ _ _ (.inr (by simp <;> omega)); refine Chg.setCell ?_ _ _ (.inr (by simp <;> omega)); refine Chg.setCell ?_ _ _ (.inr (by simp <;> omega)); refine Chg.setCell ?_ _ _ (.inr (by simp <;> omega)); refine Chg.setCell ?_ _ _ (.inr (by simp <;> omega)); refine Chg.setCell ?_ _ _ (.inr (by simp <;> omega)); refine Chg.trans0 ?_ HC1.out; refine Chg.alloc ?_ _; refine Chg.alloc ?_ _; refine Chg.alloc ?_ _; exact Chg.refl _ _)) z11).mono ?_
  rintro e w3 ⟨b11, d11, g11, rfl, hs, hf, hc⟩
  rw [HL11.out] at hs ⊢
  have HS11 := hid hs; clear hs
  have hP := hc.keep0 (keep_set HBP.out _ _ (show w.heap.size ≠ w.heap.size + 1 + 1 by omega))
  have hQ := hc.keep0 (keep_set HBQ.out _ _ (show w.heap.size + 1 ≠ w.heap.size + 1 + 1 by omega))
  have hR := hc.keep0 (b := w.heap.size + 1 + 1) (o := .cells #[.int .i64 x.shape.groups, .int .i64 x.shape.column, .int .i64 x.shape.data, .int .i64 x.shape.spare, .int .i64 x.shape.rows, .int .i64 x.shape.cap, .int .i64 x.shape.batch, .int .i64 x.shape.queue, .int .i64 x.shape.stage, .slice b10 l10 d10, .slice none 0 0, .slice none 0 0, .int .i64 0, .int .i64 0, .bool false] 34) (by refine heap_set_lit (cur := #[.int .i64 x.shape.groups, .int .i64 x.shape.column, .int .i64 x.shape.data, .int .i64 x.shape.spare, .int .i64 x.shape.rows, .int .i64 x.shape.cap, .int .i64 x.shape.batch, .int .i64 x.shape.queue, .int .i64 x.shape.stage, .slice none 0 0, .slice none 0 0, .slice none 0 0, .int .i64 0, .int .i64 0, .bool false]) ?_ rfl; exact HBR.out)
  have HD11 := hid (Fresh.nots hf [w.heap.size, w.heap.size + 1, w.heap.size + 1 + 1] (by intro b hb; simp only [List.mem_cons, List.not_mem_nil, or_false] at hb; rcases hb with rfl | rfl | rfl <;> simp <;> omega)); have HF11 := hid hf; clear hf
  clear HBP cP lP fP HBQ cQ lQ fQ HBR cR lR fR
  have cP := cellsOf hP; have lP := ltOf hP; have fP := freeOf hP; have HBP := hid hP; clear hP
  have cQ := cellsOf hQ; have lQ := ltOf hQ; have fQ := freeOf hQ; have HBQ := hid hQ; clear hQ
  have cR := cellsOf hR; have lR := ltOf hR; have fR := freeOf hR; have HBR := hid hR; clear hR
  have HC3 := hid hc; clear hc
  go_wp2_with fail
  refine (toTapeS_any a12 l12 c12 x.tapes f12 _ (tapL.sl_ext H12.out (by refine Chg.setCell ?_ _ _ (.inr (by simp <;> omega)); refine Chg.trans0 ?_ HC3.out; refine Chg.setCell ?_ _ _ (.inr (by simp <;> omega)); refine Chg.trans0 ?_ HC2.out; refine Chg.setCell ?_ _ _ (.inr (by simp <;> omega)); refine Chg.setCell ?_ _ _ (.inr (by simp <;> omega)); refine Chg.setCell ?_ _ _ (.inr (by simp <;> omega)); refine Chg.setCell ?_ _ _ (.inr (by simp <;> omega)); refine Chg.setCell ?_ _ _ (.inr (by simp <;> omega)); refine Chg.setCell ?_ _ _ (.inr (by simp <;> omega)); refine Chg.setCell ?_ _ _ (.inr (by simp <;> omega)); refine Chg.setCell ?_ _ _ (.inr (by simp <;> omega)); refine Chg.setCell ?_ _ _ (.inr (by simp <;> omega)); refine Chg.trans0 ?_ HC1.out; refine Chg.alloc ?_ _; refine Chg.alloc ?_ _; refine Chg.alloc ?_ _; exact Chg.refl _ _)) z12).mono ?_
  rintro e w4 ⟨b12, d12, g12, rfl, hs, hf, hc⟩
  rw [HL12.out] at hs ⊢
  have HS12 := hid hs; clear hs
  have hP := hc.keep0 (keep_set HBP.out _ _ (show w.heap.size ≠ w.heap.size + 1 + 1 by omega))
  have hQ := hc.keep0 (keep_set HBQ.out _ _ (show w.heap.size + 1 ≠ w.heap.size + 1 + 1 by omega))
  have hR := hc.keep0 (b := w.heap.size + 1 + 1) (o := .cells #[.int .i64 x.shape.groups, .int .i64 x.shape.column, .int .i64 x.shape.data, .int .i64 x.shape.spare, .int .i64 x.shape.rows, .int .i64 x.shape.cap, .int .i64 x.shape.batch, .int .i64 x.shape.queue, .int .i64 x.shape.stage, .slice b10 l10 d10, .slice b11 l11 d11, .slice none 0 0, .int .i64 0, .int .i64 0, .bool false] 34) (by refine heap_set_lit (cur := #[.int .i64 x.shape.groups, .int .i64 x.shape.column, .int .i64 x.shape.data, .int .i64 x.shape.spare, .int .i64 x.shape.rows, .int .i64 x.shape.cap, .int .i64 x.shape.batch, .int .i64 x.shape.queue, .int .i64 x.shape.stage, .slice b10 l10 d10, .slice none 0 0, .slice none 0 0, .int .i64 0, .int .i64 0, .bool false]) ?_ rfl; exact HBR.out)
  have HD12 := hid (Fresh.nots hf [w.heap.size, w.heap.size + 1, w.heap.size + 1 + 1] (by intro b hb; simp only [List.mem_cons, List.not_mem_nil, or_false] at hb; rcases hb with rfl | rfl | rfl <;> simp <;> omega)); have HF12 := hid hf; clear hf
  clear HBP cP lP fP HBQ cQ lQ fQ HBR cR lR fR
  have cP := cellsOf hP; have lP := ltOf hP; have fP := freeOf hP; have HBP := hid hP; clear hP
  have cQ := cellsOf hQ; have lQ := ltOf hQ; have fQ := freeOf hQ; have HBQ := hid hQ; clear hQ
  have cR := cellsOf hR; have lR := ltOf hR; have fR := freeOf hR; have HBR := hid hR; clear hR
  have HC4 := hid hc; clear hc
  go_wp2_with fail
  have hq : ((((((((((((((((((((w4.setCell ⟨w.heap.size + 1 + 1, 11, none⟩ (.slice b12 l12 d12)).setCell ⟨w.heap.size + 1 + 1, 12, none⟩ (.int .i64 x.writes)).setCell ⟨w.heap.size + 1 + 1, 13, none⟩ (.int .i64 x.stop)).setCell ⟨w.heap.size + 1 + 1, 14, none⟩ (.bool x.down)).setCell ⟨w.heap.size + 1, 0, none⟩ (.int .i64 x.shape.groups)).setCell ⟨w.heap.size + 1, 1, none⟩ (.int .i64 x.shape.column)).setCell ⟨w.heap.size + 1, 2, none⟩ (.int .i64 x.shape.data)).setCell ⟨w.heap.size + 1, 3, none⟩ (.int .i64 x.shape.spare)).setCell ⟨w.heap.size + 1, 4, none⟩ (.int .i64 x.shape.rows)).setCell ⟨w.heap.size + 1, 5, none⟩ (.int .i64 x.shape.cap)).setCell ⟨w.heap.size + 1, 6, none⟩ (.int .i64 x.shape.batch)).setCell ⟨w.heap.size + 1, 7, none⟩ (.int .i64 x.shape.queue)).setCell ⟨w.heap.size + 1, 8, none⟩ (.int .i64 x.shape.stage)).setCell ⟨w.heap.size + 1, 9, none⟩ (.slice b10 l10 d10)).setCell ⟨w.heap.size + 1, 10, none⟩ (.slice b11 l11 d11)).setCell ⟨w.heap.size + 1, 11, none⟩ (.slice b12 l12 d12)).setCell ⟨w.heap.size + 1, 12, none⟩ (.int .i64 x.writes)).setCell ⟨w.heap.size + 1, 13, none⟩ (.int .i64 x.stop)).setCell ⟨w.heap.size + 1, 14, none⟩ (.bool x.down))).heap[w.heap.size + 1]? = some (.cells #[.int .i64 x.shape.groups, .int .i64 x.shape.column, .int .i64 x.shape.data, .int .i64 x.shape.spare, .int .i64 x.shape.rows, .int .i64 x.shape.cap, .int .i64 x.shape.batch, .int .i64 x.shape.queue, .int .i64 x.shape.stage, .slice b10 l10 d10, .slice b11 l11 d11, .slice b12 l12 d12, .int .i64 x.writes, .int .i64 x.stop, .bool x.down] 34) := (by refine heap_set_lit (cur := #[.int .i64 x.shape.groups, .int .i64 x.shape.column, .int .i64 x.shape.data, .int .i64 x.shape.spare, .int .i64 x.shape.rows, .int .i64 x.shape.cap, .int .i64 x.shape.batch, .int .i64 x.shape.queue, .int .i64 x.shape.stage, .slice b10 l10 d10, .slice b11 l11 d11, .slice b12 l12 d12, .int .i64 x.writes, .int .i64 x.stop, .bool false]) ?_ rfl; refine heap_set_lit (cur := #[.int .i64 x.shape.groups, .int .i64 x.shape.column, .int .i64 x.shape.data, .int .i64 x.shape.spare, .int .i64 x.shape.rows, .int .i64 x.shape.cap, .int .i64 x.shape.batch, .int .i64 x.shape.queue, .int .i64 x.shape.stage, .slice b10 l10 d10, .slice b11 l11 d11, .slice b12 l12 d12, .int .i64 x.writes, .int .i64 0, .bool false]) ?_ rfl; refine heap_set_lit (cur := #[.int .i64 x.shape.groups, .int .i64 x.shape.column, .int .i64 x.shape.data, .int .i64 x.shape.spare, .int .i64 x.shape.rows, .int .i64 x.shape.cap, .int .i64 x.shape.batch, .int .i64 x.shape.queue, .int .i64 x.shape.stage, .slice b10 l10 d10, .slice b11 l11 d11, .slice b12 l12 d12, .int .i64 0, .int .i64 0, .bool false]) ?_ rfl; refine heap_set_lit (cur := #[.int .i64 x.shape.groups, .int .i64 x.shape.column, .int .i64 x.shape.data, .int .i64 x.shape.spare, .int .i64 x.shape.rows, .int .i64 x.shape.cap, .int .i64 x.shape.batch, .int .i64 x.shape.queue, .int .i64 x.shape.stage, .slice b10 l10 d10, .slice b11 l11 d11, .slice none 0 0, .int .i64 0, .int .i64 0, .bool false]) ?_ rfl; refine heap_set_lit (cur := #[.int .i64 x.shape.groups, .int .i64 x.shape.column, .int .i64 x.shape.data, .int .i64 x.shape.spare, .int .i64 x.shape.rows, .int .i64 x.shape.cap, .int .i64 x.shape.batch, .int .i64 x.shape.queue, .int .i64 x.shape.stage, .slice b10 l10 d10, .slice none 0 0, .slice none 0 0, .int .i64 0, .int .i64 0, .bool false]) ?_ rfl; refine heap_set_lit (cur := #[.int .i64 x.shape.groups, .int .i64 x.shape.column, .int .i64 x.shape.data, .int .i64 x.shape.spare, .int .i64 x.shape.rows, .int .i64 x.shape.cap, .int .i64 x.shape.batch, .int .i64 x.shape.queue, .int .i64 x.shape.stage, .slice none 0 0, .slice none 0 0, .slice none 0 0, .int .i64 0, .int .i64 0, .bool false]) ?_ rfl; refine heap_set_lit (cur := #[.int .i64 x.shape.groups, .int .i64 x.shape.column, .int .i64 x.shape.data, .int .i64 x.shape.spare, .int .i64 x.shape.rows, .int .i64 x.shape.cap, .int .i64 x.shape.batch, .int .i64 x.shape.queue, .int .i64 0, .slice none 0 0, .slice none 0 0, .slice none 0 0, .int .i64 0, .int .i64 0, .bool false]) ?_ rfl; refine heap_set_lit (cur := #[.int .i64 x.shape.groups, .int .i64 x.shape.column, .int .i64 x.shape.data, .int .i64 x.shape.spare, .int .i64 x.shape.rows, .int .i64 x.shape.cap, .int .i64 x.shape.batch, .int .i64 0, .int .i64 0, .slice none 0 0, .slice none 0 0, .slice none 0 0, .int .i64 0, .int .i64 0, .bool false]) ?_ rfl; refine heap_set_lit (cur := #[.int .i64 x.shape.groups, .int .i64 x.shape.column, .int .i64 x.shape.data, .int .i64 x.shape.spare, .int .i64 x.shape.rows, .int .i64 x.shape.cap, .int .i64 0, .int .i64 0, .int .i64 0, .slice none 0 0, .slice none 0 0, .slice none 0 0, .int .i64 0, .int .i64 0, .bool false]) ?_ rfl; refine heap_set_lit (cur := #[.int .i64 x.shape.groups, .int .i64 x.shape.column, .int .i64 x.shape.data, .int .i64 x.shape.spare, .int .i64 x.shape.rows, .int .i64 0, .int .i64 0, .int .i64 0, .int .i64 0, .slice none 0 0, .slice none 0 0, .slice none 0 0, .int .i64 0, .int .i64 0, .bool false]) ?_ rfl; refine heap_set_lit (cur := #[.int .i64 x.shape.groups, .int .i64 x.shape.column, .int .i64 x.shape.data, .int .i64 x.shape.spare, .int .i64 0, .int .i64 0, .int .i64 0, .int .i64 0, .int .i64 0, .slice none 0 0, .slice none 0 0, .slice none 0 0, .int .i64 0, .int .i64 0, .bool false]) ?_ rfl; refine heap_set_lit (cur := #[.int .i64 x.shape.groups, .int .i64 x.shape.column, .int .i64 x.shape.data, .int .i64 0, .int .i64 0, .int .i64 0, .int .i64 0, .int .i64 0, .int .i64 0, .slice none 0 0, .slice none 0 0, .slice none 0 0, .int .i64 0, .int .i64 0, .bool false]) ?_ rfl; refine heap_set_lit (cur := #[.int .i64 x.shape.groups, .int .i64 x.shape.column, .int .i64 0, .int .i64 0, .int .i64 0, .int .i64 0, .int .i64 0, .int .i64 0, .int .i64 0, .slice none 0 0, .slice none 0 0, .slice none 0 0, .int .i64 0, .int .i64 0, .bool false]) ?_ rfl; refine heap_set_lit (cur := #[.int .i64 x.shape.groups, .int .i64 0, .int .i64 0, .int .i64 0, .int .i64 0, .int .i64 0, .int .i64 0, .int .i64 0, .int .i64 0, .slice none 0 0, .slice none 0 0, .slice none 0 0, .int .i64 0, .int .i64 0, .bool false]) ?_ rfl; refine heap_set_lit (cur := #[.int .i64 0, .int .i64 0, .int .i64 0, .int .i64 0, .int .i64 0, .int .i64 0, .int .i64 0, .int .i64 0, .int .i64 0, .slice none 0 0, .slice none 0 0, .slice none 0 0, .int .i64 0, .int .i64 0, .bool false]) ?_ rfl; refine keep_set ?_ _ _ (show w.heap.size + 1 ≠ w.heap.size + 1 + 1 by omega); refine keep_set ?_ _ _ (show w.heap.size + 1 ≠ w.heap.size + 1 + 1 by omega); refine keep_set ?_ _ _ (show w.heap.size + 1 ≠ w.heap.size + 1 + 1 by omega); refine keep_set ?_ _ _ (show w.heap.size + 1 ≠ w.heap.size + 1 + 1 by omega); exact HBQ.out)
  have hqc := cellsOf hq
  have hch : Chg [] w (((((((((((((((((((w4.setCell ⟨w.heap.size + 1 + 1, 11, none⟩ (.slice b12 l12 d12)).setCell ⟨w.heap.size + 1 + 1, 12, none⟩ (.int .i64 x.writes)).setCell ⟨w.heap.size + 1 + 1, 13, none⟩ (.int .i64 x.stop)).setCell ⟨w.heap.size + 1 + 1, 14, none⟩ (.bool x.down)).setCell ⟨w.heap.size + 1, 0, none⟩ (.int .i64 x.shape.groups)).setCell ⟨w.heap.size + 1, 1, none⟩ (.int .i64 x.shape.column)).setCell ⟨w.heap.size + 1, 2, none⟩ (.int .i64 x.shape.data)).setCell ⟨w.heap.size + 1, 3, none⟩ (.int .i64 x.shape.spare)).setCell ⟨w.heap.size + 1, 4, none⟩ (.int .i64 x.shape.rows)).setCell ⟨w.heap.size + 1, 5, none⟩ (.int .i64 x.shape.cap)).setCell ⟨w.heap.size + 1, 6, none⟩ (.int .i64 x.shape.batch)).setCell ⟨w.heap.size + 1, 7, none⟩ (.int .i64 x.shape.queue)).setCell ⟨w.heap.size + 1, 8, none⟩ (.int .i64 x.shape.stage)).setCell ⟨w.heap.size + 1, 9, none⟩ (.slice b10 l10 d10)).setCell ⟨w.heap.size + 1, 10, none⟩ (.slice b11 l11 d11)).setCell ⟨w.heap.size + 1, 11, none⟩ (.slice b12 l12 d12)).setCell ⟨w.heap.size + 1, 12, none⟩ (.int .i64 x.writes)).setCell ⟨w.heap.size + 1, 13, none⟩ (.int .i64 x.stop)).setCell ⟨w.heap.size + 1, 14, none⟩ (.bool x.down)) := by refine Chg.setCell ?_ _ _ (.inr (by simp <;> omega)); refine Chg.setCell ?_ _ _ (.inr (by simp <;> omega)); refine Chg.setCell ?_ _ _ (.inr (by simp <;> omega)); refine Chg.setCell ?_ _ _ (.inr (by simp <;> omega)); refine Chg.setCell ?_ _ _ (.inr (by simp <;> omega)); refine Chg.setCell ?_ _ _ (.inr (by simp <;> omega)); refine Chg.setCell ?_ _ _ (.inr (by simp <;> omega)); refine Chg.setCell ?_ _ _ (.inr (by simp <;> omega)); refine Chg.setCell ?_ _ _ (.inr (by simp <;> omega)); refine Chg.setCell ?_ _ _ (.inr (by simp <;> omega)); refine Chg.setCell ?_ _ _ (.inr (by simp <;> omega)); refine Chg.setCell ?_ _ _ (.inr (by simp <;> omega)); refine Chg.setCell ?_ _ _ (.inr (by simp <;> omega)); refine Chg.setCell ?_ _ _ (.inr (by simp <;> omega)); refine Chg.setCell ?_ _ _ (.inr (by simp <;> omega)); refine Chg.setCell ?_ _ _ (.inr (by simp <;> omega)); refine Chg.setCell ?_ _ _ (.inr (by simp <;> omega)); refine Chg.setCell ?_ _ _ (.inr (by simp <;> omega)); refine Chg.setCell ?_ _ _ (.inr (by simp <;> omega)); refine Chg.trans0 ?_ HC4.out; refine Chg.setCell ?_ _ _ (.inr (by simp <;> omega)); refine Chg.trans0 ?_ HC3.out; refine Chg.setCell ?_ _ _ (.inr (by simp <;> omega)); refine Chg.trans0 ?_ HC2.out; refine Chg.setCell ?_ _ _ (.inr (by simp <;> omega)); refine Chg.setCell ?_ _ _ (.inr (by simp <;> omega)); refine Chg.setCell ?_ _ _ (.inr (by simp <;> omega)); refine Chg.setCell ?_ _ _ (.inr (by simp <;> omega)); refine Chg.setCell ?_ _ _ (.inr (by simp <;> omega)); refine Chg.setCell ?_ _ _ (.inr (by simp <;> omega)); refine Chg.setCell ?_ _ _ (.inr (by simp <;> omega)); refine Chg.setCell ?_ _ _ (.inr (by simp <;> omega)); refine Chg.setCell ?_ _ _ (.inr (by simp <;> omega)); refine Chg.trans0 ?_ HC1.out; refine Chg.alloc ?_ _; refine Chg.alloc ?_ _; refine Chg.alloc ?_ _; exact Chg.refl _ _
  have k10 : Chg [w.heap.size, w.heap.size + 1, w.heap.size + 1 + 1] w2 (((((((((((((((((((w4.setCell ⟨w.heap.size + 1 + 1, 11, none⟩ (.slice b12 l12 d12)).setCell ⟨w.heap.size + 1 + 1, 12, none⟩ (.int .i64 x.writes)).setCell ⟨w.heap.size + 1 + 1, 13, none⟩ (.int .i64 x.stop)).setCell ⟨w.heap.size + 1 + 1, 14, none⟩ (.bool x.down)).setCell ⟨w.heap.size + 1, 0, none⟩ (.int .i64 x.shape.groups)).setCell ⟨w.heap.size + 1, 1, none⟩ (.int .i64 x.shape.column)).setCell ⟨w.heap.size + 1, 2, none⟩ (.int .i64 x.shape.data)).setCell ⟨w.heap.size + 1, 3, none⟩ (.int .i64 x.shape.spare)).setCell ⟨w.heap.size + 1, 4, none⟩ (.int .i64 x.shape.rows)).setCell ⟨w.heap.size + 1, 5, none⟩ (.int .i64 x.shape.cap)).setCell ⟨w.heap.size + 1, 6, none⟩ (.int .i64 x.shape.batch)).setCell ⟨w.heap.size + 1, 7, none⟩ (.int .i64 x.shape.queue)).setCell ⟨w.heap.size + 1, 8, none⟩ (.int .i64 x.shape.stage)).setCell ⟨w.heap.size + 1, 9, none⟩ (.slice b10 l10 d10)).setCell ⟨w.heap.size + 1, 10, none⟩ (.slice b11 l11 d11)).setCell ⟨w.heap.size + 1, 11, none⟩ (.slice b12 l12 d12)).setCell ⟨w.heap.size + 1, 12, none⟩ (.int .i64 x.writes)).setCell ⟨w.heap.size + 1, 13, none⟩ (.int .i64 x.stop)).setCell ⟨w.heap.size + 1, 14, none⟩ (.bool x.down)) := by refine Chg.setCell ?_ _ _ (.inl (by simp)); refine Chg.setCell ?_ _ _ (.inl (by simp)); refine Chg.setCell ?_ _ _ (.inl (by simp)); refine Chg.setCell ?_ _ _ (.inl (by simp)); refine Chg.setCell ?_ _ _ (.inl (by simp)); refine Chg.setCell ?_ _ _ (.inl (by simp)); refine Chg.setCell ?_ _ _ (.inl (by simp)); refine Chg.setCell ?_ _ _ (.inl (by simp)); refine Chg.setCell ?_ _ _ (.inl (by simp)); refine Chg.setCell ?_ _ _ (.inl (by simp)); refine Chg.setCell ?_ _ _ (.inl (by simp)); refine Chg.setCell ?_ _ _ (.inl (by simp)); refine Chg.setCell ?_ _ _ (.inl (by simp)); refine Chg.setCell ?_ _ _ (.inl (by simp)); refine Chg.setCell ?_ _ _ (.inl (by simp)); refine Chg.setCell ?_ _ _ (.inl (by simp)); refine Chg.setCell ?_ _ _ (.inl (by simp)); refine Chg.setCell ?_ _ _ (.inl (by simp)); refine Chg.setCell ?_ _ _ (.inl (by simp)); refine Chg.trans0 ?_ HC4.out; refine Chg.setCell ?_ _ _ (.inl (by simp)); refine Chg.trans0 ?_ HC3.out; refine Chg.setCell ?_ _ _ (.inl (by simp)); exact Chg.refl _ _
  have K10 := drvL.slice.sl_chg HS10.out k10 HD10.out
  have F10 := Fresh.chg HF10.out k10
  have k11 : Chg [w.heap.size, w.heap.size + 1, w.heap.size + 1 + 1] w3 (((((((((((((((((((w4.setCell ⟨w.heap.size + 1 + 1, 11, none⟩ (.slice b12 l12 d12)).setCell ⟨w.heap.size + 1 + 1, 12, none⟩ (.int .i64 x.writes)).setCell ⟨w.heap.size + 1 + 1, 13, none⟩ (.int .i64 x.stop)).setCell ⟨w.heap.size + 1 + 1, 14, none⟩ (.bool x.down)).setCell ⟨w.heap.size + 1, 0, none⟩ (.int .i64 x.shape.groups)).setCell ⟨w.heap.size + 1, 1, none⟩ (.int .i64 x.shape.column)).setCell ⟨w.heap.size + 1, 2, none⟩ (.int .i64 x.shape.data)).setCell ⟨w.heap.size + 1, 3, none⟩ (.int .i64 x.shape.spare)).setCell ⟨w.heap.size + 1, 4, none⟩ (.int .i64 x.shape.rows)).setCell ⟨w.heap.size + 1, 5, none⟩ (.int .i64 x.shape.cap)).setCell ⟨w.heap.size + 1, 6, none⟩ (.int .i64 x.shape.batch)).setCell ⟨w.heap.size + 1, 7, none⟩ (.int .i64 x.shape.queue)).setCell ⟨w.heap.size + 1, 8, none⟩ (.int .i64 x.shape.stage)).setCell ⟨w.heap.size + 1, 9, none⟩ (.slice b10 l10 d10)).setCell ⟨w.heap.size + 1, 10, none⟩ (.slice b11 l11 d11)).setCell ⟨w.heap.size + 1, 11, none⟩ (.slice b12 l12 d12)).setCell ⟨w.heap.size + 1, 12, none⟩ (.int .i64 x.writes)).setCell ⟨w.heap.size + 1, 13, none⟩ (.int .i64 x.stop)).setCell ⟨w.heap.size + 1, 14, none⟩ (.bool x.down)) := by refine Chg.setCell ?_ _ _ (.inl (by simp)); refine Chg.setCell ?_ _ _ (.inl (by simp)); refine Chg.setCell ?_ _ _ (.inl (by simp)); refine Chg.setCell ?_ _ _ (.inl (by simp)); refine Chg.setCell ?_ _ _ (.inl (by simp)); refine Chg.setCell ?_ _ _ (.inl (by simp)); refine Chg.setCell ?_ _ _ (.inl (by simp)); refine Chg.setCell ?_ _ _ (.inl (by simp)); refine Chg.setCell ?_ _ _ (.inl (by simp)); refine Chg.setCell ?_ _ _ (.inl (by simp)); refine Chg.setCell ?_ _ _ (.inl (by simp)); refine Chg.setCell ?_ _ _ (.inl (by simp)); refine Chg.setCell ?_ _ _ (.inl (by simp)); refine Chg.setCell ?_ _ _ (.inl (by simp)); refine Chg.setCell ?_ _ _ (.inl (by simp)); refine Chg.setCell ?_ _ _ (.inl (by simp)); refine Chg.setCell ?_ _ _ (.inl (by simp)); refine Chg.setCell ?_ _ _ (.inl (by simp)); refine Chg.setCell ?_ _ _ (.inl (by simp)); refine Chg.trans0 ?_ HC4.out; refine Chg.setCell ?_ _ _ (.inl (by simp)); exact Chg.refl _ _
  have K11 := intL.sl_chg HS11.out k11 HD11.out
  have F11 := Fresh.chg HF11.out k11
  have k12 : Chg [w.heap.size, w.heap.size + 1, w.heap.size + 1 + 1] w4 (((((((((((((((((((w4.setCell ⟨w.heap.size + 1 + 1, 11, none⟩ (.slice b12 l12 d12)).setCell ⟨w.heap.size + 1 + 1, 12, none⟩ (.int .i64 x.writes)).setCell ⟨w.heap.size + 1 + 1, 13, none⟩ (.int .i64 x.stop)).setCell ⟨w.heap.size + 1 + 1, 14, none⟩ (.bool x.down)).setCell ⟨w.heap.size + 1, 0, none⟩ (.int .i64 x.shape.groups)).setCell ⟨w.heap.size + 1, 1, none⟩ (.int .i64 x.shape.column)).setCell ⟨w.heap.size + 1, 2, none⟩ (.int .i64 x.shape.data)).setCell ⟨w.heap.size + 1, 3, none⟩ (.int .i64 x.shape.spare)).setCell ⟨w.heap.size + 1, 4, none⟩ (.int .i64 x.shape.rows)).setCell ⟨w.heap.size + 1, 5, none⟩ (.int .i64 x.shape.cap)).setCell ⟨w.heap.size + 1, 6, none⟩ (.int .i64 x.shape.batch)).setCell ⟨w.heap.size + 1, 7, none⟩ (.int .i64 x.shape.queue)).setCell ⟨w.heap.size + 1, 8, none⟩ (.int .i64 x.shape.stage)).setCell ⟨w.heap.size + 1, 9, none⟩ (.slice b10 l10 d10)).setCell ⟨w.heap.size + 1, 10, none⟩ (.slice b11 l11 d11)).setCell ⟨w.heap.size + 1, 11, none⟩ (.slice b12 l12 d12)).setCell ⟨w.heap.size + 1, 12, none⟩ (.int .i64 x.writes)).setCell ⟨w.heap.size + 1, 13, none⟩ (.int .i64 x.stop)).setCell ⟨w.heap.size + 1, 14, none⟩ (.bool x.down)) := by refine Chg.setCell ?_ _ _ (.inl (by simp)); refine Chg.setCell ?_ _ _ (.inl (by simp)); refine Chg.setCell ?_ _ _ (.inl (by simp)); refine Chg.setCell ?_ _ _ (.inl (by simp)); refine Chg.setCell ?_ _ _ (.inl (by simp)); refine Chg.setCell ?_ _ _ (.inl (by simp)); refine Chg.setCell ?_ _ _ (.inl (by simp)); refine Chg.setCell ?_ _ _ (.inl (by simp)); refine Chg.setCell ?_ _ _ (.inl (by simp)); refine Chg.setCell ?_ _ _ (.inl (by simp)); refine Chg.setCell ?_ _ _ (.inl (by simp)); refine Chg.setCell ?_ _ _ (.inl (by simp)); refine Chg.setCell ?_ _ _ (.inl (by simp)); refine Chg.setCell ?_ _ _ (.inl (by simp)); refine Chg.setCell ?_ _ _ (.inl (by simp)); refine Chg.setCell ?_ _ _ (.inl (by simp)); refine Chg.setCell ?_ _ _ (.inl (by simp)); refine Chg.setCell ?_ _ _ (.inl (by simp)); refine Chg.setCell ?_ _ _ (.inl (by simp)); exact Chg.refl _ _
  have K12 := tapL.sl_chg HS12.out k12 HD12.out
  have F12 := Fresh.chg HF12.out k12
  have hfr := Fresh.mono (Fresh.append F10 (Fresh.append F11 F12 (Fresh.low HF11.out (by have s1 := HC1.out.size; have s2 := HC2.out.size; have s3 := HC3.out.size; have s4 := HC4.out.size; simp at s1 s2 s3 s4 ⊢ <;> omega)) (by have s1 := HC1.out.size; have s2 := HC2.out.size; have s3 := HC3.out.size; have s4 := HC4.out.size; simp at s1 s2 s3 s4 ⊢ <;> omega)) (Fresh.low HF10.out (by have s1 := HC1.out.size; have s2 := HC2.out.size; have s3 := HC3.out.size; have s4 := HC4.out.size; simp at s1 s2 s3 s4 ⊢ <;> omega)) (by have s1 := HC1.out.size; have s2 := HC2.out.size; have s3 := HC3.out.size; have s4 := HC4.out.size; simp at s1 s2 s3 s4 ⊢ <;> omega)) (show w.heap.size ≤ _ from (by have s1 := HC1.out.size; have s2 := HC2.out.size; have s3 := HC3.out.size; have s4 := HC4.out.size; simp at s1 s2 s3 s4 ⊢ <;> omega))
  refine bodyPost_ret (v := .agg #[.int .i64 x.shape.groups, .int .i64 x.shape.column, .int .i64 x.shape.data, .int .i64 x.shape.spare, .int .i64 x.shape.rows, .int .i64 x.shape.cap, .int .i64 x.shape.batch, .int .i64 x.shape.queue, .int .i64 x.shape.stage, .slice b10 l10 d10, .slice b11 l11 d11, .slice b12 l12 d12, .int .i64 x.writes, .int .i64 x.stop, .bool x.down]) (by simp [results, Tryz.results17, go_sem, hqc]) rfl ⟨_, _, rfl, wldL_iff.2 ⟨b10, l10, d10, g10, b11, l11, d11, g11, b12, l12, d12, g12, rfl, HO.out.1, HO.out.2.1, HO.out.2.2.1, HO.out.2.2.2.1, HO.out.2.2.2.2.1, HO.out.2.2.2.2.2.1, HO.out.2.2.2.2.2.2.1, HO.out.2.2.2.2.2.2.2.1, HO.out.2.2.2.2.2.2.2.2.1, K10, K11, K12, HO.out.2.2.2.2.2.2.2.2.2.1, HO.out.2.2.2.2.2.2.2.2.2.2, rfl⟩, (by simpa using hfr), hch⟩
end Go.Proofs.YtphmpimgbmedbaaGreat
namespace Go.Proofs.YtphmpimgbmedbaaGreat
open Go.RowKit
open Go.Lib (hid)
def cutW (w : World) (n : Nat) : World := { w with heap := w.heap.extract 0 n }
theorem cutW_size {w : World} {n : Nat} (h : n ≤ w.heap.size) : (cutW w n).heap.size = n := by simp [cutW]; omega
theorem cutW_at {w : World} {n k : Nat} (h : k < n) : (cutW w n).heap[k]? = w.heap[k]? := by
 unfold cutW
 simp only [Array.getElem?_extract]
 by_cases hk : k < w.heap.size
 ·rw [if_pos (by omega)]; simp
 ·rw [if_neg (by omega), Array.getElem?_eq_none (by omega)]
theorem cutW_chg {w : World} {n : Nat} (h : n ≤ w.heap.size) : Chg [] (cutW w n) w := by
 refine ⟨rfl, rfl, rfl, by rw [cutW_size h]; exact h, fun k hk _ => ?_, fun k hk => ?_⟩
 ·rw [cutW_size h] at hk; exact (cutW_at hk).symm
 ·have hlt := hk.lt
  rw [cutW_size h] at hlt
  obtain ⟨cur, E, hb⟩ := hk
  exact ⟨cur, E, by rw [← cutW_at hlt]; exact hb⟩
def GrowC {α : Type} (L : Lay α) (E : TypeId) (n : Nat) (wr : World) (v : Value) (xs : List α) : Prop :=
 n ≤ wr.heap.size ∧ ∃ h fps, L.os E wr v xs h fps ∧ Fresh n wr (h.toList ++ fps)
section
variable {α : Type} {L : Lay α} {E : TypeId} {n : Nat} {w wr w' : World} {v : Value} {xs : List α}
theorem GrowC.to (h : GrowC L E n wr v xs) : Grow L E (cutW wr n) wr v xs := by
 obtain ⟨h0, hd, fps, h1, h2⟩ := h
 exact ⟨hd, fps, h1, by rw [cutW_size h0]; exact h2, cutW_chg h0⟩
theorem GrowC.of (h : Grow L E w wr v xs) : GrowC L E w.heap.size wr v xs := by
 obtain ⟨hd, fps, h1, h2, h3⟩ := h
 exact ⟨h3.size, hd, fps, h1, h2⟩
theorem GrowC.of' (h : Grow L E w wr v xs) (hn : n = w.heap.size) : GrowC L E n wr v xs := by subst hn; exact GrowC.of h
theorem GrowC.chg {S : List Nat} (h : GrowC L E n wr v xs) (hc : Chg S wr w') (hS : ∀ x ∈ S, x < n) : GrowC L E n w' v xs := by
 obtain ⟨h0, hd, fps, h1, h2⟩ := h
 refine ⟨Nat.le_trans h0 hc.size, hd, fps, L.os_chg h1 hc (fun g hg hm => ?_) (fun b hb hm => ?_), h2.chg hc⟩
 ·have := (h2.2 g (List.mem_append.2 (.inl (by simp [hg])))).1; have := hS g hm; omega
 ·have := (h2.2 b (List.mem_append.2 (.inr hb))).1; have := hS b hm; omega
theorem GrowC.ext (h : GrowC L E n wr v xs) (hc : Chg [] wr w') : GrowC L E n w' v xs := h.chg hc (by simp)
theorem GrowC.next {ys : List α} {v' : Value} {S : List Nat} {w0 : World} (hn : n ≤ wr.heap.size) (h : Grow L E (cutW wr n) w' v' ys) (hc : Chg S w0 wr) (h0 : w0.heap.size ≤ n) : GrowC L E n w' v' ys ∧ Chg S w0 w' := by
 refine ⟨GrowC.of' h (cutW_size hn).symm, ?_⟩
 have h1 := h.chg
 refine ⟨h1.os.trans hc.os, h1.tape.trans hc.tape, h1.output.trans hc.output, ?_, fun k hk hS => ?_, fun k hk => ?_⟩
 ·have := h1.size; rw [cutW_size hn] at this; omega
 ·rw [h1.block k (by rw [cutW_size hn]; omega) (by simp), cutW_at (by omega), hc.block k hk hS]
 ·have hlt := hk.lt
  have h2 := hc.loose k hk
  refine h1.loose k ?_
  obtain ⟨cur, T, hb⟩ := h2
  exact ⟨cur, T, by rw [cutW_at (by omega)]; exact hb⟩
theorem GrowC.low {ys : List α} {v' : Value} (hn : n ≤ wr.heap.size) (h : Grow L E (cutW wr n) w' v' ys) : ∀ k, k < n → w'.heap[k]? = wr.heap[k]? := fun k hk => by
 rw [h.chg.block k (by rw [cutW_size hn]; exact hk) (by simp), cutW_at hk]
theorem GrowC.sl (h : GrowC L E n wr v xs) : ∃ a cap fp, v = .slice a xs.length cap ∧ L.sl wr a xs.length cap xs fp ∧ Fresh n wr fp := by
 obtain ⟨h0, hd, fps, h1, h2⟩ := h
 obtain ⟨a, cap, rfl, hs⟩ := L.os_sl h1
 exact ⟨a, cap, _, rfl, hs, h2⟩
theorem GrowC.made (h : n ≤ wr.heap.size) : GrowC L E n (wr.alloc (.cells #[] E)) (.slice (some ⟨wr.heap.size, 0, none⟩) 0 0) [] :=
 ⟨by simp; omega, some wr.heap.size, [], Lay.os_made _ _ _ _ _ (by simp [maxLen]) (by simp), ⟨by simp, fun b hb => by simp at hb; subst hb; exact ⟨h, _, _, new_alloc wr _⟩⟩⟩
theorem GrowC.nil (h : n ≤ wr.heap.size) : GrowC L E n wr (.slice none 0 0) [] := ⟨h, none, [], Lay.os_nil _ _ _, Fresh.nil _ _⟩
end
structure Up (n : Nat) (w w' : World) : Prop where
 os : w'.os = w.os
 tape : w'.tape = w.tape
 output : w'.output = w.output
 size : w.heap.size ≤ w'.heap.size
 low : ∀ k, k < n → w'.heap[k]? = w.heap[k]?
 loose : ∀ k, Loose w k → Loose w' k
theorem Up.chg {n : Nat} {S : List Nat} {w0 w w' : World} (h : Up n w w') (hc : Chg S w0 w) (h0 : w0.heap.size ≤ n) : Chg S w0 w' :=
 ⟨h.os.trans hc.os, h.tape.trans hc.tape, h.output.trans hc.output, Nat.le_trans hc.size h.size, fun k hk hS => by rw [h.low k (by omega), hc.block k hk hS], fun k hk => h.loose k (hc.loose k hk)⟩
theorem Up.of {n : Nat} {S : List Nat} {w w' : World} (hc : Chg S w w') (hS : ∀ x ∈ S, n ≤ x) (hn : n ≤ w.heap.size) : Up n w w' :=
 ⟨hc.os, hc.tape, hc.output, hc.size, fun k hk => hc.block k (by omega) (fun hm => by have := hS k hm; omega), hc.loose⟩
def GrowB {α : Type} (L : Lay α) (E : TypeId) (n B : Nat) (wr : World) (v : Value) (xs : List α) : Prop :=
 n ≤ B ∧ B ≤ wr.heap.size ∧ ∃ h fps, L.os E wr v xs h fps ∧ Fresh n wr (h.toList ++ fps) ∧ ∀ b ∈ h.toList ++ fps, b < B
section
variable {α : Type} {L : Lay α} {E : TypeId} {n B : Nat} {w wr w' : World} {v : Value} {xs : List α}
theorem GrowC.b (h : GrowC L E n wr v xs) : GrowB L E n wr.heap.size wr v xs := by
 obtain ⟨h0, hd, fps, h1, h2⟩ := h
 exact ⟨h0, Nat.le_refl _, hd, fps, h1, h2, h2.lts⟩
theorem GrowB.chg {S : List Nat} (h : GrowB L E n B wr v xs) (hc : Chg S wr w') (hS : ∀ x ∈ S, x < n) : GrowB L E n B w' v xs := by
 obtain ⟨h0, h9, hd, fps, h1, h2, h3⟩ := h
 refine ⟨h0, Nat.le_trans h9 hc.size, hd, fps, L.os_chg h1 hc (fun g hg hm => ?_) (fun b hb hm => ?_), h2.chg hc, h3⟩
 ·have := (h2.2 g (List.mem_append.2 (.inl (by simp [hg])))).1; have := hS g hm; omega
 ·have := (h2.2 b (List.mem_append.2 (.inr hb))).1; have := hS b hm; omega
theorem GrowB.ext (h : GrowB L E n B wr v xs) (hc : Chg [] wr w') : GrowB L E n B w' v xs := h.chg hc (by simp)
theorem GrowB.run {P : Program} {bytes : Nat} {ys : List α} {f : List Nat} (t ty : TypeId) (ht : P.underlying t = some (.slice E)) (K : Kind P E L.n bytes) (hg : GrowB L E n B w v xs)
  (ad : Addr) (c : Nat) (news : List Value) (hnews : ∀ j u, news[j]? = some u → w.cell? (ad.add j) = some u) (hall : L.all w news ys f) (ff : Fresh B w f)
  (h63 : xs.length + ys.length ≤ maxLen) (hbytes : (xs.length + ys.length) * bytes ≤ 140737488355328) :
  ∃ v' w', (Builtin.append_ #[t, t] ty #[v, .slice (some ad) ys.length c]).run P w = .ok v' w' ∧ GrowC L E n w' v' (xs ++ ys) ∧ Up n w w' := by
 obtain ⟨h0, h9, hd, fps, h1, h2, h3⟩ := hg
 have hlt := L.os_lt h1
 obtain ⟨v', w', h', hr, ho', hh', hc', hl⟩ := L.run_append (P := P) t ty ht K h1 ad c news hnews hall (fun g hg hf => by have a1 := h3 g (by simp [hg]); have a2 := (ff.2 g hf).1; omega) h63 hbytes
 have hle : Up n w w' := Up.of hc' (fun x hx => (h2.2 x (List.mem_append.2 (.inl hx))).1) (by omega)
 refine ⟨v', w', hr, ⟨Nat.le_trans (Nat.le_trans h0 h9) hle.size, h', fps ++ f, ho', ?_⟩, hle⟩
 have f2 := h2.chg hc'
 have g2 := ff.chg hc'
 have nd := List.nodup_append.1 h2.1
 have dj : ∀ a ∈ hd.toList ++ fps, ∀ b ∈ f, a ≠ b := fun a ha b hb e => by have a1 := h3 a ha; have a2 := (ff.2 b hb).1; omega
 have hlo := L.os_loose ho'
 rcases hh' with rfl | rfl
 ·rw [← List.append_assoc]
  exact ⟨List.nodup_append.2 ⟨h2.1, ff.1, dj⟩, fun b hb => by
   rcases List.mem_append.1 hb with hb | hb
   ·exact f2.2 b hb
   ·exact ⟨Nat.le_trans h0 (g2.2 b hb).1, (g2.2 b hb).2⟩⟩
 ·refine ⟨?_, fun b hb => ?_⟩
  ·rw [Option.toList_some, List.singleton_append, List.nodup_cons]
   refine ⟨fun hb => ?_, List.nodup_append.2 ⟨nd.2.1, ff.1, fun a ha b hb => dj a (List.mem_append.2 (.inr ha)) b hb⟩⟩
   rcases List.mem_append.1 hb with hb | hb
   ·have := h3 _ (List.mem_append.2 (.inr hb)); omega
   ·have := ff.lts _ hb; omega
  ·rw [Option.toList_some, List.singleton_append, List.mem_cons] at hb
   rcases hb with rfl | hb
   ·exact ⟨by omega, hlo _ rfl⟩
   ·rcases List.mem_append.1 hb with hb | hb
    ·exact f2.2 b (List.mem_append.2 (.inr hb))
    ·exact ⟨Nat.le_trans h0 (g2.2 b hb).1, (g2.2 b hb).2⟩
theorem GrowB.wp {P : Program} {bytes : Nat} {ys : List α} {f : List Nat} {o : Oper} {a : Act} {Kc : Act → World → Prop} {Q : Exit → Act → World → Prop} (s x : Operand) (t : TypeId)
  (hop : o.op = .call { callee := .builtin .append, args := #[s, x], argTypes := #[t, t] }) (ht : P.underlying t = some (.slice E)) (K : Kind P E L.n bytes)
  (hs : a.eval s = v) (hg : GrowB L E n B w v xs)
  (ad : Addr) (m c : Nat) (news : List Value) (hx : a.eval x = .slice (some ad) m c) (hm : m = ys.length) (hnews : ∀ j u, news[j]? = some u → w.cell? (ad.add j) = some u) (hall : L.all w news ys f) (ff : Fresh B w f)
  (h63 : xs.length + ys.length ≤ maxLen) (hbytes : (xs.length + ys.length) * bytes ≤ 140737488355328)
  (hk : ∀ v' w', GrowC L E n w' v' (xs ++ ys) → Up n w w' → Kc (a.put o.dst v') w') : o.wp P a w Kc Q := by
 subst hm
 obtain ⟨v', w', hr, h2, h3⟩ := hg.run (P := P) t o.type ht K ad c news hnews hall ff h63 hbytes
 unfold Oper.wp execOp
 simp only [hop, resolve, invoke, builtin, Sem.run_bind, Sem.run_pure, Result.andThen_ok, List.map_toArray, List.map_cons, List.map_nil, hs, hx, hr]
 exact hk v' w' h2 h3
theorem GrowB.wpList {P : Program} {bytes : Nat} {ys : List α} {f : List Nat} {ops : Array Oper} {rest : List Oper} {o : Oper} {a : Act} {Q : Exit → Act → World → Prop} (hgd : o.guard = none) (s x : Operand) (t : TypeId)
  (hop : o.op = .call { callee := .builtin .append, args := #[s, x], argTypes := #[t, t] }) (ht : P.underlying t = some (.slice E)) (K : Kind P E L.n bytes)
  (hs : a.eval s = v) (hg : GrowB L E n B w v xs)
  (ad : Addr) (m c : Nat) (news : List Value) (hx : a.eval x = .slice (some ad) m c) (hm : m = ys.length) (hnews : ∀ j u, news[j]? = some u → w.cell? (ad.add j) = some u) (hall : L.all w news ys f) (ff : Fresh B w f)
  (h63 : xs.length + ys.length ≤ maxLen) (hbytes : (xs.length + ys.length) * bytes ≤ 140737488355328)
  (hk : ∀ v' w', GrowC L E n w' v' (xs ++ ys) → Up n w w' → wpList P ops Q rest (a.put o.dst v') w') : wpList P ops Q (o :: rest) a w :=
 wpList_plain hgd fun _ hK => hg.wp s x t hop ht K hs ad m c news hx hm hnews hall ff h63 hbytes fun v' w' h1 h2 => hK _ _ (hk v' w' h1 h2)
theorem GrowB.step {P : Program} {bytes : Nat} {ys : List α} {f : List Nat} {ops : Array Oper} {o : Oper} {a : Act} {Kc : Act → World → Prop} {Q : Exit → Act → World → Prop} {R : Prop} (hgd : o.guard = none) (s x : Operand) (t : TypeId)
  (hop : o.op = .call { callee := .builtin .append, args := #[s, x], argTypes := #[t, t] }) (ht : P.underlying t = some (.slice E)) (K : Kind P E L.n bytes)
  (hs : a.eval s = v) (hg : GrowB L E n B w v xs)
  (ad : Addr) (m c : Nat) (news : List Value) (hx : a.eval x = .slice (some ad) m c) (hm : m = ys.length) (hnews : ∀ j u, news[j]? = some u → w.cell? (ad.add j) = some u) (hall : L.all w news ys f) (ff : Fresh B w f)
  (h63 : xs.length + ys.length ≤ maxLen) (hbytes : (xs.length + ys.length) * bytes ≤ 140737488355328)
  (hk : ∀ v' w', GrowC L E n w' v' (xs ++ ys) → Up n w w' → Kc (a.put o.dst v') w') :
  if Region.wanted o (yielded ops a.tmps) = true then Oper.wp P o a w Kc Q else R := by
 have hw : Region.wanted o (yielded ops a.tmps) = true := by simp [Region.wanted, hgd]
 rw [if_pos hw]
 exact hg.wp s x t hop ht K hs ad m c news hx hm hnews hall ff h63 hbytes hk
end
end Go.Proofs.YtphmpimgbmedbaaGreat
namespace Go.Proofs.YtphmpimgbmedbaaGreat
open Go.RowKit
open Go.Lib (hid)
def RowAt {α : Type} (L : Lay α) (w : World) (b off : Nat) (ps : List (α × List Nat)) : Prop :=
 ∃ cur E, w.heap[b]? = some (.cells cur E (0, 0)) ∧ (0 < ps.length → off + ps.length * L.n ≤ cur.size) ∧ ∀ (i : Nat) p, ps[i]? = some p → L.rep w ((cur.toList.drop (off + i * L.n)).take L.n) p.1 p.2 ∧ b ∉ p.2
section
variable {α : Type} {L : Lay α} {w w' : World} {b off : Nat} {ps : List (α × List Nat)}
theorem RowAt.lt (h : RowAt L w b off ps) : b < w.heap.size := by obtain ⟨cur, E, h1, _⟩ := h; exact ltOf h1
theorem RowAt.loose (h : RowAt L w b off ps) : Loose w b := by obtain ⟨cur, E, h1, _⟩ := h; exact ⟨_, _, h1⟩
theorem RowAt.keep (h : RowAt L w b off ps) (hb : w'.heap[b]? = w.heap[b]?) (hk : ∀ p ∈ ps, ∀ y ∈ p.2, w'.heap[y]? = w.heap[y]?) : RowAt L w' b off ps := by
 obtain ⟨cur, E, h1, h2, h3⟩ := h
 exact ⟨cur, E, hb.trans h1, h2, fun i p hp => ⟨L.keep (h3 i p hp).1 (hk p (List.mem_of_getElem? hp)), (h3 i p hp).2⟩⟩
theorem RowAt.fp_lt (h : RowAt L w b off ps) {p : α × List Nat} (hp : p ∈ ps) : ∀ y ∈ p.2, y < w.heap.size := by
 obtain ⟨cur, E, h1, h2, h3⟩ := h
 obtain ⟨i, hi, e⟩ := List.getElem_of_mem hp
 exact L.lt (h3 i p (by rw [List.getElem?_eq_getElem hi, e])).1
theorem RowAt.chg {S : List Nat} (h : RowAt L w b off ps) (hc : Chg S w w') (hb : b ∉ S) (hS : ∀ p ∈ ps, ∀ y ∈ p.2, y ∉ S) : RowAt L w' b off ps :=
 h.keep (hc.block b h.lt hb) (fun p hp y hy => hc.block y (h.fp_lt hp y hy) (hS p hp y hy))
theorem RowAt.ext (h : RowAt L w b off ps) (hc : Chg [] w w') : RowAt L w' b off ps := h.chg hc (by simp) (by simp)
theorem RowAt.at (h : RowAt L w b off ps) {i : Nat} (hi : i < ps.length) : ∃ p c, ps[i]? = some p ∧ L.rep w c p.1 p.2 ∧ b ∉ p.2 ∧ ∀ j, j < L.n → w.cell? ⟨b, off + i * L.n + j, none⟩ = c[j]? := by
 obtain ⟨cur, E, h1, h2, h3⟩ := h
 have hp : ps[i]? = some ps[i] := List.getElem?_eq_getElem hi
 refine ⟨_, _, hp, (h3 i _ hp).1, (h3 i _ hp).2, fun j hj => ?_⟩
 rw [cellsOf h1, List.getElem?_take_of_lt hj, List.getElem?_drop]
 simp
theorem RowAt.free (h : RowAt L w b off ps) : ∀ j, w.frozen? ⟨b, j, none⟩ = false := by obtain ⟨cur, E, h1, _⟩ := h; exact freeOf h1
theorem RowAt.put (h : RowAt L w b off ps) {i : Nat} (hi : i < ps.length) {x : α} {c : List Value} {f : List Nat} (hr : L.rep w c x f) (hb : b ∉ f) : RowAt L (w.setCells b (off + i * L.n) c) b off (ps.set i (x, f)) := by
 obtain ⟨cur, E, h1, h2, h3⟩ := h
 have hcl := L.len hr
 have hle : (i + 1) * L.n ≤ ps.length * L.n := Nat.mul_le_mul_right _ (by omega)
 rw [Nat.add_mul, Nat.one_mul] at hle
 have hsz : off + i * L.n + c.length ≤ cur.size := by have := h2 (by omega); omega
 have htl := setRow_toList c (off + i * L.n) cur hsz
 have hct : cur.toList.length = cur.size := by simp
 refine ⟨_, E, setCells_heap c _ w cur h1, ?_, fun j p hp => ?_⟩
 ·rw [List.length_set]
  have : (setRow cur (off + i * L.n) c).size = cur.size := by
   have h5 := congrArg List.length htl
   rw [Array.length_toList] at h5
   rw [h5, List.length_append, List.length_append, List.length_take, List.length_drop]
   omega
  rw [this]; exact h2
 ·have hfar : ∀ y, y ≠ b → (w.setCells b (off + i * L.n) c).heap[y]? = w.heap[y]? := fun y hy => setCells_far hy c _ w
  by_cases e : i = j
  ·subst e
   rw [List.getElem?_set_self hi] at hp
   obtain rfl := Option.some.inj hp
   refine ⟨?_, hb⟩
   have e2 : ((setRow cur (off + i * L.n) c).toList.drop (off + i * L.n)).take L.n = c := by
    rw [htl, List.drop_append_of_le_length (by rw [List.length_take]; omega), List.drop_take, Nat.sub_self, List.take_zero, List.nil_append, List.take_append_of_le_length (by omega), List.take_of_length_le (by omega)]
   rw [e2]
   exact L.keep hr (fun y hy => hfar y (fun e => hb (e ▸ hy)))
  ·rw [List.getElem?_set_ne e] at hp
   obtain ⟨h4, h5⟩ := h3 j p hp
   refine ⟨?_, h5⟩
   have hj := (List.getElem?_eq_some_iff.1 hp).1
   have hjle : (j + 1) * L.n ≤ ps.length * L.n := Nat.mul_le_mul_right _ (by omega)
   rw [Nat.add_mul, Nat.one_mul] at hjle
   have e2 : ((setRow cur (off + i * L.n) c).toList.drop (off + j * L.n)).take L.n = (cur.toList.drop (off + j * L.n)).take L.n := by
    apply List.ext_getElem?
    intro k
    by_cases hk : k < L.n
    ·rw [List.getElem?_take_of_lt hk, List.getElem?_take_of_lt hk, List.getElem?_drop, List.getElem?_drop, htl]
     rcases Nat.lt_or_gt_of_ne e with hij | hij
     ·have : (i + 1) * L.n ≤ j * L.n := Nat.mul_le_mul_right _ hij
      rw [Nat.add_mul, Nat.one_mul] at this
      rw [List.getElem?_append_right (by rw [List.length_take]; omega), List.length_take, List.getElem?_append_right (by omega), List.getElem?_drop]
      congr 1
      omega
     ·have : (j + 1) * L.n ≤ i * L.n := Nat.mul_le_mul_right _ hij
      rw [Nat.add_mul, Nat.one_mul] at this
      rw [List.getElem?_append_left (by rw [List.length_take]; omega), List.getElem?_take_of_lt (by omega)]
    ·rw [List.getElem?_eq_none (by rw [List.length_take]; omega), List.getElem?_eq_none (by rw [List.length_take]; omega)]
   rw [e2]
   exact L.keep h4 (fun y hy => hfar y (fun e => h5 (e ▸ hy)))
theorem RowAt.take (h : RowAt L w b off ps) (n : Nat) : RowAt L w b off (ps.take n) := by
 obtain ⟨cur, E, h1, h2, h3⟩ := h
 have hle : (ps.take n).length * L.n ≤ ps.length * L.n := Nat.mul_le_mul_right _ (by rw [List.length_take]; omega)
 refine ⟨cur, E, h1, fun h0 => by have := h2 (by rw [List.length_take] at h0; omega); omega, fun i p hp => h3 i p ?_⟩
 have hi : i < n := by have := (List.getElem?_eq_some_iff.1 hp).1; rw [List.length_take] at this; omega
 rwa [List.getElem?_take_of_lt hi] at hp
end
theorem row_all {α : Type} {L : Lay α} {w : World} : ∀ {ps : List (α × List Nat)} {cs : List Value}, cs.length = ps.length * L.n → (∀ (i : Nat) p, ps[i]? = some p → L.rep w ((cs.drop (i * L.n)).take L.n) p.1 p.2) → L.all w cs (ps.map (·.1)) (ps.flatMap (·.2)) := by
 intro ps
 induction ps with
 | nil => intro cs hl _; exact ⟨List.eq_nil_of_length_eq_zero (by simpa using hl), rfl⟩
 | cons p ps ih =>
  intro cs hl h
  rw [List.length_cons, Nat.add_mul, Nat.one_mul] at hl
  refine ⟨cs.take L.n, cs.drop L.n, p.2, ps.flatMap (·.2), (List.take_append_drop _ _).symm, by simp, ?_, ih (by rw [List.length_drop]; omega) (fun i q hq => ?_)⟩
  ·have := h 0 p rfl
   simpa using this
  ·have := h (i + 1) q (by simpa using hq)
   rw [List.drop_drop]
   rw [Nat.add_mul, Nat.one_mul, Nat.add_comm] at this
   exact this
theorem all_row {α : Type} {L : Lay α} {w : World} : ∀ {xs : List α} {cs : List Value} {fps : List Nat}, L.all w cs xs fps → ∃ ps : List (α × List Nat), ps.map (·.1) = xs ∧ ps.flatMap (·.2) = fps ∧ ∀ (i : Nat) p, ps[i]? = some p → L.rep w ((cs.drop (i * L.n)).take L.n) p.1 p.2 := by
 intro xs
 induction xs with
 | nil => intro cs fps h; exact ⟨[], rfl, h.2.symm, fun i p hp => by simp at hp⟩
 | cons x xs ih =>
  intro cs fps h
  obtain ⟨c1, c2, f1, f2, rfl, rfl, h1, h2⟩ := h
  obtain ⟨ps, e1, e2, e3⟩ := ih h2
  have hl := L.len h1
  refine ⟨(x, f1) :: ps, by simp [e1], by simp [e2], fun i p hp => ?_⟩
  cases i with
  | zero =>
   simp at hp
   subst hp
   rw [Nat.zero_mul, List.drop_zero, ← hl, List.take_left]
   exact h1
  | succ i =>
   have := e3 i p (by simpa using hp)
   rw [Nat.add_mul, Nat.one_mul, Nat.add_comm, ← List.drop_drop, ← hl, List.drop_left, hl]
   exact this
section
variable {α : Type} {L : Lay α} {w w' : World} {b off len cap : Nat} {xs : List α} {ps : List (α × List Nat)} {fp : List Nat}
theorem RowAt.sl (h : RowAt L w b off ps) (hl : len = ps.length) (hc : len ≤ cap) (hm : cap ≤ maxLen) : L.sl w (some ⟨b, off, none⟩) len cap (ps.map (·.1)) (b :: ps.flatMap (·.2)) := by
 obtain ⟨cur, E, h1, h2, h3⟩ := h
 subst hl
 refine ⟨by simp, hc, hm, (fun h => by cases h), .inr ⟨b, off, cur, E, (0, 0), _, rfl, h1, row_all ?_ (fun i p hp => ?_), rfl⟩⟩
 ·have hct : cur.toList.length = cur.size := by simp
  rw [List.length_take, List.length_drop, hct]
  rcases Nat.eq_zero_or_pos ps.length with h0 | h0
  ·rw [h0, Nat.zero_mul]; omega
  ·have := h2 h0; omega
 ·have hi := (List.getElem?_eq_some_iff.1 hp).1
  have hle : (i + 1) * L.n ≤ ps.length * L.n := Nat.mul_le_mul_right _ (by omega)
  rw [Nat.add_mul, Nat.one_mul] at hle
  have e : (((cur.toList.drop off).take (ps.length * L.n)).drop (i * L.n)).take L.n = (cur.toList.drop (off + i * L.n)).take L.n := by
   rw [List.drop_take, List.take_take, List.drop_drop, Nat.min_eq_left (by omega)]
  rw [e]
  exact (h3 i p hp).1
theorem Lay.sl_row (h : L.sl w (some ⟨b, off, none⟩) len cap xs fp) (hlo : Loose w b) (hn : ∃ fps, fp = b :: fps ∧ b ∉ fps) : ∃ ps, RowAt L w b off ps ∧ ps.map (·.1) = xs ∧ fp = b :: ps.flatMap (·.2) := by
 obtain ⟨fps0, hfp, hb⟩ := hn
 obtain ⟨h1, h2, h3, h4, ⟨rfl, rfl⟩ | ⟨b', off', cur, E, fr, fps, ha, hb', hall, hfp'⟩⟩ := h
 ·cases hfp
 ·simp only [Option.some.injEq, Addr.mk.injEq, and_true] at ha
  obtain ⟨rfl, rfl⟩ := ha
  obtain rfl : fps = fps0 := by rw [hfp] at hfp'; exact (List.cons.inj hfp').2.symm
  obtain ⟨cur', E', hlo⟩ := hlo
  obtain ⟨rfl, rfl, rfl⟩ : cur' = cur ∧ E' = E ∧ fr = (0, 0) := by
   have := Option.some.inj (hlo.symm.trans hb'); injection this with e1 e2 e3; exact ⟨e1, e2, e3.symm⟩
  obtain ⟨ps, e1, e2, e3⟩ := all_row hall
  have hpl : ps.length = xs.length := by rw [← e1, List.length_map]
  have hal := L.all_len hall
  rw [List.length_take, List.length_drop, Array.length_toList] at hal
  refine ⟨ps, ⟨cur', E', hb', ?_, fun i p hp => ?_⟩, e1, by rw [hfp, e2]⟩
  ·rw [hpl]
   intro h0
   have : 0 < xs.length * L.n := Nat.mul_pos h0 L.pos
   rw [h1] at hal; omega
  ·have hi := (List.getElem?_eq_some_iff.1 hp).1
   have hle : (i + 1) * L.n ≤ len * L.n := Nat.mul_le_mul_right _ (by omega)
   rw [Nat.add_mul, Nat.one_mul] at hle
   have := e3 i p hp
   rw [List.drop_take, List.take_take, List.drop_drop, Nat.min_eq_left (by omega)] at this
   refine ⟨this, fun hm => hb ?_⟩
   rw [← e2]
   exact List.mem_flatMap.2 ⟨p, List.mem_of_getElem? hp, hm⟩
end
end Go.Proofs.YtphmpimgbmedbaaGreat
namespace Go.Proofs.YtphmpimgbmedbaaGreat
open Go.RowKit
open Go.Lib (hid)
def wpAnyG (P : Program) (md : Region.Mode) (ops : Array Oper) (Q : Exit → Act → World → Prop) (S : Array Bool → World → Prop) : Nat → Array Bool → Act → World → Prop
 | 0, listed, a, w => Region.ready md ops listed = [] ∧ Q .normal a w
 | fuel + 1, listed, a, w =>
  (Region.ready md ops listed = [] → Q .normal a w) ∧
  ∀ i ∈ Region.ready md ops listed, wpOp P ops Q i (fun a' w' => S (listed.setIfInBounds i true) w' ∧ wpAnyG P md ops Q S fuel (listed.setIfInBounds i true) a' w') a w
def Till (M : List Nat) (C : World → Prop) (l : Array Bool) (w : World) : Prop := (∀ m ∈ M, l.getD m false = false) → C w
def LClosed (md : Region.Mode) (ops : Array Oper) (l : Array Bool) : Prop := ∀ (j : Nat) (o : Oper), ops[j]? = some o → l.getD j false = true → ∀ e ∈ o.after, Region.binds md e = true → l.getD e.on false = true
def waits (md : Region.Mode) (ops : Array Oper) : Nat → Nat → Nat → Bool
 | 0, m, i => m == i
 | n + 1, m, i => m == i || (match ops[m]? with
  | none => false
  | some o => o.after.toList.any (fun e => Region.binds md e && waits md ops n e.on i))
section
variable {P : Program} {ops : Array Oper} {Q : Exit → Act → World → Prop} {md : Region.Mode} {M : List Nat} {C : World → Prop} {fuel : Nat} {listed : Array Bool} {a : Act} {w : World}
theorem waits_listed (hc : LClosed md ops listed) : ∀ (n m i : Nat), waits md ops n m i = true → listed.getD m false = true → listed.getD i false = true
 | 0, m, i, h, hm => by simp [waits] at h; subst h; exact hm
 | n + 1, m, i, h, hm => by
  unfold waits at h
  rw [Bool.or_eq_true] at h
  rcases h with h | h
  ·simp at h; subst h; exact hm
  ·cases ho : ops[m]? with
   | none => rw [ho] at h; cases h
   | some o =>
    rw [ho] at h
    simp only [List.any_eq_true, Bool.and_eq_true] at h
    obtain ⟨e, he, hb, hw⟩ := h
    exact waits_listed hc n e.on i hw (hc m o ho hm e (by simpa using he) hb)
theorem LClosed.next (hc : LClosed md ops listed) {j : Nat} (hj : j ∈ Region.ready md ops listed) : LClosed md ops (listed.setIfInBounds j true) := by
 intro k o ho hk e he hb
 obtain ⟨_, oj, hoj, hall⟩ := mem_ready.1 hj
 by_cases h : j = k
 ·subst h
  rw [hoj] at ho
  cases ho
  exact getD_set_true (hall e he hb)
 ·rw [getD_set_ne false h] at hk
  exact getD_set_true (hc k o ho hk e he hb)
theorem LClosed.none : LClosed md ops (Array.replicate ops.size false) := by
 intro k o ho hk
 rw [Array.getD_eq_getD_getElem?, Array.getElem?_replicate] at hk
 split at hk <;> cases hk
theorem unl {i : Nat} (h : i ∈ Region.ready md ops listed) : listed.getD i false = false := by
 have h0 := (mem_ready.1 h).1
 rw [Array.getD_eq_getD_getElem?] at h0 ⊢
 cases e : listed[i]? with
 | none => rfl
 | some b => rw [e] at h0; exact h0
theorem wpAny_of_G {S : Array Bool → World → Prop} : ∀ (fuel : Nat) (listed : Array Bool) (a : Act) (w : World), wpAnyG P md ops Q S fuel listed a w → wpAny P md ops Q fuel listed a w
 | 0, _, _, _, h => h
 | fuel + 1, _, _, _, h => ⟨h.1, fun i hi => wpOp_mono (fun a' w' h' => wpAny_of_G fuel _ a' w' h'.2) (h.2 i hi)⟩
theorem Till.now {i n : Nat} (hS : Till M C listed w) (hcl : LClosed md ops listed) (hi : listed.getD i false = false) (hM : ∀ m ∈ M, waits md ops n m i = true) : C w :=
 hS (fun m hm => by
  cases e : listed.getD m false
  ·rfl
  ·rw [waits_listed hcl n m i (hM m hm) e] at hi; cases hi)
theorem Till.more (hS : Till M C listed w) (j : Nat) : Till M C (listed.setIfInBounds j true) w := fun hm => hS (fun m hmM => by
  have := hm m hmM
  cases e : listed.getD m false
  ·rfl
  ·rw [getD_set_true e] at this; cases this)
theorem wpAnyG_first {i : Nat} {oi : Oper} {v : Value} (hi : ops[i]? = some oi) (hsel : ∀ (j : Nat) (o : Oper) cs b, ops[j]? = some o → o.op ≠ .select cs b)
  (hQ : ∀ c a w, Q (.panic c) (a.put oi.dst v) w → Q (.panic c) a w) {D : World → Prop} (hD : ∀ (l : Array Bool) w, LClosed md ops l → l.getD i false = false → Till M C l w → D w) (hiM : i ∉ M) :
  ∀ (fuel : Nat) (listed : Array Bool) (a : Act) (w : World),
   (∀ j oj, ops[j]? = some oj → j ≠ i → listed.getD j true = false → (∀ e ∈ oj.after, Region.binds md e = true → e.on ≠ i) → oi.apart ops oj = true) →
   i ∈ Region.ready md ops listed → LClosed md ops listed → YieldsIf P ops D oi v a → Till M C listed w →
   wpAnyG P md ops Q (Till M C) fuel (listed.setIfInBounds i true) (a.put oi.dst v) w → wpAnyG P md ops Q (Till M C) (fuel + 1) listed a w := by
 intro fuel
 induction fuel with
 | zero =>
  intro listed a w _ hr hcl hy hS H
  refine ⟨fun h => (by rw [h] at hr; cases hr), fun j hj => ?_⟩
  by_cases hji : j = i
  ·subst hji
   exact hy.wpOp hi (hD _ _ hcl (unl hr) hS) ⟨hS.more j, H⟩
  ·have := ready_mono hj hji
   rw [H.1] at this
   cases this
 | succ fuel ih =>
  intro listed a w hfree hr hcl hy hS H
  refine ⟨fun h => (by rw [h] at hr; cases hr), fun j hj => ?_⟩
  by_cases hji : j = i
  ·subst hji
   exact hy.wpOp hi (hD _ _ hcl (unl hr) hS) ⟨hS.more j, H⟩
  ·have h1 := H.2 j (ready_mono hj hji)
   obtain ⟨hjun, oj, hoj, hall⟩ := mem_ready.1 hj
   have hnot : ∀ e ∈ oj.after, Region.binds md e = true → e.on ≠ i := fun e he hb heq => by
    have h1 := hall e he hb
    rw [heq, unl hr] at h1
    cases h1
   have h2 := wpOp_putIf hoj (hfree j oj hoj hji hjun hnot) (fun cs b => hsel i oi cs b hi) (fun cs b => hsel j oj cs b hoj) hQ hy h1
   have hfree' : ∀ k ok, ops[k]? = some ok → k ≠ i → (listed.setIfInBounds j true).getD k true = false →
     (∀ e ∈ ok.after, Region.binds md e = true → e.on ≠ i) → oi.apart ops ok = true := fun k ok hk hki hun hno => by
    refine hfree k ok hk hki ?_ hno
    by_cases hjk : j = k
    ·subst hjk; exact hjun
    ·rw [getD_set_ne true hjk] at hun; exact hun
   refine wpOp_mono (fun a' w' h3 => ?_) h2
   obtain ⟨hy', hS', hW⟩ := h3
   have hTl : Till M C (listed.setIfInBounds j true) w' := fun hm => hS' (fun m hmM => by
    have hne : i ≠ m := fun e => hiM (by rw [e]; exact hmM)
    rw [Array.setIfInBounds_comm _ _ (Ne.symm hji), getD_set_ne false hne]
    exact hm m hmM)
   refine ⟨hTl, ih (listed.setIfInBounds j true) a' w' hfree' (ready_mono hr (Ne.symm hji)) (hcl.next hj) hy' hTl ?_⟩
   rw [Array.setIfInBounds_comm _ _ hji]
   exact hW
theorem gg_start {id : Nat} (M : List Nat) (C : World → Prop) (hm : P.follows .mixedOrders = true) (hC : C w.drew) (h : LClosed .any ops (Array.replicate ops.size false) → Till M C (Array.replicate ops.size false) w.drew → wpAnyG P .any ops Q (Till M C) ops.size (Array.replicate ops.size false) a w.drew) : (Code.region id ops true).wp P Q a w :=
 wp_region_any hm (wpAny_of_G _ _ _ _ (h LClosed.none (fun _ => hC)))
theorem ggT (i : Nat) {oi : Oper} {v : Value} {a' : Act} (hcl : LClosed md ops listed) (hS : Till M C listed w)
  (h : LClosed md ops (listed.setIfInBounds i true) → Till M C (listed.setIfInBounds i true) w → wpAnyG P md ops Q (Till M C) fuel (listed.setIfInBounds i true) a' w) (hi : ops.toList[i]? = some oi := by rfl)
  (hc : (Region.noSelect ops && Region.free md ops listed i && (Region.ready md ops listed).contains i && !M.contains i) = true := by kernel_rfl)
  (hQ : ∀ c a w, Q (.panic c) (a.put oi.dst v) w → Q (.panic c) a w := by exact fun _ _ _ h => h) (hw : Region.wanted oi (yielded ops a.tmps) = true := by rfl)
  (hy : ∀ w : World, (execOp a.eval oi).run P w = .ok (.value v) w := by intro w; go_simp; (try with_reducible rfl))
  (ha : a.put oi.dst v = a' := by (try simp only [Act.put, pA, pB, pC]); (try rfl)) : wpAnyG P md ops Q (Till M C) (fuel + 1) listed a w := by
 simp only [Bool.and_eq_true, Bool.not_eq_true'] at hc
 have hr : i ∈ Region.ready md ops listed := by simpa using hc.1.2
 exact wpAnyG_first (D := fun _ => True) (get_toList hi) (Region.noSelect_spec hc.1.1.1) hQ (fun _ _ _ _ _ => trivial) (by simpa using hc.2) fuel listed a w (Region.free_spec (get_toList hi) hc.1.1.2) hr hcl (.inl ⟨hw, fun w _ => hy w⟩) hS (ha ▸ h (hcl.next hr) (hS.more i))
theorem ggL (i : Nat) {oi : Oper} {v : Value} {a' : Act} {D : World → Prop} (hcl : LClosed md ops listed) (hS : Till M C listed w) (hCD : Hid (∀ w, C w → D w))
  (h : LClosed md ops (listed.setIfInBounds i true) → Till M C (listed.setIfInBounds i true) w → wpAnyG P md ops Q (Till M C) fuel (listed.setIfInBounds i true) a' w) (hi : ops.toList[i]? = some oi := by rfl)
  (hc : (Region.noSelect ops && Region.free md ops listed i && (Region.ready md ops listed).contains i && M.all (fun m => waits md ops ops.size m i) && !M.contains i) = true := by kernel_rfl)
  (hQ : ∀ c a w, Q (.panic c) (a.put oi.dst v) w → Q (.panic c) a w := by exact fun _ _ _ h => h) (hw : Region.wanted oi (yielded ops a.tmps) = true := by rfl)
  (hy : ∀ w : World, D w → (execOp a.eval oi).run P w = .ok (.value v) w := by intro w hSw; (try unfold Know at hSw); go_simp; (try with_reducible rfl))
  (ha : a.put oi.dst v = a' := by (try simp only [Act.put, pA, pB, pC]); (try rfl)) : wpAnyG P md ops Q (Till M C) (fuel + 1) listed a w := by
 simp only [Bool.and_eq_true, List.all_eq_true, Bool.not_eq_true'] at hc
 have hr : i ∈ Region.ready md ops listed := by simpa using hc.1.1.2
 exact wpAnyG_first (D := D) (get_toList hi) (Region.noSelect_spec hc.1.1.1.1) hQ (fun l w h1 h2 h3 => hCD.out w (h3.now h1 h2 hc.1.2)) (by simpa using hc.2) fuel listed a w (Region.free_spec (get_toList hi) hc.1.1.1.2) hr hcl (.inl ⟨hw, hy⟩) hS (ha ▸ h (hcl.next hr) (hS.more i))
theorem ggC (i : Nat) {oi : Oper} (hcl : LClosed md ops listed) (hi : ops.toList[i]? = some oi) (hr : Region.ready md ops listed = [i])
  (h : ∀ K' : Act → World → Prop, Shut (∀ a w, Till M C (listed.setIfInBounds i true) w → (LClosed md ops (listed.setIfInBounds i true) → Till M C (listed.setIfInBounds i true) w → wpAnyG P md ops Q (Till M C) fuel (listed.setIfInBounds i true) a w) → K' a w) → if Region.wanted oi (yielded ops a.tmps) = true then Oper.wp P oi a w K' Q else K' (a.put oi.dst undef) w) :
  wpAnyG P md ops Q (Till M C) (fuel + 1) listed a w := by
 refine ⟨fun h0 => (by rw [hr] at h0; cases h0), fun j hj => ?_⟩
 have hji : j = i := by rw [hr] at hj; simpa using hj
 subst hji
 exact wpOp_step (get_toList hi) (fun K' hK => h K' (fun a w hS hW => hK a w ⟨hS, hW (hcl.next hj) hS⟩))
theorem ggEnd {a : Act} (hr : Region.ready md ops listed = []) (h : Q .normal a w) : ∀ fuel, wpAnyG P md ops Q (Till M C) fuel listed a w
 | 0 => ⟨hr, h⟩
 | _ + 1 => ⟨fun _ => h, by rw [hr]; simp⟩
theorem Till.done {m : Nat} (hm : m ∈ M) (h : listed.getD m false = true) : Till M C listed w := fun hall => by rw [hall m hm] at h; cases h
end
end Go.Proofs.YtphmpimgbmedbaaGreat
