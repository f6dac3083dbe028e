/- Several texts in one. -/
import Derived.Test.YtphmpimgbmedbaaGreatVae
import Derived.Test.YtphmpimgbmedbaaGreatVag
import Derived.Test.YtphmpimgbmedbaaGreatVaa
import Derived.Test.YtphmpimgbmedbaaGreatVac
import Derived.Test.YtphmpimgbmedbaaGreatRows
import Derived.Test.YtphmpimgbmedbaaGreatVaf
import Derived.Test.YtphmpimgbmedbaaGreatVal
import Derived.Deep.DeepCutAuto
namespace Go.Proofs.YtphmpimgbmedbaaGreat
open Go.RowKit
open Go.Lib (hid)
structure WRes where
 code : Int
 world : Wld
def zShp : Shp := ⟨0, 0, 0, 0, 0, 0, 0, 0, 0⟩
def zWld : Wld := ⟨zShp, [], [], [], 0, 0, false⟩
def wrsL : Lay WRes := (intL.pair wldL).via (fun x => (x.code, x.world))
theorem wrsL_iff {w : World} {cs : List Value} {x : WRes} {fp : List Nat} : wrsL.rep w cs x fp ↔ ∃ c, cs = .int .i64 x.code :: c ∧ i64ok x.code ∧ wldL.rep w c x.world fp := by
 constructor
 ·rintro ⟨_, c, _, f, rfl, rfl, ⟨rfl, h1, rfl⟩, h2⟩
  exact ⟨c, rfl, h1, h2⟩
 ·rintro ⟨c, rfl, h1, h2⟩
  exact ⟨[_], c, [], fp, rfl, rfl, ⟨rfl, h1, rfl⟩, h2⟩
/-! ### how much there is of it -/
section
variable {α : Type} {f : α → Int}
theorem sumI_set_le (hf : ∀ x, 0 ≤ f x) : ∀ (xs : List α) (i : Nat) (y : α), sumI f (xs.set i y) ≤ sumI f xs + f y
 | [], i, y => by have := hf y; simp [sumI]; omega
 | x :: xs, 0, y => by have := hf x; simp only [List.set_cons_zero, sumI]; omega
 | x :: xs, i + 1, y => by have := sumI_set_le hf xs i y; simp only [List.set_cons_succ, sumI]; omega
theorem sumI_filter_le (hf : ∀ x, 0 ≤ f x) (p : α → Bool) : ∀ (xs : List α), sumI f (xs.filter p) ≤ sumI f xs
 | [] => Int.le_refl _
 | x :: xs => by
  have := sumI_filter_le hf p xs
  have := hf x
  rw [List.filter_cons]
  split
  ·simp only [sumI]; omega
  ·simp only [sumI]; omega
theorem sumI_getD_le (hf : ∀ x, 0 ≤ f x) (xs : List α) (i : Nat) (d : α) : f (xs.getD i d) ≤ sumI f xs + f d := by
 have h1 := sumI_nonneg hf xs
 have h2 := hf d
 rw [List.getD_eq_getElem?_getD]
 cases h : xs[i]? with
 | none => show f d ≤ _; omega
 | some x => have := sumI_mem hf (List.mem_of_getElem? h); show f x ≤ _; omega
end
theorem cntZ : cntWld zWld = 0 := rfl
end Go.Proofs.YtphmpimgbmedbaaGreat
namespace Go.Proofs.YtphmpimgbmedbaaGreat
open Go.RowKit
open Go.Lib (hid)
set_option maxRecDepth 100000 in
set_option maxHeartbeats 1000000 in
theorem heldBlockS_any (a : Option Addr) (la ca : Nat) (xs : List Blk) (f : List Nat) (k : Int) (w : World) (ha : blkL.sl w a la ca (markL cntBlk mkBlk xs k) f) (hk : 0 ≤ k) (hk2 : k + sumI cntBlk xs ≤ 4611686018427387904) :
  Calls Tryz.prog 268 #[.slice a la ca, .int .i64 k] w fun e w' => e = .returned (.int .i64 (k + sumI cntBlk xs)) ∧ Chg [] w w' := by
 have hm := blkL.sl_max ha
 have hl := hid (show la = xs.length by rw [ha.1, markL_length])
 have HA := hid ha
 have HK := hid hk2
 clear ha hk2
 go_enter Tryz.func268, Tryz.ntmps268
 go_wp2_with fail
 go_loopw [1, 5] (fun u v wr => ∃ (i : Nat) (z : Int) (Wr : World), Wr = wr ∧ i ≤ la ∧ u = .int .i64 z ∧ Hid (z = k + sumI cntBlk (xs.take i)) ∧ v = .int .i64 i ∧ Chg [] w wr) (fun _ v _ => la - (intOf v).toNat)
 case atStart => exact ⟨0, k, _, rfl, by omega, rfl, by show k = k + 0; omega, rfl, Chg.refl _ _⟩
 case round =>
  obtain ⟨i, z, wr, rfl, hi, rfl, HZ, rfl, hc⟩ := hrel
  have HC := hid hc
  by_cases hlt : i < la
  ·obtain ⟨y, b, off, A, ly, C, fy, HY, rfl, hc0, hc1, HYS⟩ := block_at (blkL.sl_ext HA.out hc) hlt
   have hlb : b < wr.heap.size := Lay.sl_lt _ (blkL.sl_ext HA.out hc) _ HY.out.2.1
   obtain ⟨x, hx, hy⟩ := markL_at HY.out.1
   have HX := hid hx
   rw [← HZ.out] at hy
   subst hy
   have hz0 : 0 ≤ z := by rw [HZ.out]; have := sumI_nonneg cntBlk_nonneg (xs.take i); omega
   have hz1 : z + cntBlk x ≤ 4611686018427387904 := by
    have h1 := sumI_at cntBlk_nonneg hx
    rw [HZ.out]; have := HK.out; omega
   have hcx : cntBlk x = 1 + totBs x.bytes := rfl
   have hin : 0 ≤ totBs x.bytes := totBs_nonneg _
   obtain ⟨a1, l1, c1, f1, ex, -, h1, -⟩ := blkL_iff.1 HYS.out
   obtain ⟨e1, e2, e3⟩ := Value.slice.inj (List.cons.inj (List.cons.inj ex).2).1
   subst e1 e2 e3
   replace h1 : byteL.sl wr A ly C (markBL (z + 1) x.bytes.length) f1 := h1
   have HLY := hid (show (ly : Int) = ly from rfl)
   have hly : ly = x.bytes.length := by rw [h1.1, markBL_length]
   have ht : totBs x.bytes = (ly : Int) := by unfold totBs; rw [hly]
   have HI := hid (show Calls Tryz.prog 176 #[.slice A ly C, .int .i64 (z + 1)] wr (fun e w' => e = .returned (.int .i64 (z + 1 + totBs x.bytes)) ∧ Chg [] wr w') by rw [ht]; exact heldB_any A ly C f1 (z + 1) wr (by have h9 := h1; rw [← hly] at h9; exact h9) (by omega) (by omega))
   have HZ2 := hid (show z + 1 + totBs x.bytes = k + sumI cntBlk (xs.take (i + 1)) by rw [sumI_take hx, HZ.out, hcx]; omega)
   have hc0' : wr.cell? ⟨b, off + i * 2, none⟩ = some (.int .i64 z) := hc0
   have hzz : ((z : Int) != z) = false := by simp
   have hz2 : z + 1 ≤ 4611686018427387904 := by omega
   obtain ⟨q, hq⟩ : ∃ q, q = totBs x.bytes := ⟨_, rfl⟩
   rw [← hq] at HI HZ2 hin hcx
   have hzn : ¬ (z + 1 + q < 0) := by omega
   clear hly ht
   clear hc hx hz1 hcx hc0 h1 ex HYS HY hq HX
   go_wp2_with fail
   refine HI.out.mono ?_; rintro e w1 ⟨rfl, hcN⟩
   have HC1 := hid (HC.out.trans0 hcN); clear hcN
   go_wp2_with fail
   go_roundw
   case rel => exact ⟨i + 1, z + 1 + q, _, rfl, by omega, rfl, HZ2, by go_num, HC1.out⟩
   case measure => simp [intOf]; omega
  ·obtain rfl : i = la := by omega
   have HR := hid (show z = k + sumI cntBlk xs by rw [HZ.out, List.take_of_length_le (by have := hl.out; omega)])
   clear hc
   go_wp2_with fail
   go_ret
   exact ⟨ret_int HR.out, HC.out⟩
set_option maxRecDepth 100000 in
set_option maxHeartbeats 1000000 in
theorem heldDriveS_any (a : Option Addr) (la ca : Nat) (xs : List Drv) (f : List Nat) (k : Int) (w : World) (ha : drvL.sl w a la ca (markL cntDrv mkDrv xs k) f) (hk : 0 ≤ k) (hk2 : k + sumI cntDrv xs ≤ 4611686018427387904) :
  Calls Tryz.prog 233 #[.slice a la ca, .int .i64 k] w fun e w' => e = .returned (.int .i64 (k + sumI cntDrv xs)) ∧ Chg [] w w' := by
 have hm := drvL.sl_max ha
 have hl := hid (show la = xs.length by rw [ha.1, markL_length])
 have HA := hid ha
 have HK := hid hk2
 clear ha hk2
 go_enter Tryz.func233, Tryz.ntmps233
 go_wp2_with fail
 go_loopw [1, 5] (fun u v wr => ∃ (i : Nat) (z : Int) (Wr : World), Wr = wr ∧ i ≤ la ∧ u = .int .i64 z ∧ Hid (z = k + sumI cntDrv (xs.take i)) ∧ v = .int .i64 i ∧ Chg [] w wr) (fun _ v _ => la - (intOf v).toNat)
 case atStart => exact ⟨0, k, _, rfl, by omega, rfl, by show k = k + 0; omega, rfl, Chg.refl _ _⟩
 case round =>
  obtain ⟨i, z, wr, rfl, hi, rfl, HZ, rfl, hc⟩ := hrel
  have HC := hid hc
  by_cases hlt : i < la
  ·obtain ⟨y, b, off, A, ly, C, fy, HY, rfl, hc0, hc1, HYS⟩ := drive_at (drvL.sl_ext HA.out hc) hlt
   have hlb : b < wr.heap.size := Lay.sl_lt _ (drvL.sl_ext HA.out hc) _ HY.out.2.1
   obtain ⟨x, hx, hy⟩ := markL_at HY.out.1
   have HX := hid hx
   rw [← HZ.out] at hy
   subst hy
   have hz0 : 0 ≤ z := by rw [HZ.out]; have := sumI_nonneg cntDrv_nonneg (xs.take i); omega
   have hz1 : z + cntDrv x ≤ 4611686018427387904 := by
    have h1 := sumI_at cntDrv_nonneg hx
    rw [HZ.out]; have := HK.out; omega
   have hcx : cntDrv x = 1 + sumI cntBlk x.blocks := rfl
   have hin : 0 ≤ sumI cntBlk x.blocks := sumI_nonneg cntBlk_nonneg _
   obtain ⟨a1, l1, c1, f1, ex, h1, -⟩ := drvL_iff.1 HYS.out
   obtain ⟨e1, e2, e3⟩ := Value.slice.inj (List.cons.inj (List.cons.inj ex).2).1
   subst e1 e2 e3
   replace h1 : blkL.sl wr A ly C (markL cntBlk mkBlk x.blocks (z + 1)) f1 := h1
   have HLY := hid (show (ly : Int) = ly from rfl)
   skip
   have HI := hid (heldBlockS_any A ly C x.blocks f1 (z + 1) wr h1 (by omega) (by omega))
   have HZ2 := hid (show z + 1 + sumI cntBlk x.blocks = k + sumI cntDrv (xs.take (i + 1)) by rw [sumI_take hx, HZ.out, hcx]; omega)
   have hc0' : wr.cell? ⟨b, off + i * 2, none⟩ = some (.bool (z % 3 == 0)) := hc0
   have hzz : ((z % 3 == 0) != (z % 3 == 0)) = false := by simp
   have hz2 : z + 1 ≤ 4611686018427387904 := by omega
   obtain ⟨q, hq⟩ : ∃ q, q = sumI cntBlk x.blocks := ⟨_, rfl⟩
   rw [← hq] at HI HZ2 hin hcx
   have hzn : ¬ (z + 1 + q < 0) := by omega
   skip
   clear hc hx hz1 hcx hc0 h1 ex HYS HY hq HX
   go_wp2_with fail
   refine HI.out.mono ?_; rintro e w1 ⟨rfl, hcN⟩
   have HC1 := hid (HC.out.trans0 hcN); clear hcN
   go_wp2_with fail
   go_roundw
   case rel => exact ⟨i + 1, z + 1 + q, _, rfl, by omega, rfl, HZ2, by go_num, HC1.out⟩
   case measure => simp [intOf]; omega
  ·obtain rfl : i = la := by omega
   have HR := hid (show z = k + sumI cntDrv xs by rw [HZ.out, List.take_of_length_le (by have := hl.out; omega)])
   clear hc
   go_wp2_with fail
   go_ret
   exact ⟨ret_int HR.out, HC.out⟩
set_option maxRecDepth 100000 in
set_option maxHeartbeats 1000000 in
theorem heldDriveSS_any (a : Option Addr) (la ca : Nat) (xs : List (List Drv)) (f : List Nat) (k : Int) (w : World) (ha : drvL.slice.sl w a la ca (markL cntDrvs mkDrvs xs k) f) (hk : 0 ≤ k) (hk2 : k + sumI cntDrvs xs ≤ 4611686018427387904) :
  Calls Tryz.prog 163 #[.slice a la ca, .int .i64 k] w fun e w' => e = .returned (.int .i64 (k + sumI cntDrvs xs)) ∧ Chg [] w w' := by
 have hm := drvL.slice.sl_max ha
 have hl := hid (show la = xs.length by rw [ha.1, markL_length])
 have HA := hid ha
 have HK := hid hk2
 clear ha hk2
 go_enter Tryz.func163, Tryz.ntmps163
 go_wp2_with fail
 go_loopw [1, 5] (fun u v wr => ∃ (i : Nat) (z : Int) (Wr : World), Wr = wr ∧ i ≤ la ∧ u = .int .i64 z ∧ Hid (z = k + sumI cntDrvs (xs.take i)) ∧ v = .int .i64 i ∧ Chg [] w wr) (fun _ v _ => la - (intOf v).toNat)
 case atStart => exact ⟨0, k, _, rfl, by omega, rfl, by show k = k + 0; omega, rfl, Chg.refl _ _⟩
 case round =>
  obtain ⟨i, z, wr, rfl, hi, rfl, HZ, rfl, hc⟩ := hrel
  have HC := hid hc
  by_cases hlt : i < la
  ·obtain ⟨y, b, o, A, ly, C, fy, HY, rfl, hcx, HYS⟩ := slc_at (drvL.slice.sl_ext HA.out hc) hlt
   obtain ⟨x, hx, hy⟩ := markL_at HY.out.1
   have HX := hid hx
   rw [← HZ.out] at hy
   subst hy
   have hz0 : 0 ≤ z := by rw [HZ.out]; have := sumI_nonneg cntDrvs_nonneg (xs.take i); omega
   have hz1 : z + sumI cntDrv x ≤ 4611686018427387904 := by
    have h1 := sumI_at cntDrvs_nonneg hx
    have h2 : cntDrvs x = sumI cntDrv x := rfl
    rw [HZ.out]; have := HK.out; omega
   have hin : 0 ≤ sumI cntDrv x := sumI_nonneg cntDrv_nonneg _
   have HE := hid (heldDriveS_any A ly C x fy z wr HYS.out hz0 hz1)
   have HZ2 := hid (show z + sumI cntDrv x = k + sumI cntDrvs (xs.take (i + 1)) by rw [sumI_take hx, HZ.out]; show _ + sumI cntDrv x = k + (_ + sumI cntDrv x); omega)
   obtain ⟨q, hq⟩ : ∃ q, q = sumI cntDrv x := ⟨_, rfl⟩
   rw [← hq] at HE HZ2 hin hz1
   have hzn : ¬ (z + q < 0) := by omega
   clear hc hx hq HX HY HYS
   go_wp2_with fail
   refine HE.out.mono ?_; rintro e w1 ⟨rfl, hc1⟩
   have HC1 := hid (HC.out.trans0 hc1); clear hc1
   go_wp2_with fail
   go_roundw
   case rel => exact ⟨i + 1, z + q, _, rfl, by omega, rfl, HZ2, by go_num, HC1.out⟩
   case measure => simp [intOf]; omega
  ·obtain rfl : i = la := by omega
   have HR := hid (show z = k + sumI cntDrvs xs by rw [HZ.out, List.take_of_length_le (by have := hl.out; omega)])
   clear hc
   go_wp2_with fail
   go_ret
   exact ⟨ret_int HR.out, HC.out⟩
set_option maxRecDepth 100000 in
set_option maxHeartbeats 2000000 in
theorem heldRecS_any (a : Option Addr) (la ca : Nat) (xs : List Rec) (f : List Nat) (k : Int) (w : World) (ha : recL.sl w a la ca (markL cntRec mkRec xs k) f) (hk : 0 ≤ k) (hk2 : k + sumI cntRec xs ≤ 4611686018427387904) :
  Calls Tryz.prog 97 #[.slice a la ca, .int .i64 k] w fun e w' => e = .returned (.int .i64 (k + sumI cntRec xs)) ∧ Chg [] w w' := by
 have hm := recL.sl_max ha
 have hl := hid (show la = xs.length by rw [ha.1, markL_length])
 have HA := hid ha
 have HK := hid hk2
 clear ha hk2
 go_enter Tryz.func97, Tryz.ntmps97
 go_wp2_with fail
 go_loopw [1, 5] (fun u v wr => ∃ (i : Nat) (z : Int) (Wr : World), Wr = wr ∧ i ≤ la ∧ u = .int .i64 z ∧ Hid (z = k + sumI cntRec (xs.take i)) ∧ v = .int .i64 i ∧ Chg [] w wr) (fun _ v _ => la - (intOf v).toNat)
 case atStart => exact ⟨0, k, _, rfl, by omega, rfl, by show k = k + 0; omega, rfl, Chg.refl _ _⟩
 case round =>
  obtain ⟨i, z, wr, rfl, hi, rfl, HZ, rfl, hc⟩ := hrel
  have HC := hid hc
  by_cases hlt : i < la
  ·obtain ⟨y, b, off, a6, l6, c6, a7, l7, c7, a8, l8, c8, fy, HY, rfl, hc0, hc1, hc2, hc3, hc4, hc5, hc6, hc7, hc8, HYS⟩ := rec_at (recL.sl_ext HA.out hc) hlt
   have hlb : b < wr.heap.size := Lay.sl_lt _ (recL.sl_ext HA.out hc) _ HY.out.2.1
   obtain ⟨x, hx, hy⟩ := markL_at HY.out.1
   rw [← HZ.out] at hy
   subst hy
   have hz0 : 0 ≤ z := by rw [HZ.out]; have := sumI_nonneg cntRec_nonneg (xs.take i); omega
   have hz1 : z + cntRec x ≤ 4611686018427387904 := by
    have h1 := sumI_at cntRec_nonneg hx
    rw [HZ.out]; have := HK.out; omega
   have hcx : cntRec x = 6 + totIs x.rows + totBs x.data + totBs x.delta := rfl
   obtain ⟨a6', l6', c6', f6, a7', l7', c7', f7, a8', l8', c8', f8, ex, -, -, -, -, -, -, h6, h7, h8, -⟩ := recL_iff.1 HYS.out
   simp only [List.cons.injEq, Value.slice.injEq, and_true, true_and] at ex
   obtain ⟨⟨rfl, rfl, rfl⟩, ⟨rfl, rfl, rfl⟩, rfl, rfl, rfl⟩ := ex
   replace h6 : intL.sl wr a6 l6 c6 (markIL (z + 6) x.rows.length) f6 := h6
   replace h7 : byteL.sl wr a7 l7 c7 (markBL (z + 6 + totIs x.rows) x.data.length) f7 := h7
   replace h8 : byteL.sl wr a8 l8 c8 (markBL (z + 6 + totIs x.rows + totBs x.data) x.delta.length) f8 := h8
   have hL6 : l6 = x.rows.length := by rw [h6.1, markIL_length]
   have hL7 : l7 = x.data.length := by rw [h7.1, markBL_length]
   have hL8 : l8 = x.delta.length := by rw [h8.1, markBL_length]
   have t6 : totIs x.rows = (l6 : Int) := by unfold totIs; rw [hL6]
   have t7 : totBs x.data = (l7 : Int) := by unfold totBs; rw [hL7]
   have t8 : totBs x.delta = (l8 : Int) := by unfold totBs; rw [hL8]
   rw [← hL6] at h6; rw [t6, ← hL7] at h7; rw [t6, t7, ← hL8] at h8
   have HZ2 := hid (show z + 1 + 1 + 1 + 1 + 1 + 1 + (l6 : Int) + l7 + l8 = k + sumI cntRec (xs.take (i + 1)) by rw [sumI_take hx, HZ.out, hcx, t6, t7, t8]; omega)
   have hz2 : z + 6 + l6 + l7 + l8 ≤ 4611686018427387904 := by omega
   have H6 := hid h6; have H7 := hid h7; have H8 := hid h8
   have hd0 : wr.cell? ⟨b, off + i * 9, none⟩ = some (.int .i64 z) := hc0
   have hd1 : wr.cell? ⟨b, off + i * 9 + 1, none⟩ = some (.int .i64 (z + 1)) := hc1
   have hd2 : wr.cell? ⟨b, off + i * 9 + 2, none⟩ = some (.string (mtext (z + 2))) := hc2
   have hd3 : wr.cell? ⟨b, off + i * 9 + 3, none⟩ = some (.int .i64 (z + 3)) := hc3
   have hd4 : wr.cell? ⟨b, off + i * 9 + 4, none⟩ = some (.int .i64 (z + 4)) := hc4
   have hd5 : wr.cell? ⟨b, off + i * 9 + 5, none⟩ = some (.int .i64 (z + 5)) := hc5
   have HD2 := hid hd2
   have HD := hid (And.intro hd3 (And.intro hd4 (And.intro hd5 (And.intro hc6 (And.intro hc7 hc8)))))
   have n0 : ((z : Int) != z) = false := by simp
   have n1 : ((z + 1 : Int) != z + 1) = false := by simp
   have n3 : ((z + 3 : Int) != z + 1 + 1 + 1) = false := by rw [bne_eq_false_iff_eq]; omega
   have n4 : ((z + 4 : Int) != z + 1 + 1 + 1 + 1) = false := by rw [bne_eq_false_iff_eq]; omega
   have n5 : ((z + 5 : Int) != z + 1 + 1 + 1 + 1 + 1) = false := by rw [bne_eq_false_iff_eq]; omega
   have HT := hid (show mtext (z + 2) = mtext (z + 1 + 1) by rw [show z + 2 = z + 1 + 1 by omega])
   have hbz6 : 0 ≤ z + 1 + 1 + 1 + 1 + 1 + 1 := by omega
   clear hc hx hz1 hcx h6 h7 h8 HYS HY hc0 hc1 hc2 hc3 hc4 hc5 hd3 hd4 hd5 hc6 hc7 hc8 t6 t7 t8 hL6 hL7 hL8
   go_wp2_with fail
   obtain ⟨SS1, HSI1, HSO1⟩ := rg_cond (fun w' => w'.cell? ⟨b, off + i * 9 + 2, none⟩ = some (.string (mtext (z + 1 + 1))))
   have hS0 := HSI1.out wr.drew (by rw [← HT.out]; exact HD2.out)
   refine rg_start SS1 (by kernel_rfl) hS0 ?_
   refine rgT 0 hS0 ?_
   refine rgT 1 hS0 ?_
   refine rgT 2 hS0 ?_
   refine rgT 3 hS0 ?_
   refine rgL 4 hS0 HSO1 ?_
   refine rgT 5 hS0 ?_
   refine rg_call 6 rfl (by kernel_rfl) (fun K hK => ?_)
   go_simp
   go_at_call 174
   refine (markText_any (z + 1 + 1) (by omega) (by omega) _).mono ?_; rintro e w3 ⟨rfl, hc3⟩
   have HC3 := hid ((Chg.refl [] wr).drew.trans0 hc3); clear hc3
   go_wp2_with fail
   refine hK.out _ _ (HSI1.out _ (by rw [← HT.out]; exact cellKeep HC3.out HD2.out hlb)) (fun hS1 => ?_)
   clear hK K
   try simp only [Act.put, pA, pB, pC]
   refine rgT 7 hS1 ?_
   refine wpAnyH_done (by kernel_rfl) ?_ _
   have hr3 := cellKeep HC3.out HD.out.1 hlb
   have hr4 := cellKeep HC3.out HD.out.2.1 hlb
   have hr5 := cellKeep HC3.out HD.out.2.2.1 hlb
   have hr6 := cellKeep HC3.out HD.out.2.2.2.1 hlb
   have HR78 := hid (And.intro (cellKeep HC3.out HD.out.2.2.2.2.1 hlb) (cellKeep HC3.out HD.out.2.2.2.2.2 hlb))
   have hlb3 := Nat.lt_of_lt_of_le hlb HC3.out.size
   have hne : ((mtext (z + 1 + 1)).toList != (mtext (z + 1 + 1)).toList) = false := by simp
   have HI6 := hid (heldI_any a6 l6 c6 f6 (z + 1 + 1 + 1 + 1 + 1 + 1) w3 (by rw [show z + 1 + 1 + 1 + 1 + 1 + 1 = z + 6 by omega]; exact intL.sl_ext H6.out HC3.out) (by omega) (by omega))
   have hn6 : ¬ (z + 1 + 1 + 1 + 1 + 1 + 1 + (l6 : Int) < 0) := by omega
   have hn7 : ¬ (z + 1 + 1 + 1 + 1 + 1 + 1 + (l6 : Int) + l7 < 0) := by omega
   have hn8 : ¬ (z + 1 + 1 + 1 + 1 + 1 + 1 + (l6 : Int) + l7 + l8 < 0) := by omega
   clear hd0 hd1 hd2
   go_wp2_with fail
   refine HI6.out.mono ?_; rintro e w4 ⟨rfl, hc4⟩
   have hr7 := cellKeep hc4 HR78.out.1 hlb3
   have HR8 := hid (cellKeep hc4 HR78.out.2 hlb3)
   have hlb4 := Nat.lt_of_lt_of_le hlb3 hc4.size
   have HC4 := hid (HC3.out.trans0 hc4); clear hc4 hr3 hr4 hr5 hr6
   have HI7 := hid (heldB_any a7 l7 c7 f7 (z + 1 + 1 + 1 + 1 + 1 + 1 + l6) w4 (by rw [show z + 1 + 1 + 1 + 1 + 1 + 1 + (l6 : Int) = z + 6 + l6 by omega]; exact byteL.sl_ext H7.out HC4.out) (by omega) (by omega))
   go_wp2_with fail
   refine HI7.out.mono ?_; rintro e w5 ⟨rfl, hc5⟩
   have hr8 := cellKeep hc5 HR8.out hlb4
   have hlb5 := Nat.lt_of_lt_of_le hlb4 hc5.size
   have HC5 := hid (HC4.out.trans0 hc5); clear hc5 hr7
   have HI8 := hid (heldB_any a8 l8 c8 f8 (z + 1 + 1 + 1 + 1 + 1 + 1 + l6 + l7) w5 (by rw [show z + 1 + 1 + 1 + 1 + 1 + 1 + (l6 : Int) + l7 = z + 6 + l6 + l7 by omega]; exact byteL.sl_ext H8.out HC5.out) (by omega) (by omega))
   go_wp2_with fail
   refine HI8.out.mono ?_; rintro e w6 ⟨rfl, hc6⟩
   have HC6 := hid (HC.out.trans0 (HC5.out.trans0 hc6)); clear hc6 hr8
   go_wp2_with fail
   go_roundw
   case rel => exact ⟨i + 1, _, _, rfl, by omega, rfl, HZ2, by go_num, HC6.out⟩
   case measure => simp [intOf]; omega
  ·obtain rfl : i = la := by omega
   have HR := hid (show z = k + sumI cntRec xs by rw [HZ.out, List.take_of_length_le (by have := hl.out; omega)])
   clear hc
   go_wp2_with fail
   go_ret
   exact ⟨ret_int HR.out, HC.out⟩
set_option maxRecDepth 100000 in
set_option maxHeartbeats 1000000 in
theorem heldTapeS_any (a : Option Addr) (la ca : Nat) (xs : List Tap) (f : List Nat) (k : Int) (w : World) (ha : tapL.sl w a la ca (markL cntTap mkTap xs k) f) (hk : 0 ≤ k) (hk2 : k + sumI cntTap xs ≤ 4611686018427387904) :
  Calls Tryz.prog 164 #[.slice a la ca, .int .i64 k] w fun e w' => e = .returned (.int .i64 (k + sumI cntTap xs)) ∧ Chg [] w w' := by
 have hm := tapL.sl_max ha
 have hl := hid (show la = xs.length by rw [ha.1, markL_length])
 have HA := hid ha
 have HK := hid hk2
 clear ha hk2
 go_enter Tryz.func164, Tryz.ntmps164
 go_wp2_with fail
 go_loopw [1, 5] (fun u v wr => ∃ (i : Nat) (z : Int) (Wr : World), Wr = wr ∧ i ≤ la ∧ u = .int .i64 z ∧ Hid (z = k + sumI cntTap (xs.take i)) ∧ v = .int .i64 i ∧ Chg [] w wr) (fun _ v _ => la - (intOf v).toNat)
 case atStart => exact ⟨0, k, _, rfl, by omega, rfl, by show k = k + 0; omega, rfl, Chg.refl _ _⟩
 case round =>
  obtain ⟨i, z, wr, rfl, hi, rfl, HZ, rfl, hc⟩ := hrel
  have HC := hid hc
  by_cases hlt : i < la
  ·obtain ⟨y, b, off, A, ly, C, fy, HY, rfl, hc0, hc1, HYS⟩ := tape_at (tapL.sl_ext HA.out hc) hlt
   have hlb : b < wr.heap.size := Lay.sl_lt _ (tapL.sl_ext HA.out hc) _ HY.out.2.1
   obtain ⟨x, hx, hy⟩ := markL_at HY.out.1
   have HX := hid hx
   rw [← HZ.out] at hy
   subst hy
   have hz0 : 0 ≤ z := by rw [HZ.out]; have := sumI_nonneg cntTap_nonneg (xs.take i); omega
   have hz1 : z + cntTap x ≤ 4611686018427387904 := by
    have h1 := sumI_at cntTap_nonneg hx
    rw [HZ.out]; have := HK.out; omega
   have hcx : cntTap x = 1 + sumI cntRec x.recs := rfl
   have hin : 0 ≤ sumI cntRec x.recs := sumI_nonneg cntRec_nonneg _
   obtain ⟨a1, l1, c1, f1, ex, h1, -⟩ := tapL_iff.1 HYS.out
   obtain ⟨e1, e2, e3⟩ := Value.slice.inj (List.cons.inj (List.cons.inj ex).2).1
   subst e1 e2 e3
   replace h1 : recL.sl wr A ly C (markL cntRec mkRec x.recs (z + 1)) f1 := h1
   have HLY := hid (show (ly : Int) = ly from rfl)
   skip
   have HI := hid (heldRecS_any A ly C x.recs f1 (z + 1) wr h1 (by omega) (by omega))
   have HZ2 := hid (show z + 1 + sumI cntRec x.recs = k + sumI cntTap (xs.take (i + 1)) by rw [sumI_take hx, HZ.out, hcx]; omega)
   have hc0' : wr.cell? ⟨b, off + i * 2, none⟩ = some (.bool (z % 3 == 0)) := hc0
   have hzz : ((z % 3 == 0) != (z % 3 == 0)) = false := by simp
   have hz2 : z + 1 ≤ 4611686018427387904 := by omega
   obtain ⟨q, hq⟩ : ∃ q, q = sumI cntRec x.recs := ⟨_, rfl⟩
   rw [← hq] at HI HZ2 hin hcx
   have hzn : ¬ (z + 1 + q < 0) := by omega
   skip
   clear hc hx hz1 hcx hc0 h1 ex HYS HY hq HX
   go_wp2_with fail
   refine HI.out.mono ?_; rintro e w1 ⟨rfl, hcN⟩
   have HC1 := hid (HC.out.trans0 hcN); clear hcN
   go_wp2_with fail
   go_roundw
   case rel => exact ⟨i + 1, z + 1 + q, _, rfl, by omega, rfl, HZ2, by go_num, HC1.out⟩
   case measure => simp [intOf]; omega
  ·obtain rfl : i = la := by omega
   have HR := hid (show z = k + sumI cntTap xs by rw [HZ.out, List.take_of_length_le (by have := hl.out; omega)])
   clear hc
   go_wp2_with fail
   go_ret
   exact ⟨ret_int HR.out, HC.out⟩
set_option maxRecDepth 100000 in
set_option maxHeartbeats 2000000 in
theorem szWorld_any (x : Wld) (cx : Array Value) (fx : List Nat) (k : Int) (w : World) (hx : wldL.rep w cx.toList x fx) (hk : 0 ≤ k) (hk2 : k ≤ 1048576) :
    Calls Tryz.prog 15 #[.agg cx, .int .i64 k] w (SzPost (totWld x) k w) := by
  obtain ⟨a10, l10, c10, f10, a11, l11, c11, f11, a12, l12, c12, f12, ex, o1, o2, o3, o4, o5, o6, o7, o8, o9, h10, h11, h12, o13, o14, -⟩ := wldL_iff.1 hx
  clear hx
  obtain rfl := Array.toList_inj.1 (ex.trans (List.toList_toArray).symm)
  clear ex o1 o2 o3 o4 o5 o6 o7 o8 o9 o13 o14
  have H10 := hid h10; clear h10
  have H11 := hid h11; clear h11
  have H12 := hid h12; clear h12
  obtain ⟨t10, ht10⟩ : ∃ t, t = totL (totL totDrv) x.groups := ⟨_, rfl⟩
  have n10 : 0 ≤ t10 := by rw [ht10]; exact totL_nonneg (totL_nonneg totDrv_nonneg) _
  have HT10 := hid ht10
  obtain ⟨t11, ht11⟩ : ∃ t, t = totIs x.on := ⟨_, rfl⟩
  have n11 : 0 ≤ t11 := by rw [ht11]; exact totIs_nonneg _
  have HT11 := hid ht11
  obtain ⟨t12, ht12⟩ : ∃ t, t = totL totTap x.tapes := ⟨_, rfl⟩
  have n12 : 0 ≤ t12 := by rw [ht12]; exact totL_nonneg totTap_nonneg _
  have HT12 := hid ht12
  have HT := hid (show totWld x = t10 + t11 + t12 by rw [ht10, ht11, ht12]; rfl)
  clear ht10 ht11 ht12
  go_enter Tryz.func15, Tryz.ntmps15
  go_wp2_with fail
  refine (szDriveSS_any a10 l10 c10 x.groups f10 (k) _ (drvL.slice.sl_ext H10.out (by refine Chg.alloc ?_ _; exact Chg.refl _ _)) (by omega) (by omega)).mono ?_
  rintro e w1 ⟨rfl, hc⟩
  rw [← HT10.out]
  have hP := hc.keep0 (b := w.heap.size) (new_at (by simp) _)
  have cP := cellsOf hP; have lP := ltOf hP; have fP := freeOf hP; have HBP := hid hP; clear hP
  have HC1 := hid hc; clear hc
  by_cases m10 : k - t10 < 0
  · rw [if_pos m10]
    go_wp2_with fail
    go_ret
    exact ⟨ret_int (by rw [HT.out, if_pos (by omega)]), by refine Chg.trans0 ?_ HC1.out; refine Chg.alloc ?_ _; exact Chg.refl _ _⟩
  rw [if_neg m10]
  go_wp2_with fail
  refine (szInt64S_any a11 l11 c11 x.on f11 (k - t10) _ (intL.sl_ext H11.out (by refine Chg.trans0 ?_ HC1.out; refine Chg.alloc ?_ _; exact Chg.refl _ _)) (by omega) (by omega)).mono ?_
  rintro e w2 ⟨rfl, hc⟩
  rw [← HT11.out]
  have hP := hc.keep0 HBP.out
  clear HBP cP lP fP
  have cP := cellsOf hP; have lP := ltOf hP; have fP := freeOf hP; have HBP := hid hP; clear hP
  have HC2 := hid hc; clear hc
  by_cases m11 : k - t10 - t11 < 0
  · rw [if_pos m11]
    go_wp2_with fail
    go_ret
    exact ⟨ret_int (by rw [HT.out, if_pos (by omega)]), by refine Chg.trans0 ?_ HC2.out; refine Chg.trans0 ?_ HC1.out; refine Chg.alloc ?_ _; exact Chg.refl _ _⟩
  rw [if_neg m11]
  go_wp2_with fail
  refine (szTapeS_any a12 l12 c12 x.tapes f12 (k - t10 - t11) _ (tapL.sl_ext H12.out (by refine Chg.trans0 ?_ HC2.out; refine Chg.trans0 ?_ HC1.out; refine Chg.alloc ?_ _; exact Chg.refl _ _)) (by omega) (by omega)).mono ?_
  rintro e w3 ⟨rfl, hc⟩
  rw [← HT12.out]
  have hP := hc.keep0 HBP.out
  clear HBP cP lP fP
  have cP := cellsOf hP; have lP := ltOf hP; have fP := freeOf hP; have HBP := hid hP; clear hP
  have HC3 := hid hc; clear hc
  by_cases m12 : k - t10 - t11 - t12 < 0
  · rw [if_pos m12]
    go_wp2_with fail
    go_ret
    exact ⟨ret_int (by rw [HT.out, if_pos (by omega)]), by refine Chg.trans0 ?_ HC3.out; refine Chg.trans0 ?_ HC2.out; refine Chg.trans0 ?_ HC1.out; refine Chg.alloc ?_ _; exact Chg.refl _ _⟩
  rw [if_neg m12]
  go_wp2_with fail
  go_ret
  exact ⟨ret_int (by rw [HT.out, if_neg (by omega)] <;> omega), by refine Chg.trans0 ?_ HC3.out; refine Chg.trans0 ?_ HC2.out; refine Chg.trans0 ?_ HC1.out; refine Chg.alloc ?_ _; exact Chg.refl _ _⟩
theorem eqShape_any (s : Shp) (w : World) : Calls Tryz.prog 83 #[.agg #[.int .i64 s.groups, .int .i64 s.column, .int .i64 s.data, .int .i64 s.spare, .int .i64 s.rows, .int .i64 s.cap, .int .i64 s.batch, .int .i64 s.queue, .int .i64 s.stage], .agg #[.int .i64 s.groups, .int .i64 s.column, .int .i64 s.data, .int .i64 s.spare, .int .i64 s.rows, .int .i64 s.cap, .int .i64 s.batch, .int .i64 s.queue, .int .i64 s.stage]] w fun e w' => e = .returned (.bool true) ∧ Chg [] w w' := by
  have e_groups : ((s.groups : Int) != s.groups) = false := by simp
  have e_column : ((s.column : Int) != s.column) = false := by simp
  have e_data : ((s.data : Int) != s.data) = false := by simp
  have e_spare : ((s.spare : Int) != s.spare) = false := by simp
  have e_rows : ((s.rows : Int) != s.rows) = false := by simp
  have e_cap : ((s.cap : Int) != s.cap) = false := by simp
  have e_batch : ((s.batch : Int) != s.batch) = false := by simp
  have e_queue : ((s.queue : Int) != s.queue) = false := by simp
  have e_stage : ((s.stage : Int) != s.stage) = false := by simp
  go_enter Tryz.func83, Tryz.ntmps83
  go_wp2
  go_ret
  exact ⟨rfl, by repeat (first | exact Chg.refl _ _ | refine Chg.alloc ?_ _)⟩
set_option maxRecDepth 100000 in
set_option maxHeartbeats 2000000 in
theorem eqWorld_any (x : Wld) (cx cy : Array Value) (fx fy : List Nat) (w : World) (hx : wldL.rep w cx.toList x fx) (hy : wldL.rep w cy.toList x fy) :
    Calls Tryz.prog 20 #[.agg cx, .agg cy] w fun e w' => e = .returned (.bool true) ∧ Chg [] w w' := by
  obtain ⟨a10, l10, c10, f10, a11, l11, c11, f11, a12, l12, c12, f12, ex, o1, o2, o3, o4, o5, o6, o7, o8, o9, h10, h11, h12, o13, o14, -⟩ := wldL_iff.1 hx
  obtain ⟨b10, m10, d10, g10, b11, m11, d11, g11, b12, m12, d12, g12, ey, -, -, -, -, -, -, -, -, -, j10, j11, j12, -⟩ := wldL_iff.1 hy
  clear hx hy
  obtain rfl := Array.toList_inj.1 (ex.trans (List.toList_toArray).symm)
  obtain rfl := Array.toList_inj.1 (ey.trans (List.toList_toArray).symm)
  clear ex ey o1 o2 o3 o4 o5 o6 o7 o8 o9 o13 o14
  obtain rfl : l10 = m10 := h10.1.trans j10.1.symm
  have H10 := hid h10; have J10 := hid j10; clear h10 j10
  obtain rfl : l11 = m11 := h11.1.trans j11.1.symm
  have H11 := hid h11; have J11 := hid j11; clear h11 j11
  obtain rfl : l12 = m12 := h12.1.trans j12.1.symm
  have H12 := hid h12; have J12 := hid j12; clear h12 j12
  have e1 : ((x.writes : Int) != x.writes) = false := by simp
  have e2 : ((x.stop : Int) != x.stop) = false := by simp
  have e3 : (x.down != x.down) = false := by simp
  go_enter Tryz.func20, Tryz.ntmps20
  go_wp2_with fail
  refine (eqShape_any x.shape _).mono ?_
  rintro e w1 ⟨rfl, hc⟩
  have hP := hc.keep0 (b := w.heap.size) (keep_alloc (new_at (by simp) _) _)
  have hQ := hc.keep0 (b := w.heap.size + 1) (new_at (by simp) _)
  have cP := cellsOf hP; have lP := ltOf hP; have fP := freeOf hP; have HBP := hid hP; clear hP
  have cQ := cellsOf hQ; have lQ := ltOf hQ; have fQ := freeOf hQ; have HBQ := hid hQ; clear hQ
  have HC1 := hid hc; clear hc
  go_wp2_with fail
  refine (eqDriveSS_any a10 b10 l10 c10 d10 x.groups f10 g10 _ (drvL.slice.sl_ext H10.out (by refine Chg.trans0 ?_ HC1.out; refine Chg.alloc ?_ _; refine Chg.alloc ?_ _; exact Chg.refl _ _)) (drvL.slice.sl_ext J10.out (by refine Chg.trans0 ?_ HC1.out; refine Chg.alloc ?_ _; refine Chg.alloc ?_ _; exact Chg.refl _ _))).mono ?_
  rintro e w2 ⟨rfl, hc⟩
  have hP := hc.keep0 HBP.out
  have hQ := hc.keep0 HBQ.out
  clear HBP cP lP fP HBQ cQ lQ fQ
  have cP := cellsOf hP; have lP := ltOf hP; have fP := freeOf hP; have HBP := hid hP; clear hP
  have cQ := cellsOf hQ; have lQ := ltOf hQ; have fQ := freeOf hQ; have HBQ := hid hQ; clear hQ
  have HC2 := hid hc; clear hc
  go_wp2_with fail
  refine (eqI_any a11 b11 l11 c11 d11 x.on f11 g11 _ (intL.sl_ext H11.out (by refine Chg.trans0 ?_ HC2.out; refine Chg.trans0 ?_ HC1.out; refine Chg.alloc ?_ _; refine Chg.alloc ?_ _; exact Chg.refl _ _)) (intL.sl_ext J11.out (by refine Chg.trans0 ?_ HC2.out; refine Chg.trans0 ?_ HC1.out; refine Chg.alloc ?_ _; refine Chg.alloc ?_ _; exact Chg.refl _ _))).mono ?_
  rintro e w3 ⟨rfl, hc⟩
  have hP := hc.keep0 HBP.out
  have hQ := hc.keep0 HBQ.out
  clear HBP cP lP fP HBQ cQ lQ fQ
  have cP := cellsOf hP; have lP := ltOf hP; have fP := freeOf hP; have HBP := hid hP; clear hP
  have cQ := cellsOf hQ; have lQ := ltOf hQ; have fQ := freeOf hQ; have HBQ := hid hQ; clear hQ
  have HC3 := hid hc; clear hc
  go_wp2_with fail
  refine (eqTapeS_any a12 b12 l12 c12 d12 x.tapes f12 g12 _ (tapL.sl_ext H12.out (by refine Chg.trans0 ?_ HC3.out; refine Chg.trans0 ?_ HC2.out; refine Chg.trans0 ?_ HC1.out; refine Chg.alloc ?_ _; refine Chg.alloc ?_ _; exact Chg.refl _ _)) (tapL.sl_ext J12.out (by refine Chg.trans0 ?_ HC3.out; refine Chg.trans0 ?_ HC2.out; refine Chg.trans0 ?_ HC1.out; refine Chg.alloc ?_ _; refine Chg.alloc ?_ _; exact Chg.refl _ _))).mono ?_
  rintro e w4 ⟨rfl, hc⟩
  have hP := hc.keep0 HBP.out
  have hQ := hc.keep0 HBQ.out
  clear HBP cP lP fP HBQ cQ lQ fQ
  have cP := cellsOf hP; have lP := ltOf hP; have fP := freeOf hP; have HBP := hid hP; clear hP
  have cQ := cellsOf hQ; have lQ := ltOf hQ; have fQ := freeOf hQ; have HBQ := hid hQ; clear hQ
  have HC4 := hid hc; clear hc
  go_wp2_with fail
  go_ret
  exact ⟨rfl, by refine Chg.trans0 ?_ HC4.out; refine Chg.trans0 ?_ HC3.out; refine Chg.trans0 ?_ HC2.out; refine Chg.trans0 ?_ HC1.out; refine Chg.alloc ?_ _; refine Chg.alloc ?_ _; exact Chg.refl _ _⟩
theorem toShape_lit (s : Shp) (w : World) : Calls Tryz.prog 74 #[.agg #[.int .i64 s.groups, .int .i64 s.column, .int .i64 s.data, .int .i64 s.spare, .int .i64 s.rows, .int .i64 s.cap, .int .i64 s.batch, .int .i64 s.queue, .int .i64 s.stage]] w fun e w' => e = .returned (.agg #[.int .i64 s.groups, .int .i64 s.column, .int .i64 s.data, .int .i64 s.spare, .int .i64 s.rows, .int .i64 s.cap, .int .i64 s.batch, .int .i64 s.queue, .int .i64 s.stage]) ∧ Chg [] w w' := toShape_any s w
set_option maxRecDepth 100000 in
set_option maxHeartbeats 2000000 in
theorem toWorld_any (x : Wld) (cx : Array Value) (fx : List Nat) (w : World) (hx : wldL.rep w cx.toList x fx) (hz : totWld x ≤ 1048576) :
    Calls Tryz.prog 17 #[.agg cx] w (NewAgg wldL x w) := by
  obtain ⟨a10, l10, c10, f10, a11, l11, c11, f11, a12, l12, c12, f12, ex, o1, o2, o3, o4, o5, o6, o7, o8, o9, h10, h11, h12, o13, o14, -⟩ := wldL_iff.1 hx
  clear hx
  obtain rfl := Array.toList_inj.1 (ex.trans (List.toList_toArray).symm)
  clear ex
  have HO := hid (And.intro o1 (And.intro o2 (And.intro o3 (And.intro o4 (And.intro o5 (And.intro o6 (And.intro o7 (And.intro o8 (And.intro o9 (And.intro o13 o14))))))))))
  clear o1 o2 o3 o4 o5 o6 o7 o8 o9 o13 o14
  have q1 := totL_nonneg (totL_nonneg totDrv_nonneg) x.groups; have q2 := totIs_nonneg x.on; have q3 := totL_nonneg totTap_nonneg x.tapes
  unfold totWld at hz
  have z10 : totL (totL totDrv) x.groups ≤ 1048576 := by omega
  have z11 : l11 ≤ 1048576 := by have : totIs x.on ≤ 1048576 := by omega
                                 unfold totIs at this; rw [h11.1]; omega
  have z12 : totL totTap x.tapes ≤ 1048576 := by omega
  clear hz q1 q2 q3
  have H10 := hid h10; have HL10 := hid (show x.groups.length = l10 from h10.1.symm); clear h10
  have H11 := hid h11; have HL11 := hid (show x.on.length = l11 from h11.1.symm); clear h11
  have H12 := hid h12; have HL12 := hid (show x.tapes.length = l12 from h12.1.symm); clear h12
  go_enter Tryz.func17, Tryz.ntmps17
  go_wp2_with fail
  refine (toShape_lit x.shape _).mono ?_
  rintro e w1 ⟨rfl, hc⟩
  have hP := hc.keep0 (b := w.heap.size) (keep_alloc (keep_alloc (new_at (by simp) _) _) _)
  have hQ := hc.keep0 (b := w.heap.size + 1) (keep_alloc (new_at (by simp) _) _)
  have hR := hc.keep0 (b := w.heap.size + 1 + 1) (new_at (by simp) _)
  have cP := cellsOf hP; have lP := ltOf hP; have fP := freeOf hP; have HBP := hid hP; clear hP
  have cQ := cellsOf hQ; have lQ := ltOf hQ; have fQ := freeOf hQ; have HBQ := hid hQ; clear hQ
  have cR := cellsOf hR; have lR := ltOf hR; have fR := freeOf hR; have HBR := hid hR; clear hR
  have HC1 := hid hc; clear hc
  go_wp2_with fail
  refine (toDriveSS_any a10 l10 c10 x.groups f10 _ (drvL.slice.sl_ext H10.out (by refine Chg.setCell ?_ _ _ (.inr (by simp <;> omega)); refine Chg.setCell ?_ _ _ (.inr (by simp <;> omega)); refine Chg.setCell ?_ _ _ (.inr (by simp <;> omega)); refine Chg.setCell ?_ _ _ (.inr (by simp <;> omega)); refine Chg.setCell ?_ _ _ (.inr (by simp <;> omega)); refine Chg.setCell ?_ _ _ (.inr (by simp <;> omega)); refine Chg.setCell ?_ _ _ (.inr (by simp <;> omega)); refine Chg.setCell ?_ _ _ (.inr (by simp <;> omega)); refine Chg.setCell ?_ _ _ (.inr (by simp <;> omega)); refine Chg.trans0 ?_ HC1.out; refine Chg.alloc ?_ _; refine Chg.alloc ?_ _; refine Chg.alloc ?_ _; exact Chg.refl _ _)) z10).mono ?_
  rintro e w2 ⟨b10, d10, g10, rfl, hs, hf, hc⟩
  rw [HL10.out] at hs ⊢
  have HS10 := hid hs; clear hs
  have hP := hc.keep0 (keep_set (keep_set (keep_set (keep_set (keep_set (keep_set (keep_set (keep_set (keep_set HBP.out _ _ (show w.heap.size ≠ w.heap.size + 1 + 1 by omega)) _ _ (show w.heap.size ≠ w.heap.size + 1 + 1 by omega)) _ _ (show w.heap.size ≠ w.heap.size + 1 + 1 by omega)) _ _ (show w.heap.size ≠ w.heap.size + 1 + 1 by omega)) _ _ (show w.heap.size ≠ w.heap.size + 1 + 1 by omega)) _ _ (show w.heap.size ≠ w.heap.size + 1 + 1 by omega)) _ _ (show w.heap.size ≠ w.heap.size + 1 + 1 by omega)) _ _ (show w.heap.size ≠ w.heap.size + 1 + 1 by omega)) _ _ (show w.heap.size ≠ w.heap.size + 1 + 1 by omega))
  have hQ := hc.keep0 (keep_set (keep_set (keep_set (keep_set (keep_set (keep_set (keep_set (keep_set (keep_set HBQ.out _ _ (show w.heap.size + 1 ≠ w.heap.size + 1 + 1 by omega)) _ _ (show w.heap.size + 1 ≠ w.heap.size + 1 + 1 by omega)) _ _ (show w.heap.size + 1 ≠ w.heap.size + 1 + 1 by omega)) _ _ (show w.heap.size + 1 ≠ w.heap.size + 1 + 1 by omega)) _ _ (show w.heap.size + 1 ≠ w.heap.size + 1 + 1 by omega)) _ _ (show w.heap.size + 1 ≠ w.heap.size + 1 + 1 by omega)) _ _ (show w.heap.size + 1 ≠ w.heap.size + 1 + 1 by omega)) _ _ (show w.heap.size + 1 ≠ w.heap.size + 1 + 1 by omega)) _ _ (show w.heap.size + 1 ≠ w.heap.size + 1 + 1 by omega))
  have hR := hc.keep0 (b := w.heap.size + 1 + 1) (o := .cells #[.int .i64 x.shape.groups, .int .i64 x.shape.column, .int .i64 x.shape.data, .int .i64 x.shape.spare, .int .i64 x.shape.rows, .int .i64 x.shape.cap, .int .i64 x.shape.batch, .int .i64 x.shape.queue, .int .i64 x.shape.stage, .slice none 0 0, .slice none 0 0, .slice none 0 0, .int .i64 0, .int .i64 0, .bool false] 34) (by refine heap_set_lit (cur := #[.int .i64 x.shape.groups, .int .i64 x.shape.column, .int .i64 x.shape.data, .int .i64 x.shape.spare, .int .i64 x.shape.rows, .int .i64 x.shape.cap, .int .i64 x.shape.batch, .int .i64 x.shape.queue, .int .i64 0, .slice none 0 0, .slice none 0 0, .slice none 0 0, .int .i64 0, .int .i64 0, .bool false]) ?_ rfl; refine heap_set_lit (cur := #[.int .i64 x.shape.groups, .int .i64 x.shape.column, .int .i64 x.shape.data, .int .i64 x.shape.spare, .int .i64 x.shape.rows, .int .i64 x.shape.cap, .int .i64 x.shape.batch, .int .i64 0, .int .i64 0, .slice none 0 0, .slice none 0 0, .slice none 0 0, .int .i64 0, .int .i64 0, .bool false]) ?_ rfl; refine heap_set_lit (cur := #[.int .i64 x.shape.groups, .int .i64 x.shape.column, .int .i64 x.shape.data, .int .i64 x.shape.spare, .int .i64 x.shape.rows, .int .i64 x.shape.cap, .int .i64 0, .int .i64 0, .int .i64 0, .slice none 0 0, .slice none 0 0, .slice none 0 0, .int .i64 0, .int .i64 0, .bool false]) ?_ rfl; refine heap_set_lit (cur := #[.int .i64 x.shape.groups, .int .i64 x.shape.column, .int .i64 x.shape.data, .int .i64 x.shape.spare, .int .i64 x.shape.rows, .int .i64 0, .int .i64 0, .int .i64 0, .int .i64 0, .slice none 0 0, .slice none 0 0, .slice none 0 0, .int .i64 0, .int .i64 0, .bool false]) ?_ rfl; refine heap_set_lit (cur := #[.int .i64 x.shape.groups, .int .i64 x.shape.column, .int .i64 x.shape.data, .int .i64 x.shape.spare, .int .i64 0, .int .i64 0, .int .i64 0, .int .i64 0, .int .i64 0, .slice none 0 0, .slice none 0 0, .slice none 0 0, .int .i64 0, .int .i64 0, .bool false]) ?_ rfl; refine heap_set_lit (cur := #[.int .i64 x.shape.groups, .int .i64 x.shape.column, .int .i64 x.shape.data, .int .i64 0, .int .i64 0, .int .i64 0, .int .i64 0, .int .i64 0, .int .i64 0, .slice none 0 0, .slice none 0 0, .slice none 0 0, .int .i64 0, .int .i64 0, .bool false]) ?_ rfl; refine heap_set_lit (cur := #[.int .i64 x.shape.groups, .int .i64 x.shape.column, .int .i64 0, .int .i64 0, .int .i64 0, .int .i64 0, .int .i64 0, .int .i64 0, .int .i64 0, .slice none 0 0, .slice none 0 0, .slice none 0 0, .int .i64 0, .int .i64 0, .bool false]) ?_ rfl; refine heap_set_lit (cur := #[.int .i64 x.shape.groups, .int .i64 0, .int .i64 0, .int .i64 0, .int .i64 0, .int .i64 0, .int .i64 0, .int .i64 0, .int .i64 0, .slice none 0 0, .slice none 0 0, .slice none 0 0, .int .i64 0, .int .i64 0, .bool false]) ?_ rfl; refine heap_set_lit (cur := #[.int .i64 0, .int .i64 0, .int .i64 0, .int .i64 0, .int .i64 0, .int .i64 0, .int .i64 0, .int .i64 0, .int .i64 0, .slice none 0 0, .slice none 0 0, .slice none 0 0, .int .i64 0, .int .i64 0, .bool false]) ?_ rfl; exact HBR.out)
  have HD10 := hid (Fresh.nots hf [w.heap.size, w.heap.size + 1, w.heap.size + 1 + 1] (by intro b hb; simp only [List.mem_cons, List.not_mem_nil, or_false] at hb; rcases hb with rfl | rfl | rfl <;> simp <;> omega)); have HF10 := hid hf; clear hf
  clear HBP cP lP fP HBQ cQ lQ fQ HBR cR lR fR
  have cP := cellsOf hP; have lP := ltOf hP; have fP := freeOf hP; have HBP := hid hP; clear hP
  have cQ := cellsOf hQ; have lQ := ltOf hQ; have fQ := freeOf hQ; have HBQ := hid hQ; clear hQ
  have cR := cellsOf hR; have lR := ltOf hR; have fR := freeOf hR; have HBR := hid hR; clear hR
  have HC2 := hid hc; clear hc
  go_wp2_with fail
  refine (toI_any a11 l11 c11 x.on f11 _ (intL.sl_ext H11.out (by refine Chg.setCell ?_ _ _ (.inr (by simp <;> omega)); refine Chg.trans0 ?_ HC2.out; refine Chg.setCell ?_ _ _ (.inr (by simp <;> omega)); refine Chg.setCell ?_ _ _ (.inr (by simp <;> omega)); refine Chg.setCell ?_ _ _ (.inr (by simp <;> omega)); refine Chg.setCell ?_ _ _ (.inr (by simp <;> omega)); refine Chg.setCell ?_ _ _ (.inr (by simp <;> omega)); refine Chg.setCell ?_ _ _ (.inr (by simp <;> omega)); refine Chg.setCell ?_ _ _ (.inr (by simp <;> omega)); refine Chg.setCell ?_ _ _ (.inr (by simp <;> omega)); refine Chg.setCell ?_ _ _ (.inr (by simp <;> omega)); refine Chg.trans0 ?_ HC1.out; refine Chg.alloc ?_ _; refine Chg.alloc ?_ _; refine Chg.alloc ?_ _; exact Chg.refl _ _)) z11).mono ?_
  rintro e w3 ⟨b11, d11, g11, rfl, hs, hf, hc⟩
  rw [HL11.out] at hs ⊢
  have HS11 := hid hs; clear hs
  have hP := hc.keep0 (keep_set HBP.out _ _ (show w.heap.size ≠ w.heap.size + 1 + 1 by omega))
  have hQ := hc.keep0 (keep_set HBQ.out _ _ (show w.heap.size + 1 ≠ w.heap.size + 1 + 1 by omega))
  have hR := hc.keep0 (b := w.heap.size + 1 + 1) (o := .cells #[.int .i64 x.shape.groups, .int .i64 x.shape.column, .int .i64 x.shape.data, .int .i64 x.shape.spare, .int .i64 x.shape.rows, .int .i64 x.shape.cap, .int .i64 x.shape.batch, .int .i64 x.shape.queue, .int .i64 x.shape.stage, .slice b10 l10 d10, .slice none 0 0, .slice none 0 0, .int .i64 0, .int .i64 0, .bool false] 34) (by refine heap_set_lit (cur := #[.int .i64 x.shape.groups, .int .i64 x.shape.column, .int .i64 x.shape.data, .int .i64 x.shape.spare, .int .i64 x.shape.rows, .int .i64 x.shape.cap, .int .i64 x.shape.batch, .int .i64 x.shape.queue, .int .i64 x.shape.stage, .slice none 0 0, .slice none 0 0, .slice none 0 0, .int .i64 0, .int .i64 0, .bool false]) ?_ rfl; exact HBR.out)
  have HD11 := hid (Fresh.nots hf [w.heap.size, w.heap.size + 1, w.heap.size + 1 + 1] (by intro b hb; simp only [List.mem_cons, List.not_mem_nil, or_false] at hb; rcases hb with rfl | rfl | rfl <;> simp <;> omega)); have HF11 := hid hf; clear hf
  clear HBP cP lP fP HBQ cQ lQ fQ HBR cR lR fR
  have cP := cellsOf hP; have lP := ltOf hP; have fP := freeOf hP; have HBP := hid hP; clear hP
  have cQ := cellsOf hQ; have lQ := ltOf hQ; have fQ := freeOf hQ; have HBQ := hid hQ; clear hQ
  have cR := cellsOf hR; have lR := ltOf hR; have fR := freeOf hR; have HBR := hid hR; clear hR
  have HC3 := hid hc; clear hc
  go_wp2_with fail
  refine (toTapeS_any a12 l12 c12 x.tapes f12 _ (tapL.sl_ext H12.out (by refine Chg.setCell ?_ _ _ (.inr (by simp <;> omega)); refine Chg.trans0 ?_ HC3.out; refine Chg.setCell ?_ _ _ (.inr (by simp <;> omega)); refine Chg.trans0 ?_ HC2.out; refine Chg.setCell ?_ _ _ (.inr (by simp <;> omega)); refine Chg.setCell ?_ _ _ (.inr (by simp <;> omega)); refine Chg.setCell ?_ _ _ (.inr (by simp <;> omega)); refine Chg.setCell ?_ _ _ (.inr (by simp <;> omega)); refine Chg.setCell ?_ _ _ (.inr (by simp <;> omega)); refine Chg.setCell ?_ _ _ (.inr (by simp <;> omega)); refine Chg.setCell ?_ _ _ (.inr (by simp <;> omega)); refine Chg.setCell ?_ _ _ (.inr (by simp <;> omega)); refine Chg.setCell ?_ _ _ (.inr (by simp <;> omega)); refine Chg.trans0 ?_ HC1.out; refine Chg.alloc ?_ _; refine Chg.alloc ?_ _; refine Chg.alloc ?_ _; exact Chg.refl _ _)) z12).mono ?_
  rintro e w4 ⟨b12, d12, g12, rfl, hs, hf, hc⟩
  rw [HL12.out] at hs ⊢
  have HS12 := hid hs; clear hs
  have hP := hc.keep0 (keep_set HBP.out _ _ (show w.heap.size ≠ w.heap.size + 1 + 1 by omega))
  have hQ := hc.keep0 (keep_set HBQ.out _ _ (show w.heap.size + 1 ≠ w.heap.size + 1 + 1 by omega))
  have hR := hc.keep0 (b := w.heap.size + 1 + 1) (o := .cells #[.int .i64 x.shape.groups, .int .i64 x.shape.column, .int .i64 x.shape.data, .int .i64 x.shape.spare, .int .i64 x.shape.rows, .int .i64 x.shape.cap, .int .i64 x.shape.batch, .int .i64 x.shape.queue, .int .i64 x.shape.stage, .slice b10 l10 d10, .slice b11 l11 d11, .slice none 0 0, .int .i64 0, .int .i64 0, .bool false] 34) (by refine heap_set_lit (cur := #[.int .i64 x.shape.groups, .int .i64 x.shape.column, .int .i64 x.shape.data, .int .i64 x.shape.spare, .int .i64 x.shape.rows, .int .i64 x.shape.cap, .int .i64 x.shape.batch, .int .i64 x.shape.queue, .int .i64 x.shape.stage, .slice b10 l10 d10, .slice none 0 0, .slice none 0 0, .int .i64 0, .int .i64 0, .bool false]) ?_ rfl; exact HBR.out)
  have HD12 := hid (Fresh.nots hf [w.heap.size, w.heap.size + 1, w.heap.size + 1 + 1] (by intro b hb; simp only [List.mem_cons, List.not_mem_nil, or_false] at hb; rcases hb with rfl | rfl | rfl <;> simp <;> omega)); have HF12 := hid hf; clear hf
  clear HBP cP lP fP HBQ cQ lQ fQ HBR cR lR fR
  have cP := cellsOf hP; have lP := ltOf hP; have fP := freeOf hP; have HBP := hid hP; clear hP
  have cQ := cellsOf hQ; have lQ := ltOf hQ; have fQ := freeOf hQ; have HBQ := hid hQ; clear hQ
  have cR := cellsOf hR; have lR := ltOf hR; have fR := freeOf hR; have HBR := hid hR; clear hR
  have HC4 := hid hc; clear hc
  go_wp2_with fail
  have hq : ((((((((((((((((((((w4.setCell ⟨w.heap.size + 1 + 1, 11, none⟩ (.slice b12 l12 d12)).setCell ⟨w.heap.size + 1 + 1, 12, none⟩ (.int .i64 x.writes)).setCell ⟨w.heap.size + 1 + 1, 13, none⟩ (.int .i64 x.stop)).setCell ⟨w.heap.size + 1 + 1, 14, none⟩ (.bool x.down)).setCell ⟨w.heap.size + 1, 0, none⟩ (.int .i64 x.shape.groups)).setCell ⟨w.heap.size + 1, 1, none⟩ (.int .i64 x.shape.column)).setCell ⟨w.heap.size + 1, 2, none⟩ (.int .i64 x.shape.data)).setCell ⟨w.heap.size + 1, 3, none⟩ (.int .i64 x.shape.spare)).setCell ⟨w.heap.size + 1, 4, none⟩ (.int .i64 x.shape.rows)).setCell ⟨w.heap.size + 1, 5, none⟩ (.int .i64 x.shape.cap)).setCell ⟨w.heap.size + 1, 6, none⟩ (.int .i64 x.shape.batch)).setCell ⟨w.heap.size + 1, 7, none⟩ (.int .i64 x.shape.queue)).setCell ⟨w.heap.size + 1, 8, none⟩ (.int .i64 x.shape.stage)).setCell ⟨w.heap.size + 1, 9, none⟩ (.slice b10 l10 d10)).setCell ⟨w.heap.size + 1, 10, none⟩ (.slice b11 l11 d11)).setCell ⟨w.heap.size + 1, 11, none⟩ (.slice b12 l12 d12)).setCell ⟨w.heap.size + 1, 12, none⟩ (.int .i64 x.writes)).setCell ⟨w.heap.size + 1, 13, none⟩ (.int .i64 x.stop)).setCell ⟨w.heap.size + 1, 14, none⟩ (.bool x.down))).heap[w.heap.size + 1]? = some (.cells #[.int .i64 x.shape.groups, .int .i64 x.shape.column, .int .i64 x.shape.data, .int .i64 x.shape.spare, .int .i64 x.shape.rows, .int .i64 x.shape.cap, .int .i64 x.shape.batch, .int .i64 x.shape.queue, .int .i64 x.shape.stage, .slice b10 l10 d10, .slice b11 l11 d11, .slice b12 l12 d12, .int .i64 x.writes, .int .i64 x.stop, .bool x.down] 34) := (by refine heap_set_lit (cur := #[.int .i64 x.shape.groups, .int .i64 x.shape.column, .int .i64 x.shape.data, .int .i64 x.shape.spare, .int .i64 x.shape.rows, .int .i64 x.shape.cap, .int .i64 x.shape.batch, .int .i64 x.shape.queue, .int .i64 x.shape.stage, .slice b10 l10 d10, .slice b11 l11 d11, .slice b12 l12 d12, .int .i64 x.writes, .int .i64 x.stop, .bool false]) ?_ rfl; refine heap_set_lit (cur := #[.int .i64 x.shape.groups, .int .i64 x.shape.column, .int .i64 x.shape.data, .int .i64 x.shape.spare, .int .i64 x.shape.rows, .int .i64 x.shape.cap, .int .i64 x.shape.batch, .int .i64 x.shape.queue, .int .i64 x.shape.stage, .slice b10 l10 d10, .slice b11 l11 d11, .slice b12 l12 d12, .int .i64 x.writes, .int .i64 0, .bool false]) ?_ rfl; refine heap_set_lit (cur := #[.int .i64 x.shape.groups, .int .i64 x.shape.column, .int .i64 x.shape.data, .int .i64 x.shape.spare, .int .i64 x.shape.rows, .int .i64 x.shape.cap, .int .i64 x.shape.batch, .int .i64 x.shape.queue, .int .i64 x.shape.stage, .slice b10 l10 d10, .slice b11 l11 d11, .slice b12 l12 d12, .int .i64 0, .int .i64 0, .bool false]) ?_ rfl; refine heap_set_lit (cur := #[.int .i64 x.shape.groups, .int .i64 x.shape.column, .int .i64 x.shape.data, .int .i64 x.shape.spare, .int .i64 x.shape.rows, .int .i64 x.shape.cap, .int .i64 x.shape.batch, .int .i64 x.shape.queue, .int .i64 x.shape.stage, .slice b10 l10 d10, .slice b11 l11 d11, .slice none 0 0, .int .i64 0, .int .i64 0, .bool false]) ?_ rfl; refine heap_set_lit (cur := #[.int .i64 x.shape.groups, .int .i64 x.shape.column, .int .i64 x.shape.data, .int .i64 x.shape.spare, .int .i64 x.shape.rows, .int .i64 x.shape.cap, .int .i64 x.shape.batch, .int .i64 x.shape.queue, .int .i64 x.shape.stage, .slice b10 l10 d10, .slice none 0 0, .slice none 0 0, .int .i64 0, .int .i64 0, .bool false]) ?_ rfl; refine heap_set_lit (cur := #[.int .i64 x.shape.groups, .int .i64 x.shape.column, .int .i64 x.shape.data, .int .i64 x.shape.spare, .int .i64 x.shape.rows, .int .i64 x.shape.cap, .int .i64 x.shape.batch, .int .i64 x.shape.queue, .int .i64 x.shape.stage, .slice none 0 0, .slice none 0 0, .slice none 0 0, .int .i64 0, .int .i64 0, .bool false]) ?_ rfl; refine heap_set_lit (cur := #[.int .i64 x.shape.groups, .int .i64 x.shape.column, .int .i64 x.shape.data, .int .i64 x.shape.spare, .int .i64 x.shape.rows, .int .i64 x.shape.cap, .int .i64 x.shape.batch, .int .i64 x.shape.queue, .int .i64 0, .slice none 0 0, .slice none 0 0, .slice none 0 0, .int .i64 0, .int .i64 0, .bool false]) ?_ rfl; refine heap_set_lit (cur := #[.int .i64 x.shape.groups, .int .i64 x.shape.column, .int .i64 x.shape.data, .int .i64 x.shape.spare, .int .i64 x.shape.rows, .int .i64 x.shape.cap, .int .i64 x.shape.batch, .int .i64 0, .int .i64 0, .slice none 0 0, .slice none 0 0, .slice none 0 0, .int .i64 0, .int .i64 0, .bool false]) ?_ rfl; refine heap_set_lit (cur := #[.int .i64 x.shape.groups, .int .i64 x.shape.column, .int .i64 x.shape.data, .int .i64 x.shape.spare, .int .i64 x.shape.rows, .int .i64 x.shape.cap, .int .i64 0, .int .i64 0, .int .i64 0, .slice none 0 0, .slice none 0 0, .slice none 0 0, .int .i64 0, .int .i64 0, .bool false]) ?_ rfl; refine heap_set_lit (cur := #[.int .i64 x.shape.groups, .int .i64 x.shape.column, .int .i64 x.shape.data, .int .i64 x.shape.spare, .int .i64 x.shape.rows, .int .i64 0, .int .i64 0, .int .i64 0, .int .i64 0, .slice none 0 0, .slice none 0 0, .slice none 0 0, .int .i64 0, .int .i64 0, .bool false]) ?_ rfl; refine heap_set_lit (cur := #[.int .i64 x.shape.groups, .int .i64 x.shape.column, .int .i64 x.shape.data, .int .i64 x.shape.spare, .int .i64 0, .int .i64 0, .int .i64 0, .int .i64 0, .int .i64 0, .slice none 0 0, .slice none 0 0, .slice none 0 0, .int .i64 0, .int .i64 0, .bool false]) ?_ rfl; refine heap_set_lit (cur := #[.int .i64 x.shape.groups, .int .i64 x.shape.column, .int .i64 x.shape.data, .int .i64 0, .int .i64 0, .int .i64 0, .int .i64 0, .int .i64 0, .int .i64 0, .slice none 0 0, .slice none 0 0, .slice none 0 0, .int .i64 0, .int .i64 0, .bool false]) ?_ rfl; refine heap_set_lit (cur := #[.int .i64 x.shape.groups, .int .i64 x.shape.column, .int .i64 0, .int .i64 0, .int .i64 0, .int .i64 0, .int .i64 0, .int .i64 0, .int .i64 0, .slice none 0 0, .slice none 0 0, .slice none 0 0, .int .i64 0, .int .i64 0, .bool false]) ?_ rfl; refine heap_set_lit (cur := #[.int .i64 x.shape.groups, .int .i64 0, .int .i64 0, .int .i64 0, .int .i64 0, .int .i64 0, .int .i64 0, .int .i64 0, .int .i64 0, .slice none 0 0, .slice none 0 0, .slice none 0 0, .int .i64 0, .int .i64 0, .bool false]) ?_ rfl; refine heap_set_lit (cur := #[.int .i64 0, .int .i64 0, .int .i64 0, .int .i64 0, .int .i64 0, .int .i64 0, .int .i64 0, .int .i64 0, .int .i64 0, .slice none 0 0, .slice none 0 0, .slice none 0 0, .int .i64 0, .int .i64 0, .bool false]) ?_ rfl; refine keep_set ?_ _ _ (show w.heap.size + 1 ≠ w.heap.size + 1 + 1 by omega); refine keep_set ?_ _ _ (show w.heap.size + 1 ≠ w.heap.size + 1 + 1 by omega); refine keep_set ?_ _ _ (show w.heap.size + 1 ≠ w.heap.size + 1 + 1 by omega); refine keep_set ?_ _ _ (show w.heap.size + 1 ≠ w.heap.size + 1 + 1 by omega); exact HBQ.out)
  have hqc := cellsOf hq
  have hch : Chg [] w (((((((((((((((((((w4.setCell ⟨w.heap.size + 1 + 1, 11, none⟩ (.slice b12 l12 d12)).setCell ⟨w.heap.size + 1 + 1, 12, none⟩ (.int .i64 x.writes)).setCell ⟨w.heap.size + 1 + 1, 13, none⟩ (.int .i64 x.stop)).setCell ⟨w.heap.size + 1 + 1, 14, none⟩ (.bool x.down)).setCell ⟨w.heap.size + 1, 0, none⟩ (.int .i64 x.shape.groups)).setCell ⟨w.heap.size + 1, 1, none⟩ (.int .i64 x.shape.column)).setCell ⟨w.heap.size + 1, 2, none⟩ (.int .i64 x.shape.data)).setCell ⟨w.heap.size + 1, 3, none⟩ (.int .i64 x.shape.spare)).setCell ⟨w.heap.size + 1, 4, none⟩ (.int .i64 x.shape.rows)).setCell ⟨w.heap.size + 1, 5, none⟩ (.int .i64 x.shape.cap)).setCell ⟨w.heap.size + 1, 6, none⟩ (.int .i64 x.shape.batch)).setCell ⟨w.heap.size + 1, 7, none⟩ (.int .i64 x.shape.queue)).setCell ⟨w.heap.size + 1, 8, none⟩ (.int .i64 x.shape.stage)).setCell ⟨w.heap.size + 1, 9, none⟩ (.slice b10 l10 d10)).setCell ⟨w.heap.size + 1, 10, none⟩ (.slice b11 l11 d11)).setCell ⟨w.heap.size + 1, 11, none⟩ (.slice b12 l12 d12)).setCell ⟨w.heap.size + 1, 12, none⟩ (.int .i64 x.writes)).setCell ⟨w.heap.size + 1, 13, none⟩ (.int .i64 x.stop)).setCell ⟨w.heap.size + 1, 14, none⟩ (.bool x.down)) := by refine Chg.setCell ?_ _ _ (.inr (by simp <;> omega)); refine Chg.setCell ?_ _ _ (.inr (by simp <;> omega)); refine Chg.setCell ?_ _ _ (.inr (by simp <;> omega)); refine Chg.setCell ?_ _ _ (.inr (by simp <;> omega)); refine Chg.setCell ?_ _ _ (.inr (by simp <;> omega)); refine Chg.setCell ?_ _ _ (.inr (by simp <;> omega)); refine Chg.setCell ?_ _ _ (.inr (by simp <;> omega)); refine Chg.setCell ?_ _ _ (.inr (by simp <;> omega)); refine Chg.setCell ?_ _ _ (.inr (by simp <;> omega)); refine Chg.setCell ?_ _ _ (.inr (by simp <;> omega)); refine Chg.setCell ?_ _ _ (.inr (by simp <;> omega)); refine Chg.setCell ?_ _ _ (.inr (by simp <;> omega)); refine Chg.setCell ?_ _ _ (.inr (by simp <;> omega)); refine Chg.setCell ?_ _ _ (.inr (by simp <;> omega)); refine Chg.setCell ?_ _ _ (.inr (by simp <;> omega)); refine Chg.setCell ?_ _ _ (.inr (by simp <;> omega)); refine Chg.setCell ?_ _ _ (.inr (by simp <;> omega)); refine Chg.setCell ?_ _ _ (.inr (by simp <;> omega)); refine Chg.setCell ?_ _ _ (.inr (by simp <;> omega)); refine Chg.trans0 ?_ HC4.out; refine Chg.setCell ?_ _ _ (.inr (by simp <;> omega)); refine Chg.trans0 ?_ HC3.out; refine Chg.setCell ?_ _ _ (.inr (by simp <;> omega)); refine Chg.trans0 ?_ HC2.out; refine Chg.setCell ?_ _ _ (.inr (by simp <;> omega)); refine Chg.setCell ?_ _ _ (.inr (by simp <;> omega)); refine Chg.setCell ?_ _ _ (.inr (by simp <;> omega)); refine Chg.setCell ?_ _ _ (.inr (by simp <;> omega)); refine Chg.setCell ?_ _ _ (.inr (by simp <;> omega)); refine Chg.setCell ?_ _ _ (.inr (by simp <;> omega)); refine Chg.setCell ?_ _ _ (.inr (by simp <;> omega)); refine Chg.setCell ?_ _ _ (.inr (by simp <;> omega)); refine Chg.setCell ?_ _ _ (.inr (by simp <;> omega)); refine Chg.trans0 ?_ HC1.out; refine Chg.alloc ?_ _; refine Chg.alloc ?_ _; refine Chg.alloc ?_ _; exact Chg.refl _ _
  have k10 : Chg [w.heap.size, w.heap.size + 1, w.heap.size + 1 + 1] w2 (((((((((((((((((((w4.setCell ⟨w.heap.size + 1 + 1, 11, none⟩ (.slice b12 l12 d12)).setCell ⟨w.heap.size + 1 + 1, 12, none⟩ (.int .i64 x.writes)).setCell ⟨w.heap.size + 1 + 1, 13, none⟩ (.int .i64 x.stop)).setCell ⟨w.heap.size + 1 + 1, 14, none⟩ (.bool x.down)).setCell ⟨w.heap.size + 1, 0, none⟩ (.int .i64 x.shape.groups)).setCell ⟨w.heap.size + 1, 1, none⟩ (.int .i64 x.shape.column)).setCell ⟨w.heap.size + 1, 2, none⟩ (.int .i64 x.shape.data)).setCell ⟨w.heap.size + 1, 3, none⟩ (.int .i64 x.shape.spare)).setCell ⟨w.heap.size + 1, 4, none⟩ (.int .i64 x.shape.rows)).setCell ⟨w.heap.size + 1, 5, none⟩ (.int .i64 x.shape.cap)).setCell ⟨w.heap.size + 1, 6, none⟩ (.int .i64 x.shape.batch)).setCell ⟨w.heap.size + 1, 7, none⟩ (.int .i64 x.shape.queue)).setCell ⟨w.heap.size + 1, 8, none⟩ (.int .i64 x.shape.stage)).setCell ⟨w.heap.size + 1, 9, none⟩ (.slice b10 l10 d10)).setCell ⟨w.heap.size + 1, 10, none⟩ (.slice b11 l11 d11)).setCell ⟨w.heap.size + 1, 11, none⟩ (.slice b12 l12 d12)).setCell ⟨w.heap.size + 1, 12, none⟩ (.int .i64 x.writes)).setCell ⟨w.heap.size + 1, 13, none⟩ (.int .i64 x.stop)).setCell ⟨w.heap.size + 1, 14, none⟩ (.bool x.down)) := by refine Chg.setCell ?_ _ _ (.inl (by simp)); refine Chg.setCell ?_ _ _ (.inl (by simp)); refine Chg.setCell ?_ _ _ (.inl (by simp)); refine Chg.setCell ?_ _ _ (.inl (by simp)); refine Chg.setCell ?_ _ _ (.inl (by simp)); refine Chg.setCell ?_ _ _ (.inl (by simp)); refine Chg.setCell ?_ _ _ (.inl (by simp)); refine Chg.setCell ?_ _ _ (.inl (by simp)); refine Chg.setCell ?_ _ _ (.inl (by simp)); refine Chg.setCell ?_ _ _ (.inl (by simp)); refine Chg.setCell ?_ _ _ (.inl (by simp)); refine Chg.setCell ?_ _ _ (.inl (by simp)); refine Chg.setCell ?_ _ _ (.inl (by simp)); refine Chg.setCell ?_ _ _ (.inl (by simp)); refine Chg.setCell ?_ _ _ (.inl (by simp)); refine Chg.setCell ?_ _ _ (.inl (by simp)); refine Chg.setCell ?_ _ _ (.inl (by simp)); refine Chg.setCell ?_ _ _ (.inl (by simp)); refine Chg.setCell ?_ _ _ (.inl (by simp)); refine Chg.trans0 ?_ HC4.out; refine Chg.setCell ?_ _ _ (.inl (by simp)); refine Chg.trans0 ?_ HC3.out; refine Chg.setCell ?_ _ _ (.inl (by simp)); exact Chg.refl _ _
  have K10 := drvL.slice.sl_chg HS10.out k10 HD10.out
  have F10 := Fresh.chg HF10.out k10
  have k11 : Chg [w.heap.size, w.heap.size + 1, w.heap.size + 1 + 1] w3 (((((((((((((((((((w4.setCell ⟨w.heap.size + 1 + 1, 11, none⟩ (.slice b12 l12 d12)).setCell ⟨w.heap.size + 1 + 1, 12, none⟩ (.int .i64 x.writes)).setCell ⟨w.heap.size + 1 + 1, 13, none⟩ (.int .i64 x.stop)).setCell ⟨w.heap.size + 1 + 1, 14, none⟩ (.bool x.down)).setCell ⟨w.heap.size + 1, 0, none⟩ (.int .i64 x.shape.groups)).setCell ⟨w.heap.size + 1, 1, none⟩ (.int .i64 x.shape.column)).setCell ⟨w.heap.size + 1, 2, none⟩ (.int .i64 x.shape.data)).setCell ⟨w.heap.size + 1, 3, none⟩ (.int .i64 x.shape.spare)).setCell ⟨w.heap.size + 1, 4, none⟩ (.int .i64 x.shape.rows)).setCell ⟨w.heap.size + 1, 5, none⟩ (.int .i64 x.shape.cap)).setCell ⟨w.heap.size + 1, 6, none⟩ (.int .i64 x.shape.batch)).setCell ⟨w.heap.size + 1, 7, none⟩ (.int .i64 x.shape.queue)).setCell ⟨w.heap.size + 1, 8, none⟩ (.int .i64 x.shape.stage)).setCell ⟨w.heap.size + 1, 9, none⟩ (.slice b10 l10 d10)).setCell ⟨w.heap.size + 1, 10, none⟩ (.slice b11 l11 d11)).setCell ⟨w.heap.size + 1, 11, none⟩ (.slice b12 l12 d12)).setCell ⟨w.heap.size + 1, 12, none⟩ (.int .i64 x.writes)).setCell ⟨w.heap.size + 1, 13, none⟩ (.int .i64 x.stop)).setCell ⟨w.heap.size + 1, 14, none⟩ (.bool x.down)) := by refine Chg.setCell ?_ _ _ (.inl (by simp)); refine Chg.setCell ?_ _ _ (.inl (by simp)); refine Chg.setCell ?_ _ _ (.inl (by simp)); refine Chg.setCell ?_ _ _ (.inl (by simp)); refine Chg.setCell ?_ _ _ (.inl (by simp)); refine Chg.setCell ?_ _ _ (.inl (by simp)); refine Chg.setCell ?_ _ _ (.inl (by simp)); refine Chg.setCell ?_ _ _ (.inl (by simp)); refine Chg.setCell ?_ _ _ (.inl (by simp)); refine Chg.setCell ?_ _ _ (.inl (by simp)); refine Chg.setCell ?_ _ _ (.inl (by simp)); refine Chg.setCell ?_ _ _ (.inl (by simp)); refine Chg.setCell ?_ _ _ (.inl (by simp)); refine Chg.setCell ?_ _ _ (.inl (by simp)); refine Chg.setCell ?_ _ _ (.inl (by simp)); refine Chg.setCell ?_ _ _ (.inl (by simp)); refine Chg.setCell ?_ _ _ (.inl (by simp)); refine Chg.setCell ?_ _ _ (.inl (by simp)); refine Chg.setCell ?_ _ _ (.inl (by simp)); refine Chg.trans0 ?_ HC4.out; refine Chg.setCell ?_ _ _ (.inl (by simp)); exact Chg.refl _ _
  have K11 := intL.sl_chg HS11.out k11 HD11.out
  have F11 := Fresh.chg HF11.out k11
  have k12 : Chg [w.heap.size, w.heap.size + 1, w.heap.size + 1 + 1] w4 (((((((((((((((((((w4.setCell ⟨w.heap.size + 1 + 1, 11, none⟩ (.slice b12 l12 d12)).setCell ⟨w.heap.size + 1 + 1, 12, none⟩ (.int .i64 x.writes)).setCell ⟨w.heap.size + 1 + 1, 13, none⟩ (.int .i64 x.stop)).setCell ⟨w.heap.size + 1 + 1, 14, none⟩ (.bool x.down)).setCell ⟨w.heap.size + 1, 0, none⟩ (.int .i64 x.shape.groups)).setCell ⟨w.heap.size + 1, 1, none⟩ (.int .i64 x.shape.column)).setCell ⟨w.heap.size + 1, 2, none⟩ (.int .i64 x.shape.data)).setCell ⟨w.heap.size + 1, 3, none⟩ (.int .i64 x.shape.spare)).setCell ⟨w.heap.size + 1, 4, none⟩ (.int .i64 x.shape.rows)).setCell ⟨w.heap.size + 1, 5, none⟩ (.int .i64 x.shape.cap)).setCell ⟨w.heap.size + 1, 6, none⟩ (.int .i64 x.shape.batch)).setCell ⟨w.heap.size + 1, 7, none⟩ (.int .i64 x.shape.queue)).setCell ⟨w.heap.size + 1, 8, none⟩ (.int .i64 x.shape.stage)).setCell ⟨w.heap.size + 1, 9, none⟩ (.slice b10 l10 d10)).setCell ⟨w.heap.size + 1, 10, none⟩ (.slice b11 l11 d11)).setCell ⟨w.heap.size + 1, 11, none⟩ (.slice b12 l12 d12)).setCell ⟨w.heap.size + 1, 12, none⟩ (.int .i64 x.writes)).setCell ⟨w.heap.size + 1, 13, none⟩ (.int .i64 x.stop)).setCell ⟨w.heap.size + 1, 14, none⟩ (.bool x.down)) := by refine Chg.setCell ?_ _ _ (.inl (by simp)); refine Chg.setCell ?_ _ _ (.inl (by simp)); refine Chg.setCell ?_ _ _ (.inl (by simp)); refine Chg.setCell ?_ _ _ (.inl (by simp)); refine Chg.setCell ?_ _ _ (.inl (by simp)); refine Chg.setCell ?_ _ _ (.inl (by simp)); refine Chg.setCell ?_ _ _ (.inl (by simp)); refine Chg.setCell ?_ _ _ (.inl (by simp)); refine Chg.setCell ?_ _ _ (.inl (by simp)); refine Chg.setCell ?_ _ _ (.inl (by simp)); refine Chg.setCell ?_ _ _ (.inl (by simp)); refine Chg.setCell ?_ _ _ (.inl (by simp)); refine Chg.setCell ?_ _ _ (.inl (by simp)); refine Chg.setCell ?_ _ _ (.inl (by simp)); refine Chg.setCell ?_ _ _ (.inl (by simp)); refine Chg.setCell ?_ _ _ (.inl (by simp)); refine Chg.setCell ?_ _ _ (.inl (by simp)); refine Chg.setCell ?_ _ _ (.inl (by simp)); refine Chg.setCell ?_ _ _ (.inl (by simp)); exact Chg.refl _ _
  have K12 := tapL.sl_chg HS12.out k12 HD12.out
  have F12 := Fresh.chg HF12.out k12
  have hfr := Fresh.mono (Fresh.append F10 (Fresh.append F11 F12 (Fresh.low HF11.out (by have s1 := HC1.out.size; have s2 := HC2.out.size; have s3 := HC3.out.size; have s4 := HC4.out.size; simp at s1 s2 s3 s4 ⊢ <;> omega)) (by have s1 := HC1.out.size; have s2 := HC2.out.size; have s3 := HC3.out.size; have s4 := HC4.out.size; simp at s1 s2 s3 s4 ⊢ <;> omega)) (Fresh.low HF10.out (by have s1 := HC1.out.size; have s2 := HC2.out.size; have s3 := HC3.out.size; have s4 := HC4.out.size; simp at s1 s2 s3 s4 ⊢ <;> omega)) (by have s1 := HC1.out.size; have s2 := HC2.out.size; have s3 := HC3.out.size; have s4 := HC4.out.size; simp at s1 s2 s3 s4 ⊢ <;> omega)) (show w.heap.size ≤ _ from (by have s1 := HC1.out.size; have s2 := HC2.out.size; have s3 := HC3.out.size; have s4 := HC4.out.size; simp at s1 s2 s3 s4 ⊢ <;> omega))
  refine bodyPost_ret (v := .agg #[.int .i64 x.shape.groups, .int .i64 x.shape.column, .int .i64 x.shape.data, .int .i64 x.shape.spare, .int .i64 x.shape.rows, .int .i64 x.shape.cap, .int .i64 x.shape.batch, .int .i64 x.shape.queue, .int .i64 x.shape.stage, .slice b10 l10 d10, .slice b11 l11 d11, .slice b12 l12 d12, .int .i64 x.writes, .int .i64 x.stop, .bool x.down]) (by simp [results, Tryz.results17, go_sem, hqc]) rfl ⟨_, _, rfl, wldL_iff.2 ⟨b10, l10, d10, g10, b11, l11, d11, g11, b12, l12, d12, g12, rfl, HO.out.1, HO.out.2.1, HO.out.2.2.1, HO.out.2.2.2.1, HO.out.2.2.2.2.1, HO.out.2.2.2.2.2.1, HO.out.2.2.2.2.2.2.1, HO.out.2.2.2.2.2.2.2.1, HO.out.2.2.2.2.2.2.2.2.1, K10, K11, K12, HO.out.2.2.2.2.2.2.2.2.2.1, HO.out.2.2.2.2.2.2.2.2.2.2, rfl⟩, (by simpa using hfr), hch⟩
noncomputable def Wld.up (x : Wld) : Int := if x.fault = 0 then (if x.down = true then 9 else 0) else x.fault
def Wld.cut (x : Wld) : Wld := { x with down := true, on := [] }
def Wld.setTape (x : Wld) (t : Int) (y : Tap) : Wld := { x with tapes := x.tapes.set t.toNat y }
def Wld.tape (x : Wld) (t : Int) : Tap := x.tapes.getD t.toNat ⟨false, []⟩
def Wld.raw (x : Wld) (f : Wld → Wld) : WRes := if x.stop ≠ -1 ∧ x.stop ≤ x.writes then ⟨9, x.cut⟩ else ⟨0, { f x with writes := x.writes + 1 }⟩
def isTape (t : Int) : Prop := 0 ≤ t ∧ t ≤ 1
noncomputable def strikeR (x : Wld) (t k s : Int) : WRes :=
 if x.up ≠ 0 then ⟨x.up, zWld⟩ else if pb (isTape t) = false then ⟨3, zWld⟩ else
  x.raw (fun x => x.setTape t ⟨(x.tape t).wiped, (x.tape t).recs.filter (fun r => !(r.kind == k && r.seq == s))⟩)
/-! ### how much there is of it -/
theorem cntTape_le (x : Wld) (t : Int) : cntTap (x.tape t) ≤ cntWld x + 1 := by
 have h1 := sumI_getD_le cntTap_nonneg x.tapes t.toNat ⟨false, []⟩
 have h3 : cntTap ⟨false, []⟩ = 1 := rfl
 have h6 := totIs_nonneg x.on
 have h7 := sumI_nonneg cntDrvs_nonneg x.groups
 unfold Wld.tape cntWld
 omega
theorem cntSetTape_le (x : Wld) (t : Int) (y : Tap) : cntWld (x.setTape t y) ≤ cntWld x + cntTap y := by
 have h1 := sumI_set_le cntTap_nonneg x.tapes t.toNat y
 unfold cntWld Wld.setTape
 simp only
 omega
theorem cntCut_le (x : Wld) : cntWld x.cut ≤ cntWld x := by
 have h6 := totIs_nonneg x.on
 unfold cntWld Wld.cut
 simp only
 have : totIs ([] : List Int) = 0 := rfl
 omega
theorem cntRaw_le {x : Wld} {f : Wld → Wld} {n : Int} (h1 : cntWld x ≤ n) (h2 : cntWld (f x) ≤ n) : cntWld (x.raw f).world ≤ n := by
 unfold Wld.raw
 split
 ·exact Int.le_trans (cntCut_le x) h1
 ·exact h2
theorem cntStrikeR (x : Wld) (t k s : Int) : cntWld (strikeR x t k s).world ≤ 2 * cntWld x + 2 := by
 have h := cntWld_nonneg x
 unfold strikeR
 repeat' split
 all_goals first
  | (rw [cntZ]; omega)
  | skip
 refine cntRaw_le (by omega) ?_
 have h1 := cntSetTape_le x t ⟨(x.tape t).wiped, (x.tape t).recs.filter (fun r => !(r.kind == k && r.seq == s))⟩
 have h2 := cntTape_le x t
 have h3 := sumI_filter_le cntRec_nonneg (fun r : Rec => !(r.kind == k && r.seq == s)) (x.tape t).recs
 have e1 : cntTap ⟨(x.tape t).wiped, (x.tape t).recs.filter (fun r => !(r.kind == k && r.seq == s))⟩ = 1 + sumI cntRec ((x.tape t).recs.filter (fun r => !(r.kind == k && r.seq == s))) := rfl
 have e2 : cntTap (x.tape t) = 1 + sumI cntRec (x.tape t).recs := rfl
 omega
theorem rows_ok {x : Wld} (h : x.fault = 0) : x.shape.ok := by
 refine Classical.byContradiction (fun hn => ?_)
 unfold Wld.fault at h
 rw [pb_false hn] at h
 simp at h
end Go.Proofs.YtphmpimgbmedbaaGreat
namespace Go.Proofs.YtphmpimgbmedbaaGreat
open Go.RowKit
open Go.Lib (hid)
def wpAnyG (P : Program) (md : Region.Mode) (ops : Array Oper) (Q : Exit → Act → World → Prop) (S : Array Bool → World → Prop) : Nat → Array Bool → Act → World → Prop
 | 0, listed, a, w => Region.ready md ops listed = [] ∧ Q .normal a w
 | fuel + 1, listed, a, w =>
  (Region.ready md ops listed = [] → Q .normal a w) ∧
  ∀ i ∈ Region.ready md ops listed, wpOp P ops Q i (fun a' w' => S (listed.setIfInBounds i true) w' ∧ wpAnyG P md ops Q S fuel (listed.setIfInBounds i true) a' w') a w
def Till (M : List Nat) (C : World → Prop) (l : Array Bool) (w : World) : Prop := (∀ m ∈ M, l.getD m false = false) → C w
def LClosed (md : Region.Mode) (ops : Array Oper) (l : Array Bool) : Prop := ∀ (j : Nat) (o : Oper), ops[j]? = some o → l.getD j false = true → ∀ e ∈ o.after, Region.binds md e = true → l.getD e.on false = true
def waits (md : Region.Mode) (ops : Array Oper) : Nat → Nat → Nat → Bool
 | 0, m, i => m == i
 | n + 1, m, i => m == i || (match ops[m]? with
  | none => false
  | some o => o.after.toList.any (fun e => Region.binds md e && waits md ops n e.on i))
section
variable {P : Program} {ops : Array Oper} {Q : Exit → Act → World → Prop} {md : Region.Mode} {M : List Nat} {C : World → Prop} {fuel : Nat} {listed : Array Bool} {a : Act} {w : World}
theorem waits_listed (hc : LClosed md ops listed) : ∀ (n m i : Nat), waits md ops n m i = true → listed.getD m false = true → listed.getD i false = true
 | 0, m, i, h, hm => by simp [waits] at h; subst h; exact hm
 | n + 1, m, i, h, hm => by
  unfold waits at h
  rw [Bool.or_eq_true] at h
  rcases h with h | h
  ·simp at h; subst h; exact hm
  ·cases ho : ops[m]? with
   | none => rw [ho] at h; cases h
   | some o =>
    rw [ho] at h
    simp only [List.any_eq_true, Bool.and_eq_true] at h
    obtain ⟨e, he, hb, hw⟩ := h
    exact waits_listed hc n e.on i hw (hc m o ho hm e (by simpa using he) hb)
theorem LClosed.next (hc : LClosed md ops listed) {j : Nat} (hj : j ∈ Region.ready md ops listed) : LClosed md ops (listed.setIfInBounds j true) := by
 intro k o ho hk e he hb
 obtain ⟨_, oj, hoj, hall⟩ := mem_ready.1 hj
 by_cases h : j = k
 ·subst h
  rw [hoj] at ho
  cases ho
  exact getD_set_true (hall e he hb)
 ·rw [getD_set_ne false h] at hk
  exact getD_set_true (hc k o ho hk e he hb)
theorem LClosed.none : LClosed md ops (Array.replicate ops.size false) := by
 intro k o ho hk
 rw [Array.getD_eq_getD_getElem?, Array.getElem?_replicate] at hk
 split at hk <;> cases hk
theorem unl {i : Nat} (h : i ∈ Region.ready md ops listed) : listed.getD i false = false := by
 have h0 := (mem_ready.1 h).1
 rw [Array.getD_eq_getD_getElem?] at h0 ⊢
 cases e : listed[i]? with
 | none => rfl
 | some b => rw [e] at h0; exact h0
theorem wpAny_of_G {S : Array Bool → World → Prop} : ∀ (fuel : Nat) (listed : Array Bool) (a : Act) (w : World), wpAnyG P md ops Q S fuel listed a w → wpAny P md ops Q fuel listed a w
 | 0, _, _, _, h => h
 | fuel + 1, _, _, _, h => ⟨h.1, fun i hi => wpOp_mono (fun a' w' h' => wpAny_of_G fuel _ a' w' h'.2) (h.2 i hi)⟩
theorem Till.now {i n : Nat} (hS : Till M C listed w) (hcl : LClosed md ops listed) (hi : listed.getD i false = false) (hM : ∀ m ∈ M, waits md ops n m i = true) : C w :=
 hS (fun m hm => by
  cases e : listed.getD m false
  ·rfl
  ·rw [waits_listed hcl n m i (hM m hm) e] at hi; cases hi)
theorem Till.more (hS : Till M C listed w) (j : Nat) : Till M C (listed.setIfInBounds j true) w := fun hm => hS (fun m hmM => by
  have := hm m hmM
  cases e : listed.getD m false
  ·rfl
  ·rw [getD_set_true e] at this; cases this)
theorem wpAnyG_first {i : Nat} {oi : Oper} {v : Value} (hi : ops[i]? = some oi) (hsel : ∀ (j : Nat) (o : Oper) cs b, ops[j]? = some o → o.op ≠ .select cs b)
  (hQ : ∀ c a w, Q (.panic c) (a.put oi.dst v) w → Q (.panic c) a w) {D : World → Prop} (hD : ∀ (l : Array Bool) w, LClosed md ops l → l.getD i false = false → Till M C l w → D w) (hiM : i ∉ M) :
  ∀ (fuel : Nat) (listed : Array Bool) (a : Act) (w : World),
   (∀ j oj, ops[j]? = some oj → j ≠ i → listed.getD j true = false → (∀ e ∈ oj.after, Region.binds md e = true → e.on ≠ i) → oi.apart ops oj = true) →
   i ∈ Region.ready md ops listed → LClosed md ops listed → YieldsIf P ops D oi v a → Till M C listed w →
   wpAnyG P md ops Q (Till M C) fuel (listed.setIfInBounds i true) (a.put oi.dst v) w → wpAnyG P md ops Q (Till M C) (fuel + 1) listed a w := by
 intro fuel
 induction fuel with
 | zero =>
  intro listed a w _ hr hcl hy hS H
  refine ⟨fun h => (by rw [h] at hr; cases hr), fun j hj => ?_⟩
  by_cases hji : j = i
  ·subst hji
   exact hy.wpOp hi (hD _ _ hcl (unl hr) hS) ⟨hS.more j, H⟩
  ·have := ready_mono hj hji
   rw [H.1] at this
   cases this
 | succ fuel ih =>
  intro listed a w hfree hr hcl hy hS H
  refine ⟨fun h => (by rw [h] at hr; cases hr), fun j hj => ?_⟩
  by_cases hji : j = i
  ·subst hji
   exact hy.wpOp hi (hD _ _ hcl (unl hr) hS) ⟨hS.more j, H⟩
  ·have h1 := H.2 j (ready_mono hj hji)
   obtain ⟨hjun, oj, hoj, hall⟩ := mem_ready.1 hj
   have hnot : ∀ e ∈ oj.after, Region.binds md e = true → e.on ≠ i := fun e he hb heq => by
    have h1 := hall e he hb
    rw [heq, unl hr] at h1
    cases h1
   have h2 := wpOp_putIf hoj (hfree j oj hoj hji hjun hnot) (fun cs b => hsel i oi cs b hi) (fun cs b => hsel j oj cs b hoj) hQ hy h1
   have hfree' : ∀ k ok, ops[k]? = some ok → k ≠ i → (listed.setIfInBounds j true).getD k true = false →
     (∀ e ∈ ok.after, Region.binds md e = true → e.on ≠ i) → oi.apart ops ok = true := fun k ok hk hki hun hno => by
    refine hfree k ok hk hki ?_ hno
    by_cases hjk : j = k
    ·subst hjk; exact hjun
    ·rw [getD_set_ne true hjk] at hun; exact hun
   refine wpOp_mono (fun a' w' h3 => ?_) h2
   obtain ⟨hy', hS', hW⟩ := h3
   have hTl : Till M C (listed.setIfInBounds j true) w' := fun hm => hS' (fun m hmM => by
    have hne : i ≠ m := fun e => hiM (by rw [e]; exact hmM)
    rw [Array.setIfInBounds_comm _ _ (Ne.symm hji), getD_set_ne false hne]
    exact hm m hmM)
   refine ⟨hTl, ih (listed.setIfInBounds j true) a' w' hfree' (ready_mono hr (Ne.symm hji)) (hcl.next hj) hy' hTl ?_⟩
   rw [Array.setIfInBounds_comm _ _ hji]
   exact hW
theorem gg_start {id : Nat} (M : List Nat) (C : World → Prop) (hm : P.follows .mixedOrders = true) (hC : C w.drew) (h : LClosed .any ops (Array.replicate ops.size false) → Till M C (Array.replicate ops.size false) w.drew → wpAnyG P .any ops Q (Till M C) ops.size (Array.replicate ops.size false) a w.drew) : (Code.region id ops true).wp P Q a w :=
 wp_region_any hm (wpAny_of_G _ _ _ _ (h LClosed.none (fun _ => hC)))
theorem ggT (i : Nat) {oi : Oper} {v : Value} {a' : Act} (hcl : LClosed md ops listed) (hS : Till M C listed w)
  (h : LClosed md ops (listed.setIfInBounds i true) → Till M C (listed.setIfInBounds i true) w → wpAnyG P md ops Q (Till M C) fuel (listed.setIfInBounds i true) a' w) (hi : ops.toList[i]? = some oi := by rfl)
  (hc : (Region.noSelect ops && Region.free md ops listed i && (Region.ready md ops listed).contains i && !M.contains i) = true := by kernel_rfl)
  (hQ : ∀ c a w, Q (.panic c) (a.put oi.dst v) w → Q (.panic c) a w := by exact fun _ _ _ h => h) (hw : Region.wanted oi (yielded ops a.tmps) = true := by rfl)
  (hy : ∀ w : World, (execOp a.eval oi).run P w = .ok (.value v) w := by intro w; go_simp; (try with_reducible rfl))
  (ha : a.put oi.dst v = a' := by (try simp only [Act.put, pA, pB, pC]); (try rfl)) : wpAnyG P md ops Q (Till M C) (fuel + 1) listed a w := by
 simp only [Bool.and_eq_true, Bool.not_eq_true'] at hc
 have hr : i ∈ Region.ready md ops listed := by simpa using hc.1.2
 exact wpAnyG_first (D := fun _ => True) (get_toList hi) (Region.noSelect_spec hc.1.1.1) hQ (fun _ _ _ _ _ => trivial) (by simpa using hc.2) fuel listed a w (Region.free_spec (get_toList hi) hc.1.1.2) hr hcl (.inl ⟨hw, fun w _ => hy w⟩) hS (ha ▸ h (hcl.next hr) (hS.more i))
theorem ggL (i : Nat) {oi : Oper} {v : Value} {a' : Act} {D : World → Prop} (hcl : LClosed md ops listed) (hS : Till M C listed w) (hCD : Hid (∀ w, C w → D w))
  (h : LClosed md ops (listed.setIfInBounds i true) → Till M C (listed.setIfInBounds i true) w → wpAnyG P md ops Q (Till M C) fuel (listed.setIfInBounds i true) a' w) (hi : ops.toList[i]? = some oi := by rfl)
  (hc : (Region.noSelect ops && Region.free md ops listed i && (Region.ready md ops listed).contains i && M.all (fun m => waits md ops ops.size m i) && !M.contains i) = true := by kernel_rfl)
  (hQ : ∀ c a w, Q (.panic c) (a.put oi.dst v) w → Q (.panic c) a w := by exact fun _ _ _ h => h) (hw : Region.wanted oi (yielded ops a.tmps) = true := by rfl)
  (hy : ∀ w : World, D w → (execOp a.eval oi).run P w = .ok (.value v) w := by intro w hSw; (try unfold Know at hSw); go_simp; (try with_reducible rfl))
  (ha : a.put oi.dst v = a' := by (try simp only [Act.put, pA, pB, pC]); (try rfl)) : wpAnyG P md ops Q (Till M C) (fuel + 1) listed a w := by
 simp only [Bool.and_eq_true, List.all_eq_true, Bool.not_eq_true'] at hc
 have hr : i ∈ Region.ready md ops listed := by simpa using hc.1.1.2
 exact wpAnyG_first (D := D) (get_toList hi) (Region.noSelect_spec hc.1.1.1.1) hQ (fun l w h1 h2 h3 => hCD.out w (h3.now h1 h2 hc.1.2)) (by simpa using hc.2) fuel listed a w (Region.free_spec (get_toList hi) hc.1.1.1.2) hr hcl (.inl ⟨hw, hy⟩) hS (ha ▸ h (hcl.next hr) (hS.more i))
theorem ggC (i : Nat) {oi : Oper} (hcl : LClosed md ops listed) (hi : ops.toList[i]? = some oi) (hr : Region.ready md ops listed = [i])
  (h : ∀ K' : Act → World → Prop, Shut (∀ a w, Till M C (listed.setIfInBounds i true) w → (LClosed md ops (listed.setIfInBounds i true) → Till M C (listed.setIfInBounds i true) w → wpAnyG P md ops Q (Till M C) fuel (listed.setIfInBounds i true) a w) → K' a w) → if Region.wanted oi (yielded ops a.tmps) = true then Oper.wp P oi a w K' Q else K' (a.put oi.dst undef) w) :
  wpAnyG P md ops Q (Till M C) (fuel + 1) listed a w := by
 refine ⟨fun h0 => (by rw [hr] at h0; cases h0), fun j hj => ?_⟩
 have hji : j = i := by rw [hr] at hj; simpa using hj
 subst hji
 exact wpOp_step (get_toList hi) (fun K' hK => h K' (fun a w hS hW => hK a w ⟨hS, hW (hcl.next hj) hS⟩))
theorem ggEnd {a : Act} (hr : Region.ready md ops listed = []) (h : Q .normal a w) : ∀ fuel, wpAnyG P md ops Q (Till M C) fuel listed a w
 | 0 => ⟨hr, h⟩
 | _ + 1 => ⟨fun _ => h, by rw [hr]; simp⟩
theorem Till.done {m : Nat} (hm : m ∈ M) (h : listed.getD m false = true) : Till M C listed w := fun hall => by rw [hall m hm] at h; cases h
end
end Go.Proofs.YtphmpimgbmedbaaGreat
namespace Go.Proofs.YtphmpimgbmedbaaGreat
open Go.RowKit
open Go.Lib (hid)
theorem row9_back {w : World} {b : Nat} {E : TypeId} {fr : Nat × Nat} {u0 u1 u2 u3 u4 u5 u6 u7 u8 : Value} (v0 v1 v2 v3 v4 v5 v6 v7 v8 : Value) (h : w.heap[b]? = some (.cells #[u0, u1, u2, u3, u4, u5, u6, u7, u8] E fr)) :
  (((((((((w.setCell ⟨b, 0, none⟩ (v0)).setCell ⟨b, 1, none⟩ (v1)).setCell ⟨b, 2, none⟩ (v2)).setCell ⟨b, 3, none⟩ (v3)).setCell ⟨b, 4, none⟩ (v4)).setCell ⟨b, 5, none⟩ (v5)).setCell ⟨b, 6, none⟩ (v6)).setCell ⟨b, 7, none⟩ (v7)).setCell ⟨b, 8, none⟩ (v8)).heap[b]? = some (.cells #[v0, v1, v2, v3, v4, v5, v6, v7, v8] E fr) := by
 have e : (((((((((w.setCell ⟨b, 0, none⟩ (v0)).setCell ⟨b, 1, none⟩ (v1)).setCell ⟨b, 2, none⟩ (v2)).setCell ⟨b, 3, none⟩ (v3)).setCell ⟨b, 4, none⟩ (v4)).setCell ⟨b, 5, none⟩ (v5)).setCell ⟨b, 6, none⟩ (v6)).setCell ⟨b, 7, none⟩ (v7)).setCell ⟨b, 8, none⟩ (v8)) = w.setCells b 0 [v0, v1, v2, v3, v4, v5, v6, v7, v8] := rfl
 rw [e, setCells_heap [v0, v1, v2, v3, v4, v5, v6, v7, v8] 0 w _ h]
 simp [setRow]
set_option maxHeartbeats 400000 in
theorem cpyB_any (a : Option Addr) (la ca : Nat) (xs : List UInt8) (f : List Nat) (w : World) (ha : byteL.sl w a la ca xs f) (hz : la ≤ 140737488355327) :
  Calls Tryz.prog 141 #[.slice a la ca] w (NewSl byteL xs w) := by
 obtain ⟨K, _⟩ := kindB
 have HA := hid ha
 have HZ := hid hz
 have hn := fun w => Lib.run_eql_slice_nil (P := Tryz.prog) w 62 5 a la ca 0 0 Tryz.underlying62
 clear ha hz
 cases a with
 | none =>
  obtain rfl : xs = [] := by apply List.eq_nil_of_length_eq_zero; have := HA.out.1; have := HA.out.2.1; have := HA.out.2.2.2.1 rfl; omega
  go_enter Tryz.func141, Tryz.ntmps141
  go_wp2
  go_ret
  exact ⟨none, 0, [], rfl, nil_sl0 _ _, Fresh.nil _ _, Chg.refl _ _⟩
 | some ad =>
  have HL : Hid (([] : List UInt8).length + xs.length ≤ maxLen ∧ (([] : List UInt8).length + xs.length) * 1 ≤ 140737488355328) := by
   have := HA.out.1; have := HZ.out; have := Lay.sl_max _ HA.out
   refine ⟨?_, ?_⟩
   ·simp only [List.length_nil, maxLen]; omega
   ·simp only [List.length_nil, Nat.zero_add]; omega
  go_enter Tryz.func141, Tryz.ntmps141
  go_wp2_with (refine byteL.wpList_growS byte_flat rfl _ _ 62 rfl Tryz.underlying62 K rfl (Grow.made (Chg.refl [] w)) (Chg.refl [] _) rfl (byteL.sl_ext HA.out ((Chg.refl [] w).alloc _)) HL.out.1 HL.out.2 ?_; intro v' w' hg'; have hN := hid hg'; clear hg')
  go_ret
  obtain ⟨a', c', f', h1, h2, h3, h4⟩ := hN.out.sl
  exact ⟨a', c', f', by rw [h1]; rfl, h2, h3, h4⟩
set_option maxHeartbeats 400000 in
theorem cpyI_any (a : Option Addr) (la ca : Nat) (xs : List Int) (f : List Nat) (w : World) (ha : intL.sl w a la ca xs f) (hz : la ≤ 17592186044415) :
  Calls Tryz.prog 154 #[.slice a la ca] w (NewSl intL xs w) := by
 obtain ⟨K, _⟩ := kindI
 have HA := hid ha
 have HZ := hid hz
 have hn := fun w => Lib.run_eql_slice_nil (P := Tryz.prog) w 25 2 a la ca 0 0 Tryz.underlying25
 clear ha hz
 cases a with
 | none =>
  obtain rfl : xs = [] := by apply List.eq_nil_of_length_eq_zero; have := HA.out.1; have := HA.out.2.1; have := HA.out.2.2.2.1 rfl; omega
  go_enter Tryz.func154, Tryz.ntmps154
  go_wp2
  go_ret
  exact ⟨none, 0, [], rfl, nil_sl0 _ _, Fresh.nil _ _, Chg.refl _ _⟩
 | some ad =>
  have HL : Hid (([] : List Int).length + xs.length ≤ maxLen ∧ (([] : List Int).length + xs.length) * 8 ≤ 140737488355328) := by
   have := HA.out.1; have := HZ.out; have := Lay.sl_max _ HA.out
   refine ⟨?_, ?_⟩
   ·simp only [List.length_nil, maxLen]; omega
   ·simp only [List.length_nil, Nat.zero_add]; omega
  go_enter Tryz.func154, Tryz.ntmps154
  go_wp2_with (refine intL.wpList_growS int_flat rfl _ _ 25 rfl Tryz.underlying25 K rfl (Grow.made (Chg.refl [] w)) (Chg.refl [] _) rfl (intL.sl_ext HA.out ((Chg.refl [] w).alloc _)) HL.out.1 HL.out.2 ?_; intro v' w' hg'; have hN := hid hg'; clear hg')
  go_ret
  obtain ⟨a', c', f', h1, h2, h3, h4⟩ := hN.out.sl
  exact ⟨a', c', f', by rw [h1]; rfl, h2, h3, h4⟩
set_option maxRecDepth 100000 in
set_option maxHeartbeats 2000000 in
theorem cloneRec_any (x : Rec) (cx : Array Value) (fx : List Nat) (w : World) (hx : recL.rep w cx.toList x fx) (hz : totRec x ≤ 1048576) :
  Calls Tryz.prog 122 #[.agg cx] w (NewAgg recL x w) := by
 obtain ⟨a6, l6, c6, f6, a7, l7, c7, f7, a8, l8, c8, f8, ex, o0, o1, o2, o3, o4, o5, h6, h7, h8, -⟩ := recL_iff.1 hx
 obtain rfl := Array.toList_inj.1 (ex.trans (List.toList_toArray).symm)
 have q6 := totIs_nonneg x.rows; have q7 := totBs_nonneg x.data; have q8 := totBs_nonneg x.delta
 unfold totRec totIs totBs at hz
 unfold totIs at q6; unfold totBs at q7 q8
 have z6 : l6 ≤ 1048576 := by rw [h6.1]; omega
 have z7 : l7 ≤ 1048576 := by rw [h7.1]; omega
 have z8 : l8 ≤ 1048576 := by rw [h8.1]; omega
 have HO := hid (And.intro o0 (And.intro o1 (And.intro o2 (And.intro o3 (And.intro o4 o5)))))
 have L6 := hid h6.1.symm; have L7 := hid h7.1.symm; have L8 := hid h8.1.symm
 have H6 := hid h6; have H7 := hid h7; have H8 := hid h8
 clear hx ex hz q6 q7 q8 o0 o1 o2 o3 o4 o5 h6 h7 h8
 have g0 : Chg [] w ((w.alloc (.cells #[.int .i64 x.kind, .int .i64 x.seq, .string x.name, .int .i64 x.length, .int .i64 x.group, .int .i64 x.row, .slice a6 l6 c6, .slice a7 l7 c7, .slice a8 l8 c8] 67)).alloc (.cells #[.int .i64 0, .int .i64 0, .string ⟨#[]⟩, .int .i64 0, .int .i64 0, .int .i64 0, .slice none 0 0, .slice none 0 0, .slice none 0 0] 67)).drew := (((Chg.refl [] w).alloc _).alloc _).drew
 have B1 := hid (show ((w.alloc (.cells #[.int .i64 x.kind, .int .i64 x.seq, .string x.name, .int .i64 x.length, .int .i64 x.group, .int .i64 x.row, .slice a6 l6 c6, .slice a7 l7 c7, .slice a8 l8 c8] 67)).alloc (.cells #[.int .i64 0, .int .i64 0, .string ⟨#[]⟩, .int .i64 0, .int .i64 0, .int .i64 0, .slice none 0 0, .slice none 0 0, .slice none 0 0] 67)).drew.heap[w.heap.size]? = some (.cells #[.int .i64 x.kind, .int .i64 x.seq, .string x.name, .int .i64 x.length, .int .i64 x.group, .int .i64 x.row, .slice a6 l6 c6, .slice a7 l7 c7, .slice a8 l8 c8] 67 (0, 0)) from keep_drew (keep_alloc (new_alloc w _) _))
 have B2 := hid (show ((w.alloc (.cells #[.int .i64 x.kind, .int .i64 x.seq, .string x.name, .int .i64 x.length, .int .i64 x.group, .int .i64 x.row, .slice a6 l6 c6, .slice a7 l7 c7, .slice a8 l8 c8] 67)).alloc (.cells #[.int .i64 0, .int .i64 0, .string ⟨#[]⟩, .int .i64 0, .int .i64 0, .int .i64 0, .slice none 0 0, .slice none 0 0, .slice none 0 0] 67)).drew.heap[w.heap.size + 1]? = some (.cells #[.int .i64 0, .int .i64 0, .string ⟨#[]⟩, .int .i64 0, .int .i64 0, .int .i64 0, .slice none 0 0, .slice none 0 0, .slice none 0 0] 67 (0, 0)) from keep_drew (new_at (by simp) _))
 have hs0 : ((w.alloc (.cells #[.int .i64 x.kind, .int .i64 x.seq, .string x.name, .int .i64 x.length, .int .i64 x.group, .int .i64 x.row, .slice a6 l6 c6, .slice a7 l7 c7, .slice a8 l8 c8] 67)).alloc (.cells #[.int .i64 0, .int .i64 0, .string ⟨#[]⟩, .int .i64 0, .int .i64 0, .int .i64 0, .slice none 0 0, .slice none 0 0, .slice none 0 0] 67)).drew.heap.size = w.heap.size + 2 := by simp [World.drew]
 have G0 := hid g0
 have HS0 := hid hs0
 clear g0 hs0
 go_enter Tryz.func122, Tryz.ntmps122
 go_wp2_with fail
 obtain ⟨CC, HCI, HCO⟩ := rg_cond (fun w' => Know w.heap.size #[.int .i64 x.kind, .int .i64 x.seq, .string x.name, .int .i64 x.length, .int .i64 x.group, .int .i64 x.row, .slice a6 l6 c6, .slice a7 l7 c7, .slice a8 l8 c8] w')
 refine gg_start [10] CC (by kernel_rfl) (HCI.out _ (Know.of B1.out)) (fun hcl hS => ?_)
 refine ggT 0 hcl hS ?_; clear hcl hS; intro hcl hS
 refine ggL 1 hcl hS HCO ?_; clear hcl hS; intro hcl hS
 refine ggT 3 hcl hS ?_; clear hcl hS; intro hcl hS
 refine ggL 4 hcl hS HCO ?_; clear hcl hS; intro hcl hS
 refine ggT 6 hcl hS ?_; clear hcl hS; intro hcl hS
 refine ggL 7 hcl hS HCO ?_; clear hcl hS; intro hcl hS
 refine ggC 2 hcl rfl (by kernel_rfl) (fun K hK => ?_)
 go_simp
 go_at_call 154
 refine (cpyI_any a6 l6 c6 x.rows f6 _ (intL.sl_ext H6.out G0.out) (by omega)).mono ?_; rintro e w1 ⟨p6, d6, g6, rfl, hs, hf, hc⟩
 rw [L6.out] at hs ⊢; have HN1 := hid (And.intro hs (And.intro hf hc)); obtain ⟨-, -, A1⟩ := bk0 hc B1.out; obtain ⟨-, -, A2⟩ := bk0 hc B2.out; clear hs hf hc
 go_wp2_with fail
 refine hK.out _ _ (fun _ => HCI.out _ (Know.of A1.out)) ?_
 clear hK K hcl hS
 intro hcl hS
 try simp only [Act.put, pA, pB, pC]
 refine ggT 9 hcl hS ?_; clear hcl hS; intro hcl hS
 refine ggC 5 hcl rfl (by kernel_rfl) (fun K hK => ?_)
 go_simp
 go_at_call 141
 refine (cpyB_any a7 l7 c7 x.data f7 _ (byteL.sl_ext H7.out (G0.out.trans0 HN1.out.2.2)) (by omega)).mono ?_; rintro e w2 ⟨p7, d7, g7, rfl, hs, hf, hc⟩
 rw [L7.out] at hs ⊢; have HN2 := hid (And.intro hs (And.intro hf hc)); obtain ⟨-, -, A3⟩ := bk0 hc A1.out; obtain ⟨-, -, A4⟩ := bk0 hc A2.out; clear hs hf hc
 go_wp2_with fail
 refine hK.out _ _ (fun _ => HCI.out _ (Know.of A3.out)) ?_
 clear hK K hcl hS
 intro hcl hS
 try simp only [Act.put, pA, pB, pC]
 refine ggC 8 hcl rfl (by kernel_rfl) (fun K hK => ?_)
 go_simp
 go_at_call 141
 refine (cpyB_any a8 l8 c8 x.delta f8 _ (byteL.sl_ext H8.out ((G0.out.trans0 HN1.out.2.2).trans0 HN2.out.2.2)) (by omega)).mono ?_; rintro e w3 ⟨p8, d8, g8, rfl, hs, hf, hc⟩
 rw [L8.out] at hs ⊢; have HN3 := hid (And.intro hs (And.intro hf hc)); obtain ⟨e1, n1, A5⟩ := bk0 hc A3.out; obtain ⟨e2, n2, A6⟩ := bk0 hc A4.out; have fz := freeOf A5.out; have fy := freeOf A6.out; clear hs hf hc
 go_wp2_with fail
 refine hK.out _ _ (fun _ => HCI.out _ (Know.of A5.out)) ?_
 clear hK K hcl hS
 intro hcl hS
 try simp only [Act.put, pA, pB, pC]
 refine ggC 10 hcl rfl (by kernel_rfl) (fun K hK => ?_)
 go_simp
 refine hK.out _ _ (Till.done (m := 10) (by simp) (by rfl)) ?_
 clear hK K hcl hS
 intro hcl hS
 try simp only [Act.put, pA, pB, pC]
 refine ggT 11 hcl hS ?_; clear hcl hS; intro hcl hS
 refine ggC 12 hcl rfl (by kernel_rfl) (fun K hK => ?_)
 go_simp
 refine hK.out _ _ (Till.done (m := 10) (by simp) (by rfl)) ?_
 clear hK K hcl hS
 intro hcl hS
 try simp only [Act.put, pA, pB, pC]
 refine ggT 13 hcl hS ?_; clear hcl hS; intro hcl hS
 refine ggC 14 hcl rfl (by kernel_rfl) (fun K hK => ?_)
 go_simp
 refine hK.out _ _ (Till.done (m := 10) (by simp) (by rfl)) ?_
 clear hK K hcl hS
 intro hcl hS
 try simp only [Act.put, pA, pB, pC]
 refine ggEnd (by kernel_rfl) ?_ _
 go_wp2_with fail
 have hb1 : (((w3.setCell ⟨w.heap.size, 6, none⟩ (.slice p6 l6 d6)).setCell ⟨w.heap.size, 7, none⟩ (.slice p7 l7 d7)).setCell ⟨w.heap.size, 8, none⟩ (.slice p8 l8 d8)).heap[w.heap.size + 1]? = some (.cells #[.int .i64 0, .int .i64 0, .string ⟨#[]⟩, .int .i64 0, .int .i64 0, .int .i64 0, .slice none 0 0, .slice none 0 0, .slice none 0 0] 67 (0, 0)) := keep_set (keep_set (keep_set A6.out _ _ (by simp)) _ _ (by simp)) _ _ (by simp)
 have hq : ((((((((((((w3.setCell ⟨w.heap.size, 6, none⟩ (.slice p6 l6 d6)).setCell ⟨w.heap.size, 7, none⟩ (.slice p7 l7 d7)).setCell ⟨w.heap.size, 8, none⟩ (.slice p8 l8 d8)).setCell ⟨w.heap.size + 1, 0, none⟩ (.int .i64 x.kind)).setCell ⟨w.heap.size + 1, 1, none⟩ (.int .i64 x.seq)).setCell ⟨w.heap.size + 1, 2, none⟩ (.string x.name)).setCell ⟨w.heap.size + 1, 3, none⟩ (.int .i64 x.length)).setCell ⟨w.heap.size + 1, 4, none⟩ (.int .i64 x.group)).setCell ⟨w.heap.size + 1, 5, none⟩ (.int .i64 x.row)).setCell ⟨w.heap.size + 1, 6, none⟩ (.slice p6 l6 d6)).setCell ⟨w.heap.size + 1, 7, none⟩ (.slice p7 l7 d7)).setCell ⟨w.heap.size + 1, 8, none⟩ (.slice p8 l8 d8)).heap[w.heap.size + 1]? = some (.cells #[.int .i64 x.kind, .int .i64 x.seq, .string x.name, .int .i64 x.length, .int .i64 x.group, .int .i64 x.row, .slice p6 l6 d6, .slice p7 l7 d7, .slice p8 l8 d8] 67 (0, 0)) := by
  have h := row9_back (.int .i64 x.kind) (.int .i64 x.seq) (.string x.name) (.int .i64 x.length) (.int .i64 x.group) (.int .i64 x.row) (.slice p6 l6 d6) (.slice p7 l7 d7) (.slice p8 l8 d8) hb1
  exact h
 have hqc := cellsOf hq
 have s1 := HN1.out.2.2.size; have s2 := HN2.out.2.2.size; have s3 := HN3.out.2.2.size
 rw [HS0.out] at s1
 have cS : Chg [w.heap.size, w.heap.size + 1] w3 ((((((((((((w3.setCell ⟨w.heap.size, 6, none⟩ (.slice p6 l6 d6)).setCell ⟨w.heap.size, 7, none⟩ (.slice p7 l7 d7)).setCell ⟨w.heap.size, 8, none⟩ (.slice p8 l8 d8)).setCell ⟨w.heap.size + 1, 0, none⟩ (.int .i64 x.kind)).setCell ⟨w.heap.size + 1, 1, none⟩ (.int .i64 x.seq)).setCell ⟨w.heap.size + 1, 2, none⟩ (.string x.name)).setCell ⟨w.heap.size + 1, 3, none⟩ (.int .i64 x.length)).setCell ⟨w.heap.size + 1, 4, none⟩ (.int .i64 x.group)).setCell ⟨w.heap.size + 1, 5, none⟩ (.int .i64 x.row)).setCell ⟨w.heap.size + 1, 6, none⟩ (.slice p6 l6 d6)).setCell ⟨w.heap.size + 1, 7, none⟩ (.slice p7 l7 d7)).setCell ⟨w.heap.size + 1, 8, none⟩ (.slice p8 l8 d8)) := by
  iterate 12 refine Chg.setCell ?_ _ _ (.inl (by simp))
  exact Chg.refl _ _
 have nb : ∀ g (B : Nat) (W : World), w.heap.size + 2 ≤ B → Fresh B W g → ∀ b ∈ g, b ∉ [w.heap.size, w.heap.size + 1] := fun g B W hB hf b hb hm => by
  have := (hf.2 b hb).1
  simp only [List.mem_cons, List.not_mem_nil, or_false] at hm
  omega
 have n6 := nb g6 _ _ (by rw [HS0.out]; exact Nat.le_refl _) HN1.out.2.1
 have n7 := nb g7 _ _ (by omega) HN2.out.2.1
 have n8 := nb g8 _ _ (by omega) HN3.out.2.1
 have K6 := intL.sl_chg (intL.sl_ext (intL.sl_ext HN1.out.1 HN2.out.2.2) HN3.out.2.2) cS n6
 have K7 := byteL.sl_chg (byteL.sl_ext HN2.out.1 HN3.out.2.2) cS n7
 have K8 := byteL.sl_chg HN3.out.1 cS n8
 have F6 := ((HN1.out.2.1.chg HN2.out.2.2).chg HN3.out.2.2).chg cS
 have F7 := (HN2.out.2.1.chg HN3.out.2.2).chg cS
 have F8 := HN3.out.2.1.chg cS
 have l6' := HN1.out.2.1.low (Nat.le_refl _); have l7' := HN2.out.2.1.low (Nat.le_refl _)
 have hfr := (F6.append (F7.append F8 l7' (by omega)) l6' (by rw [HS0.out]; omega)).mono (C := w.heap.size) (by rw [HS0.out]; omega)
 have hch : Chg [] w ((((((((((((w3.setCell ⟨w.heap.size, 6, none⟩ (.slice p6 l6 d6)).setCell ⟨w.heap.size, 7, none⟩ (.slice p7 l7 d7)).setCell ⟨w.heap.size, 8, none⟩ (.slice p8 l8 d8)).setCell ⟨w.heap.size + 1, 0, none⟩ (.int .i64 x.kind)).setCell ⟨w.heap.size + 1, 1, none⟩ (.int .i64 x.seq)).setCell ⟨w.heap.size + 1, 2, none⟩ (.string x.name)).setCell ⟨w.heap.size + 1, 3, none⟩ (.int .i64 x.length)).setCell ⟨w.heap.size + 1, 4, none⟩ (.int .i64 x.group)).setCell ⟨w.heap.size + 1, 5, none⟩ (.int .i64 x.row)).setCell ⟨w.heap.size + 1, 6, none⟩ (.slice p6 l6 d6)).setCell ⟨w.heap.size + 1, 7, none⟩ (.slice p7 l7 d7)).setCell ⟨w.heap.size + 1, 8, none⟩ (.slice p8 l8 d8)) := (((G0.out.trans0 HN1.out.2.2).trans0 HN2.out.2.2).trans0 HN3.out.2.2).trans cS (fun y hy => .inr (by simp only [List.mem_cons, List.not_mem_nil, or_false] at hy; omega))
 refine bodyPost_ret (v := .agg #[.int .i64 x.kind, .int .i64 x.seq, .string x.name, .int .i64 x.length, .int .i64 x.group, .int .i64 x.row, .slice p6 l6 d6, .slice p7 l7 d7, .slice p8 l8 d8]) (by simp [results, Tryz.results122, go_sem, hqc]) rfl ⟨_, _, rfl, recL_iff.2 ⟨p6, l6, d6, g6, p7, l7, d7, g7, p8, l8, d8, g8, rfl, HO.out.1, HO.out.2.1, HO.out.2.2.1, HO.out.2.2.2.1, HO.out.2.2.2.2.1, HO.out.2.2.2.2.2, K6, K7, K8, rfl⟩, hfr, hch⟩
end Go.Proofs.YtphmpimgbmedbaaGreat
