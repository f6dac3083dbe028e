
/- The program's NewWorld returns what the reference returns, leaves its arguments and shares no memory, for all arguments: the law FnExactNewWorld returns true.
Conditions: none. -/
import Derived.Test.YtnnhopcjlnnchaaRows
import Derived.Test.YtnnhopcjlnnchaaAt
import Derived.Test.YtnnhopcjlnnchaaWrl
import Derived.Test.YtnnhopcjlnnchaaNwb
import Derived.Test.YtnnhopcjlnnchaaNwc
import Derived.ShutString
import Derived.ChangeOld
namespace Go.Proofs.Ytnnhopcjlnnchaa
open Go.ChangeShapes Go.WideShapes Go.ChangeAt Go.RowKit

theorem infoWRl : (Try.prog.info? 31).map (fun i => i.size) = some 16 := by kernel_rfl
theorem infoLS : (Try.prog.info? 23).map (fun i => i.size) = some 9 := by kernel_rfl
set_option maxRecDepth 100000 in
set_option maxHeartbeats 4000000 in
theorem walk_FnExactNewWorld (W : World) (cs0 : Array Value) (x0 : Shp) (fp0 : List Nat) (o0 : shpL.rep W cs0.toList x0 fp0) :
    Calls Try.prog 3 #[.agg cs0] W fun e w' => e = .returned (.bool true) ∧ Chg [] W w' := by
  have HC : RowKit.Hid (Chg [] W W) := Chg.refl _ _
  obtain ⟨ex0, -⟩ := shpL_iff.1 o0
  obtain rfl := Array.toList_inj.1 (ex0.trans (List.toList_toArray).symm)
  clear ex0 o0
  obtain ⟨r, hr⟩ : ∃ r, r = newR x0 := ⟨_, rfl⟩
  have HS : RowKit.Hid (∀ (w : World), Calls Try.prog 5 #[.agg #[.int .i64 x0.groups, .int .i64 x0.column, .int .i64 x0.data, .int .i64 x0.spare, .int .i64 x0.rows, .int .i64 x0.cap, .int .i64 x0.batch, .int .i64 x0.queue, .int .i64 x0.stage]] w (NewAgg wrsL r w)) := by rw [hr]; exact fun w => spec_NewWorld x0 w
  have HI : RowKit.Hid (∀ (w : World), Calls Try.prog 7 #[.agg #[.int .i64 x0.groups, .int .i64 x0.column, .int .i64 x0.data, .int .i64 x0.spare, .int .i64 x0.rows, .int .i64 x0.cap, .int .i64 x0.batch, .int .i64 x0.queue, .int .i64 x0.stage]] w (NewAgg wrsL r w)) := by rw [hr]; exact fun w => impl_NewWorld x0 w
  have HR := Lib.hid hr; clear hr
  obtain ⟨K, hK⟩ : ∃ K, K = cntWld r.world := ⟨_, rfl⟩
  have hn : 0 ≤ K := by rw [hK]; exact cntWld_nonneg r.world
  have HK := Lib.hid hK; clear hK
  go_enter Try.func3, Try.ntmps3
  have hle : K ≤ 4611686018427387000 := by
    have hb := cntNewR x0
    rw [HK.out, HR.out]; omega
  go_wp2_with (first | (refine load_wide (b := W.heap.size) rfl _ 23 rfl rfl infoLS Try.underlying23 (new_at (by simp) _) rfl ?_) | (refine store_new rfl _ _ 31 rfl rfl rfl (by simp) infoWRl rfl rfl rfl ?_) | (refine store_new rfl _ _ 23 rfl rfl rfl (by simp) infoLS rfl rfl rfl ?_))
  refine (toShape_any x0 _).mono ?_
  rintro e w1 ⟨rfl, hc⟩
  obtain ⟨cA0, lA0, HBA0⟩ := bk hc (b := W.heap.size) (new_at (by simp) _) (by simp)
  have h := Chg.trans0 (Chg.alloc HC.out _) hc; clear HC; have HC := Lib.hid h; clear h
  clear hc
  go_wp2_with (first | (refine load_wide rfl _ 23 rfl rfl infoLS Try.underlying23 HBA0.out rfl ?_) | (refine store_new rfl _ _ 31 rfl rfl rfl (by simp) infoWRl rfl rfl rfl ?_) | (refine store_new rfl _ _ 23 rfl rfl rfl (by simp) infoLS rfl rfl rfl ?_))
  refine (HS.out  _  ).mono ?_
  rintro e w2 ⟨z2, p2, rfl, hs, hf, hc⟩
  obtain ⟨a10r2, l10r2, c10r2, a11r2, l11r2, c11r2, a12r2, l12r2, c12r2, rfl, -, -⟩ := wrs_open hs
  have hG := fun (x : Nat) (hx : x ∈ p2) => Nat.le_trans HC.out.size (hf.2 x hx).1
  have HGQ := Lib.hid hG; clear hG
  have DBA0_Q := Lib.hid (fun hb => Nat.lt_irrefl _ (Nat.lt_of_lt_of_le (ltOf (show w1.heap[W.heap.size]? = some (.cells #[.int .i64 x0.groups, .int .i64 x0.column, .int .i64 x0.data, .int .i64 x0.spare, .int .i64 x0.rows, .int .i64 x0.cap, .int .i64 x0.batch, .int .i64 x0.queue, .int .i64 x0.stage] 23) from (by exact HBA0.out))) (hf.2 _ hb).1) : W.heap.size ∉ p2)
  have h := bk hc HBA0.out (by simp); clear HBA0 cA0 lA0; obtain ⟨cA0, lA0, HBA0⟩ := h
  replace HC := hct HC hc
  have HQ := Lib.hid hs; have HFQ := Lib.hid (hf.mono (Nat.zero_le _)); clear hs hf
  clear hc
  go_wp2_with (first | (refine load_wide rfl _ 23 rfl rfl infoLS Try.underlying23 HBA0.out rfl ?_) | (refine load_wide (b := w2.heap.size) rfl _ 31 rfl rfl infoWRl Try.underlying31 (new_at (by simp) _) rfl ?_) | (refine store_new rfl _ _ 31 rfl rfl rfl (by simp) infoWRl rfl rfl rfl ?_) | (refine store_new rfl _ _ 23 rfl rfl rfl (by simp) infoLS rfl rfl rfl ?_))
  refine (toShape_any x0 _).mono ?_
  rintro e w3 ⟨rfl, hc⟩
  have DBBQ_Q := Lib.hid (fun hb => Nat.lt_irrefl _ (Nat.lt_of_lt_of_le ((Lay.lt wrsL HQ.out) _ hb) (show w2.heap.size ≤ w2.heap.size by omega)) : w2.heap.size ∉ p2)
  have h := (Lay.ext wrsL (Lay.ext wrsL HQ.out (Chg.alloc (Chg.refl [] w2) _)) hc); clear HQ; have HQ := Lib.hid h; clear h
  have h := Fresh.chg (HFQ.out.chg (Chg.alloc (Chg.refl [] w2) _)) hc; clear HFQ; have HFQ := Lib.hid h; clear h
  have h := bk hc (keep_alloc HBA0.out _) (by simp); clear HBA0 cA0 lA0; obtain ⟨cA0, lA0, HBA0⟩ := h
  obtain ⟨cBQ, lBQ, HBBQ⟩ := bk hc (b := w2.heap.size) (new_at (by simp) _) (by simp)
  have h := Chg.trans0 (Chg.alloc HC.out _) hc; clear HC; have HC := Lib.hid h; clear h
  clear hc
  go_wp2_with (first | (refine load_wide rfl _ 23 rfl rfl infoLS Try.underlying23 HBA0.out rfl ?_) | (refine load_wide rfl _ 31 rfl rfl infoWRl Try.underlying31 HBBQ.out rfl ?_) | (refine store_new rfl _ _ 31 rfl rfl rfl (by simp) infoWRl rfl rfl rfl ?_) | (refine store_new rfl _ _ 23 rfl rfl rfl (by simp) infoLS rfl rfl rfl ?_))
  refine (HI.out  _  ).mono ?_
  rintro e w4 ⟨z4, p4, rfl, hs, hf, hc⟩
  obtain ⟨a10r4, l10r4, c10r4, a11r4, l11r4, c11r4, a12r4, l12r4, c12r4, rfl, -, -⟩ := wrs_open hs
  have hG := fun (x : Nat) (hx : x ∈ p4) => Nat.le_trans HC.out.size (hf.2 x hx).1
  have HGP := Lib.hid hG; clear hG
  have hD := fun (b : Nat) (hb : b ∈ p2) (hb' : b ∈ p4) => Nat.lt_irrefl _ (Nat.lt_of_lt_of_le ((Lay.lt wrsL HQ.out) b hb) (hf.2 b hb').1)
  have DQ_P := Lib.hid hD; have DP_Q := Lib.hid (fun (b : Nat) (hb : b ∈ p4) (hb' : b ∈ p2) => hD b hb' hb); clear hD
  have DBA0_P := Lib.hid (fun hb => Nat.lt_irrefl _ (Nat.lt_of_lt_of_le (ltOf (show w3.heap[W.heap.size]? = some (.cells #[.int .i64 x0.groups, .int .i64 x0.column, .int .i64 x0.data, .int .i64 x0.spare, .int .i64 x0.rows, .int .i64 x0.cap, .int .i64 x0.batch, .int .i64 x0.queue, .int .i64 x0.stage] 23) from (by exact HBA0.out))) (hf.2 _ hb).1) : W.heap.size ∉ p4)
  have DBBQ_P := Lib.hid (fun hb => Nat.lt_irrefl _ (Nat.lt_of_lt_of_le (ltOf (show w3.heap[w2.heap.size]? = some (.cells #[.int .i64 r.code, .int .i64 r.world.shape.groups, .int .i64 r.world.shape.column, .int .i64 r.world.shape.data, .int .i64 r.world.shape.spare, .int .i64 r.world.shape.rows, .int .i64 r.world.shape.cap, .int .i64 r.world.shape.batch, .int .i64 r.world.shape.queue, .int .i64 r.world.shape.stage, .slice a10r2 l10r2 c10r2, .slice a11r2 l11r2 c11r2, .slice a12r2 l12r2 c12r2, .int .i64 r.world.writes, .int .i64 r.world.stop, .bool r.world.down] 31) from (by exact HBBQ.out))) (hf.2 _ hb).1) : w2.heap.size ∉ p4)
  replace HQ := hre HQ hc
  have h := Fresh.chg HFQ.out hc; clear HFQ; have HFQ := Lib.hid h; clear h
  have h := bk hc HBA0.out (by simp); clear HBA0 cA0 lA0; obtain ⟨cA0, lA0, HBA0⟩ := h
  have h := bk hc HBBQ.out (by simp); clear HBBQ cBQ lBQ; obtain ⟨cBQ, lBQ, HBBQ⟩ := h
  replace HC := hct HC hc
  have HP := Lib.hid hs; have HFP := Lib.hid (hf.mono (Nat.zero_le _)); clear hs hf
  clear hc
  go_wp2_with (first | (refine load_wide rfl _ 23 rfl rfl infoLS Try.underlying23 HBA0.out rfl ?_) | (refine load_wide rfl _ 31 rfl rfl infoWRl Try.underlying31 HBBQ.out rfl ?_) | (refine load_wide (b := w4.heap.size) rfl _ 31 rfl rfl infoWRl Try.underlying31 (new_at (by simp) _) rfl ?_) | (refine store_new rfl _ _ 31 rfl rfl rfl (by simp) infoWRl rfl rfl rfl ?_) | (refine store_new rfl _ _ 23 rfl rfl rfl (by simp) infoLS rfl rfl rfl ?_))
  refine (eqWorldResult_any r #[.int .i64 r.code, .int .i64 r.world.shape.groups, .int .i64 r.world.shape.column, .int .i64 r.world.shape.data, .int .i64 r.world.shape.spare, .int .i64 r.world.shape.rows, .int .i64 r.world.shape.cap, .int .i64 r.world.shape.batch, .int .i64 r.world.shape.queue, .int .i64 r.world.shape.stage, .slice a10r4 l10r4 c10r4, .slice a11r4 l11r4 c11r4, .slice a12r4 l12r4 c12r4, .int .i64 r.world.writes, .int .i64 r.world.stop, .bool r.world.down] #[.int .i64 r.code, .int .i64 r.world.shape.groups, .int .i64 r.world.shape.column, .int .i64 r.world.shape.data, .int .i64 r.world.shape.spare, .int .i64 r.world.shape.rows, .int .i64 r.world.shape.cap, .int .i64 r.world.shape.batch, .int .i64 r.world.shape.queue, .int .i64 r.world.shape.stage, .slice a10r2 l10r2 c10r2, .slice a11r2 l11r2 c11r2, .slice a12r2 l12r2 c12r2, .int .i64 r.world.writes, .int .i64 r.world.stop, .bool r.world.down] p4 p2 _ (Lay.ext wrsL HP.out (Chg.alloc (Chg.refl [] w4) _)) (Lay.ext wrsL HQ.out (Chg.alloc (Chg.refl [] w4) _))).mono ?_
  rintro e w5 ⟨rfl, hc⟩
  have DBBP_Q := Lib.hid (fun hb => Nat.lt_irrefl _ (Nat.lt_of_lt_of_le ((Lay.lt wrsL HQ.out) _ hb) (show w4.heap.size ≤ w4.heap.size by omega)) : w4.heap.size ∉ p2)
  have DBBP_P := Lib.hid (fun hb => Nat.lt_irrefl _ (Nat.lt_of_lt_of_le ((Lay.lt wrsL HP.out) _ hb) (show w4.heap.size ≤ w4.heap.size by omega)) : w4.heap.size ∉ p4)
  have h := (Lay.ext wrsL (Lay.ext wrsL HQ.out (Chg.alloc (Chg.refl [] w4) _)) hc); clear HQ; have HQ := Lib.hid h; clear h
  have h := (Lay.ext wrsL (Lay.ext wrsL HP.out (Chg.alloc (Chg.refl [] w4) _)) hc); clear HP; have HP := Lib.hid h; clear h
  have h := Fresh.chg (HFQ.out.chg (Chg.alloc (Chg.refl [] w4) _)) hc; clear HFQ; have HFQ := Lib.hid h; clear h
  have h := Fresh.chg (HFP.out.chg (Chg.alloc (Chg.refl [] w4) _)) hc; clear HFP; have HFP := Lib.hid h; clear h
  have h := bk hc (keep_alloc HBA0.out _) (by simp); clear HBA0 cA0 lA0; obtain ⟨cA0, lA0, HBA0⟩ := h
  have h := bk hc (keep_alloc HBBQ.out _) (by simp); clear HBBQ cBQ lBQ; obtain ⟨cBQ, lBQ, HBBQ⟩ := h
  obtain ⟨cBP, lBP, HBBP⟩ := bk hc (b := w4.heap.size) (new_at (by simp) _) (by simp)
  have h := Chg.trans0 (Chg.alloc HC.out _) hc; clear HC; have HC := Lib.hid h; clear h
  clear hc
  go_wp2_with (first | (refine load_wide rfl _ 23 rfl rfl infoLS Try.underlying23 HBA0.out rfl ?_) | (refine load_wide rfl _ 31 rfl rfl infoWRl Try.underlying31 HBBQ.out rfl ?_) | (refine load_wide rfl _ 31 rfl rfl infoWRl Try.underlying31 HBBP.out rfl ?_) | (refine store_new rfl _ _ 31 rfl rfl rfl (by simp) infoWRl rfl rfl rfl ?_) | (refine store_new rfl _ _ 23 rfl rfl rfl (by simp) infoLS rfl rfl rfl ?_))
  refine (markWorldResult_any r #[.int .i64 r.code, .int .i64 r.world.shape.groups, .int .i64 r.world.shape.column, .int .i64 r.world.shape.data, .int .i64 r.world.shape.spare, .int .i64 r.world.shape.rows, .int .i64 r.world.shape.cap, .int .i64 r.world.shape.batch, .int .i64 r.world.shape.queue, .int .i64 r.world.shape.stage, .slice a10r4 l10r4 c10r4, .slice a11r4 l11r4 c11r4, .slice a12r4 l12r4 c12r4, .int .i64 r.world.writes, .int .i64 r.world.stop, .bool r.world.down] p4 1 _ HP.out HFP.out (by omega) (by rw [← HK.out]; omega)).mono ?_
  rintro e w6 ⟨rfl, hs, hc⟩
  rw [← HK.out]
  have h := (Lay.chg wrsL HQ.out hc DQ_P.out); clear HQ; have HQ := Lib.hid h; clear h
  have h := Fresh.chg HFQ.out hc; clear HFQ; have HFQ := Lib.hid h; clear h
  have h := Fresh.chg HFP.out hc; clear HFP; have HFP := Lib.hid h; clear h
  have h := bk hc HBA0.out DBA0_P.out; clear HBA0 cA0 lA0; obtain ⟨cA0, lA0, HBA0⟩ := h
  have h := bk hc HBBQ.out DBBQ_P.out; clear HBBQ cBQ lBQ; obtain ⟨cBQ, lBQ, HBBQ⟩ := h
  have h := bk hc HBBP.out DBBP_P.out; clear HBBP cBP lBP; obtain ⟨cBP, lBP, HBBP⟩ := h
  have h := Chg.trans HC.out hc (fun x hx => .inr (HGP.out x hx)); clear HC; have HC := Lib.hid h; clear h
  clear HP; have HP := Lib.hid hs
  clear hs
  clear hc
  have hq : ¬ ((1 : Int) + K < 0) := by omega
  have hqq : (((1 : Int) + K) != 1 + K) = false := by simp
  go_wp2_with (first | (refine load_wide rfl _ 23 rfl rfl infoLS Try.underlying23 HBA0.out rfl ?_) | (refine load_wide rfl _ 31 rfl rfl infoWRl Try.underlying31 HBBQ.out rfl ?_) | (refine load_wide rfl _ 31 rfl rfl infoWRl Try.underlying31 HBBP.out rfl ?_) | (refine store_new rfl _ _ 31 rfl rfl rfl (by simp) infoWRl rfl rfl rfl ?_) | (refine store_new rfl _ _ 23 rfl rfl rfl (by simp) infoLS rfl rfl rfl ?_))
  refine (heldWorldResult_any r #[.int .i64 r.code, .int .i64 r.world.shape.groups, .int .i64 r.world.shape.column, .int .i64 r.world.shape.data, .int .i64 r.world.shape.spare, .int .i64 r.world.shape.rows, .int .i64 r.world.shape.cap, .int .i64 r.world.shape.batch, .int .i64 r.world.shape.queue, .int .i64 r.world.shape.stage, .slice a10r4 l10r4 c10r4, .slice a11r4 l11r4 c11r4, .slice a12r4 l12r4 c12r4, .int .i64 r.world.writes, .int .i64 r.world.stop, .bool r.world.down] p4 1 _ HP.out (by omega) (by rw [← HK.out]; omega)).mono ?_
  rintro e w7 ⟨rfl, hc⟩
  rw [← HK.out]
  replace HQ := hre HQ hc
  replace HP := hre HP hc
  have h := Fresh.chg HFQ.out hc; clear HFQ; have HFQ := Lib.hid h; clear h
  have h := Fresh.chg HFP.out hc; clear HFP; have HFP := Lib.hid h; clear h
  have h := bk hc HBA0.out (by simp); clear HBA0 cA0 lA0; obtain ⟨cA0, lA0, HBA0⟩ := h
  have h := bk hc HBBQ.out (by simp); clear HBBQ cBQ lBQ; obtain ⟨cBQ, lBQ, HBBQ⟩ := h
  have h := bk hc HBBP.out (by simp); clear HBBP cBP lBP; obtain ⟨cBP, lBP, HBBP⟩ := h
  replace HC := hct HC hc
  clear hc
  go_wp2_with (first | (refine load_wide rfl _ 23 rfl rfl infoLS Try.underlying23 HBA0.out rfl ?_) | (refine load_wide rfl _ 31 rfl rfl infoWRl Try.underlying31 HBBQ.out rfl ?_) | (refine load_wide rfl _ 31 rfl rfl infoWRl Try.underlying31 HBBP.out rfl ?_) | (refine store_new rfl _ _ 31 rfl rfl rfl (by simp) infoWRl rfl rfl rfl ?_) | (refine store_new rfl _ _ 23 rfl rfl rfl (by simp) infoLS rfl rfl rfl ?_))
  refine (toShape_any x0 _).mono ?_
  rintro e w8 ⟨rfl, hc⟩
  replace HQ := hre HQ hc
  replace HP := hre HP hc
  have h := Fresh.chg HFQ.out hc; clear HFQ; have HFQ := Lib.hid h; clear h
  have h := Fresh.chg HFP.out hc; clear HFP; have HFP := Lib.hid h; clear h
  have h := bk hc HBA0.out (by simp); clear HBA0 cA0 lA0; obtain ⟨cA0, lA0, HBA0⟩ := h
  have h := bk hc HBBQ.out (by simp); clear HBBQ cBQ lBQ; obtain ⟨cBQ, lBQ, HBBQ⟩ := h
  have h := bk hc HBBP.out (by simp); clear HBBP cBP lBP; obtain ⟨cBP, lBP, HBBP⟩ := h
  replace HC := hct HC hc
  clear hc
  go_wp2_with (first | (refine load_wide rfl _ 23 rfl rfl infoLS Try.underlying23 HBA0.out rfl ?_) | (refine load_wide rfl _ 31 rfl rfl infoWRl Try.underlying31 HBBQ.out rfl ?_) | (refine load_wide rfl _ 31 rfl rfl infoWRl Try.underlying31 HBBP.out rfl ?_) | (refine store_new rfl _ _ 31 rfl rfl rfl (by simp) infoWRl rfl rfl rfl ?_) | (refine store_new rfl _ _ 23 rfl rfl rfl (by simp) infoLS rfl rfl rfl ?_))
  refine (HI.out  _  ).mono ?_
  rintro e w9 ⟨z9, p9, rfl, hs, hf, hc⟩
  obtain ⟨a10r9, l10r9, c10r9, a11r9, l11r9, c11r9, a12r9, l12r9, c12r9, rfl, -, -⟩ := wrs_open hs
  have hG := fun (x : Nat) (hx : x ∈ p9) => Nat.le_trans HC.out.size (hf.2 x hx).1
  have HGN := Lib.hid hG; clear hG
  have hD := fun (b : Nat) (hb : b ∈ p2) (hb' : b ∈ p9) => Nat.lt_irrefl _ (Nat.lt_of_lt_of_le ((Lay.lt wrsL HQ.out) b hb) (hf.2 b hb').1)
  have DQ_N := Lib.hid hD; have DN_Q := Lib.hid (fun (b : Nat) (hb : b ∈ p9) (hb' : b ∈ p2) => hD b hb' hb); clear hD
  have hD := fun (b : Nat) (hb : b ∈ p4) (hb' : b ∈ p9) => Nat.lt_irrefl _ (Nat.lt_of_lt_of_le ((Lay.lt wrsL HP.out) b hb) (hf.2 b hb').1)
  have DP_N := Lib.hid hD; have DN_P := Lib.hid (fun (b : Nat) (hb : b ∈ p9) (hb' : b ∈ p4) => hD b hb' hb); clear hD
  have DBA0_N := Lib.hid (fun hb => Nat.lt_irrefl _ (Nat.lt_of_lt_of_le (ltOf (show w8.heap[W.heap.size]? = some (.cells #[.int .i64 x0.groups, .int .i64 x0.column, .int .i64 x0.data, .int .i64 x0.spare, .int .i64 x0.rows, .int .i64 x0.cap, .int .i64 x0.batch, .int .i64 x0.queue, .int .i64 x0.stage] 23) from (by exact HBA0.out))) (hf.2 _ hb).1) : W.heap.size ∉ p9)
  have DBBQ_N := Lib.hid (fun hb => Nat.lt_irrefl _ (Nat.lt_of_lt_of_le (ltOf (show w8.heap[w2.heap.size]? = some (.cells #[.int .i64 r.code, .int .i64 r.world.shape.groups, .int .i64 r.world.shape.column, .int .i64 r.world.shape.data, .int .i64 r.world.shape.spare, .int .i64 r.world.shape.rows, .int .i64 r.world.shape.cap, .int .i64 r.world.shape.batch, .int .i64 r.world.shape.queue, .int .i64 r.world.shape.stage, .slice a10r2 l10r2 c10r2, .slice a11r2 l11r2 c11r2, .slice a12r2 l12r2 c12r2, .int .i64 r.world.writes, .int .i64 r.world.stop, .bool r.world.down] 31) from (by exact HBBQ.out))) (hf.2 _ hb).1) : w2.heap.size ∉ p9)
  have DBBP_N := Lib.hid (fun hb => Nat.lt_irrefl _ (Nat.lt_of_lt_of_le (ltOf (show w8.heap[w4.heap.size]? = some (.cells #[.int .i64 r.code, .int .i64 r.world.shape.groups, .int .i64 r.world.shape.column, .int .i64 r.world.shape.data, .int .i64 r.world.shape.spare, .int .i64 r.world.shape.rows, .int .i64 r.world.shape.cap, .int .i64 r.world.shape.batch, .int .i64 r.world.shape.queue, .int .i64 r.world.shape.stage, .slice a10r4 l10r4 c10r4, .slice a11r4 l11r4 c11r4, .slice a12r4 l12r4 c12r4, .int .i64 r.world.writes, .int .i64 r.world.stop, .bool r.world.down] 31) from (by exact HBBP.out))) (hf.2 _ hb).1) : w4.heap.size ∉ p9)
  replace HQ := hre HQ hc
  replace HP := hre HP hc
  have h := Fresh.chg HFQ.out hc; clear HFQ; have HFQ := Lib.hid h; clear h
  have h := Fresh.chg HFP.out hc; clear HFP; have HFP := Lib.hid h; clear h
  have h := bk hc HBA0.out (by simp); clear HBA0 cA0 lA0; obtain ⟨cA0, lA0, HBA0⟩ := h
  have h := bk hc HBBQ.out (by simp); clear HBBQ cBQ lBQ; obtain ⟨cBQ, lBQ, HBBQ⟩ := h
  have h := bk hc HBBP.out (by simp); clear HBBP cBP lBP; obtain ⟨cBP, lBP, HBBP⟩ := h
  replace HC := hct HC hc
  have HN := Lib.hid hs; have HFN := Lib.hid (hf.mono (Nat.zero_le _)); clear hs hf
  clear hc
  go_wp2_with (first | (refine load_wide rfl _ 23 rfl rfl infoLS Try.underlying23 HBA0.out rfl ?_) | (refine load_wide rfl _ 31 rfl rfl infoWRl Try.underlying31 HBBQ.out rfl ?_) | (refine load_wide rfl _ 31 rfl rfl infoWRl Try.underlying31 HBBP.out rfl ?_) | (refine load_wide (b := w9.heap.size) rfl _ 31 rfl rfl infoWRl Try.underlying31 (new_at (by simp) _) rfl ?_) | (refine store_new rfl _ _ 31 rfl rfl rfl (by simp) infoWRl rfl rfl rfl ?_) | (refine store_new rfl _ _ 23 rfl rfl rfl (by simp) infoLS rfl rfl rfl ?_))
  refine (eqWorldResult_any r #[.int .i64 r.code, .int .i64 r.world.shape.groups, .int .i64 r.world.shape.column, .int .i64 r.world.shape.data, .int .i64 r.world.shape.spare, .int .i64 r.world.shape.rows, .int .i64 r.world.shape.cap, .int .i64 r.world.shape.batch, .int .i64 r.world.shape.queue, .int .i64 r.world.shape.stage, .slice a10r9 l10r9 c10r9, .slice a11r9 l11r9 c11r9, .slice a12r9 l12r9 c12r9, .int .i64 r.world.writes, .int .i64 r.world.stop, .bool r.world.down] #[.int .i64 r.code, .int .i64 r.world.shape.groups, .int .i64 r.world.shape.column, .int .i64 r.world.shape.data, .int .i64 r.world.shape.spare, .int .i64 r.world.shape.rows, .int .i64 r.world.shape.cap, .int .i64 r.world.shape.batch, .int .i64 r.world.shape.queue, .int .i64 r.world.shape.stage, .slice a10r2 l10r2 c10r2, .slice a11r2 l11r2 c11r2, .slice a12r2 l12r2 c12r2, .int .i64 r.world.writes, .int .i64 r.world.stop, .bool r.world.down] p9 p2 _ (Lay.ext wrsL HN.out (Chg.alloc (Chg.refl [] w9) _)) (Lay.ext wrsL HQ.out (Chg.alloc (Chg.refl [] w9) _))).mono ?_
  rintro e w10 ⟨rfl, hc⟩
  have DBBN_Q := Lib.hid (fun hb => Nat.lt_irrefl _ (Nat.lt_of_lt_of_le ((Lay.lt wrsL HQ.out) _ hb) (show w9.heap.size ≤ w9.heap.size by omega)) : w9.heap.size ∉ p2)
  have DBBN_P := Lib.hid (fun hb => Nat.lt_irrefl _ (Nat.lt_of_lt_of_le ((Lay.lt wrsL HP.out) _ hb) (show w9.heap.size ≤ w9.heap.size by omega)) : w9.heap.size ∉ p4)
  have DBBN_N := Lib.hid (fun hb => Nat.lt_irrefl _ (Nat.lt_of_lt_of_le ((Lay.lt wrsL HN.out) _ hb) (show w9.heap.size ≤ w9.heap.size by omega)) : w9.heap.size ∉ p9)
  have h := (Lay.ext wrsL (Lay.ext wrsL HQ.out (Chg.alloc (Chg.refl [] w9) _)) hc); clear HQ; have HQ := Lib.hid h; clear h
  have h := (Lay.ext wrsL (Lay.ext wrsL HP.out (Chg.alloc (Chg.refl [] w9) _)) hc); clear HP; have HP := Lib.hid h; clear h
  have h := (Lay.ext wrsL (Lay.ext wrsL HN.out (Chg.alloc (Chg.refl [] w9) _)) hc); clear HN; have HN := Lib.hid h; clear h
  have h := Fresh.chg (HFQ.out.chg (Chg.alloc (Chg.refl [] w9) _)) hc; clear HFQ; have HFQ := Lib.hid h; clear h
  have h := Fresh.chg (HFP.out.chg (Chg.alloc (Chg.refl [] w9) _)) hc; clear HFP; have HFP := Lib.hid h; clear h
  have h := Fresh.chg (HFN.out.chg (Chg.alloc (Chg.refl [] w9) _)) hc; clear HFN; have HFN := Lib.hid h; clear h
  have h := bk hc (keep_alloc HBA0.out _) (by simp); clear HBA0 cA0 lA0; obtain ⟨cA0, lA0, HBA0⟩ := h
  have h := bk hc (keep_alloc HBBQ.out _) (by simp); clear HBBQ cBQ lBQ; obtain ⟨cBQ, lBQ, HBBQ⟩ := h
  have h := bk hc (keep_alloc HBBP.out _) (by simp); clear HBBP cBP lBP; obtain ⟨cBP, lBP, HBBP⟩ := h
  obtain ⟨cBN, lBN, HBBN⟩ := bk hc (b := w9.heap.size) (new_at (by simp) _) (by simp)
  have h := Chg.trans0 (Chg.alloc HC.out _) hc; clear HC; have HC := Lib.hid h; clear h
  clear hc
  go_wp2_with (first | (refine load_wide rfl _ 23 rfl rfl infoLS Try.underlying23 HBA0.out rfl ?_) | (refine load_wide rfl _ 31 rfl rfl infoWRl Try.underlying31 HBBQ.out rfl ?_) | (refine load_wide rfl _ 31 rfl rfl infoWRl Try.underlying31 HBBP.out rfl ?_) | (refine load_wide rfl _ 31 rfl rfl infoWRl Try.underlying31 HBBN.out rfl ?_) | (refine store_new rfl _ _ 31 rfl rfl rfl (by simp) infoWRl rfl rfl rfl ?_) | (refine store_new rfl _ _ 23 rfl rfl rfl (by simp) infoLS rfl rfl rfl ?_))
  refine (heldWorldResult_any r #[.int .i64 r.code, .int .i64 r.world.shape.groups, .int .i64 r.world.shape.column, .int .i64 r.world.shape.data, .int .i64 r.world.shape.spare, .int .i64 r.world.shape.rows, .int .i64 r.world.shape.cap, .int .i64 r.world.shape.batch, .int .i64 r.world.shape.queue, .int .i64 r.world.shape.stage, .slice a10r4 l10r4 c10r4, .slice a11r4 l11r4 c11r4, .slice a12r4 l12r4 c12r4, .int .i64 r.world.writes, .int .i64 r.world.stop, .bool r.world.down] p4 1 _ HP.out (by omega) (by rw [← HK.out]; omega)).mono ?_
  rintro e w11 ⟨rfl, hc⟩
  rw [← HK.out]
  replace HQ := hre HQ hc
  replace HP := hre HP hc
  replace HN := hre HN hc
  have h := Fresh.chg HFQ.out hc; clear HFQ; have HFQ := Lib.hid h; clear h
  have h := Fresh.chg HFP.out hc; clear HFP; have HFP := Lib.hid h; clear h
  have h := Fresh.chg HFN.out hc; clear HFN; have HFN := Lib.hid h; clear h
  have h := bk hc HBA0.out (by simp); clear HBA0 cA0 lA0; obtain ⟨cA0, lA0, HBA0⟩ := h
  have h := bk hc HBBQ.out (by simp); clear HBBQ cBQ lBQ; obtain ⟨cBQ, lBQ, HBBQ⟩ := h
  have h := bk hc HBBP.out (by simp); clear HBBP cBP lBP; obtain ⟨cBP, lBP, HBBP⟩ := h
  have h := bk hc HBBN.out (by simp); clear HBBN cBN lBN; obtain ⟨cBN, lBN, HBBN⟩ := h
  replace HC := hct HC hc
  clear hc
  go_wp2_with fail
  go_ret
  exact ⟨rfl, HC.out⟩

/-! ### FnExactNewWorld -/
namespace fnExactNewWorld
theorem own : ownKnob Try.prog.godebug = none := by kernel_rfl
theorem laidOut : laidOutB Try.prog = true := by kernel_rfl
set_option linter.unusedVariables false in
set_option maxRecDepth 100000 in
theorem lifted (os : Os) (started : os.Started) (H : Type) (enc : TypeId × Value → H) :
    ReturnsInHanded {} Try.checked os 3 .any (Rows.fnExactNewWorldSpec.pre6 enc Try.prog Try.f3 Rows.fnExactNewWorldRow.domain false) (Rows.fnExactNewWorldSpec.post enc Try.prog Try.f3 false true false false) := by
  refine returnsInHanded_of_change (C := Try.checked) own started (by kernel_rfl) Try.func3
    (ChangeSpec.witness6 (enc := enc) (C := Try.checked) false ⟨#[], #[.agg #[.int .i64 0, .int .i64 0, .int .i64 0, .int .i64 0, .int .i64 0, .int .i64 0, .int .i64 0, .int .i64 0, .int .i64 0]], []⟩ 8 (by kernel_rfl) (by kernel_rfl) (by kernel_rfl) (by kernel_rfl)) ?_
  intro W base args ds gs before hval0 hW hcnd _
  have hval : ∀ (j : Nat) t v, Try.f3.params[j]? = some t → args[j]? = some v → Value.okWide Try.prog W .any base t v := hval0
  have hW' := hW
  obtain ⟨p, q, hA0, hV, rfl, hfz, hnd⟩ := hW
  have hA : DataW.TrodAll enc Try.prog W 0 (fun _ => true) true Try.f3.params.toList args.toList ds p := hA0
  rw [Try.params3] at hA hval
  obtain ⟨v0, vs0, d0, ds0, p0, q0, hargs, rfl, rfl, h0, r0⟩ := trodAll_cons hA
  obtain ⟨rfl, rfl, rfl⟩ := trodAll_nil r0
  obtain rfl : args = #[v0] := by cases args; simp_all
  obtain ⟨rfl, rfl⟩ := trodVars_none hV
  have k0 := h0
  have lt0 : ∀ x ∈ p0, x.block < W.heap.size := by obtain ⟨m, hm⟩ := k0; exact DataW.trod_lt m _ _ _ hm
  obtain ⟨cs0, rfl, _⟩ := okWide_struct Try.underlying23 (hval 0 23 v0 rfl rfl)
  obtain ⟨x0, fp0, o0⟩ := op_shp.trod h0
  clear hA0 hval0
  simp only [List.append_nil] at hW'
  refine (walk_FnExactNewWorld W cs0 x0 fp0 o0).mono fun e W' ⟨he, hc⟩ => ?_
  subst he
  have bel := hc.below0
  exact ⟨_, rfl, _, _, _, [], _, [], hW', trodAll_mk1 (shut_bool Try.underlying4 _), (trodAll_cons_mk (Below.trod laidOut (by kernel_rfl) (of_decide_eq_true (by kernel_rfl)) k0 bel lt0) trodAll_mk0), rfl, bel.frame _, fun h => by cases h⟩

theorem over : Rows.fnExactNewWorldRow.holds Try.pinned (OpenSpec.ofChange Rows.fnExactNewWorldSpec) :=
  OpenClaim.holds_of_wide 3 Try.f3 rfl rfl rfl rfl rfl rfl rfl ⟨rfl, rfl, rfl, rfl, rfl⟩ rfl rfl rfl rfl rfl (by kernel_rfl) Try.func3 (by kernel_rfl)
    (of_decide_eq_true (by kernel_rfl)) (by unfold Func.isWrapper; first | (rw [if_pos (by decide +kernel)]; kernel_rfl) | (rw [if_neg (by decide +kernel)]; exact ⟨rfl, rfl⟩))
    (fun os started H enc _ => lifted os started H enc)
end fnExactNewWorld
theorem FnExactNewWorld_holds : Rows.FnExactNewWorldSaid := fnExactNewWorld.over
#print axioms FnExactNewWorld_holds
end Go.Proofs.Ytnnhopcjlnnchaa
