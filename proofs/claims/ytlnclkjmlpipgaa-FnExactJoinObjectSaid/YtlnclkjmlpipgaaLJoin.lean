
/- The program's JoinObject returns what the reference returns, leaves its arguments and shares no memory, for all arguments: the law FnExactJoinObject returns true.
Conditions: none. -/
import Derived.Test.YtlnclkjmlpipgaaRows
import Derived.Test.YtlnclkjmlpipgaaAt
import Derived.Test.YtlnclkjmlpipgaaJoin
import Derived.Test.YtlnclkjmlpipgaaHelp
import Derived.Test.YtlnclkjmlpipgaaBss
import Derived.ShutString
import Derived.ChangeOld
namespace Go.Proofs.Ytlnclkjmlpipgaa
open Go.ChangeShapes Go.WideShapes Go.ChangeAt Go.RowKit

set_option maxRecDepth 100000 in
set_option maxHeartbeats 4000000 in
theorem walk_FnExactJoinObject (W : World) (cs0 : Array Value) (x0 : Shp) (fp0 : List Nat) (o0 : shpL.rep W cs0.toList x0 fp0) (a1 : Option Addr) (la1 ca1 : Nat) (x1 : List (List UInt8)) (f1 : List Nat) (o1 : byteL.slice.sl W a1 la1 ca1 x1 f1) (x2 : Int) (o2 : i64ok x2) :
    Calls Try.prog 6 #[.agg cs0, .slice a1 la1 ca1, .int .i64 x2] W fun e w' => e = .returned (.bool true) ∧ Chg [] W w' := by
  have HC : RowKit.Hid (Chg [] W W) := Chg.refl _ _
  obtain ⟨ex0, -⟩ := shpL_iff.1 o0
  obtain rfl := Array.toList_inj.1 (ex0.trans (List.toList_toArray).symm)
  clear ex0 o0
  have HO1 := Lib.hid o1; clear o1
  have hm1 : (la1 : Int) ≤ 9223372036854775807 := by have := Lay.sl_max _ HO1.out; omega
  have HLX1 := Lib.hid HO1.out.1
  obtain ⟨r, hr⟩ : ∃ r, r = joinRes x0 x1 x2 := ⟨_, rfl⟩
  have HS : RowKit.Hid (∀ (a1 : Option Addr) (l1 c1 : Nat) (p1 : List Nat) (w : World), byteL.slice.sl w a1 l1 c1 x1 p1 → Calls Try.prog 36 #[.agg #[.int .i64 x0.groups, .int .i64 x0.column, .int .i64 x0.data, .int .i64 x0.spare, .int .i64 x0.rows, .int .i64 x0.cap, .int .i64 x0.batch, .int .i64 x0.queue, .int .i64 x0.stage], .slice a1 l1 c1, .int .i64 x2] w (NewRes byteL r w)) := by rw [hr]; exact fun a1 l1 c1 p1 w h1 => spec_joinO2 x0 a1 l1 c1 x1 p1 x2 o2 w h1
  have HI : RowKit.Hid (∀ (a1 : Option Addr) (l1 c1 : Nat) (p1 : List Nat) (w : World), byteL.slice.sl w a1 l1 c1 x1 p1 → Calls Try.prog 38 #[.agg #[.int .i64 x0.groups, .int .i64 x0.column, .int .i64 x0.data, .int .i64 x0.spare, .int .i64 x0.rows, .int .i64 x0.cap, .int .i64 x0.batch, .int .i64 x0.queue, .int .i64 x0.stage], .slice a1 l1 c1, .int .i64 x2] w (NewRes byteL r w)) := by rw [hr]; exact fun a1 l1 c1 p1 w h1 => impl_joinO2 x0 a1 l1 c1 x1 p1 x2 o2 w h1
  have hle : r.2.length ≤ 4611686018427387000 := by rw [hr]; have := joinRes_len x0 x1 x2; omega
  clear hr
  obtain ⟨n, R⟩ := r
  obtain ⟨LR, hLR⟩ : ∃ LR, R.length = LR := ⟨_, rfl⟩
  have HLE : RowKit.Hid ((LR : Int) ≤ 4611686018427387000) := by show (LR : Int) ≤ _; rw [← hLR]; exact Int.ofNat_le.2 hle
  clear hle
  have HLR := Lib.hid hLR; clear hLR
  go_enter Try.func6, Try.ntmps6
  obtain ⟨z1, hze1⟩ : ∃ z, z = szBB x1 1048576 := ⟨_, rfl⟩
  go_wp2_with fail
  refine (szBB_any a1 la1 ca1 x1 f1 1048576 _ (Lay.sl_ext byteL.slice HO1.out (Chg.alloc HC.out (.cells #[.int .i64 x0.groups, .int .i64 x0.column, .int .i64 x0.data, .int .i64 x0.spare, .int .i64 x0.rows, .int .i64 x0.cap, .int .i64 x0.batch, .int .i64 x0.queue, .int .i64 x0.stage] 41))) (by omega) (by omega)).mono ?_; rintro e w' ⟨rfl, rfl⟩
  rw [← hze1]
  by_cases hn1 : z1 < 0
  · clear hze1
    go_wp2_with fail
    go_ret
    exact ⟨rfl, by repeat (first | exact HC.out | refine Chg.alloc ?_ _)⟩
  have HZL1 := Lib.hid (szBB_le (xs := x1) (l := 1048576) (by rw [← hze1]; omega))
  have hlz1 : la1 ≤ 1048576 := by have := HZL1.out.2.1; have := HO1.out.1; omega
  have HZM1 := Lib.hid (fun x hx => by have := HZL1.out.2.2 x hx; omega : ∀ x ∈ x1, x.length ≤ 1048576)
  have hsum1 : sumLen x1 ≤ 1048576 := by have := szBB_sum (xs := x1) (l := 1048576) (by rw [← hze1]; omega); omega
  have hsun1 := sumLen_nonneg x1
  have hzl1 : z1 ≤ 1048576 := by have := HZL1.out.1; omega
  clear hze1
  go_wp2_with fail
  refine (toShape_any x0 _).mono ?_
  rintro e w1 ⟨rfl, hc⟩
  have h := hc.keepb (b := W.heap.size) (o := .cells #[.int .i64 x0.groups, .int .i64 x0.column, .int .i64 x0.data, .int .i64 x0.spare, .int .i64 x0.rows, .int .i64 x0.cap, .int .i64 x0.batch, .int .i64 x0.queue, .int .i64 x0.stage] 41) (by exact new_at (by simp) _) (by simp); have cS0 := cellsOf h; have lS0 := ltOf h; have HBS0 := Lib.hid h; clear h
  have h := Chg.trans0 (Chg.alloc HC.out (.cells #[.int .i64 x0.groups, .int .i64 x0.column, .int .i64 x0.data, .int .i64 x0.spare, .int .i64 x0.rows, .int .i64 x0.cap, .int .i64 x0.batch, .int .i64 x0.queue, .int .i64 x0.stage] 41)) hc; clear HC; have HC := Lib.hid h; clear h
  clear hc
  go_wp2_with fail
  refine (toBB_any a1 la1 ca1 x1 f1 _ (Lay.sl_ext byteL.slice HO1.out HC.out) (by omega) HZM1.out).mono ?_
  rintro e w2 ⟨b2, d2, p2, rfl, hs, hf, hc⟩
  rw [← HLX1.out] at hs ⊢
  have hG := fun (x : Nat) (hx : x ∈ p2) => Nat.le_trans HC.out.size (hf.2 x hx).1
  have HGS1 := Lib.hid hG; clear hG
  have DBS0_S1 := Lib.hid (fun hb => Nat.lt_irrefl _ (Nat.lt_of_lt_of_le (ltOf (show w1.heap[W.heap.size]? = some (.cells #[.int .i64 x0.groups, .int .i64 x0.column, .int .i64 x0.data, .int .i64 x0.spare, .int .i64 x0.rows, .int .i64 x0.cap, .int .i64 x0.batch, .int .i64 x0.queue, .int .i64 x0.stage] 41) from (by exact HBS0.out))) (hf.2 _ hb).1) : W.heap.size ∉ p2)
  have h := hc.keepb (b := W.heap.size) (o := .cells #[.int .i64 x0.groups, .int .i64 x0.column, .int .i64 x0.data, .int .i64 x0.spare, .int .i64 x0.rows, .int .i64 x0.cap, .int .i64 x0.batch, .int .i64 x0.queue, .int .i64 x0.stage] 41) (by exact HBS0.out) (by simp); clear HBS0 cS0 lS0; have cS0 := cellsOf h; have lS0 := ltOf h; have HBS0 := Lib.hid h; clear h
  have h := Chg.trans0 HC.out hc; clear HC; have HC := Lib.hid h; clear h
  have HS1 := Lib.hid hs; have HFS1 := Lib.hid (hf.mono (Nat.zero_le _)); clear hs hf
  clear hc
  go_wp2_with fail
  refine (HS.out b2 la1 d2 p2 _ HS1.out).mono ?_
  rintro e w3 ⟨b3, d3, p3, rfl, hs, hf, hc⟩
  simp only [] at hs ⊢; rw [HLR.out] at hs ⊢
  have hG := fun (x : Nat) (hx : x ∈ p3) => Nat.le_trans HC.out.size (hf.2 x hx).1
  have HGQ := Lib.hid hG; clear hG
  have hD := fun (b : Nat) (hb : b ∈ p2) (hb' : b ∈ p3) => Nat.lt_irrefl _ (Nat.lt_of_lt_of_le ((Lay.sl_lt byteL.slice HS1.out) b hb) (hf.2 b hb').1)
  have DS1_Q := Lib.hid hD; have DQ_S1 := Lib.hid (fun (b : Nat) (hb : b ∈ p3) (hb' : b ∈ p2) => hD b hb' hb); clear hD
  have DBS0_Q := Lib.hid (fun hb => Nat.lt_irrefl _ (Nat.lt_of_lt_of_le (ltOf (show w2.heap[W.heap.size]? = some (.cells #[.int .i64 x0.groups, .int .i64 x0.column, .int .i64 x0.data, .int .i64 x0.spare, .int .i64 x0.rows, .int .i64 x0.cap, .int .i64 x0.batch, .int .i64 x0.queue, .int .i64 x0.stage] 41) from (by exact HBS0.out))) (hf.2 _ hb).1) : W.heap.size ∉ p3)
  have h := (Lay.sl_ext byteL.slice HS1.out hc); clear HS1; have HS1 := Lib.hid h; clear h
  have h := Fresh.chg HFS1.out hc; clear HFS1; have HFS1 := Lib.hid h; clear h
  have h := hc.keepb (b := W.heap.size) (o := .cells #[.int .i64 x0.groups, .int .i64 x0.column, .int .i64 x0.data, .int .i64 x0.spare, .int .i64 x0.rows, .int .i64 x0.cap, .int .i64 x0.batch, .int .i64 x0.queue, .int .i64 x0.stage] 41) (by exact HBS0.out) (by simp); clear HBS0 cS0 lS0; have cS0 := cellsOf h; have lS0 := ltOf h; have HBS0 := Lib.hid h; clear h
  have h := Chg.trans0 HC.out hc; clear HC; have HC := Lib.hid h; clear h
  have HQ := Lib.hid hs; have HFQ := Lib.hid (hf.mono (Nat.zero_le _)); clear hs hf
  clear hc
  go_wp2_with fail
  refine (toBB_any a1 la1 ca1 x1 f1 _ (Lay.sl_ext byteL.slice HO1.out (Chg.alloc HC.out (.cells #[.int .i64 n, .slice b3 LR d3] 56))) (by omega) HZM1.out).mono ?_
  rintro e w4 ⟨b4, d4, p4, rfl, hs, hf, hc⟩
  rw [← HLX1.out] at hs ⊢
  have hG := fun (x : Nat) (hx : x ∈ p4) => Nat.le_trans HC.out.size (Nat.le_trans (show w3.heap.size ≤ (w3.alloc (.cells #[.int .i64 n, .slice b3 LR d3] 56)).heap.size by simp) (hf.2 x hx).1)
  have HGX1 := Lib.hid hG; clear hG
  have hD := fun (b : Nat) (hb : b ∈ p3) (hb' : b ∈ p4) => Nat.lt_irrefl _ (Nat.lt_of_lt_of_le ((Lay.sl_lt byteL (Lay.sl_ext byteL HQ.out (Chg.alloc (Chg.refl [] w3) (.cells #[.int .i64 n, .slice b3 LR d3] 56)))) b hb) (hf.2 b hb').1)
  have DQ_X1 := Lib.hid hD; have DX1_Q := Lib.hid (fun (b : Nat) (hb : b ∈ p4) (hb' : b ∈ p3) => hD b hb' hb); clear hD
  have DBS0_X1 := Lib.hid (fun hb => Nat.lt_irrefl _ (Nat.lt_of_lt_of_le (ltOf (show (w3.alloc (.cells #[.int .i64 n, .slice b3 LR d3] 56)).heap[W.heap.size]? = some (.cells #[.int .i64 x0.groups, .int .i64 x0.column, .int .i64 x0.data, .int .i64 x0.spare, .int .i64 x0.rows, .int .i64 x0.cap, .int .i64 x0.batch, .int .i64 x0.queue, .int .i64 x0.stage] 41) from (by refine keep_alloc ?_ _; exact HBS0.out))) (hf.2 _ hb).1) : W.heap.size ∉ p4)
  have DBBQ_X1 := Lib.hid (fun hb => Nat.lt_irrefl _ (Nat.lt_of_lt_of_le (ltOf (show (w3.alloc (.cells #[.int .i64 n, .slice b3 LR d3] 56)).heap[w3.heap.size]? = some (.cells #[.int .i64 n, .slice b3 LR d3] 56) from (by exact new_at (by simp) _))) (hf.2 _ hb).1) : w3.heap.size ∉ p4)
  have DBBQ_Q := Lib.hid (fun hb => Nat.lt_irrefl _ (Nat.lt_of_lt_of_le ((Lay.sl_lt byteL HQ.out) _ hb) (show w3.heap.size ≤ w3.heap.size by omega)) : w3.heap.size ∉ p3)
  have h := (Lay.sl_ext byteL (Lay.sl_ext byteL HQ.out (Chg.alloc (Chg.refl [] w3) (.cells #[.int .i64 n, .slice b3 LR d3] 56))) hc); clear HQ; have HQ := Lib.hid h; clear h
  have h := Fresh.chg (HFQ.out.chg (Chg.alloc (Chg.refl [] w3) (.cells #[.int .i64 n, .slice b3 LR d3] 56))) hc; clear HFQ; have HFQ := Lib.hid h; clear h
  have h := hc.keepb (b := W.heap.size) (o := .cells #[.int .i64 x0.groups, .int .i64 x0.column, .int .i64 x0.data, .int .i64 x0.spare, .int .i64 x0.rows, .int .i64 x0.cap, .int .i64 x0.batch, .int .i64 x0.queue, .int .i64 x0.stage] 41) (by refine keep_alloc ?_ _; exact HBS0.out) (by simp); clear HBS0 cS0 lS0; have cS0 := cellsOf h; have lS0 := ltOf h; have HBS0 := Lib.hid h; clear h
  have h := hc.keepb (b := w3.heap.size) (o := .cells #[.int .i64 n, .slice b3 LR d3] 56) (by exact new_at (by simp) _) (by simp); have cBQ := cellsOf h; have lBQ := ltOf h; have HBBQ := Lib.hid h; clear h
  have h := Chg.trans0 (Chg.alloc HC.out (.cells #[.int .i64 n, .slice b3 LR d3] 56)) hc; clear HC; have HC := Lib.hid h; clear h
  have HX1 := Lib.hid hs; have HFX1 := Lib.hid (hf.mono (Nat.zero_le _)); clear hs hf
  clear hc
  go_wp2_with fail
  refine (toShape_any x0 _).mono ?_
  rintro e w5 ⟨rfl, hc⟩
  have h := (Lay.sl_ext byteL HQ.out hc); clear HQ; have HQ := Lib.hid h; clear h
  have h := (Lay.sl_ext byteL.slice HX1.out hc); clear HX1; have HX1 := Lib.hid h; clear h
  have h := Fresh.chg HFQ.out hc; clear HFQ; have HFQ := Lib.hid h; clear h
  have h := Fresh.chg HFX1.out hc; clear HFX1; have HFX1 := Lib.hid h; clear h
  have h := hc.keepb (b := W.heap.size) (o := .cells #[.int .i64 x0.groups, .int .i64 x0.column, .int .i64 x0.data, .int .i64 x0.spare, .int .i64 x0.rows, .int .i64 x0.cap, .int .i64 x0.batch, .int .i64 x0.queue, .int .i64 x0.stage] 41) (by exact HBS0.out) (by simp); clear HBS0 cS0 lS0; have cS0 := cellsOf h; have lS0 := ltOf h; have HBS0 := Lib.hid h; clear h
  have h := hc.keepb (b := w3.heap.size) (o := .cells #[.int .i64 n, .slice b3 LR d3] 56) (by exact HBBQ.out) (by simp); clear HBBQ cBQ lBQ; have cBQ := cellsOf h; have lBQ := ltOf h; have HBBQ := Lib.hid h; clear h
  have h := Chg.trans0 HC.out hc; clear HC; have HC := Lib.hid h; clear h
  clear hc
  go_wp2_with fail
  refine (HI.out b4 la1 d4 p4 _ HX1.out).mono ?_
  rintro e w6 ⟨b6, d6, p6, rfl, hs, hf, hc⟩
  simp only [] at hs ⊢; rw [HLR.out] at hs ⊢
  have hG := fun (x : Nat) (hx : x ∈ p6) => Nat.le_trans HC.out.size (hf.2 x hx).1
  have HGP := Lib.hid hG; clear hG
  have hD := fun (b : Nat) (hb : b ∈ p3) (hb' : b ∈ p6) => Nat.lt_irrefl _ (Nat.lt_of_lt_of_le ((Lay.sl_lt byteL HQ.out) b hb) (hf.2 b hb').1)
  have DQ_P := Lib.hid hD; have DP_Q := Lib.hid (fun (b : Nat) (hb : b ∈ p6) (hb' : b ∈ p3) => hD b hb' hb); clear hD
  have hD := fun (b : Nat) (hb : b ∈ p4) (hb' : b ∈ p6) => Nat.lt_irrefl _ (Nat.lt_of_lt_of_le ((Lay.sl_lt byteL.slice HX1.out) b hb) (hf.2 b hb').1)
  have DX1_P := Lib.hid hD; have DP_X1 := Lib.hid (fun (b : Nat) (hb : b ∈ p6) (hb' : b ∈ p4) => hD b hb' hb); clear hD
  have DBS0_P := Lib.hid (fun hb => Nat.lt_irrefl _ (Nat.lt_of_lt_of_le (ltOf (show w5.heap[W.heap.size]? = some (.cells #[.int .i64 x0.groups, .int .i64 x0.column, .int .i64 x0.data, .int .i64 x0.spare, .int .i64 x0.rows, .int .i64 x0.cap, .int .i64 x0.batch, .int .i64 x0.queue, .int .i64 x0.stage] 41) from (by exact HBS0.out))) (hf.2 _ hb).1) : W.heap.size ∉ p6)
  have DBBQ_P := Lib.hid (fun hb => Nat.lt_irrefl _ (Nat.lt_of_lt_of_le (ltOf (show w5.heap[w3.heap.size]? = some (.cells #[.int .i64 n, .slice b3 LR d3] 56) from (by exact HBBQ.out))) (hf.2 _ hb).1) : w3.heap.size ∉ p6)
  have h := (Lay.sl_ext byteL HQ.out hc); clear HQ; have HQ := Lib.hid h; clear h
  have h := (Lay.sl_ext byteL.slice HX1.out hc); clear HX1; have HX1 := Lib.hid h; clear h
  have h := Fresh.chg HFQ.out hc; clear HFQ; have HFQ := Lib.hid h; clear h
  have h := Fresh.chg HFX1.out hc; clear HFX1; have HFX1 := Lib.hid h; clear h
  have h := hc.keepb (b := W.heap.size) (o := .cells #[.int .i64 x0.groups, .int .i64 x0.column, .int .i64 x0.data, .int .i64 x0.spare, .int .i64 x0.rows, .int .i64 x0.cap, .int .i64 x0.batch, .int .i64 x0.queue, .int .i64 x0.stage] 41) (by exact HBS0.out) (by simp); clear HBS0 cS0 lS0; have cS0 := cellsOf h; have lS0 := ltOf h; have HBS0 := Lib.hid h; clear h
  have h := hc.keepb (b := w3.heap.size) (o := .cells #[.int .i64 n, .slice b3 LR d3] 56) (by exact HBBQ.out) (by simp); clear HBBQ cBQ lBQ; have cBQ := cellsOf h; have lBQ := ltOf h; have HBBQ := Lib.hid h; clear h
  have h := Chg.trans0 HC.out hc; clear HC; have HC := Lib.hid h; clear h
  have HP := Lib.hid hs; have HFP := Lib.hid (hf.mono (Nat.zero_le _)); clear hs hf
  clear hc
  go_wp2_with fail
  refine (eqBytesResult_any n b6 b3 LR d6 d3 R p6 p3 _ (Lay.sl_ext byteL HP.out (Chg.alloc (Chg.refl [] w6) (.cells #[.int .i64 n, .slice b6 LR d6] 56))) (Lay.sl_ext byteL HQ.out (Chg.alloc (Chg.refl [] w6) (.cells #[.int .i64 n, .slice b6 LR d6] 56)))).mono ?_
  rintro e w7 ⟨rfl, hc⟩
  have DBBP_Q := Lib.hid (fun hb => Nat.lt_irrefl _ (Nat.lt_of_lt_of_le ((Lay.sl_lt byteL HQ.out) _ hb) (show w6.heap.size ≤ w6.heap.size by omega)) : w6.heap.size ∉ p3)
  have DBBP_X1 := Lib.hid (fun hb => Nat.lt_irrefl _ (Nat.lt_of_lt_of_le ((Lay.sl_lt byteL.slice HX1.out) _ hb) (show w6.heap.size ≤ w6.heap.size by omega)) : w6.heap.size ∉ p4)
  have DBBP_P := Lib.hid (fun hb => Nat.lt_irrefl _ (Nat.lt_of_lt_of_le ((Lay.sl_lt byteL HP.out) _ hb) (show w6.heap.size ≤ w6.heap.size by omega)) : w6.heap.size ∉ p6)
  have h := (Lay.sl_ext byteL (Lay.sl_ext byteL HQ.out (Chg.alloc (Chg.refl [] w6) (.cells #[.int .i64 n, .slice b6 LR d6] 56))) hc); clear HQ; have HQ := Lib.hid h; clear h
  have h := (Lay.sl_ext byteL.slice (Lay.sl_ext byteL.slice HX1.out (Chg.alloc (Chg.refl [] w6) (.cells #[.int .i64 n, .slice b6 LR d6] 56))) hc); clear HX1; have HX1 := Lib.hid h; clear h
  have h := (Lay.sl_ext byteL (Lay.sl_ext byteL HP.out (Chg.alloc (Chg.refl [] w6) (.cells #[.int .i64 n, .slice b6 LR d6] 56))) hc); clear HP; have HP := Lib.hid h; clear h
  have h := Fresh.chg (HFQ.out.chg (Chg.alloc (Chg.refl [] w6) (.cells #[.int .i64 n, .slice b6 LR d6] 56))) hc; clear HFQ; have HFQ := Lib.hid h; clear h
  have h := Fresh.chg (HFX1.out.chg (Chg.alloc (Chg.refl [] w6) (.cells #[.int .i64 n, .slice b6 LR d6] 56))) hc; clear HFX1; have HFX1 := Lib.hid h; clear h
  have h := Fresh.chg (HFP.out.chg (Chg.alloc (Chg.refl [] w6) (.cells #[.int .i64 n, .slice b6 LR d6] 56))) hc; clear HFP; have HFP := Lib.hid h; clear h
  have h := hc.keepb (b := W.heap.size) (o := .cells #[.int .i64 x0.groups, .int .i64 x0.column, .int .i64 x0.data, .int .i64 x0.spare, .int .i64 x0.rows, .int .i64 x0.cap, .int .i64 x0.batch, .int .i64 x0.queue, .int .i64 x0.stage] 41) (by refine keep_alloc ?_ _; exact HBS0.out) (by simp); clear HBS0 cS0 lS0; have cS0 := cellsOf h; have lS0 := ltOf h; have HBS0 := Lib.hid h; clear h
  have h := hc.keepb (b := w3.heap.size) (o := .cells #[.int .i64 n, .slice b3 LR d3] 56) (by refine keep_alloc ?_ _; exact HBBQ.out) (by simp); clear HBBQ cBQ lBQ; have cBQ := cellsOf h; have lBQ := ltOf h; have HBBQ := Lib.hid h; clear h
  have h := hc.keepb (b := w6.heap.size) (o := .cells #[.int .i64 n, .slice b6 LR d6] 56) (by exact new_at (by simp) _) (by simp); have cBP := cellsOf h; have lBP := ltOf h; have HBBP := Lib.hid h; clear h
  have h := Chg.trans0 (Chg.alloc HC.out (.cells #[.int .i64 n, .slice b6 LR d6] 56)) hc; clear HC; have HC := Lib.hid h; clear h
  clear hc
  go_wp2_with fail
  refine (toBB_any a1 la1 ca1 x1 f1 _ (Lay.sl_ext byteL.slice HO1.out HC.out) (by omega) HZM1.out).mono ?_
  rintro e w8 ⟨b8, d8, p8, rfl, hs, hf, hc⟩
  rw [← HLX1.out] at hs ⊢
  have hG := fun (x : Nat) (hx : x ∈ p8) => Nat.le_trans HC.out.size (hf.2 x hx).1
  have HGY1 := Lib.hid hG; clear hG
  have hD := fun (b : Nat) (hb : b ∈ p3) (hb' : b ∈ p8) => Nat.lt_irrefl _ (Nat.lt_of_lt_of_le ((Lay.sl_lt byteL HQ.out) b hb) (hf.2 b hb').1)
  have DQ_Y1 := Lib.hid hD; have DY1_Q := Lib.hid (fun (b : Nat) (hb : b ∈ p8) (hb' : b ∈ p3) => hD b hb' hb); clear hD
  have hD := fun (b : Nat) (hb : b ∈ p4) (hb' : b ∈ p8) => Nat.lt_irrefl _ (Nat.lt_of_lt_of_le ((Lay.sl_lt byteL.slice HX1.out) b hb) (hf.2 b hb').1)
  have DX1_Y1 := Lib.hid hD; have DY1_X1 := Lib.hid (fun (b : Nat) (hb : b ∈ p8) (hb' : b ∈ p4) => hD b hb' hb); clear hD
  have hD := fun (b : Nat) (hb : b ∈ p6) (hb' : b ∈ p8) => Nat.lt_irrefl _ (Nat.lt_of_lt_of_le ((Lay.sl_lt byteL HP.out) b hb) (hf.2 b hb').1)
  have DP_Y1 := Lib.hid hD; have DY1_P := Lib.hid (fun (b : Nat) (hb : b ∈ p8) (hb' : b ∈ p6) => hD b hb' hb); clear hD
  have DBS0_Y1 := Lib.hid (fun hb => Nat.lt_irrefl _ (Nat.lt_of_lt_of_le (ltOf (show w7.heap[W.heap.size]? = some (.cells #[.int .i64 x0.groups, .int .i64 x0.column, .int .i64 x0.data, .int .i64 x0.spare, .int .i64 x0.rows, .int .i64 x0.cap, .int .i64 x0.batch, .int .i64 x0.queue, .int .i64 x0.stage] 41) from (by exact HBS0.out))) (hf.2 _ hb).1) : W.heap.size ∉ p8)
  have DBBQ_Y1 := Lib.hid (fun hb => Nat.lt_irrefl _ (Nat.lt_of_lt_of_le (ltOf (show w7.heap[w3.heap.size]? = some (.cells #[.int .i64 n, .slice b3 LR d3] 56) from (by exact HBBQ.out))) (hf.2 _ hb).1) : w3.heap.size ∉ p8)
  have DBBP_Y1 := Lib.hid (fun hb => Nat.lt_irrefl _ (Nat.lt_of_lt_of_le (ltOf (show w7.heap[w6.heap.size]? = some (.cells #[.int .i64 n, .slice b6 LR d6] 56) from (by exact HBBP.out))) (hf.2 _ hb).1) : w6.heap.size ∉ p8)
  have h := (Lay.sl_ext byteL HQ.out hc); clear HQ; have HQ := Lib.hid h; clear h
  have h := (Lay.sl_ext byteL.slice HX1.out hc); clear HX1; have HX1 := Lib.hid h; clear h
  have h := (Lay.sl_ext byteL HP.out hc); clear HP; have HP := Lib.hid h; clear h
  have h := Fresh.chg HFQ.out hc; clear HFQ; have HFQ := Lib.hid h; clear h
  have h := Fresh.chg HFX1.out hc; clear HFX1; have HFX1 := Lib.hid h; clear h
  have h := Fresh.chg HFP.out hc; clear HFP; have HFP := Lib.hid h; clear h
  have h := hc.keepb (b := W.heap.size) (o := .cells #[.int .i64 x0.groups, .int .i64 x0.column, .int .i64 x0.data, .int .i64 x0.spare, .int .i64 x0.rows, .int .i64 x0.cap, .int .i64 x0.batch, .int .i64 x0.queue, .int .i64 x0.stage] 41) (by exact HBS0.out) (by simp); clear HBS0 cS0 lS0; have cS0 := cellsOf h; have lS0 := ltOf h; have HBS0 := Lib.hid h; clear h
  have h := hc.keepb (b := w3.heap.size) (o := .cells #[.int .i64 n, .slice b3 LR d3] 56) (by exact HBBQ.out) (by simp); clear HBBQ cBQ lBQ; have cBQ := cellsOf h; have lBQ := ltOf h; have HBBQ := Lib.hid h; clear h
  have h := hc.keepb (b := w6.heap.size) (o := .cells #[.int .i64 n, .slice b6 LR d6] 56) (by exact HBBP.out) (by simp); clear HBBP cBP lBP; have cBP := cellsOf h; have lBP := ltOf h; have HBBP := Lib.hid h; clear h
  have h := Chg.trans0 HC.out hc; clear HC; have HC := Lib.hid h; clear h
  have HY1 := Lib.hid hs; have HFY1 := Lib.hid (hf.mono (Nat.zero_le _)); clear hs hf
  clear hc
  go_wp2_with fail
  refine (eqBB_any b4 b8 la1 d4 d8 x1 p4 p8 _ HX1.out HY1.out).mono ?_
  rintro e w9 ⟨rfl, hc⟩
  have h := (Lay.sl_ext byteL HQ.out hc); clear HQ; have HQ := Lib.hid h; clear h
  have h := (Lay.sl_ext byteL.slice HX1.out hc); clear HX1; have HX1 := Lib.hid h; clear h
  have h := (Lay.sl_ext byteL HP.out hc); clear HP; have HP := Lib.hid h; clear h
  have h := (Lay.sl_ext byteL.slice HY1.out hc); clear HY1; have HY1 := Lib.hid h; clear h
  have h := Fresh.chg HFQ.out hc; clear HFQ; have HFQ := Lib.hid h; clear h
  have h := Fresh.chg HFX1.out hc; clear HFX1; have HFX1 := Lib.hid h; clear h
  have h := Fresh.chg HFP.out hc; clear HFP; have HFP := Lib.hid h; clear h
  have h := Fresh.chg HFY1.out hc; clear HFY1; have HFY1 := Lib.hid h; clear h
  have h := hc.keepb (b := W.heap.size) (o := .cells #[.int .i64 x0.groups, .int .i64 x0.column, .int .i64 x0.data, .int .i64 x0.spare, .int .i64 x0.rows, .int .i64 x0.cap, .int .i64 x0.batch, .int .i64 x0.queue, .int .i64 x0.stage] 41) (by exact HBS0.out) (by simp); clear HBS0 cS0 lS0; have cS0 := cellsOf h; have lS0 := ltOf h; have HBS0 := Lib.hid h; clear h
  have h := hc.keepb (b := w3.heap.size) (o := .cells #[.int .i64 n, .slice b3 LR d3] 56) (by exact HBBQ.out) (by simp); clear HBBQ cBQ lBQ; have cBQ := cellsOf h; have lBQ := ltOf h; have HBBQ := Lib.hid h; clear h
  have h := hc.keepb (b := w6.heap.size) (o := .cells #[.int .i64 n, .slice b6 LR d6] 56) (by exact HBBP.out) (by simp); clear HBBP cBP lBP; have cBP := cellsOf h; have lBP := ltOf h; have HBBP := Lib.hid h; clear h
  have h := Chg.trans0 HC.out hc; clear HC; have HC := Lib.hid h; clear h
  clear hc
  go_wp2_with fail
  refine (markBB_any b4 la1 d4 x1 p4 (1) _ HX1.out HFX1.out (by omega) (by omega)).mono ?_
  rintro e w10 ⟨rfl, hs, hc⟩
  have h := (Lay.sl_chg byteL HQ.out hc DQ_X1.out); clear HQ; have HQ := Lib.hid h; clear h
  have h := (Lay.sl_chg byteL HP.out hc DP_X1.out); clear HP; have HP := Lib.hid h; clear h
  have h := Fresh.chg HFQ.out hc; clear HFQ; have HFQ := Lib.hid h; clear h
  have h := Fresh.chg HFX1.out hc; clear HFX1; have HFX1 := Lib.hid h; clear h
  have h := Fresh.chg HFP.out hc; clear HFP; have HFP := Lib.hid h; clear h
  have h := hc.keepb (b := W.heap.size) (o := .cells #[.int .i64 x0.groups, .int .i64 x0.column, .int .i64 x0.data, .int .i64 x0.spare, .int .i64 x0.rows, .int .i64 x0.cap, .int .i64 x0.batch, .int .i64 x0.queue, .int .i64 x0.stage] 41) (by exact HBS0.out) DBS0_X1.out; clear HBS0 cS0 lS0; have cS0 := cellsOf h; have lS0 := ltOf h; have HBS0 := Lib.hid h; clear h
  have h := hc.keepb (b := w3.heap.size) (o := .cells #[.int .i64 n, .slice b3 LR d3] 56) (by exact HBBQ.out) DBBQ_X1.out; clear HBBQ cBQ lBQ; have cBQ := cellsOf h; have lBQ := ltOf h; have HBBQ := Lib.hid h; clear h
  have h := hc.keepb (b := w6.heap.size) (o := .cells #[.int .i64 n, .slice b6 LR d6] 56) (by exact HBBP.out) DBBP_X1.out; clear HBBP cBP lBP; have cBP := cellsOf h; have lBP := ltOf h; have HBBP := Lib.hid h; clear h
  have h := Chg.trans HC.out hc (fun x hx => .inr (HGX1.out x hx)); clear HC; have HC := Lib.hid h; clear h
  clear HX1; have HX1 := Lib.hid hs
  clear hs
  clear hc
  have hk : ¬ (1 + sumLen x1 < 0) := by omega
  go_wp2_with fail
  refine (eqBytesResult_any n b6 b3 LR d6 d3 R p6 p3 _ HP.out HQ.out).mono ?_
  rintro e w11 ⟨rfl, hc⟩
  have h := (Lay.sl_ext byteL HQ.out hc); clear HQ; have HQ := Lib.hid h; clear h
  have h := (Lay.sl_ext byteL.slice HX1.out hc); clear HX1; have HX1 := Lib.hid h; clear h
  have h := (Lay.sl_ext byteL HP.out hc); clear HP; have HP := Lib.hid h; clear h
  have h := Fresh.chg HFQ.out hc; clear HFQ; have HFQ := Lib.hid h; clear h
  have h := Fresh.chg HFX1.out hc; clear HFX1; have HFX1 := Lib.hid h; clear h
  have h := Fresh.chg HFP.out hc; clear HFP; have HFP := Lib.hid h; clear h
  have h := hc.keepb (b := W.heap.size) (o := .cells #[.int .i64 x0.groups, .int .i64 x0.column, .int .i64 x0.data, .int .i64 x0.spare, .int .i64 x0.rows, .int .i64 x0.cap, .int .i64 x0.batch, .int .i64 x0.queue, .int .i64 x0.stage] 41) (by exact HBS0.out) (by simp); clear HBS0 cS0 lS0; have cS0 := cellsOf h; have lS0 := ltOf h; have HBS0 := Lib.hid h; clear h
  have h := hc.keepb (b := w3.heap.size) (o := .cells #[.int .i64 n, .slice b3 LR d3] 56) (by exact HBBQ.out) (by simp); clear HBBQ cBQ lBQ; have cBQ := cellsOf h; have lBQ := ltOf h; have HBBQ := Lib.hid h; clear h
  have h := hc.keepb (b := w6.heap.size) (o := .cells #[.int .i64 n, .slice b6 LR d6] 56) (by exact HBBP.out) (by simp); clear HBBP cBP lBP; have cBP := cellsOf h; have lBP := ltOf h; have HBBP := Lib.hid h; clear h
  have h := Chg.trans0 HC.out hc; clear HC; have HC := Lib.hid h; clear h
  clear hc
  have hLR2 : (LR : Int) ≤ 4611686018427387000 := HLE.out
  go_wp2_with fail
  refine (markBytesResult_any n b6 LR d6 R p6 1 _ HP.out HFP.out (by omega) (by omega)).mono ?_
  rintro e w12 ⟨rfl, hs, hc⟩
  have h := (Lay.sl_chg byteL HQ.out hc DQ_P.out); clear HQ; have HQ := Lib.hid h; clear h
  have h := Fresh.chg HFQ.out hc; clear HFQ; have HFQ := Lib.hid h; clear h
  have h := Fresh.chg HFP.out hc; clear HFP; have HFP := Lib.hid h; clear h
  have h := hc.keepb (b := W.heap.size) (o := .cells #[.int .i64 x0.groups, .int .i64 x0.column, .int .i64 x0.data, .int .i64 x0.spare, .int .i64 x0.rows, .int .i64 x0.cap, .int .i64 x0.batch, .int .i64 x0.queue, .int .i64 x0.stage] 41) (by exact HBS0.out) DBS0_P.out; clear HBS0 cS0 lS0; have cS0 := cellsOf h; have lS0 := ltOf h; have HBS0 := Lib.hid h; clear h
  have h := hc.keepb (b := w3.heap.size) (o := .cells #[.int .i64 n, .slice b3 LR d3] 56) (by exact HBBQ.out) DBBQ_P.out; clear HBBQ cBQ lBQ; have cBQ := cellsOf h; have lBQ := ltOf h; have HBBQ := Lib.hid h; clear h
  have h := hc.keepb (b := w6.heap.size) (o := .cells #[.int .i64 n, .slice b6 LR d6] 56) (by exact HBBP.out) DBBP_P.out; clear HBBP cBP lBP; have cBP := cellsOf h; have lBP := ltOf h; have HBBP := Lib.hid h; clear h
  have h := Chg.trans HC.out hc (fun x hx => .inr (HGP.out x hx)); clear HC; have HC := Lib.hid h; clear h
  clear HP; have HP := Lib.hid hs
  clear hs
  clear hc
  have hq : ¬ ((1 : Int) + (LR : Int) < 0) := by omega
  have hqq : (((1 : Int) + (LR : Int)) != 1 + (LR : Int)) = false := by simp
  go_wp2_with fail
  refine (heldBytesResult_any n b6 LR d6 p6 1 _ HP.out (by omega) (by omega)).mono ?_
  rintro e w13 ⟨rfl, hc⟩
  have h := (Lay.sl_ext byteL HQ.out hc); clear HQ; have HQ := Lib.hid h; clear h
  have h := (Lay.sl_ext byteL HP.out hc); clear HP; have HP := Lib.hid h; clear h
  have h := Fresh.chg HFQ.out hc; clear HFQ; have HFQ := Lib.hid h; clear h
  have h := Fresh.chg HFP.out hc; clear HFP; have HFP := Lib.hid h; clear h
  have h := hc.keepb (b := W.heap.size) (o := .cells #[.int .i64 x0.groups, .int .i64 x0.column, .int .i64 x0.data, .int .i64 x0.spare, .int .i64 x0.rows, .int .i64 x0.cap, .int .i64 x0.batch, .int .i64 x0.queue, .int .i64 x0.stage] 41) (by exact HBS0.out) (by simp); clear HBS0 cS0 lS0; have cS0 := cellsOf h; have lS0 := ltOf h; have HBS0 := Lib.hid h; clear h
  have h := hc.keepb (b := w3.heap.size) (o := .cells #[.int .i64 n, .slice b3 LR d3] 56) (by exact HBBQ.out) (by simp); clear HBBQ cBQ lBQ; have cBQ := cellsOf h; have lBQ := ltOf h; have HBBQ := Lib.hid h; clear h
  have h := hc.keepb (b := w6.heap.size) (o := .cells #[.int .i64 n, .slice b6 LR d6] 56) (by exact HBBP.out) (by simp); clear HBBP cBP lBP; have cBP := cellsOf h; have lBP := ltOf h; have HBBP := Lib.hid h; clear h
  have h := Chg.trans0 HC.out hc; clear HC; have HC := Lib.hid h; clear h
  clear hc
  go_wp2_with fail
  refine (toShape_any x0 _).mono ?_
  rintro e w14 ⟨rfl, hc⟩
  have h := (Lay.sl_ext byteL HQ.out hc); clear HQ; have HQ := Lib.hid h; clear h
  have h := (Lay.sl_ext byteL HP.out hc); clear HP; have HP := Lib.hid h; clear h
  have h := Fresh.chg HFQ.out hc; clear HFQ; have HFQ := Lib.hid h; clear h
  have h := Fresh.chg HFP.out hc; clear HFP; have HFP := Lib.hid h; clear h
  have h := hc.keepb (b := W.heap.size) (o := .cells #[.int .i64 x0.groups, .int .i64 x0.column, .int .i64 x0.data, .int .i64 x0.spare, .int .i64 x0.rows, .int .i64 x0.cap, .int .i64 x0.batch, .int .i64 x0.queue, .int .i64 x0.stage] 41) (by exact HBS0.out) (by simp); clear HBS0 cS0 lS0; have cS0 := cellsOf h; have lS0 := ltOf h; have HBS0 := Lib.hid h; clear h
  have h := hc.keepb (b := w3.heap.size) (o := .cells #[.int .i64 n, .slice b3 LR d3] 56) (by exact HBBQ.out) (by simp); clear HBBQ cBQ lBQ; have cBQ := cellsOf h; have lBQ := ltOf h; have HBBQ := Lib.hid h; clear h
  have h := hc.keepb (b := w6.heap.size) (o := .cells #[.int .i64 n, .slice b6 LR d6] 56) (by exact HBBP.out) (by simp); clear HBBP cBP lBP; have cBP := cellsOf h; have lBP := ltOf h; have HBBP := Lib.hid h; clear h
  have h := Chg.trans0 HC.out hc; clear HC; have HC := Lib.hid h; clear h
  clear hc
  go_wp2_with fail
  refine (toBB_any a1 la1 ca1 x1 f1 _ (Lay.sl_ext byteL.slice HO1.out HC.out) (by omega) HZM1.out).mono ?_
  rintro e w15 ⟨b15, d15, p15, rfl, hs, hf, hc⟩
  rw [← HLX1.out] at hs ⊢
  have hG := fun (x : Nat) (hx : x ∈ p15) => Nat.le_trans HC.out.size (hf.2 x hx).1
  have HGT1 := Lib.hid hG; clear hG
  have hD := fun (b : Nat) (hb : b ∈ p3) (hb' : b ∈ p15) => Nat.lt_irrefl _ (Nat.lt_of_lt_of_le ((Lay.sl_lt byteL HQ.out) b hb) (hf.2 b hb').1)
  have DQ_T1 := Lib.hid hD; have DT1_Q := Lib.hid (fun (b : Nat) (hb : b ∈ p15) (hb' : b ∈ p3) => hD b hb' hb); clear hD
  have hD := fun (b : Nat) (hb : b ∈ p6) (hb' : b ∈ p15) => Nat.lt_irrefl _ (Nat.lt_of_lt_of_le ((Lay.sl_lt byteL HP.out) b hb) (hf.2 b hb').1)
  have DP_T1 := Lib.hid hD; have DT1_P := Lib.hid (fun (b : Nat) (hb : b ∈ p15) (hb' : b ∈ p6) => hD b hb' hb); clear hD
  have DBS0_T1 := Lib.hid (fun hb => Nat.lt_irrefl _ (Nat.lt_of_lt_of_le (ltOf (show w14.heap[W.heap.size]? = some (.cells #[.int .i64 x0.groups, .int .i64 x0.column, .int .i64 x0.data, .int .i64 x0.spare, .int .i64 x0.rows, .int .i64 x0.cap, .int .i64 x0.batch, .int .i64 x0.queue, .int .i64 x0.stage] 41) from (by exact HBS0.out))) (hf.2 _ hb).1) : W.heap.size ∉ p15)
  have DBBQ_T1 := Lib.hid (fun hb => Nat.lt_irrefl _ (Nat.lt_of_lt_of_le (ltOf (show w14.heap[w3.heap.size]? = some (.cells #[.int .i64 n, .slice b3 LR d3] 56) from (by exact HBBQ.out))) (hf.2 _ hb).1) : w3.heap.size ∉ p15)
  have DBBP_T1 := Lib.hid (fun hb => Nat.lt_irrefl _ (Nat.lt_of_lt_of_le (ltOf (show w14.heap[w6.heap.size]? = some (.cells #[.int .i64 n, .slice b6 LR d6] 56) from (by exact HBBP.out))) (hf.2 _ hb).1) : w6.heap.size ∉ p15)
  have h := (Lay.sl_ext byteL HQ.out hc); clear HQ; have HQ := Lib.hid h; clear h
  have h := (Lay.sl_ext byteL HP.out hc); clear HP; have HP := Lib.hid h; clear h
  have h := Fresh.chg HFQ.out hc; clear HFQ; have HFQ := Lib.hid h; clear h
  have h := Fresh.chg HFP.out hc; clear HFP; have HFP := Lib.hid h; clear h
  have h := hc.keepb (b := W.heap.size) (o := .cells #[.int .i64 x0.groups, .int .i64 x0.column, .int .i64 x0.data, .int .i64 x0.spare, .int .i64 x0.rows, .int .i64 x0.cap, .int .i64 x0.batch, .int .i64 x0.queue, .int .i64 x0.stage] 41) (by exact HBS0.out) (by simp); clear HBS0 cS0 lS0; have cS0 := cellsOf h; have lS0 := ltOf h; have HBS0 := Lib.hid h; clear h
  have h := hc.keepb (b := w3.heap.size) (o := .cells #[.int .i64 n, .slice b3 LR d3] 56) (by exact HBBQ.out) (by simp); clear HBBQ cBQ lBQ; have cBQ := cellsOf h; have lBQ := ltOf h; have HBBQ := Lib.hid h; clear h
  have h := hc.keepb (b := w6.heap.size) (o := .cells #[.int .i64 n, .slice b6 LR d6] 56) (by exact HBBP.out) (by simp); clear HBBP cBP lBP; have cBP := cellsOf h; have lBP := ltOf h; have HBBP := Lib.hid h; clear h
  have h := Chg.trans0 HC.out hc; clear HC; have HC := Lib.hid h; clear h
  have HT1 := Lib.hid hs; have HFT1 := Lib.hid (hf.mono (Nat.zero_le _)); clear hs hf
  clear hc
  go_wp2_with fail
  refine (HI.out b15 la1 d15 p15 _ HT1.out).mono ?_
  rintro e w16 ⟨b16, d16, p16, rfl, hs, hf, hc⟩
  simp only [] at hs ⊢; rw [HLR.out] at hs ⊢
  have hG := fun (x : Nat) (hx : x ∈ p16) => Nat.le_trans HC.out.size (hf.2 x hx).1
  have HGN := Lib.hid hG; clear hG
  have hD := fun (b : Nat) (hb : b ∈ p3) (hb' : b ∈ p16) => Nat.lt_irrefl _ (Nat.lt_of_lt_of_le ((Lay.sl_lt byteL HQ.out) b hb) (hf.2 b hb').1)
  have DQ_N := Lib.hid hD; have DN_Q := Lib.hid (fun (b : Nat) (hb : b ∈ p16) (hb' : b ∈ p3) => hD b hb' hb); clear hD
  have hD := fun (b : Nat) (hb : b ∈ p6) (hb' : b ∈ p16) => Nat.lt_irrefl _ (Nat.lt_of_lt_of_le ((Lay.sl_lt byteL HP.out) b hb) (hf.2 b hb').1)
  have DP_N := Lib.hid hD; have DN_P := Lib.hid (fun (b : Nat) (hb : b ∈ p16) (hb' : b ∈ p6) => hD b hb' hb); clear hD
  have hD := fun (b : Nat) (hb : b ∈ p15) (hb' : b ∈ p16) => Nat.lt_irrefl _ (Nat.lt_of_lt_of_le ((Lay.sl_lt byteL.slice HT1.out) b hb) (hf.2 b hb').1)
  have DT1_N := Lib.hid hD; have DN_T1 := Lib.hid (fun (b : Nat) (hb : b ∈ p16) (hb' : b ∈ p15) => hD b hb' hb); clear hD
  have DBS0_N := Lib.hid (fun hb => Nat.lt_irrefl _ (Nat.lt_of_lt_of_le (ltOf (show w15.heap[W.heap.size]? = some (.cells #[.int .i64 x0.groups, .int .i64 x0.column, .int .i64 x0.data, .int .i64 x0.spare, .int .i64 x0.rows, .int .i64 x0.cap, .int .i64 x0.batch, .int .i64 x0.queue, .int .i64 x0.stage] 41) from (by exact HBS0.out))) (hf.2 _ hb).1) : W.heap.size ∉ p16)
  have DBBQ_N := Lib.hid (fun hb => Nat.lt_irrefl _ (Nat.lt_of_lt_of_le (ltOf (show w15.heap[w3.heap.size]? = some (.cells #[.int .i64 n, .slice b3 LR d3] 56) from (by exact HBBQ.out))) (hf.2 _ hb).1) : w3.heap.size ∉ p16)
  have DBBP_N := Lib.hid (fun hb => Nat.lt_irrefl _ (Nat.lt_of_lt_of_le (ltOf (show w15.heap[w6.heap.size]? = some (.cells #[.int .i64 n, .slice b6 LR d6] 56) from (by exact HBBP.out))) (hf.2 _ hb).1) : w6.heap.size ∉ p16)
  have h := (Lay.sl_ext byteL HQ.out hc); clear HQ; have HQ := Lib.hid h; clear h
  have h := (Lay.sl_ext byteL HP.out hc); clear HP; have HP := Lib.hid h; clear h
  have h := (Lay.sl_ext byteL.slice HT1.out hc); clear HT1; have HT1 := Lib.hid h; clear h
  have h := Fresh.chg HFQ.out hc; clear HFQ; have HFQ := Lib.hid h; clear h
  have h := Fresh.chg HFP.out hc; clear HFP; have HFP := Lib.hid h; clear h
  have h := Fresh.chg HFT1.out hc; clear HFT1; have HFT1 := Lib.hid h; clear h
  have h := hc.keepb (b := W.heap.size) (o := .cells #[.int .i64 x0.groups, .int .i64 x0.column, .int .i64 x0.data, .int .i64 x0.spare, .int .i64 x0.rows, .int .i64 x0.cap, .int .i64 x0.batch, .int .i64 x0.queue, .int .i64 x0.stage] 41) (by exact HBS0.out) (by simp); clear HBS0 cS0 lS0; have cS0 := cellsOf h; have lS0 := ltOf h; have HBS0 := Lib.hid h; clear h
  have h := hc.keepb (b := w3.heap.size) (o := .cells #[.int .i64 n, .slice b3 LR d3] 56) (by exact HBBQ.out) (by simp); clear HBBQ cBQ lBQ; have cBQ := cellsOf h; have lBQ := ltOf h; have HBBQ := Lib.hid h; clear h
  have h := hc.keepb (b := w6.heap.size) (o := .cells #[.int .i64 n, .slice b6 LR d6] 56) (by exact HBBP.out) (by simp); clear HBBP cBP lBP; have cBP := cellsOf h; have lBP := ltOf h; have HBBP := Lib.hid h; clear h
  have h := Chg.trans0 HC.out hc; clear HC; have HC := Lib.hid h; clear h
  have HN := Lib.hid hs; have HFN := Lib.hid (hf.mono (Nat.zero_le _)); clear hs hf
  clear hc
  go_wp2_with fail
  refine (eqBytesResult_any n b16 b3 LR d16 d3 R p16 p3 _ (Lay.sl_ext byteL HN.out (Chg.alloc (Chg.refl [] w16) (.cells #[.int .i64 n, .slice b16 LR d16] 56))) (Lay.sl_ext byteL HQ.out (Chg.alloc (Chg.refl [] w16) (.cells #[.int .i64 n, .slice b16 LR d16] 56)))).mono ?_
  rintro e w17 ⟨rfl, hc⟩
  have DBBN_Q := Lib.hid (fun hb => Nat.lt_irrefl _ (Nat.lt_of_lt_of_le ((Lay.sl_lt byteL HQ.out) _ hb) (show w16.heap.size ≤ w16.heap.size by omega)) : w16.heap.size ∉ p3)
  have DBBN_P := Lib.hid (fun hb => Nat.lt_irrefl _ (Nat.lt_of_lt_of_le ((Lay.sl_lt byteL HP.out) _ hb) (show w16.heap.size ≤ w16.heap.size by omega)) : w16.heap.size ∉ p6)
  have DBBN_T1 := Lib.hid (fun hb => Nat.lt_irrefl _ (Nat.lt_of_lt_of_le ((Lay.sl_lt byteL.slice HT1.out) _ hb) (show w16.heap.size ≤ w16.heap.size by omega)) : w16.heap.size ∉ p15)
  have DBBN_N := Lib.hid (fun hb => Nat.lt_irrefl _ (Nat.lt_of_lt_of_le ((Lay.sl_lt byteL HN.out) _ hb) (show w16.heap.size ≤ w16.heap.size by omega)) : w16.heap.size ∉ p16)
  have h := (Lay.sl_ext byteL (Lay.sl_ext byteL HQ.out (Chg.alloc (Chg.refl [] w16) (.cells #[.int .i64 n, .slice b16 LR d16] 56))) hc); clear HQ; have HQ := Lib.hid h; clear h
  have h := (Lay.sl_ext byteL (Lay.sl_ext byteL HP.out (Chg.alloc (Chg.refl [] w16) (.cells #[.int .i64 n, .slice b16 LR d16] 56))) hc); clear HP; have HP := Lib.hid h; clear h
  have h := (Lay.sl_ext byteL.slice (Lay.sl_ext byteL.slice HT1.out (Chg.alloc (Chg.refl [] w16) (.cells #[.int .i64 n, .slice b16 LR d16] 56))) hc); clear HT1; have HT1 := Lib.hid h; clear h
  have h := (Lay.sl_ext byteL (Lay.sl_ext byteL HN.out (Chg.alloc (Chg.refl [] w16) (.cells #[.int .i64 n, .slice b16 LR d16] 56))) hc); clear HN; have HN := Lib.hid h; clear h
  have h := Fresh.chg (HFQ.out.chg (Chg.alloc (Chg.refl [] w16) (.cells #[.int .i64 n, .slice b16 LR d16] 56))) hc; clear HFQ; have HFQ := Lib.hid h; clear h
  have h := Fresh.chg (HFP.out.chg (Chg.alloc (Chg.refl [] w16) (.cells #[.int .i64 n, .slice b16 LR d16] 56))) hc; clear HFP; have HFP := Lib.hid h; clear h
  have h := Fresh.chg (HFT1.out.chg (Chg.alloc (Chg.refl [] w16) (.cells #[.int .i64 n, .slice b16 LR d16] 56))) hc; clear HFT1; have HFT1 := Lib.hid h; clear h
  have h := Fresh.chg (HFN.out.chg (Chg.alloc (Chg.refl [] w16) (.cells #[.int .i64 n, .slice b16 LR d16] 56))) hc; clear HFN; have HFN := Lib.hid h; clear h
  have h := hc.keepb (b := W.heap.size) (o := .cells #[.int .i64 x0.groups, .int .i64 x0.column, .int .i64 x0.data, .int .i64 x0.spare, .int .i64 x0.rows, .int .i64 x0.cap, .int .i64 x0.batch, .int .i64 x0.queue, .int .i64 x0.stage] 41) (by refine keep_alloc ?_ _; exact HBS0.out) (by simp); clear HBS0 cS0 lS0; have cS0 := cellsOf h; have lS0 := ltOf h; have HBS0 := Lib.hid h; clear h
  have h := hc.keepb (b := w3.heap.size) (o := .cells #[.int .i64 n, .slice b3 LR d3] 56) (by refine keep_alloc ?_ _; exact HBBQ.out) (by simp); clear HBBQ cBQ lBQ; have cBQ := cellsOf h; have lBQ := ltOf h; have HBBQ := Lib.hid h; clear h
  have h := hc.keepb (b := w6.heap.size) (o := .cells #[.int .i64 n, .slice b6 LR d6] 56) (by refine keep_alloc ?_ _; exact HBBP.out) (by simp); clear HBBP cBP lBP; have cBP := cellsOf h; have lBP := ltOf h; have HBBP := Lib.hid h; clear h
  have h := hc.keepb (b := w16.heap.size) (o := .cells #[.int .i64 n, .slice b16 LR d16] 56) (by exact new_at (by simp) _) (by simp); have cBN := cellsOf h; have lBN := ltOf h; have HBBN := Lib.hid h; clear h
  have h := Chg.trans0 (Chg.alloc HC.out (.cells #[.int .i64 n, .slice b16 LR d16] 56)) hc; clear HC; have HC := Lib.hid h; clear h
  clear hc
  go_wp2_with fail
  refine (heldBytesResult_any n b6 LR d6 p6 1 _ HP.out (by omega) (by omega)).mono ?_
  rintro e w18 ⟨rfl, hc⟩
  have h := (Lay.sl_ext byteL HQ.out hc); clear HQ; have HQ := Lib.hid h; clear h
  have h := (Lay.sl_ext byteL HP.out hc); clear HP; have HP := Lib.hid h; clear h
  have h := (Lay.sl_ext byteL.slice HT1.out hc); clear HT1; have HT1 := Lib.hid h; clear h
  have h := (Lay.sl_ext byteL HN.out hc); clear HN; have HN := Lib.hid h; clear h
  have h := Fresh.chg HFQ.out hc; clear HFQ; have HFQ := Lib.hid h; clear h
  have h := Fresh.chg HFP.out hc; clear HFP; have HFP := Lib.hid h; clear h
  have h := Fresh.chg HFT1.out hc; clear HFT1; have HFT1 := Lib.hid h; clear h
  have h := Fresh.chg HFN.out hc; clear HFN; have HFN := Lib.hid h; clear h
  have h := hc.keepb (b := W.heap.size) (o := .cells #[.int .i64 x0.groups, .int .i64 x0.column, .int .i64 x0.data, .int .i64 x0.spare, .int .i64 x0.rows, .int .i64 x0.cap, .int .i64 x0.batch, .int .i64 x0.queue, .int .i64 x0.stage] 41) (by exact HBS0.out) (by simp); clear HBS0 cS0 lS0; have cS0 := cellsOf h; have lS0 := ltOf h; have HBS0 := Lib.hid h; clear h
  have h := hc.keepb (b := w3.heap.size) (o := .cells #[.int .i64 n, .slice b3 LR d3] 56) (by exact HBBQ.out) (by simp); clear HBBQ cBQ lBQ; have cBQ := cellsOf h; have lBQ := ltOf h; have HBBQ := Lib.hid h; clear h
  have h := hc.keepb (b := w6.heap.size) (o := .cells #[.int .i64 n, .slice b6 LR d6] 56) (by exact HBBP.out) (by simp); clear HBBP cBP lBP; have cBP := cellsOf h; have lBP := ltOf h; have HBBP := Lib.hid h; clear h
  have h := hc.keepb (b := w16.heap.size) (o := .cells #[.int .i64 n, .slice b16 LR d16] 56) (by exact HBBN.out) (by simp); clear HBBN cBN lBN; have cBN := cellsOf h; have lBN := ltOf h; have HBBN := Lib.hid h; clear h
  have h := Chg.trans0 HC.out hc; clear HC; have HC := Lib.hid h; clear h
  clear hc
  go_wp2_with fail
  go_ret
  exact ⟨rfl, HC.out⟩

/-! ### FnExactJoinObject -/
namespace fnExactJoinObject
theorem own : ownKnob Try.prog.godebug = none := by kernel_rfl
theorem laidOut : laidOutB Try.prog = true := by kernel_rfl
set_option linter.unusedVariables false in
set_option maxRecDepth 100000 in
theorem lifted (os : Os) (started : os.Started) (H : Type) (enc : TypeId × Value → H) :
    ReturnsInHanded {} Try.checked os 6 .any (Rows.fnExactJoinObjectSpec.pre6 enc Try.prog Try.f6 Rows.fnExactJoinObjectRow.domain false) (Rows.fnExactJoinObjectSpec.post enc Try.prog Try.f6 false true false false) := by
  refine returnsInHanded_of_change (C := Try.checked) own started (by kernel_rfl) Try.func6
    (ChangeSpec.witness6 (enc := enc) (C := Try.checked) false ⟨#[], #[.agg #[.int .i64 0, .int .i64 0, .int .i64 0, .int .i64 0, .int .i64 0, .int .i64 0, .int .i64 0, .int .i64 0, .int .i64 0], .slice none 0 0, .int .i64 0], []⟩ 8 (by kernel_rfl) (by kernel_rfl) (by kernel_rfl) (by kernel_rfl)) ?_
  intro W base args ds gs before hval0 hW hcnd _
  have hval : ∀ (j : Nat) t v, Try.f6.params[j]? = some t → args[j]? = some v → Value.okWide Try.prog W .any base t v := hval0
  have hW' := hW
  obtain ⟨p, q, hA0, hV, rfl, hfz, hnd⟩ := hW
  have hA : DataW.TrodAll enc Try.prog W 0 (fun _ => true) true Try.f6.params.toList args.toList ds p := hA0
  rw [Try.params6] at hA hval
  obtain ⟨v0, vs0, d0, ds0, p0, q0, hargs, rfl, rfl, h0, r0⟩ := trodAll_cons hA
  obtain ⟨v1, vs1, d1, ds1, p1, q1, rfl, rfl, rfl, h1, r1⟩ := trodAll_cons r0
  obtain ⟨v2, vs2, d2, ds2, p2, q2, rfl, rfl, rfl, h2, r2⟩ := trodAll_cons r1
  obtain ⟨rfl, rfl, rfl⟩ := trodAll_nil r2
  obtain rfl : args = #[v0, v1, v2] := by cases args; simp_all
  obtain ⟨rfl, rfl⟩ := trodVars_none hV
  have k0 := h0
  have lt0 : ∀ x ∈ p0, x.block < W.heap.size := by obtain ⟨m, hm⟩ := k0; exact DataW.trod_lt m _ _ _ hm
  obtain ⟨cs0, rfl, _⟩ := okWide_struct Try.underlying41 (hval 0 41 v0 rfl rfl)
  obtain ⟨x0, fp0, o0⟩ := op_shp.trod h0
  have k1 := h1
  have lt1 : ∀ x ∈ p1, x.block < W.heap.size := by obtain ⟨m, hm⟩ := k1; exact DataW.trod_lt m _ _ _ hm
  obtain ⟨a1, len1, cap1, rfl⟩ := okWide_slice Try.underlying42 (hval 1 42 v1 rfl rfl)
  obtain ⟨x1, fp1, a1', l1', c1', e1, o1⟩ := op_lists.trod h1
  simp only [Value.cells, List.cons.injEq, Value.slice.injEq, and_true] at e1
  obtain ⟨rfl, rfl, rfl⟩ := e1
  have k2 := h2
  have lt2 : ∀ x ∈ p2, x.block < W.heap.size := by obtain ⟨m, hm⟩ := k2; exact DataW.trod_lt m _ _ _ hm
  obtain ⟨x2, rfl, _, _, w2⟩ := open_int Try.underlying2 (hval 2 2 v2 rfl rfl) h2
  clear hA0 hval0
  simp only [List.append_nil] at hW'
  refine (walk_FnExactJoinObject W cs0 x0 fp0 o0 _ _ _ x1 fp1 o1 x2 (i64_of_wf w2)).mono fun e W' ⟨he, hc⟩ => ?_
  subst he
  have bel := hc.below0
  exact ⟨_, rfl, _, _, _, [], _, [], hW', trodAll_mk1 (shut_bool Try.underlying4 _), (trodAll_cons_mk (Below.trod laidOut (by kernel_rfl) (of_decide_eq_true (by kernel_rfl)) k0 bel lt0) (trodAll_cons_mk (Below.trod laidOut (by kernel_rfl) (of_decide_eq_true (by kernel_rfl)) k1 bel lt1) (trodAll_cons_mk (Below.trod laidOut (by kernel_rfl) (of_decide_eq_true (by kernel_rfl)) k2 bel lt2) trodAll_mk0))), rfl, bel.frame _, fun h => by cases h⟩

theorem over : Rows.fnExactJoinObjectRow.holds Try.pinned (OpenSpec.ofChange Rows.fnExactJoinObjectSpec) :=
  OpenClaim.holds_of_wide 6 Try.f6 rfl rfl rfl rfl rfl rfl rfl ⟨rfl, rfl, rfl, rfl, rfl⟩ rfl rfl rfl rfl rfl (by kernel_rfl) Try.func6 (by kernel_rfl)
    (of_decide_eq_true (by kernel_rfl)) (by unfold Func.isWrapper; first | (rw [if_pos (by decide +kernel)]; kernel_rfl) | (rw [if_neg (by decide +kernel)]; exact ⟨rfl, rfl⟩))
    (fun os started H enc _ => lifted os started H enc)
end fnExactJoinObject
theorem FnExactJoinObject_holds : Rows.FnExactJoinObjectSaid := fnExactJoinObject.over
#print axioms FnExactJoinObject_holds
end Go.Proofs.Ytlnclkjmlpipgaa
