
/- The program's SolveG returns what the reference returns, leaves its arguments and shares no memory, for all arguments: the law FnExactSolveG returns true.
Conditions: none. -/
import Derived.Test.YtlnclkjmlpipgaaRows
import Derived.Test.YtlnclkjmlpipgaaAt
import Derived.Test.YtlnclkjmlpipgaaSvg
import Derived.Test.YtlnclkjmlpipgaaHelp
import Derived.Test.YtlnclkjmlpipgaaBss
import Derived.ShutString
import Derived.ChangeOld
namespace Go.Proofs.Ytlnclkjmlpipgaa
open Go.ChangeShapes Go.WideShapes Go.ChangeAt Go.RowKit

set_option maxRecDepth 100000 in
set_option maxHeartbeats 4000000 in
theorem walk_FnExactSolveG (W : World) (a0 : Option Addr) (la0 ca0 : Nat) (x0 : List (List UInt8)) (f0 : List Nat) (o0 : byteL.slice.sl W a0 la0 ca0 x0 f0) (a1 : Option Addr) (la1 ca1 : Nat) (x1 : List UInt8) (f1 : List Nat) (o1 : byteL.sl W a1 la1 ca1 x1 f1) :
    Calls Try.prog 12 #[.slice a0 la0 ca0, .slice a1 la1 ca1] W fun e w' => e = .returned (.bool true) ∧ Chg [] W w' := by
  have HC : RowKit.Hid (Chg [] W W) := Chg.refl _ _
  have HO0 := Lib.hid o0; clear o0
  have hm0 : (la0 : Int) ≤ 9223372036854775807 := by have := Lay.sl_max _ HO0.out; omega
  have HO1 := Lib.hid o1; clear o1
  have hm1 : (la1 : Int) ≤ 9223372036854775807 := by have := Lay.sl_max _ HO1.out; omega
  by_cases hz1 : (1048576 : Int) < (la1 : Int)
  · have HC2 := Lib.hid HC.out
    clear HC
    go_enter Try.func12, Try.ntmps12
    go_wp2_with fail
    go_ret
    exact ⟨rfl, HC2.out⟩
  obtain ⟨z0, hze0⟩ : ∃ z, z = szBB x0 1048576 := ⟨_, rfl⟩
  have HSZ0 := Lib.hid (szBB_any a0 la0 ca0 x0 f0 1048576 W HO0.out (by omega) (by omega))
  rw [← hze0] at HSZ0
  by_cases hn0 : z0 < 0
  · clear hze0
    have HC2 := Lib.hid HC.out
    clear HC
    go_enter Try.func12, Try.ntmps12
    go_wp2_with fail
    refine HSZ0.out.mono ?_; rintro e w' ⟨rfl, rfl⟩
    go_wp2_with fail
    go_ret
    exact ⟨rfl, HC2.out⟩
  have HZL0 := Lib.hid (szBB_le (xs := x0) (l := 1048576) (by rw [← hze0]; omega))
  have hlz0 : la0 ≤ 1048576 := by have := HZL0.out.2.1; have := HO0.out.1; omega
  have HZM0 := Lib.hid (fun x hx => by have := HZL0.out.2.2 x hx; omega : ∀ x ∈ x0, x.length ≤ 1048576)
  have hsum0 : sumLen x0 ≤ 1048576 := by have := szBB_sum (xs := x0) (l := 1048576) (by rw [← hze0]; omega); omega
  have hsun0 := sumLen_nonneg x0
  have hzl0 : z0 ≤ 1048576 := by have := HZL0.out.1; omega
  clear hze0
  obtain ⟨r, hr⟩ : ∃ r, r = solveRes x0 x1 := ⟨_, rfl⟩
  have HS : RowKit.Hid (∀ (a0 : Option Addr) (l0 c0 : Nat) (p0 : List Nat) (a1 : Option Addr) (l1 c1 : Nat) (p1 : List Nat) (w : World), byteL.slice.sl w a0 l0 c0 x0 p0 → byteL.sl w a1 l1 c1 x1 p1 → Calls Try.prog 54 #[.slice a0 l0 c0, .slice a1 l1 c1] w (NewRes byteL r w)) := by rw [hr]; exact fun a0 l0 c0 p0 a1 l1 c1 p1 w h0 h1 => spec_solve a0 a1 l0 c0 l1 c1 x0 x1 p0 p1 w h0 h1
  have HI : RowKit.Hid (∀ (a0 : Option Addr) (l0 c0 : Nat) (p0 : List Nat) (a1 : Option Addr) (l1 c1 : Nat) (p1 : List Nat) (w : World), byteL.slice.sl w a0 l0 c0 x0 p0 → byteL.sl w a1 l1 c1 x1 p1 → Calls Try.prog 53 #[.slice a0 l0 c0, .slice a1 l1 c1] w (NewRes byteL r w)) := by rw [hr]; exact fun a0 l0 c0 p0 a1 l1 c1 p1 w h0 h1 => impl_solve a0 a1 l0 c0 l1 c1 x0 x1 p0 p1 w h0 h1
  have hle : r.2.length ≤ 4611686018427387000 := by rw [hr]; have := solveRes_len x0 x1; omega
  clear hr
  obtain ⟨n, R⟩ := r
  obtain ⟨LR, hLR⟩ : ∃ LR, R.length = LR := ⟨_, rfl⟩
  have HLE : RowKit.Hid ((LR : Int) ≤ 4611686018427387000) := by show (LR : Int) ≤ _; rw [← hLR]; exact Int.ofNat_le.2 hle
  clear hle
  have HLR := Lib.hid hLR; clear hLR
  have HLX0 := Lib.hid HO0.out.1
  have HLX1 := Lib.hid HO1.out.1
  go_enter Try.func12, Try.ntmps12
  go_wp2_with fail
  refine HSZ0.out.mono ?_; rintro e w' ⟨rfl, rfl⟩
  go_wp2_with fail
  refine (toBB_any a0 la0 ca0 x0 f0 _ (Lay.sl_ext byteL.slice HO0.out (HC.out)) (by omega) HZM0.out).mono ?_
  rintro e w1 ⟨b1, d1, p1, rfl, hs, hf, hc⟩
  rw [← HLX0.out] at hs ⊢
  have hG := fun (x : Nat) (hx : x ∈ p1) => Nat.le_trans HC.out.size (hf.2 x hx).1
  have HGS0 := Lib.hid hG; clear hG
  have h := HC.out.trans0 hc; clear HC; have HC := Lib.hid h; clear h
  have HS0 := Lib.hid hs; have HFS0 := Lib.hid (hf.mono (Nat.zero_le _)); clear hs hf
  clear hc
  go_wp2_with fail
  refine (toB_any a1 la1 ca1 x1 f1 _ (Lay.sl_ext byteL HO1.out (HC.out)) (by omega)).mono ?_
  rintro e w2 ⟨b2, d2, p2, rfl, hs, hf, hc⟩
  rw [← HLX1.out] at hs ⊢
  have hG := fun (x : Nat) (hx : x ∈ p2) => Nat.le_trans HC.out.size (hf.2 x hx).1
  have HGS1 := Lib.hid hG; clear hG
  have hD := fun (b : Nat) (hb : b ∈ p1) (hb' : b ∈ p2) => Nat.lt_irrefl _ (Nat.lt_of_lt_of_le (Lay.sl_lt _ HS0.out b hb) (hf.2 b hb').1)
  have DS0_S1 := Lib.hid hD; have DS1_S0 := Lib.hid (fun (b : Nat) (hb : b ∈ p2) (hb' : b ∈ p1) => hD b hb' hb); clear hD
  have h := Lay.sl_ext byteL.slice HS0.out hc; clear HS0; have HS0 := Lib.hid h; clear h
  have h := Fresh.chg HFS0.out hc; clear HFS0; have HFS0 := Lib.hid h; clear h
  have h := HC.out.trans0 hc; clear HC; have HC := Lib.hid h; clear h
  have HS1 := Lib.hid hs; have HFS1 := Lib.hid (hf.mono (Nat.zero_le _)); clear hs hf
  clear hc
  go_wp2_with fail
  refine (HS.out b1 la0 d1 p1 b2 la1 d2 p2 _ HS0.out HS1.out).mono ?_
  rintro e w3 ⟨b3, d3, p3, rfl, hs, hf, hc⟩
  simp only [] at hs ⊢; rw [HLR.out] at hs ⊢
  have hG := fun (x : Nat) (hx : x ∈ p3) => Nat.le_trans HC.out.size (hf.2 x hx).1
  have HGQ := Lib.hid hG; clear hG
  have hD := fun (b : Nat) (hb : b ∈ p1) (hb' : b ∈ p3) => Nat.lt_irrefl _ (Nat.lt_of_lt_of_le (Lay.sl_lt _ HS0.out b hb) (hf.2 b hb').1)
  have DS0_Q := Lib.hid hD; have DQ_S0 := Lib.hid (fun (b : Nat) (hb : b ∈ p3) (hb' : b ∈ p1) => hD b hb' hb); clear hD
  have hD := fun (b : Nat) (hb : b ∈ p2) (hb' : b ∈ p3) => Nat.lt_irrefl _ (Nat.lt_of_lt_of_le (Lay.sl_lt _ HS1.out b hb) (hf.2 b hb').1)
  have DS1_Q := Lib.hid hD; have DQ_S1 := Lib.hid (fun (b : Nat) (hb : b ∈ p3) (hb' : b ∈ p2) => hD b hb' hb); clear hD
  have h := Lay.sl_ext byteL.slice HS0.out hc; clear HS0; have HS0 := Lib.hid h; clear h
  have h := Lay.sl_ext byteL HS1.out hc; clear HS1; have HS1 := Lib.hid h; clear h
  have h := Fresh.chg HFS0.out hc; clear HFS0; have HFS0 := Lib.hid h; clear h
  have h := Fresh.chg HFS1.out hc; clear HFS1; have HFS1 := Lib.hid h; clear h
  have h := HC.out.trans0 hc; clear HC; have HC := Lib.hid h; clear h
  have HQ := Lib.hid hs; have HFQ := Lib.hid (hf.mono (Nat.zero_le _)); clear hs hf
  clear hc
  go_wp2_with fail
  refine (toBB_any a0 la0 ca0 x0 f0 _ (Lay.sl_ext byteL.slice HO0.out (HC.out.alloc _)) (by omega) HZM0.out).mono ?_
  rintro e w4 ⟨b4, d4, p4, rfl, hs, hf, hc⟩
  rw [← HLX0.out] at hs ⊢
  have hG := fun (x : Nat) (hx : x ∈ p4) => Nat.le_trans HC.out.size (Nat.le_trans (show w3.heap.size ≤ (w3.alloc (.cells #[.int .i64 n, .slice b3 LR d3] 56)).heap.size by simp) (hf.2 x hx).1)
  have HGX0 := Lib.hid hG; clear hG
  have hD := fun (b : Nat) (hb : b ∈ p3) (hb' : b ∈ p4) => Nat.lt_irrefl _ (Nat.lt_of_lt_of_le (Lay.sl_lt _ (Lay.sl_ext byteL HQ.out ((Chg.refl [] w3).alloc (.cells #[.int .i64 n, .slice b3 LR d3] 56))) b hb) (hf.2 b hb').1)
  have DQ_X0 := Lib.hid hD; have DX0_Q := Lib.hid (fun (b : Nat) (hb : b ∈ p4) (hb' : b ∈ p3) => hD b hb' hb); clear hD
  have DBBQ_X0 := Lib.hid (fun hb => Nat.lt_irrefl _ (Nat.lt_of_lt_of_le (ltOf (new_alloc w3 (.cells #[.int .i64 n, .slice b3 LR d3] 56))) (hf.2 _ hb).1) : w3.heap.size ∉ p4)
  have DBBQ_Q := Lib.hid (fun hb => Nat.lt_irrefl _ (Lay.sl_lt _ HQ.out _ hb) : w3.heap.size ∉ p3)
  have h := Lay.sl_ext byteL (Lay.sl_ext byteL HQ.out ((Chg.refl [] w3).alloc (.cells #[.int .i64 n, .slice b3 LR d3] 56))) hc; clear HQ; have HQ := Lib.hid h; clear h
  have h := Fresh.chg (HFQ.out.chg ((Chg.refl [] w3).alloc (.cells #[.int .i64 n, .slice b3 LR d3] 56))) hc; clear HFQ; have HFQ := Lib.hid h; clear h
  have h := hc.keepb (new_alloc w3 (.cells #[.int .i64 n, .slice b3 LR d3] 56)) (by simp); have cBQ := cellsOf h; have lBQ := ltOf h; have HBBQ := Lib.hid h; clear h
  have h := (HC.out.alloc (.cells #[.int .i64 n, .slice b3 LR d3] 56)).trans0 hc; clear HC; have HC := Lib.hid h; clear h
  have HX0 := Lib.hid hs; have HFX0 := Lib.hid (hf.mono (Nat.zero_le _)); clear hs hf
  clear hc
  go_wp2_with fail
  refine (toB_any a1 la1 ca1 x1 f1 _ (Lay.sl_ext byteL HO1.out (HC.out)) (by omega)).mono ?_
  rintro e w5 ⟨b5, d5, p5, rfl, hs, hf, hc⟩
  rw [← HLX1.out] at hs ⊢
  have hG := fun (x : Nat) (hx : x ∈ p5) => Nat.le_trans HC.out.size (hf.2 x hx).1
  have HGX1 := Lib.hid hG; clear hG
  have hD := fun (b : Nat) (hb : b ∈ p3) (hb' : b ∈ p5) => Nat.lt_irrefl _ (Nat.lt_of_lt_of_le (Lay.sl_lt _ HQ.out b hb) (hf.2 b hb').1)
  have DQ_X1 := Lib.hid hD; have DX1_Q := Lib.hid (fun (b : Nat) (hb : b ∈ p5) (hb' : b ∈ p3) => hD b hb' hb); clear hD
  have hD := fun (b : Nat) (hb : b ∈ p4) (hb' : b ∈ p5) => Nat.lt_irrefl _ (Nat.lt_of_lt_of_le (Lay.sl_lt _ HX0.out b hb) (hf.2 b hb').1)
  have DX0_X1 := Lib.hid hD; have DX1_X0 := Lib.hid (fun (b : Nat) (hb : b ∈ p5) (hb' : b ∈ p4) => hD b hb' hb); clear hD
  have DBBQ_X1 := Lib.hid (fun hb => Nat.lt_irrefl _ (Nat.lt_of_lt_of_le (ltOf HBBQ.out) (hf.2 _ hb).1) : w3.heap.size ∉ p5)
  have h := Lay.sl_ext byteL HQ.out hc; clear HQ; have HQ := Lib.hid h; clear h
  have h := Lay.sl_ext byteL.slice HX0.out hc; clear HX0; have HX0 := Lib.hid h; clear h
  have h := Fresh.chg HFQ.out hc; clear HFQ; have HFQ := Lib.hid h; clear h
  have h := Fresh.chg HFX0.out hc; clear HFX0; have HFX0 := Lib.hid h; clear h
  have h := hc.keepb HBBQ.out (by simp); clear HBBQ cBQ lBQ; have cBQ := cellsOf h; have lBQ := ltOf h; have HBBQ := Lib.hid h; clear h
  have h := HC.out.trans0 hc; clear HC; have HC := Lib.hid h; clear h
  have HX1 := Lib.hid hs; have HFX1 := Lib.hid (hf.mono (Nat.zero_le _)); clear hs hf
  clear hc
  go_wp2_with fail
  refine (HI.out b4 la0 d4 p4 b5 la1 d5 p5 _ HX0.out HX1.out).mono ?_
  rintro e w6 ⟨b6, d6, p6, rfl, hs, hf, hc⟩
  simp only [] at hs ⊢; rw [HLR.out] at hs ⊢
  have hG := fun (x : Nat) (hx : x ∈ p6) => Nat.le_trans HC.out.size (hf.2 x hx).1
  have HGP := Lib.hid hG; clear hG
  have hD := fun (b : Nat) (hb : b ∈ p3) (hb' : b ∈ p6) => Nat.lt_irrefl _ (Nat.lt_of_lt_of_le (Lay.sl_lt _ HQ.out b hb) (hf.2 b hb').1)
  have DQ_P := Lib.hid hD; have DP_Q := Lib.hid (fun (b : Nat) (hb : b ∈ p6) (hb' : b ∈ p3) => hD b hb' hb); clear hD
  have hD := fun (b : Nat) (hb : b ∈ p4) (hb' : b ∈ p6) => Nat.lt_irrefl _ (Nat.lt_of_lt_of_le (Lay.sl_lt _ HX0.out b hb) (hf.2 b hb').1)
  have DX0_P := Lib.hid hD; have DP_X0 := Lib.hid (fun (b : Nat) (hb : b ∈ p6) (hb' : b ∈ p4) => hD b hb' hb); clear hD
  have hD := fun (b : Nat) (hb : b ∈ p5) (hb' : b ∈ p6) => Nat.lt_irrefl _ (Nat.lt_of_lt_of_le (Lay.sl_lt _ HX1.out b hb) (hf.2 b hb').1)
  have DX1_P := Lib.hid hD; have DP_X1 := Lib.hid (fun (b : Nat) (hb : b ∈ p6) (hb' : b ∈ p5) => hD b hb' hb); clear hD
  have DBBQ_P := Lib.hid (fun hb => Nat.lt_irrefl _ (Nat.lt_of_lt_of_le (ltOf HBBQ.out) (hf.2 _ hb).1) : w3.heap.size ∉ p6)
  have h := Lay.sl_ext byteL HQ.out hc; clear HQ; have HQ := Lib.hid h; clear h
  have h := Lay.sl_ext byteL.slice HX0.out hc; clear HX0; have HX0 := Lib.hid h; clear h
  have h := Lay.sl_ext byteL HX1.out hc; clear HX1; have HX1 := Lib.hid h; clear h
  have h := Fresh.chg HFQ.out hc; clear HFQ; have HFQ := Lib.hid h; clear h
  have h := Fresh.chg HFX0.out hc; clear HFX0; have HFX0 := Lib.hid h; clear h
  have h := Fresh.chg HFX1.out hc; clear HFX1; have HFX1 := Lib.hid h; clear h
  have h := hc.keepb HBBQ.out (by simp); clear HBBQ cBQ lBQ; have cBQ := cellsOf h; have lBQ := ltOf h; have HBBQ := Lib.hid h; clear h
  have h := HC.out.trans0 hc; clear HC; have HC := Lib.hid h; clear h
  have HP := Lib.hid hs; have HFP := Lib.hid (hf.mono (Nat.zero_le _)); clear hs hf
  clear hc
  go_wp2_with fail
  refine (eqBytesResult_any n b6 b3 LR d6 d3 R p6 p3 _ (Lay.sl_ext byteL HP.out ((Chg.refl [] w6).alloc (.cells #[.int .i64 n, .slice b6 LR d6] 56))) (Lay.sl_ext byteL HQ.out ((Chg.refl [] w6).alloc (.cells #[.int .i64 n, .slice b6 LR d6] 56)))).mono ?_
  rintro e w7 ⟨rfl, hc⟩
  have DBBP_Q := Lib.hid (fun hb => Nat.lt_irrefl _ (Lay.sl_lt _ HQ.out _ hb) : w6.heap.size ∉ p3)
  have DBBP_X0 := Lib.hid (fun hb => Nat.lt_irrefl _ (Lay.sl_lt _ HX0.out _ hb) : w6.heap.size ∉ p4)
  have DBBP_X1 := Lib.hid (fun hb => Nat.lt_irrefl _ (Lay.sl_lt _ HX1.out _ hb) : w6.heap.size ∉ p5)
  have DBBP_P := Lib.hid (fun hb => Nat.lt_irrefl _ (Lay.sl_lt _ HP.out _ hb) : w6.heap.size ∉ p6)
  have h := Lay.sl_ext byteL (Lay.sl_ext byteL HQ.out ((Chg.refl [] w6).alloc (.cells #[.int .i64 n, .slice b6 LR d6] 56))) hc; clear HQ; have HQ := Lib.hid h; clear h
  have h := Lay.sl_ext byteL.slice (Lay.sl_ext byteL.slice HX0.out ((Chg.refl [] w6).alloc (.cells #[.int .i64 n, .slice b6 LR d6] 56))) hc; clear HX0; have HX0 := Lib.hid h; clear h
  have h := Lay.sl_ext byteL (Lay.sl_ext byteL HX1.out ((Chg.refl [] w6).alloc (.cells #[.int .i64 n, .slice b6 LR d6] 56))) hc; clear HX1; have HX1 := Lib.hid h; clear h
  have h := Lay.sl_ext byteL (Lay.sl_ext byteL HP.out ((Chg.refl [] w6).alloc (.cells #[.int .i64 n, .slice b6 LR d6] 56))) hc; clear HP; have HP := Lib.hid h; clear h
  have h := Fresh.chg (HFQ.out.chg ((Chg.refl [] w6).alloc (.cells #[.int .i64 n, .slice b6 LR d6] 56))) hc; clear HFQ; have HFQ := Lib.hid h; clear h
  have h := Fresh.chg (HFX0.out.chg ((Chg.refl [] w6).alloc (.cells #[.int .i64 n, .slice b6 LR d6] 56))) hc; clear HFX0; have HFX0 := Lib.hid h; clear h
  have h := Fresh.chg (HFX1.out.chg ((Chg.refl [] w6).alloc (.cells #[.int .i64 n, .slice b6 LR d6] 56))) hc; clear HFX1; have HFX1 := Lib.hid h; clear h
  have h := Fresh.chg (HFP.out.chg ((Chg.refl [] w6).alloc (.cells #[.int .i64 n, .slice b6 LR d6] 56))) hc; clear HFP; have HFP := Lib.hid h; clear h
  have h := hc.keepb (keep_alloc HBBQ.out _) (by simp); clear HBBQ cBQ lBQ; have cBQ := cellsOf h; have lBQ := ltOf h; have HBBQ := Lib.hid h; clear h
  have h := hc.keepb (new_alloc w6 (.cells #[.int .i64 n, .slice b6 LR d6] 56)) (by simp); have cBP := cellsOf h; have lBP := ltOf h; have HBBP := Lib.hid h; clear h
  have h := (HC.out.alloc (.cells #[.int .i64 n, .slice b6 LR d6] 56)).trans0 hc; clear HC; have HC := Lib.hid h; clear h
  clear hc
  go_wp2_with fail
  refine (toBB_any a0 la0 ca0 x0 f0 _ (Lay.sl_ext byteL.slice HO0.out (HC.out)) (by omega) HZM0.out).mono ?_
  rintro e w8 ⟨b7, d7, p7, rfl, hs, hf, hc⟩
  rw [← HLX0.out] at hs ⊢
  have hG := fun (x : Nat) (hx : x ∈ p7) => Nat.le_trans HC.out.size (hf.2 x hx).1
  have HGY0 := Lib.hid hG; clear hG
  have hD := fun (b : Nat) (hb : b ∈ p3) (hb' : b ∈ p7) => Nat.lt_irrefl _ (Nat.lt_of_lt_of_le (Lay.sl_lt _ HQ.out b hb) (hf.2 b hb').1)
  have DQ_Y0 := Lib.hid hD; have DY0_Q := Lib.hid (fun (b : Nat) (hb : b ∈ p7) (hb' : b ∈ p3) => hD b hb' hb); clear hD
  have hD := fun (b : Nat) (hb : b ∈ p4) (hb' : b ∈ p7) => Nat.lt_irrefl _ (Nat.lt_of_lt_of_le (Lay.sl_lt _ HX0.out b hb) (hf.2 b hb').1)
  have DX0_Y0 := Lib.hid hD; have DY0_X0 := Lib.hid (fun (b : Nat) (hb : b ∈ p7) (hb' : b ∈ p4) => hD b hb' hb); clear hD
  have hD := fun (b : Nat) (hb : b ∈ p5) (hb' : b ∈ p7) => Nat.lt_irrefl _ (Nat.lt_of_lt_of_le (Lay.sl_lt _ HX1.out b hb) (hf.2 b hb').1)
  have DX1_Y0 := Lib.hid hD; have DY0_X1 := Lib.hid (fun (b : Nat) (hb : b ∈ p7) (hb' : b ∈ p5) => hD b hb' hb); clear hD
  have hD := fun (b : Nat) (hb : b ∈ p6) (hb' : b ∈ p7) => Nat.lt_irrefl _ (Nat.lt_of_lt_of_le (Lay.sl_lt _ HP.out b hb) (hf.2 b hb').1)
  have DP_Y0 := Lib.hid hD; have DY0_P := Lib.hid (fun (b : Nat) (hb : b ∈ p7) (hb' : b ∈ p6) => hD b hb' hb); clear hD
  have DBBQ_Y0 := Lib.hid (fun hb => Nat.lt_irrefl _ (Nat.lt_of_lt_of_le (ltOf HBBQ.out) (hf.2 _ hb).1) : w3.heap.size ∉ p7)
  have DBBP_Y0 := Lib.hid (fun hb => Nat.lt_irrefl _ (Nat.lt_of_lt_of_le (ltOf HBBP.out) (hf.2 _ hb).1) : w6.heap.size ∉ p7)
  have h := Lay.sl_ext byteL HQ.out hc; clear HQ; have HQ := Lib.hid h; clear h
  have h := Lay.sl_ext byteL.slice HX0.out hc; clear HX0; have HX0 := Lib.hid h; clear h
  have h := Lay.sl_ext byteL HX1.out hc; clear HX1; have HX1 := Lib.hid h; clear h
  have h := Lay.sl_ext byteL HP.out hc; clear HP; have HP := Lib.hid h; clear h
  have h := Fresh.chg HFQ.out hc; clear HFQ; have HFQ := Lib.hid h; clear h
  have h := Fresh.chg HFX0.out hc; clear HFX0; have HFX0 := Lib.hid h; clear h
  have h := Fresh.chg HFX1.out hc; clear HFX1; have HFX1 := Lib.hid h; clear h
  have h := Fresh.chg HFP.out hc; clear HFP; have HFP := Lib.hid h; clear h
  have h := hc.keepb HBBQ.out (by simp); clear HBBQ cBQ lBQ; have cBQ := cellsOf h; have lBQ := ltOf h; have HBBQ := Lib.hid h; clear h
  have h := hc.keepb HBBP.out (by simp); clear HBBP cBP lBP; have cBP := cellsOf h; have lBP := ltOf h; have HBBP := Lib.hid h; clear h
  have h := HC.out.trans0 hc; clear HC; have HC := Lib.hid h; clear h
  have HY0 := Lib.hid hs; have HFY0 := Lib.hid (hf.mono (Nat.zero_le _)); clear hs hf
  clear hc
  go_wp2_with fail
  refine (eqBB_any b4 b7 la0 d4 d7 x0 p4 p7 _ HX0.out HY0.out).mono ?_
  rintro e w9 ⟨rfl, hc⟩
  have h := Lay.sl_ext byteL HQ.out hc; clear HQ; have HQ := Lib.hid h; clear h
  have h := Lay.sl_ext byteL.slice HX0.out hc; clear HX0; have HX0 := Lib.hid h; clear h
  have h := Lay.sl_ext byteL HX1.out hc; clear HX1; have HX1 := Lib.hid h; clear h
  have h := Lay.sl_ext byteL HP.out hc; clear HP; have HP := Lib.hid h; clear h
  have h := Lay.sl_ext byteL.slice HY0.out hc; clear HY0; have HY0 := Lib.hid h; clear h
  have h := Fresh.chg HFQ.out hc; clear HFQ; have HFQ := Lib.hid h; clear h
  have h := Fresh.chg HFX0.out hc; clear HFX0; have HFX0 := Lib.hid h; clear h
  have h := Fresh.chg HFX1.out hc; clear HFX1; have HFX1 := Lib.hid h; clear h
  have h := Fresh.chg HFP.out hc; clear HFP; have HFP := Lib.hid h; clear h
  have h := Fresh.chg HFY0.out hc; clear HFY0; have HFY0 := Lib.hid h; clear h
  have h := hc.keepb HBBQ.out (by simp); clear HBBQ cBQ lBQ; have cBQ := cellsOf h; have lBQ := ltOf h; have HBBQ := Lib.hid h; clear h
  have h := hc.keepb HBBP.out (by simp); clear HBBP cBP lBP; have cBP := cellsOf h; have lBP := ltOf h; have HBBP := Lib.hid h; clear h
  have h := HC.out.trans0 hc; clear HC; have HC := Lib.hid h; clear h
  clear hc
  go_wp2_with fail
  refine (toB_any a1 la1 ca1 x1 f1 _ (Lay.sl_ext byteL HO1.out (HC.out)) (by omega)).mono ?_
  rintro e w10 ⟨b8, d8, p8, rfl, hs, hf, hc⟩
  rw [← HLX1.out] at hs ⊢
  have hG := fun (x : Nat) (hx : x ∈ p8) => Nat.le_trans HC.out.size (hf.2 x hx).1
  have HGY1 := Lib.hid hG; clear hG
  have hD := fun (b : Nat) (hb : b ∈ p3) (hb' : b ∈ p8) => Nat.lt_irrefl _ (Nat.lt_of_lt_of_le (Lay.sl_lt _ HQ.out b hb) (hf.2 b hb').1)
  have DQ_Y1 := Lib.hid hD; have DY1_Q := Lib.hid (fun (b : Nat) (hb : b ∈ p8) (hb' : b ∈ p3) => hD b hb' hb); clear hD
  have hD := fun (b : Nat) (hb : b ∈ p4) (hb' : b ∈ p8) => Nat.lt_irrefl _ (Nat.lt_of_lt_of_le (Lay.sl_lt _ HX0.out b hb) (hf.2 b hb').1)
  have DX0_Y1 := Lib.hid hD; have DY1_X0 := Lib.hid (fun (b : Nat) (hb : b ∈ p8) (hb' : b ∈ p4) => hD b hb' hb); clear hD
  have hD := fun (b : Nat) (hb : b ∈ p5) (hb' : b ∈ p8) => Nat.lt_irrefl _ (Nat.lt_of_lt_of_le (Lay.sl_lt _ HX1.out b hb) (hf.2 b hb').1)
  have DX1_Y1 := Lib.hid hD; have DY1_X1 := Lib.hid (fun (b : Nat) (hb : b ∈ p8) (hb' : b ∈ p5) => hD b hb' hb); clear hD
  have hD := fun (b : Nat) (hb : b ∈ p6) (hb' : b ∈ p8) => Nat.lt_irrefl _ (Nat.lt_of_lt_of_le (Lay.sl_lt _ HP.out b hb) (hf.2 b hb').1)
  have DP_Y1 := Lib.hid hD; have DY1_P := Lib.hid (fun (b : Nat) (hb : b ∈ p8) (hb' : b ∈ p6) => hD b hb' hb); clear hD
  have DBBQ_Y1 := Lib.hid (fun hb => Nat.lt_irrefl _ (Nat.lt_of_lt_of_le (ltOf HBBQ.out) (hf.2 _ hb).1) : w3.heap.size ∉ p8)
  have DBBP_Y1 := Lib.hid (fun hb => Nat.lt_irrefl _ (Nat.lt_of_lt_of_le (ltOf HBBP.out) (hf.2 _ hb).1) : w6.heap.size ∉ p8)
  have h := Lay.sl_ext byteL HQ.out hc; clear HQ; have HQ := Lib.hid h; clear h
  have h := Lay.sl_ext byteL.slice HX0.out hc; clear HX0; have HX0 := Lib.hid h; clear h
  have h := Lay.sl_ext byteL HX1.out hc; clear HX1; have HX1 := Lib.hid h; clear h
  have h := Lay.sl_ext byteL HP.out hc; clear HP; have HP := Lib.hid h; clear h
  have h := Fresh.chg HFQ.out hc; clear HFQ; have HFQ := Lib.hid h; clear h
  have h := Fresh.chg HFX0.out hc; clear HFX0; have HFX0 := Lib.hid h; clear h
  have h := Fresh.chg HFX1.out hc; clear HFX1; have HFX1 := Lib.hid h; clear h
  have h := Fresh.chg HFP.out hc; clear HFP; have HFP := Lib.hid h; clear h
  have h := hc.keepb HBBQ.out (by simp); clear HBBQ cBQ lBQ; have cBQ := cellsOf h; have lBQ := ltOf h; have HBBQ := Lib.hid h; clear h
  have h := hc.keepb HBBP.out (by simp); clear HBBP cBP lBP; have cBP := cellsOf h; have lBP := ltOf h; have HBBP := Lib.hid h; clear h
  have h := HC.out.trans0 hc; clear HC; have HC := Lib.hid h; clear h
  have HY1 := Lib.hid hs; have HFY1 := Lib.hid (hf.mono (Nat.zero_le _)); clear hs hf
  clear hc
  go_wp2_with fail
  refine (eqB_any b5 b8 la1 d5 d8 x1 p5 p8 _ HX1.out HY1.out).mono ?_
  rintro e w11 ⟨rfl, hc⟩
  have h := Lay.sl_ext byteL HQ.out hc; clear HQ; have HQ := Lib.hid h; clear h
  have h := Lay.sl_ext byteL.slice HX0.out hc; clear HX0; have HX0 := Lib.hid h; clear h
  have h := Lay.sl_ext byteL HX1.out hc; clear HX1; have HX1 := Lib.hid h; clear h
  have h := Lay.sl_ext byteL HP.out hc; clear HP; have HP := Lib.hid h; clear h
  have h := Lay.sl_ext byteL HY1.out hc; clear HY1; have HY1 := Lib.hid h; clear h
  have h := Fresh.chg HFQ.out hc; clear HFQ; have HFQ := Lib.hid h; clear h
  have h := Fresh.chg HFX0.out hc; clear HFX0; have HFX0 := Lib.hid h; clear h
  have h := Fresh.chg HFX1.out hc; clear HFX1; have HFX1 := Lib.hid h; clear h
  have h := Fresh.chg HFP.out hc; clear HFP; have HFP := Lib.hid h; clear h
  have h := Fresh.chg HFY1.out hc; clear HFY1; have HFY1 := Lib.hid h; clear h
  have h := hc.keepb HBBQ.out (by simp); clear HBBQ cBQ lBQ; have cBQ := cellsOf h; have lBQ := ltOf h; have HBBQ := Lib.hid h; clear h
  have h := hc.keepb HBBP.out (by simp); clear HBBP cBP lBP; have cBP := cellsOf h; have lBP := ltOf h; have HBBP := Lib.hid h; clear h
  have h := HC.out.trans0 hc; clear HC; have HC := Lib.hid h; clear h
  clear hc
  go_wp2_with fail
  refine (markBB_any b4 la0 d4 x0 p4 (1) _ HX0.out HFX0.out (by omega) (by omega)).mono ?_
  rintro e w12 ⟨rfl, hs, hc⟩
  have h := Lay.sl_chg byteL HQ.out hc DQ_X0.out; clear HQ; have HQ := Lib.hid h; clear h
  have h := Lay.sl_chg byteL HX1.out hc DX1_X0.out; clear HX1; have HX1 := Lib.hid h; clear h
  have h := Lay.sl_chg byteL HP.out hc DP_X0.out; clear HP; have HP := Lib.hid h; clear h
  have h := Fresh.chg HFQ.out hc; clear HFQ; have HFQ := Lib.hid h; clear h
  have h := Fresh.chg HFX0.out hc; clear HFX0; have HFX0 := Lib.hid h; clear h
  have h := Fresh.chg HFX1.out hc; clear HFX1; have HFX1 := Lib.hid h; clear h
  have h := Fresh.chg HFP.out hc; clear HFP; have HFP := Lib.hid h; clear h
  have h := hc.keepb HBBQ.out DBBQ_X0.out; clear HBBQ cBQ lBQ; have cBQ := cellsOf h; have lBQ := ltOf h; have HBBQ := Lib.hid h; clear h
  have h := hc.keepb HBBP.out DBBP_X0.out; clear HBBP cBP lBP; have cBP := cellsOf h; have lBP := ltOf h; have HBBP := Lib.hid h; clear h
  have h := HC.out.trans hc (fun x hx => .inr (HGX0.out x hx)); clear HC; have HC := Lib.hid h; clear h
  clear HX0; have HX0 := Lib.hid hs
  clear hs
  clear hc
  go_wp2_with fail
  refine (markB_any b5 la1 d5 x1 p5 (1 + sumLen x0) _ HX1.out HFX1.out (by omega) (by omega)).mono ?_
  rintro e w13 ⟨rfl, hs, hc⟩
  have h := Lay.sl_chg byteL HQ.out hc DQ_X1.out; clear HQ; have HQ := Lib.hid h; clear h
  have h := Lay.sl_chg byteL.slice HX0.out hc DX0_X1.out; clear HX0; have HX0 := Lib.hid h; clear h
  have h := Lay.sl_chg byteL HP.out hc DP_X1.out; clear HP; have HP := Lib.hid h; clear h
  have h := Fresh.chg HFQ.out hc; clear HFQ; have HFQ := Lib.hid h; clear h
  have h := Fresh.chg HFX0.out hc; clear HFX0; have HFX0 := Lib.hid h; clear h
  have h := Fresh.chg HFX1.out hc; clear HFX1; have HFX1 := Lib.hid h; clear h
  have h := Fresh.chg HFP.out hc; clear HFP; have HFP := Lib.hid h; clear h
  have h := hc.keepb HBBQ.out DBBQ_X1.out; clear HBBQ cBQ lBQ; have cBQ := cellsOf h; have lBQ := ltOf h; have HBBQ := Lib.hid h; clear h
  have h := hc.keepb HBBP.out DBBP_X1.out; clear HBBP cBP lBP; have cBP := cellsOf h; have lBP := ltOf h; have HBBP := Lib.hid h; clear h
  have h := HC.out.trans hc (fun x hx => .inr (HGX1.out x hx)); clear HC; have HC := Lib.hid h; clear h
  clear HX1; have HX1 := Lib.hid hs
  clear hs
  clear hc
  have hk : ¬ (1 + sumLen x0 + (la1 : Int) < 0) := by omega
  go_wp2_with fail
  refine (eqBytesResult_any n b6 b3 LR d6 d3 R p6 p3 _ HP.out HQ.out).mono ?_
  rintro e w14 ⟨rfl, hc⟩
  have h := Lay.sl_ext byteL HQ.out hc; clear HQ; have HQ := Lib.hid h; clear h
  have h := Lay.sl_ext byteL.slice HX0.out hc; clear HX0; have HX0 := Lib.hid h; clear h
  have h := Lay.sl_ext byteL HX1.out hc; clear HX1; have HX1 := Lib.hid h; clear h
  have h := Lay.sl_ext byteL HP.out hc; clear HP; have HP := Lib.hid h; clear h
  have h := Fresh.chg HFQ.out hc; clear HFQ; have HFQ := Lib.hid h; clear h
  have h := Fresh.chg HFX0.out hc; clear HFX0; have HFX0 := Lib.hid h; clear h
  have h := Fresh.chg HFX1.out hc; clear HFX1; have HFX1 := Lib.hid h; clear h
  have h := Fresh.chg HFP.out hc; clear HFP; have HFP := Lib.hid h; clear h
  have h := hc.keepb HBBQ.out (by simp); clear HBBQ cBQ lBQ; have cBQ := cellsOf h; have lBQ := ltOf h; have HBBQ := Lib.hid h; clear h
  have h := hc.keepb HBBP.out (by simp); clear HBBP cBP lBP; have cBP := cellsOf h; have lBP := ltOf h; have HBBP := Lib.hid h; clear h
  have h := HC.out.trans0 hc; clear HC; have HC := Lib.hid h; clear h
  clear hc
  have hLR2 : (LR : Int) ≤ 4611686018427387000 := HLE.out
  go_wp2_with fail
  refine (markBytesResult_any n b6 LR d6 R p6 1 _ HP.out HFP.out (by omega) (by omega)).mono ?_
  rintro e w15 ⟨rfl, hs, hc⟩
  have h := Lay.sl_chg byteL HQ.out hc DQ_P.out; clear HQ; have HQ := Lib.hid h; clear h
  have h := Fresh.chg HFQ.out hc; clear HFQ; have HFQ := Lib.hid h; clear h
  have h := Fresh.chg HFP.out hc; clear HFP; have HFP := Lib.hid h; clear h
  have h := hc.keepb HBBQ.out DBBQ_P.out; clear HBBQ cBQ lBQ; have cBQ := cellsOf h; have lBQ := ltOf h; have HBBQ := Lib.hid h; clear h
  have h := hc.keepb HBBP.out DBBP_P.out; clear HBBP cBP lBP; have cBP := cellsOf h; have lBP := ltOf h; have HBBP := Lib.hid h; clear h
  have h := HC.out.trans hc (fun x hx => .inr (HGP.out x hx)); clear HC; have HC := Lib.hid h; clear h
  clear HP; have HP := Lib.hid hs
  clear hs
  clear hc
  have hq : ¬ ((1 : Int) + (LR : Int) < 0) := by omega
  have hqq : (((1 : Int) + (LR : Int)) != 1 + (LR : Int)) = false := by simp
  go_wp2_with fail
  refine (heldBytesResult_any n b6 LR d6 p6 1 _ HP.out (by omega) (by omega)).mono ?_
  rintro e w16 ⟨rfl, hc⟩
  have h := Lay.sl_ext byteL HQ.out hc; clear HQ; have HQ := Lib.hid h; clear h
  have h := Lay.sl_ext byteL HP.out hc; clear HP; have HP := Lib.hid h; clear h
  have h := Fresh.chg HFQ.out hc; clear HFQ; have HFQ := Lib.hid h; clear h
  have h := Fresh.chg HFP.out hc; clear HFP; have HFP := Lib.hid h; clear h
  have h := hc.keepb HBBQ.out (by simp); clear HBBQ cBQ lBQ; have cBQ := cellsOf h; have lBQ := ltOf h; have HBBQ := Lib.hid h; clear h
  have h := hc.keepb HBBP.out (by simp); clear HBBP cBP lBP; have cBP := cellsOf h; have lBP := ltOf h; have HBBP := Lib.hid h; clear h
  have h := HC.out.trans0 hc; clear HC; have HC := Lib.hid h; clear h
  clear hc
  go_wp2_with fail
  refine (toBB_any a0 la0 ca0 x0 f0 _ (Lay.sl_ext byteL.slice HO0.out (HC.out)) (by omega) HZM0.out).mono ?_
  rintro e w17 ⟨b9, d9, p9, rfl, hs, hf, hc⟩
  rw [← HLX0.out] at hs ⊢
  have hG := fun (x : Nat) (hx : x ∈ p9) => Nat.le_trans HC.out.size (hf.2 x hx).1
  have HGT0 := Lib.hid hG; clear hG
  have hD := fun (b : Nat) (hb : b ∈ p3) (hb' : b ∈ p9) => Nat.lt_irrefl _ (Nat.lt_of_lt_of_le (Lay.sl_lt _ HQ.out b hb) (hf.2 b hb').1)
  have DQ_T0 := Lib.hid hD; have DT0_Q := Lib.hid (fun (b : Nat) (hb : b ∈ p9) (hb' : b ∈ p3) => hD b hb' hb); clear hD
  have hD := fun (b : Nat) (hb : b ∈ p6) (hb' : b ∈ p9) => Nat.lt_irrefl _ (Nat.lt_of_lt_of_le (Lay.sl_lt _ HP.out b hb) (hf.2 b hb').1)
  have DP_T0 := Lib.hid hD; have DT0_P := Lib.hid (fun (b : Nat) (hb : b ∈ p9) (hb' : b ∈ p6) => hD b hb' hb); clear hD
  have DBBQ_T0 := Lib.hid (fun hb => Nat.lt_irrefl _ (Nat.lt_of_lt_of_le (ltOf HBBQ.out) (hf.2 _ hb).1) : w3.heap.size ∉ p9)
  have DBBP_T0 := Lib.hid (fun hb => Nat.lt_irrefl _ (Nat.lt_of_lt_of_le (ltOf HBBP.out) (hf.2 _ hb).1) : w6.heap.size ∉ p9)
  have h := Lay.sl_ext byteL HQ.out hc; clear HQ; have HQ := Lib.hid h; clear h
  have h := Lay.sl_ext byteL HP.out hc; clear HP; have HP := Lib.hid h; clear h
  have h := Fresh.chg HFQ.out hc; clear HFQ; have HFQ := Lib.hid h; clear h
  have h := Fresh.chg HFP.out hc; clear HFP; have HFP := Lib.hid h; clear h
  have h := hc.keepb HBBQ.out (by simp); clear HBBQ cBQ lBQ; have cBQ := cellsOf h; have lBQ := ltOf h; have HBBQ := Lib.hid h; clear h
  have h := hc.keepb HBBP.out (by simp); clear HBBP cBP lBP; have cBP := cellsOf h; have lBP := ltOf h; have HBBP := Lib.hid h; clear h
  have h := HC.out.trans0 hc; clear HC; have HC := Lib.hid h; clear h
  have HT0 := Lib.hid hs; have HFT0 := Lib.hid (hf.mono (Nat.zero_le _)); clear hs hf
  clear hc
  go_wp2_with fail
  refine (toB_any a1 la1 ca1 x1 f1 _ (Lay.sl_ext byteL HO1.out (HC.out)) (by omega)).mono ?_
  rintro e w18 ⟨b10, d10, p10, rfl, hs, hf, hc⟩
  rw [← HLX1.out] at hs ⊢
  have hG := fun (x : Nat) (hx : x ∈ p10) => Nat.le_trans HC.out.size (hf.2 x hx).1
  have HGT1 := Lib.hid hG; clear hG
  have hD := fun (b : Nat) (hb : b ∈ p3) (hb' : b ∈ p10) => Nat.lt_irrefl _ (Nat.lt_of_lt_of_le (Lay.sl_lt _ HQ.out b hb) (hf.2 b hb').1)
  have DQ_T1 := Lib.hid hD; have DT1_Q := Lib.hid (fun (b : Nat) (hb : b ∈ p10) (hb' : b ∈ p3) => hD b hb' hb); clear hD
  have hD := fun (b : Nat) (hb : b ∈ p6) (hb' : b ∈ p10) => Nat.lt_irrefl _ (Nat.lt_of_lt_of_le (Lay.sl_lt _ HP.out b hb) (hf.2 b hb').1)
  have DP_T1 := Lib.hid hD; have DT1_P := Lib.hid (fun (b : Nat) (hb : b ∈ p10) (hb' : b ∈ p6) => hD b hb' hb); clear hD
  have hD := fun (b : Nat) (hb : b ∈ p9) (hb' : b ∈ p10) => Nat.lt_irrefl _ (Nat.lt_of_lt_of_le (Lay.sl_lt _ HT0.out b hb) (hf.2 b hb').1)
  have DT0_T1 := Lib.hid hD; have DT1_T0 := Lib.hid (fun (b : Nat) (hb : b ∈ p10) (hb' : b ∈ p9) => hD b hb' hb); clear hD
  have DBBQ_T1 := Lib.hid (fun hb => Nat.lt_irrefl _ (Nat.lt_of_lt_of_le (ltOf HBBQ.out) (hf.2 _ hb).1) : w3.heap.size ∉ p10)
  have DBBP_T1 := Lib.hid (fun hb => Nat.lt_irrefl _ (Nat.lt_of_lt_of_le (ltOf HBBP.out) (hf.2 _ hb).1) : w6.heap.size ∉ p10)
  have h := Lay.sl_ext byteL HQ.out hc; clear HQ; have HQ := Lib.hid h; clear h
  have h := Lay.sl_ext byteL HP.out hc; clear HP; have HP := Lib.hid h; clear h
  have h := Lay.sl_ext byteL.slice HT0.out hc; clear HT0; have HT0 := Lib.hid h; clear h
  have h := Fresh.chg HFQ.out hc; clear HFQ; have HFQ := Lib.hid h; clear h
  have h := Fresh.chg HFP.out hc; clear HFP; have HFP := Lib.hid h; clear h
  have h := Fresh.chg HFT0.out hc; clear HFT0; have HFT0 := Lib.hid h; clear h
  have h := hc.keepb HBBQ.out (by simp); clear HBBQ cBQ lBQ; have cBQ := cellsOf h; have lBQ := ltOf h; have HBBQ := Lib.hid h; clear h
  have h := hc.keepb HBBP.out (by simp); clear HBBP cBP lBP; have cBP := cellsOf h; have lBP := ltOf h; have HBBP := Lib.hid h; clear h
  have h := HC.out.trans0 hc; clear HC; have HC := Lib.hid h; clear h
  have HT1 := Lib.hid hs; have HFT1 := Lib.hid (hf.mono (Nat.zero_le _)); clear hs hf
  clear hc
  go_wp2_with fail
  refine (HI.out b9 la0 d9 p9 b10 la1 d10 p10 _ HT0.out HT1.out).mono ?_
  rintro e w19 ⟨b11, d11, p11, rfl, hs, hf, hc⟩
  simp only [] at hs ⊢; rw [HLR.out] at hs ⊢
  have hG := fun (x : Nat) (hx : x ∈ p11) => Nat.le_trans HC.out.size (hf.2 x hx).1
  have HGN := Lib.hid hG; clear hG
  have hD := fun (b : Nat) (hb : b ∈ p3) (hb' : b ∈ p11) => Nat.lt_irrefl _ (Nat.lt_of_lt_of_le (Lay.sl_lt _ HQ.out b hb) (hf.2 b hb').1)
  have DQ_N := Lib.hid hD; have DN_Q := Lib.hid (fun (b : Nat) (hb : b ∈ p11) (hb' : b ∈ p3) => hD b hb' hb); clear hD
  have hD := fun (b : Nat) (hb : b ∈ p6) (hb' : b ∈ p11) => Nat.lt_irrefl _ (Nat.lt_of_lt_of_le (Lay.sl_lt _ HP.out b hb) (hf.2 b hb').1)
  have DP_N := Lib.hid hD; have DN_P := Lib.hid (fun (b : Nat) (hb : b ∈ p11) (hb' : b ∈ p6) => hD b hb' hb); clear hD
  have hD := fun (b : Nat) (hb : b ∈ p9) (hb' : b ∈ p11) => Nat.lt_irrefl _ (Nat.lt_of_lt_of_le (Lay.sl_lt _ HT0.out b hb) (hf.2 b hb').1)
  have DT0_N := Lib.hid hD; have DN_T0 := Lib.hid (fun (b : Nat) (hb : b ∈ p11) (hb' : b ∈ p9) => hD b hb' hb); clear hD
  have hD := fun (b : Nat) (hb : b ∈ p10) (hb' : b ∈ p11) => Nat.lt_irrefl _ (Nat.lt_of_lt_of_le (Lay.sl_lt _ HT1.out b hb) (hf.2 b hb').1)
  have DT1_N := Lib.hid hD; have DN_T1 := Lib.hid (fun (b : Nat) (hb : b ∈ p11) (hb' : b ∈ p10) => hD b hb' hb); clear hD
  have DBBQ_N := Lib.hid (fun hb => Nat.lt_irrefl _ (Nat.lt_of_lt_of_le (ltOf HBBQ.out) (hf.2 _ hb).1) : w3.heap.size ∉ p11)
  have DBBP_N := Lib.hid (fun hb => Nat.lt_irrefl _ (Nat.lt_of_lt_of_le (ltOf HBBP.out) (hf.2 _ hb).1) : w6.heap.size ∉ p11)
  have h := Lay.sl_ext byteL HQ.out hc; clear HQ; have HQ := Lib.hid h; clear h
  have h := Lay.sl_ext byteL HP.out hc; clear HP; have HP := Lib.hid h; clear h
  have h := Lay.sl_ext byteL.slice HT0.out hc; clear HT0; have HT0 := Lib.hid h; clear h
  have h := Lay.sl_ext byteL HT1.out hc; clear HT1; have HT1 := Lib.hid h; clear h
  have h := Fresh.chg HFQ.out hc; clear HFQ; have HFQ := Lib.hid h; clear h
  have h := Fresh.chg HFP.out hc; clear HFP; have HFP := Lib.hid h; clear h
  have h := Fresh.chg HFT0.out hc; clear HFT0; have HFT0 := Lib.hid h; clear h
  have h := Fresh.chg HFT1.out hc; clear HFT1; have HFT1 := Lib.hid h; clear h
  have h := hc.keepb HBBQ.out (by simp); clear HBBQ cBQ lBQ; have cBQ := cellsOf h; have lBQ := ltOf h; have HBBQ := Lib.hid h; clear h
  have h := hc.keepb HBBP.out (by simp); clear HBBP cBP lBP; have cBP := cellsOf h; have lBP := ltOf h; have HBBP := Lib.hid h; clear h
  have h := HC.out.trans0 hc; clear HC; have HC := Lib.hid h; clear h
  have HN := Lib.hid hs; have HFN := Lib.hid (hf.mono (Nat.zero_le _)); clear hs hf
  clear hc
  go_wp2_with fail
  refine (eqBytesResult_any n b11 b3 LR d11 d3 R p11 p3 _ (Lay.sl_ext byteL HN.out ((Chg.refl [] w19).alloc (.cells #[.int .i64 n, .slice b11 LR d11] 56))) (Lay.sl_ext byteL HQ.out ((Chg.refl [] w19).alloc (.cells #[.int .i64 n, .slice b11 LR d11] 56)))).mono ?_
  rintro e w20 ⟨rfl, hc⟩
  have DBBN_Q := Lib.hid (fun hb => Nat.lt_irrefl _ (Lay.sl_lt _ HQ.out _ hb) : w19.heap.size ∉ p3)
  have DBBN_P := Lib.hid (fun hb => Nat.lt_irrefl _ (Lay.sl_lt _ HP.out _ hb) : w19.heap.size ∉ p6)
  have DBBN_T0 := Lib.hid (fun hb => Nat.lt_irrefl _ (Lay.sl_lt _ HT0.out _ hb) : w19.heap.size ∉ p9)
  have DBBN_T1 := Lib.hid (fun hb => Nat.lt_irrefl _ (Lay.sl_lt _ HT1.out _ hb) : w19.heap.size ∉ p10)
  have DBBN_N := Lib.hid (fun hb => Nat.lt_irrefl _ (Lay.sl_lt _ HN.out _ hb) : w19.heap.size ∉ p11)
  have h := Lay.sl_ext byteL (Lay.sl_ext byteL HQ.out ((Chg.refl [] w19).alloc (.cells #[.int .i64 n, .slice b11 LR d11] 56))) hc; clear HQ; have HQ := Lib.hid h; clear h
  have h := Lay.sl_ext byteL (Lay.sl_ext byteL HP.out ((Chg.refl [] w19).alloc (.cells #[.int .i64 n, .slice b11 LR d11] 56))) hc; clear HP; have HP := Lib.hid h; clear h
  have h := Lay.sl_ext byteL.slice (Lay.sl_ext byteL.slice HT0.out ((Chg.refl [] w19).alloc (.cells #[.int .i64 n, .slice b11 LR d11] 56))) hc; clear HT0; have HT0 := Lib.hid h; clear h
  have h := Lay.sl_ext byteL (Lay.sl_ext byteL HT1.out ((Chg.refl [] w19).alloc (.cells #[.int .i64 n, .slice b11 LR d11] 56))) hc; clear HT1; have HT1 := Lib.hid h; clear h
  have h := Lay.sl_ext byteL (Lay.sl_ext byteL HN.out ((Chg.refl [] w19).alloc (.cells #[.int .i64 n, .slice b11 LR d11] 56))) hc; clear HN; have HN := Lib.hid h; clear h
  have h := Fresh.chg (HFQ.out.chg ((Chg.refl [] w19).alloc (.cells #[.int .i64 n, .slice b11 LR d11] 56))) hc; clear HFQ; have HFQ := Lib.hid h; clear h
  have h := Fresh.chg (HFP.out.chg ((Chg.refl [] w19).alloc (.cells #[.int .i64 n, .slice b11 LR d11] 56))) hc; clear HFP; have HFP := Lib.hid h; clear h
  have h := Fresh.chg (HFT0.out.chg ((Chg.refl [] w19).alloc (.cells #[.int .i64 n, .slice b11 LR d11] 56))) hc; clear HFT0; have HFT0 := Lib.hid h; clear h
  have h := Fresh.chg (HFT1.out.chg ((Chg.refl [] w19).alloc (.cells #[.int .i64 n, .slice b11 LR d11] 56))) hc; clear HFT1; have HFT1 := Lib.hid h; clear h
  have h := Fresh.chg (HFN.out.chg ((Chg.refl [] w19).alloc (.cells #[.int .i64 n, .slice b11 LR d11] 56))) hc; clear HFN; have HFN := Lib.hid h; clear h
  have h := hc.keepb (keep_alloc HBBQ.out _) (by simp); clear HBBQ cBQ lBQ; have cBQ := cellsOf h; have lBQ := ltOf h; have HBBQ := Lib.hid h; clear h
  have h := hc.keepb (keep_alloc HBBP.out _) (by simp); clear HBBP cBP lBP; have cBP := cellsOf h; have lBP := ltOf h; have HBBP := Lib.hid h; clear h
  have h := hc.keepb (new_alloc w19 (.cells #[.int .i64 n, .slice b11 LR d11] 56)) (by simp); have cBN := cellsOf h; have lBN := ltOf h; have HBBN := Lib.hid h; clear h
  have h := (HC.out.alloc (.cells #[.int .i64 n, .slice b11 LR d11] 56)).trans0 hc; clear HC; have HC := Lib.hid h; clear h
  clear hc
  go_wp2_with fail
  refine (heldBytesResult_any n b6 LR d6 p6 1 _ HP.out (by omega) (by omega)).mono ?_
  rintro e w21 ⟨rfl, hc⟩
  have h := Lay.sl_ext byteL HQ.out hc; clear HQ; have HQ := Lib.hid h; clear h
  have h := Lay.sl_ext byteL HP.out hc; clear HP; have HP := Lib.hid h; clear h
  have h := Lay.sl_ext byteL.slice HT0.out hc; clear HT0; have HT0 := Lib.hid h; clear h
  have h := Lay.sl_ext byteL HT1.out hc; clear HT1; have HT1 := Lib.hid h; clear h
  have h := Lay.sl_ext byteL HN.out hc; clear HN; have HN := Lib.hid h; clear h
  have h := Fresh.chg HFQ.out hc; clear HFQ; have HFQ := Lib.hid h; clear h
  have h := Fresh.chg HFP.out hc; clear HFP; have HFP := Lib.hid h; clear h
  have h := Fresh.chg HFT0.out hc; clear HFT0; have HFT0 := Lib.hid h; clear h
  have h := Fresh.chg HFT1.out hc; clear HFT1; have HFT1 := Lib.hid h; clear h
  have h := Fresh.chg HFN.out hc; clear HFN; have HFN := Lib.hid h; clear h
  have h := hc.keepb HBBQ.out (by simp); clear HBBQ cBQ lBQ; have cBQ := cellsOf h; have lBQ := ltOf h; have HBBQ := Lib.hid h; clear h
  have h := hc.keepb HBBP.out (by simp); clear HBBP cBP lBP; have cBP := cellsOf h; have lBP := ltOf h; have HBBP := Lib.hid h; clear h
  have h := hc.keepb HBBN.out (by simp); clear HBBN cBN lBN; have cBN := cellsOf h; have lBN := ltOf h; have HBBN := Lib.hid h; clear h
  have h := HC.out.trans0 hc; clear HC; have HC := Lib.hid h; clear h
  clear hc
  go_wp2_with fail
  go_ret
  exact ⟨rfl, HC.out⟩

/-! ### FnExactSolveG -/
namespace fnExactSolveG
theorem own : ownKnob Try.prog.godebug = none := by kernel_rfl
theorem laidOut : laidOutB Try.prog = true := by kernel_rfl
set_option linter.unusedVariables false in
set_option maxRecDepth 100000 in
theorem lifted (os : Os) (started : os.Started) (H : Type) (enc : TypeId × Value → H) :
    ReturnsInHanded {} Try.checked os 12 .any (Rows.fnExactSolveGSpec.pre6 enc Try.prog Try.f12 Rows.fnExactSolveGRow.domain false) (Rows.fnExactSolveGSpec.post enc Try.prog Try.f12 false true false false) := by
  refine returnsInHanded_of_change (C := Try.checked) own started (by kernel_rfl) Try.func12
    (ChangeSpec.witness6 (enc := enc) (C := Try.checked) false ⟨#[], #[.slice none 0 0, .slice none 0 0], []⟩ 8 (by kernel_rfl) (by kernel_rfl) (by kernel_rfl) (by kernel_rfl)) ?_
  intro W base args ds gs before hval0 hW hcnd _
  have hval : ∀ (j : Nat) t v, Try.f12.params[j]? = some t → args[j]? = some v → Value.okWide Try.prog W .any base t v := hval0
  have hW' := hW
  obtain ⟨p, q, hA0, hV, rfl, hfz, hnd⟩ := hW
  have hA : DataW.TrodAll enc Try.prog W 0 (fun _ => true) true Try.f12.params.toList args.toList ds p := hA0
  rw [Try.params12] at hA hval
  obtain ⟨v0, vs0, d0, ds0, p0, q0, hargs, rfl, rfl, h0, r0⟩ := trodAll_cons hA
  obtain ⟨v1, vs1, d1, ds1, p1, q1, rfl, rfl, rfl, h1, r1⟩ := trodAll_cons r0
  obtain ⟨rfl, rfl, rfl⟩ := trodAll_nil r1
  obtain rfl : args = #[v0, v1] := by cases args; simp_all
  obtain ⟨rfl, rfl⟩ := trodVars_none hV
  have k0 := h0
  have lt0 : ∀ x ∈ p0, x.block < W.heap.size := by obtain ⟨m, hm⟩ := k0; exact DataW.trod_lt m _ _ _ hm
  obtain ⟨a0, len0, cap0, rfl⟩ := okWide_slice Try.underlying42 (hval 0 42 v0 rfl rfl)
  obtain ⟨x0, fp0, a0', l0', c0', e0, o0⟩ := op_lists.trod h0
  simp only [Value.cells, List.cons.injEq, Value.slice.injEq, and_true] at e0
  obtain ⟨rfl, rfl, rfl⟩ := e0
  have k1 := h1
  have lt1 : ∀ x ∈ p1, x.block < W.heap.size := by obtain ⟨m, hm⟩ := k1; exact DataW.trod_lt m _ _ _ hm
  obtain ⟨a1, len1, cap1, rfl⟩ := okWide_slice Try.underlying22 (hval 1 22 v1 rfl rfl)
  obtain ⟨x1, fp1, a1', l1', c1', e1, o1⟩ := op_bytes.trod h1
  simp only [Value.cells, List.cons.injEq, Value.slice.injEq, and_true] at e1
  obtain ⟨rfl, rfl, rfl⟩ := e1
  clear hA0 hval0
  simp only [List.append_nil] at hW'
  refine (walk_FnExactSolveG W _ _ _ x0 fp0 o0 _ _ _ x1 fp1 o1).mono fun e W' ⟨he, hc⟩ => ?_
  subst he
  have bel := hc.below0
  exact ⟨_, rfl, _, _, _, [], _, [], hW', trodAll_mk1 (shut_bool Try.underlying4 _), (trodAll_cons_mk (Below.trod laidOut (by kernel_rfl) (of_decide_eq_true (by kernel_rfl)) k0 bel lt0) (trodAll_cons_mk (Below.trod laidOut (by kernel_rfl) (of_decide_eq_true (by kernel_rfl)) k1 bel lt1) trodAll_mk0)), rfl, bel.frame _, fun h => by cases h⟩

theorem over : Rows.fnExactSolveGRow.holds Try.pinned (OpenSpec.ofChange Rows.fnExactSolveGSpec) :=
  OpenClaim.holds_of_wide 12 Try.f12 rfl rfl rfl rfl rfl rfl rfl ⟨rfl, rfl, rfl, rfl, rfl⟩ rfl rfl rfl rfl rfl (by kernel_rfl) Try.func12 (by kernel_rfl)
    (of_decide_eq_true (by kernel_rfl)) (by unfold Func.isWrapper; first | (rw [if_pos (by decide +kernel)]; kernel_rfl) | (rw [if_neg (by decide +kernel)]; exact ⟨rfl, rfl⟩))
    (fun os started H enc _ => lifted os started H enc)
end fnExactSolveG
theorem FnExactSolveG_holds : Rows.FnExactSolveGSaid := fnExactSolveG.over
#print axioms FnExactSolveG_holds
end Go.Proofs.Ytlnclkjmlpipgaa
