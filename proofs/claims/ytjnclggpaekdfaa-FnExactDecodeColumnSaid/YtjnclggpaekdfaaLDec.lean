
/- The program's DecodeColumn returns what the reference returns, leaves its arguments and shares no memory, for all arguments: the law FnExactDecodeColumn returns true.
Conditions: none. -/
import Derived.Test.YtjnclggpaekdfaaRows
import Derived.Test.YtjnclggpaekdfaaAt
import Derived.Test.YtjnclggpaekdfaaDes
import Derived.Test.YtjnclggpaekdfaaLrs
import Derived.Test.YtjnclggpaekdfaaBss
import Derived.ShutString
import Derived.ChangeOld
namespace Go.Proofs.Ytjnclggpaekdfaa
open Go.ChangeShapes Go.WideShapes Go.ChangeAt Go.RowKit

set_option maxRecDepth 100000 in
set_option maxHeartbeats 4000000 in
theorem walk_FnExactDecodeColumn (W : World) (x0 : Int) (o0 : i64ok x0) (x1 : Int) (o1 : i64ok x1) (a2 : Option Addr) (la2 ca2 : Nat) (x2 : List (List UInt8)) (f2 : List Nat) (o2 : byteL.slice.sl W a2 la2 ca2 x2 f2) :
    Calls Try.prog 5 #[.int .i64 x0, .int .i64 x1, .slice a2 la2 ca2] W fun e w' => e = .returned (.bool true) ∧ Chg [] W w' := by
  have HC : RowKit.Hid (Chg [] W W) := Chg.refl _ _
  have HO2 := Lib.hid o2; clear o2
  have hm2 : (la2 : Int) ≤ 9223372036854775807 := by have := Lay.sl_max _ HO2.out; omega
  obtain ⟨z2, hze2⟩ : ∃ z, z = szBB x2 1048576 := ⟨_, rfl⟩
  have HSZ2 := Lib.hid (szBB_any a2 la2 ca2 x2 f2 1048576 W HO2.out (by omega) (by omega))
  rw [← hze2] at HSZ2
  by_cases hn2 : z2 < 0
  · clear hze2
    have HC2 := Lib.hid HC.out
    clear HC
    go_enter Try.func5, Try.ntmps5
    go_wp2_with fail
    refine HSZ2.out.mono ?_; rintro e w' ⟨rfl, rfl⟩
    go_wp2_with fail
    go_ret
    exact ⟨rfl, HC2.out⟩
  have HZL2 := Lib.hid (szBB_le (xs := x2) (l := 1048576) (by rw [← hze2]; omega))
  have hlz2 : la2 ≤ 1048576 := by have := HZL2.out.2.1; have := HO2.out.1; omega
  have HZM2 := Lib.hid (fun x hx => by have := HZL2.out.2.2 x hx; omega : ∀ x ∈ x2, x.length ≤ 1048576)
  have hsum2 : sumLen x2 ≤ 1048576 := by have := szBB_sum (xs := x2) (l := 1048576) (by rw [← hze2]; omega); omega
  have hsun2 := sumLen_nonneg x2
  have hzl2 : z2 ≤ 1048576 := by have := HZL2.out.1; omega
  clear hze2
  obtain ⟨r, hr⟩ : ∃ r, r = decRes x0 x1 x2 := ⟨_, rfl⟩
  have HS : RowKit.Hid (∀ (a2 : Option Addr) (l2 c2 : Nat) (p2 : List Nat) (w : World), byteL.slice.sl w a2 l2 c2 x2 p2 → Calls Try.prog 19 #[.int .i64 x0, .int .i64 x1, .slice a2 l2 c2] w (NewRes byteL.slice r w)) := by rw [hr]; exact fun a2 l2 c2 p2 w h2 => spec_decode2 a2 l2 c2 x2 p2 x0 o0 x1 o1 w h2 (by have := h2.1; have := HO2.out.1; omega)
  have HI : RowKit.Hid (∀ (a2 : Option Addr) (l2 c2 : Nat) (p2 : List Nat) (w : World), byteL.slice.sl w a2 l2 c2 x2 p2 → Calls Try.prog 12 #[.int .i64 x0, .int .i64 x1, .slice a2 l2 c2] w (NewRes byteL.slice r w)) := by rw [hr]; exact fun a2 l2 c2 p2 w h2 => impl_decode2 a2 l2 c2 x2 p2 x0 o0 x1 o1 w h2 (by have := h2.1; have := HO2.out.1; omega)
  have hles : sumLen r.2 ≤ 4611686018427387000 := by rw [hr]; have h1 := decRes_len x0 x1 x2; have h2 := sumLen_le h1.2; have h3 := h1.1; omega
  have hle : r.2.length ≤ 4611686018427387000 := by rw [hr]; have := (decRes_len x0 x1 x2).1; omega
  clear hr
  obtain ⟨n, R⟩ := r
  obtain ⟨LR, hLR⟩ : ∃ LR, R.length = LR := ⟨_, rfl⟩
  have HLE : RowKit.Hid ((LR : Int) ≤ 4611686018427387000) := by show (LR : Int) ≤ _; rw [← hLR]; exact Int.ofNat_le.2 hle
  clear hle
  have HLR := Lib.hid hLR; clear hLR
  have HLX2 := Lib.hid HO2.out.1
  go_enter Try.func5, Try.ntmps5
  go_wp2_with fail
  refine HSZ2.out.mono ?_; rintro e w' ⟨rfl, rfl⟩
  go_wp2_with fail
  refine (toBB_any a2 la2 ca2 x2 f2 _ (Lay.sl_ext byteL.slice HO2.out (HC.out)) (by omega) HZM2.out).mono ?_
  rintro e w1 ⟨b1, d1, p1, rfl, hs, hf, hc⟩
  rw [← HLX2.out] at hs ⊢
  have hG := fun (x : Nat) (hx : x ∈ p1) => Nat.le_trans HC.out.size (hf.2 x hx).1
  have HGS2 := Lib.hid hG; clear hG
  have h := HC.out.trans0 hc; clear HC; have HC := Lib.hid h; clear h
  have HS2 := Lib.hid hs; have HFS2 := Lib.hid (hf.mono (Nat.zero_le _)); clear hs hf
  clear hc
  go_wp2_with fail
  refine (HS.out b1 la2 d1 p1 _ HS2.out).mono ?_
  rintro e w2 ⟨b2, d2, p2, rfl, hs, hf, hc⟩
  simp only [] at hs ⊢; rw [HLR.out] at hs ⊢
  have hG := fun (x : Nat) (hx : x ∈ p2) => Nat.le_trans HC.out.size (hf.2 x hx).1
  have HGQ := Lib.hid hG; clear hG
  have hD := fun (b : Nat) (hb : b ∈ p1) (hb' : b ∈ p2) => Nat.lt_irrefl _ (Nat.lt_of_lt_of_le (Lay.sl_lt _ HS2.out b hb) (hf.2 b hb').1)
  have DS2_Q := Lib.hid hD; have DQ_S2 := Lib.hid (fun (b : Nat) (hb : b ∈ p2) (hb' : b ∈ p1) => hD b hb' hb); clear hD
  have h := Lay.sl_ext byteL.slice HS2.out hc; clear HS2; have HS2 := Lib.hid h; clear h
  have h := Fresh.chg HFS2.out hc; clear HFS2; have HFS2 := Lib.hid h; clear h
  have h := HC.out.trans0 hc; clear HC; have HC := Lib.hid h; clear h
  have HQ := Lib.hid hs; have HFQ := Lib.hid (hf.mono (Nat.zero_le _)); clear hs hf
  clear hc
  go_wp2_with fail
  refine (toBB_any a2 la2 ca2 x2 f2 _ (Lay.sl_ext byteL.slice HO2.out (HC.out.alloc _)) (by omega) HZM2.out).mono ?_
  rintro e w3 ⟨b3, d3, p3, rfl, hs, hf, hc⟩
  rw [← HLX2.out] at hs ⊢
  have hG := fun (x : Nat) (hx : x ∈ p3) => Nat.le_trans HC.out.size (Nat.le_trans (show w2.heap.size ≤ (w2.alloc (.cells #[.int .i64 n, .slice b2 LR d2] 28)).heap.size by simp) (hf.2 x hx).1)
  have HGX2 := Lib.hid hG; clear hG
  have hD := fun (b : Nat) (hb : b ∈ p2) (hb' : b ∈ p3) => Nat.lt_irrefl _ (Nat.lt_of_lt_of_le (Lay.sl_lt _ (Lay.sl_ext byteL.slice HQ.out ((Chg.refl [] w2).alloc (.cells #[.int .i64 n, .slice b2 LR d2] 28))) b hb) (hf.2 b hb').1)
  have DQ_X2 := Lib.hid hD; have DX2_Q := Lib.hid (fun (b : Nat) (hb : b ∈ p3) (hb' : b ∈ p2) => hD b hb' hb); clear hD
  have DBBQ_X2 := Lib.hid (fun hb => Nat.lt_irrefl _ (Nat.lt_of_lt_of_le (ltOf (new_alloc w2 (.cells #[.int .i64 n, .slice b2 LR d2] 28))) (hf.2 _ hb).1) : w2.heap.size ∉ p3)
  have DBBQ_Q := Lib.hid (fun hb => Nat.lt_irrefl _ (Lay.sl_lt _ HQ.out _ hb) : w2.heap.size ∉ p2)
  have h := Lay.sl_ext byteL.slice (Lay.sl_ext byteL.slice HQ.out ((Chg.refl [] w2).alloc (.cells #[.int .i64 n, .slice b2 LR d2] 28))) hc; clear HQ; have HQ := Lib.hid h; clear h
  have h := Fresh.chg (HFQ.out.chg ((Chg.refl [] w2).alloc (.cells #[.int .i64 n, .slice b2 LR d2] 28))) hc; clear HFQ; have HFQ := Lib.hid h; clear h
  have h := hc.keepb (new_alloc w2 (.cells #[.int .i64 n, .slice b2 LR d2] 28)) (by simp); have cBQ := cellsOf h; have lBQ := ltOf h; have HBBQ := Lib.hid h; clear h
  have h := (HC.out.alloc (.cells #[.int .i64 n, .slice b2 LR d2] 28)).trans0 hc; clear HC; have HC := Lib.hid h; clear h
  have HX2 := Lib.hid hs; have HFX2 := Lib.hid (hf.mono (Nat.zero_le _)); clear hs hf
  clear hc
  go_wp2_with fail
  refine (HI.out b3 la2 d3 p3 _ HX2.out).mono ?_
  rintro e w4 ⟨b4, d4, p4, rfl, hs, hf, hc⟩
  simp only [] at hs ⊢; rw [HLR.out] at hs ⊢
  have hG := fun (x : Nat) (hx : x ∈ p4) => Nat.le_trans HC.out.size (hf.2 x hx).1
  have HGP := Lib.hid hG; clear hG
  have hD := fun (b : Nat) (hb : b ∈ p2) (hb' : b ∈ p4) => Nat.lt_irrefl _ (Nat.lt_of_lt_of_le (Lay.sl_lt _ HQ.out b hb) (hf.2 b hb').1)
  have DQ_P := Lib.hid hD; have DP_Q := Lib.hid (fun (b : Nat) (hb : b ∈ p4) (hb' : b ∈ p2) => hD b hb' hb); clear hD
  have hD := fun (b : Nat) (hb : b ∈ p3) (hb' : b ∈ p4) => Nat.lt_irrefl _ (Nat.lt_of_lt_of_le (Lay.sl_lt _ HX2.out b hb) (hf.2 b hb').1)
  have DX2_P := Lib.hid hD; have DP_X2 := Lib.hid (fun (b : Nat) (hb : b ∈ p4) (hb' : b ∈ p3) => hD b hb' hb); clear hD
  have DBBQ_P := Lib.hid (fun hb => Nat.lt_irrefl _ (Nat.lt_of_lt_of_le (ltOf HBBQ.out) (hf.2 _ hb).1) : w2.heap.size ∉ p4)
  have h := Lay.sl_ext byteL.slice HQ.out hc; clear HQ; have HQ := Lib.hid h; clear h
  have h := Lay.sl_ext byteL.slice HX2.out hc; clear HX2; have HX2 := Lib.hid h; clear h
  have h := Fresh.chg HFQ.out hc; clear HFQ; have HFQ := Lib.hid h; clear h
  have h := Fresh.chg HFX2.out hc; clear HFX2; have HFX2 := Lib.hid h; clear h
  have h := hc.keepb HBBQ.out (by simp); clear HBBQ cBQ lBQ; have cBQ := cellsOf h; have lBQ := ltOf h; have HBBQ := Lib.hid h; clear h
  have h := HC.out.trans0 hc; clear HC; have HC := Lib.hid h; clear h
  have HP := Lib.hid hs; have HFP := Lib.hid (hf.mono (Nat.zero_le _)); clear hs hf
  clear hc
  go_wp2_with fail
  refine (eqListsResult_any n b4 b2 LR d4 d2 R p4 p2 _ (Lay.sl_ext byteL.slice HP.out ((Chg.refl [] w4).alloc (.cells #[.int .i64 n, .slice b4 LR d4] 28))) (Lay.sl_ext byteL.slice HQ.out ((Chg.refl [] w4).alloc (.cells #[.int .i64 n, .slice b4 LR d4] 28)))).mono ?_
  rintro e w5 ⟨rfl, hc⟩
  have DBBP_Q := Lib.hid (fun hb => Nat.lt_irrefl _ (Lay.sl_lt _ HQ.out _ hb) : w4.heap.size ∉ p2)
  have DBBP_X2 := Lib.hid (fun hb => Nat.lt_irrefl _ (Lay.sl_lt _ HX2.out _ hb) : w4.heap.size ∉ p3)
  have DBBP_P := Lib.hid (fun hb => Nat.lt_irrefl _ (Lay.sl_lt _ HP.out _ hb) : w4.heap.size ∉ p4)
  have h := Lay.sl_ext byteL.slice (Lay.sl_ext byteL.slice HQ.out ((Chg.refl [] w4).alloc (.cells #[.int .i64 n, .slice b4 LR d4] 28))) hc; clear HQ; have HQ := Lib.hid h; clear h
  have h := Lay.sl_ext byteL.slice (Lay.sl_ext byteL.slice HX2.out ((Chg.refl [] w4).alloc (.cells #[.int .i64 n, .slice b4 LR d4] 28))) hc; clear HX2; have HX2 := Lib.hid h; clear h
  have h := Lay.sl_ext byteL.slice (Lay.sl_ext byteL.slice HP.out ((Chg.refl [] w4).alloc (.cells #[.int .i64 n, .slice b4 LR d4] 28))) hc; clear HP; have HP := Lib.hid h; clear h
  have h := Fresh.chg (HFQ.out.chg ((Chg.refl [] w4).alloc (.cells #[.int .i64 n, .slice b4 LR d4] 28))) hc; clear HFQ; have HFQ := Lib.hid h; clear h
  have h := Fresh.chg (HFX2.out.chg ((Chg.refl [] w4).alloc (.cells #[.int .i64 n, .slice b4 LR d4] 28))) hc; clear HFX2; have HFX2 := Lib.hid h; clear h
  have h := Fresh.chg (HFP.out.chg ((Chg.refl [] w4).alloc (.cells #[.int .i64 n, .slice b4 LR d4] 28))) hc; clear HFP; have HFP := Lib.hid h; clear h
  have h := hc.keepb (keep_alloc HBBQ.out _) (by simp); clear HBBQ cBQ lBQ; have cBQ := cellsOf h; have lBQ := ltOf h; have HBBQ := Lib.hid h; clear h
  have h := hc.keepb (new_alloc w4 (.cells #[.int .i64 n, .slice b4 LR d4] 28)) (by simp); have cBP := cellsOf h; have lBP := ltOf h; have HBBP := Lib.hid h; clear h
  have h := (HC.out.alloc (.cells #[.int .i64 n, .slice b4 LR d4] 28)).trans0 hc; clear HC; have HC := Lib.hid h; clear h
  clear hc
  go_wp2_with fail
  refine (toBB_any a2 la2 ca2 x2 f2 _ (Lay.sl_ext byteL.slice HO2.out (HC.out)) (by omega) HZM2.out).mono ?_
  rintro e w6 ⟨b5, d5, p5, rfl, hs, hf, hc⟩
  rw [← HLX2.out] at hs ⊢
  have hG := fun (x : Nat) (hx : x ∈ p5) => Nat.le_trans HC.out.size (hf.2 x hx).1
  have HGY2 := Lib.hid hG; clear hG
  have hD := fun (b : Nat) (hb : b ∈ p2) (hb' : b ∈ p5) => Nat.lt_irrefl _ (Nat.lt_of_lt_of_le (Lay.sl_lt _ HQ.out b hb) (hf.2 b hb').1)
  have DQ_Y2 := Lib.hid hD; have DY2_Q := Lib.hid (fun (b : Nat) (hb : b ∈ p5) (hb' : b ∈ p2) => hD b hb' hb); clear hD
  have hD := fun (b : Nat) (hb : b ∈ p3) (hb' : b ∈ p5) => Nat.lt_irrefl _ (Nat.lt_of_lt_of_le (Lay.sl_lt _ HX2.out b hb) (hf.2 b hb').1)
  have DX2_Y2 := Lib.hid hD; have DY2_X2 := Lib.hid (fun (b : Nat) (hb : b ∈ p5) (hb' : b ∈ p3) => hD b hb' hb); clear hD
  have hD := fun (b : Nat) (hb : b ∈ p4) (hb' : b ∈ p5) => Nat.lt_irrefl _ (Nat.lt_of_lt_of_le (Lay.sl_lt _ HP.out b hb) (hf.2 b hb').1)
  have DP_Y2 := Lib.hid hD; have DY2_P := Lib.hid (fun (b : Nat) (hb : b ∈ p5) (hb' : b ∈ p4) => hD b hb' hb); clear hD
  have DBBQ_Y2 := Lib.hid (fun hb => Nat.lt_irrefl _ (Nat.lt_of_lt_of_le (ltOf HBBQ.out) (hf.2 _ hb).1) : w2.heap.size ∉ p5)
  have DBBP_Y2 := Lib.hid (fun hb => Nat.lt_irrefl _ (Nat.lt_of_lt_of_le (ltOf HBBP.out) (hf.2 _ hb).1) : w4.heap.size ∉ p5)
  have h := Lay.sl_ext byteL.slice HQ.out hc; clear HQ; have HQ := Lib.hid h; clear h
  have h := Lay.sl_ext byteL.slice HX2.out hc; clear HX2; have HX2 := Lib.hid h; clear h
  have h := Lay.sl_ext byteL.slice HP.out hc; clear HP; have HP := Lib.hid h; clear h
  have h := Fresh.chg HFQ.out hc; clear HFQ; have HFQ := Lib.hid h; clear h
  have h := Fresh.chg HFX2.out hc; clear HFX2; have HFX2 := Lib.hid h; clear h
  have h := Fresh.chg HFP.out hc; clear HFP; have HFP := Lib.hid h; clear h
  have h := hc.keepb HBBQ.out (by simp); clear HBBQ cBQ lBQ; have cBQ := cellsOf h; have lBQ := ltOf h; have HBBQ := Lib.hid h; clear h
  have h := hc.keepb HBBP.out (by simp); clear HBBP cBP lBP; have cBP := cellsOf h; have lBP := ltOf h; have HBBP := Lib.hid h; clear h
  have h := HC.out.trans0 hc; clear HC; have HC := Lib.hid h; clear h
  have HY2 := Lib.hid hs; have HFY2 := Lib.hid (hf.mono (Nat.zero_le _)); clear hs hf
  clear hc
  go_wp2_with fail
  refine (eqBB_any b3 b5 la2 d3 d5 x2 p3 p5 _ HX2.out HY2.out).mono ?_
  rintro e w7 ⟨rfl, hc⟩
  have h := Lay.sl_ext byteL.slice HQ.out hc; clear HQ; have HQ := Lib.hid h; clear h
  have h := Lay.sl_ext byteL.slice HX2.out hc; clear HX2; have HX2 := Lib.hid h; clear h
  have h := Lay.sl_ext byteL.slice HP.out hc; clear HP; have HP := Lib.hid h; clear h
  have h := Lay.sl_ext byteL.slice HY2.out hc; clear HY2; have HY2 := Lib.hid h; clear h
  have h := Fresh.chg HFQ.out hc; clear HFQ; have HFQ := Lib.hid h; clear h
  have h := Fresh.chg HFX2.out hc; clear HFX2; have HFX2 := Lib.hid h; clear h
  have h := Fresh.chg HFP.out hc; clear HFP; have HFP := Lib.hid h; clear h
  have h := Fresh.chg HFY2.out hc; clear HFY2; have HFY2 := Lib.hid h; clear h
  have h := hc.keepb HBBQ.out (by simp); clear HBBQ cBQ lBQ; have cBQ := cellsOf h; have lBQ := ltOf h; have HBBQ := Lib.hid h; clear h
  have h := hc.keepb HBBP.out (by simp); clear HBBP cBP lBP; have cBP := cellsOf h; have lBP := ltOf h; have HBBP := Lib.hid h; clear h
  have h := HC.out.trans0 hc; clear HC; have HC := Lib.hid h; clear h
  clear hc
  go_wp2_with fail
  refine (markBB_any b3 la2 d3 x2 p3 (1) _ HX2.out HFX2.out (by omega) (by omega)).mono ?_
  rintro e w8 ⟨rfl, hs, hc⟩
  have h := Lay.sl_chg byteL.slice HQ.out hc DQ_X2.out; clear HQ; have HQ := Lib.hid h; clear h
  have h := Lay.sl_chg byteL.slice HP.out hc DP_X2.out; clear HP; have HP := Lib.hid h; clear h
  have h := Fresh.chg HFQ.out hc; clear HFQ; have HFQ := Lib.hid h; clear h
  have h := Fresh.chg HFX2.out hc; clear HFX2; have HFX2 := Lib.hid h; clear h
  have h := Fresh.chg HFP.out hc; clear HFP; have HFP := Lib.hid h; clear h
  have h := hc.keepb HBBQ.out DBBQ_X2.out; clear HBBQ cBQ lBQ; have cBQ := cellsOf h; have lBQ := ltOf h; have HBBQ := Lib.hid h; clear h
  have h := hc.keepb HBBP.out DBBP_X2.out; clear HBBP cBP lBP; have cBP := cellsOf h; have lBP := ltOf h; have HBBP := Lib.hid h; clear h
  have h := HC.out.trans hc (fun x hx => .inr (HGX2.out x hx)); clear HC; have HC := Lib.hid h; clear h
  clear HX2; have HX2 := Lib.hid hs
  clear hs
  clear hc
  have hk : ¬ (1 + sumLen x2 < 0) := by omega
  go_wp2_with fail
  refine (eqListsResult_any n b4 b2 LR d4 d2 R p4 p2 _ HP.out HQ.out).mono ?_
  rintro e w9 ⟨rfl, hc⟩
  have h := Lay.sl_ext byteL.slice HQ.out hc; clear HQ; have HQ := Lib.hid h; clear h
  have h := Lay.sl_ext byteL.slice HX2.out hc; clear HX2; have HX2 := Lib.hid h; clear h
  have h := Lay.sl_ext byteL.slice HP.out hc; clear HP; have HP := Lib.hid h; clear h
  have h := Fresh.chg HFQ.out hc; clear HFQ; have HFQ := Lib.hid h; clear h
  have h := Fresh.chg HFX2.out hc; clear HFX2; have HFX2 := Lib.hid h; clear h
  have h := Fresh.chg HFP.out hc; clear HFP; have HFP := Lib.hid h; clear h
  have h := hc.keepb HBBQ.out (by simp); clear HBBQ cBQ lBQ; have cBQ := cellsOf h; have lBQ := ltOf h; have HBBQ := Lib.hid h; clear h
  have h := hc.keepb HBBP.out (by simp); clear HBBP cBP lBP; have cBP := cellsOf h; have lBP := ltOf h; have HBBP := Lib.hid h; clear h
  have h := HC.out.trans0 hc; clear HC; have HC := Lib.hid h; clear h
  clear hc
  have hLR2 : sumLen R ≤ 4611686018427387000 := hles
  have hLR3 := sumLen_nonneg R
  go_wp2_with fail
  refine (markListsResult_any n b4 LR d4 R p4 1 _ HP.out HFP.out (by omega) (by omega)).mono ?_
  rintro e w10 ⟨rfl, hs, hc⟩
  have h := Lay.sl_chg byteL.slice HQ.out hc DQ_P.out; clear HQ; have HQ := Lib.hid h; clear h
  have h := Fresh.chg HFQ.out hc; clear HFQ; have HFQ := Lib.hid h; clear h
  have h := Fresh.chg HFP.out hc; clear HFP; have HFP := Lib.hid h; clear h
  have h := hc.keepb HBBQ.out DBBQ_P.out; clear HBBQ cBQ lBQ; have cBQ := cellsOf h; have lBQ := ltOf h; have HBBQ := Lib.hid h; clear h
  have h := hc.keepb HBBP.out DBBP_P.out; clear HBBP cBP lBP; have cBP := cellsOf h; have lBP := ltOf h; have HBBP := Lib.hid h; clear h
  have h := HC.out.trans hc (fun x hx => .inr (HGP.out x hx)); clear HC; have HC := Lib.hid h; clear h
  clear HP; have HP := Lib.hid hs
  clear hs
  clear hc
  have hq : ¬ ((1 : Int) + sumLen R < 0) := by omega
  have hqq : (((1 : Int) + sumLen R) != 1 + sumLen R) = false := by simp
  go_wp2_with fail
  refine (heldListsResult_any n b4 LR d4 R p4 1 _ HP.out (by omega) (by omega)).mono ?_
  rintro e w11 ⟨rfl, hc⟩
  have h := Lay.sl_ext byteL.slice HQ.out hc; clear HQ; have HQ := Lib.hid h; clear h
  have h := Lay.sl_ext byteL.slice HP.out hc; clear HP; have HP := Lib.hid h; clear h
  have h := Fresh.chg HFQ.out hc; clear HFQ; have HFQ := Lib.hid h; clear h
  have h := Fresh.chg HFP.out hc; clear HFP; have HFP := Lib.hid h; clear h
  have h := hc.keepb HBBQ.out (by simp); clear HBBQ cBQ lBQ; have cBQ := cellsOf h; have lBQ := ltOf h; have HBBQ := Lib.hid h; clear h
  have h := hc.keepb HBBP.out (by simp); clear HBBP cBP lBP; have cBP := cellsOf h; have lBP := ltOf h; have HBBP := Lib.hid h; clear h
  have h := HC.out.trans0 hc; clear HC; have HC := Lib.hid h; clear h
  clear hc
  go_wp2_with fail
  refine (toBB_any a2 la2 ca2 x2 f2 _ (Lay.sl_ext byteL.slice HO2.out (HC.out)) (by omega) HZM2.out).mono ?_
  rintro e w12 ⟨b6, d6, p6, rfl, hs, hf, hc⟩
  rw [← HLX2.out] at hs ⊢
  have hG := fun (x : Nat) (hx : x ∈ p6) => Nat.le_trans HC.out.size (hf.2 x hx).1
  have HGT2 := Lib.hid hG; clear hG
  have hD := fun (b : Nat) (hb : b ∈ p2) (hb' : b ∈ p6) => Nat.lt_irrefl _ (Nat.lt_of_lt_of_le (Lay.sl_lt _ HQ.out b hb) (hf.2 b hb').1)
  have DQ_T2 := Lib.hid hD; have DT2_Q := Lib.hid (fun (b : Nat) (hb : b ∈ p6) (hb' : b ∈ p2) => hD b hb' hb); clear hD
  have hD := fun (b : Nat) (hb : b ∈ p4) (hb' : b ∈ p6) => Nat.lt_irrefl _ (Nat.lt_of_lt_of_le (Lay.sl_lt _ HP.out b hb) (hf.2 b hb').1)
  have DP_T2 := Lib.hid hD; have DT2_P := Lib.hid (fun (b : Nat) (hb : b ∈ p6) (hb' : b ∈ p4) => hD b hb' hb); clear hD
  have DBBQ_T2 := Lib.hid (fun hb => Nat.lt_irrefl _ (Nat.lt_of_lt_of_le (ltOf HBBQ.out) (hf.2 _ hb).1) : w2.heap.size ∉ p6)
  have DBBP_T2 := Lib.hid (fun hb => Nat.lt_irrefl _ (Nat.lt_of_lt_of_le (ltOf HBBP.out) (hf.2 _ hb).1) : w4.heap.size ∉ p6)
  have h := Lay.sl_ext byteL.slice HQ.out hc; clear HQ; have HQ := Lib.hid h; clear h
  have h := Lay.sl_ext byteL.slice HP.out hc; clear HP; have HP := Lib.hid h; clear h
  have h := Fresh.chg HFQ.out hc; clear HFQ; have HFQ := Lib.hid h; clear h
  have h := Fresh.chg HFP.out hc; clear HFP; have HFP := Lib.hid h; clear h
  have h := hc.keepb HBBQ.out (by simp); clear HBBQ cBQ lBQ; have cBQ := cellsOf h; have lBQ := ltOf h; have HBBQ := Lib.hid h; clear h
  have h := hc.keepb HBBP.out (by simp); clear HBBP cBP lBP; have cBP := cellsOf h; have lBP := ltOf h; have HBBP := Lib.hid h; clear h
  have h := HC.out.trans0 hc; clear HC; have HC := Lib.hid h; clear h
  have HT2 := Lib.hid hs; have HFT2 := Lib.hid (hf.mono (Nat.zero_le _)); clear hs hf
  clear hc
  go_wp2_with fail
  refine (HI.out b6 la2 d6 p6 _ HT2.out).mono ?_
  rintro e w13 ⟨b7, d7, p7, rfl, hs, hf, hc⟩
  simp only [] at hs ⊢; rw [HLR.out] at hs ⊢
  have hG := fun (x : Nat) (hx : x ∈ p7) => Nat.le_trans HC.out.size (hf.2 x hx).1
  have HGN := Lib.hid hG; clear hG
  have hD := fun (b : Nat) (hb : b ∈ p2) (hb' : b ∈ p7) => Nat.lt_irrefl _ (Nat.lt_of_lt_of_le (Lay.sl_lt _ HQ.out b hb) (hf.2 b hb').1)
  have DQ_N := Lib.hid hD; have DN_Q := Lib.hid (fun (b : Nat) (hb : b ∈ p7) (hb' : b ∈ p2) => hD b hb' hb); clear hD
  have hD := fun (b : Nat) (hb : b ∈ p4) (hb' : b ∈ p7) => Nat.lt_irrefl _ (Nat.lt_of_lt_of_le (Lay.sl_lt _ HP.out b hb) (hf.2 b hb').1)
  have DP_N := Lib.hid hD; have DN_P := Lib.hid (fun (b : Nat) (hb : b ∈ p7) (hb' : b ∈ p4) => hD b hb' hb); clear hD
  have hD := fun (b : Nat) (hb : b ∈ p6) (hb' : b ∈ p7) => Nat.lt_irrefl _ (Nat.lt_of_lt_of_le (Lay.sl_lt _ HT2.out b hb) (hf.2 b hb').1)
  have DT2_N := Lib.hid hD; have DN_T2 := Lib.hid (fun (b : Nat) (hb : b ∈ p7) (hb' : b ∈ p6) => hD b hb' hb); clear hD
  have DBBQ_N := Lib.hid (fun hb => Nat.lt_irrefl _ (Nat.lt_of_lt_of_le (ltOf HBBQ.out) (hf.2 _ hb).1) : w2.heap.size ∉ p7)
  have DBBP_N := Lib.hid (fun hb => Nat.lt_irrefl _ (Nat.lt_of_lt_of_le (ltOf HBBP.out) (hf.2 _ hb).1) : w4.heap.size ∉ p7)
  have h := Lay.sl_ext byteL.slice HQ.out hc; clear HQ; have HQ := Lib.hid h; clear h
  have h := Lay.sl_ext byteL.slice HP.out hc; clear HP; have HP := Lib.hid h; clear h
  have h := Lay.sl_ext byteL.slice HT2.out hc; clear HT2; have HT2 := Lib.hid h; clear h
  have h := Fresh.chg HFQ.out hc; clear HFQ; have HFQ := Lib.hid h; clear h
  have h := Fresh.chg HFP.out hc; clear HFP; have HFP := Lib.hid h; clear h
  have h := Fresh.chg HFT2.out hc; clear HFT2; have HFT2 := Lib.hid h; clear h
  have h := hc.keepb HBBQ.out (by simp); clear HBBQ cBQ lBQ; have cBQ := cellsOf h; have lBQ := ltOf h; have HBBQ := Lib.hid h; clear h
  have h := hc.keepb HBBP.out (by simp); clear HBBP cBP lBP; have cBP := cellsOf h; have lBP := ltOf h; have HBBP := Lib.hid h; clear h
  have h := HC.out.trans0 hc; clear HC; have HC := Lib.hid h; clear h
  have HN := Lib.hid hs; have HFN := Lib.hid (hf.mono (Nat.zero_le _)); clear hs hf
  clear hc
  go_wp2_with fail
  refine (eqListsResult_any n b7 b2 LR d7 d2 R p7 p2 _ (Lay.sl_ext byteL.slice HN.out ((Chg.refl [] w13).alloc (.cells #[.int .i64 n, .slice b7 LR d7] 28))) (Lay.sl_ext byteL.slice HQ.out ((Chg.refl [] w13).alloc (.cells #[.int .i64 n, .slice b7 LR d7] 28)))).mono ?_
  rintro e w14 ⟨rfl, hc⟩
  have DBBN_Q := Lib.hid (fun hb => Nat.lt_irrefl _ (Lay.sl_lt _ HQ.out _ hb) : w13.heap.size ∉ p2)
  have DBBN_P := Lib.hid (fun hb => Nat.lt_irrefl _ (Lay.sl_lt _ HP.out _ hb) : w13.heap.size ∉ p4)
  have DBBN_T2 := Lib.hid (fun hb => Nat.lt_irrefl _ (Lay.sl_lt _ HT2.out _ hb) : w13.heap.size ∉ p6)
  have DBBN_N := Lib.hid (fun hb => Nat.lt_irrefl _ (Lay.sl_lt _ HN.out _ hb) : w13.heap.size ∉ p7)
  have h := Lay.sl_ext byteL.slice (Lay.sl_ext byteL.slice HQ.out ((Chg.refl [] w13).alloc (.cells #[.int .i64 n, .slice b7 LR d7] 28))) hc; clear HQ; have HQ := Lib.hid h; clear h
  have h := Lay.sl_ext byteL.slice (Lay.sl_ext byteL.slice HP.out ((Chg.refl [] w13).alloc (.cells #[.int .i64 n, .slice b7 LR d7] 28))) hc; clear HP; have HP := Lib.hid h; clear h
  have h := Lay.sl_ext byteL.slice (Lay.sl_ext byteL.slice HT2.out ((Chg.refl [] w13).alloc (.cells #[.int .i64 n, .slice b7 LR d7] 28))) hc; clear HT2; have HT2 := Lib.hid h; clear h
  have h := Lay.sl_ext byteL.slice (Lay.sl_ext byteL.slice HN.out ((Chg.refl [] w13).alloc (.cells #[.int .i64 n, .slice b7 LR d7] 28))) hc; clear HN; have HN := Lib.hid h; clear h
  have h := Fresh.chg (HFQ.out.chg ((Chg.refl [] w13).alloc (.cells #[.int .i64 n, .slice b7 LR d7] 28))) hc; clear HFQ; have HFQ := Lib.hid h; clear h
  have h := Fresh.chg (HFP.out.chg ((Chg.refl [] w13).alloc (.cells #[.int .i64 n, .slice b7 LR d7] 28))) hc; clear HFP; have HFP := Lib.hid h; clear h
  have h := Fresh.chg (HFT2.out.chg ((Chg.refl [] w13).alloc (.cells #[.int .i64 n, .slice b7 LR d7] 28))) hc; clear HFT2; have HFT2 := Lib.hid h; clear h
  have h := Fresh.chg (HFN.out.chg ((Chg.refl [] w13).alloc (.cells #[.int .i64 n, .slice b7 LR d7] 28))) hc; clear HFN; have HFN := Lib.hid h; clear h
  have h := hc.keepb (keep_alloc HBBQ.out _) (by simp); clear HBBQ cBQ lBQ; have cBQ := cellsOf h; have lBQ := ltOf h; have HBBQ := Lib.hid h; clear h
  have h := hc.keepb (keep_alloc HBBP.out _) (by simp); clear HBBP cBP lBP; have cBP := cellsOf h; have lBP := ltOf h; have HBBP := Lib.hid h; clear h
  have h := hc.keepb (new_alloc w13 (.cells #[.int .i64 n, .slice b7 LR d7] 28)) (by simp); have cBN := cellsOf h; have lBN := ltOf h; have HBBN := Lib.hid h; clear h
  have h := (HC.out.alloc (.cells #[.int .i64 n, .slice b7 LR d7] 28)).trans0 hc; clear HC; have HC := Lib.hid h; clear h
  clear hc
  go_wp2_with fail
  refine (heldListsResult_any n b4 LR d4 R p4 1 _ HP.out (by omega) (by omega)).mono ?_
  rintro e w15 ⟨rfl, hc⟩
  have h := Lay.sl_ext byteL.slice HQ.out hc; clear HQ; have HQ := Lib.hid h; clear h
  have h := Lay.sl_ext byteL.slice HP.out hc; clear HP; have HP := Lib.hid h; clear h
  have h := Lay.sl_ext byteL.slice HT2.out hc; clear HT2; have HT2 := Lib.hid h; clear h
  have h := Lay.sl_ext byteL.slice HN.out hc; clear HN; have HN := Lib.hid h; clear h
  have h := Fresh.chg HFQ.out hc; clear HFQ; have HFQ := Lib.hid h; clear h
  have h := Fresh.chg HFP.out hc; clear HFP; have HFP := Lib.hid h; clear h
  have h := Fresh.chg HFT2.out hc; clear HFT2; have HFT2 := Lib.hid h; clear h
  have h := Fresh.chg HFN.out hc; clear HFN; have HFN := Lib.hid h; clear h
  have h := hc.keepb HBBQ.out (by simp); clear HBBQ cBQ lBQ; have cBQ := cellsOf h; have lBQ := ltOf h; have HBBQ := Lib.hid h; clear h
  have h := hc.keepb HBBP.out (by simp); clear HBBP cBP lBP; have cBP := cellsOf h; have lBP := ltOf h; have HBBP := Lib.hid h; clear h
  have h := hc.keepb HBBN.out (by simp); clear HBBN cBN lBN; have cBN := cellsOf h; have lBN := ltOf h; have HBBN := Lib.hid h; clear h
  have h := HC.out.trans0 hc; clear HC; have HC := Lib.hid h; clear h
  clear hc
  go_wp2_with fail
  go_ret
  exact ⟨rfl, HC.out⟩

/-! ### FnExactDecodeColumn -/
namespace fnExactDecodeColumn
theorem own : ownKnob Try.prog.godebug = none := by kernel_rfl
theorem laidOut : laidOutB Try.prog = true := by kernel_rfl
set_option linter.unusedVariables false in
set_option maxRecDepth 100000 in
theorem lifted (os : Os) (started : os.Started) (H : Type) (enc : TypeId × Value → H) :
    ReturnsInHanded {} Try.checked os 5 .any (Rows.fnExactDecodeColumnSpec.pre6 enc Try.prog Try.f5 Rows.fnExactDecodeColumnRow.domain false) (Rows.fnExactDecodeColumnSpec.post enc Try.prog Try.f5 false true false false) := by
  refine returnsInHanded_of_change (C := Try.checked) own started (by kernel_rfl) Try.func5
    (ChangeSpec.witness6 (enc := enc) (C := Try.checked) false ⟨#[], #[.int .i64 0, .int .i64 0, .slice none 0 0], []⟩ 8 (by kernel_rfl) (by kernel_rfl) (by kernel_rfl) (by kernel_rfl)) ?_
  intro W base args ds gs before hval0 hW hcnd _
  have hval : ∀ (j : Nat) t v, Try.f5.params[j]? = some t → args[j]? = some v → Value.okWide Try.prog W .any base t v := hval0
  have hW' := hW
  obtain ⟨p, q, hA0, hV, rfl, hfz, hnd⟩ := hW
  have hA : DataW.TrodAll enc Try.prog W 0 (fun _ => true) true Try.f5.params.toList args.toList ds p := hA0
  rw [Try.params5] at hA hval
  obtain ⟨v0, vs0, d0, ds0, p0, q0, hargs, rfl, rfl, h0, r0⟩ := trodAll_cons hA
  obtain ⟨v1, vs1, d1, ds1, p1, q1, rfl, rfl, rfl, h1, r1⟩ := trodAll_cons r0
  obtain ⟨v2, vs2, d2, ds2, p2, q2, rfl, rfl, rfl, h2, r2⟩ := trodAll_cons r1
  obtain ⟨rfl, rfl, rfl⟩ := trodAll_nil r2
  obtain rfl : args = #[v0, v1, v2] := by cases args; simp_all
  obtain ⟨rfl, rfl⟩ := trodVars_none hV
  have k0 := h0
  have lt0 : ∀ x ∈ p0, x.block < W.heap.size := by obtain ⟨m, hm⟩ := k0; exact DataW.trod_lt m _ _ _ hm
  obtain ⟨x0, rfl, _, _, w0⟩ := open_int Try.underlying2 (hval 0 2 v0 rfl rfl) h0
  have k1 := h1
  have lt1 : ∀ x ∈ p1, x.block < W.heap.size := by obtain ⟨m, hm⟩ := k1; exact DataW.trod_lt m _ _ _ hm
  obtain ⟨x1, rfl, _, _, w1⟩ := open_int Try.underlying2 (hval 1 2 v1 rfl rfl) h1
  have k2 := h2
  have lt2 : ∀ x ∈ p2, x.block < W.heap.size := by obtain ⟨m, hm⟩ := k2; exact DataW.trod_lt m _ _ _ hm
  obtain ⟨a2, len2, cap2, rfl⟩ := okWide_slice Try.underlying24 (hval 2 24 v2 rfl rfl)
  obtain ⟨x2, fp2, a2', l2', c2', e2, o2⟩ := op_lists.trod h2
  simp only [Value.cells, List.cons.injEq, Value.slice.injEq, and_true] at e2
  obtain ⟨rfl, rfl, rfl⟩ := e2
  clear hA0 hval0
  simp only [List.append_nil] at hW'
  refine (walk_FnExactDecodeColumn W x0 (i64_of_wf w0) x1 (i64_of_wf w1) _ _ _ x2 fp2 o2).mono fun e W' ⟨he, hc⟩ => ?_
  subst he
  have bel := hc.below0
  exact ⟨_, rfl, _, _, _, [], _, [], hW', trodAll_mk1 (shut_bool Try.underlying4 _), (trodAll_cons_mk (Below.trod laidOut (by kernel_rfl) (of_decide_eq_true (by kernel_rfl)) k0 bel lt0) (trodAll_cons_mk (Below.trod laidOut (by kernel_rfl) (of_decide_eq_true (by kernel_rfl)) k1 bel lt1) (trodAll_cons_mk (Below.trod laidOut (by kernel_rfl) (of_decide_eq_true (by kernel_rfl)) k2 bel lt2) trodAll_mk0))), rfl, bel.frame _, fun h => by cases h⟩

theorem over : Rows.fnExactDecodeColumnRow.holds Try.pinned (OpenSpec.ofChange Rows.fnExactDecodeColumnSpec) :=
  OpenClaim.holds_of_wide 5 Try.f5 rfl rfl rfl rfl rfl rfl rfl ⟨rfl, rfl, rfl, rfl, rfl⟩ rfl rfl rfl rfl rfl (by kernel_rfl) Try.func5 (by kernel_rfl)
    (of_decide_eq_true (by kernel_rfl)) (by unfold Func.isWrapper; first | (rw [if_pos (by decide +kernel)]; kernel_rfl) | (rw [if_neg (by decide +kernel)]; exact ⟨rfl, rfl⟩))
    (fun os started H enc _ => lifted os started H enc)
end fnExactDecodeColumn
theorem FnExactDecodeColumn_holds : Rows.FnExactDecodeColumnSaid := fnExactDecodeColumn.over
#print axioms FnExactDecodeColumn_holds
end Go.Proofs.Ytjnclggpaekdfaa
