
/- The program's SplitObject returns what the reference returns, leaves its arguments and shares no memory, for all arguments: the law FnExactSplitObject returns true.
Conditions: none. -/
import Derived.Test.YtcejdmggacjnoaaRows
import Derived.Test.YtcejdmggacjnoaaAt
import Derived.Test.YtcejdmggacjnoaaSpl
import Derived.Test.YtcejdmggacjnoaaLrs
import Derived.Test.YtcejdmggacjnoaaBss
import Derived.Test.YtcejdmggacjnoaaHelp
import Derived.ShutString
import Derived.ChangeOld
namespace Go.Proofs.Ytcejdmggacjnoaa
open Go.ChangeShapes Go.WideShapes Go.ChangeAt Go.RowKit

set_option maxRecDepth 100000 in
set_option maxHeartbeats 4000000 in
theorem walk_FnExactSplitObject (W : World) (cs0 : Array Value) (x0 : Shp) (fp0 : List Nat) (o0 : shpL.rep W cs0.toList x0 fp0) (a1 : Option Addr) (la1 ca1 : Nat) (x1 : List UInt8) (f1 : List Nat) (o1 : byteL.sl W a1 la1 ca1 x1 f1) :
    Calls Try.prog 3 #[.agg cs0, .slice a1 la1 ca1] W fun e w' => e = .returned (.bool true) ∧ Chg [] W w' := by
  have HC : RowKit.Hid (Chg [] W W) := Chg.refl _ _
  obtain ⟨ex0, -⟩ := shpL_iff.1 o0
  obtain rfl := Array.toList_inj.1 (ex0.trans (List.toList_toArray).symm)
  clear ex0 o0
  have HO1 := Lib.hid o1; clear o1
  have hm1 : (la1 : Int) ≤ 9223372036854775807 := by have := Lay.sl_max _ HO1.out; omega
  have HLX1 := Lib.hid HO1.out.1
  obtain ⟨r, hr⟩ : ∃ r, r = splitRes x0 x1 := ⟨_, rfl⟩
  have HS : RowKit.Hid (∀ (a1 : Option Addr) (l1 c1 : Nat) (p1 : List Nat) (w : World), byteL.sl w a1 l1 c1 x1 p1 → Calls Try.prog 5 #[.agg #[.int .i64 x0.groups, .int .i64 x0.column, .int .i64 x0.data, .int .i64 x0.spare, .int .i64 x0.rows, .int .i64 x0.cap, .int .i64 x0.batch, .int .i64 x0.queue, .int .i64 x0.stage], .slice a1 l1 c1] w (NewRes byteL.slice r w)) := by rw [hr]; exact fun a1 l1 c1 p1 w h1 => spec_splitO x0 a1 l1 c1 x1 p1 w h1
  have HI : RowKit.Hid (∀ (a1 : Option Addr) (l1 c1 : Nat) (p1 : List Nat) (w : World), byteL.sl w a1 l1 c1 x1 p1 → Calls Try.prog 8 #[.agg #[.int .i64 x0.groups, .int .i64 x0.column, .int .i64 x0.data, .int .i64 x0.spare, .int .i64 x0.rows, .int .i64 x0.cap, .int .i64 x0.batch, .int .i64 x0.queue, .int .i64 x0.stage], .slice a1 l1 c1] w (NewRes byteL.slice r w)) := by rw [hr]; exact fun a1 l1 c1 p1 w h1 => impl_splitO x0 a1 l1 c1 x1 p1 w h1
  have hle : r.2.length ≤ 4611686018427387000 := by rw [hr]; have := (splitRes_len x0 x1).1; omega
  have hles : sumLen r.2 ≤ 4611686018427387000 := by rw [hr]; have h1 := splitRes_len x0 x1; have h2 := sumLen_le h1.2; have h3 := h1.1; omega
  have hles0 : 0 ≤ sumLen r.2 := sumLen_nonneg _
  clear hr
  obtain ⟨n, R⟩ := r
  obtain ⟨LR, hLR⟩ : ∃ LR, R.length = LR := ⟨_, rfl⟩
  have HLE : RowKit.Hid ((LR : Int) ≤ 4611686018427387000) := by show (LR : Int) ≤ _; rw [← hLR]; exact Int.ofNat_le.2 hle
  clear hle
  have HLR := Lib.hid hLR; clear hLR
  by_cases hz1 : (1048576 : Int) < (la1 : Int)
  · have HC2 := Lib.hid HC.out
    clear HC
    go_enter Try.func3, Try.ntmps3
    go_wp2_with fail
    go_ret
    exact ⟨rfl, by repeat (first | exact HC2.out | refine Chg.alloc ?_ _)⟩
  go_enter Try.func3, Try.ntmps3
  go_wp2_with fail
  refine (toShape_any x0 _).mono ?_
  rintro e w1 ⟨rfl, hc⟩
  obtain ⟨cS0, lS0, HBS0⟩ := bk hc (b := W.heap.size) (new_at (by simp) _) (by simp)
  have h := Chg.trans0 (Chg.alloc HC.out _) hc; clear HC; have HC := Lib.hid h; clear h
  clear hc
  go_wp2_with fail
  refine (toB_any a1 la1 ca1 x1 f1 _ (Lay.sl_ext byteL HO1.out HC.out) (by omega)).mono ?_
  rintro e w2 ⟨b2, d2, p2, rfl, hs, hf, hc⟩
  rw [← HLX1.out] at hs ⊢
  have hG := fun (x : Nat) (hx : x ∈ p2) => Nat.le_trans HC.out.size (hf.2 x hx).1
  have HGS1 := Lib.hid hG; clear hG
  have DBS0_S1 := Lib.hid (fun hb => Nat.lt_irrefl _ (Nat.lt_of_lt_of_le (ltOf (show w1.heap[W.heap.size]? = some (.cells #[.int .i64 x0.groups, .int .i64 x0.column, .int .i64 x0.data, .int .i64 x0.spare, .int .i64 x0.rows, .int .i64 x0.cap, .int .i64 x0.batch, .int .i64 x0.queue, .int .i64 x0.stage] 23) from (by exact HBS0.out))) (hf.2 _ hb).1) : W.heap.size ∉ p2)
  have h := bk hc HBS0.out (by simp); clear HBS0 cS0 lS0; obtain ⟨cS0, lS0, HBS0⟩ := h
  replace HC := hct HC hc
  have HS1 := Lib.hid hs; have HFS1 := Lib.hid (hf.mono (Nat.zero_le _)); clear hs hf
  clear hc
  go_wp2_with fail
  refine (HS.out b2 la1 d2 p2 _ HS1.out).mono ?_
  rintro e w3 ⟨b3, d3, p3, rfl, hs, hf, hc⟩
  simp only [] at hs ⊢; rw [HLR.out] at hs ⊢
  have hG := fun (x : Nat) (hx : x ∈ p3) => Nat.le_trans HC.out.size (hf.2 x hx).1
  have HGQ := Lib.hid hG; clear hG
  have hD := fun (b : Nat) (hb : b ∈ p2) (hb' : b ∈ p3) => Nat.lt_irrefl _ (Nat.lt_of_lt_of_le ((Lay.sl_lt byteL HS1.out) b hb) (hf.2 b hb').1)
  have DS1_Q := Lib.hid hD; have DQ_S1 := Lib.hid (fun (b : Nat) (hb : b ∈ p3) (hb' : b ∈ p2) => hD b hb' hb); clear hD
  have DBS0_Q := Lib.hid (fun hb => Nat.lt_irrefl _ (Nat.lt_of_lt_of_le (ltOf (show w2.heap[W.heap.size]? = some (.cells #[.int .i64 x0.groups, .int .i64 x0.column, .int .i64 x0.data, .int .i64 x0.spare, .int .i64 x0.rows, .int .i64 x0.cap, .int .i64 x0.batch, .int .i64 x0.queue, .int .i64 x0.stage] 23) from (by exact HBS0.out))) (hf.2 _ hb).1) : W.heap.size ∉ p3)
  replace HS1 := hsl HS1 hc
  have h := Fresh.chg HFS1.out hc; clear HFS1; have HFS1 := Lib.hid h; clear h
  have h := bk hc HBS0.out (by simp); clear HBS0 cS0 lS0; obtain ⟨cS0, lS0, HBS0⟩ := h
  replace HC := hct HC hc
  have HQ := Lib.hid hs; have HFQ := Lib.hid (hf.mono (Nat.zero_le _)); clear hs hf
  clear hc
  go_wp2_with fail
  refine (toB_any a1 la1 ca1 x1 f1 _ (Lay.sl_ext byteL HO1.out (Chg.alloc HC.out _)) (by omega)).mono ?_
  rintro e w4 ⟨b4, d4, p4, rfl, hs, hf, hc⟩
  rw [← HLX1.out] at hs ⊢
  have hG := fun (x : Nat) (hx : x ∈ p4) => Nat.le_trans HC.out.size (Nat.le_trans (show w3.heap.size ≤ (w3.alloc (.cells #[.int .i64 n, .slice b3 LR d3] 27)).heap.size by simp) (hf.2 x hx).1)
  have HGX1 := Lib.hid hG; clear hG
  have hD := fun (b : Nat) (hb : b ∈ p3) (hb' : b ∈ p4) => Nat.lt_irrefl _ (Nat.lt_of_lt_of_le ((Lay.sl_lt byteL.slice (Lay.sl_ext byteL.slice HQ.out (Chg.alloc (Chg.refl [] w3) _))) b hb) (hf.2 b hb').1)
  have DQ_X1 := Lib.hid hD; have DX1_Q := Lib.hid (fun (b : Nat) (hb : b ∈ p4) (hb' : b ∈ p3) => hD b hb' hb); clear hD
  have DBS0_X1 := Lib.hid (fun hb => Nat.lt_irrefl _ (Nat.lt_of_lt_of_le (ltOf (show (w3.alloc (.cells #[.int .i64 n, .slice b3 LR d3] 27)).heap[W.heap.size]? = some (.cells #[.int .i64 x0.groups, .int .i64 x0.column, .int .i64 x0.data, .int .i64 x0.spare, .int .i64 x0.rows, .int .i64 x0.cap, .int .i64 x0.batch, .int .i64 x0.queue, .int .i64 x0.stage] 23) from (by refine keep_alloc ?_ _; exact HBS0.out))) (hf.2 _ hb).1) : W.heap.size ∉ p4)
  have DBBQ_X1 := Lib.hid (fun hb => Nat.lt_irrefl _ (Nat.lt_of_lt_of_le (ltOf (show (w3.alloc (.cells #[.int .i64 n, .slice b3 LR d3] 27)).heap[w3.heap.size]? = some (.cells #[.int .i64 n, .slice b3 LR d3] 27) from (by exact new_at (by simp) _))) (hf.2 _ hb).1) : w3.heap.size ∉ p4)
  have DBBQ_Q := Lib.hid (fun hb => Nat.lt_irrefl _ (Nat.lt_of_lt_of_le ((Lay.sl_lt byteL.slice HQ.out) _ hb) (show w3.heap.size ≤ w3.heap.size by omega)) : w3.heap.size ∉ p3)
  have h := (Lay.sl_ext byteL.slice (Lay.sl_ext byteL.slice HQ.out (Chg.alloc (Chg.refl [] w3) _)) hc); clear HQ; have HQ := Lib.hid h; clear h
  have h := Fresh.chg (HFQ.out.chg (Chg.alloc (Chg.refl [] w3) _)) hc; clear HFQ; have HFQ := Lib.hid h; clear h
  have h := bk hc (keep_alloc HBS0.out _) (by simp); clear HBS0 cS0 lS0; obtain ⟨cS0, lS0, HBS0⟩ := h
  obtain ⟨cBQ, lBQ, HBBQ⟩ := bk hc (b := w3.heap.size) (new_at (by simp) _) (by simp)
  have h := Chg.trans0 (Chg.alloc HC.out _) hc; clear HC; have HC := Lib.hid h; clear h
  have HX1 := Lib.hid hs; have HFX1 := Lib.hid (hf.mono (Nat.zero_le _)); clear hs hf
  clear hc
  go_wp2_with fail
  refine (toShape_any x0 _).mono ?_
  rintro e w5 ⟨rfl, hc⟩
  replace HQ := hsl HQ hc
  replace HX1 := hsl HX1 hc
  have h := Fresh.chg HFQ.out hc; clear HFQ; have HFQ := Lib.hid h; clear h
  have h := Fresh.chg HFX1.out hc; clear HFX1; have HFX1 := Lib.hid h; clear h
  have h := bk hc HBS0.out (by simp); clear HBS0 cS0 lS0; obtain ⟨cS0, lS0, HBS0⟩ := h
  have h := bk hc HBBQ.out (by simp); clear HBBQ cBQ lBQ; obtain ⟨cBQ, lBQ, HBBQ⟩ := h
  replace HC := hct HC hc
  clear hc
  go_wp2_with fail
  refine (HI.out b4 la1 d4 p4 _ HX1.out).mono ?_
  rintro e w6 ⟨b6, d6, p6, rfl, hs, hf, hc⟩
  simp only [] at hs ⊢; rw [HLR.out] at hs ⊢
  have hG := fun (x : Nat) (hx : x ∈ p6) => Nat.le_trans HC.out.size (hf.2 x hx).1
  have HGP := Lib.hid hG; clear hG
  have hD := fun (b : Nat) (hb : b ∈ p3) (hb' : b ∈ p6) => Nat.lt_irrefl _ (Nat.lt_of_lt_of_le ((Lay.sl_lt byteL.slice HQ.out) b hb) (hf.2 b hb').1)
  have DQ_P := Lib.hid hD; have DP_Q := Lib.hid (fun (b : Nat) (hb : b ∈ p6) (hb' : b ∈ p3) => hD b hb' hb); clear hD
  have hD := fun (b : Nat) (hb : b ∈ p4) (hb' : b ∈ p6) => Nat.lt_irrefl _ (Nat.lt_of_lt_of_le ((Lay.sl_lt byteL HX1.out) b hb) (hf.2 b hb').1)
  have DX1_P := Lib.hid hD; have DP_X1 := Lib.hid (fun (b : Nat) (hb : b ∈ p6) (hb' : b ∈ p4) => hD b hb' hb); clear hD
  have DBS0_P := Lib.hid (fun hb => Nat.lt_irrefl _ (Nat.lt_of_lt_of_le (ltOf (show w5.heap[W.heap.size]? = some (.cells #[.int .i64 x0.groups, .int .i64 x0.column, .int .i64 x0.data, .int .i64 x0.spare, .int .i64 x0.rows, .int .i64 x0.cap, .int .i64 x0.batch, .int .i64 x0.queue, .int .i64 x0.stage] 23) from (by exact HBS0.out))) (hf.2 _ hb).1) : W.heap.size ∉ p6)
  have DBBQ_P := Lib.hid (fun hb => Nat.lt_irrefl _ (Nat.lt_of_lt_of_le (ltOf (show w5.heap[w3.heap.size]? = some (.cells #[.int .i64 n, .slice b3 LR d3] 27) from (by exact HBBQ.out))) (hf.2 _ hb).1) : w3.heap.size ∉ p6)
  replace HQ := hsl HQ hc
  replace HX1 := hsl HX1 hc
  have h := Fresh.chg HFQ.out hc; clear HFQ; have HFQ := Lib.hid h; clear h
  have h := Fresh.chg HFX1.out hc; clear HFX1; have HFX1 := Lib.hid h; clear h
  have h := bk hc HBS0.out (by simp); clear HBS0 cS0 lS0; obtain ⟨cS0, lS0, HBS0⟩ := h
  have h := bk hc HBBQ.out (by simp); clear HBBQ cBQ lBQ; obtain ⟨cBQ, lBQ, HBBQ⟩ := h
  replace HC := hct HC hc
  have HP := Lib.hid hs; have HFP := Lib.hid (hf.mono (Nat.zero_le _)); clear hs hf
  clear hc
  go_wp2_with fail
  refine (eqListsResult_any n b6 b3 LR d6 d3 R p6 p3 _ (Lay.sl_ext byteL.slice HP.out (Chg.alloc (Chg.refl [] w6) _)) (Lay.sl_ext byteL.slice HQ.out (Chg.alloc (Chg.refl [] w6) _))).mono ?_
  rintro e w7 ⟨rfl, hc⟩
  have DBBP_Q := Lib.hid (fun hb => Nat.lt_irrefl _ (Nat.lt_of_lt_of_le ((Lay.sl_lt byteL.slice HQ.out) _ hb) (show w6.heap.size ≤ w6.heap.size by omega)) : w6.heap.size ∉ p3)
  have DBBP_X1 := Lib.hid (fun hb => Nat.lt_irrefl _ (Nat.lt_of_lt_of_le ((Lay.sl_lt byteL HX1.out) _ hb) (show w6.heap.size ≤ w6.heap.size by omega)) : w6.heap.size ∉ p4)
  have DBBP_P := Lib.hid (fun hb => Nat.lt_irrefl _ (Nat.lt_of_lt_of_le ((Lay.sl_lt byteL.slice HP.out) _ hb) (show w6.heap.size ≤ w6.heap.size by omega)) : w6.heap.size ∉ p6)
  have h := (Lay.sl_ext byteL.slice (Lay.sl_ext byteL.slice HQ.out (Chg.alloc (Chg.refl [] w6) _)) hc); clear HQ; have HQ := Lib.hid h; clear h
  have h := (Lay.sl_ext byteL (Lay.sl_ext byteL HX1.out (Chg.alloc (Chg.refl [] w6) _)) hc); clear HX1; have HX1 := Lib.hid h; clear h
  have h := (Lay.sl_ext byteL.slice (Lay.sl_ext byteL.slice HP.out (Chg.alloc (Chg.refl [] w6) _)) hc); clear HP; have HP := Lib.hid h; clear h
  have h := Fresh.chg (HFQ.out.chg (Chg.alloc (Chg.refl [] w6) _)) hc; clear HFQ; have HFQ := Lib.hid h; clear h
  have h := Fresh.chg (HFX1.out.chg (Chg.alloc (Chg.refl [] w6) _)) hc; clear HFX1; have HFX1 := Lib.hid h; clear h
  have h := Fresh.chg (HFP.out.chg (Chg.alloc (Chg.refl [] w6) _)) hc; clear HFP; have HFP := Lib.hid h; clear h
  have h := bk hc (keep_alloc HBS0.out _) (by simp); clear HBS0 cS0 lS0; obtain ⟨cS0, lS0, HBS0⟩ := h
  have h := bk hc (keep_alloc HBBQ.out _) (by simp); clear HBBQ cBQ lBQ; obtain ⟨cBQ, lBQ, HBBQ⟩ := h
  obtain ⟨cBP, lBP, HBBP⟩ := bk hc (b := w6.heap.size) (new_at (by simp) _) (by simp)
  have h := Chg.trans0 (Chg.alloc HC.out _) hc; clear HC; have HC := Lib.hid h; clear h
  clear hc
  go_wp2_with fail
  refine (toB_any a1 la1 ca1 x1 f1 _ (Lay.sl_ext byteL HO1.out HC.out) (by omega)).mono ?_
  rintro e w8 ⟨b8, d8, p8, rfl, hs, hf, hc⟩
  rw [← HLX1.out] at hs ⊢
  have hG := fun (x : Nat) (hx : x ∈ p8) => Nat.le_trans HC.out.size (hf.2 x hx).1
  have HGY1 := Lib.hid hG; clear hG
  have hD := fun (b : Nat) (hb : b ∈ p3) (hb' : b ∈ p8) => Nat.lt_irrefl _ (Nat.lt_of_lt_of_le ((Lay.sl_lt byteL.slice HQ.out) b hb) (hf.2 b hb').1)
  have DQ_Y1 := Lib.hid hD; have DY1_Q := Lib.hid (fun (b : Nat) (hb : b ∈ p8) (hb' : b ∈ p3) => hD b hb' hb); clear hD
  have hD := fun (b : Nat) (hb : b ∈ p4) (hb' : b ∈ p8) => Nat.lt_irrefl _ (Nat.lt_of_lt_of_le ((Lay.sl_lt byteL HX1.out) b hb) (hf.2 b hb').1)
  have DX1_Y1 := Lib.hid hD; have DY1_X1 := Lib.hid (fun (b : Nat) (hb : b ∈ p8) (hb' : b ∈ p4) => hD b hb' hb); clear hD
  have hD := fun (b : Nat) (hb : b ∈ p6) (hb' : b ∈ p8) => Nat.lt_irrefl _ (Nat.lt_of_lt_of_le ((Lay.sl_lt byteL.slice HP.out) b hb) (hf.2 b hb').1)
  have DP_Y1 := Lib.hid hD; have DY1_P := Lib.hid (fun (b : Nat) (hb : b ∈ p8) (hb' : b ∈ p6) => hD b hb' hb); clear hD
  have DBS0_Y1 := Lib.hid (fun hb => Nat.lt_irrefl _ (Nat.lt_of_lt_of_le (ltOf (show w7.heap[W.heap.size]? = some (.cells #[.int .i64 x0.groups, .int .i64 x0.column, .int .i64 x0.data, .int .i64 x0.spare, .int .i64 x0.rows, .int .i64 x0.cap, .int .i64 x0.batch, .int .i64 x0.queue, .int .i64 x0.stage] 23) from (by exact HBS0.out))) (hf.2 _ hb).1) : W.heap.size ∉ p8)
  have DBBQ_Y1 := Lib.hid (fun hb => Nat.lt_irrefl _ (Nat.lt_of_lt_of_le (ltOf (show w7.heap[w3.heap.size]? = some (.cells #[.int .i64 n, .slice b3 LR d3] 27) from (by exact HBBQ.out))) (hf.2 _ hb).1) : w3.heap.size ∉ p8)
  have DBBP_Y1 := Lib.hid (fun hb => Nat.lt_irrefl _ (Nat.lt_of_lt_of_le (ltOf (show w7.heap[w6.heap.size]? = some (.cells #[.int .i64 n, .slice b6 LR d6] 27) from (by exact HBBP.out))) (hf.2 _ hb).1) : w6.heap.size ∉ p8)
  replace HQ := hsl HQ hc
  replace HX1 := hsl HX1 hc
  replace HP := hsl HP hc
  have h := Fresh.chg HFQ.out hc; clear HFQ; have HFQ := Lib.hid h; clear h
  have h := Fresh.chg HFX1.out hc; clear HFX1; have HFX1 := Lib.hid h; clear h
  have h := Fresh.chg HFP.out hc; clear HFP; have HFP := Lib.hid h; clear h
  have h := bk hc HBS0.out (by simp); clear HBS0 cS0 lS0; obtain ⟨cS0, lS0, HBS0⟩ := h
  have h := bk hc HBBQ.out (by simp); clear HBBQ cBQ lBQ; obtain ⟨cBQ, lBQ, HBBQ⟩ := h
  have h := bk hc HBBP.out (by simp); clear HBBP cBP lBP; obtain ⟨cBP, lBP, HBBP⟩ := h
  replace HC := hct HC hc
  have HY1 := Lib.hid hs; have HFY1 := Lib.hid (hf.mono (Nat.zero_le _)); clear hs hf
  clear hc
  go_wp2_with fail
  refine (eqB_any b4 b8 la1 d4 d8 x1 p4 p8 _ HX1.out HY1.out).mono ?_
  rintro e w9 ⟨rfl, hc⟩
  replace HQ := hsl HQ hc
  replace HX1 := hsl HX1 hc
  replace HP := hsl HP hc
  replace HY1 := hsl HY1 hc
  have h := Fresh.chg HFQ.out hc; clear HFQ; have HFQ := Lib.hid h; clear h
  have h := Fresh.chg HFX1.out hc; clear HFX1; have HFX1 := Lib.hid h; clear h
  have h := Fresh.chg HFP.out hc; clear HFP; have HFP := Lib.hid h; clear h
  have h := Fresh.chg HFY1.out hc; clear HFY1; have HFY1 := Lib.hid h; clear h
  have h := bk hc HBS0.out (by simp); clear HBS0 cS0 lS0; obtain ⟨cS0, lS0, HBS0⟩ := h
  have h := bk hc HBBQ.out (by simp); clear HBBQ cBQ lBQ; obtain ⟨cBQ, lBQ, HBBQ⟩ := h
  have h := bk hc HBBP.out (by simp); clear HBBP cBP lBP; obtain ⟨cBP, lBP, HBBP⟩ := h
  replace HC := hct HC hc
  clear hc
  go_wp2_with fail
  refine (markB_any b4 la1 d4 x1 p4 (1) _ HX1.out HFX1.out (by omega) (by omega)).mono ?_
  rintro e w10 ⟨rfl, hs, hc⟩
  have h := (Lay.sl_chg byteL.slice HQ.out hc DQ_X1.out); clear HQ; have HQ := Lib.hid h; clear h
  have h := (Lay.sl_chg byteL.slice HP.out hc DP_X1.out); clear HP; have HP := Lib.hid h; clear h
  have h := Fresh.chg HFQ.out hc; clear HFQ; have HFQ := Lib.hid h; clear h
  have h := Fresh.chg HFX1.out hc; clear HFX1; have HFX1 := Lib.hid h; clear h
  have h := Fresh.chg HFP.out hc; clear HFP; have HFP := Lib.hid h; clear h
  have h := bk hc HBS0.out DBS0_X1.out; clear HBS0 cS0 lS0; obtain ⟨cS0, lS0, HBS0⟩ := h
  have h := bk hc HBBQ.out DBBQ_X1.out; clear HBBQ cBQ lBQ; obtain ⟨cBQ, lBQ, HBBQ⟩ := h
  have h := bk hc HBBP.out DBBP_X1.out; clear HBBP cBP lBP; obtain ⟨cBP, lBP, HBBP⟩ := h
  have h := Chg.trans HC.out hc (fun x hx => .inr (HGX1.out x hx)); clear HC; have HC := Lib.hid h; clear h
  clear HX1; have HX1 := Lib.hid hs
  clear hs
  clear hc
  have hk : ¬ (1 + (la1 : Int) < 0) := by omega
  go_wp2_with fail
  refine (eqListsResult_any n b6 b3 LR d6 d3 R p6 p3 _ HP.out HQ.out).mono ?_
  rintro e w11 ⟨rfl, hc⟩
  replace HQ := hsl HQ hc
  replace HX1 := hsl HX1 hc
  replace HP := hsl HP hc
  have h := Fresh.chg HFQ.out hc; clear HFQ; have HFQ := Lib.hid h; clear h
  have h := Fresh.chg HFX1.out hc; clear HFX1; have HFX1 := Lib.hid h; clear h
  have h := Fresh.chg HFP.out hc; clear HFP; have HFP := Lib.hid h; clear h
  have h := bk hc HBS0.out (by simp); clear HBS0 cS0 lS0; obtain ⟨cS0, lS0, HBS0⟩ := h
  have h := bk hc HBBQ.out (by simp); clear HBBQ cBQ lBQ; obtain ⟨cBQ, lBQ, HBBQ⟩ := h
  have h := bk hc HBBP.out (by simp); clear HBBP cBP lBP; obtain ⟨cBP, lBP, HBBP⟩ := h
  replace HC := hct HC hc
  clear hc
  have hLR2 : sumLen R ≤ 4611686018427387000 := hles
  have hLR3 : 0 ≤ sumLen R := hles0
  go_wp2_with fail
  refine (markListsResult_any n b6 LR d6 R p6 1 _ HP.out HFP.out (by omega) (by omega)).mono ?_
  rintro e w12 ⟨rfl, hs, hc⟩
  have h := (Lay.sl_chg byteL.slice HQ.out hc DQ_P.out); clear HQ; have HQ := Lib.hid h; clear h
  have h := Fresh.chg HFQ.out hc; clear HFQ; have HFQ := Lib.hid h; clear h
  have h := Fresh.chg HFP.out hc; clear HFP; have HFP := Lib.hid h; clear h
  have h := bk hc HBS0.out DBS0_P.out; clear HBS0 cS0 lS0; obtain ⟨cS0, lS0, HBS0⟩ := h
  have h := bk hc HBBQ.out DBBQ_P.out; clear HBBQ cBQ lBQ; obtain ⟨cBQ, lBQ, HBBQ⟩ := h
  have h := bk hc HBBP.out DBBP_P.out; clear HBBP cBP lBP; obtain ⟨cBP, lBP, HBBP⟩ := h
  have h := Chg.trans HC.out hc (fun x hx => .inr (HGP.out x hx)); clear HC; have HC := Lib.hid h; clear h
  clear HP; have HP := Lib.hid hs
  clear hs
  clear hc
  have hq : ¬ ((1 : Int) + sumLen R < 0) := by omega
  have hqq : (((1 : Int) + sumLen R) != 1 + sumLen R) = false := by simp
  go_wp2_with fail
  refine (heldListsResult_any n b6 LR d6 R p6 1 _ HP.out (by omega) (by omega)).mono ?_
  rintro e w13 ⟨rfl, hc⟩
  replace HQ := hsl HQ hc
  replace HP := hsl HP hc
  have h := Fresh.chg HFQ.out hc; clear HFQ; have HFQ := Lib.hid h; clear h
  have h := Fresh.chg HFP.out hc; clear HFP; have HFP := Lib.hid h; clear h
  have h := bk hc HBS0.out (by simp); clear HBS0 cS0 lS0; obtain ⟨cS0, lS0, HBS0⟩ := h
  have h := bk hc HBBQ.out (by simp); clear HBBQ cBQ lBQ; obtain ⟨cBQ, lBQ, HBBQ⟩ := h
  have h := bk hc HBBP.out (by simp); clear HBBP cBP lBP; obtain ⟨cBP, lBP, HBBP⟩ := h
  replace HC := hct HC hc
  clear hc
  go_wp2_with fail
  refine (toShape_any x0 _).mono ?_
  rintro e w14 ⟨rfl, hc⟩
  replace HQ := hsl HQ hc
  replace HP := hsl HP hc
  have h := Fresh.chg HFQ.out hc; clear HFQ; have HFQ := Lib.hid h; clear h
  have h := Fresh.chg HFP.out hc; clear HFP; have HFP := Lib.hid h; clear h
  have h := bk hc HBS0.out (by simp); clear HBS0 cS0 lS0; obtain ⟨cS0, lS0, HBS0⟩ := h
  have h := bk hc HBBQ.out (by simp); clear HBBQ cBQ lBQ; obtain ⟨cBQ, lBQ, HBBQ⟩ := h
  have h := bk hc HBBP.out (by simp); clear HBBP cBP lBP; obtain ⟨cBP, lBP, HBBP⟩ := h
  replace HC := hct HC hc
  clear hc
  go_wp2_with fail
  refine (toB_any a1 la1 ca1 x1 f1 _ (Lay.sl_ext byteL HO1.out HC.out) (by omega)).mono ?_
  rintro e w15 ⟨b15, d15, p15, rfl, hs, hf, hc⟩
  rw [← HLX1.out] at hs ⊢
  have hG := fun (x : Nat) (hx : x ∈ p15) => Nat.le_trans HC.out.size (hf.2 x hx).1
  have HGT1 := Lib.hid hG; clear hG
  have hD := fun (b : Nat) (hb : b ∈ p3) (hb' : b ∈ p15) => Nat.lt_irrefl _ (Nat.lt_of_lt_of_le ((Lay.sl_lt byteL.slice HQ.out) b hb) (hf.2 b hb').1)
  have DQ_T1 := Lib.hid hD; have DT1_Q := Lib.hid (fun (b : Nat) (hb : b ∈ p15) (hb' : b ∈ p3) => hD b hb' hb); clear hD
  have hD := fun (b : Nat) (hb : b ∈ p6) (hb' : b ∈ p15) => Nat.lt_irrefl _ (Nat.lt_of_lt_of_le ((Lay.sl_lt byteL.slice HP.out) b hb) (hf.2 b hb').1)
  have DP_T1 := Lib.hid hD; have DT1_P := Lib.hid (fun (b : Nat) (hb : b ∈ p15) (hb' : b ∈ p6) => hD b hb' hb); clear hD
  have DBS0_T1 := Lib.hid (fun hb => Nat.lt_irrefl _ (Nat.lt_of_lt_of_le (ltOf (show w14.heap[W.heap.size]? = some (.cells #[.int .i64 x0.groups, .int .i64 x0.column, .int .i64 x0.data, .int .i64 x0.spare, .int .i64 x0.rows, .int .i64 x0.cap, .int .i64 x0.batch, .int .i64 x0.queue, .int .i64 x0.stage] 23) from (by exact HBS0.out))) (hf.2 _ hb).1) : W.heap.size ∉ p15)
  have DBBQ_T1 := Lib.hid (fun hb => Nat.lt_irrefl _ (Nat.lt_of_lt_of_le (ltOf (show w14.heap[w3.heap.size]? = some (.cells #[.int .i64 n, .slice b3 LR d3] 27) from (by exact HBBQ.out))) (hf.2 _ hb).1) : w3.heap.size ∉ p15)
  have DBBP_T1 := Lib.hid (fun hb => Nat.lt_irrefl _ (Nat.lt_of_lt_of_le (ltOf (show w14.heap[w6.heap.size]? = some (.cells #[.int .i64 n, .slice b6 LR d6] 27) from (by exact HBBP.out))) (hf.2 _ hb).1) : w6.heap.size ∉ p15)
  replace HQ := hsl HQ hc
  replace HP := hsl HP hc
  have h := Fresh.chg HFQ.out hc; clear HFQ; have HFQ := Lib.hid h; clear h
  have h := Fresh.chg HFP.out hc; clear HFP; have HFP := Lib.hid h; clear h
  have h := bk hc HBS0.out (by simp); clear HBS0 cS0 lS0; obtain ⟨cS0, lS0, HBS0⟩ := h
  have h := bk hc HBBQ.out (by simp); clear HBBQ cBQ lBQ; obtain ⟨cBQ, lBQ, HBBQ⟩ := h
  have h := bk hc HBBP.out (by simp); clear HBBP cBP lBP; obtain ⟨cBP, lBP, HBBP⟩ := h
  replace HC := hct HC hc
  have HT1 := Lib.hid hs; have HFT1 := Lib.hid (hf.mono (Nat.zero_le _)); clear hs hf
  clear hc
  go_wp2_with fail
  refine (HI.out b15 la1 d15 p15 _ HT1.out).mono ?_
  rintro e w16 ⟨b16, d16, p16, rfl, hs, hf, hc⟩
  simp only [] at hs ⊢; rw [HLR.out] at hs ⊢
  have hG := fun (x : Nat) (hx : x ∈ p16) => Nat.le_trans HC.out.size (hf.2 x hx).1
  have HGN := Lib.hid hG; clear hG
  have hD := fun (b : Nat) (hb : b ∈ p3) (hb' : b ∈ p16) => Nat.lt_irrefl _ (Nat.lt_of_lt_of_le ((Lay.sl_lt byteL.slice HQ.out) b hb) (hf.2 b hb').1)
  have DQ_N := Lib.hid hD; have DN_Q := Lib.hid (fun (b : Nat) (hb : b ∈ p16) (hb' : b ∈ p3) => hD b hb' hb); clear hD
  have hD := fun (b : Nat) (hb : b ∈ p6) (hb' : b ∈ p16) => Nat.lt_irrefl _ (Nat.lt_of_lt_of_le ((Lay.sl_lt byteL.slice HP.out) b hb) (hf.2 b hb').1)
  have DP_N := Lib.hid hD; have DN_P := Lib.hid (fun (b : Nat) (hb : b ∈ p16) (hb' : b ∈ p6) => hD b hb' hb); clear hD
  have hD := fun (b : Nat) (hb : b ∈ p15) (hb' : b ∈ p16) => Nat.lt_irrefl _ (Nat.lt_of_lt_of_le ((Lay.sl_lt byteL HT1.out) b hb) (hf.2 b hb').1)
  have DT1_N := Lib.hid hD; have DN_T1 := Lib.hid (fun (b : Nat) (hb : b ∈ p16) (hb' : b ∈ p15) => hD b hb' hb); clear hD
  have DBS0_N := Lib.hid (fun hb => Nat.lt_irrefl _ (Nat.lt_of_lt_of_le (ltOf (show w15.heap[W.heap.size]? = some (.cells #[.int .i64 x0.groups, .int .i64 x0.column, .int .i64 x0.data, .int .i64 x0.spare, .int .i64 x0.rows, .int .i64 x0.cap, .int .i64 x0.batch, .int .i64 x0.queue, .int .i64 x0.stage] 23) from (by exact HBS0.out))) (hf.2 _ hb).1) : W.heap.size ∉ p16)
  have DBBQ_N := Lib.hid (fun hb => Nat.lt_irrefl _ (Nat.lt_of_lt_of_le (ltOf (show w15.heap[w3.heap.size]? = some (.cells #[.int .i64 n, .slice b3 LR d3] 27) from (by exact HBBQ.out))) (hf.2 _ hb).1) : w3.heap.size ∉ p16)
  have DBBP_N := Lib.hid (fun hb => Nat.lt_irrefl _ (Nat.lt_of_lt_of_le (ltOf (show w15.heap[w6.heap.size]? = some (.cells #[.int .i64 n, .slice b6 LR d6] 27) from (by exact HBBP.out))) (hf.2 _ hb).1) : w6.heap.size ∉ p16)
  replace HQ := hsl HQ hc
  replace HP := hsl HP hc
  replace HT1 := hsl HT1 hc
  have h := Fresh.chg HFQ.out hc; clear HFQ; have HFQ := Lib.hid h; clear h
  have h := Fresh.chg HFP.out hc; clear HFP; have HFP := Lib.hid h; clear h
  have h := Fresh.chg HFT1.out hc; clear HFT1; have HFT1 := Lib.hid h; clear h
  have h := bk hc HBS0.out (by simp); clear HBS0 cS0 lS0; obtain ⟨cS0, lS0, HBS0⟩ := h
  have h := bk hc HBBQ.out (by simp); clear HBBQ cBQ lBQ; obtain ⟨cBQ, lBQ, HBBQ⟩ := h
  have h := bk hc HBBP.out (by simp); clear HBBP cBP lBP; obtain ⟨cBP, lBP, HBBP⟩ := h
  replace HC := hct HC hc
  have HN := Lib.hid hs; have HFN := Lib.hid (hf.mono (Nat.zero_le _)); clear hs hf
  clear hc
  go_wp2_with fail
  refine (eqListsResult_any n b16 b3 LR d16 d3 R p16 p3 _ (Lay.sl_ext byteL.slice HN.out (Chg.alloc (Chg.refl [] w16) _)) (Lay.sl_ext byteL.slice HQ.out (Chg.alloc (Chg.refl [] w16) _))).mono ?_
  rintro e w17 ⟨rfl, hc⟩
  have DBBN_Q := Lib.hid (fun hb => Nat.lt_irrefl _ (Nat.lt_of_lt_of_le ((Lay.sl_lt byteL.slice HQ.out) _ hb) (show w16.heap.size ≤ w16.heap.size by omega)) : w16.heap.size ∉ p3)
  have DBBN_P := Lib.hid (fun hb => Nat.lt_irrefl _ (Nat.lt_of_lt_of_le ((Lay.sl_lt byteL.slice HP.out) _ hb) (show w16.heap.size ≤ w16.heap.size by omega)) : w16.heap.size ∉ p6)
  have DBBN_T1 := Lib.hid (fun hb => Nat.lt_irrefl _ (Nat.lt_of_lt_of_le ((Lay.sl_lt byteL HT1.out) _ hb) (show w16.heap.size ≤ w16.heap.size by omega)) : w16.heap.size ∉ p15)
  have DBBN_N := Lib.hid (fun hb => Nat.lt_irrefl _ (Nat.lt_of_lt_of_le ((Lay.sl_lt byteL.slice HN.out) _ hb) (show w16.heap.size ≤ w16.heap.size by omega)) : w16.heap.size ∉ p16)
  have h := (Lay.sl_ext byteL.slice (Lay.sl_ext byteL.slice HQ.out (Chg.alloc (Chg.refl [] w16) _)) hc); clear HQ; have HQ := Lib.hid h; clear h
  have h := (Lay.sl_ext byteL.slice (Lay.sl_ext byteL.slice HP.out (Chg.alloc (Chg.refl [] w16) _)) hc); clear HP; have HP := Lib.hid h; clear h
  have h := (Lay.sl_ext byteL (Lay.sl_ext byteL HT1.out (Chg.alloc (Chg.refl [] w16) _)) hc); clear HT1; have HT1 := Lib.hid h; clear h
  have h := (Lay.sl_ext byteL.slice (Lay.sl_ext byteL.slice HN.out (Chg.alloc (Chg.refl [] w16) _)) hc); clear HN; have HN := Lib.hid h; clear h
  have h := Fresh.chg (HFQ.out.chg (Chg.alloc (Chg.refl [] w16) _)) hc; clear HFQ; have HFQ := Lib.hid h; clear h
  have h := Fresh.chg (HFP.out.chg (Chg.alloc (Chg.refl [] w16) _)) hc; clear HFP; have HFP := Lib.hid h; clear h
  have h := Fresh.chg (HFT1.out.chg (Chg.alloc (Chg.refl [] w16) _)) hc; clear HFT1; have HFT1 := Lib.hid h; clear h
  have h := Fresh.chg (HFN.out.chg (Chg.alloc (Chg.refl [] w16) _)) hc; clear HFN; have HFN := Lib.hid h; clear h
  have h := bk hc (keep_alloc HBS0.out _) (by simp); clear HBS0 cS0 lS0; obtain ⟨cS0, lS0, HBS0⟩ := h
  have h := bk hc (keep_alloc HBBQ.out _) (by simp); clear HBBQ cBQ lBQ; obtain ⟨cBQ, lBQ, HBBQ⟩ := h
  have h := bk hc (keep_alloc HBBP.out _) (by simp); clear HBBP cBP lBP; obtain ⟨cBP, lBP, HBBP⟩ := h
  obtain ⟨cBN, lBN, HBBN⟩ := bk hc (b := w16.heap.size) (new_at (by simp) _) (by simp)
  have h := Chg.trans0 (Chg.alloc HC.out _) hc; clear HC; have HC := Lib.hid h; clear h
  clear hc
  go_wp2_with fail
  refine (heldListsResult_any n b6 LR d6 R p6 1 _ HP.out (by omega) (by omega)).mono ?_
  rintro e w18 ⟨rfl, hc⟩
  replace HQ := hsl HQ hc
  replace HP := hsl HP hc
  replace HT1 := hsl HT1 hc
  replace HN := hsl HN hc
  have h := Fresh.chg HFQ.out hc; clear HFQ; have HFQ := Lib.hid h; clear h
  have h := Fresh.chg HFP.out hc; clear HFP; have HFP := Lib.hid h; clear h
  have h := Fresh.chg HFT1.out hc; clear HFT1; have HFT1 := Lib.hid h; clear h
  have h := Fresh.chg HFN.out hc; clear HFN; have HFN := Lib.hid h; clear h
  have h := bk hc HBS0.out (by simp); clear HBS0 cS0 lS0; obtain ⟨cS0, lS0, HBS0⟩ := h
  have h := bk hc HBBQ.out (by simp); clear HBBQ cBQ lBQ; obtain ⟨cBQ, lBQ, HBBQ⟩ := h
  have h := bk hc HBBP.out (by simp); clear HBBP cBP lBP; obtain ⟨cBP, lBP, HBBP⟩ := h
  have h := bk hc HBBN.out (by simp); clear HBBN cBN lBN; obtain ⟨cBN, lBN, HBBN⟩ := h
  replace HC := hct HC hc
  clear hc
  go_wp2_with fail
  go_ret
  exact ⟨rfl, HC.out⟩

/-! ### FnExactSplitObject -/
namespace fnExactSplitObject
theorem own : ownKnob Try.prog.godebug = none := by kernel_rfl
theorem laidOut : laidOutB Try.prog = true := by kernel_rfl
set_option linter.unusedVariables false in
set_option maxRecDepth 100000 in
theorem lifted (os : Os) (started : os.Started) (H : Type) (enc : TypeId × Value → H) :
    ReturnsInHanded {} Try.checked os 3 .any (Rows.fnExactSplitObjectSpec.pre6 enc Try.prog Try.f3 Rows.fnExactSplitObjectRow.domain false) (Rows.fnExactSplitObjectSpec.post enc Try.prog Try.f3 false true false false) := by
  refine returnsInHanded_of_change (C := Try.checked) own started (by kernel_rfl) Try.func3
    (ChangeSpec.witness6 (enc := enc) (C := Try.checked) false ⟨#[], #[.agg #[.int .i64 0, .int .i64 0, .int .i64 0, .int .i64 0, .int .i64 0, .int .i64 0, .int .i64 0, .int .i64 0, .int .i64 0], .slice none 0 0], []⟩ 8 (by kernel_rfl) (by kernel_rfl) (by kernel_rfl) (by kernel_rfl)) ?_
  intro W base args ds gs before hval0 hW hcnd _
  have hval : ∀ (j : Nat) t v, Try.f3.params[j]? = some t → args[j]? = some v → Value.okWide Try.prog W .any base t v := hval0
  have hW' := hW
  obtain ⟨p, q, hA0, hV, rfl, hfz, hnd⟩ := hW
  have hA : DataW.TrodAll enc Try.prog W 0 (fun _ => true) true Try.f3.params.toList args.toList ds p := hA0
  rw [Try.params3] at hA hval
  obtain ⟨v0, vs0, d0, ds0, p0, q0, hargs, rfl, rfl, h0, r0⟩ := trodAll_cons hA
  obtain ⟨v1, vs1, d1, ds1, p1, q1, rfl, rfl, rfl, h1, r1⟩ := trodAll_cons r0
  obtain ⟨rfl, rfl, rfl⟩ := trodAll_nil r1
  obtain rfl : args = #[v0, v1] := by cases args; simp_all
  obtain ⟨rfl, rfl⟩ := trodVars_none hV
  have k0 := h0
  have lt0 : ∀ x ∈ p0, x.block < W.heap.size := by obtain ⟨m, hm⟩ := k0; exact DataW.trod_lt m _ _ _ hm
  obtain ⟨cs0, rfl, _⟩ := okWide_struct Try.underlying23 (hval 0 23 v0 rfl rfl)
  obtain ⟨x0, fp0, o0⟩ := op_shp.trod h0
  have k1 := h1
  have lt1 : ∀ x ∈ p1, x.block < W.heap.size := by obtain ⟨m, hm⟩ := k1; exact DataW.trod_lt m _ _ _ hm
  obtain ⟨a1, len1, cap1, rfl⟩ := okWide_slice Try.underlying24 (hval 1 24 v1 rfl rfl)
  obtain ⟨x1, fp1, a1', l1', c1', e1, o1⟩ := op_bytes.trod h1
  simp only [Value.cells, List.cons.injEq, Value.slice.injEq, and_true] at e1
  obtain ⟨rfl, rfl, rfl⟩ := e1
  clear hA0 hval0
  simp only [List.append_nil] at hW'
  refine (walk_FnExactSplitObject W cs0 x0 fp0 o0 _ _ _ x1 fp1 o1).mono fun e W' ⟨he, hc⟩ => ?_
  subst he
  have bel := hc.below0
  exact ⟨_, rfl, _, _, _, [], _, [], hW', trodAll_mk1 (shut_bool Try.underlying4 _), (trodAll_cons_mk (Below.trod laidOut (by kernel_rfl) (of_decide_eq_true (by kernel_rfl)) k0 bel lt0) (trodAll_cons_mk (Below.trod laidOut (by kernel_rfl) (of_decide_eq_true (by kernel_rfl)) k1 bel lt1) trodAll_mk0)), rfl, bel.frame _, fun h => by cases h⟩

theorem over : Rows.fnExactSplitObjectRow.holds Try.pinned (OpenSpec.ofChange Rows.fnExactSplitObjectSpec) :=
  OpenClaim.holds_of_wide 3 Try.f3 rfl rfl rfl rfl rfl rfl rfl ⟨rfl, rfl, rfl, rfl, rfl⟩ rfl rfl rfl rfl rfl (by kernel_rfl) Try.func3 (by kernel_rfl)
    (of_decide_eq_true (by kernel_rfl)) (by unfold Func.isWrapper; first | (rw [if_pos (by decide +kernel)]; kernel_rfl) | (rw [if_neg (by decide +kernel)]; exact ⟨rfl, rfl⟩))
    (fun os started H enc _ => lifted os started H enc)
end fnExactSplitObject
theorem FnExactSplitObject_holds : Rows.FnExactSplitObjectSaid := fnExactSplitObject.over
#print axioms FnExactSplitObject_holds
end Go.Proofs.Ytcejdmggacjnoaa
