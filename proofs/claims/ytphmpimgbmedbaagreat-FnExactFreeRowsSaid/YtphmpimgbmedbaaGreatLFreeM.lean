import Derived.Test.YtphmpimgbmedbaaGreatRows
import Derived.Test.YtphmpimgbmedbaaGreatQaa
import Derived.Test.YtphmpimgbmedbaaGreatQam
import Derived.Test.YtphmpimgbmedbaaGreatQay
import Derived.ShutString
import Derived.ChangeOld
/- The program's FreeRows returns what the reference returns, leaves its arguments and shares no memory, for all arguments: the law FnExactFreeRows returns true.
Conditions: none. -/
namespace Go.Proofs.YtphmpimgbmedbaaGreat
open Go.ChangeShapes Go.WideShapes Go.ChangeAt Go.RowKit

theorem infoWRl : (Tryz.prog.info? 58).map (fun i => i.size) = some 2 := by kernel_rfl
theorem infoLW : (Tryz.prog.info? 28).map (fun i => i.size) = some 15 := by kernel_rfl
set_option maxRecDepth 100000 in
set_option maxHeartbeats 4000000 in
theorem walk_FnExactFreeRows (W : World) (cs0 : Array Value) (x0 : Wld) (fp0 : List Nat) (o0 : wldL.rep W cs0.toList x0 fp0) (x1 : Int) (o1 : q1t x1) :
  Calls Tryz.prog 10 #[.agg cs0, .int .i64 x1] W fun e w' => e = .returned (.bool true) ∧ Chg [] W w' := by
 have HC : RowKit.Hid (Chg [] W W) := Chg.refl _ _
 obtain ⟨a10o0, l10o0, c10o0, _, a11o0, l11o0, c11o0, _, a12o0, l12o0, c12o0, _, ex, -⟩ := q1c.1 o0
 obtain rfl := Array.toList_inj.1 (ex.trans (List.toList_toArray).symm); clear ex
 have HO0 := Lib.hid o0; clear o0
 obtain ⟨t0, ht0⟩ : ∃ t, t = q4p x0 := ⟨_, rfl⟩
 have n0 : 0 ≤ t0 := by rw [ht0]; exact z1l _
 have HT0 := Lib.hid ht0; clear ht0
 obtain ⟨r, hr⟩ : ∃ r, r = freR x0 x1 := ⟨_, rfl⟩
 have HS : RowKit.Hid (∀ (c0 : Array Value) (p0 : List Nat) (w : World), wldL.rep w c0.toList x0 p0 → q4p x0 ≤ 1048576 → Calls Tryz.prog 40 #[.agg c0, .int .i64 x1] w (q6q irsL r w)) := by rw [hr]; exact fun c0 p0 w h0 z0 => z1s x0 c0 p0 x1 w h0 z0 o1
 have HI : RowKit.Hid (∀ (c0 : Array Value) (p0 : List Nat) (w : World), wldL.rep w c0.toList x0 p0 → q4p x0 ≤ 1048576 → Calls Tryz.prog 41 #[.agg c0, .int .i64 x1] w (q6q irsL r w)) := by rw [hr]; exact fun c0 p0 w h0 z0 => z2k x0 c0 p0 x1 w h0 z0 o1
 have HR := Lib.hid hr; clear hr
 obtain ⟨K, hK⟩ : ∃ K, K = (r.list.length : Int) := ⟨_, rfl⟩
 have hn : 0 ≤ K := by rw [hK]; exact Int.natCast_nonneg _
 have HK := Lib.hid hK; clear hK
 go_enter Tryz.func10, Tryz.ntmps10
 go_wp2_with (first | (refine q0n (b := W.heap.size) rfl _ 28 rfl rfl infoLW Tryz.underlying28 (q0d (by simp) _) rfl ?_) | (refine q0s rfl _ _ 58 rfl rfl rfl (by simp) infoWRl rfl rfl rfl ?_) | (refine q0s rfl _ _ 28 rfl rfl rfl (by simp) infoLW rfl rfl rfl ?_) | (refine q0s rfl _ _ 34 rfl rfl rfl (by simp) q2c rfl rfl rfl ?_))
 refine (szWorld_any x0 #[.int .i64 x0.shape.groups, .int .i64 x0.shape.column, .int .i64 x0.shape.data, .int .i64 x0.shape.spare, .int .i64 x0.shape.rows, .int .i64 x0.shape.cap, .int .i64 x0.shape.batch, .int .i64 x0.shape.queue, .int .i64 x0.shape.stage, .slice a10o0 l10o0 c10o0, .slice a11o0 l11o0 c11o0, .slice a12o0 l12o0 c12o0, .int .i64 x0.writes, .int .i64 x0.stop, .bool x0.down] fp0 (1048576) _ (Lay.ext wldL HO0.out (Chg.alloc HC.out _)) (by omega) (by omega)).mono ?_
 rintro e w1 ⟨rfl, hc⟩
 rw [← HT0.out]
 obtain ⟨cA0, lA0, HBA0⟩ := bk hc (b := W.heap.size) (q0d (by simp) _) (by simp)
 have h := Chg.trans0 (Chg.alloc HC.out _) hc; clear HC; have HC := Lib.hid h; clear h
 clear hc
 by_cases m0 : 1048576 - t0 < 0
 ·rw [if_pos m0]
  go_wp2_with fail
  go_ret
  exact ⟨rfl, HC.out⟩
 rw [if_neg m0]
 have HZ0 := Lib.hid (show q4p x0 ≤ 1048576 by rw [← HT0.out]; omega)
 obtain ⟨M0, hM0⟩ : ∃ M, M = q7d x0 := ⟨_, rfl⟩
 have hM0n : 0 ≤ M0 := by rw [hM0]; exact z2r _
 have hM0b : M0 ≤ 6291456 := by have h1 := cntWld_le x0; have h2 := HZ0.out; omega
 have HM0 := Lib.hid hM0; clear hM0
 have hle : K ≤ 4611686018427387000 := by
  have hb := cntFre x0 x1
  have h1 := cntWld_le x0; have h2 := HZ0.out; rw [HK.out, HR.out]; omega
 go_wp2_with (first | (refine q0n rfl _ 28 rfl rfl infoLW Tryz.underlying28 HBA0.out rfl ?_) | (refine q0s rfl _ _ 58 rfl rfl rfl (by simp) infoWRl rfl rfl rfl ?_) | (refine q0s rfl _ _ 28 rfl rfl rfl (by simp) infoLW rfl rfl rfl ?_) | (refine q0s rfl _ _ 34 rfl rfl rfl (by simp) q2c rfl rfl rfl ?_))
 refine (q5s x0 #[.int .i64 x0.shape.groups, .int .i64 x0.shape.column, .int .i64 x0.shape.data, .int .i64 x0.shape.spare, .int .i64 x0.shape.rows, .int .i64 x0.shape.cap, .int .i64 x0.shape.batch, .int .i64 x0.shape.queue, .int .i64 x0.shape.stage, .slice a10o0 l10o0 c10o0, .slice a11o0 l11o0 c11o0, .slice a12o0 l12o0 c12o0, .int .i64 x0.writes, .int .i64 x0.stop, .bool x0.down] fp0 _ (Lay.ext wldL HO0.out HC.out) HZ0.out).mono ?_
 rintro e w2 ⟨z2, p2, rfl, hs, hf, hc⟩
 have hG := fun (x : Nat) (hx : x ∈ p2) => Nat.le_trans HC.out.size (hf.2 x hx).1
 have HGS0 := Lib.hid hG; clear hG
 have DBA0_S0 := Lib.hid (fun hb => Nat.lt_irrefl _ (Nat.lt_of_lt_of_le (ltOf (show w1.heap[W.heap.size]? = some (.cells #[.int .i64 x0.shape.groups, .int .i64 x0.shape.column, .int .i64 x0.shape.data, .int .i64 x0.shape.spare, .int .i64 x0.shape.rows, .int .i64 x0.shape.cap, .int .i64 x0.shape.batch, .int .i64 x0.shape.queue, .int .i64 x0.shape.stage, .slice a10o0 l10o0 c10o0, .slice a11o0 l11o0 c11o0, .slice a12o0 l12o0 c12o0, .int .i64 x0.writes, .int .i64 x0.stop, .bool x0.down] 28) from (by exact HBA0.out))) (hf.2 _ hb).1) : W.heap.size ∉ p2)
 have h := bk0 hc HBA0.out; clear HBA0 cA0 lA0; obtain ⟨cA0, lA0, HBA0⟩ := h
 replace HC := hct HC hc
 have HS0 := Lib.hid hs; have HFS0 := Lib.hid (hf.mono (Nat.zero_le _)); clear hs hf
 clear hc
 go_wp2_with (first | (refine q0n rfl _ 28 rfl rfl infoLW Tryz.underlying28 HBA0.out rfl ?_) | (refine q0s rfl _ _ 58 rfl rfl rfl (by simp) infoWRl rfl rfl rfl ?_) | (refine q0s rfl _ _ 28 rfl rfl rfl (by simp) infoLW rfl rfl rfl ?_) | (refine q0s rfl _ _ 34 rfl rfl rfl (by simp) q2c rfl rfl rfl ?_))
 refine (HS.out z2 p2 _ HS0.out HZ0.out).mono ?_
 rintro e w3 ⟨z3, p3, rfl, hs, hf, hc⟩
 obtain ⟨ar3, lr3, cr3, rfl, -, -⟩ := q5w hs
 have hG := fun (x : Nat) (hx : x ∈ p3) => Nat.le_trans HC.out.size (hf.2 x hx).1
 have HGQ := Lib.hid hG; clear hG
 have hD := fun (b : Nat) (hb : b ∈ p2) (hb' : b ∈ p3) => Nat.lt_irrefl _ (Nat.lt_of_lt_of_le ((Lay.lt wldL HS0.out) b hb) (hf.2 b hb').1)
 have DS0_Q := Lib.hid hD; have DQ_S0 := Lib.hid (fun (b : Nat) (hb : b ∈ p3) (hb' : b ∈ p2) => hD b hb' hb); clear hD
 have DBA0_Q := Lib.hid (fun hb => Nat.lt_irrefl _ (Nat.lt_of_lt_of_le (ltOf (show w2.heap[W.heap.size]? = some (.cells #[.int .i64 x0.shape.groups, .int .i64 x0.shape.column, .int .i64 x0.shape.data, .int .i64 x0.shape.spare, .int .i64 x0.shape.rows, .int .i64 x0.shape.cap, .int .i64 x0.shape.batch, .int .i64 x0.shape.queue, .int .i64 x0.shape.stage, .slice a10o0 l10o0 c10o0, .slice a11o0 l11o0 c11o0, .slice a12o0 l12o0 c12o0, .int .i64 x0.writes, .int .i64 x0.stop, .bool x0.down] 28) from (by exact HBA0.out))) (hf.2 _ hb).1) : W.heap.size ∉ p3)
 replace HS0 := hre HS0 hc
 have h := q0r.chg HFS0.out hc; clear HFS0; have HFS0 := Lib.hid h; clear h
 have h := bk0 hc HBA0.out; clear HBA0 cA0 lA0; obtain ⟨cA0, lA0, HBA0⟩ := h
 replace HC := hct HC hc
 have HQ := Lib.hid hs; have HFQ := Lib.hid (hf.mono (Nat.zero_le _)); clear hs hf
 clear hc
 go_wp2_with (first | (refine q0n rfl _ 28 rfl rfl infoLW Tryz.underlying28 (q0b HBA0.out _) rfl ?_) | (refine q0n (b := w3.heap.size) rfl _ 58 rfl rfl infoWRl Tryz.underlying58 (q0d (by simp) _) rfl ?_) | (refine q0s rfl _ _ 58 rfl rfl rfl (by simp) infoWRl rfl rfl rfl ?_) | (refine q0s rfl _ _ 28 rfl rfl rfl (by simp) infoLW rfl rfl rfl ?_) | (refine q0s rfl _ _ 34 rfl rfl rfl (by simp) q2c rfl rfl rfl ?_))
 refine (q5s x0 #[.int .i64 x0.shape.groups, .int .i64 x0.shape.column, .int .i64 x0.shape.data, .int .i64 x0.shape.spare, .int .i64 x0.shape.rows, .int .i64 x0.shape.cap, .int .i64 x0.shape.batch, .int .i64 x0.shape.queue, .int .i64 x0.shape.stage, .slice a10o0 l10o0 c10o0, .slice a11o0 l11o0 c11o0, .slice a12o0 l12o0 c12o0, .int .i64 x0.writes, .int .i64 x0.stop, .bool x0.down] fp0 _ (Lay.ext wldL HO0.out (Chg.alloc HC.out _)) HZ0.out).mono ?_
 rintro e w4 ⟨z4, p4, rfl, hs, hf, hc⟩
 obtain ⟨a10q4, l10q4, c10q4, _, a11q4, l11q4, c11q4, _, a12q4, l12q4, c12q4, _, ex, -⟩ := q1c.1 hs
 obtain rfl := Array.toList_inj.1 (ex.trans (List.toList_toArray).symm); clear ex
 have hG := fun (x : Nat) (hx : x ∈ p4) => Nat.le_trans HC.out.size (Nat.le_trans (show w3.heap.size ≤ (w3.alloc (.cells #[.int .i64 r.code, .slice ar3 lr3 cr3] 58)).heap.size by simp) (hf.2 x hx).1)
 have HGX0 := Lib.hid hG; clear hG
 have hD := fun (b : Nat) (hb : b ∈ p3) (hb' : b ∈ p4) => Nat.lt_irrefl _ (Nat.lt_of_lt_of_le ((Lay.lt irsL (Lay.ext irsL HQ.out (Chg.alloc (Chg.refl [] w3) _))) b hb) (hf.2 b hb').1)
 have DQ_X0 := Lib.hid hD; have DX0_Q := Lib.hid (fun (b : Nat) (hb : b ∈ p4) (hb' : b ∈ p3) => hD b hb' hb); clear hD
 have DBA0_X0 := Lib.hid (fun hb => Nat.lt_irrefl _ (Nat.lt_of_lt_of_le (ltOf (show (w3.alloc (.cells #[.int .i64 r.code, .slice ar3 lr3 cr3] 58)).heap[W.heap.size]? = some (.cells #[.int .i64 x0.shape.groups, .int .i64 x0.shape.column, .int .i64 x0.shape.data, .int .i64 x0.shape.spare, .int .i64 x0.shape.rows, .int .i64 x0.shape.cap, .int .i64 x0.shape.batch, .int .i64 x0.shape.queue, .int .i64 x0.shape.stage, .slice a10o0 l10o0 c10o0, .slice a11o0 l11o0 c11o0, .slice a12o0 l12o0 c12o0, .int .i64 x0.writes, .int .i64 x0.stop, .bool x0.down] 28) from (by refine q0b ?_ _; exact HBA0.out))) (hf.2 _ hb).1) : W.heap.size ∉ p4)
 have DBBQ_X0 := Lib.hid (fun hb => Nat.lt_irrefl _ (Nat.lt_of_lt_of_le (ltOf (show (w3.alloc (.cells #[.int .i64 r.code, .slice ar3 lr3 cr3] 58)).heap[w3.heap.size]? = some (.cells #[.int .i64 r.code, .slice ar3 lr3 cr3] 58) from (by exact q0d (by simp) _))) (hf.2 _ hb).1) : w3.heap.size ∉ p4)
 have DBBQ_Q := Lib.hid (fun hb => Nat.lt_irrefl _ (Nat.lt_of_lt_of_le ((Lay.lt irsL HQ.out) _ hb) (show w3.heap.size ≤ w3.heap.size by omega)) : w3.heap.size ∉ p3)
 have h := (Lay.ext irsL (Lay.ext irsL HQ.out (Chg.alloc (Chg.refl [] w3) _)) hc); clear HQ; have HQ := Lib.hid h; clear h
 have h := q0r.chg (HFQ.out.chg (Chg.alloc (Chg.refl [] w3) _)) hc; clear HFQ; have HFQ := Lib.hid h; clear h
 have h := bk hc (q0b HBA0.out _) (by simp); clear HBA0 cA0 lA0; obtain ⟨cA0, lA0, HBA0⟩ := h
 obtain ⟨cBQ, lBQ, HBBQ⟩ := bk hc (b := w3.heap.size) (q0d (by simp) _) (by simp)
 have h := Chg.trans0 (Chg.alloc HC.out _) hc; clear HC; have HC := Lib.hid h; clear h
 have HX0 := Lib.hid hs; have HFX0 := Lib.hid (hf.mono (Nat.zero_le _)); clear hs hf
 clear hc
 go_wp2_with (first | (refine q0n rfl _ 28 rfl rfl infoLW Tryz.underlying28 (q0b HBA0.out _) rfl ?_) | (refine q0n rfl _ 58 rfl rfl infoWRl Tryz.underlying58 (q0b HBBQ.out _) rfl ?_) | (refine q0n (b := w4.heap.size) rfl _ 34 rfl rfl q2c Tryz.underlying34 (q0d (by simp) _) rfl ?_) | (refine q0s rfl _ _ 58 rfl rfl rfl (by simp) infoWRl rfl rfl rfl ?_) | (refine q0s rfl _ _ 28 rfl rfl rfl (by simp) infoLW rfl rfl rfl ?_) | (refine q0s rfl _ _ 34 rfl rfl rfl (by simp) q2c rfl rfl rfl ?_))
 refine (HI.out #[.int .i64 x0.shape.groups, .int .i64 x0.shape.column, .int .i64 x0.shape.data, .int .i64 x0.shape.spare, .int .i64 x0.shape.rows, .int .i64 x0.shape.cap, .int .i64 x0.shape.batch, .int .i64 x0.shape.queue, .int .i64 x0.shape.stage, .slice a10q4 l10q4 c10q4, .slice a11q4 l11q4 c11q4, .slice a12q4 l12q4 c12q4, .int .i64 x0.writes, .int .i64 x0.stop, .bool x0.down] p4 _ (Lay.ext wldL HX0.out (Chg.alloc (Chg.refl [] w4) _)) HZ0.out).mono ?_
 rintro e w5 ⟨z5, p5, rfl, hs, hf, hc⟩
 obtain ⟨ar5, lr5, cr5, rfl, -, -⟩ := q5w hs
 have hG := fun (x : Nat) (hx : x ∈ p5) => Nat.le_trans HC.out.size (Nat.le_trans (show w4.heap.size ≤ (w4.alloc (.cells #[.int .i64 x0.shape.groups, .int .i64 x0.shape.column, .int .i64 x0.shape.data, .int .i64 x0.shape.spare, .int .i64 x0.shape.rows, .int .i64 x0.shape.cap, .int .i64 x0.shape.batch, .int .i64 x0.shape.queue, .int .i64 x0.shape.stage, .slice a10q4 l10q4 c10q4, .slice a11q4 l11q4 c11q4, .slice a12q4 l12q4 c12q4, .int .i64 x0.writes, .int .i64 x0.stop, .bool x0.down] 34)).heap.size by simp) (hf.2 x hx).1)
 have HGP := Lib.hid hG; clear hG
 have hD := fun (b : Nat) (hb : b ∈ p3) (hb' : b ∈ p5) => Nat.lt_irrefl _ (Nat.lt_of_lt_of_le ((Lay.lt irsL (Lay.ext irsL HQ.out (Chg.alloc (Chg.refl [] w4) _))) b hb) (hf.2 b hb').1)
 have DQ_P := Lib.hid hD; have DP_Q := Lib.hid (fun (b : Nat) (hb : b ∈ p5) (hb' : b ∈ p3) => hD b hb' hb); clear hD
 have hD := fun (b : Nat) (hb : b ∈ p4) (hb' : b ∈ p5) => Nat.lt_irrefl _ (Nat.lt_of_lt_of_le ((Lay.lt wldL (Lay.ext wldL HX0.out (Chg.alloc (Chg.refl [] w4) _))) b hb) (hf.2 b hb').1)
 have DX0_P := Lib.hid hD; have DP_X0 := Lib.hid (fun (b : Nat) (hb : b ∈ p5) (hb' : b ∈ p4) => hD b hb' hb); clear hD
 have DBA0_P := Lib.hid (fun hb => Nat.lt_irrefl _ (Nat.lt_of_lt_of_le (ltOf (show (w4.alloc (.cells #[.int .i64 x0.shape.groups, .int .i64 x0.shape.column, .int .i64 x0.shape.data, .int .i64 x0.shape.spare, .int .i64 x0.shape.rows, .int .i64 x0.shape.cap, .int .i64 x0.shape.batch, .int .i64 x0.shape.queue, .int .i64 x0.shape.stage, .slice a10q4 l10q4 c10q4, .slice a11q4 l11q4 c11q4, .slice a12q4 l12q4 c12q4, .int .i64 x0.writes, .int .i64 x0.stop, .bool x0.down] 34)).heap[W.heap.size]? = some (.cells #[.int .i64 x0.shape.groups, .int .i64 x0.shape.column, .int .i64 x0.shape.data, .int .i64 x0.shape.spare, .int .i64 x0.shape.rows, .int .i64 x0.shape.cap, .int .i64 x0.shape.batch, .int .i64 x0.shape.queue, .int .i64 x0.shape.stage, .slice a10o0 l10o0 c10o0, .slice a11o0 l11o0 c11o0, .slice a12o0 l12o0 c12o0, .int .i64 x0.writes, .int .i64 x0.stop, .bool x0.down] 28) from (by refine q0b ?_ _; exact HBA0.out))) (hf.2 _ hb).1) : W.heap.size ∉ p5)
 have DBBQ_P := Lib.hid (fun hb => Nat.lt_irrefl _ (Nat.lt_of_lt_of_le (ltOf (show (w4.alloc (.cells #[.int .i64 x0.shape.groups, .int .i64 x0.shape.column, .int .i64 x0.shape.data, .int .i64 x0.shape.spare, .int .i64 x0.shape.rows, .int .i64 x0.shape.cap, .int .i64 x0.shape.batch, .int .i64 x0.shape.queue, .int .i64 x0.shape.stage, .slice a10q4 l10q4 c10q4, .slice a11q4 l11q4 c11q4, .slice a12q4 l12q4 c12q4, .int .i64 x0.writes, .int .i64 x0.stop, .bool x0.down] 34)).heap[w3.heap.size]? = some (.cells #[.int .i64 r.code, .slice ar3 lr3 cr3] 58) from (by refine q0b ?_ _; exact HBBQ.out))) (hf.2 _ hb).1) : w3.heap.size ∉ p5)
 have DBC0_P := Lib.hid (fun hb => Nat.lt_irrefl _ (Nat.lt_of_lt_of_le (ltOf (show (w4.alloc (.cells #[.int .i64 x0.shape.groups, .int .i64 x0.shape.column, .int .i64 x0.shape.data, .int .i64 x0.shape.spare, .int .i64 x0.shape.rows, .int .i64 x0.shape.cap, .int .i64 x0.shape.batch, .int .i64 x0.shape.queue, .int .i64 x0.shape.stage, .slice a10q4 l10q4 c10q4, .slice a11q4 l11q4 c11q4, .slice a12q4 l12q4 c12q4, .int .i64 x0.writes, .int .i64 x0.stop, .bool x0.down] 34)).heap[w4.heap.size]? = some (.cells #[.int .i64 x0.shape.groups, .int .i64 x0.shape.column, .int .i64 x0.shape.data, .int .i64 x0.shape.spare, .int .i64 x0.shape.rows, .int .i64 x0.shape.cap, .int .i64 x0.shape.batch, .int .i64 x0.shape.queue, .int .i64 x0.shape.stage, .slice a10q4 l10q4 c10q4, .slice a11q4 l11q4 c11q4, .slice a12q4 l12q4 c12q4, .int .i64 x0.writes, .int .i64 x0.stop, .bool x0.down] 34) from (by exact q0d (by simp) _))) (hf.2 _ hb).1) : w4.heap.size ∉ p5)
 have DBC0_Q := Lib.hid (fun hb => Nat.lt_irrefl _ (Nat.lt_of_lt_of_le ((Lay.lt irsL HQ.out) _ hb) (show w4.heap.size ≤ w4.heap.size by omega)) : w4.heap.size ∉ p3)
 have DBC0_X0 := Lib.hid (fun hb => Nat.lt_irrefl _ (Nat.lt_of_lt_of_le ((Lay.lt wldL HX0.out) _ hb) (show w4.heap.size ≤ w4.heap.size by omega)) : w4.heap.size ∉ p4)
 have h := (Lay.ext irsL (Lay.ext irsL HQ.out (Chg.alloc (Chg.refl [] w4) _)) hc); clear HQ; have HQ := Lib.hid h; clear h
 have h := (Lay.ext wldL (Lay.ext wldL HX0.out (Chg.alloc (Chg.refl [] w4) _)) hc); clear HX0; have HX0 := Lib.hid h; clear h
 have h := q0r.chg (HFQ.out.chg (Chg.alloc (Chg.refl [] w4) _)) hc; clear HFQ; have HFQ := Lib.hid h; clear h
 have h := q0r.chg (HFX0.out.chg (Chg.alloc (Chg.refl [] w4) _)) hc; clear HFX0; have HFX0 := Lib.hid h; clear h
 have h := bk hc (q0b HBA0.out _) (by simp); clear HBA0 cA0 lA0; obtain ⟨cA0, lA0, HBA0⟩ := h
 have h := bk hc (q0b HBBQ.out _) (by simp); clear HBBQ cBQ lBQ; obtain ⟨cBQ, lBQ, HBBQ⟩ := h
 obtain ⟨cC0, lC0, HBC0⟩ := bk hc (b := w4.heap.size) (q0d (by simp) _) (by simp)
 have h := Chg.trans0 (Chg.alloc HC.out _) hc; clear HC; have HC := Lib.hid h; clear h
 have HP := Lib.hid hs; have HFP := Lib.hid (hf.mono (Nat.zero_le _)); clear hs hf
 clear hc
 go_wp2_with (first | (refine q0n rfl _ 28 rfl rfl infoLW Tryz.underlying28 (q0b HBA0.out _) rfl ?_) | (refine q0n rfl _ 58 rfl rfl infoWRl Tryz.underlying58 (q0b HBBQ.out _) rfl ?_) | (refine q0n rfl _ 34 rfl rfl q2c Tryz.underlying34 (q0b HBC0.out _) rfl ?_) | (refine q0n (b := w5.heap.size) rfl _ 58 rfl rfl infoWRl Tryz.underlying58 (q0d (by simp) _) rfl ?_) | (refine q0s rfl _ _ 58 rfl rfl rfl (by simp) infoWRl rfl rfl rfl ?_) | (refine q0s rfl _ _ 28 rfl rfl rfl (by simp) infoLW rfl rfl rfl ?_) | (refine q0s rfl _ _ 34 rfl rfl rfl (by simp) q2c rfl rfl rfl ?_))
 refine (z0l r #[.int .i64 r.code, .slice ar5 lr5 cr5] #[.int .i64 r.code, .slice ar3 lr3 cr3] p5 p3 _ (Lay.ext irsL HP.out (Chg.alloc (Chg.refl [] w5) _)) (Lay.ext irsL HQ.out (Chg.alloc (Chg.refl [] w5) _))).mono ?_
 rintro e w6 ⟨rfl, hc⟩
 have DBBP_Q := Lib.hid (fun hb => Nat.lt_irrefl _ (Nat.lt_of_lt_of_le ((Lay.lt irsL HQ.out) _ hb) (show w5.heap.size ≤ w5.heap.size by omega)) : w5.heap.size ∉ p3)
 have DBBP_X0 := Lib.hid (fun hb => Nat.lt_irrefl _ (Nat.lt_of_lt_of_le ((Lay.lt wldL HX0.out) _ hb) (show w5.heap.size ≤ w5.heap.size by omega)) : w5.heap.size ∉ p4)
 have DBBP_P := Lib.hid (fun hb => Nat.lt_irrefl _ (Nat.lt_of_lt_of_le ((Lay.lt irsL HP.out) _ hb) (show w5.heap.size ≤ w5.heap.size by omega)) : w5.heap.size ∉ p5)
 have h := (Lay.ext irsL (Lay.ext irsL HQ.out (Chg.alloc (Chg.refl [] w5) _)) hc); clear HQ; have HQ := Lib.hid h; clear h
 have h := (Lay.ext wldL (Lay.ext wldL HX0.out (Chg.alloc (Chg.refl [] w5) _)) hc); clear HX0; have HX0 := Lib.hid h; clear h
 have h := (Lay.ext irsL (Lay.ext irsL HP.out (Chg.alloc (Chg.refl [] w5) _)) hc); clear HP; have HP := Lib.hid h; clear h
 have h := q0r.chg (HFQ.out.chg (Chg.alloc (Chg.refl [] w5) _)) hc; clear HFQ; have HFQ := Lib.hid h; clear h
 have h := q0r.chg (HFX0.out.chg (Chg.alloc (Chg.refl [] w5) _)) hc; clear HFX0; have HFX0 := Lib.hid h; clear h
 have h := q0r.chg (HFP.out.chg (Chg.alloc (Chg.refl [] w5) _)) hc; clear HFP; have HFP := Lib.hid h; clear h
 have h := bk hc (q0b HBA0.out _) (by simp); clear HBA0 cA0 lA0; obtain ⟨cA0, lA0, HBA0⟩ := h
 have h := bk hc (q0b HBBQ.out _) (by simp); clear HBBQ cBQ lBQ; obtain ⟨cBQ, lBQ, HBBQ⟩ := h
 have h := bk hc (q0b HBC0.out _) (by simp); clear HBC0 cC0 lC0; obtain ⟨cC0, lC0, HBC0⟩ := h
 obtain ⟨cBP, lBP, HBBP⟩ := bk hc (b := w5.heap.size) (q0d (by simp) _) (by simp)
 have h := Chg.trans0 (Chg.alloc HC.out _) hc; clear HC; have HC := Lib.hid h; clear h
 clear hc
 go_wp2_with (first | (refine q0n rfl _ 28 rfl rfl infoLW Tryz.underlying28 HBA0.out rfl ?_) | (refine q0n rfl _ 58 rfl rfl infoWRl Tryz.underlying58 HBBQ.out rfl ?_) | (refine q0n rfl _ 34 rfl rfl q2c Tryz.underlying34 HBC0.out rfl ?_) | (refine q0n rfl _ 58 rfl rfl infoWRl Tryz.underlying58 HBBP.out rfl ?_) | (refine q0s rfl _ _ 58 rfl rfl rfl (by simp) infoWRl rfl rfl rfl ?_) | (refine q0s rfl _ _ 28 rfl rfl rfl (by simp) infoLW rfl rfl rfl ?_) | (refine q0s rfl _ _ 34 rfl rfl rfl (by simp) q2c rfl rfl rfl ?_))
 obtain ⟨SS1, HSI1, HSO1⟩ := q0k (fun w' => Know (w4.heap.size) #[.int .i64 x0.shape.groups, .int .i64 x0.shape.column, .int .i64 x0.shape.data, .int .i64 x0.shape.spare, .int .i64 x0.shape.rows, .int .i64 x0.shape.cap, .int .i64 x0.shape.batch, .int .i64 x0.shape.queue, .int .i64 x0.shape.stage, .slice a10q4 l10q4 c10q4, .slice a11q4 l11q4 c11q4, .slice a12q4 l12q4 c12q4, .int .i64 x0.writes, .int .i64 x0.stop, .bool x0.down] w' ∧ Know (W.heap.size) #[.int .i64 x0.shape.groups, .int .i64 x0.shape.column, .int .i64 x0.shape.data, .int .i64 x0.shape.spare, .int .i64 x0.shape.rows, .int .i64 x0.shape.cap, .int .i64 x0.shape.batch, .int .i64 x0.shape.queue, .int .i64 x0.shape.stage, .slice a10o0 l10o0 c10o0, .slice a11o0 l11o0 c11o0, .slice a12o0 l12o0 c12o0, .int .i64 x0.writes, .int .i64 x0.stop, .bool x0.down] w')
 have hS0 := HSI1.out (w6.drew) ⟨(Know.of (by refine q0a ?_; exact HBC0.out)), (Know.of (by refine q0a ?_; exact HBA0.out))⟩
 refine q0g SS1 (by kernel_rfl) hS0 ?_
 refine rgL 0 hS0 HSO1 ?_
 refine rgL 1 hS0 HSO1 ?_
 refine q0c 2 rfl (by kernel_rfl) (fun K hK => ?_)
 go_simp
 go_at_call 17
 refine (q5s x0 #[.int .i64 x0.shape.groups, .int .i64 x0.shape.column, .int .i64 x0.shape.data, .int .i64 x0.shape.spare, .int .i64 x0.shape.rows, .int .i64 x0.shape.cap, .int .i64 x0.shape.batch, .int .i64 x0.shape.queue, .int .i64 x0.shape.stage, .slice a10o0 l10o0 c10o0, .slice a11o0 l11o0 c11o0, .slice a12o0 l12o0 c12o0, .int .i64 x0.writes, .int .i64 x0.stop, .bool x0.down] fp0 _ (Lay.ext wldL HO0.out (Chg.drew HC.out)) HZ0.out).mono ?_
 rintro e w7 ⟨z7, p7, rfl, hs, hf, hc⟩
 have hG := fun (x : Nat) (hx : x ∈ p7) => Nat.le_trans HC.out.size (Nat.le_trans (show w6.heap.size ≤ (w6.drew).heap.size by simp) (hf.2 x hx).1)
 have HGY0 := Lib.hid hG; clear hG
 have hD := fun (b : Nat) (hb : b ∈ p3) (hb' : b ∈ p7) => Nat.lt_irrefl _ (Nat.lt_of_lt_of_le ((Lay.lt irsL (Lay.ext irsL HQ.out (Chg.drew (Chg.refl [] w6)))) b hb) (hf.2 b hb').1)
 have DQ_Y0 := Lib.hid hD; have DY0_Q := Lib.hid (fun (b : Nat) (hb : b ∈ p7) (hb' : b ∈ p3) => hD b hb' hb); clear hD
 have hD := fun (b : Nat) (hb : b ∈ p4) (hb' : b ∈ p7) => Nat.lt_irrefl _ (Nat.lt_of_lt_of_le ((Lay.lt wldL (Lay.ext wldL HX0.out (Chg.drew (Chg.refl [] w6)))) b hb) (hf.2 b hb').1)
 have DX0_Y0 := Lib.hid hD; have DY0_X0 := Lib.hid (fun (b : Nat) (hb : b ∈ p7) (hb' : b ∈ p4) => hD b hb' hb); clear hD
 have hD := fun (b : Nat) (hb : b ∈ p5) (hb' : b ∈ p7) => Nat.lt_irrefl _ (Nat.lt_of_lt_of_le ((Lay.lt irsL (Lay.ext irsL HP.out (Chg.drew (Chg.refl [] w6)))) b hb) (hf.2 b hb').1)
 have DP_Y0 := Lib.hid hD; have DY0_P := Lib.hid (fun (b : Nat) (hb : b ∈ p7) (hb' : b ∈ p5) => hD b hb' hb); clear hD
 have DBA0_Y0 := Lib.hid (fun hb => Nat.lt_irrefl _ (Nat.lt_of_lt_of_le (ltOf (show (w6.drew).heap[W.heap.size]? = some (.cells #[.int .i64 x0.shape.groups, .int .i64 x0.shape.column, .int .i64 x0.shape.data, .int .i64 x0.shape.spare, .int .i64 x0.shape.rows, .int .i64 x0.shape.cap, .int .i64 x0.shape.batch, .int .i64 x0.shape.queue, .int .i64 x0.shape.stage, .slice a10o0 l10o0 c10o0, .slice a11o0 l11o0 c11o0, .slice a12o0 l12o0 c12o0, .int .i64 x0.writes, .int .i64 x0.stop, .bool x0.down] 28) from (by refine q0a ?_; exact HBA0.out))) (hf.2 _ hb).1) : W.heap.size ∉ p7)
 have DBBQ_Y0 := Lib.hid (fun hb => Nat.lt_irrefl _ (Nat.lt_of_lt_of_le (ltOf (show (w6.drew).heap[w3.heap.size]? = some (.cells #[.int .i64 r.code, .slice ar3 lr3 cr3] 58) from (by refine q0a ?_; exact HBBQ.out))) (hf.2 _ hb).1) : w3.heap.size ∉ p7)
 have DBC0_Y0 := Lib.hid (fun hb => Nat.lt_irrefl _ (Nat.lt_of_lt_of_le (ltOf (show (w6.drew).heap[w4.heap.size]? = some (.cells #[.int .i64 x0.shape.groups, .int .i64 x0.shape.column, .int .i64 x0.shape.data, .int .i64 x0.shape.spare, .int .i64 x0.shape.rows, .int .i64 x0.shape.cap, .int .i64 x0.shape.batch, .int .i64 x0.shape.queue, .int .i64 x0.shape.stage, .slice a10q4 l10q4 c10q4, .slice a11q4 l11q4 c11q4, .slice a12q4 l12q4 c12q4, .int .i64 x0.writes, .int .i64 x0.stop, .bool x0.down] 34) from (by refine q0a ?_; exact HBC0.out))) (hf.2 _ hb).1) : w4.heap.size ∉ p7)
 have DBBP_Y0 := Lib.hid (fun hb => Nat.lt_irrefl _ (Nat.lt_of_lt_of_le (ltOf (show (w6.drew).heap[w5.heap.size]? = some (.cells #[.int .i64 r.code, .slice ar5 lr5 cr5] 58) from (by refine q0a ?_; exact HBBP.out))) (hf.2 _ hb).1) : w5.heap.size ∉ p7)
 have h := (Lay.ext irsL (Lay.ext irsL HQ.out (Chg.drew (Chg.refl [] w6))) hc); clear HQ; have HQ := Lib.hid h; clear h
 have h := (Lay.ext wldL (Lay.ext wldL HX0.out (Chg.drew (Chg.refl [] w6))) hc); clear HX0; have HX0 := Lib.hid h; clear h
 have h := (Lay.ext irsL (Lay.ext irsL HP.out (Chg.drew (Chg.refl [] w6))) hc); clear HP; have HP := Lib.hid h; clear h
 have h := q0r.chg (HFQ.out.chg (Chg.drew (Chg.refl [] w6))) hc; clear HFQ; have HFQ := Lib.hid h; clear h
 have h := q0r.chg (HFX0.out.chg (Chg.drew (Chg.refl [] w6))) hc; clear HFX0; have HFX0 := Lib.hid h; clear h
 have h := q0r.chg (HFP.out.chg (Chg.drew (Chg.refl [] w6))) hc; clear HFP; have HFP := Lib.hid h; clear h
 have h := bk hc (q0a HBA0.out) (by simp); clear HBA0 cA0 lA0; obtain ⟨cA0, lA0, HBA0⟩ := h
 have h := bk hc (q0a HBBQ.out) (by simp); clear HBBQ cBQ lBQ; obtain ⟨cBQ, lBQ, HBBQ⟩ := h
 have h := bk hc (q0a HBC0.out) (by simp); clear HBC0 cC0 lC0; obtain ⟨cC0, lC0, HBC0⟩ := h
 have h := bk hc (q0a HBBP.out) (by simp); clear HBBP cBP lBP; obtain ⟨cBP, lBP, HBBP⟩ := h
 have h := Chg.trans0 (Chg.drew HC.out) hc; clear HC; have HC := Lib.hid h; clear h
 have HY0 := Lib.hid hs; have HFY0 := Lib.hid (hf.mono (Nat.zero_le _)); clear hs hf
 clear hc
 go_wp2_with fail
 refine hK.out _ _ (HSI1.out _ ⟨cC0, cA0⟩) (fun hS1 => ?_)
 clear hK K
 try simp only [Act.put, pA, pB, pC]
 refine q0c 3 rfl (by kernel_rfl) (fun K hK => ?_)
 go_simp
 go_at_call 20
 refine (eqWorld_any x0 #[.int .i64 x0.shape.groups, .int .i64 x0.shape.column, .int .i64 x0.shape.data, .int .i64 x0.shape.spare, .int .i64 x0.shape.rows, .int .i64 x0.shape.cap, .int .i64 x0.shape.batch, .int .i64 x0.shape.queue, .int .i64 x0.shape.stage, .slice a10q4 l10q4 c10q4, .slice a11q4 l11q4 c11q4, .slice a12q4 l12q4 c12q4, .int .i64 x0.writes, .int .i64 x0.stop, .bool x0.down] z7 p4 p7 _ HX0.out HY0.out).mono ?_
 rintro e w8 ⟨rfl, hc⟩
 replace HQ := hre HQ hc
 replace HX0 := hre HX0 hc
 replace HP := hre HP hc
 replace HY0 := hre HY0 hc
 have h := q0r.chg HFQ.out hc; clear HFQ; have HFQ := Lib.hid h; clear h
 have h := q0r.chg HFX0.out hc; clear HFX0; have HFX0 := Lib.hid h; clear h
 have h := q0r.chg HFP.out hc; clear HFP; have HFP := Lib.hid h; clear h
 have h := q0r.chg HFY0.out hc; clear HFY0; have HFY0 := Lib.hid h; clear h
 have h := bk0 hc HBA0.out; clear HBA0 cA0 lA0; obtain ⟨cA0, lA0, HBA0⟩ := h
 have h := bk0 hc HBBQ.out; clear HBBQ cBQ lBQ; obtain ⟨cBQ, lBQ, HBBQ⟩ := h
 have h := bk0 hc HBC0.out; clear HBC0 cC0 lC0; obtain ⟨cC0, lC0, HBC0⟩ := h
 have h := bk0 hc HBBP.out; clear HBBP cBP lBP; obtain ⟨cBP, lBP, HBBP⟩ := h
 replace HC := hct HC hc
 clear hc
 go_wp2_with fail
 refine hK.out _ _ (HSI1.out _ ⟨cC0, cA0⟩) (fun hS2 => ?_)
 clear hK K
 try simp only [Act.put, pA, pB, pC]
 refine rgT 4 hS2 ?_
 refine wpAnyH_done (by kernel_rfl) ?_ _
 go_wp2_with (first | (refine q0n rfl _ 28 rfl rfl infoLW Tryz.underlying28 HBA0.out rfl ?_) | (refine q0n rfl _ 58 rfl rfl infoWRl Tryz.underlying58 HBBQ.out rfl ?_) | (refine q0n rfl _ 34 rfl rfl q2c Tryz.underlying34 HBC0.out rfl ?_) | (refine q0n rfl _ 58 rfl rfl infoWRl Tryz.underlying58 HBBP.out rfl ?_) | (refine q0s rfl _ _ 58 rfl rfl rfl (by simp) infoWRl rfl rfl rfl ?_) | (refine q0s rfl _ _ 28 rfl rfl rfl (by simp) infoLW rfl rfl rfl ?_) | (refine q0s rfl _ _ 34 rfl rfl rfl (by simp) q2c rfl rfl rfl ?_))
 refine (z2b x0 #[.int .i64 x0.shape.groups, .int .i64 x0.shape.column, .int .i64 x0.shape.data, .int .i64 x0.shape.spare, .int .i64 x0.shape.rows, .int .i64 x0.shape.cap, .int .i64 x0.shape.batch, .int .i64 x0.shape.queue, .int .i64 x0.shape.stage, .slice a10q4 l10q4 c10q4, .slice a11q4 l11q4 c11q4, .slice a12q4 l12q4 c12q4, .int .i64 x0.writes, .int .i64 x0.stop, .bool x0.down] p4 (1) _ HX0.out HFX0.out (by omega) (by rw [← HM0.out]; omega)).mono ?_
 rintro e w9 ⟨rfl, hs, hc⟩
 rw [← HM0.out]
 have h := (Lay.chg irsL HQ.out hc DQ_X0.out); clear HQ; have HQ := Lib.hid h; clear h
 have h := (Lay.chg irsL HP.out hc DP_X0.out); clear HP; have HP := Lib.hid h; clear h
 have h := q0r.chg HFQ.out hc; clear HFQ; have HFQ := Lib.hid h; clear h
 have h := q0r.chg HFX0.out hc; clear HFX0; have HFX0 := Lib.hid h; clear h
 have h := q0r.chg HFP.out hc; clear HFP; have HFP := Lib.hid h; clear h
 have h := bk hc HBA0.out DBA0_X0.out; clear HBA0 cA0 lA0; obtain ⟨cA0, lA0, HBA0⟩ := h
 have h := bk hc HBBQ.out DBBQ_X0.out; clear HBBQ cBQ lBQ; obtain ⟨cBQ, lBQ, HBBQ⟩ := h
 have h := bk hc HBC0.out DBC0_X0.out; clear HBC0 cC0 lC0; obtain ⟨cC0, lC0, HBC0⟩ := h
 have h := bk hc HBBP.out DBBP_X0.out; clear HBBP cBP lBP; obtain ⟨cBP, lBP, HBBP⟩ := h
 have h := Chg.trans HC.out hc (fun x hx => .inr (HGX0.out x hx)); clear HC; have HC := Lib.hid h; clear h
 clear HX0; have HX0 := Lib.hid hs
 clear hs
 clear hc
 have hk : ¬ (1 + M0 < 0) := by omega
 go_wp2_with (first | (refine q0n rfl _ 28 rfl rfl infoLW Tryz.underlying28 HBA0.out rfl ?_) | (refine q0n rfl _ 58 rfl rfl infoWRl Tryz.underlying58 HBBQ.out rfl ?_) | (refine q0n rfl _ 34 rfl rfl q2c Tryz.underlying34 HBC0.out rfl ?_) | (refine q0n rfl _ 58 rfl rfl infoWRl Tryz.underlying58 HBBP.out rfl ?_) | (refine q0s rfl _ _ 58 rfl rfl rfl (by simp) infoWRl rfl rfl rfl ?_) | (refine q0s rfl _ _ 28 rfl rfl rfl (by simp) infoLW rfl rfl rfl ?_) | (refine q0s rfl _ _ 34 rfl rfl rfl (by simp) q2c rfl rfl rfl ?_))
 refine (z0l r #[.int .i64 r.code, .slice ar5 lr5 cr5] #[.int .i64 r.code, .slice ar3 lr3 cr3] p5 p3 _ HP.out HQ.out).mono ?_
 rintro e w10 ⟨rfl, hc⟩
 replace HQ := hre HQ hc
 replace HX0 := hre HX0 hc
 replace HP := hre HP hc
 have h := q0r.chg HFQ.out hc; clear HFQ; have HFQ := Lib.hid h; clear h
 have h := q0r.chg HFX0.out hc; clear HFX0; have HFX0 := Lib.hid h; clear h
 have h := q0r.chg HFP.out hc; clear HFP; have HFP := Lib.hid h; clear h
 have h := bk0 hc HBA0.out; clear HBA0 cA0 lA0; obtain ⟨cA0, lA0, HBA0⟩ := h
 have h := bk0 hc HBBQ.out; clear HBBQ cBQ lBQ; obtain ⟨cBQ, lBQ, HBBQ⟩ := h
 have h := bk0 hc HBC0.out; clear HBC0 cC0 lC0; obtain ⟨cC0, lC0, HBC0⟩ := h
 have h := bk0 hc HBBP.out; clear HBBP cBP lBP; obtain ⟨cBP, lBP, HBBP⟩ := h
 replace HC := hct HC hc
 clear hc
 go_wp2_with (first | (refine q0n rfl _ 28 rfl rfl infoLW Tryz.underlying28 HBA0.out rfl ?_) | (refine q0n rfl _ 58 rfl rfl infoWRl Tryz.underlying58 HBBQ.out rfl ?_) | (refine q0n rfl _ 34 rfl rfl q2c Tryz.underlying34 HBC0.out rfl ?_) | (refine q0n rfl _ 58 rfl rfl infoWRl Tryz.underlying58 HBBP.out rfl ?_) | (refine q0s rfl _ _ 58 rfl rfl rfl (by simp) infoWRl rfl rfl rfl ?_) | (refine q0s rfl _ _ 28 rfl rfl rfl (by simp) infoLW rfl rfl rfl ?_) | (refine q0s rfl _ _ 34 rfl rfl rfl (by simp) q2c rfl rfl rfl ?_))
 refine (markIrs_any r #[.int .i64 r.code, .slice ar5 lr5 cr5] p5 1 _ HP.out HFP.out (by omega) (by rw [← HK.out]; omega)).mono ?_
 rintro e w11 ⟨rfl, hs, hc⟩
 rw [← HK.out]
 have h := (Lay.chg irsL HQ.out hc DQ_P.out); clear HQ; have HQ := Lib.hid h; clear h
 have h := q0r.chg HFQ.out hc; clear HFQ; have HFQ := Lib.hid h; clear h
 have h := q0r.chg HFP.out hc; clear HFP; have HFP := Lib.hid h; clear h
 have h := bk hc HBA0.out DBA0_P.out; clear HBA0 cA0 lA0; obtain ⟨cA0, lA0, HBA0⟩ := h
 have h := bk hc HBBQ.out DBBQ_P.out; clear HBBQ cBQ lBQ; obtain ⟨cBQ, lBQ, HBBQ⟩ := h
 have h := bk hc HBC0.out DBC0_P.out; clear HBC0 cC0 lC0; obtain ⟨cC0, lC0, HBC0⟩ := h
 have h := bk hc HBBP.out DBBP_P.out; clear HBBP cBP lBP; obtain ⟨cBP, lBP, HBBP⟩ := h
 have h := Chg.trans HC.out hc (fun x hx => .inr (HGP.out x hx)); clear HC; have HC := Lib.hid h; clear h
 clear HP; have HP := Lib.hid hs
 clear hs
 clear hc
 have hq : ¬ ((1 : Int) + K < 0) := by omega
 have hqq : (((1 : Int) + K) != 1 + K) = false := by simp
 go_wp2_with (first | (refine q0n rfl _ 28 rfl rfl infoLW Tryz.underlying28 HBA0.out rfl ?_) | (refine q0n rfl _ 58 rfl rfl infoWRl Tryz.underlying58 HBBQ.out rfl ?_) | (refine q0n rfl _ 34 rfl rfl q2c Tryz.underlying34 HBC0.out rfl ?_) | (refine q0n rfl _ 58 rfl rfl infoWRl Tryz.underlying58 HBBP.out rfl ?_) | (refine q0s rfl _ _ 58 rfl rfl rfl (by simp) infoWRl rfl rfl rfl ?_) | (refine q0s rfl _ _ 28 rfl rfl rfl (by simp) infoLW rfl rfl rfl ?_) | (refine q0s rfl _ _ 34 rfl rfl rfl (by simp) q2c rfl rfl rfl ?_))
 refine (z0j r #[.int .i64 r.code, .slice ar5 lr5 cr5] p5 1 _ HP.out (by omega) (by rw [← HK.out]; omega)).mono ?_
 rintro e w12 ⟨rfl, hc⟩
 rw [← HK.out]
 replace HQ := hre HQ hc
 replace HP := hre HP hc
 have h := q0r.chg HFQ.out hc; clear HFQ; have HFQ := Lib.hid h; clear h
 have h := q0r.chg HFP.out hc; clear HFP; have HFP := Lib.hid h; clear h
 have h := bk0 hc HBA0.out; clear HBA0 cA0 lA0; obtain ⟨cA0, lA0, HBA0⟩ := h
 have h := bk0 hc HBBQ.out; clear HBBQ cBQ lBQ; obtain ⟨cBQ, lBQ, HBBQ⟩ := h
 have h := bk0 hc HBC0.out; clear HBC0 cC0 lC0; obtain ⟨cC0, lC0, HBC0⟩ := h
 have h := bk0 hc HBBP.out; clear HBBP cBP lBP; obtain ⟨cBP, lBP, HBBP⟩ := h
 replace HC := hct HC hc
 clear hc
 go_wp2_with (first | (refine q0n rfl _ 28 rfl rfl infoLW Tryz.underlying28 HBA0.out rfl ?_) | (refine q0n rfl _ 58 rfl rfl infoWRl Tryz.underlying58 HBBQ.out rfl ?_) | (refine q0n rfl _ 34 rfl rfl q2c Tryz.underlying34 HBC0.out rfl ?_) | (refine q0n rfl _ 58 rfl rfl infoWRl Tryz.underlying58 HBBP.out rfl ?_) | (refine q0s rfl _ _ 58 rfl rfl rfl (by simp) infoWRl rfl rfl rfl ?_) | (refine q0s rfl _ _ 28 rfl rfl rfl (by simp) infoLW rfl rfl rfl ?_) | (refine q0s rfl _ _ 34 rfl rfl rfl (by simp) q2c rfl rfl rfl ?_))
 refine (q5s x0 #[.int .i64 x0.shape.groups, .int .i64 x0.shape.column, .int .i64 x0.shape.data, .int .i64 x0.shape.spare, .int .i64 x0.shape.rows, .int .i64 x0.shape.cap, .int .i64 x0.shape.batch, .int .i64 x0.shape.queue, .int .i64 x0.shape.stage, .slice a10o0 l10o0 c10o0, .slice a11o0 l11o0 c11o0, .slice a12o0 l12o0 c12o0, .int .i64 x0.writes, .int .i64 x0.stop, .bool x0.down] fp0 _ (Lay.ext wldL HO0.out HC.out) HZ0.out).mono ?_
 rintro e w13 ⟨z13, p13, rfl, hs, hf, hc⟩
 have hG := fun (x : Nat) (hx : x ∈ p13) => Nat.le_trans HC.out.size (hf.2 x hx).1
 have HGT0 := Lib.hid hG; clear hG
 have hD := fun (b : Nat) (hb : b ∈ p3) (hb' : b ∈ p13) => Nat.lt_irrefl _ (Nat.lt_of_lt_of_le ((Lay.lt irsL HQ.out) b hb) (hf.2 b hb').1)
 have DQ_T0 := Lib.hid hD; have DT0_Q := Lib.hid (fun (b : Nat) (hb : b ∈ p13) (hb' : b ∈ p3) => hD b hb' hb); clear hD
 have hD := fun (b : Nat) (hb : b ∈ p5) (hb' : b ∈ p13) => Nat.lt_irrefl _ (Nat.lt_of_lt_of_le ((Lay.lt irsL HP.out) b hb) (hf.2 b hb').1)
 have DP_T0 := Lib.hid hD; have DT0_P := Lib.hid (fun (b : Nat) (hb : b ∈ p13) (hb' : b ∈ p5) => hD b hb' hb); clear hD
 have DBA0_T0 := Lib.hid (fun hb => Nat.lt_irrefl _ (Nat.lt_of_lt_of_le (ltOf (show w12.heap[W.heap.size]? = some (.cells #[.int .i64 x0.shape.groups, .int .i64 x0.shape.column, .int .i64 x0.shape.data, .int .i64 x0.shape.spare, .int .i64 x0.shape.rows, .int .i64 x0.shape.cap, .int .i64 x0.shape.batch, .int .i64 x0.shape.queue, .int .i64 x0.shape.stage, .slice a10o0 l10o0 c10o0, .slice a11o0 l11o0 c11o0, .slice a12o0 l12o0 c12o0, .int .i64 x0.writes, .int .i64 x0.stop, .bool x0.down] 28) from (by exact HBA0.out))) (hf.2 _ hb).1) : W.heap.size ∉ p13)
 have DBBQ_T0 := Lib.hid (fun hb => Nat.lt_irrefl _ (Nat.lt_of_lt_of_le (ltOf (show w12.heap[w3.heap.size]? = some (.cells #[.int .i64 r.code, .slice ar3 lr3 cr3] 58) from (by exact HBBQ.out))) (hf.2 _ hb).1) : w3.heap.size ∉ p13)
 have DBC0_T0 := Lib.hid (fun hb => Nat.lt_irrefl _ (Nat.lt_of_lt_of_le (ltOf (show w12.heap[w4.heap.size]? = some (.cells #[.int .i64 x0.shape.groups, .int .i64 x0.shape.column, .int .i64 x0.shape.data, .int .i64 x0.shape.spare, .int .i64 x0.shape.rows, .int .i64 x0.shape.cap, .int .i64 x0.shape.batch, .int .i64 x0.shape.queue, .int .i64 x0.shape.stage, .slice a10q4 l10q4 c10q4, .slice a11q4 l11q4 c11q4, .slice a12q4 l12q4 c12q4, .int .i64 x0.writes, .int .i64 x0.stop, .bool x0.down] 34) from (by exact HBC0.out))) (hf.2 _ hb).1) : w4.heap.size ∉ p13)
 have DBBP_T0 := Lib.hid (fun hb => Nat.lt_irrefl _ (Nat.lt_of_lt_of_le (ltOf (show w12.heap[w5.heap.size]? = some (.cells #[.int .i64 r.code, .slice ar5 lr5 cr5] 58) from (by exact HBBP.out))) (hf.2 _ hb).1) : w5.heap.size ∉ p13)
 replace HQ := hre HQ hc
 replace HP := hre HP hc
 have h := q0r.chg HFQ.out hc; clear HFQ; have HFQ := Lib.hid h; clear h
 have h := q0r.chg HFP.out hc; clear HFP; have HFP := Lib.hid h; clear h
 have h := bk0 hc HBA0.out; clear HBA0 cA0 lA0; obtain ⟨cA0, lA0, HBA0⟩ := h
 have h := bk0 hc HBBQ.out; clear HBBQ cBQ lBQ; obtain ⟨cBQ, lBQ, HBBQ⟩ := h
 have h := bk0 hc HBC0.out; clear HBC0 cC0 lC0; obtain ⟨cC0, lC0, HBC0⟩ := h
 have h := bk0 hc HBBP.out; clear HBBP cBP lBP; obtain ⟨cBP, lBP, HBBP⟩ := h
 replace HC := hct HC hc
 have HT0 := Lib.hid hs; have HFT0 := Lib.hid (hf.mono (Nat.zero_le _)); clear hs hf
 clear hc
 go_wp2_with (first | (refine q0n rfl _ 28 rfl rfl infoLW Tryz.underlying28 HBA0.out rfl ?_) | (refine q0n rfl _ 58 rfl rfl infoWRl Tryz.underlying58 HBBQ.out rfl ?_) | (refine q0n rfl _ 34 rfl rfl q2c Tryz.underlying34 HBC0.out rfl ?_) | (refine q0n rfl _ 58 rfl rfl infoWRl Tryz.underlying58 HBBP.out rfl ?_) | (refine q0s rfl _ _ 58 rfl rfl rfl (by simp) infoWRl rfl rfl rfl ?_) | (refine q0s rfl _ _ 28 rfl rfl rfl (by simp) infoLW rfl rfl rfl ?_) | (refine q0s rfl _ _ 34 rfl rfl rfl (by simp) q2c rfl rfl rfl ?_))
 refine (HI.out z13 p13 _ HT0.out HZ0.out).mono ?_
 rintro e w14 ⟨z14, p14, rfl, hs, hf, hc⟩
 obtain ⟨ar14, lr14, cr14, rfl, -, -⟩ := q5w hs
 have hG := fun (x : Nat) (hx : x ∈ p14) => Nat.le_trans HC.out.size (hf.2 x hx).1
 have HGN := Lib.hid hG; clear hG
 have hD := fun (b : Nat) (hb : b ∈ p3) (hb' : b ∈ p14) => Nat.lt_irrefl _ (Nat.lt_of_lt_of_le ((Lay.lt irsL HQ.out) b hb) (hf.2 b hb').1)
 have DQ_N := Lib.hid hD; have DN_Q := Lib.hid (fun (b : Nat) (hb : b ∈ p14) (hb' : b ∈ p3) => hD b hb' hb); clear hD
 have hD := fun (b : Nat) (hb : b ∈ p5) (hb' : b ∈ p14) => Nat.lt_irrefl _ (Nat.lt_of_lt_of_le ((Lay.lt irsL HP.out) b hb) (hf.2 b hb').1)
 have DP_N := Lib.hid hD; have DN_P := Lib.hid (fun (b : Nat) (hb : b ∈ p14) (hb' : b ∈ p5) => hD b hb' hb); clear hD
 have hD := fun (b : Nat) (hb : b ∈ p13) (hb' : b ∈ p14) => Nat.lt_irrefl _ (Nat.lt_of_lt_of_le ((Lay.lt wldL HT0.out) b hb) (hf.2 b hb').1)
 have DT0_N := Lib.hid hD; have DN_T0 := Lib.hid (fun (b : Nat) (hb : b ∈ p14) (hb' : b ∈ p13) => hD b hb' hb); clear hD
 have DBA0_N := Lib.hid (fun hb => Nat.lt_irrefl _ (Nat.lt_of_lt_of_le (ltOf (show w13.heap[W.heap.size]? = some (.cells #[.int .i64 x0.shape.groups, .int .i64 x0.shape.column, .int .i64 x0.shape.data, .int .i64 x0.shape.spare, .int .i64 x0.shape.rows, .int .i64 x0.shape.cap, .int .i64 x0.shape.batch, .int .i64 x0.shape.queue, .int .i64 x0.shape.stage, .slice a10o0 l10o0 c10o0, .slice a11o0 l11o0 c11o0, .slice a12o0 l12o0 c12o0, .int .i64 x0.writes, .int .i64 x0.stop, .bool x0.down] 28) from (by exact HBA0.out))) (hf.2 _ hb).1) : W.heap.size ∉ p14)
 have DBBQ_N := Lib.hid (fun hb => Nat.lt_irrefl _ (Nat.lt_of_lt_of_le (ltOf (show w13.heap[w3.heap.size]? = some (.cells #[.int .i64 r.code, .slice ar3 lr3 cr3] 58) from (by exact HBBQ.out))) (hf.2 _ hb).1) : w3.heap.size ∉ p14)
 have DBC0_N := Lib.hid (fun hb => Nat.lt_irrefl _ (Nat.lt_of_lt_of_le (ltOf (show w13.heap[w4.heap.size]? = some (.cells #[.int .i64 x0.shape.groups, .int .i64 x0.shape.column, .int .i64 x0.shape.data, .int .i64 x0.shape.spare, .int .i64 x0.shape.rows, .int .i64 x0.shape.cap, .int .i64 x0.shape.batch, .int .i64 x0.shape.queue, .int .i64 x0.shape.stage, .slice a10q4 l10q4 c10q4, .slice a11q4 l11q4 c11q4, .slice a12q4 l12q4 c12q4, .int .i64 x0.writes, .int .i64 x0.stop, .bool x0.down] 34) from (by exact HBC0.out))) (hf.2 _ hb).1) : w4.heap.size ∉ p14)
 have DBBP_N := Lib.hid (fun hb => Nat.lt_irrefl _ (Nat.lt_of_lt_of_le (ltOf (show w13.heap[w5.heap.size]? = some (.cells #[.int .i64 r.code, .slice ar5 lr5 cr5] 58) from (by exact HBBP.out))) (hf.2 _ hb).1) : w5.heap.size ∉ p14)
 replace HQ := hre HQ hc
 replace HP := hre HP hc
 replace HT0 := hre HT0 hc
 have h := q0r.chg HFQ.out hc; clear HFQ; have HFQ := Lib.hid h; clear h
 have h := q0r.chg HFP.out hc; clear HFP; have HFP := Lib.hid h; clear h
 have h := q0r.chg HFT0.out hc; clear HFT0; have HFT0 := Lib.hid h; clear h
 have h := bk0 hc HBA0.out; clear HBA0 cA0 lA0; obtain ⟨cA0, lA0, HBA0⟩ := h
 have h := bk0 hc HBBQ.out; clear HBBQ cBQ lBQ; obtain ⟨cBQ, lBQ, HBBQ⟩ := h
 have h := bk0 hc HBC0.out; clear HBC0 cC0 lC0; obtain ⟨cC0, lC0, HBC0⟩ := h
 have h := bk0 hc HBBP.out; clear HBBP cBP lBP; obtain ⟨cBP, lBP, HBBP⟩ := h
 replace HC := hct HC hc
 have HN := Lib.hid hs; have HFN := Lib.hid (hf.mono (Nat.zero_le _)); clear hs hf
 clear hc
 go_wp2_with (first | (refine q0n rfl _ 28 rfl rfl infoLW Tryz.underlying28 (q0b HBA0.out _) rfl ?_) | (refine q0n rfl _ 58 rfl rfl infoWRl Tryz.underlying58 (q0b HBBQ.out _) rfl ?_) | (refine q0n rfl _ 34 rfl rfl q2c Tryz.underlying34 (q0b HBC0.out _) rfl ?_) | (refine q0n rfl _ 58 rfl rfl infoWRl Tryz.underlying58 (q0b HBBP.out _) rfl ?_) | (refine q0n (b := w14.heap.size) rfl _ 58 rfl rfl infoWRl Tryz.underlying58 (q0d (by simp) _) rfl ?_) | (refine q0s rfl _ _ 58 rfl rfl rfl (by simp) infoWRl rfl rfl rfl ?_) | (refine q0s rfl _ _ 28 rfl rfl rfl (by simp) infoLW rfl rfl rfl ?_) | (refine q0s rfl _ _ 34 rfl rfl rfl (by simp) q2c rfl rfl rfl ?_))
 refine (z0l r #[.int .i64 r.code, .slice ar14 lr14 cr14] #[.int .i64 r.code, .slice ar3 lr3 cr3] p14 p3 _ (Lay.ext irsL HN.out (Chg.alloc (Chg.refl [] w14) _)) (Lay.ext irsL HQ.out (Chg.alloc (Chg.refl [] w14) _))).mono ?_
 rintro e w15 ⟨rfl, hc⟩
 have DBBN_Q := Lib.hid (fun hb => Nat.lt_irrefl _ (Nat.lt_of_lt_of_le ((Lay.lt irsL HQ.out) _ hb) (show w14.heap.size ≤ w14.heap.size by omega)) : w14.heap.size ∉ p3)
 have DBBN_P := Lib.hid (fun hb => Nat.lt_irrefl _ (Nat.lt_of_lt_of_le ((Lay.lt irsL HP.out) _ hb) (show w14.heap.size ≤ w14.heap.size by omega)) : w14.heap.size ∉ p5)
 have DBBN_T0 := Lib.hid (fun hb => Nat.lt_irrefl _ (Nat.lt_of_lt_of_le ((Lay.lt wldL HT0.out) _ hb) (show w14.heap.size ≤ w14.heap.size by omega)) : w14.heap.size ∉ p13)
 have DBBN_N := Lib.hid (fun hb => Nat.lt_irrefl _ (Nat.lt_of_lt_of_le ((Lay.lt irsL HN.out) _ hb) (show w14.heap.size ≤ w14.heap.size by omega)) : w14.heap.size ∉ p14)
 have h := (Lay.ext irsL (Lay.ext irsL HQ.out (Chg.alloc (Chg.refl [] w14) _)) hc); clear HQ; have HQ := Lib.hid h; clear h
 have h := (Lay.ext irsL (Lay.ext irsL HP.out (Chg.alloc (Chg.refl [] w14) _)) hc); clear HP; have HP := Lib.hid h; clear h
 have h := (Lay.ext wldL (Lay.ext wldL HT0.out (Chg.alloc (Chg.refl [] w14) _)) hc); clear HT0; have HT0 := Lib.hid h; clear h
 have h := (Lay.ext irsL (Lay.ext irsL HN.out (Chg.alloc (Chg.refl [] w14) _)) hc); clear HN; have HN := Lib.hid h; clear h
 have h := q0r.chg (HFQ.out.chg (Chg.alloc (Chg.refl [] w14) _)) hc; clear HFQ; have HFQ := Lib.hid h; clear h
 have h := q0r.chg (HFP.out.chg (Chg.alloc (Chg.refl [] w14) _)) hc; clear HFP; have HFP := Lib.hid h; clear h
 have h := q0r.chg (HFT0.out.chg (Chg.alloc (Chg.refl [] w14) _)) hc; clear HFT0; have HFT0 := Lib.hid h; clear h
 have h := q0r.chg (HFN.out.chg (Chg.alloc (Chg.refl [] w14) _)) hc; clear HFN; have HFN := Lib.hid h; clear h
 have h := bk hc (q0b HBA0.out _) (by simp); clear HBA0 cA0 lA0; obtain ⟨cA0, lA0, HBA0⟩ := h
 have h := bk hc (q0b HBBQ.out _) (by simp); clear HBBQ cBQ lBQ; obtain ⟨cBQ, lBQ, HBBQ⟩ := h
 have h := bk hc (q0b HBC0.out _) (by simp); clear HBC0 cC0 lC0; obtain ⟨cC0, lC0, HBC0⟩ := h
 have h := bk hc (q0b HBBP.out _) (by simp); clear HBBP cBP lBP; obtain ⟨cBP, lBP, HBBP⟩ := h
 obtain ⟨cBN, lBN, HBBN⟩ := bk hc (b := w14.heap.size) (q0d (by simp) _) (by simp)
 have h := Chg.trans0 (Chg.alloc HC.out _) hc; clear HC; have HC := Lib.hid h; clear h
 clear hc
 go_wp2_with (first | (refine q0n rfl _ 28 rfl rfl infoLW Tryz.underlying28 HBA0.out rfl ?_) | (refine q0n rfl _ 58 rfl rfl infoWRl Tryz.underlying58 HBBQ.out rfl ?_) | (refine q0n rfl _ 34 rfl rfl q2c Tryz.underlying34 HBC0.out rfl ?_) | (refine q0n rfl _ 58 rfl rfl infoWRl Tryz.underlying58 HBBP.out rfl ?_) | (refine q0n rfl _ 58 rfl rfl infoWRl Tryz.underlying58 HBBN.out rfl ?_) | (refine q0s rfl _ _ 58 rfl rfl rfl (by simp) infoWRl rfl rfl rfl ?_) | (refine q0s rfl _ _ 28 rfl rfl rfl (by simp) infoLW rfl rfl rfl ?_) | (refine q0s rfl _ _ 34 rfl rfl rfl (by simp) q2c rfl rfl rfl ?_))
 refine (z0j r #[.int .i64 r.code, .slice ar5 lr5 cr5] p5 1 _ HP.out (by omega) (by rw [← HK.out]; omega)).mono ?_
 rintro e w16 ⟨rfl, hc⟩
 rw [← HK.out]
 replace HQ := hre HQ hc
 replace HP := hre HP hc
 replace HT0 := hre HT0 hc
 replace HN := hre HN hc
 have h := q0r.chg HFQ.out hc; clear HFQ; have HFQ := Lib.hid h; clear h
 have h := q0r.chg HFP.out hc; clear HFP; have HFP := Lib.hid h; clear h
 have h := q0r.chg HFT0.out hc; clear HFT0; have HFT0 := Lib.hid h; clear h
 have h := q0r.chg HFN.out hc; clear HFN; have HFN := Lib.hid h; clear h
 have h := bk0 hc HBA0.out; clear HBA0 cA0 lA0; obtain ⟨cA0, lA0, HBA0⟩ := h
 have h := bk0 hc HBBQ.out; clear HBBQ cBQ lBQ; obtain ⟨cBQ, lBQ, HBBQ⟩ := h
 have h := bk0 hc HBC0.out; clear HBC0 cC0 lC0; obtain ⟨cC0, lC0, HBC0⟩ := h
 have h := bk0 hc HBBP.out; clear HBBP cBP lBP; obtain ⟨cBP, lBP, HBBP⟩ := h
 have h := bk0 hc HBBN.out; clear HBBN cBN lBN; obtain ⟨cBN, lBN, HBBN⟩ := h
 replace HC := hct HC hc
 clear hc
 go_wp2_with fail
 go_ret
 exact ⟨rfl, HC.out⟩

/-! ### FnExactFreeRows -/
namespace fnExactFreeRows
theorem own : ownKnob Tryz.prog.godebug = none := by kernel_rfl
theorem laidOut : laidOutB Tryz.prog = true := by kernel_rfl
set_option linter.unusedVariables false in
set_option maxRecDepth 100000 in
theorem lifted (os : Os) (started : os.Started) (H : Type) (enc : TypeId × Value → H) :
  ReturnsInHanded {} Tryz.checked os 10 .any (Rows.fnExactFreeRowsSpec.pre6 enc Tryz.prog Tryz.f10 Rows.fnExactFreeRowsRow.domain false) (Rows.fnExactFreeRowsSpec.post enc Tryz.prog Tryz.f10 false true false false) := by
 refine returnsInHanded_of_change (C := Tryz.checked) own started (by kernel_rfl) Tryz.func10
  (ChangeSpec.witness6 (enc := enc) (C := Tryz.checked) false ⟨#[], #[.agg #[.int .i64 0, .int .i64 0, .int .i64 0, .int .i64 0, .int .i64 0, .int .i64 0, .int .i64 0, .int .i64 0, .int .i64 0, .slice none 0 0, .slice none 0 0, .slice none 0 0, .int .i64 0, .int .i64 0, .bool false], .int .i64 0], []⟩ 8 (by kernel_rfl) (by kernel_rfl) (by kernel_rfl) (by kernel_rfl)) ?_
 intro W base args ds gs before hval0 hW hcnd _
 have hval : ∀ (j : Nat) t v, Tryz.f10.params[j]? = some t → args[j]? = some v → Value.okWide Tryz.prog W .any base t v := hval0
 have hW' := hW
 obtain ⟨p, q, hA0, hV, rfl, hfz, hnd⟩ := hW
 have hA : DataW.TrodAll enc Tryz.prog W 0 (fun _ => true) true Tryz.f10.params.toList args.toList ds p := hA0
 rw [Tryz.params10] at hA hval
 obtain ⟨v0, vs0, d0, ds0, p0, q0, hargs, rfl, rfl, h0, r0⟩ := trodAll_cons hA
 obtain ⟨v1, vs1, d1, ds1, p1, q1, rfl, rfl, rfl, h1, r1⟩ := trodAll_cons r0
 obtain ⟨rfl, rfl, rfl⟩ := trodAll_nil r1
 obtain rfl : args = #[v0, v1] := by cases args; simp_all
 obtain ⟨rfl, rfl⟩ := trodVars_none hV
 have k0 := h0
 have lt0 : ∀ x ∈ p0, x.block < W.heap.size := by obtain ⟨m, hm⟩ := k0; exact DataW.trod_lt m _ _ _ hm
 obtain ⟨cs0, rfl, _⟩ := okWide_struct Tryz.underlying28 (hval 0 28 v0 rfl rfl)
 obtain ⟨x0, fp0, o0⟩ := op_wld.trod h0
 have k1 := h1
 have lt1 : ∀ x ∈ p1, x.block < W.heap.size := by obtain ⟨m, hm⟩ := k1; exact DataW.trod_lt m _ _ _ hm
 obtain ⟨x1, rfl, _, _, w1⟩ := open_int Tryz.underlying2 (hval 1 2 v1 rfl rfl) h1
 clear hA0 hval0
 simp only [List.append_nil] at hW'
 refine (walk_FnExactFreeRows W cs0 x0 fp0 o0 x1 (i64_of_wf w1)).mono fun e W' ⟨he, hc⟩ => ?_
 subst he
 have bel := hc.below0
 exact ⟨_, rfl, _, _, _, [], _, [], hW', trodAll_mk1 (shut_bool Tryz.underlying4 _), (trodAll_cons_mk (Below.trod laidOut (by kernel_rfl) (of_decide_eq_true (by kernel_rfl)) k0 bel lt0) (trodAll_cons_mk (Below.trod laidOut (by kernel_rfl) (of_decide_eq_true (by kernel_rfl)) k1 bel lt1) trodAll_mk0)), rfl, bel.frame _, fun h => by cases h⟩

theorem andI {a b : Bool} (ha : a = true) (hb : b = true) : (a && b) = true := by rw [ha, hb]; rfl
set_option maxHeartbeats 8000000 in
theorem closed : joinedFacts Tryz.prog 10 Tryz.f10 Rows.fnExactFreeRowsSpec Rows.fnExactFreeRowsRow = true := by
 unfold joinedFacts
 refine andI (andI (andI (andI (andI (andI (andI (andI (andI (andI (andI (andI (andI (andI (andI (andI (andI (andI (andI (andI (andI (andI (andI (andI (andI (andI (andI (andI (andI (andI (andI ?_ ?_) ?_) ?_) ?_) ?_) ?_) ?_) ?_) ?_) ?_) ?_) ?_) ?_) ?_) ?_) ?_) ?_) ?_) ?_) ?_) ?_) ?_) ?_) ?_) ?_) ?_) ?_) ?_) ?_) ?_) ?_
 all_goals as_aux_lemma => kernel_rfl

theorem over : Rows.fnExactFreeRowsRow.holds Tryz.pinned (OpenSpec.ofChange Rows.fnExactFreeRowsSpec) :=
 OpenClaim.holds_of_wide 10 Tryz.f10 rfl rfl rfl rfl rfl rfl rfl ⟨rfl, rfl, rfl, rfl, rfl⟩ rfl rfl rfl rfl rfl (by kernel_rfl) Tryz.func10 closed
  (of_decide_eq_true (by kernel_rfl)) (by unfold Func.isWrapper; first | (rw [if_pos (by decide +kernel)]; kernel_rfl) | (rw [if_neg (by decide +kernel)]; exact ⟨rfl, rfl⟩))
  (fun os started H enc _ => lifted os started H enc)
end fnExactFreeRows
theorem FnExactFreeRows_holds : Rows.FnExactFreeRowsSaid := fnExactFreeRows.over
#print axioms FnExactFreeRows_holds
end Go.Proofs.YtphmpimgbmedbaaGreat
