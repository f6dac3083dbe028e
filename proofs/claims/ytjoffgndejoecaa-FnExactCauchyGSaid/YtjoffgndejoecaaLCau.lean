/- The program's CauchyG returns what the reference returns, leaves its arguments and shares no memory, for all arguments: the law FnExactCauchyG returns true.
Conditions: none. -/
import Derived.Test.YtjoffgndejoecaaRows
import Derived.Test.YtjoffgndejoecaaAt
import Derived.Test.YtjoffgndejoecaaCau
import Derived.Test.YtjoffgndejoecaaHelp
import Derived.ShutString
import Derived.ChangeOld
namespace Go.Proofs.Ytjoffgndejoecaa
open Go.ChangeShapes Go.WideShapes Go.ChangeAt Go.RowKit

set_option maxRecDepth 100000 in
set_option maxHeartbeats 4000000 in
theorem walk_FnExactCauchyG (W : World) (x0 : Int) (o0 : i64ok x0) (x1 : Int) (o1 : i64ok x1) :
    Calls Try.prog 11 #[.int .i64 x0, .int .i64 x1] W fun e w' => e = .returned (.bool true) ∧ Chg [] W w' := by
  have HC : RowKit.Hid (Chg [] W W) := Chg.refl _ _
  obtain ⟨r, hr⟩ : ∃ r, r = cauRes x0 x1 := ⟨_, rfl⟩
  have HS : RowKit.Hid (∀  (w : World), Calls Try.prog 42 #[.int .i64 x0, .int .i64 x1] w (NewRes byteL r w)) := by rw [hr]; exact fun w => (fun a _ b _ w => spec_cauchyG a b w) x0 o0 x1 o1 w
  have HI : RowKit.Hid (∀  (w : World), Calls Try.prog 43 #[.int .i64 x0, .int .i64 x1] w (NewRes byteL r w)) := by rw [hr]; exact fun w => (fun a _ b _ w => impl_cauchyG a b w) x0 o0 x1 o1 w
  have hle : r.2.length ≤ 4611686018427387000 := by rw [hr]; exact Nat.le_trans (cauRes_len x0 x1) (by omega)
  clear hr
  obtain ⟨n, R⟩ := r
  obtain ⟨LR, hLR⟩ : ∃ LR, R.length = LR := ⟨_, rfl⟩
  have HLE : RowKit.Hid ((LR : Int) ≤ 4611686018427387000) := by show (LR : Int) ≤ _; rw [← hLR]; exact Int.ofNat_le.2 hle
  clear hle
  have HLR := Lib.hid hLR; clear hLR
  go_enter Try.func11, Try.ntmps11
  go_wp2_with fail
  refine (HS.out  _ ).mono ?_
  rintro e w1 ⟨b1, d1, p1, rfl, hs, hf, hc⟩
  simp only [] at hs ⊢; rw [HLR.out] at hs ⊢
  have hG := fun (x : Nat) (hx : x ∈ p1) => Nat.le_trans HC.out.size (hf.2 x hx).1
  have HGQ := Lib.hid hG; clear hG
  have h := HC.out.trans0 hc; clear HC; have HC := Lib.hid h; clear h
  have HQ := Lib.hid hs; have HFQ := Lib.hid (hf.mono (Nat.zero_le _)); clear hs hf
  clear hc
  go_wp2_with fail
  refine (HI.out  _ ).mono ?_
  rintro e w2 ⟨b2, d2, p2, rfl, hs, hf, hc⟩
  simp only [] at hs ⊢; rw [HLR.out] at hs ⊢
  have hG := fun (x : Nat) (hx : x ∈ p2) => Nat.le_trans HC.out.size (Nat.le_trans (show w1.heap.size ≤ (w1.alloc (.cells #[.int .i64 n, .slice b1 LR d1] 45)).heap.size by simp) (hf.2 x hx).1)
  have HGP := Lib.hid hG; clear hG
  have hD := fun (b : Nat) (hb : b ∈ p1) (hb' : b ∈ p2) => Nat.lt_irrefl _ (Nat.lt_of_lt_of_le (Lay.sl_lt _ (Lay.sl_ext byteL HQ.out ((Chg.refl [] w1).alloc (.cells #[.int .i64 n, .slice b1 LR d1] 45))) b hb) (hf.2 b hb').1)
  have DQ_P := Lib.hid hD; have DP_Q := Lib.hid (fun (b : Nat) (hb : b ∈ p2) (hb' : b ∈ p1) => hD b hb' hb); clear hD
  have DBBQ_P := Lib.hid (fun hb => Nat.lt_irrefl _ (Nat.lt_of_lt_of_le (ltOf (new_alloc w1 (.cells #[.int .i64 n, .slice b1 LR d1] 45))) (hf.2 _ hb).1) : w1.heap.size ∉ p2)
  have DBBQ_Q := Lib.hid (fun hb => Nat.lt_irrefl _ (Lay.sl_lt _ HQ.out _ hb) : w1.heap.size ∉ p1)
  have h := Lay.sl_ext byteL (Lay.sl_ext byteL HQ.out ((Chg.refl [] w1).alloc (.cells #[.int .i64 n, .slice b1 LR d1] 45))) hc; clear HQ; have HQ := Lib.hid h; clear h
  have h := Fresh.chg (HFQ.out.chg ((Chg.refl [] w1).alloc (.cells #[.int .i64 n, .slice b1 LR d1] 45))) hc; clear HFQ; have HFQ := Lib.hid h; clear h
  have h := hc.keepb (new_alloc w1 (.cells #[.int .i64 n, .slice b1 LR d1] 45)) (by simp); have cBQ := cellsOf h; have lBQ := ltOf h; have HBBQ := Lib.hid h; clear h
  have h := (HC.out.alloc (.cells #[.int .i64 n, .slice b1 LR d1] 45)).trans0 hc; clear HC; have HC := Lib.hid h; clear h
  have HP := Lib.hid hs; have HFP := Lib.hid (hf.mono (Nat.zero_le _)); clear hs hf
  clear hc
  go_wp2_with fail
  refine (eqBytesResult_any n b2 b1 LR d2 d1 R p2 p1 _ (Lay.sl_ext byteL HP.out ((Chg.refl [] w2).alloc (.cells #[.int .i64 n, .slice b2 LR d2] 45))) (Lay.sl_ext byteL HQ.out ((Chg.refl [] w2).alloc (.cells #[.int .i64 n, .slice b2 LR d2] 45)))).mono ?_
  rintro e w3 ⟨rfl, hc⟩
  have DBBP_Q := Lib.hid (fun hb => Nat.lt_irrefl _ (Lay.sl_lt _ HQ.out _ hb) : w2.heap.size ∉ p1)
  have DBBP_P := Lib.hid (fun hb => Nat.lt_irrefl _ (Lay.sl_lt _ HP.out _ hb) : w2.heap.size ∉ p2)
  have h := Lay.sl_ext byteL (Lay.sl_ext byteL HQ.out ((Chg.refl [] w2).alloc (.cells #[.int .i64 n, .slice b2 LR d2] 45))) hc; clear HQ; have HQ := Lib.hid h; clear h
  have h := Lay.sl_ext byteL (Lay.sl_ext byteL HP.out ((Chg.refl [] w2).alloc (.cells #[.int .i64 n, .slice b2 LR d2] 45))) hc; clear HP; have HP := Lib.hid h; clear h
  have h := Fresh.chg (HFQ.out.chg ((Chg.refl [] w2).alloc (.cells #[.int .i64 n, .slice b2 LR d2] 45))) hc; clear HFQ; have HFQ := Lib.hid h; clear h
  have h := Fresh.chg (HFP.out.chg ((Chg.refl [] w2).alloc (.cells #[.int .i64 n, .slice b2 LR d2] 45))) hc; clear HFP; have HFP := Lib.hid h; clear h
  have h := hc.keepb (keep_alloc HBBQ.out _) (by simp); clear HBBQ cBQ lBQ; have cBQ := cellsOf h; have lBQ := ltOf h; have HBBQ := Lib.hid h; clear h
  have h := hc.keepb (new_alloc w2 (.cells #[.int .i64 n, .slice b2 LR d2] 45)) (by simp); have cBP := cellsOf h; have lBP := ltOf h; have HBBP := Lib.hid h; clear h
  have h := (HC.out.alloc (.cells #[.int .i64 n, .slice b2 LR d2] 45)).trans0 hc; clear HC; have HC := Lib.hid h; clear h
  clear hc
  have hLR2 : (LR : Int) ≤ 4611686018427387000 := HLE.out
  go_wp2_with fail
  refine (markBytesResult_any n b2 LR d2 R p2 1 _ HP.out HFP.out (by omega) (by omega)).mono ?_
  rintro e w4 ⟨rfl, hs, hc⟩
  have h := Lay.sl_chg byteL HQ.out hc DQ_P.out; clear HQ; have HQ := Lib.hid h; clear h
  have h := Fresh.chg HFQ.out hc; clear HFQ; have HFQ := Lib.hid h; clear h
  have h := Fresh.chg HFP.out hc; clear HFP; have HFP := Lib.hid h; clear h
  have h := hc.keepb HBBQ.out DBBQ_P.out; clear HBBQ cBQ lBQ; have cBQ := cellsOf h; have lBQ := ltOf h; have HBBQ := Lib.hid h; clear h
  have h := hc.keepb HBBP.out DBBP_P.out; clear HBBP cBP lBP; have cBP := cellsOf h; have lBP := ltOf h; have HBBP := Lib.hid h; clear h
  have h := HC.out.trans hc (fun x hx => .inr (HGP.out x hx)); clear HC; have HC := Lib.hid h; clear h
  clear HP; have HP := Lib.hid hs
  clear hs
  clear hc
  have hq : ¬ ((1 : Int) + (LR : Int) < 0) := by omega
  have hqq : (((1 : Int) + (LR : Int)) != 1 + (LR : Int)) = false := by simp
  go_wp2_with fail
  refine (heldBytesResult_any n b2 LR d2 p2 1 _ HP.out (by omega) (by omega)).mono ?_
  rintro e w5 ⟨rfl, hc⟩
  have h := Lay.sl_ext byteL HQ.out hc; clear HQ; have HQ := Lib.hid h; clear h
  have h := Lay.sl_ext byteL HP.out hc; clear HP; have HP := Lib.hid h; clear h
  have h := Fresh.chg HFQ.out hc; clear HFQ; have HFQ := Lib.hid h; clear h
  have h := Fresh.chg HFP.out hc; clear HFP; have HFP := Lib.hid h; clear h
  have h := hc.keepb HBBQ.out (by simp); clear HBBQ cBQ lBQ; have cBQ := cellsOf h; have lBQ := ltOf h; have HBBQ := Lib.hid h; clear h
  have h := hc.keepb HBBP.out (by simp); clear HBBP cBP lBP; have cBP := cellsOf h; have lBP := ltOf h; have HBBP := Lib.hid h; clear h
  have h := HC.out.trans0 hc; clear HC; have HC := Lib.hid h; clear h
  clear hc
  go_wp2_with fail
  refine (HI.out  _ ).mono ?_
  rintro e w6 ⟨b3, d3, p3, rfl, hs, hf, hc⟩
  simp only [] at hs ⊢; rw [HLR.out] at hs ⊢
  have hG := fun (x : Nat) (hx : x ∈ p3) => Nat.le_trans HC.out.size (hf.2 x hx).1
  have HGN := Lib.hid hG; clear hG
  have hD := fun (b : Nat) (hb : b ∈ p1) (hb' : b ∈ p3) => Nat.lt_irrefl _ (Nat.lt_of_lt_of_le (Lay.sl_lt _ HQ.out b hb) (hf.2 b hb').1)
  have DQ_N := Lib.hid hD; have DN_Q := Lib.hid (fun (b : Nat) (hb : b ∈ p3) (hb' : b ∈ p1) => hD b hb' hb); clear hD
  have hD := fun (b : Nat) (hb : b ∈ p2) (hb' : b ∈ p3) => Nat.lt_irrefl _ (Nat.lt_of_lt_of_le (Lay.sl_lt _ HP.out b hb) (hf.2 b hb').1)
  have DP_N := Lib.hid hD; have DN_P := Lib.hid (fun (b : Nat) (hb : b ∈ p3) (hb' : b ∈ p2) => hD b hb' hb); clear hD
  have DBBQ_N := Lib.hid (fun hb => Nat.lt_irrefl _ (Nat.lt_of_lt_of_le (ltOf HBBQ.out) (hf.2 _ hb).1) : w1.heap.size ∉ p3)
  have DBBP_N := Lib.hid (fun hb => Nat.lt_irrefl _ (Nat.lt_of_lt_of_le (ltOf HBBP.out) (hf.2 _ hb).1) : w2.heap.size ∉ p3)
  have h := Lay.sl_ext byteL HQ.out hc; clear HQ; have HQ := Lib.hid h; clear h
  have h := Lay.sl_ext byteL HP.out hc; clear HP; have HP := Lib.hid h; clear h
  have h := Fresh.chg HFQ.out hc; clear HFQ; have HFQ := Lib.hid h; clear h
  have h := Fresh.chg HFP.out hc; clear HFP; have HFP := Lib.hid h; clear h
  have h := hc.keepb HBBQ.out (by simp); clear HBBQ cBQ lBQ; have cBQ := cellsOf h; have lBQ := ltOf h; have HBBQ := Lib.hid h; clear h
  have h := hc.keepb HBBP.out (by simp); clear HBBP cBP lBP; have cBP := cellsOf h; have lBP := ltOf h; have HBBP := Lib.hid h; clear h
  have h := HC.out.trans0 hc; clear HC; have HC := Lib.hid h; clear h
  have HN := Lib.hid hs; have HFN := Lib.hid (hf.mono (Nat.zero_le _)); clear hs hf
  clear hc
  go_wp2_with fail
  refine (eqBytesResult_any n b3 b1 LR d3 d1 R p3 p1 _ (Lay.sl_ext byteL HN.out ((Chg.refl [] w6).alloc (.cells #[.int .i64 n, .slice b3 LR d3] 45))) (Lay.sl_ext byteL HQ.out ((Chg.refl [] w6).alloc (.cells #[.int .i64 n, .slice b3 LR d3] 45)))).mono ?_
  rintro e w7 ⟨rfl, hc⟩
  have DBBN_Q := Lib.hid (fun hb => Nat.lt_irrefl _ (Lay.sl_lt _ HQ.out _ hb) : w6.heap.size ∉ p1)
  have DBBN_P := Lib.hid (fun hb => Nat.lt_irrefl _ (Lay.sl_lt _ HP.out _ hb) : w6.heap.size ∉ p2)
  have DBBN_N := Lib.hid (fun hb => Nat.lt_irrefl _ (Lay.sl_lt _ HN.out _ hb) : w6.heap.size ∉ p3)
  have h := Lay.sl_ext byteL (Lay.sl_ext byteL HQ.out ((Chg.refl [] w6).alloc (.cells #[.int .i64 n, .slice b3 LR d3] 45))) hc; clear HQ; have HQ := Lib.hid h; clear h
  have h := Lay.sl_ext byteL (Lay.sl_ext byteL HP.out ((Chg.refl [] w6).alloc (.cells #[.int .i64 n, .slice b3 LR d3] 45))) hc; clear HP; have HP := Lib.hid h; clear h
  have h := Lay.sl_ext byteL (Lay.sl_ext byteL HN.out ((Chg.refl [] w6).alloc (.cells #[.int .i64 n, .slice b3 LR d3] 45))) hc; clear HN; have HN := Lib.hid h; clear h
  have h := Fresh.chg (HFQ.out.chg ((Chg.refl [] w6).alloc (.cells #[.int .i64 n, .slice b3 LR d3] 45))) hc; clear HFQ; have HFQ := Lib.hid h; clear h
  have h := Fresh.chg (HFP.out.chg ((Chg.refl [] w6).alloc (.cells #[.int .i64 n, .slice b3 LR d3] 45))) hc; clear HFP; have HFP := Lib.hid h; clear h
  have h := Fresh.chg (HFN.out.chg ((Chg.refl [] w6).alloc (.cells #[.int .i64 n, .slice b3 LR d3] 45))) hc; clear HFN; have HFN := Lib.hid h; clear h
  have h := hc.keepb (keep_alloc HBBQ.out _) (by simp); clear HBBQ cBQ lBQ; have cBQ := cellsOf h; have lBQ := ltOf h; have HBBQ := Lib.hid h; clear h
  have h := hc.keepb (keep_alloc HBBP.out _) (by simp); clear HBBP cBP lBP; have cBP := cellsOf h; have lBP := ltOf h; have HBBP := Lib.hid h; clear h
  have h := hc.keepb (new_alloc w6 (.cells #[.int .i64 n, .slice b3 LR d3] 45)) (by simp); have cBN := cellsOf h; have lBN := ltOf h; have HBBN := Lib.hid h; clear h
  have h := (HC.out.alloc (.cells #[.int .i64 n, .slice b3 LR d3] 45)).trans0 hc; clear HC; have HC := Lib.hid h; clear h
  clear hc
  go_wp2_with fail
  refine (heldBytesResult_any n b2 LR d2 p2 1 _ HP.out (by omega) (by omega)).mono ?_
  rintro e w8 ⟨rfl, hc⟩
  have h := Lay.sl_ext byteL HQ.out hc; clear HQ; have HQ := Lib.hid h; clear h
  have h := Lay.sl_ext byteL HP.out hc; clear HP; have HP := Lib.hid h; clear h
  have h := Lay.sl_ext byteL HN.out hc; clear HN; have HN := Lib.hid h; clear h
  have h := Fresh.chg HFQ.out hc; clear HFQ; have HFQ := Lib.hid h; clear h
  have h := Fresh.chg HFP.out hc; clear HFP; have HFP := Lib.hid h; clear h
  have h := Fresh.chg HFN.out hc; clear HFN; have HFN := Lib.hid h; clear h
  have h := hc.keepb HBBQ.out (by simp); clear HBBQ cBQ lBQ; have cBQ := cellsOf h; have lBQ := ltOf h; have HBBQ := Lib.hid h; clear h
  have h := hc.keepb HBBP.out (by simp); clear HBBP cBP lBP; have cBP := cellsOf h; have lBP := ltOf h; have HBBP := Lib.hid h; clear h
  have h := hc.keepb HBBN.out (by simp); clear HBBN cBN lBN; have cBN := cellsOf h; have lBN := ltOf h; have HBBN := Lib.hid h; clear h
  have h := HC.out.trans0 hc; clear HC; have HC := Lib.hid h; clear h
  clear hc
  go_wp2_with fail
  go_ret
  exact ⟨rfl, HC.out⟩

/-! ### FnExactCauchyG -/
namespace fnExactCauchyG
theorem own : ownKnob Try.prog.godebug = none := by kernel_rfl
theorem laidOut : laidOutB Try.prog = true := by kernel_rfl
set_option linter.unusedVariables false in
set_option maxRecDepth 100000 in
theorem lifted (os : Os) (started : os.Started) (H : Type) (enc : TypeId × Value → H) :
    ReturnsInHanded {} Try.checked os 11 .any (Rows.fnExactCauchyGSpec.pre6 enc Try.prog Try.f11 Rows.fnExactCauchyGRow.domain false) (Rows.fnExactCauchyGSpec.post enc Try.prog Try.f11 false true false false) := by
  refine returnsInHanded_of_change (C := Try.checked) own started (by kernel_rfl) Try.func11
    (ChangeSpec.witness6 (enc := enc) (C := Try.checked) false ⟨#[], #[.int .i64 0, .int .i64 0], []⟩ 8 (by kernel_rfl) (by kernel_rfl) (by kernel_rfl) (by kernel_rfl)) ?_
  intro W base args ds gs before hval0 hW hcnd _
  have hval : ∀ (j : Nat) t v, Try.f11.params[j]? = some t → args[j]? = some v → Value.okWide Try.prog W .any base t v := hval0
  have hW' := hW
  obtain ⟨p, q, hA0, hV, rfl, hfz, hnd⟩ := hW
  have hA : DataW.TrodAll enc Try.prog W 0 (fun _ => true) true Try.f11.params.toList args.toList ds p := hA0
  rw [Try.params11] at hA hval
  obtain ⟨v0, vs0, d0, ds0, p0, q0, hargs, rfl, rfl, h0, r0⟩ := trodAll_cons hA
  obtain ⟨v1, vs1, d1, ds1, p1, q1, rfl, rfl, rfl, h1, r1⟩ := trodAll_cons r0
  obtain ⟨rfl, rfl, rfl⟩ := trodAll_nil r1
  obtain rfl : args = #[v0, v1] := by cases args; simp_all
  obtain ⟨rfl, rfl⟩ := trodVars_none hV
  have k0 := h0
  have lt0 : ∀ x ∈ p0, x.block < W.heap.size := by obtain ⟨m, hm⟩ := k0; exact DataW.trod_lt m _ _ _ hm
  obtain ⟨x0, rfl, _, _, w0⟩ := open_int Try.underlying2 (hval 0 2 v0 rfl rfl) h0
  have k1 := h1
  have lt1 : ∀ x ∈ p1, x.block < W.heap.size := by obtain ⟨m, hm⟩ := k1; exact DataW.trod_lt m _ _ _ hm
  obtain ⟨x1, rfl, _, _, w1⟩ := open_int Try.underlying2 (hval 1 2 v1 rfl rfl) h1
  clear hA0 hval0
  simp only [List.append_nil] at hW'
  refine (walk_FnExactCauchyG W x0 (i64_of_wf w0) x1 (i64_of_wf w1)).mono fun e W' ⟨he, hc⟩ => ?_
  subst he
  have bel := hc.below0
  exact ⟨_, rfl, _, _, _, [], _, [], hW', trodAll_mk1 (shut_bool Try.underlying4 _), (trodAll_cons_mk (Below.trod laidOut (by kernel_rfl) (of_decide_eq_true (by kernel_rfl)) k0 bel lt0) (trodAll_cons_mk (Below.trod laidOut (by kernel_rfl) (of_decide_eq_true (by kernel_rfl)) k1 bel lt1) trodAll_mk0)), rfl, bel.frame _, fun h => by cases h⟩

theorem over : Rows.fnExactCauchyGRow.holds Try.pinned (OpenSpec.ofChange Rows.fnExactCauchyGSpec) :=
  OpenClaim.holds_of_wide 11 Try.f11 rfl rfl rfl rfl rfl rfl rfl ⟨rfl, rfl, rfl, rfl, rfl⟩ rfl rfl rfl rfl rfl (by kernel_rfl) Try.func11 (by kernel_rfl)
    (of_decide_eq_true (by kernel_rfl)) (by unfold Func.isWrapper; first | (rw [if_pos (by decide +kernel)]; kernel_rfl) | (rw [if_neg (by decide +kernel)]; exact ⟨rfl, rfl⟩))
    (fun os started H enc _ => lifted os started H enc)
end fnExactCauchyG
theorem FnExactCauchyG_holds : Rows.FnExactCauchyGSaid := fnExactCauchyG.over
#print axioms FnExactCauchyG_holds
end Go.Proofs.Ytjoffgndejoecaa
