import Derived.Test.YtphmpimgbmedbaaGreatRows
import Derived.Test.YtphmpimgbmedbaaGreatYaa
import Derived.Test.YtphmpimgbmedbaaGreatYax
import Derived.ShutString
import Derived.ChangeOld
/- The program's WaitingBytes returns what the reference returns, leaves its arguments and shares no memory, for all arguments: the law FnExactWaitingBytes returns true.
Conditions: none. -/
namespace Go.Proofs.YtphmpimgbmedbaaGreat
open Go.ChangeShapes Go.WideShapes Go.ChangeAt Go.RowKit

theorem infoLW : (Tryz.prog.info? 28).map (fun i => i.size) = some 15 := by kernel_rfl
set_option maxRecDepth 100000 in
set_option maxHeartbeats 4000000 in
theorem walk_FnExactWaitingBytes (W : World) (cs0 : Array Value) (x0 : Wld) (fp0 : List Nat) (o0 : wldL.rep W cs0.toList x0 fp0) :
  Calls Tryz.prog 9 #[.agg cs0] W fun e w' => e = .returned (.bool true) ∧ Chg [] W w' := by
 have HC : RowKit.Hid (Chg [] W W) := Chg.refl _ _
 obtain ⟨a10o, l10o, c10o, _, a11o, l11o, c11o, _, a12o, l12o, c12o, _, ex, -⟩ := wldL_iff.1 o0
 obtain rfl := Array.toList_inj.1 (ex.trans (List.toList_toArray).symm); clear ex
 have HO0 := Lib.hid o0; clear o0
 obtain ⟨t0, ht0⟩ : ∃ t, t = totWld x0 := ⟨_, rfl⟩
 have n0 : 0 ≤ t0 := by rw [ht0]; exact totWld_nonneg _
 have HT0 := Lib.hid ht0; clear ht0
 obtain ⟨r, hr⟩ : ∃ r, r = waiR x0 := ⟨_, rfl⟩
 have HR := Lib.hid hr; clear hr
 go_enter Tryz.func9, Tryz.ntmps9
 go_wp2_with (first | (refine load_wide (b := W.heap.size) rfl _ 28 rfl rfl infoLW Tryz.underlying28 (new_at (by simp) _) rfl ?_) | (refine store_new rfl _ _ 28 rfl rfl rfl (by simp) infoLW rfl rfl rfl ?_) | (refine store_new rfl _ _ 34 rfl rfl rfl (by simp) infoWd rfl rfl rfl ?_) | (refine store_new rfl _ _ 54 rfl rfl rfl (by simp) infoIR rfl rfl rfl ?_))
 refine (szWorld_any x0 #[.int .i64 x0.shape.groups, .int .i64 x0.shape.column, .int .i64 x0.shape.data, .int .i64 x0.shape.spare, .int .i64 x0.shape.rows, .int .i64 x0.shape.cap, .int .i64 x0.shape.batch, .int .i64 x0.shape.queue, .int .i64 x0.shape.stage, .slice a10o l10o c10o, .slice a11o l11o c11o, .slice a12o l12o c12o, .int .i64 x0.writes, .int .i64 x0.stop, .bool x0.down] fp0 (1048576) _ (Lay.ext wldL HO0.out (Chg.alloc HC.out _)) (by omega) (by omega)).mono ?_
 rintro e w1 ⟨rfl, hc⟩
 rw [← HT0.out]
 obtain ⟨cA, lA, HBA⟩ := bk hc (b := W.heap.size) (new_at (by simp) _) (by simp)
 have h := Chg.trans0 (Chg.alloc HC.out _) hc; clear HC; have HC := Lib.hid h; clear h
 clear hc
 by_cases m0 : 1048576 - t0 < 0
 ·rw [if_pos m0]
  go_wp2_with fail
  go_ret
  exact ⟨rfl, HC.out⟩
 rw [if_neg m0]
 have HZ0 := Lib.hid (show totWld x0 ≤ 1048576 by rw [← HT0.out]; omega)
 go_wp2_with (first | (refine load_wide rfl _ 28 rfl rfl infoLW Tryz.underlying28 HBA.out rfl ?_) | (refine store_new rfl _ _ 28 rfl rfl rfl (by simp) infoLW rfl rfl rfl ?_) | (refine store_new rfl _ _ 34 rfl rfl rfl (by simp) infoWd rfl rfl rfl ?_) | (refine store_new rfl _ _ 54 rfl rfl rfl (by simp) infoIR rfl rfl rfl ?_))
 refine (toWorld_any x0 #[.int .i64 x0.shape.groups, .int .i64 x0.shape.column, .int .i64 x0.shape.data, .int .i64 x0.shape.spare, .int .i64 x0.shape.rows, .int .i64 x0.shape.cap, .int .i64 x0.shape.batch, .int .i64 x0.shape.queue, .int .i64 x0.shape.stage, .slice a10o l10o c10o, .slice a11o l11o c11o, .slice a12o l12o c12o, .int .i64 x0.writes, .int .i64 x0.stop, .bool x0.down] fp0 _ (Lay.ext wldL HO0.out HC.out) HZ0.out).mono ?_
 rintro e w2 ⟨z2, p2, rfl, hs, hf, hc⟩
 have hG := fun (x : Nat) (hx : x ∈ p2) => Nat.le_trans HC.out.size (hf.2 x hx).1
 have HGS0 := Lib.hid hG; clear hG
 have h := bk0 hc HBA.out; clear HBA cA lA; obtain ⟨cA, lA, HBA⟩ := h
 replace HC := hct HC hc
 have HS0 := Lib.hid hs; have HFS0 := Lib.hid (hf.mono (Nat.zero_le _)); clear hs hf
 clear hc
 go_wp2_with (first | (refine load_wide rfl _ 28 rfl rfl infoLW Tryz.underlying28 HBA.out rfl ?_) | (refine store_new rfl _ _ 28 rfl rfl rfl (by simp) infoLW rfl rfl rfl ?_) | (refine store_new rfl _ _ 34 rfl rfl rfl (by simp) infoWd rfl rfl rfl ?_) | (refine store_new rfl _ _ 54 rfl rfl rfl (by simp) infoIR rfl rfl rfl ?_))
 refine (spec_WaitingBytes x0 z2 p2 _ HS0.out HZ0.out).mono ?_
 rintro e w3 ⟨rfl, hc⟩
 rw [← HR.out]
 replace HS0 := hre HS0 hc
 have h := Fresh.chg HFS0.out hc; clear HFS0; have HFS0 := Lib.hid h; clear h
 have h := bk0 hc HBA.out; clear HBA cA lA; obtain ⟨cA, lA, HBA⟩ := h
 replace HC := hct HC hc
 clear hc
 go_wp2_with (first | (refine load_wide rfl _ 28 rfl rfl infoLW Tryz.underlying28 (keep_alloc HBA.out _) rfl ?_) | (refine load_wide (b := w3.heap.size) rfl _ 54 rfl rfl infoIR Tryz.underlying54 (new_at (by simp) _) rfl ?_) | (refine store_new rfl _ _ 28 rfl rfl rfl (by simp) infoLW rfl rfl rfl ?_) | (refine store_new rfl _ _ 34 rfl rfl rfl (by simp) infoWd rfl rfl rfl ?_) | (refine store_new rfl _ _ 54 rfl rfl rfl (by simp) infoIR rfl rfl rfl ?_))
 refine (toWorld_any x0 #[.int .i64 x0.shape.groups, .int .i64 x0.shape.column, .int .i64 x0.shape.data, .int .i64 x0.shape.spare, .int .i64 x0.shape.rows, .int .i64 x0.shape.cap, .int .i64 x0.shape.batch, .int .i64 x0.shape.queue, .int .i64 x0.shape.stage, .slice a10o l10o c10o, .slice a11o l11o c11o, .slice a12o l12o c12o, .int .i64 x0.writes, .int .i64 x0.stop, .bool x0.down] fp0 _ (Lay.ext wldL HO0.out (Chg.alloc HC.out _)) HZ0.out).mono ?_
 rintro e w4 ⟨z4, p4, rfl, hs, hf, hc⟩
 obtain ⟨a10q4, l10q4, c10q4, _, a11q4, l11q4, c11q4, _, a12q4, l12q4, c12q4, _, ex, -⟩ := wldL_iff.1 hs
 obtain rfl := Array.toList_inj.1 (ex.trans (List.toList_toArray).symm); clear ex
 have hG := fun (x : Nat) (hx : x ∈ p4) => Nat.le_trans HC.out.size (Nat.le_trans (show w3.heap.size ≤ (w3.alloc (.cells #[.int .i64 r.1, .int .i64 r.2] 54)).heap.size by simp) (hf.2 x hx).1)
 have HGX0 := Lib.hid hG; clear hG
 have h := bk hc (keep_alloc HBA.out _) (by simp); clear HBA cA lA; obtain ⟨cA, lA, HBA⟩ := h
 obtain ⟨cQ, lQ, HBQ⟩ := bk hc (b := w3.heap.size) (new_at (by simp) _) (by simp)
 have h := Chg.trans0 (Chg.alloc HC.out _) hc; clear HC; have HC := Lib.hid h; clear h
 have HX0 := Lib.hid hs; have HFX0 := Lib.hid (hf.mono (Nat.zero_le _)); clear hs hf
 clear hc
 go_wp2_with (first | (refine load_wide rfl _ 28 rfl rfl infoLW Tryz.underlying28 (keep_alloc HBA.out _) rfl ?_) | (refine load_wide rfl _ 54 rfl rfl infoIR Tryz.underlying54 (keep_alloc HBQ.out _) rfl ?_) | (refine load_wide (b := w4.heap.size) rfl _ 34 rfl rfl infoWd Tryz.underlying34 (new_at (by simp) _) rfl ?_) | (refine store_new rfl _ _ 28 rfl rfl rfl (by simp) infoLW rfl rfl rfl ?_) | (refine store_new rfl _ _ 34 rfl rfl rfl (by simp) infoWd rfl rfl rfl ?_) | (refine store_new rfl _ _ 54 rfl rfl rfl (by simp) infoIR rfl rfl rfl ?_))
 refine (impl_WaitingBytes x0 #[.int .i64 x0.shape.groups, .int .i64 x0.shape.column, .int .i64 x0.shape.data, .int .i64 x0.shape.spare, .int .i64 x0.shape.rows, .int .i64 x0.shape.cap, .int .i64 x0.shape.batch, .int .i64 x0.shape.queue, .int .i64 x0.shape.stage, .slice a10q4 l10q4 c10q4, .slice a11q4 l11q4 c11q4, .slice a12q4 l12q4 c12q4, .int .i64 x0.writes, .int .i64 x0.stop, .bool x0.down] p4 _ (Lay.ext wldL HX0.out (Chg.alloc (Chg.refl [] w4) _)) HZ0.out).mono ?_
 rintro e w5 ⟨rfl, hc⟩
 rw [← HR.out]
 have h := (Lay.ext wldL (Lay.ext wldL HX0.out (Chg.alloc (Chg.refl [] w4) _)) hc); clear HX0; have HX0 := Lib.hid h; clear h
 have h := Fresh.chg (HFX0.out.chg (Chg.alloc (Chg.refl [] w4) _)) hc; clear HFX0; have HFX0 := Lib.hid h; clear h
 have h := bk hc (keep_alloc HBA.out _) (by simp); clear HBA cA lA; obtain ⟨cA, lA, HBA⟩ := h
 have h := bk hc (keep_alloc HBQ.out _) (by simp); clear HBQ cQ lQ; obtain ⟨cQ, lQ, HBQ⟩ := h
 obtain ⟨cC, lC, HBC⟩ := bk hc (b := w4.heap.size) (new_at (by simp) _) (by simp)
 have h := Chg.trans0 (Chg.alloc HC.out _) hc; clear HC; have HC := Lib.hid h; clear h
 clear hc
 go_wp2_with (first | (refine load_wide rfl _ 28 rfl rfl infoLW Tryz.underlying28 (keep_alloc HBA.out _) rfl ?_) | (refine load_wide rfl _ 54 rfl rfl infoIR Tryz.underlying54 (keep_alloc HBQ.out _) rfl ?_) | (refine load_wide rfl _ 34 rfl rfl infoWd Tryz.underlying34 (keep_alloc HBC.out _) rfl ?_) | (refine load_wide (b := w5.heap.size) rfl _ 54 rfl rfl infoIR Tryz.underlying54 (new_at (by simp) _) rfl ?_) | (refine store_new rfl _ _ 28 rfl rfl rfl (by simp) infoLW rfl rfl rfl ?_) | (refine store_new rfl _ _ 34 rfl rfl rfl (by simp) infoWd rfl rfl rfl ?_) | (refine store_new rfl _ _ 54 rfl rfl rfl (by simp) infoIR rfl rfl rfl ?_))
 refine (eqIntResult_any r.1 r.2 r.1 r.2 _).mono ?_
 rintro e w6 ⟨rfl, hc⟩
 rw [show decide (r.1 = r.1 ∧ r.2 = r.2) = true from by simp]
 have h := (Lay.ext wldL (Lay.ext wldL HX0.out (Chg.alloc (Chg.refl [] w5) _)) hc); clear HX0; have HX0 := Lib.hid h; clear h
 have h := Fresh.chg (HFX0.out.chg (Chg.alloc (Chg.refl [] w5) _)) hc; clear HFX0; have HFX0 := Lib.hid h; clear h
 have h := bk hc (keep_alloc HBA.out _) (by simp); clear HBA cA lA; obtain ⟨cA, lA, HBA⟩ := h
 have h := bk hc (keep_alloc HBQ.out _) (by simp); clear HBQ cQ lQ; obtain ⟨cQ, lQ, HBQ⟩ := h
 have h := bk hc (keep_alloc HBC.out _) (by simp); clear HBC cC lC; obtain ⟨cC, lC, HBC⟩ := h
 obtain ⟨cP, lP, HBP⟩ := bk hc (b := w5.heap.size) (new_at (by simp) _) (by simp)
 have h := Chg.trans0 (Chg.alloc HC.out _) hc; clear HC; have HC := Lib.hid h; clear h
 clear hc
 go_wp2_with (first | (refine load_wide rfl _ 28 rfl rfl infoLW Tryz.underlying28 HBA.out rfl ?_) | (refine load_wide rfl _ 54 rfl rfl infoIR Tryz.underlying54 HBQ.out rfl ?_) | (refine load_wide rfl _ 34 rfl rfl infoWd Tryz.underlying34 HBC.out rfl ?_) | (refine load_wide rfl _ 54 rfl rfl infoIR Tryz.underlying54 HBP.out rfl ?_) | (refine store_new rfl _ _ 28 rfl rfl rfl (by simp) infoLW rfl rfl rfl ?_) | (refine store_new rfl _ _ 34 rfl rfl rfl (by simp) infoWd rfl rfl rfl ?_) | (refine store_new rfl _ _ 54 rfl rfl rfl (by simp) infoIR rfl rfl rfl ?_))
 obtain ⟨SS1, HSI1, HSO1⟩ := rg_cond (fun w' => Know (w4.heap.size) #[.int .i64 x0.shape.groups, .int .i64 x0.shape.column, .int .i64 x0.shape.data, .int .i64 x0.shape.spare, .int .i64 x0.shape.rows, .int .i64 x0.shape.cap, .int .i64 x0.shape.batch, .int .i64 x0.shape.queue, .int .i64 x0.shape.stage, .slice a10q4 l10q4 c10q4, .slice a11q4 l11q4 c11q4, .slice a12q4 l12q4 c12q4, .int .i64 x0.writes, .int .i64 x0.stop, .bool x0.down] w' ∧ Know (W.heap.size) #[.int .i64 x0.shape.groups, .int .i64 x0.shape.column, .int .i64 x0.shape.data, .int .i64 x0.shape.spare, .int .i64 x0.shape.rows, .int .i64 x0.shape.cap, .int .i64 x0.shape.batch, .int .i64 x0.shape.queue, .int .i64 x0.shape.stage, .slice a10o l10o c10o, .slice a11o l11o c11o, .slice a12o l12o c12o, .int .i64 x0.writes, .int .i64 x0.stop, .bool x0.down] w')
 have hS0 := HSI1.out (w6.drew) ⟨(Know.of (by refine keep_drew ?_; exact HBC.out)), (Know.of (by refine keep_drew ?_; exact HBA.out))⟩
 refine rg_start SS1 (by kernel_rfl) hS0 ?_
 refine rgL 0 hS0 HSO1 ?_
 refine rgL 1 hS0 HSO1 ?_
 refine rg_call 2 rfl (by kernel_rfl) (fun K hK => ?_)
 go_simp
 go_at_call 17
 refine (toWorld_any x0 #[.int .i64 x0.shape.groups, .int .i64 x0.shape.column, .int .i64 x0.shape.data, .int .i64 x0.shape.spare, .int .i64 x0.shape.rows, .int .i64 x0.shape.cap, .int .i64 x0.shape.batch, .int .i64 x0.shape.queue, .int .i64 x0.shape.stage, .slice a10o l10o c10o, .slice a11o l11o c11o, .slice a12o l12o c12o, .int .i64 x0.writes, .int .i64 x0.stop, .bool x0.down] fp0 _ (Lay.ext wldL HO0.out (Chg.drew HC.out)) HZ0.out).mono ?_
 rintro e w7 ⟨z7, p7, rfl, hs, hf, hc⟩
 have hG := fun (x : Nat) (hx : x ∈ p7) => Nat.le_trans HC.out.size (Nat.le_trans (show w6.heap.size ≤ (w6.drew).heap.size by simp) (hf.2 x hx).1)
 have HGY0 := Lib.hid hG; clear hG
 have h := (Lay.ext wldL (Lay.ext wldL HX0.out (Chg.drew (Chg.refl [] w6))) hc); clear HX0; have HX0 := Lib.hid h; clear h
 have h := Fresh.chg (HFX0.out.chg (Chg.drew (Chg.refl [] w6))) hc; clear HFX0; have HFX0 := Lib.hid h; clear h
 have h := bk hc (keep_drew HBA.out) (by simp); clear HBA cA lA; obtain ⟨cA, lA, HBA⟩ := h
 have h := bk hc (keep_drew HBQ.out) (by simp); clear HBQ cQ lQ; obtain ⟨cQ, lQ, HBQ⟩ := h
 have h := bk hc (keep_drew HBC.out) (by simp); clear HBC cC lC; obtain ⟨cC, lC, HBC⟩ := h
 have h := bk hc (keep_drew HBP.out) (by simp); clear HBP cP lP; obtain ⟨cP, lP, HBP⟩ := h
 have h := Chg.trans0 (Chg.drew HC.out) hc; clear HC; have HC := Lib.hid h; clear h
 have HY0 := Lib.hid hs; have HFY0 := Lib.hid (hf.mono (Nat.zero_le _)); clear hs hf
 clear hc
 go_wp2_with fail
 refine hK.out _ _ (HSI1.out _ ⟨cC, cA⟩) (fun hS1 => ?_)
 clear hK K
 try simp only [Act.put, pA, pB, pC]
 refine rg_call 3 rfl (by kernel_rfl) (fun K hK => ?_)
 go_simp
 go_at_call 20
 refine (eqWorld_any x0 #[.int .i64 x0.shape.groups, .int .i64 x0.shape.column, .int .i64 x0.shape.data, .int .i64 x0.shape.spare, .int .i64 x0.shape.rows, .int .i64 x0.shape.cap, .int .i64 x0.shape.batch, .int .i64 x0.shape.queue, .int .i64 x0.shape.stage, .slice a10q4 l10q4 c10q4, .slice a11q4 l11q4 c11q4, .slice a12q4 l12q4 c12q4, .int .i64 x0.writes, .int .i64 x0.stop, .bool x0.down] z7 p4 p7 _ HX0.out HY0.out).mono ?_
 rintro e w8 ⟨rfl, hc⟩
 replace HX0 := hre HX0 hc
 replace HY0 := hre HY0 hc
 have h := Fresh.chg HFX0.out hc; clear HFX0; have HFX0 := Lib.hid h; clear h
 have h := Fresh.chg HFY0.out hc; clear HFY0; have HFY0 := Lib.hid h; clear h
 have h := bk0 hc HBA.out; clear HBA cA lA; obtain ⟨cA, lA, HBA⟩ := h
 have h := bk0 hc HBQ.out; clear HBQ cQ lQ; obtain ⟨cQ, lQ, HBQ⟩ := h
 have h := bk0 hc HBC.out; clear HBC cC lC; obtain ⟨cC, lC, HBC⟩ := h
 have h := bk0 hc HBP.out; clear HBP cP lP; obtain ⟨cP, lP, HBP⟩ := h
 replace HC := hct HC hc
 clear hc
 go_wp2_with fail
 refine hK.out _ _ (HSI1.out _ ⟨cC, cA⟩) (fun hS2 => ?_)
 clear hK K
 try simp only [Act.put, pA, pB, pC]
 refine rgT 4 hS2 ?_
 refine wpAnyH_done (by kernel_rfl) ?_ _
 go_wp2_with fail
 go_ret
 exact ⟨rfl, HC.out⟩

/-! ### FnExactWaitingBytes -/
namespace fnExactWaitingBytes
theorem own : ownKnob Tryz.prog.godebug = none := by kernel_rfl
theorem laidOut : laidOutB Tryz.prog = true := by kernel_rfl
set_option linter.unusedVariables false in
set_option maxRecDepth 100000 in
theorem lifted (os : Os) (started : os.Started) (H : Type) (enc : TypeId × Value → H) :
  ReturnsInHanded {} Tryz.checked os 9 .any (Rows.fnExactWaitingBytesSpec.pre6 enc Tryz.prog Tryz.f9 Rows.fnExactWaitingBytesRow.domain false) (Rows.fnExactWaitingBytesSpec.post enc Tryz.prog Tryz.f9 false true false false) := by
 refine returnsInHanded_of_change (C := Tryz.checked) own started (by kernel_rfl) Tryz.func9
  (ChangeSpec.witness6 (enc := enc) (C := Tryz.checked) false ⟨#[], #[.agg #[.int .i64 0, .int .i64 0, .int .i64 0, .int .i64 0, .int .i64 0, .int .i64 0, .int .i64 0, .int .i64 0, .int .i64 0, .slice none 0 0, .slice none 0 0, .slice none 0 0, .int .i64 0, .int .i64 0, .bool false]], []⟩ 8 (by kernel_rfl) (by kernel_rfl) (by kernel_rfl) (by kernel_rfl)) ?_
 intro W base args ds gs before hval0 hW hcnd _
 have hval : ∀ (j : Nat) t v, Tryz.f9.params[j]? = some t → args[j]? = some v → Value.okWide Tryz.prog W .any base t v := hval0
 have hW' := hW
 obtain ⟨p, q, hA0, hV, rfl, hfz, hnd⟩ := hW
 have hA : DataW.TrodAll enc Tryz.prog W 0 (fun _ => true) true Tryz.f9.params.toList args.toList ds p := hA0
 rw [Tryz.params9] at hA hval
 obtain ⟨v0, vs0, d0, ds0, p0, q0, hargs, rfl, rfl, h0, r0⟩ := trodAll_cons hA
 obtain ⟨rfl, rfl, rfl⟩ := trodAll_nil r0
 obtain rfl : args = #[v0] := by cases args; simp_all
 obtain ⟨rfl, rfl⟩ := trodVars_none hV
 have k0 := h0
 have lt0 : ∀ x ∈ p0, x.block < W.heap.size := by obtain ⟨m, hm⟩ := k0; exact DataW.trod_lt m _ _ _ hm
 obtain ⟨cs0, rfl, _⟩ := okWide_struct Tryz.underlying28 (hval 0 28 v0 rfl rfl)
 obtain ⟨x0, fp0, o0⟩ := op_wld.trod h0
 clear hA0 hval0
 simp only [List.append_nil] at hW'
 refine (walk_FnExactWaitingBytes W cs0 x0 fp0 o0).mono fun e W' ⟨he, hc⟩ => ?_
 subst he
 have bel := hc.below0
 exact ⟨_, rfl, _, _, _, [], _, [], hW', trodAll_mk1 (shut_bool Tryz.underlying4 _), (trodAll_cons_mk (Below.trod laidOut (by kernel_rfl) (of_decide_eq_true (by kernel_rfl)) k0 bel lt0) trodAll_mk0), rfl, bel.frame _, fun h => by cases h⟩

theorem andI {a b : Bool} (ha : a = true) (hb : b = true) : (a && b) = true := by rw [ha, hb]; rfl
set_option maxHeartbeats 8000000 in
theorem closed : joinedFacts Tryz.prog 9 Tryz.f9 Rows.fnExactWaitingBytesSpec Rows.fnExactWaitingBytesRow = true := by
 unfold joinedFacts
 refine andI (andI (andI (andI (andI (andI (andI (andI (andI (andI (andI (andI (andI (andI (andI (andI (andI (andI (andI (andI (andI (andI (andI (andI (andI (andI (andI (andI (andI (andI (andI ?_ ?_) ?_) ?_) ?_) ?_) ?_) ?_) ?_) ?_) ?_) ?_) ?_) ?_) ?_) ?_) ?_) ?_) ?_) ?_) ?_) ?_) ?_) ?_) ?_) ?_) ?_) ?_) ?_) ?_) ?_) ?_
 all_goals as_aux_lemma => kernel_rfl

theorem over : Rows.fnExactWaitingBytesRow.holds Tryz.pinned (OpenSpec.ofChange Rows.fnExactWaitingBytesSpec) :=
 OpenClaim.holds_of_wide 9 Tryz.f9 rfl rfl rfl rfl rfl rfl rfl ⟨rfl, rfl, rfl, rfl, rfl⟩ rfl rfl rfl rfl rfl (by kernel_rfl) Tryz.func9 closed
  (of_decide_eq_true (by kernel_rfl)) (by unfold Func.isWrapper; first | (rw [if_pos (by decide +kernel)]; kernel_rfl) | (rw [if_neg (by decide +kernel)]; exact ⟨rfl, rfl⟩))
  (fun os started H enc _ => lifted os started H enc)
end fnExactWaitingBytes
theorem FnExactWaitingBytes_holds : Rows.FnExactWaitingBytesSaid := fnExactWaitingBytes.over
#print axioms FnExactWaitingBytes_holds
end Go.Proofs.YtphmpimgbmedbaaGreat
