
/- The program's ColumnFits returns what the reference returns, leaves its arguments and shares no memory, for all arguments: the law FnExactColumnFits returns true.
Conditions: none. -/
import Derived.Test.YtlnclkjmlpipgaaRows
import Derived.Test.YtlnclkjmlpipgaaAt
import Derived.Test.YtlnclkjmlpipgaaFit
import Derived.Test.YtlnclkjmlpipgaaBss
import Derived.ShutString
import Derived.ChangeOld
namespace Go.Proofs.Ytlnclkjmlpipgaa
open Go.ChangeShapes Go.WideShapes Go.ChangeAt Go.RowKit

set_option maxRecDepth 100000 in
set_option maxHeartbeats 4000000 in
theorem walk_FnExactColumnFits (W : World) (a0 : Option Addr) (la0 ca0 : Nat) (x0 : List (List UInt8)) (f0 : List Nat) (o0 : byteL.slice.sl W a0 la0 ca0 x0 f0) (x1 : Int) (o1 : i64ok x1) :
    Calls Try.prog 9 #[.slice a0 la0 ca0, .int .i64 x1] W fun e w' => e = .returned (.bool true) ∧ Chg [] W w' := by
  have HC : RowKit.Hid (Chg [] W W) := Chg.refl _ _
  have HO0 := Lib.hid o0; clear o0
  have hm0 : (la0 : Int) ≤ 9223372036854775807 := by have := Lay.sl_max _ HO0.out; omega
  obtain ⟨z0, hze0⟩ : ∃ z, z = szBB x0 1048576 := ⟨_, rfl⟩
  have HSZ0 := Lib.hid (szBB_any a0 la0 ca0 x0 f0 1048576 W HO0.out (by omega) (by omega))
  rw [← hze0] at HSZ0
  by_cases hn0 : z0 < 0
  · clear hze0
    have HC2 := Lib.hid HC.out
    clear HC
    go_enter Try.func9, Try.ntmps9
    go_wp2_with fail
    refine HSZ0.out.mono ?_; rintro e w' ⟨rfl, rfl⟩
    go_wp2_with fail
    go_ret
    exact ⟨rfl, HC2.out⟩
  have HZL0 := Lib.hid (szBB_le (xs := x0) (l := 1048576) (by rw [← hze0]; omega))
  have hlz0 : la0 ≤ 1048576 := by have := HZL0.out.2.1; have := HO0.out.1; omega
  have HZM0 := Lib.hid (fun x hx => by have := HZL0.out.2.2 x hx; omega : ∀ x ∈ x0, x.length ≤ 1048576)
  have hsum0 : sumLen x0 ≤ 1048576 := by have := szBB_sum (xs := x0) (l := 1048576) (by rw [← hze0]; omega); omega
  have hsun0 := sumLen_nonneg x0
  have hzl0 : z0 ≤ 1048576 := by have := HZL0.out.1; omega
  clear hze0
  obtain ⟨r, hr⟩ : ∃ r, r = fitsV x0 x1 := ⟨_, rfl⟩
  have HS : RowKit.Hid (∀ (a0 : Option Addr) (l0 c0 : Nat) (p0 : List Nat) (w : World), byteL.slice.sl w a0 l0 c0 x0 p0 → Calls Try.prog 50 #[.slice a0 l0 c0, .int .i64 x1] w (fun e w' => e = .returned (.bool r) ∧ Chg [] w w')) := by rw [hr]; exact fun a0 l0 c0 p0 w h0 => (spec_fits HZM0.out) a0 l0 c0 x0 p0 x1 o1 w h0
  have HI : RowKit.Hid (∀ (a0 : Option Addr) (l0 c0 : Nat) (p0 : List Nat) (w : World), byteL.slice.sl w a0 l0 c0 x0 p0 → Calls Try.prog 51 #[.slice a0 l0 c0, .int .i64 x1] w (fun e w' => e = .returned (.bool r) ∧ Chg [] w w')) := by rw [hr]; exact fun a0 l0 c0 p0 w h0 => (impl_fits HZM0.out) a0 l0 c0 x0 p0 x1 o1 w h0
  clear hr
  have hrr : (r != r) = false := by cases r <;> rfl
  have HLX0 := Lib.hid HO0.out.1
  go_enter Try.func9, Try.ntmps9
  go_wp2_with fail
  refine HSZ0.out.mono ?_; rintro e w' ⟨rfl, rfl⟩
  go_wp2_with fail
  refine (toBB_any a0 la0 ca0 x0 f0 _ (Lay.sl_ext byteL.slice HO0.out (HC.out)) (by omega) HZM0.out).mono ?_
  rintro e w1 ⟨b1, d1, p1, rfl, hs, hf, hc⟩
  rw [← HLX0.out] at hs ⊢
  have hG := fun (x : Nat) (hx : x ∈ p1) => Nat.le_trans HC.out.size (hf.2 x hx).1
  have HGS0 := Lib.hid hG; clear hG
  have h := HC.out.trans0 hc; clear HC; have HC := Lib.hid h; clear h
  have HS0 := Lib.hid hs; have HFS0 := Lib.hid (hf.mono (Nat.zero_le _)); clear hs hf
  clear hc
  go_wp2_with fail
  refine (HS.out b1 la0 d1 p1 _ HS0.out).mono ?_
  rintro e w2 ⟨rfl, hc⟩
  have h := Lay.sl_ext byteL.slice HS0.out hc; clear HS0; have HS0 := Lib.hid h; clear h
  have h := Fresh.chg HFS0.out hc; clear HFS0; have HFS0 := Lib.hid h; clear h
  have h := HC.out.trans0 hc; clear HC; have HC := Lib.hid h; clear h
  clear hc
  go_wp2_with fail
  refine (toBB_any a0 la0 ca0 x0 f0 _ (Lay.sl_ext byteL.slice HO0.out (HC.out)) (by omega) HZM0.out).mono ?_
  rintro e w3 ⟨b2, d2, p2, rfl, hs, hf, hc⟩
  rw [← HLX0.out] at hs ⊢
  have hG := fun (x : Nat) (hx : x ∈ p2) => Nat.le_trans HC.out.size (hf.2 x hx).1
  have HGX0 := Lib.hid hG; clear hG
  have h := HC.out.trans0 hc; clear HC; have HC := Lib.hid h; clear h
  have HX0 := Lib.hid hs; have HFX0 := Lib.hid (hf.mono (Nat.zero_le _)); clear hs hf
  clear hc
  go_wp2_with fail
  refine (HI.out b2 la0 d2 p2 _ HX0.out).mono ?_
  rintro e w4 ⟨rfl, hc⟩
  have h := Lay.sl_ext byteL.slice HX0.out hc; clear HX0; have HX0 := Lib.hid h; clear h
  have h := Fresh.chg HFX0.out hc; clear HFX0; have HFX0 := Lib.hid h; clear h
  have h := HC.out.trans0 hc; clear HC; have HC := Lib.hid h; clear h
  clear hc
  go_wp2_with fail
  refine (toBB_any a0 la0 ca0 x0 f0 _ (Lay.sl_ext byteL.slice HO0.out (HC.out)) (by omega) HZM0.out).mono ?_
  rintro e w5 ⟨b3, d3, p3, rfl, hs, hf, hc⟩
  rw [← HLX0.out] at hs ⊢
  have hG := fun (x : Nat) (hx : x ∈ p3) => Nat.le_trans HC.out.size (hf.2 x hx).1
  have HGY0 := Lib.hid hG; clear hG
  have hD := fun (b : Nat) (hb : b ∈ p2) (hb' : b ∈ p3) => Nat.lt_irrefl _ (Nat.lt_of_lt_of_le (Lay.sl_lt _ HX0.out b hb) (hf.2 b hb').1)
  have DX0_Y0 := Lib.hid hD; have DY0_X0 := Lib.hid (fun (b : Nat) (hb : b ∈ p3) (hb' : b ∈ p2) => hD b hb' hb); clear hD
  have h := Lay.sl_ext byteL.slice HX0.out hc; clear HX0; have HX0 := Lib.hid h; clear h
  have h := Fresh.chg HFX0.out hc; clear HFX0; have HFX0 := Lib.hid h; clear h
  have h := HC.out.trans0 hc; clear HC; have HC := Lib.hid h; clear h
  have HY0 := Lib.hid hs; have HFY0 := Lib.hid (hf.mono (Nat.zero_le _)); clear hs hf
  clear hc
  go_wp2_with fail
  refine (eqBB_any b2 b3 la0 d2 d3 x0 p2 p3 _ HX0.out HY0.out).mono ?_
  rintro e w6 ⟨rfl, hc⟩
  have h := Lay.sl_ext byteL.slice HX0.out hc; clear HX0; have HX0 := Lib.hid h; clear h
  have h := Lay.sl_ext byteL.slice HY0.out hc; clear HY0; have HY0 := Lib.hid h; clear h
  have h := Fresh.chg HFX0.out hc; clear HFX0; have HFX0 := Lib.hid h; clear h
  have h := Fresh.chg HFY0.out hc; clear HFY0; have HFY0 := Lib.hid h; clear h
  have h := HC.out.trans0 hc; clear HC; have HC := Lib.hid h; clear h
  clear hc
  go_wp2_with fail
  go_ret
  exact ⟨rfl, HC.out⟩

/-! ### FnExactColumnFits -/
namespace fnExactColumnFits
theorem own : ownKnob Try.prog.godebug = none := by kernel_rfl
theorem laidOut : laidOutB Try.prog = true := by kernel_rfl
set_option linter.unusedVariables false in
set_option maxRecDepth 100000 in
theorem lifted (os : Os) (started : os.Started) (H : Type) (enc : TypeId × Value → H) :
    ReturnsInHanded {} Try.checked os 9 .any (Rows.fnExactColumnFitsSpec.pre6 enc Try.prog Try.f9 Rows.fnExactColumnFitsRow.domain false) (Rows.fnExactColumnFitsSpec.post enc Try.prog Try.f9 false true false false) := by
  refine returnsInHanded_of_change (C := Try.checked) own started (by kernel_rfl) Try.func9
    (ChangeSpec.witness6 (enc := enc) (C := Try.checked) false ⟨#[], #[.slice none 0 0, .int .i64 0], []⟩ 8 (by kernel_rfl) (by kernel_rfl) (by kernel_rfl) (by kernel_rfl)) ?_
  intro W base args ds gs before hval0 hW hcnd _
  have hval : ∀ (j : Nat) t v, Try.f9.params[j]? = some t → args[j]? = some v → Value.okWide Try.prog W .any base t v := hval0
  have hW' := hW
  obtain ⟨p, q, hA0, hV, rfl, hfz, hnd⟩ := hW
  have hA : DataW.TrodAll enc Try.prog W 0 (fun _ => true) true Try.f9.params.toList args.toList ds p := hA0
  rw [Try.params9] at hA hval
  obtain ⟨v0, vs0, d0, ds0, p0, q0, hargs, rfl, rfl, h0, r0⟩ := trodAll_cons hA
  obtain ⟨v1, vs1, d1, ds1, p1, q1, rfl, rfl, rfl, h1, r1⟩ := trodAll_cons r0
  obtain ⟨rfl, rfl, rfl⟩ := trodAll_nil r1
  obtain rfl : args = #[v0, v1] := by cases args; simp_all
  obtain ⟨rfl, rfl⟩ := trodVars_none hV
  have k0 := h0
  have lt0 : ∀ x ∈ p0, x.block < W.heap.size := by obtain ⟨m, hm⟩ := k0; exact DataW.trod_lt m _ _ _ hm
  obtain ⟨a0, len0, cap0, rfl⟩ := okWide_slice Try.underlying42 (hval 0 42 v0 rfl rfl)
  obtain ⟨x0, fp0, a0', l0', c0', e0, o0⟩ := op_lists.trod h0
  simp only [Value.cells, List.cons.injEq, Value.slice.injEq, and_true] at e0
  obtain ⟨rfl, rfl, rfl⟩ := e0
  have k1 := h1
  have lt1 : ∀ x ∈ p1, x.block < W.heap.size := by obtain ⟨m, hm⟩ := k1; exact DataW.trod_lt m _ _ _ hm
  obtain ⟨x1, rfl, _, _, w1⟩ := open_int Try.underlying2 (hval 1 2 v1 rfl rfl) h1
  clear hA0 hval0
  simp only [List.append_nil] at hW'
  refine (walk_FnExactColumnFits W _ _ _ x0 fp0 o0 x1 (i64_of_wf w1)).mono fun e W' ⟨he, hc⟩ => ?_
  subst he
  have bel := hc.below0
  exact ⟨_, rfl, _, _, _, [], _, [], hW', trodAll_mk1 (shut_bool Try.underlying4 _), (trodAll_cons_mk (Below.trod laidOut (by kernel_rfl) (of_decide_eq_true (by kernel_rfl)) k0 bel lt0) (trodAll_cons_mk (Below.trod laidOut (by kernel_rfl) (of_decide_eq_true (by kernel_rfl)) k1 bel lt1) trodAll_mk0)), rfl, bel.frame _, fun h => by cases h⟩

theorem over : Rows.fnExactColumnFitsRow.holds Try.pinned (OpenSpec.ofChange Rows.fnExactColumnFitsSpec) :=
  OpenClaim.holds_of_wide 9 Try.f9 rfl rfl rfl rfl rfl rfl rfl ⟨rfl, rfl, rfl, rfl, rfl⟩ rfl rfl rfl rfl rfl (by kernel_rfl) Try.func9 (by kernel_rfl)
    (of_decide_eq_true (by kernel_rfl)) (by unfold Func.isWrapper; first | (rw [if_pos (by decide +kernel)]; kernel_rfl) | (rw [if_neg (by decide +kernel)]; exact ⟨rfl, rfl⟩))
    (fun os started H enc _ => lifted os started H enc)
end fnExactColumnFits
theorem FnExactColumnFits_holds : Rows.FnExactColumnFitsSaid := fnExactColumnFits.over
#print axioms FnExactColumnFits_holds
end Go.Proofs.Ytlnclkjmlpipgaa
