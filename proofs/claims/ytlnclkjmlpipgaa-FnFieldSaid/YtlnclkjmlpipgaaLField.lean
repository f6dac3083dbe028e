
/- Products are undone by quotients and spread over sums, for all codes: the law FnField returns true.
Conditions: none. -/
import Derived.Test.YtlnclkjmlpipgaaRows
import Derived.Test.YtlnclkjmlpipgaaAt
import Derived.Test.YtlnclkjmlpipgaaNum
import Derived.Test.YtlnclkjmlpipgaaDrw
import Derived.ShutString
import Derived.ChangeOld
namespace Go.Proofs.Ytlnclkjmlpipgaa
open Go.ChangeShapes Go.WideShapes Go.ChangeAt Go.RowKit


theorem wrap_u8 (a : UInt8) : IntKind.i64.wrap (a.toNat : Int) = (a.toNat : Int) := wrap_in (by omega) (by have := UInt8.toNat_lt a; omega)
theorem u8_ne0 {y : UInt8} (h : ¬ y = 0) : ((y.toNat : Int) == 0) = false := by
  have : (y.toNat : Int) ≠ 0 := by
    intro h0
    apply h
    apply UInt8.toNat_inj.1
    have h1 : y.toNat = 0 := by omega
    rw [h1]; rfl
  simpa using this
theorem powZ_two (a : UInt8) : Fld.powZ a 2 = Fld.mul a a := by
  show Fld.pw a 2 = _
  rw [Fld.pw_succ, Fld.pw_one]
set_option maxRecDepth 100000 in
set_option maxHeartbeats 2000000 in
theorem walk_FnField (W : World) (a : Option Addr) (la ca : Nat) (xs : List UInt8) (f : List Nat) (o : byteL.sl W a la ca xs f) :
    Calls Try.prog 3 #[.slice a la ca] W fun e w' => e = .returned (.bool true) ∧ Chg [] W w' := by
  have hm := byteL.sl_max o
  have HA := Lib.hid o
  have HL := Lib.hid (lwBig_any a la ca W)
  clear o
  by_cases hz : (1048576 : Int) < (la : Int)
  · rw [decide_eq_true hz] at HL
    go_enter Try.func3, Try.ntmps3
    go_wp2_with fail
    refine HL.out.mono ?_; rintro e w' ⟨rfl, rfl⟩
    go_wp2_with fail
    go_ret
    exact ⟨rfl, Chg.refl _ _⟩
  rw [decide_eq_false hz] at HL
  go_enter Try.func3, Try.ntmps3
  go_wp2_with fail
  refine HL.out.mono ?_; rintro e w' ⟨rfl, rfl⟩
  go_wp2_with fail
  refine (drawMulG_any a la ca xs f _ HA.out (by omega)).mono ?_
  rintro e w1 ⟨x, y, rfl, hc1⟩
  have HC1 := Lib.hid hc1; clear hc1
  go_wp2_with fail
  refine (lwAt_any a la ca xs f 3 256 w1 (byteL.sl_ext HA.out HC1.out) (by omega) (by omega) (by omega) (by omega) (by omega)).mono ?_
  rintro e w2 ⟨v, rfl, -, hc2⟩
  have HC2 := Lib.hid (HC1.out.trans0 hc2); clear hc2 HC1
  obtain ⟨z, hz2⟩ := u8_mod v
  obtain ⟨s, hs⟩ : ∃ s, s = y ^^^ z := ⟨_, rfl⟩
  have x2 := bits_xor (Fld.mul x y) (Fld.mul x z)
  have y2 : (Fld.mul x y).toNat ^^^ (Fld.mul x z).toNat = (Fld.mul x s).toNat := by rw [hs, Fld.mul_add, UInt8.toNat_xor]
  have x1 := bits_xor y z
  have y1 : y.toNat ^^^ z.toNat = s.toNat := by rw [hs, UInt8.toNat_xor]
  rw [← Fld.mul_add, ← hs] at x2
  rw [← hs] at x1
  clear hs
  have n1 : (((Fld.mul x y).toNat : Int) != ((Fld.mul x y).toNat : Int)) = false := by simp
  have n2 : (((Fld.mul x s).toNat : Int) != ((Fld.mul x s).toNat : Int)) = false := by simp
  have n3 : ((x.toNat : Int) != (x.toNat : Int)) = false := by simp
  have n4 : (((Fld.mul x x).toNat : Int) != ((Fld.mul x x).toNat : Int)) = false := by simp
  go_wp2_with fail
  refine (impl_mul x y _).mono ?_; rintro e w' ⟨rfl, rfl⟩
  go_wp2_with fail
  refine (impl_mul y x _).mono ?_; rintro e w' ⟨rfl, rfl⟩
  rw [Fld.mul_comm y x]
  go_wp2_with fail
  refine (impl_mul x s _).mono ?_; rintro e w' ⟨rfl, rfl⟩
  go_wp2_with fail
  refine (impl_mul x z _).mono ?_; rintro e w' ⟨rfl, rfl⟩
  go_wp2_with fail
  refine (impl_mul x 1 _).mono ?_; rintro e w' ⟨rfl, rfl⟩
  rw [Fld.mul_one]
  go_wp2_with fail
  refine (impl_pow x 2 (by omega) (by omega) _).mono ?_; rintro e w' ⟨rfl, rfl⟩
  rw [powZ_two]
  go_wp2_with fail
  refine (impl_mul x x _).mono ?_; rintro e w' ⟨rfl, rfl⟩
  go_wp2_with fail
  refine (impl_divG (Fld.mul x y) y _).mono ?_
  rintro e w3 ⟨rfl, hc3⟩
  have HC3 := Lib.hid (HC2.out.trans0 hc3); clear hc3 HC2
  by_cases hy : y = 0
  · have e1 : divRes (Fld.mul x y) y = (6, 0) := by unfold divRes; rw [if_pos hy]
    have e2 : (y.toNat : Int) = 0 := by rw [hy]; rfl
    rw [e1]
    clear e1
    go_wp2_with fail
    go_ret
    exact ⟨by simp, HC3.out.alloc _⟩
  · have e1 : divRes (Fld.mul x y) y = (0, (x.toNat : Int)) := by unfold divRes; rw [if_neg hy, Fld.mul_div x y hy]
    have e2 := u8_ne0 hy
    have e3 := wrap_u8 x
    rw [e1]
    clear e1
    go_wp2_with fail
    go_ret
    exact ⟨by simp, HC3.out.alloc _⟩

/-! ### FnField -/
namespace fnField
theorem own : ownKnob Try.prog.godebug = none := by kernel_rfl
theorem laidOut : laidOutB Try.prog = true := by kernel_rfl
set_option linter.unusedVariables false in
set_option maxRecDepth 100000 in
theorem lifted (os : Os) (started : os.Started) (H : Type) (enc : TypeId × Value → H) :
    ReturnsInHanded {} Try.checked os 3 .any (Rows.fnFieldSpec.pre6 enc Try.prog Try.f3 Rows.fnFieldRow.domain false) (Rows.fnFieldSpec.post enc Try.prog Try.f3 false true false false) := by
  refine returnsInHanded_of_change (C := Try.checked) own started (by kernel_rfl) Try.func3
    (ChangeSpec.witness6 (enc := enc) (C := Try.checked) false ⟨#[], #[.slice none 0 0], []⟩ 8 (by kernel_rfl) (by kernel_rfl) (by kernel_rfl) (by kernel_rfl)) ?_
  intro W base args ds gs before hval0 hW hcnd _
  have hval : ∀ (j : Nat) t v, Try.f3.params[j]? = some t → args[j]? = some v → Value.okWide Try.prog W .any base t v := hval0
  have hW' := hW
  obtain ⟨p, q, hA0, hV, rfl, hfz, hnd⟩ := hW
  have hA : DataW.TrodAll enc Try.prog W 0 (fun _ => true) true Try.f3.params.toList args.toList ds p := hA0
  rw [Try.params3] at hA hval
  obtain ⟨v0, vs0, d0, ds0, p0, q0, hargs, rfl, rfl, h0, r0⟩ := trodAll_cons hA
  obtain ⟨rfl, rfl, rfl⟩ := trodAll_nil r0
  obtain rfl : args = #[v0] := by cases args; simp_all
  obtain ⟨rfl, rfl⟩ := trodVars_none hV
  have k0 := h0
  have lt0 : ∀ x ∈ p0, x.block < W.heap.size := by obtain ⟨m, hm⟩ := k0; exact DataW.trod_lt m _ _ _ hm
  obtain ⟨a0, len0, cap0, rfl⟩ := okWide_slice Try.underlying22 (hval 0 22 v0 rfl rfl)
  obtain ⟨x0, fp0, a0', l0', c0', e0, o0⟩ := op_bytes.trod h0
  simp only [Value.cells, List.cons.injEq, Value.slice.injEq, and_true] at e0
  obtain ⟨rfl, rfl, rfl⟩ := e0
  clear hA0 hval0
  simp only [List.append_nil] at hW'
  refine (walk_FnField W _ _ _ x0 fp0 o0).mono fun e W' ⟨he, hc⟩ => ?_
  subst he
  have bel := hc.below0
  exact ⟨_, rfl, _, _, _, [], _, [], hW', trodAll_mk1 (shut_bool Try.underlying4 _), (trodAll_cons_mk (Below.trod laidOut (by kernel_rfl) (of_decide_eq_true (by kernel_rfl)) k0 bel lt0) trodAll_mk0), rfl, bel.frame _, fun h => by cases h⟩

theorem over : Rows.fnFieldRow.holds Try.pinned (OpenSpec.ofChange Rows.fnFieldSpec) :=
  OpenClaim.holds_of_wide 3 Try.f3 rfl rfl rfl rfl rfl rfl rfl ⟨rfl, rfl, rfl, rfl, rfl⟩ rfl rfl rfl rfl rfl (by kernel_rfl) Try.func3 (by kernel_rfl)
    (of_decide_eq_true (by kernel_rfl)) (by unfold Func.isWrapper; first | (rw [if_pos (by decide +kernel)]; kernel_rfl) | (rw [if_neg (by decide +kernel)]; exact ⟨rfl, rfl⟩))
    (fun os started H enc _ => lifted os started H enc)
end fnField
theorem FnField_holds : Rows.FnFieldSaid := fnField.over
#print axioms FnField_holds
end Go.Proofs.Ytlnclkjmlpipgaa
