/- The program's DivG returns what the reference returns, for all arguments: the law FnExactDivG returns true.
Conditions: none. -/
import Derived.Test.YtjoffgndejoecaaRows
import Derived.Test.YtjoffgndejoecaaAt
import Derived.Test.YtjoffgndejoecaaRes
import Derived.Test.YtjoffgndejoecaaNum
import Derived.ShutString
import Derived.ChangeOld
namespace Go.Proofs.Ytjoffgndejoecaa
open Go.ChangeShapes Go.WideShapes Go.ChangeAt Go.RowKit

set_option maxHeartbeats 1000000 in
theorem walk_FnExactDivG (W : World) (x0 : UInt8) (x1 : UInt8) :
    Calls Try.prog 4 #[.int .u8 x0.toNat, .int .u8 x1.toNat] W fun e w' => e = .returned (.bool true) ∧ Chg [] W w' := by
  have H1 := Lib.hid (@impl_divG x0 x1)
  have H2 := Lib.hid (@spec_divG x0 x1)
  generalize divRes x0 x1 = n at H1 H2
  go_enter Try.func4, Try.ntmps4
  go_wp2_with fail
  refine (H2.out _).mono ?_; rintro e w2 ⟨rfl, h2⟩
  have HC2 := Lib.hid h2; clear h2
  go_wp2_with fail
  refine (H1.out _).mono ?_; rintro e w4 ⟨rfl, h4⟩
  have hD := h4.keep0 (new_alloc _ _); have cD := cellsOf hD; have lD := ltOf hD; have HD := Lib.hid hD; clear hD
  have HC4 := Lib.hid ((HC2.out.alloc _).trans0 h4); clear h4 HC2
  go_wp2_with fail
  refine (eqIntResult_any _ _ _ _ _).mono ?_; rintro e w5 ⟨rfl, h5⟩
  have hF : decide (n.1 = n.1 ∧ n.2 = n.2) = true := by simp
  have HC5 := Lib.hid (((HC4.out.alloc _).trans0 h5)); clear h5 HC4
  rw [hF]
  go_wp2_with fail
  go_ret
  exact ⟨rfl, HC5.out⟩

/-! ### FnExactDivG -/
namespace fnExactDivG
theorem own : ownKnob Try.prog.godebug = none := by kernel_rfl
theorem laidOut : laidOutB Try.prog = true := by kernel_rfl
set_option linter.unusedVariables false in
set_option maxRecDepth 100000 in
theorem lifted (os : Os) (started : os.Started) (H : Type) (enc : TypeId × Value → H) :
    ReturnsInHanded {} Try.checked os 4 .any (Rows.fnExactDivGSpec.pre6 enc Try.prog Try.f4 Rows.fnExactDivGRow.domain false) (Rows.fnExactDivGSpec.post enc Try.prog Try.f4 false true false false) := by
  refine returnsInHanded_of_change (C := Try.checked) own started (by kernel_rfl) Try.func4
    (ChangeSpec.witness6 (enc := enc) (C := Try.checked) false ⟨#[], #[.int .u8 0, .int .u8 0], []⟩ 8 (by kernel_rfl) (by kernel_rfl) (by kernel_rfl) (by kernel_rfl)) ?_
  intro W base args ds gs before hval0 hW hcnd _
  have hval : ∀ (j : Nat) t v, Try.f4.params[j]? = some t → args[j]? = some v → Value.okWide Try.prog W .any base t v := hval0
  have hW' := hW
  obtain ⟨p, q, hA0, hV, rfl, hfz, hnd⟩ := hW
  have hA : DataW.TrodAll enc Try.prog W 0 (fun _ => true) true Try.f4.params.toList args.toList ds p := hA0
  rw [Try.params4] at hA hval
  obtain ⟨v0, vs0, d0, ds0, p0, q0, hargs, rfl, rfl, h0, r0⟩ := trodAll_cons hA
  obtain ⟨v1, vs1, d1, ds1, p1, q1, rfl, rfl, rfl, h1, r1⟩ := trodAll_cons r0
  obtain ⟨rfl, rfl, rfl⟩ := trodAll_nil r1
  obtain rfl : args = #[v0, v1] := by cases args; simp_all
  obtain ⟨rfl, rfl⟩ := trodVars_none hV
  have k0 := h0
  have lt0 : ∀ x ∈ p0, x.block < W.heap.size := by obtain ⟨m, hm⟩ := k0; exact DataW.trod_lt m _ _ _ hm
  obtain ⟨v, rfl, _, _, w0⟩ := open_int Try.underlying5 (hval 0 5 v0 rfl rfl) h0
  obtain ⟨x0, rfl⟩ := u8_of_wf w0
  have k1 := h1
  have lt1 : ∀ x ∈ p1, x.block < W.heap.size := by obtain ⟨m, hm⟩ := k1; exact DataW.trod_lt m _ _ _ hm
  obtain ⟨v, rfl, _, _, w1⟩ := open_int Try.underlying5 (hval 1 5 v1 rfl rfl) h1
  obtain ⟨x1, rfl⟩ := u8_of_wf w1
  clear hA0 hval0
  simp only [List.append_nil] at hW'
  refine (walk_FnExactDivG W x0 x1).mono fun e W' ⟨he, hc⟩ => ?_
  subst he
  have bel := hc.below0
  exact ⟨_, rfl, _, _, _, [], _, [], hW', trodAll_mk1 (shut_bool Try.underlying4 _), (trodAll_cons_mk (Below.trod laidOut (by kernel_rfl) (of_decide_eq_true (by kernel_rfl)) k0 bel lt0) (trodAll_cons_mk (Below.trod laidOut (by kernel_rfl) (of_decide_eq_true (by kernel_rfl)) k1 bel lt1) trodAll_mk0)), rfl, bel.frame _, fun h => by cases h⟩

theorem over : Rows.fnExactDivGRow.holds Try.pinned (OpenSpec.ofChange Rows.fnExactDivGSpec) :=
  OpenClaim.holds_of_wide 4 Try.f4 rfl rfl rfl rfl rfl rfl rfl ⟨rfl, rfl, rfl, rfl, rfl⟩ rfl rfl rfl rfl rfl (by kernel_rfl) Try.func4 (by kernel_rfl)
    (of_decide_eq_true (by kernel_rfl)) (by unfold Func.isWrapper; first | (rw [if_pos (by decide +kernel)]; kernel_rfl) | (rw [if_neg (by decide +kernel)]; exact ⟨rfl, rfl⟩))
    (fun os started H enc _ => lifted os started H enc)
end fnExactDivG
theorem FnExactDivG_holds : Rows.FnExactDivGSaid := fnExactDivG.over
#print axioms FnExactDivG_holds
end Go.Proofs.Ytjoffgndejoecaa
