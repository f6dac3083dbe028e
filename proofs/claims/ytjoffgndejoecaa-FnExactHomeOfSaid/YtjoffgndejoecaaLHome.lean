/- The program's HomeOf returns what the reference returns, for all arguments: the law FnExactHomeOf returns true.
Conditions: none. -/
import Derived.Test.YtjoffgndejoecaaRows
import Derived.Test.YtjoffgndejoecaaAt
import Derived.Test.YtjoffgndejoecaaRes
import Derived.Test.YtjoffgndejoecaaNum
import Derived.ShutString
import Derived.ChangeOld
namespace Go.Proofs.Ytjoffgndejoecaa
open Go.ChangeShapes Go.WideShapes Go.ChangeAt Go.RowKit

set_option maxHeartbeats 1000000 in
theorem walk_FnExactHomeOf (W : World) (cs : Array Value) (x0 : Shp) (fp : List Nat) (hx : shpL.rep W cs.toList x0 fp) (x1 : ByteArray) (o1 : x1.size ≤ maxLen) :
    Calls Try.prog 7 #[.agg cs, .string x1] W fun e w' => e = .returned (.bool true) ∧ Chg [] W w' := by
  obtain rfl : cs = x0.cells := by obtain ⟨h, _⟩ := shpL_iff.1 hx; exact Array.toList_inj.1 h
  clear hx
  have H1 := Lib.hid (@impl_homeOf x0 x1 o1)
  have H2 := Lib.hid (@spec_homeOf x0 x1 o1)
  have H3 := Lib.hid (@toShape_any x0)
  generalize Shp.home x0 x1 = n at H1 H2
  unfold maxLen at o1
  obtain ⟨g, c, d, p, r, q, b, u, t⟩ := x0
  simp only [Shp.cells] at H1 H2 H3 ⊢
  by_cases hz : (1048576 : Int) < (x1.size : Int)
  · go_enter Try.func7, Try.ntmps7
    go_wp2_with fail
    go_ret
    exact ⟨rfl, by repeat (first | exact Chg.refl _ _ | refine Chg.alloc ?_ _)⟩
  go_enter Try.func7, Try.ntmps7
  go_wp2_with fail
  refine (H3.out _).mono ?_; rintro e w1 ⟨rfl, h1⟩
  have hB := h1.keep0 (new_alloc _ _); have cB := cellsOf hB; have lB := ltOf hB; have HB := Lib.hid hB; clear hB
  have HC := Lib.hid ((Chg.refl [] W).alloc _ |>.trans0 h1); clear h1
  go_wp2_with fail
  refine (H2.out _).mono ?_; rintro e w2 ⟨rfl, h2⟩; clear cB lB
  have hB := h2.keep0 HB.out; have cB := cellsOf hB; have lB := ltOf hB; clear HB; have HB := Lib.hid hB; clear hB
  have HC2 := Lib.hid (HC.out.trans0 h2); clear h2 HC
  go_wp2_with fail
  refine (H3.out _).mono ?_; rintro e w3 ⟨rfl, h3⟩
  have hD := h3.keep0 (new_alloc _ _); have cD := cellsOf hD; have lD := ltOf hD; have HD := Lib.hid hD; clear hD
  have hB := h3.keep0 (keep_alloc HB.out _); clear cB lB HB
  have HC3 := Lib.hid ((HC2.out.alloc _).trans0 h3); clear h3 HC2 hB
  go_wp2_with fail
  refine (H1.out _).mono ?_; rintro e w4 ⟨rfl, h4⟩; clear cD lD
  have hD := h4.keep0 HD.out; have cD := cellsOf hD; have lD := ltOf hD; clear HD; have HD := Lib.hid hD; clear hD
  have HC4 := Lib.hid (HC3.out.trans0 h4); clear h4 HC3
  go_wp2_with fail
  refine (eqIntResult_any _ _ _ _ _).mono ?_; rintro e w5 ⟨rfl, h5⟩
  have hF : decide (n.1 = n.1 ∧ n.2 = n.2) = true := by simp
  have HC5 := Lib.hid (((HC4.out.alloc _).trans0 h5)); clear h5 HC4
  rw [hF]
  go_wp2_with fail
  go_ret
  exact ⟨rfl, HC5.out⟩

/-! ### FnExactHomeOf -/
namespace fnExactHomeOf
theorem own : ownKnob Try.prog.godebug = none := by kernel_rfl
theorem laidOut : laidOutB Try.prog = true := by kernel_rfl
set_option linter.unusedVariables false in
set_option maxRecDepth 100000 in
theorem lifted (os : Os) (started : os.Started) (H : Type) (enc : TypeId × Value → H) :
    ReturnsInHanded {} Try.checked os 7 .any (Rows.fnExactHomeOfSpec.pre6 enc Try.prog Try.f7 Rows.fnExactHomeOfRow.domain false) (Rows.fnExactHomeOfSpec.post enc Try.prog Try.f7 false true false false) := by
  refine returnsInHanded_of_change (C := Try.checked) own started (by kernel_rfl) Try.func7
    (ChangeSpec.witness6 (enc := enc) (C := Try.checked) false ⟨#[], #[.agg #[.int .i64 0, .int .i64 0, .int .i64 0, .int .i64 0, .int .i64 0, .int .i64 0, .int .i64 0, .int .i64 0, .int .i64 0], .string ⟨#[]⟩], []⟩ 8 (by kernel_rfl) (by kernel_rfl) (by kernel_rfl) (by kernel_rfl)) ?_
  intro W base args ds gs before hval0 hW hcnd _
  have hval : ∀ (j : Nat) t v, Try.f7.params[j]? = some t → args[j]? = some v → Value.okWide Try.prog W .any base t v := hval0
  have hW' := hW
  obtain ⟨p, q, hA0, hV, rfl, hfz, hnd⟩ := hW
  have hA : DataW.TrodAll enc Try.prog W 0 (fun _ => true) true Try.f7.params.toList args.toList ds p := hA0
  rw [Try.params7] at hA hval
  obtain ⟨v0, vs0, d0, ds0, p0, q0, hargs, rfl, rfl, h0, r0⟩ := trodAll_cons hA
  obtain ⟨v1, vs1, d1, ds1, p1, q1, rfl, rfl, rfl, h1, r1⟩ := trodAll_cons r0
  obtain ⟨rfl, rfl, rfl⟩ := trodAll_nil r1
  obtain rfl : args = #[v0, v1] := by cases args; simp_all
  obtain ⟨rfl, rfl⟩ := trodVars_none hV
  have k0 := h0
  have lt0 : ∀ x ∈ p0, x.block < W.heap.size := by obtain ⟨m, hm⟩ := k0; exact DataW.trod_lt m _ _ _ hm
  obtain ⟨cs0, rfl, _⟩ := okWide_struct Try.underlying35 (hval 0 35 v0 rfl rfl)
  obtain ⟨x0, fp0, o0⟩ := op_shp.trod h0
  have k1 := h1
  have lt1 : ∀ x ∈ p1, x.block < W.heap.size := by obtain ⟨m, hm⟩ := k1; exact DataW.trod_lt m _ _ _ hm
  obtain ⟨x1, rfl, _, _, w1⟩ := Go.ChangeMaps.open_string Try.underlying9 (hval 1 9 v1 rfl rfl) h1
  clear hA0 hval0
  simp only [List.append_nil] at hW'
  refine (walk_FnExactHomeOf W cs0 x0 fp0 o0 x1 w1).mono fun e W' ⟨he, hc⟩ => ?_
  subst he
  have bel := hc.below0
  exact ⟨_, rfl, _, _, _, [], _, [], hW', trodAll_mk1 (shut_bool Try.underlying4 _), (trodAll_cons_mk (Below.trod laidOut (by kernel_rfl) (of_decide_eq_true (by kernel_rfl)) k0 bel lt0) (trodAll_cons_mk (Below.trod laidOut (by kernel_rfl) (of_decide_eq_true (by kernel_rfl)) k1 bel lt1) trodAll_mk0)), rfl, bel.frame _, fun h => by cases h⟩

theorem over : Rows.fnExactHomeOfRow.holds Try.pinned (OpenSpec.ofChange Rows.fnExactHomeOfSpec) :=
  OpenClaim.holds_of_wide 7 Try.f7 rfl rfl rfl rfl rfl rfl rfl ⟨rfl, rfl, rfl, rfl, rfl⟩ rfl rfl rfl rfl rfl (by kernel_rfl) Try.func7 (by kernel_rfl)
    (of_decide_eq_true (by kernel_rfl)) (by unfold Func.isWrapper; first | (rw [if_pos (by decide +kernel)]; kernel_rfl) | (rw [if_neg (by decide +kernel)]; exact ⟨rfl, rfl⟩))
    (fun os started H enc _ => lifted os started H enc)
end fnExactHomeOf
theorem FnExactHomeOf_holds : Rows.FnExactHomeOfSaid := fnExactHomeOf.over
#print axioms FnExactHomeOf_holds
end Go.Proofs.Ytjoffgndejoecaa
