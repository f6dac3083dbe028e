
/- The walks of AddBytes, ScaleBytes and AddShare, of the program and of the reference. -/
import Derived.Test.YtnnhopcjlnnchaaGreatLst
namespace Go.Proofs.YtnnhopcjlnnchaaGreat
open Go.RowKit

/-- what a call hands back that makes a code and a slice anew -/
def NewRes {α : Type} (L : Lay α) (r : Int × List α) (w : World) (e : Ending) (w' : World) : Prop :=
  ∃ a cap fp, e = .returned (.agg #[.int .i64 r.1, .slice a r.2.length cap]) ∧ L.sl w' a r.2.length cap r.2 fp ∧ Fresh w.heap.size w' fp ∧ Chg [] w w'

theorem NewRes.code {α : Type} (L : Lay α) {n : Int} {r : Int × List α} (hr : r = (n, [])) {w w' : World} (hc : Chg [] w w') : NewRes L r w (.returned (.agg #[.int .i64 n, .slice none 0 0])) w' := by
  subst hr
  exact ⟨none, 0, [], rfl, ⟨rfl, Nat.le_refl _, by simp [maxLen], fun _ => rfl, .inl ⟨rfl, rfl⟩⟩, Fresh.nil _ _, hc⟩


set_option maxHeartbeats 400000 in
theorem clone_bytes (a : Option Addr) (la ca : Nat) (xs : List UInt8) (f : List Nat) (w : World) (ha : Lay.sl byteL w a la ca xs f) (hz : la * 1 ≤ 140737488355327) :
    Calls Tryz.prog 67 #[.slice a la ca] w (NewRow byteL xs f w) := by
  obtain ⟨K, _⟩ := kindB
  have HZ := Lib.hid hz
  clear hz
  cases a with
  | none =>
    have hn := fun w => Lib.run_eql_slice_nil (P := Tryz.prog) w 30 5 none la ca 0 0 Tryz.underlying30
    have hN : NewRow byteL xs f w (.returned (.slice none 0 0)) w := by
      obtain rfl : xs = [] := by apply List.eq_nil_of_length_eq_zero; have := ha.1; have := ha.2.1; have := ha.2.2.2.1 rfl; omega
      exact ⟨5, _, none, [], rfl, Lay.os_nil _ _ _, by simp, by simp, Chg.refl _ _⟩
    have HN := Lib.hid hN
    clear hN
    go_enter Tryz.func67, Tryz.ntmps67
    go_wp2
    go_ret
    exact HN.out
  | some ad =>
    have hn := fun w => Lib.run_eql_slice_nil (P := Tryz.prog) w 30 5 (some ad) la ca 0 0 Tryz.underlying30
    obtain ⟨news, fps, hnews, hall, hsub⟩ := Lay.sl_cells _ (Lay.sl_ext _ ha ((Chg.refl [] w).alloc (.cells #[] 5)))
    have HA := Lib.hid ha
    have HW := Lib.hid (And.intro hnews (And.intro hall hsub))
    have HL : RowKit.Hid (([] : List UInt8).length + xs.length ≤ maxLen ∧ (([] : List UInt8).length + xs.length) * 1 ≤ 140737488355328 ∧ w.heap.size ∉ fps) := by
      have := HA.out.1; have := HZ.out; have := Lay.sl_max _ ha
      refine ⟨?_, ?_, fun hb => ?_⟩
      · simp only [List.length_nil, maxLen]; omega
      · simp only [List.length_nil, Nat.zero_add]; omega
      · have := Lay.sl_lt _ ha _ (hsub _ hb); omega
    clear ha hnews hall hsub
    go_enter Tryz.func67, Tryz.ntmps67
    go_wp2_with (refine Lay.wpList_append byteL rfl _ _ 30 rfl Tryz.underlying30 K rfl (Lay.os_made byteL 5 w #[] 0 (by simp [maxLen]) rfl) ad la ca news rfl HA.out.1 HW.out.1 HW.out.2.1 (fun g hg => by cases hg; exact HL.out.2.2) HL.out.1 HL.out.2.1 ?_; intro v' w' h' ho' hh' hc'; have hN := Lib.hid (And.intro ho' (And.intro hh' hc')); clear ho' hh' hc')
    go_ret
    obtain ⟨ho, hh, hc⟩ := hN.out
    refine ⟨_, _, h', _, rfl, ho, by simpa using HW.out.2.2, ?_, ((Chg.refl [] w).alloc _).trans hc (fun x hx => .inr (by simp at hx; omega))⟩
    intro g hg
    rcases hh with rfl | rfl
    · cases hg; exact Nat.le_refl _
    · cases hg; simp


theorem scaleL_one (xs : List UInt8) : scaleL xs 1 = xs := by unfold scaleL; simp [Fld.mul_one]

/-! the models -/
def addRes (xs ys : List UInt8) : Int × List UInt8 := if xs.length ≠ ys.length then (1, []) else if 4000 < xs.length then (2, []) else (0, addL xs ys)
def scaleRes (xs : List UInt8) (c : UInt8) : Int × List UInt8 := if 4000 < xs.length then (2, []) else (0, scaleL xs c)
def shareRes (xs ys : List UInt8) (c : UInt8) : Int × List UInt8 := if xs.length ≠ ys.length then (1, []) else if 4000 < xs.length then (2, []) else (0, addL xs (scaleL ys c))

theorem addRes_len (xs ys : List UInt8) : (addRes xs ys).2.length ≤ xs.length := by
  unfold addRes; split
  · simp
  · split
    · simp
    · show (addL xs ys).length ≤ _; unfold addL; rw [List.length_zipWith]; omega
theorem scaleRes_len (xs : List UInt8) (c : UInt8) : (scaleRes xs c).2.length ≤ xs.length := by
  unfold scaleRes; split
  · simp
  · show (scaleL xs c).length ≤ _; rw [scaleL_length]; omega
theorem shareRes_len (xs ys : List UInt8) (c : UInt8) : (shareRes xs ys c).2.length ≤ xs.length := by
  unfold shareRes; split
  · simp
  · split
    · simp
    · show (addL xs _).length ≤ _; unfold addL; rw [List.length_zipWith]; omega


theorem NewSl.since {α : Type} {L : Lay α} {xs : List α} {w w0 : World} {e : Ending} {w1 : World} (h : NewSl L xs w0 e w1) (hc : Chg [] w w0) : NewSl L xs w e w1 := by
  obtain ⟨a, cap, fp, rfl, hs, hf, hc'⟩ := h
  exact ⟨a, cap, fp, rfl, hs, hf.mono hc.size, hc.trans0 hc'⟩


end Go.Proofs.YtnnhopcjlnnchaaGreat
