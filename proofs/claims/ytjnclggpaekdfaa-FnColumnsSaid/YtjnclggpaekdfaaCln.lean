
/- slices.Clone at lists of bytes and at lists of lists. -/
import Derived.Test.YtjnclggpaekdfaaRows
import Derived.Test.YtjnclggpaekdfaaGrw
import Derived.Test.YtjnclggpaekdfaaBss
namespace Go.Proofs.Ytjnclggpaekdfaa
open Go.RowKit

set_option maxHeartbeats 400000 in
theorem cloneB_any (a : Option Addr) (la ca : Nat) (xs : List UInt8) (f : List Nat) (w : World) (ha : byteL.sl w a la ca xs f) (hz : la ≤ 140737488355327) :
    Calls Try.prog 56 #[.slice a la ca] w fun e w' => ∃ v, e = .returned v ∧ Grow byteL 5 w w' v xs := by
  obtain ⟨K, _⟩ := kindB
  have HA := Lib.hid ha
  have HZ := Lib.hid hz
  have hn := fun w => Lib.run_eql_slice_nil (P := Try.prog) w 22 5 a la ca 0 0 Try.underlying22
  clear ha hz
  cases a with
  | none =>
    obtain rfl : xs = [] := by apply List.eq_nil_of_length_eq_zero; have := HA.out.1; have := HA.out.2.1; have := HA.out.2.2.2.1 rfl; omega
    go_enter Try.func56, Try.ntmps56
    go_wp2
    go_ret
    exact ⟨_, rfl, Grow.nil (Chg.refl _ _)⟩
  | some ad =>
    have HL : RowKit.Hid (([] : List UInt8).length + xs.length ≤ maxLen ∧ (([] : List UInt8).length + xs.length) * 1 ≤ 140737488355328) := by
      have := HA.out.1; have := HZ.out; have := Lay.sl_max _ HA.out
      refine ⟨?_, ?_⟩
      · simp only [List.length_nil, maxLen]; omega
      · simp only [List.length_nil, Nat.zero_add]; omega
    go_enter Try.func56, Try.ntmps56
    go_wp2_with (refine byteL.wpList_growS byte_flat rfl _ _ 22 rfl Try.underlying22 K rfl (Grow.made (Chg.refl [] w)) (Chg.refl [] _) rfl (byteL.sl_ext HA.out ((Chg.refl [] w).alloc _)) HL.out.1 HL.out.2 ?_; intro v' w' hg'; have hN := Lib.hid hg'; clear hg')
    go_ret
    exact ⟨_, rfl, by simpa using hN.out⟩

set_option maxHeartbeats 400000 in
theorem clone_lists (a : Option Addr) (la ca : Nat) (xs : List (List UInt8)) (f : List Nat) (w : World) (ha : Lay.sl byteL.slice w a la ca xs f) (hz : la * 24 ≤ 140737488355327) :
    Calls Try.prog 42 #[.slice a la ca] w (NewRow byteL.slice xs f w) := by
  obtain ⟨K, _⟩ := kindLL
  have HZ := Lib.hid hz
  clear hz
  cases a with
  | none =>
    have hn := fun w => Lib.run_eql_slice_nil (P := Try.prog) w 24 22 none la ca 0 0 Try.underlying24
    have hN : NewRow byteL.slice xs f w (.returned (.slice none 0 0)) w := by
      obtain rfl : xs = [] := by apply List.eq_nil_of_length_eq_zero; have := ha.1; have := ha.2.1; have := ha.2.2.2.1 rfl; omega
      exact ⟨22, _, none, [], rfl, Lay.os_nil _ _ _, by simp, by simp, Chg.refl _ _⟩
    have HN := Lib.hid hN
    clear hN
    go_enter Try.func42, Try.ntmps42
    go_wp2
    go_ret
    exact HN.out
  | some ad =>
    have hn := fun w => Lib.run_eql_slice_nil (P := Try.prog) w 24 22 (some ad) la ca 0 0 Try.underlying24
    obtain ⟨news, fps, hnews, hall, hsub⟩ := Lay.sl_cells _ (Lay.sl_ext _ ha ((Chg.refl [] w).alloc (.cells #[] 22)))
    have HA := Lib.hid ha
    have HW := Lib.hid (And.intro hnews (And.intro hall hsub))
    have HL : RowKit.Hid (([] : List (List UInt8)).length + xs.length ≤ maxLen ∧ (([] : List (List UInt8)).length + xs.length) * 24 ≤ 140737488355328 ∧ w.heap.size ∉ fps) := by
      have := HA.out.1; have := HZ.out; have := Lay.sl_max _ ha
      refine ⟨?_, ?_, fun hb => ?_⟩
      · simp only [List.length_nil, maxLen]; omega
      · simp only [List.length_nil, Nat.zero_add]; omega
      · have := Lay.sl_lt _ ha _ (hsub _ hb); omega
    clear ha hnews hall hsub
    go_enter Try.func42, Try.ntmps42
    go_wp2_with (refine Lay.wpList_append byteL.slice rfl _ _ 24 rfl Try.underlying24 K rfl (Lay.os_made byteL.slice 22 w #[] 0 (by simp [maxLen]) rfl) ad la ca news rfl HA.out.1 HW.out.1 HW.out.2.1 (fun g hg => by cases hg; exact HL.out.2.2) HL.out.1 HL.out.2.1 ?_; intro v' w' h' ho' hh' hc'; have hN := Lib.hid (And.intro ho' (And.intro hh' hc')); clear ho' hh' hc')
    go_ret
    obtain ⟨ho, hh, hc⟩ := hN.out
    refine ⟨_, _, h', _, rfl, ho, by simpa using HW.out.2.2, ?_, ((Chg.refl [] w).alloc _).trans hc (fun x hx => .inr (by simp at hx; omega))⟩
    intro g hg
    rcases hh with rfl | rfl
    · cases hg; exact Nat.le_refl _
    · cases hg; simp
end Go.Proofs.Ytjnclggpaekdfaa
