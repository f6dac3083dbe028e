
/- IndexFunc and ContainsFunc over lists, at any test of an element that leaves the memory as it is. -/
import Derived.Test.YtjnclggpaekdfaaRows
import Derived.Test.YtjnclggpaekdfaaLsr
import Derived.Test.YtjnclggpaekdfaaBss
namespace Go.Proofs.Ytjnclggpaekdfaa
open Go.RowKit

/-- a test of an element, by a function value -/
def Tests (k : Nat) (caps : Array Value) (q : List UInt8 → Bool) (xs : List (List UInt8)) (w : World) : Prop :=
  ∀ x A C f, x ∈ xs → byteL.sl w A x.length C x f → Calls Try.prog k (#[.slice A x.length C] ++ caps) w fun e w' => e = .returned (.bool (q x)) ∧ w = w'

set_option maxRecDepth 100000 in
set_option maxHeartbeats 1000000 in
theorem idxQ_any (k : Nat) (caps : Array Value) (q : List UInt8 → Bool) (a : Option Addr) (la ca : Nat) (xs : List (List UInt8)) (f : List Nat) (w : World) (ha : byteL.slice.sl w a la ca xs f) (hcf : ∀ (args : Array Value) (w : World), (callFunc k args).run Try.prog w = .ok (.enter k args) w) (hq : Tests k caps q xs w) :
    Calls Try.prog 73 #[.slice a la ca, .func (.func k) #[] caps] w fun e w' => ∃ r : Int, e = .returned (.int .i64 r) ∧ RowKit.Hid (0 ≤ r ↔ xs.any q = true) ∧ w = w' := by
  have hla := byteL.slice.sl_max ha
  have HA := Lib.hid ha
  have HL := Lib.hid ha.1
  have HQ := Lib.hid hq
  clear ha hq
  obtain ⟨r0, hr0⟩ : ∃ r0, r0 = xs.any q := ⟨_, rfl⟩
  rw [← hr0]
  have HR0 := Lib.hid hr0
  clear hr0
  go_enter Try.func73, Try.ntmps73
  go_wp2
  go_loop [5, 8] (fun _ i => ∃ k : Nat, k ≤ la ∧ i = .int .i64 k ∧ RowKit.Hid (∀ (j : Nat) x, j < k → xs[j]? = some x → q x = false)) (fun _ i => la - (intOf i).toNat)
  case atStart => exact ⟨0, by omega, rfl, fun j x hj => by omega⟩
  case round =>
    obtain ⟨j, hj, rfl, HK⟩ := hrel
    by_cases hlt : j < la
    · obtain ⟨x, b, off, A, lx, C, fx, HX, rfl, hcx, HXS⟩ := slc_at HA.out hlt
      have hmx := byteL.sl_max HXS.out
      obtain rfl := HXS.out.1
      have HC := Lib.hid (HQ.out x A C fx (List.mem_of_getElem? HX.out.1) HXS.out)
      cases hqx : q x
      · rw [hqx] at HC
        have HK2 := Lib.hid (show ∀ (i : Nat) y, i < j + 1 → xs[i]? = some y → q y = false from fun i y hi hy => by
          by_cases e : i = j
          · subst e; rw [Option.some.inj (hy.symm.trans HX.out.1)]; exact hqx
          · exact HK.out i y (by omega) hy)
        clear hqx
        go_wp2_with fail
        refine HC.out.mono ?_
        rintro e w' ⟨rfl, rfl⟩
        go_wp2_with fail
        go_round
        case rel => exact ⟨j + 1, by omega, by go_num, HK2⟩
        case measure => simp [intOf]; omega
      · rw [hqx] at HC
        have HR := Lib.hid (show 0 ≤ (j : Int) ↔ r0 = true by rw [HR0.out]; exact ⟨fun _ => List.any_eq_true.2 ⟨x, List.mem_of_getElem? HX.out.1, hqx⟩, fun _ => Int.natCast_nonneg j⟩)
        clear hqx
        go_wp2_with fail
        refine HC.out.mono ?_
        rintro e w' ⟨rfl, rfl⟩
        go_wp2_with fail
        go_ret
        exact ⟨_, rfl, HR, rfl⟩
    · obtain rfl : j = la := by omega
      have HR := Lib.hid (show 0 ≤ (-1 : Int) ↔ r0 = true by rw [HR0.out]; exact ⟨fun h => by omega, fun hn => by
        obtain ⟨x, hx, h1⟩ := List.any_eq_true.1 hn
        obtain ⟨i, hi, rfl⟩ := List.getElem_of_mem hx
        have h2 := HK.out i _ (by have := HL.out; omega) (List.getElem?_eq_getElem hi)
        rw [h2] at h1; cases h1⟩)
      go_wp2
      go_ret
      exact ⟨_, rfl, HR, rfl⟩

set_option maxHeartbeats 400000 in
theorem contQ_any (k : Nat) (caps : Array Value) (q : List UInt8 → Bool) (a : Option Addr) (la ca : Nat) (xs : List (List UInt8)) (f : List Nat) (w : World) (ha : byteL.slice.sl w a la ca xs f) (hcf : ∀ (args : Array Value) (w : World), (callFunc k args).run Try.prog w = .ok (.enter k args) w) (hq : Tests k caps q xs w) :
    Calls Try.prog 66 #[.slice a la ca, .func (.func k) #[] caps] w fun e w' => e = .returned (.bool (xs.any q)) ∧ w = w' := by
  have HI := Lib.hid (idxQ_any k caps q a la ca xs f w ha hcf hq)
  clear ha hq hcf
  go_enter Try.func66, Try.ntmps66
  go_wp2_with fail
  refine HI.out.mono ?_
  rintro e w' ⟨r, rfl, HR, rfl⟩
  have HD := Lib.hid (show decide (0 ≤ r) = xs.any q by
    cases h : xs.any q
    · rw [decide_eq_false]; intro h2; rw [HR.out.1 h2] at h; cases h
    · rw [decide_eq_true (HR.out.2 h)])
  go_wp2_with fail
  go_ret
  refine ⟨?_, rfl⟩
  rw [← HD.out]
  rfl
end Go.Proofs.Ytjnclggpaekdfaa
