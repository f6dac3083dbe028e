
/- IndexFunc and ContainsFunc, at any test of an element that only lays new memory. -/
import Derived.Test.YtcejdmggacjnoaaRows
import Derived.Test.YtcejdmggacjnoaaLsr
import Derived.Test.YtcejdmggacjnoaaBss
namespace Go.Proofs.Ytcejdmggacjnoaa
open Go.RowKit

/-- the place of the first element that a test holds of, or -1 -/
def IdxAt {α : Type} (q : α → Bool) (xs : List α) (r : Int) : Prop := (r = -1 ∧ xs.any q = false) ∨ ∃ j : Nat, r = j ∧ (∃ x, xs[j]? = some x ∧ q x = true) ∧ ∀ (i : Nat) x, i < j → xs[i]? = some x → q x = false
theorem IdxAt.ge {α : Type} {q : α → Bool} {xs : List α} {r : Int} (h : IdxAt q xs r) : decide (0 ≤ r) = xs.any q := by
  rcases h with ⟨rfl, h⟩ | ⟨j, rfl, ⟨x, hx, hq⟩, _⟩
  · rw [h]; rfl
  · rw [List.any_eq_true.2 ⟨x, List.mem_of_getElem? hx, hq⟩]; exact decide_eq_true (Int.natCast_nonneg j)

/-- a test of an element, by a function value that only lays new memory -/
def TestsCl (k : Nat) (caps : Array Value) (q : List UInt8 → Bool) (xs : List (List UInt8)) (w : World) : Prop :=
  ∀ (x : List UInt8) (A : Option Addr) (C : Nat) (f : List Nat) (w1 : World), x ∈ xs → Chg [] w w1 → byteL.sl w1 A x.length C x f → Calls Try.prog k (#[.slice A x.length C] ++ caps) w1 fun e w' => e = .returned (.bool (q x)) ∧ Chg [] w1 w'

set_option maxRecDepth 100000 in
set_option maxHeartbeats 1000000 in
theorem idxCl_any (k : Nat) (caps : Array Value) (q : List UInt8 → Bool) (a : Option Addr) (la ca : Nat) (xs : List (List UInt8)) (f : List Nat) (w : World) (ha : byteL.slice.sl w a la ca xs f) (hcf : ∀ (args : Array Value) (w : World), (callFunc k args).run Try.prog w = .ok (.enter k args) w) (hq : TestsCl k caps q xs w) :
    Calls Try.prog 49 #[.slice a la ca, .func (.func k) #[] caps] w fun e w' => ∃ r : Int, e = .returned (.int .i64 r) ∧ RowKit.Hid (IdxAt q xs r) ∧ Chg [] w w' := by
  have hla := byteL.slice.sl_max ha
  have HA := Lib.hid ha
  have HL := Lib.hid ha.1
  have HQ := Lib.hid hq
  clear ha hq
  go_enter Try.func49, Try.ntmps49
  go_wp2
  go_loopw [5, 8] (fun _ i wr => ∃ (j : Nat) (Wr : World), Wr = wr ∧ j ≤ la ∧ i = .int .i64 j ∧ RowKit.Hid (∀ (i : Nat) x, i < j → xs[i]? = some x → q x = false) ∧ Chg [] w wr) (fun _ i _ => la - (intOf i).toNat)
  case atStart => exact ⟨0, _, rfl, by omega, rfl, fun j x hj => by omega, Chg.refl _ _⟩
  case round =>
    obtain ⟨j, wr, rfl, hj, rfl, HK, hc⟩ := hrel
    have HC := Lib.hid hc
    by_cases hlt : j < la
    · obtain ⟨x, b, off, A, lx, C, fx, HX, rfl, hcx, HXS⟩ := slc_at (byteL.slice.sl_ext HA.out hc) hlt
      have hmx := byteL.sl_max HXS.out
      obtain rfl := HXS.out.1
      have HT := Lib.hid (HQ.out x A C fx wr (List.mem_of_getElem? HX.out.1) HC.out HXS.out)
      clear hc
      cases hqx : q x
      · rw [hqx] at HT
        have HK2 := Lib.hid (show ∀ (i : Nat) y, i < j + 1 → xs[i]? = some y → q y = false from fun i y hi hy => by
          by_cases e : i = j
          · subst e; rw [Option.some.inj (hy.symm.trans HX.out.1)]; exact hqx
          · exact HK.out i y (by omega) hy)
        clear hqx
        go_wp2_with fail
        refine HT.out.mono ?_
        rintro e w' ⟨rfl, hc'⟩
        have HN := Lib.hid (HC.out.trans0 hc')
        clear hc'
        go_wp2_with fail
        go_roundw
        case rel => exact ⟨j + 1, _, rfl, by omega, by go_num, HK2, HN.out⟩
        case measure => simp [intOf]; omega
      · rw [hqx] at HT
        have HR := Lib.hid (show IdxAt q xs j from .inr ⟨j, rfl, ⟨x, HX.out.1, hqx⟩, HK.out⟩)
        clear hqx
        go_wp2_with fail
        refine HT.out.mono ?_
        rintro e w' ⟨rfl, hc'⟩
        have HN := Lib.hid (HC.out.trans0 hc')
        clear hc'
        go_wp2_with fail
        go_ret
        exact ⟨_, rfl, HR, HN.out⟩
    · obtain rfl : j = la := by omega
      have HR := Lib.hid (show IdxAt q xs (-1) from .inl ⟨rfl, List.any_eq_false.2 (fun x hx => by
        obtain ⟨i, hi, rfl⟩ := List.getElem_of_mem hx
        rw [HK.out i _ (by have := HL.out; omega) (List.getElem?_eq_getElem hi)]; simp)⟩)
      clear hc
      go_wp2
      go_ret
      exact ⟨_, rfl, HR, HC.out⟩

set_option maxHeartbeats 400000 in
theorem contCl_any (k : Nat) (caps : Array Value) (q : List UInt8 → Bool) (a : Option Addr) (la ca : Nat) (xs : List (List UInt8)) (f : List Nat) (w : World) (ha : byteL.slice.sl w a la ca xs f) (hcf : ∀ (args : Array Value) (w : World), (callFunc k args).run Try.prog w = .ok (.enter k args) w) (hq : TestsCl k caps q xs w) :
    Calls Try.prog 32 #[.slice a la ca, .func (.func k) #[] caps] w fun e w' => e = .returned (.bool (xs.any q)) ∧ Chg [] w w' := by
  have HI := Lib.hid (idxCl_any k caps q a la ca xs f w ha hcf hq)
  clear ha hq hcf
  go_enter Try.func32, Try.ntmps32
  go_wp2_with fail
  refine HI.out.mono ?_
  rintro e w' ⟨r, rfl, HR, hc⟩
  have HC := Lib.hid hc
  have HD := Lib.hid HR.out.ge
  clear hc
  go_wp2_with fail
  go_ret
  refine ⟨?_, HC.out⟩
  rw [← HD.out]
  rfl
end Go.Proofs.Ytcejdmggacjnoaa
