import Derived.Test.YtphmpimgbmedbaaGreatRows
import Derived.Test.YtphmpimgbmedbaaGreatWhSM
import Derived.Test.YtphmpimgbmedbaaGreatMk
/- IndexFunc and ContainsFunc over structures, at any test of an element that only lays new memory. -/
namespace Go.Proofs.YtphmpimgbmedbaaGreat
open Go.RowKit

/-- the place of the first element that a test holds of, or -1 -/
def IdxOf {α : Type} (q : α → Bool) (xs : List α) (r : Int) : Prop := (r = -1 ∧ xs.any q = false) ∨ ∃ j : Nat, r = j ∧ (∃ x, xs[j]? = some x ∧ q x = true) ∧ ∀ (i : Nat) x, i < j → xs[i]? = some x → q x = false
theorem IdxOf.ge {α : Type} {q : α → Bool} {xs : List α} {r : Int} (h : IdxOf q xs r) : decide (0 ≤ r) = xs.any q := by
  rcases h with ⟨rfl, h⟩ | ⟨j, rfl, ⟨x, hx, hq⟩, _⟩
  · rw [h]; rfl
  · rw [List.any_eq_true.2 ⟨x, List.mem_of_getElem? hx, hq⟩]; exact decide_eq_true (Int.natCast_nonneg j)


/-- a test of an element, by a function value that only lays new memory -/
def TestsBlock (k : Nat) (caps : Array Value) (q : Blk → Bool) (xs : List Blk) (w : World) : Prop :=
  ∀ (x : Blk) (a1 : Option Addr) (l1 c1 : Nat) (f : List Nat) (w1 : World), x ∈ xs → Chg [] w w1 → blkL.rep w1 [.int .i64 x.stamp, .slice a1 l1 c1] x f → Calls Tryz.prog k (#[.agg #[.int .i64 x.stamp, .slice a1 l1 c1]] ++ caps) w1 fun e w' => e = .returned (.bool (q x)) ∧ Chg [] w1 w'
set_option maxRecDepth 100000 in
set_option maxHeartbeats 1000000 in
theorem idxBlock_any (k : Nat) (caps : Array Value) (q : Blk → Bool) (a : Option Addr) (la ca : Nat) (xs : List Blk) (f : List Nat) (w : World) (ha : blkL.sl w a la ca xs f) (hcf : ∀ (args : Array Value) (w : World), (callFunc k args).run Tryz.prog w = .ok (.enter k args) w) (hq : TestsBlock k caps q xs w) :
    Calls Tryz.prog 256 #[.slice a la ca, .func (.func k) #[] caps] w fun e w' => ∃ r : Int, e = .returned (.int .i64 r) ∧ RowKit.Hid (IdxOf q xs r) ∧ Chg [] w w' := by
  have hla := blkL.sl_max ha
  have HA := Lib.hid ha
  have HL := Lib.hid ha.1
  have HQ := Lib.hid hq
  clear ha hq
  go_enter Tryz.func256, Tryz.ntmps256
  go_wp2
  go_loopw [5, 8] (fun _ i wr => ∃ (j : Nat) (Wr : World), Wr = wr ∧ j ≤ la ∧ i = .int .i64 j ∧ RowKit.Hid (∀ (i : Nat) x, i < j → xs[i]? = some x → q x = false) ∧ Chg [] w wr) (fun _ i _ => la - (intOf i).toNat)
  case atStart => exact ⟨0, _, rfl, by omega, rfl, fun j x hj => by omega, Chg.refl _ _⟩
  case round =>
    obtain ⟨j, wr, rfl, hj, rfl, HK, hc⟩ := hrel
    have HC := Lib.hid hc
    by_cases hlt : j < la
    · obtain ⟨x, b, off, a1, l1, c1, fx, HX, rfl, hc0, hc1, HXS⟩ := block_at (blkL.sl_ext HA.out hc) hlt
      have HT := Lib.hid (HQ.out x a1 l1 c1 fx wr (List.mem_of_getElem? HX.out.1) HC.out HXS.out)
      clear hc
      cases hqx : q x
      · rw [hqx] at HT
        have HK2 := Lib.hid (show ∀ (i : Nat) y, i < j + 1 → xs[i]? = some y → q y = false from fun i y hi hy => by
          by_cases e : i = j
          · subst e; rw [Option.some.inj (hy.symm.trans HX.out.1)]; exact hqx
          · exact HK.out i y (by omega) hy)
        clear hqx
        go_wp2_with fail
        refine HT.out.mono ?_
        rintro e w1 ⟨rfl, hc1⟩
        have HC1 := Lib.hid (HC.out.trans0 hc1)
        clear hc1
        go_wp2_with fail
        go_roundw
        case rel => exact ⟨j + 1, _, rfl, by omega, by go_num, HK2, HC1.out⟩
        case measure => simp [intOf]; omega
      · rw [hqx] at HT
        have HR := Lib.hid (show IdxOf q xs (j : Int) from .inr ⟨j, rfl, ⟨x, HX.out.1, hqx⟩, HK.out⟩)
        clear hqx
        go_wp2_with fail
        refine HT.out.mono ?_
        rintro e w1 ⟨rfl, hc1⟩
        have HC1 := Lib.hid (HC.out.trans0 hc1)
        clear hc1
        go_wp2_with fail
        go_ret
        exact ⟨_, rfl, HR, HC1.out⟩
    · obtain rfl : j = la := by omega
      have HR := Lib.hid (show IdxOf q xs (-1) from .inl ⟨rfl, by
        rw [List.any_eq_false]
        intro x hx h1
        obtain ⟨i, hi, rfl⟩ := List.getElem_of_mem hx
        have h2 := HK.out i _ (by have := HL.out; omega) (List.getElem?_eq_getElem hi)
        rw [h2] at h1; cases h1⟩)
      clear hc
      go_wp2
      go_ret
      exact ⟨_, rfl, HR, HC.out⟩
set_option maxHeartbeats 400000 in
theorem contBlock_any (k : Nat) (caps : Array Value) (q : Blk → Bool) (a : Option Addr) (la ca : Nat) (xs : List Blk) (f : List Nat) (w : World) (ha : blkL.sl w a la ca xs f) (hcf : ∀ (args : Array Value) (w : World), (callFunc k args).run Tryz.prog w = .ok (.enter k args) w) (hq : TestsBlock k caps q xs w) :
    Calls Tryz.prog 218 #[.slice a la ca, .func (.func k) #[] caps] w fun e w' => e = .returned (.bool (xs.any q)) ∧ Chg [] w w' := by
  have HI := Lib.hid (idxBlock_any k caps q a la ca xs f w ha hcf hq)
  clear ha hq hcf
  go_enter Tryz.func218, Tryz.ntmps218
  go_wp2_with fail
  refine HI.out.mono ?_
  rintro e w1 ⟨r, rfl, HR, hc1⟩
  have HC1 := Lib.hid hc1
  have HD := Lib.hid HR.out.ge
  clear hc1
  go_wp2_with fail
  go_ret
  refine ⟨?_, HC1.out⟩
  rw [← HD.out]
  rfl


/-- a test of an element, by a function value that only lays new memory -/
def TestsTape (k : Nat) (caps : Array Value) (q : Tap → Bool) (xs : List Tap) (w : World) : Prop :=
  ∀ (x : Tap) (a1 : Option Addr) (l1 c1 : Nat) (f : List Nat) (w1 : World), x ∈ xs → Chg [] w w1 → tapL.rep w1 [.bool x.wiped, .slice a1 l1 c1] x f → Calls Tryz.prog k (#[.agg #[.bool x.wiped, .slice a1 l1 c1]] ++ caps) w1 fun e w' => e = .returned (.bool (q x)) ∧ Chg [] w1 w'
set_option maxRecDepth 100000 in
set_option maxHeartbeats 1000000 in
theorem idxTape_any (k : Nat) (caps : Array Value) (q : Tap → Bool) (a : Option Addr) (la ca : Nat) (xs : List Tap) (f : List Nat) (w : World) (ha : tapL.sl w a la ca xs f) (hcf : ∀ (args : Array Value) (w : World), (callFunc k args).run Tryz.prog w = .ok (.enter k args) w) (hq : TestsTape k caps q xs w) :
    Calls Tryz.prog 257 #[.slice a la ca, .func (.func k) #[] caps] w fun e w' => ∃ r : Int, e = .returned (.int .i64 r) ∧ RowKit.Hid (IdxOf q xs r) ∧ Chg [] w w' := by
  have hla := tapL.sl_max ha
  have HA := Lib.hid ha
  have HL := Lib.hid ha.1
  have HQ := Lib.hid hq
  clear ha hq
  go_enter Tryz.func257, Tryz.ntmps257
  go_wp2
  go_loopw [5, 8] (fun _ i wr => ∃ (j : Nat) (Wr : World), Wr = wr ∧ j ≤ la ∧ i = .int .i64 j ∧ RowKit.Hid (∀ (i : Nat) x, i < j → xs[i]? = some x → q x = false) ∧ Chg [] w wr) (fun _ i _ => la - (intOf i).toNat)
  case atStart => exact ⟨0, _, rfl, by omega, rfl, fun j x hj => by omega, Chg.refl _ _⟩
  case round =>
    obtain ⟨j, wr, rfl, hj, rfl, HK, hc⟩ := hrel
    have HC := Lib.hid hc
    by_cases hlt : j < la
    · obtain ⟨x, b, off, a1, l1, c1, fx, HX, rfl, hc0, hc1, HXS⟩ := tape_at (tapL.sl_ext HA.out hc) hlt
      have HT := Lib.hid (HQ.out x a1 l1 c1 fx wr (List.mem_of_getElem? HX.out.1) HC.out HXS.out)
      clear hc
      cases hqx : q x
      · rw [hqx] at HT
        have HK2 := Lib.hid (show ∀ (i : Nat) y, i < j + 1 → xs[i]? = some y → q y = false from fun i y hi hy => by
          by_cases e : i = j
          · subst e; rw [Option.some.inj (hy.symm.trans HX.out.1)]; exact hqx
          · exact HK.out i y (by omega) hy)
        clear hqx
        go_wp2_with fail
        refine HT.out.mono ?_
        rintro e w1 ⟨rfl, hc1⟩
        have HC1 := Lib.hid (HC.out.trans0 hc1)
        clear hc1
        go_wp2_with fail
        go_roundw
        case rel => exact ⟨j + 1, _, rfl, by omega, by go_num, HK2, HC1.out⟩
        case measure => simp [intOf]; omega
      · rw [hqx] at HT
        have HR := Lib.hid (show IdxOf q xs (j : Int) from .inr ⟨j, rfl, ⟨x, HX.out.1, hqx⟩, HK.out⟩)
        clear hqx
        go_wp2_with fail
        refine HT.out.mono ?_
        rintro e w1 ⟨rfl, hc1⟩
        have HC1 := Lib.hid (HC.out.trans0 hc1)
        clear hc1
        go_wp2_with fail
        go_ret
        exact ⟨_, rfl, HR, HC1.out⟩
    · obtain rfl : j = la := by omega
      have HR := Lib.hid (show IdxOf q xs (-1) from .inl ⟨rfl, by
        rw [List.any_eq_false]
        intro x hx h1
        obtain ⟨i, hi, rfl⟩ := List.getElem_of_mem hx
        have h2 := HK.out i _ (by have := HL.out; omega) (List.getElem?_eq_getElem hi)
        rw [h2] at h1; cases h1⟩)
      clear hc
      go_wp2
      go_ret
      exact ⟨_, rfl, HR, HC.out⟩
set_option maxHeartbeats 400000 in
theorem contTape_any (k : Nat) (caps : Array Value) (q : Tap → Bool) (a : Option Addr) (la ca : Nat) (xs : List Tap) (f : List Nat) (w : World) (ha : tapL.sl w a la ca xs f) (hcf : ∀ (args : Array Value) (w : World), (callFunc k args).run Tryz.prog w = .ok (.enter k args) w) (hq : TestsTape k caps q xs w) :
    Calls Tryz.prog 220 #[.slice a la ca, .func (.func k) #[] caps] w fun e w' => e = .returned (.bool (xs.any q)) ∧ Chg [] w w' := by
  have HI := Lib.hid (idxTape_any k caps q a la ca xs f w ha hcf hq)
  clear ha hq hcf
  go_enter Tryz.func220, Tryz.ntmps220
  go_wp2_with fail
  refine HI.out.mono ?_
  rintro e w1 ⟨r, rfl, HR, hc1⟩
  have HC1 := Lib.hid hc1
  have HD := Lib.hid HR.out.ge
  clear hc1
  go_wp2_with fail
  go_ret
  refine ⟨?_, HC1.out⟩
  rw [← HD.out]
  rfl


/-- a test of an element, by a function value that only lays new memory -/
def TestsRec (k : Nat) (caps : Array Value) (q : Rec → Bool) (xs : List Rec) (w : World) : Prop :=
  ∀ (x : Rec) (a6 : Option Addr) (l6 c6 : Nat) (a7 : Option Addr) (l7 c7 : Nat) (a8 : Option Addr) (l8 c8 : Nat) (f : List Nat) (w1 : World), x ∈ xs → Chg [] w w1 → recL.rep w1 [.int .i64 x.kind, .int .i64 x.seq, .string x.name, .int .i64 x.length, .int .i64 x.group, .int .i64 x.row, .slice a6 l6 c6, .slice a7 l7 c7, .slice a8 l8 c8] x f → Calls Tryz.prog k (#[.agg #[.int .i64 x.kind, .int .i64 x.seq, .string x.name, .int .i64 x.length, .int .i64 x.group, .int .i64 x.row, .slice a6 l6 c6, .slice a7 l7 c7, .slice a8 l8 c8]] ++ caps) w1 fun e w' => e = .returned (.bool (q x)) ∧ Chg [] w1 w'
set_option maxRecDepth 100000 in
set_option maxHeartbeats 1000000 in
theorem idxRec_any (k : Nat) (caps : Array Value) (q : Rec → Bool) (a : Option Addr) (la ca : Nat) (xs : List Rec) (f : List Nat) (w : World) (ha : recL.sl w a la ca xs f) (hcf : ∀ (args : Array Value) (w : World), (callFunc k args).run Tryz.prog w = .ok (.enter k args) w) (hq : TestsRec k caps q xs w) :
    Calls Tryz.prog 201 #[.slice a la ca, .func (.func k) #[] caps] w fun e w' => ∃ r : Int, e = .returned (.int .i64 r) ∧ RowKit.Hid (IdxOf q xs r) ∧ Chg [] w w' := by
  have hla := recL.sl_max ha
  have HA := Lib.hid ha
  have HL := Lib.hid ha.1
  have HQ := Lib.hid hq
  clear ha hq
  go_enter Tryz.func201, Tryz.ntmps201
  go_wp2
  go_loopw [5, 8] (fun _ i wr => ∃ (j : Nat) (Wr : World), Wr = wr ∧ j ≤ la ∧ i = .int .i64 j ∧ RowKit.Hid (∀ (i : Nat) x, i < j → xs[i]? = some x → q x = false) ∧ Chg [] w wr) (fun _ i _ => la - (intOf i).toNat)
  case atStart => exact ⟨0, _, rfl, by omega, rfl, fun j x hj => by omega, Chg.refl _ _⟩
  case round =>
    obtain ⟨j, wr, rfl, hj, rfl, HK, hc⟩ := hrel
    have HC := Lib.hid hc
    by_cases hlt : j < la
    · obtain ⟨x, b, off, a6, l6, c6, a7, l7, c7, a8, l8, c8, fx, HX, rfl, hc0, hc1, hc2, hc3, hc4, hc5, hc6, hc7, hc8, HXS⟩ := rec_at (recL.sl_ext HA.out hc) hlt
      have HT := Lib.hid (HQ.out x a6 l6 c6 a7 l7 c7 a8 l8 c8 fx wr (List.mem_of_getElem? HX.out.1) HC.out HXS.out)
      clear hc
      cases hqx : q x
      · rw [hqx] at HT
        have HK2 := Lib.hid (show ∀ (i : Nat) y, i < j + 1 → xs[i]? = some y → q y = false from fun i y hi hy => by
          by_cases e : i = j
          · subst e; rw [Option.some.inj (hy.symm.trans HX.out.1)]; exact hqx
          · exact HK.out i y (by omega) hy)
        clear hqx
        go_wp2_with fail
        refine HT.out.mono ?_
        rintro e w1 ⟨rfl, hc1⟩
        have HC1 := Lib.hid (HC.out.trans0 hc1)
        clear hc1
        go_wp2_with fail
        go_roundw
        case rel => exact ⟨j + 1, _, rfl, by omega, by go_num, HK2, HC1.out⟩
        case measure => simp [intOf]; omega
      · rw [hqx] at HT
        have HR := Lib.hid (show IdxOf q xs (j : Int) from .inr ⟨j, rfl, ⟨x, HX.out.1, hqx⟩, HK.out⟩)
        clear hqx
        go_wp2_with fail
        refine HT.out.mono ?_
        rintro e w1 ⟨rfl, hc1⟩
        have HC1 := Lib.hid (HC.out.trans0 hc1)
        clear hc1
        go_wp2_with fail
        go_ret
        exact ⟨_, rfl, HR, HC1.out⟩
    · obtain rfl : j = la := by omega
      have HR := Lib.hid (show IdxOf q xs (-1) from .inl ⟨rfl, by
        rw [List.any_eq_false]
        intro x hx h1
        obtain ⟨i, hi, rfl⟩ := List.getElem_of_mem hx
        have h2 := HK.out i _ (by have := HL.out; omega) (List.getElem?_eq_getElem hi)
        rw [h2] at h1; cases h1⟩)
      clear hc
      go_wp2
      go_ret
      exact ⟨_, rfl, HR, HC.out⟩
set_option maxHeartbeats 400000 in
theorem contRec_any (k : Nat) (caps : Array Value) (q : Rec → Bool) (a : Option Addr) (la ca : Nat) (xs : List Rec) (f : List Nat) (w : World) (ha : recL.sl w a la ca xs f) (hcf : ∀ (args : Array Value) (w : World), (callFunc k args).run Tryz.prog w = .ok (.enter k args) w) (hq : TestsRec k caps q xs w) :
    Calls Tryz.prog 235 #[.slice a la ca, .func (.func k) #[] caps] w fun e w' => e = .returned (.bool (xs.any q)) ∧ Chg [] w w' := by
  have HI := Lib.hid (idxRec_any k caps q a la ca xs f w ha hcf hq)
  clear ha hq hcf
  go_enter Tryz.func235, Tryz.ntmps235
  go_wp2_with fail
  refine HI.out.mono ?_
  rintro e w1 ⟨r, rfl, HR, hc1⟩
  have HC1 := Lib.hid hc1
  have HD := Lib.hid HR.out.ge
  clear hc1
  go_wp2_with fail
  go_ret
  refine ⟨?_, HC1.out⟩
  rw [← HD.out]
  rfl

end Go.Proofs.YtphmpimgbmedbaaGreat
