
/- The program's SameRec returns what the reference returns and leaves its arguments, for all arguments: the law FnExactSameRec returns true.
Conditions: none. -/
import Derived.Test.YtlnclkjmlpipgaaRows
import Derived.Test.YtlnclkjmlpipgaaAt
import Derived.Test.YtlnclkjmlpipgaaRcd
import Derived.Deep.RegionHeld3
import Derived.ShutString
import Derived.ChangeOld
namespace Go.Proofs.Ytlnclkjmlpipgaa
open Go.ChangeShapes Go.WideShapes Go.ChangeAt Go.RowKit

set_option maxRecDepth 100000 in
set_option maxHeartbeats 4000000 in
theorem walk_FnExactSameRec (W : World) (cs0 : Array Value) (x0 : Rec) (fp0 : List Nat) (o0 : recL.rep W cs0.toList x0 fp0) (cs1 : Array Value) (x1 : Rec) (fp1 : List Nat) (o1 : recL.rep W cs1.toList x1 fp1) :
    Calls Try.prog 4 #[.agg cs0, .agg cs1] W fun e w' => e = .returned (.bool true) ∧ Chg [] W w' := by
  have HC : RowKit.Hid (Chg [] W W) := Chg.refl _ _
  obtain ⟨a6o0, l6o0, c6o0, _, a7o0, l7o0, c7o0, _, a8o0, l8o0, c8o0, _, ex, -⟩ := recL_iff.1 o0
  obtain rfl := Array.toList_inj.1 (ex.trans (List.toList_toArray).symm); clear ex
  have HO0 := Lib.hid o0; clear o0
  obtain ⟨t0, ht0⟩ : ∃ t, t = totRec x0 := ⟨_, rfl⟩
  have n0 : 0 ≤ t0 := by rw [ht0]; exact totRec_nonneg _
  have HT0 := Lib.hid ht0; clear ht0
  obtain ⟨a6o1, l6o1, c6o1, _, a7o1, l7o1, c7o1, _, a8o1, l8o1, c8o1, _, ex, -⟩ := recL_iff.1 o1
  obtain rfl := Array.toList_inj.1 (ex.trans (List.toList_toArray).symm); clear ex
  have HO1 := Lib.hid o1; clear o1
  obtain ⟨t1, ht1⟩ : ∃ t, t = totRec x1 := ⟨_, rfl⟩
  have n1 : 0 ≤ t1 := by rw [ht1]; exact totRec_nonneg _
  have HT1 := Lib.hid ht1; clear ht1
  obtain ⟨r, hr⟩ : ∃ r, r = sameV x0 x1 := ⟨_, rfl⟩
  have HR := Lib.hid hr; clear hr
  have hrr : (r != r) = false := by simp
  go_enter Try.func4, Try.ntmps4
  go_wp2_with fail
  refine (szRec_any x0 #[.int .i64 x0.kind, .int .i64 x0.seq, .string x0.name, .int .i64 x0.length, .int .i64 x0.group, .int .i64 x0.row, .slice a6o0 l6o0 c6o0, .slice a7o0 l7o0 c7o0, .slice a8o0 l8o0 c8o0] fp0 (1048576) _ (Lay.ext recL HO0.out (Chg.alloc (Chg.alloc HC.out (.cells #[.int .i64 x0.kind, .int .i64 x0.seq, .string x0.name, .int .i64 x0.length, .int .i64 x0.group, .int .i64 x0.row, .slice a6o0 l6o0 c6o0, .slice a7o0 l7o0 c7o0, .slice a8o0 l8o0 c8o0] 34)) (.cells #[.int .i64 x1.kind, .int .i64 x1.seq, .string x1.name, .int .i64 x1.length, .int .i64 x1.group, .int .i64 x1.row, .slice a6o1 l6o1 c6o1, .slice a7o1 l7o1 c7o1, .slice a8o1 l8o1 c8o1] 34))) (by omega) (by omega)).mono ?_
  rintro e w1 ⟨rfl, hc⟩
  rw [← HT0.out]
  have h := hc.keepb (b := W.heap.size) (o := .cells #[.int .i64 x0.kind, .int .i64 x0.seq, .string x0.name, .int .i64 x0.length, .int .i64 x0.group, .int .i64 x0.row, .slice a6o0 l6o0 c6o0, .slice a7o0 l7o0 c7o0, .slice a8o0 l8o0 c8o0] 34) (by refine keep_alloc ?_ _; exact new_at (by simp) _) (by simp); have cA := cellsOf h; have lA := ltOf h; have HBA := Lib.hid h; clear h
  have h := hc.keepb (b := W.heap.size + 1) (o := .cells #[.int .i64 x1.kind, .int .i64 x1.seq, .string x1.name, .int .i64 x1.length, .int .i64 x1.group, .int .i64 x1.row, .slice a6o1 l6o1 c6o1, .slice a7o1 l7o1 c7o1, .slice a8o1 l8o1 c8o1] 34) (by exact new_at (by simp) _) (by simp); have cB := cellsOf h; have lB := ltOf h; have HBB := Lib.hid h; clear h
  have h := Chg.trans0 (Chg.alloc (Chg.alloc HC.out (.cells #[.int .i64 x0.kind, .int .i64 x0.seq, .string x0.name, .int .i64 x0.length, .int .i64 x0.group, .int .i64 x0.row, .slice a6o0 l6o0 c6o0, .slice a7o0 l7o0 c7o0, .slice a8o0 l8o0 c8o0] 34)) (.cells #[.int .i64 x1.kind, .int .i64 x1.seq, .string x1.name, .int .i64 x1.length, .int .i64 x1.group, .int .i64 x1.row, .slice a6o1 l6o1 c6o1, .slice a7o1 l7o1 c7o1, .slice a8o1 l8o1 c8o1] 34)) hc; clear HC; have HC := Lib.hid h; clear h
  clear hc
  by_cases m0 : 1048576 - t0 < 0
  · rw [if_pos m0]
    go_wp2_with fail
    go_ret
    exact ⟨rfl, HC.out⟩
  rw [if_neg m0]
  go_wp2_with fail
  refine (szRec_any x1 #[.int .i64 x1.kind, .int .i64 x1.seq, .string x1.name, .int .i64 x1.length, .int .i64 x1.group, .int .i64 x1.row, .slice a6o1 l6o1 c6o1, .slice a7o1 l7o1 c7o1, .slice a8o1 l8o1 c8o1] fp1 (1048576 - t0) _ (Lay.ext recL HO1.out HC.out) (by omega) (by omega)).mono ?_
  rintro e w2 ⟨rfl, hc⟩
  rw [← HT1.out]
  have h := hc.keepb (b := W.heap.size) (o := .cells #[.int .i64 x0.kind, .int .i64 x0.seq, .string x0.name, .int .i64 x0.length, .int .i64 x0.group, .int .i64 x0.row, .slice a6o0 l6o0 c6o0, .slice a7o0 l7o0 c7o0, .slice a8o0 l8o0 c8o0] 34) (by exact HBA.out) (by simp); clear HBA cA lA; have cA := cellsOf h; have lA := ltOf h; have HBA := Lib.hid h; clear h
  have h := hc.keepb (b := W.heap.size + 1) (o := .cells #[.int .i64 x1.kind, .int .i64 x1.seq, .string x1.name, .int .i64 x1.length, .int .i64 x1.group, .int .i64 x1.row, .slice a6o1 l6o1 c6o1, .slice a7o1 l7o1 c7o1, .slice a8o1 l8o1 c8o1] 34) (by exact HBB.out) (by simp); clear HBB cB lB; have cB := cellsOf h; have lB := ltOf h; have HBB := Lib.hid h; clear h
  have h := Chg.trans0 HC.out hc; clear HC; have HC := Lib.hid h; clear h
  clear hc
  by_cases m1 : 1048576 - t0 - t1 < 0
  · rw [if_pos m1]
    go_wp2_with fail
    go_ret
    exact ⟨rfl, HC.out⟩
  rw [if_neg m1]
  have HZ0 := Lib.hid (show totRec x0 ≤ 1048576 by rw [← HT0.out]; omega)
  have HZ1 := Lib.hid (show totRec x1 ≤ 1048576 by rw [← HT1.out]; omega)
  go_wp2_with fail
  have hS : (∀ j, (w2.drew).cell? ⟨W.heap.size, j, none⟩ = (#[.int .i64 x0.kind, .int .i64 x0.seq, .string x0.name, .int .i64 x0.length, .int .i64 x0.group, .int .i64 x0.row, .slice a6o0 l6o0 c6o0, .slice a7o0 l7o0 c7o0, .slice a8o0 l8o0 c8o0] : Array Value)[j]?) ∧ (∀ j, (w2.drew).cell? ⟨W.heap.size + 1, j, none⟩ = (#[.int .i64 x1.kind, .int .i64 x1.seq, .string x1.name, .int .i64 x1.length, .int .i64 x1.group, .int .i64 x1.row, .slice a6o1 l6o1 c6o1, .slice a7o1 l7o1 c7o1, .slice a8o1 l8o1 c8o1] : Array Value)[j]?) := ⟨cellsOf (b := W.heap.size) (show (w2.drew).heap[W.heap.size]? = some (.cells #[.int .i64 x0.kind, .int .i64 x0.seq, .string x0.name, .int .i64 x0.length, .int .i64 x0.group, .int .i64 x0.row, .slice a6o0 l6o0 c6o0, .slice a7o0 l7o0 c7o0, .slice a8o0 l8o0 c8o0] 34) from (by refine keep_drew ?_; exact HBA.out)), cellsOf (b := W.heap.size + 1) (show (w2.drew).heap[W.heap.size + 1]? = some (.cells #[.int .i64 x1.kind, .int .i64 x1.seq, .string x1.name, .int .i64 x1.length, .int .i64 x1.group, .int .i64 x1.row, .slice a6o1 l6o1 c6o1, .slice a7o1 l7o1 c7o1, .slice a8o1 l8o1 c8o1] 34) from (by refine keep_drew ?_; exact HBB.out))⟩
  have hSz := hS
  go_region_held3 (fun w' => (∀ j, w'.cell? ⟨W.heap.size, j, none⟩ = (#[.int .i64 x0.kind, .int .i64 x0.seq, .string x0.name, .int .i64 x0.length, .int .i64 x0.group, .int .i64 x0.row, .slice a6o0 l6o0 c6o0, .slice a7o0 l7o0 c7o0, .slice a8o0 l8o0 c8o0] : Array Value)[j]?) ∧ (∀ j, w'.cell? ⟨W.heap.size + 1, j, none⟩ = (#[.int .i64 x1.kind, .int .i64 x1.seq, .string x1.name, .int .i64 x1.length, .int .i64 x1.group, .int .i64 x1.row, .slice a6o1 l6o1 c6o1, .slice a7o1 l7o1 c7o1, .slice a8o1 l8o1 c8o1] : Array Value)[j]?))
    (first | assumption | fail)
    (first
      | (have mk := MK2
         go_at_call 22
         refine (spec_same_any x0 x1 z3 z4 p3 p4 _ HS0.out HS1.out).mono ?_
         rintro e w5 ⟨rfl, hc⟩
         rw [← HR.out]
         have h := (Lay.ext recL HS0.out hc); clear HS0; have HS0 := Lib.hid h; clear h
         have h := (Lay.ext recL HS1.out hc); clear HS1; have HS1 := Lib.hid h; clear h
         have h := Fresh.chg HFS0.out hc; clear HFS0; have HFS0 := Lib.hid h; clear h
         have h := Fresh.chg HFS1.out hc; clear HFS1; have HFS1 := Lib.hid h; clear h
         have h := hc.keepb (b := W.heap.size) (o := .cells #[.int .i64 x0.kind, .int .i64 x0.seq, .string x0.name, .int .i64 x0.length, .int .i64 x0.group, .int .i64 x0.row, .slice a6o0 l6o0 c6o0, .slice a7o0 l7o0 c7o0, .slice a8o0 l8o0 c8o0] 34) (by exact HBA.out) (by simp); clear HBA cA lA; have cA := cellsOf h; have lA := ltOf h; have HBA := Lib.hid h; clear h
         have h := hc.keepb (b := W.heap.size + 1) (o := .cells #[.int .i64 x1.kind, .int .i64 x1.seq, .string x1.name, .int .i64 x1.length, .int .i64 x1.group, .int .i64 x1.row, .slice a6o1 l6o1 c6o1, .slice a7o1 l7o1 c7o1, .slice a8o1 l8o1 c8o1] 34) (by exact HBB.out) (by simp); clear HBB cB lB; have cB := cellsOf h; have lB := ltOf h; have HBB := Lib.hid h; clear h
         have h := Chg.trans0 HC.out hc; clear HC; have HC := Lib.hid h; clear h
         clear hc
         have hS : (∀ j, w5.cell? ⟨W.heap.size, j, none⟩ = (#[.int .i64 x0.kind, .int .i64 x0.seq, .string x0.name, .int .i64 x0.length, .int .i64 x0.group, .int .i64 x0.row, .slice a6o0 l6o0 c6o0, .slice a7o0 l7o0 c7o0, .slice a8o0 l8o0 c8o0] : Array Value)[j]?) ∧ (∀ j, w5.cell? ⟨W.heap.size + 1, j, none⟩ = (#[.int .i64 x1.kind, .int .i64 x1.seq, .string x1.name, .int .i64 x1.length, .int .i64 x1.group, .int .i64 x1.row, .slice a6o1 l6o1 c6o1, .slice a7o1 l7o1 c7o1, .slice a8o1 l8o1 c8o1] : Array Value)[j]?) := ⟨cA, cB⟩
         have MK3 := True.intro)
      | (have mk := MK1
         go_at_call 23
         refine (toRec_any x1 #[.int .i64 x1.kind, .int .i64 x1.seq, .string x1.name, .int .i64 x1.length, .int .i64 x1.group, .int .i64 x1.row, .slice a6o1 l6o1 c6o1, .slice a7o1 l7o1 c7o1, .slice a8o1 l8o1 c8o1] fp1 _ (Lay.ext recL HO1.out HC.out) HZ1.out).mono ?_
         rintro e w4 ⟨z4, p4, rfl, hs, hf, hc⟩
         have hG := fun (x : Nat) (hx : x ∈ p4) => Nat.le_trans HC.out.size (hf.2 x hx).1
         have HGS1 := Lib.hid hG; clear hG
         have h := (Lay.ext recL HS0.out hc); clear HS0; have HS0 := Lib.hid h; clear h
         have h := Fresh.chg HFS0.out hc; clear HFS0; have HFS0 := Lib.hid h; clear h
         have h := hc.keepb (b := W.heap.size) (o := .cells #[.int .i64 x0.kind, .int .i64 x0.seq, .string x0.name, .int .i64 x0.length, .int .i64 x0.group, .int .i64 x0.row, .slice a6o0 l6o0 c6o0, .slice a7o0 l7o0 c7o0, .slice a8o0 l8o0 c8o0] 34) (by exact HBA.out) (by simp); clear HBA cA lA; have cA := cellsOf h; have lA := ltOf h; have HBA := Lib.hid h; clear h
         have h := hc.keepb (b := W.heap.size + 1) (o := .cells #[.int .i64 x1.kind, .int .i64 x1.seq, .string x1.name, .int .i64 x1.length, .int .i64 x1.group, .int .i64 x1.row, .slice a6o1 l6o1 c6o1, .slice a7o1 l7o1 c7o1, .slice a8o1 l8o1 c8o1] 34) (by exact HBB.out) (by simp); clear HBB cB lB; have cB := cellsOf h; have lB := ltOf h; have HBB := Lib.hid h; clear h
         have h := Chg.trans0 HC.out hc; clear HC; have HC := Lib.hid h; clear h
         have HS1 := Lib.hid hs; have HFS1 := Lib.hid (hf.mono (Nat.zero_le _)); clear hs hf
         clear hc
         have hS : (∀ j, w4.cell? ⟨W.heap.size, j, none⟩ = (#[.int .i64 x0.kind, .int .i64 x0.seq, .string x0.name, .int .i64 x0.length, .int .i64 x0.group, .int .i64 x0.row, .slice a6o0 l6o0 c6o0, .slice a7o0 l7o0 c7o0, .slice a8o0 l8o0 c8o0] : Array Value)[j]?) ∧ (∀ j, w4.cell? ⟨W.heap.size + 1, j, none⟩ = (#[.int .i64 x1.kind, .int .i64 x1.seq, .string x1.name, .int .i64 x1.length, .int .i64 x1.group, .int .i64 x1.row, .slice a6o1 l6o1 c6o1, .slice a7o1 l7o1 c7o1, .slice a8o1 l8o1 c8o1] : Array Value)[j]?) := ⟨cA, cB⟩
         have MK2 := True.intro)
      | (go_at_call 23
         refine (toRec_any x0 #[.int .i64 x0.kind, .int .i64 x0.seq, .string x0.name, .int .i64 x0.length, .int .i64 x0.group, .int .i64 x0.row, .slice a6o0 l6o0 c6o0, .slice a7o0 l7o0 c7o0, .slice a8o0 l8o0 c8o0] fp0 _ (Lay.ext recL HO0.out (Chg.drew HC.out)) HZ0.out).mono ?_
         rintro e w3 ⟨z3, p3, rfl, hs, hf, hc⟩
         have hG := fun (x : Nat) (hx : x ∈ p3) => Nat.le_trans HC.out.size (Nat.le_trans (show w2.heap.size ≤ (w2.drew).heap.size by simp) (hf.2 x hx).1)
         have HGS0 := Lib.hid hG; clear hG
         have h := hc.keepb (b := W.heap.size) (o := .cells #[.int .i64 x0.kind, .int .i64 x0.seq, .string x0.name, .int .i64 x0.length, .int .i64 x0.group, .int .i64 x0.row, .slice a6o0 l6o0 c6o0, .slice a7o0 l7o0 c7o0, .slice a8o0 l8o0 c8o0] 34) (by refine keep_drew ?_; exact HBA.out) (by simp); clear HBA cA lA; have cA := cellsOf h; have lA := ltOf h; have HBA := Lib.hid h; clear h
         have h := hc.keepb (b := W.heap.size + 1) (o := .cells #[.int .i64 x1.kind, .int .i64 x1.seq, .string x1.name, .int .i64 x1.length, .int .i64 x1.group, .int .i64 x1.row, .slice a6o1 l6o1 c6o1, .slice a7o1 l7o1 c7o1, .slice a8o1 l8o1 c8o1] 34) (by refine keep_drew ?_; exact HBB.out) (by simp); clear HBB cB lB; have cB := cellsOf h; have lB := ltOf h; have HBB := Lib.hid h; clear h
         have h := Chg.trans0 (Chg.drew HC.out) hc; clear HC; have HC := Lib.hid h; clear h
         have HS0 := Lib.hid hs; have HFS0 := Lib.hid (hf.mono (Nat.zero_le _)); clear hs hf
         clear hc
         have hS : (∀ j, w3.cell? ⟨W.heap.size, j, none⟩ = (#[.int .i64 x0.kind, .int .i64 x0.seq, .string x0.name, .int .i64 x0.length, .int .i64 x0.group, .int .i64 x0.row, .slice a6o0 l6o0 c6o0, .slice a7o0 l7o0 c7o0, .slice a8o0 l8o0 c8o0] : Array Value)[j]?) ∧ (∀ j, w3.cell? ⟨W.heap.size + 1, j, none⟩ = (#[.int .i64 x1.kind, .int .i64 x1.seq, .string x1.name, .int .i64 x1.length, .int .i64 x1.group, .int .i64 x1.row, .slice a6o1 l6o1 c6o1, .slice a7o1 l7o1 c7o1, .slice a8o1 l8o1 c8o1] : Array Value)[j]?) := ⟨cA, cB⟩
         have MK1 := True.intro))
  go_wp2_with fail
  refine (toRec_any x0 #[.int .i64 x0.kind, .int .i64 x0.seq, .string x0.name, .int .i64 x0.length, .int .i64 x0.group, .int .i64 x0.row, .slice a6o0 l6o0 c6o0, .slice a7o0 l7o0 c7o0, .slice a8o0 l8o0 c8o0] fp0 _ (Lay.ext recL HO0.out HC.out) HZ0.out).mono ?_
  rintro e w6 ⟨z6, p6, rfl, hs, hf, hc⟩
  obtain ⟨a6q6, l6q6, c6q6, _, a7q6, l7q6, c7q6, _, a8q6, l8q6, c8q6, _, ex, -⟩ := recL_iff.1 hs
  obtain rfl := Array.toList_inj.1 (ex.trans (List.toList_toArray).symm); clear ex
  have hG := fun (x : Nat) (hx : x ∈ p6) => Nat.le_trans HC.out.size (hf.2 x hx).1
  have HGX0 := Lib.hid hG; clear hG
  have h := hc.keepb (b := W.heap.size) (o := .cells #[.int .i64 x0.kind, .int .i64 x0.seq, .string x0.name, .int .i64 x0.length, .int .i64 x0.group, .int .i64 x0.row, .slice a6o0 l6o0 c6o0, .slice a7o0 l7o0 c7o0, .slice a8o0 l8o0 c8o0] 34) (by exact HBA.out) (by simp); clear HBA cA lA; have cA := cellsOf h; have lA := ltOf h; have HBA := Lib.hid h; clear h
  have h := hc.keepb (b := W.heap.size + 1) (o := .cells #[.int .i64 x1.kind, .int .i64 x1.seq, .string x1.name, .int .i64 x1.length, .int .i64 x1.group, .int .i64 x1.row, .slice a6o1 l6o1 c6o1, .slice a7o1 l7o1 c7o1, .slice a8o1 l8o1 c8o1] 34) (by exact HBB.out) (by simp); clear HBB cB lB; have cB := cellsOf h; have lB := ltOf h; have HBB := Lib.hid h; clear h
  have h := Chg.trans0 HC.out hc; clear HC; have HC := Lib.hid h; clear h
  have HX0 := Lib.hid hs; have HFX0 := Lib.hid (hf.mono (Nat.zero_le _)); clear hs hf
  clear hc
  go_wp2_with fail
  refine (toRec_any x1 #[.int .i64 x1.kind, .int .i64 x1.seq, .string x1.name, .int .i64 x1.length, .int .i64 x1.group, .int .i64 x1.row, .slice a6o1 l6o1 c6o1, .slice a7o1 l7o1 c7o1, .slice a8o1 l8o1 c8o1] fp1 _ (Lay.ext recL HO1.out (Chg.alloc HC.out (.cells #[.int .i64 x0.kind, .int .i64 x0.seq, .string x0.name, .int .i64 x0.length, .int .i64 x0.group, .int .i64 x0.row, .slice a6q6 l6q6 c6q6, .slice a7q6 l7q6 c7q6, .slice a8q6 l8q6 c8q6] 37))) HZ1.out).mono ?_
  rintro e w7 ⟨z7, p7, rfl, hs, hf, hc⟩
  obtain ⟨a6q7, l6q7, c6q7, _, a7q7, l7q7, c7q7, _, a8q7, l8q7, c8q7, _, ex, -⟩ := recL_iff.1 hs
  obtain rfl := Array.toList_inj.1 (ex.trans (List.toList_toArray).symm); clear ex
  have hG := fun (x : Nat) (hx : x ∈ p7) => Nat.le_trans HC.out.size (Nat.le_trans (show w6.heap.size ≤ (w6.alloc (.cells #[.int .i64 x0.kind, .int .i64 x0.seq, .string x0.name, .int .i64 x0.length, .int .i64 x0.group, .int .i64 x0.row, .slice a6q6 l6q6 c6q6, .slice a7q6 l7q6 c7q6, .slice a8q6 l8q6 c8q6] 37)).heap.size by simp) (hf.2 x hx).1)
  have HGX1 := Lib.hid hG; clear hG
  have h := (Lay.ext recL (Lay.ext recL HX0.out (Chg.alloc (Chg.refl [] w6) (.cells #[.int .i64 x0.kind, .int .i64 x0.seq, .string x0.name, .int .i64 x0.length, .int .i64 x0.group, .int .i64 x0.row, .slice a6q6 l6q6 c6q6, .slice a7q6 l7q6 c7q6, .slice a8q6 l8q6 c8q6] 37))) hc); clear HX0; have HX0 := Lib.hid h; clear h
  have h := Fresh.chg (HFX0.out.chg (Chg.alloc (Chg.refl [] w6) (.cells #[.int .i64 x0.kind, .int .i64 x0.seq, .string x0.name, .int .i64 x0.length, .int .i64 x0.group, .int .i64 x0.row, .slice a6q6 l6q6 c6q6, .slice a7q6 l7q6 c7q6, .slice a8q6 l8q6 c8q6] 37))) hc; clear HFX0; have HFX0 := Lib.hid h; clear h
  have h := hc.keepb (b := W.heap.size) (o := .cells #[.int .i64 x0.kind, .int .i64 x0.seq, .string x0.name, .int .i64 x0.length, .int .i64 x0.group, .int .i64 x0.row, .slice a6o0 l6o0 c6o0, .slice a7o0 l7o0 c7o0, .slice a8o0 l8o0 c8o0] 34) (by refine keep_alloc ?_ _; exact HBA.out) (by simp); clear HBA cA lA; have cA := cellsOf h; have lA := ltOf h; have HBA := Lib.hid h; clear h
  have h := hc.keepb (b := W.heap.size + 1) (o := .cells #[.int .i64 x1.kind, .int .i64 x1.seq, .string x1.name, .int .i64 x1.length, .int .i64 x1.group, .int .i64 x1.row, .slice a6o1 l6o1 c6o1, .slice a7o1 l7o1 c7o1, .slice a8o1 l8o1 c8o1] 34) (by refine keep_alloc ?_ _; exact HBB.out) (by simp); clear HBB cB lB; have cB := cellsOf h; have lB := ltOf h; have HBB := Lib.hid h; clear h
  have h := hc.keepb (b := w6.heap.size) (o := .cells #[.int .i64 x0.kind, .int .i64 x0.seq, .string x0.name, .int .i64 x0.length, .int .i64 x0.group, .int .i64 x0.row, .slice a6q6 l6q6 c6q6, .slice a7q6 l7q6 c7q6, .slice a8q6 l8q6 c8q6] 37) (by exact new_at (by simp) _) (by simp); have cC := cellsOf h; have lC := ltOf h; have HBC := Lib.hid h; clear h
  have h := Chg.trans0 (Chg.alloc HC.out (.cells #[.int .i64 x0.kind, .int .i64 x0.seq, .string x0.name, .int .i64 x0.length, .int .i64 x0.group, .int .i64 x0.row, .slice a6q6 l6q6 c6q6, .slice a7q6 l7q6 c7q6, .slice a8q6 l8q6 c8q6] 37)) hc; clear HC; have HC := Lib.hid h; clear h
  have HX1 := Lib.hid hs; have HFX1 := Lib.hid (hf.mono (Nat.zero_le _)); clear hs hf
  clear hc
  go_wp2_with fail
  refine (impl_same_any x0 x1 #[.int .i64 x0.kind, .int .i64 x0.seq, .string x0.name, .int .i64 x0.length, .int .i64 x0.group, .int .i64 x0.row, .slice a6q6 l6q6 c6q6, .slice a7q6 l7q6 c7q6, .slice a8q6 l8q6 c8q6] #[.int .i64 x1.kind, .int .i64 x1.seq, .string x1.name, .int .i64 x1.length, .int .i64 x1.group, .int .i64 x1.row, .slice a6q7 l6q7 c6q7, .slice a7q7 l7q7 c7q7, .slice a8q7 l8q7 c8q7] p6 p7 _ (Lay.ext recL HX0.out (Chg.alloc (Chg.refl [] w7) (.cells #[.int .i64 x1.kind, .int .i64 x1.seq, .string x1.name, .int .i64 x1.length, .int .i64 x1.group, .int .i64 x1.row, .slice a6q7 l6q7 c6q7, .slice a7q7 l7q7 c7q7, .slice a8q7 l8q7 c8q7] 37))) (Lay.ext recL HX1.out (Chg.alloc (Chg.refl [] w7) (.cells #[.int .i64 x1.kind, .int .i64 x1.seq, .string x1.name, .int .i64 x1.length, .int .i64 x1.group, .int .i64 x1.row, .slice a6q7 l6q7 c6q7, .slice a7q7 l7q7 c7q7, .slice a8q7 l8q7 c8q7] 37)))).mono ?_
  rintro e w8 ⟨rfl, hc⟩
  rw [← HR.out]
  have h := (Lay.ext recL (Lay.ext recL HX0.out (Chg.alloc (Chg.refl [] w7) (.cells #[.int .i64 x1.kind, .int .i64 x1.seq, .string x1.name, .int .i64 x1.length, .int .i64 x1.group, .int .i64 x1.row, .slice a6q7 l6q7 c6q7, .slice a7q7 l7q7 c7q7, .slice a8q7 l8q7 c8q7] 37))) hc); clear HX0; have HX0 := Lib.hid h; clear h
  have h := (Lay.ext recL (Lay.ext recL HX1.out (Chg.alloc (Chg.refl [] w7) (.cells #[.int .i64 x1.kind, .int .i64 x1.seq, .string x1.name, .int .i64 x1.length, .int .i64 x1.group, .int .i64 x1.row, .slice a6q7 l6q7 c6q7, .slice a7q7 l7q7 c7q7, .slice a8q7 l8q7 c8q7] 37))) hc); clear HX1; have HX1 := Lib.hid h; clear h
  have h := Fresh.chg (HFX0.out.chg (Chg.alloc (Chg.refl [] w7) (.cells #[.int .i64 x1.kind, .int .i64 x1.seq, .string x1.name, .int .i64 x1.length, .int .i64 x1.group, .int .i64 x1.row, .slice a6q7 l6q7 c6q7, .slice a7q7 l7q7 c7q7, .slice a8q7 l8q7 c8q7] 37))) hc; clear HFX0; have HFX0 := Lib.hid h; clear h
  have h := Fresh.chg (HFX1.out.chg (Chg.alloc (Chg.refl [] w7) (.cells #[.int .i64 x1.kind, .int .i64 x1.seq, .string x1.name, .int .i64 x1.length, .int .i64 x1.group, .int .i64 x1.row, .slice a6q7 l6q7 c6q7, .slice a7q7 l7q7 c7q7, .slice a8q7 l8q7 c8q7] 37))) hc; clear HFX1; have HFX1 := Lib.hid h; clear h
  have h := hc.keepb (b := W.heap.size) (o := .cells #[.int .i64 x0.kind, .int .i64 x0.seq, .string x0.name, .int .i64 x0.length, .int .i64 x0.group, .int .i64 x0.row, .slice a6o0 l6o0 c6o0, .slice a7o0 l7o0 c7o0, .slice a8o0 l8o0 c8o0] 34) (by refine keep_alloc ?_ _; exact HBA.out) (by simp); clear HBA cA lA; have cA := cellsOf h; have lA := ltOf h; have HBA := Lib.hid h; clear h
  have h := hc.keepb (b := W.heap.size + 1) (o := .cells #[.int .i64 x1.kind, .int .i64 x1.seq, .string x1.name, .int .i64 x1.length, .int .i64 x1.group, .int .i64 x1.row, .slice a6o1 l6o1 c6o1, .slice a7o1 l7o1 c7o1, .slice a8o1 l8o1 c8o1] 34) (by refine keep_alloc ?_ _; exact HBB.out) (by simp); clear HBB cB lB; have cB := cellsOf h; have lB := ltOf h; have HBB := Lib.hid h; clear h
  have h := hc.keepb (b := w6.heap.size) (o := .cells #[.int .i64 x0.kind, .int .i64 x0.seq, .string x0.name, .int .i64 x0.length, .int .i64 x0.group, .int .i64 x0.row, .slice a6q6 l6q6 c6q6, .slice a7q6 l7q6 c7q6, .slice a8q6 l8q6 c8q6] 37) (by refine keep_alloc ?_ _; exact HBC.out) (by simp); clear HBC cC lC; have cC := cellsOf h; have lC := ltOf h; have HBC := Lib.hid h; clear h
  have h := hc.keepb (b := w7.heap.size) (o := .cells #[.int .i64 x1.kind, .int .i64 x1.seq, .string x1.name, .int .i64 x1.length, .int .i64 x1.group, .int .i64 x1.row, .slice a6q7 l6q7 c6q7, .slice a7q7 l7q7 c7q7, .slice a8q7 l8q7 c8q7] 37) (by exact new_at (by simp) _) (by simp); have cD := cellsOf h; have lD := ltOf h; have HBD := Lib.hid h; clear h
  have h := Chg.trans0 (Chg.alloc HC.out (.cells #[.int .i64 x1.kind, .int .i64 x1.seq, .string x1.name, .int .i64 x1.length, .int .i64 x1.group, .int .i64 x1.row, .slice a6q7 l6q7 c6q7, .slice a7q7 l7q7 c7q7, .slice a8q7 l8q7 c8q7] 37)) hc; clear HC; have HC := Lib.hid h; clear h
  clear hc
  go_wp2_with fail
  have hS : (∀ j, (w8.drew).cell? ⟨w6.heap.size, j, none⟩ = (#[.int .i64 x0.kind, .int .i64 x0.seq, .string x0.name, .int .i64 x0.length, .int .i64 x0.group, .int .i64 x0.row, .slice a6q6 l6q6 c6q6, .slice a7q6 l7q6 c7q6, .slice a8q6 l8q6 c8q6] : Array Value)[j]?) ∧ (∀ j, (w8.drew).cell? ⟨W.heap.size, j, none⟩ = (#[.int .i64 x0.kind, .int .i64 x0.seq, .string x0.name, .int .i64 x0.length, .int .i64 x0.group, .int .i64 x0.row, .slice a6o0 l6o0 c6o0, .slice a7o0 l7o0 c7o0, .slice a8o0 l8o0 c8o0] : Array Value)[j]?) := ⟨cellsOf (b := w6.heap.size) (show (w8.drew).heap[w6.heap.size]? = some (.cells #[.int .i64 x0.kind, .int .i64 x0.seq, .string x0.name, .int .i64 x0.length, .int .i64 x0.group, .int .i64 x0.row, .slice a6q6 l6q6 c6q6, .slice a7q6 l7q6 c7q6, .slice a8q6 l8q6 c8q6] 37) from (by refine keep_drew ?_; exact HBC.out)), cellsOf (b := W.heap.size) (show (w8.drew).heap[W.heap.size]? = some (.cells #[.int .i64 x0.kind, .int .i64 x0.seq, .string x0.name, .int .i64 x0.length, .int .i64 x0.group, .int .i64 x0.row, .slice a6o0 l6o0 c6o0, .slice a7o0 l7o0 c7o0, .slice a8o0 l8o0 c8o0] 34) from (by refine keep_drew ?_; exact HBA.out))⟩
  have hSz := hS
  go_region_held3 (fun w' => (∀ j, w'.cell? ⟨w6.heap.size, j, none⟩ = (#[.int .i64 x0.kind, .int .i64 x0.seq, .string x0.name, .int .i64 x0.length, .int .i64 x0.group, .int .i64 x0.row, .slice a6q6 l6q6 c6q6, .slice a7q6 l7q6 c7q6, .slice a8q6 l8q6 c8q6] : Array Value)[j]?) ∧ (∀ j, w'.cell? ⟨W.heap.size, j, none⟩ = (#[.int .i64 x0.kind, .int .i64 x0.seq, .string x0.name, .int .i64 x0.length, .int .i64 x0.group, .int .i64 x0.row, .slice a6o0 l6o0 c6o0, .slice a7o0 l7o0 c7o0, .slice a8o0 l8o0 c8o0] : Array Value)[j]?))
    (first | assumption | fail)
    (first
      | (have mk := MK4
         go_at_call 25
         refine (eqRec_any x0 #[.int .i64 x0.kind, .int .i64 x0.seq, .string x0.name, .int .i64 x0.length, .int .i64 x0.group, .int .i64 x0.row, .slice a6q6 l6q6 c6q6, .slice a7q6 l7q6 c7q6, .slice a8q6 l8q6 c8q6] z9 p6 p9 _ HX0.out HY0.out).mono ?_
         rintro e w10 ⟨rfl, hc⟩
         have h := (Lay.ext recL HX0.out hc); clear HX0; have HX0 := Lib.hid h; clear h
         have h := (Lay.ext recL HX1.out hc); clear HX1; have HX1 := Lib.hid h; clear h
         have h := (Lay.ext recL HY0.out hc); clear HY0; have HY0 := Lib.hid h; clear h
         have h := Fresh.chg HFX0.out hc; clear HFX0; have HFX0 := Lib.hid h; clear h
         have h := Fresh.chg HFX1.out hc; clear HFX1; have HFX1 := Lib.hid h; clear h
         have h := Fresh.chg HFY0.out hc; clear HFY0; have HFY0 := Lib.hid h; clear h
         have h := hc.keepb (b := W.heap.size) (o := .cells #[.int .i64 x0.kind, .int .i64 x0.seq, .string x0.name, .int .i64 x0.length, .int .i64 x0.group, .int .i64 x0.row, .slice a6o0 l6o0 c6o0, .slice a7o0 l7o0 c7o0, .slice a8o0 l8o0 c8o0] 34) (by exact HBA.out) (by simp); clear HBA cA lA; have cA := cellsOf h; have lA := ltOf h; have HBA := Lib.hid h; clear h
         have h := hc.keepb (b := W.heap.size + 1) (o := .cells #[.int .i64 x1.kind, .int .i64 x1.seq, .string x1.name, .int .i64 x1.length, .int .i64 x1.group, .int .i64 x1.row, .slice a6o1 l6o1 c6o1, .slice a7o1 l7o1 c7o1, .slice a8o1 l8o1 c8o1] 34) (by exact HBB.out) (by simp); clear HBB cB lB; have cB := cellsOf h; have lB := ltOf h; have HBB := Lib.hid h; clear h
         have h := hc.keepb (b := w6.heap.size) (o := .cells #[.int .i64 x0.kind, .int .i64 x0.seq, .string x0.name, .int .i64 x0.length, .int .i64 x0.group, .int .i64 x0.row, .slice a6q6 l6q6 c6q6, .slice a7q6 l7q6 c7q6, .slice a8q6 l8q6 c8q6] 37) (by exact HBC.out) (by simp); clear HBC cC lC; have cC := cellsOf h; have lC := ltOf h; have HBC := Lib.hid h; clear h
         have h := hc.keepb (b := w7.heap.size) (o := .cells #[.int .i64 x1.kind, .int .i64 x1.seq, .string x1.name, .int .i64 x1.length, .int .i64 x1.group, .int .i64 x1.row, .slice a6q7 l6q7 c6q7, .slice a7q7 l7q7 c7q7, .slice a8q7 l8q7 c8q7] 37) (by exact HBD.out) (by simp); clear HBD cD lD; have cD := cellsOf h; have lD := ltOf h; have HBD := Lib.hid h; clear h
         have h := Chg.trans0 HC.out hc; clear HC; have HC := Lib.hid h; clear h
         clear hc
         have hS : (∀ j, w10.cell? ⟨w6.heap.size, j, none⟩ = (#[.int .i64 x0.kind, .int .i64 x0.seq, .string x0.name, .int .i64 x0.length, .int .i64 x0.group, .int .i64 x0.row, .slice a6q6 l6q6 c6q6, .slice a7q6 l7q6 c7q6, .slice a8q6 l8q6 c8q6] : Array Value)[j]?) ∧ (∀ j, w10.cell? ⟨W.heap.size, j, none⟩ = (#[.int .i64 x0.kind, .int .i64 x0.seq, .string x0.name, .int .i64 x0.length, .int .i64 x0.group, .int .i64 x0.row, .slice a6o0 l6o0 c6o0, .slice a7o0 l7o0 c7o0, .slice a8o0 l8o0 c8o0] : Array Value)[j]?) := ⟨cC, cA⟩
         have MK5 := True.intro)
      | (go_at_call 23
         refine (toRec_any x0 #[.int .i64 x0.kind, .int .i64 x0.seq, .string x0.name, .int .i64 x0.length, .int .i64 x0.group, .int .i64 x0.row, .slice a6o0 l6o0 c6o0, .slice a7o0 l7o0 c7o0, .slice a8o0 l8o0 c8o0] fp0 _ (Lay.ext recL HO0.out (Chg.drew HC.out)) HZ0.out).mono ?_
         rintro e w9 ⟨z9, p9, rfl, hs, hf, hc⟩
         have hG := fun (x : Nat) (hx : x ∈ p9) => Nat.le_trans HC.out.size (Nat.le_trans (show w8.heap.size ≤ (w8.drew).heap.size by simp) (hf.2 x hx).1)
         have HGY0 := Lib.hid hG; clear hG
         have h := (Lay.ext recL (Lay.ext recL HX0.out (Chg.drew (Chg.refl [] w8))) hc); clear HX0; have HX0 := Lib.hid h; clear h
         have h := (Lay.ext recL (Lay.ext recL HX1.out (Chg.drew (Chg.refl [] w8))) hc); clear HX1; have HX1 := Lib.hid h; clear h
         have h := Fresh.chg (HFX0.out.chg (Chg.drew (Chg.refl [] w8))) hc; clear HFX0; have HFX0 := Lib.hid h; clear h
         have h := Fresh.chg (HFX1.out.chg (Chg.drew (Chg.refl [] w8))) hc; clear HFX1; have HFX1 := Lib.hid h; clear h
         have h := hc.keepb (b := W.heap.size) (o := .cells #[.int .i64 x0.kind, .int .i64 x0.seq, .string x0.name, .int .i64 x0.length, .int .i64 x0.group, .int .i64 x0.row, .slice a6o0 l6o0 c6o0, .slice a7o0 l7o0 c7o0, .slice a8o0 l8o0 c8o0] 34) (by refine keep_drew ?_; exact HBA.out) (by simp); clear HBA cA lA; have cA := cellsOf h; have lA := ltOf h; have HBA := Lib.hid h; clear h
         have h := hc.keepb (b := W.heap.size + 1) (o := .cells #[.int .i64 x1.kind, .int .i64 x1.seq, .string x1.name, .int .i64 x1.length, .int .i64 x1.group, .int .i64 x1.row, .slice a6o1 l6o1 c6o1, .slice a7o1 l7o1 c7o1, .slice a8o1 l8o1 c8o1] 34) (by refine keep_drew ?_; exact HBB.out) (by simp); clear HBB cB lB; have cB := cellsOf h; have lB := ltOf h; have HBB := Lib.hid h; clear h
         have h := hc.keepb (b := w6.heap.size) (o := .cells #[.int .i64 x0.kind, .int .i64 x0.seq, .string x0.name, .int .i64 x0.length, .int .i64 x0.group, .int .i64 x0.row, .slice a6q6 l6q6 c6q6, .slice a7q6 l7q6 c7q6, .slice a8q6 l8q6 c8q6] 37) (by refine keep_drew ?_; exact HBC.out) (by simp); clear HBC cC lC; have cC := cellsOf h; have lC := ltOf h; have HBC := Lib.hid h; clear h
         have h := hc.keepb (b := w7.heap.size) (o := .cells #[.int .i64 x1.kind, .int .i64 x1.seq, .string x1.name, .int .i64 x1.length, .int .i64 x1.group, .int .i64 x1.row, .slice a6q7 l6q7 c6q7, .slice a7q7 l7q7 c7q7, .slice a8q7 l8q7 c8q7] 37) (by refine keep_drew ?_; exact HBD.out) (by simp); clear HBD cD lD; have cD := cellsOf h; have lD := ltOf h; have HBD := Lib.hid h; clear h
         have h := Chg.trans0 (Chg.drew HC.out) hc; clear HC; have HC := Lib.hid h; clear h
         have HY0 := Lib.hid hs; have HFY0 := Lib.hid (hf.mono (Nat.zero_le _)); clear hs hf
         clear hc
         have hS : (∀ j, w9.cell? ⟨w6.heap.size, j, none⟩ = (#[.int .i64 x0.kind, .int .i64 x0.seq, .string x0.name, .int .i64 x0.length, .int .i64 x0.group, .int .i64 x0.row, .slice a6q6 l6q6 c6q6, .slice a7q6 l7q6 c7q6, .slice a8q6 l8q6 c8q6] : Array Value)[j]?) ∧ (∀ j, w9.cell? ⟨W.heap.size, j, none⟩ = (#[.int .i64 x0.kind, .int .i64 x0.seq, .string x0.name, .int .i64 x0.length, .int .i64 x0.group, .int .i64 x0.row, .slice a6o0 l6o0 c6o0, .slice a7o0 l7o0 c7o0, .slice a8o0 l8o0 c8o0] : Array Value)[j]?) := ⟨cC, cA⟩
         have MK4 := True.intro))
  go_wp2_with fail
  have hS : (∀ j, (w10.drew).cell? ⟨w7.heap.size, j, none⟩ = (#[.int .i64 x1.kind, .int .i64 x1.seq, .string x1.name, .int .i64 x1.length, .int .i64 x1.group, .int .i64 x1.row, .slice a6q7 l6q7 c6q7, .slice a7q7 l7q7 c7q7, .slice a8q7 l8q7 c8q7] : Array Value)[j]?) ∧ (∀ j, (w10.drew).cell? ⟨W.heap.size + 1, j, none⟩ = (#[.int .i64 x1.kind, .int .i64 x1.seq, .string x1.name, .int .i64 x1.length, .int .i64 x1.group, .int .i64 x1.row, .slice a6o1 l6o1 c6o1, .slice a7o1 l7o1 c7o1, .slice a8o1 l8o1 c8o1] : Array Value)[j]?) := ⟨cellsOf (b := w7.heap.size) (show (w10.drew).heap[w7.heap.size]? = some (.cells #[.int .i64 x1.kind, .int .i64 x1.seq, .string x1.name, .int .i64 x1.length, .int .i64 x1.group, .int .i64 x1.row, .slice a6q7 l6q7 c6q7, .slice a7q7 l7q7 c7q7, .slice a8q7 l8q7 c8q7] 37) from (by refine keep_drew ?_; exact HBD.out)), cellsOf (b := W.heap.size + 1) (show (w10.drew).heap[W.heap.size + 1]? = some (.cells #[.int .i64 x1.kind, .int .i64 x1.seq, .string x1.name, .int .i64 x1.length, .int .i64 x1.group, .int .i64 x1.row, .slice a6o1 l6o1 c6o1, .slice a7o1 l7o1 c7o1, .slice a8o1 l8o1 c8o1] 34) from (by refine keep_drew ?_; exact HBB.out))⟩
  have hSz := hS
  go_region_held3 (fun w' => (∀ j, w'.cell? ⟨w7.heap.size, j, none⟩ = (#[.int .i64 x1.kind, .int .i64 x1.seq, .string x1.name, .int .i64 x1.length, .int .i64 x1.group, .int .i64 x1.row, .slice a6q7 l6q7 c6q7, .slice a7q7 l7q7 c7q7, .slice a8q7 l8q7 c8q7] : Array Value)[j]?) ∧ (∀ j, w'.cell? ⟨W.heap.size + 1, j, none⟩ = (#[.int .i64 x1.kind, .int .i64 x1.seq, .string x1.name, .int .i64 x1.length, .int .i64 x1.group, .int .i64 x1.row, .slice a6o1 l6o1 c6o1, .slice a7o1 l7o1 c7o1, .slice a8o1 l8o1 c8o1] : Array Value)[j]?))
    (first | assumption | fail)
    (first
      | (have mk := MK6
         go_at_call 25
         refine (eqRec_any x1 #[.int .i64 x1.kind, .int .i64 x1.seq, .string x1.name, .int .i64 x1.length, .int .i64 x1.group, .int .i64 x1.row, .slice a6q7 l6q7 c6q7, .slice a7q7 l7q7 c7q7, .slice a8q7 l8q7 c8q7] z11 p7 p11 _ HX1.out HY1.out).mono ?_
         rintro e w12 ⟨rfl, hc⟩
         have h := (Lay.ext recL HX0.out hc); clear HX0; have HX0 := Lib.hid h; clear h
         have h := (Lay.ext recL HX1.out hc); clear HX1; have HX1 := Lib.hid h; clear h
         have h := (Lay.ext recL HY1.out hc); clear HY1; have HY1 := Lib.hid h; clear h
         have h := Fresh.chg HFX0.out hc; clear HFX0; have HFX0 := Lib.hid h; clear h
         have h := Fresh.chg HFX1.out hc; clear HFX1; have HFX1 := Lib.hid h; clear h
         have h := Fresh.chg HFY1.out hc; clear HFY1; have HFY1 := Lib.hid h; clear h
         have h := hc.keepb (b := W.heap.size) (o := .cells #[.int .i64 x0.kind, .int .i64 x0.seq, .string x0.name, .int .i64 x0.length, .int .i64 x0.group, .int .i64 x0.row, .slice a6o0 l6o0 c6o0, .slice a7o0 l7o0 c7o0, .slice a8o0 l8o0 c8o0] 34) (by exact HBA.out) (by simp); clear HBA cA lA; have cA := cellsOf h; have lA := ltOf h; have HBA := Lib.hid h; clear h
         have h := hc.keepb (b := W.heap.size + 1) (o := .cells #[.int .i64 x1.kind, .int .i64 x1.seq, .string x1.name, .int .i64 x1.length, .int .i64 x1.group, .int .i64 x1.row, .slice a6o1 l6o1 c6o1, .slice a7o1 l7o1 c7o1, .slice a8o1 l8o1 c8o1] 34) (by exact HBB.out) (by simp); clear HBB cB lB; have cB := cellsOf h; have lB := ltOf h; have HBB := Lib.hid h; clear h
         have h := hc.keepb (b := w6.heap.size) (o := .cells #[.int .i64 x0.kind, .int .i64 x0.seq, .string x0.name, .int .i64 x0.length, .int .i64 x0.group, .int .i64 x0.row, .slice a6q6 l6q6 c6q6, .slice a7q6 l7q6 c7q6, .slice a8q6 l8q6 c8q6] 37) (by exact HBC.out) (by simp); clear HBC cC lC; have cC := cellsOf h; have lC := ltOf h; have HBC := Lib.hid h; clear h
         have h := hc.keepb (b := w7.heap.size) (o := .cells #[.int .i64 x1.kind, .int .i64 x1.seq, .string x1.name, .int .i64 x1.length, .int .i64 x1.group, .int .i64 x1.row, .slice a6q7 l6q7 c6q7, .slice a7q7 l7q7 c7q7, .slice a8q7 l8q7 c8q7] 37) (by exact HBD.out) (by simp); clear HBD cD lD; have cD := cellsOf h; have lD := ltOf h; have HBD := Lib.hid h; clear h
         have h := Chg.trans0 HC.out hc; clear HC; have HC := Lib.hid h; clear h
         clear hc
         have hS : (∀ j, w12.cell? ⟨w7.heap.size, j, none⟩ = (#[.int .i64 x1.kind, .int .i64 x1.seq, .string x1.name, .int .i64 x1.length, .int .i64 x1.group, .int .i64 x1.row, .slice a6q7 l6q7 c6q7, .slice a7q7 l7q7 c7q7, .slice a8q7 l8q7 c8q7] : Array Value)[j]?) ∧ (∀ j, w12.cell? ⟨W.heap.size + 1, j, none⟩ = (#[.int .i64 x1.kind, .int .i64 x1.seq, .string x1.name, .int .i64 x1.length, .int .i64 x1.group, .int .i64 x1.row, .slice a6o1 l6o1 c6o1, .slice a7o1 l7o1 c7o1, .slice a8o1 l8o1 c8o1] : Array Value)[j]?) := ⟨cD, cB⟩
         have MK7 := True.intro)
      | (go_at_call 23
         refine (toRec_any x1 #[.int .i64 x1.kind, .int .i64 x1.seq, .string x1.name, .int .i64 x1.length, .int .i64 x1.group, .int .i64 x1.row, .slice a6o1 l6o1 c6o1, .slice a7o1 l7o1 c7o1, .slice a8o1 l8o1 c8o1] fp1 _ (Lay.ext recL HO1.out (Chg.drew HC.out)) HZ1.out).mono ?_
         rintro e w11 ⟨z11, p11, rfl, hs, hf, hc⟩
         have hG := fun (x : Nat) (hx : x ∈ p11) => Nat.le_trans HC.out.size (Nat.le_trans (show w10.heap.size ≤ (w10.drew).heap.size by simp) (hf.2 x hx).1)
         have HGY1 := Lib.hid hG; clear hG
         have h := (Lay.ext recL (Lay.ext recL HX0.out (Chg.drew (Chg.refl [] w10))) hc); clear HX0; have HX0 := Lib.hid h; clear h
         have h := (Lay.ext recL (Lay.ext recL HX1.out (Chg.drew (Chg.refl [] w10))) hc); clear HX1; have HX1 := Lib.hid h; clear h
         have h := Fresh.chg (HFX0.out.chg (Chg.drew (Chg.refl [] w10))) hc; clear HFX0; have HFX0 := Lib.hid h; clear h
         have h := Fresh.chg (HFX1.out.chg (Chg.drew (Chg.refl [] w10))) hc; clear HFX1; have HFX1 := Lib.hid h; clear h
         have h := hc.keepb (b := W.heap.size) (o := .cells #[.int .i64 x0.kind, .int .i64 x0.seq, .string x0.name, .int .i64 x0.length, .int .i64 x0.group, .int .i64 x0.row, .slice a6o0 l6o0 c6o0, .slice a7o0 l7o0 c7o0, .slice a8o0 l8o0 c8o0] 34) (by refine keep_drew ?_; exact HBA.out) (by simp); clear HBA cA lA; have cA := cellsOf h; have lA := ltOf h; have HBA := Lib.hid h; clear h
         have h := hc.keepb (b := W.heap.size + 1) (o := .cells #[.int .i64 x1.kind, .int .i64 x1.seq, .string x1.name, .int .i64 x1.length, .int .i64 x1.group, .int .i64 x1.row, .slice a6o1 l6o1 c6o1, .slice a7o1 l7o1 c7o1, .slice a8o1 l8o1 c8o1] 34) (by refine keep_drew ?_; exact HBB.out) (by simp); clear HBB cB lB; have cB := cellsOf h; have lB := ltOf h; have HBB := Lib.hid h; clear h
         have h := hc.keepb (b := w6.heap.size) (o := .cells #[.int .i64 x0.kind, .int .i64 x0.seq, .string x0.name, .int .i64 x0.length, .int .i64 x0.group, .int .i64 x0.row, .slice a6q6 l6q6 c6q6, .slice a7q6 l7q6 c7q6, .slice a8q6 l8q6 c8q6] 37) (by refine keep_drew ?_; exact HBC.out) (by simp); clear HBC cC lC; have cC := cellsOf h; have lC := ltOf h; have HBC := Lib.hid h; clear h
         have h := hc.keepb (b := w7.heap.size) (o := .cells #[.int .i64 x1.kind, .int .i64 x1.seq, .string x1.name, .int .i64 x1.length, .int .i64 x1.group, .int .i64 x1.row, .slice a6q7 l6q7 c6q7, .slice a7q7 l7q7 c7q7, .slice a8q7 l8q7 c8q7] 37) (by refine keep_drew ?_; exact HBD.out) (by simp); clear HBD cD lD; have cD := cellsOf h; have lD := ltOf h; have HBD := Lib.hid h; clear h
         have h := Chg.trans0 (Chg.drew HC.out) hc; clear HC; have HC := Lib.hid h; clear h
         have HY1 := Lib.hid hs; have HFY1 := Lib.hid (hf.mono (Nat.zero_le _)); clear hs hf
         clear hc
         have hS : (∀ j, w11.cell? ⟨w7.heap.size, j, none⟩ = (#[.int .i64 x1.kind, .int .i64 x1.seq, .string x1.name, .int .i64 x1.length, .int .i64 x1.group, .int .i64 x1.row, .slice a6q7 l6q7 c6q7, .slice a7q7 l7q7 c7q7, .slice a8q7 l8q7 c8q7] : Array Value)[j]?) ∧ (∀ j, w11.cell? ⟨W.heap.size + 1, j, none⟩ = (#[.int .i64 x1.kind, .int .i64 x1.seq, .string x1.name, .int .i64 x1.length, .int .i64 x1.group, .int .i64 x1.row, .slice a6o1 l6o1 c6o1, .slice a7o1 l7o1 c7o1, .slice a8o1 l8o1 c8o1] : Array Value)[j]?) := ⟨cD, cB⟩
         have MK6 := True.intro))
  go_wp2_with fail
  go_ret
  exact ⟨rfl, HC.out⟩

/-! ### FnExactSameRec -/
namespace fnExactSameRec
theorem own : ownKnob Try.prog.godebug = none := by kernel_rfl
theorem laidOut : laidOutB Try.prog = true := by kernel_rfl
set_option linter.unusedVariables false in
set_option maxRecDepth 100000 in
theorem lifted (os : Os) (started : os.Started) (H : Type) (enc : TypeId × Value → H) :
    ReturnsInHanded {} Try.checked os 4 .any (Rows.fnExactSameRecSpec.pre6 enc Try.prog Try.f4 Rows.fnExactSameRecRow.domain false) (Rows.fnExactSameRecSpec.post enc Try.prog Try.f4 false true false false) := by
  refine returnsInHanded_of_change (C := Try.checked) own started (by kernel_rfl) Try.func4
    (ChangeSpec.witness6 (enc := enc) (C := Try.checked) false ⟨#[], #[.agg #[.int .i64 0, .int .i64 0, .string ⟨#[]⟩, .int .i64 0, .int .i64 0, .int .i64 0, .slice none 0 0, .slice none 0 0, .slice none 0 0], .agg #[.int .i64 0, .int .i64 0, .string ⟨#[]⟩, .int .i64 0, .int .i64 0, .int .i64 0, .slice none 0 0, .slice none 0 0, .slice none 0 0]], []⟩ 8 (by kernel_rfl) (by kernel_rfl) (by kernel_rfl) (by kernel_rfl)) ?_
  intro W base args ds gs before hval0 hW hcnd _
  have hval : ∀ (j : Nat) t v, Try.f4.params[j]? = some t → args[j]? = some v → Value.okWide Try.prog W .any base t v := hval0
  have hW' := hW
  obtain ⟨p, q, hA0, hV, rfl, hfz, hnd⟩ := hW
  have hA : DataW.TrodAll enc Try.prog W 0 (fun _ => true) true Try.f4.params.toList args.toList ds p := hA0
  rw [Try.params4] at hA hval
  obtain ⟨v0, vs0, d0, ds0, p0, q0, hargs, rfl, rfl, h0, r0⟩ := trodAll_cons hA
  obtain ⟨v1, vs1, d1, ds1, p1, q1, rfl, rfl, rfl, h1, r1⟩ := trodAll_cons r0
  obtain ⟨rfl, rfl, rfl⟩ := trodAll_nil r1
  obtain rfl : args = #[v0, v1] := by cases args; simp_all
  obtain ⟨rfl, rfl⟩ := trodVars_none hV
  have k0 := h0
  have lt0 : ∀ x ∈ p0, x.block < W.heap.size := by obtain ⟨m, hm⟩ := k0; exact DataW.trod_lt m _ _ _ hm
  obtain ⟨cs0, rfl, _⟩ := okWide_struct Try.underlying34 (hval 0 34 v0 rfl rfl)
  obtain ⟨x0, fp0, o0⟩ := op_rec.trod h0
  have k1 := h1
  have lt1 : ∀ x ∈ p1, x.block < W.heap.size := by obtain ⟨m, hm⟩ := k1; exact DataW.trod_lt m _ _ _ hm
  obtain ⟨cs1, rfl, _⟩ := okWide_struct Try.underlying34 (hval 1 34 v1 rfl rfl)
  obtain ⟨x1, fp1, o1⟩ := op_rec.trod h1
  clear hA0 hval0
  simp only [List.append_nil] at hW'
  refine (walk_FnExactSameRec W cs0 x0 fp0 o0 cs1 x1 fp1 o1).mono fun e W' ⟨he, hc⟩ => ?_
  subst he
  have bel := hc.below0
  exact ⟨_, rfl, _, _, _, [], _, [], hW', trodAll_mk1 (shut_bool Try.underlying4 _), (trodAll_cons_mk (Below.trod laidOut (by kernel_rfl) (of_decide_eq_true (by kernel_rfl)) k0 bel lt0) (trodAll_cons_mk (Below.trod laidOut (by kernel_rfl) (of_decide_eq_true (by kernel_rfl)) k1 bel lt1) trodAll_mk0)), rfl, bel.frame _, fun h => by cases h⟩

theorem over : Rows.fnExactSameRecRow.holds Try.pinned (OpenSpec.ofChange Rows.fnExactSameRecSpec) :=
  OpenClaim.holds_of_wide 4 Try.f4 rfl rfl rfl rfl rfl rfl rfl ⟨rfl, rfl, rfl, rfl, rfl⟩ rfl rfl rfl rfl rfl (by kernel_rfl) Try.func4 (by kernel_rfl)
    (of_decide_eq_true (by kernel_rfl)) (by unfold Func.isWrapper; first | (rw [if_pos (by decide +kernel)]; kernel_rfl) | (rw [if_neg (by decide +kernel)]; exact ⟨rfl, rfl⟩))
    (fun os started H enc _ => lifted os started H enc)
end fnExactSameRec
theorem FnExactSameRec_holds : Rows.FnExactSameRecSaid := fnExactSameRec.over
#print axioms FnExactSameRec_holds
end Go.Proofs.Ytlnclkjmlpipgaa
