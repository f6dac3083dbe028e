
/- The program's RecFault returns what the reference returns and leaves its arguments, for all arguments: the law FnExactRecFault returns true.
Conditions: none. -/
import Derived.Test.YtlnclkjmlpipgaaRows
import Derived.Test.YtlnclkjmlpipgaaAt
import Derived.Test.YtlnclkjmlpipgaaRfl
import Derived.ShutString
import Derived.ChangeOld
namespace Go.Proofs.Ytlnclkjmlpipgaa
open Go.ChangeShapes Go.WideShapes Go.ChangeAt Go.RowKit

set_option maxRecDepth 100000 in
set_option maxHeartbeats 4000000 in
theorem walk_FnExactRecFault (W : World) (cs0 : Array Value) (x0 : Shp) (fp0 : List Nat) (o0 : shpL.rep W cs0.toList x0 fp0) (cs1 : Array Value) (x1 : Rec) (fp1 : List Nat) (o1 : recL.rep W cs1.toList x1 fp1) :
    Calls Try.prog 14 #[.agg cs0, .agg cs1] W fun e w' => e = .returned (.bool true) ∧ Chg [] W w' := by
  have HC : RowKit.Hid (Chg [] W W) := Chg.refl _ _
  obtain ⟨ex0, -⟩ := shpL_iff.1 o0
  obtain rfl := Array.toList_inj.1 (ex0.trans (List.toList_toArray).symm)
  clear ex0 o0
  obtain ⟨a6o1, l6o1, c6o1, _, a7o1, l7o1, c7o1, _, a8o1, l8o1, c8o1, _, ex, -⟩ := recL_iff.1 o1
  obtain rfl := Array.toList_inj.1 (ex.trans (List.toList_toArray).symm); clear ex
  have HO1 := Lib.hid o1; clear o1
  obtain ⟨t1, ht1⟩ : ∃ t, t = totRec x1 := ⟨_, rfl⟩
  have n1 : 0 ≤ t1 := by rw [ht1]; exact totRec_nonneg _
  have HT1 := Lib.hid ht1; clear ht1
  obtain ⟨r, hr⟩ : ∃ r, r = recVF x0 x1 := ⟨_, rfl⟩
  have HR := Lib.hid hr; clear hr
  have hrr : ((r : Int) != r) = false := by simp
  go_enter Try.func14, Try.ntmps14
  go_wp2_with fail
  refine (szRec_any x1 #[.int .i64 x1.kind, .int .i64 x1.seq, .string x1.name, .int .i64 x1.length, .int .i64 x1.group, .int .i64 x1.row, .slice a6o1 l6o1 c6o1, .slice a7o1 l7o1 c7o1, .slice a8o1 l8o1 c8o1] fp1 (1048576) _ (Lay.ext recL HO1.out (Chg.alloc (Chg.alloc HC.out (.cells #[.int .i64 x0.groups, .int .i64 x0.column, .int .i64 x0.data, .int .i64 x0.spare, .int .i64 x0.rows, .int .i64 x0.cap, .int .i64 x0.batch, .int .i64 x0.queue, .int .i64 x0.stage] 41)) (.cells #[.int .i64 x1.kind, .int .i64 x1.seq, .string x1.name, .int .i64 x1.length, .int .i64 x1.group, .int .i64 x1.row, .slice a6o1 l6o1 c6o1, .slice a7o1 l7o1 c7o1, .slice a8o1 l8o1 c8o1] 34))) (by omega) (by omega)).mono ?_
  rintro e w1 ⟨rfl, hc⟩
  rw [← HT1.out]
  have h := hc.keepb (b := W.heap.size) (o := .cells #[.int .i64 x0.groups, .int .i64 x0.column, .int .i64 x0.data, .int .i64 x0.spare, .int .i64 x0.rows, .int .i64 x0.cap, .int .i64 x0.batch, .int .i64 x0.queue, .int .i64 x0.stage] 41) (by refine keep_alloc ?_ _; exact new_at (by simp) _) (by simp); have cA := cellsOf h; have lA := ltOf h; have HBA := Lib.hid h; clear h
  have h := hc.keepb (b := W.heap.size + 1) (o := .cells #[.int .i64 x1.kind, .int .i64 x1.seq, .string x1.name, .int .i64 x1.length, .int .i64 x1.group, .int .i64 x1.row, .slice a6o1 l6o1 c6o1, .slice a7o1 l7o1 c7o1, .slice a8o1 l8o1 c8o1] 34) (by exact new_at (by simp) _) (by simp); have cB := cellsOf h; have lB := ltOf h; have HBB := Lib.hid h; clear h
  have h := Chg.trans0 (Chg.alloc (Chg.alloc HC.out (.cells #[.int .i64 x0.groups, .int .i64 x0.column, .int .i64 x0.data, .int .i64 x0.spare, .int .i64 x0.rows, .int .i64 x0.cap, .int .i64 x0.batch, .int .i64 x0.queue, .int .i64 x0.stage] 41)) (.cells #[.int .i64 x1.kind, .int .i64 x1.seq, .string x1.name, .int .i64 x1.length, .int .i64 x1.group, .int .i64 x1.row, .slice a6o1 l6o1 c6o1, .slice a7o1 l7o1 c7o1, .slice a8o1 l8o1 c8o1] 34)) hc; clear HC; have HC := Lib.hid h; clear h
  clear hc
  by_cases m1 : 1048576 - t1 < 0
  · rw [if_pos m1]
    go_wp2_with fail
    go_ret
    exact ⟨rfl, HC.out⟩
  rw [if_neg m1]
  have HZ1 := Lib.hid (show totRec x1 ≤ 1048576 by rw [← HT1.out]; omega)
  go_wp2_with fail
  obtain ⟨SS1, hSS⟩ : ∃ S : World → Prop, S = fun w' => Know (W.heap.size) #[.int .i64 x0.groups, .int .i64 x0.column, .int .i64 x0.data, .int .i64 x0.spare, .int .i64 x0.rows, .int .i64 x0.cap, .int .i64 x0.batch, .int .i64 x0.queue, .int .i64 x0.stage] w' ∧ Know (W.heap.size + 1) #[.int .i64 x1.kind, .int .i64 x1.seq, .string x1.name, .int .i64 x1.length, .int .i64 x1.group, .int .i64 x1.row, .slice a6o1 l6o1 c6o1, .slice a7o1 l7o1 c7o1, .slice a8o1 l8o1 c8o1] w' := ⟨_, rfl⟩
  have HSI1 := Lib.hid (fun w' (h : Know (W.heap.size) #[.int .i64 x0.groups, .int .i64 x0.column, .int .i64 x0.data, .int .i64 x0.spare, .int .i64 x0.rows, .int .i64 x0.cap, .int .i64 x0.batch, .int .i64 x0.queue, .int .i64 x0.stage] w' ∧ Know (W.heap.size + 1) #[.int .i64 x1.kind, .int .i64 x1.seq, .string x1.name, .int .i64 x1.length, .int .i64 x1.group, .int .i64 x1.row, .slice a6o1 l6o1 c6o1, .slice a7o1 l7o1 c7o1, .slice a8o1 l8o1 c8o1] w') => (by rw [hSS]; exact h : SS1 w'))
  have HSO1 := Lib.hid (fun w' (h : SS1 w') => (by rw [hSS] at h; exact h : Know (W.heap.size) #[.int .i64 x0.groups, .int .i64 x0.column, .int .i64 x0.data, .int .i64 x0.spare, .int .i64 x0.rows, .int .i64 x0.cap, .int .i64 x0.batch, .int .i64 x0.queue, .int .i64 x0.stage] w' ∧ Know (W.heap.size + 1) #[.int .i64 x1.kind, .int .i64 x1.seq, .string x1.name, .int .i64 x1.length, .int .i64 x1.group, .int .i64 x1.row, .slice a6o1 l6o1 c6o1, .slice a7o1 l7o1 c7o1, .slice a8o1 l8o1 c8o1] w'))
  clear hSS
  have hS0 := HSI1.out (w1.drew) ⟨(Know.of (by refine keep_drew ?_; exact HBA.out)), (Know.of (by refine keep_drew ?_; exact HBB.out))⟩
  refine rg_start SS1 (by kernel_rfl) hS0 ?_
  refine rg_take 0 (v := ?_) rfl (by kernel_rfl) (fun _ _ _ h => h) hS0 (by rfl) ?_ ?_
  rotate_left
  · intro w hSw; obtain ⟨k0, k1⟩ := HSO1.out w hSw; unfold Know at k0 k1; go_simp; (try with_reducible rfl)
  simp only [Act.put, List.setIfInBounds_toArray, List.set_cons_zero, List.set_cons_succ]
  refine rg_take 2 (v := ?_) rfl (by kernel_rfl) (fun _ _ _ h => h) hS0 (by rfl) ?_ ?_
  rotate_left
  · intro w hSw; obtain ⟨k0, k1⟩ := HSO1.out w hSw; unfold Know at k0 k1; go_simp; (try with_reducible rfl)
  simp only [Act.put, List.setIfInBounds_toArray, List.set_cons_zero, List.set_cons_succ]
  refine rg_call 1 rfl (by kernel_rfl) (fun K hK => ?_)
  go_simp
  go_at_call 27
  refine (toShape_any x0 _).mono ?_
  rintro e w2 ⟨rfl, hc⟩
  have h := hc.keepb (b := W.heap.size) (o := .cells #[.int .i64 x0.groups, .int .i64 x0.column, .int .i64 x0.data, .int .i64 x0.spare, .int .i64 x0.rows, .int .i64 x0.cap, .int .i64 x0.batch, .int .i64 x0.queue, .int .i64 x0.stage] 41) (by refine keep_drew ?_; exact HBA.out) (by simp); clear HBA cA lA; have cA := cellsOf h; have lA := ltOf h; have HBA := Lib.hid h; clear h
  have h := hc.keepb (b := W.heap.size + 1) (o := .cells #[.int .i64 x1.kind, .int .i64 x1.seq, .string x1.name, .int .i64 x1.length, .int .i64 x1.group, .int .i64 x1.row, .slice a6o1 l6o1 c6o1, .slice a7o1 l7o1 c7o1, .slice a8o1 l8o1 c8o1] 34) (by refine keep_drew ?_; exact HBB.out) (by simp); clear HBB cB lB; have cB := cellsOf h; have lB := ltOf h; have HBB := Lib.hid h; clear h
  have h := Chg.trans0 (Chg.drew HC.out) hc; clear HC; have HC := Lib.hid h; clear h
  clear hc
  go_wp2_with fail
  refine hK.out _ _ (HSI1.out _ ⟨cA, cB⟩) (fun hS1 => ?_)
  clear hK K
  try simp only [Act.put, List.setIfInBounds_toArray, List.set_cons_zero, List.set_cons_succ]
  refine rg_call 3 rfl (by kernel_rfl) (fun K hK => ?_)
  go_simp
  go_at_call 23
  refine (toRec_any x1 #[.int .i64 x1.kind, .int .i64 x1.seq, .string x1.name, .int .i64 x1.length, .int .i64 x1.group, .int .i64 x1.row, .slice a6o1 l6o1 c6o1, .slice a7o1 l7o1 c7o1, .slice a8o1 l8o1 c8o1] fp1 _ (Lay.ext recL HO1.out HC.out) HZ1.out).mono ?_
  rintro e w3 ⟨z3, p3, rfl, hs, hf, hc⟩
  have hG := fun (x : Nat) (hx : x ∈ p3) => Nat.le_trans HC.out.size (hf.2 x hx).1
  have HGS1 := Lib.hid hG; clear hG
  have h := hc.keepb (b := W.heap.size) (o := .cells #[.int .i64 x0.groups, .int .i64 x0.column, .int .i64 x0.data, .int .i64 x0.spare, .int .i64 x0.rows, .int .i64 x0.cap, .int .i64 x0.batch, .int .i64 x0.queue, .int .i64 x0.stage] 41) (by exact HBA.out) (by simp); clear HBA cA lA; have cA := cellsOf h; have lA := ltOf h; have HBA := Lib.hid h; clear h
  have h := hc.keepb (b := W.heap.size + 1) (o := .cells #[.int .i64 x1.kind, .int .i64 x1.seq, .string x1.name, .int .i64 x1.length, .int .i64 x1.group, .int .i64 x1.row, .slice a6o1 l6o1 c6o1, .slice a7o1 l7o1 c7o1, .slice a8o1 l8o1 c8o1] 34) (by exact HBB.out) (by simp); clear HBB cB lB; have cB := cellsOf h; have lB := ltOf h; have HBB := Lib.hid h; clear h
  have h := Chg.trans0 HC.out hc; clear HC; have HC := Lib.hid h; clear h
  have HS1 := Lib.hid hs; have HFS1 := Lib.hid (hf.mono (Nat.zero_le _)); clear hs hf
  clear hc
  go_wp2_with fail
  refine hK.out _ _ (HSI1.out _ ⟨cA, cB⟩) (fun hS2 => ?_)
  clear hK K
  try simp only [Act.put, List.setIfInBounds_toArray, List.set_cons_zero, List.set_cons_succ]
  refine rg_call 4 rfl (by kernel_rfl) (fun K hK => ?_)
  go_simp
  go_at_call 62
  refine (spec_RecFault x0 x1 z3 p3 _ HS1.out).mono ?_
  rintro e w4 ⟨rfl, hc⟩
  rw [← HR.out]
  have h := (Lay.ext recL HS1.out hc); clear HS1; have HS1 := Lib.hid h; clear h
  have h := Fresh.chg HFS1.out hc; clear HFS1; have HFS1 := Lib.hid h; clear h
  have h := hc.keepb (b := W.heap.size) (o := .cells #[.int .i64 x0.groups, .int .i64 x0.column, .int .i64 x0.data, .int .i64 x0.spare, .int .i64 x0.rows, .int .i64 x0.cap, .int .i64 x0.batch, .int .i64 x0.queue, .int .i64 x0.stage] 41) (by exact HBA.out) (by simp); clear HBA cA lA; have cA := cellsOf h; have lA := ltOf h; have HBA := Lib.hid h; clear h
  have h := hc.keepb (b := W.heap.size + 1) (o := .cells #[.int .i64 x1.kind, .int .i64 x1.seq, .string x1.name, .int .i64 x1.length, .int .i64 x1.group, .int .i64 x1.row, .slice a6o1 l6o1 c6o1, .slice a7o1 l7o1 c7o1, .slice a8o1 l8o1 c8o1] 34) (by exact HBB.out) (by simp); clear HBB cB lB; have cB := cellsOf h; have lB := ltOf h; have HBB := Lib.hid h; clear h
  have h := Chg.trans0 HC.out hc; clear HC; have HC := Lib.hid h; clear h
  clear hc
  go_wp2_with fail
  refine hK.out _ _ (HSI1.out _ ⟨cA, cB⟩) (fun hS3 => ?_)
  clear hK K
  try simp only [Act.put, List.setIfInBounds_toArray, List.set_cons_zero, List.set_cons_succ]
  refine rg_take 5 (v := ?_) rfl (by kernel_rfl) (fun _ _ _ h => h) hS3 (by rfl) ?_ ?_
  rotate_left
  · intro w hSw; clear hSw; go_simp; (try with_reducible rfl)
  simp only [Act.put, List.setIfInBounds_toArray, List.set_cons_zero, List.set_cons_succ]
  refine wpAnyH_done (by kernel_rfl) ?_ _
  go_wp2_with fail
  refine (toRec_any x1 #[.int .i64 x1.kind, .int .i64 x1.seq, .string x1.name, .int .i64 x1.length, .int .i64 x1.group, .int .i64 x1.row, .slice a6o1 l6o1 c6o1, .slice a7o1 l7o1 c7o1, .slice a8o1 l8o1 c8o1] fp1 _ (Lay.ext recL HO1.out HC.out) HZ1.out).mono ?_
  rintro e w5 ⟨z5, p5, rfl, hs, hf, hc⟩
  obtain ⟨a6q5, l6q5, c6q5, _, a7q5, l7q5, c7q5, _, a8q5, l8q5, c8q5, _, ex, -⟩ := recL_iff.1 hs
  obtain rfl := Array.toList_inj.1 (ex.trans (List.toList_toArray).symm); clear ex
  have hG := fun (x : Nat) (hx : x ∈ p5) => Nat.le_trans HC.out.size (hf.2 x hx).1
  have HGX1 := Lib.hid hG; clear hG
  have h := hc.keepb (b := W.heap.size) (o := .cells #[.int .i64 x0.groups, .int .i64 x0.column, .int .i64 x0.data, .int .i64 x0.spare, .int .i64 x0.rows, .int .i64 x0.cap, .int .i64 x0.batch, .int .i64 x0.queue, .int .i64 x0.stage] 41) (by exact HBA.out) (by simp); clear HBA cA lA; have cA := cellsOf h; have lA := ltOf h; have HBA := Lib.hid h; clear h
  have h := hc.keepb (b := W.heap.size + 1) (o := .cells #[.int .i64 x1.kind, .int .i64 x1.seq, .string x1.name, .int .i64 x1.length, .int .i64 x1.group, .int .i64 x1.row, .slice a6o1 l6o1 c6o1, .slice a7o1 l7o1 c7o1, .slice a8o1 l8o1 c8o1] 34) (by exact HBB.out) (by simp); clear HBB cB lB; have cB := cellsOf h; have lB := ltOf h; have HBB := Lib.hid h; clear h
  have h := Chg.trans0 HC.out hc; clear HC; have HC := Lib.hid h; clear h
  have HX1 := Lib.hid hs; have HFX1 := Lib.hid (hf.mono (Nat.zero_le _)); clear hs hf
  clear hc
  go_wp2_with fail
  obtain ⟨SS2, hSS⟩ : ∃ S : World → Prop, S = fun w' => Know (W.heap.size) #[.int .i64 x0.groups, .int .i64 x0.column, .int .i64 x0.data, .int .i64 x0.spare, .int .i64 x0.rows, .int .i64 x0.cap, .int .i64 x0.batch, .int .i64 x0.queue, .int .i64 x0.stage] w' ∧ Know (w5.heap.size) #[.int .i64 x1.kind, .int .i64 x1.seq, .string x1.name, .int .i64 x1.length, .int .i64 x1.group, .int .i64 x1.row, .slice a6q5 l6q5 c6q5, .slice a7q5 l7q5 c7q5, .slice a8q5 l8q5 c8q5] w' := ⟨_, rfl⟩
  have HSI2 := Lib.hid (fun w' (h : Know (W.heap.size) #[.int .i64 x0.groups, .int .i64 x0.column, .int .i64 x0.data, .int .i64 x0.spare, .int .i64 x0.rows, .int .i64 x0.cap, .int .i64 x0.batch, .int .i64 x0.queue, .int .i64 x0.stage] w' ∧ Know (w5.heap.size) #[.int .i64 x1.kind, .int .i64 x1.seq, .string x1.name, .int .i64 x1.length, .int .i64 x1.group, .int .i64 x1.row, .slice a6q5 l6q5 c6q5, .slice a7q5 l7q5 c7q5, .slice a8q5 l8q5 c8q5] w') => (by rw [hSS]; exact h : SS2 w'))
  have HSO2 := Lib.hid (fun w' (h : SS2 w') => (by rw [hSS] at h; exact h : Know (W.heap.size) #[.int .i64 x0.groups, .int .i64 x0.column, .int .i64 x0.data, .int .i64 x0.spare, .int .i64 x0.rows, .int .i64 x0.cap, .int .i64 x0.batch, .int .i64 x0.queue, .int .i64 x0.stage] w' ∧ Know (w5.heap.size) #[.int .i64 x1.kind, .int .i64 x1.seq, .string x1.name, .int .i64 x1.length, .int .i64 x1.group, .int .i64 x1.row, .slice a6q5 l6q5 c6q5, .slice a7q5 l7q5 c7q5, .slice a8q5 l8q5 c8q5] w'))
  clear hSS
  have hS0 := HSI2.out ((w5.alloc (.cells #[.int .i64 x1.kind, .int .i64 x1.seq, .string x1.name, .int .i64 x1.length, .int .i64 x1.group, .int .i64 x1.row, .slice a6q5 l6q5 c6q5, .slice a7q5 l7q5 c7q5, .slice a8q5 l8q5 c8q5] 37)).drew) ⟨(Know.of (by refine keep_drew ?_; refine keep_alloc ?_ _; exact HBA.out)), (Know.of (by refine keep_drew ?_; exact new_at (by simp) _))⟩
  refine rg_start SS2 (by kernel_rfl) hS0 ?_
  refine rg_take 0 (v := ?_) rfl (by kernel_rfl) (fun _ _ _ h => h) hS0 (by rfl) ?_ ?_
  rotate_left
  · intro w hSw; obtain ⟨k0, k1⟩ := HSO2.out w hSw; unfold Know at k0 k1; go_simp; (try with_reducible rfl)
  simp only [Act.put, List.setIfInBounds_toArray, List.set_cons_zero, List.set_cons_succ]
  refine rg_take 2 (v := ?_) rfl (by kernel_rfl) (fun _ _ _ h => h) hS0 (by rfl) ?_ ?_
  rotate_left
  · intro w hSw; obtain ⟨k0, k1⟩ := HSO2.out w hSw; unfold Know at k0 k1; go_simp; (try with_reducible rfl)
  simp only [Act.put, List.setIfInBounds_toArray, List.set_cons_zero, List.set_cons_succ]
  refine rg_call 1 rfl (by kernel_rfl) (fun K hK => ?_)
  go_simp
  go_at_call 27
  refine (toShape_any x0 _).mono ?_
  rintro e w6 ⟨rfl, hc⟩
  have h := (Lay.ext recL (Lay.ext recL HX1.out (Chg.drew (Chg.alloc (Chg.refl [] w5) (.cells #[.int .i64 x1.kind, .int .i64 x1.seq, .string x1.name, .int .i64 x1.length, .int .i64 x1.group, .int .i64 x1.row, .slice a6q5 l6q5 c6q5, .slice a7q5 l7q5 c7q5, .slice a8q5 l8q5 c8q5] 37)))) hc); clear HX1; have HX1 := Lib.hid h; clear h
  have h := Fresh.chg (HFX1.out.chg (Chg.drew (Chg.alloc (Chg.refl [] w5) (.cells #[.int .i64 x1.kind, .int .i64 x1.seq, .string x1.name, .int .i64 x1.length, .int .i64 x1.group, .int .i64 x1.row, .slice a6q5 l6q5 c6q5, .slice a7q5 l7q5 c7q5, .slice a8q5 l8q5 c8q5] 37)))) hc; clear HFX1; have HFX1 := Lib.hid h; clear h
  have h := hc.keepb (b := W.heap.size) (o := .cells #[.int .i64 x0.groups, .int .i64 x0.column, .int .i64 x0.data, .int .i64 x0.spare, .int .i64 x0.rows, .int .i64 x0.cap, .int .i64 x0.batch, .int .i64 x0.queue, .int .i64 x0.stage] 41) (by refine keep_drew ?_; refine keep_alloc ?_ _; exact HBA.out) (by simp); clear HBA cA lA; have cA := cellsOf h; have lA := ltOf h; have HBA := Lib.hid h; clear h
  have h := hc.keepb (b := W.heap.size + 1) (o := .cells #[.int .i64 x1.kind, .int .i64 x1.seq, .string x1.name, .int .i64 x1.length, .int .i64 x1.group, .int .i64 x1.row, .slice a6o1 l6o1 c6o1, .slice a7o1 l7o1 c7o1, .slice a8o1 l8o1 c8o1] 34) (by refine keep_drew ?_; refine keep_alloc ?_ _; exact HBB.out) (by simp); clear HBB cB lB; have cB := cellsOf h; have lB := ltOf h; have HBB := Lib.hid h; clear h
  have h := hc.keepb (b := w5.heap.size) (o := .cells #[.int .i64 x1.kind, .int .i64 x1.seq, .string x1.name, .int .i64 x1.length, .int .i64 x1.group, .int .i64 x1.row, .slice a6q5 l6q5 c6q5, .slice a7q5 l7q5 c7q5, .slice a8q5 l8q5 c8q5] 37) (by refine keep_drew ?_; exact new_at (by simp) _) (by simp); have cD := cellsOf h; have lD := ltOf h; have HBD := Lib.hid h; clear h
  have h := Chg.trans0 (Chg.drew (Chg.alloc HC.out (.cells #[.int .i64 x1.kind, .int .i64 x1.seq, .string x1.name, .int .i64 x1.length, .int .i64 x1.group, .int .i64 x1.row, .slice a6q5 l6q5 c6q5, .slice a7q5 l7q5 c7q5, .slice a8q5 l8q5 c8q5] 37))) hc; clear HC; have HC := Lib.hid h; clear h
  clear hc
  go_wp2_with fail
  refine hK.out _ _ (HSI2.out _ ⟨cA, cD⟩) (fun hS1 => ?_)
  clear hK K
  try simp only [Act.put, List.setIfInBounds_toArray, List.set_cons_zero, List.set_cons_succ]
  refine rg_call 3 rfl (by kernel_rfl) (fun K hK => ?_)
  go_simp
  go_at_call 63
  refine (impl_RecFault x0 x1 #[.int .i64 x1.kind, .int .i64 x1.seq, .string x1.name, .int .i64 x1.length, .int .i64 x1.group, .int .i64 x1.row, .slice a6q5 l6q5 c6q5, .slice a7q5 l7q5 c7q5, .slice a8q5 l8q5 c8q5] p5 _ HX1.out).mono ?_
  rintro e w7 ⟨rfl, hc⟩
  rw [← HR.out]
  have h := (Lay.ext recL HX1.out hc); clear HX1; have HX1 := Lib.hid h; clear h
  have h := Fresh.chg HFX1.out hc; clear HFX1; have HFX1 := Lib.hid h; clear h
  have h := hc.keepb (b := W.heap.size) (o := .cells #[.int .i64 x0.groups, .int .i64 x0.column, .int .i64 x0.data, .int .i64 x0.spare, .int .i64 x0.rows, .int .i64 x0.cap, .int .i64 x0.batch, .int .i64 x0.queue, .int .i64 x0.stage] 41) (by exact HBA.out) (by simp); clear HBA cA lA; have cA := cellsOf h; have lA := ltOf h; have HBA := Lib.hid h; clear h
  have h := hc.keepb (b := W.heap.size + 1) (o := .cells #[.int .i64 x1.kind, .int .i64 x1.seq, .string x1.name, .int .i64 x1.length, .int .i64 x1.group, .int .i64 x1.row, .slice a6o1 l6o1 c6o1, .slice a7o1 l7o1 c7o1, .slice a8o1 l8o1 c8o1] 34) (by exact HBB.out) (by simp); clear HBB cB lB; have cB := cellsOf h; have lB := ltOf h; have HBB := Lib.hid h; clear h
  have h := hc.keepb (b := w5.heap.size) (o := .cells #[.int .i64 x1.kind, .int .i64 x1.seq, .string x1.name, .int .i64 x1.length, .int .i64 x1.group, .int .i64 x1.row, .slice a6q5 l6q5 c6q5, .slice a7q5 l7q5 c7q5, .slice a8q5 l8q5 c8q5] 37) (by exact HBD.out) (by simp); clear HBD cD lD; have cD := cellsOf h; have lD := ltOf h; have HBD := Lib.hid h; clear h
  have h := Chg.trans0 HC.out hc; clear HC; have HC := Lib.hid h; clear h
  clear hc
  go_wp2_with fail
  refine hK.out _ _ (HSI2.out _ ⟨cA, cD⟩) (fun hS2 => ?_)
  clear hK K
  try simp only [Act.put, List.setIfInBounds_toArray, List.set_cons_zero, List.set_cons_succ]
  refine rg_take 4 (v := ?_) rfl (by kernel_rfl) (fun _ _ _ h => h) hS2 (by rfl) ?_ ?_
  rotate_left
  · intro w hSw; clear hSw; go_simp; (try with_reducible rfl)
  simp only [Act.put, List.setIfInBounds_toArray, List.set_cons_zero, List.set_cons_succ]
  refine wpAnyH_done (by kernel_rfl) ?_ _
  go_wp2_with fail
  obtain ⟨SS3, hSS⟩ : ∃ S : World → Prop, S = fun w' => Know (w5.heap.size) #[.int .i64 x1.kind, .int .i64 x1.seq, .string x1.name, .int .i64 x1.length, .int .i64 x1.group, .int .i64 x1.row, .slice a6q5 l6q5 c6q5, .slice a7q5 l7q5 c7q5, .slice a8q5 l8q5 c8q5] w' ∧ Know (W.heap.size + 1) #[.int .i64 x1.kind, .int .i64 x1.seq, .string x1.name, .int .i64 x1.length, .int .i64 x1.group, .int .i64 x1.row, .slice a6o1 l6o1 c6o1, .slice a7o1 l7o1 c7o1, .slice a8o1 l8o1 c8o1] w' := ⟨_, rfl⟩
  have HSI3 := Lib.hid (fun w' (h : Know (w5.heap.size) #[.int .i64 x1.kind, .int .i64 x1.seq, .string x1.name, .int .i64 x1.length, .int .i64 x1.group, .int .i64 x1.row, .slice a6q5 l6q5 c6q5, .slice a7q5 l7q5 c7q5, .slice a8q5 l8q5 c8q5] w' ∧ Know (W.heap.size + 1) #[.int .i64 x1.kind, .int .i64 x1.seq, .string x1.name, .int .i64 x1.length, .int .i64 x1.group, .int .i64 x1.row, .slice a6o1 l6o1 c6o1, .slice a7o1 l7o1 c7o1, .slice a8o1 l8o1 c8o1] w') => (by rw [hSS]; exact h : SS3 w'))
  have HSO3 := Lib.hid (fun w' (h : SS3 w') => (by rw [hSS] at h; exact h : Know (w5.heap.size) #[.int .i64 x1.kind, .int .i64 x1.seq, .string x1.name, .int .i64 x1.length, .int .i64 x1.group, .int .i64 x1.row, .slice a6q5 l6q5 c6q5, .slice a7q5 l7q5 c7q5, .slice a8q5 l8q5 c8q5] w' ∧ Know (W.heap.size + 1) #[.int .i64 x1.kind, .int .i64 x1.seq, .string x1.name, .int .i64 x1.length, .int .i64 x1.group, .int .i64 x1.row, .slice a6o1 l6o1 c6o1, .slice a7o1 l7o1 c7o1, .slice a8o1 l8o1 c8o1] w'))
  clear hSS
  have hS0 := HSI3.out (w7.drew) ⟨(Know.of (by refine keep_drew ?_; exact HBD.out)), (Know.of (by refine keep_drew ?_; exact HBB.out))⟩
  refine rg_start SS3 (by kernel_rfl) hS0 ?_
  refine rg_take 0 (v := ?_) rfl (by kernel_rfl) (fun _ _ _ h => h) hS0 (by rfl) ?_ ?_
  rotate_left
  · intro w hSw; obtain ⟨k0, k1⟩ := HSO3.out w hSw; unfold Know at k0 k1; go_simp; (try with_reducible rfl)
  simp only [Act.put, List.setIfInBounds_toArray, List.set_cons_zero, List.set_cons_succ]
  refine rg_take 1 (v := ?_) rfl (by kernel_rfl) (fun _ _ _ h => h) hS0 (by rfl) ?_ ?_
  rotate_left
  · intro w hSw; obtain ⟨k0, k1⟩ := HSO3.out w hSw; unfold Know at k0 k1; go_simp; (try with_reducible rfl)
  simp only [Act.put, List.setIfInBounds_toArray, List.set_cons_zero, List.set_cons_succ]
  refine rg_call 2 rfl (by kernel_rfl) (fun K hK => ?_)
  go_simp
  go_at_call 23
  refine (toRec_any x1 #[.int .i64 x1.kind, .int .i64 x1.seq, .string x1.name, .int .i64 x1.length, .int .i64 x1.group, .int .i64 x1.row, .slice a6o1 l6o1 c6o1, .slice a7o1 l7o1 c7o1, .slice a8o1 l8o1 c8o1] fp1 _ (Lay.ext recL HO1.out (Chg.drew HC.out)) HZ1.out).mono ?_
  rintro e w8 ⟨z8, p8, rfl, hs, hf, hc⟩
  have hG := fun (x : Nat) (hx : x ∈ p8) => Nat.le_trans HC.out.size (Nat.le_trans (show w7.heap.size ≤ (w7.drew).heap.size by simp) (hf.2 x hx).1)
  have HGY1 := Lib.hid hG; clear hG
  have h := (Lay.ext recL (Lay.ext recL HX1.out (Chg.drew (Chg.refl [] w7))) hc); clear HX1; have HX1 := Lib.hid h; clear h
  have h := Fresh.chg (HFX1.out.chg (Chg.drew (Chg.refl [] w7))) hc; clear HFX1; have HFX1 := Lib.hid h; clear h
  have h := hc.keepb (b := W.heap.size) (o := .cells #[.int .i64 x0.groups, .int .i64 x0.column, .int .i64 x0.data, .int .i64 x0.spare, .int .i64 x0.rows, .int .i64 x0.cap, .int .i64 x0.batch, .int .i64 x0.queue, .int .i64 x0.stage] 41) (by refine keep_drew ?_; exact HBA.out) (by simp); clear HBA cA lA; have cA := cellsOf h; have lA := ltOf h; have HBA := Lib.hid h; clear h
  have h := hc.keepb (b := W.heap.size + 1) (o := .cells #[.int .i64 x1.kind, .int .i64 x1.seq, .string x1.name, .int .i64 x1.length, .int .i64 x1.group, .int .i64 x1.row, .slice a6o1 l6o1 c6o1, .slice a7o1 l7o1 c7o1, .slice a8o1 l8o1 c8o1] 34) (by refine keep_drew ?_; exact HBB.out) (by simp); clear HBB cB lB; have cB := cellsOf h; have lB := ltOf h; have HBB := Lib.hid h; clear h
  have h := hc.keepb (b := w5.heap.size) (o := .cells #[.int .i64 x1.kind, .int .i64 x1.seq, .string x1.name, .int .i64 x1.length, .int .i64 x1.group, .int .i64 x1.row, .slice a6q5 l6q5 c6q5, .slice a7q5 l7q5 c7q5, .slice a8q5 l8q5 c8q5] 37) (by refine keep_drew ?_; exact HBD.out) (by simp); clear HBD cD lD; have cD := cellsOf h; have lD := ltOf h; have HBD := Lib.hid h; clear h
  have h := Chg.trans0 (Chg.drew HC.out) hc; clear HC; have HC := Lib.hid h; clear h
  have HY1 := Lib.hid hs; have HFY1 := Lib.hid (hf.mono (Nat.zero_le _)); clear hs hf
  clear hc
  go_wp2_with fail
  refine hK.out _ _ (HSI3.out _ ⟨cD, cB⟩) (fun hS1 => ?_)
  clear hK K
  try simp only [Act.put, List.setIfInBounds_toArray, List.set_cons_zero, List.set_cons_succ]
  refine rg_call 3 rfl (by kernel_rfl) (fun K hK => ?_)
  go_simp
  go_at_call 25
  refine (eqRec_any x1 #[.int .i64 x1.kind, .int .i64 x1.seq, .string x1.name, .int .i64 x1.length, .int .i64 x1.group, .int .i64 x1.row, .slice a6q5 l6q5 c6q5, .slice a7q5 l7q5 c7q5, .slice a8q5 l8q5 c8q5] z8 p5 p8 _ HX1.out HY1.out).mono ?_
  rintro e w9 ⟨rfl, hc⟩
  have h := (Lay.ext recL HX1.out hc); clear HX1; have HX1 := Lib.hid h; clear h
  have h := (Lay.ext recL HY1.out hc); clear HY1; have HY1 := Lib.hid h; clear h
  have h := Fresh.chg HFX1.out hc; clear HFX1; have HFX1 := Lib.hid h; clear h
  have h := Fresh.chg HFY1.out hc; clear HFY1; have HFY1 := Lib.hid h; clear h
  have h := hc.keepb (b := W.heap.size) (o := .cells #[.int .i64 x0.groups, .int .i64 x0.column, .int .i64 x0.data, .int .i64 x0.spare, .int .i64 x0.rows, .int .i64 x0.cap, .int .i64 x0.batch, .int .i64 x0.queue, .int .i64 x0.stage] 41) (by exact HBA.out) (by simp); clear HBA cA lA; have cA := cellsOf h; have lA := ltOf h; have HBA := Lib.hid h; clear h
  have h := hc.keepb (b := W.heap.size + 1) (o := .cells #[.int .i64 x1.kind, .int .i64 x1.seq, .string x1.name, .int .i64 x1.length, .int .i64 x1.group, .int .i64 x1.row, .slice a6o1 l6o1 c6o1, .slice a7o1 l7o1 c7o1, .slice a8o1 l8o1 c8o1] 34) (by exact HBB.out) (by simp); clear HBB cB lB; have cB := cellsOf h; have lB := ltOf h; have HBB := Lib.hid h; clear h
  have h := hc.keepb (b := w5.heap.size) (o := .cells #[.int .i64 x1.kind, .int .i64 x1.seq, .string x1.name, .int .i64 x1.length, .int .i64 x1.group, .int .i64 x1.row, .slice a6q5 l6q5 c6q5, .slice a7q5 l7q5 c7q5, .slice a8q5 l8q5 c8q5] 37) (by exact HBD.out) (by simp); clear HBD cD lD; have cD := cellsOf h; have lD := ltOf h; have HBD := Lib.hid h; clear h
  have h := Chg.trans0 HC.out hc; clear HC; have HC := Lib.hid h; clear h
  clear hc
  go_wp2_with fail
  refine hK.out _ _ (HSI3.out _ ⟨cD, cB⟩) (fun hS2 => ?_)
  clear hK K
  try simp only [Act.put, List.setIfInBounds_toArray, List.set_cons_zero, List.set_cons_succ]
  refine rg_take 4 (v := ?_) rfl (by kernel_rfl) (fun _ _ _ h => h) hS2 (by rfl) ?_ ?_
  rotate_left
  · intro w hSw; clear hSw; go_simp; (try with_reducible rfl)
  simp only [Act.put, List.setIfInBounds_toArray, List.set_cons_zero, List.set_cons_succ]
  refine wpAnyH_done (by kernel_rfl) ?_ _
  go_wp2_with fail
  go_ret
  exact ⟨rfl, HC.out⟩

/-! ### FnExactRecFault -/
namespace fnExactRecFault
theorem own : ownKnob Try.prog.godebug = none := by kernel_rfl
theorem laidOut : laidOutB Try.prog = true := by kernel_rfl
set_option linter.unusedVariables false in
set_option maxRecDepth 100000 in
theorem lifted (os : Os) (started : os.Started) (H : Type) (enc : TypeId × Value → H) :
    ReturnsInHanded {} Try.checked os 14 .any (Rows.fnExactRecFaultSpec.pre6 enc Try.prog Try.f14 Rows.fnExactRecFaultRow.domain false) (Rows.fnExactRecFaultSpec.post enc Try.prog Try.f14 false true false false) := by
  refine returnsInHanded_of_change (C := Try.checked) own started (by kernel_rfl) Try.func14
    (ChangeSpec.witness6 (enc := enc) (C := Try.checked) false ⟨#[], #[.agg #[.int .i64 0, .int .i64 0, .int .i64 0, .int .i64 0, .int .i64 0, .int .i64 0, .int .i64 0, .int .i64 0, .int .i64 0], .agg #[.int .i64 0, .int .i64 0, .string ⟨#[]⟩, .int .i64 0, .int .i64 0, .int .i64 0, .slice none 0 0, .slice none 0 0, .slice none 0 0]], []⟩ 8 (by kernel_rfl) (by kernel_rfl) (by kernel_rfl) (by kernel_rfl)) ?_
  intro W base args ds gs before hval0 hW hcnd _
  have hval : ∀ (j : Nat) t v, Try.f14.params[j]? = some t → args[j]? = some v → Value.okWide Try.prog W .any base t v := hval0
  have hW' := hW
  obtain ⟨p, q, hA0, hV, rfl, hfz, hnd⟩ := hW
  have hA : DataW.TrodAll enc Try.prog W 0 (fun _ => true) true Try.f14.params.toList args.toList ds p := hA0
  rw [Try.params14] at hA hval
  obtain ⟨v0, vs0, d0, ds0, p0, q0, hargs, rfl, rfl, h0, r0⟩ := trodAll_cons hA
  obtain ⟨v1, vs1, d1, ds1, p1, q1, rfl, rfl, rfl, h1, r1⟩ := trodAll_cons r0
  obtain ⟨rfl, rfl, rfl⟩ := trodAll_nil r1
  obtain rfl : args = #[v0, v1] := by cases args; simp_all
  obtain ⟨rfl, rfl⟩ := trodVars_none hV
  have k0 := h0
  have lt0 : ∀ x ∈ p0, x.block < W.heap.size := by obtain ⟨m, hm⟩ := k0; exact DataW.trod_lt m _ _ _ hm
  obtain ⟨cs0, rfl, _⟩ := okWide_struct Try.underlying41 (hval 0 41 v0 rfl rfl)
  obtain ⟨x0, fp0, o0⟩ := op_shp.trod h0
  have k1 := h1
  have lt1 : ∀ x ∈ p1, x.block < W.heap.size := by obtain ⟨m, hm⟩ := k1; exact DataW.trod_lt m _ _ _ hm
  obtain ⟨cs1, rfl, _⟩ := okWide_struct Try.underlying34 (hval 1 34 v1 rfl rfl)
  obtain ⟨x1, fp1, o1⟩ := op_rec.trod h1
  clear hA0 hval0
  simp only [List.append_nil] at hW'
  refine (walk_FnExactRecFault W cs0 x0 fp0 o0 cs1 x1 fp1 o1).mono fun e W' ⟨he, hc⟩ => ?_
  subst he
  have bel := hc.below0
  exact ⟨_, rfl, _, _, _, [], _, [], hW', trodAll_mk1 (shut_bool Try.underlying4 _), (trodAll_cons_mk (Below.trod laidOut (by kernel_rfl) (of_decide_eq_true (by kernel_rfl)) k0 bel lt0) (trodAll_cons_mk (Below.trod laidOut (by kernel_rfl) (of_decide_eq_true (by kernel_rfl)) k1 bel lt1) trodAll_mk0)), rfl, bel.frame _, fun h => by cases h⟩

theorem over : Rows.fnExactRecFaultRow.holds Try.pinned (OpenSpec.ofChange Rows.fnExactRecFaultSpec) :=
  OpenClaim.holds_of_wide 14 Try.f14 rfl rfl rfl rfl rfl rfl rfl ⟨rfl, rfl, rfl, rfl, rfl⟩ rfl rfl rfl rfl rfl (by kernel_rfl) Try.func14 (by kernel_rfl)
    (of_decide_eq_true (by kernel_rfl)) (by unfold Func.isWrapper; first | (rw [if_pos (by decide +kernel)]; kernel_rfl) | (rw [if_neg (by decide +kernel)]; exact ⟨rfl, rfl⟩))
    (fun os started H enc _ => lifted os started H enc)
end fnExactRecFault
theorem FnExactRecFault_holds : Rows.FnExactRecFaultSaid := fnExactRecFault.over
#print axioms FnExactRecFault_holds
end Go.Proofs.Ytlnclkjmlpipgaa
