
/- slices.Chunk: its iterator; an object cut by it: the loop over the iterator. -/
import Derived.Deep.WholeRow
import Derived.Laws.CopyRow
import Derived.RangeFuncNested
import Derived.RangeFuncBound
import Derived.RangeFuncCalls
import Derived.RangeFuncLeaves
import Derived.Shelf.Abstract
import Derived.Shelf.RegionOpen
import Derived.WalkKit
import Derived.OwnWalkIn
import Derived.TacticsInMore
import Derived.LoopNIn
import Derived.LoopIn
import Derived.Test.YtcejdmggacjnoaaGrc
import Derived.Test.YtcejdmggacjnoaaBss
import Derived.Test.YtcejdmggacjnoaaRgg
import Derived.Test.YtcejdmggacjnoaaRfb
namespace Go.Proofs.Ytcejdmggacjnoaa
open Go.RowKit

attribute [local go_sem] Oper.semAt_some

/-- the part of a number, and the row that it fills -/
def partL (xs : List UInt8) (k j : Nat) : List UInt8 := (xs.drop (j * k)).take k
def rowL (xs : List UInt8) (k j : Nat) : List UInt8 := partL xs k j ++ List.replicate (k - (partL xs k j).length) 0
theorem partL_length (xs : List UInt8) (k j : Nat) : (partL xs k j).length = min k (xs.length - j * k) := by unfold partL; rw [List.length_take, List.length_drop]
theorem rowL_length (xs : List UInt8) (k j : Nat) : (rowL xs k j).length = k := by unfold rowL; rw [List.length_append, List.length_replicate, partL_length]; omega
/-- what a round of the loop may not touch: whatever lay when the loop began, but one box -/
def Kps (n1 Bo : Nat) (A B : World) : Prop := ∀ q, q < n1 → Bo < q → B.heap[q]? = A.heap[q]?
theorem Kps.trans {n1 Bo : Nat} {A B C : World} (h : Kps n1 Bo A B) (h2 : Kps n1 Bo B C) : Kps n1 Bo A C := fun q hq ho => (h2 q hq ho).trans (h q hq ho)
theorem Kps.cell {n1 Bo : Nat} {A B : World} (h : Kps n1 Bo A B) {b o : Nat} (hb : b < n1) (hn : Bo < b) : B.cell? ⟨b, o, none⟩ = A.cell? ⟨b, o, none⟩ := World.cell?_of_block (h b hb hn)
set_option maxRecDepth 100000 in
set_option maxHeartbeats 2000000 in
/-- the iterator of Chunk: part by part -/
theorem chunk1_in (F : Fence) (n : Nat) (h5 : F.fn 55) (hro : F.round = none) (hn : 1 ≤ n) (l Bs Bk b off len cap k m n1 Bo : Nat) (hk : 1 ≤ k) (hk2 : k ≤ 12) (hlen : len ≤ 1000000) (hcap : len ≤ cap) (hcm : cap ≤ maxLen) (hm : ∀ j, j * k < len ↔ j < m)
    (hbs : Bs < n1 ∧ Bo < Bs) (hbk : Bk < n1 ∧ Bo < Bk) (J Jx : List (Fin m) → World → Prop) (hJd : ∀ s W, J s W → J s W.drew)
    (hY : ∀ (pre : List (Fin m)) (x : Fin m) W, J pre W → pre.length < m → YieldAt F (n - 1) Try.prog l #[.slice (some ⟨b, off + x.1 * k, none⟩) (min k (len - x.1 * k)) (min k (len - x.1 * k))] W fun e W' =>
      (e = .returned (.bool true) ∧ J (pre ++ [x]) W' ∧ Kps n1 Bo W W') ∨ (e = .returned (.bool false) ∧ Jx (pre ++ [x]) W'))
    (W : World) (hBs : W.cell? ⟨Bs, 0, none⟩ = some (.slice (some ⟨b, off, none⟩) len cap)) (hBk : W.cell? ⟨Bk, 0, none⟩ = some (.int .i64 k)) (h0 : J [] W) :
    CallsIn F n Try.prog 55 #[.func (.yield l) #[] #[], .pointer (some ⟨Bs, 0, none⟩), .pointer (some ⟨Bk, 0, none⟩)] W fun e W' => (∃ v, e = .returned v) ∧
      ((∃ ys : List (Fin m), ys.map (·.1) = List.range m ∧ J ys W') ∨ (∃ pre, True ∧ Jx pre W')) := by
  simp only [maxLen] at hcm
  refine callsIn_of_wp Try.func55 rfl h5 ?_ hro
  simp only [Try.ntmps55, List.size_toArray, List.length_cons, List.length_nil, Nat.reduceAdd, Nat.reduceSub, Array.replicate_succ, Array.replicate_zero, List.push_toArray, List.append_toArray, List.nil_append, List.cons_append]
  gi_wp2
  gi_loopw [4] (fun vi wr => ∃ (i j : Nat) (pre : List (Fin m)), j ≤ m ∧ vi = .int .i64 i ∧ RowKit.Hid (i = j * k) ∧ RowKit.Hid (pre.map (·.1) = List.range j) ∧ J pre wr ∧ Kps n1 Bo W wr)
    (fun vi _ => len + k - (intOf vi).toNat)
  case atStart => exact ⟨0, 0, [], Nat.zero_le _, rfl, by show 0 = 0 * k; omega, rfl, h0, fun _ _ _ => rfl⟩
  case round =>
    obtain ⟨i, j, pre, hj, rfl, HI, HP, hJs, hks⟩ := hrel
    have hcs : wr.cell? ⟨Bs, 0, none⟩ = some (.slice (some ⟨b, off, none⟩) len cap) := (hks.cell hbs.1 hbs.2).trans hBs
    have hck : wr.cell? ⟨Bk, 0, none⟩ = some (.int .i64 k) := (hks.cell hbk.1 hbk.2).trans hBk
    by_cases hlt : i < len
    · have hjm : j < m := (hm j).1 (by rw [← HI.out]; exact hlt)
      have hpl : pre.length = j := by have := congrArg List.length HP.out; simpa using this
      obtain ⟨fn, tmps, assign, body, hy, hR⟩ := hY pre ⟨j, hjm⟩ wr.drew (hJd _ _ hJs) (by omega)
      have HPL := Lib.hid hpl
      clear hpl
      dsimp only at hy
      rw [← HI.out] at hy
      by_cases hke : k ≤ len - i
      · rw [Nat.min_eq_left hke] at hy
        have h1 : i ≤ len := by omega
        have h2 : i ≤ cap := by omega
        have h3 : ¬ (((len - i : Nat) : Int) < (k : Int)) := by omega
        have h4 : i + k ≤ cap := by omega
        have h5 : len - i ≤ cap - i := by omega
        gi_wp2
        gi_region
        all_goals gi_wp2
        all_goals
          refine hR.mono ?_
          rintro e W3 (⟨rfl, hJ3, hk3⟩ | ⟨rfl, hJx3⟩)
          · have hck3 : W3.cell? ⟨Bk, 0, none⟩ = some (.int .i64 k) := (hk3.cell hbk.1 hbk.2).trans hck
            have HN := Lib.hid (show i + k = (j + 1) * k by rw [HI.out, Nat.add_mul, Nat.one_mul])
            have HQ := Lib.hid (show (pre ++ [(⟨j, hjm⟩ : Fin m)]).map (·.1) = List.range (j + 1) by rw [List.map_append, HP.out, List.range_succ]; rfl)
            have HK := Lib.hid (show Kps n1 Bo W W3 from hks.trans hk3)
            gi_wp2
            go_roundw
            case rel => exact ⟨i + k, j + 1, pre ++ [⟨j, hjm⟩], by omega, by go_num, HN, HQ, hJ3, HK.out⟩
            case measure => simp [intOf]; omega
          · gi_wp2
            refine bodyPost_ret (results_none rfl _ _ _) rfl ?_
            exact ⟨⟨_, rfl⟩, .inr ⟨pre ++ [⟨j, hjm⟩], trivial, hJx3⟩⟩
      · rw [Nat.min_eq_right (by omega)] at hy
        have h1 : i ≤ len := by omega
        have h2 : i ≤ cap := by omega
        have h3 : (((len - i : Nat) : Int) < (k : Int)) := by omega
        have h4 : i + (len - i) ≤ cap := by omega
        have h5 : len - i ≤ cap - i := by omega
        gi_wp2
        gi_region
        all_goals gi_wp2
        all_goals
          refine hR.mono ?_
          rintro e W3 (⟨rfl, hJ3, hk3⟩ | ⟨rfl, hJx3⟩)
          · have hck3 : W3.cell? ⟨Bk, 0, none⟩ = some (.int .i64 k) := (hk3.cell hbk.1 hbk.2).trans hck
            have HN := Lib.hid (show i + k = (j + 1) * k by rw [HI.out, Nat.add_mul, Nat.one_mul])
            have HQ := Lib.hid (show (pre ++ [(⟨j, hjm⟩ : Fin m)]).map (·.1) = List.range (j + 1) by rw [List.map_append, HP.out, List.range_succ]; rfl)
            have HK := Lib.hid (show Kps n1 Bo W W3 from hks.trans hk3)
            gi_wp2
            go_roundw
            case rel => exact ⟨i + k, j + 1, pre ++ [⟨j, hjm⟩], by omega, by go_num, HN, HQ, hJ3, HK.out⟩
            case measure => simp [intOf]; omega
          · gi_wp2
            refine bodyPost_ret (results_none rfl _ _ _) rfl ?_
            exact ⟨⟨_, rfl⟩, .inr ⟨pre ++ [⟨j, hjm⟩], trivial, hJx3⟩⟩
    · have hjm : j = m := by
        have h1 : ¬ j < m := fun h => hlt (by rw [HI.out]; exact (hm j).2 h)
        omega
      subst hjm
      gi_wp2
      go_end0
      exact ⟨⟨_, rfl⟩, .inl ⟨pre, HP.out, hJs⟩⟩
end Go.Proofs.Ytcejdmggacjnoaa
