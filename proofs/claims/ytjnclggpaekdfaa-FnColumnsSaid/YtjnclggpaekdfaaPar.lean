
/- The parity lists of a column, of the program and of the reference. -/
import Derived.Test.YtjnclggpaekdfaaEnc
import Derived.Test.YtjnclggpaekdfaaGrw
namespace Go.Proofs.Ytjnclggpaekdfaa
open Go.RowKit

/-- the first so many parity lists -/
def parL (xs : List (List UInt8)) (n0 : Nat) (c : Nat) : List (List UInt8) := (List.range c).map (fun j : Nat => mixTo xs (genL xs.length (xs.length + j) 8) n0 xs.length)
theorem parL_length (xs : List (List UInt8)) (n0 c : Nat) : (parL xs n0 c).length = c := by simp [parL]
theorem parL_next (xs : List (List UInt8)) (n0 c : Nat) : parL xs n0 (c + 1) = parL xs n0 c ++ [mixTo xs (genL xs.length (xs.length + c) 8) n0 xs.length] := by
  unfold parL; rw [List.range_succ, List.map_append]; rfl

set_option maxRecDepth 100000 in
set_option maxHeartbeats 1000000 in
theorem parity_any (a : Option Addr) (la ca n0 c : Nat) (xs : List (List UInt8)) (f : List Nat) (w : World) (ha : byteL.slice.sl w a la ca xs f) (h0 : 1 ≤ la) (h4 : la ≤ 4) (hc2 : c ≤ 2) (hn : n0 ≤ 140737488355327) (hal : RowKit.Hid (∀ x ∈ xs, x.length = n0)) :
    Calls Try.prog 35 #[.agg #[.int .i64 la, .int .i64 c], .slice a la ca] w (NewSl byteL.slice (parL xs n0 c) w) := by
  obtain ⟨K, _⟩ := kindLL
  have HA := Lib.hid ha
  have HL := Lib.hid ha.1
  clear ha
  go_enter Try.func35, Try.ntmps35
  go_wp2_with fail
  go_loopw [5, 10] (fun v i wr => ∃ k : Nat, k ≤ c ∧ i = .int .i64 k ∧ Grow byteL.slice 22 (w.alloc (.cells #[.int .i64 la, .int .i64 c] 57)) wr v (parL xs n0 k)) (fun _ i _ => c - (intOf i).toNat)
  case atStart => exact ⟨0, by omega, rfl, Grow.madeN (Chg.refl [] _) (by simp)⟩
  case round =>
    obtain ⟨k, hk, rfl, hg⟩ := hrel
    have cb := cellsOf (hg.chg.keep0 (new_alloc w _))
    by_cases hlt : k < c
    · have HG := Lib.hid hg
      clear hg
      go_wp2_with fail
      refine (weights_any la c (la + k) (by omega) (by omega) (by omega) (by omega) _).mono ?_
      rintro e w1 ⟨A, C, fw, rfl, hs, hf, hc⟩
      rw [genL_length] at hs ⊢
      have HS := Lib.hid hs; have HC := Lib.hid hc
      clear hs hc hf
      go_wp2_with fail
      refine (mixed_any a A la ca C n0 xs _ f fw _ (byteL.slice.sl_ext HA.out (((Chg.refl [] w).alloc _).trans0 (HG.out.chg.trans0 HC.out))) HS.out (by omega) hn hal).mono ?_
      rintro e w2 ⟨A2, C2, f2, rfl, hs2, hf2, hc2⟩
      have HE := Lib.hid (show parL xs n0 (k + 1) = parL xs n0 k ++ [mixTo xs (genL la (la + k) 8) n0 la] by rw [HL.out]; exact parL_next xs n0 k)
      obtain ⟨y, hy⟩ : ∃ y, y = mixTo xs (genL la (la + k) 8) n0 la := ⟨_, rfl⟩
      rw [← hy] at hs2 ⊢
      rw [← hy] at HE
      have HS2 := Lib.hid hs2; have HF2 := Lib.hid (hf2.mono HC.out.size); have HC2 := Lib.hid (HC.out.trans0 hc2)
      have HLL : RowKit.Hid ((parL xs n0 k).length + [y].length ≤ maxLen ∧ ((parL xs n0 k).length + [y].length) * 24 ≤ 140737488355328) := by
        rw [parL_length]; refine ⟨?_, ?_⟩ <;> simp only [List.length_cons, List.length_nil, maxLen] <;> omega
      clear hs2 hf2 hc2 hy HC
      go_wp2_with (refine byteL.slice.wpList_grow rfl _ _ 24 rfl Try.underlying24 K rfl HG.out (HC2.out.alloc _) ⟨w2.heap.size, 0, none⟩ 1 1 [.slice A2 y.length C2] (ys := [y]) (f := f2) rfl rfl (new_cell _ _ _) (slc_all1 (byteL.sl_ext HS2.out ((Chg.refl [] w2).alloc _))) (HF2.out.chg ((Chg.refl [] w2).alloc _)) HLL.out.1 HLL.out.2 ?_; intro v' w' hg'; rw [← HE.out] at hg'; have HN := Lib.hid hg'; clear hg')
      go_roundw
      case rel => exact ⟨k + 1, by omega, by go_num, HN.out⟩
      case measure => simp [intOf]; omega
    · obtain rfl : k = c := by omega
      have HN := Lib.hid (hg.since ((Chg.refl [] w).alloc _)).new
      clear hg
      go_wp2_with fail
      go_ret
      exact HN.out

set_option maxRecDepth 100000 in
set_option maxHeartbeats 1000000 in
theorem l3Encode_any (a : Option Addr) (la ca n0 c : Nat) (xs : List (List UInt8)) (f : List Nat) (w : World) (ha : byteL.slice.sl w a la ca xs f) (h0 : 1 ≤ la) (h4 : la ≤ 4) (hc2 : c ≤ 2) (hn : n0 ≤ 140737488355327) (hal : RowKit.Hid (∀ x ∈ xs, x.length = n0)) :
    Calls Try.prog 38 #[.slice a la ca, .int .i64 c] w (NewSl byteL.slice (parL xs n0 c) w) := by
  obtain ⟨K, _⟩ := kindLL
  have HA := Lib.hid ha
  have HL := Lib.hid ha.1
  clear ha
  go_enter Try.func38, Try.ntmps38
  go_wp2_with fail
  go_loopw [6, 7] (fun v i wr => ∃ k : Nat, k ≤ c ∧ i = .int .i64 k ∧ Grow byteL.slice 22 w wr v (parL xs n0 k)) (fun _ i _ => c - (intOf i).toNat)
  case atStart => exact ⟨0, by omega, rfl, Grow.madeN (Chg.refl [] _) (by simp)⟩
  case round =>
    obtain ⟨k, hk, rfl, hg⟩ := hrel
    by_cases hlt : k < c
    · have HG := Lib.hid hg
      clear hg
      go_wp2_with fail
      refine (l2Gen_any la (la + k) 8 (by omega) (by omega) (by omega) (by omega) (by omega) (by omega) _).mono ?_
      rintro e w1 ⟨A, C, fw, rfl, hs, hf, hc⟩
      rw [genL_length] at hs ⊢
      have HS := Lib.hid hs; have HC := Lib.hid hc
      clear hs hc hf
      go_wp2_with fail
      refine (l1Mix_any a A la ca C n0 xs _ f fw _ (byteL.slice.sl_ext HA.out (HG.out.chg.trans0 HC.out)) HS.out (by omega) hn hal).mono ?_
      rintro e w2 ⟨A2, C2, f2, rfl, hs2, hf2, hc2⟩
      have HE := Lib.hid (show parL xs n0 (k + 1) = parL xs n0 k ++ [mixTo xs (genL la (la + k) 8) n0 la] by rw [HL.out]; exact parL_next xs n0 k)
      obtain ⟨y, hy⟩ : ∃ y, y = mixTo xs (genL la (la + k) 8) n0 la := ⟨_, rfl⟩
      rw [← hy] at hs2 ⊢
      rw [← hy] at HE
      have HS2 := Lib.hid hs2; have HF2 := Lib.hid (hf2.mono HC.out.size); have HC2 := Lib.hid (HC.out.trans0 hc2)
      have HLL : RowKit.Hid ((parL xs n0 k).length + [y].length ≤ maxLen ∧ ((parL xs n0 k).length + [y].length) * 24 ≤ 140737488355328) := by
        rw [parL_length]; refine ⟨?_, ?_⟩ <;> simp only [List.length_cons, List.length_nil, maxLen] <;> omega
      clear hs2 hf2 hc2 hy HC
      go_wp2_with (refine byteL.slice.wpList_grow rfl _ _ 24 rfl Try.underlying24 K rfl HG.out (HC2.out.alloc _) ⟨w2.heap.size, 0, none⟩ 1 1 [.slice A2 y.length C2] (ys := [y]) (f := f2) rfl rfl (new_cell _ _ _) (slc_all1 (byteL.sl_ext HS2.out ((Chg.refl [] w2).alloc _))) (HF2.out.chg ((Chg.refl [] w2).alloc _)) HLL.out.1 HLL.out.2 ?_; intro v' w' hg'; rw [← HE.out] at hg'; have HN := Lib.hid hg'; clear hg')
      go_roundw
      case rel => exact ⟨k + 1, by omega, by go_num, HN.out⟩
      case measure => simp [intOf]; omega
    · obtain rfl : k = c := by omega
      have HN := Lib.hid hg.new
      clear hg
      go_wp2_with fail
      go_ret
      exact HN.out
end Go.Proofs.Ytjnclggpaekdfaa
