
/- The weights of a list of a column, and the parity lists, of the program and of the reference. -/
import Derived.Test.YtjnclggpaekdfaaRows
import Derived.Test.YtjnclggpaekdfaaMix
import Derived.Test.YtjnclggpaekdfaaNum
import Derived.Test.YtjnclggpaekdfaaKep
namespace Go.Proofs.Ytjnclggpaekdfaa
open Go.RowKit

/-- by what bytes n data lists are scaled to come to the list p -/
def genAt (n : Nat) (p base : Int) (i : Nat) : UInt8 := if (n : Int) ≤ p then cau (base + p - n) i else if (i : Int) = p then 1 else 0
def genL (n : Nat) (p base : Int) : List UInt8 := (List.range n).map (genAt n p base)
def genTo (n : Nat) (p base : Int) (k : Nat) : List UInt8 := (List.range k).map (genAt n p base) ++ List.replicate (n - k) 0
theorem genL_length (n : Nat) (p base : Int) : (genL n p base).length = n := by simp [genL]
theorem genTo_zero (n : Nat) (p base : Int) : genTo n p base 0 = List.replicate n 0 := by simp [genTo]
theorem genTo_all (n : Nat) (p base : Int) : genTo n p base n = genL n p base := by simp [genTo, genL]
theorem genTo_next {n k : Nat} (p base : Int) (h : k < n) : (genTo n p base k).set k (genAt n p base k) = genTo n p base (k + 1) := by
  unfold genTo
  rw [List.set_append_right _ _ (by simp)]
  obtain ⟨m, hm⟩ : ∃ m, n - k = m + 1 := ⟨n - k - 1, by omega⟩
  rw [hm, show n - (k + 1) = m by omega, List.replicate_succ, List.length_map, List.length_range, Nat.sub_self, List.set_cons_zero, List.range_succ, List.map_append, List.append_assoc]
  rfl
theorem genTo_skip {n k : Nat} {p base : Int} (h : k < n) (h0 : genAt n p base k = 0) : genTo n p base k = genTo n p base (k + 1) := by
  rw [← genTo_next p base h, h0]
  unfold genTo
  obtain ⟨m, hm⟩ : ∃ m, n - k = m + 1 := ⟨n - k - 1, by omega⟩
  rw [hm, List.set_append_right _ _ (by simp), List.replicate_succ]
  simp
theorem genAt_par {n : Nat} {p base : Int} (i : Nat) (h : (n : Int) ≤ p) : genAt n p base i = cau (base + p - n) i := by unfold genAt; rw [if_pos h]
theorem genAt_one {n : Nat} {p base : Int} {i : Nat} (h : ¬ (n : Int) ≤ p) (h2 : (i : Int) = p) : genAt n p base i = 1 := by unfold genAt; rw [if_neg h, if_pos h2]
theorem genAt_not {n : Nat} {p base : Int} {i : Nat} (h : ¬ (n : Int) ≤ p) (h2 : ¬ (i : Int) = p) : genAt n p base i = 0 := by unfold genAt; rw [if_neg h, if_neg h2]

set_option maxRecDepth 100000 in
set_option maxHeartbeats 1000000 in
theorem weights_any (g : Nat) (c p : Int) (hg : 1 ≤ g) (hg4 : g ≤ 4) (hp : 0 ≤ p) (hp6 : p ≤ 6) (w : World) :
    Calls Try.prog 69 #[.agg #[.int .i64 g, .int .i64 c], .int .i64 p] w (NewSl byteL (genL g p 8) w) := by
  have hmk := make_bytes g (by omega)
  go_enter Try.func69, Try.ntmps69
  go_wp2_with fail
  go_loopw [12] (fun i wr => ∃ k : Nat, k ≤ g ∧ i = .int .i64 k ∧ byteL.sl wr (some ⟨w.heap.size + 1, 0, none⟩) g g (genTo g p 8 k) [w.heap.size + 1] ∧ Loose wr (w.heap.size + 1) ∧ wr.heap[w.heap.size]? = some (.cells #[.int .i64 g, .int .i64 c] 57 (0, 0)) ∧ Chg [] w wr) (fun i _ => g - (intOf i).toNat)
  case atStart => exact ⟨0, by omega, rfl, by rw [genTo_zero]; have := byte_zrow (w.alloc (.cells #[.int .i64 g, .int .i64 c] 57)) 5 g (by omega); simpa using this, ⟨_, _, by have := new_alloc (w.alloc (.cells #[.int .i64 g, .int .i64 c] 57)) (.cells (zrow (.int .u8 0) g) 5); simpa using this⟩, keep_alloc (new_alloc w _) _, ((Chg.refl [] w).alloc _).alloc _⟩
  case round =>
    obtain ⟨k, hk, rfl, hs, hlo, hb, hc⟩ := hrel
    have cb := cellsOf hb
    by_cases hlt : k < g
    · by_cases h1 : (g : Int) ≤ p
      · have HA := Lib.hid (genAt_par (base := 8) k h1)
        obtain ⟨o, O, ba, oa, HO, e, hco, _, _⟩ := byte_at hs hlt
        obtain ⟨rfl, rfl⟩ : w.heap.size + 1 = ba ∧ 0 = oa := by simpa using e
        have hfz : ∀ j, wr.frozen? ⟨w.heap.size + 1, j, none⟩ = false := by obtain ⟨cur, E, hw⟩ := hlo; exact freeOf hw
        have hst := byte_set hs (by simp) hlt (cau (8 + (p - g)) k)
        rw [Nat.zero_add] at hst hco
        have HST := Lib.hid hst
        have HE := Lib.hid (show (genTo g p 8 k).set k (cau (8 + (p - g)) k) = genTo g p 8 (k + 1) by rw [← genTo_next p 8 hlt, HA.out]; congr 2; omega)
        have HN := Lib.hid (And.intro hlo (And.intro hb hc))
        have HG := Lib.hid hg
        clear hst hs hlo hb hc e hg
        go_wp2_with fail
        refine (factor_any k (p - g) (by omega) (by omega) (by omega) (by omega) _).mono ?_
        rintro e w' ⟨rfl, rfl⟩
        go_wp2_with fail
        go_roundw
        case rel => exact ⟨k + 1, by omega, by go_num, by rw [← HE.out]; exact HST.out, HN.out.1.setCell _ _, keep_set HN.out.2.1 _ _ (by simp), HN.out.2.2.setCell _ _ (.inr (by simp))⟩
        case measure => simp [intOf]; omega
      · by_cases h2 : (k : Int) = p
        · have HA := Lib.hid (genAt_one (base := 8) h1 h2)
          obtain ⟨o, O, ba, oa, HO, e, hco, _, _⟩ := byte_at hs hlt
          obtain ⟨rfl, rfl⟩ : w.heap.size + 1 = ba ∧ 0 = oa := by simpa using e
          have hfz : ∀ j, wr.frozen? ⟨w.heap.size + 1, j, none⟩ = false := by obtain ⟨cur, E, hw⟩ := hlo; exact freeOf hw
          have hst := byte_set hs (by simp) hlt 1
          rw [Nat.zero_add] at hst hco
          have HST := Lib.hid hst
          have HE := Lib.hid (show (genTo g p 8 k).set k 1 = genTo g p 8 (k + 1) by rw [← genTo_next p 8 hlt, HA.out])
          have HN := Lib.hid (And.intro hlo (And.intro hb hc))
          have h2' : p == (k : Int) := by simp [h2]
          have H2 := Lib.hid h2
          clear hst hs hlo hb hc e h2
          go_wp2_with fail
          go_roundw
          case rel => exact ⟨k + 1, by omega, by go_num, by rw [← HE.out]; exact HST.out, HN.out.1.setCell _ _, keep_set HN.out.2.1 _ _ (by simp), HN.out.2.2.setCell _ _ (.inr (by simp))⟩
          case measure => simp [intOf]; omega
        · have HA := Lib.hid (genAt_not (base := 8) h1 h2)
          have HN := Lib.hid (And.intro hlo (And.intro hb hc))
          have HS := Lib.hid hs
          have HE := Lib.hid (genTo_skip hlt HA.out)
          have h2' : (p == (k : Int)) = false := by simp; omega
          clear hs hlo hb hc
          go_wp2_with fail
          go_roundw
          case rel => exact ⟨k + 1, by omega, by go_num, by rw [← HE.out]; exact HS.out, HN.out.1, HN.out.2.1, HN.out.2.2⟩
          case measure => simp [intOf]; omega
    · obtain rfl : k = g := by omega
      have hN : NewSl byteL (genL k p 8) w (.returned (.slice (some ⟨w.heap.size + 1, 0, none⟩) k k)) wr := by
        rw [genTo_all] at hs
        exact ⟨some ⟨w.heap.size + 1, 0, none⟩, k, [w.heap.size + 1], by rw [genL_length], by rw [genL_length]; exact hs, ⟨by simp, fun b hb => by simp at hb; subst hb; exact ⟨by omega, hlo⟩⟩, hc⟩
      have HN := Lib.hid hN
      clear hN hs hlo hc hb
      go_wp2_with fail
      go_ret
      exact HN.out

set_option maxRecDepth 100000 in
set_option maxHeartbeats 1000000 in
theorem l2Gen_any (g : Nat) (p base : Int) (hg : 1 ≤ g) (hg4 : g ≤ 4) (hp : 0 ≤ p) (hp6 : p ≤ 6) (hb0 : 0 ≤ base) (hb8 : base ≤ 8) (w : World) :
    Calls Try.prog 70 #[.int .i64 g, .int .i64 p, .int .i64 base] w (NewSl byteL (genL g p base) w) := by
  have hmk := make_bytes g (by omega)
  go_enter Try.func70, Try.ntmps70
  go_wp2_with fail
  go_loopw [8] (fun i wr => ∃ k : Nat, k ≤ g ∧ i = .int .i64 k ∧ byteL.sl wr (some ⟨w.heap.size, 0, none⟩) g g (genTo g p base k) [w.heap.size] ∧ Loose wr (w.heap.size) ∧ Chg [] w wr) (fun i _ => g - (intOf i).toNat)
  case atStart => exact ⟨0, by omega, rfl, by rw [genTo_zero]; exact byte_zrow w 5 g (by omega), ⟨_, _, new_alloc w _⟩, (Chg.refl [] w).alloc _⟩
  case round =>
    obtain ⟨k, hk, rfl, hs, hlo, hc⟩ := hrel
    by_cases hlt : k < g
    · by_cases h1 : (g : Int) ≤ p
      · have HA := Lib.hid (genAt_par (base := base) k h1)
        obtain ⟨o, O, ba, oa, HO, e, hco, _, _⟩ := byte_at hs hlt
        obtain ⟨rfl, rfl⟩ : w.heap.size = ba ∧ 0 = oa := by simpa using e
        have hfz : ∀ j, wr.frozen? ⟨w.heap.size, j, none⟩ = false := by obtain ⟨cur, E, hw⟩ := hlo; exact freeOf hw
        have hst := byte_set hs (by simp) hlt (cau (base + p - g) k)
        rw [Nat.zero_add] at hst hco
        have HST := Lib.hid hst
        have HE := Lib.hid (show (genTo g p base k).set k (cau (base + p - g) k) = genTo g p base (k + 1) by rw [← genTo_next p base hlt, HA.out])
        have HN := Lib.hid (And.intro hlo hc)
        have HG := Lib.hid hg
        clear hst hs hlo hc e hg
        go_wp2_with fail
        refine (l1Cauchy_any (base + p - g) k (by omega) (by omega) (by omega) (by omega) _).mono ?_
        rintro e w' ⟨rfl, rfl⟩
        go_wp2_with fail
        go_roundw
        case rel => exact ⟨k + 1, by omega, by go_num, by rw [← HE.out]; exact HST.out, HN.out.1.setCell _ _, HN.out.2.setCell _ _ (.inr (by simp))⟩
        case measure => simp [intOf]; omega
      · by_cases h2 : (k : Int) = p
        · have HA := Lib.hid (genAt_one (base := base) h1 h2)
          obtain ⟨o, O, ba, oa, HO, e, hco, _, _⟩ := byte_at hs hlt
          obtain ⟨rfl, rfl⟩ : w.heap.size = ba ∧ 0 = oa := by simpa using e
          have hfz : ∀ j, wr.frozen? ⟨w.heap.size, j, none⟩ = false := by obtain ⟨cur, E, hw⟩ := hlo; exact freeOf hw
          have hst := byte_set hs (by simp) hlt 1
          rw [Nat.zero_add] at hst hco
          have HST := Lib.hid hst
          have HE := Lib.hid (show (genTo g p base k).set k 1 = genTo g p base (k + 1) by rw [← genTo_next p base hlt, HA.out])
          have HN := Lib.hid (And.intro hlo hc)
          have h2' : ((k : Int) == p) = true := by simp [h2]
          have H2 := Lib.hid h2
          clear hst hs hlo hc e h2
          go_wp2_with fail
          go_roundw
          case rel => exact ⟨k + 1, by omega, by go_num, by rw [← HE.out]; exact HST.out, HN.out.1.setCell _ _, HN.out.2.setCell _ _ (.inr (by simp))⟩
          case measure => simp [intOf]; omega
        · have HA := Lib.hid (genAt_not (base := base) h1 h2)
          have HN := Lib.hid (And.intro hlo hc)
          have HS := Lib.hid hs
          have HE := Lib.hid (genTo_skip hlt HA.out)
          have h2' : ((k : Int) == p) = false := by simp; omega
          clear hs hlo hc
          go_wp2_with fail
          go_roundw
          case rel => exact ⟨k + 1, by omega, by go_num, by rw [← HE.out]; exact HS.out, HN.out.1, HN.out.2⟩
          case measure => simp [intOf]; omega
    · obtain rfl : k = g := by omega
      have hN : NewSl byteL (genL k p base) w (.returned (.slice (some ⟨w.heap.size, 0, none⟩) k k)) wr := by
        rw [genTo_all] at hs
        exact ⟨some ⟨w.heap.size, 0, none⟩, k, [w.heap.size], by rw [genL_length], by rw [genL_length]; exact hs, ⟨by simp, fun b hb => by simp at hb; subst hb; exact ⟨Nat.le_refl _, hlo⟩⟩, hc⟩
      have HN := Lib.hid hN
      clear hN hs hlo hc
      go_wp2_with fail
      go_ret
      exact HN.out
end Go.Proofs.Ytjnclggpaekdfaa
