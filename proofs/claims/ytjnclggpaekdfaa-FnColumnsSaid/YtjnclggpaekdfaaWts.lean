
/- The weights by which lists that are there come to a list that is wanted, of the reference and of the program. -/
import Derived.Test.YtjnclggpaekdfaaRfa
import Derived.Test.YtjnclggpaekdfaaSls
import Derived.Test.YtjnclggpaekdfaaMds
import Derived.Test.YtjnclggpaekdfaaOwn
import Derived.Test.YtjnclggpaekdfaaZer
import Derived.Deep.RegionLaw
namespace Go.Proofs.Ytjnclggpaekdfaa
open Go.RowKit

def colTo (n : Nat) (base : Int) (ks : List Int) (p : Int) (i : Nat) : List (List UInt8) :=
  (List.range n).map (fun j => ks.map (fun k => genAt n k base j) ++ if j < i then [genAt n p base j] else [])
theorem colR_zero (n : Nat) (base : Int) : colR n base [] = List.replicate n [] := by
  unfold colR
  apply List.ext_getElem?
  intro i
  rw [List.getElem?_map, List.getElem?_replicate]
  by_cases h : i < n
  · rw [List.getElem?_range h, if_pos h]; rfl
  · rw [List.getElem?_eq_none (by simpa using h), if_neg h]; rfl
theorem colTo_zero (n : Nat) (base : Int) (ks : List Int) (p : Int) : colTo n base ks p 0 = colR n base ks := by unfold colTo colR; simp
theorem colTo_all (n : Nat) (base : Int) (ks : List Int) (p : Int) : colTo n base ks p n = colR n base (ks ++ [p]) := by
  unfold colTo colR
  apply List.map_congr_left
  intro j hj
  rw [if_pos (List.mem_range.1 hj), List.map_append]; rfl
theorem colTo_length (n : Nat) (base : Int) (ks : List Int) (p : Int) (i : Nat) : (colTo n base ks p i).length = n := by simp [colTo]
theorem colTo_at {n : Nat} {base : Int} {ks : List Int} {p : Int} {i : Nat} (h : i < n) : (colTo n base ks p i)[i]? = some (ks.map (fun k => genAt n k base i)) := by
  unfold colTo; rw [List.getElem?_map, List.getElem?_range h]; simp
theorem colTo_next {n : Nat} {base : Int} {ks : List Int} {p : Int} {i : Nat} (h : i < n) : (colTo n base ks p i).set i (ks.map (fun k => genAt n k base i) ++ [genAt n p base i]) = colTo n base ks p (i + 1) := by
  apply List.ext_getElem?
  intro j
  by_cases e : i = j
  · subst e
    rw [List.getElem?_set_self (by rw [colTo_length]; exact h)]
    unfold colTo; rw [List.getElem?_map, List.getElem?_range h]; simp
  · rw [List.getElem?_set_ne e]
    unfold colTo
    rw [List.getElem?_map, List.getElem?_map]
    by_cases hj : j < n
    · rw [List.getElem?_range hj]
      simp only [Option.map_some]
      congr 2
      by_cases h2 : j < i
      · rw [if_pos h2, if_pos (by omega)]
      · rw [if_neg h2, if_neg (by omega)]
    · rw [List.getElem?_eq_none (by simpa using hj)]; rfl
theorem genL_at {n : Nat} {p base : Int} {i : Nat} (h : i < n) : (genL n p base)[i]? = some (genAt n p base i) := by
  unfold genL; rw [List.getElem?_map, List.getElem?_range h]; rfl
theorem colTo_step {n : Nat} {base : Int} {ks : List Int} {p : Int} {i : Nat} {x : List UInt8} {y : UInt8} (hx : (colTo n base ks p i)[i]? = some x) (hy : (genL n p base)[i]? = some y) (h : i < n) :
    x.length = ks.length ∧ (colTo n base ks p i).set i (x ++ [y]) = colTo n base ks p (i + 1) := by
  rw [colTo_at h] at hx
  rw [genL_at h] at hy
  cases hx; cases hy
  exact ⟨by simp, colTo_next h⟩

set_option maxRecDepth 100000 in
set_option maxHeartbeats 2000000 in
theorem l2Weights_any (a : Option Addr) (la ca : Nat) (ks : List Int) (f : List Nat) (g : Nat) (p base : Int) (w : World) (ha : intL.sl w a la ca ks f) (hg : 1 ≤ g) (hg4 : g ≤ 4) (hgl : g ≤ la) (hk : RowKit.Hid (∀ k ∈ ks, 0 ≤ k ∧ k ≤ 6)) (hp : 0 ≤ p) (hp6 : p ≤ 6) (hb0 : 0 ≤ base) (hb8 : base ≤ 8) :
    Calls Try.prog 60 #[.int .i64 g, .slice a la ca, .int .i64 p, .int .i64 base] w (NewSl byteL ((solV (colR g base (ks.take g)) (genL g p base)).getD []) w) := by
  obtain ⟨K, _⟩ := kindB
  have hmk := make_lists g (by omega)
  have HA := Lib.hid ha
  have HL := Lib.hid ha.1
  clear ha
  go_enter Try.func60, Try.ntmps60
  go_wp2_with fail
  go_loopw [10] (fun vk wr => ∃ (k : Nat) (Wr : World), Wr = wr ∧ k ≤ g ∧ vk = .int .i64 k ∧ OwnR 5 wr w.heap.size (fun b => w.heap.size ≤ b) g (colR g base (ks.take k)) ∧ Chg [] w wr) (fun vk _ => g - (intOf vk).toNat)
  case atStart => exact ⟨0, _, rfl, by omega, rfl, by rw [List.take_zero, colR_zero]; exact OwnR.start w _, (Chg.refl [] w).alloc _⟩
  case round =>
    obtain ⟨k, wr, rfl, hkg, rfl, hO, hc⟩ := hrel
    have HO := Lib.hid hO; have HC := Lib.hid hc
    have hH := hO.lt
    by_cases hlt : k < g
    · obtain ⟨q, bq, oq, HQ, rfl, hcq, HQ2⟩ := int_at (intL.sl_ext HA.out hc) (by omega : k < la)
      have HQ3 := Lib.hid (hk.out q (List.mem_of_getElem? HQ.out.1))
      have hq0 : 0 ≤ q := HQ3.out.1
      have hq6 : q ≤ 6 := HQ3.out.2
      clear hO hc
      go_wp2_with fail
      refine (l2Gen_any g q base hg hg4 hq0 hq6 hb0 hb8 _).mono ?_
      rintro e w1 ⟨A, C, fw, rfl, hs, hf, hc1⟩
      rw [genL_length] at hs ⊢
      have HO1 := Lib.hid ((HO.out.more (ok' := fun b => w.heap.size ≤ b ∧ b ∉ fw) (fun b hb hB => ⟨hB, fun hm => by have := (hf.2 b hm).1; omega⟩)).ext hc1)
      have HC1 := Lib.hid (HC.out.trans0 hc1)
      have HS := Lib.hid hs
      have HFH := Lib.hid (fun (b : Nat) (hm : b ∈ fw) => (show w.heap.size ≠ b by have := (hf.2 b hm).1; omega))
      clear hs hf hc1
      go_wp2_with fail
      go_loopw [12] (fun vi w2 => ∃ (i : Nat) (W2 : World), W2 = w2 ∧ i ≤ g ∧ vi = .int .i64 i ∧ OwnR 5 w2 w.heap.size (fun b => w.heap.size ≤ b ∧ b ∉ fw) g (colTo g base (ks.take k) q i) ∧ byteL.sl w2 A g C (genL g q base) fw ∧ Chg [] w w2) (fun vi _ => g - (intOf vi).toNat)
      case atStart => exact ⟨0, _, rfl, by omega, rfl, by rw [colTo_zero]; exact HO1.out, HS.out, HC1.out⟩
      case round =>
        obtain ⟨i, w2, rfl, hi, rfl, hO2, hs2, hc2⟩ := hrel
        by_cases hlt2 : i < g
        · obtain ⟨x, a2, cap2, hd, HR, hcR⟩ := hO2.row (fun b hb => ⟨Nat.le_trans hc2.size hb, fun hm => by have := byteL.sl_lt hs2 b hm; omega⟩) hlt2
          obtain ⟨y, Y, b2, o2, HY, rfl, hcy, hy1, hy2⟩ := byte_at hs2 hlt2
          rw [HY.out.2.1] at hcy
          have HST := Lib.hid (colTo_step HR.out.1 HY.out.1 hlt2)
          have HLL : RowKit.Hid (x.length + [y].length ≤ maxLen ∧ (x.length + [y].length) * 1 ≤ 140737488355328) := by
            have := HST.out.1
            have := List.length_take_le k ks
            refine ⟨?_, ?_⟩ <;> simp only [List.length_cons, List.length_nil, maxLen] <;> omega
          have HS2 := Lib.hid hs2; have HC2 := Lib.hid hc2
          have hH2 := hO2.lt
          have HKP := Lib.hid (fun (w' : World) (hc' : Chg hd.toList ((w2.alloc (.cells #[.int .u8 ((y.toNat : Nat) : Int)] 5)).drew) w') => And.intro
            ((HC2.out.trans0 ((Chg.refl [] w2).alloc (.cells #[.int .u8 ((y.toNat : Nat) : Int)] 5)).drew).trans hc' (fun b hb => .inr (by simp at hb; exact (HR.out.2.2.1 b hb).1.1)))
            (byteL.sl_chg (byteL.sl_ext HS2.out ((Chg.refl [] w2).alloc (.cells #[.int .u8 ((y.toNat : Nat) : Int)] 5)).drew) hc' (fun b hb hm => by simp at hm; exact (HR.out.2.2.1 b hm).1.2 hb)))
          clear hs2 hc2 hO2 hy1 hy2
          go_wp2_with fail
          go_region_law (refine byteL.step_append rfl _ _ 22 rfl Try.underlying22 K rfl (byteL.os_ext HR.out.2.1 ((Chg.refl [] w2).alloc (.cells #[.int .u8 ((y.toNat : Nat) : Int)] 5)).drew) ⟨w2.heap.size, 0, none⟩ 1 1 [.int .u8 ((y.toNat : Nat) : Int)] (ys := [y]) (f := []) rfl rfl (new_cell _ _ _) (byte_all1 rfl) (fun _ _ => by simp) HLL.out.1 HLL.out.2 ?_; intro v' w' h' ho' hh' hc'; obtain ⟨a6, c6, rfl⟩ := byteL.os_len ho'; have HN := Lib.hid (HR.out.2.2.2 y _ _ _ _ ((Chg.refl [] w2).alloc (.cells #[.int .u8 ((y.toNat : Nat) : Int)] 5)).drew ho' hh' hc'); have HP := Lib.hid (HKP.out _ hc'); have hcx6 := HN.out.1; have hfz6 := HN.out.2.1; have hlt6 := HN.out.2.2.1; clear ho' hh' hc')
          all_goals
            go_wp2_with fail
            go_roundw
            case rel =>
              have h1 := HN.out.2.2.2
              rw [HST.out.2] at h1
              exact ⟨i + 1, _, rfl, by omega, by go_num, by simpa using h1, byteL.sl_chg HP.out.2 ((Chg.refl [w.heap.size] _).setCell _ _ (.inl (by simp))) (fun b hb hm => HFH.out b hb (List.mem_singleton.1 hm).symm), HP.out.1.setCell _ _ (.inr (by simp))⟩
            case measure => simp [intOf]; omega
        · obtain rfl : i = g := by omega
          rw [colTo_all] at hO2
          have HE := Lib.hid (show ks.take (k + 1) = ks.take k ++ [q] from take_next HQ.out.1)
          have HN := Lib.hid (And.intro (hO2.more (ok' := fun b => w.heap.size ≤ b) (fun b _ h => h.1)) hc2)
          clear hO2 hs2 hc2
          go_wp2_with fail
          go_roundw
          case rel => exact ⟨k + 1, _, rfl, by omega, by go_num, by rw [HE.out]; exact HN.out.1, HN.out.2⟩
          case measure => simp [intOf]; omega
    · obtain rfl : k = g := by omega
      obtain ⟨fr, hsr⟩ := hO.sl (by simp only [maxLen]; omega)
      have HSR := Lib.hid hsr
      have HWD := Lib.hid (show Wide k (colR k base (ks.take k)) from by
        have := colR_wide k base (ks.take k)
        rwa [List.length_take, Nat.min_eq_left (by have := HL.out; omega)] at this)
      clear hO hc hsr
      go_wp2_with fail
      refine (l2Gen_any k p base hg hg4 hp hp6 hb0 hb8 _).mono ?_
      rintro e w1 ⟨A, C, fw, rfl, hs, hf, hc1⟩
      rw [genL_length] at hs ⊢
      have HS := Lib.hid hs; have HC1 := Lib.hid hc1
      clear hs hf hc1
      go_wp2_with fail
      refine (l1Solve_any _ A k k C (colR k base (ks.take k)) (genL k p base) fr fw _ (byteL.slice.sl_ext HSR.out HC1.out) HS.out hg (by omega) HWD.out).mono ?_
      rintro e w3 ⟨a3, c3, f3, rfl, hs3, hf3, hc3⟩
      have HN : RowKit.Hid (NewSl byteL ((solV (colR k base (ks.take k)) (genL k p base)).getD []) w (.returned (.slice a3 ((solV (colR k base (ks.take k)) (genL k p base)).getD []).length c3)) w3) :=
        ⟨a3, c3, f3, rfl, hs3, hf3.mono (HC.out.trans0 HC1.out).size, (HC.out.trans0 HC1.out).trans0 hc3⟩
      clear hs3 hf3 hc3
      generalize hlz : ((solV (colR k base (ks.take k)) (genL k p base)).getD []).length = lz at HN ⊢
      clear hlz
      go_wp2_with fail
      go_ret
      exact HN.out

theorem sizeI2_any (a : Option Addr) (la ca : Nat) (w : World) :
    Calls Try.prog 50 #[.slice a la ca] w fun e w' => e = .returned (.int .i64 la) ∧ w = w' := by
  go_enter Try.func50, Try.ntmps50
  go_wp2
  go_ret
  exact ⟨ret_int (by go_num), rfl⟩

set_option maxRecDepth 100000 in
set_option maxHeartbeats 2000000 in
theorem share_any (a : Option Addr) (la ca : Nat) (ks : List Int) (f : List Nat) (g : Nat) (c p : Int) (w : World) (ha : intL.sl w a la ca ks f) (hg : 1 ≤ g) (hg4 : g ≤ 4) (hgl : g ≤ la) (hla : la ≤ 6) (hk : RowKit.Hid (∀ k ∈ ks, 0 ≤ k ∧ k ≤ 6)) (hp : 0 ≤ p) (hp6 : p ≤ 6) (z : List UInt8) (hz : RowKit.Hid (solV (colR g 8 (ks.take g)) (genL g p 8) = some z)) (hzl : RowKit.Hid (z.length = g)) :
    Calls Try.prog 51 #[.agg #[.int .i64 g, .int .i64 c], .slice a la ca, .int .i64 p] w (NewSl byteL (z ++ List.replicate (la - g) 0) w) := by
  obtain ⟨K, hKz⟩ := kindB
  have hmk := make_lists g (by omega)
  obtain ⟨_, b0, o0, _, rfl, _, _⟩ := int_at ha (show 0 < la by omega)
  have HA := Lib.hid ha
  have HL := Lib.hid ha.1
  obtain ⟨ft, hft, hat⟩ := intL.sl_take ha hgl
  have HT := Lib.hid hat
  have hca := ha.2.1
  have hcm := ha.2.2.1
  simp only [maxLen] at hcm
  clear ha hat hft
  go_enter Try.func51, Try.ntmps51
  go_wp2_with fail
  go_loopw [22] (fun vk wr => ∃ (k : Nat) (Wr : World), Wr = wr ∧ k ≤ g ∧ vk = .int .i64 k ∧ OwnR 5 wr (w.heap.size + 1) (fun b => w.heap.size + 1 ≤ b) g (colR g 8 (ks.take k)) ∧ Chg [] (w.alloc (.cells #[.int .i64 g, .int .i64 c] 57)) wr) (fun vk _ => g - (intOf vk).toNat)
  case atStart => exact ⟨0, _, rfl, by omega, rfl, by rw [List.take_zero, colR_zero]; have := OwnR.start (E := 5) (n := g) (ok := fun b => w.heap.size + 1 ≤ b) (w.alloc (.cells #[.int .i64 g, .int .i64 c] 57)) 22; simpa using this, (Chg.refl [] _).alloc _⟩
  case round =>
    obtain ⟨k, wr, rfl, hkg, rfl, hO, hc⟩ := hrel
    have HO := Lib.hid hO; have HC := Lib.hid hc
    have hH := hO.lt
    have cb := cellsOf (hc.keep0 (new_alloc w _))
    have HCW := Lib.hid (((Chg.refl [] w).alloc _).trans0 hc)
    by_cases hlt : k < g
    · obtain ⟨q, bq, oq, HQ, e, hcq, HQ2⟩ := int_at (intL.sl_ext HT.out HCW.out) hlt
      obtain ⟨rfl, rfl⟩ : b0 = bq ∧ o0 = oq := by simpa using e
      have HQI := Lib.hid (show ks[k]? = some q by have := HQ.out.1; rwa [List.getElem?_take_of_lt hlt] at this)
      have HQ3 := Lib.hid (hk.out q (List.mem_of_getElem? HQI.out))
      have hq0 : 0 ≤ q := HQ3.out.1
      have hq6 : q ≤ 6 := HQ3.out.2
      clear hO hc e
      go_wp2_with fail
      refine (weights_any g c q hg hg4 hq0 hq6 _).mono ?_
      rintro e w1 ⟨A, C, fw, rfl, hs, hf, hc1⟩
      rw [genL_length] at hs ⊢
      have HO1 := Lib.hid ((HO.out.more (ok' := fun b => w.heap.size + 1 ≤ b ∧ b ∉ fw) (fun b hb hB => ⟨hB, fun hm => by have := (hf.2 b hm).1; omega⟩)).ext hc1)
      have HC1 := Lib.hid (HC.out.trans0 hc1)
      have HS := Lib.hid hs
      have HFH := Lib.hid (fun (b : Nat) (hm : b ∈ fw) => (show w.heap.size + 1 ≠ b by have := (hf.2 b hm).1; omega))
      clear hs hf hc1
      go_wp2_with fail
      go_loopw [30] (fun vi w2 => ∃ (i : Nat) (W2 : World), W2 = w2 ∧ i ≤ g ∧ vi = .int .i64 i ∧ OwnR 5 w2 (w.heap.size + 1) (fun b => w.heap.size + 1 ≤ b ∧ b ∉ fw) g (colTo g 8 (ks.take k) q i) ∧ byteL.sl w2 A g C (genL g q 8) fw ∧ Chg [] (w.alloc (.cells #[.int .i64 g, .int .i64 c] 57)) w2) (fun vi _ => g - (intOf vi).toNat)
      case atStart => exact ⟨0, _, rfl, by omega, rfl, by rw [colTo_zero]; exact HO1.out, HS.out, HC1.out⟩
      case round =>
        obtain ⟨i, w2, rfl, hi, rfl, hO2, hs2, hc2⟩ := hrel
        by_cases hlt2 : i < g
        · obtain ⟨x, a2, cap2, hd, HR, hcR⟩ := hO2.row (fun b hb => ⟨Nat.le_trans (by have := hc2.size; simpa using this) hb, fun hm => by have := byteL.sl_lt hs2 b hm; omega⟩) hlt2
          obtain ⟨y, Y, b2, o2, HY, rfl, hcy, hy1, hy2⟩ := byte_at hs2 hlt2
          rw [HY.out.2.1] at hcy
          have HST := Lib.hid (colTo_step HR.out.1 HY.out.1 hlt2)
          have HLL : RowKit.Hid (x.length + [y].length ≤ maxLen ∧ (x.length + [y].length) * 1 ≤ 140737488355328) := by
            have := HST.out.1
            have := List.length_take_le k ks
            refine ⟨?_, ?_⟩ <;> simp only [List.length_cons, List.length_nil, maxLen] <;> omega
          have HS2 := Lib.hid hs2; have HC2 := Lib.hid hc2
          have hH2 := hO2.lt
          have HKP := Lib.hid (fun (w' : World) (hc' : Chg hd.toList (w2.alloc (.cells #[.int .u8 ((y.toNat : Nat) : Int)] 5)) w') => And.intro
            ((HC2.out.trans0 ((Chg.refl [] w2).alloc (.cells #[.int .u8 ((y.toNat : Nat) : Int)] 5))).trans hc' (fun b hb => .inr (by simp at hb; have := (HR.out.2.2.1 b hb).1.1; simpa using this)))
            (byteL.sl_chg (byteL.sl_ext HS2.out ((Chg.refl [] w2).alloc (.cells #[.int .u8 ((y.toNat : Nat) : Int)] 5))) hc' (fun b hb hm => by simp at hm; exact (HR.out.2.2.1 b hm).1.2 hb)))
          clear hs2 hc2 hO2 hy1 hy2
          go_wp2_with (at_builtin; refine byteL.wpList_append rfl _ _ 22 rfl Try.underlying22 K rfl (byteL.os_ext HR.out.2.1 ((Chg.refl [] w2).alloc (.cells #[.int .u8 ((y.toNat : Nat) : Int)] 5))) ⟨w2.heap.size, 0, none⟩ 1 1 [.int .u8 ((y.toNat : Nat) : Int)] (ys := [y]) (f := []) rfl rfl (new_cell _ _ _) (byte_all1 rfl) (fun _ _ => by simp) HLL.out.1 HLL.out.2 ?_; intro v' w' h' ho' hh' hc'; obtain ⟨a6, c6, rfl⟩ := byteL.os_len ho'; have HN := Lib.hid (HR.out.2.2.2 y _ _ _ _ ((Chg.refl [] w2).alloc (.cells #[.int .u8 ((y.toNat : Nat) : Int)] 5)) ho' hh' hc'); have HP := Lib.hid (HKP.out _ hc'); have hcx6 := HN.out.1; have hfz6 := HN.out.2.1; have hlt6 := HN.out.2.2.1; clear ho' hh' hc')
          go_roundw
          case rel =>
            have h1 := HN.out.2.2.2
            rw [HST.out.2] at h1
            exact ⟨i + 1, _, rfl, by omega, by go_num, by simpa using h1, byteL.sl_chg HP.out.2 ((Chg.refl [w.heap.size + 1] _).setCell _ _ (.inl (by simp))) (fun b hb hm => HFH.out b hb (List.mem_singleton.1 hm).symm), HP.out.1.setCell _ _ (.inr (by simp))⟩
          case measure => simp [intOf]; omega
        · obtain rfl : i = g := by omega
          rw [colTo_all] at hO2
          have HE := Lib.hid (show ks.take (k + 1) = ks.take k ++ [q] from take_next HQI.out)
          have HN := Lib.hid (And.intro (hO2.more (ok' := fun b => w.heap.size + 1 ≤ b) (fun b _ h => h.1)) hc2)
          clear hO2 hs2 hc2
          go_wp2_with fail
          go_roundw
          case rel => exact ⟨k + 1, _, rfl, by omega, by go_num, by rw [HE.out]; exact HN.out.1, HN.out.2⟩
          case measure => simp [intOf]; omega
    · obtain rfl : k = g := by omega
      obtain ⟨fr, hsr⟩ := hO.sl (by simp only [maxLen]; omega)
      have HSR := Lib.hid hsr
      have HWD := Lib.hid (show Wide k (colR k 8 (ks.take k)) from by
        have := colR_wide k 8 (ks.take k)
        rwa [List.length_take, Nat.min_eq_left (by have := HL.out; omega)] at this)
      clear hO hc hsr
      go_wp2_with fail
      refine (weights_any k c p hg hg4 hp hp6 _).mono ?_
      rintro e w1 ⟨A, C, fw, rfl, hs, hf, hc1⟩
      rw [genL_length] at hs ⊢
      have HS := Lib.hid hs; have HC1 := Lib.hid hc1
      clear hs hf hc1
      go_wp2_with fail
      refine (solve_grow _ A k k C (colR k 8 (ks.take k)) (genL k p 8) fr fw _ (byteL.slice.sl_ext HSR.out HC1.out) HS.out hg (by omega) HWD.out).mono ?_
      rintro e w3 ⟨v3, rfl, hg3⟩
      rw [hz.out] at hg3 ⊢
      have HBX := (HC.out.trans0 (HC1.out.trans0 hg3.chg)).keep0 (new_alloc w (.cells #[.int .i64 k, .int .i64 c] 57))
      have HG3 := Lib.hid (hg3.since (HCW.out.trans0 HC1.out))
      have cb3 := cellsOf HBX
      have lb3 := ltOf HBX
      have HMX : RowKit.Hid (z.length + (la - k) ≤ maxLen ∧ (z.length + (la - k)) * 1 ≤ 140737488355328) := by
        have := hzl.out
        refine ⟨?_, ?_⟩ <;> (try simp only [maxLen]) <;> omega
      have hsub : (la : Int) - (k : Int) = ((la - k : Nat) : Int) := by omega
      have HSU := Lib.hid (show IntKind.i64.wrap ((la : Int) - (k : Int)) = ((la - k : Nat) : Int) by rw [hsub]; exact IntWalk.i64_in _ (by omega))
      clear hg3 HBX hsub
      simp only [Option.getD_some, Option.isSome_some] at HG3 ⊢
      go_wp2_with fail
      go_region_law (first
        | (go_simp; go_at_call 50; refine (sizeI2_any _ _ _ _).mono ?_; rintro e w' ⟨rfl, rfl⟩)
        | (refine byteL.step_growZ (x0 := 0) (kq := .i64) (kn := .i64) rfl _ _ 22 2 rfl Try.underlying22 Try.underlying2 K (fun _ => by rw [hKz]; exact ⟨rfl, rfl⟩) rfl HG3.out (Chg.refl [] w3).drew (la - k) (congrArg (Value.int IntKind.i64) HSU.out) HMX.out.1 HMX.out.2 ?_; intro v' w' hg'; have HN := Lib.hid hg'.new; clear hg'))
      all_goals
        go_wp2_with fail
        go_ret
        exact HN.out
end Go.Proofs.Ytjnclggpaekdfaa
