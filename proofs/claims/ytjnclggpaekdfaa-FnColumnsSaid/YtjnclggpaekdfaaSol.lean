
/- The program's solve: the one solution of independent rows. -/
import Derived.Test.YtjnclggpaekdfaaRed
import Derived.Test.YtjnclggpaekdfaaCln
import Derived.Test.YtjnclggpaekdfaaSub
import Derived.Deep.RegionLaw
namespace Go.Proofs.Ytjnclggpaekdfaa
open Go.RowKit

/-- rows with their right sides behind them -/
def augm (rows : List (List UInt8)) (right : List UInt8) : List (List UInt8) := rows.zipWith (fun r b => r ++ [b]) right
def solved (rows : List (List UInt8)) (right : List UInt8) : List (List UInt8) × Nat := gauss rows.length (augm rows right)
def solV (rows : List (List UInt8)) (right : List UInt8) : Option (List UInt8) :=
  if (solved rows right).2 < rows.length then none else some ((solved rows right).1.map (fun r => r.getD rows.length 0))
theorem augm_length {rows : List (List UInt8)} {right : List UInt8} (h : right.length = rows.length) : (augm rows right).length = rows.length := by unfold augm; rw [List.length_zipWith]; omega
theorem augm_at {rows : List (List UInt8)} {right : List UInt8} {i : Nat} {r : List UInt8} {b : UInt8} (h1 : rows[i]? = some r) (h2 : right[i]? = some b) : (augm rows right)[i]? = some (r ++ [b]) := by
  unfold augm; rw [List.getElem?_zipWith, h1, h2]
theorem augm_wide {rows : List (List UInt8)} {right : List UInt8} {m : Nat} (h : Wide m rows) : Wide (m + 1) (augm rows right) := by
  intro x hx
  unfold augm at hx
  obtain ⟨i, hi, e⟩ := List.getElem_of_mem hx
  rw [List.getElem_zipWith] at e
  rw [← e, List.length_append, h _ (List.getElem_mem _)]; rfl
/-- the rows laid so far -/
def augTo (R : List (List UInt8)) (n k : Nat) : List (List UInt8) := R.take k ++ List.replicate (n - k) []
theorem augTo_zero (R : List (List UInt8)) (n : Nat) : augTo R n 0 = List.replicate n [] := by simp [augTo]
theorem augTo_all {R : List (List UInt8)} {n : Nat} (h : R.length = n) : augTo R n n = R := by unfold augTo; rw [List.take_of_length_le (by omega), Nat.sub_self]; simp
theorem augTo_next {R : List (List UInt8)} {n k : Nat} {x : List UInt8} (hx : R[k]? = some x) (hn : n = R.length) : (augTo R n k).set k x = augTo R n (k + 1) := copyL_next hx hn

/-- a list that may be, and whether it is, made anew -/
def NewOpt (r : Option (List UInt8)) (w : World) (e : Ending) (w' : World) : Prop :=
  ∃ a cap fp, e = .returned (.tuple #[.slice a (r.getD []).length cap, .bool r.isSome]) ∧ byteL.sl w' a (r.getD []).length cap (r.getD []) fp ∧ Fresh w.heap.size w' fp ∧ Chg [] w w'

/-- the same, and the list may be grown further -/
def NewOptG (E : TypeId) (r : Option (List UInt8)) (w : World) (e : Ending) (w' : World) : Prop :=
  ∃ v, e = .returned (.tuple #[v, .bool r.isSome]) ∧ Grow byteL E w w' v (r.getD [])
theorem NewOptG.opt {E : TypeId} {r : Option (List UInt8)} {w : World} {e : Ending} {w' : World} (h : NewOptG E r w e w') : NewOpt r w e w' := by
  obtain ⟨v, rfl, hg⟩ := h
  obtain ⟨a, c, f, rfl, h1, h2, h3⟩ := hg.bytes
  exact ⟨a, c, f, rfl, h1, h2, h3⟩

set_option maxRecDepth 100000 in
set_option maxHeartbeats 2000000 in
theorem solve_grow (a b : Option Addr) (n ca cb : Nat) (rows : List (List UInt8)) (right : List UInt8) (f g : List Nat) (w : World) (ha : byteL.slice.sl w a n ca rows f) (hb : byteL.sl w b n cb right g) (hn : 1 ≤ n) (hn16 : n ≤ 16) (hw : RowKit.Hid (Wide n rows)) :
    Calls Try.prog 75 #[.slice a n ca, .slice b n cb] w (NewOptG 5 (solV rows right) w) := by
  obtain ⟨K, _⟩ := kindB
  have hmk := make_lists n (by omega)
  have HA := Lib.hid ha
  have HB := Lib.hid hb
  have HL := Lib.hid ha.1
  have HLB := Lib.hid hb.1
  clear ha hb
  have HZ := Lib.hid (slc_zrow byteL w 22 n (by omega))
  have HAUL := Lib.hid (show (augm rows right).length = n by rw [augm_length (by have := HL.out; have := HLB.out; omega), HL.out])
  obtain ⟨R, hR⟩ : ∃ R, R = augm rows right := ⟨_, rfl⟩
  have HR := Lib.hid hR
  rw [← hR] at HAUL
  clear hR
  go_enter Try.func75, Try.ntmps75
  go_wp2_with fail
  go_loopw [17] (fun vk wr => ∃ (k : Nat) (Wr : World), Wr = wr ∧ k ≤ n ∧ vk = .int .i64 k ∧ Rws wr w.heap.size 0 n (augTo R n k) ∧ Loose wr w.heap.size ∧ Chg [] w wr) (fun vk _ => n - (intOf vk).toNat)
  case atStart => exact ⟨0, _, rfl, by omega, rfl, by rw [augTo_zero]; exact Rws.of_sl (b := w.heap.size) HZ.out (by simp) rfl, ⟨_, _, new_alloc w _⟩, (Chg.refl [] w).alloc _⟩
  case round =>
    obtain ⟨k, wr, rfl, hk, rfl, hRw, hLo, hc⟩ := hrel
    have HRw := Lib.hid hRw; have HLo := Lib.hid hLo; have HC := Lib.hid hc
    have hHs := hLo.lt
    by_cases hlt : k < n
    · obtain ⟨x, b1, o1, A, lx, C, fx, HX, rfl, hcx, HXS⟩ := slc_at (byteL.slice.sl_ext HA.out hc) hlt
      obtain ⟨y, Y, b2, o2, HY, rfl, hcy, hy1, hy2⟩ := byte_at (byteL.sl_ext HB.out hc) hlt
      have hb1 := byteL.slice.sl_lt (byteL.slice.sl_ext HA.out hc) _ HX.out.2.1
      have hb2 := byteL.sl_lt (byteL.sl_ext HB.out hc) _ HY.out.2.2
      have hmx := byteL.sl_max HXS.out
      have HXM := Lib.hid (show x.length = n from hw.out.at HX.out.1)
      have HRX := Lib.hid (show R[k]? = some (x ++ [y]) by rw [HR.out]; exact augm_at HX.out.1 HY.out.1)
      have HNX := Lib.hid (augTo_next (n := n) HRX.out HAUL.out.symm)
      obtain ⟨x9, A9, C9, f9, HX9, hc9⟩ := hRw.at hlt
      rw [Nat.zero_add] at hc9
      have hfz : ∀ j, wr.frozen? ⟨w.heap.size, j, none⟩ = false := by obtain ⟨cur, E, hw⟩ := hLo; exact freeOf hw
      have HCLN := Lib.hid (fun (w' : World) (h : Chg [] wr w') => cloneB_any A lx C x fx w' (byteL.sl_ext HXS.out h) (by rw [HXS.out.1, HXM.out]; omega))
      have HNB := Lib.hid (fun (w5 : World) (h : Chg [] (wr.alloc (.cells #[.int .u8 ((y.toNat : Nat) : Int)] 5)).drew w5) => (fun (j : Nat) (u : Value) (hu : [Value.int .u8 ((y.toNat : Nat) : Int)][j]? = some u) => by
        cases j with
        | zero =>
          cases hu
          exact cellKeep h (o := 0) (new_cell wr _ 5 0 _ rfl) (by simp)
        | succ j => simp at hu : ∀ (j : Nat) (u : Value), [Value.int .u8 ((y.toNat : Nat) : Int)][j]? = some u → w5.cell? ((⟨wr.heap.size, 0, none⟩ : Addr).add j) = some u))
      have HL2 : RowKit.Hid (x.length + [y].length ≤ maxLen ∧ (x.length + [y].length) * 1 ≤ 140737488355328) := by
        have := HXM.out
        refine ⟨?_, ?_⟩ <;> simp only [List.length_cons, List.length_nil, maxLen] <;> omega
      rw [HY.out.2.1] at hcy
      have HCY := Lib.hid hcy; have HC9 := Lib.hid hc9; have HFZ := Lib.hid hfz
      clear hRw hLo hc hy1 hy2
      go_wp2_with fail
      go_region_law (first
        | (go_simp; go_at_call 56; refine (HCLN.out (wr.alloc (.cells #[.int .u8 ((y.toNat : Nat) : Int)] 5)).drew ((Chg.refl [] wr).alloc _).drew).mono ?_; rintro e w5 ⟨v5, rfl, hg5⟩; have HCH : RowKit.Hid (Chg [] wr (wr.alloc (.cells #[.int .u8 ((y.toNat : Nat) : Int)] 5)).drew) := ((Chg.refl [] wr).alloc _).drew; have HNW := Lib.hid (HNB.out w5 hg5.chg); have HG5 := Lib.hid hg5; have hcy5 := cellKeep (HCH.out.trans0 hg5.chg) HCY.out hb2; clear hg5)
        | (go_simp; go_at_call 56; refine (HCLN.out wr.drew (Chg.refl [] wr).drew).mono ?_; rintro e w5 ⟨v5, rfl, hg5⟩; have HCH : RowKit.Hid (Chg [] wr wr.drew) := (Chg.refl [] wr).drew; have HG5 := Lib.hid hg5; have hcy5 := cellKeep (HCH.out.trans0 hg5.chg) HCY.out hb2; clear hg5)
        | (refine byteL.step_grow rfl _ _ 22 rfl Try.underlying22 K rfl HG5.out (Chg.refl [] w5) ⟨wr.heap.size, 0, none⟩ 1 1 [.int .u8 ((y.toNat : Nat) : Int)] (ys := [y]) (f := []) rfl rfl HNW.out (byte_all1 rfl) (Fresh.nil _ _) HL2.out.1 HL2.out.2 ?_; intro v' w6 hg6; obtain ⟨a6, c6, f6, rfl, hs6, hf6, hc6⟩ := hg6.bytes; have hcA := HCH; have hc7 := hcA.out.trans0 hc6; have hf7 := hf6.mono hcA.out.size; have hcx6 := cellKeep hc7 HC9.out hHs; have hfz6 := fun j => (hc7.facts.2 w.heap.size j hHs).trans (HFZ.out j); have HN6 := Lib.hid (And.intro hs6 (And.intro hf7 hc7)); clear hg6 hs6 hf6 hc6 hf7 hc7 hcA)
        | (refine byteL.step_grow rfl _ _ 22 rfl Try.underlying22 K rfl HG5.out ((Chg.refl [] w5).alloc _) ⟨w5.heap.size, 0, none⟩ 1 1 [.int .u8 ((y.toNat : Nat) : Int)] (ys := [y]) (f := []) rfl rfl (new_cell _ _ _) (byte_all1 rfl) (Fresh.nil _ _) HL2.out.1 HL2.out.2 ?_; intro v' w6 hg6; obtain ⟨a6, c6, f6, rfl, hs6, hf6, hc6⟩ := hg6.bytes; have hcA := HCH; have hc7 := hcA.out.trans0 hc6; have hf7 := hf6.mono hcA.out.size; have hcx6 := cellKeep hc7 HC9.out hHs; have hfz6 := fun j => (hc7.facts.2 w.heap.size j hHs).trans (HFZ.out j); have HN6 := Lib.hid (And.intro hs6 (And.intro hf7 hc7)); clear hg6 hs6 hf6 hc6 hf7 hc7 hcA))
      all_goals
        go_wp2_with fail
        go_roundw
        case rel =>
          have h1 := (HRw.out.ext hHs HN6.out.2.2).store hlt HN6.out.1 (fun h => by have := (HN6.out.2.1.2 _ h).1; omega)
          rw [Nat.zero_add, HNX.out, show (x ++ [y]).length = x.length + 1 by simp] at h1
          exact ⟨k + 1, _, rfl, by omega, by go_num, h1, (HN6.out.2.2.loose _ HLo.out).setCell _ _, (HC.out.trans0 HN6.out.2.2).setCell _ _ (.inr (Nat.le_refl _))⟩
        case measure => simp [intOf]; omega
    · obtain rfl : k = n := by omega
      rw [augTo_all HAUL.out] at hRw
      have HRD := Lib.hid (reduce_any w.heap.size 0 k k k (k + 1) R wr hRw hLo (by have := augm_wide (right := right) hw.out; rw [← HR.out] at this; exact this) (by omega) (by omega) (by omega))
      have HGI := Lib.hid (gauss_inv (m := k + 1) (rows := R) (by have := augm_wide (right := right) hw.out; rw [← HR.out] at this; exact this) k)
      have HSV := Lib.hid (show solV rows right = if (gauss k R).2 < k then none else some ((gauss k R).1.map (fun r => r.getD k 0)) by unfold solV solved; rw [← HR.out, ← HL.out])
      generalize gauss k R = G at HRD HGI HSV
      obtain ⟨G1, rk⟩ := G
      simp only at HRD HGI HSV
      clear hRw hLo hc
      go_wp2_with fail
      refine HRD.out.mono ?_; rintro e w7 ⟨rfl, hR7, hLo7, hc7⟩
      have HR7 := Lib.hid hR7; have hH7 := hLo7.lt
      have HC7 := Lib.hid (HC.out.trans hc7 (fun x hx => .inr (by rw [List.mem_singleton] at hx; omega)))
      clear hR7 hLo7 hc7
      have hrk : rk ≤ k := HGI.out.2.2.2
      by_cases hlt2 : rk < k
      · have HS := Lib.hid (show solV rows right = none by rw [HSV.out, if_pos hlt2])
        have hri : (rk : Int) < (k : Int) := by omega
        clear hlt2
        go_wp2_with fail
        go_ret2
        rw [HS.out]
        exact ⟨.slice none 0 0, rfl, Grow.nil HC7.out⟩
      · have HS := Lib.hid (show solV rows right = some (G1.map (fun r => r.getD k 0)) by rw [HSV.out, if_neg hlt2])
        have hri : ¬ (rk : Int) < (k : Int) := by omega
        have hdec : decide (rk < k) = false := decide_eq_false hlt2
        have HGL := Lib.hid (show G1.length = k by rw [HGI.out.1, HAUL.out])
        clear hlt2
        go_wp2_with fail
        go_loopw [9, 44] (fun vo vi w8 => ∃ (i : Nat) (W8 : World), W8 = w8 ∧ i ≤ k ∧ vi = .int .i64 i ∧ Grow byteL 5 w7 w8 vo ((G1.take i).map (fun r => r.getD k 0))) (fun _ vi _ => k - (intOf vi).toNat)
        case atStart => exact ⟨0, _, rfl, by omega, rfl, Grow.madeN (Chg.refl [] _) (by simp)⟩
        case round =>
          obtain ⟨i, w8, rfl, hi, rfl, hg8⟩ := hrel
          by_cases hlt3 : i < k
          · obtain ⟨x, A, C, f8, HX, hcx⟩ := (HR7.out.ext hH7 hg8.chg).at hlt3
            rw [Nat.zero_add] at hcx
            have HXM := Lib.hid (show x.length = k + 1 from Wide.at HGI.out.2.1 HX.out.1)
            have hxk : k < x.length := by have := HXM.out; omega
            obtain ⟨y, Y, b2, o2, HY, rfl, hcy, hy1, hy2⟩ := byte_at HX.out.2.1 hxk
            rw [HY.out.2.1] at hcy
            have HE := Lib.hid (show (G1.take (i + 1)).map (fun r => r.getD k 0) = (G1.take i).map (fun r => r.getD k 0) ++ [y] by
              rw [take_next HX.out.1, List.map_append]
              congr 1
              show [x.getD k 0] = [y]
              rw [List.getD_eq_getElem?_getD, HY.out.1]; rfl)
            have HL2 : RowKit.Hid (((G1.take i).map (fun r => r.getD k 0)).length + [y].length ≤ maxLen ∧ (((G1.take i).map (fun r => r.getD k 0)).length + [y].length) * 1 ≤ 140737488355328) := by
              have := List.length_take_le i G1
              refine ⟨?_, ?_⟩ <;> simp only [List.length_cons, List.length_nil, maxLen, List.length_map] <;> omega
            have HG8 := Lib.hid hg8
            clear hg8 hy1 hy2
            go_wp2_with (at_builtin; refine byteL.wpList_grow rfl _ _ 22 rfl Try.underlying22 K rfl HG8.out ((Chg.refl [] w8).alloc _) ⟨w8.heap.size, 0, none⟩ 1 1 [.int .u8 ((y.toNat : Nat) : Int)] (ys := [y]) (f := []) rfl rfl (new_cell _ _ _) (byte_all1 rfl) (Fresh.nil _ _) HL2.out.1 HL2.out.2 ?_; intro v' w' hg'; rw [← HE.out] at hg'; have HN := Lib.hid hg'; clear hg')
            go_roundw
            case rel => exact ⟨i + 1, _, rfl, by omega, by go_num, HN.out⟩
            case measure => simp [intOf]; omega
          · obtain rfl : i = k := by omega
            rw [List.take_of_length_le (by have := HGL.out; omega)] at hg8
            have hgg := hg8.since HC7.out
            obtain ⟨a9, c9, f9, rfl, hs9, hf9, hc9⟩ := hgg.bytes
            have HN := Lib.hid hgg
            clear hg8 hs9 hf9 hc9 hgg
            clear HSV
            generalize G1.map (fun r => r.getD i 0) = z at HN HS ⊢
            go_wp2_with fail
            go_ret2
            rw [HS.out]
            exact ⟨_, rfl, HN.out⟩
theorem solve_any (a b : Option Addr) (n ca cb : Nat) (rows : List (List UInt8)) (right : List UInt8) (f g : List Nat) (w : World) (ha : byteL.slice.sl w a n ca rows f) (hb : byteL.sl w b n cb right g) (hn : 1 ≤ n) (hn16 : n ≤ 16) (hw : RowKit.Hid (Wide n rows)) :
    Calls Try.prog 75 #[.slice a n ca, .slice b n cb] w (NewOpt (solV rows right) w) :=
  (solve_grow a b n ca cb rows right f g w ha hb hn hn16 hw).mono (fun _ _ h => h.opt)
end Go.Proofs.Ytjnclggpaekdfaa
