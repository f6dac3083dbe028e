
/- What is told as a solution solves each row; where there is none the rows are not independent. -/
import Derived.Test.YtlnclkjmlpipgaaReg
import Derived.Test.YtlnclkjmlpipgaaGth
import Derived.Test.YtlnclkjmlpipgaaSvg
import Derived.Test.YtlnclkjmlpipgaaRnk
import Derived.Test.YtlnclkjmlpipgaaDr2
import Derived.Deep.RegionLaw
namespace Go.Proofs.Ytlnclkjmlpipgaa
open Go.RowKit

theorem lin_snoc2 : ∀ (r x : List UInt8) (a b : UInt8), r.length = x.length → lin (r ++ [a]) (x ++ [b]) = lin r x ^^^ Fld.mul a b
  | [], [], a, b, _ => by simp [lin]
  | [], _ :: _, _, _, h => by simp at h
  | _ :: _, [], _, _, h => by simp at h
  | c :: cs, y :: ys, a, b, h => by
    have := lin_snoc2 cs ys a b (by simpa using h)
    simp only [List.cons_append, lin, this, UInt8.xor_assoc]
theorem lin_next {r x : List UInt8} {k : Nat} {a b : UInt8} (ha : r[k]? = some a) (hb : x[k]? = some b) : lin (r.take (k + 1)) (x.take (k + 1)) = lin (r.take k) (x.take k) ^^^ Fld.mul a b := by
  rw [take_next ha, take_next hb, lin_snoc2]
  have h1 := (List.getElem?_eq_some_iff.1 ha).1; have h2 := (List.getElem?_eq_some_iff.1 hb).1
  rw [List.length_take, List.length_take]; omega
theorem rank_sq {rows : List (List UInt8)} (hw : Wide rows.length rows) (h1 : 1 ≤ rows.length) (h16 : rows.length ≤ 16) : rankRes rows = (0, ((gauss rows.length rows).2 : Int)) := by
  have hh : (rows.headD []).length = rows.length := by
    cases rows with
    | nil => simp at h1
    | cons x xs => exact hw x (by simp)
  unfold rankRes
  rw [if_neg, if_neg, hh]
  · intro h; exact h (fun x hx => by rw [hw x hx, hh])
  · intro h
    rcases h with h | h
    · omega
    · obtain ⟨x, hx, h2⟩ := List.any_eq_true.1 h
      have := hw x hx
      simp at h2; omega
theorem solve_kinds (rows : List (List UInt8)) (right : List UInt8) : ((solveRes rows right).1 = 1 ∨ (solveRes rows right).1 = 2) ∨
    ((solveRes rows right).1 = 4 ∧ ∃ v : Nat, rankRes rows = (0, (v : Int)) ∧ v < rows.length) ∨
    ((solveRes rows right).1 = 0 ∧ (solveRes rows right).2.length = rows.length ∧ right.length = rows.length ∧ Wide rows.length rows ∧ rankRes rows = (0, (rows.length : Int)) ∧ ∀ (i : Nat) r b, rows[i]? = some r → right[i]? = some b → lin r (solveRes rows right).2 = b) := by
  unfold solveRes
  split
  · left; simp
  · rename_i h1
    split
    · left; simp
    · rename_i h2
      split
      · left; simp
      · rename_i h3
        have hw : Wide rows.length rows := fun x hx => by
          by_cases e : x.length = rows.length
          · exact e
          · exact absurd (List.any_eq_true.2 ⟨x, hx, by simpa using e⟩) h3
        have hr : right.length = rows.length := by
          by_cases e : right.length = rows.length
          · exact e
          · exact absurd (.inr e) h2
        have hn : 1 ≤ rows.length := by
          by_cases e : rows.length = 0
          · exact absurd (.inl e) h2
          · omega
        have hrk := rank_sq hw hn (by omega)
        have hsr := solved_rank (right := right) hw hr
        have hinv := gauss_inv hw rows.length
        split
        · rename_i h4
          right; right
          obtain ⟨x, hx⟩ := Option.isSome_iff_exists.1 h4
          obtain ⟨hl, hs⟩ := solV_sound hw hr hx
          have hfull : (gauss rows.length rows).2 = rows.length := by
            unfold solV at hx
            split at hx
            · cases hx
            · rename_i h5; rw [hsr] at h5; omega
          refine ⟨rfl, ?_, hr, hw, by rw [hrk, hfull], ?_⟩
          · show ((solV rows right).getD []).length = _
            rw [hx]; exact hl
          · intro i r b hi hb
            show lin r ((solV rows right).getD []) = b
            rw [hx]; exact hs i r b hi hb
        · rename_i h4
          right; left
          refine ⟨rfl, (gauss rows.length rows).2, hrk, ?_⟩
          by_cases h5 : (solved rows right).2 < rows.length
          · rw [← hsr]; exact h5
          · exfalso; apply h4; unfold solV; rw [if_neg h5]; rfl

set_option maxRecDepth 100000 in
set_option maxHeartbeats 1000000 in
theorem drawSolve_any (a : Option Addr) (la ca : Nat) (xs : List UInt8) (f : List Nat) (w : World) (ha : byteL.sl w a la ca xs f) (hla : la ≤ 1048576) :
    Calls Try.prog 52 #[.slice a la ca] w fun e w' => ∃ (A A2 : Option Addr) (C C2 : Nat) (g g2 : List Nat) (rows : List (List UInt8)) (right : List UInt8), e = .returned (.tuple #[.slice A rows.length C, .slice A2 right.length C2]) ∧ byteL.slice.sl w' A rows.length C rows g ∧ byteL.sl w' A2 right.length C2 right g2 ∧ rows.length ≤ 17 ∧ (∀ x ∈ rows, x.length ≤ 5) ∧ right.length ≤ 18 ∧ Chg [] w w' := by
  have HA := Lib.hid ha
  clear ha
  go_enter Try.func52, Try.ntmps52
  go_wp2_with fail
  refine (source_any a la ca xs f w HA.out hla).mono ?_
  rintro e w1 ⟨rfl, hs, hc⟩
  have HS1 := Lib.hid hs; have HC1 := Lib.hid hc
  clear hs hc
  go_wp2_with fail
  refine (rows_any w.heap.size a la ca xs f 0 _ HS1.out (by omega)).mono ?_
  rintro e w2 ⟨A, C, g, rows, rfl, hr, hgn, hl, hx, hs, hc⟩
  have hlb1 := HS1.out.lt
  have HGN := Lib.hid (fun x hx hm => by have := hgn x hx; rw [List.mem_singleton] at hm; omega : ∀ x ∈ g, x ∉ [w.heap.size])
  have HR2 := Lib.hid hr; have HS2 := Lib.hid hs; have HX := Lib.hid hx
  have HBN := Lib.hid (fun (x : Nat) (hx : x ∈ [w.heap.size]) => (show x ∈ [] ∨ w.heap.size ≤ x by rw [List.mem_singleton] at hx; exact .inr (by omega)))
  have HC2 := Lib.hid (HC1.out.trans hc HBN.out)
  generalize hrl : rows.length = rl at hl HR2 ⊢
  have HRL := Lib.hid hrl
  clear hr hs hc hx hrl hgn
  go_wp2_with fail
  refine (pickN_any w.heap.size a la ca xs f 200 8 [0, 0, 0, 0, 0, 0, 0, 1] w2 (HS2.out.mono (by omega)) (by omega) (by simp [i64ok]) rfl (by omega) (by omega) _ rfl _ rfl).mono ?_
  rintro e w3 ⟨v, rfl, hv, hs, hc⟩
  have hv1 : 0 ≤ v ∧ v ≤ 1 := by simp at hv; omega
  have HS3 := Lib.hid hs
  have HR3 := Lib.hid (byteL.slice.sl_chg HR2.out hc HGN.out)
  have HC3 := Lib.hid (HC2.out.trans hc HBN.out)
  clear hs hc hv
  go_wp2_with fail
  refine (some_any w.heap.size a la ca xs f (200 + 1) (rl + v) _ HS3.out (by omega) (by omega) (by omega) (by omega)).mono ?_
  rintro e w4 ⟨A2, C2, g2, right, rfl, hl2, hr2, -, hs4, hc4⟩
  have HR4 := Lib.hid (And.intro (byteL.slice.sl_chg HR3.out hc4 HGN.out) (And.intro hr2 (HC3.out.trans hc4 HBN.out)))
  have hl18 : right.length ≤ 18 := by omega
  generalize hyl : right.length = yl at hl18 HR4 ⊢
  have HYL := Lib.hid hyl
  clear hl2 hr2 hs4 hc4 hyl
  go_wp2_with fail
  refine bodyPost_ret (v := .tuple #[.slice A rl C, .slice A2 yl C2]) (by simp [results, Try.results52, go_sem]) rfl ⟨A, A2, C, C2, g, g2, rows, right, by rw [HRL.out, HYL.out], by rw [HRL.out]; exact HR4.out.1, by rw [HYL.out]; exact HR4.out.2.1, by rw [HRL.out]; exact hl, HX.out, by rw [HYL.out]; exact hl18, HR4.out.2.2⟩

set_option maxRecDepth 100000 in
set_option maxHeartbeats 4000000 in
theorem walk_FnSolves (W : World) (a : Option Addr) (la ca : Nat) (xs : List UInt8) (f : List Nat) (o : byteL.sl W a la ca xs f) :
    Calls Try.prog 10 #[.slice a la ca] W fun e w' => e = .returned (.bool true) ∧ Chg [] W w' := by
  have hfd : ∀ (n : Int) (a : Option Addr) (l c : Nat) (w : World), (Instr.field 56 (.agg #[.int .i64 n, .slice a l c]) 0).run Try.prog w = .ok (.int .i64 n) w := fun _ _ _ _ _ => by kernel_rfl
  have hfi : ∀ (n m : Int) (w : World), (Instr.field 30 (.agg #[.int .i64 n, .int .i64 m]) 1).run Try.prog w = .ok (.int .i64 m) w := fun _ _ _ => by kernel_rfl
  have hm := byteL.sl_max o
  have HA := Lib.hid o
  have HBG := Lib.hid (lwBig_any a la ca W)
  clear o
  by_cases hz : (1048576 : Int) < (la : Int)
  · rw [decide_eq_true hz] at HBG
    go_enter Try.func10, Try.ntmps10
    go_wp2_with fail
    refine HBG.out.mono ?_; rintro e w' ⟨rfl, rfl⟩
    go_wp2_with fail
    go_ret
    exact ⟨rfl, Chg.refl _ _⟩
  rw [decide_eq_false hz] at HBG
  go_enter Try.func10, Try.ntmps10
  go_wp2_with fail
  refine HBG.out.mono ?_; rintro e w' ⟨rfl, rfl⟩
  go_wp2_with fail
  refine (drawSolve_any a la ca xs f W HA.out (by omega)).mono ?_
  rintro e w1 ⟨A, A2, C, C2, g, g2, rows, right, rfl, hr, hy, hl17, hl5, hy18, hc⟩
  have HR1 := Lib.hid hr; have HY1 := Lib.hid hy; have HC1 := Lib.hid hc
  have HIS := Lib.hid (fun (w : World) (h : Chg [] w1 w) => impl_solve A A2 rows.length C right.length C2 rows right g g2 w (byteL.slice.sl_ext HR1.out h) (byteL.sl_ext HY1.out h))
  have HSS := Lib.hid (fun (w : World) (h : Chg [] w1 w) => spec_solve A A2 rows.length C right.length C2 rows right g g2 w (byteL.slice.sl_ext HR1.out h) (byteL.sl_ext HY1.out h))
  have HRK := Lib.hid (fun (w : World) (h : Chg [] w1 w) => impl_rank A rows.length C rows g w (byteL.slice.sl_ext HR1.out h))
  have hK := solve_kinds rows right
  obtain ⟨q, hq⟩ : ∃ q, q = solveRes rows right := ⟨_, rfl⟩
  rw [← hq] at hK HIS HSS
  clear hq hr hy hc
  obtain ⟨rk, hrk⟩ : ∃ rk, rk = rankRes rows := ⟨_, rfl⟩
  rw [← hrk] at hK HRK
  clear hrk
  obtain ⟨k1, k2⟩ := rk
  obtain ⟨n, z⟩ := q
  simp only at hK HIS HSS HRK
  generalize hrl : rows.length = rl at hl17 HR1 HIS HSS HRK hK ⊢
  have HRL := Lib.hid hrl
  generalize hyl : right.length = yl at hy18 HY1 HIS HSS hK ⊢
  have HYL := Lib.hid hyl
  generalize hzl : z.length = zl at HIS HSS hK
  have HZL := Lib.hid hzl
  clear hrl hyl hzl
  have HKK := Lib.hid hK
  clear hK
  go_wp2_with fail
  refine (HIS.out w1 (Chg.refl _ _)).mono ?_
  rintro e w2 ⟨a3, c3, f3, rfl, hz3, -, hc3⟩
  simp only at hz3 ⊢
  rw [HZL.out] at hz3 ⊢
  have HZ2 := Lib.hid hz3; have HC2 := Lib.hid hc3
  have hBX := new_alloc w2 (.cells #[.int .i64 n, .slice a3 zl c3] 56)
  have HBX := Lib.hid (keep_drew hBX)
  have HBX0 := Lib.hid hBX
  have HCW := Lib.hid (HC2.out.alloc (.cells #[.int .i64 n, .slice a3 zl c3] 56))
  have HCWd := Lib.hid (HCW.out.drew)
  clear hz3 hc3 hBX
  rcases HKK.out with hn12 | ⟨rfl, v, hv, hvl⟩ | ⟨rfl, hzl, hyl, hw, hrk, hs⟩
  · rcases hn12 with rfl | rfl
    · skip
      go_wp2_with fail
      obtain ⟨SS1, hSS⟩ : ∃ S : World → Prop, S = fun w' => Know w2.heap.size #[.int .i64 1, .slice a3 zl c3] w' := ⟨_, rfl⟩
      have HSI1 := Lib.hid (fun w' (h : Know w2.heap.size #[.int .i64 1, .slice a3 zl c3] w') => (by rw [hSS]; exact h : SS1 w'))
      have HSO1 := Lib.hid (fun w' (h : SS1 w') => (by rw [hSS] at h; exact h : Know w2.heap.size #[.int .i64 1, .slice a3 zl c3] w'))
      clear hSS
      have hS0 := HSI1.out (w2.alloc (.cells #[.int .i64 1, .slice a3 zl c3] 56)).drew (Know.of HBX.out)
      refine rg_start SS1 (by kernel_rfl) hS0 ?_
      refine rg_take 0 (v := ?_) rfl (by kernel_rfl) (fun _ _ _ h => h) hS0 (by rfl) ?_ ?_
      rotate_left
      · intro w hSw; clear hSw; go_simp; (try with_reducible rfl)
      simp only [Act.put, List.setIfInBounds_toArray, List.set_cons_zero, List.set_cons_succ]
      refine rg_take 1 (v := ?_) rfl (by kernel_rfl) (fun _ _ _ h => h) hS0 (by rfl) ?_ ?_
      rotate_left
      · intro w hSw; clear hSw; go_simp; (try with_reducible rfl)
      simp only [Act.put, List.setIfInBounds_toArray, List.set_cons_zero, List.set_cons_succ]
      refine rg_take 4 (v := ?_) rfl (by kernel_rfl) (fun _ _ _ h => h) hS0 (by rfl) ?_ ?_
      rotate_left
      · intro w hSw; clear hSw; go_simp; (try with_reducible rfl)
      simp only [Act.put, List.setIfInBounds_toArray, List.set_cons_zero, List.set_cons_succ]
      refine rg_take 5 (v := ?_) rfl (by kernel_rfl) (fun _ _ _ h => h) hS0 (by rfl) ?_ ?_
      rotate_left
      · intro w hSw; obtain k0 := HSO1.out w hSw; (try unfold Know at k0); go_simp; (try with_reducible rfl)
      simp only [Act.put, List.setIfInBounds_toArray, List.set_cons_zero, List.set_cons_succ]
      refine rg_call 2 rfl (by kernel_rfl) (fun K hK => ?_)
      go_simp
      go_at_call 54
      refine (HSS.out _ HCWd.out).mono ?_; rintro e w5 ⟨a5, c5, f5, rfl, -, -, hc5⟩
      have HB5 := Lib.hid (hc5.keep0 HBX.out); have HC5 := Lib.hid (HCWd.out.trans0 hc5); clear hc5
      go_wp2_with fail
      refine hK.out _ _ (HSI1.out _ (Know.of HB5.out)) (fun hS1 => ?_)
      clear hK K
      try simp only [Act.put, List.setIfInBounds_toArray, List.set_cons_zero, List.set_cons_succ]
      refine rg_take 3 (v := ?_) rfl (by kernel_rfl) (fun _ _ _ h => h) hS1 (by rfl) ?_ ?_
      rotate_left
      · intro w hSw; clear hSw; go_simp; (try with_reducible rfl)
      simp only [Act.put, List.setIfInBounds_toArray, List.set_cons_zero, List.set_cons_succ]
      refine rg_take 6 (v := ?_) rfl (by kernel_rfl) (fun _ _ _ h => h) hS1 (by rfl) ?_ ?_
      rotate_left
      · intro w hSw; clear hSw; go_simp; (try with_reducible rfl)
      simp only [Act.put, List.setIfInBounds_toArray, List.set_cons_zero, List.set_cons_succ]
      refine rg_take 7 (v := ?_) rfl (by kernel_rfl) (fun _ _ _ h => h) hS1 (by rfl) ?_ ?_
      rotate_left
      · intro w hSw; clear hSw; go_simp; (try with_reducible rfl)
      simp only [Act.put, List.setIfInBounds_toArray, List.set_cons_zero, List.set_cons_succ]
      refine rg_take 8 (v := ?_) rfl (by kernel_rfl) (fun _ _ _ h => h) hS1 (by rfl) ?_ ?_
      rotate_left
      · intro w hSw; clear hSw; go_simp; (try with_reducible rfl)
      simp only [Act.put, List.setIfInBounds_toArray, List.set_cons_zero, List.set_cons_succ]
      refine rg_take 9 (v := ?_) rfl (by kernel_rfl) (fun _ _ _ h => h) hS1 (by rfl) ?_ ?_
      rotate_left
      · intro w hSw; obtain k0 := HSO1.out w hSw; (try unfold Know at k0); go_simp; (try with_reducible rfl)
      simp only [Act.put, List.setIfInBounds_toArray, List.set_cons_zero, List.set_cons_succ]
      refine rg_take 10 (v := ?_) rfl (by kernel_rfl) (fun _ _ _ h => h) hS1 (by rfl) ?_ ?_
      rotate_left
      · intro w hSw; clear hSw; go_simp; (try with_reducible rfl)
      simp only [Act.put, List.setIfInBounds_toArray, List.set_cons_zero, List.set_cons_succ]
      refine rg_take 11 (v := ?_) rfl (by kernel_rfl) (fun _ _ _ h => h) hS1 (by rfl) ?_ ?_
      rotate_left
      · intro w hSw; clear hSw; go_simp; (try with_reducible rfl)
      simp only [Act.put, List.setIfInBounds_toArray, List.set_cons_zero, List.set_cons_succ]
      refine rg_skip 12 rfl (by kernel_rfl) (fun _ _ _ h => h) hS1 (by rfl) ?_
      simp only [Act.put, List.setIfInBounds_toArray, List.set_cons_zero, List.set_cons_succ]
      refine rg_skip 13 rfl (by kernel_rfl) (fun _ _ _ h => h) hS1 (by rfl) ?_
      simp only [Act.put, List.setIfInBounds_toArray, List.set_cons_zero, List.set_cons_succ]
      refine rg_skip 14 rfl (by kernel_rfl) (fun _ _ _ h => h) hS1 (by rfl) ?_
      simp only [Act.put, List.setIfInBounds_toArray, List.set_cons_zero, List.set_cons_succ]
      refine rg_skip 15 rfl (by kernel_rfl) (fun _ _ _ h => h) hS1 (by rfl) ?_
      simp only [Act.put, List.setIfInBounds_toArray, List.set_cons_zero, List.set_cons_succ]
      refine rg_skip 16 rfl (by kernel_rfl) (fun _ _ _ h => h) hS1 (by rfl) ?_
      simp only [Act.put, List.setIfInBounds_toArray, List.set_cons_zero, List.set_cons_succ]
      refine rg_skip 17 rfl (by kernel_rfl) (fun _ _ _ h => h) hS1 (by rfl) ?_
      simp only [Act.put, List.setIfInBounds_toArray, List.set_cons_zero, List.set_cons_succ]
      refine rg_take 18 (v := ?_) rfl (by kernel_rfl) (fun _ _ _ h => h) hS1 (by rfl) ?_ ?_
      rotate_left
      · intro w hSw; clear hSw; go_simp; (try with_reducible rfl)
      simp only [Act.put, List.setIfInBounds_toArray, List.set_cons_zero, List.set_cons_succ]
      refine rg_take 19 (v := ?_) rfl (by kernel_rfl) (fun _ _ _ h => h) hS1 (by rfl) ?_ ?_
      rotate_left
      · intro w hSw; clear hSw; go_simp; (try with_reducible rfl)
      simp only [Act.put, List.setIfInBounds_toArray, List.set_cons_zero, List.set_cons_succ]
      refine rg_take 20 (v := ?_) rfl (by kernel_rfl) (fun _ _ _ h => h) hS1 (by rfl) ?_ ?_
      rotate_left
      · intro w hSw; clear hSw; go_simp; (try with_reducible rfl)
      simp only [Act.put, List.setIfInBounds_toArray, List.set_cons_zero, List.set_cons_succ]
      refine wpAnyH_done (by kernel_rfl) ?_ _
      go_wp2_with fail
      go_ret
      exact ⟨by simp, HC1.out.trans0 HC5.out⟩
    · skip
      go_wp2_with fail
      obtain ⟨SS1, hSS⟩ : ∃ S : World → Prop, S = fun w' => Know w2.heap.size #[.int .i64 2, .slice a3 zl c3] w' := ⟨_, rfl⟩
      have HSI1 := Lib.hid (fun w' (h : Know w2.heap.size #[.int .i64 2, .slice a3 zl c3] w') => (by rw [hSS]; exact h : SS1 w'))
      have HSO1 := Lib.hid (fun w' (h : SS1 w') => (by rw [hSS] at h; exact h : Know w2.heap.size #[.int .i64 2, .slice a3 zl c3] w'))
      clear hSS
      have hS0 := HSI1.out (w2.alloc (.cells #[.int .i64 2, .slice a3 zl c3] 56)).drew (Know.of HBX.out)
      refine rg_start SS1 (by kernel_rfl) hS0 ?_
      refine rg_take 0 (v := ?_) rfl (by kernel_rfl) (fun _ _ _ h => h) hS0 (by rfl) ?_ ?_
      rotate_left
      · intro w hSw; clear hSw; go_simp; (try with_reducible rfl)
      simp only [Act.put, List.setIfInBounds_toArray, List.set_cons_zero, List.set_cons_succ]
      refine rg_take 1 (v := ?_) rfl (by kernel_rfl) (fun _ _ _ h => h) hS0 (by rfl) ?_ ?_
      rotate_left
      · intro w hSw; clear hSw; go_simp; (try with_reducible rfl)
      simp only [Act.put, List.setIfInBounds_toArray, List.set_cons_zero, List.set_cons_succ]
      refine rg_take 4 (v := ?_) rfl (by kernel_rfl) (fun _ _ _ h => h) hS0 (by rfl) ?_ ?_
      rotate_left
      · intro w hSw; clear hSw; go_simp; (try with_reducible rfl)
      simp only [Act.put, List.setIfInBounds_toArray, List.set_cons_zero, List.set_cons_succ]
      refine rg_take 5 (v := ?_) rfl (by kernel_rfl) (fun _ _ _ h => h) hS0 (by rfl) ?_ ?_
      rotate_left
      · intro w hSw; obtain k0 := HSO1.out w hSw; (try unfold Know at k0); go_simp; (try with_reducible rfl)
      simp only [Act.put, List.setIfInBounds_toArray, List.set_cons_zero, List.set_cons_succ]
      refine rg_call 2 rfl (by kernel_rfl) (fun K hK => ?_)
      go_simp
      go_at_call 54
      refine (HSS.out _ HCWd.out).mono ?_; rintro e w5 ⟨a5, c5, f5, rfl, -, -, hc5⟩
      have HB5 := Lib.hid (hc5.keep0 HBX.out); have HC5 := Lib.hid (HCWd.out.trans0 hc5); clear hc5
      go_wp2_with fail
      refine hK.out _ _ (HSI1.out _ (Know.of HB5.out)) (fun hS1 => ?_)
      clear hK K
      try simp only [Act.put, List.setIfInBounds_toArray, List.set_cons_zero, List.set_cons_succ]
      refine rg_take 3 (v := ?_) rfl (by kernel_rfl) (fun _ _ _ h => h) hS1 (by rfl) ?_ ?_
      rotate_left
      · intro w hSw; clear hSw; go_simp; (try with_reducible rfl)
      simp only [Act.put, List.setIfInBounds_toArray, List.set_cons_zero, List.set_cons_succ]
      refine rg_take 6 (v := ?_) rfl (by kernel_rfl) (fun _ _ _ h => h) hS1 (by rfl) ?_ ?_
      rotate_left
      · intro w hSw; clear hSw; go_simp; (try with_reducible rfl)
      simp only [Act.put, List.setIfInBounds_toArray, List.set_cons_zero, List.set_cons_succ]
      refine rg_take 7 (v := ?_) rfl (by kernel_rfl) (fun _ _ _ h => h) hS1 (by rfl) ?_ ?_
      rotate_left
      · intro w hSw; clear hSw; go_simp; (try with_reducible rfl)
      simp only [Act.put, List.setIfInBounds_toArray, List.set_cons_zero, List.set_cons_succ]
      refine rg_take 8 (v := ?_) rfl (by kernel_rfl) (fun _ _ _ h => h) hS1 (by rfl) ?_ ?_
      rotate_left
      · intro w hSw; clear hSw; go_simp; (try with_reducible rfl)
      simp only [Act.put, List.setIfInBounds_toArray, List.set_cons_zero, List.set_cons_succ]
      refine rg_take 9 (v := ?_) rfl (by kernel_rfl) (fun _ _ _ h => h) hS1 (by rfl) ?_ ?_
      rotate_left
      · intro w hSw; obtain k0 := HSO1.out w hSw; (try unfold Know at k0); go_simp; (try with_reducible rfl)
      simp only [Act.put, List.setIfInBounds_toArray, List.set_cons_zero, List.set_cons_succ]
      refine rg_take 10 (v := ?_) rfl (by kernel_rfl) (fun _ _ _ h => h) hS1 (by rfl) ?_ ?_
      rotate_left
      · intro w hSw; clear hSw; go_simp; (try with_reducible rfl)
      simp only [Act.put, List.setIfInBounds_toArray, List.set_cons_zero, List.set_cons_succ]
      refine rg_take 11 (v := ?_) rfl (by kernel_rfl) (fun _ _ _ h => h) hS1 (by rfl) ?_ ?_
      rotate_left
      · intro w hSw; clear hSw; go_simp; (try with_reducible rfl)
      simp only [Act.put, List.setIfInBounds_toArray, List.set_cons_zero, List.set_cons_succ]
      refine rg_skip 12 rfl (by kernel_rfl) (fun _ _ _ h => h) hS1 (by rfl) ?_
      simp only [Act.put, List.setIfInBounds_toArray, List.set_cons_zero, List.set_cons_succ]
      refine rg_skip 13 rfl (by kernel_rfl) (fun _ _ _ h => h) hS1 (by rfl) ?_
      simp only [Act.put, List.setIfInBounds_toArray, List.set_cons_zero, List.set_cons_succ]
      refine rg_skip 14 rfl (by kernel_rfl) (fun _ _ _ h => h) hS1 (by rfl) ?_
      simp only [Act.put, List.setIfInBounds_toArray, List.set_cons_zero, List.set_cons_succ]
      refine rg_skip 15 rfl (by kernel_rfl) (fun _ _ _ h => h) hS1 (by rfl) ?_
      simp only [Act.put, List.setIfInBounds_toArray, List.set_cons_zero, List.set_cons_succ]
      refine rg_skip 16 rfl (by kernel_rfl) (fun _ _ _ h => h) hS1 (by rfl) ?_
      simp only [Act.put, List.setIfInBounds_toArray, List.set_cons_zero, List.set_cons_succ]
      refine rg_skip 17 rfl (by kernel_rfl) (fun _ _ _ h => h) hS1 (by rfl) ?_
      simp only [Act.put, List.setIfInBounds_toArray, List.set_cons_zero, List.set_cons_succ]
      refine rg_take 18 (v := ?_) rfl (by kernel_rfl) (fun _ _ _ h => h) hS1 (by rfl) ?_ ?_
      rotate_left
      · intro w hSw; clear hSw; go_simp; (try with_reducible rfl)
      simp only [Act.put, List.setIfInBounds_toArray, List.set_cons_zero, List.set_cons_succ]
      refine rg_take 19 (v := ?_) rfl (by kernel_rfl) (fun _ _ _ h => h) hS1 (by rfl) ?_ ?_
      rotate_left
      · intro w hSw; clear hSw; go_simp; (try with_reducible rfl)
      simp only [Act.put, List.setIfInBounds_toArray, List.set_cons_zero, List.set_cons_succ]
      refine rg_take 20 (v := ?_) rfl (by kernel_rfl) (fun _ _ _ h => h) hS1 (by rfl) ?_ ?_
      rotate_left
      · intro w hSw; clear hSw; go_simp; (try with_reducible rfl)
      simp only [Act.put, List.setIfInBounds_toArray, List.set_cons_zero, List.set_cons_succ]
      refine wpAnyH_done (by kernel_rfl) ?_ _
      go_wp2_with fail
      go_ret
      exact ⟨by simp, HC1.out.trans0 HC5.out⟩
  · cases hv
    have e1 : (((v : Nat) : Int) < (rl : Int)) := by omega
    go_wp2_with fail
    obtain ⟨SS1, hSS⟩ : ∃ S : World → Prop, S = fun w' => Know w2.heap.size #[.int .i64 4, .slice a3 zl c3] w' := ⟨_, rfl⟩
    have HSI1 := Lib.hid (fun w' (h : Know w2.heap.size #[.int .i64 4, .slice a3 zl c3] w') => (by rw [hSS]; exact h : SS1 w'))
    have HSO1 := Lib.hid (fun w' (h : SS1 w') => (by rw [hSS] at h; exact h : Know w2.heap.size #[.int .i64 4, .slice a3 zl c3] w'))
    clear hSS
    have hS0 := HSI1.out (w2.alloc (.cells #[.int .i64 4, .slice a3 zl c3] 56)).drew (Know.of HBX.out)
    refine rg_start SS1 (by kernel_rfl) hS0 ?_
    refine rg_take 0 (v := ?_) rfl (by kernel_rfl) (fun _ _ _ h => h) hS0 (by rfl) ?_ ?_
    rotate_left
    · intro w hSw; clear hSw; go_simp; (try with_reducible rfl)
    simp only [Act.put, List.setIfInBounds_toArray, List.set_cons_zero, List.set_cons_succ]
    refine rg_take 1 (v := ?_) rfl (by kernel_rfl) (fun _ _ _ h => h) hS0 (by rfl) ?_ ?_
    rotate_left
    · intro w hSw; clear hSw; go_simp; (try with_reducible rfl)
    simp only [Act.put, List.setIfInBounds_toArray, List.set_cons_zero, List.set_cons_succ]
    refine rg_take 4 (v := ?_) rfl (by kernel_rfl) (fun _ _ _ h => h) hS0 (by rfl) ?_ ?_
    rotate_left
    · intro w hSw; clear hSw; go_simp; (try with_reducible rfl)
    simp only [Act.put, List.setIfInBounds_toArray, List.set_cons_zero, List.set_cons_succ]
    refine rg_take 5 (v := ?_) rfl (by kernel_rfl) (fun _ _ _ h => h) hS0 (by rfl) ?_ ?_
    rotate_left
    · intro w hSw; obtain k0 := HSO1.out w hSw; (try unfold Know at k0); go_simp; (try with_reducible rfl)
    simp only [Act.put, List.setIfInBounds_toArray, List.set_cons_zero, List.set_cons_succ]
    refine rg_call 2 rfl (by kernel_rfl) (fun K hK => ?_)
    go_simp
    go_at_call 54
    refine (HSS.out _ HCWd.out).mono ?_; rintro e w5 ⟨a5, c5, f5, rfl, -, -, hc5⟩
    have HB5 := Lib.hid (hc5.keep0 HBX.out); have HC5 := Lib.hid (HCWd.out.trans0 hc5); clear hc5
    go_wp2_with fail
    refine hK.out _ _ (HSI1.out _ (Know.of HB5.out)) (fun hS1 => ?_)
    clear hK K
    try simp only [Act.put, List.setIfInBounds_toArray, List.set_cons_zero, List.set_cons_succ]
    refine rg_take 3 (v := ?_) rfl (by kernel_rfl) (fun _ _ _ h => h) hS1 (by rfl) ?_ ?_
    rotate_left
    · intro w hSw; clear hSw; go_simp; (try with_reducible rfl)
    simp only [Act.put, List.setIfInBounds_toArray, List.set_cons_zero, List.set_cons_succ]
    refine rg_take 6 (v := ?_) rfl (by kernel_rfl) (fun _ _ _ h => h) hS1 (by rfl) ?_ ?_
    rotate_left
    · intro w hSw; clear hSw; go_simp; (try with_reducible rfl)
    simp only [Act.put, List.setIfInBounds_toArray, List.set_cons_zero, List.set_cons_succ]
    refine rg_take 7 (v := ?_) rfl (by kernel_rfl) (fun _ _ _ h => h) hS1 (by rfl) ?_ ?_
    rotate_left
    · intro w hSw; clear hSw; go_simp; (try with_reducible rfl)
    simp only [Act.put, List.setIfInBounds_toArray, List.set_cons_zero, List.set_cons_succ]
    refine rg_take 8 (v := ?_) rfl (by kernel_rfl) (fun _ _ _ h => h) hS1 (by rfl) ?_ ?_
    rotate_left
    · intro w hSw; clear hSw; go_simp; (try with_reducible rfl)
    simp only [Act.put, List.setIfInBounds_toArray, List.set_cons_zero, List.set_cons_succ]
    refine rg_take 9 (v := ?_) rfl (by kernel_rfl) (fun _ _ _ h => h) hS1 (by rfl) ?_ ?_
    rotate_left
    · intro w hSw; obtain k0 := HSO1.out w hSw; (try unfold Know at k0); go_simp; (try with_reducible rfl)
    simp only [Act.put, List.setIfInBounds_toArray, List.set_cons_zero, List.set_cons_succ]
    refine rg_take 10 (v := ?_) rfl (by kernel_rfl) (fun _ _ _ h => h) hS1 (by rfl) ?_ ?_
    rotate_left
    · intro w hSw; clear hSw; go_simp; (try with_reducible rfl)
    simp only [Act.put, List.setIfInBounds_toArray, List.set_cons_zero, List.set_cons_succ]
    refine rg_take 11 (v := ?_) rfl (by kernel_rfl) (fun _ _ _ h => h) hS1 (by rfl) ?_ ?_
    rotate_left
    · intro w hSw; clear hSw; go_simp; (try with_reducible rfl)
    simp only [Act.put, List.setIfInBounds_toArray, List.set_cons_zero, List.set_cons_succ]
    refine rg_take 12 (v := ?_) rfl (by kernel_rfl) (fun _ _ _ h => h) hS1 (by rfl) ?_ ?_
    rotate_left
    · intro w hSw; clear hSw; go_simp; (try with_reducible rfl)
    simp only [Act.put, List.setIfInBounds_toArray, List.set_cons_zero, List.set_cons_succ]
    refine rg_take 15 (v := ?_) rfl (by kernel_rfl) (fun _ _ _ h => h) hS1 (by rfl) ?_ ?_
    rotate_left
    · intro w hSw; clear hSw; go_simp; (try with_reducible rfl)
    simp only [Act.put, List.setIfInBounds_toArray, List.set_cons_zero, List.set_cons_succ]
    refine rg_take 16 (v := ?_) rfl (by kernel_rfl) (fun _ _ _ h => h) hS1 (by rfl) ?_ ?_
    rotate_left
    · intro w hSw; clear hSw; go_simp; (try with_reducible rfl)
    simp only [Act.put, List.setIfInBounds_toArray, List.set_cons_zero, List.set_cons_succ]
    refine rg_call 13 rfl (by kernel_rfl) (fun K hK => ?_)
    go_simp
    go_at_call 48
    refine (HRK.out _ HC5.out).mono ?_; rintro e w6 ⟨rfl, hc6⟩
    have HB6 := Lib.hid (hc6.keep0 HB5.out); have HC6 := Lib.hid (HC5.out.trans0 hc6); clear hc6
    go_wp2_with fail
    refine hK.out _ _ (HSI1.out _ (Know.of HB6.out)) (fun hS2 => ?_)
    clear hK K
    try simp only [Act.put, List.setIfInBounds_toArray, List.set_cons_zero, List.set_cons_succ]
    refine rg_take 14 (v := ?_) rfl (by kernel_rfl) (fun _ _ _ h => h) hS2 (by rfl) ?_ ?_
    rotate_left
    · intro w hSw; clear hSw; go_simp; (try with_reducible rfl)
    simp only [Act.put, List.setIfInBounds_toArray, List.set_cons_zero, List.set_cons_succ]
    refine rg_take 17 (v := ?_) rfl (by kernel_rfl) (fun _ _ _ h => h) hS2 (by rfl) ?_ ?_
    rotate_left
    · intro w hSw; clear hSw; go_simp; (try with_reducible rfl)
    simp only [Act.put, List.setIfInBounds_toArray, List.set_cons_zero, List.set_cons_succ]
    refine rg_take 18 (v := ?_) rfl (by kernel_rfl) (fun _ _ _ h => h) hS2 (by rfl) ?_ ?_
    rotate_left
    · intro w hSw; clear hSw; go_simp; (try with_reducible rfl)
    simp only [Act.put, List.setIfInBounds_toArray, List.set_cons_zero, List.set_cons_succ]
    refine rg_take 19 (v := ?_) rfl (by kernel_rfl) (fun _ _ _ h => h) hS2 (by rfl) ?_ ?_
    rotate_left
    · intro w hSw; clear hSw; go_simp; (try with_reducible rfl)
    simp only [Act.put, List.setIfInBounds_toArray, List.set_cons_zero, List.set_cons_succ]
    refine rg_take 20 (v := ?_) rfl (by kernel_rfl) (fun _ _ _ h => h) hS2 (by rfl) ?_ ?_
    rotate_left
    · intro w hSw; clear hSw; go_simp; (try with_reducible rfl)
    simp only [Act.put, List.setIfInBounds_toArray, List.set_cons_zero, List.set_cons_succ]
    refine wpAnyH_done (by kernel_rfl) ?_ _
    go_wp2_with fail
    go_ret
    exact ⟨by simp, HC1.out.trans0 HC6.out⟩
  · cases hrk
    obtain rfl : zl = rl := hzl
    obtain rfl : yl = zl := hyl
    have HW := Lib.hid hw; have HSOL := Lib.hid hs
    have cB := cellsOf HBX0.out; have lB := ltOf HBX0.out
    have en : ((yl : Int) != (yl : Int)) = false := by simp
    have ee : ((yl : Int) == (yl : Int)) = true := by simp
    clear hw hs
    go_wp2_with fail
    go_loopw [6] (fun vi wr => ∃ (i : Nat) (Wr : World), Wr = wr ∧ i ≤ yl ∧ vi = .int .i64 i ∧ Chg [] (w2.alloc (.cells #[.int .i64 0, .slice a3 yl c3] 56)) wr) (fun vi _ => yl - (intOf vi).toNat)
    case atStart => exact ⟨0, _, rfl, by omega, rfl, Chg.refl _ _⟩
    case round =>
      obtain ⟨i, wr, rfl, hi, rfl, hcr⟩ := hrel
      have HCR := Lib.hid hcr
      clear cB lB
      have cB := cellsOf (hcr.keep0 HBX0.out); have lB := ltOf (hcr.keep0 HBX0.out)
      clear hcr
      by_cases hlt : i < yl
      · obtain ⟨r, B1, o1, X1, l1, C1, f1, HX1, rfl, hcx1, HXS1⟩ := slc_at (byteL.slice.sl_ext HR1.out (HCW.out.trans0 HCR.out)) hlt
        obtain ⟨bb, BB, B2, o2, HY2, rfl, hcy2, hb0, hb1⟩ := byte_at (byteL.sl_ext HY1.out (HCW.out.trans0 HCR.out)) hlt
        have hlr : l1 = yl := by rw [HXS1.out.1]; exact HW.out.at HX1.out.1
        subst hlr
        have HLZ := Lib.hid (HSOL.out i r bb HX1.out.1 HY2.out.1)
        have hm1 := byteL.sl_max HXS1.out
        have lB1 : B1 < wr.heap.size := byteL.slice.sl_lt (byteL.slice.sl_ext HR1.out (HCW.out.trans0 HCR.out)) _ HX1.out.2.1
        have lB2 : B2 < wr.heap.size := byteL.sl_lt (byteL.sl_ext HY1.out (HCW.out.trans0 HCR.out)) _ HY2.out.2.2
        have HCX1 := Lib.hid hcx1; have HCY2 := Lib.hid hcy2
        go_wp2_with fail
        go_loopw [7, 8] (fun vs vk w3 => ∃ (k : Nat) (s : Int) (W3 : World), W3 = w3 ∧ k ≤ l1 ∧ vk = .int .i64 k ∧ vs = .int .u8 s ∧ RowKit.Hid (s = ((lin (r.take k) (z.take k)).toNat : Int)) ∧ 0 ≤ s ∧ s < 256 ∧ Chg [] wr w3) (fun _ vk _ => l1 - (intOf vk).toNat)
        case atStart => exact ⟨0, 0, _, rfl, by omega, rfl, rfl, by show (0 : Int) = _; simp [lin], by omega, by omega, Chg.refl _ _⟩
        case round =>
          obtain ⟨k, s, w3, rfl, hk, rfl, rfl, HSUM, hs0, hs1, hc3⟩ := hrel
          have HC3 := Lib.hid hc3
          have hcx1 := cellKeep hc3 HCX1.out lB1
          have hcy2 := cellKeep hc3 HCY2.out lB2
          have hBB := (HCR.out.trans0 hc3).keep0 HBX0.out
          clear cB lB
          have cB := cellsOf hBB; have lB := ltOf hBB; have HBB := Lib.hid hBB
          clear hc3 hBB
          by_cases hlt2 : k < l1
          · obtain ⟨x, X, B3, o3, HX3, rfl, hcx3, _, _⟩ := byte_at (byteL.sl_ext HXS1.out HC3.out) hlt2
            obtain ⟨y, Y, B4, o4, HY4, rfl, hcy4, _, _⟩ := byte_at (byteL.sl_ext HZ2.out ((((Chg.refl [] w2).alloc _).trans0 HCR.out).trans0 HC3.out)) hlt2
            obtain ⟨s', hs'⟩ : ∃ s' : UInt8, s' = lin (r.take k) (z.take k) ^^^ Fld.mul x y := ⟨_, rfl⟩
            have HXO := Lib.hid (show bits BinOp.xor IntKind.u8 s ((Fld.mul x y).toNat : Int) = (s'.toNat : Int) by rw [HSUM.out, hs']; exact bits_xor _ _)
            have HSN := Lib.hid (show (s'.toNat : Int) = ((lin (r.take (k + 1)) (z.take (k + 1))).toNat : Int) by rw [hs', lin_next HX3.out.1 HY4.out.1])
            have hsl := UInt8.toNat_lt s'
            obtain ⟨S', hS'⟩ : ∃ S' : Int, S' = (s'.toNat : Int) := ⟨_, rfl⟩
            rw [← hS'] at HXO HSN
            have hS0 : 0 ≤ S' := by omega
            have hS1 : S' < 256 := by omega
            rw [HX3.out.2.1] at hcx3
            rw [HY4.out.2.1] at hcy4
            clear hs' hsl hS' HSUM
            have HBBd := Lib.hid (keep_drew HBB.out)
            go_wp2_with fail
            go_region_law (go_simp; go_at_call 18; refine (impl_mul _ _ _).mono ?_; rintro e w' ⟨rfl, rfl⟩)
            all_goals
              rw [HXO.out]
              go_wp2_with fail
              go_roundw
              case rel => exact ⟨k + 1, S', _, rfl, by omega, by go_num, rfl, HSN.out, hS0, hS1, HC3.out.drew⟩
              case measure => simp [intOf]; omega
          · obtain rfl : k = l1 := by omega
            have HEQ := Lib.hid (show s = BB by
              rw [HSUM.out, HY2.out.2.1, List.take_of_length_le (by rw [← HXS1.out.1]; omega), List.take_of_length_le (by rw [HZL.out]; omega), HLZ.out])
            have heq : (s != BB) = false := by rw [HEQ.out]; simp
            go_wp2_with fail
            go_roundw
            case rel => exact ⟨i + 1, _, rfl, by omega, by go_num, HCR.out.trans0 HC3.out⟩
            case measure => simp [intOf]; omega
      · obtain rfl : i = yl := by omega
        go_wp2_with fail
        refine (HRK.out _ (HCW.out.trans0 HCR.out)).mono ?_
        rintro e w6 ⟨rfl, hc6⟩
        have HC6 := Lib.hid hc6
        clear hc6
        go_wp2_with fail
        go_ret
        exact ⟨by simp, HC1.out.trans0 ((HCW.out.trans0 HCR.out).trans0 HC6.out)⟩
end Go.Proofs.Ytlnclkjmlpipgaa
