
/- The program's and the reference's SolveG. -/
import Derived.Test.YtlnclkjmlpipgaaSol
import Derived.Test.YtlnclkjmlpipgaaSls
import Derived.Test.YtlnclkjmlpipgaaIdx
import Derived.Test.YtlnclkjmlpipgaaStB
namespace Go.Proofs.Ytlnclkjmlpipgaa
open Go.RowKit

def solveRes (rows : List (List UInt8)) (right : List UInt8) : Int × List UInt8 :=
  if 16 < rows.length then (2, []) else if rows.length = 0 ∨ right.length ≠ rows.length then (1, []) else if rows.any (fun r => decide (r.length ≠ rows.length)) = true then (1, [])
  else if (solV rows right).isSome = true then (0, (solV rows right).getD []) else (4, [])
theorem cf_solve : ∀ (args : Array Value) (w : World), (callFunc 105 args).run Try.prog w = .ok (.enter 105 args) w := fun _ _ => by go_simp
theorem solve1_any (B : Nat) (A a : Option Addr) (lx C n c : Nat) (h : lx ≤ 9223372036854775807) (hn : n ≤ 9223372036854775807) (w : World) (hB : w.heap[B]? = some (.cells #[.slice a n c] 42 (0, 0))) :
    Calls Try.prog 105 #[.slice A lx C, .pointer (some ⟨B, 0, none⟩)] w fun e w' => e = .returned (.bool (decide (lx ≠ n))) ∧ w = w' := by
  have cB := cellsOf hB
  clear hB
  have e1 : ((lx : Int) != (n : Int)) = decide (lx ≠ n) := by
    by_cases h : lx = n
    · subst h; simp
    · rw [decide_eq_true h, bne_iff_ne]; omega
  go_enter Try.func105, Try.ntmps105
  go_wp2
  go_ret
  exact ⟨ret_bool (by simp), rfl⟩

set_option maxRecDepth 100000 in
set_option maxHeartbeats 2000000 in
theorem impl_solve (a b : Option Addr) (la ca lb cb : Nat) (rows : List (List UInt8)) (right : List UInt8) (f g : List Nat) (w : World) (ha : byteL.slice.sl w a la ca rows f) (hb : byteL.sl w b lb cb right g) :
    Calls Try.prog 53 #[.slice a la ca, .slice b lb cb] w (NewRes byteL (solveRes rows right) w) := by
  have hla := byteL.slice.sl_max ha
  have hlb := byteL.sl_max hb
  have hmf : ∀ (fn : Fn) (first cap : Array Value) (w : World), (Instr.makeFunc fn first cap).run Try.prog w = .ok (.func fn first cap) w := fun _ _ _ _ => rfl
  have HA := Lib.hid ha
  have HB := Lib.hid hb
  have HL := Lib.hid ha.1
  have HLB := Lib.hid hb.1
  clear ha hb
  by_cases h1 : (16 : Int) < (la : Int)
  · have HR := Lib.hid (show solveRes rows right = (2, []) by rw [solveRes, if_pos (by have := HL.out; omega)])
    go_enter Try.func53, Try.ntmps53
    go_wp2_with fail
    refine bodyPost_ret (v := .agg #[.int .i64 2, .slice none 0 0]) (by simp [results, Try.results53, go_sem]) rfl ?_
    exact NewRes.code byteL HR.out (by repeat (first | exact Chg.refl _ _ | refine Chg.alloc ?_ _ | refine Chg.setCell ?_ _ _ (.inr (by simp)) | refine Chg.drew ?_))
  by_cases h0 : la = 0
  · have HR := Lib.hid (show solveRes rows right = (1, []) by rw [solveRes, if_neg (by have := HL.out; omega), if_pos (.inl (by have := HL.out; omega))])
    subst h0
    go_enter Try.func53, Try.ntmps53
    go_wp2_with fail
    refine bodyPost_ret (v := .agg #[.int .i64 1, .slice none 0 0]) (by simp [results, Try.results53, go_sem]) rfl ?_
    exact NewRes.code byteL HR.out (by repeat (first | exact Chg.refl _ _ | refine Chg.alloc ?_ _ | refine Chg.setCell ?_ _ _ (.inr (by simp)) | refine Chg.drew ?_))
  have hln : ((la : Int) == 0) = false := by rw [beq_eq_false_iff_ne]; omega
  by_cases h2 : lb = la
  · subst h2
    have hll : ((lb : Int) != (lb : Int)) = false := by simp
    have hc2 := ((Chg.refl [] w).alloc (.cells #[.slice a lb ca] 42)).alloc (.cells #[.int .i64 0, .slice none 0 0] 56)
    have hbx := keep_alloc (new_alloc w (.cells #[.slice a lb ca] 42)) (.cells #[.int .i64 0, .slice none 0 0] 56)
    have HCQ := Lib.hid (contQ_any 105 #[.pointer (some ⟨w.heap.size, 0, none⟩)] (fun r => decide (r.length ≠ lb)) a lb ca rows f _ (byteL.slice.sl_ext HA.out hc2) cf_solve (fun x A C g _ hs => by simpa using solve1_any w.heap.size A a x.length C lb ca (byteL.sl_max hs) hla _ hbx))
    have HC2 := Lib.hid hc2
    clear hc2 hbx
    have HM := Lib.hid (show solveRes rows right = if rows.any (fun r => decide (r.length ≠ lb)) = true then (1, []) else if (solV rows right).isSome = true then (0, (solV rows right).getD []) else (4, []) by
      rw [solveRes, if_neg (by have := HL.out; omega), if_neg (by have := HL.out; have := HLB.out; omega), ← HL.out])
    cases hq : rows.any (fun r => decide (r.length ≠ lb))
    · have HWD := Lib.hid (show Wide lb rows from fun x hx => by have := List.any_eq_false.1 hq x hx; simpa using this)
      have HR := Lib.hid (show solveRes rows right = if (solV rows right).isSome = true then (0, (solV rows right).getD []) else (4, []) by rw [HM.out, if_neg (by rw [hq]; simp)])
      rw [hq] at HCQ
      have HSO := Lib.hid (solve_any a b lb ca cb rows right f g _ (byteL.slice.sl_ext HA.out HC2.out) (byteL.sl_ext HB.out HC2.out) (by omega) (by omega) HWD)
      clear hq HM h0
      generalize solV rows right = o at HSO HR
      go_enter Try.func53, Try.ntmps53
      go_wp2_with fail
      refine HCQ.out.mono ?_; rintro e w' ⟨rfl, rfl⟩
      go_wp2_with fail
      refine HSO.out.mono ?_; rintro e w3 ⟨a3, c3, f3, rfl, hs3, hf3, hc3⟩
      have hB := hc3.keep0 (new_at (b := w.heap.size + 1) (by simp) _); have cB := cellsOf hB; have fB := freeOf hB; have lB := ltOf hB
      cases o with
      | none =>
        have HR2 := Lib.hid (show solveRes rows right = (4, []) from HR.out)
        have HC3 := Lib.hid (HC2.out.trans0 hc3)
        clear hB hs3 hf3 hc3
        simp only [Option.isSome_none, Option.getD_none, List.length_nil]
        go_wp2_with fail
        refine bodyPost_ret (v := .agg #[.int .i64 4, .slice none 0 0]) (by simp [results, Try.results53, go_sem, cB]) rfl ?_
        exact NewRes.code byteL HR2.out (by repeat (first | exact HC3.out | refine Chg.setCell ?_ _ _ (.inr (by simp))))
      | some z =>
        have HR2 := Lib.hid (show solveRes rows right = (0, z) from HR.out)
        simp only [Option.isSome_some, Option.getD_some] at hs3 hf3 ⊢
        have HN := Lib.hid (fun w2 => NewRes.storeB (w2 := w2) (B := w.heap.size + 1) HR2.out hs3 hf3 (by simp) (by omega) (HC2.out.trans0 hc3))
        generalize z.length = L at HN ⊢
        clear hB hs3 hf3 hc3
        go_wp2_with fail
        refine bodyPost_ret (v := .agg #[.int .i64 0, .slice a3 L c3]) (by simp [results, Try.results53, go_sem, cB]) rfl ?_
        exact HN.out _ ⟨_, _, rfl⟩
    · rw [hq] at HCQ
      have HR := Lib.hid (show solveRes rows right = (1, []) by rw [HM.out, if_pos hq])
      clear hq HM h0
      go_enter Try.func53, Try.ntmps53
      go_wp2_with fail
      refine HCQ.out.mono ?_; rintro e w' ⟨rfl, rfl⟩
      go_wp2_with fail
      refine bodyPost_ret (v := .agg #[.int .i64 1, .slice none 0 0]) (by simp [results, Try.results53, go_sem]) rfl ?_
      exact NewRes.code byteL HR.out (by repeat (first | exact Chg.refl _ _ | refine Chg.alloc ?_ _ | refine Chg.setCell ?_ _ _ (.inr (by simp)) | refine Chg.drew ?_))
  · have hll : ((lb : Int) != (la : Int)) = true := by rw [bne_iff_ne]; omega
    have HR := Lib.hid (show solveRes rows right = (1, []) by rw [solveRes, if_neg (by have := HL.out; omega), if_pos (.inr (by have := HL.out; have := HLB.out; omega))])
    clear h2 h0
    go_enter Try.func53, Try.ntmps53
    go_wp2_with fail
    refine bodyPost_ret (v := .agg #[.int .i64 1, .slice none 0 0]) (by simp [results, Try.results53, go_sem]) rfl ?_
    exact NewRes.code byteL HR.out (by repeat (first | exact Chg.refl _ _ | refine Chg.alloc ?_ _ | refine Chg.setCell ?_ _ _ (.inr (by simp)) | refine Chg.drew ?_))

set_option maxRecDepth 100000 in
set_option maxHeartbeats 2000000 in
theorem spec_solve (a b : Option Addr) (la ca lb cb : Nat) (rows : List (List UInt8)) (right : List UInt8) (f g : List Nat) (w : World) (ha : byteL.slice.sl w a la ca rows f) (hb : byteL.sl w b lb cb right g) :
    Calls Try.prog 54 #[.slice a la ca, .slice b lb cb] w (NewRes byteL (solveRes rows right) w) := by
  have hla := byteL.slice.sl_max ha
  have hlb := byteL.sl_max hb
  have HA := Lib.hid ha
  have HB := Lib.hid hb
  have HL := Lib.hid ha.1
  have HLB := Lib.hid hb.1
  clear ha hb
  by_cases h1 : (16 : Int) < (la : Int)
  · have HR := Lib.hid (show solveRes rows right = (2, []) by rw [solveRes, if_pos (by have := HL.out; omega)])
    go_enter Try.func54, Try.ntmps54
    go_wp2_with fail
    refine bodyPost_ret (v := .agg #[.int .i64 2, .slice none 0 0]) (by simp [results, Try.results54, go_sem]) rfl ?_
    exact NewRes.code byteL HR.out (by repeat (first | exact Chg.refl _ _ | refine Chg.alloc ?_ _ | refine Chg.setCell ?_ _ _ (.inr (by simp)) | refine Chg.drew ?_))
  by_cases h0 : la = 0
  · have HR := Lib.hid (show solveRes rows right = (1, []) by rw [solveRes, if_neg (by have := HL.out; omega), if_pos (.inl (by have := HL.out; omega))])
    subst h0
    go_enter Try.func54, Try.ntmps54
    go_wp2_with fail
    refine bodyPost_ret (v := .agg #[.int .i64 1, .slice none 0 0]) (by simp [results, Try.results54, go_sem]) rfl ?_
    exact NewRes.code byteL HR.out (by repeat (first | exact Chg.refl _ _ | refine Chg.alloc ?_ _ | refine Chg.setCell ?_ _ _ (.inr (by simp)) | refine Chg.drew ?_))
  have hln : ((la : Int) == 0) = false := by rw [beq_eq_false_iff_ne]; omega
  by_cases h2 : lb = la
  · subst h2
    have hll : ((lb : Int) != (lb : Int)) = false := by simp
    have HM := Lib.hid (show solveRes rows right = if rows.any (fun r => decide (r.length ≠ lb)) = true then (1, []) else if (solV rows right).isSome = true then (0, (solV rows right).getD []) else (4, []) by
      rw [solveRes, if_neg (by have := HL.out; omega), if_neg (by have := HL.out; have := HLB.out; omega), ← HL.out])
    have H0 := Lib.hid h0
    clear h0
    go_enter Try.func54, Try.ntmps54
    go_wp2_with fail
    go_loopw [5] (fun vi wr => ∃ (k : Nat), k ≤ lb ∧ vi = .int .i64 k ∧ RowKit.Hid (∀ (j : Nat) x, j < k → rows[j]? = some x → x.length = lb) ∧ w.alloc (.cells #[.int .i64 0, .slice none 0 0] 56) = wr) (fun vi _ => lb - (intOf vi).toNat)
    case atStart => exact ⟨0, by omega, rfl, fun j x hj => by omega, rfl⟩
    case round =>
      obtain ⟨k, hk, rfl, HK, rfl⟩ := hrel
      by_cases hlt : k < lb
      · obtain ⟨x, b1, off, A, lx, C, fx, HX, rfl, hcx, HXS⟩ := slc_at HA.out hlt
        have lbb : b1 < w.heap.size := byteL.slice.sl_lt HA.out _ HX.out.2.1
        have hmx := byteL.sl_max HXS.out
        by_cases hx : lx = lb
        · have HK2 := Lib.hid (show ∀ (j : Nat) y, j < k + 1 → rows[j]? = some y → y.length = lb from fun j y hj hy => by
            by_cases e : j = k
            · subst e; rw [Option.some.inj (hy.symm.trans HX.out.1), ← HXS.out.1, hx]
            · exact HK.out j y (by omega) hy)
          have hxx : ((lx : Int) != (lb : Int)) = false := by simp [hx]
          have HX2 := Lib.hid hx
          clear hx
          go_wp2_with fail
          go_roundw
          case rel => exact ⟨k + 1, by omega, by go_num, HK2, trivial⟩
          case measure => simp [intOf]; omega
        · have hxx : ((lx : Int) != (lb : Int)) = true := by rw [bne_iff_ne]; omega
          have HR := Lib.hid (show solveRes rows right = (1, []) by rw [HM.out, if_pos (List.any_eq_true.2 ⟨x, List.mem_of_getElem? HX.out.1, by rw [← HXS.out.1]; simpa using hx⟩)])
          clear hx
          go_wp2_with fail
          refine bodyPost_ret (v := .agg #[.int .i64 1, .slice none 0 0]) (by simp [results, Try.results54, go_sem]) rfl ?_
          exact NewRes.code byteL HR.out (by repeat (first | exact Chg.refl _ _ | refine Chg.alloc ?_ _ | refine Chg.setCell ?_ _ _ (.inr (by simp)) | refine Chg.drew ?_))
      · obtain rfl : k = lb := by omega
        have HWD := Lib.hid (show Wide k rows from fun x hx => by
          obtain ⟨j, hj, rfl⟩ := List.getElem_of_mem hx
          exact HK.out j _ (by have := HL.out; omega) (List.getElem?_eq_getElem hj))
        have HR := Lib.hid (show solveRes rows right = if (solV rows right).isSome = true then (0, (solV rows right).getD []) else (4, []) by
          rw [HM.out, if_neg]
          intro h
          obtain ⟨x, hx, h⟩ := List.any_eq_true.1 h
          have := HWD.out x hx
          simp [this] at h)
        have HSO := Lib.hid (l1Solve_any a b k ca cb rows right f g (w.alloc (.cells #[.int .i64 0, .slice none 0 0] 56)) (byteL.slice.sl_ext HA.out ((Chg.refl [] w).alloc _)) (byteL.sl_ext HB.out ((Chg.refl [] w).alloc _)) (by have := H0.out; omega) (by omega) HWD)
        clear HM HK
        generalize solV rows right = o at HSO HR
        go_wp2_with fail
        refine HSO.out.mono ?_; rintro e w3 ⟨a3, c3, f3, rfl, hs3, hf3, hc3⟩
        have hB := hc3.keep0 (new_alloc w _); have cB := cellsOf hB; have fB := freeOf hB; have lB := ltOf hB
        cases o with
        | none =>
          have HR2 := Lib.hid (show solveRes rows right = (4, []) from HR.out)
          have HC3 := Lib.hid (((Chg.refl [] w).alloc (.cells #[.int .i64 0, .slice none 0 0] 56)).trans0 hc3)
          clear hB hs3 hf3 hc3
          simp only [Option.isSome_none, Option.getD_none, List.length_nil]
          go_wp2_with fail
          refine bodyPost_ret (v := .agg #[.int .i64 4, .slice none 0 0]) (by simp [results, Try.results54, go_sem, cB]) rfl ?_
          exact NewRes.code byteL HR2.out (by repeat (first | exact HC3.out | refine Chg.setCell ?_ _ _ (.inr (by simp))))
        | some z =>
          have HR2 := Lib.hid (show solveRes rows right = (0, z) from HR.out)
          simp only [Option.isSome_some, Option.getD_some] at hs3 hf3 ⊢
          have HN := Lib.hid (fun w2 => NewRes.storeG (w2 := w2) HR2.out hs3 hf3 hc3)
          generalize z.length = L at HN ⊢
          clear hB hs3 hf3 hc3
          go_wp2_with fail
          refine bodyPost_ret (v := .agg #[.int .i64 0, .slice a3 L c3]) (by simp [results, Try.results54, go_sem, cB]) rfl ?_
          exact HN.out _ ⟨_, _, rfl⟩
  · have hll : ((lb : Int) != (la : Int)) = true := by rw [bne_iff_ne]; omega
    have HR := Lib.hid (show solveRes rows right = (1, []) by rw [solveRes, if_neg (by have := HL.out; omega), if_pos (.inr (by have := HL.out; have := HLB.out; omega))])
    clear h2 h0
    go_enter Try.func54, Try.ntmps54
    go_wp2_with fail
    refine bodyPost_ret (v := .agg #[.int .i64 1, .slice none 0 0]) (by simp [results, Try.results54, go_sem]) rfl ?_
    exact NewRes.code byteL HR.out (by repeat (first | exact Chg.refl _ _ | refine Chg.alloc ?_ _ | refine Chg.setCell ?_ _ _ (.inr (by simp)) | refine Chg.drew ?_))
theorem solV_len {rows : List (List UInt8)} {right : List UInt8} {n : Nat} (h : Wide n rows) (hr : right.length = rows.length) : ((solV rows right).getD []).length ≤ rows.length := by
  unfold solV
  split
  · simp
  · show (List.map _ (solved rows right).1).length ≤ _
    rw [List.length_map]
    unfold solved
    have := (gauss_inv (augm_wide (right := right) h) rows.length).1
    rw [augm_length hr] at this
    omega
theorem solveRes_len (rows : List (List UInt8)) (right : List UInt8) : (solveRes rows right).2.length ≤ 16 := by
  unfold solveRes
  split
  · simp
  · rename_i h1
    split
    · simp
    · rename_i h2
      split
      · simp
      · rename_i h3
        split
        · have hw : Wide rows.length rows := fun x hx => by
            by_cases e : x.length = rows.length
            · exact e
            · exact absurd (List.any_eq_true.2 ⟨x, hx, by simpa using e⟩) h3
          have hr : right.length = rows.length := by
            by_cases e : right.length = rows.length
            · exact e
            · exact absurd (.inr e) h2
          have := solV_len (right := right) hw hr
          show ((solV rows right).getD []).length ≤ 16
          omega
        · simp
end Go.Proofs.Ytlnclkjmlpipgaa
