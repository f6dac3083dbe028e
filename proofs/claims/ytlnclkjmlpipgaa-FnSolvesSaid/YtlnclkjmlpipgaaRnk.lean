
/- The program's and the reference's RankG. -/
import Derived.Test.YtlnclkjmlpipgaaRed
import Derived.Test.YtlnclkjmlpipgaaStp
import Derived.Test.YtlnclkjmlpipgaaCln
import Derived.Test.YtlnclkjmlpipgaaIdx
import Derived.Test.YtlnclkjmlpipgaaMix
import Derived.Test.YtlnclkjmlpipgaaEco
namespace Go.Proofs.Ytlnclkjmlpipgaa
open Go.RowKit

noncomputable def rankRes (xs : List (List UInt8)) : Int × Int :=
  if 16 < xs.length ∨ xs.any (fun x => decide (16 < x.length)) = true then (2, 0) else if ¬ Alike xs then (1, 0) else (0, ((gauss (xs.headD []).length xs).2 : Int))

theorem cf_rank : ∀ (args : Array Value) (w : World), (callFunc 92 args).run Try.prog w = .ok (.enter 92 args) w := fun _ _ => by go_simp
theorem cf_alike : ∀ (args : Array Value) (w : World), (callFunc 137 args).run Try.prog w = .ok (.enter 137 args) w := fun _ _ => by go_simp
theorem rank1_any (A : Option Addr) (lx C : Nat) (h : lx ≤ 9223372036854775807) (w : World) :
    Calls Try.prog 92 #[.slice A lx C] w fun e w' => e = .returned (.bool (decide (16 < lx))) ∧ w = w' := by
  go_enter Try.func92, Try.ntmps92
  go_wp2
  go_ret
  exact ⟨ret_bool (by simp; omega), rfl⟩
theorem alike0_any (a : Option Addr) (ca : Nat) (f : List Nat) (w : World) (ha : byteL.slice.sl w a 0 ca [] f) :
    Calls Try.prog 93 #[.slice a 0 ca] w fun e w' => e = .returned (.bool true) ∧ w.alloc (.cells #[.slice a 0 ca] 42) = w' := by
  have hmf : ∀ (fn : Fn) (first cap : Array Value) (w : World), (Instr.makeFunc fn first cap).run Try.prog w = .ok (.func fn first cap) w := fun _ _ _ _ => rfl
  have HI := Lib.hid (contQ_any 137 #[.pointer (some ⟨w.heap.size, 0, none⟩)] (fun _ => false) a 0 ca [] f _ (byteL.slice.sl_ext ha ((Chg.refl [] w).alloc (.cells #[.slice a 0 ca] 42))) cf_alike (fun x A C f hx => by cases hx))
  clear ha
  go_enter Try.func93, Try.ntmps93
  go_wp2_with fail
  refine HI.out.mono ?_
  rintro e w' ⟨rfl, rfl⟩
  go_wp2_with fail
  go_ret
  exact ⟨rfl, rfl⟩
/-- a clone of a list of lists: a row of its own over the same lists -/
theorem cloneL_any (a : Option Addr) (la ca : Nat) (xs : List (List UInt8)) (f : List Nat) (w : World) (ha : byteL.slice.sl w a la ca xs f) (h0 : 0 < la) (h16 : la ≤ 16) :
    Calls Try.prog 95 #[.slice a la ca] w fun e w' => ∃ g cap, e = .returned (.slice (some ⟨g, 0, none⟩) la cap) ∧ Rws w' g 0 la xs ∧ Loose w' g ∧ w.heap.size ≤ g ∧ Chg [] w w' := by
  have hl := ha.1
  refine (clone_lists a la ca xs f w ha (by omega)).mono ?_
  rintro e w' ⟨E, v, h, fps, rfl, ho, hsub, hh, hc⟩
  have hlo := byteL.slice.os_loose ho
  have hsl := byteL.slice.os_sl ho
  rcases ho with ⟨_, rfl, _, _⟩ | ⟨g, cap, cur, rfl, rfl, hg, h1, h2, h3, hall, hgf⟩
  · simp at hl; omega
  · obtain ⟨a', cap', e', hs⟩ := hsl
    obtain ⟨rfl, _, rfl⟩ := Value.slice.inj e'
    refine ⟨g, cap, by rw [hl], ?_, hlo g rfl, hh g rfl, hc⟩
    rw [hl]
    exact Rws.of_sl (b := g) hs hgf rfl
theorem rank_pair {xs : List (List UInt8)} {a b : Int} (h : rankRes xs = (a, b)) : Ending.returned (.agg #[.int .i64 a, .int .i64 b]) = .returned (.agg #[.int .i64 (rankRes xs).1, .int .i64 (rankRes xs).2]) := by rw [h]

set_option maxRecDepth 100000 in
set_option maxHeartbeats 2000000 in
theorem impl_rank (a : Option Addr) (la ca : Nat) (xs : List (List UInt8)) (f : List Nat) (w : World) (ha : byteL.slice.sl w a la ca xs f) :
    Calls Try.prog 48 #[.slice a la ca] w fun e w' => e = .returned (.agg #[.int .i64 (rankRes xs).1, .int .i64 (rankRes xs).2]) ∧ Chg [] w w' := by
  have hla := byteL.slice.sl_max ha
  have HA := Lib.hid ha
  have HL := Lib.hid ha.1
  clear ha
  by_cases h1 : (16 : Int) < (la : Int)
  · have HR := Lib.hid (show rankRes xs = (2, 0) by rw [rankRes, if_pos (.inl (by have := HL.out; omega))])
    go_enter Try.func48, Try.ntmps48
    go_wp2_with fail
    refine bodyPost_ret (v := .agg #[.int .i64 2, .int .i64 0]) (by simp [results, Try.results48, go_sem]) rfl ?_
    exact ⟨rank_pair HR.out, by repeat (first | exact Chg.refl _ _ | refine Chg.alloc ?_ _ | refine Chg.setCell ?_ _ _ (.inr (by simp)) | refine Chg.drew ?_)⟩
  have HCQ := Lib.hid (contQ_any 92 #[] (fun x => decide (16 < x.length)) a la ca xs f (w.alloc (.cells #[.int .i64 0, .int .i64 0] 30)) (byteL.slice.sl_ext HA.out ((Chg.refl [] w).alloc _)) cf_rank (fun x A C g _ hs => by simpa using rank1_any A x.length C (byteL.sl_max hs) _))
  cases hq : xs.any (fun x => decide (16 < x.length))
  · rw [hq] at HCQ
    have HM := Lib.hid (show rankRes xs = if ¬ Alike xs then (1, 0) else (0, ((gauss (xs.headD []).length xs).2 : Int)) by rw [rankRes, if_neg (by rw [hq]; have := HL.out; simp; omega)])
    have H16 := Lib.hid (fun x hx => by have := List.any_eq_false.1 hq x hx; simp at this; exact this : ∀ x ∈ xs, x.length ≤ 16)
    clear hq
    by_cases h0 : la = 0
    · subst h0
      obtain rfl : xs = [] := List.eq_nil_of_length_eq_zero HL.out.symm
      have HR := Lib.hid (show rankRes [] = (0, 0) by rw [HM.out, if_neg (fun h => h (fun x hx => by cases hx))]; rfl)
      have HAl := Lib.hid (alike0_any a ca f (w.alloc (.cells #[.int .i64 0, .int .i64 0] 30)) (byteL.slice.sl_ext HA.out ((Chg.refl [] w).alloc _)))
      clear HM
      go_enter Try.func48, Try.ntmps48
      go_wp2_with fail
      refine HCQ.out.mono ?_; rintro e w' ⟨rfl, rfl⟩
      go_wp2_with fail
      refine HAl.out.mono ?_; rintro e w' ⟨rfl, rfl⟩
      go_wp2_with fail
      refine bodyPost_ret (v := .agg #[.int .i64 0, .int .i64 0]) (by simp [results, Try.results48, go_sem]) rfl ?_
      exact ⟨rank_pair HR.out, by repeat (first | exact Chg.refl _ _ | refine Chg.alloc ?_ _ | refine Chg.setCell ?_ _ _ (.inr (by simp)) | refine Chg.drew ?_)⟩
    have h0' : 0 < la := by omega
    obtain ⟨x0, b0, o0, A0, n0, C0, f0, HX0, rfl, hc0, HXS0⟩ := slc_at HA.out h0'
    have hc0' : w.cell? ⟨b0, o0, none⟩ = some (.slice A0 n0 C0) := hc0
    have lb0 : b0 < w.heap.size := byteL.slice.sl_lt HA.out _ HX0.out.2.1
    have HH := Lib.hid (And.intro HX0.out.1 HXS0.out.1.symm)
    have HHD := Lib.hid (headD_at HH.out.1)
    have hmn := byteL.sl_max HXS0.out
    clear hc0 HX0 HXS0
    have hln : ((la : Int) == 0) = false := by rw [beq_eq_false_iff_ne]; omega
    have HAl := Lib.hid (alike_any (some ⟨b0, o0, none⟩) la ca xs f (w.alloc (.cells #[.int .i64 0, .int .i64 0] 30)) (byteL.slice.sl_ext HA.out ((Chg.refl [] w).alloc _)) h0')
    by_cases h2 : Alike xs
    · have HD := Lib.hid (show decide (Alike xs) = true by simp [h2])
      rw [HD.out] at HAl
      have HR := Lib.hid (show rankRes xs = (0, ((gauss n0 xs).2 : Int)) by rw [HM.out, if_neg (fun h => h h2), HHD.out, HH.out.2])
      have HWD := Lib.hid (show Wide n0 xs from fun x hx => by rw [h2 x hx, HHD.out, HH.out.2])
      have hn16 : n0 ≤ 16 := by rw [← HH.out.2]; exact H16.out _ (List.mem_of_getElem? HH.out.1)
      have HGI := Lib.hid ((gauss_inv HWD.out n0).2.2.2)
      clear h2 HM h0
      obtain ⟨rg, hrg⟩ : ∃ rg, rg = (gauss n0 xs).2 := ⟨_, rfl⟩
      rw [← hrg] at HR HGI
      have hrgn : rg ≤ n0 := HGI.out
      have HRG := Lib.hid hrg
      clear hrg
      go_enter Try.func48, Try.ntmps48
      go_wp2_with fail
      refine HCQ.out.mono ?_; rintro e w' ⟨rfl, rfl⟩
      go_wp2_with fail
      refine HAl.out.mono ?_; rintro e w4 ⟨rfl, h4⟩
      have hc4 : Chg [] (w.alloc (.cells #[.int .i64 0, .int .i64 0] 30)) w4 := by rw [← h4]; exact (Chg.refl [] _).alloc _
      have hc4w := ((Chg.refl [] w).alloc (.cells #[.int .i64 0, .int .i64 0] 30)).trans0 hc4
      have hcx : w4.cell? ⟨b0, o0, none⟩ = some (.slice A0 n0 C0) := (hc4w.facts.1 b0 o0 lb0).trans hc0'
      have hB := hc4.keep0 (new_alloc w _)
      have lB := ltOf hB
      have hb04 : b0 < w4.heap.size := Nat.lt_of_lt_of_le lb0 hc4w.size
      have HB4 := Lib.hid hB; have HC4 := Lib.hid hc4w
      have HCL := Lib.hid (cloneL_any (some ⟨b0, o0, none⟩) la ca xs f w4.drew (byteL.slice.sl_ext HA.out hc4w.drew) h0' (by omega))
      clear h4 hc4 hc4w hB hc0' HCQ HAl
      go_wp2_with fail
      go_region_law (first | (go_simp; go_at_call 95; refine HCL.out.mono ?_; rintro e w5 ⟨g5, c5, rfl, hr5, hl5, hg5, hc5⟩; have hcx5 := (hc5.facts.1 b0 o0 hb04).trans hcx; have HB5 := Lib.hid (hc5.keep0 HB4.out); have HN5 := Lib.hid (And.intro hr5 (And.intro hl5 (And.intro hg5 (HC4.out.drew.trans0 hc5)))); clear hr5 hl5 hg5 hc5) | (go_simp; go_at_call 94; refine (reduce_any g5 0 la c5 n0 n0 xs w5 HN5.out.1 HN5.out.2.1 HWD (by omega) (by omega) (by omega)).mono ?_; rintro e w6 ⟨rfl, -, -, hc6⟩; rw [← HRG.out]; have hB6 := hc6.keepb HB5.out (show w.heap.size ∉ [g5] by have := HN5.out.2.2.1; simp at this ⊢; omega); have cB6 := cellsOf hB6; have fB6 := freeOf hB6; have lB6 := ltOf hB6; have HN6 := Lib.hid (HN5.out.2.2.2.trans hc6 (fun x hx => .inr (by have h1 := HN5.out.2.2.1; have h2 := HC4.out.size; rw [List.mem_singleton] at hx; subst hx; exact Nat.le_trans h2 h1))); clear hc6 hB6))
      all_goals
        go_wp2_with fail
        refine bodyPost_ret (v := .agg #[.int .i64 0, .int .i64 rg]) (by simp [results, Try.results48, go_sem, cB6]) rfl ?_
        exact ⟨rank_pair HR.out, by repeat (first | exact HN6.out | refine Chg.setCell ?_ _ _ (.inr (by simp)))⟩
    · have HD := Lib.hid (show decide (Alike xs) = false by simp [h2])
      rw [HD.out] at HAl
      have HR := Lib.hid (show rankRes xs = (1, 0) by rw [HM.out, if_pos h2])
      clear HM h2
      go_enter Try.func48, Try.ntmps48
      go_wp2_with fail
      refine HCQ.out.mono ?_; rintro e w' ⟨rfl, rfl⟩
      go_wp2_with fail
      refine HAl.out.mono ?_; rintro e w' ⟨rfl, rfl⟩
      go_wp2_with fail
      refine bodyPost_ret (v := .agg #[.int .i64 1, .int .i64 0]) (by simp [results, Try.results48, go_sem]) rfl ?_
      exact ⟨rank_pair HR.out, by repeat (first | exact Chg.refl _ _ | refine Chg.alloc ?_ _ | refine Chg.setCell ?_ _ _ (.inr (by simp)) | refine Chg.drew ?_)⟩
  · rw [hq] at HCQ
    have HR := Lib.hid (show rankRes xs = (2, 0) by rw [rankRes, if_pos (.inr hq)])
    clear hq
    go_enter Try.func48, Try.ntmps48
    go_wp2_with fail
    refine HCQ.out.mono ?_; rintro e w' ⟨rfl, rfl⟩
    go_wp2_with fail
    refine bodyPost_ret (v := .agg #[.int .i64 2, .int .i64 0]) (by simp [results, Try.results48, go_sem]) rfl ?_
    exact ⟨rank_pair HR.out, by repeat (first | exact Chg.refl _ _ | refine Chg.alloc ?_ _ | refine Chg.setCell ?_ _ _ (.inr (by simp)) | refine Chg.drew ?_)⟩

set_option maxRecDepth 100000 in
set_option maxHeartbeats 2000000 in
theorem spec_rank (a : Option Addr) (la ca : Nat) (xs : List (List UInt8)) (f : List Nat) (w : World) (ha : byteL.slice.sl w a la ca xs f) :
    Calls Try.prog 47 #[.slice a la ca] w fun e w' => e = .returned (.agg #[.int .i64 (rankRes xs).1, .int .i64 (rankRes xs).2]) ∧ Chg [] w w' := by
  have hla := byteL.slice.sl_max ha
  have HA := Lib.hid ha
  have HL := Lib.hid ha.1
  obtain ⟨K1, _⟩ := kindB
  obtain ⟨K2, _⟩ := kindLL
  clear ha
  by_cases h1 : (16 : Int) < (la : Int)
  · have HR := Lib.hid (show rankRes xs = (2, 0) by rw [rankRes, if_pos (.inl (by have := HL.out; omega))])
    go_enter Try.func47, Try.ntmps47
    go_wp2_with fail
    refine bodyPost_ret (v := .agg #[.int .i64 2, .int .i64 0]) (by simp [results, Try.results47, go_sem]) rfl ?_
    exact ⟨rank_pair HR.out, by repeat (first | exact Chg.refl _ _ | refine Chg.alloc ?_ _ | refine Chg.setCell ?_ _ _ (.inr (by simp)) | refine Chg.drew ?_)⟩
  have lR : w.heap.size < (w.alloc (.cells #[.int .i64 0, .int .i64 0] 30)).heap.size := by simp
  go_enter Try.func47, Try.ntmps47
  go_wp2_with fail
  go_loopw [3] (fun vi wr => ∃ (k : Nat), k ≤ la ∧ vi = .int .i64 k ∧ RowKit.Hid (∀ (j : Nat) x, j < k → xs[j]? = some x → x.length ≤ 16) ∧ w.alloc (.cells #[.int .i64 0, .int .i64 0] 30) = wr) (fun vi _ => la - (intOf vi).toNat)
  case atStart => exact ⟨0, by omega, rfl, fun j x hj => by omega, rfl⟩
  case round =>
    obtain ⟨k, hk, rfl, HK, rfl⟩ := hrel
    by_cases hlt : k < la
    · obtain ⟨x, b, off, A, lx, C, fx, HX, rfl, hcx, HXS⟩ := slc_at HA.out hlt
      have lbb : b < w.heap.size := byteL.slice.sl_lt HA.out _ HX.out.2.1
      have hmx := byteL.sl_max HXS.out
      by_cases hx : (16 : Int) < (lx : Int)
      · have HR := Lib.hid (show rankRes xs = (2, 0) by rw [rankRes, if_pos (.inr (List.any_eq_true.2 ⟨x, List.mem_of_getElem? HX.out.1, by have := HXS.out.1; simp; omega⟩))])
        go_wp2_with fail
        refine bodyPost_ret (v := .agg #[.int .i64 2, .int .i64 0]) (by simp [results, Try.results47, go_sem]) rfl ?_
        exact ⟨rank_pair HR.out, by repeat (first | exact Chg.refl _ _ | refine Chg.alloc ?_ _ | refine Chg.setCell ?_ _ _ (.inr (by simp)) | refine Chg.drew ?_)⟩
      · have HK2 := Lib.hid (show ∀ (j : Nat) y, j < k + 1 → xs[j]? = some y → y.length ≤ 16 from fun j y hj hy => by
          by_cases e : j = k
          · subst e; rw [Option.some.inj (hy.symm.trans HX.out.1)]; have := HXS.out.1; omega
          · exact HK.out j y (by omega) hy)
        go_wp2_with fail
        go_roundw
        case rel => exact ⟨k + 1, by omega, by go_num, HK2, trivial⟩
        case measure => simp [intOf]; omega
    · obtain rfl : k = la := by omega
      have H16 := Lib.hid (show ∀ x ∈ xs, x.length ≤ 16 from fun x hx => by
        obtain ⟨j, hj, rfl⟩ := List.getElem_of_mem hx
        exact HK.out j _ (by have := HL.out; omega) (List.getElem?_eq_getElem hj))
      have HM := Lib.hid (show rankRes xs = if ¬ Alike xs then (1, 0) else (0, ((gauss (xs.headD []).length xs).2 : Int)) by
        rw [rankRes, if_neg]
        rintro (h | h)
        · have := HL.out; omega
        · obtain ⟨x, hx, h⟩ := List.any_eq_true.1 h; have := H16.out x hx; simp at h; omega)
      clear HK
      go_wp2_with fail
      go_loopw [4, 5] (fun vo vi wr => ∃ (k2 : Nat) (Wr : World), Wr = wr ∧ k2 ≤ k ∧ vi = .int .i64 k2 ∧ Grow byteL.slice 22 (w.alloc (.cells #[.int .i64 0, .int .i64 0] 30)) wr vo (xs.take k2) ∧ RowKit.Hid (∀ (j : Nat) x, j < k2 → xs[j]? = some x → x.length = (xs.headD []).length)) (fun _ vi _ => k - (intOf vi).toNat)
      case atStart => exact ⟨0, _, rfl, by omega, rfl, Grow.madeN (Chg.refl [] _) (by simp), fun j x hj => by omega⟩
      case round =>
        obtain ⟨k2, wr, rfl, hk2, rfl, hg, HK⟩ := hrel
        have hcr := hg.chg
        have hB := hcr.keep0 (new_alloc w _); have cB := cellsOf hB; have fB := freeOf hB; have lB := ltOf hB
        have HCW := Lib.hid (((Chg.refl [] w).alloc (.cells #[.int .i64 0, .int .i64 0] 30)).trans0 hcr)
        have HG := Lib.hid hg
        clear hB hg hcr
        by_cases hlt2 : k2 < k
        · obtain ⟨x0, b0, o0, A0, n0, C0, f0, HX0, rfl, hc0, HXS0⟩ := slc_at (byteL.slice.sl_ext HA.out HCW.out) (show 0 < k by omega)
          have hc0' : wr.cell? ⟨b0, o0, none⟩ = some (.slice A0 n0 C0) := hc0
          have hb0r : b0 < wr.heap.size := byteL.slice.sl_lt (byteL.slice.sl_ext HA.out HCW.out) _ HX0.out.2.1
          have HN0 := Lib.hid (show (xs.headD []).length = n0 by rw [headD_at HX0.out.1]; exact HXS0.out.1.symm)
          obtain ⟨x, bx, ox, A, lx, C, fx, HX, ex, hcx, HXS⟩ := slc_at (byteL.slice.sl_ext HA.out HCW.out) hlt2
          obtain ⟨rfl, rfl⟩ : b0 = bx ∧ o0 = ox := by simpa using ex
          have hmx := byteL.sl_max HXS.out
          have hmn := byteL.sl_max HXS0.out
          clear ex hc0 HX0 HXS0
          by_cases heq : lx = n0
          · have HK2 := Lib.hid (show ∀ (j : Nat) y, j < k2 + 1 → xs[j]? = some y → y.length = (xs.headD []).length from fun j y hj hy => by
              by_cases e : j = k2
              · subst e; rw [Option.some.inj (hy.symm.trans HX.out.1), ← HXS.out.1, heq, HN0.out]
              · exact HK.out j y (by omega) hy)
            have hxl : x.length ≤ 16 := H16.out x (List.mem_of_getElem? HX.out.1)
            have HXL := Lib.hid HXS.out.1
            subst heq
            have hxx : ((lx : Int) != (lx : Int)) = false := by simp
            have HL1 : RowKit.Hid (([] : List UInt8).length + x.length ≤ maxLen ∧ (([] : List UInt8).length + x.length) * 1 ≤ 140737488355328) := by
              refine ⟨?_, ?_⟩ <;> simp only [List.length_nil, maxLen] <;> omega
            have HL2 : RowKit.Hid ((xs.take k2).length + [x].length ≤ maxLen ∧ ((xs.take k2).length + [x].length) * 24 ≤ 140737488355328) := by
              have := List.length_take_le k2 xs
              refine ⟨?_, ?_⟩ <;> simp only [List.length_cons, List.length_nil, maxLen] <;> omega
            have HTN := Lib.hid (take_next HX.out.1)
            go_wp2_with fail
            go_region
            all_goals
              go_wp2_with (first
                | (at_builtin; refine byteL.wpList_growS byte_flat rfl _ _ 22 rfl Try.underlying22 K1 rfl (Grow.made (Chg.refl [] wr)) (Chg.refl [] _).drew rfl (byteL.sl_ext HXS.out ((Chg.refl [] wr).alloc _).drew) HL1.out.1 HL1.out.2 ?_; intro v' w' hg'; rw [List.nil_append] at hg'; obtain ⟨a7, c7, f7, rfl, hs7, hf7, hc7⟩ := hg'.bytes; have HN7 := Lib.hid (And.intro hs7 (And.intro hf7 hc7)); clear hg' hs7 hf7 hc7)
                | (at_builtin; refine byteL.slice.wpList_grow rfl _ _ 42 rfl Try.underlying42 K2 rfl HG.out (HN7.out.2.2.alloc _) ⟨_, 0, none⟩ 1 1 [.slice a7 x.length c7] (ys := [x]) (f := f7) rfl rfl (new_cell _ _ _) (slc_all1 (byteL.sl_ext HN7.out.1 ((Chg.refl [] _).alloc _))) (HN7.out.2.1.chg ((Chg.refl [] _).alloc _)) HL2.out.1 HL2.out.2 ?_; intro v' w' hg'; rw [← HTN.out] at hg'; have HN := Lib.hid hg'; clear hg'))
              go_roundw
              case rel => exact ⟨k2 + 1, _, rfl, by omega, by go_num, HN.out, HK2⟩
              case measure => simp [intOf]; omega
          · have hxx : ((lx : Int) != (n0 : Int)) = true := by rw [bne_iff_ne]; omega
            have HR := Lib.hid (show rankRes xs = (1, 0) by rw [HM.out, if_pos (fun hal => heq (by rw [HXS.out.1, hal x (List.mem_of_getElem? HX.out.1), HN0.out]))])
            clear heq
            go_wp2_with fail
            go_region
            all_goals
              go_wp2_with fail
              refine bodyPost_ret (v := .agg #[.int .i64 1, .int .i64 0]) (by simp [results, Try.results47, go_sem, cB]) rfl ?_
              exact ⟨rank_pair HR.out, by repeat (first | exact HCW.out | refine Chg.setCell ?_ _ _ (.inr (by simp)) | refine Chg.drew ?_)⟩
        · obtain rfl : k2 = k := by omega
          have HAL := Lib.hid (show Alike xs from fun x hx => by
            obtain ⟨j, hj, rfl⟩ := List.getElem_of_mem hx
            exact HK.out j _ (by have := HL.out; omega) (List.getElem?_eq_getElem hj))
          have HR := Lib.hid (show rankRes xs = (0, ((gauss (xs.headD []).length xs).2 : Int)) by rw [HM.out, if_neg (fun h => h HAL.out)])
          have htk : xs.take k2 = xs := List.take_of_length_le (by have := HL.out; omega)
          obtain ⟨hd, fps, ho, hf, hc⟩ := HG.out
          rw [htk] at ho
          clear htk HK HM
          have HSL := Lib.hid (byteL.slice.os_sl ho)
          have HLO := Lib.hid (byteL.slice.os_loose ho)
          have HO := Lib.hid ho
          have HF := Lib.hid hf
          clear ho hf hc
          by_cases h0 : k2 = 0
          · subst h0
            obtain rfl : xs = [] := List.eq_nil_of_length_eq_zero HL.out.symm
            obtain ⟨a9, c9, rfl, -⟩ := HSL.out
            have HR0 := Lib.hid (show rankRes [] = (0, 0) from HR.out)
            simp only [List.length_nil]
            go_wp2_with fail
            refine bodyPost_ret (v := .agg #[.int .i64 0, .int .i64 0]) (by simp [results, Try.results47, go_sem, cB]) rfl ?_
            exact ⟨rank_pair HR0.out, by repeat (first | exact HCW.out | refine Chg.setCell ?_ _ _ (.inr (by simp)) | refine Chg.drew ?_)⟩
          · rcases HO.out with ⟨_, hx, _, _⟩ | ⟨g, cap, cur, rfl, rfl, hg, h5, h6, h7, hall, hgf⟩
            · have := HL.out; rw [hx] at this; simp at this; omega
            obtain ⟨a9, c9, e9, hs9⟩ := HSL.out
            obtain ⟨rfl, -, rfl⟩ := Value.slice.inj e9
            have hRw : Rws wr g 0 xs.length xs := Rws.of_sl (b := g) hs9 hgf rfl
            have hLg := HLO.out g rfl
            have hgs : w.heap.size < g := by have := (HF.out.2 g (by simp)).1; simp at this; omega
            have HRw := Lib.hid hRw; have HLg := Lib.hid hLg
            have hln : ((xs.length : Int) == 0) = false := by rw [beq_eq_false_iff_ne]; have := HL.out; omega
            have hxl0 : 0 < xs.length := by have := HL.out; omega
            have hxl16 : xs.length ≤ 16 := by have := HL.out; omega
            obtain ⟨x0, A0, C0, f0, HX0, hcx0⟩ := hRw.at hxl0
            have HHD := Lib.hid (show xs.headD [] = x0 from headD_at HX0.out.1)
            have HWD := Lib.hid (show Wide x0.length xs from fun x hx => by rw [HAL.out x hx, HHD.out])
            have hn16 : x0.length ≤ 16 := H16.out _ (List.mem_of_getElem? HX0.out.1)
            have HGI := Lib.hid ((gauss_inv HWD.out x0.length).2.2.2)
            have HR2 := Lib.hid (show rankRes xs = (0, ((gauss x0.length xs).2 : Int)) by rw [HR.out, HHD.out])
            clear hRw hLg hs9 hall h5 h6 h7 hgf HSL HO e9 hg HR HLO
            go_wp2_with fail
            refine (l1Step_any g 0 xs.length cap x0.length x0.length xs wr HRw.out HLg.out HWD (by omega) (by omega) (by omega)).mono ?_
            rintro e w6 ⟨rfl, -, -, hc6⟩
            obtain ⟨rg, hrg⟩ : ∃ rg, rg = (gauss x0.length xs).2 := ⟨_, rfl⟩
            rw [← hrg] at HR2 HGI ⊢
            have hrgn : rg ≤ x0.length := HGI.out
            have hB6 := hc6.keepb (HG.out.chg.keep0 (new_alloc w _)) (show w.heap.size ∉ [g] by simp; omega)
            have cB6 := cellsOf hB6; have fB6 := freeOf hB6; have lB6 := ltOf hB6
            have HN6 := Lib.hid (HCW.out.trans hc6 (fun x hx => .inr (by rw [List.mem_singleton] at hx; omega)))
            clear hc6 hB6 cB fB lB hrg
            go_wp2_with fail
            refine bodyPost_ret (v := .agg #[.int .i64 0, .int .i64 rg]) (by simp [results, Try.results47, go_sem, cB6]) rfl ?_
            exact ⟨rank_pair HR2.out, by repeat (first | exact HN6.out | refine Chg.setCell ?_ _ _ (.inr (by simp)))⟩
end Go.Proofs.Ytlnclkjmlpipgaa
