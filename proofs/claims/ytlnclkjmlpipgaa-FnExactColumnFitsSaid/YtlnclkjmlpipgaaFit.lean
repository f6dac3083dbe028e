
/- The program's and the reference's ColumnFits. -/
import Derived.Test.YtlnclkjmlpipgaaEco
import Derived.Test.YtlnclkjmlpipgaaSub
import Derived.Test.YtlnclkjmlpipgaaReg
import Derived.Deep.RegionLaw
namespace Go.Proofs.Ytlnclkjmlpipgaa
open Go.RowKit

/-- what ColumnFits tells of lists that are not too long -/
noncomputable def fitsV (xs : List (List UInt8)) (c : Int) : Bool :=
  if inB c 0 2 = false then false else if (inB (xs.length - c) 1 4 && inB c 0 2) = false then false else if ¬ Alike xs then false
  else sameV (parL (xs.take (xs.length - c.toNat)) (xs.headD []).length c.toNat) (xs.drop (xs.length - c.toNat))
theorem Alike.take {xs : List (List UInt8)} {n0 g : Nat} (h : ∀ x ∈ xs, x.length = n0) : ∀ x ∈ xs.take g, x.length = n0 := fun x hx => h x (List.mem_of_mem_take hx)

set_option maxRecDepth 100000 in
set_option maxHeartbeats 2000000 in
theorem fits_any (a : Option Addr) (la ca g c n0 : Nat) (xs : List (List UInt8)) (f : List Nat) (w : World) (ha : byteL.slice.sl w a la ca xs f) (hg : 1 ≤ g) (hg4 : g ≤ 4) (hc2 : c ≤ 2) (hgc : la = g + c) (hn0 : n0 ≤ 140737488355327) (hx0 : RowKit.Hid ((xs.headD []).length = n0)) :
    Calls Try.prog 102 #[.agg #[.int .i64 g, .int .i64 c], .slice a la ca] w fun e w' => e = .returned (.bool (if Alike xs then sameV (parL (xs.take g) n0 c) (xs.drop g) else false)) ∧ Chg [] w w' := by
  have hla := byteL.slice.sl_max ha
  have HA := Lib.hid ha
  have HL := Lib.hid ha.1
  have hlc := ha.2.1
  have hcm := ha.2.2.1
  clear ha
  have h0 : 0 < la := by omega
  obtain ⟨x0, b0, o0, A0, n0', C0, f0, HX0, rfl, hc0, HXS0⟩ := slc_at HA.out h0
  clear hc0 HX0 HXS0
  have hB0 := new_alloc w (.cells #[.int .i64 g, .int .i64 c] 105)
  have HB0 := Lib.hid hB0
  have hC0 := ((Chg.refl [] w).alloc (.cells #[.int .i64 g, .int .i64 c] 105)).drew
  have HC0 := Lib.hid hC0
  have HAl := Lib.hid ((alike_any (some ⟨b0, o0, none⟩) la ca xs f _ (byteL.slice.sl_ext HA.out hC0) h0).mono (R' := fun e w' => e = .returned (.bool (decide (Alike xs))) ∧ Chg [] (w.alloc (.cells #[.int .i64 g, .int .i64 c] 105)).drew w') (fun e w' h => ⟨h.1, h.2 ▸ (Chg.refl [] _).alloc _⟩))
  clear hB0 hC0
  have HB0' := Lib.hid (show (w.alloc (.cells #[.int .i64 g, .int .i64 c] 105)).drew.heap[w.heap.size]? = some (.cells #[.int .i64 g, .int .i64 c] 105 (0, 0)) from HB0.out)
  have hmm : maxLen = 9223372036854775807 := rfl
  rw [hmm] at hcm
  have HMM := Lib.hid hmm
  clear hmm
  by_cases h2 : Alike xs
  · have HD := Lib.hid (show decide (Alike xs) = true by simp [h2])
    have HAll := Lib.hid (show ∀ x ∈ xs, x.length = n0 from fun x hx => by rw [h2 x hx, hx0.out])
    rw [HD.out] at HAl
    rw [if_pos h2]
    obtain ⟨f1, hf1, hs1⟩ := byteL.slice.sl_take HA.out (n := g) (by omega)
    have HT := Lib.hid hs1
    obtain ⟨f2, hf2, hs2⟩ := byteL.slice.sl_drop HA.out (n := g) (by omega)
    have HDR := Lib.hid (show byteL.slice.sl w (some ⟨b0, o0 + g, none⟩) c (ca - g) (xs.drop g) f2 by have := hs2; rw [show la - g = c by omega, show g * byteL.slice.n = g from Nat.mul_one g] at this; exact this)
    have HAT := Lib.hid (Alike.take (g := g) HAll.out)
    obtain ⟨r, hr⟩ : ∃ r, r = sameV (parL (xs.take g) n0 c) (xs.drop g) := ⟨_, rfl⟩
    rw [← hr]
    have HR := Lib.hid hr
    have hle : ((g : Int) ≤ (ca : Int)) := by omega
    have hle2 : ((g : Int) ≤ (la : Int)) := by omega
    have HGC := Lib.hid hgc
    clear h2 hs1 hs2 hf1 hf2 hr
    have HPL := Lib.hid (parL_length (xs.take g) n0 c)
    clear hgc
    have HLG := Lib.hid (show la - g = c by have := HGC.out; omega)
    by_cases hcg : ca = g
    · have hcg2 : (ca : Int) = (g : Int) := by omega
      have hc0 : c = 0 := by have := HGC.out; omega
      have HDR2 := Lib.hid (show byteL.slice.sl w (some ⟨b0, o0, none⟩) 0 0 (xs.drop g) [] by
        have h2 : xs.drop g = [] := by rw [List.drop_eq_nil_iff]; have := HL.out; have := HGC.out; omega
        rw [h2]
        exact byteL.slice.sl_none w _)
      have HC00 := Lib.hid hc0
      clear hc0 hcg2
      have hgc2 := hcg.symm
      subst hgc2
      go_enter Try.func102, Try.ntmps102
      go_wp2_with fail
      obtain ⟨SS1, hSS⟩ : ∃ S : World → Prop, S = fun w' => Know w.heap.size #[.int .i64 g, .int .i64 c] w' := ⟨_, rfl⟩
      have HSI1 := Lib.hid (fun w' (h : Know w.heap.size #[.int .i64 g, .int .i64 c] w') => (by rw [hSS]; exact h : SS1 w'))
      have HSO1 := Lib.hid (fun w' (h : SS1 w') => (by rw [hSS] at h; exact h : Know w.heap.size #[.int .i64 g, .int .i64 c] w'))
      clear hSS
      have hS0 := HSI1.out (w.alloc (.cells #[.int .i64 g, .int .i64 c] 105)).drew (Know.of HB0'.out)
      refine rg_start SS1 (by kernel_rfl) hS0 ?_
      refine rg_take 0 (v := ?_) rfl (by kernel_rfl) (fun _ _ _ h => h) hS0 (by rfl) ?_ ?_
      rotate_left
      · intro w hSw; clear hSw; go_simp; (try with_reducible rfl)
      simp only [Act.put, List.setIfInBounds_toArray, List.set_cons_zero, List.set_cons_succ]
      refine rg_call 1 rfl (by kernel_rfl) (fun K hK => ?_)
      go_simp
      go_at_call 93
      refine HAl.out.mono ?_; rintro e w1 ⟨rfl, hc1⟩
      have HB1 := Lib.hid (hc1.keep0 HB0'.out); have HN1 := Lib.hid (HC0.out.trans0 hc1); clear hc1
      go_wp2_with fail
      refine hK.out _ _ (HSI1.out _ (Know.of HB1.out)) (fun hS1 => ?_)
      clear hK K
      try simp only [Act.put, List.setIfInBounds_toArray, List.set_cons_zero, List.set_cons_succ]
      refine rg_take 2 (v := ?_) rfl (by kernel_rfl) (fun _ _ _ h => h) hS1 (by rfl) ?_ ?_
      rotate_left
      · intro w hSw; clear hSw; go_simp; (try with_reducible rfl)
      simp only [Act.put, List.setIfInBounds_toArray, List.set_cons_zero, List.set_cons_succ]
      refine rg_take 3 (v := ?_) rfl (by kernel_rfl) (fun _ _ _ h => h) hS1 (by rfl) ?_ ?_
      rotate_left
      · intro w hSw; obtain k0 := HSO1.out w hSw; (try unfold Know at k0); go_simp; (try with_reducible rfl)
      simp only [Act.put, List.setIfInBounds_toArray, List.set_cons_zero, List.set_cons_succ]
      refine rg_take 4 (v := ?_) rfl (by kernel_rfl) (fun _ _ _ h => h) hS1 (by rfl) ?_ ?_
      rotate_left
      · intro w hSw; clear hSw; go_simp; (try with_reducible rfl)
      simp only [Act.put, List.setIfInBounds_toArray, List.set_cons_zero, List.set_cons_succ]
      refine rg_take 5 (v := ?_) rfl (by kernel_rfl) (fun _ _ _ h => h) hS1 (by rfl) ?_ ?_
      rotate_left
      · intro w hSw; clear hSw; go_simp; (try with_reducible rfl)
      simp only [Act.put, List.setIfInBounds_toArray, List.set_cons_zero, List.set_cons_succ]
      refine rg_take 6 (v := ?_) rfl (by kernel_rfl) (fun _ _ _ h => h) hS1 (by rfl) ?_ ?_
      rotate_left
      · intro w hSw; obtain k0 := HSO1.out w hSw; (try unfold Know at k0); go_simp; (try with_reducible rfl)
      simp only [Act.put, List.setIfInBounds_toArray, List.set_cons_zero, List.set_cons_succ]
      refine rg_take 7 (v := ?_) rfl (by kernel_rfl) (fun _ _ _ h => h) hS1 (by rfl) ?_ ?_
      rotate_left
      · intro w hSw; clear hSw; go_simp; (try with_reducible rfl)
      simp only [Act.put, List.setIfInBounds_toArray, List.set_cons_zero, List.set_cons_succ]
      refine rg_take 9 (v := ?_) rfl (by kernel_rfl) (fun _ _ _ h => h) hS1 (by rfl) ?_ ?_
      rotate_left
      · intro w hSw; clear hSw; go_simp; (try with_reducible rfl)
      simp only [Act.put, List.setIfInBounds_toArray, List.set_cons_zero, List.set_cons_succ]
      refine rg_take 10 (v := ?_) rfl (by kernel_rfl) (fun _ _ _ h => h) hS1 (by rfl) ?_ ?_
      rotate_left
      · intro w hSw; clear hSw; go_simp; (try with_reducible rfl)
      simp only [Act.put, List.setIfInBounds_toArray, List.set_cons_zero, List.set_cons_succ]
      refine rg_take 11 (v := ?_) rfl (by kernel_rfl) (fun _ _ _ h => h) hS1 (by rfl) ?_ ?_
      rotate_left
      · intro w hSw; obtain k0 := HSO1.out w hSw; (try unfold Know at k0); go_simp; (try with_reducible rfl)
      simp only [Act.put, List.setIfInBounds_toArray, List.set_cons_zero, List.set_cons_succ]
      refine rg_take 12 (v := ?_) rfl (by kernel_rfl) (fun _ _ _ h => h) hS1 (by rfl) ?_ ?_
      rotate_left
      · intro w hSw; clear hSw; go_simp; (try with_reducible rfl)
      simp only [Act.put, List.setIfInBounds_toArray, List.set_cons_zero, List.set_cons_succ]
      refine rg_call 8 rfl (by kernel_rfl) (fun K hK => ?_)
      go_simp
      go_at_call 108
      refine (parity_any _ g _ n0 c _ f1 w1 (byteL.slice.sl_ext HT.out HN1.out) hg hg4 hc2 hn0 HAT).mono ?_; rintro e w2 ⟨a2, c2, fp2, rfl, hs2, hf2, hc2'⟩; rw [HPL.out] at hs2 ⊢
      have HB2 := Lib.hid (hc2'.keep0 HB1.out); have HN2 := Lib.hid (And.intro hs2 (HN1.out.trans0 hc2')); clear hs2 hf2 hc2'
      go_wp2_with fail
      refine hK.out _ _ (HSI1.out _ (Know.of HB2.out)) (fun hS2 => ?_)
      clear hK K
      try simp only [Act.put, List.setIfInBounds_toArray, List.set_cons_zero, List.set_cons_succ]
      refine rg_call 13 rfl (by kernel_rfl) (fun K hK => ?_)
      go_simp
      go_at_call 142
      refine (eqF_any a2 (some ⟨b0, o0, none⟩) c c2 0 0 _ _ fp2 [] w2 HN2.out.1 (byteL.slice.sl_ext HDR2.out HN2.out.2)).mono ?_; rintro e w3 ⟨rfl, hc3⟩
      have HB3 := Lib.hid (hc3.keep0 HB2.out); have HN3 := Lib.hid (HN2.out.2.trans0 hc3); clear hc3
      go_wp2_with fail
      refine hK.out _ _ (HSI1.out _ (Know.of HB3.out)) (fun hS3 => ?_)
      clear hK K
      try simp only [Act.put, List.setIfInBounds_toArray, List.set_cons_zero, List.set_cons_succ]
      refine rg_take 14 (v := ?_) rfl (by kernel_rfl) (fun _ _ _ h => h) hS3 (by rfl) ?_ ?_
      rotate_left
      · intro w hSw; clear hSw; go_simp; (try with_reducible rfl)
      simp only [Act.put, List.setIfInBounds_toArray, List.set_cons_zero, List.set_cons_succ]
      refine rg_take 15 (v := ?_) rfl (by kernel_rfl) (fun _ _ _ h => h) hS3 (by rfl) ?_ ?_
      rotate_left
      · intro w hSw; clear hSw; go_simp; (try with_reducible rfl)
      simp only [Act.put, List.setIfInBounds_toArray, List.set_cons_zero, List.set_cons_succ]
      refine wpAnyH_done (by kernel_rfl) ?_ _
      go_wp2_with fail
      go_ret
      exact ⟨by rw [HR.out]; rfl, HN3.out⟩
    · have hcg2 : ¬ (ca : Int) = (g : Int) := by omega
      go_enter Try.func102, Try.ntmps102
      go_wp2_with fail
      obtain ⟨SS1, hSS⟩ : ∃ S : World → Prop, S = fun w' => Know w.heap.size #[.int .i64 g, .int .i64 c] w' := ⟨_, rfl⟩
      have HSI1 := Lib.hid (fun w' (h : Know w.heap.size #[.int .i64 g, .int .i64 c] w') => (by rw [hSS]; exact h : SS1 w'))
      have HSO1 := Lib.hid (fun w' (h : SS1 w') => (by rw [hSS] at h; exact h : Know w.heap.size #[.int .i64 g, .int .i64 c] w'))
      clear hSS
      have hS0 := HSI1.out (w.alloc (.cells #[.int .i64 g, .int .i64 c] 105)).drew (Know.of HB0'.out)
      refine rg_start SS1 (by kernel_rfl) hS0 ?_
      refine rg_take 0 (v := ?_) rfl (by kernel_rfl) (fun _ _ _ h => h) hS0 (by rfl) ?_ ?_
      rotate_left
      · intro w hSw; clear hSw; go_simp; (try with_reducible rfl)
      simp only [Act.put, List.setIfInBounds_toArray, List.set_cons_zero, List.set_cons_succ]
      refine rg_call 1 rfl (by kernel_rfl) (fun K hK => ?_)
      go_simp
      go_at_call 93
      refine HAl.out.mono ?_; rintro e w1 ⟨rfl, hc1⟩
      have HB1 := Lib.hid (hc1.keep0 HB0'.out); have HN1 := Lib.hid (HC0.out.trans0 hc1); clear hc1
      go_wp2_with fail
      refine hK.out _ _ (HSI1.out _ (Know.of HB1.out)) (fun hS1 => ?_)
      clear hK K
      try simp only [Act.put, List.setIfInBounds_toArray, List.set_cons_zero, List.set_cons_succ]
      refine rg_take 2 (v := ?_) rfl (by kernel_rfl) (fun _ _ _ h => h) hS1 (by rfl) ?_ ?_
      rotate_left
      · intro w hSw; clear hSw; go_simp; (try with_reducible rfl)
      simp only [Act.put, List.setIfInBounds_toArray, List.set_cons_zero, List.set_cons_succ]
      refine rg_take 3 (v := ?_) rfl (by kernel_rfl) (fun _ _ _ h => h) hS1 (by rfl) ?_ ?_
      rotate_left
      · intro w hSw; obtain k0 := HSO1.out w hSw; (try unfold Know at k0); go_simp; (try with_reducible rfl)
      simp only [Act.put, List.setIfInBounds_toArray, List.set_cons_zero, List.set_cons_succ]
      refine rg_take 4 (v := ?_) rfl (by kernel_rfl) (fun _ _ _ h => h) hS1 (by rfl) ?_ ?_
      rotate_left
      · intro w hSw; clear hSw; go_simp; (try with_reducible rfl)
      simp only [Act.put, List.setIfInBounds_toArray, List.set_cons_zero, List.set_cons_succ]
      refine rg_take 5 (v := ?_) rfl (by kernel_rfl) (fun _ _ _ h => h) hS1 (by rfl) ?_ ?_
      rotate_left
      · intro w hSw; clear hSw; go_simp; (try with_reducible rfl)
      simp only [Act.put, List.setIfInBounds_toArray, List.set_cons_zero, List.set_cons_succ]
      refine rg_take 6 (v := ?_) rfl (by kernel_rfl) (fun _ _ _ h => h) hS1 (by rfl) ?_ ?_
      rotate_left
      · intro w hSw; obtain k0 := HSO1.out w hSw; (try unfold Know at k0); go_simp; (try with_reducible rfl)
      simp only [Act.put, List.setIfInBounds_toArray, List.set_cons_zero, List.set_cons_succ]
      refine rg_take 7 (v := ?_) rfl (by kernel_rfl) (fun _ _ _ h => h) hS1 (by rfl) ?_ ?_
      rotate_left
      · intro w hSw; clear hSw; go_simp; (try with_reducible rfl)
      simp only [Act.put, List.setIfInBounds_toArray, List.set_cons_zero, List.set_cons_succ]
      refine rg_take 9 (v := ?_) rfl (by kernel_rfl) (fun _ _ _ h => h) hS1 (by rfl) ?_ ?_
      rotate_left
      · intro w hSw; clear hSw; go_simp; (try with_reducible rfl)
      simp only [Act.put, List.setIfInBounds_toArray, List.set_cons_zero, List.set_cons_succ]
      refine rg_take 10 (v := ?_) rfl (by kernel_rfl) (fun _ _ _ h => h) hS1 (by rfl) ?_ ?_
      rotate_left
      · intro w hSw; clear hSw; go_simp; (try with_reducible rfl)
      simp only [Act.put, List.setIfInBounds_toArray, List.set_cons_zero, List.set_cons_succ]
      refine rg_take 11 (v := ?_) rfl (by kernel_rfl) (fun _ _ _ h => h) hS1 (by rfl) ?_ ?_
      rotate_left
      · intro w hSw; obtain k0 := HSO1.out w hSw; (try unfold Know at k0); go_simp; (try with_reducible rfl)
      simp only [Act.put, List.setIfInBounds_toArray, List.set_cons_zero, List.set_cons_succ]
      refine rg_take 12 (v := ?_) rfl (by kernel_rfl) (fun _ _ _ h => h) hS1 (by rfl) ?_ ?_
      rotate_left
      · intro w hSw; clear hSw; go_simp; (try with_reducible rfl)
      simp only [Act.put, List.setIfInBounds_toArray, List.set_cons_zero, List.set_cons_succ]
      refine rg_call 8 rfl (by kernel_rfl) (fun K hK => ?_)
      go_simp
      go_at_call 108
      refine (parity_any _ g ca n0 c _ f1 w1 (byteL.slice.sl_ext HT.out HN1.out) hg hg4 hc2 hn0 HAT).mono ?_; rintro e w2 ⟨a2, c2, fp2, rfl, hs2, hf2, hc2'⟩; rw [HPL.out] at hs2 ⊢
      have HB2 := Lib.hid (hc2'.keep0 HB1.out); have HN2 := Lib.hid (And.intro hs2 (HN1.out.trans0 hc2')); clear hs2 hf2 hc2'
      go_wp2_with fail
      refine hK.out _ _ (HSI1.out _ (Know.of HB2.out)) (fun hS2 => ?_)
      clear hK K
      try simp only [Act.put, List.setIfInBounds_toArray, List.set_cons_zero, List.set_cons_succ]
      refine rg_call 13 rfl (by kernel_rfl) (fun K hK => ?_)
      go_simp
      go_at_call 142
      rw [HLG.out]
      refine (eqF_any a2 (some ⟨b0, o0 + g, none⟩) c c2 c (ca - g) _ _ fp2 f2 w2 HN2.out.1 (byteL.slice.sl_ext HDR.out HN2.out.2)).mono ?_; rintro e w3 ⟨rfl, hc3⟩
      have HB3 := Lib.hid (hc3.keep0 HB2.out); have HN3 := Lib.hid (HN2.out.2.trans0 hc3); clear hc3
      go_wp2_with fail
      refine hK.out _ _ (HSI1.out _ (Know.of HB3.out)) (fun hS3 => ?_)
      clear hK K
      try simp only [Act.put, List.setIfInBounds_toArray, List.set_cons_zero, List.set_cons_succ]
      refine rg_take 14 (v := ?_) rfl (by kernel_rfl) (fun _ _ _ h => h) hS3 (by rfl) ?_ ?_
      rotate_left
      · intro w hSw; clear hSw; go_simp; (try with_reducible rfl)
      simp only [Act.put, List.setIfInBounds_toArray, List.set_cons_zero, List.set_cons_succ]
      refine rg_take 15 (v := ?_) rfl (by kernel_rfl) (fun _ _ _ h => h) hS3 (by rfl) ?_ ?_
      rotate_left
      · intro w hSw; clear hSw; go_simp; (try with_reducible rfl)
      simp only [Act.put, List.setIfInBounds_toArray, List.set_cons_zero, List.set_cons_succ]
      refine wpAnyH_done (by kernel_rfl) ?_ _
      go_wp2_with fail
      go_ret
      exact ⟨by rw [HR.out]; rfl, HN3.out⟩
  · have HD := Lib.hid (show decide (Alike xs) = false by simp [h2])
    rw [HD.out] at HAl
    rw [if_neg h2]
    clear h2 hgc
    go_enter Try.func102, Try.ntmps102
    go_wp2_with fail
    obtain ⟨SS1, hSS⟩ : ∃ S : World → Prop, S = fun w' => Know w.heap.size #[.int .i64 g, .int .i64 c] w' := ⟨_, rfl⟩
    have HSI1 := Lib.hid (fun w' (h : Know w.heap.size #[.int .i64 g, .int .i64 c] w') => (by rw [hSS]; exact h : SS1 w'))
    have HSO1 := Lib.hid (fun w' (h : SS1 w') => (by rw [hSS] at h; exact h : Know w.heap.size #[.int .i64 g, .int .i64 c] w'))
    clear hSS
    have hS0 := HSI1.out (w.alloc (.cells #[.int .i64 g, .int .i64 c] 105)).drew (Know.of HB0'.out)
    refine rg_start SS1 (by kernel_rfl) hS0 ?_
    refine rg_take 0 (v := ?_) rfl (by kernel_rfl) (fun _ _ _ h => h) hS0 (by rfl) ?_ ?_
    rotate_left
    · intro w hSw; clear hSw; go_simp; (try with_reducible rfl)
    simp only [Act.put, List.setIfInBounds_toArray, List.set_cons_zero, List.set_cons_succ]
    refine rg_call 1 rfl (by kernel_rfl) (fun K hK => ?_)
    go_simp
    go_at_call 93
    refine HAl.out.mono ?_; rintro e w1 ⟨rfl, hc1⟩
    have HB1 := Lib.hid (hc1.keep0 HB0'.out); have HN1 := Lib.hid (HC0.out.trans0 hc1); clear hc1
    go_wp2_with fail
    refine hK.out _ _ (HSI1.out _ (Know.of HB1.out)) (fun hS1 => ?_)
    clear hK K
    try simp only [Act.put, List.setIfInBounds_toArray, List.set_cons_zero, List.set_cons_succ]
    refine rg_take 2 (v := ?_) rfl (by kernel_rfl) (fun _ _ _ h => h) hS1 (by rfl) ?_ ?_
    rotate_left
    · intro w hSw; clear hSw; go_simp; (try with_reducible rfl)
    simp only [Act.put, List.setIfInBounds_toArray, List.set_cons_zero, List.set_cons_succ]
    refine rg_skip 3 rfl (by kernel_rfl) (fun _ _ _ h => h) hS1 (by rfl) ?_
    simp only [Act.put, List.setIfInBounds_toArray, List.set_cons_zero, List.set_cons_succ]
    refine rg_skip 4 rfl (by kernel_rfl) (fun _ _ _ h => h) hS1 (by rfl) ?_
    simp only [Act.put, List.setIfInBounds_toArray, List.set_cons_zero, List.set_cons_succ]
    refine rg_skip 5 rfl (by kernel_rfl) (fun _ _ _ h => h) hS1 (by rfl) ?_
    simp only [Act.put, List.setIfInBounds_toArray, List.set_cons_zero, List.set_cons_succ]
    refine rg_skip 6 rfl (by kernel_rfl) (fun _ _ _ h => h) hS1 (by rfl) ?_
    simp only [Act.put, List.setIfInBounds_toArray, List.set_cons_zero, List.set_cons_succ]
    refine rg_skip 7 rfl (by kernel_rfl) (fun _ _ _ h => h) hS1 (by rfl) ?_
    simp only [Act.put, List.setIfInBounds_toArray, List.set_cons_zero, List.set_cons_succ]
    refine rg_skip 8 rfl (by kernel_rfl) (fun _ _ _ h => h) hS1 (by rfl) ?_
    simp only [Act.put, List.setIfInBounds_toArray, List.set_cons_zero, List.set_cons_succ]
    refine rg_skip 9 rfl (by kernel_rfl) (fun _ _ _ h => h) hS1 (by rfl) ?_
    simp only [Act.put, List.setIfInBounds_toArray, List.set_cons_zero, List.set_cons_succ]
    refine rg_skip 10 rfl (by kernel_rfl) (fun _ _ _ h => h) hS1 (by rfl) ?_
    simp only [Act.put, List.setIfInBounds_toArray, List.set_cons_zero, List.set_cons_succ]
    refine rg_skip 11 rfl (by kernel_rfl) (fun _ _ _ h => h) hS1 (by rfl) ?_
    simp only [Act.put, List.setIfInBounds_toArray, List.set_cons_zero, List.set_cons_succ]
    refine rg_skip 12 rfl (by kernel_rfl) (fun _ _ _ h => h) hS1 (by rfl) ?_
    simp only [Act.put, List.setIfInBounds_toArray, List.set_cons_zero, List.set_cons_succ]
    refine rg_skip 13 rfl (by kernel_rfl) (fun _ _ _ h => h) hS1 (by rfl) ?_
    simp only [Act.put, List.setIfInBounds_toArray, List.set_cons_zero, List.set_cons_succ]
    refine rg_take 14 (v := ?_) rfl (by kernel_rfl) (fun _ _ _ h => h) hS1 (by rfl) ?_ ?_
    rotate_left
    · intro w hSw; clear hSw; go_simp; (try with_reducible rfl)
    simp only [Act.put, List.setIfInBounds_toArray, List.set_cons_zero, List.set_cons_succ]
    refine rg_take 15 (v := ?_) rfl (by kernel_rfl) (fun _ _ _ h => h) hS1 (by rfl) ?_ ?_
    rotate_left
    · intro w hSw; clear hSw; go_simp; (try with_reducible rfl)
    simp only [Act.put, List.setIfInBounds_toArray, List.set_cons_zero, List.set_cons_succ]
    refine wpAnyH_done (by kernel_rfl) ?_ _
    go_wp2_with fail
    go_ret
    exact ⟨rfl, HN1.out⟩

theorem fitsV_mid {xs : List (List UInt8)} {g c n0 : Nat} (h1 : inB c 0 2 = true) (h2 : (inB g 1 4 && inB c 0 2) = true) (hl : xs.length = g + c) (hn : (xs.headD []).length = n0) :
    fitsV xs c = if Alike xs then sameV (parL (xs.take g) n0 c) (xs.drop g) else false := by
  unfold fitsV
  have e1 : ((xs.length : Int) - (c : Int)) = (g : Int) := by omega
  have e2 : xs.length - (c : Int).toNat = g := by omega
  have e3 : (c : Int).toNat = c := by omega
  rw [if_neg (by rw [h1]; simp), e1, if_neg (by rw [h2]; simp), e2, e3, hn]
  by_cases h : Alike xs
  · rw [if_neg (fun h' => h' h), if_pos h]
  · rw [if_pos h, if_neg h]

set_option maxRecDepth 100000 in
set_option maxHeartbeats 1000000 in
theorem impl_fits {zs : List (List UInt8)} (hz : ∀ x ∈ zs, x.length ≤ 1048576) (a : Option Addr) (la ca : Nat) (_ : List (List UInt8)) (f : List Nat) (c : Int) (hc : i64ok c) (w : World) (ha : byteL.slice.sl w a la ca zs f) :
    Calls Try.prog 51 #[.slice a la ca, .int .i64 c] w fun e w' => e = .returned (.bool (fitsV zs c)) ∧ Chg [] w w' := by
  have hla := byteL.slice.sl_max ha
  have HA := Lib.hid ha
  have HL := Lib.hid ha.1
  clear ha
  have HIN := Lib.hid (inside_any c 0 2)
  cases h1 : inB c 0 2
  · have HR := Lib.hid (show fitsV zs c = false by rw [fitsV, if_pos h1])
    rw [h1] at HIN
    clear h1
    go_enter Try.func51, Try.ntmps51
    go_wp2_with fail
    refine (HIN.out _).mono ?_; rintro e w' ⟨rfl, rfl⟩
    go_wp2_with fail
    go_ret
    exact ⟨by rw [HR.out]; rfl, Chg.refl _ _⟩
  · rw [h1] at HIN
    obtain ⟨hb5, hb6⟩ := inB_true h1
    obtain ⟨cn, rfl⟩ := Int.eq_ofNat_of_zero_le hb5
    have HOK := Lib.hid (colOk_any ((la : Int) - cn) cn)
    cases h2 : (inB ((la : Int) - cn) 1 4 && inB cn 0 2)
    · have HR := Lib.hid (show fitsV zs cn = false by rw [fitsV, if_neg (by rw [h1]; simp), if_pos (by rw [← HL.out]; exact h2)])
      rw [h2] at HOK
      clear h1 h2
      go_enter Try.func51, Try.ntmps51
      go_wp2_with fail
      refine (HIN.out _).mono ?_; rintro e w' ⟨rfl, rfl⟩
      go_wp2_with fail
      refine (sizeL_any a la ca _ (by omega)).mono ?_; rintro e w' ⟨rfl, rfl⟩
      go_wp2_with fail
      refine (HOK.out _).mono ?_; rintro e w' ⟨rfl, rfl⟩
      go_wp2_with fail
      go_ret
      exact ⟨by rw [HR.out]; rfl, by repeat (first | exact Chg.refl _ _ | refine Chg.alloc ?_ _)⟩
    · obtain ⟨hb1, -⟩ := Bool.and_eq_true_iff.1 h2
      obtain ⟨hb3, hb4⟩ := inB_true hb1
      obtain ⟨g, hg⟩ : ∃ g : Nat, (la : Int) - cn = g := ⟨la - cn, by omega⟩
      rw [hg] at HOK h2
      have hsub : (la : Int) - cn = g := hg
      have h0 : 0 < la := by omega
      have HHD := Lib.hid (show (zs.headD []).length ≤ 1048576 by
        cases zs with
        | nil => simp
        | cons z zs => exact hz z (by simp))
      have HM := Lib.hid (fitsV_mid (xs := zs) (g := g) (c := cn) (n0 := (zs.headD []).length) h1 h2 (by have := HL.out; omega) rfl)
      rw [h2] at HOK
      rw [HM.out]
      obtain ⟨n0, hn0⟩ : ∃ n0, n0 = (zs.headD []).length := ⟨_, rfl⟩
      rw [← hn0] at HHD ⊢
      have HN0 := Lib.hid hn0.symm
      have hn1 : n0 ≤ 1048576 := HHD.out
      have HF := Lib.hid (fun w' (h : Chg [] w w') => fits_any a la ca g cn n0 zs f w' (byteL.slice.sl_ext HA.out h) (by omega) (by omega) (by omega) (by omega) (by omega) HN0)
      have hg1 : 1 ≤ g := by omega
      have hg4 : g ≤ 4 := by omega
      clear h1 h2 hb1 hb3 hb4 hn0 hg HM
      generalize (if Alike zs then sameV (parL (zs.take g) n0 cn) (zs.drop g) else false) = r at HF ⊢
      go_enter Try.func51, Try.ntmps51
      go_wp2_with fail
      refine (HIN.out _).mono ?_; rintro e w' ⟨rfl, rfl⟩
      go_wp2_with fail
      refine (sizeL_any a la ca _ (by omega)).mono ?_; rintro e w' ⟨rfl, rfl⟩
      go_wp2_with fail
      refine (HOK.out _).mono ?_; rintro e w' ⟨rfl, rfl⟩
      go_wp2_with fail
      refine (HF.out _ (by repeat (first | exact Chg.refl _ _ | refine Chg.alloc ?_ _))).mono ?_; rintro e w5 ⟨rfl, hc5⟩
      have HN := Lib.hid ((((Chg.refl [] w).alloc _).alloc _).trans0 hc5); clear hc5
      go_wp2_with fail
      go_ret
      exact ⟨rfl, HN.out⟩

set_option maxRecDepth 100000 in
set_option maxHeartbeats 1000000 in
theorem spec_fits {zs : List (List UInt8)} (hz : ∀ x ∈ zs, x.length ≤ 1048576) (a : Option Addr) (la ca : Nat) (_ : List (List UInt8)) (f : List Nat) (c : Int) (hc : i64ok c) (w : World) (ha : byteL.slice.sl w a la ca zs f) :
    Calls Try.prog 50 #[.slice a la ca, .int .i64 c] w fun e w' => e = .returned (.bool (fitsV zs c)) ∧ Chg [] w w' := by
  have hla := byteL.slice.sl_max ha
  have HA := Lib.hid ha
  have HL := Lib.hid ha.1
  have hlc := ha.2.1
  have hcm := ha.2.2.1
  clear ha
  have HMM := Lib.hid (show ca ≤ 9223372036854775807 from hcm)
  clear hcm
  have hcm : ca ≤ 9223372036854775807 := HMM.out
  have HIN := Lib.hid (l1In_any c 0 2)
  cases h1 : inB c 0 2
  · have HR := Lib.hid (show fitsV zs c = false by rw [fitsV, if_pos h1])
    rw [h1] at HIN
    clear h1
    go_enter Try.func50, Try.ntmps50
    go_wp2_with fail
    refine (HIN.out _).mono ?_; rintro e w' ⟨rfl, rfl⟩
    go_wp2_with fail
    go_ret
    exact ⟨by rw [HR.out]; rfl, Chg.refl _ _⟩
  · rw [h1] at HIN
    obtain ⟨hb5, hb6⟩ := inB_true h1
    obtain ⟨cn, rfl⟩ := Int.eq_ofNat_of_zero_le hb5
    have HOK := Lib.hid (l3Shape_any ((la : Int) - cn) cn)
    cases h2 : (inB ((la : Int) - cn) 1 4 && inB cn 0 2)
    · have HR := Lib.hid (show fitsV zs cn = false by rw [fitsV, if_neg (by rw [h1]; simp), if_pos (by rw [← HL.out]; exact h2)])
      rw [h2] at HOK
      clear h1 h2
      go_enter Try.func50, Try.ntmps50
      go_wp2_with fail
      refine (HIN.out _).mono ?_; rintro e w' ⟨rfl, rfl⟩
      go_wp2_with fail
      refine (HOK.out _).mono ?_; rintro e w' ⟨rfl, rfl⟩
      go_wp2_with fail
      go_ret
      exact ⟨by rw [HR.out]; rfl, Chg.refl _ _⟩
    · obtain ⟨hb1, -⟩ := Bool.and_eq_true_iff.1 h2
      obtain ⟨hb3, hb4⟩ := inB_true hb1
      obtain ⟨g, hg⟩ : ∃ g : Nat, (la : Int) - cn = g := ⟨la - cn, by omega⟩
      rw [hg] at HOK h2
      have hsub : (la : Int) - cn = g := hg
      have h0 : 0 < la := by omega
      have HHD := Lib.hid (show (zs.headD []).length ≤ 1048576 by
        cases zs with
        | nil => simp
        | cons z zs => exact hz z (by simp))
      have HM := Lib.hid (fitsV_mid (xs := zs) (g := g) (c := cn) (n0 := (zs.headD []).length) h1 h2 (by have := HL.out; omega) rfl)
      rw [h2] at HOK
      rw [HM.out]
      obtain ⟨n0, hn0⟩ : ∃ n0, n0 = (zs.headD []).length := ⟨_, rfl⟩
      rw [← hn0] at HHD ⊢
      have HN0 := Lib.hid hn0.symm
      have hn1 : n0 ≤ 1048576 := HHD.out
      have hg1 : 1 ≤ g := by omega
      have hg4 : g ≤ 4 := by omega
      have hle : ((g : Int) ≤ (ca : Int)) := by omega
      have HGC := Lib.hid (show la = g + cn by omega)
      have HEV := Lib.hid (l3Even_any a la ca zs f w HA.out h0)
      by_cases hal : Alike zs
      · have HD := Lib.hid (show decide (Alike zs) = true by simp [hal])
        have HAll := Lib.hid (show ∀ x ∈ zs, x.length = n0 from fun x hx => by rw [hal x hx, HN0.out])
        rw [HD.out] at HEV
        rw [if_pos hal]
        obtain ⟨f1, hf1, hs1⟩ := byteL.slice.sl_take HA.out (n := g) (by omega)
        have HT := Lib.hid hs1
        have HAT := Lib.hid (Alike.take (g := g) HAll.out)
        have HPL := Lib.hid (parL_length (zs.take g) n0 cn)
        have HDL := Lib.hid (fun (j : Nat) => (List.getElem?_drop (xs := zs) (i := g) (j := j)))
        clear h1 h2 hb1 hb3 hb4 hn0 hg HM hal hs1 hf1
        obtain ⟨ps, hps⟩ : ∃ ps, ps = parL (zs.take g) n0 cn := ⟨_, rfl⟩
        rw [← hps] at HPL ⊢
        have HPS := Lib.hid hps
        clear hps
        go_enter Try.func50, Try.ntmps50
        go_wp2_with fail
        refine (HIN.out _).mono ?_; rintro e w' ⟨rfl, rfl⟩
        go_wp2_with fail
        refine (HOK.out _).mono ?_; rintro e w' ⟨rfl, rfl⟩
        go_wp2_with fail
        refine HEV.out.mono ?_; rintro e w1 ⟨rfl, hc1⟩
        have HC1 := Lib.hid hc1; clear hc1
        go_wp2_with fail
        refine (l3Encode_any a g ca n0 cn _ f1 w1 (byteL.slice.sl_ext HT.out HC1.out) hg1 hg4 (by omega) (by omega) HAT).mono ?_
        rintro e w2 ⟨a2, c2, fp2, rfl, hs2, hf2, hc2⟩
        rw [← HPS.out] at hs2 ⊢
        rw [HPL.out] at hs2 ⊢
        have HS2 := Lib.hid hs2; have HC2 := Lib.hid (HC1.out.trans0 hc2)
        clear hs2 hf2 hc2
        go_wp2_with fail
        go_loopw [7] (fun vj wr => ∃ (j : Nat) (Wr : World), Wr = wr ∧ j ≤ cn ∧ vj = .int .i64 j ∧ RowKit.Hid (ps.take j = (zs.drop g).take j) ∧ Chg [] w2 wr) (fun vj _ => cn - (intOf vj).toNat)
        case atStart => exact ⟨0, _, rfl, by omega, rfl, Lib.hid rfl, Chg.refl _ _⟩
        case round =>
          obtain ⟨j, wr, rfl, hj, rfl, HK, hcr⟩ := hrel
          have HCR := Lib.hid hcr
          clear hcr
          by_cases hlt : j < cn
          · have hgj : g + j < la := by have := HGC.out; omega
            obtain ⟨x, b1, o1, A, lx, C, fx, HX, rfl, hcx, HXS⟩ := slc_at (byteL.slice.sl_ext HA.out (HC2.out.trans0 HCR.out)) hgj
            obtain ⟨y, b2, o2, A2, ly, C2, f2, HY, rfl, hcy, HYS⟩ := slc_at (byteL.slice.sl_ext HS2.out HCR.out) hlt
            have HX2 := Lib.hid (show (zs.drop g)[j]? = some x by rw [HDL.out]; exact HX.out.1)
            have hmx := byteL.sl_max HXS.out
            have hmy := byteL.sl_max HYS.out
            have hb1 := byteL.slice.sl_lt (byteL.slice.sl_ext HA.out (HC2.out.trans0 HCR.out)) _ HX.out.2.1
            have hb2 := byteL.slice.sl_lt (byteL.slice.sl_ext HS2.out HCR.out) _ HY.out.2.1
            have HE := Lib.hid (l2Same_any A A2 lx C ly C2 x y fx f2 wr.drew (byteL.sl_ext HXS.out (Chg.refl [] wr).drew) (byteL.sl_ext HYS.out (Chg.refl [] wr).drew))
            have HCX := Lib.hid hcx; have HCY := Lib.hid hcy
            have hwr : IntKind.i64.wrap ((g : Int) + (j : Int)) = (g : Int) + (j : Int) := IntWalk.i64_in _ (by omega)
            have hto : ((g : Int) + (j : Int)).toNat = g + j := by omega
            have hlo : 0 ≤ (g : Int) + (j : Int) := by omega
            have hhi : (g : Int) + (j : Int) < (la : Int) := by omega
            obtain ⟨bl, hbl⟩ : ∃ bl, bl = sameV x y := ⟨_, rfl⟩
            rw [← hbl] at HE
            have HBL := Lib.hid hbl
            clear hbl hcx hcy
            go_wp2_with fail
            obtain ⟨SS1, hSS⟩ : ∃ S : World → Prop, S = fun w' => w'.cell? ⟨b1, o1 + (g + j), none⟩ = some (.slice A lx C) ∧ w'.cell? ⟨b2, o2 + j, none⟩ = some (.slice A2 ly C2) := ⟨_, rfl⟩
            have HSI1 := Lib.hid (fun w' (h : w'.cell? ⟨b1, o1 + (g + j), none⟩ = some (.slice A lx C) ∧ w'.cell? ⟨b2, o2 + j, none⟩ = some (.slice A2 ly C2)) => (by rw [hSS]; exact h : SS1 w'))
            have HSO1 := Lib.hid (fun w' (h : SS1 w') => (by rw [hSS] at h; exact h : w'.cell? ⟨b1, o1 + (g + j), none⟩ = some (.slice A lx C) ∧ w'.cell? ⟨b2, o2 + j, none⟩ = some (.slice A2 ly C2)))
            clear hSS
            have hS0 := HSI1.out wr.drew ⟨HCX.out, HCY.out⟩
            refine rg_start SS1 (by kernel_rfl) hS0 ?_
            refine rg_take 0 (v := ?_) rfl (by kernel_rfl) (fun _ _ _ h => h) hS0 (by rfl) ?_ ?_
            rotate_left
            · intro w hSw; clear hSw; go_simp; (try with_reducible rfl)
            simp only [Act.put, List.setIfInBounds_toArray, List.set_cons_zero, List.set_cons_succ]
            refine rg_take 1 (v := ?_) rfl (by kernel_rfl) (fun _ _ _ h => h) hS0 (by rfl) ?_ ?_
            rotate_left
            · intro w hSw; clear hSw; go_simp; (try with_reducible rfl)
            simp only [Act.put, List.setIfInBounds_toArray, List.set_cons_zero, List.set_cons_succ]
            refine rg_take 2 (v := ?_) rfl (by kernel_rfl) (fun _ _ _ h => h) hS0 (by rfl) ?_ ?_
            rotate_left
            · intro w hSw; clear hSw; go_simp; (try with_reducible rfl)
            simp only [Act.put, List.setIfInBounds_toArray, List.set_cons_zero, List.set_cons_succ]
            refine rg_take 3 (v := ?_) rfl (by kernel_rfl) (fun _ _ _ h => h) hS0 (by rfl) ?_ ?_
            rotate_left
            · intro w hSw; clear hSw; go_simp; (try with_reducible rfl)
            simp only [Act.put, List.setIfInBounds_toArray, List.set_cons_zero, List.set_cons_succ]
            refine rg_take 4 (v := ?_) rfl (by kernel_rfl) (fun _ _ _ h => h) hS0 (by rfl) ?_ ?_
            rotate_left
            · intro w hSw; clear hSw; go_simp; (try with_reducible rfl)
            simp only [Act.put, List.setIfInBounds_toArray, List.set_cons_zero, List.set_cons_succ]
            refine rg_take 5 (v := ?_) rfl (by kernel_rfl) (fun _ _ _ h => h) hS0 (by rfl) ?_ ?_
            rotate_left
            · intro w hSw; obtain ⟨k0, k1⟩ := HSO1.out w hSw; (try unfold Know at k0 k1); go_simp; (try with_reducible rfl)
            simp only [Act.put, List.setIfInBounds_toArray, List.set_cons_zero, List.set_cons_succ]
            refine rg_take 6 (v := ?_) rfl (by kernel_rfl) (fun _ _ _ h => h) hS0 (by rfl) ?_ ?_
            rotate_left
            · intro w hSw; clear hSw; go_simp; (try with_reducible rfl)
            simp only [Act.put, List.setIfInBounds_toArray, List.set_cons_zero, List.set_cons_succ]
            refine rg_take 7 (v := ?_) rfl (by kernel_rfl) (fun _ _ _ h => h) hS0 (by rfl) ?_ ?_
            rotate_left
            · intro w hSw; clear hSw; go_simp; (try with_reducible rfl)
            simp only [Act.put, List.setIfInBounds_toArray, List.set_cons_zero, List.set_cons_succ]
            refine rg_take 8 (v := ?_) rfl (by kernel_rfl) (fun _ _ _ h => h) hS0 (by rfl) ?_ ?_
            rotate_left
            · intro w hSw; clear hSw; go_simp; (try with_reducible rfl)
            simp only [Act.put, List.setIfInBounds_toArray, List.set_cons_zero, List.set_cons_succ]
            refine rg_take 9 (v := ?_) rfl (by kernel_rfl) (fun _ _ _ h => h) hS0 (by rfl) ?_ ?_
            rotate_left
            · intro w hSw; obtain ⟨k0, k1⟩ := HSO1.out w hSw; (try unfold Know at k0 k1); go_simp; (try with_reducible rfl)
            simp only [Act.put, List.setIfInBounds_toArray, List.set_cons_zero, List.set_cons_succ]
            refine rg_call 10 rfl (by kernel_rfl) (fun K hK => ?_)
            go_simp
            go_at_call 70
            refine HE.out.mono ?_; rintro e w3 ⟨rfl, hc3⟩
            have HN3 := Lib.hid (HCR.out.drew.trans0 hc3); have HCX3 := Lib.hid (cellKeep hc3 (show wr.drew.cell? _ = _ from HCX.out) hb1); have HCY3 := Lib.hid (cellKeep hc3 (show wr.drew.cell? _ = _ from HCY.out) hb2); clear hc3
            go_wp2_with fail
            refine hK.out _ _ (HSI1.out _ ⟨HCX3.out, HCY3.out⟩) (fun hS1 => ?_)
            clear hK K
            try simp only [Act.put, List.setIfInBounds_toArray, List.set_cons_zero, List.set_cons_succ]
            refine rg_take 11 (v := ?_) rfl (by kernel_rfl) (fun _ _ _ h => h) hS1 (by rfl) ?_ ?_
            rotate_left
            · intro w hSw; clear hSw; go_simp; (try with_reducible rfl)
            simp only [Act.put, List.setIfInBounds_toArray, List.set_cons_zero, List.set_cons_succ]
            refine wpAnyH_done (by kernel_rfl) ?_ _
            cases bl
            · have HR := Lib.hid (sameV_false (take_ne HY.out.1 HX2.out (fun e => by have := HBL.out; rw [sameV_true e.symm] at this; cases this)))
              go_wp2_with fail
              go_ret
              exact ⟨by rw [HR.out]; rfl, HC2.out.trans0 HN3.out⟩
            · have hxy : x = y := by
                by_cases e : x = y
                · exact e
                · have := HBL.out; rw [sameV_false e] at this; cases this
              have HK2 := Lib.hid (show ps.take (j + 1) = (zs.drop g).take (j + 1) by rw [take_next HY.out.1, take_next HX2.out, HK.out, hxy])
              clear hxy
              go_wp2_with fail
              go_roundw
              case rel => exact ⟨j + 1, _, rfl, by omega, by go_num, HK2, HN3.out⟩
              case measure => simp [intOf]; omega
          · obtain rfl : j = cn := by omega
            have HR := Lib.hid (sameV_true (show ps = zs.drop g by have := HK.out; rwa [List.take_of_length_le (by have := HPL.out; omega), List.take_of_length_le (by rw [List.length_drop]; have := HL.out; have := HGC.out; omega)] at this))
            go_wp2_with fail
            go_ret
            exact ⟨by rw [HR.out]; rfl, HC2.out.trans0 HCR.out⟩
      · have HD := Lib.hid (show decide (Alike zs) = false by simp [hal])
        rw [HD.out] at HEV
        rw [if_neg hal]
        clear h1 h2 hb1 hb3 hb4 hn0 hg HM hal
        go_enter Try.func50, Try.ntmps50
        go_wp2_with fail
        refine (HIN.out _).mono ?_; rintro e w' ⟨rfl, rfl⟩
        go_wp2_with fail
        refine (HOK.out _).mono ?_; rintro e w' ⟨rfl, rfl⟩
        go_wp2_with fail
        refine HEV.out.mono ?_; rintro e w1 ⟨rfl, hc1⟩
        have HC1 := Lib.hid hc1; clear hc1
        go_wp2_with fail
        go_ret
        exact ⟨rfl, HC1.out⟩
end Go.Proofs.Ytlnclkjmlpipgaa
