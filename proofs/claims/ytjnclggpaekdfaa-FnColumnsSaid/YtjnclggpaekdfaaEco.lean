
/- The program's and the reference's EncodeColumn. -/
import Derived.Test.YtjnclggpaekdfaaPar
import Derived.Test.YtjnclggpaekdfaaShape
namespace Go.Proofs.Ytjnclggpaekdfaa
open Go.RowKit

theorem sizeL_any (a : Option Addr) (la ca : Nat) (w : World) (_hm : la ≤ 9223372036854775807) :
    Calls Try.prog 32 #[.slice a la ca] w fun e w' => e = .returned (.int .i64 (la : Int)) ∧ w = w' := by
  go_enter Try.func32, Try.ntmps32
  go_wp2
  go_ret
  exact ⟨rfl, rfl⟩

theorem alike_not {xs : List (List UInt8)} {k n0 : Nat} {x x0 : List UInt8} (h0 : xs[0]? = some x0) (hn : x0.length = n0) (hx : xs[k]? = some x) (h : ¬ x.length = n0) : ¬ Alike xs := fun ha => h (by rw [ha x (List.mem_of_getElem? hx), headD_at h0, hn])
theorem alike_of {xs : List (List UInt8)} {n0 la : Nat} {x0 : List UInt8} (h0 : xs[0]? = some x0) (hn : x0.length = n0) (hl : la = xs.length) (h : ∀ (j : Nat) x, j < la → xs[j]? = some x → x.length = n0) : Alike xs := by
  intro x hx
  obtain ⟨j, hj, e⟩ := List.getElem_of_mem hx
  rw [headD_at h0, hn]
  exact h j x (by omega) (by rw [List.getElem?_eq_getElem hj, e])

set_option maxRecDepth 100000 in
set_option maxHeartbeats 1000000 in
theorem l3Even_any (a : Option Addr) (la ca : Nat) (xs : List (List UInt8)) (f : List Nat) (w : World) (ha : byteL.slice.sl w a la ca xs f) (h0 : 0 < la) :
    Calls Try.prog 37 #[.slice a la ca] w fun e w' => e = .returned (.bool (decide (Alike xs))) ∧ Chg [] w w' := by
  have hla := byteL.slice.sl_max ha
  have HA := Lib.hid ha
  have HL := Lib.hid ha.1
  clear ha
  obtain ⟨x0, b0, o0, A0, n0, C0, f0, HX0, rfl, hc0, HXS0⟩ := slc_at HA.out h0
  have HH := Lib.hid (And.intro HX0.out.1 HXS0.out.1.symm)
  have hmn := byteL.sl_max HXS0.out
  clear hc0 HX0 HXS0
  go_enter Try.func37, Try.ntmps37
  go_wp2_with fail
  go_loopw [3] (fun i wr => ∃ k : Nat, k ≤ la ∧ i = .int .i64 k ∧ Chg [] w wr ∧ RowKit.Hid (∀ (j : Nat) x, j < k → xs[j]? = some x → x.length = n0)) (fun i _ => la - (intOf i).toNat)
  case atStart => exact ⟨0, by omega, rfl, Chg.refl _ _, fun j x hj => by omega⟩
  case round =>
    obtain ⟨k, hk, rfl, hc, HK⟩ := hrel
    rename_i wr
    have HC := Lib.hid hc
    clear hc
    by_cases hlt : k < la
    · obtain ⟨x0', b0', o0', A0', n0', C0', f0', HX0, e0, hcw, HXS0⟩ := slc_at (byteL.slice.sl_ext HA.out HC.out) h0
      obtain ⟨rfl, rfl⟩ : b0 = b0' ∧ o0 = o0' := by simpa using e0
      obtain rfl : n0' = n0 := by rw [HXS0.out.1, Option.some.inj (HX0.out.1.symm.trans HH.out.1), HH.out.2]
      have hcw' : wr.cell? ⟨b0, o0, none⟩ = some (.slice A0' n0' C0') := hcw
      clear hcw e0 HX0 HXS0
      obtain ⟨x, bx, ox, A, lx, C, fx, HX, ex, hcx, HXS⟩ := slc_at (byteL.slice.sl_ext HA.out HC.out) hlt
      obtain ⟨rfl, rfl⟩ : b0 = bx ∧ o0 = ox := by simpa using ex
      have hmx := byteL.sl_max HXS.out
      clear ex
      by_cases heq : lx = n0'
      · have HK2 := Lib.hid (show ∀ (j : Nat) y, j < k + 1 → xs[j]? = some y → y.length = n0' from fun j y hj hy => by
          by_cases e : j = k
          · subst e; have h1 := Option.some.inj (hy.symm.trans HX.out.1); rw [h1, ← HXS.out.1, heq]
          · exact HK.out j y (by omega) hy)
        subst heq
        have hxx : ((lx : Int) != (lx : Int)) = false := by simp
        go_wp2_with fail
        go_region
        all_goals
          go_wp2
          go_roundw
          case rel => exact ⟨k + 1, by omega, by go_num, HC.out.drew, HK2⟩
          case measure => simp [intOf]; omega
      · have hxx : ((lx : Int) != (n0' : Int)) = true := by rw [bne_iff_ne]; omega
        have HR := Lib.hid (show decide (Alike xs) = false by rw [decide_eq_false_iff_not]; exact alike_not HH.out.1 HH.out.2 HX.out.1 (by rw [← HXS.out.1]; exact heq))
        clear heq
        go_wp2_with fail
        go_region
        all_goals
          go_wp2_with fail
          go_ret
          exact ⟨by rw [HR.out]; rfl, HC.out.drew⟩
    · obtain rfl : k = la := by omega
      have HR := Lib.hid (show decide (Alike xs) = true by rw [decide_eq_true_iff]; exact alike_of HH.out.1 HH.out.2 HL.out HK.out)
      go_wp2_with fail
      go_ret
      exact ⟨by rw [HR.out]; rfl, HC.out⟩

def encRes (xs : List (List UInt8)) (c : Int) : Int × List (List UInt8) :=
  if (inB xs.length 1 4 && inB c 0 2) = false then (3, []) else if ¬ Alike xs then (1, []) else if 4000 < (xs.headD []).length then (2, []) else (0, parL xs (xs.headD []).length c.toNat)

set_option maxRecDepth 100000 in
set_option maxHeartbeats 1000000 in
theorem impl_encode (a : Option Addr) (la ca : Nat) (c : Int) (xs : List (List UInt8)) (f : List Nat) (w : World) (ha : byteL.slice.sl w a la ca xs f) :
    Calls Try.prog 8 #[.slice a la ca, .int .i64 c] w (NewRes byteL.slice (encRes xs c) w) := by
  have hla := byteL.slice.sl_max ha
  have HA := Lib.hid ha
  have HL := Lib.hid ha.1
  clear ha
  cases h1 : (inB la 1 4 && inB c 0 2)
  · have HR := Lib.hid (show encRes xs c = (3, []) by rw [encRes, if_pos (by rw [← HL.out, h1])])
    have HOK := Lib.hid (colOk_any la c)
    rw [h1] at HOK
    clear h1
    go_enter Try.func8, Try.ntmps8
    go_wp2_with fail
    refine (sizeL_any a la ca _ (by omega)).mono ?_; rintro e w' ⟨rfl, rfl⟩
    go_wp2_with fail
    refine (HOK.out _).mono ?_; rintro e w' ⟨rfl, rfl⟩
    go_wp2_with fail
    refine bodyPost_ret (v := .agg #[.int .i64 3, .slice none 0 0]) (by simp [results, Try.results8, go_sem]) rfl ?_
    exact NewRes.code byteL.slice HR.out (by repeat (first | exact HC4w.out | exact Chg.refl _ _ | refine Chg.alloc ?_ _ | refine Chg.setCell ?_ _ _ (.inr (by simp <;> omega)) | refine Chg.drew ?_))
  · obtain ⟨hb1, hb2⟩ := Bool.and_eq_true_iff.1 h1
    obtain ⟨hb3, hb4⟩ := inB_true hb1
    obtain ⟨hb5, hb6⟩ := inB_true hb2
    obtain ⟨cn, rfl⟩ := Int.eq_ofNat_of_zero_le hb5
    have HM := Lib.hid (show encRes xs cn = if ¬ Alike xs then (1, []) else if 4000 < (xs.headD []).length then (2, []) else (0, parL xs (xs.headD []).length cn) by rw [encRes, if_neg (by rw [← HL.out, h1]; simp)]; rfl)
    have HOK := Lib.hid (colOk_any la cn)
    rw [h1] at HOK
    have h0 : 0 < la := by omega
    clear h1 hb1 hb2
    obtain ⟨x0, b0, o0, A0, n0, C0, f0, HX0, rfl, hc0, HXS0⟩ := slc_at HA.out h0
    have hc0' : w.cell? ⟨b0, o0, none⟩ = some (.slice A0 n0 C0) := hc0
    have lb0 : b0 < w.heap.size := byteL.slice.sl_lt HA.out _ HX0.out.2.1
    have HH := Lib.hid (And.intro HX0.out.1 HXS0.out.1.symm)
    have HHD := Lib.hid (headD_at HH.out.1)
    have hmn := byteL.sl_max HXS0.out
    clear hc0 HX0 HXS0
    obtain ⟨w3, hw3⟩ : ∃ w3, w3 = ((w.alloc (.cells #[.int .i64 0, .slice none 0 0] 28)).alloc (.cells #[.int .i64 la, .int .i64 cn] 57)).alloc (.cells #[.int .i64 la, .int .i64 cn] 57) := ⟨_, rfl⟩
    have hc3 : Chg [] w w3 := by rw [hw3]; exact (((Chg.refl [] w).alloc _).alloc _).alloc _
    have HAl := Lib.hid (alike_any (some ⟨b0, o0, none⟩) la ca xs f w3 (byteL.slice.sl_ext HA.out hc3) h0)
    rw [hw3] at HAl
    have HC3 := Lib.hid (hw3 ▸ hc3)
    clear hc3 hw3 w3
    by_cases h2 : Alike xs
    · have HD := Lib.hid (show decide (Alike xs) = true by simp [h2])
      rw [HD.out] at HAl
      by_cases h3 : 4000 < n0
      · have HR := Lib.hid (show encRes xs cn = (2, []) by rw [HM.out, if_neg (fun h => h h2), if_pos (by rw [HHD.out, HH.out.2]; exact h3)])
        have h3' : (4000 : Int) < (n0 : Int) := by omega
        clear h2 HM h3
        go_enter Try.func8, Try.ntmps8
        go_wp2_with fail
        refine (sizeL_any _ la ca _ (by omega)).mono ?_; rintro e w' ⟨rfl, rfl⟩
        go_wp2_with fail
        refine (HOK.out _).mono ?_; rintro e w' ⟨rfl, rfl⟩
        go_wp2_with fail
        refine HAl.out.mono ?_; rintro e w4 ⟨rfl, h4⟩
        have hc4 : Chg [] (w.alloc (.cells #[.int .i64 0, .slice none 0 0] 28)) w4 := by rw [← h4]; exact (((Chg.refl [] _).alloc _).alloc _).alloc _
        have hB := hc4.keep0 (new_alloc w _); have cB := cellsOf hB; have fB := freeOf hB; have lB := ltOf hB
        have hK : w4.heap[w.heap.size + 1]? = some (.cells #[.int .i64 la, .int .i64 cn] 57 (0, 0)) := by rw [← h4]; exact keep_alloc (keep_alloc (new_at (by simp) _) _) _
        have cK := cellsOf hK; have lK := ltOf hK
        have hc4w := ((Chg.refl [] w).alloc (.cells #[.int .i64 0, .slice none 0 0] 28)).trans0 hc4
        have hcx : w4.cell? ⟨b0, o0, none⟩ = some (.slice A0 n0 C0) := (hc4w.facts.1 b0 o0 lb0).trans hc0'
        have HC4 := Lib.hid hc4; have HC4w := Lib.hid hc4w
        clear h4 hc4 hB hK hc4w hc0'
        go_wp2_with fail
        refine bodyPost_ret (v := .agg #[.int .i64 2, .slice none 0 0]) (by simp [results, Try.results8, go_sem, cB]) rfl ?_
        exact NewRes.code byteL.slice HR.out (by repeat (first | exact HC4w.out | exact Chg.refl _ _ | refine Chg.alloc ?_ _ | refine Chg.setCell ?_ _ _ (.inr (by simp <;> omega)) | refine Chg.drew ?_))
      · have h3' : ¬ (4000 : Int) < (n0 : Int) := by omega
        have HR := Lib.hid (show encRes xs cn = (0, parL xs n0 cn) by rw [HM.out, if_neg (fun h => h h2), if_neg (by rw [HHD.out, HH.out.2]; omega), HHD.out, HH.out.2])
        have HAll := Lib.hid (show ∀ x ∈ xs, x.length = n0 from fun x hx => by rw [h2 x hx, HHD.out, HH.out.2])
        have hn : n0 ≤ 140737488355327 := by omega
        clear h2 HM h3
        go_enter Try.func8, Try.ntmps8
        go_wp2_with fail
        refine (sizeL_any _ la ca _ (by omega)).mono ?_; rintro e w' ⟨rfl, rfl⟩
        go_wp2_with fail
        refine (HOK.out _).mono ?_; rintro e w' ⟨rfl, rfl⟩
        go_wp2_with fail
        refine HAl.out.mono ?_; rintro e w4 ⟨rfl, h4⟩
        have hc4 : Chg [] (w.alloc (.cells #[.int .i64 0, .slice none 0 0] 28)) w4 := by rw [← h4]; exact (((Chg.refl [] _).alloc _).alloc _).alloc _
        have hB := hc4.keep0 (new_alloc w _); have cB := cellsOf hB; have fB := freeOf hB; have lB := ltOf hB
        have hK : w4.heap[w.heap.size + 1]? = some (.cells #[.int .i64 la, .int .i64 cn] 57 (0, 0)) := by rw [← h4]; exact keep_alloc (keep_alloc (new_at (by simp) _) _) _
        have cK := cellsOf hK; have lK := ltOf hK
        have hc4w := ((Chg.refl [] w).alloc (.cells #[.int .i64 0, .slice none 0 0] 28)).trans0 hc4
        have hcx : w4.cell? ⟨b0, o0, none⟩ = some (.slice A0 n0 C0) := (hc4w.facts.1 b0 o0 lb0).trans hc0'
        have HC4 := Lib.hid hc4; have HC4w := Lib.hid hc4w
        clear h4 hc4 hB hK hc4w hc0'
        go_wp2_with fail
        refine (parity_any (some ⟨b0, o0, none⟩) la ca n0 cn xs f _ (byteL.slice.sl_ext HA.out HC4w.out) (by omega) (by omega) (by omega) (by omega) HAll).mono ?_
        rintro e w1 ⟨a1, c1, f1, rfl, hs, hf, hc⟩
        clear cB fB lB
        have hs4 := HC4.out.size
        have hc4 := HC4.out.trans0 hc
        have hB := hc4.keep0 (new_alloc _ _); have cB := cellsOf hB; have fB := freeOf hB; have lB := ltOf hB
        have HN := Lib.hid (fun w2 => NewRes.storeG (w2 := w2) HR.out hs (hf.mono hs4) hc4)
        generalize (parL xs n0 cn).length = L at HN ⊢
        clear hs hf hc hB hc4 hs4
        go_wp2_with fail
        refine bodyPost_ret (v := .agg #[.int .i64 0, .slice a1 L c1]) (by simp [results, Try.results8, go_sem, cB]) rfl ?_
        exact HN.out _ ⟨_, _, rfl⟩
    · have HD := Lib.hid (show decide (Alike xs) = false by simp [h2])
      rw [HD.out] at HAl
      have HR := Lib.hid (show encRes xs cn = (1, []) by rw [HM.out, if_pos h2])
      clear h2 HM
      go_enter Try.func8, Try.ntmps8
      go_wp2_with fail
      refine (sizeL_any _ la ca _ (by omega)).mono ?_; rintro e w' ⟨rfl, rfl⟩
      go_wp2_with fail
      refine (HOK.out _).mono ?_; rintro e w' ⟨rfl, rfl⟩
      go_wp2_with fail
      refine HAl.out.mono ?_; rintro e w4 ⟨rfl, h4⟩
      have hc4 : Chg [] (w.alloc (.cells #[.int .i64 0, .slice none 0 0] 28)) w4 := by rw [← h4]; exact (((Chg.refl [] _).alloc _).alloc _).alloc _
      have hB := hc4.keep0 (new_alloc w _); have cB := cellsOf hB; have fB := freeOf hB; have lB := ltOf hB
      have hK : w4.heap[w.heap.size + 1]? = some (.cells #[.int .i64 la, .int .i64 cn] 57 (0, 0)) := by rw [← h4]; exact keep_alloc (keep_alloc (new_at (by simp) _) _) _
      have cK := cellsOf hK; have lK := ltOf hK
      have hc4w := ((Chg.refl [] w).alloc (.cells #[.int .i64 0, .slice none 0 0] 28)).trans0 hc4
      have hcx : w4.cell? ⟨b0, o0, none⟩ = some (.slice A0 n0 C0) := (hc4w.facts.1 b0 o0 lb0).trans hc0'
      have HC4 := Lib.hid hc4; have HC4w := Lib.hid hc4w
      clear h4 hc4 hB hK hc4w hc0'
      go_wp2_with fail
      refine bodyPost_ret (v := .agg #[.int .i64 1, .slice none 0 0]) (by simp [results, Try.results8, go_sem, cB]) rfl ?_
      exact NewRes.code byteL.slice HR.out (by repeat (first | exact HC4w.out | exact Chg.refl _ _ | refine Chg.alloc ?_ _ | refine Chg.setCell ?_ _ _ (.inr (by simp <;> omega)) | refine Chg.drew ?_))

set_option maxRecDepth 100000 in
set_option maxHeartbeats 1000000 in
theorem spec_encode (a : Option Addr) (la ca : Nat) (c : Int) (xs : List (List UInt8)) (f : List Nat) (w : World) (ha : byteL.slice.sl w a la ca xs f) :
    Calls Try.prog 9 #[.slice a la ca, .int .i64 c] w (NewRes byteL.slice (encRes xs c) w) := by
  have hla := byteL.slice.sl_max ha
  have HA := Lib.hid ha
  have HL := Lib.hid ha.1
  have HOK := Lib.hid (l3Shape_any la c)
  clear ha
  cases h1 : (inB la 1 4 && inB c 0 2)
  · have HR := Lib.hid (show encRes xs c = (3, []) by rw [encRes, if_pos (by rw [← HL.out, h1])])
    rw [h1] at HOK
    clear h1
    go_enter Try.func9, Try.ntmps9
    go_wp2_with fail
    refine (HOK.out _).mono ?_; rintro e w' ⟨rfl, rfl⟩
    go_wp2_with fail
    refine bodyPost_ret (v := .agg #[.int .i64 3, .slice none 0 0]) (by simp [results, Try.results9, go_sem]) rfl ?_
    exact NewRes.code byteL.slice HR.out (by repeat (first | exact Chg.refl _ _ | refine Chg.alloc ?_ _ | refine Chg.setCell ?_ _ _ (.inr (by simp)) | refine Chg.drew ?_))
  · obtain ⟨hb1, hb2⟩ := Bool.and_eq_true_iff.1 h1
    obtain ⟨hb3, hb4⟩ := inB_true hb1
    obtain ⟨hb5, hb6⟩ := inB_true hb2
    obtain ⟨cn, rfl⟩ := Int.eq_ofNat_of_zero_le hb5
    have HM := Lib.hid (show encRes xs cn = if ¬ Alike xs then (1, []) else if 4000 < (xs.headD []).length then (2, []) else (0, parL xs (xs.headD []).length cn) by rw [encRes, if_neg (by rw [← HL.out, h1]; simp)]; rfl)
    rw [h1] at HOK
    have h0 : 0 < la := by omega
    clear h1 hb1 hb2
    obtain ⟨x0, b0, o0, A0, n0, C0, f0, HX0, rfl, hc0, HXS0⟩ := slc_at HA.out h0
    have hc0' : w.cell? ⟨b0, o0, none⟩ = some (.slice A0 n0 C0) := hc0
    have lb0 : b0 < w.heap.size := byteL.slice.sl_lt HA.out _ HX0.out.2.1
    have HH := Lib.hid (And.intro HX0.out.1 HXS0.out.1.symm)
    have HHD := Lib.hid (headD_at HH.out.1)
    have hmn := byteL.sl_max HXS0.out
    clear hc0 HX0 HXS0
    have HAl := Lib.hid (l3Even_any (some ⟨b0, o0, none⟩) la ca xs f (w.alloc (.cells #[.int .i64 0, .slice none 0 0] 28)) (byteL.slice.sl_ext HA.out ((Chg.refl [] w).alloc _)) h0)
    by_cases h2 : Alike xs
    · have HD := Lib.hid (show decide (Alike xs) = true by simp [h2])
      rw [HD.out] at HAl
      by_cases h3 : 4000 < n0
      · have HR := Lib.hid (show encRes xs cn = (2, []) by rw [HM.out, if_neg (fun h => h h2), if_pos (by rw [HHD.out, HH.out.2]; exact h3)])
        have h3' : (4000 : Int) < (n0 : Int) := by omega
        clear h2 HM h3
        go_enter Try.func9, Try.ntmps9
        go_wp2_with fail
        refine (HOK.out _).mono ?_; rintro e w' ⟨rfl, rfl⟩
        go_wp2_with fail
        refine HAl.out.mono ?_; rintro e w4 ⟨rfl, hc4⟩
        have hB := hc4.keep0 (new_alloc w _); have cB := cellsOf hB; have fB := freeOf hB; have lB := ltOf hB
        have hc4w := ((Chg.refl [] w).alloc (.cells #[.int .i64 0, .slice none 0 0] 28)).trans0 hc4
        have hcx : w4.cell? ⟨b0, o0, none⟩ = some (.slice A0 n0 C0) := (hc4w.facts.1 b0 o0 lb0).trans hc0'
        have HC4w := Lib.hid hc4w
        clear hc4 hB hc4w hc0'
        go_wp2_with fail
        refine bodyPost_ret (v := .agg #[.int .i64 2, .slice none 0 0]) (by simp [results, Try.results9, go_sem, cB]) rfl ?_
        exact NewRes.code byteL.slice HR.out (by repeat (first | exact HC4w.out | refine Chg.alloc ?_ _ | refine Chg.setCell ?_ _ _ (.inr (by simp)) | refine Chg.drew ?_))
      · have h3' : ¬ (4000 : Int) < (n0 : Int) := by omega
        have HR := Lib.hid (show encRes xs cn = (0, parL xs n0 cn) by rw [HM.out, if_neg (fun h => h h2), if_neg (by rw [HHD.out, HH.out.2]; omega), HHD.out, HH.out.2])
        have HAll := Lib.hid (show ∀ x ∈ xs, x.length = n0 from fun x hx => by rw [h2 x hx, HHD.out, HH.out.2])
        clear h2 HM h3
        go_enter Try.func9, Try.ntmps9
        go_wp2_with fail
        refine (HOK.out _).mono ?_; rintro e w' ⟨rfl, rfl⟩
        go_wp2_with fail
        refine HAl.out.mono ?_; rintro e w4 ⟨rfl, hc4⟩
        have hB := hc4.keep0 (new_alloc w _); have cB := cellsOf hB; have fB := freeOf hB; have lB := ltOf hB
        have hc4w := ((Chg.refl [] w).alloc (.cells #[.int .i64 0, .slice none 0 0] 28)).trans0 hc4
        have hcx : w4.cell? ⟨b0, o0, none⟩ = some (.slice A0 n0 C0) := (hc4w.facts.1 b0 o0 lb0).trans hc0'
        have HC4 := Lib.hid hc4; have HC4w := Lib.hid hc4w
        clear hc4 hB hc4w hc0'
        go_wp2_with fail
        refine (l3Encode_any (some ⟨b0, o0, none⟩) la ca n0 cn xs f _ (byteL.slice.sl_ext HA.out HC4w.out) (by omega) (by omega) (by omega) (by omega) HAll).mono ?_
        rintro e w1 ⟨a1, c1, f1, rfl, hs, hf, hc⟩
        clear cB fB lB
        have hs4 := HC4.out.size
        have hc4 := HC4.out.trans0 hc
        have hB := hc4.keep0 (new_alloc _ _); have cB := cellsOf hB; have fB := freeOf hB; have lB := ltOf hB
        have HN := Lib.hid (fun w2 => NewRes.storeG (w2 := w2) HR.out hs (hf.mono hs4) hc4)
        generalize (parL xs n0 cn).length = L at HN ⊢
        clear hs hf hc hB hc4 hs4
        go_wp2_with fail
        refine bodyPost_ret (v := .agg #[.int .i64 0, .slice a1 L c1]) (by simp [results, Try.results9, go_sem, cB]) rfl ?_
        exact HN.out _ ⟨_, _, rfl⟩
    · have HD := Lib.hid (show decide (Alike xs) = false by simp [h2])
      rw [HD.out] at HAl
      have HR := Lib.hid (show encRes xs cn = (1, []) by rw [HM.out, if_pos h2])
      clear h2 HM
      go_enter Try.func9, Try.ntmps9
      go_wp2_with fail
      refine (HOK.out _).mono ?_; rintro e w' ⟨rfl, rfl⟩
      go_wp2_with fail
      refine HAl.out.mono ?_; rintro e w4 ⟨rfl, hc4⟩
      have hB := hc4.keep0 (new_alloc w _); have cB := cellsOf hB; have fB := freeOf hB; have lB := ltOf hB
      have HC4w := Lib.hid (((Chg.refl [] w).alloc (.cells #[.int .i64 0, .slice none 0 0] 28)).trans0 hc4)
      clear hc4 hB
      go_wp2_with fail
      refine bodyPost_ret (v := .agg #[.int .i64 1, .slice none 0 0]) (by simp [results, Try.results9, go_sem, cB]) rfl ?_
      exact NewRes.code byteL.slice HR.out (by repeat (first | exact HC4w.out | refine Chg.alloc ?_ _ | refine Chg.setCell ?_ _ _ (.inr (by simp)) | refine Chg.drew ?_))
theorem parL_mem {xs : List (List UInt8)} {n0 c : Nat} (h : ∀ x ∈ xs, x.length = n0) {y : List UInt8} (hy : y ∈ parL xs n0 c) : y.length = n0 := by
  unfold parL at hy
  obtain ⟨j, _, rfl⟩ := List.mem_map.1 hy
  exact mixTo_len h (Nat.le_refl _)
theorem encRes_len (xs : List (List UInt8)) (c : Int) : (encRes xs c).2.length ≤ 2 ∧ ∀ y ∈ (encRes xs c).2, y.length ≤ 4000 := by
  unfold encRes
  split
  · exact ⟨by simp, by simp⟩
  · rename_i h1
    split
    · exact ⟨by simp, by simp⟩
    · rename_i h2
      split
      · exact ⟨by simp, by simp⟩
      · rename_i h3
        have h2' := Classical.not_not.1 h2
        refine ⟨?_, fun y hy => ?_⟩
        · show (parL _ _ _).length ≤ 2
          rw [parL_length]
          have hb := (Bool.and_eq_true_iff.1 (Bool.not_eq_false _ ▸ h1 : (inB xs.length 1 4 && inB c 0 2) = true)).2
          have := inB_true hb
          omega
        · rw [parL_mem h2' hy]; omega
theorem impl_encode2 (a : Option Addr) (la ca : Nat) (xs : List (List UInt8)) (f : List Nat) (c : Int) (_ : i64ok c) (w : World) (ha : byteL.slice.sl w a la ca xs f) :
    Calls Try.prog 8 #[.slice a la ca, .int .i64 c] w (NewRes byteL.slice (encRes xs c) w) := impl_encode a la ca c xs f w ha
theorem spec_encode2 (a : Option Addr) (la ca : Nat) (xs : List (List UInt8)) (f : List Nat) (c : Int) (_ : i64ok c) (w : World) (ha : byteL.slice.sl w a la ca xs f) :
    Calls Try.prog 9 #[.slice a la ca, .int .i64 c] w (NewRes byteL.slice (encRes xs c) w) := spec_encode a la ca c xs f w ha
end Go.Proofs.Ytjnclggpaekdfaa
