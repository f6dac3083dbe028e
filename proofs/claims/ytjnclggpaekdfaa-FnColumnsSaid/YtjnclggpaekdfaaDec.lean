
/- DecodeColumn: both sides. -/
import Derived.Test.YtjnclggpaekdfaaDcd
import Derived.Test.YtjnclggpaekdfaaEco
namespace Go.Proofs.Ytjnclggpaekdfaa
open Go.RowKit

theorem nil_slLL (w : World) : byteL.slice.sl w none 0 0 [] [] := ⟨rfl, Nat.le_refl _, by simp [maxLen], fun _ => rfl, .inl ⟨rfl, rfl⟩⟩
theorem alike_nil : Alike [] := fun x hx => by simp at hx
set_option maxHeartbeats 400000 in
theorem idxF0_any (a : Option Addr) (c : Nat) (F : Value) (w : World) :
    Calls Try.prog 73 #[.slice a 0 c, F] w fun e w' => e = .returned (.int .i64 (-1)) ∧ w = w' := by
  go_enter Try.func73, Try.ntmps73
  go_wp2
  go_loop [5, 8] (fun _ i => i = .int .i64 0) (fun _ _ => 0)
  case atStart => rfl
  case round =>
    obtain rfl := hrel
    go_wp2
    go_ret
    exact ⟨rfl, rfl⟩
set_option maxHeartbeats 400000 in
theorem contF0_any (a : Option Addr) (c : Nat) (F : Value) (w : World) :
    Calls Try.prog 66 #[.slice a 0 c, F] w fun e w' => e = .returned (.bool false) ∧ w = w' := by
  go_enter Try.func66, Try.ntmps66
  go_wp2_with fail
  refine (idxF0_any a c F _).mono ?_
  rintro e w' ⟨rfl, rfl⟩
  go_wp2_with fail
  go_ret
  exact ⟨rfl, rfl⟩
set_option maxHeartbeats 400000 in
theorem alikeE_any (a : Option Addr) (la ca : Nat) (xs : List (List UInt8)) (f : List Nat) (w : World) (ha : byteL.slice.sl w a la ca xs f) :
    Calls Try.prog 34 #[.slice a la ca] w fun e w' => e = .returned (.bool (decide (Alike xs))) ∧ Chg [] w w' := by
  by_cases h0 : 0 < la
  · exact (alike_any a la ca xs f w ha h0).mono fun _ _ h => ⟨h.1, h.2 ▸ (Chg.refl [] w).alloc _⟩
  · obtain rfl : la = 0 := by omega
    obtain rfl : xs = [] := by have := ha.1; exact List.eq_nil_of_length_eq_zero this.symm
    have hmf : ∀ (fn : Fn) (first cap : Array Value) (w : World), (Instr.makeFunc fn first cap).run Try.prog w = .ok (.func fn first cap) w := fun _ _ _ _ => rfl
    have HD : decide (Alike []) = true := by simp [alike_nil]
    rw [HD]
    clear ha h0 HD
    go_enter Try.func34, Try.ntmps34
    go_wp2_with fail
    refine (contF0_any a ca _ _).mono ?_
    rintro e w' ⟨rfl, rfl⟩
    go_wp2_with fail
    go_ret
    exact ⟨rfl, (Chg.refl [] w).alloc _⟩
set_option maxHeartbeats 400000 in
theorem l3EvenE_any (a : Option Addr) (la ca : Nat) (xs : List (List UInt8)) (f : List Nat) (w : World) (ha : byteL.slice.sl w a la ca xs f) :
    Calls Try.prog 37 #[.slice a la ca] w fun e w' => e = .returned (.bool (decide (Alike xs))) ∧ Chg [] w w' := by
  by_cases h0 : 0 < la
  · exact l3Even_any a la ca xs f w ha h0
  · obtain rfl : la = 0 := by omega
    obtain rfl : xs = [] := by have := ha.1; exact List.eq_nil_of_length_eq_zero this.symm
    have HD : decide (Alike []) = true := by simp [alike_nil]
    rw [HD]
    clear ha h0 HD
    go_enter Try.func37, Try.ntmps37
    go_wp2_with fail
    go_loopw [3] (fun i wr => ∃ Wr : World, Wr = wr ∧ i = .int .i64 0 ∧ Chg [] w wr) (fun _ _ => 0)
    case atStart => exact ⟨_, rfl, rfl, Chg.refl _ _⟩
    case round =>
      obtain ⟨wr, rfl, rfl, hc⟩ := hrel
      have HC := Lib.hid hc
      clear hc
      go_wp2_with fail
      go_ret
      exact ⟨rfl, HC.out⟩
noncomputable def decRes (g c : Int) (xs : List (List UInt8)) : Int × List (List UInt8) :=
  if (inB g 1 4 && inB c 0 2) = false then (3, []) else if ¬ (xs.length : Int) = g + c then (1, []) else if ¬ Alike (minL xs xs.length) then (1, [])
  else if 4000 < ((minL xs xs.length).headD []).length then (2, []) else if ((havL xs xs.length).length : Int) < g then (10, [])
  else (0, decL g.toNat xs ((minL xs xs.length).headD []).length (g.toNat + c.toNat))
theorem minL_full (xs : List (List UInt8)) : minL xs xs.length = xs.filter (fun x => x.length != 0) := by unfold minL; rw [List.take_length]
/-- the lists that are there, in memory of the copy -/
def There (w : World) (v : Value) (ys : List (List UInt8)) (w0 : World) : Prop := ∃ A C f', v = .slice A ys.length C ∧ byteL.slice.sl w A ys.length C ys f' ∧ Chg [] w0 w
set_option maxHeartbeats 1000000 in
theorem nilDel_any (n : Nat) (w : World) (h : n = 0) :
    Calls Try.prog 41 #[.slice none n 0, .func (.func 43) #[] #[]] w fun e w' => e = .returned (.slice none 0 0) ∧ w = w' := by
  subst h
  go_enter Try.func41, Try.ntmps41
  go_wp2_with fail
  refine (idxF0_any none 0 _ _).mono ?_
  rintro e w' ⟨rfl, rfl⟩
  go_wp2_with fail
  go_ret
  exact ⟨rfl, rfl⟩
set_option maxRecDepth 100000 in
set_option maxHeartbeats 4000000 in
theorem impl_decode (a : Option Addr) (la ca : Nat) (xs : List (List UInt8)) (f : List Nat) (g c : Int) (w : World) (ha : byteL.slice.sl w a la ca xs f) (hz : la * 24 ≤ 140737488355327) (og : i64ok g) (oc : i64ok c) :
    Calls Try.prog 12 #[.int .i64 g, .int .i64 c, .slice a la ca] w (NewRes byteL.slice (decRes g c xs) w) := by
  have hla := byteL.slice.sl_max ha
  have HA := Lib.hid ha
  have HL := Lib.hid ha.1
  have G0 := Lib.hid (show Chg [] w ((w.alloc (.cells #[.int .i64 0, .slice none 0 0] 28)).alloc (.cells #[.int .i64 g, .int .i64 c] 57)) from ((Chg.refl [] w).alloc _).alloc _)
  have B0 := Lib.hid (show ((w.alloc (.cells #[.int .i64 0, .slice none 0 0] 28)).alloc (.cells #[.int .i64 g, .int .i64 c] 57)).heap[w.heap.size]? = some (.cells #[.int .i64 0, .slice none 0 0] 28 (0, 0)) from keep_alloc (new_alloc w _) _)
  have B1 := Lib.hid (show ((w.alloc (.cells #[.int .i64 0, .slice none 0 0] 28)).alloc (.cells #[.int .i64 g, .int .i64 c] 57)).heap[w.heap.size + 1]? = some (.cells #[.int .i64 g, .int .i64 c] 57 (0, 0)) from new_at (by simp) _)
  clear ha
  go_enter Try.func12, Try.ntmps12
  go_wp2_with fail
  refine (colOk_any g c _).mono ?_
  rintro e w1 ⟨rfl, h1⟩
  have hc : Chg [] ((w.alloc (.cells #[.int .i64 0, .slice none 0 0] 28)).alloc (.cells #[.int .i64 g, .int .i64 c] 57)) w1 := by rw [← h1]; exact (Chg.refl [] _).alloc _
  clear h1
  obtain ⟨c0, n0, A0⟩ := bk hc B0.out (by simp)
  obtain ⟨c1, n1, A1⟩ := bk hc B1.out (by simp)
  have fz := freeOf A0.out
  have G1 := Lib.hid (G0.out.trans0 hc)
  clear hc
  cases hok : (inB g 1 4 && inB c 0 2)
  · have HR := Lib.hid (show decRes g c xs = (3, []) by rw [decRes, if_pos hok])
    clear hok
    go_wp2_with fail
    refine bodyPost_ret (v := .agg #[.int .i64 3, .slice none 0 0]) (by simp [results, Try.results12, go_sem, c0]) rfl ?_
    exact NewRes.code byteL.slice HR.out ((G1.out.setCell _ _ (.inr (by simp))).setCell _ _ (.inr (by simp)))
  obtain ⟨hb1, hb2⟩ := Bool.and_eq_true_iff.1 hok
  obtain ⟨hg1, hg4⟩ := inB_true hb1
  obtain ⟨hcc0, hcc2⟩ := inB_true hb2
  obtain ⟨gn, rfl⟩ := Int.eq_ofNat_of_zero_le (show 0 ≤ g by omega)
  obtain ⟨cn, rfl⟩ := Int.eq_ofNat_of_zero_le hcc0
  have HM := Lib.hid (show decRes (gn : Int) (cn : Int) xs = if ¬ (xs.length : Int) = (gn : Int) + (cn : Int) then (1, []) else if ¬ Alike (minL xs xs.length) then (1, [])
    else if 4000 < ((minL xs xs.length).headD []).length then (2, []) else if ((havL xs xs.length).length : Int) < (gn : Int) then (10, [])
    else (0, decL gn xs ((minL xs xs.length).headD []).length (gn + cn)) by rw [decRes, if_neg (by rw [hok]; simp)]; rfl)
  clear hok hb1 hb2
  -- the copy, and what is there
  have HTH : RowKit.Hid (∀ w2 : World, Chg [] w w2 → Calls Try.prog 42 #[.slice a la ca] w2 fun e w3 => ∃ A l C, e = .returned (.slice A l C) ∧ Chg [] w2 w3 ∧
      Calls Try.prog 41 #[.slice A l C, .func (.func 43) #[] #[]] w3 fun e w4 => ∃ A' C' f', e = .returned (.slice A' (minL xs xs.length).length C') ∧ byteL.slice.sl w4 A' (minL xs xs.length).length C' (minL xs xs.length) f' ∧ Chg [] w2 w4) := by
    intro w2 hc2
    refine (clone_lists a la ca xs f w2 (byteL.slice.sl_ext HA.out hc2) hz).mono ?_
    rintro e w3 ⟨E, v, h, fps, rfl, ho, hsub, hnew, hc⟩
    rcases ho with ⟨rfl, rfl, rfl, rfl⟩ | ⟨b, cap, cur, rfl, rfl, hb, h1, h2, h3, hall, h4⟩
    · refine ⟨none, 0, 0, rfl, hc, (nilDel_any 0 w3 rfl).mono ?_⟩
      rintro e w4 ⟨rfl, rfl⟩
      exact ⟨none, 0, [], rfl, nil_slLL _, hc⟩
    · refine ⟨_, _, _, rfl, hc, ?_⟩
      have hsl : byteL.slice.sl w3 (some ⟨b, 0, none⟩) xs.length cap xs (b :: fps) := ⟨rfl, h1, h2, (fun h => by cases h), .inr ⟨b, 0, cur, E, (0, 0), fps, rfl, hb, by simpa using hall, rfl⟩⟩
      obtain ⟨ps, hrow, hps, -⟩ := byteL.slice.sl_row hsl ⟨_, _, hb⟩ ⟨fps, rfl, h4⟩
      refine (delE_any b 0 xs.length cap ps w3 hrow (by rw [← hps, List.length_map]) h1 h2).mono ?_
      rintro e w4 ⟨i, f', rfl, hs, hc4⟩
      rw [hps, ← minL_full] at hs
      have hi := hs.1
      subst hi
      exact ⟨_, _, f', rfl, hs, hc.trans hc4 (fun y hy => .inr (by rw [List.mem_singleton] at hy; subst hy; exact hnew _ rfl))⟩
  go_wp2_with fail
  refine (HTH.out _ G1.out).mono ?_
  rintro e w2 ⟨A, l, C, rfl, hc, hdel⟩
  clear c0 n0 c1 n1 fz
  have B2 := Lib.hid (hc.keep0 A0.out); have HDEL := Lib.hid hdel
  clear hdel
  obtain ⟨c0, n0, -⟩ := bk hc A0.out (by simp)
  clear hc
  go_wp2_with fail
  refine HDEL.out.mono ?_
  rintro e w3 ⟨A', C', f', rfl, hs, hc⟩
  clear c0 n0
  obtain ⟨c0, n0, E0⟩ := bk hc A0.out (by simp)
  obtain ⟨c1, n1, E1⟩ := bk hc A1.out (by simp)
  have fz := freeOf E0.out
  have G3 := Lib.hid (G1.out.trans0 hc)
  have HS := Lib.hid hs
  obtain ⟨lm, hlm⟩ : ∃ n, n = (minL xs xs.length).length := ⟨_, rfl⟩
  rw [← hlm] at HS ⊢
  have HLM := Lib.hid hlm
  clear hc hs hlm B2
  have hlml : lm ≤ la := by have h1 := List.length_filter_le (fun x : List UInt8 => x.length != 0) xs; rw [← minL_full] at h1; have h2 := HLM.out; have h3 := HL.out; omega
  by_cases hsz : (la : Int) = (gn : Int) + (cn : Int)
  · have hne : ((la : Int) != (gn : Int) + (cn : Int)) = false := by simp [hsz]
    have HM2 := Lib.hid (HM.out.trans (if_neg (fun h => h (by rw [← HL.out]; exact hsz))))
    have hsz2 : la = gn + cn := by omega
    have HAl := Lib.hid (fun w4 (hc4 : Chg [] w3 w4) => alikeE_any A' lm C' (minL xs xs.length) f' w4 (byteL.slice.sl_ext HS.out hc4))
    have HSZ := Lib.hid hsz2
    clear hsz HM hsz2
    go_wp2_with fail
    by_cases hal : Alike (minL xs xs.length)
    · have HD := Lib.hid (show decide (Alike (minL xs xs.length)) = true by simp [hal])
      rw [HD.out] at HAl
      have HM3 := Lib.hid (HM2.out.trans (if_neg (fun h => h hal)))
      have HAL := Lib.hid hal
      clear hal HM2
      obtain ⟨SS1, HSI1, HSO1⟩ := rg_cond (fun w' => Know (w.heap.size + 1) #[.int .i64 gn, .int .i64 cn] w')
      have hS0 := HSI1.out _ (Know.of (keep_drew E1.out))
      refine rg_start SS1 (by kernel_rfl) hS0 ?_
      refine rgT 0 hS0 ?_
      refine rgL 2 hS0 HSO1 ?_
      refine rg_call 1 rfl (by kernel_rfl) (fun K hK => ?_)
      go_simp
      go_at_call 32
      refine (sizeL_any a la ca _ (by omega)).mono ?_; rintro e w' ⟨rfl, rfl⟩
      go_wp2_with fail
      refine hK.out _ _ (HSI1.out _ (Know.of (keep_drew E1.out))) (fun hS1 => ?_)
      clear hK K
      try simp only [Act.put, List.setIfInBounds_toArray, List.set_cons_zero, List.set_cons_succ]
      refine rg_call 3 rfl (by kernel_rfl) (fun K hK => ?_)
      go_simp
      go_at_call 44
      refine (colAll_any gn cn (by omega) (by omega) (by omega) (by omega) _).mono ?_; rintro e w4 ⟨rfl, h4⟩
      have hc4 : Chg [] w3 w4 := by rw [← h4]; first | exact ((Chg.refl [] w3).alloc _).drew | exact ((Chg.refl [] w3).drew).alloc _
      have HC4 := Lib.hid hc4; have F1 := Lib.hid (hc4.keep0 E1.out); clear h4 hc4
      go_wp2_with fail
      refine hK.out _ _ (HSI1.out _ (Know.of F1.out)) (fun hS2 => ?_)
      clear hK K
      try simp only [Act.put, List.setIfInBounds_toArray, List.set_cons_zero, List.set_cons_succ]
      refine rgT 4 hS2 ?_
      refine rgT 5 hS2 ?_
      refine rgT 6 hS2 ?_
      refine rg_call 7 rfl (by kernel_rfl) (fun K hK => ?_)
      go_simp
      go_at_call 34
      refine (HAl.out _ HC4.out).mono ?_; rintro e w5 ⟨rfl, hc5⟩
      have F2 := Lib.hid (hc5.keep0 F1.out); have HC5 := Lib.hid (HC4.out.trans0 hc5); clear hc5
      go_wp2_with fail
      refine hK.out _ _ (HSI1.out _ (Know.of F2.out)) (fun hS3 => ?_)
      clear hK K
      try simp only [Act.put, List.setIfInBounds_toArray, List.set_cons_zero, List.set_cons_succ]
      refine rgT 8 hS3 ?_
      refine rgT 9 hS3 ?_
      refine rgT 10 hS3 ?_
      refine wpAnyH_done (by kernel_rfl) ?_ _
      clear c0 n0 c1 n1 fz
      have H0 := Lib.hid (HC5.out.keep0 E0.out); have H1 := Lib.hid (HC5.out.keep0 E1.out)
      have c0 := cellsOf H0.out; have n0 := ltOf H0.out; have fz := freeOf H0.out; have c1 := cellsOf H1.out; have n1 := ltOf H1.out
      have G5 := Lib.hid (G3.out.trans0 HC5.out)
      have HS5 := Lib.hid (byteL.slice.sl_ext HS.out HC5.out)
      -- too many bytes?
      by_cases hm0 : lm = 0
      · skip
        have hnil : minL xs xs.length = [] := List.eq_nil_of_length_eq_zero (by rw [← HLM.out]; exact hm0)
        have hlost : (havL xs xs.length).length < gn := by rw [havL_len xs _ (Nat.le_refl _), hnil]; simp; omega
        have HR := Lib.hid (show decRes (gn : Int) (cn : Int) xs = (10, []) by rw [HM3.out, if_neg (by rw [hnil]; simp), if_pos (by omega)])
        have HALL := Lib.hid (show ∀ x ∈ minL xs xs.length, x.length = 0 from by rw [hnil]; simp)
        have HDC := Lib.hid (fun w6 (hc6 : Chg [] w w6) => decode_any a la ca gn cn 0 xs f w6 (byteL.slice.sl_ext HA.out hc6) (by omega) (by omega) (by omega) HSZ.out (by omega) HALL)
        have HLS := Lib.hid hlost
        clear hnil hlost
        subst hm0
        go_wp2_with fail
        refine (HDC.out _ G5.out).mono ?_
        rintro e w6 h6
        obtain ⟨rfl, hc6⟩ : e = _ ∧ Chg [] w5 w6 := by
          rcases h6 with ⟨-, h6⟩ | ⟨h6, -⟩
          · exact h6
          · exact absurd HLS.out (by omega)
        clear c0 n0 c1 n1 fz
        obtain ⟨c0, n0, I0⟩ := bk hc6 H0.out (by simp)
        have fz := freeOf I0.out
        have G6 := Lib.hid (G5.out.trans0 hc6)
        clear hc6
        go_wp2_with fail
        refine bodyPost_ret (v := .agg #[.int .i64 10, .slice none 0 0]) (by simp [results, Try.results12, go_sem, c0]) rfl ?_
        exact NewRes.code byteL.slice HR.out ((G6.out.setCell _ _ (.inr (by simp))).setCell _ _ (.inr (by simp)))
      · have hgt : (0 : Int) < (lm : Int) := by omega
        obtain ⟨x0, b0, o0, A0', nn, C0, f0, HX0, rfl, hcx0, HXS0⟩ := slc_at HS5.out (show 0 < lm by omega)
        have hcx : w5.cell? ⟨b0, o0, none⟩ = some (.slice A0' nn C0) := hcx0
        have hnm := byteL.sl_max HXS0.out
        have HHD := Lib.hid (show ((minL xs xs.length).headD []).length = nn by rw [headD_at HX0.out.1, ← HXS0.out.1])
        clear hcx0 HXS0 HX0
        by_cases hbig : 4000 < nn
        · have hgt2 : (4000 : Int) < (nn : Int) := by omega
          have HR := Lib.hid (show decRes (gn : Int) (cn : Int) xs = (2, []) by rw [HM3.out, if_pos (by rw [HHD.out]; exact hbig)])
          clear hbig
          go_wp2_with fail
          refine bodyPost_ret (v := .agg #[.int .i64 2, .slice none 0 0]) (by simp [results, Try.results12, go_sem, c0]) rfl ?_
          exact NewRes.code byteL.slice HR.out ((G5.out.setCell _ _ (.inr (by simp))).setCell _ _ (.inr (by simp)))
        · have hgt2 : ¬ (4000 : Int) < (nn : Int) := by omega
          have HM4 := Lib.hid (HM3.out.trans (if_neg (by rw [HHD.out]; exact hbig)))
          have HALL := Lib.hid (show ∀ x ∈ minL xs xs.length, x.length = nn from fun x hx => by rw [HAL.out x hx, HHD.out])
          have HDC := Lib.hid (fun w6 (hc6 : Chg [] w w6) => decode_any a la ca gn cn nn xs f w6 (byteL.slice.sl_ext HA.out hc6) (by omega) (by omega) (by omega) HSZ.out (by omega) HALL)
          clear hbig HM3
          go_wp2_with fail
          refine (HDC.out _ G5.out).mono ?_
          rintro e w6 h6
          rcases h6 with ⟨hlost, rfl, hc6⟩ | ⟨hlost, A9, C9, f9, rfl, hs9, hf9, hc6⟩
          · skip
            have HR := Lib.hid (show decRes (gn : Int) (cn : Int) xs = (10, []) by rw [HM4.out, if_pos (by omega)])
            clear c0 n0 c1 n1 fz hcx hlost
            obtain ⟨c0, n0, I0⟩ := bk hc6 H0.out (by simp)
            have fz := freeOf I0.out
            have G6 := Lib.hid (G5.out.trans0 hc6)
            clear hc6
            go_wp2_with fail
            refine bodyPost_ret (v := .agg #[.int .i64 10, .slice none 0 0]) (by simp [results, Try.results12, go_sem, c0]) rfl ?_
            exact NewRes.code byteL.slice HR.out ((G6.out.setCell _ _ (.inr (by simp))).setCell _ _ (.inr (by simp)))
          · skip
            have HR := Lib.hid (show decRes (gn : Int) (cn : Int) xs = (0, decL gn xs nn (gn + cn)) by rw [HM4.out, if_neg (by omega), HHD.out])
            clear c0 n0 c1 n1 fz hcx hlost
            obtain ⟨c0, n0, I0⟩ := bk hc6 H0.out (by simp)
            have fz := freeOf I0.out
            have hs9' : byteL.slice.sl w6 A9 (decL gn xs nn (gn + cn)).length C9 (decL gn xs nn (gn + cn)) f9 := by rw [decL_length]; exact hs9
            have HNN := Lib.hid (fun (w7 : World) (hw : Chg [w.heap.size] w6 w7) => (show NewRes byteL.slice (decRes (gn : Int) (cn : Int) xs) w (.returned (.agg #[.int .i64 0, .slice A9 (gn + cn) C9])) w7 from
              ⟨A9, C9, f9, by rw [HR.out]; show _ = Ending.returned (.agg #[.int .i64 0, .slice A9 (decL gn xs nn (gn + cn)).length C9]); rw [decL_length], by rw [HR.out]; exact byteL.slice.sl_chg hs9' hw (fun y hy hm => by have h1 := (hf9.2 y hy).1; have h2 := ltOf H0.out; rw [List.mem_singleton] at hm; omega), (hf9.mono (C := w.heap.size) G5.out.size).chg hw, (G5.out.trans0 hc6).trans hw (fun y hy => .inr (by rw [List.mem_singleton] at hy; omega))⟩))
            clear hs9 hf9 hc6 hs9'
            go_wp2_with fail
            refine bodyPost_ret (v := .agg #[.int .i64 0, .slice A9 (gn + cn) C9]) (by simp [results, Try.results12, go_sem, c0]) rfl ?_
            exact HNN.out _ (((Chg.refl _ _).setCell _ _ (.inl (by simp))).setCell _ _ (.inl (by simp)))
    · have HD := Lib.hid (show decide (Alike (minL xs xs.length)) = false by simp [hal])
      rw [HD.out] at HAl
      have HR := Lib.hid (show decRes (gn : Int) (cn : Int) xs = (1, []) by rw [HM2.out, if_pos hal])
      clear hal HM2
      obtain ⟨SS1, HSI1, HSO1⟩ := rg_cond (fun w' => Know (w.heap.size + 1) #[.int .i64 gn, .int .i64 cn] w')
      have hS0 := HSI1.out _ (Know.of (keep_drew E1.out))
      refine rg_start SS1 (by kernel_rfl) hS0 ?_
      refine rgT 0 hS0 ?_
      refine rgL 2 hS0 HSO1 ?_
      refine rg_call 1 rfl (by kernel_rfl) (fun K hK => ?_)
      go_simp
      go_at_call 32
      refine (sizeL_any a la ca _ (by omega)).mono ?_; rintro e w' ⟨rfl, rfl⟩
      go_wp2_with fail
      refine hK.out _ _ (HSI1.out _ (Know.of (keep_drew E1.out))) (fun hS1 => ?_)
      clear hK K
      try simp only [Act.put, List.setIfInBounds_toArray, List.set_cons_zero, List.set_cons_succ]
      refine rg_call 3 rfl (by kernel_rfl) (fun K hK => ?_)
      go_simp
      go_at_call 44
      refine (colAll_any gn cn (by omega) (by omega) (by omega) (by omega) _).mono ?_; rintro e w4 ⟨rfl, h4⟩
      have hc4 : Chg [] w3 w4 := by rw [← h4]; first | exact ((Chg.refl [] w3).alloc _).drew | exact ((Chg.refl [] w3).drew).alloc _
      have HC4 := Lib.hid hc4; have F1 := Lib.hid (hc4.keep0 E1.out); clear h4 hc4
      go_wp2_with fail
      refine hK.out _ _ (HSI1.out _ (Know.of F1.out)) (fun hS2 => ?_)
      clear hK K
      try simp only [Act.put, List.setIfInBounds_toArray, List.set_cons_zero, List.set_cons_succ]
      refine rgT 4 hS2 ?_
      refine rgT 5 hS2 ?_
      refine rgT 6 hS2 ?_
      refine rg_call 7 rfl (by kernel_rfl) (fun K hK => ?_)
      go_simp
      go_at_call 34
      refine (HAl.out _ HC4.out).mono ?_; rintro e w5 ⟨rfl, hc5⟩
      have F2 := Lib.hid (hc5.keep0 F1.out); have HC5 := Lib.hid (HC4.out.trans0 hc5); clear hc5
      go_wp2_with fail
      refine hK.out _ _ (HSI1.out _ (Know.of F2.out)) (fun hS3 => ?_)
      clear hK K
      try simp only [Act.put, List.setIfInBounds_toArray, List.set_cons_zero, List.set_cons_succ]
      refine rgT 8 hS3 ?_
      refine rgT 9 hS3 ?_
      refine rgT 10 hS3 ?_
      refine wpAnyH_done (by kernel_rfl) ?_ _
      clear c0 n0 c1 n1 fz
      have H0 := Lib.hid (HC5.out.keep0 E0.out)
      have c0 := cellsOf H0.out; have n0 := ltOf H0.out; have fz := freeOf H0.out
      have G5 := Lib.hid (G3.out.trans0 HC5.out)
      go_wp2_with fail
      refine bodyPost_ret (v := .agg #[.int .i64 1, .slice none 0 0]) (by simp [results, Try.results12, go_sem, c0]) rfl ?_
      exact NewRes.code byteL.slice HR.out ((G5.out.setCell _ _ (.inr (by simp))).setCell _ _ (.inr (by simp)))
  · have hne : ((la : Int) != (gn : Int) + (cn : Int)) = true := by simpa using hsz
    have HR := Lib.hid (show decRes (gn : Int) (cn : Int) xs = (1, []) by rw [HM.out, if_pos (by rw [← HL.out]; exact hsz)])
    clear hsz HM
    go_wp2_with fail
    obtain ⟨SS1, HSI1, HSO1⟩ := rg_cond (fun w' => Know (w.heap.size + 1) #[.int .i64 gn, .int .i64 cn] w')
    have hS0 := HSI1.out _ (Know.of (keep_drew E1.out))
    refine rg_start SS1 (by kernel_rfl) hS0 ?_
    refine rgT 0 hS0 ?_
    refine rgL 2 hS0 HSO1 ?_
    refine rg_call 1 rfl (by kernel_rfl) (fun K hK => ?_)
    go_simp
    go_at_call 32
    refine (sizeL_any a la ca _ (by omega)).mono ?_; rintro e w' ⟨rfl, rfl⟩
    go_wp2_with fail
    refine hK.out _ _ (HSI1.out _ (Know.of (keep_drew E1.out))) (fun hS1 => ?_)
    clear hK K
    try simp only [Act.put, List.setIfInBounds_toArray, List.set_cons_zero, List.set_cons_succ]
    refine rg_call 3 rfl (by kernel_rfl) (fun K hK => ?_)
    go_simp
    go_at_call 44
    refine (colAll_any gn cn (by omega) (by omega) (by omega) (by omega) _).mono ?_; rintro e w4 ⟨rfl, h4⟩
    have hc4 : Chg [] w3 w4 := by rw [← h4]; first | exact ((Chg.refl [] w3).alloc _).drew | exact ((Chg.refl [] w3).drew).alloc _
    have HC4 := Lib.hid hc4; have F1 := Lib.hid (hc4.keep0 E1.out); clear h4 hc4
    go_wp2_with fail
    refine hK.out _ _ (HSI1.out _ (Know.of F1.out)) (fun hS2 => ?_)
    clear hK K
    try simp only [Act.put, List.setIfInBounds_toArray, List.set_cons_zero, List.set_cons_succ]
    refine rgT 4 hS2 ?_
    refine rgT 5 hS2 ?_
    refine rgS 6 hS2 ?_
    refine rgS 7 hS2 ?_
    refine rgS 8 hS2 ?_
    refine rgT 9 hS2 ?_
    refine rgT 10 hS2 ?_
    refine wpAnyH_done (by kernel_rfl) ?_ _
    clear c0 n0 c1 n1 fz
    have H0 := Lib.hid (HC4.out.keep0 E0.out)
    have c0 := cellsOf H0.out; have n0 := ltOf H0.out; have fz := freeOf H0.out
    have G5 := Lib.hid (G3.out.trans0 HC4.out)
    go_wp2_with fail
    refine bodyPost_ret (v := .agg #[.int .i64 1, .slice none 0 0]) (by simp [results, Try.results12, go_sem, c0]) rfl ?_
    exact NewRes.code byteL.slice HR.out ((G5.out.setCell _ _ (.inr (by simp))).setCell _ _ (.inr (by simp)))
end Go.Proofs.Ytjnclggpaekdfaa
