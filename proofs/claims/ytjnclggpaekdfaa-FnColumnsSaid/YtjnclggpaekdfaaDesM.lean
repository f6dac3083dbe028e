import Derived.Test.YtjnclggpaekdfaaDec
import Derived.Test.YtjnclggpaekdfaaGrc
import Derived.Test.YtjnclggpaekdfaaMa
/- DecodeColumn: the specification. -/
namespace Go.Proofs.Ytjnclggpaekdfaa
open Go.RowKit

set_option maxRecDepth 100000 in
set_option maxHeartbeats 12000000 in
theorem spec_decode (a : Option Addr) (la ca : Nat) (xs : List (List UInt8)) (f : List Nat) (g c : Int) (w : World) (ha : byteL.slice.sl w a la ca xs f) (hz : la ≤ 1048576) (og : i64ok g) (oc : i64ok c) :
    Calls Try.prog 19 #[.int .i64 g, .int .i64 c, .slice a la ca] w (NewRes byteL.slice (decRes g c xs) w) := by
  obtain ⟨KL, _⟩ := kindLL
  obtain ⟨KI, _⟩ := kindI
  have hla := byteL.slice.sl_max ha
  have HA := Lib.hid ha
  have HL := Lib.hid ha.1
  have HF := Lib.hid (byteL.slice.sl_lt ha)
  have B0 := Lib.hid (new_alloc w (.cells #[.int .i64 0, .slice none 0 0] 28))
  have G0 := Lib.hid ((Chg.refl [] w).alloc (.cells #[.int .i64 0, .slice none 0 0] 28))
  clear ha
  go_enter Try.func19, Try.ntmps19
  go_wp2_with fail
  refine (l3Shape_any g c _).mono ?_
  rintro e w' ⟨rfl, rfl⟩
  cases hok : (inB g 1 4 && inB c 0 2)
  · have HR := Lib.hid (show decRes g c xs = (3, []) by rw [decRes, if_pos hok])
    clear hok
    go_wp2_with fail
    refine bodyPost_ret (v := .agg #[.int .i64 3, .slice none 0 0]) (by simp [results, Try.results19, go_sem]) rfl ?_
    exact NewRes.code byteL.slice HR.out (by repeat (first | exact G0.out | exact Chg.refl _ _ | refine Chg.alloc ?_ _ | refine Chg.setCell ?_ _ _ (.inr (by simp)) | refine Chg.drew ?_))
  obtain ⟨hb1, hb2⟩ := Bool.and_eq_true_iff.1 hok
  obtain ⟨hg1, hg4⟩ := inB_true hb1
  obtain ⟨hcc0, hcc2⟩ := inB_true hb2
  obtain ⟨gn, rfl⟩ := Int.eq_ofNat_of_zero_le (show 0 ≤ g by omega)
  obtain ⟨cn, rfl⟩ := Int.eq_ofNat_of_zero_le hcc0
  have HM := Lib.hid (show decRes (gn : Int) (cn : Int) xs = if ¬ (xs.length : Int) = (gn : Int) + (cn : Int) then (1, []) else if ¬ Alike (minL xs xs.length) then (1, [])
    else if 4000 < ((minL xs xs.length).headD []).length then (2, []) else if ((havL xs xs.length).length : Int) < (gn : Int) then (10, [])
    else (0, decL gn xs ((minL xs xs.length).headD []).length (gn + cn)) by rw [decRes, if_neg (by rw [hok]; simp)]; rfl)
  clear hok hb1 hb2
  by_cases hsz : (la : Int) = (gn : Int) + (cn : Int)
  · have hne : ((la : Int) != (gn : Int) + (cn : Int)) = false := by simp [hsz]
    have HM2 := Lib.hid (HM.out.trans (if_neg (fun h => h (by rw [← HL.out]; exact hsz))))
    have hsz2 : la = gn + cn := by omega
    have HSZ := Lib.hid hsz2
    clear hsz HM hsz2
    go_wp2_with fail
    go_loopw [7, 8, 9] (fun vh vt vi wr => ∃ (k : Nat) (Wr : World), Wr = wr ∧ k ≤ la ∧ vi = .int .i64 k ∧ Two f (w.alloc (.cells #[.int .i64 0, .slice none 0 0] 28)) wr vh vt (havL xs k) (minL xs k)) (fun _ _ vi _ => la - (intOf vi).toNat)
    case atStart => exact ⟨0, _, rfl, by omega, rfl, by have h := Two.start (f := f) (w := w.alloc (.cells #[.int .i64 0, .slice none 0 0] 28)); simpa [havL, minL] using h⟩
    case round =>
      obtain ⟨k, wr, rfl, hk, rfl, hT⟩ := hrel
      have HC := Lib.hid hT.chg
      obtain ⟨hh, ht, fpt, o1, o2, s1, g1, g2, d, -⟩ := hT
      obtain ⟨ah, ch, rfl⟩ := intL.os_len o1
      obtain ⟨at2, ct, rfl⟩ := byteL.slice.os_len o2
      have hhl : (havL xs k).length ≤ 1048576 := by have := havL_le xs k; omega
      have hmm := havL_len xs k (by have := HL.out; omega)
      obtain ⟨lh, hlh⟩ : ∃ n, n = (havL xs k).length := ⟨_, rfl⟩
      rw [← hmm] at o2 ⊢
      rw [← hlh] at o1 o2 hhl ⊢
      have HLH := Lib.hid hlh; have HMM := Lib.hid hmm
      have O1 := Lib.hid o1; have O2 := Lib.hid o2; have S1 := Lib.hid s1; have G1 := Lib.hid g1; have G2 := Lib.hid g2; have DD := Lib.hid d
      clear o1 o2 s1 g1 g2 d hlh hmm
      by_cases hlt : k < la
      · obtain ⟨x, b, off, A, lx, C, fx, HX, rfl, hcx, HXS⟩ := slc_at (byteL.slice.sl_ext HA.out (G0.out.trans0 HC.out)) hlt
        have hxm := byteL.sl_max HXS.out
        have hbw : b < w.heap.size := HF.out b HX.out.2.1
        by_cases h0 : lx = 0
        · skip
          have hxl : x.length = 0 := by rw [← HXS.out.1, h0]
          have HT2 := Lib.hid (show Two f (w.alloc (.cells #[.int .i64 0, .slice none 0 0] 28)) wr (.slice ah lh ch) (.slice at2 lh ct) (havL xs (k + 1)) (minL xs (k + 1)) from by
            rw [havL_no HX.out.1 hxl, minL_no HX.out.1 hxl]
            exact ⟨hh, ht, fpt, O1.out, O2.out, S1.out, G1.out, G2.out, DD.out, HC.out⟩)
          clear hxl
          subst h0
          go_wp2_with fail
          go_roundw
          case rel => exact ⟨k + 1, _, rfl, by omega, by go_num, HT2.out⟩
          case measure => simp [intOf]; omega
        · have hb0 : (0 : Int) < (lx : Int) := by omega
          have hxl : ¬ x.length = 0 := by rw [← HXS.out.1]; exact h0
          have HN1 := Lib.hid (havL_yes HX.out.1 hxl)
          have HN2 := Lib.hid (minL_yes HX.out.1 hxl)
          have HLL := Lib.hid (show (havL xs k).length + [(k : Int)].length ≤ maxLen ∧ ((havL xs k).length + [(k : Int)].length) * 8 ≤ 140737488355328 by rw [← HLH.out]; simp only [List.length_singleton, maxLen]; omega)
          have HLL2 := Lib.hid (show (minL xs k).length + [x].length ≤ maxLen ∧ ((minL xs k).length + [x].length) * 24 ≤ 140737488355328 by rw [← HMM.out, ← HLH.out]; simp only [List.length_singleton, maxLen]; omega)
          have HFX := Lib.hid (show ∀ y ∈ fx, y ∈ f from fun y hy => HX.out.2.2 y hy)
          have HKO := Lib.hid (show i64ok (k : Int) from by constructor <;> omega)
          have HCX := Lib.hid hcx
          clear h0 hxl hcx
          have hcx := HCX.out
          go_wp2_with (first
            | (at_builtin; refine intL.wpList_append rfl _ _ 34 rfl Try.underlying34 KI rfl (intL.os_ext O1.out ((Chg.refl [] wr).alloc (.cells #[.int .i64 k] 2))) ⟨wr.heap.size, 0, none⟩ 1 1 [.int .i64 k] (ys := [(k : Int)]) (f := []) rfl rfl (new_cell wr (.int .i64 k) 2) (intL.all_single ⟨rfl, HKO.out, rfl⟩) (by simp) HLL.out.1 HLL.out.2 ?_; intro v1 w1 h1 ho1 hh1 hc1; have HT1 := Lib.hid (Two.mkH O2.out S1.out (fun y hy => by have := HF.out y hy; simp; omega) G1.out G2.out DD.out HC.out ((Chg.refl [] wr).alloc (.cells #[.int .i64 k] 2)) ho1 hh1 hc1); rw [← HN1.out] at HT1; have HC1 := Lib.hid HT1.out.chg; clear hcx; have hcx := (HC1.out.facts.1 b _ (by simp; omega)).trans ((G0.out.facts.1 b _ hbw).trans (((G0.out.trans0 HC.out).facts.1 b _ hbw).symm.trans HCX.out)); obtain ⟨hhb, htb, fpb, p1, p2, p3, p4, p5, p6, -⟩ := HT1.out; have P1 := Lib.hid p1; have P2 := Lib.hid p2; have P3 := Lib.hid p3; have P4 := Lib.hid p4; have P5 := Lib.hid p5; have P6 := Lib.hid p6; clear p1 p2 p3 p4 p5 p6 ho1 hh1 hc1)
            | (at_builtin; refine byteL.slice.wpList_append rfl _ _ 24 rfl Try.underlying24 KL rfl (byteL.slice.os_ext P2.out ((Chg.refl [] w1).alloc (.cells #[.slice A lx C] 22))) ⟨w1.heap.size, 0, none⟩ 1 1 [.slice A lx C] (ys := [x]) (f := fx) rfl rfl (new_cell w1 (.slice A lx C) 22) (slc_all1' (byteL.sl_ext (byteL.sl_keep HXS.out (fun y hy => by rw [HC1.out.block y (by have := HF.out y (HFX.out y hy); simp; omega) (by simp), HC.out.block y (by have := HF.out y (HFX.out y hy); simp; omega) (by simp)])) ((Chg.refl [] w1).alloc _))) (fun q hq hm => by have h1 := P5.out q hq; have h2 := HF.out q (HFX.out q hm); simp at h1; omega) HLL2.out.1 HLL2.out.2 ?_; intro v2 w2 h2 ho2 hh2 hc2; have HT2 := Lib.hid (Two.mkT (f := f) P1.out (fun y hy => by rcases List.mem_append.1 hy with h | h; exact P3.out y h; exact HFX.out y h) P4.out P5.out P6.out HC1.out ((Chg.refl [] w1).alloc (.cells #[.slice A lx C] 22)) ho2 hh2 hc2); rw [← HN2.out] at HT2; clear ho2 hh2 hc2))
          go_roundw
          case rel => exact ⟨k + 1, _, rfl, by omega, by go_num, HT2.out⟩
          case measure => simp [intOf]; omega
      · obtain rfl : k = la := by omega
        have hkx : k = xs.length := HL.out
        obtain ⟨_, cap2, e9, hs1⟩ := intL.os_sl O1.out
        obtain ⟨rfl, hl9, rfl⟩ := Value.slice.inj e9
        obtain ⟨_, cap3, e8, hs2⟩ := byteL.slice.os_sl O2.out
        obtain ⟨rfl, hl8, rfl⟩ := Value.slice.inj e8
        rw [← HLH.out, hkx] at hs1
        rw [← HMM.out, ← HLH.out, hkx] at hs2
        have HS1 := Lib.hid hs1; have HS2 := Lib.hid hs2
        have HLX := Lib.hid (show lh = (havL xs xs.length).length by rw [← hkx]; exact HLH.out)
        have HLY := Lib.hid (show lh = (minL xs xs.length).length by rw [← hkx, ← HMM.out]; exact HLH.out)
        have hlk := havL_le xs k
        rw [← HLH.out] at hlk
        have HB := Lib.hid (HC.out.keep0 B0.out)
        have GW := Lib.hid (G0.out.trans0 HC.out)
        have hc1 := hs1.2.1; have hc2 := hs2.2.1
        have hm1 := hs1.2.2.1; have hm2 := hs2.2.2.1
        simp only [maxLen] at hm1 hm2
        have HKX := Lib.hid hkx
        clear hs1 hs2 e8 e9 hl8 hl9 hkx
        go_wp2_with fail
        refine (l3EvenE_any at2 lh ct (minL xs xs.length) _ _ HS2.out).mono ?_
        rintro e w5 ⟨rfl, hc5⟩
        have H5 := Lib.hid (hc5.keep0 HB.out)
        have c5 := cellsOf H5.out; have n5 := ltOf H5.out; have fz := freeOf H5.out
        have G5 := Lib.hid (GW.out.trans0 hc5)
        have HS15 := Lib.hid (intL.sl_ext HS1.out hc5); have HS25 := Lib.hid (byteL.slice.sl_ext HS2.out hc5)
        clear hc5
        by_cases hal : Alike (minL xs xs.length)
        · have HD := Lib.hid (show decide (Alike (minL xs xs.length)) = true by simp [hal])
          rw [HD.out]
          have HM3 := Lib.hid (HM2.out.trans (if_neg (fun h => h hal)))
          have HAL := Lib.hid hal
          clear hal HM2
          by_cases hm0 : lh = 0
          · skip
            have hnil : minL xs xs.length = [] := List.eq_nil_of_length_eq_zero (by rw [← HLY.out]; exact hm0)
            have HR := Lib.hid (show decRes (gn : Int) (cn : Int) xs = (10, []) by rw [HM3.out, if_neg (by rw [hnil]; simp), if_pos (by rw [← HLX.out]; omega)])
            clear hnil
            subst hm0
            have hltg : (0 : Int) < (gn : Int) := by omega
            go_wp2_with fail
            refine bodyPost_ret (v := .agg #[.int .i64 10, .slice none 0 0]) (by simp [results, Try.results19, go_sem, c5]) rfl ?_
            exact NewRes.code byteL.slice HR.out ((G5.out.setCell _ _ (.inr (by simp))).setCell _ _ (.inr (by simp)))
          · have hgt : (0 : Int) < (lh : Int) := by omega
            obtain ⟨x0, b0, o0, A0', nn, C0, f0, HX0, rfl, hcx0, HXS0⟩ := slc_at HS25.out (show 0 < lh by omega)
            have hcx : w5.cell? ⟨b0, o0, none⟩ = some (.slice A0' nn C0) := hcx0
            have hnm := byteL.sl_max HXS0.out
            have HHD := Lib.hid (show ((minL xs xs.length).headD []).length = nn by rw [headD_at HX0.out.1, ← HXS0.out.1])
            clear hcx0 HXS0 HX0
            by_cases hbig : 4000 < nn
            · have hgt2 : (4000 : Int) < (nn : Int) := by omega
              have HR := Lib.hid (show decRes (gn : Int) (cn : Int) xs = (2, []) by rw [HM3.out, if_pos (by rw [HHD.out]; exact hbig)])
              clear hbig
              go_wp2_with fail
              refine bodyPost_ret (v := .agg #[.int .i64 2, .slice none 0 0]) (by simp [results, Try.results19, go_sem, c5]) rfl ?_
              exact NewRes.code byteL.slice HR.out ((G5.out.setCell _ _ (.inr (by simp))).setCell _ _ (.inr (by simp)))
            · have hgt2 : ¬ (4000 : Int) < (nn : Int) := by omega
              have HM4 := Lib.hid (HM3.out.trans (if_neg (by rw [HHD.out]; exact hbig)))
              clear HM3
              by_cases hlost : lh < gn
              · have hltg : (lh : Int) < (gn : Int) := by omega
                have HR := Lib.hid (show decRes (gn : Int) (cn : Int) xs = (10, []) by rw [HM4.out, if_pos (by rw [← HLX.out]; omega)])
                clear hlost
                go_wp2_with fail
                refine bodyPost_ret (v := .agg #[.int .i64 10, .slice none 0 0]) (by simp [results, Try.results19, go_sem, c5]) rfl ?_
                exact NewRes.code byteL.slice HR.out ((G5.out.setCell _ _ (.inr (by simp))).setCell _ _ (.inr (by simp)))
              · have hltg : ¬ (lh : Int) < (gn : Int) := by omega
                have hgl : gn ≤ lh := by omega
                have hgct : gn ≤ ct := by omega
                have hgch : gn ≤ ch := by omega
                have HR := Lib.hid (show decRes (gn : Int) (cn : Int) xs = (0, decL gn xs nn (gn + cn)) by rw [HM4.out, if_neg (by rw [← HLX.out]; omega), HHD.out])
                have HALL := Lib.hid (show ∀ x ∈ (minL xs xs.length).take gn, x.length = nn from fun x hx => by rw [HAL.out x (List.mem_of_mem_take hx), HHD.out])
                have HX6 := Lib.hid (show xs.length ≤ gn + 2 by have := HSZ.out; have := HKX.out; omega)
                have HBD := Lib.hid (havL_bound (xs := xs) (by have := HX6.out; omega) gn)
                obtain ⟨fh, -, hsh⟩ := intL.sl_take HS15.out hgl
                obtain ⟨fm, -, hsm⟩ := byteL.slice.sl_take HS25.out hgl
                have HSH := Lib.hid hsh; have HSM := Lib.hid hsm; have HGL := Lib.hid (show gn ≤ (havL xs xs.length).length by rw [← HLX.out]; exact hgl)
                clear hlost HM4 hsh hsm
                go_wp2_with fail
                try rw [show decide (lh < gn) = false by simp; omega]
                go_loopw [11] (fun vi wq => ∃ (p : Nat) (vo : Value) (Wq : World), Wq = wq ∧ p ≤ gn + cn ∧ vi = .int .i64 p ∧ GrowC byteL.slice 22 (w5.heap.size + 1) wq vo (decL gn xs nn p) ∧ wq.heap[w5.heap.size]? = some (.cells #[.int .i64 0, vo] 28 (0, 0)) ∧ Chg [] w5 wq) (fun vi _ => gn + cn - (intOf vi).toNat)
                case atStart => exact ⟨0, _, _, rfl, by omega, rfl, GrowC.nil (by simp), new_alloc w5 _, (Chg.refl [] w5).alloc _⟩
                case round =>
                  obtain ⟨p, vo, wq, rfl, hp, rfl, hgr, hbx, hcq⟩ := hrel
                  have HG := Lib.hid hgr; have HBX := Lib.hid hbx; have HCQ := Lib.hid hcq
                  have cbx := cellsOf hbx; have lbx := ltOf hbx; have fbx := freeOf hbx
                  by_cases hpl : p < gn + cn
                  · obtain ⟨z, hz1, hzl, hw⟩ := dec_wts (by omega) (by omega) HX6.out HGL.out (p : Int)
                    have HZ := Lib.hid hz1; have HZL := Lib.hid hzl; have HWZ := Lib.hid hw
                    have HE := Lib.hid (show decL gn xs nn (p + 1) = decL gn xs nn p ++ [mixTo ((minL xs xs.length).take gn) z nn gn] by rw [decL_next, HWZ.out])
                    obtain ⟨y, hy⟩ : ∃ y, y = mixTo ((minL xs xs.length).take gn) z nn gn := ⟨_, rfl⟩
                    rw [← hy] at HE
                    have HY := Lib.hid hy
                    have HLL : RowKit.Hid ((decL gn xs nn p).length + [y].length ≤ maxLen ∧ ((decL gn xs nn p).length + [y].length) * 24 ≤ 140737488355328) := by
                      rw [decL_length]; refine ⟨?_, ?_⟩ <;> simp only [List.length_cons, List.length_nil, maxLen] <;> omega
                    clear hz1 hzl hw hy hgr hbx hcq
                    go_wp2_with fail
                    obtain ⟨CC, HCI, HCO⟩ := rg_cond (fun w' => Know w5.heap.size #[.int .i64 0, vo] w')
                    refine gg_start [13] CC (by kernel_rfl) (HCI.out _ (Know.of (keep_drew HBX.out))) (fun hcl hS => ?_)
                    refine ggT 0 hcl hS ?_; clear hcl hS; intro hcl hS
                    refine ggL 1 hcl hS HCO ?_; clear hcl hS; intro hcl hS
                    refine ggT 2 hcl hS ?_; clear hcl hS; intro hcl hS
                    refine ggT 3 hcl hS ?_; clear hcl hS; intro hcl hS
                    refine ggT 4 hcl hS ?_; clear hcl hS; intro hcl hS
                    refine ggT 5 hcl hS ?_; clear hcl hS; intro hcl hS
                    refine ggT 6 hcl hS ?_; clear hcl hS; intro hcl hS
                    refine ggT 7 hcl hS ?_; clear hcl hS; intro hcl hS
                    refine ggT 8 hcl hS ?_; clear hcl hS; intro hcl hS
                    refine ggT 9 hcl hS ?_; clear hcl hS; intro hcl hS
                    refine ggC 10 hcl rfl (by kernel_rfl) (fun K hK => ?_)
                    go_simp
                    go_at_call 60
                    refine (l2Weights_any ah gn ch ((havL xs xs.length).take gn) fh gn p 8 _ (intL.sl_ext HSH.out HCQ.out.drew) (by omega) (by omega) (Nat.le_refl _) HBD (by omega) (by omega) (by omega) (by omega)).mono ?_; rintro e w6 ⟨A6, C6, f6, rfl, hs6, hf6, hc6⟩
                    rw [HZ.out, Option.getD_some, HZL.out] at hs6 ⊢; have HS6 := Lib.hid hs6; have HC6 := Lib.hid (show Chg [] wq w6 from ((Chg.refl [] wq).drew).trans0 hc6); have F1 := Lib.hid (HC6.out.keep0 HBX.out); clear hs6 hf6 hc6
                    go_wp2_with fail
                    refine hK.out _ _ (fun _ => HCI.out _ (Know.of F1.out)) ?_
                    clear hK K hcl hS
                    intro hcl hS
                    try simp only [Act.put, List.setIfInBounds_toArray, List.set_cons_zero, List.set_cons_succ]
                    refine ggC 11 hcl rfl (by kernel_rfl) (fun K hK => ?_)
                    go_simp
                    go_at_call 59
                    refine (l1Mix_any (some ⟨b0, o0, none⟩) A6 gn ct C6 nn ((minL xs xs.length).take gn) z fm f6 _ (byteL.slice.sl_ext HSM.out (HCQ.out.trans0 HC6.out)) HS6.out (by omega) (by omega) HALL).mono ?_; rintro e w7 ⟨A7, C7, f7, rfl, hs7, hf7, hc7⟩
                    rw [← HY.out] at hs7 ⊢; have HS7 := Lib.hid hs7; have HF7 := Lib.hid (hf7.mono (C := wq.heap.size) HC6.out.size); have HC7 := Lib.hid (HC6.out.trans0 hc7); have F2 := Lib.hid (HC7.out.keep0 HBX.out); clear hs7 hf7 hc7
                    go_wp2_with fail
                    refine hK.out _ _ (fun _ => HCI.out _ (Know.of F2.out)) ?_
                    clear hK K hcl hS
                    intro hcl hS
                    try simp only [Act.put, List.setIfInBounds_toArray, List.set_cons_zero, List.set_cons_succ]
                    refine ggC 12 hcl rfl (by kernel_rfl) (fun K hK => ?_)
                    go_simp
                    refine hK.out _ _ (fun _ => HCI.out _ (Know.of (keep_alloc F2.out _))) ?_
                    clear hK K hcl hS
                    intro hcl hS
                    try simp only [Act.put, List.setIfInBounds_toArray, List.set_cons_zero, List.set_cons_succ]
                    refine ggC 13 hcl rfl (by kernel_rfl) (fun K hK => ?_)
                    refine GrowB.step (L := byteL.slice) rfl _ _ 24 rfl Try.underlying24 KL rfl (HG.out.b.ext (HC7.out.alloc (.cells #[.slice A7 y.length C7] 22))) ⟨w7.heap.size, 0, none⟩ 1 1 [.slice A7 y.length C7] (ys := [y]) (f := f7) rfl rfl (new_cell w7 (.slice A7 y.length C7) 22) (slc_all1 (byteL.sl_ext HS7.out ((Chg.refl [] w7).alloc _))) (HF7.out.chg ((Chg.refl [] w7).alloc _)) HLL.out.1 HLL.out.2 ?_
                    intro v' w8 hg' hup
                    rw [← HE.out] at hg'
                    obtain ⟨pv, lv, cv, rfl⟩ : ∃ a l c, v' = Value.slice a l c := by obtain ⟨a, c, f, h, -⟩ := hg'.sl; exact ⟨a, _, c, h⟩
                    have HG2 := Lib.hid hg'; have HU := Lib.hid hup
                    have F3 := Lib.hid ((hup.low w5.heap.size (by omega)).trans (keep_alloc F2.out _)); have k3 := cellsOf F3.out; have n3 := ltOf F3.out; have z3 := freeOf F3.out; clear hg' hup cbx lbx fbx
                    refine hK.out _ _ (Till.done (m := 13) (by simp) (by rfl)) ?_
                    clear hK K hcl hS
                    intro hcl hS
                    try simp only [Act.put, List.setIfInBounds_toArray, List.set_cons_zero, List.set_cons_succ]
                    refine ggT 14 hcl hS ?_; clear hcl hS; intro hcl hS
                    refine ggC 15 hcl rfl (by kernel_rfl) (fun K hK => ?_)
                    go_simp
                    refine hK.out _ _ (Till.done (m := 13) (by simp) (by rfl)) ?_
                    clear hK K hcl hS
                    intro hcl hS
                    try simp only [Act.put, List.setIfInBounds_toArray, List.set_cons_zero, List.set_cons_succ]
                    refine ggEnd (by kernel_rfl) ?_ _
                    have r1 := HG2.out.chg ((Chg.refl [w5.heap.size] w8).setCell ⟨w5.heap.size, 1, none⟩ (.slice pv lv cv) (.inl (by simp))) (by simp)
                    have r3 : (w8.setCell ⟨w5.heap.size, 1, none⟩ (.slice pv lv cv)).heap[w5.heap.size]? = some (.cells #[.int .i64 0, .slice pv lv cv] 28 (0, 0)) := heap_set_lit (cur := #[.int .i64 0, vo]) F3.out rfl
                    have r4 := (HU.out.chg ((HCQ.out.trans0 HC7.out).alloc (.cells #[.slice A7 y.length C7] 22)) (by omega)).setCell ⟨w5.heap.size, 1, none⟩ (.slice pv lv cv) (.inr (by simp))
                    have HRR := Lib.hid (And.intro r1 (And.intro r3 r4))
                    clear r1 r3 r4
                    go_wp2_with fail
                    go_roundw
                    case rel => exact ⟨p + 1, .slice pv lv cv, _, rfl, by omega, by go_num, HRR.out.1, HRR.out.2.1, HRR.out.2.2⟩
                    case measure => simp [intOf]; omega
                  · obtain rfl : p = gn + cn := by omega
                    obtain ⟨A9, C9, f9, rfl, hs9, hf9⟩ := hgr.sl
                    rw [decL_length] at HBX hbx cbx
                    clear c5 n5 fz
                    have c0 := cellsOf (hcq.keep0 H5.out); have n0 := ltOf (hcq.keep0 H5.out); have fz := freeOf (hcq.keep0 H5.out)
                    have HNN := Lib.hid (fun (w7 : World) (hw : Chg [w.heap.size] wq w7) => (show NewRes byteL.slice (decRes (gn : Int) (cn : Int) xs) w (.returned (.agg #[.int .i64 0, .slice A9 (gn + cn) C9])) w7 from
                      ⟨A9, C9, f9, by rw [HR.out]; show _ = Ending.returned (.agg #[.int .i64 0, .slice A9 (decL gn xs nn (gn + cn)).length C9]); rw [decL_length], by rw [HR.out]; exact byteL.slice.sl_chg hs9 hw (fun y hy hm => by have h1 := (hf9.2 y hy).1; have h2 := ltOf H5.out; rw [List.mem_singleton] at hm; omega), (hf9.mono (C := w.heap.size) (by have := G5.out.size; omega)).chg hw, (G5.out.trans0 hcq).trans hw (fun y hy => .inr (by rw [List.mem_singleton] at hy; omega))⟩))
                    clear hs9 hf9 hgr hbx hcq
                    go_wp2_with fail
                    refine bodyPost_ret (v := .agg #[.int .i64 0, .slice A9 (gn + cn) C9]) (by simp [results, Try.results19, go_sem, c0]) rfl ?_
                    exact HNN.out _ (((Chg.refl _ _).setCell _ _ (.inl (by simp))).setCell _ _ (.inl (by simp)))
        · have HD := Lib.hid (show decide (Alike (minL xs xs.length)) = false by simp [hal])
          rw [HD.out]
          have HR := Lib.hid (show decRes (gn : Int) (cn : Int) xs = (1, []) by rw [HM2.out, if_pos hal])
          clear hal HM2
          go_wp2_with fail
          refine bodyPost_ret (v := .agg #[.int .i64 1, .slice none 0 0]) (by simp [results, Try.results19, go_sem, c5]) rfl ?_
          exact NewRes.code byteL.slice HR.out ((G5.out.setCell _ _ (.inr (by simp))).setCell _ _ (.inr (by simp)))
  · have hne : ((la : Int) != (gn : Int) + (cn : Int)) = true := by simpa using hsz
    have HR := Lib.hid (show decRes (gn : Int) (cn : Int) xs = (1, []) by rw [HM.out, if_pos (by rw [← HL.out]; exact hsz)])
    clear hsz HM
    go_wp2_with fail
    refine bodyPost_ret (v := .agg #[.int .i64 1, .slice none 0 0]) (by simp [results, Try.results19, go_sem]) rfl ?_
    exact NewRes.code byteL.slice HR.out (by repeat (first | exact G0.out | exact Chg.refl _ _ | refine Chg.alloc ?_ _ | refine Chg.setCell ?_ _ _ (.inr (by simp)) | refine Chg.drew ?_))
theorem decL_mem {g : Nat} {xs : List (List UInt8)} {n0 k : Nat} (h : ∀ x ∈ minL xs xs.length, x.length = n0) (hl : g ≤ (minL xs xs.length).length) {y : List UInt8} (hy : y ∈ decL g xs n0 k) : y.length = n0 := by
  unfold decL at hy
  obtain ⟨p, _, rfl⟩ := List.mem_map.1 hy
  exact mixTo_len (fun x hx => h x (List.mem_of_mem_take hx)) (by rw [List.length_take]; omega)
theorem decRes_len (g c : Int) (xs : List (List UInt8)) : (decRes g c xs).2.length ≤ 6 ∧ ∀ y ∈ (decRes g c xs).2, y.length ≤ 4000 := by
  unfold decRes
  split
  · exact ⟨by simp, by simp⟩
  rename_i h1
  split
  · exact ⟨by simp, by simp⟩
  split
  · exact ⟨by simp, by simp⟩
  rename_i h3
  split
  · exact ⟨by simp, by simp⟩
  rename_i h4
  split
  · exact ⟨by simp, by simp⟩
  rename_i h5
  have h3' := Classical.not_not.1 h3
  obtain ⟨hb1, hb2⟩ := Bool.and_eq_true_iff.1 (Bool.not_eq_false _ ▸ h1 : (inB g 1 4 && inB c 0 2) = true)
  have q1 := inB_true hb1; have q2 := inB_true hb2
  refine ⟨?_, fun y hy => ?_⟩
  · show (decL _ _ _ _).length ≤ 6
    rw [decL_length]; omega
  · rw [decL_mem h3' (by rw [← havL_len xs _ (Nat.le_refl _)]; omega) hy]; omega
theorem impl_decode2 (a : Option Addr) (la ca : Nat) (xs : List (List UInt8)) (f : List Nat) (g : Int) (og : i64ok g) (c : Int) (oc : i64ok c) (w : World) (ha : byteL.slice.sl w a la ca xs f) (hz : la ≤ 1048576) :
    Calls Try.prog 12 #[.int .i64 g, .int .i64 c, .slice a la ca] w (NewRes byteL.slice (decRes g c xs) w) := impl_decode a la ca xs f g c w ha (by omega) og oc
theorem spec_decode2 (a : Option Addr) (la ca : Nat) (xs : List (List UInt8)) (f : List Nat) (g : Int) (og : i64ok g) (c : Int) (oc : i64ok c) (w : World) (ha : byteL.slice.sl w a la ca xs f) (hz : la ≤ 1048576) :
    Calls Try.prog 19 #[.int .i64 g, .int .i64 c, .slice a la ca] w (NewRes byteL.slice (decRes g c xs) w) := spec_decode a la ca xs f g c w ha hz og oc
end Go.Proofs.Ytjnclggpaekdfaa
