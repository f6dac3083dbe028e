
/- The program's reduce: rows brought into steps. -/
import Derived.Test.YtjnclggpaekdfaaGau
import Derived.Test.YtjnclggpaekdfaaMix
import Derived.Test.YtjnclggpaekdfaaNum
import Derived.Deep.DeepCutAuto
namespace Go.Proofs.Ytjnclggpaekdfaa
open Go.RowKit

set_option maxRecDepth 100000 in
set_option maxHeartbeats 4000000 in
theorem reduce_any (H off la ca n m : Nat) (rows : List (List UInt8)) (w : World) (hr : Rws w H off la rows) (hl : Loose w H) (hw : RowKit.Hid (Wide m rows)) (hnm : n ≤ m) (hm : m ≤ 17) (hla : la ≤ 16) :
    Calls Try.prog 83 #[.slice (some ⟨H, off, none⟩) la ca, .int .i64 n] w fun e w' => e = .returned (.int .i64 ((gauss n rows).2 : Int)) ∧ Rws w' H off la (gauss n rows).1 ∧ Loose w' H ∧ Chg [H] w w' := by
  have HLEN := Lib.hid hr.1
  go_enter Try.func83, Try.ntmps83
  go_wp2_with fail
  go_loopw [5, 6] (fun vr vc wr => ∃ c : Nat, c ≤ n ∧ vc = .int .i64 c ∧ vr = .int .i64 ((gauss c rows).2 : Int) ∧ Rws wr H off la (gauss c rows).1 ∧ Loose wr H ∧ Chg [H] w wr) (fun _ vc _ => n - (intOf vc).toNat)
  case atStart => exact ⟨0, by omega, rfl, rfl, hr, hl, Chg.refl _ _⟩
  case round =>
    clear hr hl
    obtain ⟨c, hc, rfl, rfl, hR, hLo, hch⟩ := hrel
    rename_i wr
    by_cases hlt : c < n
    · obtain ⟨h1, h2, h3, h4⟩ := gauss_inv hw.out c
      have HN := Lib.hid (gauss_next c rows)
      generalize gauss c rows = G at *
      obtain ⟨R, rk⟩ := G
      simp only at hR h1 h2 h3 h4 HN ⊢
      have HLR := Lib.hid (show la = R.length by rw [h1, ← HLEN.out])
      have hrk : rk ≤ la := by rw [HLEN.out]; exact h3
      have HW := Lib.hid h2
      have hHs := hLo.lt
      have HR := Lib.hid hR; have HLo := Lib.hid hLo; have HCH := Lib.hid hch
      clear hR h1 h2 h3 hLo hch h4
      go_wp2_with fail
      go_loopw [7, 8] (fun va vp wr' => ∃ p : Nat, rk ≤ p ∧ p ≤ la ∧ vp = .int .i64 p ∧ va = .int .i64 (-1) ∧ RowKit.Hid (fnd R c rk = fnd R c p) ∧ wr = wr') (fun _ vp _ => la - (intOf vp).toNat)
      case atStart => exact ⟨rk, by omega, by omega, rfl, rfl, Lib.hid rfl, rfl⟩
      case round =>
        obtain ⟨p, hp1, hp2, rfl, rfl, HF, rfl⟩ := hrel
        by_cases hp : p < la
        · obtain ⟨x, A, C, f, HX, hcx⟩ := HR.out.at hp
          have hxm := HW.out.at HX.out.1
          have hxc : c < x.length := by omega
          have hxl : x.length ≤ 17 := by omega
          have HXM := Lib.hid hxm
          obtain ⟨y, Y, b, o, HY, rfl, hcy, hy1, hy2⟩ := byte_at HX.out.2.1 hxc
          have HC := Lib.hid (cel_at HX.out.1 HY.out.1)
          clear hxm
          by_cases hy : y = 0
          · have hY : (Y != 0) = false := by rw [HY.out.2.1, hy]; rfl
            have HF2 := Lib.hid (HF.out.trans (fnd_zero (by have := HLR.out; omega) (HC.out.trans hy)))
            clear hy
            go_wp2_with fail
            go_roundw
            case rel => exact ⟨p + 1, by omega, by omega, by go_num, rfl, HF2, trivial⟩
            case measure => simp [intOf]; omega
          · have hY : (Y != 0) = true := by rw [HY.out.2.1]; exact u8_ne hy
            have HF2 := Lib.hid (HF.out.trans (fnd_here (by have := HLR.out; omega) (by rw [HC.out]; exact hy)))
            obtain ⟨x2, A2, C2, f2, HX2, hcx2⟩ := HR.out.at (i := rk) (by omega)
            have hfz : ∀ j, wr.frozen? ⟨H, j, none⟩ = false := by obtain ⟨cur, E, hw⟩ := HLo.out; exact freeOf hw
            have HE := Lib.hid (show p = rk → x = x2 from fun e => by subst e; exact Option.some.inj (HX.out.1.symm.trans HX2.out.1))
            have hne : p = rk ∨ ¬ p = rk := Classical.em _
            have HROW := Lib.hid (show scaleL x (Fld.mul 1 (Fld.inv y)) = lead R p c by rw [Fld.one_mul]; exact lead_eq HX.out.1 HC.out)
            have HLL := Lib.hid (lead_length HW.out (p := p) (by have := HLR.out; omega) c)
            have HG := Lib.hid (HN.out.trans (gstep_some HF2.out (show p < R.length by have := HLR.out; omega)))
            simp only at HG
            have HWP := Lib.hid (HW.out.prep (rank := rk) (p := p) (by have := HLR.out; omega) HLL.out)
            unfold stepAt at HG
            have HPL := Lib.hid (prep_length R rk p (lead R p c))
            have HPR := Lib.hid (fun row => (show (prep R rk p row)[rk]? = some row by unfold prep; rw [List.getElem?_set_self (by rw [List.length_set]; have := HLR.out; omega)]))
            generalize lead R p c = row at HROW HLL HG HWP HPL
            go_wp2_with fail
            have HS0 := Lib.hid (HR.out.swap (i := rk) (j := p) (by omega) hp HX.out.2.1 HX.out.2.2 HX2.out.2.1 HX2.out.2.2)
            have HPQ := Lib.hid (fun row => prep_eq (x := x) (p := p) (row := row) HX2.out.1)
            have HAT := Lib.hid (set_at (i := p) (x := x) HX2.out.1 HE.out)
            have H1 := Lib.hid HY.out.1
            have hrkla : rk < la := by omega
            go_cut [] (fun w2 => Rws w2 H off la ((R.set rk x).set p x2) ∧ Loose w2 H ∧ Chg [H] w w2)
            case first =>
              rcases hne with hne | hne
              · subst hne
                obtain ⟨e1, e2, e3⟩ := Value.slice.inj (Option.some.inj (hcx.symm.trans hcx2))
                obtain rfl := HE.out rfl
                subst e1 e3
                clear hcx2 e2
                go_region
                all_goals
                  go_wp2_with fail
                  go_meet
                  exact ⟨HS0.out.drew (by simpa using hHs), (HLo.out.setCell _ _).setCell _ _, ((HCH.out.setCell _ _ (.inl (by simp))).setCell _ _ (.inl (by simp))).drew⟩
              · have hne2 : ¬ rk = p := fun e => hne e.symm
                go_region
                all_goals
                  go_wp2_with fail
                  go_meet
                  exact ⟨HS0.out.drew (by simpa using hHs), (HLo.out.setCell _ _).setCell _ _, ((HCH.out.setCell _ _ (.inl (by simp))).setCell _ _ (.inl (by simp))).drew⟩
            case rest =>
            revert wc; intro w2 hcut
            obtain ⟨hR2, hLo2, hCh2⟩ := hcut
            obtain ⟨x', A3, C3, f3, HX3, hcx3⟩ := hR2.at (i := rk) (by omega)
            obtain rfl := Option.some.inj (HX3.out.1.symm.trans HAT.out)
            obtain ⟨y', Y', b3, o3, HY3, rfl, hcy3, _, _⟩ := byte_at HX3.out.2.1 hxc
            obtain rfl := Option.some.inj (HY3.out.1.symm.trans H1.out)
            rw [HY3.out.2.1] at hcy3
            have hfz2 : ∀ j, w2.frozen? ⟨H, j, none⟩ = false := by obtain ⟨cur, E, hw⟩ := hLo2; exact freeOf hw
            have hH2 := hLo2.lt
            have HR2 := Lib.hid hR2; have HLo2 := Lib.hid hLo2; have HCh2 := Lib.hid hCh2
            have HSC := Lib.hid (scaled_any (some ⟨b3, o3, none⟩) x'.length C3 x' f3 (Fld.mul 1 (Fld.inv y')) w2.drew (byteL.sl_ext HX3.out.2.1 (Chg.refl [] w2).drew) (by omega))
            rw [HROW.out] at HSC
            clear hR2 hLo2 hCh2 hfz hcx hcx2 hcy hy1 hy2 HX HX2 HR HLo HCH
            go_wp2_with fail
            go_cut [] (fun w4 => Rws w4 H off la (prep R rk p row) ∧ Loose w4 H ∧ Chg [H] w w4)
            case first =>
              go_region_law (first | (go_simp; go_at_call 86; refine (div_any 1 y' _).mono ?_; rintro e w' ⟨rfl, rfl⟩) | (go_simp; go_at_call 88; refine HSC.out.mono ?_; rintro e w3 ⟨a3, c3, f4, rfl, hs3, hf3, hc3⟩; have hcx4 := (hc3.facts.1 H (off + rk) hH2).trans hcx3; have hfz3 := fun j => (hc3.facts.2 H j hH2).trans (hfz2 j); have HN3 := Lib.hid (And.intro hs3 (And.intro hf3 hc3)); clear hs3 hf3 hc3))
              all_goals
                go_wp2_with fail
                go_meet
                refine ⟨?_, ?_, ?_⟩
                · rw [← HPQ.out row]; exact ((HR2.out.drew hH2).ext hH2 HN3.out.2.2).store hrkla HN3.out.1 (fun h => by have := (HN3.out.2.1.2 H h).1; simp at this; omega)
                · exact (HN3.out.2.2.loose H HLo2.out).setCell _ _
                · exact (HCh2.out.drew.trans0 HN3.out.2.2).setCell _ _ (.inl (by simp))
            case rest =>
            revert wc; intro w4 hcut
            obtain ⟨hR4, hLo4, hCh4⟩ := hcut
            clear hfz2 hcx3 hcy3 HR2 HLo2 HCh2 HS0 HX3 HY3 HSC HPQ HAT
            rw [← elimTo_zero (prep R rk p row) rk c row] at hR4
            have HR4 := Lib.hid hR4; have HLo4 := Lib.hid hLo4; have HCh4 := Lib.hid hCh4
            clear hR4 hLo4 hCh4
            go_wp2_with fail
            go_loopw [65] (fun vk w5 => ∃ (k : Nat) (W5 : World), W5 = w5 ∧ k ≤ la ∧ vk = .int .i64 k ∧ Rws w5 H off la (elimTo (prep R rk p row) rk c row k) ∧ Loose w5 H ∧ Chg [H] w w5) (fun vk _ => la - (intOf vk).toNat)
            case atStart => exact ⟨0, _, rfl, by omega, rfl, HR4.out, HLo4.out, HCh4.out⟩
            case round =>
              obtain ⟨k, w5, rfl, hk, rfl, hR5, hLo5, hCh5⟩ := hrel
              by_cases hkl : k < la
              · obtain ⟨x6, A6, C6, f6, HX6, hcx6⟩ := hR5.at hkl
                have H6 := Lib.hid (show (prep R rk p row)[k]? = some x6 from (elimTo_at (Nat.le_refl k)).symm.trans HX6.out.1)
                have hxm6 := HWP.out.at H6.out
                by_cases hkr : k = rk
                · have hkk : ((k : Int) != (rk : Int)) = false := by simp [hkr]
                  have HS := Lib.hid (elimTo_skip (rank := rk) (c := c) (row := row) H6.out (.inl hkr))
                  have HN := Lib.hid (And.intro hR5 (And.intro hLo5 hCh5))
                  have HKR := Lib.hid hkr
                  have HXM6 := Lib.hid hxm6
                  clear hR5 hLo5 hCh5 hkr hxm6
                  go_wp2_with fail
                  go_roundw
                  case rel => exact ⟨k + 1, _, rfl, by omega, by go_num, by rw [HS.out]; exact HN.out.1, HN.out.2.1, HN.out.2.2⟩
                  case measure => simp [intOf]; omega
                · have hkk : ((k : Int) != (rk : Int)) = true := by rw [bne_iff_ne]; omega
                  obtain ⟨y6, Y6, b6, o6, HY6, rfl, hcy6, hy61, hy62⟩ := byte_at HX6.out.2.1 (i := c) (by omega)
                  have hGD := Lib.hid (show x6.getD c 0 = y6 by rw [List.getD_eq_getElem?_getD, HY6.out.1]; rfl)
                  by_cases hy6 : y6 = 0
                  · have hY6 : (Y6 != 0) = false := by rw [HY6.out.2.1, hy6]; rfl
                    have HS := Lib.hid (elimTo_skip (rank := rk) (c := c) (row := row) H6.out (.inr (clr_zero HLL.out hxm6 (by rw [hGD.out, hy6]))))
                    have HN := Lib.hid (And.intro hR5 (And.intro hLo5 hCh5))
                    have hxc6 : c < x6.length := by omega
                    have HXM6 := Lib.hid hxm6
                    clear hR5 hLo5 hCh5 hy6 hxm6
                    go_wp2_with fail
                    go_roundw
                    case rel => exact ⟨k + 1, _, rfl, by omega, by go_num, by rw [HS.out]; exact HN.out.1, HN.out.2.1, HN.out.2.2⟩
                    case measure => simp [intOf]; omega
                  · have hY6 : (Y6 != 0) = true := by rw [HY6.out.2.1]; exact u8_ne hy6
                    have H7 := Lib.hid (elimTo_rank (c := c) (k := k) (row := row) (HPR.out row))
                    obtain ⟨x7, A7, C7, f7, HX7, hcx7⟩ := hR5.at hrkla
                    obtain rfl := Option.some.inj (HX7.out.1.symm.trans H7.out)
                    have hs6 := HX6.out.2.1; have hs7 := HX7.out.2.1
                    rw [hxm6] at hs6 hcx6; rw [HLL.out] at hs7 hcx7
                    rw [HY6.out.2.1] at hcy6
                    have hYY : (((y6.toNat : Nat) : Int) != 0) = true := u8_ne hy6
                    have HSU := Lib.hid (sum_any (some ⟨b6, o6, none⟩) A7 m C6 C7 x6 x7 f6 f7 y6 w5.drew (byteL.sl_ext hs6 (Chg.refl [] w5).drew) (byteL.sl_ext hs7 (Chg.refl [] w5).drew) (by omega))
                    have HCL := Lib.hid (show addL x6 (scaleL x7 y6) = clr c x7 x6 by unfold clr; rw [hGD.out])
                    rw [HCL.out] at HSU
                    have HNX := Lib.hid (show (elimTo (prep R rk p x7) rk c x7 k).set k (clr c x7 x6) = elimTo (prep R rk p x7) rk c x7 (k + 1) by rw [← elimTo_next H6.out, if_neg hkr])
                    generalize clr c x7 x6 = z at HSU HNX
                    have hfz5 : ∀ j, w5.frozen? ⟨H, j, none⟩ = false := by obtain ⟨cur, E, hw⟩ := hLo5; exact freeOf hw
                    have hH5 := hLo5.lt
                    have HN5 := Lib.hid (And.intro hR5 (And.intro hLo5 hCh5))
                    have HKR := Lib.hid hkr
                    have hcm : c < m := by omega
                    have HXM6 := Lib.hid hxm6
                    clear hR5 hLo5 hCh5 hs6 hs7 hxm6 hkr
                    go_wp2_with fail
                    go_region_law (go_simp; go_at_call 89; refine HSU.out.mono ?_; rintro e w6 ⟨a8, c8, f8, rfl, hs8, hf8, hc8⟩; have hcx8 := (hc8.facts.1 H (off + k) hH5).trans hcx6; have hfz8 := fun j => (hc8.facts.2 H j hH5).trans (hfz5 j); have HN8 := Lib.hid (And.intro hs8 (And.intro hf8 hc8)); clear hs8 hf8 hc8)
                    all_goals
                      go_wp2_with fail
                      go_roundw
                      case rel =>
                        refine ⟨k + 1, _, rfl, by omega, by go_num, ?_, ?_, ?_⟩
                        · rw [← HNX.out]; exact ((HN5.out.1.drew hH5).ext hH5 HN8.out.2.2).store hkl HN8.out.1 (fun h => by have := (HN8.out.2.1.2 H h).1; simp at this; omega)
                        · exact (HN8.out.2.2.loose H HN5.out.2.1).setCell _ _
                        · exact (HN5.out.2.2.drew.trans0 HN8.out.2.2).setCell _ _ (.inl (by simp))
                      case measure => simp [intOf]; omega
              · obtain rfl : k = la := by omega
                rw [elimTo_all (by have := HPL.out; have := HLR.out; omega)] at hR5
                have HN := Lib.hid (And.intro hR5 (And.intro hLo5 hCh5))
                clear hR5 hLo5 hCh5
                go_wp2_with fail
                go_roundw
                case rel => exact ⟨c + 1, by omega, by go_num, by rw [HG.out]; go_num, by rw [HG.out]; exact HN.out.1, HN.out.2.1, HN.out.2.2⟩
                case measure => simp [intOf]; omega
        · obtain rfl : p = la := by omega
          have HG := Lib.hid (HN.out.trans (gstep_none (HF.out.trans (fnd_end (Nat.le_of_eq HLR.out.symm))) (Nat.le_of_eq HLR.out.symm)))
          go_wp2_with fail
          go_roundw
          case rel => exact ⟨c + 1, by omega, by go_num, by rw [HG.out], by rw [HG.out]; exact HR.out, HLo.out, HCH.out⟩
          case measure => simp [intOf]; omega
    · obtain rfl : c = n := by omega
      have HN := Lib.hid (And.intro hR (And.intro hLo hch))
      clear hR hLo hch
      go_wp2_with fail
      go_ret
      exact ⟨rfl, HN.out⟩
end Go.Proofs.Ytjnclggpaekdfaa
