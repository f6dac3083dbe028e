
/- The reference's l1Step: rows brought into steps. -/
import Derived.Test.YtjnclggpaekdfaaGau
import Derived.Test.YtjnclggpaekdfaaMix
import Derived.Test.YtjnclggpaekdfaaNum
import Derived.Deep.DeepCutAuto
namespace Go.Proofs.Ytjnclggpaekdfaa
open Go.RowKit

set_option maxRecDepth 100000 in
set_option maxHeartbeats 4000000 in
theorem l1Step_any (H off la ca n m : Nat) (rows : List (List UInt8)) (w : World) (hr : Rws w H off la rows) (hl : Loose w H) (hw : RowKit.Hid (Wide m rows)) (hnm : n ≤ m) (hm : m ≤ 17) (hla : la ≤ 16) :
    Calls Try.prog 85 #[.slice (some ⟨H, off, none⟩) la ca, .int .i64 n] w fun e w' => e = .returned (.int .i64 ((gauss n rows).2 : Int)) ∧ Rws w' H off la (gauss n rows).1 ∧ Loose w' H ∧ Chg [H] w w' := by
  have HLEN := Lib.hid hr.1
  go_enter Try.func85, Try.ntmps85
  go_wp2_with fail
  go_loopw [5, 6] (fun vr vc wr => ∃ (c : Nat) (Wr : World), Wr = wr ∧ c ≤ n ∧ vc = .int .i64 c ∧ vr = .int .i64 ((gauss c rows).2 : Int) ∧ Rws wr H off la (gauss c rows).1 ∧ Loose wr H ∧ Chg [H] w wr) (fun _ vc _ => n - (intOf vc).toNat)
  case atStart => exact ⟨0, _, rfl, by omega, rfl, rfl, hr, hl, Chg.refl _ _⟩
  case round =>
    clear hr hl
    obtain ⟨c, wr, rfl, hc, rfl, rfl, hR, hLo, hch⟩ := hrel
    by_cases hlt : c < n
    · obtain ⟨h1, h2, h3, h4⟩ := gauss_inv hw.out c
      by_cases hfull : (gauss c rows).2 = la
      · have HG := Lib.hid (gauss_full hw.out (hfull.trans HLEN.out) n hc)
        have hrl : ¬ (((gauss c rows).2 : Int) < (la : Int)) := by omega
        have HN := Lib.hid (And.intro hR (And.intro hLo hch))
        clear h1 h2 h3 h4 hR hLo hch
        generalize gauss c rows = G at *
        have HFU := Lib.hid hfull
        clear hfull
        go_wp2_with fail
        go_ret
        exact ⟨by rw [HG.out]; rfl, by rw [HG.out]; exact HN.out.1, HN.out.2⟩
      have hrl : (((gauss c rows).2 : Int) < (la : Int)) := by have := HLEN.out; omega
      have HN := Lib.hid (gauss_next c rows)
      generalize gauss c rows = G at *
      obtain ⟨R, rk⟩ := G
      simp only at hR h1 h2 h3 h4 HN hrl ⊢
      have HLR := Lib.hid (show la = R.length by rw [h1, ← HLEN.out])
      have hrkla : rk < la := by omega
      have HW := Lib.hid h2
      have hHs := hLo.lt
      have HR := Lib.hid hR; have HLo := Lib.hid hLo; have HCH := Lib.hid hch
      clear hR h1 h2 h3 hLo hch h4 hfull
      go_wp2_with fail
      go_loopw [7] (fun vp wr' => ∃ p : Nat, rk ≤ p ∧ p ≤ la ∧ vp = .int .i64 p ∧ RowKit.Hid (fnd R c rk = fnd R c p) ∧ wr = wr') (fun vp _ => la - (intOf vp).toNat)
      case atStart => exact ⟨rk, by omega, by omega, rfl, Lib.hid rfl, rfl⟩
      case round =>
        obtain ⟨p, hp1, hp2, rfl, HF, rfl⟩ := hrel
        by_cases hp : p < la
        · obtain ⟨x, A, C, f, HX, hcx⟩ := HR.out.at hp
          have hxm := HW.out.at HX.out.1
          have hxc : c < x.length := by omega
          have hxl : x.length ≤ 17 := by omega
          have HXM := Lib.hid hxm
          obtain ⟨y, Y, b, o, HY, rfl, hcy, hy1, hy2⟩ := byte_at HX.out.2.1 hxc
          have HC := Lib.hid (cel_at HX.out.1 HY.out.1)
          clear hxm
          by_cases hy : y = 0
          · have hY : (Y == 0) = true := by rw [HY.out.2.1, hy]; rfl
            have HF2 := Lib.hid (HF.out.trans (fnd_zero (by have := HLR.out; omega) (HC.out.trans hy)))
            clear hy
            go_wp2_with fail
            go_roundw
            case rel => exact ⟨p + 1, by omega, by omega, by go_num, HF2, trivial⟩
            case measure => simp [intOf]; omega
          · have hY : (Y == 0) = false := by rw [HY.out.2.1]; exact u8_ne2 hy
            have HF2 := Lib.hid (HF.out.trans (fnd_here (by have := HLR.out; omega) (by rw [HC.out]; exact hy)))
            obtain ⟨x2, A2, C2, f2, HX2, hcx2⟩ := HR.out.at (i := rk) (by omega)
            have hfz : ∀ j, wr.frozen? ⟨H, j, none⟩ = false := by obtain ⟨cur, E, hw⟩ := HLo.out; exact freeOf hw
            have HROW := Lib.hid (show scaleL x (Fld.inv y) = lead R p c from lead_eq HX.out.1 HC.out)
            have HLL := Lib.hid (lead_length HW.out (p := p) (by have := HLR.out; omega) c)
            have HG := Lib.hid (HN.out.trans (gstep_some HF2.out (show p < R.length by have := HLR.out; omega)))
            simp only at HG
            have HWP := Lib.hid (HW.out.prep (rank := rk) (p := p) (by have := HLR.out; omega) HLL.out)
            unfold stepAt at HG
            have HPL := Lib.hid (prep_length R rk p (lead R p c))
            have HPR := Lib.hid (fun row => (show (prep R rk p row)[rk]? = some row by unfold prep; rw [List.getElem?_set_self (by rw [List.length_set]; have := HLR.out; omega)]))
            generalize lead R p c = row at HROW HLL HG HWP HPL
            have HPQ := Lib.hid (show (R.set p x2).set rk row = prep R rk p row by unfold prep; rw [List.getD_eq_getElem?_getD, HX2.out.1]; rfl)
            have HS0 := Lib.hid (HR.out.store hp HX2.out.2.1 HX2.out.2.2)
            have H1 := Lib.hid HY.out.1
            have hpe : ((p : Int) == (la : Int)) = false := by rw [beq_eq_false_iff_ne]; omega
            have HXX := Lib.hid (byteL.sl_chg HX.out.2.1 ((Chg.refl [H] wr).setCell ⟨H, off + p, none⟩ (.slice A2 x2.length C2) (.inl (by simp))) (fun b hb h => HX.out.2.2 (by simp at h; subst h; exact hb)))
            go_upto_region 11 with fail
            refine wp_gen (F := fun w2 => Rws w2 H off la (R.set p x2) ∧ byteL.sl w2 (some ⟨b, o, none⟩) x.length C x f ∧ Loose w2 H ∧ Chg [H] w w2) ⟨HS0.out, HXX.out, HLo.out.setCell _ _, HCH.out.setCell _ _ (.inl (by simp))⟩ ?_
            rintro w2 ⟨hR2, hX2, hLo2, hCh2⟩
            obtain ⟨y', Y', b3, o3, HY3, e3, hcy3, _, _⟩ := byte_at hX2 hxc
            obtain ⟨rfl, rfl⟩ : b = b3 ∧ o = o3 := by simpa using e3
            obtain rfl := Option.some.inj (HY3.out.1.symm.trans H1.out)
            rw [HY3.out.2.1] at hcy3
            obtain ⟨x4, A4, C4, f4, HX4, hcx4⟩ := hR2.at (i := rk) (by omega)
            have hfz2 : ∀ j, w2.frozen? ⟨H, j, none⟩ = false := by obtain ⟨cur, E, hw⟩ := hLo2; exact freeOf hw
            have hH2 := hLo2.lt
            have HR2 := Lib.hid hR2; have HLo2 := Lib.hid hLo2; have HCh2 := Lib.hid hCh2
            have HSC := Lib.hid (l1Scale_any (some ⟨b, o, none⟩) x.length C x f (Fld.inv y') w2 hX2 (by omega))
            rw [HROW.out] at HSC
            clear hR2 hLo2 hCh2 hfz hcx hcx2 hcy hy1 hy2 HX HX2 HR HLo HCH e3 hX2
            go_wp2_with fail
            refine (l1Inv_any y' _).mono ?_; rintro e w' ⟨rfl, rfl⟩
            go_wp2_with fail
            refine HSC.out.mono ?_; rintro e w3 ⟨a3, c3, f5, rfl, hs3, hf3, hc3⟩
            have hcx5 := (hc3.facts.1 H (off + rk) hH2).trans hcx4; have hfz3 := fun j => (hc3.facts.2 H j hH2).trans (hfz2 j); have HN3 := Lib.hid (And.intro hs3 (And.intro hf3 hc3)); clear hs3 hf3 hc3
            go_upto_region 12 with fail
            refine wp_gen (F := fun w4 => Rws w4 H off la (prep R rk p row) ∧ Loose w4 H ∧ Chg [H] w w4) ⟨?_, ?_, ?_⟩ ?_
            · rw [← HPQ.out]; exact (HR2.out.ext hH2 HN3.out.2.2).store hrkla HN3.out.1 (fun h => by have := (HN3.out.2.1.2 H h).1; omega)
            · exact (HN3.out.2.2.loose H HLo2.out).setCell _ _
            · exact (HCh2.out.trans0 HN3.out.2.2).setCell _ _ (.inl (by simp))
            rintro w4 ⟨hR4, hLo4, hCh4⟩
            clear hfz2 hcx4 hcx5 hfz3 hcy3 HR2 HLo2 HCh2 HS0 HX4 HY3 HSC HPQ HN3 HXX
            rw [← elimTo_zero (prep R rk p row) rk c row] at hR4
            have HR4 := Lib.hid hR4; have HLo4 := Lib.hid hLo4; have HCh4 := Lib.hid hCh4
            clear hR4 hLo4 hCh4
            go_wp2_with fail
            go_loopw [9] (fun vk w5 => ∃ (k : Nat) (W5 : World), W5 = w5 ∧ k ≤ la ∧ vk = .int .i64 k ∧ Rws w5 H off la (elimTo (prep R rk p row) rk c row k) ∧ Loose w5 H ∧ Chg [H] w w5) (fun vk _ => la - (intOf vk).toNat)
            case atStart => exact ⟨0, _, rfl, by omega, rfl, HR4.out, HLo4.out, HCh4.out⟩
            case round =>
              obtain ⟨k, w5, rfl, hk, rfl, hR5, hLo5, hCh5⟩ := hrel
              by_cases hkl : k < la
              · obtain ⟨x6, A6, C6, f6, HX6, hcx6⟩ := hR5.at hkl
                have H6 := Lib.hid (show (prep R rk p row)[k]? = some x6 from (elimTo_at (Nat.le_refl k)).symm.trans HX6.out.1)
                have hxm6 := HWP.out.at H6.out
                by_cases hkr : k = rk
                · have hkk : ((k : Int) != (rk : Int)) = false := by simp [hkr]
                  have HS := Lib.hid (elimTo_skip (rank := rk) (c := c) (row := row) H6.out (.inl hkr))
                  have HN := Lib.hid (And.intro hR5 (And.intro hLo5 hCh5))
                  have HKR := Lib.hid hkr
                  have HXM6 := Lib.hid hxm6
                  clear hR5 hLo5 hCh5 hkr hxm6
                  go_wp2_with fail
                  go_roundw
                  case rel => exact ⟨k + 1, _, rfl, by omega, by go_num, by rw [HS.out]; exact HN.out.1, HN.out.2.1, HN.out.2.2⟩
                  case measure => simp [intOf]; omega
                · have hkk : ((k : Int) != (rk : Int)) = true := by rw [bne_iff_ne]; omega
                  obtain ⟨y6, Y6, b6, o6, HY6, rfl, hcy6, hy61, hy62⟩ := byte_at HX6.out.2.1 (i := c) (by omega)
                  have hGD := Lib.hid (show x6.getD c 0 = y6 by rw [List.getD_eq_getElem?_getD, HY6.out.1]; rfl)
                  have H7 := Lib.hid (elimTo_rank (c := c) (k := k) (row := row) (HPR.out row))
                  obtain ⟨x7, A7, C7, f7, HX7, hcx7⟩ := hR5.at hrkla
                  obtain rfl := Option.some.inj (HX7.out.1.symm.trans H7.out)
                  rw [HY6.out.2.1] at hcy6
                  have HSU := Lib.hid (l1Scale_any A7 x7.length C7 x7 f7 y6 w5.drew (byteL.sl_ext HX7.out.2.1 (Chg.refl [] w5).drew) (by have := HLL.out; omega))
                  have HCL := Lib.hid (show addL x6 (scaleL x7 y6) = clr c x7 x6 by unfold clr; rw [hGD.out])
                  have HNX := Lib.hid (show (elimTo (prep R rk p x7) rk c x7 k).set k (clr c x7 x6) = elimTo (prep R rk p x7) rk c x7 (k + 1) by rw [← elimTo_next H6.out, if_neg hkr])
                  have hfz5 : ∀ j, w5.frozen? ⟨H, j, none⟩ = false := by obtain ⟨cur, E, hw⟩ := hLo5; exact freeOf hw
                  have hH5 := hLo5.lt
                  have HN5 := Lib.hid (And.intro hR5 (And.intro hLo5 hCh5))
                  have HKR := Lib.hid hkr
                  have hcm : c < x6.length := by omega
                  have HXM6 := Lib.hid hxm6
                  have HX66 := Lib.hid (fun (w8 : World) (h : Chg [] w5.drew w8) (a8 : Option Addr) (c8 : Nat) (f8 : List Nat) (hs : byteL.sl w8 a8 (scaleL x7 y6).length c8 (scaleL x7 y6) f8) => l1Add_any (some ⟨b6, o6, none⟩) a8 x6.length C6 (scaleL x7 y6).length c8 x6 (scaleL x7 y6) f6 f8 w8 (byteL.sl_ext HX6.out.2.1 ((Chg.refl [] w5).drew.trans0 h)) hs (by rw [scaleL_length, HLL.out, hxm6]; exact Nat.le_refl _) (by omega))
                  rw [HCL.out] at HX66
                  generalize clr c x7 x6 = z at HX66 HNX
                  clear hR5 hLo5 hCh5 hxm6 hkr HCL
                  go_wp2_with fail
                  go_region_law (first | (go_simp; go_at_call 78; refine HSU.out.mono ?_; rintro e w6 ⟨a8, c8, f8, rfl, hs8, hf8, hc8⟩; have hcx8 := (hc8.facts.1 H (off + k) hH5).trans hcx6; have hfz8 := fun j => (hc8.facts.2 H j hH5).trans (hfz5 j); have HN8 := Lib.hid (And.intro hs8 hc8); clear hs8 hf8 hc8) | (go_simp; go_at_call 77; refine (HX66.out _ HN8.out.2 _ _ _ HN8.out.1).mono ?_; rintro e w9 ⟨a9, c9, f9, rfl, hs9, hf9, hc9⟩; have hH6 := Nat.lt_of_lt_of_le hH5 HN8.out.2.size; have hcx9 := (hc9.facts.1 H (off + k) hH6).trans hcx8; have hfz9 := fun j => (hc9.facts.2 H j hH6).trans (hfz8 j); have HN9 := Lib.hid (And.intro hs9 (And.intro hf9 (HN8.out.2.trans0 hc9))); clear hs9 hf9 hc9))
                  all_goals
                    go_wp2_with fail
                    go_roundw
                    case rel =>
                      refine ⟨k + 1, _, rfl, by omega, by go_num, ?_, ?_, ?_⟩
                      · rw [← HNX.out]; exact ((HN5.out.1.drew hH5).ext hH5 HN9.out.2.2).store hkl HN9.out.1 (fun h => by have := (HN9.out.2.1.2 H h).1; omega)
                      · exact (HN9.out.2.2.loose H HN5.out.2.1).setCell _ _
                      · exact (HN5.out.2.2.drew.trans0 HN9.out.2.2).setCell _ _ (.inl (by simp))
                    case measure => simp [intOf]; omega
              · obtain rfl : k = la := by omega
                rw [elimTo_all (by have := HPL.out; have := HLR.out; omega)] at hR5
                have HN := Lib.hid (And.intro hR5 (And.intro hLo5 hCh5))
                clear hR5 hLo5 hCh5
                go_wp2_with fail
                go_roundw
                case rel => exact ⟨c + 1, _, rfl, by omega, by go_num, by rw [HG.out]; go_num, by rw [HG.out]; exact HN.out.1, HN.out.2.1, HN.out.2.2⟩
                case measure => simp [intOf]; omega
        · obtain rfl : p = la := by omega
          have HG := Lib.hid (HN.out.trans (gstep_none (HF.out.trans (fnd_end (Nat.le_of_eq HLR.out.symm))) (Nat.le_of_eq HLR.out.symm)))
          have hpe : ((p : Int) == (p : Int)) = true := by simp
          go_wp2_with fail
          go_roundw
          case rel => exact ⟨c + 1, _, rfl, by omega, by go_num, by rw [HG.out], by rw [HG.out]; exact HR.out, HLo.out, HCH.out⟩
          case measure => simp [intOf]; omega
    · obtain rfl : c = n := by omega
      have HN := Lib.hid (And.intro hR (And.intro hLo hch))
      clear hR hLo hch
      go_wp2_with fail
      go_ret
      exact ⟨rfl, HN.out⟩
end Go.Proofs.Ytjnclggpaekdfaa
