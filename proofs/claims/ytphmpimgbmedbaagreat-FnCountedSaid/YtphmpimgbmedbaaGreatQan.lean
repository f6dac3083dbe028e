/- Several texts in one. -/
import Derived.Deep.DeepCutAuto
import Derived.Test.YtphmpimgbmedbaaGreatQam
set_option maxRecDepth 100000
set_option maxHeartbeats 8000000
namespace Go.Proofs.YtphmpimgbmedbaaGreat
open Go.RowKit
open Go.Lib (hid)
theorem cut_len {L : List RP} {a k m : Nat} (hL : a + L.length = m) (hk : k ≤ m) (ha : a ≤ k) : (L.take (k - a)).length = k - a ∧ (L.drop (k - a)).length = m - k := by
 rw [List.length_take, List.length_drop]; omega
theorem q8t : ∀ (N : Nat) (b off n cap A m B : Nat) (X L R Y : List RP) (w : World) (_ : Hid CmpOK) (_ : q0y recL w b off (X ++ (L ++ (R ++ Y)))) (_ : n = (X ++ (L ++ (R ++ Y))).length) (_ : n ≤ 1000000) (_ : X.length = A) (_ : A + L.length = m) (_ : m + R.length = B) (_ : A < m) (_ : m < B) (_ : Srt ltP L) (_ : Srt ltP R) (_ : B - A ≤ N),
  Calls Tryz.prog 272 #[.slice (some ⟨b, off, none⟩) n cap, .int .i64 A, .int .i64 m, .int .i64 B, .func (.func 170) #[] #[]] w fun e w' => e = .returned (.tuple #[]) ∧ ∃ M, q0y recL w' b off (X ++ (M ++ Y)) ∧ Srt ltP M ∧ Stab ltP (L ++ R) M ∧ Chg [b] w w'
 | 0 => fun b off n cap A m B X L R Y w HCMP hr hn hm hX hL hR h1 h2 sL sR hN => absurd hN (by omega)
 | N + 1 => by
  intro b off n cap A m B X L R Y w HCMP hr hn hm hX hL hR h1 h2 sL sR hN
  by_cases e1 : m = A + 1
  ·obtain ⟨x, rfl⟩ : ∃ x, L = [x] := List.length_eq_one_iff.1 (by omega)
   exact symL_any b off n cap A m B X R Y x [x] rfl w HCMP (by simpa using hr) (by simpa using hn) hm hX e1.symm hR h2 sR
  by_cases e2 : B = m + 1
  ·obtain ⟨x, rfl⟩ : ∃ x, R = [x] := List.length_eq_one_iff.1 (by omega)
   exact symR_any b off n cap A m B X L Y x [x] rfl w HCMP (by simpa using hr) (by simpa using hn) hm hX hL e2.symm (by omega) sL
  have IH := hid (fun A m B X L R Y w => q8t N b off n cap A m B X L R Y w HCMP)
  have hBn : B ≤ n := by rw [hn]; simp only [List.length_append]; omega
  obtain ⟨mid, hmid⟩ : ∃ mid, mid = (A + B) / 2 := ⟨_, rfl⟩
  have hcv : ((A : Int) + (B : Int)) / 2 = (mid : Int) := by omega
  obtain ⟨nn, hnn⟩ : ∃ nn, nn = mid + m := ⟨_, rfl⟩
  have hnn1 : (mid : Int) + (m : Int) = (nn : Int) := by omega
  have hmb : A < mid ∧ mid < B ∧ 2 * mid ≤ A + B ∧ A + B ≤ 2 * mid + 1 := by omega
  have HMB := hid hmb
  have HX := hid hX; have HLL := hid hL; have HRL := hid hR; have HSL := hid sL; have HSR := hid sR; have HNN := hid hnn; have HN := hid hN
  have hpl : (X ++ (L ++ (R ++ Y))).length = n := hn.symm
  have HAN0 := hid (fun (s0 r0 : Nat) (hsr : (mid < m ∧ s0 = mid + m - B ∧ B ≤ mid + m ∧ r0 = mid) ∨ (m ≤ mid ∧ s0 = A ∧ r0 = m)) => sym_anti (B := Y) q2p hX hL hR sL sR hmb.1 hmb.2.1 hsr hmb.2.2)
  have HCT0 := hid (fun (s0 r0 s : Nat) (hsr : (mid < m ∧ s0 = mid + m - B ∧ B ≤ mid + m ∧ r0 = mid) ∨ (m ≤ mid ∧ s0 = A ∧ r0 = m)) (h0 : s0 ≤ s) (h1 : s ≤ r0) hbd => sym_cut (A := X) (B := Y) (s := s) q2p hX hL hR sL sR hmb.1 hmb.2.1 hsr hmb.2.2 h0 h1 hbd)
  obtain ⟨ps, hps⟩ : ∃ ps, ps = X ++ (L ++ (R ++ Y)) := ⟨_, rfl⟩
  rw [← hps] at hr hpl HAN0 HCT0
  have HROW0 := hid hr; have HPL := hid hpl; have HPS := hid hps
  have hm0 : ((m : Int) - (A : Int) == 1) = false := by rw [beq_eq_false_iff_ne]; omega
  have hm1 : ((B : Int) - (m : Int) == 1) = false := by rw [beq_eq_false_iff_ne]; omega
  have hb6 : mid ≤ n ∧ nn ≤ 2 * n := by omega
  obtain ⟨hb7, hb8⟩ := hb6
  clear hr hn hX hL hR sL sR hpl hps hmid hnn hmb e1 e2 hN
  go_enter Tryz.func272, Tryz.ntmps272
  go_upto_if 140 with fail
  go_cut [20, 21] from 138 to 146 (fun s20 s21 w2 => ∃ s0 r0 : Nat, s20 = .int .i64 s0 ∧ s21 = .int .i64 r0 ∧ Hid ((mid < m ∧ s0 = mid + m - B ∧ B ≤ mid + m ∧ r0 = mid) ∨ (m ≤ mid ∧ s0 = A ∧ r0 = m)) ∧ w = w2)
  case first =>
   by_cases hmm : mid < m
   ·obtain ⟨s0, hs0⟩ : ∃ s0, s0 = mid + m - B := ⟨_, rfl⟩
    have hsub : (nn : Int) - (B : Int) = (s0 : Int) := by have := HNN.out; have := HMB.out; omega
    have HS0 := hid hs0
    clear hs0
    go_wp2_with fail
    go_meet
    exact ⟨s0, mid, rfl, rfl, .inl ⟨hmm, HS0.out, by have := HMB.out; omega, rfl⟩, rfl⟩
   ·have hgt : ¬ (mid : Int) < (m : Int) := fun h => hmm (Int.ofNat_lt.1 h)
    have HMM := hid (Nat.le_of_not_lt hmm)
    clear hmm hcv hnn1 hb7 hb8 hm0 hm1
    go_wp2_with fail
    go_meet
    exact ⟨A, m, rfl, rfl, .inr ⟨HMM.out, rfl, rfl⟩, rfl⟩
  case rest =>
  revert wc; intro w2 hcut
  obtain ⟨s0, r0, rfl, rfl, HS, rfl⟩ := hcut
  obtain ⟨pp, hpp⟩ : ∃ pp, pp = nn - 1 := ⟨_, rfl⟩
  have hpp1 : (nn : Int) - 1 = (pp : Int) := by have := HNN.out; have := HMB.out; omega
  have HPP := hid hpp
  have hsb : s0 ≤ r0 ∧ r0 ≤ m ∧ r0 ≤ mid ∧ A ≤ s0 := by have := HS.out; have := HMB.out; omega
  have HAN := hid (HAN0.out s0 r0 HS.out)
  have HCT := hid (fun s => HCT0.out s0 r0 s HS.out)
  have hsb1 := hsb.1
  have HSB := hid hsb
  clear hpp hsb HAN0 HCT0
  go_wp2_with fail
  go_loopw [20, 21] (fun vi vj wr => ∃ (i j : Nat) (Wr : World), Wr = wr ∧ s0 ≤ i ∧ i ≤ j ∧ j ≤ r0 ∧ vi = .int .i64 i ∧ vj = .int .i64 j ∧ q0y recL wr b off ps ∧ Hid (Bnd (fun c => !ltAt ltP ps[mid + m - 1 - c]? ps[c]?) s0 r0 i j) ∧ Chg [b] w wr) (fun vi vj _ => (intOf vj).toNat - (intOf vi).toNat)
  case atStart => exact ⟨s0, r0, _, rfl, by omega, by omega, by omega, rfl, rfl, HROW0.out, Bnd.zero _ _ _, Chg.refl _ _⟩
  case round =>
  obtain ⟨i, j, wr, rfl, hi1, hij, hjB, rfl, rfl, hrow, HBD, hch⟩ := hrel
  have HCH := hid hch
  by_cases hlt : i < j
  ·obtain ⟨h, hh⟩ : ∃ h, h = (i + j) / 2 := ⟨_, rfl⟩
   have hh1 : i ≤ h ∧ h < j := by omega
   have hcv2 : ((i : Int) + (j : Int)) / 2 = (h : Int) := by omega
   obtain ⟨z, hz0⟩ : ∃ z, z = pp - h := ⟨_, rfl⟩
   have hb9 : r0 ≤ m ∧ r0 ≤ mid := ⟨HSB.out.2.1, HSB.out.2.2.1⟩
   have hwz : IntKind.i64.wrap ((pp : Int) - (h : Int)) = (z : Int) := by have := HPP.out; have := HNN.out; rw [IntWalk.i64_in _ ⟨by omega, by omega⟩]; omega
   have hzn : z < n := by have h1 := HPP.out; have h2 := HNN.out; have h3 := HS.out; omega
   have HZ := hid (show z = mid + m - 1 - h by have := HPP.out; have := HNN.out; omega)
   obtain ⟨p, hp⟩ : ∃ p, ps[z]? = some p := ⟨_, List.getElem?_eq_getElem (by have := HPL.out; omega)⟩
   obtain ⟨q, hq⟩ : ∃ q, ps[h]? = some q := ⟨_, List.getElem?_eq_getElem (by have := HPL.out; omega)⟩
   have hz := hp
   have hn1 : h < n := by omega
   have hrd := q4i hrow
   clear hch hrow hh hz0 hb9
   cases hl : ltP p q
   ·have HNP := hid (show (fun c => !ltAt ltP ps[mid + m - 1 - c]? ps[c]?) h = true by dsimp only; rw [show mid + m - 1 - h = z by have := HZ.out; omega, hz, hq]; simp only [ltAt]; rw [hl]; rfl)
    go_wp2_with fail
    obtain ⟨c1, r1, -, k1⟩ := q1o hrd hp
    obtain ⟨c2, r2, -, k2⟩ := q1o hrd hq
    have HK := hid (And.intro k1 k2); have HRD := hid hrd; have HPQ := hid (And.intro hp hq); have HRC := hid (HCMP.out _ _ _ _ _ _ _ r1 r2)
    clear r1 r2 k1 k2 hp hq hrd
    obtain ⟨SS, HSI, HSO⟩ := q0j (fun w' => q1k w' b (off + (z) * 9) 9 c1 ∧ q1k w' b (off + (h) * 9) 9 c2)
    have hS0 := HSI.out _ HK.out
    refine q0k SS (by kernel_rfl) hS0 ?_
    refine rgT 0 hS0 ?_
    refine rgT 1 hS0 ?_
    refine rgT 2 hS0 ?_
    refine rgT 3 hS0 ?_
    refine rgT 4 hS0 ?_
    refine rgT 5 hS0 ?_
    refine rgL 6 hS0 HSO ?_ (hy := fun w' hw => q1h _ 67 rfl rfl q1l Tryz.underlying67 hw.1)
    refine rgT 7 hS0 ?_
    refine rgT 8 hS0 ?_
    refine rgT 9 hS0 ?_
    refine rgL 10 hS0 HSO ?_ (hy := fun w' hw => q1h _ 67 rfl rfl q1l Tryz.underlying67 hw.2)
    refine q0d 11 rfl (by kernel_rfl) (fun K hK => ?_)
    go_simp
    go_at_call 170
    refine HRC.out.mono ?_
    rintro e w1 ⟨r, rfl, hrr, hc1⟩
    have hr0 := cmp_r hl hrr
    have HR1 := hid (HRD.out.ext hc1); have HC1 := hid (HCH.out.drew.trans0 hc1); have HK1 := hid (And.intro (HK.out.1.ext hc1 HRD.out.lt) (HK.out.2.ext hc1 HRD.out.lt))
    clear hc1 hrr
    go_wp2_with fail
    refine hK.out _ _ (HSI.out _ HK1.out) (fun hS1 => ?_)
    clear hK K
    try simp only [Act.put, pA, pB, pC]
    refine rgT 12 hS1 ?_
    refine rgT 13 hS1 ?_
    refine wpAnyH_done (by kernel_rfl) ?_ _
    have hrr := hr0
    go_wp2_with fail
    have HB2 := hid (HBD.out.yes HAN.out (by omega) HNP.out)
    go_roundw
    case rel => exact ⟨h + 1, j, _, rfl, by omega, by omega, by omega, by go_num, rfl, HR1.out, HB2, HC1.out⟩
    case measure => simp [intOf]; omega
   ·have HNP := hid (show (fun c => !ltAt ltP ps[mid + m - 1 - c]? ps[c]?) h = false by dsimp only; rw [show mid + m - 1 - h = z by have := HZ.out; omega, hz, hq]; simp only [ltAt]; rw [hl]; rfl)
    go_wp2_with fail
    obtain ⟨c1, r1, -, k1⟩ := q1o hrd hp
    obtain ⟨c2, r2, -, k2⟩ := q1o hrd hq
    have HK := hid (And.intro k1 k2); have HRD := hid hrd; have HPQ := hid (And.intro hp hq); have HRC := hid (HCMP.out _ _ _ _ _ _ _ r1 r2)
    clear r1 r2 k1 k2 hp hq hrd
    obtain ⟨SS, HSI, HSO⟩ := q0j (fun w' => q1k w' b (off + (z) * 9) 9 c1 ∧ q1k w' b (off + (h) * 9) 9 c2)
    have hS0 := HSI.out _ HK.out
    refine q0k SS (by kernel_rfl) hS0 ?_
    refine rgT 0 hS0 ?_
    refine rgT 1 hS0 ?_
    refine rgT 2 hS0 ?_
    refine rgT 3 hS0 ?_
    refine rgT 4 hS0 ?_
    refine rgT 5 hS0 ?_
    refine rgL 6 hS0 HSO ?_ (hy := fun w' hw => q1h _ 67 rfl rfl q1l Tryz.underlying67 hw.1)
    refine rgT 7 hS0 ?_
    refine rgT 8 hS0 ?_
    refine rgT 9 hS0 ?_
    refine rgL 10 hS0 HSO ?_ (hy := fun w' hw => q1h _ 67 rfl rfl q1l Tryz.underlying67 hw.2)
    refine q0d 11 rfl (by kernel_rfl) (fun K hK => ?_)
    go_simp
    go_at_call 170
    refine HRC.out.mono ?_
    rintro e w1 ⟨r, rfl, hrr, hc1⟩
    have hr0 := cmp_r hl hrr
    have HR1 := hid (HRD.out.ext hc1); have HC1 := hid (HCH.out.drew.trans0 hc1); have HK1 := hid (And.intro (HK.out.1.ext hc1 HRD.out.lt) (HK.out.2.ext hc1 HRD.out.lt))
    clear hc1 hrr
    go_wp2_with fail
    refine hK.out _ _ (HSI.out _ HK1.out) (fun hS1 => ?_)
    clear hK K
    try simp only [Act.put, pA, pB, pC]
    refine rgT 12 hS1 ?_
    refine rgT 13 hS1 ?_
    refine wpAnyH_done (by kernel_rfl) ?_ _
    have hrr := hr0
    go_wp2_with fail
    have HB2 := hid (HBD.out.no HAN.out (by omega) HNP.out)
    go_roundw
    case rel => exact ⟨i, h, _, rfl, by omega, by omega, by omega, rfl, by go_num, HR1.out, HB2, HC1.out⟩
    case measure => simp [intOf]; omega
  ·obtain rfl : i = j := by omega
   obtain ⟨hc1, hc2⟩ := HCT.out i hi1 hjB HBD.out
   obtain ⟨en, hen⟩ : ∃ en, en = nn - i := ⟨_, rfl⟩
   have hen1 : (nn : Int) - (i : Int) = (en : Int) := by have := HNN.out; have := HSB.out; omega
   have him : i ≤ m ∧ i ≤ mid ∧ A ≤ i ∧ mid - i ≤ B - m := by have := HSB.out; have := HS.out; have := HMB.out; omega
   have HIM := hid him
   have hUL := cut_len HLL.out him.1 him.2.2.1
   have hRL := cut_len (a := i) (m := i + (B - m)) (k := mid) (L := R) (by have := HRL.out; omega) (by omega) him.2.1
   rw [HPS.out] at hrow
   have hsplit : X ++ (L ++ (R ++ Y)) = X ++ (L.take (i - A) ++ (L.drop (i - A) ++ (R.take (mid - i) ++ (R.drop (mid - i) ++ Y)))) := by
    rw [← List.append_assoc (R.take _), List.take_append_drop, ← List.append_assoc (L.take _), List.take_append_drop]
   have HST := hid (show Stab ltP (L ++ R) ((L.take (i - A) ++ L.drop (i - A)) ++ (R.take (mid - i) ++ R.drop (mid - i))) by rw [List.take_append_drop, List.take_append_drop]; exact Stab.refl _)
   rw [hsplit] at hrow
   have sU := HSL.out.take (i - A); have sV := HSL.out.drop (i - A); have sX2 := HSR.out.take (mid - i); have sY2 := HSR.out.drop (mid - i)
   have hUV : AllLe ltP (L.take (i - A)) (L.drop (i - A)) := (Srt.parts (by rw [List.take_append_drop]; exact HSL.out)).2.2
   have hXY : AllLe ltP (R.take (mid - i)) (R.drop (mid - i)) := (Srt.parts (by rw [List.take_append_drop]; exact HSR.out)).2.2
   generalize L.take (i - A) = U at hc1 hc2 hUL hrow HST sU hUV
   generalize L.drop (i - A) = V at hc1 hUL hrow HST sV hUV
   generalize R.take (mid - i) = X2 at hc1 hRL hrow HST sX2 hXY
   generalize R.drop (mid - i) = Y2 at hc2 hRL hrow HST sY2 hXY
   have HMG := hid (fun (M1 M2 : List RP) (s1 : Srt ltP M1) (b1 : Stab ltP (U ++ X2) M1) (s2 : Srt ltP M2) (b2 : Stab ltP (V ++ Y2) M2) => merge_parts q2p hc1 hUV hc2 hXY s1 b1 s2 b2)
   have HUL := hid hUL; have HRL2 := hid hRL; have HROW := hid hrow
   have HSS := hid (And.intro (And.intro sU sV) (And.intro sX2 sY2)); have HEN := hid hen
   have hNL : X.length + (U.length + (V.length + (X2.length + (Y2.length + Y.length)))) = n := by
    have h1 := HPL.out
    rw [HPS.out, hsplit] at h1
    have h2 := HX.out; have h3 := HLL.out; have h4 := HRL.out
    simp only [List.length_append, List.length_take, List.length_drop] at h1
    omega
   have HNL := hid hNL
   have hpre : mid < B ∧ A < mid := ⟨HMB.out.2.1, HMB.out.1⟩
   clear hch hrow hUL hRL hsplit hc1 hc2 hUV hXY sU sV sX2 sY2 him hen hNL HAN HCT HBD HROW0 HPS
   go_upto_region 39 with fail
   go_cut [185] from 178 to 185 (fun s185 w2 => s185 = .bool (decide (i < m ∧ m < en)) ∧ wr = w2)
   case first =>
    by_cases g1 : i < m
    ·by_cases g2 : m < en
     ·go_wp2_with fail
      go_meet
      exact ⟨by simp [g1, g2], rfl⟩
     ·go_wp2_with fail
      go_meet
      exact ⟨by simp [g2], rfl⟩
    ·go_wp2_with fail
     go_meet
     exact ⟨by simp [g1], rfl⟩
   case rest =>
   revert wc; intro w2 hcut
   obtain ⟨rfl, rfl⟩ := hcut
   go_upto_if 185 with fail
   go_cut [] from 185 to 191 (fun w2 => q0y recL w2 b off (X ++ (U ++ (X2 ++ (V ++ (Y2 ++ Y))))) ∧ Chg [b] w w2)
   case first =>
    by_cases g : i < m ∧ m < en
    ·have HS0 := hid (rotR_any b off n cap i m en (X ++ U) V X2 (Y2 ++ Y) (.func (.func 170) #[] #[]) wr (by simpa using HROW.out) (by have := HNL.out; simp only [List.length_append]; omega) hm (by have := HX.out; have := HUL.out; have := HIM.out; rw [List.length_append]; omega) (by have := HUL.out; omega) (by have := HRL2.out; have := HEN.out; have := HNN.out; have := HIM.out; omega) g.1 g.2)
     rw [decide_eq_true g]
     clear g
     go_wp2_with fail
     refine HS0.out.mono ?_
     rintro e w3 ⟨rfl, hr3, hc3⟩
     have HR3 := hid hr3; have HC3 := hid (HCH.out.trans hc3 (fun y hy => .inl hy))
     clear hr3 hc3
     go_wp2_with fail
     go_meet
     exact ⟨by have := HR3.out; simpa using this, HC3.out⟩
    ·have HE := hid (show V = [] ∨ X2 = [] by
      have h1 := HUL.out; have h2 := HRL2.out; have h3 := HEN.out; have h4 := HNN.out; have h5 := HIM.out
      by_cases hv : i < m
      ·exact .inr (List.eq_nil_of_length_eq_zero (by omega))
      ·exact .inl (List.eq_nil_of_length_eq_zero (by omega)))
     rw [decide_eq_false g]
     clear g
     go_wp2_with fail
     go_meet
     refine ⟨?_, HCH.out⟩
     rcases HE.out with h | h
     ·have := HROW.out; rw [h] at this ⊢; simpa using this
     ·have := HROW.out; rw [h] at this ⊢; simpa using this
   case rest =>
   revert wc; intro w4 hcut
   obtain ⟨hr4, hc4⟩ := hcut
   have HR4 := hid hr4; have HC4 := hid hc4
   clear hr4 hc4 HROW HCH
   go_upto_region 41 with fail
   go_cut [199] from 192 to 199 (fun s199 w2 => s199 = .bool (decide (A < i ∧ i < mid)) ∧ w4 = w2)
   case first =>
    by_cases g1 : A < i
    ·by_cases g2 : i < mid
     ·go_wp2_with fail
      go_meet
      exact ⟨by simp [g1, g2], rfl⟩
     ·go_wp2_with fail
      go_meet
      exact ⟨by simp [g2], rfl⟩
    ·go_wp2_with fail
     go_meet
     exact ⟨by simp [g1], rfl⟩
   case rest =>
   revert wc; intro w2 hcut
   obtain ⟨rfl, rfl⟩ := hcut
   go_upto_if 199 with fail
   go_cut [] from 199 to 205 (fun w2 => (∃ M1, q0y recL w2 b off (X ++ (M1 ++ (V ++ (Y2 ++ Y)))) ∧ Srt ltP M1 ∧ Stab ltP (U ++ X2) M1) ∧ Chg [b] w w2)
   case first =>
    by_cases g : A < i ∧ i < mid
    ·have HS0 := hid (IH.out A i mid X U X2 (V ++ (Y2 ++ Y)) w4 HR4.out (by have := HNL.out; simp only [List.length_append]; omega) hm HX.out (by have := HUL.out; have := HIM.out; omega) (by have := HRL2.out; have := HIM.out; omega) g.1 g.2 HSS.out.1.1 HSS.out.2.1 (by have := HN.out; omega))
     rw [decide_eq_true g]
     clear g
     go_wp2_with fail
     refine HS0.out.mono ?_
     rintro e w3 ⟨rfl, M1, hr3, s3, b3, hc3⟩
     have HR3 := hid hr3; have HC3 := hid (HC4.out.trans hc3 (fun y hy => .inl hy)); have HSB3 := hid (And.intro s3 b3)
     clear hr3 hc3 s3 b3
     go_wp2_with fail
     go_meet
     exact ⟨⟨M1, HR3.out, HSB3.out.1, HSB3.out.2⟩, HC3.out⟩
    ·have HE := hid (show U = [] ∨ X2 = [] by
      have h1 := HUL.out; have h2 := HRL2.out; have h5 := HIM.out
      by_cases hv : A < i
      ·exact .inr (List.eq_nil_of_length_eq_zero (by omega))
      ·exact .inl (List.eq_nil_of_length_eq_zero (by omega)))
     rw [decide_eq_false g]
     clear g
     go_wp2_with fail
     go_meet
     refine ⟨⟨U ++ X2, by have := HR4.out; simpa using this, ?_, Stab.refl _⟩, HC4.out⟩
     rcases HE.out with h | h
     ·rw [h]; exact HSS.out.2.1
     ·rw [h, List.append_nil]; exact HSS.out.1.1
   case rest =>
   revert wc; intro w5 hcut
   obtain ⟨⟨M1, hr5, s5, b5⟩, hc5⟩ := hcut
   have HR5 := hid hr5; have HC5 := hid hc5; have HSB5 := hid (And.intro s5 b5)
   have HM1 := hid (show M1.length = U.length + X2.length by have := b5.1; rw [List.length_append] at this; exact this)
   clear hr5 hc5 s5 b5 HR4 HC4
   by_cases g : mid < en ∧ en < B
   ·have HS0 := hid (IH.out mid en B (X ++ M1) V Y2 Y w5 (by have := HR5.out; simpa using this) (by have := HNL.out; have := HM1.out; simp only [List.length_append]; omega) hm (by have := HX.out; have := HM1.out; have := HUL.out; have := HRL2.out; have := HIM.out; rw [List.length_append]; omega) (by have := HUL.out; have := HIM.out; have := HEN.out; have := HNN.out; omega) (by have := HRL2.out; have := HIM.out; have := HEN.out; have := HNN.out; have := HRL.out; omega) g.1 g.2 HSS.out.1.2 HSS.out.2.2 (by have := HN.out; omega))
    obtain ⟨g1, g2⟩ := g
    go_wp2_with fail
    refine HS0.out.mono ?_
    rintro e w3 ⟨rfl, M2, hr3, s3, b3, hc3⟩
    have hmg := HMG.out M1 M2 HSB5.out.1 HSB5.out.2 s3 b3
    have HF := hid (And.intro (show q0y recL w3 b off (X ++ ((M1 ++ M2) ++ Y)) by simpa using hr3) (And.intro hmg.1 (And.intro (HST.out.trans hmg.2) (HC5.out.trans hc3 (fun y hy => .inl hy)))))
    clear hr3 hc3 s3 b3 hmg
    go_wp2_with fail
    go_end0
    exact ⟨rfl, M1 ++ M2, HF.out⟩
   ·have HE := hid (show V = [] ∨ Y2 = [] by
     have h1 := HUL.out; have h2 := HRL2.out; have h5 := HIM.out; have h6 := HEN.out; have h7 := HNN.out
     by_cases hv : mid < en
     ·exact .inr (List.eq_nil_of_length_eq_zero (by omega))
     ·exact .inl (List.eq_nil_of_length_eq_zero (by omega)))
    have s3 : Srt ltP (V ++ Y2) := by
     rcases HE.out with h | h
     ·rw [h]; exact HSS.out.2.2
     ·rw [h, List.append_nil]; exact HSS.out.1.2
    have hmg := HMG.out M1 (V ++ Y2) HSB5.out.1 HSB5.out.2 s3 (Stab.refl _)
    have HF := hid (And.intro (show q0y recL w5 b off (X ++ ((M1 ++ (V ++ Y2)) ++ Y)) by have := HR5.out; simpa using this) (And.intro hmg.1 (And.intro (HST.out.trans hmg.2) HC5.out)))
    clear s3 hmg
    by_cases g1 : mid < en
    ·have g2 : ¬ en < B := fun h => g ⟨g1, h⟩
     clear g
     go_wp2_with fail
     go_end0
     exact ⟨rfl, M1 ++ (V ++ Y2), HF.out⟩
    ·clear g
     go_wp2_with fail
     go_end0
     exact ⟨rfl, M1 ++ (V ++ Y2), HF.out⟩
end Go.Proofs.YtphmpimgbmedbaaGreat
