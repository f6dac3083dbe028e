/- Several texts in one. -/
import Derived.Deep.DeepCutAuto
import Derived.Test.YtphmpimgbmedbaaGreatQal
set_option maxRecDepth 100000
set_option maxHeartbeats 8000000
namespace Go.Proofs.YtphmpimgbmedbaaGreat
open Go.RowKit
open Go.Lib (hid)
theorem symL_any (b off n cap A m B : Nat) (X R Y : List RP) (x : RP) (L : List RP) (hLx : L = [x]) (w : World) (HCMP : Hid CmpOK) (hr : q0y recL w b off (X ++ (x :: (R ++ Y)))) (hn : n = (X ++ (x :: (R ++ Y))).length) (hm : n ≤ 1000000) (hX : X.length = A) (hL : A + 1 = m) (hR : m + R.length = B) (h2 : m < B) (sR : Srt ltP R) :
  Calls Tryz.prog 272 #[.slice (some ⟨b, off, none⟩) n cap, .int .i64 A, .int .i64 m, .int .i64 B, .func (.func 170) #[] #[]] w fun e w' => e = .returned (.tuple #[]) ∧ ∃ M, q0y recL w' b off (X ++ (M ++ Y)) ∧ Srt ltP M ∧ Stab ltP (L ++ R) M ∧ Chg [b] w w' := by
 have hBn : B ≤ n := by rw [hn]; simp only [List.length_append, List.length_cons]; omega
 have HX := hid hX; have HRL := hid hR; have HLX := hid hLx
 have HAN := hid (left_anti (B := Y) (x := x) q2p (show X.length + 1 = m by omega) sR)
 have HSR := hid sR
 have hpl : (X ++ (x :: (R ++ Y))).length = n := hn.symm
 have hxa : (X ++ (x :: (R ++ Y)))[A]? = some x := by rw [q1q (by omega), hX, Nat.sub_self]; rfl
 have hthru : X ++ (x :: (R ++ Y)) = thru X R Y x 0 := by unfold thru; simp
 have HTH := hid hthru
 have HEN := hid (fun (i : Nat) (hi : m ≤ i) (hi2 : i ≤ m + R.length) hb => one_left (A := X) (x := x) (i := i) (B := Y) q2p (show X.length + 1 = m by omega) hi sR hb hi2)
 rw [hR] at HAN HEN
 obtain ⟨ps, hps⟩ : ∃ ps, ps = X ++ (x :: (R ++ Y)) := ⟨_, rfl⟩
 rw [← hps] at hr hpl hxa HAN HTH HEN
 have HROW0 := hid hr; have HXA := hid hxa; have HPL := hid hpl
 have hm1 : (m : Int) - (A : Int) = 1 := by omega
 clear hr hn hX hR hLx sR hpl hxa hthru hps
 go_enter Tryz.func272, Tryz.ntmps272
 go_wp2_with fail
 go_loopw [10, 11] (fun vi vj wr => ∃ (i j : Nat) (Wr : World), Wr = wr ∧ m ≤ i ∧ i ≤ j ∧ j ≤ B ∧ vi = .int .i64 i ∧ vj = .int .i64 j ∧ q0y recL wr b off ps ∧ Hid (Bnd (fun t => ltAt ltP ps[t]? (some x)) m B i j) ∧ Chg [b] w wr) (fun vi vj _ => (intOf vj).toNat - (intOf vi).toNat)
 case atStart => exact ⟨m, B, _, rfl, by omega, by omega, by omega, rfl, rfl, HROW0.out, Bnd.zero _ _ _, Chg.refl _ _⟩
 case round =>
  obtain ⟨i, j, wr, rfl, hi1, hij, hjB, rfl, rfl, hrow, HBD, hch⟩ := hrel
  have HCH := hid hch
  by_cases hlt : i < j
  ·obtain ⟨h, hh⟩ : ∃ h, h = (i + j) / 2 := ⟨_, rfl⟩
   have hh1 : i ≤ h ∧ h < j := by omega
   have hcv : ((i : Int) + (j : Int)) / 2 = (h : Int) := by omega
   obtain ⟨p, hp⟩ : ∃ p, ps[h]? = some p := ⟨_, List.getElem?_eq_getElem (by have := HPL.out; omega)⟩
   obtain ⟨q, hqx⟩ : ∃ q, q = x := ⟨_, rfl⟩
   have hq : ps[A]? = some q := by rw [hqx]; exact HXA.out
   have hn1 : h < n := by omega
   have hn2 : A < n := by omega
   have hpx := hp
   have hrd := q4i hrow
   clear hch hrow hh
   cases hl : ltP p q
   ·have HNP := hid (show (fun t => ltAt ltP ps[t]? (some x)) h = false by dsimp only; rw [hpx, ← hqx]; exact hl)
    go_wp2_with fail
    obtain ⟨c1, r1, -, k1⟩ := q1o hrd hp
    obtain ⟨c2, r2, -, k2⟩ := q1o hrd hq
    have HK := hid (And.intro k1 k2); have HRD := hid hrd; have HPQ := hid (And.intro hp hq); have HRC := hid (HCMP.out _ _ _ _ _ _ _ r1 r2)
    clear r1 r2 k1 k2 hp hq hrd
    obtain ⟨SS, HSI, HSO⟩ := q0j (fun w' => q1k w' b (off + (h) * 9) 9 c1 ∧ q1k w' b (off + (A) * 9) 9 c2)
    have hS0 := HSI.out _ HK.out
    refine q0k SS (by kernel_rfl) hS0 ?_
    refine rgT 0 hS0 ?_
    refine rgT 1 hS0 ?_
    refine rgT 2 hS0 ?_
    refine rgT 3 hS0 ?_
    refine rgL 4 hS0 HSO ?_ (hy := fun w' hw => q1h _ 67 rfl rfl q1l Tryz.underlying67 hw.1)
    refine rgT 5 hS0 ?_
    refine rgT 6 hS0 ?_
    refine rgT 7 hS0 ?_
    refine rgL 8 hS0 HSO ?_ (hy := fun w' hw => q1h _ 67 rfl rfl q1l Tryz.underlying67 hw.2)
    refine q0d 9 rfl (by kernel_rfl) (fun K hK => ?_)
    go_simp
    go_at_call 170
    refine HRC.out.mono ?_
    rintro e w1 ⟨r, rfl, hrr, hc1⟩
    have hr0 := cmp_r hl hrr
    have HR1 := hid (HRD.out.ext hc1); have HC1 := hid (HCH.out.drew.trans0 hc1); have HK1 := hid (And.intro (HK.out.1.ext hc1 HRD.out.lt) (HK.out.2.ext hc1 HRD.out.lt))
    clear hc1 hrr
    go_wp2_with fail
    refine hK.out _ _ (HSI.out _ HK1.out) (fun hS1 => ?_)
    clear hK K
    try simp only [Act.put, pA, pB, pC]
    refine rgT 10 hS1 ?_
    refine wpAnyH_done (by kernel_rfl) ?_ _
    have hrr := hr0
    go_wp2_with fail
    have HB2 := hid (HBD.out.no HAN.out (by omega) HNP.out)
    go_roundw
    case rel => exact ⟨i, h, _, rfl, by omega, by omega, by omega, rfl, by go_num, HR1.out, HB2, HC1.out⟩
    case measure => simp [intOf]; omega
   ·have HNP := hid (show (fun t => ltAt ltP ps[t]? (some x)) h = true by dsimp only; rw [hpx, ← hqx]; exact hl)
    go_wp2_with fail
    obtain ⟨c1, r1, -, k1⟩ := q1o hrd hp
    obtain ⟨c2, r2, -, k2⟩ := q1o hrd hq
    have HK := hid (And.intro k1 k2); have HRD := hid hrd; have HPQ := hid (And.intro hp hq); have HRC := hid (HCMP.out _ _ _ _ _ _ _ r1 r2)
    clear r1 r2 k1 k2 hp hq hrd
    obtain ⟨SS, HSI, HSO⟩ := q0j (fun w' => q1k w' b (off + (h) * 9) 9 c1 ∧ q1k w' b (off + (A) * 9) 9 c2)
    have hS0 := HSI.out _ HK.out
    refine q0k SS (by kernel_rfl) hS0 ?_
    refine rgT 0 hS0 ?_
    refine rgT 1 hS0 ?_
    refine rgT 2 hS0 ?_
    refine rgT 3 hS0 ?_
    refine rgL 4 hS0 HSO ?_ (hy := fun w' hw => q1h _ 67 rfl rfl q1l Tryz.underlying67 hw.1)
    refine rgT 5 hS0 ?_
    refine rgT 6 hS0 ?_
    refine rgT 7 hS0 ?_
    refine rgL 8 hS0 HSO ?_ (hy := fun w' hw => q1h _ 67 rfl rfl q1l Tryz.underlying67 hw.2)
    refine q0d 9 rfl (by kernel_rfl) (fun K hK => ?_)
    go_simp
    go_at_call 170
    refine HRC.out.mono ?_
    rintro e w1 ⟨r, rfl, hrr, hc1⟩
    have hr0 := cmp_r hl hrr
    have HR1 := hid (HRD.out.ext hc1); have HC1 := hid (HCH.out.drew.trans0 hc1); have HK1 := hid (And.intro (HK.out.1.ext hc1 HRD.out.lt) (HK.out.2.ext hc1 HRD.out.lt))
    clear hc1 hrr
    go_wp2_with fail
    refine hK.out _ _ (HSI.out _ HK1.out) (fun hS1 => ?_)
    clear hK K
    try simp only [Act.put, pA, pB, pC]
    refine rgT 10 hS1 ?_
    refine wpAnyH_done (by kernel_rfl) ?_ _
    have hrr := hr0
    go_wp2_with fail
    have HB2 := hid (HBD.out.yes HAN.out (by omega) HNP.out)
    go_roundw
    case rel => exact ⟨h + 1, j, _, rfl, by omega, by omega, by omega, by go_num, rfl, HR1.out, HB2, HC1.out⟩
    case measure => simp [intOf]; omega
  ·obtain rfl : i = j := by omega
   obtain ⟨M, e1, s1, b1⟩ := HEN.out i hi1 hjB HBD.out
   have HM := hid e1; have HSB := hid (And.intro s1 b1)
   rw [HTH.out] at hrow
   have HROW := hid hrow
   clear hch hrow e1 s1 b1
   go_wp2_with fail
   go_loopw [13] (fun vk wq => ∃ (k : Nat) (Wq : World), Wq = wq ∧ A ≤ k ∧ k + 1 ≤ i ∧ vk = .int .i64 k ∧ q0y recL wq b off (thru X R Y x (k - A)) ∧ Chg [b] w wq) (fun vk _ => i - (intOf vk).toNat)
   case atStart => exact ⟨A, _, rfl, by omega, by omega, rfl, by rw [Nat.sub_self]; exact HROW.out, HCH.out⟩
   case round =>
    clear HCH HROW
    obtain ⟨k, wq, rfl, hk1, hk2, rfl, hrow, hch⟩ := hrel
    have HCH := hid hch
    by_cases hki : k + 1 < i
    ·have hkr : k - A < R.length := by have := HRL.out; omega
     obtain ⟨q, hqe⟩ : ∃ q, q = R[k - A] := ⟨_, rfl⟩
     have hp : (thru X R Y x (k - A))[k]? = some x := by
      have := thru_at (A := X) (S := R) (B := Y) (x := x) (k := k - A) (by omega)
      rwa [HX.out, show A + (k - A) = k by omega] at this
     have hq : (thru X R Y x (k - A))[k + 1]? = some q := by
      have := thru_next (A := X) (B := Y) (x := x) hkr
      rw [HX.out, show A + (k - A) + 1 = k + 1 by omega] at this
      rw [this, hqe]
     have hln : (thru X R Y x (k - A)).length = n := by have := HPL.out; rw [HTH.out, q5v] at this; rw [q5v]; exact this
     obtain ⟨y, hy⟩ : ∃ y, y = k + 1 := ⟨_, rfl⟩
     have hwy : IntKind.i64.wrap ((k : Int) + 1) = (y : Int) := by rw [IntWalk.i64_in _ ⟨by omega, by omega⟩]; omega
     have hlt2 : (k : Int) < (i : Int) - 1 := by omega
     have h1 : k < n := by omega
     have h3 : y < n := by omega
     rw [← hy] at hq
     have hrd := q4i hrow
     have HY := hid hy; have HQE := hid hqe
     clear hch hrow hy hqe
     go_wp2_with fail
     obtain ⟨cp, rp, bp, kp⟩ := q1o hrd hp
     obtain ⟨cq, rq, bq, kq⟩ := q1o hrd hq
     have HSW := hid (q6u hrd hp hq rp rq bp bq)
     have HRD := hid hrd; have HPQ := hid (And.intro hp hq); have HKP := hid kp; have HKQ := hid kq
     clear rp rq bp bq kp kq hp hq hrd
     obtain ⟨CC, HCI, HCO⟩ := q0j (fun w' => q1k w' b (off + (k) * 9) 9 cp ∧ q1k w' b (off + (y) * 9) 9 cq)
     refine q1j [15, 17] CC (by kernel_rfl) (HCI.out _ ⟨HKP.out, HKQ.out⟩) (fun hcl hS => ?_)
     refine ggT 0 hcl hS ?_; clear hcl hS; intro hcl hS
     refine ggT 1 hcl hS ?_; clear hcl hS; intro hcl hS
     refine ggT 2 hcl hS ?_; clear hcl hS; intro hcl hS
     refine ggT 3 hcl hS ?_; clear hcl hS; intro hcl hS
     refine ggT 4 hcl hS ?_; clear hcl hS; intro hcl hS
     refine ggT 5 hcl hS ?_; clear hcl hS; intro hcl hS
     refine ggT 6 hcl hS ?_; clear hcl hS; intro hcl hS
     refine ggT 7 hcl hS ?_; clear hcl hS; intro hcl hS
     refine ggT 8 hcl hS ?_; clear hcl hS; intro hcl hS
     refine ggL 9 hcl hS HCO ?_ (hy := fun w' hw => q1h _ 67 rfl rfl q1l Tryz.underlying67 hw.2); clear hcl hS; intro hcl hS
     refine ggT 10 hcl hS ?_; clear hcl hS; intro hcl hS
     refine ggT 11 hcl hS ?_; clear hcl hS; intro hcl hS
     refine ggT 12 hcl hS ?_; clear hcl hS; intro hcl hS
     refine ggL 13 hcl hS HCO ?_ (hy := fun w' hw => q1h _ 67 rfl rfl q1l Tryz.underlying67 hw.1); clear hcl hS; intro hcl hS
     refine ggT 14 hcl hS ?_; clear hcl hS; intro hcl hS
     refine ggC 15 hcl rfl (by kernel_rfl) (fun K hK => ?_)
     refine q2u (cs := cq) rfl _ _ 67 rfl rfl rfl q1l (q3w HRD.out (i := k) (by first | omega | (rw [List.length_set]; omega))) (q0y.free HRD.out) HKQ.out.1 HKQ.out.2.2 ?_
     refine hK.out _ _ (Till.done (m := 15) (by simp) (by rfl)) ?_
     clear hK K hcl hS
     intro hcl hS
     try simp only [Act.put]
     refine ggT 16 hcl hS ?_; clear hcl hS; intro hcl hS
     refine ggC 17 hcl rfl (by kernel_rfl) (fun K hK => ?_)
     refine q2u (cs := cp) rfl _ _ 67 rfl rfl rfl q1l (q3w HSW.out.1 (i := y) (by first | omega | (rw [List.length_set]; omega))) (q0y.free HSW.out.1) HKP.out.1 HKP.out.2.2 ?_
     refine hK.out _ _ (Till.done (m := 15) (by simp) (by rfl)) ?_
     clear hK K hcl hS
     intro hcl hS
     try simp only [Act.put]
     refine q3i (by kernel_rfl) ?_ _
     go_wp2_with fail
     have hrow3 := HSW.out.2
     have hup := thru_up (A := X) (B := Y) (x := x) hkr
     rw [← HQE.out, HX.out, show A + (k - A) = k by omega, ← HY.out, show k - A + 1 = k + 1 - A by omega] at hup
     rw [hup] at hrow3
     have HRW3 := hid hrow3; have HCC := hid (chg_sw (k1 := off + k * 9) (k2 := off + y * 9) (c1 := cq) (c2 := cp) HCH.out)
     have hyy := HY.out
     rw [show k + 1 - A = y - A by omega] at HRW3
     clear hrow3 hup
     go_roundw
     case rel => exact ⟨y, _, rfl, by omega, by omega, by go_num, HRW3.out, HCC.out⟩
     case measure => simp [intOf]; omega
    ·have hlt2 : ¬ (k : Int) < (i : Int) - 1 := by omega
     rw [show k - A = i - m by omega, HM.out] at hrow
     have HROW := hid hrow
     have HB := hid (show Stab ltP (L ++ R) M by rw [HLX.out]; exact HSB.out.2)
     clear hch hrow
     go_wp2_with fail
     refine bodyPost_ret (results_none rfl _ _ _) rfl ?_
     exact ⟨rfl, M, HROW.out, HSB.out.1, HB.out, HCH.out⟩
theorem symR_any (b off n cap A m B : Nat) (X L Y : List RP) (q : RP) (R : List RP) (hRx : R = [q]) (w : World) (HCMP : Hid CmpOK) (hr : q0y recL w b off (X ++ (L ++ (q :: Y)))) (hn : n = (X ++ (L ++ (q :: Y))).length) (hm : n ≤ 1000000) (hX : X.length = A) (hL : A + L.length = m) (hR : m + 1 = B) (h2 : A + 1 < m) (sL : Srt ltP L) :
  Calls Tryz.prog 272 #[.slice (some ⟨b, off, none⟩) n cap, .int .i64 A, .int .i64 m, .int .i64 B, .func (.func 170) #[] #[]] w fun e w' => e = .returned (.tuple #[]) ∧ ∃ M, q0y recL w' b off (X ++ (M ++ Y)) ∧ Srt ltP M ∧ Stab ltP (L ++ R) M ∧ Chg [b] w w' := by
 have hBn : B ≤ n := by rw [hn]; simp only [List.length_append, List.length_cons]; omega
 have HX := hid hX; have HLL := hid hL; have HLX := hid hRx
 have HAN := hid (right_anti (B := Y) (y := q) q2p hX sL)
 have HSR := hid sL
 have hpl : (X ++ (L ++ (q :: Y))).length = n := hn.symm
 have hxa : (X ++ (L ++ (q :: Y)))[m]? = some q := by rw [q1q (by omega), q1q (by omega), show m - X.length - L.length = 0 by omega]; rfl
 have hthru : X ++ (L ++ (q :: Y)) = thru X L Y q (m - A) := (thru_full (by omega)).symm
 have HTH := hid hthru
 have HEN := hid (fun (i : Nat) (hi : A ≤ i) (hi2 : i ≤ A + L.length) hb => one_right (i := i) (B := Y) (y := q) q2p hX hi sL hb hi2)
 rw [hL] at HAN HEN
 obtain ⟨ps, hps⟩ : ∃ ps, ps = X ++ (L ++ (q :: Y)) := ⟨_, rfl⟩
 rw [← hps] at hr hpl hxa HAN HTH HEN
 have HROW0 := hid hr; have HXA := hid hxa; have HPL := hid hpl
 have hm0 : ((m : Int) - (A : Int) == 1) = false := by rw [beq_eq_false_iff_ne]; omega
 have hm1 : (B : Int) - (m : Int) = 1 := by omega
 clear hr hn hX hL hRx sL hpl hxa hthru hps
 go_enter Tryz.func272, Tryz.ntmps272
 go_wp2_with fail
 go_loopw [14, 15] (fun vi vj wr => ∃ (i j : Nat) (Wr : World), Wr = wr ∧ A ≤ i ∧ i ≤ j ∧ j ≤ m ∧ vi = .int .i64 i ∧ vj = .int .i64 j ∧ q0y recL wr b off ps ∧ Hid (Bnd (fun t => !ltAt ltP (some q) ps[t]?) A m i j) ∧ Chg [b] w wr) (fun vi vj _ => (intOf vj).toNat - (intOf vi).toNat)
 case atStart => exact ⟨A, m, _, rfl, by omega, by omega, by omega, rfl, rfl, HROW0.out, Bnd.zero _ _ _, Chg.refl _ _⟩
 case round =>
  obtain ⟨i, j, wr, rfl, hi1, hij, hjB, rfl, rfl, hrow, HBD, hch⟩ := hrel
  have HCH := hid hch
  by_cases hlt : i < j
  ·obtain ⟨h, hh⟩ : ∃ h, h = (i + j) / 2 := ⟨_, rfl⟩
   have hh1 : i ≤ h ∧ h < j := by omega
   have hcv : ((i : Int) + (j : Int)) / 2 = (h : Int) := by omega
   obtain ⟨p, hpx⟩ : ∃ p, p = q := ⟨_, rfl⟩
   obtain ⟨z, hz⟩ : ∃ z, ps[h]? = some z := ⟨_, List.getElem?_eq_getElem (by have := HPL.out; omega)⟩
   have hp : ps[m]? = some p := by rw [hpx]; exact HXA.out
   have hn1 : h < n := by omega
   have hn2 : m < n := by omega
   have hrd := q4i hrow
   clear hch hrow hh
   have hq := hz
   cases hl : ltP p z
   ·have HNP := hid (show (fun t => !ltAt ltP (some q) ps[t]?) h = true by dsimp only; rw [hz, ← hpx]; simp only [ltAt]; rw [hl]; rfl)
    go_wp2_with fail
    obtain ⟨c1, r1, -, k1⟩ := q1o hrd hp
    obtain ⟨c2, r2, -, k2⟩ := q1o hrd hq
    have HK := hid (And.intro k1 k2); have HRD := hid hrd; have HPQ := hid (And.intro hp hq); have HRC := hid (HCMP.out _ _ _ _ _ _ _ r1 r2)
    clear r1 r2 k1 k2 hp hq hrd
    obtain ⟨SS, HSI, HSO⟩ := q0j (fun w' => q1k w' b (off + (m) * 9) 9 c1 ∧ q1k w' b (off + (h) * 9) 9 c2)
    have hS0 := HSI.out _ HK.out
    refine q0k SS (by kernel_rfl) hS0 ?_
    refine rgT 0 hS0 ?_
    refine rgT 1 hS0 ?_
    refine rgT 2 hS0 ?_
    refine rgT 3 hS0 ?_
    refine rgL 4 hS0 HSO ?_ (hy := fun w' hw => q1h _ 67 rfl rfl q1l Tryz.underlying67 hw.1)
    refine rgT 5 hS0 ?_
    refine rgT 6 hS0 ?_
    refine rgT 7 hS0 ?_
    refine rgL 8 hS0 HSO ?_ (hy := fun w' hw => q1h _ 67 rfl rfl q1l Tryz.underlying67 hw.2)
    refine q0d 9 rfl (by kernel_rfl) (fun K hK => ?_)
    go_simp
    go_at_call 170
    refine HRC.out.mono ?_
    rintro e w1 ⟨r, rfl, hrr, hc1⟩
    have hr0 := cmp_r hl hrr
    have HR1 := hid (HRD.out.ext hc1); have HC1 := hid (HCH.out.drew.trans0 hc1); have HK1 := hid (And.intro (HK.out.1.ext hc1 HRD.out.lt) (HK.out.2.ext hc1 HRD.out.lt))
    clear hc1 hrr
    go_wp2_with fail
    refine hK.out _ _ (HSI.out _ HK1.out) (fun hS1 => ?_)
    clear hK K
    try simp only [Act.put, pA, pB, pC]
    refine rgT 10 hS1 ?_
    refine rgT 11 hS1 ?_
    refine wpAnyH_done (by kernel_rfl) ?_ _
    have hrr := hr0
    go_wp2_with fail
    have HB2 := hid (HBD.out.yes HAN.out (by omega) HNP.out)
    go_roundw
    case rel => exact ⟨h + 1, j, _, rfl, by omega, by omega, by omega, by go_num, rfl, HR1.out, HB2, HC1.out⟩
    case measure => simp [intOf]; omega
   ·have HNP := hid (show (fun t => !ltAt ltP (some q) ps[t]?) h = false by dsimp only; rw [hz, ← hpx]; simp only [ltAt]; rw [hl]; rfl)
    go_wp2_with fail
    obtain ⟨c1, r1, -, k1⟩ := q1o hrd hp
    obtain ⟨c2, r2, -, k2⟩ := q1o hrd hq
    have HK := hid (And.intro k1 k2); have HRD := hid hrd; have HPQ := hid (And.intro hp hq); have HRC := hid (HCMP.out _ _ _ _ _ _ _ r1 r2)
    clear r1 r2 k1 k2 hp hq hrd
    obtain ⟨SS, HSI, HSO⟩ := q0j (fun w' => q1k w' b (off + (m) * 9) 9 c1 ∧ q1k w' b (off + (h) * 9) 9 c2)
    have hS0 := HSI.out _ HK.out
    refine q0k SS (by kernel_rfl) hS0 ?_
    refine rgT 0 hS0 ?_
    refine rgT 1 hS0 ?_
    refine rgT 2 hS0 ?_
    refine rgT 3 hS0 ?_
    refine rgL 4 hS0 HSO ?_ (hy := fun w' hw => q1h _ 67 rfl rfl q1l Tryz.underlying67 hw.1)
    refine rgT 5 hS0 ?_
    refine rgT 6 hS0 ?_
    refine rgT 7 hS0 ?_
    refine rgL 8 hS0 HSO ?_ (hy := fun w' hw => q1h _ 67 rfl rfl q1l Tryz.underlying67 hw.2)
    refine q0d 9 rfl (by kernel_rfl) (fun K hK => ?_)
    go_simp
    go_at_call 170
    refine HRC.out.mono ?_
    rintro e w1 ⟨r, rfl, hrr, hc1⟩
    have hr0 := cmp_r hl hrr
    have HR1 := hid (HRD.out.ext hc1); have HC1 := hid (HCH.out.drew.trans0 hc1); have HK1 := hid (And.intro (HK.out.1.ext hc1 HRD.out.lt) (HK.out.2.ext hc1 HRD.out.lt))
    clear hc1 hrr
    go_wp2_with fail
    refine hK.out _ _ (HSI.out _ HK1.out) (fun hS1 => ?_)
    clear hK K
    try simp only [Act.put, pA, pB, pC]
    refine rgT 10 hS1 ?_
    refine rgT 11 hS1 ?_
    refine wpAnyH_done (by kernel_rfl) ?_ _
    have hrr := hr0
    go_wp2_with fail
    have HB2 := hid (HBD.out.no HAN.out (by omega) HNP.out)
    go_roundw
    case rel => exact ⟨i, h, _, rfl, by omega, by omega, by omega, rfl, by go_num, HR1.out, HB2, HC1.out⟩
    case measure => simp [intOf]; omega
  ·obtain rfl : i = j := by omega
   obtain ⟨M, e1, s1, b1⟩ := HEN.out i hi1 hjB HBD.out
   have HM := hid e1; have HSB := hid (And.intro s1 b1)
   rw [HTH.out] at hrow
   have HROW := hid hrow
   clear hch hrow e1 s1 b1
   go_wp2_with fail
   go_loopw [17] (fun vk wq => ∃ (k : Nat) (Wq : World), Wq = wq ∧ i ≤ k ∧ k ≤ m ∧ vk = .int .i64 k ∧ q0y recL wq b off (thru X L Y q (k - A)) ∧ Chg [b] w wq) (fun vk _ => (intOf vk).toNat)
   case atStart => exact ⟨m, _, rfl, by omega, by omega, rfl, HROW.out, HCH.out⟩
   case round =>
    clear HCH HROW
    obtain ⟨k, wq, rfl, hk1, hk2, rfl, hrow, hch⟩ := hrel
    have HCH := hid hch
    by_cases hki : i < k
    ·have hkr : k - A - 1 < L.length := by have := HLL.out; omega
     have hk9 : k - A = (k - A - 1) + 1 := by omega
     obtain ⟨p, hpe⟩ : ∃ p, p = L[k - A - 1] := ⟨_, rfl⟩
     have hp : (thru X L Y q (k - A))[k]? = some q := by
      have := thru_at (A := X) (S := L) (B := Y) (x := q) (k := k - A) (by have := HLL.out; omega)
      rwa [HX.out, show A + (k - A) = k by omega] at this
     have hq : (thru X L Y q (k - A))[k - 1]? = some p := by
      have := thru_prev (A := X) (B := Y) (x := q) hkr
      rw [← hk9, HX.out, show A + (k - A - 1) = k - 1 by omega] at this
      rw [this, hpe]
     have hln : (thru X L Y q (k - A)).length = n := by have := HPL.out; rw [HTH.out, q5v] at this; rw [q5v]; exact this
     obtain ⟨y, hy⟩ : ∃ y, y = k - 1 := ⟨_, rfl⟩
     have hwy : IntKind.i64.wrap ((k : Int) - 1) = (y : Int) := by rw [IntWalk.i64_in _ ⟨by omega, by omega⟩]; omega
     have h1 : k < n := by omega
     have h3 : y < n := by omega
     rw [← hy] at hq
     have hrd := q4i hrow
     have HY := hid hy; have HQE := hid hpe; have HK9 := hid hk9
     clear hch hrow hy hpe hk9
     go_wp2_with fail
     obtain ⟨cp, rp, bp, kp⟩ := q1o hrd hp
     obtain ⟨cq, rq, bq, kq⟩ := q1o hrd hq
     have HSW := hid (q6u hrd hp hq rp rq bp bq)
     have HRD := hid hrd; have HPQ := hid (And.intro hp hq); have HKP := hid kp; have HKQ := hid kq
     clear rp rq bp bq kp kq hp hq hrd
     obtain ⟨CC, HCI, HCO⟩ := q0j (fun w' => q1k w' b (off + (k) * 9) 9 cp ∧ q1k w' b (off + (y) * 9) 9 cq)
     refine q1j [15, 17] CC (by kernel_rfl) (HCI.out _ ⟨HKP.out, HKQ.out⟩) (fun hcl hS => ?_)
     refine ggT 0 hcl hS ?_; clear hcl hS; intro hcl hS
     refine ggT 1 hcl hS ?_; clear hcl hS; intro hcl hS
     refine ggT 2 hcl hS ?_; clear hcl hS; intro hcl hS
     refine ggT 3 hcl hS ?_; clear hcl hS; intro hcl hS
     refine ggT 4 hcl hS ?_; clear hcl hS; intro hcl hS
     refine ggT 5 hcl hS ?_; clear hcl hS; intro hcl hS
     refine ggT 6 hcl hS ?_; clear hcl hS; intro hcl hS
     refine ggT 7 hcl hS ?_; clear hcl hS; intro hcl hS
     refine ggT 8 hcl hS ?_; clear hcl hS; intro hcl hS
     refine ggL 9 hcl hS HCO ?_ (hy := fun w' hw => q1h _ 67 rfl rfl q1l Tryz.underlying67 hw.2); clear hcl hS; intro hcl hS
     refine ggT 10 hcl hS ?_; clear hcl hS; intro hcl hS
     refine ggT 11 hcl hS ?_; clear hcl hS; intro hcl hS
     refine ggT 12 hcl hS ?_; clear hcl hS; intro hcl hS
     refine ggL 13 hcl hS HCO ?_ (hy := fun w' hw => q1h _ 67 rfl rfl q1l Tryz.underlying67 hw.1); clear hcl hS; intro hcl hS
     refine ggT 14 hcl hS ?_; clear hcl hS; intro hcl hS
     refine ggC 15 hcl rfl (by kernel_rfl) (fun K hK => ?_)
     refine q2u (cs := cq) rfl _ _ 67 rfl rfl rfl q1l (q3w HRD.out (i := k) (by first | omega | (rw [List.length_set]; omega))) (q0y.free HRD.out) HKQ.out.1 HKQ.out.2.2 ?_
     refine hK.out _ _ (Till.done (m := 15) (by simp) (by rfl)) ?_
     clear hK K hcl hS
     intro hcl hS
     try simp only [Act.put]
     refine ggT 16 hcl hS ?_; clear hcl hS; intro hcl hS
     refine ggC 17 hcl rfl (by kernel_rfl) (fun K hK => ?_)
     refine q2u (cs := cp) rfl _ _ 67 rfl rfl rfl q1l (q3w HSW.out.1 (i := y) (by first | omega | (rw [List.length_set]; omega))) (q0y.free HSW.out.1) HKP.out.1 HKP.out.2.2 ?_
     refine hK.out _ _ (Till.done (m := 15) (by simp) (by rfl)) ?_
     clear hK K hcl hS
     intro hcl hS
     try simp only [Act.put]
     refine q3i (by kernel_rfl) ?_ _
     go_wp2_with fail
     have hrow3 := HSW.out.2
     have hdn := thru_down (A := X) (B := Y) (x := q) hkr
     rw [← HK9.out, ← HQE.out, HX.out, show A + (k - A - 1) + 1 = k by omega, show A + (k - A - 1) = y by have := HY.out; omega, show k - A - 1 = y - A by have := HY.out; omega] at hdn
     rw [hdn] at hrow3
     have HRW3 := hid hrow3; have HCC := hid (chg_sw (k1 := off + k * 9) (k2 := off + y * 9) (c1 := cq) (c2 := cp) HCH.out)
     have hyy := HY.out
     clear hrow3 hdn
     go_roundw
     case rel => exact ⟨y, _, rfl, by omega, by omega, by go_num, HRW3.out, HCC.out⟩
     case measure => simp [intOf]; omega
    ·obtain rfl : k = i := by omega
     rw [HM.out] at hrow
     have HROW := hid hrow
     have HB := hid (show Stab ltP (L ++ R) M by rw [HLX.out]; exact HSB.out.2)
     clear hch hrow
     go_wp2_with fail
     refine bodyPost_ret (results_none rfl _ _ _) rfl ?_
     exact ⟨rfl, M, HROW.out, HSB.out.1, HB.out, HCH.out⟩
end Go.Proofs.YtphmpimgbmedbaaGreat
