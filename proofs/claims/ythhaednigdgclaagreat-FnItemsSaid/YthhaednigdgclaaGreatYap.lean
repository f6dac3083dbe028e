/- Several texts in one. -/
import Derived.Deep.DeepCutAuto
import Derived.Test.YthhaednigdgclaaGreatYal
open Go.Value renaming int → I, slice → Aa, string → Ab, bool → Ac
open Go.IntKind renaming i64 → J
open Go.Obj renaming cells → Ad
open And renaming intro → Bn
open List renaming length_set → Bo, getElem?_eq_getElem → Bq, length_append → Br, length_cons → Bt
open Go.Act renaming put → Bp
set_option maxRecDepth 100000
set_option maxHeartbeats 8000000
namespace Go.Proofs.YthhaednigdgclaaGreat
open Go.RowKit
open Go.Lib (hid)
theorem symL_any (b off n cap A m B : Nat) (X R Y : List RP) (x : RP) (L : List RP) (hLx : L = [x]) (w : World) (Aq : Hid CmpOK) (hr : q1c recL w b off (X ++ (x :: (R ++ Y)))) (hn : n = (X ++ (x :: (R ++ Y))).length) (hm : n ≤ 1000000) (hX : X.length = A) (hL : A + 1 = m) (hR : m + R.length = B) (h2 : m < B) (sR : Srt ltP R) :
  Calls Tryz.prog 136 #[Aa (some ⟨b, off, none⟩) n cap, I J A, I J m, I J B, .func (.func 96) #[] #[]] w fun e w' => e = .returned (.tuple #[]) ∧ ∃ M, q1c recL w' b off (X ++ (M ++ Y)) ∧ Srt ltP M ∧ Stab ltP (L ++ R) M ∧ Chg [b] w w' := by
 have hBn : B ≤ n := by rw [hn]; simp only [Br, Bt]; omega
 have HX := hid hX; have HRL := hid hR; have Bi := hid hLx;have Au := hid (left_anti (B := Y) (x := x) q3f (show X.length + 1 = m by omega) sR);have HSR := hid sR;have hpl : (X ++ (x :: (R ++ Y))).length = n := hn.symm;have Av : (X ++ (x :: (R ++ Y)))[A]? = some x := by rw [q1v (by omega), hX, Nat.sub_self]; rfl
 have Aj : X ++ (x :: (R ++ Y)) = thru X R Y x 0 := by unfold thru; simp
 have Ax := hid Aj;have AE := hid (fun (i : Nat) (hi : m ≤ i) (Bc : i ≤ m + R.length) hb => one_left (A := X) (x := x) (i := i) (B := Y) q3f (show X.length + 1 = m by omega) hi sR hb Bc);rw [hR] at Au AE;obtain ⟨ps, AL⟩ : ∃ ps, ps = X ++ (x :: (R ++ Y)) := ⟨_, rfl⟩;rw [← AL] at hr hpl Av Au Ax AE;have Ap := hid hr; have Bg := hid Av; have AR := hid hpl;have hm1 : (m : Int) - (A : Int) = 1 := by omega
 clear hr hn hX hR hLx sR hpl Av Aj AL;go_enter Tryz.func136, Tryz.ntmps136;go_wp2_with fail;go_loopw [10, 11] (fun vi vj wr => ∃ (i j : Nat) (Wr : World), Wr = wr ∧ m ≤ i ∧ i ≤ j ∧ j ≤ B ∧ vi = I J i ∧ vj = I J j ∧ q1c recL wr b off ps ∧ Hid (Bnd (fun t => ltAt ltP ps[t]? (some x)) m B i j) ∧ Chg [b] w wr) (fun vi vj _ => (intOf vj).toNat - (intOf vi).toNat)
 case atStart => exact ⟨m, B, _, rfl, by omega, by omega, by omega, rfl, rfl, Ap.o, Bnd.zero _ _ _, Chg.refl _ _⟩
 case round =>
  obtain ⟨i, j, wr, rfl, Be, hij, Bb, rfl, rfl, hrow, AH, hch⟩ := hrel;have Al := hid hch;by_cases hlt : i < j
  ·obtain ⟨h, hh⟩ : ∃ h, h = (i + j) / 2 := ⟨_, rfl⟩;have hh1 : i ≤ h ∧ h < j := by omega
   have hcv : ((i : Int) + (j : Int)) / 2 = (h : Int) := by omega
   obtain ⟨p, hp⟩ : ∃ p, ps[h]? = some p := ⟨_, Bq (by have := AR.o; omega)⟩;obtain ⟨q, AW⟩ : ∃ q, q = x := ⟨_, rfl⟩;have hq : ps[A]? = some q := by rw [AW]; exact Bg.o
   have hn1 : h < n := by omega
   have hn2 : A < n := by omega
   have AK := hp;have Ag := q4v hrow;clear hch hrow hh;cases hl : ltP p q
   ·have AA := hid (show (fun t => ltAt ltP ps[t]? (some x)) h = false by dsimp only; rw [AK, ← AW]; exact hl);go_wp2_with fail;obtain ⟨c1, r1, -, k1⟩ := q1n Ag hp;obtain ⟨c2, r2, -, k2⟩ := q1n Ag hq;have HK := hid (Bn k1 k2); have Ah := hid Ag; have AQ := hid (Bn hp hq); have Az := hid (Aq.o _ _ _ _ _ _ _ r1 r2);clear r1 r2 k1 k2 hp hq Ag;obtain ⟨SS, Ao, Am⟩ := q0f (fun w' => q1j w' b (off + (h) * 9) 9 c1 ∧ q1j w' b (off + (A) * 9) 9 c2);have Af := Ao.o _ HK.o;refine q0g SS (by kernel_rfl) Af ?_;refine rgT 0 Af ?_;refine rgT 1 Af ?_;refine rgT 2 Af ?_;refine rgT 3 Af ?_;refine rgL 4 Af Am ?_ (hy := fun w' hw => q1d _ 38 rfl rfl q1b Tryz.underlying38 hw.1);refine rgT 5 Af ?_;refine rgT 6 Af ?_;refine rgT 7 Af ?_;refine rgL 8 Af Am ?_ (hy := fun w' hw => q1d _ 38 rfl rfl q1b Tryz.underlying38 hw.2);refine rgq 9 (fun K hK => ?_);go_simp;go_at_call 96;refine Az.o.mono ?_;rintro e w1 ⟨r, rfl, Ak, hc1⟩;have Aw := cmp_r hl Ak;have A9 := hid (Ah.o.ext hc1); have AG := hid (Al.o.drew.trans0 hc1); have AD := hid (Bn (HK.o.1.ext hc1 Ah.o.lt) (HK.o.2.ext hc1 Ah.o.lt));clear hc1 Ak;go_wp2_with fail;refine hK.out _ _ (Ao.o _ AD.o) (fun hS1 => ?_);clear hK K;try simp only [Bp, pA, pB, pC]
    refine rgT 10 hS1 ?_;refine wDn ?_;have Ak := Aw;go_wp2_with fail;have AJ := hid (AH.o.no Au.o (by omega) AA.o);go_roundw
    case rel => exact ⟨i, h, _, rfl, by omega, by omega, by omega, rfl, by go_num, A9.o, AJ, AG.o⟩
    case measure => simp [intOf]; omega
   ·have AA := hid (show (fun t => ltAt ltP ps[t]? (some x)) h = true by dsimp only; rw [AK, ← AW]; exact hl);go_wp2_with fail;obtain ⟨c1, r1, -, k1⟩ := q1n Ag hp;obtain ⟨c2, r2, -, k2⟩ := q1n Ag hq;have HK := hid (Bn k1 k2); have Ah := hid Ag; have AQ := hid (Bn hp hq); have Az := hid (Aq.o _ _ _ _ _ _ _ r1 r2);clear r1 r2 k1 k2 hp hq Ag;obtain ⟨SS, Ao, Am⟩ := q0f (fun w' => q1j w' b (off + (h) * 9) 9 c1 ∧ q1j w' b (off + (A) * 9) 9 c2);have Af := Ao.o _ HK.o;refine q0g SS (by kernel_rfl) Af ?_;refine rgT 0 Af ?_;refine rgT 1 Af ?_;refine rgT 2 Af ?_;refine rgT 3 Af ?_;refine rgL 4 Af Am ?_ (hy := fun w' hw => q1d _ 38 rfl rfl q1b Tryz.underlying38 hw.1);refine rgT 5 Af ?_;refine rgT 6 Af ?_;refine rgT 7 Af ?_;refine rgL 8 Af Am ?_ (hy := fun w' hw => q1d _ 38 rfl rfl q1b Tryz.underlying38 hw.2);refine rgq 9 (fun K hK => ?_);go_simp;go_at_call 96;refine Az.o.mono ?_;rintro e w1 ⟨r, rfl, Ak, hc1⟩;have Aw := cmp_r hl Ak;have A9 := hid (Ah.o.ext hc1); have AG := hid (Al.o.drew.trans0 hc1); have AD := hid (Bn (HK.o.1.ext hc1 Ah.o.lt) (HK.o.2.ext hc1 Ah.o.lt));clear hc1 Ak;go_wp2_with fail;refine hK.out _ _ (Ao.o _ AD.o) (fun hS1 => ?_);clear hK K;try simp only [Bp, pA, pB, pC]
    refine rgT 10 hS1 ?_;refine wDn ?_;have Ak := Aw;go_wp2_with fail;have AJ := hid (AH.o.yes Au.o (by omega) AA.o);go_roundw
    case rel => exact ⟨h + 1, j, _, rfl, by omega, by omega, by omega, by go_num, rfl, A9.o, AJ, AG.o⟩
    case measure => simp [intOf]; omega
  ·obtain rfl : i = j := by omega
   obtain ⟨M, e1, s1, b1⟩ := AE.o i Be Bb AH.o;have HM := hid e1; have AP := hid (Bn s1 b1);rw [Ax.o] at hrow;have Ai := hid hrow;clear hch hrow e1 s1 b1;go_wp2_with fail;go_loopw [13] (fun vk wq => ∃ (k : Nat) (Wq : World), Wq = wq ∧ A ≤ k ∧ k + 1 ≤ i ∧ vk = I J k ∧ q1c recL wq b off (thru X R Y x (k - A)) ∧ Chg [b] w wq) (fun vk _ => i - (intOf vk).toNat)
   case atStart => exact ⟨A, _, rfl, by omega, by omega, rfl, by rw [Nat.sub_self]; exact Ai.o, Al.o⟩
   case round =>
    clear Al Ai;obtain ⟨k, wq, rfl, hk1, hk2, rfl, hrow, hch⟩ := hrel;have Al := hid hch;by_cases hki : k + 1 < i
    ·have AO : k - A < R.length := by have := HRL.o; omega
     obtain ⟨q, AX⟩ : ∃ q, q = R[k - A] := ⟨_, rfl⟩;have hp : (thru X R Y x (k - A))[k]? = some x := by
      have := thru_at (A := X) (S := R) (B := Y) (x := x) (k := k - A) (by omega)
      rwa [HX.o, show A + (k - A) = k by omega] at this
     have hq : (thru X R Y x (k - A))[k + 1]? = some q := by
      have := thru_next (A := X) (B := Y) (x := x) AO;rw [HX.o, show A + (k - A) + 1 = k + 1 by omega] at this;rw [this, AX]
     have hln : (thru X R Y x (k - A)).length = n := by have := AR.o; rw [Ax.o, q6y] at this; rw [q6y]; exact this
     obtain ⟨y, hy⟩ : ∃ y, y = k + 1 := ⟨_, rfl⟩;have hwy : IntKind.i64.wrap ((k : Int) + 1) = (y : Int) := by rw [IntWalk.i64_in _ ⟨by omega, by omega⟩]; omega
     have AZ : (k : Int) < (i : Int) - 1 := by omega
     have h1 : k < n := by omega
     have h3 : y < n := by omega
     rw [← hy] at hq;have Ag := q4v hrow;have HY := hid hy; have Bh := hid AX;clear hch hrow hy AX;go_wp2_with fail;obtain ⟨cp, rp, bp, kp⟩ := q1n Ag hp;obtain ⟨cq, rq, bq, kq⟩ := q1n Ag hq;have Ay := hid (q8p Ag hp hq rp rq bp bq);have Ah := hid Ag; have AQ := hid (Bn hp hq); have AC := hid kp; have AB := hid kq;clear rp rq bp bq kp kq hp hq Ag;obtain ⟨CC, Bj, AU⟩ := q0f (fun w' => q1j w' b (off + (k) * 9) 9 cp ∧ q1j w' b (off + (y) * 9) 9 cq);refine q1l [15, 17] CC (by kernel_rfl) (Bj.o _ ⟨AC.o, AB.o⟩) (fun Ae hS => ?_);refine ggT 0 Ae hS ?_; clear Ae hS; intro Ae hS;refine ggT 1 Ae hS ?_; clear Ae hS; intro Ae hS;refine ggT 2 Ae hS ?_; clear Ae hS; intro Ae hS;refine ggT 3 Ae hS ?_; clear Ae hS; intro Ae hS;refine ggT 4 Ae hS ?_; clear Ae hS; intro Ae hS;refine ggT 5 Ae hS ?_; clear Ae hS; intro Ae hS;refine ggT 6 Ae hS ?_; clear Ae hS; intro Ae hS;refine ggT 7 Ae hS ?_; clear Ae hS; intro Ae hS;refine ggT 8 Ae hS ?_; clear Ae hS; intro Ae hS;refine ggL 9 Ae hS AU ?_ (hy := fun w' hw => q1d _ 38 rfl rfl q1b Tryz.underlying38 hw.2); clear Ae hS; intro Ae hS;refine ggT 10 Ae hS ?_; clear Ae hS; intro Ae hS;refine ggT 11 Ae hS ?_; clear Ae hS; intro Ae hS;refine ggT 12 Ae hS ?_; clear Ae hS; intro Ae hS;refine ggL 13 Ae hS AU ?_ (hy := fun w' hw => q1d _ 38 rfl rfl q1b Tryz.underlying38 hw.1); clear Ae hS; intro Ae hS;refine ggT 14 Ae hS ?_; clear Ae hS; intro Ae hS;refine ggq 15 Ae (fun K hK => ?_);refine q3h (cs := cq) rfl _ _ 38 rfl rfl rfl q1b (q4l Ah.o (i := k) (by first | omega | (rw [Bo]; omega))) (q1c.free Ah.o) AB.o.1 AB.o.2.2 ?_;refine hK.out _ _ (Till.done (m := 15) (by simp) (by rfl)) ?_;clear hK K Ae hS;intro Ae hS;try simp only [Bp]
     refine ggT 16 Ae hS ?_; clear Ae hS; intro Ae hS;refine ggq 17 Ae (fun K hK => ?_);refine q3h (cs := cp) rfl _ _ 38 rfl rfl rfl q1b (q4l Ay.o.1 (i := y) (by first | omega | (rw [Bo]; omega))) (q1c.free Ay.o.1) AC.o.1 AC.o.2.2 ?_;refine hK.out _ _ (Till.done (m := 15) (by simp) (by rfl)) ?_;clear hK K Ae hS;intro Ae hS;try simp only [Bp]
     refine q3m (by kernel_rfl) ?_ _;go_wp2_with fail;have hrow3 := Ay.o.2;have AV := thru_up (A := X) (B := Y) (x := x) AO;rw [← Bh.o, HX.o, show A + (k - A) = k by omega, ← HY.o, show k - A + 1 = k + 1 - A by omega] at AV;rw [AV] at hrow3;have Ar := hid hrow3; have Bl := hid (chg_sw (k1 := off + k * 9) (k2 := off + y * 9) (c1 := cq) (c2 := cp) Al.o);have hyy := HY.o;rw [show k + 1 - A = y - A by omega] at Ar;clear hrow3 AV;go_roundw
     case rel => exact ⟨y, _, rfl, by omega, by omega, by go_num, Ar.o, Bl.o⟩
     case measure => simp [intOf]; omega
    ·have AZ : ¬ (k : Int) < (i : Int) - 1 := by omega
     rw [show k - A = i - m by omega, HM.o] at hrow;have Ai := hid hrow;have HB := hid (show Stab ltP (L ++ R) M by rw [Bi.o]; exact AP.o.2);clear hch hrow;go_wp2_with fail;refine bodyPost_ret (results_none rfl _ _ _) rfl ?_;exact ⟨rfl, M, Ai.o, AP.o.1, HB.o, Al.o⟩
theorem symR_any (b off n cap A m B : Nat) (X L Y : List RP) (q : RP) (R : List RP) (hRx : R = [q]) (w : World) (Aq : Hid CmpOK) (hr : q1c recL w b off (X ++ (L ++ (q :: Y)))) (hn : n = (X ++ (L ++ (q :: Y))).length) (hm : n ≤ 1000000) (hX : X.length = A) (hL : A + L.length = m) (hR : m + 1 = B) (h2 : A + 1 < m) (sL : Srt ltP L) :
  Calls Tryz.prog 136 #[Aa (some ⟨b, off, none⟩) n cap, I J A, I J m, I J B, .func (.func 96) #[] #[]] w fun e w' => e = .returned (.tuple #[]) ∧ ∃ M, q1c recL w' b off (X ++ (M ++ Y)) ∧ Srt ltP M ∧ Stab ltP (L ++ R) M ∧ Chg [b] w w' := by
 have hBn : B ≤ n := by rw [hn]; simp only [Br, Bt]; omega
 have HX := hid hX; have HLL := hid hL; have Bi := hid hRx;have Au := hid (right_anti (B := Y) (y := q) q3f hX sL);have HSR := hid sL;have hpl : (X ++ (L ++ (q :: Y))).length = n := hn.symm;have Av : (X ++ (L ++ (q :: Y)))[m]? = some q := by rw [q1v (by omega), q1v (by omega), show m - X.length - L.length = 0 by omega]; rfl
 have Aj : X ++ (L ++ (q :: Y)) = thru X L Y q (m - A) := (thru_full (by omega)).symm;have Ax := hid Aj;have AE := hid (fun (i : Nat) (hi : A ≤ i) (Bc : i ≤ A + L.length) hb => one_right (i := i) (B := Y) (y := q) q3f hX hi sL hb Bc);rw [hL] at Au AE;obtain ⟨ps, AL⟩ : ∃ ps, ps = X ++ (L ++ (q :: Y)) := ⟨_, rfl⟩;rw [← AL] at hr hpl Av Au Ax AE;have Ap := hid hr; have Bg := hid Av; have AR := hid hpl;have hm0 : ((m : Int) - (A : Int) == 1) = false := by rw [beq_eq_false_iff_ne]; omega
 have hm1 : (B : Int) - (m : Int) = 1 := by omega
 clear hr hn hX hL hRx sL hpl Av Aj AL;go_enter Tryz.func136, Tryz.ntmps136;go_wp2_with fail;go_loopw [14, 15] (fun vi vj wr => ∃ (i j : Nat) (Wr : World), Wr = wr ∧ A ≤ i ∧ i ≤ j ∧ j ≤ m ∧ vi = I J i ∧ vj = I J j ∧ q1c recL wr b off ps ∧ Hid (Bnd (fun t => !ltAt ltP (some q) ps[t]?) A m i j) ∧ Chg [b] w wr) (fun vi vj _ => (intOf vj).toNat - (intOf vi).toNat)
 case atStart => exact ⟨A, m, _, rfl, by omega, by omega, by omega, rfl, rfl, Ap.o, Bnd.zero _ _ _, Chg.refl _ _⟩
 case round =>
  obtain ⟨i, j, wr, rfl, Be, hij, Bb, rfl, rfl, hrow, AH, hch⟩ := hrel;have Al := hid hch;by_cases hlt : i < j
  ·obtain ⟨h, hh⟩ : ∃ h, h = (i + j) / 2 := ⟨_, rfl⟩;have hh1 : i ≤ h ∧ h < j := by omega
   have hcv : ((i : Int) + (j : Int)) / 2 = (h : Int) := by omega
   obtain ⟨p, AK⟩ : ∃ p, p = q := ⟨_, rfl⟩;obtain ⟨z, hz⟩ : ∃ z, ps[h]? = some z := ⟨_, Bq (by have := AR.o; omega)⟩;have hp : ps[m]? = some p := by rw [AK]; exact Bg.o
   have hn1 : h < n := by omega
   have hn2 : m < n := by omega
   have Ag := q4v hrow;clear hch hrow hh;have hq := hz;cases hl : ltP p z
   ·have AA := hid (show (fun t => !ltAt ltP (some q) ps[t]?) h = true by dsimp only; rw [hz, ← AK]; simp only [ltAt]; rw [hl]; rfl);go_wp2_with fail;obtain ⟨c1, r1, -, k1⟩ := q1n Ag hp;obtain ⟨c2, r2, -, k2⟩ := q1n Ag hq;have HK := hid (Bn k1 k2); have Ah := hid Ag; have AQ := hid (Bn hp hq); have Az := hid (Aq.o _ _ _ _ _ _ _ r1 r2);clear r1 r2 k1 k2 hp hq Ag;obtain ⟨SS, Ao, Am⟩ := q0f (fun w' => q1j w' b (off + (m) * 9) 9 c1 ∧ q1j w' b (off + (h) * 9) 9 c2);have Af := Ao.o _ HK.o;refine q0g SS (by kernel_rfl) Af ?_;refine rgT 0 Af ?_;refine rgT 1 Af ?_;refine rgT 2 Af ?_;refine rgT 3 Af ?_;refine rgL 4 Af Am ?_ (hy := fun w' hw => q1d _ 38 rfl rfl q1b Tryz.underlying38 hw.1);refine rgT 5 Af ?_;refine rgT 6 Af ?_;refine rgT 7 Af ?_;refine rgL 8 Af Am ?_ (hy := fun w' hw => q1d _ 38 rfl rfl q1b Tryz.underlying38 hw.2);refine rgq 9 (fun K hK => ?_);go_simp;go_at_call 96;refine Az.o.mono ?_;rintro e w1 ⟨r, rfl, Ak, hc1⟩;have Aw := cmp_r hl Ak;have A9 := hid (Ah.o.ext hc1); have AG := hid (Al.o.drew.trans0 hc1); have AD := hid (Bn (HK.o.1.ext hc1 Ah.o.lt) (HK.o.2.ext hc1 Ah.o.lt));clear hc1 Ak;go_wp2_with fail;refine hK.out _ _ (Ao.o _ AD.o) (fun hS1 => ?_);clear hK K;try simp only [Bp, pA, pB, pC]
    refine rgT 10 hS1 ?_;refine rgT 11 hS1 ?_;refine wDn ?_;have Ak := Aw;go_wp2_with fail;have AJ := hid (AH.o.yes Au.o (by omega) AA.o);go_roundw
    case rel => exact ⟨h + 1, j, _, rfl, by omega, by omega, by omega, by go_num, rfl, A9.o, AJ, AG.o⟩
    case measure => simp [intOf]; omega
   ·have AA := hid (show (fun t => !ltAt ltP (some q) ps[t]?) h = false by dsimp only; rw [hz, ← AK]; simp only [ltAt]; rw [hl]; rfl);go_wp2_with fail;obtain ⟨c1, r1, -, k1⟩ := q1n Ag hp;obtain ⟨c2, r2, -, k2⟩ := q1n Ag hq;have HK := hid (Bn k1 k2); have Ah := hid Ag; have AQ := hid (Bn hp hq); have Az := hid (Aq.o _ _ _ _ _ _ _ r1 r2);clear r1 r2 k1 k2 hp hq Ag;obtain ⟨SS, Ao, Am⟩ := q0f (fun w' => q1j w' b (off + (m) * 9) 9 c1 ∧ q1j w' b (off + (h) * 9) 9 c2);have Af := Ao.o _ HK.o;refine q0g SS (by kernel_rfl) Af ?_;refine rgT 0 Af ?_;refine rgT 1 Af ?_;refine rgT 2 Af ?_;refine rgT 3 Af ?_;refine rgL 4 Af Am ?_ (hy := fun w' hw => q1d _ 38 rfl rfl q1b Tryz.underlying38 hw.1);refine rgT 5 Af ?_;refine rgT 6 Af ?_;refine rgT 7 Af ?_;refine rgL 8 Af Am ?_ (hy := fun w' hw => q1d _ 38 rfl rfl q1b Tryz.underlying38 hw.2);refine rgq 9 (fun K hK => ?_);go_simp;go_at_call 96;refine Az.o.mono ?_;rintro e w1 ⟨r, rfl, Ak, hc1⟩;have Aw := cmp_r hl Ak;have A9 := hid (Ah.o.ext hc1); have AG := hid (Al.o.drew.trans0 hc1); have AD := hid (Bn (HK.o.1.ext hc1 Ah.o.lt) (HK.o.2.ext hc1 Ah.o.lt));clear hc1 Ak;go_wp2_with fail;refine hK.out _ _ (Ao.o _ AD.o) (fun hS1 => ?_);clear hK K;try simp only [Bp, pA, pB, pC]
    refine rgT 10 hS1 ?_;refine rgT 11 hS1 ?_;refine wDn ?_;have Ak := Aw;go_wp2_with fail;have AJ := hid (AH.o.no Au.o (by omega) AA.o);go_roundw
    case rel => exact ⟨i, h, _, rfl, by omega, by omega, by omega, rfl, by go_num, A9.o, AJ, AG.o⟩
    case measure => simp [intOf]; omega
  ·obtain rfl : i = j := by omega
   obtain ⟨M, e1, s1, b1⟩ := AE.o i Be Bb AH.o;have HM := hid e1; have AP := hid (Bn s1 b1);rw [Ax.o] at hrow;have Ai := hid hrow;clear hch hrow e1 s1 b1;go_wp2_with fail;go_loopw [17] (fun vk wq => ∃ (k : Nat) (Wq : World), Wq = wq ∧ i ≤ k ∧ k ≤ m ∧ vk = I J k ∧ q1c recL wq b off (thru X L Y q (k - A)) ∧ Chg [b] w wq) (fun vk _ => (intOf vk).toNat)
   case atStart => exact ⟨m, _, rfl, by omega, by omega, rfl, Ai.o, Al.o⟩
   case round =>
    clear Al Ai;obtain ⟨k, wq, rfl, hk1, hk2, rfl, hrow, hch⟩ := hrel;have Al := hid hch;by_cases hki : i < k
    ·have AO : k - A - 1 < L.length := by have := HLL.o; omega
     have Ba : k - A = (k - A - 1) + 1 := by omega
     obtain ⟨p, AY⟩ : ∃ p, p = L[k - A - 1] := ⟨_, rfl⟩;have hp : (thru X L Y q (k - A))[k]? = some q := by
      have := thru_at (A := X) (S := L) (B := Y) (x := q) (k := k - A) (by have := HLL.o; omega)
      rwa [HX.o, show A + (k - A) = k by omega] at this
     have hq : (thru X L Y q (k - A))[k - 1]? = some p := by
      have := thru_prev (A := X) (B := Y) (x := q) AO;rw [← Ba, HX.o, show A + (k - A - 1) = k - 1 by omega] at this;rw [this, AY]
     have hln : (thru X L Y q (k - A)).length = n := by have := AR.o; rw [Ax.o, q6y] at this; rw [q6y]; exact this
     obtain ⟨y, hy⟩ : ∃ y, y = k - 1 := ⟨_, rfl⟩;have hwy : IntKind.i64.wrap ((k : Int) - 1) = (y : Int) := by rw [IntWalk.i64_in _ ⟨by omega, by omega⟩]; omega
     have h1 : k < n := by omega
     have h3 : y < n := by omega
     rw [← hy] at hq;have Ag := q4v hrow;have HY := hid hy; have Bh := hid AY; have HK9 := hid Ba;clear hch hrow hy AY Ba;go_wp2_with fail;obtain ⟨cp, rp, bp, kp⟩ := q1n Ag hp;obtain ⟨cq, rq, bq, kq⟩ := q1n Ag hq;have Ay := hid (q8p Ag hp hq rp rq bp bq);have Ah := hid Ag; have AQ := hid (Bn hp hq); have AC := hid kp; have AB := hid kq;clear rp rq bp bq kp kq hp hq Ag;obtain ⟨CC, Bj, AU⟩ := q0f (fun w' => q1j w' b (off + (k) * 9) 9 cp ∧ q1j w' b (off + (y) * 9) 9 cq);refine q1l [15, 17] CC (by kernel_rfl) (Bj.o _ ⟨AC.o, AB.o⟩) (fun Ae hS => ?_);refine ggT 0 Ae hS ?_; clear Ae hS; intro Ae hS;refine ggT 1 Ae hS ?_; clear Ae hS; intro Ae hS;refine ggT 2 Ae hS ?_; clear Ae hS; intro Ae hS;refine ggT 3 Ae hS ?_; clear Ae hS; intro Ae hS;refine ggT 4 Ae hS ?_; clear Ae hS; intro Ae hS;refine ggT 5 Ae hS ?_; clear Ae hS; intro Ae hS;refine ggT 6 Ae hS ?_; clear Ae hS; intro Ae hS;refine ggT 7 Ae hS ?_; clear Ae hS; intro Ae hS;refine ggT 8 Ae hS ?_; clear Ae hS; intro Ae hS;refine ggL 9 Ae hS AU ?_ (hy := fun w' hw => q1d _ 38 rfl rfl q1b Tryz.underlying38 hw.2); clear Ae hS; intro Ae hS;refine ggT 10 Ae hS ?_; clear Ae hS; intro Ae hS;refine ggT 11 Ae hS ?_; clear Ae hS; intro Ae hS;refine ggT 12 Ae hS ?_; clear Ae hS; intro Ae hS;refine ggL 13 Ae hS AU ?_ (hy := fun w' hw => q1d _ 38 rfl rfl q1b Tryz.underlying38 hw.1); clear Ae hS; intro Ae hS;refine ggT 14 Ae hS ?_; clear Ae hS; intro Ae hS;refine ggq 15 Ae (fun K hK => ?_);refine q3h (cs := cq) rfl _ _ 38 rfl rfl rfl q1b (q4l Ah.o (i := k) (by first | omega | (rw [Bo]; omega))) (q1c.free Ah.o) AB.o.1 AB.o.2.2 ?_;refine hK.out _ _ (Till.done (m := 15) (by simp) (by rfl)) ?_;clear hK K Ae hS;intro Ae hS;try simp only [Bp]
     refine ggT 16 Ae hS ?_; clear Ae hS; intro Ae hS;refine ggq 17 Ae (fun K hK => ?_);refine q3h (cs := cp) rfl _ _ 38 rfl rfl rfl q1b (q4l Ay.o.1 (i := y) (by first | omega | (rw [Bo]; omega))) (q1c.free Ay.o.1) AC.o.1 AC.o.2.2 ?_;refine hK.out _ _ (Till.done (m := 15) (by simp) (by rfl)) ?_;clear hK K Ae hS;intro Ae hS;try simp only [Bp]
     refine q3m (by kernel_rfl) ?_ _;go_wp2_with fail;have hrow3 := Ay.o.2;have Bf := thru_down (A := X) (B := Y) (x := q) AO;rw [← HK9.o, ← Bh.o, HX.o, show A + (k - A - 1) + 1 = k by omega, show A + (k - A - 1) = y by have := HY.o; omega, show k - A - 1 = y - A by have := HY.o; omega] at Bf;rw [Bf] at hrow3;have Ar := hid hrow3; have Bl := hid (chg_sw (k1 := off + k * 9) (k2 := off + y * 9) (c1 := cq) (c2 := cp) Al.o);have hyy := HY.o;clear hrow3 Bf;go_roundw
     case rel => exact ⟨y, _, rfl, by omega, by omega, by go_num, Ar.o, Bl.o⟩
     case measure => simp [intOf]; omega
    ·obtain rfl : k = i := by omega
     rw [HM.o] at hrow;have Ai := hid hrow;have HB := hid (show Stab ltP (L ++ R) M by rw [Bi.o]; exact AP.o.2);clear hch hrow;go_wp2_with fail;refine bodyPost_ret (results_none rfl _ _ _) rfl ?_;exact ⟨rfl, M, Ai.o, AP.o.1, HB.o, Al.o⟩
end Go.Proofs.YthhaednigdgclaaGreat
