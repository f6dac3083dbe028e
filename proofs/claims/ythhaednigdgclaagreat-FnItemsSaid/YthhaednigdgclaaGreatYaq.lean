/- Several texts in one. -/
import Derived.Deep.DeepCutAuto
import Derived.Test.YthhaednigdgclaaGreatYap
open Go.Value renaming int → I, slice → Aa, string → Ab, bool → Ac
open Go.IntKind renaming i64 → J
open Go.Obj renaming cells → Ad
open List renaming eq_nil_of_length_eq_zero → Bz, length_append → B7, take_append_drop → BA, getElem?_eq_getElem → BB, length_eq_one_iff → BC, append_assoc → BD, length_take → BF, length_drop → BG, append_nil → BH
open And renaming intro → B5
set_option maxRecDepth 100000
set_option maxHeartbeats 8000000
namespace Go.Proofs.YthhaednigdgclaaGreat
open Go.RowKit
open Go.Lib (hid)
theorem cut_len {L : List RP} {a k m : Nat} (hL : a + L.length = m) (hk : k ≤ m) (ha : a ≤ k) : (L.take (k - a)).length = k - a ∧ (L.drop (k - a)).length = m - k := by
 rw [BF, BG]; omega
theorem z0y : ∀ (N : Nat) (b off n cap A m B : Nat) (X L R Y : List RP) (w : World) (_ : Hid CmpOK) (_ : q1c recL w b off (X ++ (L ++ (R ++ Y)))) (_ : n = (X ++ (L ++ (R ++ Y))).length) (_ : n ≤ 1000000) (_ : X.length = A) (_ : A + L.length = m) (_ : m + R.length = B) (_ : A < m) (_ : m < B) (_ : Srt ltP L) (_ : Srt ltP R) (_ : B - A ≤ N),
  Calls Tryz.prog 136 #[Aa (some ⟨b, off, none⟩) n cap, I J A, I J m, I J B, .func (.func 96) #[] #[]] w fun e w' => e = .returned (.tuple #[]) ∧ ∃ M, q1c recL w' b off (X ++ (M ++ Y)) ∧ Srt ltP M ∧ Stab ltP (L ++ R) M ∧ Chg [b] w w'
 | 0 => fun b off n cap A m B X L R Y w Ah hr hn hm hX hL hR h1 h2 sL sR hN => absurd hN (by omega)
 | N + 1 => by
  intro b off n cap A m B X L R Y w Ah hr hn hm hX hL hR h1 h2 sL sR hN;by_cases e1 : m = A + 1
  ·obtain ⟨x, rfl⟩ : ∃ x, L = [x] := BC.1 (by omega);exact symL_any b off n cap A m B X R Y x [x] rfl w Ah (by simpa using hr) (by simpa using hn) hm hX e1.symm hR h2 sR
  by_cases e2 : B = m + 1
  ·obtain ⟨x, rfl⟩ : ∃ x, R = [x] := BC.1 (by omega);exact symR_any b off n cap A m B X L Y x [x] rfl w Ah (by simpa using hr) (by simpa using hn) hm hX hL e2.symm (by omega) sL
  have IH := hid (fun A m B X L R Y w => z0y N b off n cap A m B X L R Y w Ah);have hBn : B ≤ n := by rw [hn]; simp only [B7]; omega
  obtain ⟨mid, Ba⟩ : ∃ mid, mid = (A + B) / 2 := ⟨_, rfl⟩;have hcv : ((A : Int) + (B : Int)) / 2 = (mid : Int) := by omega
  obtain ⟨nn, hnn⟩ : ∃ nn, nn = mid + m := ⟨_, rfl⟩;have AZ : (mid : Int) + (m : Int) = (nn : Int) := by omega
  have Ao : A < mid ∧ mid < B ∧ 2 * mid ≤ A + B ∧ A + B ≤ 2 * mid + 1 := by omega
  have Ay := hid Ao;have HX := hid hX; have HLL := hid hL; have Be := hid hR; have Bc := hid sL; have Bb := hid sR; have Ai := hid hnn; have HN := hid hN;have hpl : (X ++ (L ++ (R ++ Y))).length = n := hn.symm;have A9 := hid (fun (s0 r0 : Nat) (AV : (mid < m ∧ s0 = mid + m - B ∧ B ≤ mid + m ∧ r0 = mid) ∨ (m ≤ mid ∧ s0 = A ∧ r0 = m)) => sym_anti (B := Y) q3f hX hL hR sL sR Ao.1 Ao.2.1 AV Ao.2.2);have Az := hid (fun (s0 r0 s : Nat) (AV : (mid < m ∧ s0 = mid + m - B ∧ B ≤ mid + m ∧ r0 = mid) ∨ (m ≤ mid ∧ s0 = A ∧ r0 = m)) (h0 : s0 ≤ s) (h1 : s ≤ r0) hbd => sym_cut (A := X) (B := Y) (s := s) q3f hX hL hR sL sR Ao.1 Ao.2.1 AV Ao.2.2 h0 h1 hbd);obtain ⟨ps, AY⟩ : ∃ ps, ps = X ++ (L ++ (R ++ Y)) := ⟨_, rfl⟩;rw [← AY] at hr hpl A9 Az;have Ar := hid hr; have Bn := hid hpl; have Bj := hid AY;have hm0 : ((m : Int) - (A : Int) == 1) = false := by rw [beq_eq_false_iff_ne]; omega
  have hm1 : ((B : Int) - (m : Int) == 1) = false := by rw [beq_eq_false_iff_ne]; omega
  have hb6 : mid ≤ n ∧ nn ≤ 2 * n := by omega
  obtain ⟨hb7, hb8⟩ := hb6;clear hr hn hX hL hR sL sR hpl AY Ba hnn Ao e1 e2 hN;go_enter Tryz.func136, Tryz.ntmps136;go_upto_if 140 with fail
  go_cut [20, 21] from 138 to 146 (fun s20 s21 w2 => ∃ s0 r0 : Nat, s20 = I J s0 ∧ s21 = I J r0 ∧ Hid ((mid < m ∧ s0 = mid + m - B ∧ B ≤ mid + m ∧ r0 = mid) ∨ (m ≤ mid ∧ s0 = A ∧ r0 = m)) ∧ w = w2)
  case first =>
   by_cases AH : mid < m
   ·obtain ⟨s0, hs0⟩ : ∃ s0, s0 = mid + m - B := ⟨_, rfl⟩;have hsub : (nn : Int) - (B : Int) = (s0 : Int) := by have := Ai.o; have := Ay.o; omega
    have Aw := hid hs0;clear hs0;go_wp2_with fail;go_meet;exact ⟨s0, mid, rfl, rfl, .inl ⟨AH, Aw.o, by have := Ay.o; omega, rfl⟩, rfl⟩
   ·have hgt : ¬ (mid : Int) < (m : Int) := fun h => AH (Int.ofNat_lt.1 h)
    have HMM := hid (Nat.le_of_not_lt AH);clear AH hcv AZ hb7 hb8 hm0 hm1;go_wp2_with fail;go_meet;exact ⟨A, m, rfl, rfl, .inr ⟨HMM.o, rfl, rfl⟩, rfl⟩
  case rest =>
  revert wc; intro w2 hcut;obtain ⟨s0, r0, rfl, rfl, HS, rfl⟩ := hcut;obtain ⟨pp, hpp⟩ : ∃ pp, pp = nn - 1 := ⟨_, rfl⟩;have hpp1 : (nn : Int) - 1 = (pp : Int) := by have := Ai.o; have := Ay.o; omega
  have Bl := hid hpp;have AW : s0 ≤ r0 ∧ r0 ≤ m ∧ r0 ≤ mid ∧ A ≤ s0 := by have := HS.o; have := Ay.o; omega
  have Bw := hid (A9.o s0 r0 HS.o);have HCT := hid (fun s => Az.o s0 r0 s HS.o);have hsb1 := AW.1;have AP := hid AW;clear hpp AW A9 Az;go_wp2_with fail;go_loopw [20, 21] (fun vi vj wr => ∃ (i j : Nat) (Wr : World), Wr = wr ∧ s0 ≤ i ∧ i ≤ j ∧ j ≤ r0 ∧ vi = I J i ∧ vj = I J j ∧ q1c recL wr b off ps ∧ Hid (Bnd (fun c => !ltAt ltP ps[mid + m - 1 - c]? ps[c]?) s0 r0 i j) ∧ Chg [b] w wr) (fun vi vj _ => (intOf vj).toNat - (intOf vi).toNat)
  case atStart => exact ⟨s0, r0, _, rfl, by omega, by omega, by omega, rfl, rfl, Ar.o, Bnd.zero _ _ _, Chg.refl _ _⟩
  case round =>
  obtain ⟨i, j, wr, rfl, hi1, hij, hjB, rfl, rfl, hrow, AQ, hch⟩ := hrel;have AG := hid hch;by_cases hlt : i < j
  ·obtain ⟨h, hh⟩ : ∃ h, h = (i + j) / 2 := ⟨_, rfl⟩;have hh1 : i ≤ h ∧ h < j := by omega
   have hcv2 : ((i : Int) + (j : Int)) / 2 = (h : Int) := by omega
   obtain ⟨z, hz0⟩ : ∃ z, z = pp - h := ⟨_, rfl⟩;have hb9 : r0 ≤ m ∧ r0 ≤ mid := ⟨AP.o.2.1, AP.o.2.2.1⟩;have hwz : IntKind.i64.wrap ((pp : Int) - (h : Int)) = (z : Int) := by have := Bl.o; have := Ai.o; rw [IntWalk.i64_in _ ⟨by omega, by omega⟩]; omega
   have hzn : z < n := by have h1 := Bl.o; have h2 := Ai.o; have h3 := HS.o; omega
   have HZ := hid (show z = mid + m - 1 - h by have := Bl.o; have := Ai.o; omega);obtain ⟨p, hp⟩ : ∃ p, ps[z]? = some p := ⟨_, BB (by have := Bn.o; omega)⟩;obtain ⟨q, hq⟩ : ∃ q, ps[h]? = some q := ⟨_, BB (by have := Bn.o; omega)⟩;have hz := hp;have hn1 : h < n := by omega
   have Am := q4v hrow;clear hch hrow hh hz0 hb9;cases hl : ltP p q
   ·have Bo := hid (show (fun c => !ltAt ltP ps[mid + m - 1 - c]? ps[c]?) h = true by dsimp only; rw [show mid + m - 1 - h = z by have := HZ.o; omega, hz, hq]; simp only [ltAt]; rw [hl]; rfl);go_wp2_with fail;obtain ⟨c1, r1, -, k1⟩ := q1n Am hp;obtain ⟨c2, r2, -, k2⟩ := q1n Am hq;have HK := hid (B5 k1 k2); have Ax := hid Am; have HPQ := hid (B5 hp hq); have Bf := hid (Ah.o _ _ _ _ _ _ _ r1 r2);clear r1 r2 k1 k2 hp hq Am;obtain ⟨SS, AC, AB⟩ := q0f (fun w' => q1j w' b (off + (z) * 9) 9 c1 ∧ q1j w' b (off + (h) * 9) 9 c2);have Ae := AC.o _ HK.o;refine q0g SS (by kernel_rfl) Ae ?_;refine rgT 0 Ae ?_;refine rgT 1 Ae ?_;refine rgT 2 Ae ?_;refine rgT 3 Ae ?_;refine rgT 4 Ae ?_;refine rgT 5 Ae ?_;refine rgL 6 Ae AB ?_ (hy := fun w' hw => q1d _ 38 rfl rfl q1b Tryz.underlying38 hw.1);refine rgT 7 Ae ?_;refine rgT 8 Ae ?_;refine rgT 9 Ae ?_;refine rgL 10 Ae AB ?_ (hy := fun w' hw => q1d _ 38 rfl rfl q1b Tryz.underlying38 hw.2);refine rgq 11 (fun K hK => ?_);go_simp;go_at_call 96;refine Bf.o.mono ?_;rintro e w1 ⟨r, rfl, Au, hc1⟩;have AX := cmp_r hl Au;have Bi := hid (Ax.o.ext hc1); have Bu := hid (AG.o.drew.trans0 hc1); have Bq := hid (B5 (HK.o.1.ext hc1 Ax.o.lt) (HK.o.2.ext hc1 Ax.o.lt));clear hc1 Au;go_wp2_with fail;refine hK.out _ _ (AC.o _ Bq.o) (fun hS1 => ?_);clear hK K;try simp only [Act.put, pA, pB, pC]
    refine rgT 12 hS1 ?_;refine rgT 13 hS1 ?_;refine wDn ?_;have Au := AX;go_wp2_with fail;have Bv := hid (AQ.o.yes Bw.o (by omega) Bo.o);go_roundw
    case rel => exact ⟨h + 1, j, _, rfl, by omega, by omega, by omega, by go_num, rfl, Bi.o, Bv, Bu.o⟩
    case measure => simp [intOf]; omega
   ·have Bo := hid (show (fun c => !ltAt ltP ps[mid + m - 1 - c]? ps[c]?) h = false by dsimp only; rw [show mid + m - 1 - h = z by have := HZ.o; omega, hz, hq]; simp only [ltAt]; rw [hl]; rfl);go_wp2_with fail;obtain ⟨c1, r1, -, k1⟩ := q1n Am hp;obtain ⟨c2, r2, -, k2⟩ := q1n Am hq;have HK := hid (B5 k1 k2); have Ax := hid Am; have HPQ := hid (B5 hp hq); have Bf := hid (Ah.o _ _ _ _ _ _ _ r1 r2);clear r1 r2 k1 k2 hp hq Am;obtain ⟨SS, AC, AB⟩ := q0f (fun w' => q1j w' b (off + (z) * 9) 9 c1 ∧ q1j w' b (off + (h) * 9) 9 c2);have Ae := AC.o _ HK.o;refine q0g SS (by kernel_rfl) Ae ?_;refine rgT 0 Ae ?_;refine rgT 1 Ae ?_;refine rgT 2 Ae ?_;refine rgT 3 Ae ?_;refine rgT 4 Ae ?_;refine rgT 5 Ae ?_;refine rgL 6 Ae AB ?_ (hy := fun w' hw => q1d _ 38 rfl rfl q1b Tryz.underlying38 hw.1);refine rgT 7 Ae ?_;refine rgT 8 Ae ?_;refine rgT 9 Ae ?_;refine rgL 10 Ae AB ?_ (hy := fun w' hw => q1d _ 38 rfl rfl q1b Tryz.underlying38 hw.2);refine rgq 11 (fun K hK => ?_);go_simp;go_at_call 96;refine Bf.o.mono ?_;rintro e w1 ⟨r, rfl, Au, hc1⟩;have AX := cmp_r hl Au;have Bi := hid (Ax.o.ext hc1); have Bu := hid (AG.o.drew.trans0 hc1); have Bq := hid (B5 (HK.o.1.ext hc1 Ax.o.lt) (HK.o.2.ext hc1 Ax.o.lt));clear hc1 Au;go_wp2_with fail;refine hK.out _ _ (AC.o _ Bq.o) (fun hS1 => ?_);clear hK K;try simp only [Act.put, pA, pB, pC]
    refine rgT 12 hS1 ?_;refine rgT 13 hS1 ?_;refine wDn ?_;have Au := AX;go_wp2_with fail;have Bv := hid (AQ.o.no Bw.o (by omega) Bo.o);go_roundw
    case rel => exact ⟨i, h, _, rfl, by omega, by omega, by omega, rfl, by go_num, Bi.o, Bv, Bu.o⟩
    case measure => simp [intOf]; omega
  ·obtain rfl : i = j := by omega
   obtain ⟨hc1, hc2⟩ := HCT.o i hi1 hjB AQ.o;obtain ⟨en, hen⟩ : ∃ en, en = nn - i := ⟨_, rfl⟩;have hen1 : (nn : Int) - (i : Int) = (en : Int) := by have := Ai.o; have := AP.o; omega
   have AA : i ≤ m ∧ i ≤ mid ∧ A ≤ i ∧ mid - i ≤ B - m := by have := AP.o; have := HS.o; have := Ay.o; omega
   have Aj := hid AA;have AL := cut_len HLL.o AA.1 AA.2.2.1;have AO := cut_len (a := i) (m := i + (B - m)) (k := mid) (L := R) (by have := Be.o; omega) (by omega) AA.2.1;rw [Bj.o] at hrow;have Af : X ++ (L ++ (R ++ Y)) = X ++ (L.take (i - A) ++ (L.drop (i - A) ++ (R.take (mid - i) ++ (R.drop (mid - i) ++ Y)))) := by
    rw [← BD (R.take _), BA, ← BD (L.take _), BA]
   have HST := hid (show Stab ltP (L ++ R) ((L.take (i - A) ++ L.drop (i - A)) ++ (R.take (mid - i) ++ R.drop (mid - i))) by rw [BA, BA]; exact Stab.refl _);rw [Af] at hrow;have sU := Bc.o.take (i - A); have sV := Bc.o.drop (i - A); have sX2 := Bb.o.take (mid - i); have sY2 := Bb.o.drop (mid - i);have AK : AllLe ltP (L.take (i - A)) (L.drop (i - A)) := (Srt.parts (by rw [BA]; exact Bc.o)).2.2;have AJ : AllLe ltP (R.take (mid - i)) (R.drop (mid - i)) := (Srt.parts (by rw [BA]; exact Bb.o)).2.2;generalize L.take (i - A) = U at hc1 hc2 AL hrow HST sU AK;generalize L.drop (i - A) = V at hc1 AL hrow HST sV AK;generalize R.take (mid - i) = X2 at hc1 AO hrow HST sX2 AJ;generalize R.drop (mid - i) = Y2 at hc2 AO hrow HST sY2 AJ;have HMG := hid (fun (M1 M2 : List RP) (s1 : Srt ltP M1) (b1 : Stab ltP (U ++ X2) M1) (s2 : Srt ltP M2) (b2 : Stab ltP (V ++ Y2) M2) => merge_parts q3f hc1 AK hc2 AJ s1 b1 s2 b2);have Ap := hid AL; have Ag := hid AO; have Al := hid hrow;have Aq := hid (B5 (B5 sU sV) (B5 sX2 sY2)); have AE := hid hen;have hNL : X.length + (U.length + (V.length + (X2.length + (Y2.length + Y.length)))) = n := by
    have h1 := Bn.o;rw [Bj.o, Af] at h1;have h2 := HX.o; have h3 := HLL.o; have h4 := Be.o;simp only [B7, BF, BG] at h1;omega
   have Bp := hid hNL;have hpre : mid < B ∧ A < mid := ⟨Ay.o.2.1, Ay.o.1⟩;clear hch hrow AL AO Af hc1 hc2 AK AJ sU sV sX2 sY2 AA hen hNL Bw HCT AQ Ar Bj;go_upto_region 39 with fail;go_cut [185] from 178 to 185 (fun AU w2 => AU = Ac (decide (i < m ∧ m < en)) ∧ wr = w2)
   case first =>
    by_cases g1 : i < m
    ·by_cases g2 : m < en
     ·go_wp2_with fail;go_meet;exact ⟨by simp [g1, g2], rfl⟩
     ·go_wp2_with fail;go_meet;exact ⟨by simp [g2], rfl⟩
    ·go_wp2_with fail;go_meet;exact ⟨by simp [g1], rfl⟩
   case rest =>
   revert wc; intro w2 hcut;obtain ⟨rfl, rfl⟩ := hcut;go_upto_if 185 with fail
   go_cut [] from 185 to 191 (fun w2 => q1c recL w2 b off (X ++ (U ++ (X2 ++ (V ++ (Y2 ++ Y))))) ∧ Chg [b] w w2)
   case first =>
    by_cases g : i < m ∧ m < en
    ·have Aw := hid (rotR_any b off n cap i m en (X ++ U) V X2 (Y2 ++ Y) (.func (.func 96) #[] #[]) wr (by simpa using Al.o) (by have := Bp.o; simp only [B7]; omega) hm (by have := HX.o; have := Ap.o; have := Aj.o; rw [B7]; omega) (by have := Ap.o; omega) (by have := Ag.o; have := AE.o; have := Ai.o; have := Aj.o; omega) g.1 g.2);rw [decide_eq_true g];clear g;go_wp2_with fail;refine Aw.o.mono ?_;rintro e w3 ⟨rfl, hr3, hc3⟩;have Bh := hid hr3; have Bt := hid (AG.o.trans hc3 (fun y hy => .inl hy));clear hr3 hc3;go_wp2_with fail;go_meet;exact ⟨by have := Bh.o; simpa using this, Bt.o⟩
    ·have HE := hid (show V = [] ∨ X2 = [] by
      have h1 := Ap.o; have h2 := Ag.o; have h3 := AE.o; have h4 := Ai.o; have h5 := Aj.o;by_cases hv : i < m
      ·exact .inr (Bz (by omega))
      ·exact .inl (Bz (by omega)))
     rw [decide_eq_false g];clear g;go_wp2_with fail;go_meet;refine ⟨?_, AG.o⟩;rcases HE.o with h | h
     ·have := Al.o; rw [h] at this ⊢; simpa using this
     ·have := Al.o; rw [h] at this ⊢; simpa using this
   case rest =>
   revert wc; intro w4 hcut;obtain ⟨hr4, hc4⟩ := hcut;have Bg := hid hr4; have Br := hid hc4;clear hr4 hc4 Al AG;go_upto_region 41 with fail;go_cut [199] from 192 to 199 (fun AR w2 => AR = Ac (decide (A < i ∧ i < mid)) ∧ w4 = w2)
   case first =>
    by_cases g1 : A < i
    ·by_cases g2 : i < mid
     ·go_wp2_with fail;go_meet;exact ⟨by simp [g1, g2], rfl⟩
     ·go_wp2_with fail;go_meet;exact ⟨by simp [g2], rfl⟩
    ·go_wp2_with fail;go_meet;exact ⟨by simp [g1], rfl⟩
   case rest =>
   revert wc; intro w2 hcut;obtain ⟨rfl, rfl⟩ := hcut;go_upto_if 199 with fail
   go_cut [] from 199 to 205 (fun w2 => (∃ M1, q1c recL w2 b off (X ++ (M1 ++ (V ++ (Y2 ++ Y)))) ∧ Srt ltP M1 ∧ Stab ltP (U ++ X2) M1) ∧ Chg [b] w w2)
   case first =>
    by_cases g : A < i ∧ i < mid
    ·have Aw := hid (IH.o A i mid X U X2 (V ++ (Y2 ++ Y)) w4 Bg.o (by have := Bp.o; simp only [B7]; omega) hm HX.o (by have := Ap.o; have := Aj.o; omega) (by have := Ag.o; have := Aj.o; omega) g.1 g.2 Aq.o.1.1 Aq.o.2.1 (by have := HN.o; omega));rw [decide_eq_true g];clear g;go_wp2_with fail;refine Aw.o.mono ?_;rintro e w3 ⟨rfl, M1, hr3, s3, b3, hc3⟩;have Bh := hid hr3; have Bt := hid (Br.o.trans hc3 (fun y hy => .inl hy)); have AD := hid (B5 s3 b3);clear hr3 hc3 s3 b3;go_wp2_with fail;go_meet;exact ⟨⟨M1, Bh.o, AD.o.1, AD.o.2⟩, Bt.o⟩
    ·have HE := hid (show U = [] ∨ X2 = [] by
      have h1 := Ap.o; have h2 := Ag.o; have h5 := Aj.o;by_cases hv : A < i
      ·exact .inr (Bz (by omega))
      ·exact .inl (Bz (by omega)))
     rw [decide_eq_false g];clear g;go_wp2_with fail;go_meet;refine ⟨⟨U ++ X2, by have := Bg.o; simpa using this, ?_, Stab.refl _⟩, Br.o⟩;rcases HE.o with h | h
     ·rw [h]; exact Aq.o.2.1
     ·rw [h, BH]; exact Aq.o.1.1
   case rest =>
   revert wc; intro w5 hcut;obtain ⟨⟨M1, hr5, s5, b5⟩, hc5⟩ := hcut;have HR5 := hid hr5; have HC5 := hid hc5; have Ak := hid (B5 s5 b5);have HM1 := hid (show M1.length = U.length + X2.length by have := b5.1; rw [B7] at this; exact this);clear hr5 hc5 s5 b5 Bg Br;by_cases g : mid < en ∧ en < B
   ·have Aw := hid (IH.o mid en B (X ++ M1) V Y2 Y w5 (by have := HR5.o; simpa using this) (by have := Bp.o; have := HM1.o; simp only [B7]; omega) hm (by have := HX.o; have := HM1.o; have := Ap.o; have := Ag.o; have := Aj.o; rw [B7]; omega) (by have := Ap.o; have := Aj.o; have := AE.o; have := Ai.o; omega) (by have := Ag.o; have := Aj.o; have := AE.o; have := Ai.o; have := Be.o; omega) g.1 g.2 Aq.o.1.2 Aq.o.2.2 (by have := HN.o; omega));obtain ⟨g1, g2⟩ := g;go_wp2_with fail;refine Aw.o.mono ?_;rintro e w3 ⟨rfl, M2, hr3, s3, b3, hc3⟩;have Av := HMG.o M1 M2 Ak.o.1 Ak.o.2 s3 b3;have HF := hid (B5 (show q1c recL w3 b off (X ++ ((M1 ++ M2) ++ Y)) by simpa using hr3) (B5 Av.1 (B5 (HST.o.trans Av.2) (HC5.o.trans hc3 (fun y hy => .inl hy)))));clear hr3 hc3 s3 b3 Av;go_wp2_with fail;go_end0;exact ⟨rfl, M1 ++ M2, HF.o⟩
   ·have HE := hid (show V = [] ∨ Y2 = [] by
     have h1 := Ap.o; have h2 := Ag.o; have h5 := Aj.o; have h6 := AE.o; have h7 := Ai.o;by_cases hv : mid < en
     ·exact .inr (Bz (by omega))
     ·exact .inl (Bz (by omega)))
    have s3 : Srt ltP (V ++ Y2) := by
     rcases HE.o with h | h
     ·rw [h]; exact Aq.o.2.2
     ·rw [h, BH]; exact Aq.o.1.2
    have Av := HMG.o M1 (V ++ Y2) Ak.o.1 Ak.o.2 s3 (Stab.refl _);have HF := hid (B5 (show q1c recL w5 b off (X ++ ((M1 ++ (V ++ Y2)) ++ Y)) by have := HR5.o; simpa using this) (B5 Av.1 (B5 (HST.o.trans Av.2) HC5.o)));clear s3 Av;by_cases g1 : mid < en
    ·have g2 : ¬ en < B := fun h => g ⟨g1, h⟩
     clear g;go_wp2_with fail;go_end0;exact ⟨rfl, M1 ++ (V ++ Y2), HF.o⟩
    ·clear g;go_wp2_with fail;go_end0;exact ⟨rfl, M1 ++ (V ++ Y2), HF.o⟩
end Go.Proofs.YthhaednigdgclaaGreat
