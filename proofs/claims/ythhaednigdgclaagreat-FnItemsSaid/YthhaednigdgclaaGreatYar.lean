/- Several texts in one. -/
import Derived.Test.YthhaednigdgclaaGreatYaq
open Go.Value renaming int → I, slice → Aa, string → Ab, bool → Ac
open Go.IntKind renaming i64 → J
open Go.Obj renaming cells → Ad
open List renaming length_drop → AA, length_take → AB, take_append_drop → AC, append_nil → AD, length_append → AE, take_of_length_le → AG, drop_drop → AH, take_add → AJ, append_assoc → AL
open And renaming intro → AK
set_option maxRecDepth 100000
set_option maxHeartbeats 8000000
namespace Go.Proofs.YthhaednigdgclaaGreat
open Go.RowKit
open Go.Lib (hid)
theorem stabR_any (b off n cap : Nat) (ps : List RP) (w : World) (Ah : Hid CmpOK) (hr : q1c recL w b off ps) (hn : n = ps.length) (hm : n ≤ 1000000) :
  Calls Tryz.prog 117 #[Aa (some ⟨b, off, none⟩) n cap, I J n, .func (.func 96) #[] #[]] w fun e w' => e = .returned (.tuple #[]) ∧ ∃ qs, q1c recL w' b off qs ∧ Srt ltP qs ∧ Stab ltP ps qs ∧ Chg [b] w w' := by
 have HR := hid hr; have HN := hid hn;clear hr hn;go_enter Tryz.func117, Tryz.ntmps117;go_wp2_with fail;go_loopw [7, 8] (fun va vb wr => ∃ (t a c : Nat) (y1 : List RP) (Wr : World), Wr = wr ∧ Hid (a = t * 20) ∧ c = a + 20 ∧ a ≤ n ∧ va = I J a ∧ vb = I J c ∧ q1c recL wr b off (y1 ++ ps.drop a) ∧ Hid (Blks ltP 20 (ps.take a) y1) ∧ Chg [b] w wr) (fun va _ _ => n - (intOf va).toNat)
 case atStart => exact ⟨0, 0, 20, [], _, rfl, by show 0 = 0 * 20; omega, rfl, by omega, rfl, rfl, HR.o, Blks.nil _, Chg.refl _ _⟩
 case round =>
  obtain ⟨t, a, c, y1, wr, rfl, HA, hc, han, rfl, rfl, hrow, Af, hch⟩ := hrel;have Aj := hid hch;have Ag : y1.length = a := by have := Af.o.1; rw [AB] at this; have := HN.o; omega
  by_cases hlt : c ≤ n
  ·have hsp : y1 ++ ps.drop a = y1 ++ ((ps.drop a).take 20 ++ ps.drop c) := by
    have : ps.drop c = (ps.drop a).drop 20 := by rw [AH, hc]
    rw [this, AC]
   have Ai : n = (y1 ++ ((ps.drop a).take 20 ++ ps.drop c)).length := by rw [← hsp, AE, AA]; have := HN.o; omega
   have hz : ((ps.drop a).take 20).length = 20 := by rw [AB, AA]; have := HN.o; omega
   rw [hsp] at hrow;have HS := hid (insR_any b off n cap a c y1 ((ps.drop a).take 20) (ps.drop c) wr Ah hrow Ai hm Ag (by omega));have HZ := hid hz; have HY1 := hid Ag; have HC := hid hc;have hcb : c ≤ 1000000 ∧ a < c := by omega
   obtain ⟨hcb1, hcb2⟩ := hcb;clear hrow hch hsp Ai hz Ag hc;go_wp2_with fail;refine HS.o.mono ?_;rintro e w2 ⟨rfl, S, hr2, s2, b2, hc2⟩;have Ae := Af.o.snoc (t := t) (by rw [AB]; have := HA.o; have := HN.o; omega) (by rw [HZ.o]; exact Nat.le_refl _) s2 b2;have Ao : ps.take a ++ (ps.drop a).take 20 = ps.take c := by rw [HC.o, AJ]
   rw [Ao] at Ae;have Al := hid Ae; have Ak := hid (show q1c recL w2 b off ((y1 ++ S) ++ ps.drop c) by rw [AL]; exact hr2); have Am := hid (Aj.o.trans hc2 (fun y hy => .inl hy));have Az := hid (show c = (t + 1) * 20 by have := HA.o; have := HC.o; omega);clear hr2 s2 b2 hc2 Ae Ao;go_wp2_with fail;go_roundw
   case rel => exact ⟨t + 1, c, c + 20, y1 ++ S, _, rfl, Az, rfl, hlt, rfl, by go_num, Ak.o, Al, Am.o⟩
   case measure => simp [intOf]; omega
  ·have Ai : n = (y1 ++ (ps.drop a ++ [])).length := by rw [AD, AE, AA]; have := HN.o; omega
   have HS := hid (insR_any b off n cap a n y1 (ps.drop a) [] wr Ah (by rw [AD]; exact hrow) Ai hm Ag (by rw [AA]; have := HN.o; omega));have HY1 := hid Ag; have HC := hid hc;have A9 := hid hlt;have hgt : ¬ (c : Int) ≤ (n : Int) := by omega
   clear hrow hch Ai Ag hc hlt;go_wp2_with fail;refine HS.o.mono ?_;rintro e w2 ⟨rfl, S, hr2, s2, b2, hc2⟩;have Ae := Af.o.snoc (t := t) (by rw [AB]; have := HA.o; have := HN.o; omega) (by rw [AA]; have := HN.o; have := HC.o; have := A9.o; omega) s2 b2;rw [AC] at Ae;rw [AD] at hr2;have Al := hid Ae; have Ak := hid hr2; have Am := hid (Aj.o.trans hc2 (fun y hy => .inl hy));clear hr2 s2 b2 hc2 Ae hgt Aj Af;go_wp2_with fail;go_loopw [6] (fun vk wq => ∃ (k : Nat) (ys : List RP) (Wq : World), Wq = wq ∧ 20 ≤ k ∧ k ≤ 2 * n + 20 ∧ vk = I J k ∧ q1c recL wq b off ys ∧ Hid (Blks ltP k ps ys) ∧ Chg [b] w wq) (fun vk _ => n - (intOf vk).toNat)
   case atStart => exact ⟨20, y1 ++ S, _, rfl, by omega, by omega, rfl, Ak.o, Al, Am.o⟩
   case round =>
    clear Ak Al Am HS;obtain ⟨k, ys, wq, rfl, hk1, hk2, rfl, hrow, Af, hch⟩ := hrel;have Aj := hid hch;by_cases hkn : k < n
    ·have Aq := hid hrow;clear hrow hch;obtain ⟨d, hd⟩ : ∃ d, d = 2 * k := ⟨_, rfl⟩;have hk20 : (2 : Int) * (k : Int) = (d : Int) := by omega
     have hk21 : (k : Int) * 2 = (d : Int) := by omega
     have HD := hid hd;have hdb : k < d ∧ d ≤ 4 * n + 40 ∧ 20 ≤ d := by omega
     obtain ⟨hdb1, hdb2, hdb3⟩ := hdb;clear hd;go_wp2_with fail;go_loopw [7, 8] (fun va vb wr => ∃ (t a c : Nat) (y1 rs : List RP) (Wr : World), Wr = wr ∧ Hid (a = t * d) ∧ c = a + d ∧ a ≤ n ∧ va = I J a ∧ vb = I J c ∧ q1c recL wr b off (y1 ++ rs) ∧ Hid (Blks ltP d (ps.take a) y1 ∧ Blks ltP k (ps.drop a) rs) ∧ Chg [b] w wr) (fun va _ _ => n - (intOf va).toNat)
     case atStart => exact ⟨0, 0, d, [], ys, _, rfl, by show 0 = 0 * d; omega, by omega, by omega, rfl, by go_num, Aq.o, ⟨Blks.nil _, Af.o⟩, Aj.o⟩
     case round =>
      clear Aq Aj Af;obtain ⟨t, a, c, y1, rs, wr, rfl, HA, hc, han, rfl, rfl, hrow, Af, hch⟩ := hrel;have Ap := HD.o;obtain ⟨m0, Au⟩ : ∃ m0, m0 = a + k := ⟨_, rfl⟩;have hak : (a : Int) + (k : Int) = (m0 : Int) := by omega
      have HM0 := hid Au;have Aj := hid hch;have Ag : y1.length = a := by have := Af.o.1.1; rw [AB] at this; have := HN.o; omega
      have Ar : rs.length = n - a := by have := Af.o.2.1; rw [AA] at this; have := HN.o; omega
      have h1 := Af.o.2.head;have h2 := (Af.o.2.tail 1).head;rw [Nat.one_mul] at h2;by_cases hlt : c ≤ n
      ·have hsp : rs = rs.take k ++ ((rs.drop k).take k ++ rs.drop d) := by
        have : rs.drop d = (rs.drop k).drop k := by rw [AH, Ap, Nat.two_mul]
        rw [this, AC, AC]
       have Aw : (rs.take k).length = k := by rw [AB]; omega
       have hl2 : ((rs.drop k).take k).length = k := by rw [AB, AA]; omega
       have Ai : n = (y1 ++ (rs.take k ++ ((rs.drop k).take k ++ rs.drop d))).length := by rw [← hsp, AE]; omega
       have HS := hid (z0y (c - a) b off n cap a m0 c y1 (rs.take k) ((rs.drop k).take k) (rs.drop d) wr Ah (by rw [← hsp]; exact hrow) Ai hm Ag (by omega) (by omega) (by omega) (by omega) h1.1 h2.1 (Nat.le_refl _));have hst : Stab ltP ((ps.drop a).take d) (rs.take k ++ (rs.drop k).take k) := by
        have e : (ps.drop a).take d = (ps.drop a).take k ++ ((ps.drop a).drop k).take k := by rw [Ap, Nat.two_mul, AJ]
        rw [e];exact h1.2.app h2.2
       have HST := hid hst; have HY1 := hid Ag; have HRS := hid Ar; have HC := hid hc;have hb9 : c ≤ 1000000 ∧ a < c := by omega
       obtain ⟨hb91, hb92⟩ := hb9;clear hrow hch h1 h2 hsp Aw hl2 Ai hst Ag Ar hc Ap Au;go_wp2_with fail;refine HS.o.mono ?_;rintro e w2 ⟨rfl, M, hr2, s2, b2, hc2⟩;have Ae := Af.o.1.snoc (t := t) (by rw [AB]; have := HA.o; have := HN.o; omega) (by rw [AB]; exact Nat.min_le_left _ _) s2 (HST.o.trans b2);have Ao : ps.take a ++ (ps.drop a).take d = ps.take c := by rw [HC.o, AJ]
       rw [Ao] at Ae;have Av := Af.o.2.tail 2;rw [AH, show a + 2 * k = c by have := HC.o; have := HD.o; omega, ← HD.o] at Av;have Al := hid (AK Ae Av); have Ak := hid (show q1c recL w2 b off ((y1 ++ M) ++ rs.drop d) by rw [AL]; exact hr2); have Am := hid (Aj.o.trans hc2 (fun y hy => .inl hy));have Az := hid (show c = (t + 1) * d by have h1 := HA.o; have h2 := HC.o; rw [Nat.add_mul, Nat.one_mul]; omega);clear hr2 s2 b2 hc2 Ae Ao Av;go_wp2_with fail;go_roundw
       case rel => exact ⟨t + 1, c, c + d, y1 ++ M, rs.drop d, _, rfl, Az, rfl, hlt, rfl, by go_num, Ak.o, Al, Am.o⟩
       case measure => simp [intOf]; omega
      ·have hgt : ¬ (c : Int) ≤ (n : Int) := by omega
       by_cases hmn : m0 < n
       ·have hsp : rs = rs.take k ++ (rs.drop k ++ []) := by rw [AD, AC]
        have Aw : (rs.take k).length = k := by rw [AB]; omega
        have hl2 : (rs.drop k).length = n - a - k := by rw [AA]; omega
        have Ax : Srt ltP (rs.drop k) ∧ Stab ltP ((ps.drop a).drop k) (rs.drop k) := by
         have e1 : (rs.drop k).take k = rs.drop k := AG (by omega);have e2 : ((ps.drop a).drop k).take k = (ps.drop a).drop k := AG (by rw [AA, AA]; have := HN.o; omega);rw [e1, e2] at h2; exact h2
        have Ai : n = (y1 ++ (rs.take k ++ (rs.drop k ++ []))).length := by rw [← hsp, AE]; omega
        have HS := hid (z0y (n - a) b off n cap a m0 n y1 (rs.take k) (rs.drop k) [] wr Ah (by rw [← hsp]; exact hrow) Ai hm Ag (by omega) (by omega) (by omega) (by omega) h1.1 Ax.1 (Nat.le_refl _));have hst : Stab ltP (ps.drop a) (rs.take k ++ rs.drop k) := by
         have := h1.2.app Ax.2
         rwa [AC (l := ps.drop a)] at this
        have HST := hid hst; have HC := hid hc; have A9 := hid hlt;clear hrow hch h1 h2 Ax hsp Aw hl2 Ai hst Ag Ar hc Ap Au hlt;go_wp2_with fail;refine HS.o.mono ?_;rintro e w2 ⟨rfl, M, hr2, s2, b2, hc2⟩;have Ae := Af.o.1.snoc (t := t) (by rw [AB]; have := HA.o; have := HN.o; omega) (by rw [AA]; have := HN.o; have := HC.o; have := A9.o; have := HD.o; omega) s2 (HST.o.trans b2);rw [AC] at Ae;rw [AD] at hr2;have Al := hid Ae; have Ak := hid hr2; have Am := hid (Aj.o.trans hc2 (fun y hy => .inl hy));clear hr2 s2 b2 hc2 Ae;go_wp2_with fail;go_roundw
        case rel => exact ⟨d, y1 ++ M, _, rfl, by omega, by have := HD.o; omega, by go_num, Ak.o, Al, Am.o⟩
        case measure => simp [intOf]; omega
       ·have Ay : Srt ltP rs ∧ Stab ltP (ps.drop a) rs := Af.o.2.whole (by rw [AA]; have := HN.o; omega);have Ae := Af.o.1.snoc (t := t) (zs := ps.drop a) (by rw [AB]; have := HA.o; have := HN.o; omega) (by rw [AA]; have := HN.o; omega) Ay.1 Ay.2;rw [AC] at Ae;have Al := hid Ae; have Ak := hid hrow;clear hrow hch h1 h2 Ay Ae Ag Ar hc Ap Au hlt;go_wp2_with fail;go_roundw
        case rel => exact ⟨d, y1 ++ rs, _, rfl, by omega, by have := HD.o; omega, by go_num, Ak.o, Al, Aj.o⟩
        case measure => simp [intOf]; omega
    ·have hw := Af.o.whole (by have := HN.o; omega);have HF := hid (AK hrow (AK hw.1 (AK hw.2 Aj.o)));clear hrow hch hw;go_wp2_with fail;go_end0;exact ⟨rfl, ys, HF.o⟩
theorem q9x (b off n cap : Nat) (ps : List RP) (w : World) (Ah : Hid CmpOK) (hr : q1c recL w b off ps) (hn : n = ps.length) (hm : n ≤ 1000000) :
  Calls Tryz.prog 95 #[Aa (some ⟨b, off, none⟩) n cap, .func (.func 96) #[] #[]] w fun e w' => e = .returned (.tuple #[]) ∧ ∃ qs, q1c recL w' b off qs ∧ Srt ltP qs ∧ Stab ltP ps qs ∧ Chg [b] w w' := by
 have HS := hid (stabR_any b off n cap ps w Ah hr hn hm);clear hr hn;go_enter Tryz.func95, Tryz.ntmps95;go_wp2_with fail;refine HS.o.mono ?_;rintro e w' ⟨rfl, qs, h⟩;have HF := hid h;clear h;go_wp2_with fail;go_end0;exact ⟨rfl, qs, HF.o⟩
end Go.Proofs.YthhaednigdgclaaGreat
