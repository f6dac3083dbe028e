/- Several texts in one. -/
import Derived.Test.YtphmpimgbmedbaaGreatQan
set_option maxRecDepth 100000
set_option maxHeartbeats 8000000
namespace Go.Proofs.YtphmpimgbmedbaaGreat
open Go.RowKit
open Go.Lib (hid)
theorem stabR_any (b off n cap : Nat) (ps : List RP) (w : World) (HCMP : Hid CmpOK) (hr : q0y recL w b off ps) (hn : n = ps.length) (hm : n ≤ 1000000) :
  Calls Tryz.prog 237 #[.slice (some ⟨b, off, none⟩) n cap, .int .i64 n, .func (.func 170) #[] #[]] w fun e w' => e = .returned (.tuple #[]) ∧ ∃ qs, q0y recL w' b off qs ∧ Srt ltP qs ∧ Stab ltP ps qs ∧ Chg [b] w w' := by
 have HR := hid hr; have HN := hid hn
 clear hr hn
 go_enter Tryz.func237, Tryz.ntmps237
 go_wp2_with fail
 go_loopw [7, 8] (fun va vb wr => ∃ (t a c : Nat) (y1 : List RP) (Wr : World), Wr = wr ∧ Hid (a = t * 20) ∧ c = a + 20 ∧ a ≤ n ∧ va = .int .i64 a ∧ vb = .int .i64 c ∧ q0y recL wr b off (y1 ++ ps.drop a) ∧ Hid (Blks ltP 20 (ps.take a) y1) ∧ Chg [b] w wr) (fun va _ _ => n - (intOf va).toNat)
 case atStart => exact ⟨0, 0, 20, [], _, rfl, by show 0 = 0 * 20; omega, rfl, by omega, rfl, rfl, HR.out, Blks.nil _, Chg.refl _ _⟩
 case round =>
  obtain ⟨t, a, c, y1, wr, rfl, HA, hc, han, rfl, rfl, hrow, HBK, hch⟩ := hrel
  have HCH := hid hch
  have hy1 : y1.length = a := by have := HBK.out.1; rw [List.length_take] at this; have := HN.out; omega
  by_cases hlt : c ≤ n
  ·have hsp : y1 ++ ps.drop a = y1 ++ ((ps.drop a).take 20 ++ ps.drop c) := by
    have : ps.drop c = (ps.drop a).drop 20 := by rw [List.drop_drop, hc]
    rw [this, List.take_append_drop]
   have hln : n = (y1 ++ ((ps.drop a).take 20 ++ ps.drop c)).length := by rw [← hsp, List.length_append, List.length_drop]; have := HN.out; omega
   have hz : ((ps.drop a).take 20).length = 20 := by rw [List.length_take, List.length_drop]; have := HN.out; omega
   rw [hsp] at hrow
   have HS := hid (insR_any b off n cap a c y1 ((ps.drop a).take 20) (ps.drop c) wr HCMP hrow hln hm hy1 (by omega))
   have HZ := hid hz; have HY1 := hid hy1; have HC := hid hc
   have hcb : c ≤ 1000000 ∧ a < c := by omega
   obtain ⟨hcb1, hcb2⟩ := hcb
   clear hrow hch hsp hln hz hy1 hc
   go_wp2_with fail
   refine HS.out.mono ?_
   rintro e w2 ⟨rfl, S, hr2, s2, b2, hc2⟩
   have hbk := HBK.out.snoc (t := t) (by rw [List.length_take]; have := HA.out; have := HN.out; omega) (by rw [HZ.out]; exact Nat.le_refl _) s2 b2
   have hta : ps.take a ++ (ps.drop a).take 20 = ps.take c := by rw [HC.out, List.take_add]
   rw [hta] at hbk
   have HB2 := hid hbk; have HR2 := hid (show q0y recL w2 b off ((y1 ++ S) ++ ps.drop c) by rw [List.append_assoc]; exact hr2); have HC2 := hid (HCH.out.trans hc2 (fun y hy => .inl hy))
   have HT2 := hid (show c = (t + 1) * 20 by have := HA.out; have := HC.out; omega)
   clear hr2 s2 b2 hc2 hbk hta
   go_wp2_with fail
   go_roundw
   case rel => exact ⟨t + 1, c, c + 20, y1 ++ S, _, rfl, HT2, rfl, hlt, rfl, by go_num, HR2.out, HB2, HC2.out⟩
   case measure => simp [intOf]; omega
  ·have hln : n = (y1 ++ (ps.drop a ++ [])).length := by rw [List.append_nil, List.length_append, List.length_drop]; have := HN.out; omega
   have HS := hid (insR_any b off n cap a n y1 (ps.drop a) [] wr HCMP (by rw [List.append_nil]; exact hrow) hln hm hy1 (by rw [List.length_drop]; have := HN.out; omega))
   have HY1 := hid hy1; have HC := hid hc
   have HLT := hid hlt
   have hgt : ¬ (c : Int) ≤ (n : Int) := by omega
   clear hrow hch hln hy1 hc hlt
   go_wp2_with fail
   refine HS.out.mono ?_
   rintro e w2 ⟨rfl, S, hr2, s2, b2, hc2⟩
   have hbk := HBK.out.snoc (t := t) (by rw [List.length_take]; have := HA.out; have := HN.out; omega) (by rw [List.length_drop]; have := HN.out; have := HC.out; have := HLT.out; omega) s2 b2
   rw [List.take_append_drop] at hbk
   rw [List.append_nil] at hr2
   have HB2 := hid hbk; have HR2 := hid hr2; have HC2 := hid (HCH.out.trans hc2 (fun y hy => .inl hy))
   clear hr2 s2 b2 hc2 hbk hgt HCH HBK
   go_wp2_with fail
   go_loopw [6] (fun vk wq => ∃ (k : Nat) (ys : List RP) (Wq : World), Wq = wq ∧ 20 ≤ k ∧ k ≤ 2 * n + 20 ∧ vk = .int .i64 k ∧ q0y recL wq b off ys ∧ Hid (Blks ltP k ps ys) ∧ Chg [b] w wq) (fun vk _ => n - (intOf vk).toNat)
   case atStart => exact ⟨20, y1 ++ S, _, rfl, by omega, by omega, rfl, HR2.out, HB2, HC2.out⟩
   case round =>
    clear HR2 HB2 HC2 HS
    obtain ⟨k, ys, wq, rfl, hk1, hk2, rfl, hrow, HBK, hch⟩ := hrel
    have HCH := hid hch
    by_cases hkn : k < n
    ·have HROW := hid hrow
     clear hrow hch
     obtain ⟨d, hd⟩ : ∃ d, d = 2 * k := ⟨_, rfl⟩
     have hk20 : (2 : Int) * (k : Int) = (d : Int) := by omega
     have hk21 : (k : Int) * 2 = (d : Int) := by omega
     have HD := hid hd
     have hdb : k < d ∧ d ≤ 4 * n + 40 ∧ 20 ≤ d := by omega
     obtain ⟨hdb1, hdb2, hdb3⟩ := hdb
     clear hd
     go_wp2_with fail
     go_loopw [7, 8] (fun va vb wr => ∃ (t a c : Nat) (y1 rs : List RP) (Wr : World), Wr = wr ∧ Hid (a = t * d) ∧ c = a + d ∧ a ≤ n ∧ va = .int .i64 a ∧ vb = .int .i64 c ∧ q0y recL wr b off (y1 ++ rs) ∧ Hid (Blks ltP d (ps.take a) y1 ∧ Blks ltP k (ps.drop a) rs) ∧ Chg [b] w wr) (fun va _ _ => n - (intOf va).toNat)
     case atStart => exact ⟨0, 0, d, [], ys, _, rfl, by show 0 = 0 * d; omega, by omega, by omega, rfl, by go_num, HROW.out, ⟨Blks.nil _, HBK.out⟩, HCH.out⟩
     case round =>
      clear HROW HCH HBK
      obtain ⟨t, a, c, y1, rs, wr, rfl, HA, hc, han, rfl, rfl, hrow, HBK, hch⟩ := hrel
      have hd2 := HD.out
      obtain ⟨m0, hm0⟩ : ∃ m0, m0 = a + k := ⟨_, rfl⟩
      have hak : (a : Int) + (k : Int) = (m0 : Int) := by omega
      have HM0 := hid hm0
      have HCH := hid hch
      have hy1 : y1.length = a := by have := HBK.out.1.1; rw [List.length_take] at this; have := HN.out; omega
      have hrs : rs.length = n - a := by have := HBK.out.2.1; rw [List.length_drop] at this; have := HN.out; omega
      have h1 := HBK.out.2.head
      have h2 := (HBK.out.2.tail 1).head
      rw [Nat.one_mul] at h2
      by_cases hlt : c ≤ n
      ·have hsp : rs = rs.take k ++ ((rs.drop k).take k ++ rs.drop d) := by
        have : rs.drop d = (rs.drop k).drop k := by rw [List.drop_drop, hd2, Nat.two_mul]
        rw [this, List.take_append_drop, List.take_append_drop]
       have hl1 : (rs.take k).length = k := by rw [List.length_take]; omega
       have hl2 : ((rs.drop k).take k).length = k := by rw [List.length_take, List.length_drop]; omega
       have hln : n = (y1 ++ (rs.take k ++ ((rs.drop k).take k ++ rs.drop d))).length := by rw [← hsp, List.length_append]; omega
       have HS := hid (q8t (c - a) b off n cap a m0 c y1 (rs.take k) ((rs.drop k).take k) (rs.drop d) wr HCMP (by rw [← hsp]; exact hrow) hln hm hy1 (by omega) (by omega) (by omega) (by omega) h1.1 h2.1 (Nat.le_refl _))
       have hst : Stab ltP ((ps.drop a).take d) (rs.take k ++ (rs.drop k).take k) := by
        have e : (ps.drop a).take d = (ps.drop a).take k ++ ((ps.drop a).drop k).take k := by rw [hd2, Nat.two_mul, List.take_add]
        rw [e]
        exact h1.2.app h2.2
       have HST := hid hst; have HY1 := hid hy1; have HRS := hid hrs; have HC := hid hc
       have hb9 : c ≤ 1000000 ∧ a < c := by omega
       obtain ⟨hb91, hb92⟩ := hb9
       clear hrow hch h1 h2 hsp hl1 hl2 hln hst hy1 hrs hc hd2 hm0
       go_wp2_with fail
       refine HS.out.mono ?_
       rintro e w2 ⟨rfl, M, hr2, s2, b2, hc2⟩
       have hbk := HBK.out.1.snoc (t := t) (by rw [List.length_take]; have := HA.out; have := HN.out; omega) (by rw [List.length_take]; exact Nat.min_le_left _ _) s2 (HST.out.trans b2)
       have hta : ps.take a ++ (ps.drop a).take d = ps.take c := by rw [HC.out, List.take_add]
       rw [hta] at hbk
       have htl := HBK.out.2.tail 2
       rw [List.drop_drop, show a + 2 * k = c by have := HC.out; have := HD.out; omega, ← HD.out] at htl
       have HB2 := hid (And.intro hbk htl); have HR2 := hid (show q0y recL w2 b off ((y1 ++ M) ++ rs.drop d) by rw [List.append_assoc]; exact hr2); have HC2 := hid (HCH.out.trans hc2 (fun y hy => .inl hy))
       have HT2 := hid (show c = (t + 1) * d by have h1 := HA.out; have h2 := HC.out; rw [Nat.add_mul, Nat.one_mul]; omega)
       clear hr2 s2 b2 hc2 hbk hta htl
       go_wp2_with fail
       go_roundw
       case rel => exact ⟨t + 1, c, c + d, y1 ++ M, rs.drop d, _, rfl, HT2, rfl, hlt, rfl, by go_num, HR2.out, HB2, HC2.out⟩
       case measure => simp [intOf]; omega
      ·have hgt : ¬ (c : Int) ≤ (n : Int) := by omega
       by_cases hmn : m0 < n
       ·have hsp : rs = rs.take k ++ (rs.drop k ++ []) := by rw [List.append_nil, List.take_append_drop]
        have hl1 : (rs.take k).length = k := by rw [List.length_take]; omega
        have hl2 : (rs.drop k).length = n - a - k := by rw [List.length_drop]; omega
        have h2' : Srt ltP (rs.drop k) ∧ Stab ltP ((ps.drop a).drop k) (rs.drop k) := by
         have e1 : (rs.drop k).take k = rs.drop k := List.take_of_length_le (by omega)
         have e2 : ((ps.drop a).drop k).take k = (ps.drop a).drop k := List.take_of_length_le (by rw [List.length_drop, List.length_drop]; have := HN.out; omega)
         rw [e1, e2] at h2; exact h2
        have hln : n = (y1 ++ (rs.take k ++ (rs.drop k ++ []))).length := by rw [← hsp, List.length_append]; omega
        have HS := hid (q8t (n - a) b off n cap a m0 n y1 (rs.take k) (rs.drop k) [] wr HCMP (by rw [← hsp]; exact hrow) hln hm hy1 (by omega) (by omega) (by omega) (by omega) h1.1 h2'.1 (Nat.le_refl _))
        have hst : Stab ltP (ps.drop a) (rs.take k ++ rs.drop k) := by
         have := h1.2.app h2'.2
         rwa [List.take_append_drop (l := ps.drop a)] at this
        have HST := hid hst; have HC := hid hc; have HLT := hid hlt
        clear hrow hch h1 h2 h2' hsp hl1 hl2 hln hst hy1 hrs hc hd2 hm0 hlt
        go_wp2_with fail
        refine HS.out.mono ?_
        rintro e w2 ⟨rfl, M, hr2, s2, b2, hc2⟩
        have hbk := HBK.out.1.snoc (t := t) (by rw [List.length_take]; have := HA.out; have := HN.out; omega) (by rw [List.length_drop]; have := HN.out; have := HC.out; have := HLT.out; have := HD.out; omega) s2 (HST.out.trans b2)
        rw [List.take_append_drop] at hbk
        rw [List.append_nil] at hr2
        have HB2 := hid hbk; have HR2 := hid hr2; have HC2 := hid (HCH.out.trans hc2 (fun y hy => .inl hy))
        clear hr2 s2 b2 hc2 hbk
        go_wp2_with fail
        go_roundw
        case rel => exact ⟨d, y1 ++ M, _, rfl, by omega, by have := HD.out; omega, by go_num, HR2.out, HB2, HC2.out⟩
        case measure => simp [intOf]; omega
       ·have h1' : Srt ltP rs ∧ Stab ltP (ps.drop a) rs := HBK.out.2.whole (by rw [List.length_drop]; have := HN.out; omega)
        have hbk := HBK.out.1.snoc (t := t) (zs := ps.drop a) (by rw [List.length_take]; have := HA.out; have := HN.out; omega) (by rw [List.length_drop]; have := HN.out; omega) h1'.1 h1'.2
        rw [List.take_append_drop] at hbk
        have HB2 := hid hbk; have HR2 := hid hrow
        clear hrow hch h1 h2 h1' hbk hy1 hrs hc hd2 hm0 hlt
        go_wp2_with fail
        go_roundw
        case rel => exact ⟨d, y1 ++ rs, _, rfl, by omega, by have := HD.out; omega, by go_num, HR2.out, HB2, HCH.out⟩
        case measure => simp [intOf]; omega
    ·have hw := HBK.out.whole (by have := HN.out; omega)
     have HF := hid (And.intro hrow (And.intro hw.1 (And.intro hw.2 HCH.out)))
     clear hrow hch hw
     go_wp2_with fail
     go_end0
     exact ⟨rfl, ys, HF.out⟩
theorem q7w (b off n cap : Nat) (ps : List RP) (w : World) (HCMP : Hid CmpOK) (hr : q0y recL w b off ps) (hn : n = ps.length) (hm : n ≤ 1000000) :
  Calls Tryz.prog 169 #[.slice (some ⟨b, off, none⟩) n cap, .func (.func 170) #[] #[]] w fun e w' => e = .returned (.tuple #[]) ∧ ∃ qs, q0y recL w' b off qs ∧ Srt ltP qs ∧ Stab ltP ps qs ∧ Chg [b] w w' := by
 have HS := hid (stabR_any b off n cap ps w HCMP hr hn hm)
 clear hr hn
 go_enter Tryz.func169, Tryz.ntmps169
 go_wp2_with fail
 refine HS.out.mono ?_
 rintro e w' ⟨rfl, qs, h⟩
 have HF := hid h
 clear h
 go_wp2_with fail
 go_end0
 exact ⟨rfl, qs, HF.out⟩
end Go.Proofs.YtphmpimgbmedbaaGreat
