/- Several texts in one. -/
import Derived.Test.YtphmpimgbmedbaaGreatQat
import Derived.Test.YtphmpimgbmedbaaGreatQan
set_option maxRecDepth 100000
set_option maxHeartbeats 8000000
namespace Go.Proofs.YtphmpimgbmedbaaGreat
open Go.RowKit
open Go.Lib (hid)
theorem stabR_any (b off n cap : Nat) (ps : List RP) (w : World) (HCMP : Hid CmpOK) (hr : q1b recL w b off ps) (hn : n = ps.length) (hm : n ≤ 1000000) :
  Calls Tryz.prog 237 #[.slice (some ⟨b, off, none⟩) n cap, .int .i64 n, .func (.func 170) #[] #[]] w fun e w' => e = .returned (.tuple #[]) ∧ ∃ qs, q1b recL w' b off qs ∧ Srt ltP qs ∧ Stab ltP ps qs ∧ Chg [b] w w' := by
 have HR := hid hr; have HN := hid hn
 clear hr hn
 go_enter Tryz.func237, Tryz.ntmps237
 go_wp2_with fail
 go_loopw [7, 8] (fun va vb wr => ∃ (t a c : Nat) (y1 : List RP) (Wr : World), Wr = wr ∧ Hid (a = t * 20) ∧ c = a + 20 ∧ a ≤ n ∧ va = .int .i64 a ∧ vb = .int .i64 c ∧ q1b recL wr b off (y1 ++ ps.drop a) ∧ Hid (Blks ltP 20 (ps.take a) y1) ∧ Chg [b] w wr) (fun va _ _ => n - (intOf va).toNat)
 case atStart => exact ⟨0, 0, 20, [], _, rfl, by show 0 = 0 * 20; omega, rfl, by omega, rfl, rfl, HR.out, Blks.nil _, Chg.refl _ _⟩
 case round =>
  obtain ⟨t, a, c, y1, wr, rfl, HA, hc, han, rfl, rfl, hrow, HBK, hch⟩ := hrel
  have HCH := hid hch
  have hy1 : y1.length = a := by have := HBK.out.1; rw [List.length_take] at this; have := HN.out; omega
  by_cases hlt : c ≤ n
  ·have hsp : y1 ++ ps.drop a = y1 ++ ((ps.drop a).take 20 ++ ps.drop c) := by
    have : ps.drop c = (ps.drop a).drop 20 := by rw [List.drop_drop, hc]
    rw [this, List.take_append_drop]
   have hln : n = (y1 ++ ((ps.drop a).take 20 ++ ps.drop c)).length := by rw [← hsp, List.length_append, List.length_drop]; have := HN.out; omega
   have hz : ((ps.drop a).take 20).length = 20 := by rw [List.length_take, List.length_drop]; have := HN.out; omega
   rw [hsp] at hrow
   have HS := hid (insR_any b off n cap a c y1 ((ps.drop a).take 20) (ps.drop c) wr HCMP hrow hln hm hy1 (by omega))
   have HZ := hid hz; have HY1 := hid hy1; have HC := hid hc
   have hcb : c ≤ 1000000 ∧ a < c := by omega
   obtain ⟨hcb1, hcb2⟩ := hcb
   clear hrow hch hsp hln hz hy1 hc
   go_wp2_with fail
   refine HS.out.mono ?_
   rintro e w2 ⟨rfl, S, hr2, s2, b2, hc2⟩
   have hbk := HBK.out.snoc (t := t) (by rw [List.length_take]; have := HA.out; have := HN.out; omega) (by rw [HZ.out]; exact Nat.le_refl _) s2 b2
   have hta : ps.take a ++ (ps.drop a).take 20 = ps.take c := by rw [HC.out, List.take_add]
   rw [hta] at hbk
   have HB2 := hid hbk; have HR2 := hid (show q1b recL w2 b off ((y1 ++ S) ++ ps.drop c) by rw [List.append_assoc]; exact hr2); have HC2 := hid (HCH.out.trans hc2 (fun y hy => .inl hy))
   have HT2 := hid (show c = (t + 1) * 20 by have := HA.out; have := HC.out; omega)
   clear hr2 s2 b2 hc2 hbk hta
   go_wp2_with fail
   go_roundw
   case rel => exact ⟨t + 1, c, c + 20, y1 ++ S, _, rfl, HT2, rfl, hlt, rfl, by go_num, HR2.out, HB2, HC2.out⟩
   case measure => simp [intOf]; omega
  ·have hln : n = (y1 ++ (ps.drop a ++ [])).length := by rw [List.append_nil, List.length_append, List.length_drop]; have := HN.out; omega
   have HS := hid (insR_any b off n cap a n y1 (ps.drop a) [] wr HCMP (by rw [List.append_nil]; exact hrow) hln hm hy1 (by rw [List.length_drop]; have := HN.out; omega))
   have HY1 := hid hy1; have HC := hid hc
   have HLT := hid hlt
   have hgt : ¬ (c : Int) ≤ (n : Int) := by omega
   clear hrow hch hln hy1 hc hlt
   go_wp2_with fail
   refine HS.out.mono ?_
   rintro e w2 ⟨rfl, S, hr2, s2, b2, hc2⟩
   have hbk := HBK.out.snoc (t := t) (by rw [List.length_take]; have := HA.out; have := HN.out; omega) (by rw [List.length_drop]; have := HN.out; have := HC.out; have := HLT.out; omega) s2 b2
   rw [List.take_append_drop] at hbk
   rw [List.append_nil] at hr2
   have HB2 := hid hbk; have HR2 := hid hr2; have HC2 := hid (HCH.out.trans hc2 (fun y hy => .inl hy))
   clear hr2 s2 b2 hc2 hbk hgt HCH HBK
   go_wp2_with fail
   go_loopw [6] (fun vk wq => ∃ (k : Nat) (ys : List RP) (Wq : World), Wq = wq ∧ 20 ≤ k ∧ k ≤ 2 * n + 20 ∧ vk = .int .i64 k ∧ q1b recL wq b off ys ∧ Hid (Blks ltP k ps ys) ∧ Chg [b] w wq) (fun vk _ => n - (intOf vk).toNat)
   case atStart => exact ⟨20, y1 ++ S, _, rfl, by omega, by omega, rfl, HR2.out, HB2, HC2.out⟩
   case round =>
    clear HR2 HB2 HC2 HS
    obtain ⟨k, ys, wq, rfl, hk1, hk2, rfl, hrow, HBK, hch⟩ := hrel
    have HCH := hid hch
    by_cases hkn : k < n
    ·have HROW := hid hrow
     clear hrow hch
     obtain ⟨d, hd⟩ : ∃ d, d = 2 * k := ⟨_, rfl⟩
     have hk20 : (2 : Int) * (k : Int) = (d : Int) := by omega
     have hk21 : (k : Int) * 2 = (d : Int) := by omega
     have HD := hid hd
     have hdb : k < d ∧ d ≤ 4 * n + 40 ∧ 20 ≤ d := by omega
     obtain ⟨hdb1, hdb2, hdb3⟩ := hdb
     clear hd
     go_wp2_with fail
     go_loopw [7, 8] (fun va vb wr => ∃ (t a c : Nat) (y1 rs : List RP) (Wr : World), Wr = wr ∧ Hid (a = t * d) ∧ c = a + d ∧ a ≤ n ∧ va = .int .i64 a ∧ vb = .int .i64 c ∧ q1b recL wr b off (y1 ++ rs) ∧ Hid (Blks ltP d (ps.take a) y1 ∧ Blks ltP k (ps.drop a) rs) ∧ Chg [b] w wr) (fun va _ _ => n - (intOf va).toNat)
     case atStart => exact ⟨0, 0, d, [], ys, _, rfl, by show 0 = 0 * d; omega, by omega, by omega, rfl, by go_num, HROW.out, ⟨Blks.nil _, HBK.out⟩, HCH.out⟩
     case round =>
      clear HROW HCH HBK
      obtain ⟨t, a, c, y1, rs, wr, rfl, HA, hc, han, rfl, rfl, hrow, HBK, hch⟩ := hrel
      have hd2 := HD.out
      obtain ⟨m0, hm0⟩ : ∃ m0, m0 = a + k := ⟨_, rfl⟩
      have hak : (a : Int) + (k : Int) = (m0 : Int) := by omega
      have HM0 := hid hm0
      have HCH := hid hch
      have hy1 : y1.length = a := by have := HBK.out.1.1; rw [List.length_take] at this; have := HN.out; omega
      have hrs : rs.length = n - a := by have := HBK.out.2.1; rw [List.length_drop] at this; have := HN.out; omega
      have h1 := HBK.out.2.head
      have h2 := (HBK.out.2.tail 1).head
      rw [Nat.one_mul] at h2
      by_cases hlt : c ≤ n
      ·have hsp : rs = rs.take k ++ ((rs.drop k).take k ++ rs.drop d) := by
        have : rs.drop d = (rs.drop k).drop k := by rw [List.drop_drop, hd2, Nat.two_mul]
        rw [this, List.take_append_drop, List.take_append_drop]
       have hl1 : (rs.take k).length = k := by rw [List.length_take]; omega
       have hl2 : ((rs.drop k).take k).length = k := by rw [List.length_take, List.length_drop]; omega
       have hln : n = (y1 ++ (rs.take k ++ ((rs.drop k).take k ++ rs.drop d))).length := by rw [← hsp, List.length_append]; omega
       have HS := hid (z1p (c - a) b off n cap a m0 c y1 (rs.take k) ((rs.drop k).take k) (rs.drop d) wr HCMP (by rw [← hsp]; exact hrow) hln hm hy1 (by omega) (by omega) (by omega) (by omega) h1.1 h2.1 (Nat.le_refl _))
       have hst : Stab ltP ((ps.drop a).take d) (rs.take k ++ (rs.drop k).take k) := by
        have e : (ps.drop a).take d = (ps.drop a).take k ++ ((ps.drop a).drop k).take k := by rw [hd2, Nat.two_mul, List.take_add]
        rw [e]
        exact h1.2.app h2.2
       have HST := hid hst; have HY1 := hid hy1; have HRS := hid hrs; have HC := hid hc
       have hb9 : c ≤ 1000000 ∧ a < c := by omega
       obtain ⟨hb91, hb92⟩ := hb9
       clear hrow hch h1 h2 hsp hl1 hl2 hln hst hy1 hrs hc hd2 hm0
       go_wp2_with fail
       refine HS.out.mono ?_
       rintro e w2 ⟨rfl, M, hr2, s2, b2, hc2⟩
       have hbk := HBK.out.1.snoc (t := t) (by rw [List.length_take]; have := HA.out; have := HN.out; omega) (by rw [List.length_take]; exact Nat.min_le_left _ _) s2 (HST.out.trans b2)
       have hta : ps.take a ++ (ps.drop a).take d = ps.take c := by rw [HC.out, List.take_add]
       rw [hta] at hbk
       have htl := HBK.out.2.tail 2
       rw [List.drop_drop, show a + 2 * k = c by have := HC.out; have := HD.out; omega, ← HD.out] at htl
       have HB2 := hid (And.intro hbk htl); have HR2 := hid (show q1b recL w2 b off ((y1 ++ M) ++ rs.drop d) by rw [List.append_assoc]; exact hr2); have HC2 := hid (HCH.out.trans hc2 (fun y hy => .inl hy))
       have HT2 := hid (show c = (t + 1) * d by have h1 := HA.out; have h2 := HC.out; rw [Nat.add_mul, Nat.one_mul]; omega)
       clear hr2 s2 b2 hc2 hbk hta htl
       go_wp2_with fail
       go_roundw
       case rel => exact ⟨t + 1, c, c + d, y1 ++ M, rs.drop d, _, rfl, HT2, rfl, hlt, rfl, by go_num, HR2.out, HB2, HC2.out⟩
       case measure => simp [intOf]; omega
      ·have hgt : ¬ (c : Int) ≤ (n : Int) := by omega
       by_cases hmn : m0 < n
       ·have hsp : rs = rs.take k ++ (rs.drop k ++ []) := by rw [List.append_nil, List.take_append_drop]
        have hl1 : (rs.take k).length = k := by rw [List.length_take]; omega
        have hl2 : (rs.drop k).length = n - a - k := by rw [List.length_drop]; omega
        have h2' : Srt ltP (rs.drop k) ∧ Stab ltP ((ps.drop a).drop k) (rs.drop k) := by
         have e1 : (rs.drop k).take k = rs.drop k := List.take_of_length_le (by omega)
         have e2 : ((ps.drop a).drop k).take k = (ps.drop a).drop k := List.take_of_length_le (by rw [List.length_drop, List.length_drop]; have := HN.out; omega)
         rw [e1, e2] at h2; exact h2
        have hln : n = (y1 ++ (rs.take k ++ (rs.drop k ++ []))).length := by rw [← hsp, List.length_append]; omega
        have HS := hid (z1p (n - a) b off n cap a m0 n y1 (rs.take k) (rs.drop k) [] wr HCMP (by rw [← hsp]; exact hrow) hln hm hy1 (by omega) (by omega) (by omega) (by omega) h1.1 h2'.1 (Nat.le_refl _))
        have hst : Stab ltP (ps.drop a) (rs.take k ++ rs.drop k) := by
         have := h1.2.app h2'.2
         rwa [List.take_append_drop (l := ps.drop a)] at this
        have HST := hid hst; have HC := hid hc; have HLT := hid hlt
        clear hrow hch h1 h2 h2' hsp hl1 hl2 hln hst hy1 hrs hc hd2 hm0 hlt
        go_wp2_with fail
        refine HS.out.mono ?_
        rintro e w2 ⟨rfl, M, hr2, s2, b2, hc2⟩
        have hbk := HBK.out.1.snoc (t := t) (by rw [List.length_take]; have := HA.out; have := HN.out; omega) (by rw [List.length_drop]; have := HN.out; have := HC.out; have := HLT.out; have := HD.out; omega) s2 (HST.out.trans b2)
        rw [List.take_append_drop] at hbk
        rw [List.append_nil] at hr2
        have HB2 := hid hbk; have HR2 := hid hr2; have HC2 := hid (HCH.out.trans hc2 (fun y hy => .inl hy))
        clear hr2 s2 b2 hc2 hbk
        go_wp2_with fail
        go_roundw
        case rel => exact ⟨d, y1 ++ M, _, rfl, by omega, by have := HD.out; omega, by go_num, HR2.out, HB2, HC2.out⟩
        case measure => simp [intOf]; omega
       ·have h1' : Srt ltP rs ∧ Stab ltP (ps.drop a) rs := HBK.out.2.whole (by rw [List.length_drop]; have := HN.out; omega)
        have hbk := HBK.out.1.snoc (t := t) (zs := ps.drop a) (by rw [List.length_take]; have := HA.out; have := HN.out; omega) (by rw [List.length_drop]; have := HN.out; omega) h1'.1 h1'.2
        rw [List.take_append_drop] at hbk
        have HB2 := hid hbk; have HR2 := hid hrow
        clear hrow hch h1 h2 h1' hbk hy1 hrs hc hd2 hm0 hlt
        go_wp2_with fail
        go_roundw
        case rel => exact ⟨d, y1 ++ rs, _, rfl, by omega, by have := HD.out; omega, by go_num, HR2.out, HB2, HCH.out⟩
        case measure => simp [intOf]; omega
    ·have hw := HBK.out.whole (by have := HN.out; omega)
     have HF := hid (And.intro hrow (And.intro hw.1 (And.intro hw.2 HCH.out)))
     clear hrow hch hw
     go_wp2_with fail
     go_end0
     exact ⟨rfl, ys, HF.out⟩
theorem z0s (b off n cap : Nat) (ps : List RP) (w : World) (HCMP : Hid CmpOK) (hr : q1b recL w b off ps) (hn : n = ps.length) (hm : n ≤ 1000000) :
  Calls Tryz.prog 169 #[.slice (some ⟨b, off, none⟩) n cap, .func (.func 170) #[] #[]] w fun e w' => e = .returned (.tuple #[]) ∧ ∃ qs, q1b recL w' b off qs ∧ Srt ltP qs ∧ Stab ltP ps qs ∧ Chg [b] w w' := by
 have HS := hid (stabR_any b off n cap ps w HCMP hr hn hm)
 clear hr hn
 go_enter Tryz.func169, Tryz.ntmps169
 go_wp2_with fail
 refine HS.out.mono ?_
 rintro e w' ⟨rfl, qs, h⟩
 have HF := hid h
 clear h
 go_wp2_with fail
 go_end0
 exact ⟨rfl, qs, HF.out⟩
theorem Shr.step {w W w' : World} {v' : Value} {xs : List Rec} {r : Rec} {g : Nat} {fps fq : List Nat} {h' : Option Nat} (hg : w.heap.size ≤ g) (hf : ∀ y ∈ fps, y < w.heap.size) (hq : ∀ y ∈ fq, y < w.heap.size) (hc : Chg [] w W)
  (ho : recL.os 67 w' v' (xs ++ [r]) h' (fps ++ fq)) (hh : h' = some g ∨ h' = some W.heap.size) (hc' : Chg (some g).toList W w') : Shr w.heap.size w' v' (xs ++ [r]) ∧ Chg [] w w' := by
 refine ⟨?_, hc.trans hc' (fun y hy => .inr (by simp at hy; omega))⟩
 have hff : ∀ y ∈ fps ++ fq, y < w.heap.size := fun y hy => (List.mem_append.1 hy).elim (hf y) (hq y)
 rcases hh with rfl | rfl
 ·exact ⟨g, _, ho, hg, hff⟩
 ·exact ⟨W.heap.size, _, ho, hc.size, hff⟩
theorem rec_sl {w : World} {X : Tap} {a1 : Option Addr} {l1 c1 : Nat} {f : List Nat} (h : tapL.rep w [.bool X.wiped, .slice a1 l1 c1] X f) : recL.sl w a1 l1 c1 X.recs f := by
 obtain ⟨a, l, c, f1, e, h1, rfl⟩ := q1k.1 h
 cases e
 exact h1
theorem flat_take {ts : List Tap} {k : Nat} {X : Tap} (h : ts[k]? = some X) : dedF [] ((ts.take (k + 1)).flatMap (·.recs)) = dedF (dedF [] ((ts.take k).flatMap (·.recs))) X.recs := by
 rw [q1d h, List.flatMap_append, q9m]
 simp
theorem flat_len {ts : List Tap} {k : Nat} {X : Tap} {B : Nat} (h : ts[k]? = some X) (hB : (ts.flatMap (·.recs)).length ≤ B) : ((ts.take k).flatMap (·.recs)).length + X.recs.length ≤ B := by
 have h2 : ((ts.take (k + 1)).flatMap (·.recs)).length ≤ (ts.flatMap (·.recs)).length := by
  conv => rhs; rw [← List.take_append_drop (k + 1) ts, List.flatMap_append, List.length_append]
  omega
 rw [q1d h, List.flatMap_append, List.length_append, show [X].flatMap (·.recs) = X.recs by simp] at h2
 exact Nat.le_trans h2 hB
def z0r (xs : List Rec) (w : World) (e : Ending) (w' : World) : Prop := ∃ (g n cap : Nat) (qs : List RP), e = .returned (.slice (some ⟨g, 0, none⟩) n cap) ∧ q1b recL w' g 0 qs ∧ qs.map (·.1) = xs ∧ n = qs.length ∧ w.heap.size ≤ g ∧ n ≤ cap ∧ cap ≤ maxLen ∧ (∀ p ∈ qs, ∀ y ∈ p.2, y < w.heap.size) ∧ Chg [] w w'
theorem z0n (m : Nat) {u0 u1 u2 u3 u4 u5 u6 u7 u8 u9 u10 u12 u13 u14 : Value} (a12 : Option Addr) (l12 c12 : Nat) (f12 : List Nat) (ts : List Tap) (w : World) (h : w.heap[m]? = some (.cells #[u0, u1, u2, u3, u4, u5, u6, u7, u8, u9, u10, .slice a12 l12 c12, u12, u13, u14] 34 (0, 0))) (h12 : tapL.sl w a12 l12 c12 ts f12) (hz : (ts.flatMap (·.recs)).length ≤ 1000000) :
  Calls Tryz.prog 94 #[.pointer (some ⟨m, 0, none⟩)] w (z0r (cntL ts) w) := by
 obtain ⟨KR, _⟩ := z0g
 have cm := cellsOf h; have nm := ltOf h
 have H12 := hid h12; have HL := hid h12.1; have HZ := hid hz
 have hl12 := tapL.sl_max h12
 clear h h12 hz
 go_enter Tryz.func94, Tryz.ntmps94
 go_wp2_with fail
 go_loopw [3, 14] (fun vo vi wr => ∃ (k : Nat) (Wr : World), Wr = wr ∧ k ≤ l12 ∧ vi = .int .i64 k ∧ Shr w.heap.size wr vo (dedF [] ((ts.take k).flatMap (·.recs))) ∧ Chg [] w wr) (fun _ vi _ => l12 - (intOf vi).toNat)
 case atStart => exact ⟨0, _, rfl, by omega, rfl, Shr.made (Nat.le_refl _), (Chg.refl [] w).alloc _⟩
 case round =>
  obtain ⟨k, wr, rfl, hk, rfl, hsh, hc⟩ := hrel
  have HC := hid hc; have HSH := hid hsh
  by_cases hlt : k < l12
  ·obtain ⟨X, b, off, a1, l1, c1, ft, HX, rfl, hc0w, hc1w, HXS⟩ := q2i H12.out hlt
   have hbw := tapL.sl_lt H12.out b HX.out.2.1
   have hc0 := q0j hc hc0w hbw; have hc1 := q0j hc hc1w hbw
   obtain ⟨acc, hacc⟩ : ∃ acc, acc = dedF [] ((ts.take k).flatMap (·.recs)) := ⟨_, rfl⟩
   rw [← hacc] at HSH
   have HNX := hid (show dedF [] ((ts.take (k + 1)).flatMap (·.recs)) = dedF acc X.recs by rw [hacc]; exact flat_take HX.out.1)
   have hal : acc.length + X.recs.length ≤ 1000000 := by
    have h1 := q5z ((ts.take k).flatMap (·.recs)) []
    have h2 := flat_len HX.out.1 HZ.out
    rw [List.length_nil, Nat.zero_add] at h1; rw [hacc]; omega
   have HRS := hid (rec_sl HXS.out)
   have HFL := hid (fun y (hy : y ∈ ft) => tapL.sl_lt H12.out y (HX.out.2.2 y hy))
   have HL1 := hid (rec_sl HXS.out).1; have HAL := hid hal
   have hl1 := recL.sl_max (rec_sl HXS.out)
   clear hc hsh hacc hal HXS HX hc0w hc1w hbw
   go_wp2_with fail
   go_loopw [3, 21] (fun vo vj wq => ∃ (j : Nat) (Wq : World), Wq = wq ∧ j ≤ l1 ∧ vj = .int .i64 j ∧ Shr w.heap.size wq vo (dedF acc (X.recs.take j)) ∧ Chg [] w wq) (fun _ vj _ => l1 - (intOf vj).toNat)
   case atStart => exact ⟨0, _, rfl, by omega, rfl, HSH.out.ext ((Chg.refl [] wr).alloc _), HC.out.alloc _⟩
   case round =>
    clear HSH HC hc0 hc1
    obtain ⟨j, wq, rfl, hj, rfl, hsh, hc⟩ := hrel
    have HC := hid hc
    by_cases hlt2 : j < l1
    ·obtain ⟨r, b2, off2, a6, l6, c6, a7, l7, c7, a8, l8, c8, fq, HR, rfl, hq0, hq1, hq2, hq3, hq4, hq5, hq6, hq7, hq8, HXS⟩ := q4q (recL.sl_ext HRS.out hc) hlt2
     obtain ⟨g, fps, ho, hg, hf⟩ := hsh
     obtain ⟨a9, c9, rfl⟩ := recL.os_len ho
     obtain ⟨a10, c10, e10, hsl⟩ := recL.os_sl ho
     obtain ⟨rfl, -, rfl⟩ := Value.slice.inj e10
     have HNJ := hid (dedF_next (acc := acc) HR.out.1)
     have hbd : (dedF acc (X.recs.take j)).length ≤ 1000000 := by
      have h1 := q5z (X.recs.take j) acc
      have h2 := HAL.out
      rw [List.length_take] at h1; omega
     obtain ⟨xs, hxs⟩ : ∃ xs, xs = dedF acc (X.recs.take j) := ⟨_, rfl⟩
     rw [← hxs] at ho hsl HNJ hbd ⊢
     have HOS := hid ho; have HSL := hid hsl; have HN0 := hid hg; have HFP := hid hf
     have HFQ := hid (fun y (hy : y ∈ fq) => HFL.out y (HR.out.2.2 y hy))
     have HGF := hid (show ∀ g', some g = some g' → g' ∉ fq from fun g' e hm => by cases e; have h1 := HFL.out g (HR.out.2.2 g hm); omega)
     obtain ⟨lx, hlx⟩ : ∃ lx, lx = xs.length := ⟨_, rfl⟩
     rw [← hlx] at HOS HSL ⊢
     have HLL := hid (show xs.length + [r].length ≤ maxLen ∧ (xs.length + [r].length) * 128 ≤ 140737488355328 by simp only [List.length_singleton, maxLen]; omega)
     have G1 := hid (show Chg [] wq (wq.alloc (.cells #[.int .i64 r.kind, .int .i64 r.seq, .string r.name, .int .i64 r.length, .int .i64 r.group, .int .i64 r.row, .slice a6 l6 c6, .slice a7 l7 c7, .slice a8 l8 c8] 67)) from (Chg.refl [] wq).alloc _)
     have HHS := hid (has_any a9 lx c9 xs _ r #[.int .i64 r.kind, .int .i64 r.seq, .string r.name, .int .i64 r.length, .int .i64 r.group, .int .i64 r.row, .slice a6 l6 c6, .slice a7 l7 c7, .slice a8 l8 c8] fq (wq.alloc (.cells #[.int .i64 r.kind, .int .i64 r.seq, .string r.name, .int .i64 r.length, .int .i64 r.group, .int .i64 r.row, .slice a6 l6 c6, .slice a7 l7 c7, .slice a8 l8 c8] 67)) (recL.sl_ext HSL.out G1.out) (recL.ext HXS.out G1.out))
     obtain ⟨v, hv⟩ : ∃ v, v = xs.any (fun x => q2f x r) := ⟨_, rfl⟩
     rw [← hv] at HHS
     have HV := hid hv
     clear hc HR ho hsl hg hf e10 hbd hxs hlx hv
     go_wp2_with fail
     refine HHS.out.mono ?_
     rintro e w3 ⟨rfl, hc3⟩
     have HC3 := hid (HC.out.trans0 (G1.out.trans0 hc3))
     have HOS2 := hid (recL.os_ext HOS.out (G1.out.trans0 hc3)); have HXS3 := hid (recL.ext HXS.out (G1.out.trans0 hc3))
     have hb3 := hc3.keep0 (q1a wq (.cells #[.int .i64 r.kind, .int .i64 r.seq, .string r.name, .int .i64 r.length, .int .i64 r.group, .int .i64 r.row, .slice a6 l6 c6, .slice a7 l7 c7, .slice a8 l8 c8] 67))
     have c3 := cellsOf hb3; have n3 := ltOf hb3
     clear hc3 hb3 hq0 hq1 hq2 hq3 hq4 hq5 hq6 hq7 hq8
     cases v
     ·have HDS := hid (show dedS xs r = xs ++ [r] by unfold dedS; rw [← HV.out]; rfl)
      go_wp2_with (at_builtin; refine recL.wpList_append rfl _ _ 44 rfl Tryz.underlying44 KR rfl (recL.os_ext HOS2.out ((Chg.refl [] w3).alloc (.cells #[.int .i64 r.kind, .int .i64 r.seq, .string r.name, .int .i64 r.length, .int .i64 r.group, .int .i64 r.row, .slice a6 l6 c6, .slice a7 l7 c7, .slice a8 l8 c8] 67))) ⟨w3.heap.size, 0, none⟩ 1 1 [.int .i64 r.kind, .int .i64 r.seq, .string r.name, .int .i64 r.length, .int .i64 r.group, .int .i64 r.row, .slice a6 l6 c6, .slice a7 l7 c7, .slice a8 l8 c8] (ys := [r]) (f := fq) rfl rfl (new_cells w3 #[.int .i64 r.kind, .int .i64 r.seq, .string r.name, .int .i64 r.length, .int .i64 r.group, .int .i64 r.row, .slice a6 l6 c6, .slice a7 l7 c7, .slice a8 l8 c8] 67) (recL.all_single (recL.ext HXS3.out ((Chg.refl [] w3).alloc _))) HGF.out HLL.out.1 HLL.out.2 ?_; intro v' w4 h' ho' hh' hc'; have HSH4 := hid (Shr.step HN0.out HFP.out HFQ.out (HC3.out.alloc (.cells #[.int .i64 r.kind, .int .i64 r.seq, .string r.name, .int .i64 r.length, .int .i64 r.group, .int .i64 r.row, .slice a6 l6 c6, .slice a7 l7 c7, .slice a8 l8 c8] 67)) ho' hh' hc'); clear ho' hh' hc')
      rw [← HDS.out, ← HNJ.out] at HSH4
      go_roundw
      case rel => exact ⟨j + 1, _, rfl, by omega, by go_num, HSH4.out.1, HSH4.out.2⟩
      case measure => simp [intOf]; omega
     ·have HDS := hid (show dedS xs r = xs by unfold dedS; rw [← HV.out]; rfl)
      go_wp2_with fail
      go_roundw
      case rel => exact ⟨j + 1, _, rfl, by omega, by go_num, by rw [HNJ.out, HDS.out]; exact ⟨g, fps, HOS2.out, HN0.out, HFP.out⟩, HC3.out⟩
      case measure => simp [intOf]; omega
    ·obtain rfl : j = l1 := by omega
     rw [List.take_of_length_le (by have := HL1.out; omega), ← HNX.out] at hsh
     have HSH := hid hsh
     clear hsh hc
     go_wp2_with fail
     go_roundw
     case rel => exact ⟨k + 1, _, rfl, by omega, by go_num, HSH.out, HC.out⟩
     case measure => simp [intOf]; omega
  ·obtain rfl : k = l12 := by omega
   rw [List.take_of_length_le (by have := HL.out; omega)] at hsh
   obtain ⟨g, cap, ps, rfl, hrow, e1, hg, hcap, hcm, hfp⟩ := hsh.row
   have hln : (dedF [] (ts.flatMap (·.recs))).length = ps.length := by rw [← e1, List.length_map]
   have hbd : ps.length ≤ 1000000 := by
    have h1 := q5z (ts.flatMap (·.recs)) []
    have h2 := HZ.out
    rw [List.length_nil, Nat.zero_add] at h1; omega
   rw [hln] at hcap ⊢
   have HS := hid (z0s g 0 ps.length cap ps wr cmp_ok hrow rfl hbd)
   have HE := hid e1; have HF := hid (And.intro hg (And.intro hcap (And.intro hcm hfp)))
   obtain ⟨n, hn⟩ : ∃ n, n = ps.length := ⟨_, rfl⟩
   rw [← hn] at HS ⊢
   have HN := hid hn
   clear hc hsh hrow e1 hg hcap hcm hfp hln hbd hn HSH
   go_wp2_with fail
   refine HS.out.mono ?_
   rintro e w2 ⟨rfl, qs, hq1, hq2, hq3, hq4⟩
   have hu := cnt_uniq (rs := ts.flatMap (·.recs)) (srt_fst hq2) (by have := stab_fst hq3; rwa [HE.out] at this)
   have hmm : ∀ p ∈ qs, ∀ y ∈ p.2, y < w.heap.size := fun p hp => HF.out.2.2.2 p ((hq3.mem q3l).1 hp)
   have HR := hid (And.intro hq1 (And.intro hu (And.intro (HN.out.trans hq3.1.symm) (And.intro hmm (HC.out.trans hq4 (fun y hy => .inr (by rw [List.mem_singleton] at hy; have := HF.out.1; omega)))))))
   clear hq1 hq2 hq3 hq4 hu hmm
   go_wp2_with fail
   go_ret
   exact ⟨g, n, cap, qs, rfl, HR.out.1, HR.out.2.1, HR.out.2.2.1, HF.out.1, by rw [HN.out]; exact HF.out.2.1, HF.out.2.2.1, HR.out.2.2.2.1, HR.out.2.2.2.2⟩
end Go.Proofs.YtphmpimgbmedbaaGreat
