/- Several texts in one. -/
import Derived.Test.YtphmpimgbmedbaaGreatQav
import Derived.Test.YtphmpimgbmedbaaGreatQaw
import Derived.Deep.CutBlock
set_option maxRecDepth 100000
set_option maxHeartbeats 8000000
namespace Go.Proofs.YtphmpimgbmedbaaGreat
open Go.RowKit
open Go.Lib (hid)
theorem l6Newest_any (a : Option Addr) (l c : Nat) (xs : List Rec) (f : List Nat) (nm : ByteArray) (w : World) (ha : recL.sl w a l c xs f) :
  Calls Tryz.prog 205 #[.slice a l c, .string nm] w fun e w' => e = .returned (.int .i64 (nwI xs nm xs.length)) ∧ w = w' := by
 have hla := recL.sl_max ha
 have HA := hid ha; have HL := hid ha.1
 clear ha
 go_enter Tryz.func205, Tryz.ntmps205
 go_wp2_with fail
 go_loopw [5, 6] (fun vm vi wr => ∃ (k : Nat) (Wr : World), Wr = wr ∧ k ≤ l ∧ vi = .int .i64 k ∧ vm = .int .i64 (nwI xs nm k) ∧ Hid (w = wr)) (fun _ vi _ => l - (intOf vi).toNat)
 case atStart => exact ⟨0, _, rfl, by omega, rfl, rfl, hid rfl⟩
 case round =>
  obtain ⟨k, wr, rfl, hk, rfl, rfl, HW⟩ := hrel
  by_cases hlt : k < l
  ·obtain ⟨r, b2, off2, a6, l6, c6, a7, l7, c7, a8, l8, c8, fq, HR, rfl, hq0, hq1, hq2, hq3, hq4, hq5, hq6, hq7, hq8, HXS⟩ := q4q (show recL.sl wr a l c xs f from HW.out ▸ HA.out) hlt
   have HR0 := hid HR.out.1
   clear HR HXS
   by_cases h1 : r.kind = 1
   ·have bh1 : (r.kind == 1) = true := by simp [h1]
    by_cases h2 : r.name = nm
    ·have bh2 : (r.name.toList == nm.toList) = true := by rw [h2]; simp
     have HK2 := hid (show nwI xs nm (k + 1) = (k : Int) by rw [q6x HR0.out, q0i (P := r.kind = 1 ∧ r.name = nm) ⟨h1, h2⟩]; rfl)
     clear h1 h2
     go_wp2_with fail
     go_roundw
     case rel => exact ⟨k + 1, _, rfl, by omega, by go_num, by rw [HK2.out], HW⟩
     case measure => simp [intOf]; omega
    ·have bh2 : (r.name.toList == nm.toList) = false := by exact q7o h2
     have HK2 := hid (show nwI xs nm (k + 1) = nwI xs nm k by rw [q6x HR0.out, q0h (P := r.kind = 1 ∧ r.name = nm) (fun h => h2 h.2)]; rfl)
     clear h1 h2
     go_wp2_with fail
     go_roundw
     case rel => exact ⟨k + 1, _, rfl, by omega, by go_num, by rw [HK2.out], HW⟩
     case measure => simp [intOf]; omega
   ·have bh1 : (r.kind == 1) = false := by simpa using h1
    have HK2 := hid (show nwI xs nm (k + 1) = nwI xs nm k by rw [q6x HR0.out, q0h (P := r.kind = 1 ∧ r.name = nm) (fun h => h1 h.1)]; rfl)
    clear h1
    go_wp2_with fail
    go_roundw
    case rel => exact ⟨k + 1, _, rfl, by omega, by go_num, by rw [HK2.out], HW⟩
    case measure => simp [intOf]; omega
  ·have HR := hid (show nwI xs nm xs.length = nwI xs nm k by rw [← HL.out, show k = l by omega])
   go_wp2_with fail
   go_ret
   exact ⟨by rw [HR.out]; rfl, HW.out⟩
theorem l6Live_any (a : Option Addr) (l1 c1 : Nat) (rs : List Rec) (f : List Nat) (w : World) (hs : recL.sl w a l1 c1 rs f) (hz : rs.length ≤ 400) :
  Calls Tryz.prog 127 #[.slice a l1 c1] w (SlR (livL rs) w) := by
 obtain ⟨KR, _⟩ := z0g
 obtain ⟨n0, hn0e⟩ : ∃ n0, n0 = w.heap.size := ⟨_, rfl⟩
 have hn0 : n0 ≤ w.heap.size := by omega
 have HN0 := hid hn0
 have HF0 := hid (show ∀ y ∈ f, y < n0 from fun y hy => by rw [hn0e]; exact recL.sl_lt hs y hy)
 have HRS := hid hs; have HL1 := hid hs.1
 have hl4 : l1 ≤ 400 := by have := hs.1; omega
 clear hs hz hn0e
 go_enter Tryz.func127, Tryz.ntmps127
 go_wp2_with fail
 go_loopw [3, 4] (fun vo vj wq => ∃ (j : Nat) (out : List Rec) (Wq : World), Wq = wq ∧ j ≤ l1 ∧ vj = .int .i64 j ∧ Hid (Srt q3v out ∧ Stab q3v (livF rs j) out) ∧ Rwd n0 wq vo out ∧ Chg [] w wq) (fun _ vj _ => l1 - (intOf vj).toNat)
 case atStart => exact ⟨0, [], _, rfl, by omega, rfl, hid ⟨List.Pairwise.nil, Stab.refl _⟩, (Shr.made HN0.out).row, (Chg.refl [] w).alloc _⟩
 case round =>
  obtain ⟨j, xs, wq, rfl, hj, rfl, HSS, hsh, hc⟩ := hrel
  by_cases hlt2 : j < l1
  ·obtain ⟨r, b2, off2, a6, l6, c6, a7, l7, c7, a8, l8, c8, fq, HR, rfl, hq0, hq1, hq2, hq3, hq4, hq5, hq6, hq7, hq8, HXS⟩ := q4q (recL.sl_ext HRS.out hc) hlt2
   obtain ⟨g, cap, ps, rfl, hrow, hpm, hg, hcap, hcm, hfp⟩ := hsh
   have hbd : xs.length ≤ 1000000 := by
    have h1 := z2h rs j
    have h3 := HSS.out.2.1
    omega
   have HFP := hid (show ∀ y, (∃ p ∈ ps, y ∈ p.2) → y < n0 from fun y ⟨p, hp, hy⟩ => hfp p hp y hy)
   have HFQ := hid (fun y (hy : y ∈ fq) => HF0.out y (HR.out.2.2 y hy))
   have HPM := hid hpm; have HGN := hid hg; have HCP := hid (And.intro hcap hcm)
   obtain ⟨len, hlen⟩ : ∃ len, len = xs.length := ⟨_, rfl⟩
   have HLX := hid hlen
   have hpl : ps.length = len := by rw [hlen, ← hpm, List.length_map]
   have HPL := hid hpl
   rw [← hlen] at hbd ⊢
   have HROWQ := hid hrow; have HR0 := hid HR.out.1
   obtain ⟨B6, hb6⟩ : ∃ B6, B6 = wq.heap.size := ⟨_, rfl⟩
   obtain ⟨w3, hw3⟩ : ∃ w3, w3 = wq.alloc (.cells #[.int .i64 r.kind, .int .i64 r.seq, .string r.name, .int .i64 r.length, .int .i64 r.group, .int .i64 r.row, .slice a6 l6 c6, .slice a7 l7 c7, .slice a8 l8 c8] 67) := ⟨_, rfl⟩
   have HQ3 := hid (show Chg [] wq w3 by rw [hw3]; exact (Chg.refl [] wq).alloc _)
   have HB3 := hid (show w3.heap[B6]? = some (.cells #[.int .i64 r.kind, .int .i64 r.seq, .string r.name, .int .i64 r.length, .int .i64 r.group, .int .i64 r.row, .slice a6 l6 c6, .slice a7 l7 c7, .slice a8 l8 c8] 67 (0, 0)) by rw [hw3, hb6]; exact q1a wq _)
   have HC3 := hid (hc.trans0 HQ3.out)
   have HNW := hid (l6Newest_any (some ⟨b2, off2, none⟩) l1 c1 rs f r.name w3 (recL.sl_ext HRS.out HC3.out))
   obtain ⟨nv, hnv⟩ : ∃ nv, nv = nwI rs r.name rs.length := ⟨_, rfl⟩
   rw [← hnv] at HNW
   clear HR hrow hpm hg hcap hcm hfp hlen hpl hc
   go_upto_region 6 with fail
   rw [← hw3, ← hb6]
   have c3 := cellsOf HB3.out; have n3 := ltOf HB3.out
   clear hq0 hq1 hq2 hq3 hq4 hq5 hq6 hq7 hq8 hb6 hw3
   by_cases hk1 : r.kind = 1
   ·have bk1 : (r.kind != 1) = false := by simp [hk1]
    by_cases hln : 0 ≤ r.length
    ·have bln : decide (r.length < 0) = false := by simp; omega
     by_cases hnj : nv = (j : Int)
     ·have bnj : (nv != (j : Int)) = false := by simp [hnj]
      have HDS := hid (show livF rs (j + 1) = livF rs j ++ [r] from z2f HR0.out (q0i (P := r.kind = 1 ∧ 0 ≤ r.length ∧ nwI rs r.name rs.length = j) ⟨hk1, hln, hnv.symm.trans hnj⟩))
      clear hk1 hln hnj hnv
      go_upto_region 7 with fail
      refine HNW.out.mono ?_
      rintro e w' ⟨rfl, rfl⟩
      go_upto_block 2 with fail
      go_cut [6] from 36 to 50 (fun s6 wz => ∃ ac : Nat, s6 = .int .i64 ac ∧ ac ≤ len ∧ Hid (Srt q3v (xs.take ac ++ (r :: xs.drop ac)) ∧ Stab q3v (livF rs (j + 1)) (xs.take ac ++ (r :: xs.drop ac))) ∧ Chg [] w3 wz)
      case first =>
       go_wp2_with fail
       go_loopw [6] (fun va wx => ∃ (ac : Nat) (Wx : World), Wx = wx ∧ ac ≤ len ∧ va = .int .i64 ac ∧ Hid (∀ x ∈ xs.drop ac, q3v r x = true) ∧ Chg [] w3 wx) (fun va _ => (intOf va).toNat)
       case atStart => exact ⟨len, _, rfl, Nat.le_refl _, rfl, hid (show ∀ x ∈ xs.drop len, q3v r x = true from fun x hx => by rw [HLX.out, List.drop_length] at hx; cases hx), Chg.refl _ _⟩
       case round =>
        obtain ⟨ac, wx, rfl, hac, rfl, HDR, hcx⟩ := hrel
        have HWX := hid hcx
        have HBX := hid (hcx.keep0 HB3.out)
        have HROWX := hid (HROWQ.out.ext (HQ3.out.trans0 hcx))
        clear hcx
        by_cases h0 : 0 < ac
        ·obtain ⟨z, hz0⟩ : ∃ z, z = ac - 1 := ⟨_, rfl⟩
         have hwz : IntKind.i64.wrap ((ac : Int) - 1) = (z : Int) := by rw [IntWalk.i64_in _ ⟨by omega, by omega⟩]; omega
         have hzl : z < len := by omega
         have hgt : (0 : Int) < (ac : Int) := by omega
         obtain ⟨p, hp⟩ : ∃ p, ps[z]? = some p := ⟨_, List.getElem?_eq_getElem (by have := HPL.out; omega)⟩
         obtain ⟨cy, ry, -, ky⟩ := q1m HROWX.out hp
         obtain ⟨b6, m6, d6, g6, b7, m7, d7, g7, b8, m8, d8, g8, hcy, -⟩ := q0m.1 ry
         subst hcy
         have HPN := hid (show wx.drew.cell? ⟨g, z * 9 + 2, none⟩ = some (.string p.1.name) from by have h := ky.2.1 2 _ rfl; rw [Nat.zero_add] at h; exact h)
         have hxz : xs[z]? = some p.1 := by rw [← HPM.out, List.getElem?_map, hp]; rfl
         have HXZ := hid hxz; have HZ1 := hid hz0
         clear ry ky hp hxz hz0
         cases hl : q3v r p.1
         ·have hbl : Go.Op.bytesLess r.name.toList p.1.name.toList = false := hl
          have HLF := hid hl
          clear hl
          go_wp2_with fail
          obtain ⟨SS, HSI, HSO⟩ := q0k (fun w' => Know B6 #[.int .i64 r.kind, .int .i64 r.seq, .string r.name, .int .i64 r.length, .int .i64 r.group, .int .i64 r.row, .slice a6 l6 c6, .slice a7 l7 c7, .slice a8 l8 c8] w' ∧ w'.cell? ⟨g, z * 9 + 2, none⟩ = some (.string p.1.name))
          have hS0 := HSI.out _ ⟨(Know.of (q0a HBX.out)), HPN.out⟩
          refine q0g SS (by kernel_rfl) hS0 ?_
          refine rgT 0 hS0 ?_
          refine rgT 1 hS0 ?_
          refine rgT 2 hS0 ?_
          refine rgT 3 hS0 ?_
          refine rgL 4 hS0 HSO ?_
          refine rgT 5 hS0 ?_
          refine rgT 6 hS0 ?_
          refine rgT 7 hS0 ?_
          refine rgT 8 hS0 ?_
          refine rgT 9 hS0 ?_
          refine rgL 10 hS0 HSO ?_
          refine rgT 11 hS0 ?_
          refine rgT 12 hS0 ?_
          refine wpAnyH_done (by kernel_rfl) ?_ _
          skip
          go_wp2_with fail
          go_meet
          exact ⟨ac, rfl, hac, (show Srt q3v (xs.take ac ++ (r :: xs.drop ac)) ∧ Stab q3v (livF rs (j + 1)) (xs.take ac ++ (r :: xs.drop ac)) from stop_ssG q2o HSS.out HDS.out HDR.out (fun _ => ⟨p.1, by rw [← HZ1.out]; exact HXZ.out, HLF.out⟩)), HWX.out.drew⟩
         ·have hbl : Go.Op.bytesLess r.name.toList p.1.name.toList = true := hl
          have HLF := hid hl
          clear hl
          go_wp2_with fail
          obtain ⟨SS, HSI, HSO⟩ := q0k (fun w' => Know B6 #[.int .i64 r.kind, .int .i64 r.seq, .string r.name, .int .i64 r.length, .int .i64 r.group, .int .i64 r.row, .slice a6 l6 c6, .slice a7 l7 c7, .slice a8 l8 c8] w' ∧ w'.cell? ⟨g, z * 9 + 2, none⟩ = some (.string p.1.name))
          have hS0 := HSI.out _ ⟨(Know.of (q0a HBX.out)), HPN.out⟩
          refine q0g SS (by kernel_rfl) hS0 ?_
          refine rgT 0 hS0 ?_
          refine rgT 1 hS0 ?_
          refine rgT 2 hS0 ?_
          refine rgT 3 hS0 ?_
          refine rgL 4 hS0 HSO ?_
          refine rgT 5 hS0 ?_
          refine rgT 6 hS0 ?_
          refine rgT 7 hS0 ?_
          refine rgT 8 hS0 ?_
          refine rgT 9 hS0 ?_
          refine rgL 10 hS0 HSO ?_
          refine rgT 11 hS0 ?_
          refine rgT 12 hS0 ?_
          refine wpAnyH_done (by kernel_rfl) ?_ _
          skip
          go_wp2_with fail
          go_roundw
          case rel => exact ⟨z, _, rfl, by omega, by go_num, hid (drop_aheadG HDR.out HXZ.out HLF.out HZ1.out h0), HWX.out.drew⟩
          case measure => have := HZ1.out; simp [intOf]; omega
        ·have hgt : ¬ ((0 : Int) < (ac : Int)) := by omega
         go_wp2_with fail
         obtain ⟨SS, HSI, HSO⟩ := q0k (fun w' => True)
         have hS0 := HSI.out wx.drew trivial
         refine q0g SS (by kernel_rfl) hS0 ?_
         refine rgT 0 hS0 ?_
         refine rgT 1 hS0 ?_
         refine rgT 2 hS0 ?_
         refine rgS 3 hS0 ?_
         refine rgS 4 hS0 ?_
         refine rgS 5 hS0 ?_
         refine rgS 6 hS0 ?_
         refine rgS 7 hS0 ?_
         refine rgS 8 hS0 ?_
         refine rgS 9 hS0 ?_
         refine rgS 10 hS0 ?_
         refine rgS 11 hS0 ?_
         refine rgT 12 hS0 ?_
         refine wpAnyH_done (by kernel_rfl) ?_ _
         skip
         go_wp2_with fail
         go_meet
         exact ⟨ac, rfl, hac, (show Srt q3v (xs.take ac ++ (r :: xs.drop ac)) ∧ Stab q3v (livF rs (j + 1)) (xs.take ac ++ (r :: xs.drop ac)) from stop_ssG q2o HSS.out HDS.out HDR.out (fun h => absurd h h0)), HWX.out.drew⟩
      case rest =>
      revert wc; intro wy hcut
      obtain ⟨ac, rfl, hac, HSS2, hcy⟩ := hcut
      have HCW := hid (HC3.out.trans0 hcy); have HROW := hid (HROWQ.out.ext (HQ3.out.trans0 hcy)); have HXS2 := hid (recL.ext HXS.out (HQ3.out.trans0 hcy)); have HBX := hid (hcy.keep0 HB3.out)
      clear HXS hcy c3 n3
      have HXS := HXS2
      clear HXS2
      have HNEW := hid (show ∀ n, n = xs.length - ac → (([] ++ ((ps.drop 0).take ac).map (·.1)) ++ [r]) ++ ((ps.drop ac).take n).map (·.1) = xs.take ac ++ (r :: xs.drop ac) from fun n hn => by
       have hl : ps.length = xs.length := by rw [← HPM.out, List.length_map]
       rw [List.drop_zero, List.take_of_length_le (l := ps.drop ac) (by rw [List.length_drop]; omega), List.map_take, List.map_drop, HPM.out]
       simp)
      by_cases hca : cap = ac
      ·subst hca
       have HNEW := hid (HNEW.out (len - cap) (by have := HLX.out; omega))
       go_wp2_with fail
       obtain ⟨SS, HSI, HSO⟩ := q0k (fun w' => Know B6 #[.int .i64 r.kind, .int .i64 r.seq, .string r.name, .int .i64 r.length, .int .i64 r.group, .int .i64 r.row, .slice a6 l6 c6, .slice a7 l7 c7, .slice a8 l8 c8] w')
       have hS0 := HSI.out _ (Know.of (q0a HBX.out))
       refine q0g SS (by kernel_rfl) hS0 ?_
       obtain ⟨wd, hwd⟩ : ∃ wd, wd = wy.drew := ⟨_, rfl⟩
       have HCD := hid (show Chg [] wy wd by rw [hwd]; exact (Chg.refl [] wy).drew)
       rw [← hwd] at hS0 ⊢
       clear hwd
       have HBD := hid (HCD.out.keep0 HBX.out)
       have HRD := hid (HROW.out.ext HCD.out); have HCE := hid (HCW.out.trans0 HCD.out); have HXD := hid (recL.ext HXS.out HCD.out)
       clear HBX HROW HCW HXS HCD
       have HBX := HBD; have HROW := HRD; have HCW := HCE; have HXS := HXD
       clear HBD HRD HCE HXD
       refine rgT 1 hS0 ?_
       refine rgT 2 hS0 ?_
       refine rgT 3 hS0 ?_
       refine rgL 5 hS0 HSO ?_
       refine rgT 8 hS0 ?_
       refine rgT 9 hS0 ?_
       refine rgT 10 hS0 ?_
       refine q5f 0 6 rfl rfl (by kernel_rfl) (fun K hK => ?_) (fun K hK => ?_)
       ·have HM := hid (q6o wd (wd.heap.size) (by simp))
        go_simp
        refine hK.out _ _ (HSI.out _ (Know.of (((Chg.refl [] wd).alloc (.cells #[] 67)).keep0 HBX.out))) (fun hS1 => ?_)
        clear hK K
        try simp only [Act.put, pA, pB, pC]
        refine q5f 4 6 rfl rfl (by kernel_rfl) (fun K hK => ?_) (fun K hK => ?_)
        ·obtain ⟨nw, hnw, hal⟩ := q1r (HROW.out.ext ((Chg.refl [] wd).alloc (.cells #[] 67))) (i := 0) (n := cap) (by have := HPL.out; omega)
         have HNW := hid hnw; have HAL2 := hid hal; clear hnw hal
         refine recL.step_append rfl _ _ 44 rfl Tryz.underlying44 KR rfl HM.out ⟨g, 0, none⟩ cap cap nw (ys := ((ps.drop 0).take cap).map (·.1)) (f := ((ps.drop 0).take cap).flatMap (·.2)) rfl (by rw [List.length_map, List.length_take, List.drop_zero]; have := HPL.out; omega) (fun j u h => by rw [Addr.add_lit]; have := HNW.out j u h; simpa using this) HAL2.out (fun g2 e hm => by cases e; have h1 := HFP.out _ (q1n hm); have h2 := HCW.out.size; omega) (by rw [List.length_map, List.length_take, List.drop_zero]; simp only [List.length_nil, maxLen]; omega) (by rw [List.length_map, List.length_take, List.drop_zero]; simp only [List.length_nil]; omega) ?_
         intro v4 w4 h4 ho4 hh4 hc4
         obtain ⟨y4, hy4⟩ : ∃ y4, y4 = [] ++ ((ps.drop 0).take cap).map (·.1) := ⟨_, rfl⟩
         rw [← hy4] at ho4
         have HL4 := hid (show y4.length ≤ 1000000 by rw [hy4, List.nil_append, List.length_map, List.length_take, List.drop_zero]; omega); have HY4 := hid hy4
         clear hy4
         have HQ4 := hid (((Chg.refl [] wd).alloc (.cells #[] 67)).trans hc4 (fun y hy => .inr (by simp at hy; omega)))
         obtain ⟨a4, c4, rfl⟩ := recL.os_len ho4
         have HO4 := hid ho4; have HH4 := hid (show ∀ y, h4 = some y → wd.heap.size ≤ y from fun y e => by rcases hh4 with rfl | rfl <;> cases e <;> simp <;> omega)
         clear ho4 hh4 hc4
         refine hK.out _ _ (HSI.out _ (Know.of (HQ4.out.keep0 HBX.out))) (fun hS2 => ?_)
         clear hK K
         try simp only [Act.put, pA, pB, pC]
         refine q0c 6 rfl (by kernel_rfl) (fun K hK => ?_)
         have HR6 := hid (show (w4.alloc (.cells #[.int .i64 r.kind, .int .i64 r.seq, .string r.name, .int .i64 r.length, .int .i64 r.group, .int .i64 r.row, .slice a6 l6 c6, .slice a7 l7 c7, .slice a8 l8 c8] 67)).heap[w4.heap.size]? = some (.cells #[.int .i64 r.kind, .int .i64 r.seq, .string r.name, .int .i64 r.length, .int .i64 r.group, .int .i64 r.row, .slice a6 l6 c6, .slice a7 l7 c7, .slice a8 l8 c8] 67 (0, 0)) from q0d (by simp) _)
         go_simp
         refine hK.out _ _ (HSI.out _ (Know.of ((HQ4.out.alloc (.cells #[.int .i64 r.kind, .int .i64 r.seq, .string r.name, .int .i64 r.length, .int .i64 r.group, .int .i64 r.row, .slice a6 l6 c6, .slice a7 l7 c7, .slice a8 l8 c8] 67)).keep0 HBX.out))) (fun hS3 => ?_)
         clear hK K
         try simp only [Act.put, pA, pB, pC]
         refine q0c 7 rfl (by kernel_rfl) (fun K hK => ?_)
         refine recL.step_append rfl _ _ 44 rfl Tryz.underlying44 KR rfl (recL.os_alloc HO4.out (.cells #[.int .i64 r.kind, .int .i64 r.seq, .string r.name, .int .i64 r.length, .int .i64 r.group, .int .i64 r.row, .slice a6 l6 c6, .slice a7 l7 c7, .slice a8 l8 c8] 67)) ⟨w4.heap.size, 0, none⟩ 1 1 [.int .i64 r.kind, .int .i64 r.seq, .string r.name, .int .i64 r.length, .int .i64 r.group, .int .i64 r.row, .slice a6 l6 c6, .slice a7 l7 c7, .slice a8 l8 c8] (ys := [r]) (f := fq) rfl rfl (q2g HR6.out) (recL.all_single (recL.ext HXS.out (HQ4.out.alloc (.cells #[.int .i64 r.kind, .int .i64 r.seq, .string r.name, .int .i64 r.length, .int .i64 r.group, .int .i64 r.row, .slice a6 l6 c6, .slice a7 l7 c7, .slice a8 l8 c8] 67)))) (fun g2 e hm => by have h1 := HFQ.out g2 hm; have h2 := HCW.out.size; have h3 := HH4.out g2 e; omega) (by have := HL4.out; simp only [List.length_singleton, maxLen]; omega) (by have := HL4.out; simp only [List.length_singleton]; omega) ?_
         intro v7 w7 h7 ho7 hh7 hc7
         obtain ⟨y7, hy7⟩ : ∃ y7, y7 = y4 ++ [r] := ⟨_, rfl⟩
         rw [← hy7] at ho7
         have HL7 := hid (show y7.length ≤ 1000001 by rw [hy7, List.length_append, List.length_singleton]; have := HL4.out; omega); have HY7 := hid hy7
         clear hy7
         have HQ7 := hid ((HQ4.out.alloc (.cells #[.int .i64 r.kind, .int .i64 r.seq, .string r.name, .int .i64 r.length, .int .i64 r.group, .int .i64 r.row, .slice a6 l6 c6, .slice a7 l7 c7, .slice a8 l8 c8] 67)).trans hc7 (fun y hy => .inr (by cases h4 with | none => simp at hy | some y4 => simp at hy; subst hy; exact HH4.out _ rfl)))
         obtain ⟨a7', c7', rfl⟩ := recL.os_len ho7
         have HO7 := hid ho7; have HH7 := hid (show ∀ y, h7 = some y → wd.heap.size ≤ y from fun y e => by rcases hh7 with rfl | rfl; exact HH4.out y e; cases e; exact (HQ4.out.alloc (.cells #[.int .i64 r.kind, .int .i64 r.seq, .string r.name, .int .i64 r.length, .int .i64 r.group, .int .i64 r.row, .slice a6 l6 c6, .slice a7 l7 c7, .slice a8 l8 c8] 67)).size)
         clear ho7 hh7 hc7
         refine hK.out _ _ (HSI.out _ (Know.of (HQ7.out.keep0 HBX.out))) (fun hS4 => ?_)
         clear hK K
         try simp only [Act.put, pA, pB, pC]
         refine q0c 11 rfl (by kernel_rfl) (fun K hK => ?_)
         obtain ⟨nw2, hnw2, hal2⟩ := q1r (HROW.out.ext HQ7.out) (i := cap) (n := len - cap) (by have := HPL.out; omega)
         have HNW2 := hid hnw2; have HAL3 := hid hal2; clear hnw2 hal2
         refine recL.step_append rfl _ _ 44 rfl Tryz.underlying44 KR rfl HO7.out ⟨g, 0, none⟩ (len - cap) 0 nw2 (ys := ((ps.drop cap).take (len - cap)).map (·.1)) (f := ((ps.drop cap).take (len - cap)).flatMap (·.2)) rfl (by rw [List.length_map, List.length_take, List.length_drop]; have := HPL.out; omega) (fun j u h => by rw [Addr.add_lit]; have := HNW2.out j u h; have hl := recL.all_len HAL3.out; rw [show len - cap = 0 by have := HCP.out.1; have := HLX.out; omega] at hl; simp at hl; subst hl; simp at h) HAL3.out (fun g2 e hm => by have h1 := HFP.out _ (q1n hm); have h2 := HCW.out.size; have h3 := HH7.out g2 e; omega) (by rw [List.length_map, List.length_take, List.length_drop]; have := HL7.out; have := HPL.out; simp only [maxLen]; omega) (by rw [List.length_map, List.length_take, List.length_drop]; have := HL7.out; have := HPL.out; omega) ?_
         intro v11 w11 h11 ho11 hh11 hc11
         have HQ11 := hid (HQ7.out.trans hc11 (fun y hy => .inr (by cases h7 with | none => simp at hy | some y4 => simp at hy; subst hy; exact HH7.out _ rfl)))
         have HH11 := hid (show ∀ y, h11 = some y → wd.heap.size ≤ y from fun y e => by rcases hh11 with rfl | rfl; exact HH7.out y e; cases e; exact HQ7.out.size)
         have HO11 := hid ho11; clear ho11 hh11 hc11
         have HSH11 := hid (q6e HO11.out HH11.out (Nat.le_trans HN0.out HCW.out.size) (ps := ps) (fq := fq) HFP.out HFQ.out (by rw [HY7.out]; simp))
         refine hK.out _ _ (HSI.out _ (Know.of (HQ11.out.keep0 HBX.out))) (fun hS5 => ?_)
         clear hK K
         try simp only [Act.put, pA, pB, pC]
         refine rgT 12 hS5 ?_
         refine wpAnyH_done (by kernel_rfl) ?_ _
         go_wp2_with fail
         have HF := hid (And.intro HSH11.out (HCW.out.trans0 HQ11.out))
         go_roundw
         case rel => exact ⟨j + 1, _, _, rfl, by omega, rfl, HSS2, by have := HF.out.1; rw [HY7.out, HY4.out, HNEW.out] at this; exact this.row, HF.out.2⟩
         case measure => simp [intOf]; omega
        ·have HR6 := hid (show ((wd.alloc (.cells #[] 67)).alloc (.cells #[.int .i64 r.kind, .int .i64 r.seq, .string r.name, .int .i64 r.length, .int .i64 r.group, .int .i64 r.row, .slice a6 l6 c6, .slice a7 l7 c7, .slice a8 l8 c8] 67)).heap[wd.heap.size + 1]? = some (.cells #[.int .i64 r.kind, .int .i64 r.seq, .string r.name, .int .i64 r.length, .int .i64 r.group, .int .i64 r.row, .slice a6 l6 c6, .slice a7 l7 c7, .slice a8 l8 c8] 67 (0, 0)) from q0d (by simp) _)
         go_simp
         refine hK.out _ _ (HSI.out _ (Know.of ((((Chg.refl [] wd).alloc (.cells #[] 67)).alloc (.cells #[.int .i64 r.kind, .int .i64 r.seq, .string r.name, .int .i64 r.length, .int .i64 r.group, .int .i64 r.row, .slice a6 l6 c6, .slice a7 l7 c7, .slice a8 l8 c8] 67)).keep0 HBX.out))) (fun hS6 => ?_)
         clear hK K
         try simp only [Act.put, pA, pB, pC]
         refine q0c 4 rfl (by kernel_rfl) (fun K hK => ?_)
         obtain ⟨nw, hnw, hal⟩ := q1r (HROW.out.ext (((Chg.refl [] wd).alloc (.cells #[] 67)).alloc (.cells #[.int .i64 r.kind, .int .i64 r.seq, .string r.name, .int .i64 r.length, .int .i64 r.group, .int .i64 r.row, .slice a6 l6 c6, .slice a7 l7 c7, .slice a8 l8 c8] 67))) (i := 0) (n := cap) (by have := HPL.out; omega)
         have HNW := hid hnw; have HAL2 := hid hal; clear hnw hal
         refine recL.step_append rfl _ _ 44 rfl Tryz.underlying44 KR rfl (recL.os_alloc HM.out (.cells #[.int .i64 r.kind, .int .i64 r.seq, .string r.name, .int .i64 r.length, .int .i64 r.group, .int .i64 r.row, .slice a6 l6 c6, .slice a7 l7 c7, .slice a8 l8 c8] 67)) ⟨g, 0, none⟩ cap cap nw (ys := ((ps.drop 0).take cap).map (·.1)) (f := ((ps.drop 0).take cap).flatMap (·.2)) rfl (by rw [List.length_map, List.length_take, List.drop_zero]; have := HPL.out; omega) (fun j u h => by rw [Addr.add_lit]; have := HNW.out j u h; simpa using this) HAL2.out (fun g2 e hm => by cases e; have h1 := HFP.out _ (q1n hm); have h2 := HCW.out.size; omega) (by rw [List.length_map, List.length_take, List.drop_zero]; simp only [List.length_nil, maxLen]; omega) (by rw [List.length_map, List.length_take, List.drop_zero]; simp only [List.length_nil]; omega) ?_
         intro v4 w4 h4 ho4 hh4 hc4
         obtain ⟨y4, hy4⟩ : ∃ y4, y4 = [] ++ ((ps.drop 0).take cap).map (·.1) := ⟨_, rfl⟩
         rw [← hy4] at ho4
         have HL4 := hid (show y4.length ≤ 1000000 by rw [hy4, List.nil_append, List.length_map, List.length_take, List.drop_zero]; omega); have HY4 := hid hy4
         clear hy4
         have HQ4 := hid ((((Chg.refl [] wd).alloc (.cells #[] 67)).alloc (.cells #[.int .i64 r.kind, .int .i64 r.seq, .string r.name, .int .i64 r.length, .int .i64 r.group, .int .i64 r.row, .slice a6 l6 c6, .slice a7 l7 c7, .slice a8 l8 c8] 67)).trans hc4 (fun y hy => .inr (by simp at hy; omega)))
         obtain ⟨a4, c4, rfl⟩ := recL.os_len ho4
         have HO4 := hid ho4; have HH4 := hid (show ∀ y, h4 = some y → wd.heap.size ≤ y from fun y e => by rcases hh4 with rfl | rfl <;> cases e <;> simp <;> omega)
         have HR64 := hid (hc4.keepb HR6.out (by simp <;> omega))
         clear ho4 hh4 hc4
         refine hK.out _ _ (HSI.out _ (Know.of (HQ4.out.keep0 HBX.out))) (fun hS7 => ?_)
         clear hK K
         try simp only [Act.put, pA, pB, pC]
         refine q0c 7 rfl (by kernel_rfl) (fun K hK => ?_)
         refine recL.step_append rfl _ _ 44 rfl Tryz.underlying44 KR rfl HO4.out ⟨wd.heap.size + 1, 0, none⟩ 1 1 [.int .i64 r.kind, .int .i64 r.seq, .string r.name, .int .i64 r.length, .int .i64 r.group, .int .i64 r.row, .slice a6 l6 c6, .slice a7 l7 c7, .slice a8 l8 c8] (ys := [r]) (f := fq) rfl rfl (q2g HR64.out) (recL.all_single (recL.ext HXS.out HQ4.out)) (fun g2 e hm => by have h1 := HFQ.out g2 hm; have h2 := HCW.out.size; have h3 := HH4.out g2 e; omega) (by have := HL4.out; simp only [List.length_singleton, maxLen]; omega) (by have := HL4.out; simp only [List.length_singleton]; omega) ?_
         intro v7 w7 h7 ho7 hh7 hc7
         obtain ⟨y7, hy7⟩ : ∃ y7, y7 = y4 ++ [r] := ⟨_, rfl⟩
         rw [← hy7] at ho7
         have HL7 := hid (show y7.length ≤ 1000001 by rw [hy7, List.length_append, List.length_singleton]; have := HL4.out; omega); have HY7 := hid hy7
         clear hy7
         have HQ7 := hid (HQ4.out.trans hc7 (fun y hy => .inr (by cases h4 with | none => simp at hy | some y4 => simp at hy; subst hy; exact HH4.out _ rfl)))
         obtain ⟨a7', c7', rfl⟩ := recL.os_len ho7
         have HO7 := hid ho7; have HH7 := hid (show ∀ y, h7 = some y → wd.heap.size ≤ y from fun y e => by rcases hh7 with rfl | rfl; exact HH4.out y e; cases e; exact HQ4.out.size)
         clear ho7 hh7 hc7
         refine hK.out _ _ (HSI.out _ (Know.of (HQ7.out.keep0 HBX.out))) (fun hS8 => ?_)
         clear hK K
         try simp only [Act.put, pA, pB, pC]
         refine q0c 11 rfl (by kernel_rfl) (fun K hK => ?_)
         obtain ⟨nw2, hnw2, hal2⟩ := q1r (HROW.out.ext HQ7.out) (i := cap) (n := len - cap) (by have := HPL.out; omega)
         have HNW2 := hid hnw2; have HAL3 := hid hal2; clear hnw2 hal2
         refine recL.step_append rfl _ _ 44 rfl Tryz.underlying44 KR rfl HO7.out ⟨g, 0, none⟩ (len - cap) 0 nw2 (ys := ((ps.drop cap).take (len - cap)).map (·.1)) (f := ((ps.drop cap).take (len - cap)).flatMap (·.2)) rfl (by rw [List.length_map, List.length_take, List.length_drop]; have := HPL.out; omega) (fun j u h => by rw [Addr.add_lit]; have := HNW2.out j u h; have hl := recL.all_len HAL3.out; rw [show len - cap = 0 by have := HCP.out.1; have := HLX.out; omega] at hl; simp at hl; subst hl; simp at h) HAL3.out (fun g2 e hm => by have h1 := HFP.out _ (q1n hm); have h2 := HCW.out.size; have h3 := HH7.out g2 e; omega) (by rw [List.length_map, List.length_take, List.length_drop]; have := HL7.out; have := HPL.out; simp only [maxLen]; omega) (by rw [List.length_map, List.length_take, List.length_drop]; have := HL7.out; have := HPL.out; omega) ?_
         intro v11 w11 h11 ho11 hh11 hc11
         have HQ11 := hid (HQ7.out.trans hc11 (fun y hy => .inr (by cases h7 with | none => simp at hy | some y4 => simp at hy; subst hy; exact HH7.out _ rfl)))
         have HH11 := hid (show ∀ y, h11 = some y → wd.heap.size ≤ y from fun y e => by rcases hh11 with rfl | rfl; exact HH7.out y e; cases e; exact HQ7.out.size)
         have HO11 := hid ho11; clear ho11 hh11 hc11
         have HSH11 := hid (q6e HO11.out HH11.out (Nat.le_trans HN0.out HCW.out.size) (ps := ps) (fq := fq) HFP.out HFQ.out (by rw [HY7.out]; simp))
         refine hK.out _ _ (HSI.out _ (Know.of (HQ11.out.keep0 HBX.out))) (fun hS9 => ?_)
         clear hK K
         try simp only [Act.put, pA, pB, pC]
         refine rgT 12 hS9 ?_
         refine wpAnyH_done (by kernel_rfl) ?_ _
         go_wp2_with fail
         have HF := hid (And.intro HSH11.out (HCW.out.trans0 HQ11.out))
         go_roundw
         case rel => exact ⟨j + 1, _, _, rfl, by omega, rfl, HSS2, by have := HF.out.1; rw [HY7.out, HY4.out, HNEW.out] at this; exact this.row, HF.out.2⟩
         case measure => simp [intOf]; omega
       ·have HR6 := hid (show (wd.alloc (.cells #[.int .i64 r.kind, .int .i64 r.seq, .string r.name, .int .i64 r.length, .int .i64 r.group, .int .i64 r.row, .slice a6 l6 c6, .slice a7 l7 c7, .slice a8 l8 c8] 67)).heap[wd.heap.size]? = some (.cells #[.int .i64 r.kind, .int .i64 r.seq, .string r.name, .int .i64 r.length, .int .i64 r.group, .int .i64 r.row, .slice a6 l6 c6, .slice a7 l7 c7, .slice a8 l8 c8] 67 (0, 0)) from q0d (by simp) _)
        go_simp
        refine hK.out _ _ (HSI.out _ (Know.of (((Chg.refl [] wd).alloc (.cells #[.int .i64 r.kind, .int .i64 r.seq, .string r.name, .int .i64 r.length, .int .i64 r.group, .int .i64 r.row, .slice a6 l6 c6, .slice a7 l7 c7, .slice a8 l8 c8] 67)).keep0 HBX.out))) (fun hS10 => ?_)
        clear hK K
        try simp only [Act.put, pA, pB, pC]
        refine q0c 0 rfl (by kernel_rfl) (fun K hK => ?_)
        have HM := hid (q6o (wd.alloc (.cells #[.int .i64 r.kind, .int .i64 r.seq, .string r.name, .int .i64 r.length, .int .i64 r.group, .int .i64 r.row, .slice a6 l6 c6, .slice a7 l7 c7, .slice a8 l8 c8] 67)) (wd.heap.size + 1) (by simp))
        go_simp
        refine hK.out _ _ (HSI.out _ (Know.of ((((Chg.refl [] wd).alloc (.cells #[.int .i64 r.kind, .int .i64 r.seq, .string r.name, .int .i64 r.length, .int .i64 r.group, .int .i64 r.row, .slice a6 l6 c6, .slice a7 l7 c7, .slice a8 l8 c8] 67)).alloc (.cells #[] 67)).keep0 HBX.out))) (fun hS11 => ?_)
        clear hK K
        try simp only [Act.put, pA, pB, pC]
        refine q0c 4 rfl (by kernel_rfl) (fun K hK => ?_)
        obtain ⟨nw, hnw, hal⟩ := q1r (HROW.out.ext (((Chg.refl [] wd).alloc (.cells #[.int .i64 r.kind, .int .i64 r.seq, .string r.name, .int .i64 r.length, .int .i64 r.group, .int .i64 r.row, .slice a6 l6 c6, .slice a7 l7 c7, .slice a8 l8 c8] 67)).alloc (.cells #[] 67))) (i := 0) (n := cap) (by have := HPL.out; omega)
        have HNW := hid hnw; have HAL2 := hid hal; clear hnw hal
        refine recL.step_append rfl _ _ 44 rfl Tryz.underlying44 KR rfl HM.out ⟨g, 0, none⟩ cap cap nw (ys := ((ps.drop 0).take cap).map (·.1)) (f := ((ps.drop 0).take cap).flatMap (·.2)) rfl (by rw [List.length_map, List.length_take, List.drop_zero]; have := HPL.out; omega) (fun j u h => by rw [Addr.add_lit]; have := HNW.out j u h; simpa using this) HAL2.out (fun g2 e hm => by cases e; have h1 := HFP.out _ (q1n hm); have h2 := HCW.out.size; omega) (by rw [List.length_map, List.length_take, List.drop_zero]; simp only [List.length_nil, maxLen]; omega) (by rw [List.length_map, List.length_take, List.drop_zero]; simp only [List.length_nil]; omega) ?_
        intro v4 w4 h4 ho4 hh4 hc4
        obtain ⟨y4, hy4⟩ : ∃ y4, y4 = [] ++ ((ps.drop 0).take cap).map (·.1) := ⟨_, rfl⟩
        rw [← hy4] at ho4
        have HL4 := hid (show y4.length ≤ 1000000 by rw [hy4, List.nil_append, List.length_map, List.length_take, List.drop_zero]; omega); have HY4 := hid hy4
        clear hy4
        have HQ4 := hid ((((Chg.refl [] wd).alloc (.cells #[.int .i64 r.kind, .int .i64 r.seq, .string r.name, .int .i64 r.length, .int .i64 r.group, .int .i64 r.row, .slice a6 l6 c6, .slice a7 l7 c7, .slice a8 l8 c8] 67)).alloc (.cells #[] 67)).trans hc4 (fun y hy => .inr (by simp at hy; omega)))
        obtain ⟨a4, c4, rfl⟩ := recL.os_len ho4
        have HO4 := hid ho4; have HH4 := hid (show ∀ y, h4 = some y → wd.heap.size ≤ y from fun y e => by rcases hh4 with rfl | rfl <;> cases e <;> simp <;> omega)
        have HR64 := hid (hc4.keepb (q0b HR6.out (.cells #[] 67)) (by simp <;> omega))
        clear ho4 hh4 hc4
        refine hK.out _ _ (HSI.out _ (Know.of (HQ4.out.keep0 HBX.out))) (fun hS12 => ?_)
        clear hK K
        try simp only [Act.put, pA, pB, pC]
        refine q0c 7 rfl (by kernel_rfl) (fun K hK => ?_)
        refine recL.step_append rfl _ _ 44 rfl Tryz.underlying44 KR rfl HO4.out ⟨wd.heap.size, 0, none⟩ 1 1 [.int .i64 r.kind, .int .i64 r.seq, .string r.name, .int .i64 r.length, .int .i64 r.group, .int .i64 r.row, .slice a6 l6 c6, .slice a7 l7 c7, .slice a8 l8 c8] (ys := [r]) (f := fq) rfl rfl (q2g HR64.out) (recL.all_single (recL.ext HXS.out HQ4.out)) (fun g2 e hm => by have h1 := HFQ.out g2 hm; have h2 := HCW.out.size; have h3 := HH4.out g2 e; omega) (by have := HL4.out; simp only [List.length_singleton, maxLen]; omega) (by have := HL4.out; simp only [List.length_singleton]; omega) ?_
        intro v7 w7 h7 ho7 hh7 hc7
        obtain ⟨y7, hy7⟩ : ∃ y7, y7 = y4 ++ [r] := ⟨_, rfl⟩
        rw [← hy7] at ho7
        have HL7 := hid (show y7.length ≤ 1000001 by rw [hy7, List.length_append, List.length_singleton]; have := HL4.out; omega); have HY7 := hid hy7
        clear hy7
        have HQ7 := hid (HQ4.out.trans hc7 (fun y hy => .inr (by cases h4 with | none => simp at hy | some y4 => simp at hy; subst hy; exact HH4.out _ rfl)))
        obtain ⟨a7', c7', rfl⟩ := recL.os_len ho7
        have HO7 := hid ho7; have HH7 := hid (show ∀ y, h7 = some y → wd.heap.size ≤ y from fun y e => by rcases hh7 with rfl | rfl; exact HH4.out y e; cases e; exact HQ4.out.size)
        clear ho7 hh7 hc7
        refine hK.out _ _ (HSI.out _ (Know.of (HQ7.out.keep0 HBX.out))) (fun hS13 => ?_)
        clear hK K
        try simp only [Act.put, pA, pB, pC]
        refine q0c 11 rfl (by kernel_rfl) (fun K hK => ?_)
        obtain ⟨nw2, hnw2, hal2⟩ := q1r (HROW.out.ext HQ7.out) (i := cap) (n := len - cap) (by have := HPL.out; omega)
        have HNW2 := hid hnw2; have HAL3 := hid hal2; clear hnw2 hal2
        refine recL.step_append rfl _ _ 44 rfl Tryz.underlying44 KR rfl HO7.out ⟨g, 0, none⟩ (len - cap) 0 nw2 (ys := ((ps.drop cap).take (len - cap)).map (·.1)) (f := ((ps.drop cap).take (len - cap)).flatMap (·.2)) rfl (by rw [List.length_map, List.length_take, List.length_drop]; have := HPL.out; omega) (fun j u h => by rw [Addr.add_lit]; have := HNW2.out j u h; have hl := recL.all_len HAL3.out; rw [show len - cap = 0 by have := HCP.out.1; have := HLX.out; omega] at hl; simp at hl; subst hl; simp at h) HAL3.out (fun g2 e hm => by have h1 := HFP.out _ (q1n hm); have h2 := HCW.out.size; have h3 := HH7.out g2 e; omega) (by rw [List.length_map, List.length_take, List.length_drop]; have := HL7.out; have := HPL.out; simp only [maxLen]; omega) (by rw [List.length_map, List.length_take, List.length_drop]; have := HL7.out; have := HPL.out; omega) ?_
        intro v11 w11 h11 ho11 hh11 hc11
        have HQ11 := hid (HQ7.out.trans hc11 (fun y hy => .inr (by cases h7 with | none => simp at hy | some y4 => simp at hy; subst hy; exact HH7.out _ rfl)))
        have HH11 := hid (show ∀ y, h11 = some y → wd.heap.size ≤ y from fun y e => by rcases hh11 with rfl | rfl; exact HH7.out y e; cases e; exact HQ7.out.size)
        have HO11 := hid ho11; clear ho11 hh11 hc11
        have HSH11 := hid (q6e HO11.out HH11.out (Nat.le_trans HN0.out HCW.out.size) (ps := ps) (fq := fq) HFP.out HFQ.out (by rw [HY7.out]; simp))
        refine hK.out _ _ (HSI.out _ (Know.of (HQ11.out.keep0 HBX.out))) (fun hS14 => ?_)
        clear hK K
        try simp only [Act.put, pA, pB, pC]
        refine rgT 12 hS14 ?_
        refine wpAnyH_done (by kernel_rfl) ?_ _
        go_wp2_with fail
        have HF := hid (And.intro HSH11.out (HCW.out.trans0 HQ11.out))
        go_roundw
        case rel => exact ⟨j + 1, _, _, rfl, by omega, rfl, HSS2, by have := HF.out.1; rw [HY7.out, HY4.out, HNEW.out] at this; exact this.row, HF.out.2⟩
        case measure => simp [intOf]; omega
      ·have HNEW := hid (HNEW.out (len - ac) (by have := HLX.out; omega))
       have hacc : ac ≤ cap := by have := HCP.out.1; have := HLX.out; omega
       go_wp2_with fail
       obtain ⟨SS, HSI, HSO⟩ := q0k (fun w' => Know B6 #[.int .i64 r.kind, .int .i64 r.seq, .string r.name, .int .i64 r.length, .int .i64 r.group, .int .i64 r.row, .slice a6 l6 c6, .slice a7 l7 c7, .slice a8 l8 c8] w')
       have hS0 := HSI.out _ (Know.of (q0a HBX.out))
       refine q0g SS (by kernel_rfl) hS0 ?_
       obtain ⟨wd, hwd⟩ : ∃ wd, wd = wy.drew := ⟨_, rfl⟩
       have HCD := hid (show Chg [] wy wd by rw [hwd]; exact (Chg.refl [] wy).drew)
       rw [← hwd] at hS0 ⊢
       clear hwd
       have HBD := hid (HCD.out.keep0 HBX.out)
       have HRD := hid (HROW.out.ext HCD.out); have HCE := hid (HCW.out.trans0 HCD.out); have HXD := hid (recL.ext HXS.out HCD.out)
       clear HBX HROW HCW HXS HCD
       have HBX := HBD; have HROW := HRD; have HCW := HCE; have HXS := HXD
       clear HBD HRD HCE HXD
       refine rgT 1 hS0 ?_
       refine rgT 2 hS0 ?_
       refine rgT 3 hS0 ?_
       refine rgL 5 hS0 HSO ?_
       refine rgT 8 hS0 ?_
       refine rgT 9 hS0 ?_
       refine rgT 10 hS0 ?_
       refine q5f 0 6 rfl rfl (by kernel_rfl) (fun K hK => ?_) (fun K hK => ?_)
       ·have HM := hid (q6o wd (wd.heap.size) (by simp))
        go_simp
        refine hK.out _ _ (HSI.out _ (Know.of (((Chg.refl [] wd).alloc (.cells #[] 67)).keep0 HBX.out))) (fun hS1 => ?_)
        clear hK K
        try simp only [Act.put, pA, pB, pC]
        refine q5f 4 6 rfl rfl (by kernel_rfl) (fun K hK => ?_) (fun K hK => ?_)
        ·obtain ⟨nw, hnw, hal⟩ := q1r (HROW.out.ext ((Chg.refl [] wd).alloc (.cells #[] 67))) (i := 0) (n := ac) (by have := HPL.out; omega)
         have HNW := hid hnw; have HAL2 := hid hal; clear hnw hal
         refine recL.step_append rfl _ _ 44 rfl Tryz.underlying44 KR rfl HM.out ⟨g, 0, none⟩ ac cap nw (ys := ((ps.drop 0).take ac).map (·.1)) (f := ((ps.drop 0).take ac).flatMap (·.2)) rfl (by rw [List.length_map, List.length_take, List.drop_zero]; have := HPL.out; omega) (fun j u h => by rw [Addr.add_lit]; have := HNW.out j u h; simpa using this) HAL2.out (fun g2 e hm => by cases e; have h1 := HFP.out _ (q1n hm); have h2 := HCW.out.size; omega) (by rw [List.length_map, List.length_take, List.drop_zero]; simp only [List.length_nil, maxLen]; omega) (by rw [List.length_map, List.length_take, List.drop_zero]; simp only [List.length_nil]; omega) ?_
         intro v4 w4 h4 ho4 hh4 hc4
         obtain ⟨y4, hy4⟩ : ∃ y4, y4 = [] ++ ((ps.drop 0).take ac).map (·.1) := ⟨_, rfl⟩
         rw [← hy4] at ho4
         have HL4 := hid (show y4.length ≤ 1000000 by rw [hy4, List.nil_append, List.length_map, List.length_take, List.drop_zero]; omega); have HY4 := hid hy4
         clear hy4
         have HQ4 := hid (((Chg.refl [] wd).alloc (.cells #[] 67)).trans hc4 (fun y hy => .inr (by simp at hy; omega)))
         obtain ⟨a4, c4, rfl⟩ := recL.os_len ho4
         have HO4 := hid ho4; have HH4 := hid (show ∀ y, h4 = some y → wd.heap.size ≤ y from fun y e => by rcases hh4 with rfl | rfl <;> cases e <;> simp <;> omega)
         clear ho4 hh4 hc4
         refine hK.out _ _ (HSI.out _ (Know.of (HQ4.out.keep0 HBX.out))) (fun hS2 => ?_)
         clear hK K
         try simp only [Act.put, pA, pB, pC]
         refine q0c 6 rfl (by kernel_rfl) (fun K hK => ?_)
         have HR6 := hid (show (w4.alloc (.cells #[.int .i64 r.kind, .int .i64 r.seq, .string r.name, .int .i64 r.length, .int .i64 r.group, .int .i64 r.row, .slice a6 l6 c6, .slice a7 l7 c7, .slice a8 l8 c8] 67)).heap[w4.heap.size]? = some (.cells #[.int .i64 r.kind, .int .i64 r.seq, .string r.name, .int .i64 r.length, .int .i64 r.group, .int .i64 r.row, .slice a6 l6 c6, .slice a7 l7 c7, .slice a8 l8 c8] 67 (0, 0)) from q0d (by simp) _)
         go_simp
         refine hK.out _ _ (HSI.out _ (Know.of ((HQ4.out.alloc (.cells #[.int .i64 r.kind, .int .i64 r.seq, .string r.name, .int .i64 r.length, .int .i64 r.group, .int .i64 r.row, .slice a6 l6 c6, .slice a7 l7 c7, .slice a8 l8 c8] 67)).keep0 HBX.out))) (fun hS3 => ?_)
         clear hK K
         try simp only [Act.put, pA, pB, pC]
         refine q0c 7 rfl (by kernel_rfl) (fun K hK => ?_)
         refine recL.step_append rfl _ _ 44 rfl Tryz.underlying44 KR rfl (recL.os_alloc HO4.out (.cells #[.int .i64 r.kind, .int .i64 r.seq, .string r.name, .int .i64 r.length, .int .i64 r.group, .int .i64 r.row, .slice a6 l6 c6, .slice a7 l7 c7, .slice a8 l8 c8] 67)) ⟨w4.heap.size, 0, none⟩ 1 1 [.int .i64 r.kind, .int .i64 r.seq, .string r.name, .int .i64 r.length, .int .i64 r.group, .int .i64 r.row, .slice a6 l6 c6, .slice a7 l7 c7, .slice a8 l8 c8] (ys := [r]) (f := fq) rfl rfl (q2g HR6.out) (recL.all_single (recL.ext HXS.out (HQ4.out.alloc (.cells #[.int .i64 r.kind, .int .i64 r.seq, .string r.name, .int .i64 r.length, .int .i64 r.group, .int .i64 r.row, .slice a6 l6 c6, .slice a7 l7 c7, .slice a8 l8 c8] 67)))) (fun g2 e hm => by have h1 := HFQ.out g2 hm; have h2 := HCW.out.size; have h3 := HH4.out g2 e; omega) (by have := HL4.out; simp only [List.length_singleton, maxLen]; omega) (by have := HL4.out; simp only [List.length_singleton]; omega) ?_
         intro v7 w7 h7 ho7 hh7 hc7
         obtain ⟨y7, hy7⟩ : ∃ y7, y7 = y4 ++ [r] := ⟨_, rfl⟩
         rw [← hy7] at ho7
         have HL7 := hid (show y7.length ≤ 1000001 by rw [hy7, List.length_append, List.length_singleton]; have := HL4.out; omega); have HY7 := hid hy7
         clear hy7
         have HQ7 := hid ((HQ4.out.alloc (.cells #[.int .i64 r.kind, .int .i64 r.seq, .string r.name, .int .i64 r.length, .int .i64 r.group, .int .i64 r.row, .slice a6 l6 c6, .slice a7 l7 c7, .slice a8 l8 c8] 67)).trans hc7 (fun y hy => .inr (by cases h4 with | none => simp at hy | some y4 => simp at hy; subst hy; exact HH4.out _ rfl)))
         obtain ⟨a7', c7', rfl⟩ := recL.os_len ho7
         have HO7 := hid ho7; have HH7 := hid (show ∀ y, h7 = some y → wd.heap.size ≤ y from fun y e => by rcases hh7 with rfl | rfl; exact HH4.out y e; cases e; exact (HQ4.out.alloc (.cells #[.int .i64 r.kind, .int .i64 r.seq, .string r.name, .int .i64 r.length, .int .i64 r.group, .int .i64 r.row, .slice a6 l6 c6, .slice a7 l7 c7, .slice a8 l8 c8] 67)).size)
         clear ho7 hh7 hc7
         refine hK.out _ _ (HSI.out _ (Know.of (HQ7.out.keep0 HBX.out))) (fun hS4 => ?_)
         clear hK K
         try simp only [Act.put, pA, pB, pC]
         refine q0c 11 rfl (by kernel_rfl) (fun K hK => ?_)
         obtain ⟨nw2, hnw2, hal2⟩ := q1r (HROW.out.ext HQ7.out) (i := ac) (n := len - ac) (by have := HPL.out; omega)
         have HNW2 := hid hnw2; have HAL3 := hid hal2; clear hnw2 hal2
         refine recL.step_append rfl _ _ 44 rfl Tryz.underlying44 KR rfl HO7.out ⟨g, ac * 9, none⟩ (len - ac) (cap - ac) nw2 (ys := ((ps.drop ac).take (len - ac)).map (·.1)) (f := ((ps.drop ac).take (len - ac)).flatMap (·.2)) rfl (by rw [List.length_map, List.length_take, List.length_drop]; have := HPL.out; omega) (fun j u h => by rw [Addr.add_lit]; have := HNW2.out j u h; simpa using this) HAL3.out (fun g2 e hm => by have h1 := HFP.out _ (q1n hm); have h2 := HCW.out.size; have h3 := HH7.out g2 e; omega) (by rw [List.length_map, List.length_take, List.length_drop]; have := HL7.out; have := HPL.out; simp only [maxLen]; omega) (by rw [List.length_map, List.length_take, List.length_drop]; have := HL7.out; have := HPL.out; omega) ?_
         intro v11 w11 h11 ho11 hh11 hc11
         have HQ11 := hid (HQ7.out.trans hc11 (fun y hy => .inr (by cases h7 with | none => simp at hy | some y4 => simp at hy; subst hy; exact HH7.out _ rfl)))
         have HH11 := hid (show ∀ y, h11 = some y → wd.heap.size ≤ y from fun y e => by rcases hh11 with rfl | rfl; exact HH7.out y e; cases e; exact HQ7.out.size)
         have HO11 := hid ho11; clear ho11 hh11 hc11
         have HSH11 := hid (q6e HO11.out HH11.out (Nat.le_trans HN0.out HCW.out.size) (ps := ps) (fq := fq) HFP.out HFQ.out (by rw [HY7.out]; simp))
         refine hK.out _ _ (HSI.out _ (Know.of (HQ11.out.keep0 HBX.out))) (fun hS5 => ?_)
         clear hK K
         try simp only [Act.put, pA, pB, pC]
         refine rgT 12 hS5 ?_
         refine wpAnyH_done (by kernel_rfl) ?_ _
         go_wp2_with fail
         have HF := hid (And.intro HSH11.out (HCW.out.trans0 HQ11.out))
         go_roundw
         case rel => exact ⟨j + 1, _, _, rfl, by omega, rfl, HSS2, by have := HF.out.1; rw [HY7.out, HY4.out, HNEW.out] at this; exact this.row, HF.out.2⟩
         case measure => simp [intOf]; omega
        ·have HR6 := hid (show ((wd.alloc (.cells #[] 67)).alloc (.cells #[.int .i64 r.kind, .int .i64 r.seq, .string r.name, .int .i64 r.length, .int .i64 r.group, .int .i64 r.row, .slice a6 l6 c6, .slice a7 l7 c7, .slice a8 l8 c8] 67)).heap[wd.heap.size + 1]? = some (.cells #[.int .i64 r.kind, .int .i64 r.seq, .string r.name, .int .i64 r.length, .int .i64 r.group, .int .i64 r.row, .slice a6 l6 c6, .slice a7 l7 c7, .slice a8 l8 c8] 67 (0, 0)) from q0d (by simp) _)
         go_simp
         refine hK.out _ _ (HSI.out _ (Know.of ((((Chg.refl [] wd).alloc (.cells #[] 67)).alloc (.cells #[.int .i64 r.kind, .int .i64 r.seq, .string r.name, .int .i64 r.length, .int .i64 r.group, .int .i64 r.row, .slice a6 l6 c6, .slice a7 l7 c7, .slice a8 l8 c8] 67)).keep0 HBX.out))) (fun hS6 => ?_)
         clear hK K
         try simp only [Act.put, pA, pB, pC]
         refine q0c 4 rfl (by kernel_rfl) (fun K hK => ?_)
         obtain ⟨nw, hnw, hal⟩ := q1r (HROW.out.ext (((Chg.refl [] wd).alloc (.cells #[] 67)).alloc (.cells #[.int .i64 r.kind, .int .i64 r.seq, .string r.name, .int .i64 r.length, .int .i64 r.group, .int .i64 r.row, .slice a6 l6 c6, .slice a7 l7 c7, .slice a8 l8 c8] 67))) (i := 0) (n := ac) (by have := HPL.out; omega)
         have HNW := hid hnw; have HAL2 := hid hal; clear hnw hal
         refine recL.step_append rfl _ _ 44 rfl Tryz.underlying44 KR rfl (recL.os_alloc HM.out (.cells #[.int .i64 r.kind, .int .i64 r.seq, .string r.name, .int .i64 r.length, .int .i64 r.group, .int .i64 r.row, .slice a6 l6 c6, .slice a7 l7 c7, .slice a8 l8 c8] 67)) ⟨g, 0, none⟩ ac cap nw (ys := ((ps.drop 0).take ac).map (·.1)) (f := ((ps.drop 0).take ac).flatMap (·.2)) rfl (by rw [List.length_map, List.length_take, List.drop_zero]; have := HPL.out; omega) (fun j u h => by rw [Addr.add_lit]; have := HNW.out j u h; simpa using this) HAL2.out (fun g2 e hm => by cases e; have h1 := HFP.out _ (q1n hm); have h2 := HCW.out.size; omega) (by rw [List.length_map, List.length_take, List.drop_zero]; simp only [List.length_nil, maxLen]; omega) (by rw [List.length_map, List.length_take, List.drop_zero]; simp only [List.length_nil]; omega) ?_
         intro v4 w4 h4 ho4 hh4 hc4
         obtain ⟨y4, hy4⟩ : ∃ y4, y4 = [] ++ ((ps.drop 0).take ac).map (·.1) := ⟨_, rfl⟩
         rw [← hy4] at ho4
         have HL4 := hid (show y4.length ≤ 1000000 by rw [hy4, List.nil_append, List.length_map, List.length_take, List.drop_zero]; omega); have HY4 := hid hy4
         clear hy4
         have HQ4 := hid ((((Chg.refl [] wd).alloc (.cells #[] 67)).alloc (.cells #[.int .i64 r.kind, .int .i64 r.seq, .string r.name, .int .i64 r.length, .int .i64 r.group, .int .i64 r.row, .slice a6 l6 c6, .slice a7 l7 c7, .slice a8 l8 c8] 67)).trans hc4 (fun y hy => .inr (by simp at hy; omega)))
         obtain ⟨a4, c4, rfl⟩ := recL.os_len ho4
         have HO4 := hid ho4; have HH4 := hid (show ∀ y, h4 = some y → wd.heap.size ≤ y from fun y e => by rcases hh4 with rfl | rfl <;> cases e <;> simp <;> omega)
         have HR64 := hid (hc4.keepb HR6.out (by simp <;> omega))
         clear ho4 hh4 hc4
         refine hK.out _ _ (HSI.out _ (Know.of (HQ4.out.keep0 HBX.out))) (fun hS7 => ?_)
         clear hK K
         try simp only [Act.put, pA, pB, pC]
         refine q0c 7 rfl (by kernel_rfl) (fun K hK => ?_)
         refine recL.step_append rfl _ _ 44 rfl Tryz.underlying44 KR rfl HO4.out ⟨wd.heap.size + 1, 0, none⟩ 1 1 [.int .i64 r.kind, .int .i64 r.seq, .string r.name, .int .i64 r.length, .int .i64 r.group, .int .i64 r.row, .slice a6 l6 c6, .slice a7 l7 c7, .slice a8 l8 c8] (ys := [r]) (f := fq) rfl rfl (q2g HR64.out) (recL.all_single (recL.ext HXS.out HQ4.out)) (fun g2 e hm => by have h1 := HFQ.out g2 hm; have h2 := HCW.out.size; have h3 := HH4.out g2 e; omega) (by have := HL4.out; simp only [List.length_singleton, maxLen]; omega) (by have := HL4.out; simp only [List.length_singleton]; omega) ?_
         intro v7 w7 h7 ho7 hh7 hc7
         obtain ⟨y7, hy7⟩ : ∃ y7, y7 = y4 ++ [r] := ⟨_, rfl⟩
         rw [← hy7] at ho7
         have HL7 := hid (show y7.length ≤ 1000001 by rw [hy7, List.length_append, List.length_singleton]; have := HL4.out; omega); have HY7 := hid hy7
         clear hy7
         have HQ7 := hid (HQ4.out.trans hc7 (fun y hy => .inr (by cases h4 with | none => simp at hy | some y4 => simp at hy; subst hy; exact HH4.out _ rfl)))
         obtain ⟨a7', c7', rfl⟩ := recL.os_len ho7
         have HO7 := hid ho7; have HH7 := hid (show ∀ y, h7 = some y → wd.heap.size ≤ y from fun y e => by rcases hh7 with rfl | rfl; exact HH4.out y e; cases e; exact HQ4.out.size)
         clear ho7 hh7 hc7
         refine hK.out _ _ (HSI.out _ (Know.of (HQ7.out.keep0 HBX.out))) (fun hS8 => ?_)
         clear hK K
         try simp only [Act.put, pA, pB, pC]
         refine q0c 11 rfl (by kernel_rfl) (fun K hK => ?_)
         obtain ⟨nw2, hnw2, hal2⟩ := q1r (HROW.out.ext HQ7.out) (i := ac) (n := len - ac) (by have := HPL.out; omega)
         have HNW2 := hid hnw2; have HAL3 := hid hal2; clear hnw2 hal2
         refine recL.step_append rfl _ _ 44 rfl Tryz.underlying44 KR rfl HO7.out ⟨g, ac * 9, none⟩ (len - ac) (cap - ac) nw2 (ys := ((ps.drop ac).take (len - ac)).map (·.1)) (f := ((ps.drop ac).take (len - ac)).flatMap (·.2)) rfl (by rw [List.length_map, List.length_take, List.length_drop]; have := HPL.out; omega) (fun j u h => by rw [Addr.add_lit]; have := HNW2.out j u h; simpa using this) HAL3.out (fun g2 e hm => by have h1 := HFP.out _ (q1n hm); have h2 := HCW.out.size; have h3 := HH7.out g2 e; omega) (by rw [List.length_map, List.length_take, List.length_drop]; have := HL7.out; have := HPL.out; simp only [maxLen]; omega) (by rw [List.length_map, List.length_take, List.length_drop]; have := HL7.out; have := HPL.out; omega) ?_
         intro v11 w11 h11 ho11 hh11 hc11
         have HQ11 := hid (HQ7.out.trans hc11 (fun y hy => .inr (by cases h7 with | none => simp at hy | some y4 => simp at hy; subst hy; exact HH7.out _ rfl)))
         have HH11 := hid (show ∀ y, h11 = some y → wd.heap.size ≤ y from fun y e => by rcases hh11 with rfl | rfl; exact HH7.out y e; cases e; exact HQ7.out.size)
         have HO11 := hid ho11; clear ho11 hh11 hc11
         have HSH11 := hid (q6e HO11.out HH11.out (Nat.le_trans HN0.out HCW.out.size) (ps := ps) (fq := fq) HFP.out HFQ.out (by rw [HY7.out]; simp))
         refine hK.out _ _ (HSI.out _ (Know.of (HQ11.out.keep0 HBX.out))) (fun hS9 => ?_)
         clear hK K
         try simp only [Act.put, pA, pB, pC]
         refine rgT 12 hS9 ?_
         refine wpAnyH_done (by kernel_rfl) ?_ _
         go_wp2_with fail
         have HF := hid (And.intro HSH11.out (HCW.out.trans0 HQ11.out))
         go_roundw
         case rel => exact ⟨j + 1, _, _, rfl, by omega, rfl, HSS2, by have := HF.out.1; rw [HY7.out, HY4.out, HNEW.out] at this; exact this.row, HF.out.2⟩
         case measure => simp [intOf]; omega
       ·have HR6 := hid (show (wd.alloc (.cells #[.int .i64 r.kind, .int .i64 r.seq, .string r.name, .int .i64 r.length, .int .i64 r.group, .int .i64 r.row, .slice a6 l6 c6, .slice a7 l7 c7, .slice a8 l8 c8] 67)).heap[wd.heap.size]? = some (.cells #[.int .i64 r.kind, .int .i64 r.seq, .string r.name, .int .i64 r.length, .int .i64 r.group, .int .i64 r.row, .slice a6 l6 c6, .slice a7 l7 c7, .slice a8 l8 c8] 67 (0, 0)) from q0d (by simp) _)
        go_simp
        refine hK.out _ _ (HSI.out _ (Know.of (((Chg.refl [] wd).alloc (.cells #[.int .i64 r.kind, .int .i64 r.seq, .string r.name, .int .i64 r.length, .int .i64 r.group, .int .i64 r.row, .slice a6 l6 c6, .slice a7 l7 c7, .slice a8 l8 c8] 67)).keep0 HBX.out))) (fun hS10 => ?_)
        clear hK K
        try simp only [Act.put, pA, pB, pC]
        refine q0c 0 rfl (by kernel_rfl) (fun K hK => ?_)
        have HM := hid (q6o (wd.alloc (.cells #[.int .i64 r.kind, .int .i64 r.seq, .string r.name, .int .i64 r.length, .int .i64 r.group, .int .i64 r.row, .slice a6 l6 c6, .slice a7 l7 c7, .slice a8 l8 c8] 67)) (wd.heap.size + 1) (by simp))
        go_simp
        refine hK.out _ _ (HSI.out _ (Know.of ((((Chg.refl [] wd).alloc (.cells #[.int .i64 r.kind, .int .i64 r.seq, .string r.name, .int .i64 r.length, .int .i64 r.group, .int .i64 r.row, .slice a6 l6 c6, .slice a7 l7 c7, .slice a8 l8 c8] 67)).alloc (.cells #[] 67)).keep0 HBX.out))) (fun hS11 => ?_)
        clear hK K
        try simp only [Act.put, pA, pB, pC]
        refine q0c 4 rfl (by kernel_rfl) (fun K hK => ?_)
        obtain ⟨nw, hnw, hal⟩ := q1r (HROW.out.ext (((Chg.refl [] wd).alloc (.cells #[.int .i64 r.kind, .int .i64 r.seq, .string r.name, .int .i64 r.length, .int .i64 r.group, .int .i64 r.row, .slice a6 l6 c6, .slice a7 l7 c7, .slice a8 l8 c8] 67)).alloc (.cells #[] 67))) (i := 0) (n := ac) (by have := HPL.out; omega)
        have HNW := hid hnw; have HAL2 := hid hal; clear hnw hal
        refine recL.step_append rfl _ _ 44 rfl Tryz.underlying44 KR rfl HM.out ⟨g, 0, none⟩ ac cap nw (ys := ((ps.drop 0).take ac).map (·.1)) (f := ((ps.drop 0).take ac).flatMap (·.2)) rfl (by rw [List.length_map, List.length_take, List.drop_zero]; have := HPL.out; omega) (fun j u h => by rw [Addr.add_lit]; have := HNW.out j u h; simpa using this) HAL2.out (fun g2 e hm => by cases e; have h1 := HFP.out _ (q1n hm); have h2 := HCW.out.size; omega) (by rw [List.length_map, List.length_take, List.drop_zero]; simp only [List.length_nil, maxLen]; omega) (by rw [List.length_map, List.length_take, List.drop_zero]; simp only [List.length_nil]; omega) ?_
        intro v4 w4 h4 ho4 hh4 hc4
        obtain ⟨y4, hy4⟩ : ∃ y4, y4 = [] ++ ((ps.drop 0).take ac).map (·.1) := ⟨_, rfl⟩
        rw [← hy4] at ho4
        have HL4 := hid (show y4.length ≤ 1000000 by rw [hy4, List.nil_append, List.length_map, List.length_take, List.drop_zero]; omega); have HY4 := hid hy4
        clear hy4
        have HQ4 := hid ((((Chg.refl [] wd).alloc (.cells #[.int .i64 r.kind, .int .i64 r.seq, .string r.name, .int .i64 r.length, .int .i64 r.group, .int .i64 r.row, .slice a6 l6 c6, .slice a7 l7 c7, .slice a8 l8 c8] 67)).alloc (.cells #[] 67)).trans hc4 (fun y hy => .inr (by simp at hy; omega)))
        obtain ⟨a4, c4, rfl⟩ := recL.os_len ho4
        have HO4 := hid ho4; have HH4 := hid (show ∀ y, h4 = some y → wd.heap.size ≤ y from fun y e => by rcases hh4 with rfl | rfl <;> cases e <;> simp <;> omega)
        have HR64 := hid (hc4.keepb (q0b HR6.out (.cells #[] 67)) (by simp <;> omega))
        clear ho4 hh4 hc4
        refine hK.out _ _ (HSI.out _ (Know.of (HQ4.out.keep0 HBX.out))) (fun hS12 => ?_)
        clear hK K
        try simp only [Act.put, pA, pB, pC]
        refine q0c 7 rfl (by kernel_rfl) (fun K hK => ?_)
        refine recL.step_append rfl _ _ 44 rfl Tryz.underlying44 KR rfl HO4.out ⟨wd.heap.size, 0, none⟩ 1 1 [.int .i64 r.kind, .int .i64 r.seq, .string r.name, .int .i64 r.length, .int .i64 r.group, .int .i64 r.row, .slice a6 l6 c6, .slice a7 l7 c7, .slice a8 l8 c8] (ys := [r]) (f := fq) rfl rfl (q2g HR64.out) (recL.all_single (recL.ext HXS.out HQ4.out)) (fun g2 e hm => by have h1 := HFQ.out g2 hm; have h2 := HCW.out.size; have h3 := HH4.out g2 e; omega) (by have := HL4.out; simp only [List.length_singleton, maxLen]; omega) (by have := HL4.out; simp only [List.length_singleton]; omega) ?_
        intro v7 w7 h7 ho7 hh7 hc7
        obtain ⟨y7, hy7⟩ : ∃ y7, y7 = y4 ++ [r] := ⟨_, rfl⟩
        rw [← hy7] at ho7
        have HL7 := hid (show y7.length ≤ 1000001 by rw [hy7, List.length_append, List.length_singleton]; have := HL4.out; omega); have HY7 := hid hy7
        clear hy7
        have HQ7 := hid (HQ4.out.trans hc7 (fun y hy => .inr (by cases h4 with | none => simp at hy | some y4 => simp at hy; subst hy; exact HH4.out _ rfl)))
        obtain ⟨a7', c7', rfl⟩ := recL.os_len ho7
        have HO7 := hid ho7; have HH7 := hid (show ∀ y, h7 = some y → wd.heap.size ≤ y from fun y e => by rcases hh7 with rfl | rfl; exact HH4.out y e; cases e; exact HQ4.out.size)
        clear ho7 hh7 hc7
        refine hK.out _ _ (HSI.out _ (Know.of (HQ7.out.keep0 HBX.out))) (fun hS13 => ?_)
        clear hK K
        try simp only [Act.put, pA, pB, pC]
        refine q0c 11 rfl (by kernel_rfl) (fun K hK => ?_)
        obtain ⟨nw2, hnw2, hal2⟩ := q1r (HROW.out.ext HQ7.out) (i := ac) (n := len - ac) (by have := HPL.out; omega)
        have HNW2 := hid hnw2; have HAL3 := hid hal2; clear hnw2 hal2
        refine recL.step_append rfl _ _ 44 rfl Tryz.underlying44 KR rfl HO7.out ⟨g, ac * 9, none⟩ (len - ac) (cap - ac) nw2 (ys := ((ps.drop ac).take (len - ac)).map (·.1)) (f := ((ps.drop ac).take (len - ac)).flatMap (·.2)) rfl (by rw [List.length_map, List.length_take, List.length_drop]; have := HPL.out; omega) (fun j u h => by rw [Addr.add_lit]; have := HNW2.out j u h; simpa using this) HAL3.out (fun g2 e hm => by have h1 := HFP.out _ (q1n hm); have h2 := HCW.out.size; have h3 := HH7.out g2 e; omega) (by rw [List.length_map, List.length_take, List.length_drop]; have := HL7.out; have := HPL.out; simp only [maxLen]; omega) (by rw [List.length_map, List.length_take, List.length_drop]; have := HL7.out; have := HPL.out; omega) ?_
        intro v11 w11 h11 ho11 hh11 hc11
        have HQ11 := hid (HQ7.out.trans hc11 (fun y hy => .inr (by cases h7 with | none => simp at hy | some y4 => simp at hy; subst hy; exact HH7.out _ rfl)))
        have HH11 := hid (show ∀ y, h11 = some y → wd.heap.size ≤ y from fun y e => by rcases hh11 with rfl | rfl; exact HH7.out y e; cases e; exact HQ7.out.size)
        have HO11 := hid ho11; clear ho11 hh11 hc11
        have HSH11 := hid (q6e HO11.out HH11.out (Nat.le_trans HN0.out HCW.out.size) (ps := ps) (fq := fq) HFP.out HFQ.out (by rw [HY7.out]; simp))
        refine hK.out _ _ (HSI.out _ (Know.of (HQ11.out.keep0 HBX.out))) (fun hS14 => ?_)
        clear hK K
        try simp only [Act.put, pA, pB, pC]
        refine rgT 12 hS14 ?_
        refine wpAnyH_done (by kernel_rfl) ?_ _
        go_wp2_with fail
        have HF := hid (And.intro HSH11.out (HCW.out.trans0 HQ11.out))
        go_roundw
        case rel => exact ⟨j + 1, _, _, rfl, by omega, rfl, HSS2, by have := HF.out.1; rw [HY7.out, HY4.out, HNEW.out] at this; exact this.row, HF.out.2⟩
        case measure => simp [intOf]; omega
     ·have bnj : (nv != (j : Int)) = true := by simpa using hnj
      have HDS := hid (show livF rs (j + 1) = livF rs j from z0d HR0.out (q0h (P := r.kind = 1 ∧ 0 ≤ r.length ∧ nwI rs r.name rs.length = j) (fun h => hnj (hnv.trans h.2.2))))
      have HSR := hid (show Rwd n0 w3 (.slice (some ⟨g, 0, none⟩) len cap) xs from hshr HROWQ.out HPM.out HLX.out HGN.out HCP.out HFP.out HQ3.out)
      clear hk1 hln hnj hnv
      go_wp2_with fail
      refine HNW.out.mono ?_
      rintro e w' ⟨rfl, rfl⟩
      go_wp2_with fail
      go_roundw
      case rel => exact ⟨j + 1, xs, _, rfl, by omega, rfl, by rw [HDS.out]; exact HSS, HSR.out, HC3.out⟩
      case measure => simp [intOf]; omega
    ·have bln : decide (r.length < 0) = true := by simp; omega
     have HDS := hid (show livF rs (j + 1) = livF rs j from z0d HR0.out (q0h (P := r.kind = 1 ∧ 0 ≤ r.length ∧ nwI rs r.name rs.length = j) (fun h => hln h.2.1)))
     have HSR := hid (show Rwd n0 w3 (.slice (some ⟨g, 0, none⟩) len cap) xs from hshr HROWQ.out HPM.out HLX.out HGN.out HCP.out HFP.out HQ3.out)
     clear hk1 hln hnv
     go_wp2_with fail
     go_roundw
     case rel => exact ⟨j + 1, xs, _, rfl, by omega, rfl, by rw [HDS.out]; exact HSS, HSR.out, HC3.out⟩
     case measure => simp [intOf]; omega
   ·have bk1 : (r.kind != 1) = true := by simpa using hk1
    have HDS := hid (show livF rs (j + 1) = livF rs j from z0d HR0.out (q0h (P := r.kind = 1 ∧ 0 ≤ r.length ∧ nwI rs r.name rs.length = j) (fun h => hk1 h.1)))
    have HSR := hid (show Rwd n0 w3 (.slice (some ⟨g, 0, none⟩) len cap) xs from hshr HROWQ.out HPM.out HLX.out HGN.out HCP.out HFP.out HQ3.out)
    clear hk1 hnv
    go_wp2_with fail
    go_roundw
    case rel => exact ⟨j + 1, xs, _, rfl, by omega, rfl, by rw [HDS.out]; exact HSS, HSR.out, HC3.out⟩
    case measure => simp [intOf]; omega
  ·obtain rfl : j = l1 := by omega
   have e9 : livF rs j = livF rs rs.length := by rw [HL1.out]
   rw [e9] at HSS
   have hu := liv_uniq HSS.out.1 HSS.out.2
   have HR := hid (SlR.of rfl hsh hc)
   clear hsh hc e9
   go_wp2_with fail
   go_ret
   have h9 := HR.out
   rw [hu] at h9
   exact h9
theorem recV_live {s : Shp} {r : Rec} (hd : 1 ≤ s.data ∧ s.data ≤ 3) (h : recV s r = 0) (hk : r.kind = 1) (hl : r.length ≠ -1) : 0 ≤ r.length := by
 by_cases h2 : 1 ≤ r.seq ∧ r.seq ≤ 1000000000
 ·rw [q9x hk h2] at h
  have h3 : q5d s r = 0 := Classical.byContradiction fun hn => by rw [if_neg hn] at h; exact hn h
  unfold q5d at h3
  split at h3
  ·split at h3
   ·rename_i hp
    have := z0u hp
    unfold q1i at this
    rw [if_neg hl] at this
    have := (parts0 hd this.1).1
    omega
   ·cases h3
  ·rename_i hn; exact absurd h3 hn
 ·rw [q9f (by omega) h2] at h; cases h
theorem fault_live {x : Wld} (hf : x.fault = 0) : ∀ r ∈ cntL x.tapes, r.kind = 1 → r.length ≠ -1 → 0 ≤ r.length := fun r hr hk hl => by
 obtain ⟨t, ht, h⟩ := cntL_mem hr
 have hok := q8d hf
 exact recV_live (by unfold Shp.ok at hok; omega) (z1i hf t ht r h) hk hl
def homI (s : Shp) (r : Rec) : Int := upTo r.name r.name.size % s.groups
def homP (s : Shp) (g : Int) (r : Rec) : Bool := homI s r == g
noncomputable def rowP (g : Int) (r : Rec) : Bool := pb (r.kind = 2 ∧ r.group = g ∨ r.kind = 4)
def us1 (s : Shp) (g : Int) (zs : List Rec) : List Int := (zs.filter (homP s g)).flatMap (·.rows)
noncomputable def us2 (g : Int) (xs : List Rec) : List Int := (xs.filter (rowP g)).map (·.row)
noncomputable def usdL (s : Shp) (g : Int) (xs : List Rec) : List Int := us1 s g (livL xs) ++ us2 g xs
def tkn (n : Nat) (us : List Int) : List Bool := (List.range n).map (fun k => us.contains ((k : Nat) : Int))
def freK (us : List Int) : Nat → List Int
 | 0 => []
 | k + 1 => freK us k ++ (if us.contains ((k : Nat) : Int) = true then [] else [(k : Int)])
noncomputable def freL (s : Shp) (g : Int) (xs : List Rec) : List Int := freK (usdL s g xs) s.rows.toNat
theorem z2l {us : List Int} {k : Nat} (h : us.contains (k : Int) = false) : freK us (k + 1) = freK us k ++ [(k : Int)] := by
 show freK us k ++ _ = _
 rw [if_neg (by rw [h]; simp)]
theorem freK_no {us : List Int} {k : Nat} (h : us.contains (k : Int) = true) : freK us (k + 1) = freK us k := by
 show freK us k ++ _ = _
 rw [if_pos h, List.append_nil]
theorem q9l (us : List Int) : ∀ k, (freK us k).length ≤ k
 | 0 => Nat.le_refl _
 | k + 1 => by
  have := q9l us k
  cases h : us.contains (k : Int)
  ·rw [z2l h, List.length_append, List.length_singleton]; omega
  ·rw [freK_no h]; omega
theorem z1n (n : Nat) (us : List Int) : (tkn n us).length = n := by unfold tkn; simp
theorem tkn_at {n k : Nat} (us : List Int) (h : k < n) : (tkn n us)[k]? = some (us.contains (k : Int)) := by
 unfold tkn
 rw [List.getElem?_map, List.getElem?_range h]; rfl
theorem tkn_nil (n : Nat) : tkn n [] = List.replicate n false := by
 apply List.ext_getElem?
 intro i
 by_cases h : i < n
 ·rw [tkn_at [] h, List.getElem?_replicate, if_pos h]; rfl
 ·rw [List.getElem?_eq_none (by rw [z1n]; omega), List.getElem?_eq_none (by simp; omega)]
theorem tkn_set {n k : Nat} {us : List Int} {v : Int} (hv : v = (k : Int)) (h : k < n) : (tkn n us).set k true = tkn n (us ++ [v]) := by
 apply List.ext_getElem?
 intro i
 by_cases hi : i < n
 ·rw [tkn_at _ hi, List.getElem?_set, List.contains_append]
  by_cases e : k = i
  ·subst e
   rw [if_pos rfl, if_pos (by rw [z1n]; exact h), hv]
   simp
  ·rw [if_neg e, tkn_at us hi]
   have : ([v].contains ((i : Nat) : Int)) = false := by
    rw [hv]; simp; omega
   rw [this, Bool.or_false]
 ·rw [List.getElem?_eq_none (by rw [List.length_set, z1n]; omega), List.getElem?_eq_none (by rw [z1n]; omega)]
theorem us1_yes {s : Shp} {g : Int} {zs : List Rec} {k : Nat} {r : Rec} (h : zs[k]? = some r) (hp : homP s g r = true) : us1 s g (zs.take (k + 1)) = us1 s g (zs.take k) ++ r.rows := by
 unfold us1
 rw [filt_yes h hp, List.flatMap_append]; simp
theorem us1_no {s : Shp} {g : Int} {zs : List Rec} {k : Nat} {r : Rec} (h : zs[k]? = some r) (hp : homP s g r = false) : us1 s g (zs.take (k + 1)) = us1 s g (zs.take k) := by
 unfold us1
 rw [filt_no h hp]
theorem z1k {g : Int} {xs : List Rec} {k : Nat} {r : Rec} (h : xs[k]? = some r) (hp : rowP g r = true) : us2 g (xs.take (k + 1)) = us2 g (xs.take k) ++ [r.row] := by
 unfold us2
 rw [filt_yes h hp, List.map_append]; rfl
theorem us2_no {g : Int} {xs : List Rec} {k : Nat} {r : Rec} (h : xs[k]? = some r) (hp : rowP g r = false) : us2 g (xs.take (k + 1)) = us2 g (xs.take k) := by
 unfold us2
 rw [filt_no h hp]
def z0p (s : Shp) (xs : List Rec) : Prop := (1 ≤ s.groups ∧ s.groups ≤ 4) ∧ (1 ≤ s.rows ∧ s.rows ≤ 6) ∧ ∀ r ∈ xs, (r.kind = 1 → r.name.size ≤ 8 ∧ r.rows.length ≤ 400 ∧ ∀ v ∈ r.rows, 0 ≤ v ∧ v ≤ s.rows - 1) ∧ (r.kind = 2 ∨ r.kind = 4 → 0 ≤ r.row ∧ r.row ≤ s.rows - 1)
theorem liv_mem {xs : List Rec} {r : Rec} (h : r ∈ livL xs) : r ∈ xs ∧ r.kind = 1 := by
 have h2 : r ∈ livF xs xs.length := (Stab.mem q2o (q8a q2o _).2).1 h
 obtain ⟨⟨i, -, h3, h4, -⟩, -⟩ := livF_news.1 h2
 exact ⟨List.mem_of_getElem? h3, h4⟩
theorem filt_two (p : Int → Bool) : ∀ (l : List Int), l.length = (l.filter p).length + (l.filter (fun v => !p v)).length
 | [] => rfl
 | a :: l => by
  have ih := filt_two p l
  rw [List.filter_cons, List.filter_cons]
  cases h : p a <;> simp [ih] <;> omega
theorem apart_le {m : Int} : ∀ {n : Nat} {xs : List Int}, (∀ v ∈ xs, 0 ≤ v ∧ v < (n : Int)) → xs.Nodup → xs.length ≤ n
 | 0, [], _, _ => Nat.le_refl _
 | 0, x :: xs, h, _ => by have := h x (by simp); omega
 | n + 1, xs, h, hn => by
  have h1 : (xs.filter (fun v => v != (n : Int))).length ≤ n := apart_le (m := m) (fun v hv => by
   obtain ⟨k1, k2⟩ := List.mem_filter.1 hv
   have := h v k1
   have : v ≠ (n : Int) := by simpa using k2
   omega) (hn.filter _)
  have h2 : xs.length ≤ (xs.filter (fun v => v != (n : Int))).length + 1 := by
   have e := filt_two (fun v => v != (n : Int)) xs
   have h3 : (xs.filter (fun v => !(v != (n : Int)))).length ≤ 1 := by
    have h4 : (xs.filter (fun v => !(v != (n : Int)))).Nodup := hn.filter _
    match hf : xs.filter (fun v => !(v != (n : Int))) with
    | [] => simp
    | [_] => simp
    | a :: b :: t =>
     rw [hf] at h4
     have ha := (List.mem_filter.1 (hf ▸ (by simp : a ∈ a :: b :: t))).2
     have hb := (List.mem_filter.1 (hf ▸ (by simp : b ∈ a :: b :: t))).2
     have ha : a = (n : Int) := by simpa using ha
     have hb : b = (n : Int) := by simpa using hb
     rw [ha, hb] at h4
     simp at h4
   omega
  omega
theorem apart_nodup {m : Int} {xs : List Int} (h : q4o m xs) : xs.Nodup := by
 unfold List.Nodup
 rw [List.pairwise_iff_getElem]
 intro i j hi hj hij e
 exact (h j xs[j] (List.getElem?_eq_getElem hj)).2 (by rw [← e]; exact List.mem_take_iff_getElem.2 ⟨i, by omega, rfl⟩)
theorem q8n {x : Wld} (hf : x.fault = 0) : z0p x.shape (cntL x.tapes) := by
 have hok := q8d hf
 unfold Shp.ok at hok
 refine ⟨hok.1, hok.2.2.2.2.1, fun r hr => ?_⟩
 obtain ⟨t, ht, h⟩ := cntL_mem hr
 have hv := z1i hf t ht r h
 have hq : 1 ≤ r.seq ∧ r.seq ≤ 1000000000 := Classical.byContradiction fun hn => by rw [q9f (recV_kind0 hv) hn] at hv; cases hv
 constructor
 ·intro hk
  rw [q9x hk hq] at hv
  have h3 : q5d x.shape r = 0 := Classical.byContradiction fun hn => by rw [if_neg hn] at hv; exact hn hv
  unfold q5d at h3
  split at h3
  ·rename_i hnm
   split at h3
   ·rename_i hp
    have hi := z0u hp
    refine ⟨(nameOk_of hnm).1.2, ?_⟩
    unfold q1i at hi
    split at hi
    ·rw [hi.2]; exact ⟨by simp, by simp⟩
    ·have hi := hi.2
     split at hi
     ·have ha := hi.2
      have hb : ∀ v ∈ r.rows, 0 ≤ v ∧ v ≤ x.shape.rows - 1 := fun v hv => by
       obtain ⟨i, hi, rfl⟩ := List.getElem_of_mem hv
       exact (ha i _ (List.getElem?_eq_getElem hi)).1
      exact ⟨Nat.le_trans (apart_le (m := 0) (n := 6) (fun v hv => by have := hb v hv; have := hok.2.2.2.2.1; omega) (apart_nodup ha)) (by omega), hb⟩
     ·rw [hi.2]; exact ⟨by simp, by simp⟩
   ·cases h3
  ·rename_i hn; exact absurd h3 hn
 ·intro hk
  rcases hk with hk | hk
  ·rw [q6l hk hq] at hv
   split at hv
   ·rename_i hp; exact (z0u hp).2.1
   ·cases hv
  ·rw [q7u hk hq] at hv
   split at hv
   ·rename_i hp; exact (z0u hp).2.1
   ·cases hv
def NoB (w : World) (bb : Nat) : Prop := ∃ cur E fr, w.heap[bb]? = some (.cells cur E fr) ∧ ∀ v ∈ cur.toList, ∃ b, v = .bool b
theorem q1u.noB {w : World} {bb : Nat} {bs : List Bool} (h : q1u w bb bs) : NoB w bb := ⟨_, _, _, h, fun v hv => by
 rw [List.toList_toArray] at hv
 obtain ⟨q, -, e⟩ := List.mem_map.1 hv
 exact ⟨q, e.symm⟩⟩
theorem NoB.empty {w : World} {bb : Nat} {E : TypeId} {fr : Nat × Nat} (h : w.heap[bb]? = some (.cells #[] E fr)) : NoB w bb := ⟨_, _, _, h, by simp⟩
def Lay.noB {α : Type} (L : Lay α) : Prop := ∀ {w : World} {cs : List Value} {x : α} {fp : List Nat}, L.rep w cs x fp → (∀ v ∈ cs, ∀ b, v ≠ .bool b) ∧ ∀ bb, NoB w bb → ∃ fp', L.rep w cs x fp' ∧ bb ∉ fp' ∧ ∀ y ∈ fp', y ∈ fp
theorem noB_all {α : Type} {L : Lay α} (hL : L.noB) {w : World} {bb : Nat} (hb : NoB w bb) : ∀ {xs : List α} {cs : List Value} {fp : List Nat}, L.all w cs xs fp → ∃ fp', L.all w cs xs fp' ∧ bb ∉ fp' ∧ ∀ y ∈ fp', y ∈ fp := by
 intro xs
 induction xs with
 | nil => intro cs fp h; obtain ⟨rfl, rfl⟩ := h; exact ⟨[], ⟨rfl, rfl⟩, by simp, by simp⟩
 | cons x xs ih =>
  intro cs fp h
  obtain ⟨c1, c2, f1, f2, rfl, rfl, h1, h2⟩ := h
  obtain ⟨g1, k1, k2, k3⟩ := (hL h1).2 bb hb
  obtain ⟨g2, m1, m2, m3⟩ := ih h2
  refine ⟨g1 ++ g2, ⟨c1, c2, g1, g2, rfl, rfl, k1, m1⟩, fun hm => (List.mem_append.1 hm).elim k2 m2, fun y hy => ?_⟩
  rcases List.mem_append.1 hy with hy | hy
  ·exact List.mem_append.2 (.inl (k3 y hy))
  ·exact List.mem_append.2 (.inr (m3 y hy))
theorem noB_sl {α : Type} {L : Lay α} (hL : L.noB) {w : World} {bb : Nat} (hb : NoB w bb) {a : Option Addr} {l c : Nat} {xs : List α} {f : List Nat} (h : L.sl w a l c xs f) : ∃ f', L.sl w a l c xs f' ∧ bb ∉ f' ∧ ∀ y ∈ f', y ∈ f := by
 obtain ⟨h1, h2, h3, h4, h5⟩ := h
 rcases h5 with ⟨e1, e2⟩ | ⟨b, off, cur, E, fr, fps, rfl, hg, hall, rfl⟩
 ·exact ⟨[], ⟨h1, h2, h3, h4, .inl ⟨e1, rfl⟩⟩, by simp, by simp⟩
 ·cases xs with
  | nil => exact ⟨[], ⟨h1, h2, h3, h4, .inl ⟨rfl, rfl⟩⟩, by simp, by simp⟩
  | cons x xs =>
   have hne : bb ≠ b := fun e => by
    subst e
    obtain ⟨cur2, E2, fr2, hb1, hb2⟩ := hb
    rw [hb1] at hg
    have hall2 := hall
    obtain ⟨c1, c2, f1, f2, e1, -, k1, -⟩ := hall2
    have hpos := L.pos
    have hl := L.len k1
    clear hall
    match c1 with
    | [] => rw [List.length_nil] at hl; omega
    | v :: vs =>
     have hv := (hL k1).1 v (by simp)
     have hm : v ∈ (cur.toList.drop off).take (l * L.n) := by rw [e1]; simp
     have hm2 := List.mem_of_mem_drop (List.mem_of_mem_take hm)
     cases hg
     obtain ⟨q, e⟩ := hb2 v hm2
     exact hv q e
   obtain ⟨fps', m1, m2, m3⟩ := noB_all hL hb hall
   exact ⟨b :: fps', ⟨h1, h2, h3, h4, .inr ⟨b, off, cur, E, fr, fps', rfl, hg, m1, rfl⟩⟩, fun hm => (List.mem_cons.1 hm).elim hne m2, fun y hy => (List.mem_cons.1 hy).elim (fun e => by rw [e]; simp) (fun hy => List.mem_cons_of_mem _ (m3 y hy))⟩
theorem noB_int : intL.noB := fun h => by
 obtain ⟨rfl, h1, rfl⟩ := h
 exact ⟨(by intro v hv b e; simp at hv; rw [hv] at e; cases e), fun _ _ => ⟨[], ⟨rfl, h1, rfl⟩, by simp, by simp⟩⟩
theorem noB_byte : q0q.noB := fun h => by
 obtain ⟨rfl, rfl⟩ := h
 exact ⟨(by intro v hv b e; simp at hv; rw [hv] at e; cases e), fun _ _ => ⟨[], ⟨rfl, rfl⟩, by simp, by simp⟩⟩
theorem noB_rec : recL.noB := fun h => by
 obtain ⟨a6, l6, c6, f6, a7, l7, c7, f7, a8, l8, c8, f8, rfl, h0, h1, h2, h3, h4, h5, h6, h7, h8, rfl⟩ := q0m.1 h
 refine ⟨?_, fun bb hb => ?_⟩
 ·intro v hv b e
  simp only [List.mem_cons, List.not_mem_nil, or_false] at hv
  rcases hv with rfl | rfl | rfl | rfl | rfl | rfl | rfl | rfl | rfl <;> cases e
 ·obtain ⟨g6, p6, q6, r6⟩ := noB_sl noB_int hb h6
  obtain ⟨g7, p7, q7, r7⟩ := noB_sl noB_byte hb h7
  obtain ⟨g8, p8, q8, r8⟩ := noB_sl noB_byte hb h8
  refine ⟨_, q0m.2 ⟨a6, l6, c6, g6, a7, l7, c7, g7, a8, l8, c8, g8, rfl, h0, h1, h2, h3, h4, h5, p6, p7, p8, rfl⟩, ?_, ?_⟩
  ·intro hm
   rcases List.mem_append.1 hm with hm | hm
   ·exact q6 hm
   ·rcases List.mem_append.1 hm with hm | hm
    ·exact q7 hm
    ·exact q8 hm
  ·intro y hy
   rcases List.mem_append.1 hy with hy | hy
   ·exact List.mem_append.2 (.inl (r6 y hy))
   ·rcases List.mem_append.1 hy with hy | hy
    ·exact List.mem_append.2 (.inr (List.mem_append.2 (.inl (r7 y hy))))
    ·exact List.mem_append.2 (.inr (List.mem_append.2 (.inr (r8 y hy))))
theorem q8t {w : World} {bb : Nat} (hb : NoB w bb) {a : Option Addr} {l c : Nat} {xs : List Rec} {f : List Nat} (h : recL.sl w a l c xs f) : ∃ f', recL.sl w a l c xs f' ∧ bb ∉ f' := by
 obtain ⟨f', h1, h2, -⟩ := noB_sl noB_rec hb h
 exact ⟨f', h1, h2⟩
theorem q9u {w : World} {bb : Nat} {bs : List Bool} (hb : q1u w bb bs) {a : Option Addr} {l c : Nat} {xs : List Rec} {f : List Nat} (h : recL.sl w a l c xs f) : ∃ f', recL.sl w a l c xs f' ∧ bb ∉ f' := q8t hb.noB h
theorem livL_len (xs : List Rec) : (livL xs).length ≤ xs.length := by
 have h := (q8a q2o (livF xs xs.length)).2.1
 exact Nat.le_trans (Nat.le_of_eq h) (z2h xs xs.length)
theorem us1_len {s : Shp} {g : Int} : ∀ {zs : List Rec}, (∀ r ∈ zs, r.rows.length ≤ 400) → (us1 s g zs).length ≤ 400 * zs.length
 | [], _ => by simp [us1]
 | z :: zs, h => by
  have ih := us1_len (s := s) (g := g) (zs := zs) (fun r hr => h r (List.mem_cons_of_mem _ hr))
  have h1 := h z (by simp)
  unfold us1 at ih ⊢
  rw [List.filter_cons, List.length_cons]
  split
  ·rw [List.flatMap_cons, List.length_append]; omega
  ·omega
theorem us2_len (g : Int) (xs : List Rec) : (us2 g xs).length ≤ xs.length := by
 unfold us2
 rw [List.length_map]; exact List.length_filter_le _ _
theorem pb_mem (us : List Int) (v : Int) : pb (v ∈ us) = us.contains v := by
 by_cases h : v ∈ us
 ·rw [q0i h]; simp [h]
 ·rw [q0h h]; simp [h]
end Go.Proofs.YtphmpimgbmedbaaGreat
