/- Several texts in one. -/
import Derived.Test.YtphmpimgbmedbaaGreatYau
import Derived.Test.YtphmpimgbmedbaaGreatYav
import Derived.Deep.CutBlock
namespace Go.Proofs.YtphmpimgbmedbaaGreat
open Go.RowKit
open Go.Lib (hid)
set_option maxRecDepth 100000 in
set_option maxHeartbeats 8000000 in
theorem l6Live_any (a : Option Addr) (l1 c1 : Nat) (rs : List Rec) (f : List Nat) (w : World) (hs : recL.sl w a l1 c1 rs f) (hz : rs.length ≤ 400) :
  Calls Tryz.prog 127 #[.slice a l1 c1] w (SlR (livL rs) w) := by
 obtain ⟨KR, _⟩ := kindRec
 obtain ⟨n0, hn0e⟩ : ∃ n0, n0 = w.heap.size := ⟨_, rfl⟩
 have hn0 : n0 ≤ w.heap.size := by omega
 have HN0 := hid hn0
 have HF0 := hid (show ∀ y ∈ f, y < n0 from fun y hy => by rw [hn0e]; exact recL.sl_lt hs y hy)
 have HRS := hid hs; have HL1 := hid hs.1
 have hl4 : l1 ≤ 400 := by have := hs.1; omega
 clear hs hz hn0e
 go_enter Tryz.func127, Tryz.ntmps127
 go_wp2_with fail
 go_loopw [3, 4] (fun vo vj wq => ∃ (j : Nat) (out : List Rec) (Wq : World), Wq = wq ∧ j ≤ l1 ∧ vj = .int .i64 j ∧ Hid (Srt namLt out ∧ Stab namLt (livF rs j) out) ∧ Rwd n0 wq vo out ∧ Chg [] w wq) (fun _ vj _ => l1 - (intOf vj).toNat)
 case atStart => exact ⟨0, [], _, rfl, by omega, rfl, hid ⟨List.Pairwise.nil, Stab.refl _⟩, (Shr.made HN0.out).row, (Chg.refl [] w).alloc _⟩
 case round =>
  obtain ⟨j, xs, wq, rfl, hj, rfl, HSS, hsh, hc⟩ := hrel
  by_cases hlt2 : j < l1
  ·obtain ⟨r, b2, off2, a6, l6, c6, a7, l7, c7, a8, l8, c8, fq, HR, rfl, hq0, hq1, hq2, hq3, hq4, hq5, hq6, hq7, hq8, HXS⟩ := rec_at (recL.sl_ext HRS.out hc) hlt2
   obtain ⟨g, cap, ps, rfl, hrow, hpm, hg, hcap, hcm, hfp⟩ := hsh
   have hbd : xs.length ≤ 1000000 := by
    have h1 := livF_len rs j
    have h3 := HSS.out.2.1
    omega
   have HFP := hid (show ∀ y, (∃ p ∈ ps, y ∈ p.2) → y < n0 from fun y ⟨p, hp, hy⟩ => hfp p hp y hy)
   have HFQ := hid (fun y (hy : y ∈ fq) => HF0.out y (HR.out.2.2 y hy))
   have HPM := hid hpm; have HGN := hid hg; have HCP := hid (And.intro hcap hcm)
   obtain ⟨len, hlen⟩ : ∃ len, len = xs.length := ⟨_, rfl⟩
   have HLX := hid hlen
   have hpl : ps.length = len := by rw [hlen, ← hpm, List.length_map]
   have HPL := hid hpl
   rw [← hlen] at hbd ⊢
   have HROWQ := hid hrow; have HR0 := hid HR.out.1
   obtain ⟨B6, hb6⟩ : ∃ B6, B6 = wq.heap.size := ⟨_, rfl⟩
   obtain ⟨w3, hw3⟩ : ∃ w3, w3 = wq.alloc (.cells #[.int .i64 r.kind, .int .i64 r.seq, .string r.name, .int .i64 r.length, .int .i64 r.group, .int .i64 r.row, .slice a6 l6 c6, .slice a7 l7 c7, .slice a8 l8 c8] 67) := ⟨_, rfl⟩
   have HQ3 := hid (show Chg [] wq w3 by rw [hw3]; exact (Chg.refl [] wq).alloc _)
   have HB3 := hid (show w3.heap[B6]? = some (.cells #[.int .i64 r.kind, .int .i64 r.seq, .string r.name, .int .i64 r.length, .int .i64 r.group, .int .i64 r.row, .slice a6 l6 c6, .slice a7 l7 c7, .slice a8 l8 c8] 67 (0, 0)) by rw [hw3, hb6]; exact new_alloc wq _)
   have HC3 := hid (hc.trans0 HQ3.out)
   have HNW := hid (l6Newest_any (some ⟨b2, off2, none⟩) l1 c1 rs f r.name w3 (recL.sl_ext HRS.out HC3.out))
   obtain ⟨nv, hnv⟩ : ∃ nv, nv = nwI rs r.name rs.length := ⟨_, rfl⟩
   rw [← hnv] at HNW
   clear HR hrow hpm hg hcap hcm hfp hlen hpl hc
   go_upto_region 6 with fail
   rw [← hw3, ← hb6]
   have c3 := cellsOf HB3.out; have n3 := ltOf HB3.out
   clear hq0 hq1 hq2 hq3 hq4 hq5 hq6 hq7 hq8 hb6 hw3
   by_cases hk1 : r.kind = 1
   ·have bk1 : (r.kind != 1) = false := by simp [hk1]
    by_cases hln : 0 ≤ r.length
    ·have bln : decide (r.length < 0) = false := by simp; omega
     by_cases hnj : nv = (j : Int)
     ·have bnj : (nv != (j : Int)) = false := by simp [hnj]
      have HDS := hid (show livF rs (j + 1) = livF rs j ++ [r] from livF_yes HR0.out (pb_true (P := r.kind = 1 ∧ 0 ≤ r.length ∧ nwI rs r.name rs.length = j) ⟨hk1, hln, hnv.symm.trans hnj⟩))
      clear hk1 hln hnj hnv
      go_upto_region 7 with fail
      refine HNW.out.mono ?_
      rintro e w' ⟨rfl, rfl⟩
      go_upto_block 2 with fail
      go_cut [6] from 36 to 50 (fun s6 wz => ∃ ac : Nat, s6 = .int .i64 ac ∧ ac ≤ len ∧ Hid (Srt namLt (xs.take ac ++ (r :: xs.drop ac)) ∧ Stab namLt (livF rs (j + 1)) (xs.take ac ++ (r :: xs.drop ac))) ∧ Chg [] w3 wz)
      case first =>
       go_wp2_with fail
       go_loopw [6] (fun va wx => ∃ (ac : Nat) (Wx : World), Wx = wx ∧ ac ≤ len ∧ va = .int .i64 ac ∧ Hid (∀ x ∈ xs.drop ac, namLt r x = true) ∧ Chg [] w3 wx) (fun va _ => (intOf va).toNat)
       case atStart => exact ⟨len, _, rfl, Nat.le_refl _, rfl, hid (show ∀ x ∈ xs.drop len, namLt r x = true from fun x hx => by rw [HLX.out, List.drop_length] at hx; cases hx), Chg.refl _ _⟩
       case round =>
        obtain ⟨ac, wx, rfl, hac, rfl, HDR, hcx⟩ := hrel
        have HWX := hid hcx
        have HBX := hid (hcx.keep0 HB3.out)
        have HROWX := hid (HROWQ.out.ext (HQ3.out.trans0 hcx))
        clear hcx
        by_cases h0 : 0 < ac
        ·obtain ⟨z, hz0⟩ : ∃ z, z = ac - 1 := ⟨_, rfl⟩
         have hwz : IntKind.i64.wrap ((ac : Int) - 1) = (z : Int) := by rw [IntWalk.i64_in _ ⟨by omega, by omega⟩]; omega
         have hzl : z < len := by omega
         have hgt : (0 : Int) < (ac : Int) := by omega
         obtain ⟨p, hp⟩ : ∃ p, ps[z]? = some p := ⟨_, List.getElem?_eq_getElem (by have := HPL.out; omega)⟩
         obtain ⟨cy, ry, -, ky⟩ := rec_look HROWX.out hp
         obtain ⟨b6, m6, d6, g6, b7, m7, d7, g7, b8, m8, d8, g8, hcy, -⟩ := recL_iff.1 ry
         subst hcy
         have HPN := hid (show wx.drew.cell? ⟨g, z * 9 + 2, none⟩ = some (.string p.1.name) from by have h := ky.2.1 2 _ rfl; rw [Nat.zero_add] at h; exact h)
         have hxz : xs[z]? = some p.1 := by rw [← HPM.out, List.getElem?_map, hp]; rfl
         have HXZ := hid hxz; have HZ1 := hid hz0
         clear ry ky hp hxz hz0
         cases hl : namLt r p.1
         ·have hbl : Go.Op.bytesLess r.name.toList p.1.name.toList = false := hl
          have HLF := hid hl
          clear hl
          go_wp2_with fail
          obtain ⟨SS, HSI, HSO⟩ := rg_cond (fun w' => Know B6 #[.int .i64 r.kind, .int .i64 r.seq, .string r.name, .int .i64 r.length, .int .i64 r.group, .int .i64 r.row, .slice a6 l6 c6, .slice a7 l7 c7, .slice a8 l8 c8] w' ∧ w'.cell? ⟨g, z * 9 + 2, none⟩ = some (.string p.1.name))
          have hS0 := HSI.out _ ⟨(Know.of (keep_drew HBX.out)), HPN.out⟩
          refine rg_start SS (by kernel_rfl) hS0 ?_
          refine rgT 0 hS0 ?_
          refine rgT 1 hS0 ?_
          refine rgT 2 hS0 ?_
          refine rgT 3 hS0 ?_
          refine rgL 4 hS0 HSO ?_
          refine rgT 5 hS0 ?_
          refine rgT 6 hS0 ?_
          refine rgT 7 hS0 ?_
          refine rgT 8 hS0 ?_
          refine rgT 9 hS0 ?_
          refine rgL 10 hS0 HSO ?_
          refine rgT 11 hS0 ?_
          refine rgT 12 hS0 ?_
          refine wpAnyH_done (by kernel_rfl) ?_ _
          skip
          go_wp2_with fail
          go_meet
          exact ⟨ac, rfl, hac, (show Srt namLt (xs.take ac ++ (r :: xs.drop ac)) ∧ Stab namLt (livF rs (j + 1)) (xs.take ac ++ (r :: xs.drop ac)) from stop_ssG namLt_ordr HSS.out HDS.out HDR.out (fun _ => ⟨p.1, by rw [← HZ1.out]; exact HXZ.out, HLF.out⟩)), HWX.out.drew⟩
         ·have hbl : Go.Op.bytesLess r.name.toList p.1.name.toList = true := hl
          have HLF := hid hl
          clear hl
          go_wp2_with fail
          obtain ⟨SS, HSI, HSO⟩ := rg_cond (fun w' => Know B6 #[.int .i64 r.kind, .int .i64 r.seq, .string r.name, .int .i64 r.length, .int .i64 r.group, .int .i64 r.row, .slice a6 l6 c6, .slice a7 l7 c7, .slice a8 l8 c8] w' ∧ w'.cell? ⟨g, z * 9 + 2, none⟩ = some (.string p.1.name))
          have hS0 := HSI.out _ ⟨(Know.of (keep_drew HBX.out)), HPN.out⟩
          refine rg_start SS (by kernel_rfl) hS0 ?_
          refine rgT 0 hS0 ?_
          refine rgT 1 hS0 ?_
          refine rgT 2 hS0 ?_
          refine rgT 3 hS0 ?_
          refine rgL 4 hS0 HSO ?_
          refine rgT 5 hS0 ?_
          refine rgT 6 hS0 ?_
          refine rgT 7 hS0 ?_
          refine rgT 8 hS0 ?_
          refine rgT 9 hS0 ?_
          refine rgL 10 hS0 HSO ?_
          refine rgT 11 hS0 ?_
          refine rgT 12 hS0 ?_
          refine wpAnyH_done (by kernel_rfl) ?_ _
          skip
          go_wp2_with fail
          go_roundw
          case rel => exact ⟨z, _, rfl, by omega, by go_num, hid (drop_aheadG HDR.out HXZ.out HLF.out HZ1.out h0), HWX.out.drew⟩
          case measure => have := HZ1.out; simp [intOf]; omega
        ·have hgt : ¬ ((0 : Int) < (ac : Int)) := by omega
         go_wp2_with fail
         obtain ⟨SS, HSI, HSO⟩ := rg_cond (fun w' => True)
         have hS0 := HSI.out wx.drew trivial
         refine rg_start SS (by kernel_rfl) hS0 ?_
         refine rgT 0 hS0 ?_
         refine rgT 1 hS0 ?_
         refine rgT 2 hS0 ?_
         refine rgS 3 hS0 ?_
         refine rgS 4 hS0 ?_
         refine rgS 5 hS0 ?_
         refine rgS 6 hS0 ?_
         refine rgS 7 hS0 ?_
         refine rgS 8 hS0 ?_
         refine rgS 9 hS0 ?_
         refine rgS 10 hS0 ?_
         refine rgS 11 hS0 ?_
         refine rgT 12 hS0 ?_
         refine wpAnyH_done (by kernel_rfl) ?_ _
         skip
         go_wp2_with fail
         go_meet
         exact ⟨ac, rfl, hac, (show Srt namLt (xs.take ac ++ (r :: xs.drop ac)) ∧ Stab namLt (livF rs (j + 1)) (xs.take ac ++ (r :: xs.drop ac)) from stop_ssG namLt_ordr HSS.out HDS.out HDR.out (fun h => absurd h h0)), HWX.out.drew⟩
      case rest =>
      revert wc; intro wy hcut
      obtain ⟨ac, rfl, hac, HSS2, hcy⟩ := hcut
      have HCW := hid (HC3.out.trans0 hcy); have HROW := hid (HROWQ.out.ext (HQ3.out.trans0 hcy)); have HXS2 := hid (recL.ext HXS.out (HQ3.out.trans0 hcy)); have HBX := hid (hcy.keep0 HB3.out)
      clear HXS hcy c3 n3
      have HXS := HXS2
      clear HXS2
      have HNEW := hid (show ∀ n, n = xs.length - ac → (([] ++ ((ps.drop 0).take ac).map (·.1)) ++ [r]) ++ ((ps.drop ac).take n).map (·.1) = xs.take ac ++ (r :: xs.drop ac) from fun n hn => by
       have hl : ps.length = xs.length := by rw [← HPM.out, List.length_map]
       rw [List.drop_zero, List.take_of_length_le (l := ps.drop ac) (by rw [List.length_drop]; omega), List.map_take, List.map_drop, HPM.out]
       simp)
      by_cases hca : cap = ac
      ·subst hca
       have HNEW := hid (HNEW.out (len - cap) (by have := HLX.out; omega))
       go_wp2_with fail
       obtain ⟨SS, HSI, HSO⟩ := rg_cond (fun w' => Know B6 #[.int .i64 r.kind, .int .i64 r.seq, .string r.name, .int .i64 r.length, .int .i64 r.group, .int .i64 r.row, .slice a6 l6 c6, .slice a7 l7 c7, .slice a8 l8 c8] w')
       have hS0 := HSI.out _ (Know.of (keep_drew HBX.out))
       refine rg_start SS (by kernel_rfl) hS0 ?_
       obtain ⟨wd, hwd⟩ : ∃ wd, wd = wy.drew := ⟨_, rfl⟩
       have HCD := hid (show Chg [] wy wd by rw [hwd]; exact (Chg.refl [] wy).drew)
       rw [← hwd] at hS0 ⊢
       clear hwd
       have HBD := hid (HCD.out.keep0 HBX.out)
       have HRD := hid (HROW.out.ext HCD.out); have HCE := hid (HCW.out.trans0 HCD.out); have HXD := hid (recL.ext HXS.out HCD.out)
       clear HBX HROW HCW HXS HCD
       have HBX := HBD; have HROW := HRD; have HCW := HCE; have HXS := HXD
       clear HBD HRD HCE HXD
       refine rgT 1 hS0 ?_
       refine rgT 2 hS0 ?_
       refine rgT 3 hS0 ?_
       refine rgL 5 hS0 HSO ?_
       refine rgT 8 hS0 ?_
       refine rgT 9 hS0 ?_
       refine rgT 10 hS0 ?_
       refine rg_call2 0 6 rfl rfl (by kernel_rfl) (fun K hK => ?_) (fun K hK => ?_)
       ·have HM := hid (made_os wd (wd.heap.size) (by simp))
        go_simp
        refine hK.out _ _ (HSI.out _ (Know.of (((Chg.refl [] wd).alloc (.cells #[] 67)).keep0 HBX.out))) (fun hS1 => ?_)
        clear hK K
        try simp only [Act.put, pA, pB, pC]
        refine rg_call2 4 6 rfl rfl (by kernel_rfl) (fun K hK => ?_) (fun K hK => ?_)
        ·obtain ⟨nw, hnw, hal⟩ := row_part (HROW.out.ext ((Chg.refl [] wd).alloc (.cells #[] 67))) (i := 0) (n := cap) (by have := HPL.out; omega)
         have HNW := hid hnw; have HAL2 := hid hal; clear hnw hal
         refine recL.step_append rfl _ _ 44 rfl Tryz.underlying44 KR rfl HM.out ⟨g, 0, none⟩ cap cap nw (ys := ((ps.drop 0).take cap).map (·.1)) (f := ((ps.drop 0).take cap).flatMap (·.2)) rfl (by rw [List.length_map, List.length_take, List.drop_zero]; have := HPL.out; omega) (fun j u h => by rw [Addr.add_lit]; have := HNW.out j u h; simpa using this) HAL2.out (fun g2 e hm => by cases e; have h1 := HFP.out _ (part_mem hm); have h2 := HCW.out.size; omega) (by rw [List.length_map, List.length_take, List.drop_zero]; simp only [List.length_nil, maxLen]; omega) (by rw [List.length_map, List.length_take, List.drop_zero]; simp only [List.length_nil]; omega) ?_
         intro v4 w4 h4 ho4 hh4 hc4
         obtain ⟨y4, hy4⟩ : ∃ y4, y4 = [] ++ ((ps.drop 0).take cap).map (·.1) := ⟨_, rfl⟩
         rw [← hy4] at ho4
         have HL4 := hid (show y4.length ≤ 1000000 by rw [hy4, List.nil_append, List.length_map, List.length_take, List.drop_zero]; omega); have HY4 := hid hy4
         clear hy4
         have HQ4 := hid (((Chg.refl [] wd).alloc (.cells #[] 67)).trans hc4 (fun y hy => .inr (by simp at hy; omega)))
         obtain ⟨a4, c4, rfl⟩ := recL.os_len ho4
         have HO4 := hid ho4; have HH4 := hid (show ∀ y, h4 = some y → wd.heap.size ≤ y from fun y e => by rcases hh4 with rfl | rfl <;> cases e <;> simp <;> omega)
         clear ho4 hh4 hc4
         refine hK.out _ _ (HSI.out _ (Know.of (HQ4.out.keep0 HBX.out))) (fun hS2 => ?_)
         clear hK K
         try simp only [Act.put, pA, pB, pC]
         refine rg_call 6 rfl (by kernel_rfl) (fun K hK => ?_)
         have HR6 := hid (show (w4.alloc (.cells #[.int .i64 r.kind, .int .i64 r.seq, .string r.name, .int .i64 r.length, .int .i64 r.group, .int .i64 r.row, .slice a6 l6 c6, .slice a7 l7 c7, .slice a8 l8 c8] 67)).heap[w4.heap.size]? = some (.cells #[.int .i64 r.kind, .int .i64 r.seq, .string r.name, .int .i64 r.length, .int .i64 r.group, .int .i64 r.row, .slice a6 l6 c6, .slice a7 l7 c7, .slice a8 l8 c8] 67 (0, 0)) from new_at (by simp) _)
         go_simp
         refine hK.out _ _ (HSI.out _ (Know.of ((HQ4.out.alloc (.cells #[.int .i64 r.kind, .int .i64 r.seq, .string r.name, .int .i64 r.length, .int .i64 r.group, .int .i64 r.row, .slice a6 l6 c6, .slice a7 l7 c7, .slice a8 l8 c8] 67)).keep0 HBX.out))) (fun hS3 => ?_)
         clear hK K
         try simp only [Act.put, pA, pB, pC]
         refine rg_call 7 rfl (by kernel_rfl) (fun K hK => ?_)
         refine recL.step_append rfl _ _ 44 rfl Tryz.underlying44 KR rfl (recL.os_alloc HO4.out (.cells #[.int .i64 r.kind, .int .i64 r.seq, .string r.name, .int .i64 r.length, .int .i64 r.group, .int .i64 r.row, .slice a6 l6 c6, .slice a7 l7 c7, .slice a8 l8 c8] 67)) ⟨w4.heap.size, 0, none⟩ 1 1 [.int .i64 r.kind, .int .i64 r.seq, .string r.name, .int .i64 r.length, .int .i64 r.group, .int .i64 r.row, .slice a6 l6 c6, .slice a7 l7 c7, .slice a8 l8 c8] (ys := [r]) (f := fq) rfl rfl (cells_news HR6.out) (recL.all_single (recL.ext HXS.out (HQ4.out.alloc (.cells #[.int .i64 r.kind, .int .i64 r.seq, .string r.name, .int .i64 r.length, .int .i64 r.group, .int .i64 r.row, .slice a6 l6 c6, .slice a7 l7 c7, .slice a8 l8 c8] 67)))) (fun g2 e hm => by have h1 := HFQ.out g2 hm; have h2 := HCW.out.size; have h3 := HH4.out g2 e; omega) (by have := HL4.out; simp only [List.length_singleton, maxLen]; omega) (by have := HL4.out; simp only [List.length_singleton]; omega) ?_
         intro v7 w7 h7 ho7 hh7 hc7
         obtain ⟨y7, hy7⟩ : ∃ y7, y7 = y4 ++ [r] := ⟨_, rfl⟩
         rw [← hy7] at ho7
         have HL7 := hid (show y7.length ≤ 1000001 by rw [hy7, List.length_append, List.length_singleton]; have := HL4.out; omega); have HY7 := hid hy7
         clear hy7
         have HQ7 := hid ((HQ4.out.alloc (.cells #[.int .i64 r.kind, .int .i64 r.seq, .string r.name, .int .i64 r.length, .int .i64 r.group, .int .i64 r.row, .slice a6 l6 c6, .slice a7 l7 c7, .slice a8 l8 c8] 67)).trans hc7 (fun y hy => .inr (by cases h4 with | none => simp at hy | some y4 => simp at hy; subst hy; exact HH4.out _ rfl)))
         obtain ⟨a7', c7', rfl⟩ := recL.os_len ho7
         have HO7 := hid ho7; have HH7 := hid (show ∀ y, h7 = some y → wd.heap.size ≤ y from fun y e => by rcases hh7 with rfl | rfl; exact HH4.out y e; cases e; exact (HQ4.out.alloc (.cells #[.int .i64 r.kind, .int .i64 r.seq, .string r.name, .int .i64 r.length, .int .i64 r.group, .int .i64 r.row, .slice a6 l6 c6, .slice a7 l7 c7, .slice a8 l8 c8] 67)).size)
         clear ho7 hh7 hc7
         refine hK.out _ _ (HSI.out _ (Know.of (HQ7.out.keep0 HBX.out))) (fun hS4 => ?_)
         clear hK K
         try simp only [Act.put, pA, pB, pC]
         refine rg_call 11 rfl (by kernel_rfl) (fun K hK => ?_)
         obtain ⟨nw2, hnw2, hal2⟩ := row_part (HROW.out.ext HQ7.out) (i := cap) (n := len - cap) (by have := HPL.out; omega)
         have HNW2 := hid hnw2; have HAL3 := hid hal2; clear hnw2 hal2
         refine recL.step_append rfl _ _ 44 rfl Tryz.underlying44 KR rfl HO7.out ⟨g, 0, none⟩ (len - cap) 0 nw2 (ys := ((ps.drop cap).take (len - cap)).map (·.1)) (f := ((ps.drop cap).take (len - cap)).flatMap (·.2)) rfl (by rw [List.length_map, List.length_take, List.length_drop]; have := HPL.out; omega) (fun j u h => by rw [Addr.add_lit]; have := HNW2.out j u h; have hl := recL.all_len HAL3.out; rw [show len - cap = 0 by have := HCP.out.1; have := HLX.out; omega] at hl; simp at hl; subst hl; simp at h) HAL3.out (fun g2 e hm => by have h1 := HFP.out _ (part_mem hm); have h2 := HCW.out.size; have h3 := HH7.out g2 e; omega) (by rw [List.length_map, List.length_take, List.length_drop]; have := HL7.out; have := HPL.out; simp only [maxLen]; omega) (by rw [List.length_map, List.length_take, List.length_drop]; have := HL7.out; have := HPL.out; omega) ?_
         intro v11 w11 h11 ho11 hh11 hc11
         have HQ11 := hid (HQ7.out.trans hc11 (fun y hy => .inr (by cases h7 with | none => simp at hy | some y4 => simp at hy; subst hy; exact HH7.out _ rfl)))
         have HH11 := hid (show ∀ y, h11 = some y → wd.heap.size ≤ y from fun y e => by rcases hh11 with rfl | rfl; exact HH7.out y e; cases e; exact HQ7.out.size)
         have HO11 := hid ho11; clear ho11 hh11 hc11
         have HSH11 := hid (shr_of HO11.out HH11.out (Nat.le_trans HN0.out HCW.out.size) (ps := ps) (fq := fq) HFP.out HFQ.out (by rw [HY7.out]; simp))
         refine hK.out _ _ (HSI.out _ (Know.of (HQ11.out.keep0 HBX.out))) (fun hS5 => ?_)
         clear hK K
         try simp only [Act.put, pA, pB, pC]
         refine rgT 12 hS5 ?_
         refine wpAnyH_done (by kernel_rfl) ?_ _
         go_wp2_with fail
         have HF := hid (And.intro HSH11.out (HCW.out.trans0 HQ11.out))
         go_roundw
         case rel => exact ⟨j + 1, _, _, rfl, by omega, rfl, HSS2, by have := HF.out.1; rw [HY7.out, HY4.out, HNEW.out] at this; exact this.row, HF.out.2⟩
         case measure => simp [intOf]; omega
        ·have HR6 := hid (show ((wd.alloc (.cells #[] 67)).alloc (.cells #[.int .i64 r.kind, .int .i64 r.seq, .string r.name, .int .i64 r.length, .int .i64 r.group, .int .i64 r.row, .slice a6 l6 c6, .slice a7 l7 c7, .slice a8 l8 c8] 67)).heap[wd.heap.size + 1]? = some (.cells #[.int .i64 r.kind, .int .i64 r.seq, .string r.name, .int .i64 r.length, .int .i64 r.group, .int .i64 r.row, .slice a6 l6 c6, .slice a7 l7 c7, .slice a8 l8 c8] 67 (0, 0)) from new_at (by simp) _)
         go_simp
         refine hK.out _ _ (HSI.out _ (Know.of ((((Chg.refl [] wd).alloc (.cells #[] 67)).alloc (.cells #[.int .i64 r.kind, .int .i64 r.seq, .string r.name, .int .i64 r.length, .int .i64 r.group, .int .i64 r.row, .slice a6 l6 c6, .slice a7 l7 c7, .slice a8 l8 c8] 67)).keep0 HBX.out))) (fun hS6 => ?_)
         clear hK K
         try simp only [Act.put, pA, pB, pC]
         refine rg_call 4 rfl (by kernel_rfl) (fun K hK => ?_)
         obtain ⟨nw, hnw, hal⟩ := row_part (HROW.out.ext (((Chg.refl [] wd).alloc (.cells #[] 67)).alloc (.cells #[.int .i64 r.kind, .int .i64 r.seq, .string r.name, .int .i64 r.length, .int .i64 r.group, .int .i64 r.row, .slice a6 l6 c6, .slice a7 l7 c7, .slice a8 l8 c8] 67))) (i := 0) (n := cap) (by have := HPL.out; omega)
         have HNW := hid hnw; have HAL2 := hid hal; clear hnw hal
         refine recL.step_append rfl _ _ 44 rfl Tryz.underlying44 KR rfl (recL.os_alloc HM.out (.cells #[.int .i64 r.kind, .int .i64 r.seq, .string r.name, .int .i64 r.length, .int .i64 r.group, .int .i64 r.row, .slice a6 l6 c6, .slice a7 l7 c7, .slice a8 l8 c8] 67)) ⟨g, 0, none⟩ cap cap nw (ys := ((ps.drop 0).take cap).map (·.1)) (f := ((ps.drop 0).take cap).flatMap (·.2)) rfl (by rw [List.length_map, List.length_take, List.drop_zero]; have := HPL.out; omega) (fun j u h => by rw [Addr.add_lit]; have := HNW.out j u h; simpa using this) HAL2.out (fun g2 e hm => by cases e; have h1 := HFP.out _ (part_mem hm); have h2 := HCW.out.size; omega) (by rw [List.length_map, List.length_take, List.drop_zero]; simp only [List.length_nil, maxLen]; omega) (by rw [List.length_map, List.length_take, List.drop_zero]; simp only [List.length_nil]; omega) ?_
         intro v4 w4 h4 ho4 hh4 hc4
         obtain ⟨y4, hy4⟩ : ∃ y4, y4 = [] ++ ((ps.drop 0).take cap).map (·.1) := ⟨_, rfl⟩
         rw [← hy4] at ho4
         have HL4 := hid (show y4.length ≤ 1000000 by rw [hy4, List.nil_append, List.length_map, List.length_take, List.drop_zero]; omega); have HY4 := hid hy4
         clear hy4
         have HQ4 := hid ((((Chg.refl [] wd).alloc (.cells #[] 67)).alloc (.cells #[.int .i64 r.kind, .int .i64 r.seq, .string r.name, .int .i64 r.length, .int .i64 r.group, .int .i64 r.row, .slice a6 l6 c6, .slice a7 l7 c7, .slice a8 l8 c8] 67)).trans hc4 (fun y hy => .inr (by simp at hy; omega)))
         obtain ⟨a4, c4, rfl⟩ := recL.os_len ho4
         have HO4 := hid ho4; have HH4 := hid (show ∀ y, h4 = some y → wd.heap.size ≤ y from fun y e => by rcases hh4 with rfl | rfl <;> cases e <;> simp <;> omega)
         have HR64 := hid (hc4.keepb HR6.out (by simp <;> omega))
         clear ho4 hh4 hc4
         refine hK.out _ _ (HSI.out _ (Know.of (HQ4.out.keep0 HBX.out))) (fun hS7 => ?_)
         clear hK K
         try simp only [Act.put, pA, pB, pC]
         refine rg_call 7 rfl (by kernel_rfl) (fun K hK => ?_)
         refine recL.step_append rfl _ _ 44 rfl Tryz.underlying44 KR rfl HO4.out ⟨wd.heap.size + 1, 0, none⟩ 1 1 [.int .i64 r.kind, .int .i64 r.seq, .string r.name, .int .i64 r.length, .int .i64 r.group, .int .i64 r.row, .slice a6 l6 c6, .slice a7 l7 c7, .slice a8 l8 c8] (ys := [r]) (f := fq) rfl rfl (cells_news HR64.out) (recL.all_single (recL.ext HXS.out HQ4.out)) (fun g2 e hm => by have h1 := HFQ.out g2 hm; have h2 := HCW.out.size; have h3 := HH4.out g2 e; omega) (by have := HL4.out; simp only [List.length_singleton, maxLen]; omega) (by have := HL4.out; simp only [List.length_singleton]; omega) ?_
         intro v7 w7 h7 ho7 hh7 hc7
         obtain ⟨y7, hy7⟩ : ∃ y7, y7 = y4 ++ [r] := ⟨_, rfl⟩
         rw [← hy7] at ho7
         have HL7 := hid (show y7.length ≤ 1000001 by rw [hy7, List.length_append, List.length_singleton]; have := HL4.out; omega); have HY7 := hid hy7
         clear hy7
         have HQ7 := hid (HQ4.out.trans hc7 (fun y hy => .inr (by cases h4 with | none => simp at hy | some y4 => simp at hy; subst hy; exact HH4.out _ rfl)))
         obtain ⟨a7', c7', rfl⟩ := recL.os_len ho7
         have HO7 := hid ho7; have HH7 := hid (show ∀ y, h7 = some y → wd.heap.size ≤ y from fun y e => by rcases hh7 with rfl | rfl; exact HH4.out y e; cases e; exact HQ4.out.size)
         clear ho7 hh7 hc7
         refine hK.out _ _ (HSI.out _ (Know.of (HQ7.out.keep0 HBX.out))) (fun hS8 => ?_)
         clear hK K
         try simp only [Act.put, pA, pB, pC]
         refine rg_call 11 rfl (by kernel_rfl) (fun K hK => ?_)
         obtain ⟨nw2, hnw2, hal2⟩ := row_part (HROW.out.ext HQ7.out) (i := cap) (n := len - cap) (by have := HPL.out; omega)
         have HNW2 := hid hnw2; have HAL3 := hid hal2; clear hnw2 hal2
         refine recL.step_append rfl _ _ 44 rfl Tryz.underlying44 KR rfl HO7.out ⟨g, 0, none⟩ (len - cap) 0 nw2 (ys := ((ps.drop cap).take (len - cap)).map (·.1)) (f := ((ps.drop cap).take (len - cap)).flatMap (·.2)) rfl (by rw [List.length_map, List.length_take, List.length_drop]; have := HPL.out; omega) (fun j u h => by rw [Addr.add_lit]; have := HNW2.out j u h; have hl := recL.all_len HAL3.out; rw [show len - cap = 0 by have := HCP.out.1; have := HLX.out; omega] at hl; simp at hl; subst hl; simp at h) HAL3.out (fun g2 e hm => by have h1 := HFP.out _ (part_mem hm); have h2 := HCW.out.size; have h3 := HH7.out g2 e; omega) (by rw [List.length_map, List.length_take, List.length_drop]; have := HL7.out; have := HPL.out; simp only [maxLen]; omega) (by rw [List.length_map, List.length_take, List.length_drop]; have := HL7.out; have := HPL.out; omega) ?_
         intro v11 w11 h11 ho11 hh11 hc11
         have HQ11 := hid (HQ7.out.trans hc11 (fun y hy => .inr (by cases h7 with | none => simp at hy | some y4 => simp at hy; subst hy; exact HH7.out _ rfl)))
         have HH11 := hid (show ∀ y, h11 = some y → wd.heap.size ≤ y from fun y e => by rcases hh11 with rfl | rfl; exact HH7.out y e; cases e; exact HQ7.out.size)
         have HO11 := hid ho11; clear ho11 hh11 hc11
         have HSH11 := hid (shr_of HO11.out HH11.out (Nat.le_trans HN0.out HCW.out.size) (ps := ps) (fq := fq) HFP.out HFQ.out (by rw [HY7.out]; simp))
         refine hK.out _ _ (HSI.out _ (Know.of (HQ11.out.keep0 HBX.out))) (fun hS9 => ?_)
         clear hK K
         try simp only [Act.put, pA, pB, pC]
         refine rgT 12 hS9 ?_
         refine wpAnyH_done (by kernel_rfl) ?_ _
         go_wp2_with fail
         have HF := hid (And.intro HSH11.out (HCW.out.trans0 HQ11.out))
         go_roundw
         case rel => exact ⟨j + 1, _, _, rfl, by omega, rfl, HSS2, by have := HF.out.1; rw [HY7.out, HY4.out, HNEW.out] at this; exact this.row, HF.out.2⟩
         case measure => simp [intOf]; omega
       ·have HR6 := hid (show (wd.alloc (.cells #[.int .i64 r.kind, .int .i64 r.seq, .string r.name, .int .i64 r.length, .int .i64 r.group, .int .i64 r.row, .slice a6 l6 c6, .slice a7 l7 c7, .slice a8 l8 c8] 67)).heap[wd.heap.size]? = some (.cells #[.int .i64 r.kind, .int .i64 r.seq, .string r.name, .int .i64 r.length, .int .i64 r.group, .int .i64 r.row, .slice a6 l6 c6, .slice a7 l7 c7, .slice a8 l8 c8] 67 (0, 0)) from new_at (by simp) _)
        go_simp
        refine hK.out _ _ (HSI.out _ (Know.of (((Chg.refl [] wd).alloc (.cells #[.int .i64 r.kind, .int .i64 r.seq, .string r.name, .int .i64 r.length, .int .i64 r.group, .int .i64 r.row, .slice a6 l6 c6, .slice a7 l7 c7, .slice a8 l8 c8] 67)).keep0 HBX.out))) (fun hS10 => ?_)
        clear hK K
        try simp only [Act.put, pA, pB, pC]
        refine rg_call 0 rfl (by kernel_rfl) (fun K hK => ?_)
        have HM := hid (made_os (wd.alloc (.cells #[.int .i64 r.kind, .int .i64 r.seq, .string r.name, .int .i64 r.length, .int .i64 r.group, .int .i64 r.row, .slice a6 l6 c6, .slice a7 l7 c7, .slice a8 l8 c8] 67)) (wd.heap.size + 1) (by simp))
        go_simp
        refine hK.out _ _ (HSI.out _ (Know.of ((((Chg.refl [] wd).alloc (.cells #[.int .i64 r.kind, .int .i64 r.seq, .string r.name, .int .i64 r.length, .int .i64 r.group, .int .i64 r.row, .slice a6 l6 c6, .slice a7 l7 c7, .slice a8 l8 c8] 67)).alloc (.cells #[] 67)).keep0 HBX.out))) (fun hS11 => ?_)
        clear hK K
        try simp only [Act.put, pA, pB, pC]
        refine rg_call 4 rfl (by kernel_rfl) (fun K hK => ?_)
        obtain ⟨nw, hnw, hal⟩ := row_part (HROW.out.ext (((Chg.refl [] wd).alloc (.cells #[.int .i64 r.kind, .int .i64 r.seq, .string r.name, .int .i64 r.length, .int .i64 r.group, .int .i64 r.row, .slice a6 l6 c6, .slice a7 l7 c7, .slice a8 l8 c8] 67)).alloc (.cells #[] 67))) (i := 0) (n := cap) (by have := HPL.out; omega)
        have HNW := hid hnw; have HAL2 := hid hal; clear hnw hal
        refine recL.step_append rfl _ _ 44 rfl Tryz.underlying44 KR rfl HM.out ⟨g, 0, none⟩ cap cap nw (ys := ((ps.drop 0).take cap).map (·.1)) (f := ((ps.drop 0).take cap).flatMap (·.2)) rfl (by rw [List.length_map, List.length_take, List.drop_zero]; have := HPL.out; omega) (fun j u h => by rw [Addr.add_lit]; have := HNW.out j u h; simpa using this) HAL2.out (fun g2 e hm => by cases e; have h1 := HFP.out _ (part_mem hm); have h2 := HCW.out.size; omega) (by rw [List.length_map, List.length_take, List.drop_zero]; simp only [List.length_nil, maxLen]; omega) (by rw [List.length_map, List.length_take, List.drop_zero]; simp only [List.length_nil]; omega) ?_
        intro v4 w4 h4 ho4 hh4 hc4
        obtain ⟨y4, hy4⟩ : ∃ y4, y4 = [] ++ ((ps.drop 0).take cap).map (·.1) := ⟨_, rfl⟩
        rw [← hy4] at ho4
        have HL4 := hid (show y4.length ≤ 1000000 by rw [hy4, List.nil_append, List.length_map, List.length_take, List.drop_zero]; omega); have HY4 := hid hy4
        clear hy4
        have HQ4 := hid ((((Chg.refl [] wd).alloc (.cells #[.int .i64 r.kind, .int .i64 r.seq, .string r.name, .int .i64 r.length, .int .i64 r.group, .int .i64 r.row, .slice a6 l6 c6, .slice a7 l7 c7, .slice a8 l8 c8] 67)).alloc (.cells #[] 67)).trans hc4 (fun y hy => .inr (by simp at hy; omega)))
        obtain ⟨a4, c4, rfl⟩ := recL.os_len ho4
        have HO4 := hid ho4; have HH4 := hid (show ∀ y, h4 = some y → wd.heap.size ≤ y from fun y e => by rcases hh4 with rfl | rfl <;> cases e <;> simp <;> omega)
        have HR64 := hid (hc4.keepb (keep_alloc HR6.out (.cells #[] 67)) (by simp <;> omega))
        clear ho4 hh4 hc4
        refine hK.out _ _ (HSI.out _ (Know.of (HQ4.out.keep0 HBX.out))) (fun hS12 => ?_)
        clear hK K
        try simp only [Act.put, pA, pB, pC]
        refine rg_call 7 rfl (by kernel_rfl) (fun K hK => ?_)
        refine recL.step_append rfl _ _ 44 rfl Tryz.underlying44 KR rfl HO4.out ⟨wd.heap.size, 0, none⟩ 1 1 [.int .i64 r.kind, .int .i64 r.seq, .string r.name, .int .i64 r.length, .int .i64 r.group, .int .i64 r.row, .slice a6 l6 c6, .slice a7 l7 c7, .slice a8 l8 c8] (ys := [r]) (f := fq) rfl rfl (cells_news HR64.out) (recL.all_single (recL.ext HXS.out HQ4.out)) (fun g2 e hm => by have h1 := HFQ.out g2 hm; have h2 := HCW.out.size; have h3 := HH4.out g2 e; omega) (by have := HL4.out; simp only [List.length_singleton, maxLen]; omega) (by have := HL4.out; simp only [List.length_singleton]; omega) ?_
        intro v7 w7 h7 ho7 hh7 hc7
        obtain ⟨y7, hy7⟩ : ∃ y7, y7 = y4 ++ [r] := ⟨_, rfl⟩
        rw [← hy7] at ho7
        have HL7 := hid (show y7.length ≤ 1000001 by rw [hy7, List.length_append, List.length_singleton]; have := HL4.out; omega); have HY7 := hid hy7
        clear hy7
        have HQ7 := hid (HQ4.out.trans hc7 (fun y hy => .inr (by cases h4 with | none => simp at hy | some y4 => simp at hy; subst hy; exact HH4.out _ rfl)))
        obtain ⟨a7', c7', rfl⟩ := recL.os_len ho7
        have HO7 := hid ho7; have HH7 := hid (show ∀ y, h7 = some y → wd.heap.size ≤ y from fun y e => by rcases hh7 with rfl | rfl; exact HH4.out y e; cases e; exact HQ4.out.size)
        clear ho7 hh7 hc7
        refine hK.out _ _ (HSI.out _ (Know.of (HQ7.out.keep0 HBX.out))) (fun hS13 => ?_)
        clear hK K
        try simp only [Act.put, pA, pB, pC]
        refine rg_call 11 rfl (by kernel_rfl) (fun K hK => ?_)
        obtain ⟨nw2, hnw2, hal2⟩ := row_part (HROW.out.ext HQ7.out) (i := cap) (n := len - cap) (by have := HPL.out; omega)
        have HNW2 := hid hnw2; have HAL3 := hid hal2; clear hnw2 hal2
        refine recL.step_append rfl _ _ 44 rfl Tryz.underlying44 KR rfl HO7.out ⟨g, 0, none⟩ (len - cap) 0 nw2 (ys := ((ps.drop cap).take (len - cap)).map (·.1)) (f := ((ps.drop cap).take (len - cap)).flatMap (·.2)) rfl (by rw [List.length_map, List.length_take, List.length_drop]; have := HPL.out; omega) (fun j u h => by rw [Addr.add_lit]; have := HNW2.out j u h; have hl := recL.all_len HAL3.out; rw [show len - cap = 0 by have := HCP.out.1; have := HLX.out; omega] at hl; simp at hl; subst hl; simp at h) HAL3.out (fun g2 e hm => by have h1 := HFP.out _ (part_mem hm); have h2 := HCW.out.size; have h3 := HH7.out g2 e; omega) (by rw [List.length_map, List.length_take, List.length_drop]; have := HL7.out; have := HPL.out; simp only [maxLen]; omega) (by rw [List.length_map, List.length_take, List.length_drop]; have := HL7.out; have := HPL.out; omega) ?_
        intro v11 w11 h11 ho11 hh11 hc11
        have HQ11 := hid (HQ7.out.trans hc11 (fun y hy => .inr (by cases h7 with | none => simp at hy | some y4 => simp at hy; subst hy; exact HH7.out _ rfl)))
        have HH11 := hid (show ∀ y, h11 = some y → wd.heap.size ≤ y from fun y e => by rcases hh11 with rfl | rfl; exact HH7.out y e; cases e; exact HQ7.out.size)
        have HO11 := hid ho11; clear ho11 hh11 hc11
        have HSH11 := hid (shr_of HO11.out HH11.out (Nat.le_trans HN0.out HCW.out.size) (ps := ps) (fq := fq) HFP.out HFQ.out (by rw [HY7.out]; simp))
        refine hK.out _ _ (HSI.out _ (Know.of (HQ11.out.keep0 HBX.out))) (fun hS14 => ?_)
        clear hK K
        try simp only [Act.put, pA, pB, pC]
        refine rgT 12 hS14 ?_
        refine wpAnyH_done (by kernel_rfl) ?_ _
        go_wp2_with fail
        have HF := hid (And.intro HSH11.out (HCW.out.trans0 HQ11.out))
        go_roundw
        case rel => exact ⟨j + 1, _, _, rfl, by omega, rfl, HSS2, by have := HF.out.1; rw [HY7.out, HY4.out, HNEW.out] at this; exact this.row, HF.out.2⟩
        case measure => simp [intOf]; omega
      ·have HNEW := hid (HNEW.out (len - ac) (by have := HLX.out; omega))
       have hacc : ac ≤ cap := by have := HCP.out.1; have := HLX.out; omega
       go_wp2_with fail
       obtain ⟨SS, HSI, HSO⟩ := rg_cond (fun w' => Know B6 #[.int .i64 r.kind, .int .i64 r.seq, .string r.name, .int .i64 r.length, .int .i64 r.group, .int .i64 r.row, .slice a6 l6 c6, .slice a7 l7 c7, .slice a8 l8 c8] w')
       have hS0 := HSI.out _ (Know.of (keep_drew HBX.out))
       refine rg_start SS (by kernel_rfl) hS0 ?_
       obtain ⟨wd, hwd⟩ : ∃ wd, wd = wy.drew := ⟨_, rfl⟩
       have HCD := hid (show Chg [] wy wd by rw [hwd]; exact (Chg.refl [] wy).drew)
       rw [← hwd] at hS0 ⊢
       clear hwd
       have HBD := hid (HCD.out.keep0 HBX.out)
       have HRD := hid (HROW.out.ext HCD.out); have HCE := hid (HCW.out.trans0 HCD.out); have HXD := hid (recL.ext HXS.out HCD.out)
       clear HBX HROW HCW HXS HCD
       have HBX := HBD; have HROW := HRD; have HCW := HCE; have HXS := HXD
       clear HBD HRD HCE HXD
       refine rgT 1 hS0 ?_
       refine rgT 2 hS0 ?_
       refine rgT 3 hS0 ?_
       refine rgL 5 hS0 HSO ?_
       refine rgT 8 hS0 ?_
       refine rgT 9 hS0 ?_
       refine rgT 10 hS0 ?_
       refine rg_call2 0 6 rfl rfl (by kernel_rfl) (fun K hK => ?_) (fun K hK => ?_)
       ·have HM := hid (made_os wd (wd.heap.size) (by simp))
        go_simp
        refine hK.out _ _ (HSI.out _ (Know.of (((Chg.refl [] wd).alloc (.cells #[] 67)).keep0 HBX.out))) (fun hS1 => ?_)
        clear hK K
        try simp only [Act.put, pA, pB, pC]
        refine rg_call2 4 6 rfl rfl (by kernel_rfl) (fun K hK => ?_) (fun K hK => ?_)
        ·obtain ⟨nw, hnw, hal⟩ := row_part (HROW.out.ext ((Chg.refl [] wd).alloc (.cells #[] 67))) (i := 0) (n := ac) (by have := HPL.out; omega)
         have HNW := hid hnw; have HAL2 := hid hal; clear hnw hal
         refine recL.step_append rfl _ _ 44 rfl Tryz.underlying44 KR rfl HM.out ⟨g, 0, none⟩ ac cap nw (ys := ((ps.drop 0).take ac).map (·.1)) (f := ((ps.drop 0).take ac).flatMap (·.2)) rfl (by rw [List.length_map, List.length_take, List.drop_zero]; have := HPL.out; omega) (fun j u h => by rw [Addr.add_lit]; have := HNW.out j u h; simpa using this) HAL2.out (fun g2 e hm => by cases e; have h1 := HFP.out _ (part_mem hm); have h2 := HCW.out.size; omega) (by rw [List.length_map, List.length_take, List.drop_zero]; simp only [List.length_nil, maxLen]; omega) (by rw [List.length_map, List.length_take, List.drop_zero]; simp only [List.length_nil]; omega) ?_
         intro v4 w4 h4 ho4 hh4 hc4
         obtain ⟨y4, hy4⟩ : ∃ y4, y4 = [] ++ ((ps.drop 0).take ac).map (·.1) := ⟨_, rfl⟩
         rw [← hy4] at ho4
         have HL4 := hid (show y4.length ≤ 1000000 by rw [hy4, List.nil_append, List.length_map, List.length_take, List.drop_zero]; omega); have HY4 := hid hy4
         clear hy4
         have HQ4 := hid (((Chg.refl [] wd).alloc (.cells #[] 67)).trans hc4 (fun y hy => .inr (by simp at hy; omega)))
         obtain ⟨a4, c4, rfl⟩ := recL.os_len ho4
         have HO4 := hid ho4; have HH4 := hid (show ∀ y, h4 = some y → wd.heap.size ≤ y from fun y e => by rcases hh4 with rfl | rfl <;> cases e <;> simp <;> omega)
         clear ho4 hh4 hc4
         refine hK.out _ _ (HSI.out _ (Know.of (HQ4.out.keep0 HBX.out))) (fun hS2 => ?_)
         clear hK K
         try simp only [Act.put, pA, pB, pC]
         refine rg_call 6 rfl (by kernel_rfl) (fun K hK => ?_)
         have HR6 := hid (show (w4.alloc (.cells #[.int .i64 r.kind, .int .i64 r.seq, .string r.name, .int .i64 r.length, .int .i64 r.group, .int .i64 r.row, .slice a6 l6 c6, .slice a7 l7 c7, .slice a8 l8 c8] 67)).heap[w4.heap.size]? = some (.cells #[.int .i64 r.kind, .int .i64 r.seq, .string r.name, .int .i64 r.length, .int .i64 r.group, .int .i64 r.row, .slice a6 l6 c6, .slice a7 l7 c7, .slice a8 l8 c8] 67 (0, 0)) from new_at (by simp) _)
         go_simp
         refine hK.out _ _ (HSI.out _ (Know.of ((HQ4.out.alloc (.cells #[.int .i64 r.kind, .int .i64 r.seq, .string r.name, .int .i64 r.length, .int .i64 r.group, .int .i64 r.row, .slice a6 l6 c6, .slice a7 l7 c7, .slice a8 l8 c8] 67)).keep0 HBX.out))) (fun hS3 => ?_)
         clear hK K
         try simp only [Act.put, pA, pB, pC]
         refine rg_call 7 rfl (by kernel_rfl) (fun K hK => ?_)
         refine recL.step_append rfl _ _ 44 rfl Tryz.underlying44 KR rfl (recL.os_alloc HO4.out (.cells #[.int .i64 r.kind, .int .i64 r.seq, .string r.name, .int .i64 r.length, .int .i64 r.group, .int .i64 r.row, .slice a6 l6 c6, .slice a7 l7 c7, .slice a8 l8 c8] 67)) ⟨w4.heap.size, 0, none⟩ 1 1 [.int .i64 r.kind, .int .i64 r.seq, .string r.name, .int .i64 r.length, .int .i64 r.group, .int .i64 r.row, .slice a6 l6 c6, .slice a7 l7 c7, .slice a8 l8 c8] (ys := [r]) (f := fq) rfl rfl (cells_news HR6.out) (recL.all_single (recL.ext HXS.out (HQ4.out.alloc (.cells #[.int .i64 r.kind, .int .i64 r.seq, .string r.name, .int .i64 r.length, .int .i64 r.group, .int .i64 r.row, .slice a6 l6 c6, .slice a7 l7 c7, .slice a8 l8 c8] 67)))) (fun g2 e hm => by have h1 := HFQ.out g2 hm; have h2 := HCW.out.size; have h3 := HH4.out g2 e; omega) (by have := HL4.out; simp only [List.length_singleton, maxLen]; omega) (by have := HL4.out; simp only [List.length_singleton]; omega) ?_
         intro v7 w7 h7 ho7 hh7 hc7
         obtain ⟨y7, hy7⟩ : ∃ y7, y7 = y4 ++ [r] := ⟨_, rfl⟩
         rw [← hy7] at ho7
         have HL7 := hid (show y7.length ≤ 1000001 by rw [hy7, List.length_append, List.length_singleton]; have := HL4.out; omega); have HY7 := hid hy7
         clear hy7
         have HQ7 := hid ((HQ4.out.alloc (.cells #[.int .i64 r.kind, .int .i64 r.seq, .string r.name, .int .i64 r.length, .int .i64 r.group, .int .i64 r.row, .slice a6 l6 c6, .slice a7 l7 c7, .slice a8 l8 c8] 67)).trans hc7 (fun y hy => .inr (by cases h4 with | none => simp at hy | some y4 => simp at hy; subst hy; exact HH4.out _ rfl)))
         obtain ⟨a7', c7', rfl⟩ := recL.os_len ho7
         have HO7 := hid ho7; have HH7 := hid (show ∀ y, h7 = some y → wd.heap.size ≤ y from fun y e => by rcases hh7 with rfl | rfl; exact HH4.out y e; cases e; exact (HQ4.out.alloc (.cells #[.int .i64 r.kind, .int .i64 r.seq, .string r.name, .int .i64 r.length, .int .i64 r.group, .int .i64 r.row, .slice a6 l6 c6, .slice a7 l7 c7, .slice a8 l8 c8] 67)).size)
         clear ho7 hh7 hc7
         refine hK.out _ _ (HSI.out _ (Know.of (HQ7.out.keep0 HBX.out))) (fun hS4 => ?_)
         clear hK K
         try simp only [Act.put, pA, pB, pC]
         refine rg_call 11 rfl (by kernel_rfl) (fun K hK => ?_)
         obtain ⟨nw2, hnw2, hal2⟩ := row_part (HROW.out.ext HQ7.out) (i := ac) (n := len - ac) (by have := HPL.out; omega)
         have HNW2 := hid hnw2; have HAL3 := hid hal2; clear hnw2 hal2
         refine recL.step_append rfl _ _ 44 rfl Tryz.underlying44 KR rfl HO7.out ⟨g, ac * 9, none⟩ (len - ac) (cap - ac) nw2 (ys := ((ps.drop ac).take (len - ac)).map (·.1)) (f := ((ps.drop ac).take (len - ac)).flatMap (·.2)) rfl (by rw [List.length_map, List.length_take, List.length_drop]; have := HPL.out; omega) (fun j u h => by rw [Addr.add_lit]; have := HNW2.out j u h; simpa using this) HAL3.out (fun g2 e hm => by have h1 := HFP.out _ (part_mem hm); have h2 := HCW.out.size; have h3 := HH7.out g2 e; omega) (by rw [List.length_map, List.length_take, List.length_drop]; have := HL7.out; have := HPL.out; simp only [maxLen]; omega) (by rw [List.length_map, List.length_take, List.length_drop]; have := HL7.out; have := HPL.out; omega) ?_
         intro v11 w11 h11 ho11 hh11 hc11
         have HQ11 := hid (HQ7.out.trans hc11 (fun y hy => .inr (by cases h7 with | none => simp at hy | some y4 => simp at hy; subst hy; exact HH7.out _ rfl)))
         have HH11 := hid (show ∀ y, h11 = some y → wd.heap.size ≤ y from fun y e => by rcases hh11 with rfl | rfl; exact HH7.out y e; cases e; exact HQ7.out.size)
         have HO11 := hid ho11; clear ho11 hh11 hc11
         have HSH11 := hid (shr_of HO11.out HH11.out (Nat.le_trans HN0.out HCW.out.size) (ps := ps) (fq := fq) HFP.out HFQ.out (by rw [HY7.out]; simp))
         refine hK.out _ _ (HSI.out _ (Know.of (HQ11.out.keep0 HBX.out))) (fun hS5 => ?_)
         clear hK K
         try simp only [Act.put, pA, pB, pC]
         refine rgT 12 hS5 ?_
         refine wpAnyH_done (by kernel_rfl) ?_ _
         go_wp2_with fail
         have HF := hid (And.intro HSH11.out (HCW.out.trans0 HQ11.out))
         go_roundw
         case rel => exact ⟨j + 1, _, _, rfl, by omega, rfl, HSS2, by have := HF.out.1; rw [HY7.out, HY4.out, HNEW.out] at this; exact this.row, HF.out.2⟩
         case measure => simp [intOf]; omega
        ·have HR6 := hid (show ((wd.alloc (.cells #[] 67)).alloc (.cells #[.int .i64 r.kind, .int .i64 r.seq, .string r.name, .int .i64 r.length, .int .i64 r.group, .int .i64 r.row, .slice a6 l6 c6, .slice a7 l7 c7, .slice a8 l8 c8] 67)).heap[wd.heap.size + 1]? = some (.cells #[.int .i64 r.kind, .int .i64 r.seq, .string r.name, .int .i64 r.length, .int .i64 r.group, .int .i64 r.row, .slice a6 l6 c6, .slice a7 l7 c7, .slice a8 l8 c8] 67 (0, 0)) from new_at (by simp) _)
         go_simp
         refine hK.out _ _ (HSI.out _ (Know.of ((((Chg.refl [] wd).alloc (.cells #[] 67)).alloc (.cells #[.int .i64 r.kind, .int .i64 r.seq, .string r.name, .int .i64 r.length, .int .i64 r.group, .int .i64 r.row, .slice a6 l6 c6, .slice a7 l7 c7, .slice a8 l8 c8] 67)).keep0 HBX.out))) (fun hS6 => ?_)
         clear hK K
         try simp only [Act.put, pA, pB, pC]
         refine rg_call 4 rfl (by kernel_rfl) (fun K hK => ?_)
         obtain ⟨nw, hnw, hal⟩ := row_part (HROW.out.ext (((Chg.refl [] wd).alloc (.cells #[] 67)).alloc (.cells #[.int .i64 r.kind, .int .i64 r.seq, .string r.name, .int .i64 r.length, .int .i64 r.group, .int .i64 r.row, .slice a6 l6 c6, .slice a7 l7 c7, .slice a8 l8 c8] 67))) (i := 0) (n := ac) (by have := HPL.out; omega)
         have HNW := hid hnw; have HAL2 := hid hal; clear hnw hal
         refine recL.step_append rfl _ _ 44 rfl Tryz.underlying44 KR rfl (recL.os_alloc HM.out (.cells #[.int .i64 r.kind, .int .i64 r.seq, .string r.name, .int .i64 r.length, .int .i64 r.group, .int .i64 r.row, .slice a6 l6 c6, .slice a7 l7 c7, .slice a8 l8 c8] 67)) ⟨g, 0, none⟩ ac cap nw (ys := ((ps.drop 0).take ac).map (·.1)) (f := ((ps.drop 0).take ac).flatMap (·.2)) rfl (by rw [List.length_map, List.length_take, List.drop_zero]; have := HPL.out; omega) (fun j u h => by rw [Addr.add_lit]; have := HNW.out j u h; simpa using this) HAL2.out (fun g2 e hm => by cases e; have h1 := HFP.out _ (part_mem hm); have h2 := HCW.out.size; omega) (by rw [List.length_map, List.length_take, List.drop_zero]; simp only [List.length_nil, maxLen]; omega) (by rw [List.length_map, List.length_take, List.drop_zero]; simp only [List.length_nil]; omega) ?_
         intro v4 w4 h4 ho4 hh4 hc4
         obtain ⟨y4, hy4⟩ : ∃ y4, y4 = [] ++ ((ps.drop 0).take ac).map (·.1) := ⟨_, rfl⟩
         rw [← hy4] at ho4
         have HL4 := hid (show y4.length ≤ 1000000 by rw [hy4, List.nil_append, List.length_map, List.length_take, List.drop_zero]; omega); have HY4 := hid hy4
         clear hy4
         have HQ4 := hid ((((Chg.refl [] wd).alloc (.cells #[] 67)).alloc (.cells #[.int .i64 r.kind, .int .i64 r.seq, .string r.name, .int .i64 r.length, .int .i64 r.group, .int .i64 r.row, .slice a6 l6 c6, .slice a7 l7 c7, .slice a8 l8 c8] 67)).trans hc4 (fun y hy => .inr (by simp at hy; omega)))
         obtain ⟨a4, c4, rfl⟩ := recL.os_len ho4
         have HO4 := hid ho4; have HH4 := hid (show ∀ y, h4 = some y → wd.heap.size ≤ y from fun y e => by rcases hh4 with rfl | rfl <;> cases e <;> simp <;> omega)
         have HR64 := hid (hc4.keepb HR6.out (by simp <;> omega))
         clear ho4 hh4 hc4
         refine hK.out _ _ (HSI.out _ (Know.of (HQ4.out.keep0 HBX.out))) (fun hS7 => ?_)
         clear hK K
         try simp only [Act.put, pA, pB, pC]
         refine rg_call 7 rfl (by kernel_rfl) (fun K hK => ?_)
         refine recL.step_append rfl _ _ 44 rfl Tryz.underlying44 KR rfl HO4.out ⟨wd.heap.size + 1, 0, none⟩ 1 1 [.int .i64 r.kind, .int .i64 r.seq, .string r.name, .int .i64 r.length, .int .i64 r.group, .int .i64 r.row, .slice a6 l6 c6, .slice a7 l7 c7, .slice a8 l8 c8] (ys := [r]) (f := fq) rfl rfl (cells_news HR64.out) (recL.all_single (recL.ext HXS.out HQ4.out)) (fun g2 e hm => by have h1 := HFQ.out g2 hm; have h2 := HCW.out.size; have h3 := HH4.out g2 e; omega) (by have := HL4.out; simp only [List.length_singleton, maxLen]; omega) (by have := HL4.out; simp only [List.length_singleton]; omega) ?_
         intro v7 w7 h7 ho7 hh7 hc7
         obtain ⟨y7, hy7⟩ : ∃ y7, y7 = y4 ++ [r] := ⟨_, rfl⟩
         rw [← hy7] at ho7
         have HL7 := hid (show y7.length ≤ 1000001 by rw [hy7, List.length_append, List.length_singleton]; have := HL4.out; omega); have HY7 := hid hy7
         clear hy7
         have HQ7 := hid (HQ4.out.trans hc7 (fun y hy => .inr (by cases h4 with | none => simp at hy | some y4 => simp at hy; subst hy; exact HH4.out _ rfl)))
         obtain ⟨a7', c7', rfl⟩ := recL.os_len ho7
         have HO7 := hid ho7; have HH7 := hid (show ∀ y, h7 = some y → wd.heap.size ≤ y from fun y e => by rcases hh7 with rfl | rfl; exact HH4.out y e; cases e; exact HQ4.out.size)
         clear ho7 hh7 hc7
         refine hK.out _ _ (HSI.out _ (Know.of (HQ7.out.keep0 HBX.out))) (fun hS8 => ?_)
         clear hK K
         try simp only [Act.put, pA, pB, pC]
         refine rg_call 11 rfl (by kernel_rfl) (fun K hK => ?_)
         obtain ⟨nw2, hnw2, hal2⟩ := row_part (HROW.out.ext HQ7.out) (i := ac) (n := len - ac) (by have := HPL.out; omega)
         have HNW2 := hid hnw2; have HAL3 := hid hal2; clear hnw2 hal2
         refine recL.step_append rfl _ _ 44 rfl Tryz.underlying44 KR rfl HO7.out ⟨g, ac * 9, none⟩ (len - ac) (cap - ac) nw2 (ys := ((ps.drop ac).take (len - ac)).map (·.1)) (f := ((ps.drop ac).take (len - ac)).flatMap (·.2)) rfl (by rw [List.length_map, List.length_take, List.length_drop]; have := HPL.out; omega) (fun j u h => by rw [Addr.add_lit]; have := HNW2.out j u h; simpa using this) HAL3.out (fun g2 e hm => by have h1 := HFP.out _ (part_mem hm); have h2 := HCW.out.size; have h3 := HH7.out g2 e; omega) (by rw [List.length_map, List.length_take, List.length_drop]; have := HL7.out; have := HPL.out; simp only [maxLen]; omega) (by rw [List.length_map, List.length_take, List.length_drop]; have := HL7.out; have := HPL.out; omega) ?_
         intro v11 w11 h11 ho11 hh11 hc11
         have HQ11 := hid (HQ7.out.trans hc11 (fun y hy => .inr (by cases h7 with | none => simp at hy | some y4 => simp at hy; subst hy; exact HH7.out _ rfl)))
         have HH11 := hid (show ∀ y, h11 = some y → wd.heap.size ≤ y from fun y e => by rcases hh11 with rfl | rfl; exact HH7.out y e; cases e; exact HQ7.out.size)
         have HO11 := hid ho11; clear ho11 hh11 hc11
         have HSH11 := hid (shr_of HO11.out HH11.out (Nat.le_trans HN0.out HCW.out.size) (ps := ps) (fq := fq) HFP.out HFQ.out (by rw [HY7.out]; simp))
         refine hK.out _ _ (HSI.out _ (Know.of (HQ11.out.keep0 HBX.out))) (fun hS9 => ?_)
         clear hK K
         try simp only [Act.put, pA, pB, pC]
         refine rgT 12 hS9 ?_
         refine wpAnyH_done (by kernel_rfl) ?_ _
         go_wp2_with fail
         have HF := hid (And.intro HSH11.out (HCW.out.trans0 HQ11.out))
         go_roundw
         case rel => exact ⟨j + 1, _, _, rfl, by omega, rfl, HSS2, by have := HF.out.1; rw [HY7.out, HY4.out, HNEW.out] at this; exact this.row, HF.out.2⟩
         case measure => simp [intOf]; omega
       ·have HR6 := hid (show (wd.alloc (.cells #[.int .i64 r.kind, .int .i64 r.seq, .string r.name, .int .i64 r.length, .int .i64 r.group, .int .i64 r.row, .slice a6 l6 c6, .slice a7 l7 c7, .slice a8 l8 c8] 67)).heap[wd.heap.size]? = some (.cells #[.int .i64 r.kind, .int .i64 r.seq, .string r.name, .int .i64 r.length, .int .i64 r.group, .int .i64 r.row, .slice a6 l6 c6, .slice a7 l7 c7, .slice a8 l8 c8] 67 (0, 0)) from new_at (by simp) _)
        go_simp
        refine hK.out _ _ (HSI.out _ (Know.of (((Chg.refl [] wd).alloc (.cells #[.int .i64 r.kind, .int .i64 r.seq, .string r.name, .int .i64 r.length, .int .i64 r.group, .int .i64 r.row, .slice a6 l6 c6, .slice a7 l7 c7, .slice a8 l8 c8] 67)).keep0 HBX.out))) (fun hS10 => ?_)
        clear hK K
        try simp only [Act.put, pA, pB, pC]
        refine rg_call 0 rfl (by kernel_rfl) (fun K hK => ?_)
        have HM := hid (made_os (wd.alloc (.cells #[.int .i64 r.kind, .int .i64 r.seq, .string r.name, .int .i64 r.length, .int .i64 r.group, .int .i64 r.row, .slice a6 l6 c6, .slice a7 l7 c7, .slice a8 l8 c8] 67)) (wd.heap.size + 1) (by simp))
        go_simp
        refine hK.out _ _ (HSI.out _ (Know.of ((((Chg.refl [] wd).alloc (.cells #[.int .i64 r.kind, .int .i64 r.seq, .string r.name, .int .i64 r.length, .int .i64 r.group, .int .i64 r.row, .slice a6 l6 c6, .slice a7 l7 c7, .slice a8 l8 c8] 67)).alloc (.cells #[] 67)).keep0 HBX.out))) (fun hS11 => ?_)
        clear hK K
        try simp only [Act.put, pA, pB, pC]
        refine rg_call 4 rfl (by kernel_rfl) (fun K hK => ?_)
        obtain ⟨nw, hnw, hal⟩ := row_part (HROW.out.ext (((Chg.refl [] wd).alloc (.cells #[.int .i64 r.kind, .int .i64 r.seq, .string r.name, .int .i64 r.length, .int .i64 r.group, .int .i64 r.row, .slice a6 l6 c6, .slice a7 l7 c7, .slice a8 l8 c8] 67)).alloc (.cells #[] 67))) (i := 0) (n := ac) (by have := HPL.out; omega)
        have HNW := hid hnw; have HAL2 := hid hal; clear hnw hal
        refine recL.step_append rfl _ _ 44 rfl Tryz.underlying44 KR rfl HM.out ⟨g, 0, none⟩ ac cap nw (ys := ((ps.drop 0).take ac).map (·.1)) (f := ((ps.drop 0).take ac).flatMap (·.2)) rfl (by rw [List.length_map, List.length_take, List.drop_zero]; have := HPL.out; omega) (fun j u h => by rw [Addr.add_lit]; have := HNW.out j u h; simpa using this) HAL2.out (fun g2 e hm => by cases e; have h1 := HFP.out _ (part_mem hm); have h2 := HCW.out.size; omega) (by rw [List.length_map, List.length_take, List.drop_zero]; simp only [List.length_nil, maxLen]; omega) (by rw [List.length_map, List.length_take, List.drop_zero]; simp only [List.length_nil]; omega) ?_
        intro v4 w4 h4 ho4 hh4 hc4
        obtain ⟨y4, hy4⟩ : ∃ y4, y4 = [] ++ ((ps.drop 0).take ac).map (·.1) := ⟨_, rfl⟩
        rw [← hy4] at ho4
        have HL4 := hid (show y4.length ≤ 1000000 by rw [hy4, List.nil_append, List.length_map, List.length_take, List.drop_zero]; omega); have HY4 := hid hy4
        clear hy4
        have HQ4 := hid ((((Chg.refl [] wd).alloc (.cells #[.int .i64 r.kind, .int .i64 r.seq, .string r.name, .int .i64 r.length, .int .i64 r.group, .int .i64 r.row, .slice a6 l6 c6, .slice a7 l7 c7, .slice a8 l8 c8] 67)).alloc (.cells #[] 67)).trans hc4 (fun y hy => .inr (by simp at hy; omega)))
        obtain ⟨a4, c4, rfl⟩ := recL.os_len ho4
        have HO4 := hid ho4; have HH4 := hid (show ∀ y, h4 = some y → wd.heap.size ≤ y from fun y e => by rcases hh4 with rfl | rfl <;> cases e <;> simp <;> omega)
        have HR64 := hid (hc4.keepb (keep_alloc HR6.out (.cells #[] 67)) (by simp <;> omega))
        clear ho4 hh4 hc4
        refine hK.out _ _ (HSI.out _ (Know.of (HQ4.out.keep0 HBX.out))) (fun hS12 => ?_)
        clear hK K
        try simp only [Act.put, pA, pB, pC]
        refine rg_call 7 rfl (by kernel_rfl) (fun K hK => ?_)
        refine recL.step_append rfl _ _ 44 rfl Tryz.underlying44 KR rfl HO4.out ⟨wd.heap.size, 0, none⟩ 1 1 [.int .i64 r.kind, .int .i64 r.seq, .string r.name, .int .i64 r.length, .int .i64 r.group, .int .i64 r.row, .slice a6 l6 c6, .slice a7 l7 c7, .slice a8 l8 c8] (ys := [r]) (f := fq) rfl rfl (cells_news HR64.out) (recL.all_single (recL.ext HXS.out HQ4.out)) (fun g2 e hm => by have h1 := HFQ.out g2 hm; have h2 := HCW.out.size; have h3 := HH4.out g2 e; omega) (by have := HL4.out; simp only [List.length_singleton, maxLen]; omega) (by have := HL4.out; simp only [List.length_singleton]; omega) ?_
        intro v7 w7 h7 ho7 hh7 hc7
        obtain ⟨y7, hy7⟩ : ∃ y7, y7 = y4 ++ [r] := ⟨_, rfl⟩
        rw [← hy7] at ho7
        have HL7 := hid (show y7.length ≤ 1000001 by rw [hy7, List.length_append, List.length_singleton]; have := HL4.out; omega); have HY7 := hid hy7
        clear hy7
        have HQ7 := hid (HQ4.out.trans hc7 (fun y hy => .inr (by cases h4 with | none => simp at hy | some y4 => simp at hy; subst hy; exact HH4.out _ rfl)))
        obtain ⟨a7', c7', rfl⟩ := recL.os_len ho7
        have HO7 := hid ho7; have HH7 := hid (show ∀ y, h7 = some y → wd.heap.size ≤ y from fun y e => by rcases hh7 with rfl | rfl; exact HH4.out y e; cases e; exact HQ4.out.size)
        clear ho7 hh7 hc7
        refine hK.out _ _ (HSI.out _ (Know.of (HQ7.out.keep0 HBX.out))) (fun hS13 => ?_)
        clear hK K
        try simp only [Act.put, pA, pB, pC]
        refine rg_call 11 rfl (by kernel_rfl) (fun K hK => ?_)
        obtain ⟨nw2, hnw2, hal2⟩ := row_part (HROW.out.ext HQ7.out) (i := ac) (n := len - ac) (by have := HPL.out; omega)
        have HNW2 := hid hnw2; have HAL3 := hid hal2; clear hnw2 hal2
        refine recL.step_append rfl _ _ 44 rfl Tryz.underlying44 KR rfl HO7.out ⟨g, ac * 9, none⟩ (len - ac) (cap - ac) nw2 (ys := ((ps.drop ac).take (len - ac)).map (·.1)) (f := ((ps.drop ac).take (len - ac)).flatMap (·.2)) rfl (by rw [List.length_map, List.length_take, List.length_drop]; have := HPL.out; omega) (fun j u h => by rw [Addr.add_lit]; have := HNW2.out j u h; simpa using this) HAL3.out (fun g2 e hm => by have h1 := HFP.out _ (part_mem hm); have h2 := HCW.out.size; have h3 := HH7.out g2 e; omega) (by rw [List.length_map, List.length_take, List.length_drop]; have := HL7.out; have := HPL.out; simp only [maxLen]; omega) (by rw [List.length_map, List.length_take, List.length_drop]; have := HL7.out; have := HPL.out; omega) ?_
        intro v11 w11 h11 ho11 hh11 hc11
        have HQ11 := hid (HQ7.out.trans hc11 (fun y hy => .inr (by cases h7 with | none => simp at hy | some y4 => simp at hy; subst hy; exact HH7.out _ rfl)))
        have HH11 := hid (show ∀ y, h11 = some y → wd.heap.size ≤ y from fun y e => by rcases hh11 with rfl | rfl; exact HH7.out y e; cases e; exact HQ7.out.size)
        have HO11 := hid ho11; clear ho11 hh11 hc11
        have HSH11 := hid (shr_of HO11.out HH11.out (Nat.le_trans HN0.out HCW.out.size) (ps := ps) (fq := fq) HFP.out HFQ.out (by rw [HY7.out]; simp))
        refine hK.out _ _ (HSI.out _ (Know.of (HQ11.out.keep0 HBX.out))) (fun hS14 => ?_)
        clear hK K
        try simp only [Act.put, pA, pB, pC]
        refine rgT 12 hS14 ?_
        refine wpAnyH_done (by kernel_rfl) ?_ _
        go_wp2_with fail
        have HF := hid (And.intro HSH11.out (HCW.out.trans0 HQ11.out))
        go_roundw
        case rel => exact ⟨j + 1, _, _, rfl, by omega, rfl, HSS2, by have := HF.out.1; rw [HY7.out, HY4.out, HNEW.out] at this; exact this.row, HF.out.2⟩
        case measure => simp [intOf]; omega
     ·have bnj : (nv != (j : Int)) = true := by simpa using hnj
      have HDS := hid (show livF rs (j + 1) = livF rs j from livF_no HR0.out (pb_false (P := r.kind = 1 ∧ 0 ≤ r.length ∧ nwI rs r.name rs.length = j) (fun h => hnj (hnv.trans h.2.2))))
      have HSR := hid (show Rwd n0 w3 (.slice (some ⟨g, 0, none⟩) len cap) xs from hshr HROWQ.out HPM.out HLX.out HGN.out HCP.out HFP.out HQ3.out)
      clear hk1 hln hnj hnv
      go_wp2_with fail
      refine HNW.out.mono ?_
      rintro e w' ⟨rfl, rfl⟩
      go_wp2_with fail
      go_roundw
      case rel => exact ⟨j + 1, xs, _, rfl, by omega, rfl, by rw [HDS.out]; exact HSS, HSR.out, HC3.out⟩
      case measure => simp [intOf]; omega
    ·have bln : decide (r.length < 0) = true := by simp; omega
     have HDS := hid (show livF rs (j + 1) = livF rs j from livF_no HR0.out (pb_false (P := r.kind = 1 ∧ 0 ≤ r.length ∧ nwI rs r.name rs.length = j) (fun h => hln h.2.1)))
     have HSR := hid (show Rwd n0 w3 (.slice (some ⟨g, 0, none⟩) len cap) xs from hshr HROWQ.out HPM.out HLX.out HGN.out HCP.out HFP.out HQ3.out)
     clear hk1 hln hnv
     go_wp2_with fail
     go_roundw
     case rel => exact ⟨j + 1, xs, _, rfl, by omega, rfl, by rw [HDS.out]; exact HSS, HSR.out, HC3.out⟩
     case measure => simp [intOf]; omega
   ·have bk1 : (r.kind != 1) = true := by simpa using hk1
    have HDS := hid (show livF rs (j + 1) = livF rs j from livF_no HR0.out (pb_false (P := r.kind = 1 ∧ 0 ≤ r.length ∧ nwI rs r.name rs.length = j) (fun h => hk1 h.1)))
    have HSR := hid (show Rwd n0 w3 (.slice (some ⟨g, 0, none⟩) len cap) xs from hshr HROWQ.out HPM.out HLX.out HGN.out HCP.out HFP.out HQ3.out)
    clear hk1 hnv
    go_wp2_with fail
    go_roundw
    case rel => exact ⟨j + 1, xs, _, rfl, by omega, rfl, by rw [HDS.out]; exact HSS, HSR.out, HC3.out⟩
    case measure => simp [intOf]; omega
  ·obtain rfl : j = l1 := by omega
   have e9 : livF rs j = livF rs rs.length := by rw [HL1.out]
   rw [e9] at HSS
   have hu := liv_uniq HSS.out.1 HSS.out.2
   have HR := hid (SlR.of rfl hsh hc)
   clear hsh hc e9
   go_wp2_with fail
   go_ret
   have h9 := HR.out
   rw [hu] at h9
   exact h9
def wtI (zs : List Rec) : Int := zs.foldl (fun a r => IntKind.i64.wrap (a + (r.data.length : Int))) 0
theorem wtI_next {zs : List Rec} {k l : Nat} {r : Rec} {n : Int} (h : zs[k]? = some r) (hn : n = wtI (zs.take k)) (hl : l = r.data.length) : wtI (zs.take (k + 1)) = IntKind.i64.wrap (n + (l : Int)) := by
 rw [hn, hl]
 unfold wtI
 rw [take_next h, List.foldl_append]; rfl
noncomputable def waiR (x : Wld) : Int × Int := if x.fault = 0 then (0, wtI (livL (cntL x.tapes))) else (x.fault, 0)
theorem waiR_bad {x : Wld} (h : ¬ x.fault = 0) : waiR x = (x.fault, 0) := if_neg h
theorem waiR_ok {x : Wld} (h : x.fault = 0) : waiR x = (0, wtI (livL (cntL x.tapes))) := if_pos h
theorem recV_live {s : Shp} {r : Rec} (hd : 1 ≤ s.data ∧ s.data ≤ 3) (h : recV s r = 0) (hk : r.kind = 1) (hl : r.length ≠ -1) : 0 ≤ r.length := by
 by_cases h2 : 1 ≤ r.seq ∧ r.seq ≤ 1000000000
 ·rw [recV_1 hk h2] at h
  have h3 : itemV s r = 0 := Classical.byContradiction fun hn => by rw [if_neg hn] at h; exact hn h
  unfold itemV at h3
  split at h3
  ·split at h3
   ·rename_i hp
    have := of_pb hp
    unfold ItemOk at this
    rw [if_neg hl] at this
    have := (parts0 hd this.1).1
    omega
   ·cases h3
  ·rename_i hn; exact absurd h3 hn
 ·rw [recV_seq (by omega) h2] at h; cases h
theorem fault_live {x : Wld} (hf : x.fault = 0) : ∀ r ∈ cntL x.tapes, r.kind = 1 → r.length ≠ -1 → 0 ≤ r.length := fun r hr hk hl => by
 obtain ⟨t, ht, h⟩ := cntL_mem hr
 have hok := fault_ok0 hf
 exact recV_live (by unfold Shp.ok at hok; omega) (fault_recV hf t ht r h) hk hl
set_option maxRecDepth 100000 in
set_option maxHeartbeats 4000000 in
theorem waiting_any (m : Nat) {u0 u1 u2 u3 u4 u5 u6 u7 u8 u9 u10 u12 u13 u14 : Value} (a12 : Option Addr) (l12 c12 : Nat) (f12 : List Nat) (ts : List Tap) (w : World) (h : w.heap[m]? = some (.cells #[u0, u1, u2, u3, u4, u5, u6, u7, u8, u9, u10, .slice a12 l12 c12, u12, u13, u14] 34 (0, 0))) (h12 : tapL.sl w a12 l12 c12 ts f12) (hz : (ts.flatMap (·.recs)).length ≤ 400) (hlv : ∀ r ∈ cntL ts, r.kind = 1 → r.length ≠ -1 → 0 ≤ r.length) :
  Calls Tryz.prog 109 #[.pointer (some ⟨m, 0, none⟩)] w fun e w' => e = .returned (.int .i64 (wtI (livL (cntL ts)))) ∧ Chg [] w w' := by
 have HN := hid (newest_any sortRecs_ok m a12 l12 c12 f12 ts w h h12 hz hlv)
 clear h h12 hz hlv
 go_enter Tryz.func109, Tryz.ntmps109
 go_wp2_with fail
 refine HN.out.mono ?_
 rintro e w2 ⟨a, l, c, f, rfl, hs, hc⟩
 obtain ⟨zs, hzs⟩ : ∃ zs, zs = livL (cntL ts) := ⟨_, rfl⟩
 rw [← hzs] at hs
 have HZS := hid hzs; have HS := hid hs; have HC := hid hc; have HL := hid hs.1
 have hla := recL.sl_max hs
 clear hs hc hzs HN
 go_wp2_with fail
 go_loopw [3, 9] (fun vs vi wr => ∃ (k : Nat) (Wr : World), Wr = wr ∧ k ≤ l ∧ vi = .int .i64 k ∧ vs = .int .i64 (wtI (zs.take k)) ∧ recL.sl wr a l c zs f ∧ Chg [] w wr) (fun _ vi _ => l - (intOf vi).toNat)
 case atStart => exact ⟨0, _, rfl, by omega, rfl, rfl, HS.out, HC.out⟩
 case round =>
  obtain ⟨k, wr, rfl, hk, rfl, rfl, hs, hc⟩ := hrel
  obtain ⟨n, hn⟩ : ∃ n, n = wtI (zs.take k) := ⟨_, rfl⟩
  rw [← hn]
  by_cases hlt : k < l
  ·obtain ⟨r, b2, off2, cy, fq, HR, rfl, HCE, HXS⟩ := rec_at2 hs hlt
   obtain ⟨a6, l6, c6, f6, a7, l7, c7, f7, a8, l8, c8, f8, hcy, -, -, -, -, -, -, -, h7, -⟩ := recL_iff.1 HXS.out
   subst hcy
   have HNX := hid (wtI_next (k := k) HR.out.1 hn h7.1)
   have hm7 := byteL.sl_max h7
   
   have g1 : Chg [] wr (wr.alloc (.cells #[.int .i64 r.kind, .int .i64 r.seq, .string r.name, .int .i64 r.length, .int .i64 r.group, .int .i64 r.row, .slice a6 l6 c6, .slice a7 l7 c7, .slice a8 l8 c8] 67)) := (Chg.refl [] wr).alloc _
   have HSB := hid (recL.sl_ext hs g1); have HCB := hid (hc.trans0 g1)
   clear hs hc g1 HR HXS hn h7
   go_wp2_with (first | (go_at_call 185; refine (sizeB_any _ _ _ _ hm7).mono ?_; rintro e w' ⟨rfl, rfl⟩) | (refine load_rowL rfl _ 67 rfl rfl infoRc Tryz.underlying67 HCE.out.2.1 HCE.out.1 ?_))
   go_roundw
   case rel => exact ⟨k + 1, _, rfl, by omega, by go_num, by rw [HNX.out, IntWalk.i64_left], HSB.out, HCB.out⟩
   case measure => simp [intOf]; omega
  ·obtain rfl : k = l := by omega
   have HE := hid (show n = wtI (livL (cntL ts)) by rw [hn, List.take_of_length_le (by have := HL.out; omega), HZS.out])
   have HC2 := hid hc
   clear hs hc hn
   go_wp2_with fail
   go_ret
   exact ⟨by rw [HE.out]; rfl, HC2.out⟩
set_option maxRecDepth 100000 in
set_option maxHeartbeats 4000000 in
theorem l6Waiting_any (a1 : Option Addr) (l1 c1 : Nat) (rs : List Rec) (f1 : List Nat) (w : World) (ha : recL.sl w a1 l1 c1 rs f1) (hl : rs.length ≤ 400) :
  Calls Tryz.prog 108 #[.slice a1 l1 c1] w fun e w' => e = .returned (.int .i64 (wtI (livL rs))) ∧ Chg [] w w' := by
 have HN := hid (l6Live_any a1 l1 c1 rs f1 w ha hl)
 clear ha hl
 go_enter Tryz.func108, Tryz.ntmps108
 go_wp2_with fail
 refine HN.out.mono ?_
 rintro e w2 ⟨a, l, c, f, rfl, hs, hc⟩
 obtain ⟨zs, hzs⟩ : ∃ zs, zs = livL rs := ⟨_, rfl⟩
 rw [← hzs] at hs
 have HZS := hid hzs; have HS := hid hs; have HC := hid hc; have HL := hid hs.1
 have hla := recL.sl_max hs
 clear hs hc hzs HN
 go_wp2_with fail
 go_loopw [4, 5] (fun vs vi wr => ∃ (k : Nat) (Wr : World), Wr = wr ∧ k ≤ l ∧ vi = .int .i64 k ∧ vs = .int .i64 (wtI (zs.take k)) ∧ recL.sl wr a l c zs f ∧ Chg [] w wr) (fun _ vi _ => l - (intOf vi).toNat)
 case atStart => exact ⟨0, _, rfl, by omega, rfl, rfl, HS.out, HC.out⟩
 case round =>
  obtain ⟨k, wr, rfl, hk, rfl, rfl, hs, hc⟩ := hrel
  obtain ⟨n, hn⟩ : ∃ n, n = wtI (zs.take k) := ⟨_, rfl⟩
  rw [← hn]
  by_cases hlt : k < l
  ·obtain ⟨r, b2, off2, cy, fq, HR, rfl, HCE, HXS⟩ := rec_at2 hs hlt
   obtain ⟨a6, l6, c6, f6, a7, l7, c7, f7, a8, l8, c8, f8, hcy, -, -, -, -, -, -, -, h7, -⟩ := recL_iff.1 HXS.out
   subst hcy
   have HNX := hid (wtI_next (k := k) HR.out.1 hn h7.1)
   have hm7 := byteL.sl_max h7
   
   have hq7 : wr.cell? ⟨b2, off2 + k * 9 + 7, none⟩ = some (.slice a7 l7 c7) := HCE.out.2.1 7 _ rfl
   have HSB := hid hs; have HCB := hid hc
   clear hs hc HR HXS hn h7
   go_wp2_with fail
   go_roundw
   case rel => exact ⟨k + 1, _, rfl, by omega, by go_num, by rw [HNX.out, IntWalk.i64_left], HSB.out, HCB.out⟩
   case measure => simp [intOf]; omega
  ·obtain rfl : k = l := by omega
   have HE := hid (show n = wtI (livL rs) by rw [hn, List.take_of_length_le (by have := HL.out; omega), HZS.out])
   have HC2 := hid hc
   clear hs hc hn
   go_wp2_with fail
   go_ret
   exact ⟨by rw [HE.out]; rfl, HC2.out⟩
end Go.Proofs.YtphmpimgbmedbaaGreat
