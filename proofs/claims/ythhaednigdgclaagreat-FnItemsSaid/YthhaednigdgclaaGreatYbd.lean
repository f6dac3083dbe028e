/- Several texts in one. -/
import Derived.Test.YthhaednigdgclaaGreatYbb
import Derived.Test.YthhaednigdgclaaGreatYbc
import Derived.Deep.CutBlock
open Go.Value renaming int → I, slice → Aa, string → Ab, bool → Ac
open Go.IntKind renaming i64 → J
open Go.Obj renaming cells → Ad
open List renaming length_take → CE, length_map → CF, length_singleton → CG, drop_zero → CH, length_drop → CI, length_nil → CK, mem_append → CL, length_append → CN, nil_append → CO, getElem?_eq_none → CQ, getElem?_eq_getElem → CS, mem_filter → CU, take_of_length_le → CV, mem_cons → CW, mem_singleton → CX, getElem?_map → CY, ext_getElem? → CZ, filter_cons → Db
open Go.Act renaming put → CJ
open Go.Addr renaming add_lit → CM
open Nat renaming le_trans → CP, le_refl → Da
open And renaming intro → CR
set_option maxRecDepth 100000
set_option maxHeartbeats 8000000
namespace Go.Proofs.YthhaednigdgclaaGreat
open Go.RowKit
open Go.Lib (hid)
theorem l6Newest_any (a : Option Addr) (l c : Nat) (xs : List Rec) (f : List Nat) (nm : ByteArray) (w : World) (ha : recL.sl w a l c xs f) :
  Calls Tryz.prog 68 #[Aa a l c, Ab nm] w fun e w' => e = .returned (I J (nwI xs nm xs.length)) ∧ w = w' := by
 have hla := recL.sl_max ha;have HA := hid ha; have HL := hid ha.1;clear ha;go_enter Tryz.func68, Tryz.ntmps68;go_wp2_with fail;go_loopw [5, 6] (fun vm vi wr => ∃ (k : Nat) (Wr : World), Wr = wr ∧ k ≤ l ∧ vi = I J k ∧ vm = I J (nwI xs nm k) ∧ Hid (w = wr)) (fun _ vi _ => l - (intOf vi).toNat)
 case atStart => exact ⟨0, _, rfl, by omega, rfl, rfl, hid rfl⟩
 case round =>
  obtain ⟨k, wr, rfl, hk, rfl, rfl, HW⟩ := hrel;by_cases hlt : k < l
  ·obtain ⟨r, b2, off2, a6, l6, c6, a7, l7, c7, a8, l8, c8, fq, HR, rfl, BD, hq1, hq2, hq3, hq4, hq5, hq6, hq7, hq8, AO⟩ := q6m (show recL.sl wr a l c xs f from HW.o ▸ HA.o) hlt;have Bu := hid HR.o.1;clear HR AO;by_cases h1 : r.kD = 1
   ·have bh1 : (r.kD == 1) = true := by simp [h1]
    by_cases h2 : r.nM = nm
    ·have bh2 : (r.nM.toList == nm.toList) = true := by rw [h2]; simp
     have Cf := hid (show nwI xs nm (k + 1) = (k : Int) by rw [q6g Bu.o, q0e (P := r.kD = 1 ∧ r.nM = nm) ⟨h1, h2⟩]; rfl);clear h1 h2;go_wp2_with fail;go_roundw
     case rel => exact ⟨k + 1, _, rfl, by omega, by go_num, by rw [Cf.o], HW⟩
     case measure => simp [intOf]; omega
    ·have bh2 : (r.nM.toList == nm.toList) = false := by exact q5l h2
     have Cf := hid (show nwI xs nm (k + 1) = nwI xs nm k by rw [q6g Bu.o, q0d (P := r.kD = 1 ∧ r.nM = nm) (fun h => h2 h.2)]; rfl);clear h1 h2;go_wp2_with fail;go_roundw
     case rel => exact ⟨k + 1, _, rfl, by omega, by go_num, by rw [Cf.o], HW⟩
     case measure => simp [intOf]; omega
   ·have bh1 : (r.kD == 1) = false := by simpa using h1
    have Cf := hid (show nwI xs nm (k + 1) = nwI xs nm k by rw [q6g Bu.o, q0d (P := r.kD = 1 ∧ r.nM = nm) (fun h => h1 h.1)]; rfl);clear h1;go_wp2_with fail;go_roundw
    case rel => exact ⟨k + 1, _, rfl, by omega, by go_num, by rw [Cf.o], HW⟩
    case measure => simp [intOf]; omega
  ·have HR := hid (show nwI xs nm xs.length = nwI xs nm k by rw [← HL.o, show k = l by omega]);go_wp2_with fail;go_ret;exact ⟨by rw [HR.o]; rfl, HW.o⟩
theorem l6Live_any (a : Option Addr) (l1 c1 : Nat) (rs : List Rec) (f : List Nat) (w : World) (hs : recL.sl w a l1 c1 rs f) (hz : rs.length ≤ 400) :
  Calls Tryz.prog 36 #[Aa a l1 c1] w (SlR (livL rs) w) := by
 obtain ⟨KR, _⟩ := q4y;obtain ⟨n0, BL⟩ : ∃ n0, n0 = w.heap.size := ⟨_, rfl⟩;have hn0 : n0 ≤ w.heap.size := by omega
 have BA := hid hn0;have HF0 := hid (show ∀ y ∈ f, y < n0 from fun y hy => by rw [BL]; exact recL.sl_lt hs y hy);have HRS := hid hs; have HL1 := hid hs.1;have hl4 : l1 ≤ 400 := by have := hs.1; omega
 clear hs hz BL;go_enter Tryz.func36, Tryz.ntmps36;go_wp2_with fail;go_loopw [3, 4] (fun vo vj wq => ∃ (j : Nat) (out : List Rec) (Wq : World), Wq = wq ∧ j ≤ l1 ∧ vj = I J j ∧ Hid (Srt q2z out ∧ Stab q2z (livF rs j) out) ∧ Rwd n0 wq vo out ∧ Chg [] w wq) (fun _ vj _ => l1 - (intOf vj).toNat)
 case atStart => exact ⟨0, [], _, rfl, by omega, rfl, hid ⟨List.Pairwise.nil, Stab.refl _⟩, (Shr.made BA.o).row, (Chg.refl [] w).alloc _⟩
 case round =>
  obtain ⟨j, xs, wq, rfl, hj, rfl, Br, Ck, hc⟩ := hrel;by_cases Cm : j < l1
  ·obtain ⟨r, b2, off2, a6, l6, c6, a7, l7, c7, a8, l8, c8, fq, HR, rfl, BD, hq1, hq2, hq3, hq4, hq5, hq6, hq7, hq8, AO⟩ := q6m (recL.sl_ext HRS.o hc) Cm;obtain ⟨g, cap, ps, rfl, hrow, Cl, hg, BN, hcm, hfp⟩ := Ck;have hbd : xs.length ≤ 1000000 := by
    have h1 := livF_len rs j;have h3 := Br.o.2.1;omega
   have AL := hid (show ∀ y, (∃ p ∈ ps, y ∈ p.2) → y < n0 from fun y ⟨p, hp, hy⟩ => hfp p hp y hy);have Bc := hid (fun y (hy : y ∈ fq) => HF0.o y (HR.o.2.2 y hy));have BH := hid Cl; have Cz := hid hg; have BB := hid (CR BN hcm);obtain ⟨len, hlen⟩ : ∃ len, len = xs.length := ⟨_, rfl⟩;have Bp := hid hlen;have hpl : ps.length = len := by rw [hlen, ← Cl, CF]
   have Ai := hid hpl;rw [← hlen] at hbd ⊢;have AX := hid hrow; have Bu := hid HR.o.1;obtain ⟨B6, Co⟩ : ∃ B6, B6 = wq.heap.size := ⟨_, rfl⟩;obtain ⟨w3, hw3⟩ : ∃ w3, w3 = wq.alloc (.cells #[I J r.kD, I J r.seq, Ab r.nM, I J r.length, I J r.gP, I J r.row, Aa a6 l6 c6, Aa a7 l7 c7, Aa a8 l8 c8] 38) := ⟨_, rfl⟩;have B7 := hid (show Chg [] wq w3 by rw [hw3]; exact (Chg.refl [] wq).alloc _);have Cj := hid (show w3.heap[B6]? = some (.cells #[I J r.kD, I J r.seq, Ab r.nM, I J r.length, I J r.gP, I J r.row, Aa a6 l6 c6, Aa a7 l7 c7, Aa a8 l8 c8] 38 (0, 0)) by rw [hw3, Co]; exact q0k wq _);have Cg := hid (hc.trans0 B7.o);have Ba := hid (l6Newest_any (some ⟨b2, off2, none⟩) l1 c1 rs f r.nM w3 (recL.sl_ext HRS.o Cg.o));obtain ⟨nv, Bz⟩ : ∃ nv, nv = nwI rs r.nM rs.length := ⟨_, rfl⟩;rw [← Bz] at Ba;clear HR hrow Cl hg BN hcm hfp hlen hpl hc;go_upto_region 6 with fail;rw [← hw3, ← Co];have c3 := cellsOf Cj.o; have n3 := ltOf Cj.o;clear BD hq1 hq2 hq3 hq4 hq5 hq6 hq7 hq8 Co hw3;by_cases Bt : r.kD = 1
   ·have bk1 : (r.kD != 1) = false := by simp [Bt]
    by_cases BM : 0 ≤ r.length
    ·have bln : decide (r.length < 0) = false := by simp; omega
     by_cases BG : nv = (j : Int)
     ·have bnj : (nv != (j : Int)) = false := by simp [BG]
      have Bv := hid (show livF rs (j + 1) = livF rs j ++ [r] from q8t Bu.o (q0e (P := r.kD = 1 ∧ 0 ≤ r.length ∧ nwI rs r.nM rs.length = j) ⟨Bt, BM, Bz.symm.trans BG⟩));clear Bt BM BG Bz;go_upto_region 7 with fail;refine Ba.o.mono ?_;rintro e w' ⟨rfl, rfl⟩;go_upto_block 2 with fail
      go_cut [6] from 36 to 50 (fun s6 wz => ∃ ac : Nat, s6 = I J ac ∧ ac ≤ len ∧ Hid (Srt q2z (xs.take ac ++ (r :: xs.drop ac)) ∧ Stab q2z (livF rs (j + 1)) (xs.take ac ++ (r :: xs.drop ac))) ∧ Chg [] w3 wz)
      case first =>
       go_wp2_with fail;go_loopw [6] (fun va wx => ∃ (ac : Nat) (Wx : World), Wx = wx ∧ ac ≤ len ∧ va = I J ac ∧ Hid (∀ x ∈ xs.drop ac, q2z r x = true) ∧ Chg [] w3 wx) (fun va _ => (intOf va).toNat)
       case atStart => exact ⟨len, _, rfl, Da _, rfl, hid (show ∀ x ∈ xs.drop len, q2z r x = true from fun x hx => by rw [Bp.o, List.drop_length] at hx; cases hx), Chg.refl _ _⟩
       case round =>
        obtain ⟨ac, wx, rfl, Cp, rfl, C0, Ci⟩ := hrel;have Cx := hid Ci;have Af := hid (Ci.keep0 Cj.o);have Cc := hid (AX.o.ext (B7.o.trans0 Ci));clear Ci;by_cases h0 : 0 < ac
        ·obtain ⟨z, hz0⟩ : ∃ z, z = ac - 1 := ⟨_, rfl⟩;have hwz : IntKind.i64.wrap ((ac : Int) - 1) = (z : Int) := by rw [IntWalk.i64_in _ ⟨by omega, by omega⟩]; omega
         have hzl : z < len := by omega
         have hgt : (0 : Int) < (ac : Int) := by omega
         obtain ⟨p, hp⟩ : ∃ p, ps[z]? = some p := ⟨_, CS (by have := Ai.o; omega)⟩;obtain ⟨cy, ry, -, ky⟩ := q1n Cc.o hp;obtain ⟨b6, m6, d6, g6, b7, m7, d7, g7, b8, m8, d8, g8, Bq, -⟩ := q0m.1 ry;subst Bq;have HPN := hid (show wx.drew.cell? ⟨g, z * 9 + 2, none⟩ = some (Ab p.1.nM) from by have h := ky.2.1 2 _ rfl; rw [Nat.zero_add] at h; exact h);have hxz : xs[z]? = some p.1 := by rw [← BH.o, CY, hp]; rfl
         have HXZ := hid hxz; have Cw := hid hz0;clear ry ky hp hxz hz0;cases hl : q2z r p.1
         ·have hbl : Go.Op.bytesLess r.nM.toList p.1.nM.toList = false := hl;have Cy := hid hl;clear hl;go_wp2_with fail;obtain ⟨SS, Ag, Bo⟩ := q0f (fun w' => Know B6 #[I J r.kD, I J r.seq, Ab r.nM, I J r.length, I J r.gP, I J r.row, Aa a6 l6 c6, Aa a7 l7 c7, Aa a8 l8 c8] w' ∧ w'.cell? ⟨g, z * 9 + 2, none⟩ = some (Ab p.1.nM));have Ae := Ag.o _ ⟨(Know.of (q0a Af.o)), HPN.o⟩;refine q0g SS (by kernel_rfl) Ae ?_;refine rgT 0 Ae ?_;refine rgT 1 Ae ?_;refine rgT 2 Ae ?_;refine rgT 3 Ae ?_;refine rgL 4 Ae Bo ?_;refine rgT 5 Ae ?_;refine rgT 6 Ae ?_;refine rgT 7 Ae ?_;refine rgT 8 Ae ?_;refine rgT 9 Ae ?_;refine rgL 10 Ae Bo ?_;refine rgT 11 Ae ?_;refine rgT 12 Ae ?_;refine wDn ?_
          skip
          go_wp2_with fail;go_meet;exact ⟨ac, rfl, Cp, (show Srt q2z (xs.take ac ++ (r :: xs.drop ac)) ∧ Stab q2z (livF rs (j + 1)) (xs.take ac ++ (r :: xs.drop ac)) from stop_ssG q2k Br.o Bv.o C0.o (fun _ => ⟨p.1, by rw [← Cw.o]; exact HXZ.o, Cy.o⟩)), Cx.o.drew⟩
         ·have hbl : Go.Op.bytesLess r.nM.toList p.1.nM.toList = true := hl;have Cy := hid hl;clear hl;go_wp2_with fail;obtain ⟨SS, Ag, Bo⟩ := q0f (fun w' => Know B6 #[I J r.kD, I J r.seq, Ab r.nM, I J r.length, I J r.gP, I J r.row, Aa a6 l6 c6, Aa a7 l7 c7, Aa a8 l8 c8] w' ∧ w'.cell? ⟨g, z * 9 + 2, none⟩ = some (Ab p.1.nM));have Ae := Ag.o _ ⟨(Know.of (q0a Af.o)), HPN.o⟩;refine q0g SS (by kernel_rfl) Ae ?_;refine rgT 0 Ae ?_;refine rgT 1 Ae ?_;refine rgT 2 Ae ?_;refine rgT 3 Ae ?_;refine rgL 4 Ae Bo ?_;refine rgT 5 Ae ?_;refine rgT 6 Ae ?_;refine rgT 7 Ae ?_;refine rgT 8 Ae ?_;refine rgT 9 Ae ?_;refine rgL 10 Ae Bo ?_;refine rgT 11 Ae ?_;refine rgT 12 Ae ?_;refine wDn ?_
          skip
          go_wp2_with fail;go_roundw
          case rel => exact ⟨z, _, rfl, by omega, by go_num, hid (drop_aheadG C0.o HXZ.o Cy.o Cw.o h0), Cx.o.drew⟩
          case measure => have := Cw.o; simp [intOf]; omega
        ·have hgt : ¬ ((0 : Int) < (ac : Int)) := by omega
         go_wp2_with fail;obtain ⟨SS, Ag, Bo⟩ := q0f (fun w' => True);have Ae := Ag.o wx.drew trivial;refine q0g SS (by kernel_rfl) Ae ?_;refine rgT 0 Ae ?_;refine rgT 1 Ae ?_;refine rgT 2 Ae ?_;refine rgS 3 Ae ?_;refine rgS 4 Ae ?_;refine rgS 5 Ae ?_;refine rgS 6 Ae ?_;refine rgS 7 Ae ?_;refine rgS 8 Ae ?_;refine rgS 9 Ae ?_;refine rgS 10 Ae ?_;refine rgS 11 Ae ?_;refine rgT 12 Ae ?_;refine wDn ?_
         skip
         go_wp2_with fail;go_meet;exact ⟨ac, rfl, Cp, (show Srt q2z (xs.take ac ++ (r :: xs.drop ac)) ∧ Stab q2z (livF rs (j + 1)) (xs.take ac ++ (r :: xs.drop ac)) from stop_ssG q2k Br.o Bv.o C0.o (fun h => absurd h h0)), Cx.o.drew⟩
      case rest =>
      revert wc; intro wy hcut;obtain ⟨ac, rfl, Cp, Bb, Bq⟩ := hcut;have Aj := hid (Cg.o.trans0 Bq); have Ah := hid (AX.o.ext (B7.o.trans0 Bq)); have BZ := hid (recL.ext AO.o (B7.o.trans0 Bq)); have Af := hid (Bq.keep0 Cj.o);clear AO Bq c3 n3;have AO := BZ;clear BZ;have AK := hid (show ∀ n, n = xs.length - ac → (([] ++ ((ps.drop 0).take ac).map (·.1)) ++ [r]) ++ ((ps.drop ac).take n).map (·.1) = xs.take ac ++ (r :: xs.drop ac) from fun n hn => by
       have hl : ps.length = xs.length := by rw [← BH.o, CF]
       rw [CH, CV (l := ps.drop ac) (by rw [CI]; omega), List.map_take, List.map_drop, BH.o];simp)
      by_cases hca : cap = ac
      ·subst hca;have AK := hid (AK.o (len - cap) (by have := Bp.o; omega));go_wp2_with fail;obtain ⟨SS, Ag, Bo⟩ := q0f (fun w' => Know B6 #[I J r.kD, I J r.seq, Ab r.nM, I J r.length, I J r.gP, I J r.row, Aa a6 l6 c6, Aa a7 l7 c7, Aa a8 l8 c8] w');have Ae := Ag.o _ (Know.of (q0a Af.o));refine q0g SS (by kernel_rfl) Ae ?_;obtain ⟨wd, hwd⟩ : ∃ wd, wd = wy.drew := ⟨_, rfl⟩;have Bj := hid (show Chg [] wy wd by rw [hwd]; exact (Chg.refl [] wy).drew);rw [← hwd] at Ae ⊢;clear hwd;have Ch := hid (Bj.o.keep0 Af.o);have Ce := hid (Ah.o.ext Bj.o); have Bw := hid (Aj.o.trans0 Bj.o); have Ca := hid (recL.ext AO.o Bj.o);clear Af Ah Aj AO Bj;have Af := Ch; have Ah := Ce; have Aj := Bw; have AO := Ca;clear Ch Ce Bw Ca;refine rgT 1 Ae ?_;refine rgT 2 Ae ?_;refine rgT 3 Ae ?_;refine rgL 5 Ae Bo ?_;refine rgT 8 Ae ?_;refine rgT 9 Ae ?_;refine rgT 10 Ae ?_;refine q4k 0 6 rfl rfl (by kernel_rfl) (fun K hK => ?_) (fun K hK => ?_)
       ·have HM := hid (q5t wd (wd.heap.size) (by simp));go_simp;refine hK.out _ _ (Ag.o _ (Know.of (((Chg.refl [] wd).alloc (.cells #[] 38)).keep0 Af.o))) (fun hS1 => ?_);clear hK K;try simp only [CJ, pA, pB, pC]
        refine q4k 4 6 rfl rfl (by kernel_rfl) (fun K hK => ?_) (fun K hK => ?_)
        ·obtain ⟨nw, AP, AV⟩ := q1t (Ah.o.ext ((Chg.refl [] wd).alloc (.cells #[] 38))) (i := 0) (n := cap) (by have := Ai.o; omega);have Ba := hid AP; have AH := hid AV; clear AP AV;refine recL.step_append rfl _ _ 32 rfl Tryz.underlying32 KR rfl HM.o ⟨g, 0, none⟩ cap cap nw (ys := ((ps.drop 0).take cap).map (·.1)) (f := ((ps.drop 0).take cap).flatMap (·.2)) rfl (by rw [CF, CE, CH]; have := Ai.o; omega) (fun j u h => by rw [CM]; have := Ba.o j u h; simpa using this) AH.o (fun g2 e hm => by cases e; have h1 := AL.o _ (q1o hm); have h2 := Aj.o.size; omega) (by rw [CF, CE, CH]; simp only [CK, maxLen]; omega) (by rw [CF, CE, CH]; simp only [CK]; omega) ?_;intro v4 w4 h4 Ay AR AJ;obtain ⟨y4, Aw⟩ : ∃ y4, y4 = [] ++ ((ps.drop 0).take cap).map (·.1) := ⟨_, rfl⟩;rw [← Aw] at Ay;have AC := hid (show y4.length ≤ 1000000 by rw [Aw, CO, CF, CE, CH]; omega); have Bf := hid Aw;clear Aw;have Au := hid (((Chg.refl [] wd).alloc (.cells #[] 38)).trans AJ (fun y hy => .inr (by simp at hy; omega)));obtain ⟨a4, c4, rfl⟩ := recL.os_len Ay;have Bi := hid Ay; have AE := hid (show ∀ y, h4 = some y → wd.heap.size ≤ y from fun y e => by rcases AR with rfl | rfl <;> cases e <;> simp <;> omega);clear Ay AR AJ;refine hK.out _ _ (Ag.o _ (Know.of (Au.o.keep0 Af.o))) (fun hS2 => ?_);clear hK K;try simp only [CJ, pA, pB, pC]
         refine rgq 6 (fun K hK => ?_);have Bg := hid (show (w4.alloc (.cells #[I J r.kD, I J r.seq, Ab r.nM, I J r.length, I J r.gP, I J r.row, Aa a6 l6 c6, Aa a7 l7 c7, Aa a8 l8 c8] 38)).heap[w4.heap.size]? = some (.cells #[I J r.kD, I J r.seq, Ab r.nM, I J r.length, I J r.gP, I J r.row, Aa a6 l6 c6, Aa a7 l7 c7, Aa a8 l8 c8] 38 (0, 0)) from q0c (by simp) _);go_simp;refine hK.out _ _ (Ag.o _ (Know.of ((Au.o.alloc (.cells #[I J r.kD, I J r.seq, Ab r.nM, I J r.length, I J r.gP, I J r.row, Aa a6 l6 c6, Aa a7 l7 c7, Aa a8 l8 c8] 38)).keep0 Af.o))) (fun hS3 => ?_);clear hK K;try simp only [CJ, pA, pB, pC]
         refine rgq 7 (fun K hK => ?_);refine recL.step_append rfl _ _ 32 rfl Tryz.underlying32 KR rfl (recL.os_alloc Bi.o (.cells #[I J r.kD, I J r.seq, Ab r.nM, I J r.length, I J r.gP, I J r.row, Aa a6 l6 c6, Aa a7 l7 c7, Aa a8 l8 c8] 38)) ⟨w4.heap.size, 0, none⟩ 1 1 [I J r.kD, I J r.seq, Ab r.nM, I J r.length, I J r.gP, I J r.row, Aa a6 l6 c6, Aa a7 l7 c7, Aa a8 l8 c8] (ys := [r]) (f := fq) rfl rfl (q2f Bg.o) (recL.all_single (recL.ext AO.o (Au.o.alloc (.cells #[I J r.kD, I J r.seq, Ab r.nM, I J r.length, I J r.gP, I J r.row, Aa a6 l6 c6, Aa a7 l7 c7, Aa a8 l8 c8] 38)))) (fun g2 e hm => by have h1 := Bc.o g2 hm; have h2 := Aj.o.size; have h3 := AE.o g2 e; omega) (by have := AC.o; simp only [CG, maxLen]; omega) (by have := AC.o; simp only [CG]; omega) ?_;intro v7 w7 h7 Ax AQ AU;obtain ⟨y7, Av⟩ : ∃ y7, y7 = y4 ++ [r] := ⟨_, rfl⟩;rw [← Av] at Ax;have AY := hid (show y7.length ≤ 1000001 by rw [Av, CN, CG]; have := AC.o; omega); have AW := hid Av;clear Av;have Az := hid ((Au.o.alloc (.cells #[I J r.kD, I J r.seq, Ab r.nM, I J r.length, I J r.gP, I J r.row, Aa a6 l6 c6, Aa a7 l7 c7, Aa a8 l8 c8] 38)).trans AU (fun y hy => .inr (by cases h4 with | none => simp at hy | some y4 => simp at hy; subst hy; exact AE.o _ rfl)));obtain ⟨BV, BU, rfl⟩ := recL.os_len Ax;have Bh := hid Ax; have AD := hid (show ∀ y, h7 = some y → wd.heap.size ≤ y from fun y e => by rcases AQ with rfl | rfl; exact AE.o y e; cases e; exact (Au.o.alloc (.cells #[I J r.kD, I J r.seq, Ab r.nM, I J r.length, I J r.gP, I J r.row, Aa a6 l6 c6, Aa a7 l7 c7, Aa a8 l8 c8] 38)).size);clear Ax AQ AU;refine hK.out _ _ (Ag.o _ (Know.of (Az.o.keep0 Af.o))) (fun hS4 => ?_);clear hK K;try simp only [CJ, pA, pB, pC]
         refine rgq 11 (fun K hK => ?_);obtain ⟨Be, Al, Ap⟩ := q1t (Ah.o.ext Az.o) (i := cap) (n := len - cap) (by have := Ai.o; omega);have AB := hid Al; have A9 := hid Ap; clear Al Ap;refine recL.step_append rfl _ _ 32 rfl Tryz.underlying32 KR rfl Bh.o ⟨g, 0, none⟩ (len - cap) 0 Be (ys := ((ps.drop cap).take (len - cap)).map (·.1)) (f := ((ps.drop cap).take (len - cap)).flatMap (·.2)) rfl (by rw [CF, CE, CI]; have := Ai.o; omega) (fun j u h => by rw [CM]; have := AB.o j u h; have hl := recL.all_len A9.o; rw [show len - cap = 0 by have := BB.o.1; have := Bp.o; omega] at hl; simp at hl; subst hl; simp at h) A9.o (fun g2 e hm => by have h1 := AL.o _ (q1o hm); have h2 := Aj.o.size; have h3 := AD.o g2 e; omega) (by rw [CF, CE, CI]; have := AY.o; have := Ai.o; simp only [maxLen]; omega) (by rw [CF, CE, CI]; have := AY.o; have := Ai.o; omega) ?_;intro v11 BI h11 Ak Am Ao;have Ar := hid (Az.o.trans Ao (fun y hy => .inr (by cases h7 with | none => simp at hy | some y4 => simp at hy; subst hy; exact AD.o _ rfl)));have AG := hid (show ∀ y, h11 = some y → wd.heap.size ≤ y from fun y e => by rcases Am with rfl | rfl; exact AD.o y e; cases e; exact Az.o.size);have AA := hid Ak; clear Ak Am Ao;have Aq := hid (q5g AA.o AG.o (CP BA.o Aj.o.size) (ps := ps) (fq := fq) AL.o Bc.o (by rw [AW.o]; simp));refine hK.out _ _ (Ag.o _ (Know.of (Ar.o.keep0 Af.o))) (fun Cr => ?_);clear hK K;try simp only [CJ, pA, pB, pC]
         refine rgT 12 Cr ?_;refine wDn ?_;go_wp2_with fail;have HF := hid (CR Aq.o (Aj.o.trans0 Ar.o));go_roundw
         case rel => exact ⟨j + 1, _, _, rfl, by omega, rfl, Bb, by have := HF.o.1; rw [AW.o, Bf.o, AK.o] at this; exact this.row, HF.o.2⟩
         case measure => simp [intOf]; omega
        ·have Bg := hid (show ((wd.alloc (.cells #[] 38)).alloc (.cells #[I J r.kD, I J r.seq, Ab r.nM, I J r.length, I J r.gP, I J r.row, Aa a6 l6 c6, Aa a7 l7 c7, Aa a8 l8 c8] 38)).heap[wd.heap.size + 1]? = some (.cells #[I J r.kD, I J r.seq, Ab r.nM, I J r.length, I J r.gP, I J r.row, Aa a6 l6 c6, Aa a7 l7 c7, Aa a8 l8 c8] 38 (0, 0)) from q0c (by simp) _);go_simp;refine hK.out _ _ (Ag.o _ (Know.of ((((Chg.refl [] wd).alloc (.cells #[] 38)).alloc (.cells #[I J r.kD, I J r.seq, Ab r.nM, I J r.length, I J r.gP, I J r.row, Aa a6 l6 c6, Aa a7 l7 c7, Aa a8 l8 c8] 38)).keep0 Af.o))) (fun hS6 => ?_);clear hK K;try simp only [CJ, pA, pB, pC]
         refine rgq 4 (fun K hK => ?_);obtain ⟨nw, AP, AV⟩ := q1t (Ah.o.ext (((Chg.refl [] wd).alloc (.cells #[] 38)).alloc (.cells #[I J r.kD, I J r.seq, Ab r.nM, I J r.length, I J r.gP, I J r.row, Aa a6 l6 c6, Aa a7 l7 c7, Aa a8 l8 c8] 38))) (i := 0) (n := cap) (by have := Ai.o; omega);have Ba := hid AP; have AH := hid AV; clear AP AV;refine recL.step_append rfl _ _ 32 rfl Tryz.underlying32 KR rfl (recL.os_alloc HM.o (.cells #[I J r.kD, I J r.seq, Ab r.nM, I J r.length, I J r.gP, I J r.row, Aa a6 l6 c6, Aa a7 l7 c7, Aa a8 l8 c8] 38)) ⟨g, 0, none⟩ cap cap nw (ys := ((ps.drop 0).take cap).map (·.1)) (f := ((ps.drop 0).take cap).flatMap (·.2)) rfl (by rw [CF, CE, CH]; have := Ai.o; omega) (fun j u h => by rw [CM]; have := Ba.o j u h; simpa using this) AH.o (fun g2 e hm => by cases e; have h1 := AL.o _ (q1o hm); have h2 := Aj.o.size; omega) (by rw [CF, CE, CH]; simp only [CK, maxLen]; omega) (by rw [CF, CE, CH]; simp only [CK]; omega) ?_;intro v4 w4 h4 Ay AR AJ;obtain ⟨y4, Aw⟩ : ∃ y4, y4 = [] ++ ((ps.drop 0).take cap).map (·.1) := ⟨_, rfl⟩;rw [← Aw] at Ay;have AC := hid (show y4.length ≤ 1000000 by rw [Aw, CO, CF, CE, CH]; omega); have Bf := hid Aw;clear Aw;have Au := hid ((((Chg.refl [] wd).alloc (.cells #[] 38)).alloc (.cells #[I J r.kD, I J r.seq, Ab r.nM, I J r.length, I J r.gP, I J r.row, Aa a6 l6 c6, Aa a7 l7 c7, Aa a8 l8 c8] 38)).trans AJ (fun y hy => .inr (by simp at hy; omega)));obtain ⟨a4, c4, rfl⟩ := recL.os_len Ay;have Bi := hid Ay; have AE := hid (show ∀ y, h4 = some y → wd.heap.size ≤ y from fun y e => by rcases AR with rfl | rfl <;> cases e <;> simp <;> omega);have AZ := hid (AJ.keepb Bg.o (by simp <;> omega));clear Ay AR AJ;refine hK.out _ _ (Ag.o _ (Know.of (Au.o.keep0 Af.o))) (fun hS7 => ?_);clear hK K;try simp only [CJ, pA, pB, pC]
         refine rgq 7 (fun K hK => ?_);refine recL.step_append rfl _ _ 32 rfl Tryz.underlying32 KR rfl Bi.o ⟨wd.heap.size + 1, 0, none⟩ 1 1 [I J r.kD, I J r.seq, Ab r.nM, I J r.length, I J r.gP, I J r.row, Aa a6 l6 c6, Aa a7 l7 c7, Aa a8 l8 c8] (ys := [r]) (f := fq) rfl rfl (q2f AZ.o) (recL.all_single (recL.ext AO.o Au.o)) (fun g2 e hm => by have h1 := Bc.o g2 hm; have h2 := Aj.o.size; have h3 := AE.o g2 e; omega) (by have := AC.o; simp only [CG, maxLen]; omega) (by have := AC.o; simp only [CG]; omega) ?_;intro v7 w7 h7 Ax AQ AU;obtain ⟨y7, Av⟩ : ∃ y7, y7 = y4 ++ [r] := ⟨_, rfl⟩;rw [← Av] at Ax;have AY := hid (show y7.length ≤ 1000001 by rw [Av, CN, CG]; have := AC.o; omega); have AW := hid Av;clear Av;have Az := hid (Au.o.trans AU (fun y hy => .inr (by cases h4 with | none => simp at hy | some y4 => simp at hy; subst hy; exact AE.o _ rfl)));obtain ⟨BV, BU, rfl⟩ := recL.os_len Ax;have Bh := hid Ax; have AD := hid (show ∀ y, h7 = some y → wd.heap.size ≤ y from fun y e => by rcases AQ with rfl | rfl; exact AE.o y e; cases e; exact Au.o.size);clear Ax AQ AU;refine hK.out _ _ (Ag.o _ (Know.of (Az.o.keep0 Af.o))) (fun hS8 => ?_);clear hK K;try simp only [CJ, pA, pB, pC]
         refine rgq 11 (fun K hK => ?_);obtain ⟨Be, Al, Ap⟩ := q1t (Ah.o.ext Az.o) (i := cap) (n := len - cap) (by have := Ai.o; omega);have AB := hid Al; have A9 := hid Ap; clear Al Ap;refine recL.step_append rfl _ _ 32 rfl Tryz.underlying32 KR rfl Bh.o ⟨g, 0, none⟩ (len - cap) 0 Be (ys := ((ps.drop cap).take (len - cap)).map (·.1)) (f := ((ps.drop cap).take (len - cap)).flatMap (·.2)) rfl (by rw [CF, CE, CI]; have := Ai.o; omega) (fun j u h => by rw [CM]; have := AB.o j u h; have hl := recL.all_len A9.o; rw [show len - cap = 0 by have := BB.o.1; have := Bp.o; omega] at hl; simp at hl; subst hl; simp at h) A9.o (fun g2 e hm => by have h1 := AL.o _ (q1o hm); have h2 := Aj.o.size; have h3 := AD.o g2 e; omega) (by rw [CF, CE, CI]; have := AY.o; have := Ai.o; simp only [maxLen]; omega) (by rw [CF, CE, CI]; have := AY.o; have := Ai.o; omega) ?_;intro v11 BI h11 Ak Am Ao;have Ar := hid (Az.o.trans Ao (fun y hy => .inr (by cases h7 with | none => simp at hy | some y4 => simp at hy; subst hy; exact AD.o _ rfl)));have AG := hid (show ∀ y, h11 = some y → wd.heap.size ≤ y from fun y e => by rcases Am with rfl | rfl; exact AD.o y e; cases e; exact Az.o.size);have AA := hid Ak; clear Ak Am Ao;have Aq := hid (q5g AA.o AG.o (CP BA.o Aj.o.size) (ps := ps) (fq := fq) AL.o Bc.o (by rw [AW.o]; simp));refine hK.out _ _ (Ag.o _ (Know.of (Ar.o.keep0 Af.o))) (fun Cq => ?_);clear hK K;try simp only [CJ, pA, pB, pC]
         refine rgT 12 Cq ?_;refine wDn ?_;go_wp2_with fail;have HF := hid (CR Aq.o (Aj.o.trans0 Ar.o));go_roundw
         case rel => exact ⟨j + 1, _, _, rfl, by omega, rfl, Bb, by have := HF.o.1; rw [AW.o, Bf.o, AK.o] at this; exact this.row, HF.o.2⟩
         case measure => simp [intOf]; omega
       ·have Bg := hid (show (wd.alloc (.cells #[I J r.kD, I J r.seq, Ab r.nM, I J r.length, I J r.gP, I J r.row, Aa a6 l6 c6, Aa a7 l7 c7, Aa a8 l8 c8] 38)).heap[wd.heap.size]? = some (.cells #[I J r.kD, I J r.seq, Ab r.nM, I J r.length, I J r.gP, I J r.row, Aa a6 l6 c6, Aa a7 l7 c7, Aa a8 l8 c8] 38 (0, 0)) from q0c (by simp) _);go_simp;refine hK.out _ _ (Ag.o _ (Know.of (((Chg.refl [] wd).alloc (.cells #[I J r.kD, I J r.seq, Ab r.nM, I J r.length, I J r.gP, I J r.row, Aa a6 l6 c6, Aa a7 l7 c7, Aa a8 l8 c8] 38)).keep0 Af.o))) (fun Cv => ?_);clear hK K;try simp only [CJ, pA, pB, pC]
        refine rgq 0 (fun K hK => ?_);have HM := hid (q5t (wd.alloc (.cells #[I J r.kD, I J r.seq, Ab r.nM, I J r.length, I J r.gP, I J r.row, Aa a6 l6 c6, Aa a7 l7 c7, Aa a8 l8 c8] 38)) (wd.heap.size + 1) (by simp));go_simp;refine hK.out _ _ (Ag.o _ (Know.of ((((Chg.refl [] wd).alloc (.cells #[I J r.kD, I J r.seq, Ab r.nM, I J r.length, I J r.gP, I J r.row, Aa a6 l6 c6, Aa a7 l7 c7, Aa a8 l8 c8] 38)).alloc (.cells #[] 38)).keep0 Af.o))) (fun Cu => ?_);clear hK K;try simp only [CJ, pA, pB, pC]
        refine rgq 4 (fun K hK => ?_);obtain ⟨nw, AP, AV⟩ := q1t (Ah.o.ext (((Chg.refl [] wd).alloc (.cells #[I J r.kD, I J r.seq, Ab r.nM, I J r.length, I J r.gP, I J r.row, Aa a6 l6 c6, Aa a7 l7 c7, Aa a8 l8 c8] 38)).alloc (.cells #[] 38))) (i := 0) (n := cap) (by have := Ai.o; omega);have Ba := hid AP; have AH := hid AV; clear AP AV;refine recL.step_append rfl _ _ 32 rfl Tryz.underlying32 KR rfl HM.o ⟨g, 0, none⟩ cap cap nw (ys := ((ps.drop 0).take cap).map (·.1)) (f := ((ps.drop 0).take cap).flatMap (·.2)) rfl (by rw [CF, CE, CH]; have := Ai.o; omega) (fun j u h => by rw [CM]; have := Ba.o j u h; simpa using this) AH.o (fun g2 e hm => by cases e; have h1 := AL.o _ (q1o hm); have h2 := Aj.o.size; omega) (by rw [CF, CE, CH]; simp only [CK, maxLen]; omega) (by rw [CF, CE, CH]; simp only [CK]; omega) ?_;intro v4 w4 h4 Ay AR AJ;obtain ⟨y4, Aw⟩ : ∃ y4, y4 = [] ++ ((ps.drop 0).take cap).map (·.1) := ⟨_, rfl⟩;rw [← Aw] at Ay;have AC := hid (show y4.length ≤ 1000000 by rw [Aw, CO, CF, CE, CH]; omega); have Bf := hid Aw;clear Aw;have Au := hid ((((Chg.refl [] wd).alloc (.cells #[I J r.kD, I J r.seq, Ab r.nM, I J r.length, I J r.gP, I J r.row, Aa a6 l6 c6, Aa a7 l7 c7, Aa a8 l8 c8] 38)).alloc (.cells #[] 38)).trans AJ (fun y hy => .inr (by simp at hy; omega)));obtain ⟨a4, c4, rfl⟩ := recL.os_len Ay;have Bi := hid Ay; have AE := hid (show ∀ y, h4 = some y → wd.heap.size ≤ y from fun y e => by rcases AR with rfl | rfl <;> cases e <;> simp <;> omega);have AZ := hid (AJ.keepb (q0b Bg.o (.cells #[] 38)) (by simp <;> omega));clear Ay AR AJ;refine hK.out _ _ (Ag.o _ (Know.of (Au.o.keep0 Af.o))) (fun Ct => ?_);clear hK K;try simp only [CJ, pA, pB, pC]
        refine rgq 7 (fun K hK => ?_);refine recL.step_append rfl _ _ 32 rfl Tryz.underlying32 KR rfl Bi.o ⟨wd.heap.size, 0, none⟩ 1 1 [I J r.kD, I J r.seq, Ab r.nM, I J r.length, I J r.gP, I J r.row, Aa a6 l6 c6, Aa a7 l7 c7, Aa a8 l8 c8] (ys := [r]) (f := fq) rfl rfl (q2f AZ.o) (recL.all_single (recL.ext AO.o Au.o)) (fun g2 e hm => by have h1 := Bc.o g2 hm; have h2 := Aj.o.size; have h3 := AE.o g2 e; omega) (by have := AC.o; simp only [CG, maxLen]; omega) (by have := AC.o; simp only [CG]; omega) ?_;intro v7 w7 h7 Ax AQ AU;obtain ⟨y7, Av⟩ : ∃ y7, y7 = y4 ++ [r] := ⟨_, rfl⟩;rw [← Av] at Ax;have AY := hid (show y7.length ≤ 1000001 by rw [Av, CN, CG]; have := AC.o; omega); have AW := hid Av;clear Av;have Az := hid (Au.o.trans AU (fun y hy => .inr (by cases h4 with | none => simp at hy | some y4 => simp at hy; subst hy; exact AE.o _ rfl)));obtain ⟨BV, BU, rfl⟩ := recL.os_len Ax;have Bh := hid Ax; have AD := hid (show ∀ y, h7 = some y → wd.heap.size ≤ y from fun y e => by rcases AQ with rfl | rfl; exact AE.o y e; cases e; exact Au.o.size);clear Ax AQ AU;refine hK.out _ _ (Ag.o _ (Know.of (Az.o.keep0 Af.o))) (fun Cs => ?_);clear hK K;try simp only [CJ, pA, pB, pC]
        refine rgq 11 (fun K hK => ?_);obtain ⟨Be, Al, Ap⟩ := q1t (Ah.o.ext Az.o) (i := cap) (n := len - cap) (by have := Ai.o; omega);have AB := hid Al; have A9 := hid Ap; clear Al Ap;refine recL.step_append rfl _ _ 32 rfl Tryz.underlying32 KR rfl Bh.o ⟨g, 0, none⟩ (len - cap) 0 Be (ys := ((ps.drop cap).take (len - cap)).map (·.1)) (f := ((ps.drop cap).take (len - cap)).flatMap (·.2)) rfl (by rw [CF, CE, CI]; have := Ai.o; omega) (fun j u h => by rw [CM]; have := AB.o j u h; have hl := recL.all_len A9.o; rw [show len - cap = 0 by have := BB.o.1; have := Bp.o; omega] at hl; simp at hl; subst hl; simp at h) A9.o (fun g2 e hm => by have h1 := AL.o _ (q1o hm); have h2 := Aj.o.size; have h3 := AD.o g2 e; omega) (by rw [CF, CE, CI]; have := AY.o; have := Ai.o; simp only [maxLen]; omega) (by rw [CF, CE, CI]; have := AY.o; have := Ai.o; omega) ?_;intro v11 BI h11 Ak Am Ao;have Ar := hid (Az.o.trans Ao (fun y hy => .inr (by cases h7 with | none => simp at hy | some y4 => simp at hy; subst hy; exact AD.o _ rfl)));have AG := hid (show ∀ y, h11 = some y → wd.heap.size ≤ y from fun y e => by rcases Am with rfl | rfl; exact AD.o y e; cases e; exact Az.o.size);have AA := hid Ak; clear Ak Am Ao;have Aq := hid (q5g AA.o AG.o (CP BA.o Aj.o.size) (ps := ps) (fq := fq) AL.o Bc.o (by rw [AW.o]; simp));refine hK.out _ _ (Ag.o _ (Know.of (Ar.o.keep0 Af.o))) (fun B5 => ?_);clear hK K;try simp only [CJ, pA, pB, pC]
        refine rgT 12 B5 ?_;refine wDn ?_;go_wp2_with fail;have HF := hid (CR Aq.o (Aj.o.trans0 Ar.o));go_roundw
        case rel => exact ⟨j + 1, _, _, rfl, by omega, rfl, Bb, by have := HF.o.1; rw [AW.o, Bf.o, AK.o] at this; exact this.row, HF.o.2⟩
        case measure => simp [intOf]; omega
      ·have AK := hid (AK.o (len - ac) (by have := Bp.o; omega));have hacc : ac ≤ cap := by have := BB.o.1; have := Bp.o; omega
       go_wp2_with fail;obtain ⟨SS, Ag, Bo⟩ := q0f (fun w' => Know B6 #[I J r.kD, I J r.seq, Ab r.nM, I J r.length, I J r.gP, I J r.row, Aa a6 l6 c6, Aa a7 l7 c7, Aa a8 l8 c8] w');have Ae := Ag.o _ (Know.of (q0a Af.o));refine q0g SS (by kernel_rfl) Ae ?_;obtain ⟨wd, hwd⟩ : ∃ wd, wd = wy.drew := ⟨_, rfl⟩;have Bj := hid (show Chg [] wy wd by rw [hwd]; exact (Chg.refl [] wy).drew);rw [← hwd] at Ae ⊢;clear hwd;have Ch := hid (Bj.o.keep0 Af.o);have Ce := hid (Ah.o.ext Bj.o); have Bw := hid (Aj.o.trans0 Bj.o); have Ca := hid (recL.ext AO.o Bj.o);clear Af Ah Aj AO Bj;have Af := Ch; have Ah := Ce; have Aj := Bw; have AO := Ca;clear Ch Ce Bw Ca;refine rgT 1 Ae ?_;refine rgT 2 Ae ?_;refine rgT 3 Ae ?_;refine rgL 5 Ae Bo ?_;refine rgT 8 Ae ?_;refine rgT 9 Ae ?_;refine rgT 10 Ae ?_;refine q4k 0 6 rfl rfl (by kernel_rfl) (fun K hK => ?_) (fun K hK => ?_)
       ·have HM := hid (q5t wd (wd.heap.size) (by simp));go_simp;refine hK.out _ _ (Ag.o _ (Know.of (((Chg.refl [] wd).alloc (.cells #[] 38)).keep0 Af.o))) (fun hS1 => ?_);clear hK K;try simp only [CJ, pA, pB, pC]
        refine q4k 4 6 rfl rfl (by kernel_rfl) (fun K hK => ?_) (fun K hK => ?_)
        ·obtain ⟨nw, AP, AV⟩ := q1t (Ah.o.ext ((Chg.refl [] wd).alloc (.cells #[] 38))) (i := 0) (n := ac) (by have := Ai.o; omega);have Ba := hid AP; have AH := hid AV; clear AP AV;refine recL.step_append rfl _ _ 32 rfl Tryz.underlying32 KR rfl HM.o ⟨g, 0, none⟩ ac cap nw (ys := ((ps.drop 0).take ac).map (·.1)) (f := ((ps.drop 0).take ac).flatMap (·.2)) rfl (by rw [CF, CE, CH]; have := Ai.o; omega) (fun j u h => by rw [CM]; have := Ba.o j u h; simpa using this) AH.o (fun g2 e hm => by cases e; have h1 := AL.o _ (q1o hm); have h2 := Aj.o.size; omega) (by rw [CF, CE, CH]; simp only [CK, maxLen]; omega) (by rw [CF, CE, CH]; simp only [CK]; omega) ?_;intro v4 w4 h4 Ay AR AJ;obtain ⟨y4, Aw⟩ : ∃ y4, y4 = [] ++ ((ps.drop 0).take ac).map (·.1) := ⟨_, rfl⟩;rw [← Aw] at Ay;have AC := hid (show y4.length ≤ 1000000 by rw [Aw, CO, CF, CE, CH]; omega); have Bf := hid Aw;clear Aw;have Au := hid (((Chg.refl [] wd).alloc (.cells #[] 38)).trans AJ (fun y hy => .inr (by simp at hy; omega)));obtain ⟨a4, c4, rfl⟩ := recL.os_len Ay;have Bi := hid Ay; have AE := hid (show ∀ y, h4 = some y → wd.heap.size ≤ y from fun y e => by rcases AR with rfl | rfl <;> cases e <;> simp <;> omega);clear Ay AR AJ;refine hK.out _ _ (Ag.o _ (Know.of (Au.o.keep0 Af.o))) (fun hS2 => ?_);clear hK K;try simp only [CJ, pA, pB, pC]
         refine rgq 6 (fun K hK => ?_);have Bg := hid (show (w4.alloc (.cells #[I J r.kD, I J r.seq, Ab r.nM, I J r.length, I J r.gP, I J r.row, Aa a6 l6 c6, Aa a7 l7 c7, Aa a8 l8 c8] 38)).heap[w4.heap.size]? = some (.cells #[I J r.kD, I J r.seq, Ab r.nM, I J r.length, I J r.gP, I J r.row, Aa a6 l6 c6, Aa a7 l7 c7, Aa a8 l8 c8] 38 (0, 0)) from q0c (by simp) _);go_simp;refine hK.out _ _ (Ag.o _ (Know.of ((Au.o.alloc (.cells #[I J r.kD, I J r.seq, Ab r.nM, I J r.length, I J r.gP, I J r.row, Aa a6 l6 c6, Aa a7 l7 c7, Aa a8 l8 c8] 38)).keep0 Af.o))) (fun hS3 => ?_);clear hK K;try simp only [CJ, pA, pB, pC]
         refine rgq 7 (fun K hK => ?_);refine recL.step_append rfl _ _ 32 rfl Tryz.underlying32 KR rfl (recL.os_alloc Bi.o (.cells #[I J r.kD, I J r.seq, Ab r.nM, I J r.length, I J r.gP, I J r.row, Aa a6 l6 c6, Aa a7 l7 c7, Aa a8 l8 c8] 38)) ⟨w4.heap.size, 0, none⟩ 1 1 [I J r.kD, I J r.seq, Ab r.nM, I J r.length, I J r.gP, I J r.row, Aa a6 l6 c6, Aa a7 l7 c7, Aa a8 l8 c8] (ys := [r]) (f := fq) rfl rfl (q2f Bg.o) (recL.all_single (recL.ext AO.o (Au.o.alloc (.cells #[I J r.kD, I J r.seq, Ab r.nM, I J r.length, I J r.gP, I J r.row, Aa a6 l6 c6, Aa a7 l7 c7, Aa a8 l8 c8] 38)))) (fun g2 e hm => by have h1 := Bc.o g2 hm; have h2 := Aj.o.size; have h3 := AE.o g2 e; omega) (by have := AC.o; simp only [CG, maxLen]; omega) (by have := AC.o; simp only [CG]; omega) ?_;intro v7 w7 h7 Ax AQ AU;obtain ⟨y7, Av⟩ : ∃ y7, y7 = y4 ++ [r] := ⟨_, rfl⟩;rw [← Av] at Ax;have AY := hid (show y7.length ≤ 1000001 by rw [Av, CN, CG]; have := AC.o; omega); have AW := hid Av;clear Av;have Az := hid ((Au.o.alloc (.cells #[I J r.kD, I J r.seq, Ab r.nM, I J r.length, I J r.gP, I J r.row, Aa a6 l6 c6, Aa a7 l7 c7, Aa a8 l8 c8] 38)).trans AU (fun y hy => .inr (by cases h4 with | none => simp at hy | some y4 => simp at hy; subst hy; exact AE.o _ rfl)));obtain ⟨BV, BU, rfl⟩ := recL.os_len Ax;have Bh := hid Ax; have AD := hid (show ∀ y, h7 = some y → wd.heap.size ≤ y from fun y e => by rcases AQ with rfl | rfl; exact AE.o y e; cases e; exact (Au.o.alloc (.cells #[I J r.kD, I J r.seq, Ab r.nM, I J r.length, I J r.gP, I J r.row, Aa a6 l6 c6, Aa a7 l7 c7, Aa a8 l8 c8] 38)).size);clear Ax AQ AU;refine hK.out _ _ (Ag.o _ (Know.of (Az.o.keep0 Af.o))) (fun hS4 => ?_);clear hK K;try simp only [CJ, pA, pB, pC]
         refine rgq 11 (fun K hK => ?_);obtain ⟨Be, Al, Ap⟩ := q1t (Ah.o.ext Az.o) (i := ac) (n := len - ac) (by have := Ai.o; omega);have AB := hid Al; have A9 := hid Ap; clear Al Ap;refine recL.step_append rfl _ _ 32 rfl Tryz.underlying32 KR rfl Bh.o ⟨g, ac * 9, none⟩ (len - ac) (cap - ac) Be (ys := ((ps.drop ac).take (len - ac)).map (·.1)) (f := ((ps.drop ac).take (len - ac)).flatMap (·.2)) rfl (by rw [CF, CE, CI]; have := Ai.o; omega) (fun j u h => by rw [CM]; have := AB.o j u h; simpa using this) A9.o (fun g2 e hm => by have h1 := AL.o _ (q1o hm); have h2 := Aj.o.size; have h3 := AD.o g2 e; omega) (by rw [CF, CE, CI]; have := AY.o; have := Ai.o; simp only [maxLen]; omega) (by rw [CF, CE, CI]; have := AY.o; have := Ai.o; omega) ?_;intro v11 BI h11 Ak Am Ao;have Ar := hid (Az.o.trans Ao (fun y hy => .inr (by cases h7 with | none => simp at hy | some y4 => simp at hy; subst hy; exact AD.o _ rfl)));have AG := hid (show ∀ y, h11 = some y → wd.heap.size ≤ y from fun y e => by rcases Am with rfl | rfl; exact AD.o y e; cases e; exact Az.o.size);have AA := hid Ak; clear Ak Am Ao;have Aq := hid (q5g AA.o AG.o (CP BA.o Aj.o.size) (ps := ps) (fq := fq) AL.o Bc.o (by rw [AW.o]; simp));refine hK.out _ _ (Ag.o _ (Know.of (Ar.o.keep0 Af.o))) (fun Cr => ?_);clear hK K;try simp only [CJ, pA, pB, pC]
         refine rgT 12 Cr ?_;refine wDn ?_;go_wp2_with fail;have HF := hid (CR Aq.o (Aj.o.trans0 Ar.o));go_roundw
         case rel => exact ⟨j + 1, _, _, rfl, by omega, rfl, Bb, by have := HF.o.1; rw [AW.o, Bf.o, AK.o] at this; exact this.row, HF.o.2⟩
         case measure => simp [intOf]; omega
        ·have Bg := hid (show ((wd.alloc (.cells #[] 38)).alloc (.cells #[I J r.kD, I J r.seq, Ab r.nM, I J r.length, I J r.gP, I J r.row, Aa a6 l6 c6, Aa a7 l7 c7, Aa a8 l8 c8] 38)).heap[wd.heap.size + 1]? = some (.cells #[I J r.kD, I J r.seq, Ab r.nM, I J r.length, I J r.gP, I J r.row, Aa a6 l6 c6, Aa a7 l7 c7, Aa a8 l8 c8] 38 (0, 0)) from q0c (by simp) _);go_simp;refine hK.out _ _ (Ag.o _ (Know.of ((((Chg.refl [] wd).alloc (.cells #[] 38)).alloc (.cells #[I J r.kD, I J r.seq, Ab r.nM, I J r.length, I J r.gP, I J r.row, Aa a6 l6 c6, Aa a7 l7 c7, Aa a8 l8 c8] 38)).keep0 Af.o))) (fun hS6 => ?_);clear hK K;try simp only [CJ, pA, pB, pC]
         refine rgq 4 (fun K hK => ?_);obtain ⟨nw, AP, AV⟩ := q1t (Ah.o.ext (((Chg.refl [] wd).alloc (.cells #[] 38)).alloc (.cells #[I J r.kD, I J r.seq, Ab r.nM, I J r.length, I J r.gP, I J r.row, Aa a6 l6 c6, Aa a7 l7 c7, Aa a8 l8 c8] 38))) (i := 0) (n := ac) (by have := Ai.o; omega);have Ba := hid AP; have AH := hid AV; clear AP AV;refine recL.step_append rfl _ _ 32 rfl Tryz.underlying32 KR rfl (recL.os_alloc HM.o (.cells #[I J r.kD, I J r.seq, Ab r.nM, I J r.length, I J r.gP, I J r.row, Aa a6 l6 c6, Aa a7 l7 c7, Aa a8 l8 c8] 38)) ⟨g, 0, none⟩ ac cap nw (ys := ((ps.drop 0).take ac).map (·.1)) (f := ((ps.drop 0).take ac).flatMap (·.2)) rfl (by rw [CF, CE, CH]; have := Ai.o; omega) (fun j u h => by rw [CM]; have := Ba.o j u h; simpa using this) AH.o (fun g2 e hm => by cases e; have h1 := AL.o _ (q1o hm); have h2 := Aj.o.size; omega) (by rw [CF, CE, CH]; simp only [CK, maxLen]; omega) (by rw [CF, CE, CH]; simp only [CK]; omega) ?_;intro v4 w4 h4 Ay AR AJ;obtain ⟨y4, Aw⟩ : ∃ y4, y4 = [] ++ ((ps.drop 0).take ac).map (·.1) := ⟨_, rfl⟩;rw [← Aw] at Ay;have AC := hid (show y4.length ≤ 1000000 by rw [Aw, CO, CF, CE, CH]; omega); have Bf := hid Aw;clear Aw;have Au := hid ((((Chg.refl [] wd).alloc (.cells #[] 38)).alloc (.cells #[I J r.kD, I J r.seq, Ab r.nM, I J r.length, I J r.gP, I J r.row, Aa a6 l6 c6, Aa a7 l7 c7, Aa a8 l8 c8] 38)).trans AJ (fun y hy => .inr (by simp at hy; omega)));obtain ⟨a4, c4, rfl⟩ := recL.os_len Ay;have Bi := hid Ay; have AE := hid (show ∀ y, h4 = some y → wd.heap.size ≤ y from fun y e => by rcases AR with rfl | rfl <;> cases e <;> simp <;> omega);have AZ := hid (AJ.keepb Bg.o (by simp <;> omega));clear Ay AR AJ;refine hK.out _ _ (Ag.o _ (Know.of (Au.o.keep0 Af.o))) (fun hS7 => ?_);clear hK K;try simp only [CJ, pA, pB, pC]
         refine rgq 7 (fun K hK => ?_);refine recL.step_append rfl _ _ 32 rfl Tryz.underlying32 KR rfl Bi.o ⟨wd.heap.size + 1, 0, none⟩ 1 1 [I J r.kD, I J r.seq, Ab r.nM, I J r.length, I J r.gP, I J r.row, Aa a6 l6 c6, Aa a7 l7 c7, Aa a8 l8 c8] (ys := [r]) (f := fq) rfl rfl (q2f AZ.o) (recL.all_single (recL.ext AO.o Au.o)) (fun g2 e hm => by have h1 := Bc.o g2 hm; have h2 := Aj.o.size; have h3 := AE.o g2 e; omega) (by have := AC.o; simp only [CG, maxLen]; omega) (by have := AC.o; simp only [CG]; omega) ?_;intro v7 w7 h7 Ax AQ AU;obtain ⟨y7, Av⟩ : ∃ y7, y7 = y4 ++ [r] := ⟨_, rfl⟩;rw [← Av] at Ax;have AY := hid (show y7.length ≤ 1000001 by rw [Av, CN, CG]; have := AC.o; omega); have AW := hid Av;clear Av;have Az := hid (Au.o.trans AU (fun y hy => .inr (by cases h4 with | none => simp at hy | some y4 => simp at hy; subst hy; exact AE.o _ rfl)));obtain ⟨BV, BU, rfl⟩ := recL.os_len Ax;have Bh := hid Ax; have AD := hid (show ∀ y, h7 = some y → wd.heap.size ≤ y from fun y e => by rcases AQ with rfl | rfl; exact AE.o y e; cases e; exact Au.o.size);clear Ax AQ AU;refine hK.out _ _ (Ag.o _ (Know.of (Az.o.keep0 Af.o))) (fun hS8 => ?_);clear hK K;try simp only [CJ, pA, pB, pC]
         refine rgq 11 (fun K hK => ?_);obtain ⟨Be, Al, Ap⟩ := q1t (Ah.o.ext Az.o) (i := ac) (n := len - ac) (by have := Ai.o; omega);have AB := hid Al; have A9 := hid Ap; clear Al Ap;refine recL.step_append rfl _ _ 32 rfl Tryz.underlying32 KR rfl Bh.o ⟨g, ac * 9, none⟩ (len - ac) (cap - ac) Be (ys := ((ps.drop ac).take (len - ac)).map (·.1)) (f := ((ps.drop ac).take (len - ac)).flatMap (·.2)) rfl (by rw [CF, CE, CI]; have := Ai.o; omega) (fun j u h => by rw [CM]; have := AB.o j u h; simpa using this) A9.o (fun g2 e hm => by have h1 := AL.o _ (q1o hm); have h2 := Aj.o.size; have h3 := AD.o g2 e; omega) (by rw [CF, CE, CI]; have := AY.o; have := Ai.o; simp only [maxLen]; omega) (by rw [CF, CE, CI]; have := AY.o; have := Ai.o; omega) ?_;intro v11 BI h11 Ak Am Ao;have Ar := hid (Az.o.trans Ao (fun y hy => .inr (by cases h7 with | none => simp at hy | some y4 => simp at hy; subst hy; exact AD.o _ rfl)));have AG := hid (show ∀ y, h11 = some y → wd.heap.size ≤ y from fun y e => by rcases Am with rfl | rfl; exact AD.o y e; cases e; exact Az.o.size);have AA := hid Ak; clear Ak Am Ao;have Aq := hid (q5g AA.o AG.o (CP BA.o Aj.o.size) (ps := ps) (fq := fq) AL.o Bc.o (by rw [AW.o]; simp));refine hK.out _ _ (Ag.o _ (Know.of (Ar.o.keep0 Af.o))) (fun Cq => ?_);clear hK K;try simp only [CJ, pA, pB, pC]
         refine rgT 12 Cq ?_;refine wDn ?_;go_wp2_with fail;have HF := hid (CR Aq.o (Aj.o.trans0 Ar.o));go_roundw
         case rel => exact ⟨j + 1, _, _, rfl, by omega, rfl, Bb, by have := HF.o.1; rw [AW.o, Bf.o, AK.o] at this; exact this.row, HF.o.2⟩
         case measure => simp [intOf]; omega
       ·have Bg := hid (show (wd.alloc (.cells #[I J r.kD, I J r.seq, Ab r.nM, I J r.length, I J r.gP, I J r.row, Aa a6 l6 c6, Aa a7 l7 c7, Aa a8 l8 c8] 38)).heap[wd.heap.size]? = some (.cells #[I J r.kD, I J r.seq, Ab r.nM, I J r.length, I J r.gP, I J r.row, Aa a6 l6 c6, Aa a7 l7 c7, Aa a8 l8 c8] 38 (0, 0)) from q0c (by simp) _);go_simp;refine hK.out _ _ (Ag.o _ (Know.of (((Chg.refl [] wd).alloc (.cells #[I J r.kD, I J r.seq, Ab r.nM, I J r.length, I J r.gP, I J r.row, Aa a6 l6 c6, Aa a7 l7 c7, Aa a8 l8 c8] 38)).keep0 Af.o))) (fun Cv => ?_);clear hK K;try simp only [CJ, pA, pB, pC]
        refine rgq 0 (fun K hK => ?_);have HM := hid (q5t (wd.alloc (.cells #[I J r.kD, I J r.seq, Ab r.nM, I J r.length, I J r.gP, I J r.row, Aa a6 l6 c6, Aa a7 l7 c7, Aa a8 l8 c8] 38)) (wd.heap.size + 1) (by simp));go_simp;refine hK.out _ _ (Ag.o _ (Know.of ((((Chg.refl [] wd).alloc (.cells #[I J r.kD, I J r.seq, Ab r.nM, I J r.length, I J r.gP, I J r.row, Aa a6 l6 c6, Aa a7 l7 c7, Aa a8 l8 c8] 38)).alloc (.cells #[] 38)).keep0 Af.o))) (fun Cu => ?_);clear hK K;try simp only [CJ, pA, pB, pC]
        refine rgq 4 (fun K hK => ?_);obtain ⟨nw, AP, AV⟩ := q1t (Ah.o.ext (((Chg.refl [] wd).alloc (.cells #[I J r.kD, I J r.seq, Ab r.nM, I J r.length, I J r.gP, I J r.row, Aa a6 l6 c6, Aa a7 l7 c7, Aa a8 l8 c8] 38)).alloc (.cells #[] 38))) (i := 0) (n := ac) (by have := Ai.o; omega);have Ba := hid AP; have AH := hid AV; clear AP AV;refine recL.step_append rfl _ _ 32 rfl Tryz.underlying32 KR rfl HM.o ⟨g, 0, none⟩ ac cap nw (ys := ((ps.drop 0).take ac).map (·.1)) (f := ((ps.drop 0).take ac).flatMap (·.2)) rfl (by rw [CF, CE, CH]; have := Ai.o; omega) (fun j u h => by rw [CM]; have := Ba.o j u h; simpa using this) AH.o (fun g2 e hm => by cases e; have h1 := AL.o _ (q1o hm); have h2 := Aj.o.size; omega) (by rw [CF, CE, CH]; simp only [CK, maxLen]; omega) (by rw [CF, CE, CH]; simp only [CK]; omega) ?_;intro v4 w4 h4 Ay AR AJ;obtain ⟨y4, Aw⟩ : ∃ y4, y4 = [] ++ ((ps.drop 0).take ac).map (·.1) := ⟨_, rfl⟩;rw [← Aw] at Ay;have AC := hid (show y4.length ≤ 1000000 by rw [Aw, CO, CF, CE, CH]; omega); have Bf := hid Aw;clear Aw;have Au := hid ((((Chg.refl [] wd).alloc (.cells #[I J r.kD, I J r.seq, Ab r.nM, I J r.length, I J r.gP, I J r.row, Aa a6 l6 c6, Aa a7 l7 c7, Aa a8 l8 c8] 38)).alloc (.cells #[] 38)).trans AJ (fun y hy => .inr (by simp at hy; omega)));obtain ⟨a4, c4, rfl⟩ := recL.os_len Ay;have Bi := hid Ay; have AE := hid (show ∀ y, h4 = some y → wd.heap.size ≤ y from fun y e => by rcases AR with rfl | rfl <;> cases e <;> simp <;> omega);have AZ := hid (AJ.keepb (q0b Bg.o (.cells #[] 38)) (by simp <;> omega));clear Ay AR AJ;refine hK.out _ _ (Ag.o _ (Know.of (Au.o.keep0 Af.o))) (fun Ct => ?_);clear hK K;try simp only [CJ, pA, pB, pC]
        refine rgq 7 (fun K hK => ?_);refine recL.step_append rfl _ _ 32 rfl Tryz.underlying32 KR rfl Bi.o ⟨wd.heap.size, 0, none⟩ 1 1 [I J r.kD, I J r.seq, Ab r.nM, I J r.length, I J r.gP, I J r.row, Aa a6 l6 c6, Aa a7 l7 c7, Aa a8 l8 c8] (ys := [r]) (f := fq) rfl rfl (q2f AZ.o) (recL.all_single (recL.ext AO.o Au.o)) (fun g2 e hm => by have h1 := Bc.o g2 hm; have h2 := Aj.o.size; have h3 := AE.o g2 e; omega) (by have := AC.o; simp only [CG, maxLen]; omega) (by have := AC.o; simp only [CG]; omega) ?_;intro v7 w7 h7 Ax AQ AU;obtain ⟨y7, Av⟩ : ∃ y7, y7 = y4 ++ [r] := ⟨_, rfl⟩;rw [← Av] at Ax;have AY := hid (show y7.length ≤ 1000001 by rw [Av, CN, CG]; have := AC.o; omega); have AW := hid Av;clear Av;have Az := hid (Au.o.trans AU (fun y hy => .inr (by cases h4 with | none => simp at hy | some y4 => simp at hy; subst hy; exact AE.o _ rfl)));obtain ⟨BV, BU, rfl⟩ := recL.os_len Ax;have Bh := hid Ax; have AD := hid (show ∀ y, h7 = some y → wd.heap.size ≤ y from fun y e => by rcases AQ with rfl | rfl; exact AE.o y e; cases e; exact Au.o.size);clear Ax AQ AU;refine hK.out _ _ (Ag.o _ (Know.of (Az.o.keep0 Af.o))) (fun Cs => ?_);clear hK K;try simp only [CJ, pA, pB, pC]
        refine rgq 11 (fun K hK => ?_);obtain ⟨Be, Al, Ap⟩ := q1t (Ah.o.ext Az.o) (i := ac) (n := len - ac) (by have := Ai.o; omega);have AB := hid Al; have A9 := hid Ap; clear Al Ap;refine recL.step_append rfl _ _ 32 rfl Tryz.underlying32 KR rfl Bh.o ⟨g, ac * 9, none⟩ (len - ac) (cap - ac) Be (ys := ((ps.drop ac).take (len - ac)).map (·.1)) (f := ((ps.drop ac).take (len - ac)).flatMap (·.2)) rfl (by rw [CF, CE, CI]; have := Ai.o; omega) (fun j u h => by rw [CM]; have := AB.o j u h; simpa using this) A9.o (fun g2 e hm => by have h1 := AL.o _ (q1o hm); have h2 := Aj.o.size; have h3 := AD.o g2 e; omega) (by rw [CF, CE, CI]; have := AY.o; have := Ai.o; simp only [maxLen]; omega) (by rw [CF, CE, CI]; have := AY.o; have := Ai.o; omega) ?_;intro v11 BI h11 Ak Am Ao;have Ar := hid (Az.o.trans Ao (fun y hy => .inr (by cases h7 with | none => simp at hy | some y4 => simp at hy; subst hy; exact AD.o _ rfl)));have AG := hid (show ∀ y, h11 = some y → wd.heap.size ≤ y from fun y e => by rcases Am with rfl | rfl; exact AD.o y e; cases e; exact Az.o.size);have AA := hid Ak; clear Ak Am Ao;have Aq := hid (q5g AA.o AG.o (CP BA.o Aj.o.size) (ps := ps) (fq := fq) AL.o Bc.o (by rw [AW.o]; simp));refine hK.out _ _ (Ag.o _ (Know.of (Ar.o.keep0 Af.o))) (fun B5 => ?_);clear hK K;try simp only [CJ, pA, pB, pC]
        refine rgT 12 B5 ?_;refine wDn ?_;go_wp2_with fail;have HF := hid (CR Aq.o (Aj.o.trans0 Ar.o));go_roundw
        case rel => exact ⟨j + 1, _, _, rfl, by omega, rfl, Bb, by have := HF.o.1; rw [AW.o, Bf.o, AK.o] at this; exact this.row, HF.o.2⟩
        case measure => simp [intOf]; omega
     ·have bnj : (nv != (j : Int)) = true := by simpa using BG
      have Bv := hid (show livF rs (j + 1) = livF rs j from q7x Bu.o (q0d (P := r.kD = 1 ∧ 0 ≤ r.length ∧ nwI rs r.nM rs.length = j) (fun h => BG (Bz.trans h.2.2))));have Cb := hid (show Rwd n0 w3 (Aa (some ⟨g, 0, none⟩) len cap) xs from hshr AX.o BH.o Bp.o Cz.o BB.o AL.o B7.o);clear Bt BM BG Bz;go_wp2_with fail;refine Ba.o.mono ?_;rintro e w' ⟨rfl, rfl⟩;go_wp2_with fail;go_roundw
      case rel => exact ⟨j + 1, xs, _, rfl, by omega, rfl, by rw [Bv.o]; exact Br, Cb.o, Cg.o⟩
      case measure => simp [intOf]; omega
    ·have bln : decide (r.length < 0) = true := by simp; omega
     have Bv := hid (show livF rs (j + 1) = livF rs j from q7x Bu.o (q0d (P := r.kD = 1 ∧ 0 ≤ r.length ∧ nwI rs r.nM rs.length = j) (fun h => BM h.2.1)));have Cb := hid (show Rwd n0 w3 (Aa (some ⟨g, 0, none⟩) len cap) xs from hshr AX.o BH.o Bp.o Cz.o BB.o AL.o B7.o);clear Bt BM Bz;go_wp2_with fail;go_roundw
     case rel => exact ⟨j + 1, xs, _, rfl, by omega, rfl, by rw [Bv.o]; exact Br, Cb.o, Cg.o⟩
     case measure => simp [intOf]; omega
   ·have bk1 : (r.kD != 1) = true := by simpa using Bt
    have Bv := hid (show livF rs (j + 1) = livF rs j from q7x Bu.o (q0d (P := r.kD = 1 ∧ 0 ≤ r.length ∧ nwI rs r.nM rs.length = j) (fun h => Bt h.1)));have Cb := hid (show Rwd n0 w3 (Aa (some ⟨g, 0, none⟩) len cap) xs from hshr AX.o BH.o Bp.o Cz.o BB.o AL.o B7.o);clear Bt Bz;go_wp2_with fail;go_roundw
    case rel => exact ⟨j + 1, xs, _, rfl, by omega, rfl, by rw [Bv.o]; exact Br, Cb.o, Cg.o⟩
    case measure => simp [intOf]; omega
  ·obtain rfl : j = l1 := by omega
   have e9 : livF rs j = livF rs rs.length := by rw [HL1.o]
   rw [e9] at Br;have hu := liv_uniq Br.o.1 Br.o.2;have HR := hid (SlR.of rfl Ck hc);clear Ck hc e9;go_wp2_with fail;go_ret;have h9 := HR.o;rw [hu] at h9;exact h9
def wtI (zs : List Rec) : Int := zs.foldl (fun a r => IntKind.i64.wrap (a + (r.data.length : Int))) 0
theorem wtI_next {zs : List Rec} {k l : Nat} {r : Rec} {n : Int} (h : zs[k]? = some r) (hn : n = wtI (zs.take k)) (hl : l = r.data.length) : wtI (zs.take (k + 1)) = IntKind.i64.wrap (n + (l : Int)) := by
 rw [hn, hl];unfold wtI;rw [q1e h, List.foldl_append]; rfl
noncomputable def waiR (x : Wld) : Int × Int := if x.fault = 0 then (0, wtI (livL (cntL x.tapes))) else (x.fault, 0)
theorem waiR_bad {x : Wld} (h : ¬ x.fault = 0) : waiR x = (x.fault, 0) := if_neg h
theorem waiR_ok {x : Wld} (h : x.fault = 0) : waiR x = (0, wtI (livL (cntL x.tapes))) := if_pos h
theorem recV_live {s : Shp} {r : Rec} (hd : 1 ≤ s.data ∧ s.data ≤ 3) (h : recV s r = 0) (hk : r.kD = 1) (hl : r.length ≠ -1) : 0 ≤ r.length := by
 by_cases h2 : 1 ≤ r.seq ∧ r.seq ≤ 1000000000
 ·rw [q8g hk h2] at h;have h3 : q3x s r = 0 := Classical.byContradiction fun hn => by rw [if_neg hn] at h; exact hn h
  unfold q3x at h3
  split at h3
  ·split at h3
   ·rename_i hp
    have := q9h hp;unfold q1h at this;rw [if_neg hl] at this;have := (parts0 hd this.1).1;omega
   ·cases h3
  ·rename_i hn; exact absurd h3 hn
 ·rw [q7d (by omega) h2] at h; cases h
theorem q6k {x : Wld} (hf : x.fault = 0) : ∀ r ∈ cntL x.tapes, r.kD = 1 → r.length ≠ -1 → 0 ≤ r.length := fun r hr hk hl => by
 obtain ⟨t, ht, h⟩ := z1w hr;have BF := q5v hf;exact recV_live (by unfold Shp.ok at BF; omega) (q8b hf t ht r h) hk hl
theorem waiting_any (m : Nat) {u0 u1 u2 u3 u4 u5 u6 u7 u8 u9 u10 u12 u13 u14 : Value} (Bn : Option Addr) (Bl c12 : Nat) (f12 : List Nat) (ts : List Tap) (w : World) (h : w.heap[m]? = some (.cells #[u0, u1, u2, u3, u4, u5, u6, u7, u8, u9, u10, Aa Bn Bl c12, u12, u13, u14] 30 (0, 0))) (BR : tapL.sl w Bn Bl c12 ts f12) (hz : (ts.flatMap (·.rC)).length ≤ 400) (hlv : ∀ r ∈ cntL ts, r.kD = 1 → r.length ≠ -1 → 0 ≤ r.length) :
  Calls Tryz.prog 34 #[.pointer (some ⟨m, 0, none⟩)] w fun e w' => e = .returned (I J (wtI (livL (cntL ts)))) ∧ Chg [] w w' := by
 have HN := hid (q7w q4t m Bn Bl c12 f12 ts w h BR hz hlv);clear h BR hz hlv;go_enter Tryz.func34, Tryz.ntmps34;go_wp2_with fail;refine HN.o.mono ?_;rintro e w2 ⟨a, l, c, f, rfl, hs, hc⟩;obtain ⟨zs, hzs⟩ : ∃ zs, zs = livL (cntL ts) := ⟨_, rfl⟩;rw [← hzs] at hs;have HZS := hid hzs; have HS := hid hs; have HC := hid hc; have HL := hid hs.1;have hla := recL.sl_max hs;clear hs hc hzs HN;go_wp2_with fail;go_loopw [3, 9] (fun vs vi wr => ∃ (k : Nat) (Wr : World), Wr = wr ∧ k ≤ l ∧ vi = I J k ∧ vs = I J (wtI (zs.take k)) ∧ recL.sl wr a l c zs f ∧ Chg [] w wr) (fun _ vi _ => l - (intOf vi).toNat)
 case atStart => exact ⟨0, _, rfl, by omega, rfl, rfl, HS.o, HC.o⟩
 case round =>
  obtain ⟨k, wr, rfl, hk, rfl, rfl, hs, hc⟩ := hrel;obtain ⟨n, hn⟩ : ∃ n, n = wtI (zs.take k) := ⟨_, rfl⟩;rw [← hn];by_cases hlt : k < l
  ·obtain ⟨r, b2, off2, cy, fq, HR, rfl, Bw, AO⟩ := q4w hs hlt;obtain ⟨a6, l6, c6, f6, a7, l7, c7, f7, a8, l8, c8, f8, Bq, -, -, -, -, -, -, -, h7, -⟩ := q0m.1 AO.o;subst Bq;have HNX := hid (wtI_next (k := k) HR.o.1 hn h7.1);have hm7 := q0o.sl_max h7
   
   have g1 : Chg [] wr (wr.alloc (.cells #[I J r.kD, I J r.seq, Ab r.nM, I J r.length, I J r.gP, I J r.row, Aa a6 l6 c6, Aa a7 l7 c7, Aa a8 l8 c8] 38)) := (Chg.refl [] wr).alloc _;have HSB := hid (recL.sl_ext hs g1); have HCB := hid (hc.trans0 g1);clear hs hc g1 HR AO hn h7;go_wp2_with (first | (go_at_call 66; refine (sizeB_any _ _ _ _ hm7).mono ?_; rintro e w' ⟨rfl, rfl⟩) | (refine q3d rfl _ 38 rfl rfl q1b Tryz.underlying38 Bw.o.2.1 Bw.o.1 ?_));go_roundw
   case rel => exact ⟨k + 1, _, rfl, by omega, by go_num, by rw [HNX.o, IntWalk.i64_left], HSB.o, HCB.o⟩
   case measure => simp [intOf]; omega
  ·obtain rfl : k = l := by omega
   have HE := hid (show n = wtI (livL (cntL ts)) by rw [hn, CV (by have := HL.o; omega), HZS.o]);have HC2 := hid hc;clear hs hc hn;go_wp2_with fail;go_ret;exact ⟨by rw [HE.o]; rfl, HC2.o⟩
def homI (s : Shp) (r : Rec) : Int := upTo r.nM r.nM.size % s.gS
def homP (s : Shp) (g : Int) (r : Rec) : Bool := homI s r == g
noncomputable def rowP (g : Int) (r : Rec) : Bool := pb (r.kD = 2 ∧ r.gP = g ∨ r.kD = 4)
def us1 (s : Shp) (g : Int) (zs : List Rec) : List Int := (zs.filter (homP s g)).flatMap (·.rows)
noncomputable def us2 (g : Int) (xs : List Rec) : List Int := (xs.filter (rowP g)).map (·.row)
noncomputable def usdL (s : Shp) (g : Int) (xs : List Rec) : List Int := us1 s g (livL xs) ++ us2 g xs
def tkn (n : Nat) (us : List Int) : List Bool := (List.range n).map (fun k => us.contains ((k : Nat) : Int))
def freK (us : List Int) : Nat → List Int
 | 0 => []
 | k + 1 => freK us k ++ (if us.contains ((k : Nat) : Int) = true then [] else [(k : Int)])
noncomputable def freL (s : Shp) (g : Int) (xs : List Rec) : List Int := freK (usdL s g xs) s.rows.toNat
theorem z1p {us : List Int} {k : Nat} (h : us.contains (k : Int) = false) : freK us (k + 1) = freK us k ++ [(k : Int)] := by
 show freK us k ++ _ = _;rw [if_neg (by rw [h]; simp)]
theorem freK_no {us : List Int} {k : Nat} (h : us.contains (k : Int) = true) : freK us (k + 1) = freK us k := by
 show freK us k ++ _ = _;rw [if_pos h, List.append_nil]
theorem freK_len (us : List Int) : ∀ k, (freK us k).length ≤ k
 | 0 => Da _
 | k + 1 => by
  have := freK_len us k;cases h : us.contains (k : Int)
  ·rw [z1p h, CN, CG]; omega
  ·rw [freK_no h]; omega
theorem z0x (n : Nat) (us : List Int) : (tkn n us).length = n := by unfold tkn; simp
theorem tkn_at {n k : Nat} (us : List Int) (h : k < n) : (tkn n us)[k]? = some (us.contains (k : Int)) := by
 unfold tkn;rw [CY, List.getElem?_range h]; rfl
theorem tkn_nil (n : Nat) : tkn n [] = List.replicate n false := by
 apply CZ;intro i;by_cases h : i < n
 ·rw [tkn_at [] h, List.getElem?_replicate, if_pos h]; rfl
 ·rw [CQ (by rw [z0x]; omega), CQ (by simp; omega)]
theorem tkn_set {n k : Nat} {us : List Int} {v : Int} (hv : v = (k : Int)) (h : k < n) : (tkn n us).set k true = tkn n (us ++ [v]) := by
 apply CZ;intro i;by_cases hi : i < n
 ·rw [tkn_at _ hi, List.getElem?_set, List.contains_append];by_cases e : k = i
  ·subst e;rw [if_pos rfl, if_pos (by rw [z0x]; exact h), hv];simp
  ·rw [if_neg e, tkn_at us hi];have : ([v].contains ((i : Nat) : Int)) = false := by
    rw [hv]; simp; omega
   rw [this, Bool.or_false]
 ·rw [CQ (by rw [List.length_set, z0x]; omega), CQ (by rw [z0x]; omega)]
theorem us1_yes {s : Shp} {g : Int} {zs : List Rec} {k : Nat} {r : Rec} (h : zs[k]? = some r) (hp : homP s g r = true) : us1 s g (zs.take (k + 1)) = us1 s g (zs.take k) ++ r.rows := by
 unfold us1;rw [filt_yes h hp, List.flatMap_append]; simp
theorem us1_no {s : Shp} {g : Int} {zs : List Rec} {k : Nat} {r : Rec} (h : zs[k]? = some r) (hp : homP s g r = false) : us1 s g (zs.take (k + 1)) = us1 s g (zs.take k) := by
 unfold us1;rw [filt_no h hp]
theorem us2_yes {g : Int} {xs : List Rec} {k : Nat} {r : Rec} (h : xs[k]? = some r) (hp : rowP g r = true) : us2 g (xs.take (k + 1)) = us2 g (xs.take k) ++ [r.row] := by
 unfold us2;rw [filt_yes h hp, List.map_append]; rfl
theorem us2_no {g : Int} {xs : List Rec} {k : Nat} {r : Rec} (h : xs[k]? = some r) (hp : rowP g r = false) : us2 g (xs.take (k + 1)) = us2 g (xs.take k) := by
 unfold us2;rw [filt_no h hp]
def RowsOk (s : Shp) (xs : List Rec) : Prop := (1 ≤ s.gS ∧ s.gS ≤ 4) ∧ (1 ≤ s.rows ∧ s.rows ≤ 6) ∧ ∀ r ∈ xs, (r.kD = 1 → r.nM.size ≤ 8 ∧ r.rows.length ≤ 400 ∧ ∀ v ∈ r.rows, 0 ≤ v ∧ v ≤ s.rows - 1) ∧ (r.kD = 2 ∨ r.kD = 4 → 0 ≤ r.row ∧ r.row ≤ s.rows - 1)
theorem liv_mem {xs : List Rec} {r : Rec} (h : r ∈ livL xs) : r ∈ xs ∧ r.kD = 1 := by
 have h2 : r ∈ livF xs xs.length := (Stab.mem q2k (q7j q2k _).2).1 h;obtain ⟨⟨i, -, h3, h4, -⟩, -⟩ := q9k.1 h2;exact ⟨List.mem_of_getElem? h3, h4⟩
theorem filt_two (p : Int → Bool) : ∀ (l : List Int), l.length = (l.filter p).length + (l.filter (fun v => !p v)).length
 | [] => rfl
 | a :: l => by
  have ih := filt_two p l;rw [Db, Db];cases h : p a <;> simp [ih] <;> omega
theorem apart_le {m : Int} : ∀ {n : Nat} {xs : List Int}, (∀ v ∈ xs, 0 ≤ v ∧ v < (n : Int)) → xs.Nodup → xs.length ≤ n
 | 0, [], _, _ => Da _
 | 0, x :: xs, h, _ => by have := h x (by simp); omega
 | n + 1, xs, h, hn => by
  have h1 : (xs.filter (fun v => v != (n : Int))).length ≤ n := apart_le (m := m) (fun v hv => by
   obtain ⟨k1, k2⟩ := CU.1 hv;have := h v k1;have : v ≠ (n : Int) := by simpa using k2
   omega) (hn.filter _)
  have h2 : xs.length ≤ (xs.filter (fun v => v != (n : Int))).length + 1 := by
   have e := filt_two (fun v => v != (n : Int)) xs;have h3 : (xs.filter (fun v => !(v != (n : Int)))).length ≤ 1 := by
    have h4 : (xs.filter (fun v => !(v != (n : Int)))).Nodup := hn.filter _
    match hf : xs.filter (fun v => !(v != (n : Int))) with
    | [] => simp
    | [_] => simp
    | a :: b :: t =>
     rw [hf] at h4;have ha := (CU.1 (hf ▸ (by simp : a ∈ a :: b :: t))).2;have hb := (CU.1 (hf ▸ (by simp : b ∈ a :: b :: t))).2;have ha : a = (n : Int) := by simpa using ha
     have hb : b = (n : Int) := by simpa using hb
     rw [ha, hb] at h4;simp at h4
   omega
  omega
theorem apart_nodup {m : Int} {xs : List Int} (h : q3c m xs) : xs.Nodup := by
 unfold List.Nodup;rw [List.pairwise_iff_getElem];intro i j hi hj hij e;exact (h j xs[j] (CS hj)).2 (by rw [← e]; exact List.mem_take_iff_getElem.2 ⟨i, by omega, rfl⟩)
theorem fault_rows {x : Wld} (hf : x.fault = 0) : RowsOk x.sH (cntL x.tapes) := by
 have BF := q5v hf;unfold Shp.ok at BF;refine ⟨BF.1, BF.2.2.2.2.1, fun r hr => ?_⟩;obtain ⟨t, ht, h⟩ := z1w hr;have hv := q8b hf t ht r h;have hq : 1 ≤ r.seq ∧ r.seq ≤ 1000000000 := Classical.byContradiction fun hn => by rw [q7d (recV_kind0 hv) hn] at hv; cases hv
 constructor
 ·intro hk;rw [q8g hk hq] at hv;have h3 : q3x x.sH r = 0 := Classical.byContradiction fun hn => by rw [if_neg hn] at hv; exact hn hv
  unfold q3x at h3
  split at h3
  ·rename_i hnm
   split at h3
   ·rename_i hp
    have hi := q9h hp;refine ⟨(q9j hnm).1.2, ?_⟩;unfold q1h at hi
    split at hi
    ·rw [hi.2]; exact ⟨by simp, by simp⟩
    ·have hi := hi.2
     split at hi
     ·have ha := hi.2;have hb : ∀ v ∈ r.rows, 0 ≤ v ∧ v ≤ x.sH.rows - 1 := fun v hv => by
       obtain ⟨i, hi, rfl⟩ := List.getElem_of_mem hv;exact (ha i _ (CS hi)).1
      exact ⟨CP (apart_le (m := 0) (n := 6) (fun v hv => by have := hb v hv; have := BF.2.2.2.2.1; omega) (apart_nodup ha)) (by omega), hb⟩
     ·rw [hi.2]; exact ⟨by simp, by simp⟩
   ·cases h3
  ·rename_i hn; exact absurd h3 hn
 ·intro hk;rcases hk with hk | hk
  ·rw [q5q hk hq] at hv
   split at hv
   ·rename_i hp; exact (q9h hp).2.1
   ·cases hv
  ·rw [q7e hk hq] at hv
   split at hv
   ·rename_i hp; exact (q9h hp).2.1
   ·cases hv
def NoB (w : World) (bb : Nat) : Prop := ∃ cur E fr, w.heap[bb]? = some (Ad cur E fr) ∧ ∀ v ∈ cur.toList, ∃ b, v = Ac b
theorem q1u.noB {w : World} {bb : Nat} {bs : List Bool} (h : q1u w bb bs) : NoB w bb := ⟨_, _, _, h, fun v hv => by
 rw [List.toList_toArray] at hv;obtain ⟨q, -, e⟩ := List.mem_map.1 hv;exact ⟨q, e.symm⟩⟩
theorem NoB.empty {w : World} {bb : Nat} {E : TypeId} {fr : Nat × Nat} (h : w.heap[bb]? = some (.cells #[] E fr)) : NoB w bb := ⟨_, _, _, h, by simp⟩
def Lay.noB {α : Type} (L : Lay α) : Prop := ∀ {w : World} {cs : List Value} {x : α} {fp : List Nat}, L.rep w cs x fp → (∀ v ∈ cs, ∀ b, v ≠ Ac b) ∧ ∀ bb, NoB w bb → ∃ fp', L.rep w cs x fp' ∧ bb ∉ fp' ∧ ∀ y ∈ fp', y ∈ fp
theorem noB_all {α : Type} {L : Lay α} (hL : L.noB) {w : World} {bb : Nat} (hb : NoB w bb) : ∀ {xs : List α} {cs : List Value} {fp : List Nat}, L.all w cs xs fp → ∃ fp', L.all w cs xs fp' ∧ bb ∉ fp' ∧ ∀ y ∈ fp', y ∈ fp := by
 intro xs
 induction xs with
 | nil => intro cs fp h; obtain ⟨rfl, rfl⟩ := h; exact ⟨[], ⟨rfl, rfl⟩, by simp, by simp⟩
 | cons x xs ih =>
  intro cs fp h;obtain ⟨c1, c2, f1, f2, rfl, rfl, h1, h2⟩ := h;obtain ⟨g1, k1, k2, k3⟩ := (hL h1).2 bb hb;obtain ⟨g2, m1, m2, m3⟩ := ih h2;refine ⟨g1 ++ g2, ⟨c1, c2, g1, g2, rfl, rfl, k1, m1⟩, fun hm => (CL.1 hm).elim k2 m2, fun y hy => ?_⟩;rcases CL.1 hy with hy | hy
  ·exact CL.2 (.inl (k3 y hy))
  ·exact CL.2 (.inr (m3 y hy))
theorem noB_sl {α : Type} {L : Lay α} (hL : L.noB) {w : World} {bb : Nat} (hb : NoB w bb) {a : Option Addr} {l c : Nat} {xs : List α} {f : List Nat} (h : L.sl w a l c xs f) : ∃ f', L.sl w a l c xs f' ∧ bb ∉ f' ∧ ∀ y ∈ f', y ∈ f := by
 obtain ⟨h1, h2, h3, h4, h5⟩ := h;rcases h5 with ⟨e1, e2⟩ | ⟨b, off, cur, E, fr, fps, rfl, hg, hall, rfl⟩
 ·exact ⟨[], ⟨h1, h2, h3, h4, .inl ⟨e1, rfl⟩⟩, by simp, by simp⟩
 ·cases xs with
  | nil => exact ⟨[], ⟨h1, h2, h3, h4, .inl ⟨rfl, rfl⟩⟩, by simp, by simp⟩
  | cons x xs =>
   have hne : bb ≠ b := fun e => by
    subst e;obtain ⟨cur2, E2, fr2, hb1, hb2⟩ := hb;rw [hb1] at hg;have BQ := hall;obtain ⟨c1, c2, f1, f2, e1, -, k1, -⟩ := BQ;have hpos := L.pos;have hl := L.len k1;clear hall
    match c1 with
    | [] => rw [CK] at hl; omega
    | v :: vs =>
     have hv := (hL k1).1 v (by simp);have hm : v ∈ (cur.toList.drop off).take (l * L.n) := by rw [e1]; simp
     have hm2 := List.mem_of_mem_drop (List.mem_of_mem_take hm);cases hg;obtain ⟨q, e⟩ := hb2 v hm2;exact hv q e
   obtain ⟨BS, m1, m2, m3⟩ := noB_all hL hb hall;exact ⟨b :: BS, ⟨h1, h2, h3, h4, .inr ⟨b, off, cur, E, fr, BS, rfl, hg, m1, rfl⟩⟩, fun hm => (CW.1 hm).elim hne m2, fun y hy => (CW.1 hy).elim (fun e => by rw [e]; simp) (fun hy => List.mem_cons_of_mem _ (m3 y hy))⟩
theorem noB_int : intL.noB := fun h => by
 obtain ⟨rfl, h1, rfl⟩ := h;exact ⟨(by intro v hv b e; simp at hv; rw [hv] at e; cases e), fun _ _ => ⟨[], ⟨rfl, h1, rfl⟩, by simp, by simp⟩⟩
theorem noB_byte : q0o.noB := fun h => by
 obtain ⟨rfl, rfl⟩ := h;exact ⟨(by intro v hv b e; simp at hv; rw [hv] at e; cases e), fun _ _ => ⟨[], ⟨rfl, rfl⟩, by simp, by simp⟩⟩
theorem noB_rec : recL.noB := fun h => by
 obtain ⟨a6, l6, c6, f6, a7, l7, c7, f7, a8, l8, c8, f8, rfl, h0, h1, h2, h3, h4, h5, h6, h7, h8, rfl⟩ := q0m.1 h;refine ⟨?_, fun bb hb => ?_⟩
 ·intro v hv b e;simp only [CW, List.not_mem_nil, or_false] at hv;rcases hv with rfl | rfl | rfl | rfl | rfl | rfl | rfl | rfl | rfl <;> cases e
 ·obtain ⟨g6, p6, q6, r6⟩ := noB_sl noB_int hb h6;obtain ⟨g7, p7, q7, r7⟩ := noB_sl noB_byte hb h7;obtain ⟨g8, p8, q8, r8⟩ := noB_sl noB_byte hb h8;refine ⟨_, q0m.2 ⟨a6, l6, c6, g6, a7, l7, c7, g7, a8, l8, c8, g8, rfl, h0, h1, h2, h3, h4, h5, p6, p7, p8, rfl⟩, ?_, ?_⟩
  ·intro hm;rcases CL.1 hm with hm | hm
   ·exact q6 hm
   ·rcases CL.1 hm with hm | hm
    ·exact q7 hm
    ·exact q8 hm
  ·intro y hy;rcases CL.1 hy with hy | hy
   ·exact CL.2 (.inl (r6 y hy))
   ·rcases CL.1 hy with hy | hy
    ·exact CL.2 (.inr (CL.2 (.inl (r7 y hy))))
    ·exact CL.2 (.inr (CL.2 (.inr (r8 y hy))))
theorem recs_beside0 {w : World} {bb : Nat} (hb : NoB w bb) {a : Option Addr} {l c : Nat} {xs : List Rec} {f : List Nat} (h : recL.sl w a l c xs f) : ∃ f', recL.sl w a l c xs f' ∧ bb ∉ f' := by
 obtain ⟨f', h1, h2, -⟩ := noB_sl noB_rec hb h;exact ⟨f', h1, h2⟩
theorem q9f {w : World} {bb : Nat} {bs : List Bool} (hb : q1u w bb bs) {a : Option Addr} {l c : Nat} {xs : List Rec} {f : List Nat} (h : recL.sl w a l c xs f) : ∃ f', recL.sl w a l c xs f' ∧ bb ∉ f' := recs_beside0 hb.noB h
theorem q8a (x : Wld) (cx : Array Value) (fx : List Nat) (w : World) (hx : wldL.rep w cx.toList x fx) (hz : q2q x ≤ 1048576) :
  Calls Tryz.prog 13 #[.agg cx] w (fun e w' => e = .returned (.agg #[I J (waiR x).1, I J (waiR x).2]) ∧ Chg [] w w') := by
 obtain ⟨BX, l10, c10, _, BW, BC, c11, f11, Bn, Bl, c12, _, ex, -, -, -, -, -, -, -, -, -, h10, h11, BR, BK, BJ, -⟩ := q1f.1 hx;obtain rfl := (tLi ex);have HW := hid hx; have HZ := hid hz; have H10 := hid h10; have H11 := hid h11; have H12 := hid BR; have HOO := hid (CR BK BJ);have hl11 : BC ≤ 1048576 := by have h := h11.1; have q10 := q1g (q1g q2y) x.gS; have q12 := q1g q3j x.tapes; unfold q2q q4s at hz; omega
 clear hx ex hz h10 h11 BR BK BJ;have G0 := hid (show Chg [] w ((w.alloc (.cells #[I J x.sH.gS, I J x.sH.cZ, I J x.sH.data, I J x.sH.spare, I J x.sH.rows, I J x.sH.cap, I J x.sH.bT, I J x.sH.qU, I J x.sH.sG, Aa BX l10 c10, Aa BW BC c11, Aa Bn Bl c12, I J x.wT, I J x.sP, Ac x.dN] 30)).alloc (.cells #[I J 0, I J 0] 45)) from (Chg.alloc (Chg.alloc (Chg.refl [] w) _) _));have B0 := hid (show ((w.alloc (.cells #[I J x.sH.gS, I J x.sH.cZ, I J x.sH.data, I J x.sH.spare, I J x.sH.rows, I J x.sH.cap, I J x.sH.bT, I J x.sH.qU, I J x.sH.sG, Aa BX l10 c10, Aa BW BC c11, Aa Bn Bl c12, I J x.wT, I J x.sP, Ac x.dN] 30)).alloc (.cells #[I J 0, I J 0] 45)).heap[w.heap.size]? = some (.cells #[I J x.sH.gS, I J x.sH.cZ, I J x.sH.data, I J x.sH.spare, I J x.sH.rows, I J x.sH.cap, I J x.sH.bT, I J x.sH.qU, I J x.sH.sG, Aa BX l10 c10, Aa BW BC c11, Aa Bn Bl c12, I J x.wT, I J x.sP, Ac x.dN] 30 (0, 0)) from q0b (q0k w _) _);have B1 := hid (show ((w.alloc (.cells #[I J x.sH.gS, I J x.sH.cZ, I J x.sH.data, I J x.sH.spare, I J x.sH.rows, I J x.sH.cap, I J x.sH.bT, I J x.sH.qU, I J x.sH.sG, Aa BX l10 c10, Aa BW BC c11, Aa Bn Bl c12, I J x.wT, I J x.sP, Ac x.dN] 30)).alloc (.cells #[I J 0, I J 0] 45)).heap[w.heap.size + 1]? = some (.cells #[I J 0, I J 0] 45 (0, 0)) from q0c (by simp) _);go_enter Tryz.func13, Tryz.ntmps13;obtain ⟨q, hq⟩ : ∃ q, q = x.fault := ⟨_, rfl⟩;have HQ := hid hq; clear hq;go_wp2_with (first | (refine q0x rfl _ 30 rfl rfl q1q Tryz.underlying30 B0.o rfl ?_));refine (q3l x #[I J x.sH.gS, I J x.sH.cZ, I J x.sH.data, I J x.sH.spare, I J x.sH.rows, I J x.sH.cap, I J x.sH.bT, I J x.sH.qU, I J x.sH.sG, Aa BX l10 c10, Aa BW BC c11, Aa Bn Bl c12, I J x.wT, I J x.sP, Ac x.dN] fx _ (wldL.ext HW.o G0.o)).mono ?_;rintro e w1 ⟨rfl, hc⟩;rw [← HQ.o];obtain ⟨c0, n0, A0_1⟩ := bk0 hc B0.o;obtain ⟨c1, n1, A1_1⟩ := bk0 hc B1.o;have G1 := hid (G0.o.trans0 hc);have fz := q0j A1_1.o;clear hc;have hqk : q0s q := by rw [HQ.o]; exact q7m x
 by_cases BD : q = 0
 ·subst BD;have Cn : x.fault = 0 := HQ.o.symm;have HN := hid (waiting_any w.heap.size Bn Bl c12 _ x.tapes w1 A0_1.o (tapL.sl_ext H12.o G1.o) (q4b Cn) (q6k Cn));have HR := hid (waiR_ok Cn);go_wp2_with (first | (refine q0x rfl _ 30 rfl rfl q1q Tryz.underlying30 A0_1.o rfl ?_));refine (HN.o).mono ?_;rintro e w2 ⟨rfl, hc⟩;clear c0 n0;obtain ⟨c0, n0, A0_2⟩ := bk0 hc A0_1.o;clear c1 n1;obtain ⟨c1, n1, A1_2⟩ := bk0 hc A1_1.o;have G2 := hid (G1.o.trans0 hc);clear fz; have fz := q0j A1_2.o;clear hc;go_wp2_with (first | (refine q0v rfl _ _ 45 rfl rfl rfl infoIR A1_2.o rfl rfl rfl ?_; intro w9 BP BO; have CB := hid BP; have C9 := hid BO; clear BP BO));refine bodyPost_ret (v := .agg #[I J 0, I J (wtI (livL (cntL x.tapes)))]) (q0q _ _ Tryz.results13 rfl infoIR Tryz.underlying45 CB.o rfl) rfl (⟨by rw [HR.o], G2.o.trans C9.o (fun y hy => .inr (by rw [CX] at hy; omega))⟩)
 ·have hb : ((q : Int) != 0) = true := by simpa using BD
  go_wp2_with (first | (refine q0v rfl _ _ 45 rfl rfl rfl infoIR A1_1.o rfl rfl rfl ?_; intro w9 BP BO; have CB := hid BP; have C9 := hid BO; clear BP BO));refine bodyPost_ret (v := .agg #[I J (q), I J 0]) (q0q _ _ Tryz.results13 rfl infoIR Tryz.underlying45 CB.o rfl) rfl (⟨by rw [waiR_bad (by rw [← HQ.o]; exact BD), ← HQ.o], G1.o.trans C9.o (fun y hy => .inr (by rw [CX] at hy; omega))⟩)
end Go.Proofs.YthhaednigdgclaaGreat
