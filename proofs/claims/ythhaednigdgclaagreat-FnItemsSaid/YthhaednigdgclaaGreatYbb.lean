/- Several texts in one. -/
import Derived.Test.YthhaednigdgclaaGreatYaw
import Derived.Test.YthhaednigdgclaaGreatYal
import Derived.Deep.CutBlock
import Derived.Test.YthhaednigdgclaaGreatYba
import Derived.Test.YthhaednigdgclaaGreatYaz
import Derived.Test.YthhaednigdgclaaGreatYav
import Derived.Test.YthhaednigdgclaaGreatYao
import Derived.Test.YthhaednigdgclaaGreatYas
open Go.Value renaming int → I, slice → Aa, string → Ab, bool → Ac
open Go.IntKind renaming i64 → J
open Go.Obj renaming cells → Ad
open List renaming length_take → Cw, length_map → Cx, length_singleton → Cy, drop_zero → Cz, length_drop → C0, length_nil → CB, length_append → CE, nil_append → CH, getElem?_eq_some_iff → CI, mem_cons → CJ, getElem?_eq_getElem → CK, take_of_length_le → CM, mem_append → CN, flatMap_append → CO, mem_singleton → CP, drop_eq_getElem_cons → CQ, getElem?_take_of_lt → CR, length_cons → CS, getElem_of_mem → CV, getElem?_drop → CX, getElem_take → CY, size_toArray → CZ, append_nil → Dc
open Go.Act renaming put → C9
open Go.Addr renaming add_lit → CF
open Nat renaming le_trans → CG, mul_le_mul_right → CU, zero_add → CW, add_mul → Da, le_refl → Db, lt_irrefl → Dd
open And renaming intro → CL
set_option maxRecDepth 100000
set_option maxHeartbeats 8000000
namespace Go.Proofs.YthhaednigdgclaaGreat
open Go.RowKit
open Go.Lib (hid)
theorem q5t (W : World) (n : Nat) (hn : n = W.heap.size) : recL.os 38 (W.alloc (.cells #[] 38)) (Aa (some ⟨n, 0, none⟩) 0 0) [] (some n) [] := by
 subst hn;exact recL.os_made 38 W #[] 0 (by simp [maxLen]) (by simp)
theorem q2f {w : World} {b : Nat} {cs : Array Value} {E : TypeId} {fr : Nat × Nat} (h : w.heap[b]? = some (Ad cs E fr)) : ∀ j u, cs.toList[j]? = some u → w.cell? ((⟨b, 0, none⟩ : Addr).add j) = some u := fun j u hj => by
 rw [CF, CW, cellsOf h]; simpa using hj
theorem q1t {w : World} {b : Nat} {ps : List RP} (h : q1c recL w b 0 ps) {i n : Nat} (hi : i + n ≤ ps.length) : ∃ news : List Value, (∀ j u, news[j]? = some u → w.cell? ⟨b, i * 9 + j, none⟩ = some u) ∧ recL.all w news (((ps.drop i).take n).map (·.1)) (((ps.drop i).take n).flatMap (·.2)) := by
 obtain ⟨cur, E, h1, h2, h3⟩ := h;have hct : cur.toList.length = cur.size := by simp
 have hpl : ((ps.drop i).take n).length = n := by rw [Cw, C0]; omega
 refine ⟨(cur.toList.drop (i * 9)).take (n * 9), fun j u hj => ?_, row_all ?_ (fun k p hp => ?_)⟩
 ·have hjn := (CI.1 hj).1;rw [Cw] at hjn;rw [CR (by omega), CX] at hj;rw [cellsOf h1]; simpa using hj
 ·rw [Cw, C0, hct, hpl];show min (n * 9) (cur.size - i * 9) = n * 9;rcases Nat.eq_zero_or_pos ps.length with h0 | h0
  ·have : n = 0 := by omega
   subst this; simp
  ·have h4 : 0 + ps.length * 9 ≤ cur.size := h2 h0;have : (i + n) * 9 ≤ ps.length * 9 := CU _ hi;rw [Da] at this;omega
 ·have hk := (CI.1 hp).1;rw [hpl] at hk;rw [CR hk, CX] at hp;have h5 := (h3 (i + k) p hp).1;have e : (((cur.toList.drop (i * 9)).take (n * 9)).drop (k * recL.n)).take recL.n = (cur.toList.drop (0 + (i + k) * recL.n)).take recL.n := by
   show (((cur.toList.drop (i * 9)).take (n * 9)).drop (k * 9)).take 9 = (cur.toList.drop (0 + (i + k) * 9)).take 9;have hle : (k + 1) * 9 ≤ n * 9 := CU _ hk;rw [Da, Nat.one_mul] at hle;rw [List.drop_take, List.take_take, List.drop_drop, Nat.min_eq_left (by omega), CW, Da]
  rw [e]; exact h5
theorem q1o {ps : List RP} {i n : Nat} {y : Nat} (h : y ∈ ((ps.drop i).take n).flatMap (·.2)) : ∃ p ∈ ps, y ∈ p.2 := by
 obtain ⟨p, hp, hy⟩ := List.mem_flatMap.1 h;exact ⟨p, List.mem_of_mem_drop (List.mem_of_mem_take hp), hy⟩
theorem q5g {n0 : Nat} {wx W : World} {v : Value} {ps : List RP} {fq : List Nat} {ac n : Nat} {h : Option Nat} {zs : List Rec} (ho : recL.os 38 W v (zs) h (([] ++ ((ps.drop 0).take ac).flatMap (·.2)) ++ fq ++ ((ps.drop ac).take n).flatMap (·.2))) (hh : ∀ y, h = some y → wx.heap.size ≤ y) (hn : n0 ≤ wx.heap.size) (Bu : ∀ y, (∃ p ∈ ps, y ∈ p.2) → y < n0) (hfq : ∀ y ∈ fq, y < n0) (hz : zs ≠ []) : Shr n0 W v zs := by
 rcases ho with ⟨-, e, -⟩ | ⟨g, cap, cur, e, rfl, BI⟩
 ·exact absurd e hz
 ·refine ⟨g, _, .inr ⟨g, cap, cur, e, rfl, BI⟩, CG hn (hh g rfl), fun y hy => ?_⟩;rcases CN.1 hy with hy | hy
  ·rcases CN.1 hy with hy | hy
   ·rw [CH] at hy; exact Bu y (q1o hy)
   ·exact hfq y hy
  ·exact Bu y (q1o hy)
theorem drop_ahead {xs : List Rec} {r p : Rec} {z ac : Nat} (h : ∀ x ∈ xs.drop ac, q1z r x = true) (hp : xs[z]? = some p) (hl : q1z r p = true) (hz : z = ac - 1) (h0 : 0 < ac) : ∀ x ∈ xs.drop z, q1z r x = true := fun x hx => by
 obtain ⟨hi, e⟩ := CI.1 hp;rw [CQ hi] at hx;rcases CJ.1 hx with rfl | hx
 ·rw [e]; exact hl
 ·exact h x (by rwa [show z + 1 = ac by omega] at hx)
theorem rec_slS {w : World} {X : Tap} {a1 : Option Addr} {l1 c1 : Nat} {f : List Nat} (h : tapL.rep w [Ac X.wD, Aa a1 l1 c1] X f) : recL.sl w a1 l1 c1 X.rC f := by
 obtain ⟨a, l, c, f1, e, h1, rfl⟩ := q2d.1 h;cases e;exact h1
theorem flat_takeS {ts : List Tap} {k : Nat} {X : Tap} (h : ts[k]? = some X) : dedF [] ((ts.take (k + 1)).flatMap (·.rC)) = dedF (dedF [] ((ts.take k).flatMap (·.rC))) X.rC := by
 rw [q1e h, CO, q8x];simp
theorem flat_lenS {ts : List Tap} {k : Nat} {X : Tap} {B : Nat} (h : ts[k]? = some X) (hB : (ts.flatMap (·.rC)).length ≤ B) : ((ts.take k).flatMap (·.rC)).length + X.rC.length ≤ B := by
 have h2 : ((ts.take (k + 1)).flatMap (·.rC)).length ≤ (ts.flatMap (·.rC)).length := by
  conv => rhs; rw [← List.take_append_drop (k + 1) ts, CO, CE]
  omega
 rw [q1e h, CO, CE, show [X].flatMap (·.rC) = X.rC by simp] at h2;exact CG h2 hB
def Rwd (n0 : Nat) (w : World) (v : Value) (xs : List Rec) : Prop := ∃ g cap ps, v = Aa (some ⟨g, 0, none⟩) xs.length cap ∧ q1c recL w g 0 ps ∧ ps.map (·.1) = xs ∧ n0 ≤ g ∧ xs.length ≤ cap ∧ cap ≤ maxLen ∧ ∀ p ∈ ps, ∀ y ∈ p.2, y < n0
theorem Rwd.ext {n0 : Nat} {w w' : World} {v : Value} {xs : List Rec} (h : Rwd n0 w v xs) (hc : Chg [] w w') : Rwd n0 w' v xs := by
 obtain ⟨g, cap, ps, h1, h2, h3⟩ := h;exact ⟨g, cap, ps, h1, h2.ext hc, h3⟩
theorem hshr {n0 : Nat} {w w' : World} {g len cap : Nat} {ps : List RP} {xs : List Rec} (hr : q1c recL w g 0 ps) (BB : ps.map (·.1) = xs) (hlx : len = xs.length) (hg : n0 ≤ g) (hc : xs.length ≤ cap ∧ cap ≤ maxLen) (Bu : ∀ y, (∃ p ∈ ps, y ∈ p.2) → y < n0) (h : Chg [] w w') : Rwd n0 w' (Aa (some ⟨g, 0, none⟩) len cap) xs :=
 ⟨g, cap, ps, by rw [hlx], hr.ext h, BB, hg, hc.1, hc.2, fun p hp y hy => Bu y ⟨p, hp, hy⟩⟩
theorem stop_ss {xs D D2 : List Rec} {r : Rec} {ac : Nat} (hs : Srt q1z xs ∧ Stab q1z D xs) (hd : D2 = D ++ [r]) (h1 : ∀ x ∈ xs.drop ac, q1z r x = true) (h2 : 0 < ac → ∃ y, xs[ac - 1]? = some y ∧ q1z r y = false) : Srt q1z (xs.take ac ++ (r :: xs.drop ac)) ∧ Stab q1z D2 (xs.take ac ++ (r :: xs.drop ac)) := by
 have h3 : ∀ x ∈ xs.take ac, q1z r x = false := fun x hx => by
  obtain ⟨i, hi, rfl⟩ := CV hx;rw [Cw] at hi;obtain ⟨y, hy, hl⟩ := h2 (by omega);rw [CY];exact q2o.le_trans (Srt.at q2o hs.1 (show i ≤ ac - 1 by omega) (CK (by omega)) hy) hl
 exact ⟨q7z q2o hs.1 h1 h3, by rw [hd]; exact (hs.2.app (Stab.refl [r])).trans (q6j q2o h1)⟩
theorem l6Counted_at (n0 : Nat) (m : Nat) {z0 z1 z2 z3 z4 z5 z6 z7 z8 z9 z10 z12 z13 z14 : Value} (BG : Option Addr) (c12 : Nat) (BO : List Nat) (ts : List Tap) (w : World) (h : w.heap[m]? = some (.cells #[z0, z1, z2, z3, z4, z5, z6, z7, z8, z9, z10, Aa BG 2 c12, z12, z13, z14] 30 (0, 0))) (BF : tapL.sl w BG 2 c12 ts BO) (hz : (ts.flatMap (·.rC)).length ≤ 1000000) (hn0 : n0 ≤ w.heap.size) (hf0 : ∀ y ∈ BO, y < n0) :
  Calls Tryz.prog 37 #[.pointer (some ⟨m, 0, none⟩)] w fun e w' => ∃ v, e = .returned v ∧ Rwd n0 w' v (cntL ts) ∧ Chg [] w w' := by
 obtain ⟨KR, _⟩ := q4y;have B5 := hid hn0; have HF0 := hid hf0;clear hf0;have HM := hid h;have H12 := hid BF; have HL := hid BF.1; have HZ := hid hz;clear h BF hz;go_enter Tryz.func37, Tryz.ntmps37;go_wp2_with fail;go_loopw [3, 4] (fun vo vi wr => ∃ (k : Nat) (out : List Rec) (Wr : World), Wr = wr ∧ k ≤ 2 ∧ vi = I J k ∧ Hid (Srt q1z out ∧ Stab q1z (dedF [] ((ts.take k).flatMap (·.rC))) out) ∧ Rwd n0 wr vo out ∧ Chg [] w wr) (fun _ vi _ => 2 - (intOf vi).toNat)
 case atStart => exact ⟨0, [], _, rfl, by omega, rfl, hid ⟨List.Pairwise.nil, Stab.refl _⟩, (Shr.made B5.o).row, (Chg.refl [] w).alloc _⟩
 case round =>
  obtain ⟨k, out, wr, rfl, hk, rfl, AX, Bq, hc⟩ := hrel;have HC := hid hc; have Cb := hid Bq;by_cases hlt : k < 2
  ·have hkd : decide ((k : Int) < 2) = true := by simp; omega
   obtain ⟨X, b, off, a1, l1, c1, ft, HX, rfl, BN, BM, AJ⟩ := q3b H12.o hlt;have HBW := hid (tapL.sl_lt H12.o b HX.o.2.1);have H0W := hid BN; have H1W := hid BM;obtain ⟨acc, Bf⟩ : ∃ acc, acc = dedF [] ((ts.take k).flatMap (·.rC)) := ⟨_, rfl⟩;rw [← Bf] at AX;have HNX := hid (show dedF [] ((ts.take (k + 1)).flatMap (·.rC)) = dedF acc X.rC by rw [Bf]; exact flat_takeS HX.o.1);have AO : acc.length + X.rC.length ≤ 1000000 := by
    have h1 := q5b ((ts.take k).flatMap (·.rC)) [];have h2 := flat_lenS HX.o.1 HZ.o;rw [CB, CW] at h1; rw [Bf]; omega
   have HRS := hid (rec_slS AJ.o);have HFL := hid (fun y (hy : y ∈ ft) => HF0.o y (HX.o.2.2 y hy));have HL1 := hid (rec_slS AJ.o).1; have HAL := hid AO;have hl1 := recL.sl_max (rec_slS AJ.o);clear hc Bq Bf AO AJ HX BN BM;go_wp2_with fail;go_loopw [3, 5] (fun vo vj wq => ∃ (j : Nat) (out : List Rec) (Wq : World), Wq = wq ∧ j ≤ l1 ∧ vj = I J j ∧ Hid (Srt q1z out ∧ Stab q1z (dedF acc (X.rC.take j)) out) ∧ Rwd n0 wq vo out ∧ Chg [] w wq) (fun _ vj _ => l1 - (intOf vj).toNat)
   case atStart => exact ⟨0, out, _, rfl, by omega, rfl, AX, Cb.o, HC.o⟩
   case round =>
    clear Cb HC AX;obtain ⟨j, xs, wq, rfl, hj, rfl, Bz, Bq, hc⟩ := hrel;have HC := hid hc;have Cf := hc.keep0 HM.o;have cm := cellsOf Cf; have nm := ltOf Cf;have hc0 := q0h hc H0W.o HBW.o; have hc1 := q0h hc H1W.o HBW.o;clear Cf;by_cases Cg : j < l1
    ·obtain ⟨r, b2, off2, a6, l6, c6, a7, l7, c7, a8, l8, c8, fq, HR, rfl, hq0, hq1, hq2, hq3, hq4, hq5, hq6, hq7, hq8, AJ⟩ := q6m (recL.sl_ext HRS.o hc) Cg;obtain ⟨g, cap, ps, rfl, hrow, BB, hg, Bv, hcm, Bu⟩ := Bq;have HNJ := hid (dedF_next (acc := acc) HR.o.1);have hbd : xs.length ≤ 1000000 := by
      have h1 := q5b (X.rC.take j) acc;have h2 := HAL.o;have h3 := Bz.o.2.1;rw [Cw] at h1; omega
     have AP := hid (show ∀ y, (∃ p ∈ ps, y ∈ p.2) → y < n0 from fun y ⟨p, hp, hy⟩ => Bu p hp y hy);have Bc := hid (fun y (hy : y ∈ fq) => HFL.o y (HR.o.2.2 y hy));have Cc := hid BB; have HGN := hid hg; have BW := hid (CL Bv hcm);obtain ⟨len, hlen⟩ : ∃ len, len = xs.length := ⟨_, rfl⟩;have Bt := hid hlen;have hpl : ps.length = len := by rw [hlen, ← BB, Cx]
     have Ai := hid hpl;rw [← hlen] at hbd ⊢;have G1 := hid (show Chg [] wq (wq.alloc (.cells #[I J r.kD, I J r.seq, Ab r.nM, I J r.length, I J r.gP, I J r.row, Aa a6 l6 c6, Aa a7 l7 c7, Aa a8 l8 c8] 38)) from (Chg.refl [] wq).alloc _);have hsl := hrow.sl hpl.symm (by have := Bv; omega) hcm;rw [BB] at hsl;have Bh := hid hrow;have HHS := hid (holds_any _ len cap xs _ r #[I J r.kD, I J r.seq, Ab r.nM, I J r.length, I J r.gP, I J r.row, Aa a6 l6 c6, Aa a7 l7 c7, Aa a8 l8 c8] fq (wq.alloc (.cells #[I J r.kD, I J r.seq, Ab r.nM, I J r.length, I J r.gP, I J r.row, Aa a6 l6 c6, Aa a7 l7 c7, Aa a8 l8 c8] 38)) (recL.sl_ext hsl G1.o) (recL.ext AJ.o G1.o));obtain ⟨v, hv⟩ : ∃ v, v = xs.any (fun x => q2c x r) := ⟨_, rfl⟩;rw [← hv] at HHS;have HV := hid (show v = (dedF acc (X.rC.take j)).any (fun x => q2c x r) by rw [hv]; exact any_mem _ (fun x => Bz.o.2.mem q2o));clear hc HR hrow BB hg Bv hcm Bu hlen hpl hsl hv;go_wp2_with fail;refine HHS.o.mono ?_;rintro e w3 ⟨rfl, hc3⟩;have Cu := hid (HC.o.trans0 (G1.o.trans0 hc3)); have BV := hid (G1.o.trans0 hc3);obtain ⟨B6, hb6⟩ : ∃ B6, B6 = wq.heap.size := ⟨_, rfl⟩;have hb3 := hc3.keep0 (q0k wq (.cells #[I J r.kD, I J r.seq, Ab r.nM, I J r.length, I J r.gP, I J r.row, Aa a6 l6 c6, Aa a7 l7 c7, Aa a8 l8 c8] 38));rw [← hb6] at hb3 ⊢;have HB3 := hid hb3;have c3 := cellsOf hb3; have n3 := ltOf hb3;clear hc3 hb3 hq0 hq1 hq2 hq3 hq4 hq5 hq6 hq7 hq8 cm nm hc0 hc1 hb6;cases v
     ·have Ce := hid (show dedF acc (X.rC.take (j + 1)) = dedF acc (X.rC.take j) ++ [r] by rw [HNJ.o]; unfold dedS; rw [← HV.o]; rfl);go_upto_block 4 with fail
      go_cut [7] from 42 to 54 (fun s7 wz => ∃ ac : Nat, s7 = I J ac ∧ ac ≤ len ∧ Hid (Srt q1z (xs.take ac ++ (r :: xs.drop ac)) ∧ Stab q1z (dedF acc (X.rC.take (j + 1))) (xs.take ac ++ (r :: xs.drop ac))) ∧ Chg [] w3 wz)
      case first =>
       go_wp2_with fail;go_loopw [7] (fun va wx => ∃ (ac : Nat) (Wx : World), Wx = wx ∧ ac ≤ len ∧ va = I J ac ∧ Hid (∀ x ∈ xs.drop ac, q1z r x = true) ∧ Chg [] w3 wx) (fun va _ => (intOf va).toNat)
       case atStart => exact ⟨len, _, rfl, Db _, rfl, hid (show ∀ x ∈ xs.drop len, q1z r x = true from fun x hx => by rw [Bt.o, List.drop_length] at hx; cases hx), Chg.refl _ _⟩
       case round =>
        obtain ⟨ac, wx, rfl, Ch, rfl, Ct, BC⟩ := hrel;have HCX := hid (Cu.o.trans0 BC); have Cq := hid BC;have Af := hid (BC.keep0 HB3.o);have Br := hid (Bh.o.ext (BV.o.trans0 BC));have Cp := hid (recL.ext AJ.o (BV.o.trans0 BC));clear BC;by_cases h0 : 0 < ac
        ·obtain ⟨z, hz0⟩ : ∃ z, z = ac - 1 := ⟨_, rfl⟩;have hwz : IntKind.i64.wrap ((ac : Int) - 1) = (z : Int) := by rw [IntWalk.i64_in _ ⟨by omega, by omega⟩]; omega
         have hzl : z < len := by omega
         have hgt : (0 : Int) < (ac : Int) := by omega
         obtain ⟨p, hp⟩ : ∃ p, ps[z]? = some p := ⟨_, CK (by have := Ai.o; omega)⟩;obtain ⟨cy, ry, -, ky⟩ := q1n Br.o hp;have Bp := hid (show q1j wx.drew g (0 + z * 9) 9 cy from ky);have hlg : g < wx.drew.heap.size := Br.o.lt;have BD := l6Ahead_any r p.1 #[I J r.kD, I J r.seq, Ab r.nM, I J r.length, I J r.gP, I J r.row, Aa a6 l6 c6, Aa a7 l7 c7, Aa a8 l8 c8] cy.toArray fq p.2 wx.drew (recL.ext Cp.o ((Chg.refl [] wx).drew)) (recL.ext (by simpa using ry) ((Chg.refl [] wx).drew));have hxz : xs[z]? = some p.1 := by rw [← Cc.o, List.getElem?_map, hp]; rfl
         have HXZ := hid hxz; have Co := hid hz0;clear ry ky hp hxz hz0;cases hl : q1z r p.1
         ·rw [hl] at BD;have Cv := hid BD; have Cs := hid hl;clear BD hl;go_wp2_with fail;obtain ⟨SS, Ag, AX⟩ := q0f (fun w' => q1j w' g (0 + z * 9) 9 cy ∧ Know B6 #[I J r.kD, I J r.seq, Ab r.nM, I J r.length, I J r.gP, I J r.row, Aa a6 l6 c6, Aa a7 l7 c7, Aa a8 l8 c8] w');have Ae := Ag.o _ ⟨Bp.o, (Know.of (q0a Af.o))⟩;refine q0g SS (by kernel_rfl) Ae ?_;refine rgT 0 Ae ?_;refine rgT 1 Ae ?_;refine rgT 2 Ae ?_;refine rgL 3 Ae AX ?_;refine rgT 4 Ae ?_;refine rgT 5 Ae ?_;refine rgT 6 Ae ?_;refine rgT 7 Ae ?_;refine rgL 8 Ae AX ?_ (hy := fun w' hw => q1d _ 38 rfl (by dsimp only [Act.eval, Array.getD, CZ, CS]; simp) q1b Tryz.underlying38 hw.1);refine rgq 9 (fun K hK => ?_);go_simp;go_at_call 70;refine Cv.o.mono ?_;rintro e wy ⟨rfl, hc2⟩;have HC2 := hid (HCX.o.trans0 ((Chg.refl [] wx).drew.trans0 hc2)); have Cr := hid ((Chg.refl [] wx).drew.trans0 hc2); have B7 := hid (Bp.o.ext hc2 hlg); have BA := hid (hc2.keep0 (q0a Af.o));clear hc2;go_wp2_with fail;refine hK.out _ _ (Ag.o _ ⟨B7.o, (Know.of BA.o)⟩) (fun hS1 => ?_);clear hK K;try simp only [C9, pA, pB, pC]
          refine rgT 10 hS1 ?_;refine wDn ?_
          skip
          go_wp2_with fail;go_meet;exact ⟨ac, rfl, Ch, (show Srt q1z (xs.take ac ++ (r :: xs.drop ac)) ∧ Stab q1z (dedF acc (X.rC.take (j + 1))) (xs.take ac ++ (r :: xs.drop ac)) from stop_ss Bz.o Ce.o Ct.o (fun _ => ⟨p.1, by rw [← Co.o]; exact HXZ.o, Cs.o⟩)), Cq.o.trans0 Cr.o⟩
         ·rw [hl] at BD;have Cv := hid BD; have Cs := hid hl;clear BD hl;go_wp2_with fail;obtain ⟨SS, Ag, AX⟩ := q0f (fun w' => q1j w' g (0 + z * 9) 9 cy ∧ Know B6 #[I J r.kD, I J r.seq, Ab r.nM, I J r.length, I J r.gP, I J r.row, Aa a6 l6 c6, Aa a7 l7 c7, Aa a8 l8 c8] w');have Ae := Ag.o _ ⟨Bp.o, (Know.of (q0a Af.o))⟩;refine q0g SS (by kernel_rfl) Ae ?_;refine rgT 0 Ae ?_;refine rgT 1 Ae ?_;refine rgT 2 Ae ?_;refine rgL 3 Ae AX ?_;refine rgT 4 Ae ?_;refine rgT 5 Ae ?_;refine rgT 6 Ae ?_;refine rgT 7 Ae ?_;refine rgL 8 Ae AX ?_ (hy := fun w' hw => q1d _ 38 rfl (by dsimp only [Act.eval, Array.getD, CZ, CS]; simp) q1b Tryz.underlying38 hw.1);refine rgq 9 (fun K hK => ?_);go_simp;go_at_call 70;refine Cv.o.mono ?_;rintro e wy ⟨rfl, hc2⟩;have HC2 := hid (HCX.o.trans0 ((Chg.refl [] wx).drew.trans0 hc2)); have Cr := hid ((Chg.refl [] wx).drew.trans0 hc2); have B7 := hid (Bp.o.ext hc2 hlg); have BA := hid (hc2.keep0 (q0a Af.o));clear hc2;go_wp2_with fail;refine hK.out _ _ (Ag.o _ ⟨B7.o, (Know.of BA.o)⟩) (fun hS1 => ?_);clear hK K;try simp only [C9, pA, pB, pC]
          refine rgT 10 hS1 ?_;refine wDn ?_
          skip
          go_wp2_with fail;go_roundw
          case rel => exact ⟨z, _, rfl, by omega, by go_num, hid (drop_ahead Ct.o HXZ.o Cs.o Co.o h0), Cq.o.trans0 Cr.o⟩
          case measure => have := Co.o; simp [intOf]; omega
        ·have hgt : ¬ ((0 : Int) < (ac : Int)) := by omega
         go_wp2_with fail;obtain ⟨SS, Ag, AX⟩ := q0f (fun w' => True);have Ae := Ag.o wx.drew trivial;refine q0g SS (by kernel_rfl) Ae ?_;refine rgT 0 Ae ?_;refine rgT 1 Ae ?_;refine rgT 2 Ae ?_;refine rgS 3 Ae ?_;refine rgS 4 Ae ?_;refine rgS 5 Ae ?_;refine rgS 6 Ae ?_;refine rgS 7 Ae ?_;refine rgS 8 Ae ?_;refine rgS 9 Ae ?_;refine rgT 10 Ae ?_;refine wDn ?_
         skip
         go_wp2_with fail;go_meet;exact ⟨ac, rfl, Ch, (show Srt q1z (xs.take ac ++ (r :: xs.drop ac)) ∧ Stab q1z (dedF acc (X.rC.take (j + 1))) (xs.take ac ++ (r :: xs.drop ac)) from stop_ss Bz.o Ce.o Ct.o (fun h => absurd h h0)), Cq.o.drew⟩
      case rest =>
      revert wc; intro wy hcut;obtain ⟨ac, rfl, Ch, Ba, BK⟩ := hcut;have Aj := hid (Cu.o.trans0 BK); have Ah := hid (Bh.o.ext (BV.o.trans0 BK)); have BR := hid (recL.ext AJ.o (BV.o.trans0 BK)); have Af := hid (BK.keep0 HB3.o);clear AJ BK c3 n3;have AJ := BR;clear BR;have AL := hid (show ∀ n, n = xs.length - ac → (([] ++ ((ps.drop 0).take ac).map (·.1)) ++ [r]) ++ ((ps.drop ac).take n).map (·.1) = xs.take ac ++ (r :: xs.drop ac) from fun n hn => by
       have hl : ps.length = xs.length := by rw [← Cc.o, Cx]
       rw [Cz, CM (l := ps.drop ac) (by rw [C0]; omega), List.map_take, List.map_drop, Cc.o];simp)
      by_cases hca : cap = ac
      ·subst hca;have AL := hid (AL.o (len - cap) (by have := Bt.o; omega));go_wp2_with fail;obtain ⟨SS, Ag, AX⟩ := q0f (fun w' => Know B6 #[I J r.kD, I J r.seq, Ab r.nM, I J r.length, I J r.gP, I J r.row, Aa a6 l6 c6, Aa a7 l7 c7, Aa a8 l8 c8] w');have Ae := Ag.o _ (Know.of (q0a Af.o));refine q0g SS (by kernel_rfl) Ae ?_;obtain ⟨wd, hwd⟩ : ∃ wd, wd = wy.drew := ⟨_, rfl⟩;have Bo := hid (show Chg [] wy wd by rw [hwd]; exact (Chg.refl [] wy).drew);rw [← hwd] at Ae ⊢;clear hwd;have BX := hid (Bo.o.keep0 Af.o);have BU := hid (Ah.o.ext Bo.o); have Bp := hid (Aj.o.trans0 Bo.o); have BS := hid (recL.ext AJ.o Bo.o);clear Af Ah Aj AJ Bo;have Af := BX; have Ah := BU; have Aj := Bp; have AJ := BS;clear BX BU Bp BS;refine rgT 1 Ae ?_;refine rgT 2 Ae ?_;refine rgT 3 Ae ?_;refine rgL 5 Ae AX ?_;refine rgT 8 Ae ?_;refine rgT 9 Ae ?_;refine rgT 10 Ae ?_;refine q4k 0 6 rfl rfl (by kernel_rfl) (fun K hK => ?_) (fun K hK => ?_)
       ·have HM := hid (q5t wd (wd.heap.size) (by simp));go_simp;refine hK.out _ _ (Ag.o _ (Know.of (((Chg.refl [] wd).alloc (.cells #[] 38)).keep0 Af.o))) (fun hS1 => ?_);clear hK K;try simp only [C9, pA, pB, pC]
        refine q4k 4 6 rfl rfl (by kernel_rfl) (fun K hK => ?_) (fun K hK => ?_)
        ·obtain ⟨nw, AQ, AO⟩ := q1t (Ah.o.ext ((Chg.refl [] wd).alloc (.cells #[] 38))) (i := 0) (n := cap) (by have := Ai.o; omega);have Bn := hid AQ; have AH := hid AO; clear AQ AO;refine recL.step_append rfl _ _ 32 rfl Tryz.underlying32 KR rfl HM.o ⟨g, 0, none⟩ cap cap nw (ys := ((ps.drop 0).take cap).map (·.1)) (f := ((ps.drop 0).take cap).flatMap (·.2)) rfl (by rw [Cx, Cw, Cz]; have := Ai.o; omega) (fun j u h => by rw [CF]; have := Bn.o j u h; simpa using this) AH.o (fun g2 e hm => by cases e; have h1 := AP.o _ (q1o hm); have h2 := Aj.o.size; omega) (by rw [Cx, Cw, Cz]; simp only [CB, maxLen]; omega) (by rw [Cx, Cw, Cz]; simp only [CB]; omega) ?_;intro v4 w4 h4 Ay AU AK;obtain ⟨y4, Aw⟩ : ∃ y4, y4 = [] ++ ((ps.drop 0).take cap).map (·.1) := ⟨_, rfl⟩;rw [← Aw] at Ay;have AC := hid (show y4.length ≤ 1000000 by rw [Aw, CH, Cx, Cw, Cz]; omega); have Bg := hid Aw;clear Aw;have Au := hid (((Chg.refl [] wd).alloc (.cells #[] 38)).trans AK (fun y hy => .inr (by simp at hy; omega)));obtain ⟨a4, c4, rfl⟩ := recL.os_len Ay;have Bl := hid Ay; have AE := hid (show ∀ y, h4 = some y → wd.heap.size ≤ y from fun y e => by rcases AU with rfl | rfl <;> cases e <;> simp <;> omega);clear Ay AU AK;refine hK.out _ _ (Ag.o _ (Know.of (Au.o.keep0 Af.o))) (fun hS2 => ?_);clear hK K;try simp only [C9, pA, pB, pC]
         refine rgq 6 (fun K hK => ?_);have Bi := hid (show (w4.alloc (.cells #[I J r.kD, I J r.seq, Ab r.nM, I J r.length, I J r.gP, I J r.row, Aa a6 l6 c6, Aa a7 l7 c7, Aa a8 l8 c8] 38)).heap[w4.heap.size]? = some (.cells #[I J r.kD, I J r.seq, Ab r.nM, I J r.length, I J r.gP, I J r.row, Aa a6 l6 c6, Aa a7 l7 c7, Aa a8 l8 c8] 38 (0, 0)) from q0c (by simp) _);go_simp;refine hK.out _ _ (Ag.o _ (Know.of ((Au.o.alloc (.cells #[I J r.kD, I J r.seq, Ab r.nM, I J r.length, I J r.gP, I J r.row, Aa a6 l6 c6, Aa a7 l7 c7, Aa a8 l8 c8] 38)).keep0 Af.o))) (fun hS3 => ?_);clear hK K;try simp only [C9, pA, pB, pC]
         refine rgq 7 (fun K hK => ?_);refine recL.step_append rfl _ _ 32 rfl Tryz.underlying32 KR rfl (recL.os_alloc Bl.o (.cells #[I J r.kD, I J r.seq, Ab r.nM, I J r.length, I J r.gP, I J r.row, Aa a6 l6 c6, Aa a7 l7 c7, Aa a8 l8 c8] 38)) ⟨w4.heap.size, 0, none⟩ 1 1 [I J r.kD, I J r.seq, Ab r.nM, I J r.length, I J r.gP, I J r.row, Aa a6 l6 c6, Aa a7 l7 c7, Aa a8 l8 c8] (ys := [r]) (f := fq) rfl rfl (q2f Bi.o) (recL.all_single (recL.ext AJ.o (Au.o.alloc (.cells #[I J r.kD, I J r.seq, Ab r.nM, I J r.length, I J r.gP, I J r.row, Aa a6 l6 c6, Aa a7 l7 c7, Aa a8 l8 c8] 38)))) (fun g2 e hm => by have h1 := Bc.o g2 hm; have h2 := Aj.o.size; have h3 := AE.o g2 e; omega) (by have := AC.o; simp only [Cy, maxLen]; omega) (by have := AC.o; simp only [Cy]; omega) ?_;intro v7 w7 h7 Ax AR AV;obtain ⟨y7, Av⟩ : ∃ y7, y7 = y4 ++ [r] := ⟨_, rfl⟩;rw [← Av] at Ax;have AY := hid (show y7.length ≤ 1000001 by rw [Av, CE, Cy]; have := AC.o; omega); have AW := hid Av;clear Av;have Az := hid ((Au.o.alloc (.cells #[I J r.kD, I J r.seq, Ab r.nM, I J r.length, I J r.gP, I J r.row, Aa a6 l6 c6, Aa a7 l7 c7, Aa a8 l8 c8] 38)).trans AV (fun y hy => .inr (by cases h4 with | none => simp at hy | some y4 => simp at hy; subst hy; exact AE.o _ rfl)));obtain ⟨BQ, BP, rfl⟩ := recL.os_len Ax;have Bj := hid Ax; have AD := hid (show ∀ y, h7 = some y → wd.heap.size ≤ y from fun y e => by rcases AR with rfl | rfl; exact AE.o y e; cases e; exact (Au.o.alloc (.cells #[I J r.kD, I J r.seq, Ab r.nM, I J r.length, I J r.gP, I J r.row, Aa a6 l6 c6, Aa a7 l7 c7, Aa a8 l8 c8] 38)).size);clear Ax AR AV;refine hK.out _ _ (Ag.o _ (Know.of (Az.o.keep0 Af.o))) (fun hS4 => ?_);clear hK K;try simp only [C9, pA, pB, pC]
         refine rgq 11 (fun K hK => ?_);obtain ⟨Be, Al, Ap⟩ := q1t (Ah.o.ext Az.o) (i := cap) (n := len - cap) (by have := Ai.o; omega);have AB := hid Al; have A9 := hid Ap; clear Al Ap;refine recL.step_append rfl _ _ 32 rfl Tryz.underlying32 KR rfl Bj.o ⟨g, 0, none⟩ (len - cap) 0 Be (ys := ((ps.drop cap).take (len - cap)).map (·.1)) (f := ((ps.drop cap).take (len - cap)).flatMap (·.2)) rfl (by rw [Cx, Cw, C0]; have := Ai.o; omega) (fun j u h => by rw [CF]; have := AB.o j u h; have hl := recL.all_len A9.o; rw [show len - cap = 0 by have := BW.o.1; have := Bt.o; omega] at hl; simp at hl; subst hl; simp at h) A9.o (fun g2 e hm => by have h1 := AP.o _ (q1o hm); have h2 := Aj.o.size; have h3 := AD.o g2 e; omega) (by rw [Cx, Cw, C0]; have := AY.o; have := Ai.o; simp only [maxLen]; omega) (by rw [Cx, Cw, C0]; have := AY.o; have := Ai.o; omega) ?_;intro v11 BH h11 Ak Am Ao;have Ar := hid (Az.o.trans Ao (fun y hy => .inr (by cases h7 with | none => simp at hy | some y4 => simp at hy; subst hy; exact AD.o _ rfl)));have AG := hid (show ∀ y, h11 = some y → wd.heap.size ≤ y from fun y e => by rcases Am with rfl | rfl; exact AD.o y e; cases e; exact Az.o.size);have AA := hid Ak; clear Ak Am Ao;have Aq := hid (q5g AA.o AG.o (CG B5.o Aj.o.size) (ps := ps) (fq := fq) AP.o Bc.o (by rw [AW.o]; simp));refine hK.out _ _ (Ag.o _ (Know.of (Ar.o.keep0 Af.o))) (fun Cj => ?_);clear hK K;try simp only [C9, pA, pB, pC]
         refine rgT 12 Cj ?_;refine wDn ?_;go_wp2_with fail;have HF := hid (CL Aq.o (Aj.o.trans0 Ar.o));go_roundw
         case rel => exact ⟨j + 1, _, _, rfl, by omega, by go_num, Ba, by have := HF.o.1; rw [AW.o, Bg.o, AL.o] at this; exact this.row, HF.o.2⟩
         case measure => simp [intOf]; omega
        ·have Bi := hid (show ((wd.alloc (.cells #[] 38)).alloc (.cells #[I J r.kD, I J r.seq, Ab r.nM, I J r.length, I J r.gP, I J r.row, Aa a6 l6 c6, Aa a7 l7 c7, Aa a8 l8 c8] 38)).heap[wd.heap.size + 1]? = some (.cells #[I J r.kD, I J r.seq, Ab r.nM, I J r.length, I J r.gP, I J r.row, Aa a6 l6 c6, Aa a7 l7 c7, Aa a8 l8 c8] 38 (0, 0)) from q0c (by simp) _);go_simp;refine hK.out _ _ (Ag.o _ (Know.of ((((Chg.refl [] wd).alloc (.cells #[] 38)).alloc (.cells #[I J r.kD, I J r.seq, Ab r.nM, I J r.length, I J r.gP, I J r.row, Aa a6 l6 c6, Aa a7 l7 c7, Aa a8 l8 c8] 38)).keep0 Af.o))) (fun hS6 => ?_);clear hK K;try simp only [C9, pA, pB, pC]
         refine rgq 4 (fun K hK => ?_);obtain ⟨nw, AQ, AO⟩ := q1t (Ah.o.ext (((Chg.refl [] wd).alloc (.cells #[] 38)).alloc (.cells #[I J r.kD, I J r.seq, Ab r.nM, I J r.length, I J r.gP, I J r.row, Aa a6 l6 c6, Aa a7 l7 c7, Aa a8 l8 c8] 38))) (i := 0) (n := cap) (by have := Ai.o; omega);have Bn := hid AQ; have AH := hid AO; clear AQ AO;refine recL.step_append rfl _ _ 32 rfl Tryz.underlying32 KR rfl (recL.os_alloc HM.o (.cells #[I J r.kD, I J r.seq, Ab r.nM, I J r.length, I J r.gP, I J r.row, Aa a6 l6 c6, Aa a7 l7 c7, Aa a8 l8 c8] 38)) ⟨g, 0, none⟩ cap cap nw (ys := ((ps.drop 0).take cap).map (·.1)) (f := ((ps.drop 0).take cap).flatMap (·.2)) rfl (by rw [Cx, Cw, Cz]; have := Ai.o; omega) (fun j u h => by rw [CF]; have := Bn.o j u h; simpa using this) AH.o (fun g2 e hm => by cases e; have h1 := AP.o _ (q1o hm); have h2 := Aj.o.size; omega) (by rw [Cx, Cw, Cz]; simp only [CB, maxLen]; omega) (by rw [Cx, Cw, Cz]; simp only [CB]; omega) ?_;intro v4 w4 h4 Ay AU AK;obtain ⟨y4, Aw⟩ : ∃ y4, y4 = [] ++ ((ps.drop 0).take cap).map (·.1) := ⟨_, rfl⟩;rw [← Aw] at Ay;have AC := hid (show y4.length ≤ 1000000 by rw [Aw, CH, Cx, Cw, Cz]; omega); have Bg := hid Aw;clear Aw;have Au := hid ((((Chg.refl [] wd).alloc (.cells #[] 38)).alloc (.cells #[I J r.kD, I J r.seq, Ab r.nM, I J r.length, I J r.gP, I J r.row, Aa a6 l6 c6, Aa a7 l7 c7, Aa a8 l8 c8] 38)).trans AK (fun y hy => .inr (by simp at hy; omega)));obtain ⟨a4, c4, rfl⟩ := recL.os_len Ay;have Bl := hid Ay; have AE := hid (show ∀ y, h4 = some y → wd.heap.size ≤ y from fun y e => by rcases AU with rfl | rfl <;> cases e <;> simp <;> omega);have AZ := hid (AK.keepb Bi.o (by simp <;> omega));clear Ay AU AK;refine hK.out _ _ (Ag.o _ (Know.of (Au.o.keep0 Af.o))) (fun hS7 => ?_);clear hK K;try simp only [C9, pA, pB, pC]
         refine rgq 7 (fun K hK => ?_);refine recL.step_append rfl _ _ 32 rfl Tryz.underlying32 KR rfl Bl.o ⟨wd.heap.size + 1, 0, none⟩ 1 1 [I J r.kD, I J r.seq, Ab r.nM, I J r.length, I J r.gP, I J r.row, Aa a6 l6 c6, Aa a7 l7 c7, Aa a8 l8 c8] (ys := [r]) (f := fq) rfl rfl (q2f AZ.o) (recL.all_single (recL.ext AJ.o Au.o)) (fun g2 e hm => by have h1 := Bc.o g2 hm; have h2 := Aj.o.size; have h3 := AE.o g2 e; omega) (by have := AC.o; simp only [Cy, maxLen]; omega) (by have := AC.o; simp only [Cy]; omega) ?_;intro v7 w7 h7 Ax AR AV;obtain ⟨y7, Av⟩ : ∃ y7, y7 = y4 ++ [r] := ⟨_, rfl⟩;rw [← Av] at Ax;have AY := hid (show y7.length ≤ 1000001 by rw [Av, CE, Cy]; have := AC.o; omega); have AW := hid Av;clear Av;have Az := hid (Au.o.trans AV (fun y hy => .inr (by cases h4 with | none => simp at hy | some y4 => simp at hy; subst hy; exact AE.o _ rfl)));obtain ⟨BQ, BP, rfl⟩ := recL.os_len Ax;have Bj := hid Ax; have AD := hid (show ∀ y, h7 = some y → wd.heap.size ≤ y from fun y e => by rcases AR with rfl | rfl; exact AE.o y e; cases e; exact Au.o.size);clear Ax AR AV;refine hK.out _ _ (Ag.o _ (Know.of (Az.o.keep0 Af.o))) (fun hS8 => ?_);clear hK K;try simp only [C9, pA, pB, pC]
         refine rgq 11 (fun K hK => ?_);obtain ⟨Be, Al, Ap⟩ := q1t (Ah.o.ext Az.o) (i := cap) (n := len - cap) (by have := Ai.o; omega);have AB := hid Al; have A9 := hid Ap; clear Al Ap;refine recL.step_append rfl _ _ 32 rfl Tryz.underlying32 KR rfl Bj.o ⟨g, 0, none⟩ (len - cap) 0 Be (ys := ((ps.drop cap).take (len - cap)).map (·.1)) (f := ((ps.drop cap).take (len - cap)).flatMap (·.2)) rfl (by rw [Cx, Cw, C0]; have := Ai.o; omega) (fun j u h => by rw [CF]; have := AB.o j u h; have hl := recL.all_len A9.o; rw [show len - cap = 0 by have := BW.o.1; have := Bt.o; omega] at hl; simp at hl; subst hl; simp at h) A9.o (fun g2 e hm => by have h1 := AP.o _ (q1o hm); have h2 := Aj.o.size; have h3 := AD.o g2 e; omega) (by rw [Cx, Cw, C0]; have := AY.o; have := Ai.o; simp only [maxLen]; omega) (by rw [Cx, Cw, C0]; have := AY.o; have := Ai.o; omega) ?_;intro v11 BH h11 Ak Am Ao;have Ar := hid (Az.o.trans Ao (fun y hy => .inr (by cases h7 with | none => simp at hy | some y4 => simp at hy; subst hy; exact AD.o _ rfl)));have AG := hid (show ∀ y, h11 = some y → wd.heap.size ≤ y from fun y e => by rcases Am with rfl | rfl; exact AD.o y e; cases e; exact Az.o.size);have AA := hid Ak; clear Ak Am Ao;have Aq := hid (q5g AA.o AG.o (CG B5.o Aj.o.size) (ps := ps) (fq := fq) AP.o Bc.o (by rw [AW.o]; simp));refine hK.out _ _ (Ag.o _ (Know.of (Ar.o.keep0 Af.o))) (fun Ci => ?_);clear hK K;try simp only [C9, pA, pB, pC]
         refine rgT 12 Ci ?_;refine wDn ?_;go_wp2_with fail;have HF := hid (CL Aq.o (Aj.o.trans0 Ar.o));go_roundw
         case rel => exact ⟨j + 1, _, _, rfl, by omega, by go_num, Ba, by have := HF.o.1; rw [AW.o, Bg.o, AL.o] at this; exact this.row, HF.o.2⟩
         case measure => simp [intOf]; omega
       ·have Bi := hid (show (wd.alloc (.cells #[I J r.kD, I J r.seq, Ab r.nM, I J r.length, I J r.gP, I J r.row, Aa a6 l6 c6, Aa a7 l7 c7, Aa a8 l8 c8] 38)).heap[wd.heap.size]? = some (.cells #[I J r.kD, I J r.seq, Ab r.nM, I J r.length, I J r.gP, I J r.row, Aa a6 l6 c6, Aa a7 l7 c7, Aa a8 l8 c8] 38 (0, 0)) from q0c (by simp) _);go_simp;refine hK.out _ _ (Ag.o _ (Know.of (((Chg.refl [] wd).alloc (.cells #[I J r.kD, I J r.seq, Ab r.nM, I J r.length, I J r.gP, I J r.row, Aa a6 l6 c6, Aa a7 l7 c7, Aa a8 l8 c8] 38)).keep0 Af.o))) (fun Cn => ?_);clear hK K;try simp only [C9, pA, pB, pC]
        refine rgq 0 (fun K hK => ?_);have HM := hid (q5t (wd.alloc (.cells #[I J r.kD, I J r.seq, Ab r.nM, I J r.length, I J r.gP, I J r.row, Aa a6 l6 c6, Aa a7 l7 c7, Aa a8 l8 c8] 38)) (wd.heap.size + 1) (by simp));go_simp;refine hK.out _ _ (Ag.o _ (Know.of ((((Chg.refl [] wd).alloc (.cells #[I J r.kD, I J r.seq, Ab r.nM, I J r.length, I J r.gP, I J r.row, Aa a6 l6 c6, Aa a7 l7 c7, Aa a8 l8 c8] 38)).alloc (.cells #[] 38)).keep0 Af.o))) (fun Cm => ?_);clear hK K;try simp only [C9, pA, pB, pC]
        refine rgq 4 (fun K hK => ?_);obtain ⟨nw, AQ, AO⟩ := q1t (Ah.o.ext (((Chg.refl [] wd).alloc (.cells #[I J r.kD, I J r.seq, Ab r.nM, I J r.length, I J r.gP, I J r.row, Aa a6 l6 c6, Aa a7 l7 c7, Aa a8 l8 c8] 38)).alloc (.cells #[] 38))) (i := 0) (n := cap) (by have := Ai.o; omega);have Bn := hid AQ; have AH := hid AO; clear AQ AO;refine recL.step_append rfl _ _ 32 rfl Tryz.underlying32 KR rfl HM.o ⟨g, 0, none⟩ cap cap nw (ys := ((ps.drop 0).take cap).map (·.1)) (f := ((ps.drop 0).take cap).flatMap (·.2)) rfl (by rw [Cx, Cw, Cz]; have := Ai.o; omega) (fun j u h => by rw [CF]; have := Bn.o j u h; simpa using this) AH.o (fun g2 e hm => by cases e; have h1 := AP.o _ (q1o hm); have h2 := Aj.o.size; omega) (by rw [Cx, Cw, Cz]; simp only [CB, maxLen]; omega) (by rw [Cx, Cw, Cz]; simp only [CB]; omega) ?_;intro v4 w4 h4 Ay AU AK;obtain ⟨y4, Aw⟩ : ∃ y4, y4 = [] ++ ((ps.drop 0).take cap).map (·.1) := ⟨_, rfl⟩;rw [← Aw] at Ay;have AC := hid (show y4.length ≤ 1000000 by rw [Aw, CH, Cx, Cw, Cz]; omega); have Bg := hid Aw;clear Aw;have Au := hid ((((Chg.refl [] wd).alloc (.cells #[I J r.kD, I J r.seq, Ab r.nM, I J r.length, I J r.gP, I J r.row, Aa a6 l6 c6, Aa a7 l7 c7, Aa a8 l8 c8] 38)).alloc (.cells #[] 38)).trans AK (fun y hy => .inr (by simp at hy; omega)));obtain ⟨a4, c4, rfl⟩ := recL.os_len Ay;have Bl := hid Ay; have AE := hid (show ∀ y, h4 = some y → wd.heap.size ≤ y from fun y e => by rcases AU with rfl | rfl <;> cases e <;> simp <;> omega);have AZ := hid (AK.keepb (q0b Bi.o (.cells #[] 38)) (by simp <;> omega));clear Ay AU AK;refine hK.out _ _ (Ag.o _ (Know.of (Au.o.keep0 Af.o))) (fun Cl => ?_);clear hK K;try simp only [C9, pA, pB, pC]
        refine rgq 7 (fun K hK => ?_);refine recL.step_append rfl _ _ 32 rfl Tryz.underlying32 KR rfl Bl.o ⟨wd.heap.size, 0, none⟩ 1 1 [I J r.kD, I J r.seq, Ab r.nM, I J r.length, I J r.gP, I J r.row, Aa a6 l6 c6, Aa a7 l7 c7, Aa a8 l8 c8] (ys := [r]) (f := fq) rfl rfl (q2f AZ.o) (recL.all_single (recL.ext AJ.o Au.o)) (fun g2 e hm => by have h1 := Bc.o g2 hm; have h2 := Aj.o.size; have h3 := AE.o g2 e; omega) (by have := AC.o; simp only [Cy, maxLen]; omega) (by have := AC.o; simp only [Cy]; omega) ?_;intro v7 w7 h7 Ax AR AV;obtain ⟨y7, Av⟩ : ∃ y7, y7 = y4 ++ [r] := ⟨_, rfl⟩;rw [← Av] at Ax;have AY := hid (show y7.length ≤ 1000001 by rw [Av, CE, Cy]; have := AC.o; omega); have AW := hid Av;clear Av;have Az := hid (Au.o.trans AV (fun y hy => .inr (by cases h4 with | none => simp at hy | some y4 => simp at hy; subst hy; exact AE.o _ rfl)));obtain ⟨BQ, BP, rfl⟩ := recL.os_len Ax;have Bj := hid Ax; have AD := hid (show ∀ y, h7 = some y → wd.heap.size ≤ y from fun y e => by rcases AR with rfl | rfl; exact AE.o y e; cases e; exact Au.o.size);clear Ax AR AV;refine hK.out _ _ (Ag.o _ (Know.of (Az.o.keep0 Af.o))) (fun Ck => ?_);clear hK K;try simp only [C9, pA, pB, pC]
        refine rgq 11 (fun K hK => ?_);obtain ⟨Be, Al, Ap⟩ := q1t (Ah.o.ext Az.o) (i := cap) (n := len - cap) (by have := Ai.o; omega);have AB := hid Al; have A9 := hid Ap; clear Al Ap;refine recL.step_append rfl _ _ 32 rfl Tryz.underlying32 KR rfl Bj.o ⟨g, 0, none⟩ (len - cap) 0 Be (ys := ((ps.drop cap).take (len - cap)).map (·.1)) (f := ((ps.drop cap).take (len - cap)).flatMap (·.2)) rfl (by rw [Cx, Cw, C0]; have := Ai.o; omega) (fun j u h => by rw [CF]; have := AB.o j u h; have hl := recL.all_len A9.o; rw [show len - cap = 0 by have := BW.o.1; have := Bt.o; omega] at hl; simp at hl; subst hl; simp at h) A9.o (fun g2 e hm => by have h1 := AP.o _ (q1o hm); have h2 := Aj.o.size; have h3 := AD.o g2 e; omega) (by rw [Cx, Cw, C0]; have := AY.o; have := Ai.o; simp only [maxLen]; omega) (by rw [Cx, Cw, C0]; have := AY.o; have := Ai.o; omega) ?_;intro v11 BH h11 Ak Am Ao;have Ar := hid (Az.o.trans Ao (fun y hy => .inr (by cases h7 with | none => simp at hy | some y4 => simp at hy; subst hy; exact AD.o _ rfl)));have AG := hid (show ∀ y, h11 = some y → wd.heap.size ≤ y from fun y e => by rcases Am with rfl | rfl; exact AD.o y e; cases e; exact Az.o.size);have AA := hid Ak; clear Ak Am Ao;have Aq := hid (q5g AA.o AG.o (CG B5.o Aj.o.size) (ps := ps) (fq := fq) AP.o Bc.o (by rw [AW.o]; simp));refine hK.out _ _ (Ag.o _ (Know.of (Ar.o.keep0 Af.o))) (fun Bw => ?_);clear hK K;try simp only [C9, pA, pB, pC]
        refine rgT 12 Bw ?_;refine wDn ?_;go_wp2_with fail;have HF := hid (CL Aq.o (Aj.o.trans0 Ar.o));go_roundw
        case rel => exact ⟨j + 1, _, _, rfl, by omega, by go_num, Ba, by have := HF.o.1; rw [AW.o, Bg.o, AL.o] at this; exact this.row, HF.o.2⟩
        case measure => simp [intOf]; omega
      ·have AL := hid (AL.o (len - ac) (by have := Bt.o; omega));have Bf : ac ≤ cap := by have := BW.o.1; have := Bt.o; omega
       go_wp2_with fail;obtain ⟨SS, Ag, AX⟩ := q0f (fun w' => Know B6 #[I J r.kD, I J r.seq, Ab r.nM, I J r.length, I J r.gP, I J r.row, Aa a6 l6 c6, Aa a7 l7 c7, Aa a8 l8 c8] w');have Ae := Ag.o _ (Know.of (q0a Af.o));refine q0g SS (by kernel_rfl) Ae ?_;obtain ⟨wd, hwd⟩ : ∃ wd, wd = wy.drew := ⟨_, rfl⟩;have Bo := hid (show Chg [] wy wd by rw [hwd]; exact (Chg.refl [] wy).drew);rw [← hwd] at Ae ⊢;clear hwd;have BX := hid (Bo.o.keep0 Af.o);have BU := hid (Ah.o.ext Bo.o); have Bp := hid (Aj.o.trans0 Bo.o); have BS := hid (recL.ext AJ.o Bo.o);clear Af Ah Aj AJ Bo;have Af := BX; have Ah := BU; have Aj := Bp; have AJ := BS;clear BX BU Bp BS;refine rgT 1 Ae ?_;refine rgT 2 Ae ?_;refine rgT 3 Ae ?_;refine rgL 5 Ae AX ?_;refine rgT 8 Ae ?_;refine rgT 9 Ae ?_;refine rgT 10 Ae ?_;refine q4k 0 6 rfl rfl (by kernel_rfl) (fun K hK => ?_) (fun K hK => ?_)
       ·have HM := hid (q5t wd (wd.heap.size) (by simp));go_simp;refine hK.out _ _ (Ag.o _ (Know.of (((Chg.refl [] wd).alloc (.cells #[] 38)).keep0 Af.o))) (fun hS1 => ?_);clear hK K;try simp only [C9, pA, pB, pC]
        refine q4k 4 6 rfl rfl (by kernel_rfl) (fun K hK => ?_) (fun K hK => ?_)
        ·obtain ⟨nw, AQ, AO⟩ := q1t (Ah.o.ext ((Chg.refl [] wd).alloc (.cells #[] 38))) (i := 0) (n := ac) (by have := Ai.o; omega);have Bn := hid AQ; have AH := hid AO; clear AQ AO;refine recL.step_append rfl _ _ 32 rfl Tryz.underlying32 KR rfl HM.o ⟨g, 0, none⟩ ac cap nw (ys := ((ps.drop 0).take ac).map (·.1)) (f := ((ps.drop 0).take ac).flatMap (·.2)) rfl (by rw [Cx, Cw, Cz]; have := Ai.o; omega) (fun j u h => by rw [CF]; have := Bn.o j u h; simpa using this) AH.o (fun g2 e hm => by cases e; have h1 := AP.o _ (q1o hm); have h2 := Aj.o.size; omega) (by rw [Cx, Cw, Cz]; simp only [CB, maxLen]; omega) (by rw [Cx, Cw, Cz]; simp only [CB]; omega) ?_;intro v4 w4 h4 Ay AU AK;obtain ⟨y4, Aw⟩ : ∃ y4, y4 = [] ++ ((ps.drop 0).take ac).map (·.1) := ⟨_, rfl⟩;rw [← Aw] at Ay;have AC := hid (show y4.length ≤ 1000000 by rw [Aw, CH, Cx, Cw, Cz]; omega); have Bg := hid Aw;clear Aw;have Au := hid (((Chg.refl [] wd).alloc (.cells #[] 38)).trans AK (fun y hy => .inr (by simp at hy; omega)));obtain ⟨a4, c4, rfl⟩ := recL.os_len Ay;have Bl := hid Ay; have AE := hid (show ∀ y, h4 = some y → wd.heap.size ≤ y from fun y e => by rcases AU with rfl | rfl <;> cases e <;> simp <;> omega);clear Ay AU AK;refine hK.out _ _ (Ag.o _ (Know.of (Au.o.keep0 Af.o))) (fun hS2 => ?_);clear hK K;try simp only [C9, pA, pB, pC]
         refine rgq 6 (fun K hK => ?_);have Bi := hid (show (w4.alloc (.cells #[I J r.kD, I J r.seq, Ab r.nM, I J r.length, I J r.gP, I J r.row, Aa a6 l6 c6, Aa a7 l7 c7, Aa a8 l8 c8] 38)).heap[w4.heap.size]? = some (.cells #[I J r.kD, I J r.seq, Ab r.nM, I J r.length, I J r.gP, I J r.row, Aa a6 l6 c6, Aa a7 l7 c7, Aa a8 l8 c8] 38 (0, 0)) from q0c (by simp) _);go_simp;refine hK.out _ _ (Ag.o _ (Know.of ((Au.o.alloc (.cells #[I J r.kD, I J r.seq, Ab r.nM, I J r.length, I J r.gP, I J r.row, Aa a6 l6 c6, Aa a7 l7 c7, Aa a8 l8 c8] 38)).keep0 Af.o))) (fun hS3 => ?_);clear hK K;try simp only [C9, pA, pB, pC]
         refine rgq 7 (fun K hK => ?_);refine recL.step_append rfl _ _ 32 rfl Tryz.underlying32 KR rfl (recL.os_alloc Bl.o (.cells #[I J r.kD, I J r.seq, Ab r.nM, I J r.length, I J r.gP, I J r.row, Aa a6 l6 c6, Aa a7 l7 c7, Aa a8 l8 c8] 38)) ⟨w4.heap.size, 0, none⟩ 1 1 [I J r.kD, I J r.seq, Ab r.nM, I J r.length, I J r.gP, I J r.row, Aa a6 l6 c6, Aa a7 l7 c7, Aa a8 l8 c8] (ys := [r]) (f := fq) rfl rfl (q2f Bi.o) (recL.all_single (recL.ext AJ.o (Au.o.alloc (.cells #[I J r.kD, I J r.seq, Ab r.nM, I J r.length, I J r.gP, I J r.row, Aa a6 l6 c6, Aa a7 l7 c7, Aa a8 l8 c8] 38)))) (fun g2 e hm => by have h1 := Bc.o g2 hm; have h2 := Aj.o.size; have h3 := AE.o g2 e; omega) (by have := AC.o; simp only [Cy, maxLen]; omega) (by have := AC.o; simp only [Cy]; omega) ?_;intro v7 w7 h7 Ax AR AV;obtain ⟨y7, Av⟩ : ∃ y7, y7 = y4 ++ [r] := ⟨_, rfl⟩;rw [← Av] at Ax;have AY := hid (show y7.length ≤ 1000001 by rw [Av, CE, Cy]; have := AC.o; omega); have AW := hid Av;clear Av;have Az := hid ((Au.o.alloc (.cells #[I J r.kD, I J r.seq, Ab r.nM, I J r.length, I J r.gP, I J r.row, Aa a6 l6 c6, Aa a7 l7 c7, Aa a8 l8 c8] 38)).trans AV (fun y hy => .inr (by cases h4 with | none => simp at hy | some y4 => simp at hy; subst hy; exact AE.o _ rfl)));obtain ⟨BQ, BP, rfl⟩ := recL.os_len Ax;have Bj := hid Ax; have AD := hid (show ∀ y, h7 = some y → wd.heap.size ≤ y from fun y e => by rcases AR with rfl | rfl; exact AE.o y e; cases e; exact (Au.o.alloc (.cells #[I J r.kD, I J r.seq, Ab r.nM, I J r.length, I J r.gP, I J r.row, Aa a6 l6 c6, Aa a7 l7 c7, Aa a8 l8 c8] 38)).size);clear Ax AR AV;refine hK.out _ _ (Ag.o _ (Know.of (Az.o.keep0 Af.o))) (fun hS4 => ?_);clear hK K;try simp only [C9, pA, pB, pC]
         refine rgq 11 (fun K hK => ?_);obtain ⟨Be, Al, Ap⟩ := q1t (Ah.o.ext Az.o) (i := ac) (n := len - ac) (by have := Ai.o; omega);have AB := hid Al; have A9 := hid Ap; clear Al Ap;refine recL.step_append rfl _ _ 32 rfl Tryz.underlying32 KR rfl Bj.o ⟨g, ac * 9, none⟩ (len - ac) (cap - ac) Be (ys := ((ps.drop ac).take (len - ac)).map (·.1)) (f := ((ps.drop ac).take (len - ac)).flatMap (·.2)) rfl (by rw [Cx, Cw, C0]; have := Ai.o; omega) (fun j u h => by rw [CF]; have := AB.o j u h; simpa using this) A9.o (fun g2 e hm => by have h1 := AP.o _ (q1o hm); have h2 := Aj.o.size; have h3 := AD.o g2 e; omega) (by rw [Cx, Cw, C0]; have := AY.o; have := Ai.o; simp only [maxLen]; omega) (by rw [Cx, Cw, C0]; have := AY.o; have := Ai.o; omega) ?_;intro v11 BH h11 Ak Am Ao;have Ar := hid (Az.o.trans Ao (fun y hy => .inr (by cases h7 with | none => simp at hy | some y4 => simp at hy; subst hy; exact AD.o _ rfl)));have AG := hid (show ∀ y, h11 = some y → wd.heap.size ≤ y from fun y e => by rcases Am with rfl | rfl; exact AD.o y e; cases e; exact Az.o.size);have AA := hid Ak; clear Ak Am Ao;have Aq := hid (q5g AA.o AG.o (CG B5.o Aj.o.size) (ps := ps) (fq := fq) AP.o Bc.o (by rw [AW.o]; simp));refine hK.out _ _ (Ag.o _ (Know.of (Ar.o.keep0 Af.o))) (fun Cj => ?_);clear hK K;try simp only [C9, pA, pB, pC]
         refine rgT 12 Cj ?_;refine wDn ?_;go_wp2_with fail;have HF := hid (CL Aq.o (Aj.o.trans0 Ar.o));go_roundw
         case rel => exact ⟨j + 1, _, _, rfl, by omega, by go_num, Ba, by have := HF.o.1; rw [AW.o, Bg.o, AL.o] at this; exact this.row, HF.o.2⟩
         case measure => simp [intOf]; omega
        ·have Bi := hid (show ((wd.alloc (.cells #[] 38)).alloc (.cells #[I J r.kD, I J r.seq, Ab r.nM, I J r.length, I J r.gP, I J r.row, Aa a6 l6 c6, Aa a7 l7 c7, Aa a8 l8 c8] 38)).heap[wd.heap.size + 1]? = some (.cells #[I J r.kD, I J r.seq, Ab r.nM, I J r.length, I J r.gP, I J r.row, Aa a6 l6 c6, Aa a7 l7 c7, Aa a8 l8 c8] 38 (0, 0)) from q0c (by simp) _);go_simp;refine hK.out _ _ (Ag.o _ (Know.of ((((Chg.refl [] wd).alloc (.cells #[] 38)).alloc (.cells #[I J r.kD, I J r.seq, Ab r.nM, I J r.length, I J r.gP, I J r.row, Aa a6 l6 c6, Aa a7 l7 c7, Aa a8 l8 c8] 38)).keep0 Af.o))) (fun hS6 => ?_);clear hK K;try simp only [C9, pA, pB, pC]
         refine rgq 4 (fun K hK => ?_);obtain ⟨nw, AQ, AO⟩ := q1t (Ah.o.ext (((Chg.refl [] wd).alloc (.cells #[] 38)).alloc (.cells #[I J r.kD, I J r.seq, Ab r.nM, I J r.length, I J r.gP, I J r.row, Aa a6 l6 c6, Aa a7 l7 c7, Aa a8 l8 c8] 38))) (i := 0) (n := ac) (by have := Ai.o; omega);have Bn := hid AQ; have AH := hid AO; clear AQ AO;refine recL.step_append rfl _ _ 32 rfl Tryz.underlying32 KR rfl (recL.os_alloc HM.o (.cells #[I J r.kD, I J r.seq, Ab r.nM, I J r.length, I J r.gP, I J r.row, Aa a6 l6 c6, Aa a7 l7 c7, Aa a8 l8 c8] 38)) ⟨g, 0, none⟩ ac cap nw (ys := ((ps.drop 0).take ac).map (·.1)) (f := ((ps.drop 0).take ac).flatMap (·.2)) rfl (by rw [Cx, Cw, Cz]; have := Ai.o; omega) (fun j u h => by rw [CF]; have := Bn.o j u h; simpa using this) AH.o (fun g2 e hm => by cases e; have h1 := AP.o _ (q1o hm); have h2 := Aj.o.size; omega) (by rw [Cx, Cw, Cz]; simp only [CB, maxLen]; omega) (by rw [Cx, Cw, Cz]; simp only [CB]; omega) ?_;intro v4 w4 h4 Ay AU AK;obtain ⟨y4, Aw⟩ : ∃ y4, y4 = [] ++ ((ps.drop 0).take ac).map (·.1) := ⟨_, rfl⟩;rw [← Aw] at Ay;have AC := hid (show y4.length ≤ 1000000 by rw [Aw, CH, Cx, Cw, Cz]; omega); have Bg := hid Aw;clear Aw;have Au := hid ((((Chg.refl [] wd).alloc (.cells #[] 38)).alloc (.cells #[I J r.kD, I J r.seq, Ab r.nM, I J r.length, I J r.gP, I J r.row, Aa a6 l6 c6, Aa a7 l7 c7, Aa a8 l8 c8] 38)).trans AK (fun y hy => .inr (by simp at hy; omega)));obtain ⟨a4, c4, rfl⟩ := recL.os_len Ay;have Bl := hid Ay; have AE := hid (show ∀ y, h4 = some y → wd.heap.size ≤ y from fun y e => by rcases AU with rfl | rfl <;> cases e <;> simp <;> omega);have AZ := hid (AK.keepb Bi.o (by simp <;> omega));clear Ay AU AK;refine hK.out _ _ (Ag.o _ (Know.of (Au.o.keep0 Af.o))) (fun hS7 => ?_);clear hK K;try simp only [C9, pA, pB, pC]
         refine rgq 7 (fun K hK => ?_);refine recL.step_append rfl _ _ 32 rfl Tryz.underlying32 KR rfl Bl.o ⟨wd.heap.size + 1, 0, none⟩ 1 1 [I J r.kD, I J r.seq, Ab r.nM, I J r.length, I J r.gP, I J r.row, Aa a6 l6 c6, Aa a7 l7 c7, Aa a8 l8 c8] (ys := [r]) (f := fq) rfl rfl (q2f AZ.o) (recL.all_single (recL.ext AJ.o Au.o)) (fun g2 e hm => by have h1 := Bc.o g2 hm; have h2 := Aj.o.size; have h3 := AE.o g2 e; omega) (by have := AC.o; simp only [Cy, maxLen]; omega) (by have := AC.o; simp only [Cy]; omega) ?_;intro v7 w7 h7 Ax AR AV;obtain ⟨y7, Av⟩ : ∃ y7, y7 = y4 ++ [r] := ⟨_, rfl⟩;rw [← Av] at Ax;have AY := hid (show y7.length ≤ 1000001 by rw [Av, CE, Cy]; have := AC.o; omega); have AW := hid Av;clear Av;have Az := hid (Au.o.trans AV (fun y hy => .inr (by cases h4 with | none => simp at hy | some y4 => simp at hy; subst hy; exact AE.o _ rfl)));obtain ⟨BQ, BP, rfl⟩ := recL.os_len Ax;have Bj := hid Ax; have AD := hid (show ∀ y, h7 = some y → wd.heap.size ≤ y from fun y e => by rcases AR with rfl | rfl; exact AE.o y e; cases e; exact Au.o.size);clear Ax AR AV;refine hK.out _ _ (Ag.o _ (Know.of (Az.o.keep0 Af.o))) (fun hS8 => ?_);clear hK K;try simp only [C9, pA, pB, pC]
         refine rgq 11 (fun K hK => ?_);obtain ⟨Be, Al, Ap⟩ := q1t (Ah.o.ext Az.o) (i := ac) (n := len - ac) (by have := Ai.o; omega);have AB := hid Al; have A9 := hid Ap; clear Al Ap;refine recL.step_append rfl _ _ 32 rfl Tryz.underlying32 KR rfl Bj.o ⟨g, ac * 9, none⟩ (len - ac) (cap - ac) Be (ys := ((ps.drop ac).take (len - ac)).map (·.1)) (f := ((ps.drop ac).take (len - ac)).flatMap (·.2)) rfl (by rw [Cx, Cw, C0]; have := Ai.o; omega) (fun j u h => by rw [CF]; have := AB.o j u h; simpa using this) A9.o (fun g2 e hm => by have h1 := AP.o _ (q1o hm); have h2 := Aj.o.size; have h3 := AD.o g2 e; omega) (by rw [Cx, Cw, C0]; have := AY.o; have := Ai.o; simp only [maxLen]; omega) (by rw [Cx, Cw, C0]; have := AY.o; have := Ai.o; omega) ?_;intro v11 BH h11 Ak Am Ao;have Ar := hid (Az.o.trans Ao (fun y hy => .inr (by cases h7 with | none => simp at hy | some y4 => simp at hy; subst hy; exact AD.o _ rfl)));have AG := hid (show ∀ y, h11 = some y → wd.heap.size ≤ y from fun y e => by rcases Am with rfl | rfl; exact AD.o y e; cases e; exact Az.o.size);have AA := hid Ak; clear Ak Am Ao;have Aq := hid (q5g AA.o AG.o (CG B5.o Aj.o.size) (ps := ps) (fq := fq) AP.o Bc.o (by rw [AW.o]; simp));refine hK.out _ _ (Ag.o _ (Know.of (Ar.o.keep0 Af.o))) (fun Ci => ?_);clear hK K;try simp only [C9, pA, pB, pC]
         refine rgT 12 Ci ?_;refine wDn ?_;go_wp2_with fail;have HF := hid (CL Aq.o (Aj.o.trans0 Ar.o));go_roundw
         case rel => exact ⟨j + 1, _, _, rfl, by omega, by go_num, Ba, by have := HF.o.1; rw [AW.o, Bg.o, AL.o] at this; exact this.row, HF.o.2⟩
         case measure => simp [intOf]; omega
       ·have Bi := hid (show (wd.alloc (.cells #[I J r.kD, I J r.seq, Ab r.nM, I J r.length, I J r.gP, I J r.row, Aa a6 l6 c6, Aa a7 l7 c7, Aa a8 l8 c8] 38)).heap[wd.heap.size]? = some (.cells #[I J r.kD, I J r.seq, Ab r.nM, I J r.length, I J r.gP, I J r.row, Aa a6 l6 c6, Aa a7 l7 c7, Aa a8 l8 c8] 38 (0, 0)) from q0c (by simp) _);go_simp;refine hK.out _ _ (Ag.o _ (Know.of (((Chg.refl [] wd).alloc (.cells #[I J r.kD, I J r.seq, Ab r.nM, I J r.length, I J r.gP, I J r.row, Aa a6 l6 c6, Aa a7 l7 c7, Aa a8 l8 c8] 38)).keep0 Af.o))) (fun Cn => ?_);clear hK K;try simp only [C9, pA, pB, pC]
        refine rgq 0 (fun K hK => ?_);have HM := hid (q5t (wd.alloc (.cells #[I J r.kD, I J r.seq, Ab r.nM, I J r.length, I J r.gP, I J r.row, Aa a6 l6 c6, Aa a7 l7 c7, Aa a8 l8 c8] 38)) (wd.heap.size + 1) (by simp));go_simp;refine hK.out _ _ (Ag.o _ (Know.of ((((Chg.refl [] wd).alloc (.cells #[I J r.kD, I J r.seq, Ab r.nM, I J r.length, I J r.gP, I J r.row, Aa a6 l6 c6, Aa a7 l7 c7, Aa a8 l8 c8] 38)).alloc (.cells #[] 38)).keep0 Af.o))) (fun Cm => ?_);clear hK K;try simp only [C9, pA, pB, pC]
        refine rgq 4 (fun K hK => ?_);obtain ⟨nw, AQ, AO⟩ := q1t (Ah.o.ext (((Chg.refl [] wd).alloc (.cells #[I J r.kD, I J r.seq, Ab r.nM, I J r.length, I J r.gP, I J r.row, Aa a6 l6 c6, Aa a7 l7 c7, Aa a8 l8 c8] 38)).alloc (.cells #[] 38))) (i := 0) (n := ac) (by have := Ai.o; omega);have Bn := hid AQ; have AH := hid AO; clear AQ AO;refine recL.step_append rfl _ _ 32 rfl Tryz.underlying32 KR rfl HM.o ⟨g, 0, none⟩ ac cap nw (ys := ((ps.drop 0).take ac).map (·.1)) (f := ((ps.drop 0).take ac).flatMap (·.2)) rfl (by rw [Cx, Cw, Cz]; have := Ai.o; omega) (fun j u h => by rw [CF]; have := Bn.o j u h; simpa using this) AH.o (fun g2 e hm => by cases e; have h1 := AP.o _ (q1o hm); have h2 := Aj.o.size; omega) (by rw [Cx, Cw, Cz]; simp only [CB, maxLen]; omega) (by rw [Cx, Cw, Cz]; simp only [CB]; omega) ?_;intro v4 w4 h4 Ay AU AK;obtain ⟨y4, Aw⟩ : ∃ y4, y4 = [] ++ ((ps.drop 0).take ac).map (·.1) := ⟨_, rfl⟩;rw [← Aw] at Ay;have AC := hid (show y4.length ≤ 1000000 by rw [Aw, CH, Cx, Cw, Cz]; omega); have Bg := hid Aw;clear Aw;have Au := hid ((((Chg.refl [] wd).alloc (.cells #[I J r.kD, I J r.seq, Ab r.nM, I J r.length, I J r.gP, I J r.row, Aa a6 l6 c6, Aa a7 l7 c7, Aa a8 l8 c8] 38)).alloc (.cells #[] 38)).trans AK (fun y hy => .inr (by simp at hy; omega)));obtain ⟨a4, c4, rfl⟩ := recL.os_len Ay;have Bl := hid Ay; have AE := hid (show ∀ y, h4 = some y → wd.heap.size ≤ y from fun y e => by rcases AU with rfl | rfl <;> cases e <;> simp <;> omega);have AZ := hid (AK.keepb (q0b Bi.o (.cells #[] 38)) (by simp <;> omega));clear Ay AU AK;refine hK.out _ _ (Ag.o _ (Know.of (Au.o.keep0 Af.o))) (fun Cl => ?_);clear hK K;try simp only [C9, pA, pB, pC]
        refine rgq 7 (fun K hK => ?_);refine recL.step_append rfl _ _ 32 rfl Tryz.underlying32 KR rfl Bl.o ⟨wd.heap.size, 0, none⟩ 1 1 [I J r.kD, I J r.seq, Ab r.nM, I J r.length, I J r.gP, I J r.row, Aa a6 l6 c6, Aa a7 l7 c7, Aa a8 l8 c8] (ys := [r]) (f := fq) rfl rfl (q2f AZ.o) (recL.all_single (recL.ext AJ.o Au.o)) (fun g2 e hm => by have h1 := Bc.o g2 hm; have h2 := Aj.o.size; have h3 := AE.o g2 e; omega) (by have := AC.o; simp only [Cy, maxLen]; omega) (by have := AC.o; simp only [Cy]; omega) ?_;intro v7 w7 h7 Ax AR AV;obtain ⟨y7, Av⟩ : ∃ y7, y7 = y4 ++ [r] := ⟨_, rfl⟩;rw [← Av] at Ax;have AY := hid (show y7.length ≤ 1000001 by rw [Av, CE, Cy]; have := AC.o; omega); have AW := hid Av;clear Av;have Az := hid (Au.o.trans AV (fun y hy => .inr (by cases h4 with | none => simp at hy | some y4 => simp at hy; subst hy; exact AE.o _ rfl)));obtain ⟨BQ, BP, rfl⟩ := recL.os_len Ax;have Bj := hid Ax; have AD := hid (show ∀ y, h7 = some y → wd.heap.size ≤ y from fun y e => by rcases AR with rfl | rfl; exact AE.o y e; cases e; exact Au.o.size);clear Ax AR AV;refine hK.out _ _ (Ag.o _ (Know.of (Az.o.keep0 Af.o))) (fun Ck => ?_);clear hK K;try simp only [C9, pA, pB, pC]
        refine rgq 11 (fun K hK => ?_);obtain ⟨Be, Al, Ap⟩ := q1t (Ah.o.ext Az.o) (i := ac) (n := len - ac) (by have := Ai.o; omega);have AB := hid Al; have A9 := hid Ap; clear Al Ap;refine recL.step_append rfl _ _ 32 rfl Tryz.underlying32 KR rfl Bj.o ⟨g, ac * 9, none⟩ (len - ac) (cap - ac) Be (ys := ((ps.drop ac).take (len - ac)).map (·.1)) (f := ((ps.drop ac).take (len - ac)).flatMap (·.2)) rfl (by rw [Cx, Cw, C0]; have := Ai.o; omega) (fun j u h => by rw [CF]; have := AB.o j u h; simpa using this) A9.o (fun g2 e hm => by have h1 := AP.o _ (q1o hm); have h2 := Aj.o.size; have h3 := AD.o g2 e; omega) (by rw [Cx, Cw, C0]; have := AY.o; have := Ai.o; simp only [maxLen]; omega) (by rw [Cx, Cw, C0]; have := AY.o; have := Ai.o; omega) ?_;intro v11 BH h11 Ak Am Ao;have Ar := hid (Az.o.trans Ao (fun y hy => .inr (by cases h7 with | none => simp at hy | some y4 => simp at hy; subst hy; exact AD.o _ rfl)));have AG := hid (show ∀ y, h11 = some y → wd.heap.size ≤ y from fun y e => by rcases Am with rfl | rfl; exact AD.o y e; cases e; exact Az.o.size);have AA := hid Ak; clear Ak Am Ao;have Aq := hid (q5g AA.o AG.o (CG B5.o Aj.o.size) (ps := ps) (fq := fq) AP.o Bc.o (by rw [AW.o]; simp));refine hK.out _ _ (Ag.o _ (Know.of (Ar.o.keep0 Af.o))) (fun Bw => ?_);clear hK K;try simp only [C9, pA, pB, pC]
        refine rgT 12 Bw ?_;refine wDn ?_;go_wp2_with fail;have HF := hid (CL Aq.o (Aj.o.trans0 Ar.o));go_roundw
        case rel => exact ⟨j + 1, _, _, rfl, by omega, by go_num, Ba, by have := HF.o.1; rw [AW.o, Bg.o, AL.o] at this; exact this.row, HF.o.2⟩
        case measure => simp [intOf]; omega
     ·have Ce := hid (show dedF acc (X.rC.take (j + 1)) = dedF acc (X.rC.take j) by rw [HNJ.o]; unfold dedS; rw [← HV.o]; rfl);have HSR := hid (show Rwd n0 w3 (Aa (some ⟨g, 0, none⟩) len cap) xs from hshr Bh.o Cc.o Bt.o HGN.o BW.o AP.o BV.o);go_wp2_with fail;go_roundw
      case rel => exact ⟨j + 1, xs, _, rfl, by omega, by go_num, by rw [Ce.o]; exact Bz, HSR.o, Cu.o⟩
      case measure => simp [intOf]; omega
    ·obtain rfl : j = l1 := by omega
     rw [CM (by have := HL1.o; omega), ← HNX.o] at Bz;have Cb := hid Bq;clear Bq hc;go_wp2_with fail;go_roundw
     case rel => exact ⟨k + 1, xs, _, rfl, by omega, by go_num, Bz, Cb.o, HC.o⟩
     case measure => simp [intOf]; omega
  ·obtain rfl : k = 2 := by omega
   rw [CM (by have := HL.o; omega)] at AX;have hu := cnt_uniq AX.o.1 AX.o.2;have HR := hid (CL Bq hc);clear Bq hc;go_wp2_with fail;go_ret;subst hu;exact ⟨_, rfl, HR.o.1, HR.o.2⟩
theorem z1i (m : Nat) {u0 u1 u2 u3 u4 u5 u6 u7 u8 u9 u10 u12 u13 u14 : Value} (BG : Option Addr) (c12 : Nat) (BO : List Nat) (ts : List Tap) (w : World) (h : w.heap[m]? = some (.cells #[u0, u1, u2, u3, u4, u5, u6, u7, u8, u9, u10, Aa BG 2 c12, u12, u13, u14] 30 (0, 0))) (BF : tapL.sl w BG 2 c12 ts BO) (hz : (ts.flatMap (·.rC)).length ≤ 1000000) :
  Calls Tryz.prog 37 #[.pointer (some ⟨m, 0, none⟩)] w fun e w' => ∃ v, e = .returned v ∧ Rwd w.heap.size w' v (cntL ts) ∧ Chg [] w w' :=
 l6Counted_at w.heap.size m BG c12 BO ts w h BF hz (Db _) (fun y hy => tapL.sl_lt BF y hy)
theorem z0s {x : Wld} (hf : x.fault = 0) : x.tapes.length = 2 ∧ ∀ t ∈ x.tapes, t.rC.length ≤ 200 := by
 refine ⟨Classical.byContradiction (fun hn => ?_), fun t ht => Classical.byContradiction (fun hn => ?_)⟩
 ·unfold Wld.fault at hf;rw [q0d (P := x.built ∧ x.onOk ∧ x.tapes.length = 2) (fun g => hn g.2.2)] at hf
  split at hf <;> simp at hf
 ·unfold Wld.fault at hf;have h2 : x.tapF = 2 := by unfold Wld.tapF; rw [if_pos (q0e ⟨t, ht, by omega⟩)]
  rw [h2] at hf
  split at hf
  ·split at hf
   ·simp at hf
   ·omega
  ·omega
theorem flat_le : ∀ (ts : List Tap) (_ : ∀ t ∈ ts, t.rC.length ≤ 200), (ts.flatMap (·.rC)).length ≤ 200 * ts.length
 | [], _ => by simp
 | t :: ts, h => by
  rw [List.flatMap_cons, CE, CS];have h1 := h t (by simp);have h2 := flat_le ts (fun t ht => h t (by simp [ht]));omega
theorem q4b {x : Wld} (hf : x.fault = 0) : (x.tapes.flatMap (·.rC)).length ≤ 400 := by
 have h := z0s hf;have h2 := flat_le x.tapes h.2;rw [h.1] at h2; exact h2
theorem cntL_400 {x : Wld} (hf : x.fault = 0) : (cntL x.tapes).length ≤ 400 := CG (cntL_len x.tapes) (q4b hf)
theorem q9w.rwd {xs : List Rec} {w : World} {e : Ending} {w' : World} (h : q9w xs w e w') : ∃ v, e = .returned v ∧ Rwd w.heap.size w' v xs ∧ Chg [] w w' := by
 obtain ⟨g, n, cap, qs, rfl, h1, h2, h3, h4, h5, h6, h7, h8⟩ := h;have hl : n = xs.length := by rw [h3, ← h2, Cx]
 subst hl;exact ⟨_, rfl, ⟨g, cap, qs, rfl, h1, h2, h4, h5, h6, h7⟩, h8⟩
theorem Rwd.sl {n0 : Nat} {w : World} {v : Value} {xs : List Rec} (h : Rwd n0 w v xs) : ∃ a l cap f, v = Aa a l cap ∧ recL.sl w a l cap xs f ∧ l = xs.length := by
 obtain ⟨g, cap, ps, h1, h2, h3, h4, h5, h6, h7⟩ := h;have hl : xs.length = ps.length := by rw [← h3, Cx]
 have := h2.sl hl h5 h6;rw [h3] at this;exact ⟨_, _, _, _, h1, this, rfl⟩
theorem filt_next {α : Type} {p : α → Bool} {xs : List α} {k : Nat} {x : α} (h : xs[k]? = some x) : (xs.take (k + 1)).filter p = (xs.take k).filter p ++ (if p x then [x] else []) := by
 rw [q1e h, List.filter_append];cases hp : p x <;> simp [hp]
theorem filt_yes {α : Type} {p : α → Bool} {xs : List α} {k : Nat} {x : α} (h : xs[k]? = some x) (hp : p x = true) : (xs.take (k + 1)).filter p = (xs.take k).filter p ++ [x] := by
 rw [filt_next h, if_pos hp]
theorem filt_no {α : Type} {p : α → Bool} {xs : List α} {k : Nat} {x : α} (h : xs[k]? = some x) (hp : p x = false) : (xs.take (k + 1)).filter p = (xs.take k).filter p := by
 rw [filt_next h, if_neg (by rw [hp]; simp), Dc]
noncomputable def nwI (l : List Rec) (nm : ByteArray) : Nat → Int
 | 0 => -1
 | k + 1 => if ((l[k]?.map (fun x => pb (x.kD = 1 ∧ x.nM = nm))).getD false) = true then (k : Int) else nwI l nm k
theorem q6g {l : List Rec} {nm : ByteArray} {k : Nat} {x : Rec} (h : l[k]? = some x) : nwI l nm (k + 1) = if pb (x.kD = 1 ∧ x.nM = nm) = true then (k : Int) else nwI l nm k := by
 show (if ((l[k]?.map (fun x => pb (x.kD = 1 ∧ x.nM = nm))).getD false) = true then (k : Int) else nwI l nm k) = _;rw [h]; rfl
theorem nwI_lt (l : List Rec) (nm : ByteArray) : ∀ k, -1 ≤ nwI l nm k ∧ nwI l nm k < k
 | 0 => ⟨Int.le_refl _, by show (-1 : Int) < 0; omega⟩
 | k + 1 => by
  have h := nwI_lt l nm k;show -1 ≤ (if _ then (k : Int) else nwI l nm k) ∧ (if _ then (k : Int) else nwI l nm k) < ((k + 1 : Nat) : Int)
  split <;> omega
theorem q5v {x : Wld} (hf : x.fault = 0) : x.sH.ok := Classical.byContradiction fun hn => by
 unfold Wld.fault at hf;rw [q0d hn] at hf;simp at hf
theorem recsF_0 (s : Shp) : ∀ (rs : List Rec), q3i s rs = 0 → ∀ r ∈ rs, recV s r = 0
 | [], _, r, hr => by cases hr
 | q :: qs, h, r, hr => by
  unfold q3i at h
  split at h
  ·rename_i h0
   rcases CJ.1 hr with rfl | hr
   ·exact h0
   ·exact recsF_0 s qs h r hr
  ·rename_i h0; exact absurd h h0
theorem tapsF_0 (s : Shp) : ∀ (ts : List Tap), q3o s ts = 0 → ∀ t ∈ ts, ∀ r ∈ t.rC, recV s r = 0
 | [], _, t, ht => by cases ht
 | q :: qs, h, t, ht => by
  unfold q3o at h
  split at h
  ·rename_i h0
   rcases CJ.1 ht with rfl | ht
   ·exact recsF_0 s _ h0
   ·exact tapsF_0 s qs h t ht
  ·rename_i h0; exact absurd h h0
theorem q8b {x : Wld} (hf : x.fault = 0) : ∀ t ∈ x.tapes, ∀ r ∈ t.rC, recV x.sH r = 0 := by
 have ht : q3o x.sH x.tapes = 0 := by
  refine Classical.byContradiction fun hn => ?_
  have h2 : ¬ x.tapF = 0 := by
   unfold Wld.tapF
   split
   ·simp
   ·first | exact hn | (rw [if_neg hn]; exact hn)
  unfold Wld.fault at hf
  repeat' split at hf
  all_goals first | (exact absurd hf h2) | (exact absurd ‹x.tapF = 0› h2) | (simp at hf)
 exact tapsF_0 _ _ ht
theorem recV_kind0 {s : Shp} {r : Rec} (h : recV s r = 0) : 1 ≤ r.kD ∧ r.kD ≤ 4 := Classical.byContradiction fun hn => by
 rw [q9g hn] at h; cases h
def SlR (xs : List Rec) (w : World) (e : Ending) (w' : World) : Prop := ∃ a l c f, e = .returned (Aa a l c) ∧ recL.sl w' a l c xs f ∧ Chg [] w w'
theorem SlR.of {xs : List Rec} {n0 : Nat} {w : World} {e : Ending} {w' : World} {v : Value} (he : e = .returned v) (h : Rwd n0 w' v xs) (hc : Chg [] w w') : SlR xs w e w' := by
 obtain ⟨a, l, c, f, rfl, hs, -⟩ := h.sl;exact ⟨a, l, c, f, he, hs, hc⟩
def ShF (n0 : Nat) (f : List Nat) (w : World) (v : Value) (xs : List Rec) : Prop := ∃ g Bb, recL.os 38 w v xs (some g) Bb ∧ n0 ≤ g ∧ g ∉ f ∧ ∀ y ∈ Bb, y ∈ f
theorem ShF.ext {n0 : Nat} {f : List Nat} {w w' : World} {v : Value} {xs : List Rec} (h : ShF n0 f w v xs) (hc : Chg [] w w') : ShF n0 f w' v xs := by
 obtain ⟨g, Bb, h1, h2⟩ := h;exact ⟨g, Bb, recL.os_ext h1 hc, h2⟩
theorem ShF.made {n0 : Nat} {f : List Nat} {w : World} (h : n0 ≤ w.heap.size) (hf : w.heap.size ∉ f) : ShF n0 f (w.alloc (.cells #[] 38)) (Aa (some ⟨w.heap.size, 0, none⟩) 0 0) [] :=
 ⟨w.heap.size, [], recL.os_made 38 w #[] 0 (by simp [maxLen]) (by simp), h, hf, by simp⟩
theorem ShF.made2 {n0 n : Nat} {f : List Nat} {w : World} (hn : n = w.heap.size) (h : n0 ≤ n) (hf : n ∉ f) : ShF n0 f (w.alloc (.cells #[] 38)) (Aa (some ⟨n, 0, none⟩) 0 0) [] := by subst hn; exact ShF.made h hf
theorem ShF.step {f : List Nat} {w W w' : World} {v' : Value} {xs rs : List Rec} {r : Rec} {g : Nat} {Bb fq : List Nat} {h' : Option Nat} {a : Option Addr} {l c : Nat} (hg : w.heap.size ≤ g) (Ca : g ∉ f) (hf : ∀ y ∈ Bb, y ∈ f) (hq : ∀ y ∈ fq, y ∈ f) (hs : recL.sl W a l c rs f) (hc : Chg [] w W)
  (ho : recL.os 38 w' v' (xs ++ [r]) h' (Bb ++ fq)) (hh : h' = some g ∨ h' = some W.heap.size) (hc' : Chg (some g).toList W w') : ShF w.heap.size f w' v' (xs ++ [r]) ∧ recL.sl w' a l c rs f ∧ Chg [] w w' := by
 refine ⟨?_, recL.sl_chg hs hc' (fun y hy hm => Ca (by simp at hm; exact hm ▸ hy)), hc.trans hc' (fun y hy => .inr (by simp at hy; omega))⟩;have BJ : ∀ y ∈ Bb ++ fq, y ∈ f := fun y hy => (CN.1 hy).elim (hf y) (hq y)
 rcases hh with rfl | rfl
 ·exact ⟨g, _, ho, hg, Ca, BJ⟩
 ·exact ⟨W.heap.size, _, ho, hc.size, fun hm => Dd _ (recL.sl_lt hs _ hm), BJ⟩
theorem ShF.step2 {F : List Nat} {w W w' : World} {v' : Value} {xs : List Rec} {r : Rec} {g : Nat} {Bb fq : List Nat} {h' : Option Nat} (hg : w.heap.size ≤ g) (Ca : g ∉ F) (hf : ∀ y ∈ Bb, y ∈ F) (hq : ∀ y ∈ fq, y ∈ F) (hF : ∀ y ∈ F, y < W.heap.size) (hc : Chg [] w W)
  (ho : recL.os 38 w' v' (xs ++ [r]) h' (Bb ++ fq)) (hh : h' = some g ∨ h' = some W.heap.size) (hc' : Chg (some g).toList W w') : ShF w.heap.size F w' v' (xs ++ [r]) ∧ Chg [] w w' ∧ Chg [g] W w' := by
 refine ⟨?_, hc.trans hc' (fun y hy => .inr (by simp at hy; omega)), by simpa using hc'⟩;have BJ : ∀ y ∈ Bb ++ fq, y ∈ F := fun y hy => (CN.1 hy).elim (hf y) (hq y)
 rcases hh with rfl | rfl
 ·exact ⟨g, _, ho, hg, Ca, BJ⟩
 ·exact ⟨W.heap.size, _, ho, hc.size, fun hm => Dd _ (hF _ hm), BJ⟩
theorem bl_irr : ∀ x : List UInt8, Go.Op.bytesLess x x = false
 | [] => rfl
 | a :: x => by
  have h := bl_irr x;unfold Go.Op.bytesLess;rw [h]; simp
theorem bl_cons {a b : UInt8} {x y : List UInt8} : Go.Op.bytesLess (a :: x) (b :: y) = true ↔ a.toNat < b.toNat ∨ (a = b ∧ Go.Op.bytesLess x y = true) := by
 show (decide (a < b) || (a == b && Go.Op.bytesLess x y)) = true ↔ _;rw [Bool.or_eq_true, Bool.and_eq_true, decide_eq_true_eq, beq_iff_eq, UInt8.lt_iff_toNat_lt]
theorem q8y : ∀ {x y z : List UInt8}, Go.Op.bytesLess x y = true → Go.Op.bytesLess y z = true → Go.Op.bytesLess x z = true
 | _, [], _, h, _ => by unfold Go.Op.bytesLess at h; cases h
 | _, _ :: _, [], _, h => by unfold Go.Op.bytesLess at h; cases h
 | [], _ :: _, _ :: _, _, _ => rfl
 | a :: x, b :: y, c :: z, h, k => by
  rw [bl_cons] at h k ⊢;rcases h with h | ⟨rfl, h⟩
  ·rcases k with k | ⟨rfl, k⟩
   ·exact .inl (by omega)
   ·exact .inl h
  ·rcases k with k | ⟨rfl, k⟩
   ·exact .inl k
   ·exact .inr ⟨rfl, q8y h k⟩
theorem bl_tot : ∀ {x y : List UInt8}, Go.Op.bytesLess x y = false → Go.Op.bytesLess y x = false → x = y
 | [], [], _, _ => rfl
 | [], _ :: _, h, _ => by cases h
 | _ :: _, [], _, h => by cases h
 | a :: x, b :: y, h, k => by
  have h1 : ¬ (a.toNat < b.toNat ∨ (a = b ∧ Go.Op.bytesLess x y = true)) := fun g => by rw [bl_cons.2 g] at h; cases h
  have k1 : ¬ (b.toNat < a.toNat ∨ (b = a ∧ Go.Op.bytesLess y x = true)) := fun g => by rw [bl_cons.2 g] at k; cases k
  have hab : a = b := UInt8.toNat_inj.1 (by omega);subst hab;have h2 : Go.Op.bytesLess x y = false := by
   cases h3 : Go.Op.bytesLess x y
   ·rfl
   ·exact absurd (.inr ⟨rfl, h3⟩) h1
  have k2 : Go.Op.bytesLess y x = false := by
   cases h3 : Go.Op.bytesLess y x
   ·rfl
   ·exact absurd (.inr ⟨rfl, h3⟩) k1
  rw [bl_tot h2 k2]
theorem bl_ntr {x y z : List UInt8} (h : Go.Op.bytesLess x y = false) (k : Go.Op.bytesLess y z = false) : Go.Op.bytesLess x z = false := by
 cases h1 : Go.Op.bytesLess x z
 ·rfl
 ·cases h2 : Go.Op.bytesLess y x
  ·rw [bl_tot h h2] at h1; rw [h1] at k; cases k
  ·rw [q8y h2 h1] at k; cases k
def q2z (a b : Rec) : Bool := Go.Op.bytesLess a.nM.toList b.nM.toList
theorem q2k : Ordr q2z := ⟨fun _ => bl_irr _, fun _ _ _ h k => q8y h k, fun _ _ _ h k => bl_ntr h k⟩
def insG (lt : Rec → Rec → Bool) (r : Rec) : List Rec → List Rec
 | [] => [r]
 | y :: ys => if lt r y then r :: y :: ys else y :: insG lt r ys
theorem insG_form {lt : Rec → Rec → Bool} (ho : Ordr lt) (r : Rec) : ∀ {out : List Rec}, Srt lt out → ∃ k, insG lt r out = out.take k ++ (r :: out.drop k) ∧ (∀ x ∈ out.drop k, lt r x = true) ∧ (∀ x ∈ out.take k, lt r x = false)
 | [], _ => ⟨0, rfl, by simp, by simp⟩
 | y :: ys, hs => by
  unfold insG;cases h : lt r y
  ·obtain ⟨k, e, h1, h2⟩ := insG_form ho r (List.Pairwise.of_cons hs);refine ⟨k + 1, by simp [e], by simpa using h1, fun x hx => ?_⟩;rw [List.take_succ_cons] at hx;rcases CJ.1 hx with rfl | hx
   ·exact h
   ·exact h2 x hx
  ·refine ⟨0, by simp, fun x hx => ?_, by simp⟩;rw [Cz] at hx;rcases CJ.1 hx with rfl | hx
   ·exact h
   ·exact ho.lt_le h (List.rel_of_pairwise_cons hs hx)
def z0n (lt : Rec → Rec → Bool) (l : List Rec) : List Rec := l.foldl (fun o r => insG lt r o) []
theorem q7j {lt : Rec → Rec → Bool} (ho : Ordr lt) (l : List Rec) : Srt lt (z0n lt l) ∧ Stab lt l (z0n lt l) := by
 unfold z0n;have h : ∀ (l o z : List Rec), Srt lt o → Stab lt z o → Srt lt (l.foldl (fun o r => insG lt r o) o) ∧ Stab lt (z ++ l) (l.foldl (fun o r => insG lt r o) o) := by
  intro l
  induction l with
  | nil => intro o z h1 h2; rw [Dc]; exact ⟨h1, h2⟩
  | cons r rs ih =>
   intro o z h1 h2;obtain ⟨k, e, k1, k2⟩ := insG_form ho r h1;have h3 := q7z ho h1 k1 k2;have h4 := (h2.app (Stab.refl [r])).trans (q6j ho k1);have h5 := ih (insG lt r o) (z ++ [r]) (by rw [e]; exact h3) (by rw [e]; exact h4);rw [List.append_assoc] at h5;exact h5
 have := h l [] [] List.Pairwise.nil (Stab.refl _)
 simpa using this
noncomputable def livP (l : List Rec) (i : Nat) (r : Rec) : Bool := pb (r.kD = 1 ∧ 0 ≤ r.length ∧ nwI l r.nM l.length = i)
noncomputable def livF (l : List Rec) : Nat → List Rec
 | 0 => []
 | k + 1 => livF l k ++ ((l[k]?.map (fun r => if livP l k r then [r] else [])).getD [])
theorem q8t {l : List Rec} {k : Nat} {r : Rec} (h : l[k]? = some r) (hp : livP l k r = true) : livF l (k + 1) = livF l k ++ [r] := by
 show livF l k ++ _ = _;rw [h]; simp [hp]
theorem q7x {l : List Rec} {k : Nat} {r : Rec} (h : l[k]? = some r) (hp : livP l k r = false) : livF l (k + 1) = livF l k := by
 show livF l k ++ _ = _;rw [h]; simp [hp]
theorem livF_len (l : List Rec) : ∀ k, (livF l k).length ≤ k
 | 0 => Db _
 | k + 1 => by
  have h := livF_len l k;show (livF l k ++ _).length ≤ k + 1;rw [CE];cases hk : l[k]? with
  | none => simp; omega
  | some r =>
   cases hp : livP l k r <;> simp [hp] <;> omega
noncomputable def livL (l : List Rec) : List Rec := z0n q2z (livF l l.length)
theorem liv_uniq {l ys : List Rec} (h : Srt q2z ys) (k : Stab q2z (livF l l.length) ys) : ys = livL l :=
 Stab.uniq q2k h (q7j q2k _).1 k (q7j q2k _).2
theorem drop_aheadG {lt : Rec → Rec → Bool} {xs : List Rec} {r p : Rec} {z ac : Nat} (h : ∀ x ∈ xs.drop ac, lt r x = true) (hp : xs[z]? = some p) (hl : lt r p = true) (hz : z = ac - 1) (h0 : 0 < ac) : ∀ x ∈ xs.drop z, lt r x = true := fun x hx => by
 obtain ⟨hi, e⟩ := CI.1 hp;rw [CQ hi] at hx;rcases CJ.1 hx with rfl | hx
 ·rw [e]; exact hl
 ·exact h x (by rwa [show z + 1 = ac by omega] at hx)
theorem stop_ssG {lt : Rec → Rec → Bool} (BZ : Ordr lt) {xs D D2 : List Rec} {r : Rec} {ac : Nat} (hs : Srt lt xs ∧ Stab lt D xs) (hd : D2 = D ++ [r]) (h1 : ∀ x ∈ xs.drop ac, lt r x = true) (h2 : 0 < ac → ∃ y, xs[ac - 1]? = some y ∧ lt r y = false) : Srt lt (xs.take ac ++ (r :: xs.drop ac)) ∧ Stab lt D2 (xs.take ac ++ (r :: xs.drop ac)) := by
 have h3 : ∀ x ∈ xs.take ac, lt r x = false := fun x hx => by
  obtain ⟨i, hi, rfl⟩ := CV hx;rw [Cw] at hi;obtain ⟨y, hy, hl⟩ := h2 (by omega);rw [CY];exact BZ.le_trans (Srt.at BZ hs.1 (show i ≤ ac - 1 by omega) (CK (by omega)) hy) hl
 exact ⟨q7z BZ hs.1 h1 h3, by rw [hd]; exact (hs.2.app (Stab.refl [r])).trans (q6j BZ h1)⟩


theorem q9o (s : Shp) (hs : s.ok) (n : Int) (w : World) :
  Calls Tryz.prog 29 #[.agg #[I J s.gS, I J s.cZ, I J s.data, I J s.spare, I J s.rows, I J s.cap, I J s.bT, I J s.qU, I J s.sG], I J n] w fun e w' => e = .returned (Ac (inB n 0 (s.gS - 1))) ∧ Chg [] w w' := q3z s hs n w
theorem infoIR : (Tryz.prog.info? 45).map (fun i => i.size) = some 2 := by kernel_rfl

theorem badR9 {w w1 w9 : World} {b : Nat} (q : Int) (hq : q0s q) (r : RRes) (hr : r = ⟨q, []⟩) (hc : Chg [] w w1) (BL : Chg [b] w1 w9) (hb : w.heap.size ≤ b) :
  q5x rrsL r w (.returned (.agg #[I J q, Aa none 0 0])) w9 :=
 ⟨_, [], rfl, by rw [hr]; exact q6c.2 ⟨none, 0, 0, rfl, hq, z1e _ _⟩, q1r.nil _ _, hc.trans BL (fun y hy => .inr (by rw [CP] at hy; omega))⟩
theorem finR9 {w w1 w9 : World} {b : Nat} {y : List Rec} {f : List Nat} {a : Option Addr} {l c : Nat} (r : RRes) (hrr : r = ⟨0, y⟩) (hs : recL.sl w1 a l c y f) (hf : q1r w.heap.size w1 f) (hc : Chg [] w w1) (BL : Chg [b] w1 w9) (hn : b ∉ f) (hb : w.heap.size ≤ b) :
  q5x rrsL r w (.returned (.agg #[I J 0, Aa a l c])) w9 :=
 ⟨_, f, rfl, by rw [hrr]; exact q6c.2 ⟨a, l, c, rfl, i64z, recL.sl_chg hs BL (fun y hy hm => hn (by rw [CP] at hm; exact hm ▸ hy))⟩, hf.chg BL, hc.trans BL (fun y hy => .inr (by rw [CP] at hy; omega))⟩
end Go.Proofs.YthhaednigdgclaaGreat
