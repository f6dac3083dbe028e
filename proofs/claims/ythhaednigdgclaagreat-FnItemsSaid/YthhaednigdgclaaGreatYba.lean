/- Several texts in one. -/
import Derived.Test.YthhaednigdgclaaGreatYaw
import Derived.Test.YthhaednigdgclaaGreatYar
open Go.Value renaming int → I, slice → Aa, string → Ab, bool → Ac
open Go.IntKind renaming i64 → J
open Go.Obj renaming cells → Ad
open And renaming intro → AL
open List renaming flatMap_append → AO, take_of_length_le → AP, length_append → AQ, length_nil → AR
set_option maxRecDepth 100000
set_option maxHeartbeats 8000000
namespace Go.Proofs.YthhaednigdgclaaGreat
open Go.RowKit
open Go.Lib (hid)
def Sh2 (n0 N : Nat) (w : World) (v : Value) (xs : List Rec) : Prop := ∃ g Ae, recL.os 38 w v xs (some g) Ae ∧ N ≤ g ∧ ∀ y ∈ Ae, y < n0
theorem Sh2.ext {n0 N : Nat} {w w' : World} {v : Value} {xs : List Rec} (h : Sh2 n0 N w v xs) (hc : Chg [] w w') : Sh2 n0 N w' v xs := by
 obtain ⟨g, Ae, h1, h2, h3⟩ := h;exact ⟨g, Ae, recL.os_ext h1 hc, h2, h3⟩
theorem Sh2.made {n0 N : Nat} {w : World} (h : N ≤ w.heap.size) : Sh2 n0 N (w.alloc (.cells #[] 38)) (Aa (some ⟨w.heap.size, 0, none⟩) 0 0) [] :=
 ⟨w.heap.size, [], recL.os_made 38 w #[] 0 (by simp [maxLen]) (by simp), h, by simp⟩
theorem Sh2.row {n0 N : Nat} {w : World} {v : Value} {xs : List Rec} (hN : n0 ≤ N) (h : Sh2 n0 N w v xs) : ∃ g cap ps, v = Aa (some ⟨g, 0, none⟩) xs.length cap ∧ q1c recL w g 0 ps ∧ ps.map (·.1) = xs ∧ N ≤ g ∧ xs.length ≤ cap ∧ cap ≤ maxLen ∧ ∀ p ∈ ps, ∀ y ∈ p.2, y < n0 := by
 obtain ⟨g0, fps0, h1, h2, h3⟩ := h;obtain ⟨g, cap, Ae, rfl, hs, hlo, h4, h5⟩ := (show Shr n0 w v xs from ⟨g0, fps0, h1, Nat.le_trans hN h2, h3⟩).sl;have hg : N ≤ g := by
  rcases h1 with ⟨e, -, e2, -⟩ | ⟨g', cap', cur, e, e2, -⟩
  ·cases e2
  ·cases e2; cases e; exact h2
 have hc := hs.2.1; have hm := hs.2.2.1;obtain ⟨ps, hr, e1, e2⟩ := Lay.sl_row hs hlo ⟨Ae, rfl, fun hm => by have := h5 g hm; omega⟩;refine ⟨g, cap, ps, rfl, hr, e1, hg, hc, hm, fun p hp y hy => h5 y ?_⟩;rw [(List.cons.inj e2).2];exact List.mem_flatMap.2 ⟨p, hp, hy⟩
theorem Sh2.step {n0 : Nat} {w W w' : World} {v' : Value} {xs : List Rec} {r : Rec} {g : Nat} {Ae fq : List Nat} {h' : Option Nat} (hg : w.heap.size ≤ g) (hf : ∀ y ∈ Ae, y < n0) (hq : ∀ y ∈ fq, y < n0) (hc : Chg [] w W)
  (ho : recL.os 38 w' v' (xs ++ [r]) h' (Ae ++ fq)) (hh : h' = some g ∨ h' = some W.heap.size) (hc' : Chg (some g).toList W w') : Sh2 n0 w.heap.size w' v' (xs ++ [r]) ∧ Chg [] w w' := by
 refine ⟨?_, hc.trans hc' (fun y hy => .inr (by simp at hy; omega))⟩;have hff : ∀ y ∈ Ae ++ fq, y < n0 := fun y hy => (List.mem_append.1 hy).elim (hf y) (hq y)
 rcases hh with rfl | rfl
 ·exact ⟨g, _, ho, hg, hff⟩
 ·exact ⟨W.heap.size, _, ho, hc.size, hff⟩
theorem rec_sl {w : World} {X : Tap} {a1 : Option Addr} {l1 c1 : Nat} {f : List Nat} (h : tapL.rep w [Ac X.wD, Aa a1 l1 c1] X f) : recL.sl w a1 l1 c1 X.rC f := by
 obtain ⟨a, l, c, f1, e, h1, rfl⟩ := q2d.1 h;cases e;exact h1
theorem flat_take {ts : List Tap} {k : Nat} {X : Tap} (h : ts[k]? = some X) : dedF [] ((ts.take (k + 1)).flatMap (·.rC)) = dedF (dedF [] ((ts.take k).flatMap (·.rC))) X.rC := by
 rw [q1e h, AO, q8x];simp
theorem flat_len {ts : List Tap} {k : Nat} {X : Tap} {B : Nat} (h : ts[k]? = some X) (hB : (ts.flatMap (·.rC)).length ≤ B) : ((ts.take k).flatMap (·.rC)).length + X.rC.length ≤ B := by
 have h2 : ((ts.take (k + 1)).flatMap (·.rC)).length ≤ (ts.flatMap (·.rC)).length := by
  conv => rhs; rw [← List.take_append_drop (k + 1) ts, AO, AQ]
  omega
 rw [q1e h, AO, AQ, show [X].flatMap (·.rC) = X.rC by simp] at h2;exact Nat.le_trans h2 hB
def q7s (n0 : Nat) (xs : List Rec) (w : World) (e : Ending) (w' : World) : Prop := ∃ (g n cap : Nat) (qs : List RP), e = .returned (Aa (some ⟨g, 0, none⟩) n cap) ∧ q1c recL w' g 0 qs ∧ qs.map (·.1) = xs ∧ n = qs.length ∧ w.heap.size ≤ g ∧ n ≤ cap ∧ cap ≤ maxLen ∧ (∀ p ∈ qs, ∀ y ∈ p.2, y < n0) ∧ Chg [] w w'
def q9w (xs : List Rec) (w : World) (e : Ending) (w' : World) : Prop := q7s w.heap.size xs w e w'
theorem z0u (n0 : Nat) (m : Nat) {u0 u1 u2 u3 u4 u5 u6 u7 u8 u9 AC AB AA A9 : Value} (Ao : Option Addr) (Af c12 : Nat) (Av : List Nat) (ts : List Tap) (w : World) (h : w.heap[m]? = some (.cells #[u0, u1, u2, u3, u4, u5, u6, u7, u8, u9, AC, Aa Ao Af c12, AB, AA, A9] 30 (0, 0))) (Aj : tapL.sl w Ao Af c12 ts Av) (hz : (ts.flatMap (·.rC)).length ≤ 1000000) (hn0 : ∀ y ∈ Av, y < n0) (h00 : n0 ≤ w.heap.size) :
  Calls Tryz.prog 46 #[.pointer (some ⟨m, 0, none⟩)] w (q7s n0 (cntL ts) w) := by
 obtain ⟨KR, _⟩ := q4y;have cm := cellsOf h; have nm := ltOf h;have H12 := hid Aj; have AJ := hid hn0; have H00 := hid h00; have HL := hid Aj.1; have HZ := hid hz;have hl12 := tapL.sl_max Aj;clear h Aj hz hn0 h00;go_enter Tryz.func46, Tryz.ntmps46;go_wp2_with fail;go_loopw [3, 14] (fun vo vi wr => ∃ (k : Nat) (Wr : World), Wr = wr ∧ k ≤ Af ∧ vi = I J k ∧ Sh2 n0 w.heap.size wr vo (dedF [] ((ts.take k).flatMap (·.rC))) ∧ Chg [] w wr) (fun _ vi _ => Af - (intOf vi).toNat)
 case atStart => exact ⟨0, _, rfl, by omega, rfl, Sh2.made (Nat.le_refl _), (Chg.refl [] w).alloc _⟩
 case round =>
  obtain ⟨k, wr, rfl, hk, rfl, Ag, hc⟩ := hrel;have HC := hid hc; have Ap := hid Ag;by_cases hlt : k < Af
  ·obtain ⟨X, b, off, a1, l1, c1, ft, HX, rfl, Ar, Aq, Ak⟩ := q3b H12.o hlt;have AE := tapL.sl_lt H12.o b HX.o.2.1;have hc0 := q0h hc Ar AE; have hc1 := q0h hc Aq AE;obtain ⟨acc, Ah⟩ : ∃ acc, acc = dedF [] ((ts.take k).flatMap (·.rC)) := ⟨_, rfl⟩;rw [← Ah] at Ap;have HNX := hid (show dedF [] ((ts.take (k + 1)).flatMap (·.rC)) = dedF acc X.rC by rw [Ah]; exact flat_take HX.o.1);have hal : acc.length + X.rC.length ≤ 1000000 := by
    have h1 := q5b ((ts.take k).flatMap (·.rC)) [];have h2 := flat_len HX.o.1 HZ.o;rw [AR, Nat.zero_add] at h1; rw [Ah]; omega
   have HRS := hid (rec_sl Ak.o);have HFL := hid (fun y (hy : y ∈ ft) => AJ.o y (HX.o.2.2 y hy));have HL1 := hid (rec_sl Ak.o).1; have HAL := hid hal;have hl1 := recL.sl_max (rec_sl Ak.o);clear hc Ag Ah hal Ak HX Ar Aq AE;go_wp2_with fail;go_loopw [3, 21] (fun vo vj wq => ∃ (j : Nat) (Wq : World), Wq = wq ∧ j ≤ l1 ∧ vj = I J j ∧ Sh2 n0 w.heap.size wq vo (dedF acc (X.rC.take j)) ∧ Chg [] w wq) (fun _ vj _ => l1 - (intOf vj).toNat)
   case atStart => exact ⟨0, _, rfl, by omega, rfl, Ap.o.ext ((Chg.refl [] wr).alloc _), HC.o.alloc _⟩
   case round =>
    clear Ap HC hc0 hc1;obtain ⟨j, wq, rfl, hj, rfl, Ag, hc⟩ := hrel;have HC := hid hc;by_cases AD : j < l1
    ·obtain ⟨r, b2, off2, a6, l6, c6, a7, l7, c7, a8, l8, c8, fq, HR, rfl, hq0, Az, Ay, Am, Ax, hq5, hq6, hq7, hq8, Ak⟩ := q6m (recL.sl_ext HRS.o hc) AD;obtain ⟨g, Ae, ho, hg, hf⟩ := Ag;obtain ⟨a9, c9, rfl⟩ := recL.os_len ho;obtain ⟨a10, c10, e10, hsl⟩ := recL.os_sl ho;obtain ⟨rfl, -, rfl⟩ := Value.slice.inj e10;have AH := hid (dedF_next (acc := acc) HR.o.1);have Au : (dedF acc (X.rC.take j)).length ≤ 1000000 := by
      have h1 := q5b (X.rC.take j) acc;have h2 := HAL.o;rw [List.length_take] at h1; omega
     obtain ⟨xs, hxs⟩ : ∃ xs, xs = dedF acc (X.rC.take j) := ⟨_, rfl⟩;rw [← hxs] at ho hsl AH Au ⊢;have HOS := hid ho; have HSL := hid hsl; have HN0 := hid hg; have HFP := hid hf;have HFQ := hid (fun y (hy : y ∈ fq) => HFL.o y (HR.o.2.2 y hy));have HGF := hid (show ∀ g', some g = some g' → g' ∉ fq from fun g' e hm => by cases e; have h1 := HFL.o g (HR.o.2.2 g hm); have h2 := H00.o; omega);obtain ⟨lx, hlx⟩ : ∃ lx, lx = xs.length := ⟨_, rfl⟩;rw [← hlx] at HOS HSL ⊢;have HLL := hid (show xs.length + [r].length ≤ maxLen ∧ (xs.length + [r].length) * 128 ≤ 140737488355328 by simp only [List.length_singleton, maxLen]; omega);have G1 := hid (show Chg [] wq (wq.alloc (.cells #[I J r.kD, I J r.seq, Ab r.nM, I J r.length, I J r.gP, I J r.row, Aa a6 l6 c6, Aa a7 l7 c7, Aa a8 l8 c8] 38)) from (Chg.refl [] wq).alloc _);have HHS := hid (has_any a9 lx c9 xs _ r #[I J r.kD, I J r.seq, Ab r.nM, I J r.length, I J r.gP, I J r.row, Aa a6 l6 c6, Aa a7 l7 c7, Aa a8 l8 c8] fq (wq.alloc (.cells #[I J r.kD, I J r.seq, Ab r.nM, I J r.length, I J r.gP, I J r.row, Aa a6 l6 c6, Aa a7 l7 c7, Aa a8 l8 c8] 38)) (recL.sl_ext HSL.o G1.o) (recL.ext Ak.o G1.o));obtain ⟨v, hv⟩ : ∃ v, v = xs.any (fun x => q2c x r) := ⟨_, rfl⟩;rw [← hv] at HHS;have HV := hid hv;clear hc HR ho hsl hg hf e10 Au hxs hlx hv;go_wp2_with fail;refine HHS.o.mono ?_;rintro e w3 ⟨rfl, hc3⟩;have HC3 := hid (HC.o.trans0 (G1.o.trans0 hc3));have Aw := hid (recL.os_ext HOS.o (G1.o.trans0 hc3)); have AG := hid (recL.ext Ak.o (G1.o.trans0 hc3));have hb3 := hc3.keep0 (q0k wq (.cells #[I J r.kD, I J r.seq, Ab r.nM, I J r.length, I J r.gP, I J r.row, Aa a6 l6 c6, Aa a7 l7 c7, Aa a8 l8 c8] 38));have c3 := cellsOf hb3; have n3 := ltOf hb3;clear hc3 hb3 hq0 Az Ay Am Ax hq5 hq6 hq7 hq8;cases v
     ·have AK := hid (show dedS xs r = xs ++ [r] by unfold dedS; rw [← HV.o]; rfl);go_wp2_with (at_builtin; refine recL.wpList_append rfl _ _ 32 rfl Tryz.underlying32 KR rfl (recL.os_ext Aw.o ((Chg.refl [] w3).alloc (.cells #[I J r.kD, I J r.seq, Ab r.nM, I J r.length, I J r.gP, I J r.row, Aa a6 l6 c6, Aa a7 l7 c7, Aa a8 l8 c8] 38))) ⟨w3.heap.size, 0, none⟩ 1 1 [I J r.kD, I J r.seq, Ab r.nM, I J r.length, I J r.gP, I J r.row, Aa a6 l6 c6, Aa a7 l7 c7, Aa a8 l8 c8] (ys := [r]) (f := fq) rfl rfl (q1p w3 #[I J r.kD, I J r.seq, Ab r.nM, I J r.length, I J r.gP, I J r.row, Aa a6 l6 c6, Aa a7 l7 c7, Aa a8 l8 c8] 38) (recL.all_single (recL.ext AG.o ((Chg.refl [] w3).alloc _))) HGF.o HLL.o.1 HLL.o.2 ?_; intro v' w4 h' ho' hh' hc'; have Al := hid (Sh2.step HN0.o HFP.o HFQ.o (HC3.o.alloc (.cells #[I J r.kD, I J r.seq, Ab r.nM, I J r.length, I J r.gP, I J r.row, Aa a6 l6 c6, Aa a7 l7 c7, Aa a8 l8 c8] 38)) ho' hh' hc'); clear ho' hh' hc');rw [← AK.o, ← AH.o] at Al;go_roundw
      case rel => exact ⟨j + 1, _, rfl, by omega, by go_num, Al.o.1, Al.o.2⟩
      case measure => simp [intOf]; omega
     ·have AK := hid (show dedS xs r = xs by unfold dedS; rw [← HV.o]; rfl);go_wp2_with fail;go_roundw
      case rel => exact ⟨j + 1, _, rfl, by omega, by go_num, by rw [AH.o, AK.o]; exact ⟨g, Ae, Aw.o, HN0.o, HFP.o⟩, HC3.o⟩
      case measure => simp [intOf]; omega
    ·obtain rfl : j = l1 := by omega
     rw [AP (by have := HL1.o; omega), ← HNX.o] at Ag;have Ap := hid Ag;clear Ag hc;go_wp2_with fail;go_roundw
     case rel => exact ⟨k + 1, _, rfl, by omega, by go_num, Ap.o, HC.o⟩
     case measure => simp [intOf]; omega
  ·obtain rfl : k = Af := by omega
   rw [AP (by have := HL.o; omega)] at Ag;obtain ⟨g, cap, ps, rfl, hrow, e1, hg, Ai, hcm, hfp⟩ := Ag.row H00.o;have hln : (dedF [] (ts.flatMap (·.rC))).length = ps.length := by rw [← e1, List.length_map]
   have Au : ps.length ≤ 1000000 := by
    have h1 := q5b (ts.flatMap (·.rC)) [];have h2 := HZ.o;rw [AR, Nat.zero_add] at h1; omega
   rw [hln] at Ai ⊢;have HS := hid (q9x g 0 ps.length cap ps wr cmp_ok hrow rfl Au);have HE := hid e1; have HF := hid (AL hg (AL Ai (AL hcm hfp)));obtain ⟨n, hn⟩ : ∃ n, n = ps.length := ⟨_, rfl⟩;rw [← hn] at HS ⊢;have HN := hid hn;clear hc Ag hrow e1 hg Ai hcm hfp hln Au hn Ap;go_wp2_with fail;refine HS.o.mono ?_;rintro e w2 ⟨rfl, qs, Az, Ay, Am, Ax⟩;have hu := cnt_uniq (rs := ts.flatMap (·.rC)) (srt_fst Ay) (by have := stab_fst Am; rwa [HE.o] at this);have hmm : ∀ p ∈ qs, ∀ y ∈ p.2, y < n0 := fun p hp => HF.o.2.2.2 p ((Am.mem q3f).1 hp)
   have HR := hid (AL Az (AL hu (AL (HN.o.trans Am.1.symm) (AL hmm (HC.o.trans Ax (fun y hy => .inr (by rw [List.mem_singleton] at hy; have := HF.o.1; omega)))))));clear Az Ay Am Ax hu hmm;go_wp2_with fail;go_ret;exact ⟨g, n, cap, qs, rfl, HR.o.1, HR.o.2.1, HR.o.2.2.1, HF.o.1, by rw [HN.o]; exact HF.o.2.1, HF.o.2.2.1, HR.o.2.2.2.1, HR.o.2.2.2.2⟩
theorem counted_any (m : Nat) {u0 u1 u2 u3 u4 u5 u6 u7 u8 u9 AC AB AA A9 : Value} (Ao : Option Addr) (Af c12 : Nat) (Av : List Nat) (ts : List Tap) (w : World) (h : w.heap[m]? = some (.cells #[u0, u1, u2, u3, u4, u5, u6, u7, u8, u9, AC, Aa Ao Af c12, AB, AA, A9] 30 (0, 0))) (Aj : tapL.sl w Ao Af c12 ts Av) (hz : (ts.flatMap (·.rC)).length ≤ 1000000) :
  Calls Tryz.prog 46 #[.pointer (some ⟨m, 0, none⟩)] w (q9w (cntL ts) w) :=
 z0u w.heap.size m Ao Af c12 Av ts w h Aj hz (fun y hy => tapL.sl_lt Aj y hy) (Nat.le_refl _)
end Go.Proofs.YthhaednigdgclaaGreat
