/- Several texts in one. -/
import Derived.Test.YthhaednigdgclaaGreatYac
import Derived.Test.YthhaednigdgclaaGreatYaf
import Derived.Test.YthhaednigdgclaaGreatYaa
import Derived.Test.YthhaednigdgclaaGreatRows
import Derived.Test.YthhaednigdgclaaGreatYae
import Derived.Deep.DeepCutAuto
import Derived.Laws.CopyRow
import Derived.Laws.Cells
import Derived.Laws.IdiomCopy
import Derived.Test.YthhaednigdgclaaGreatYab
import Derived.Test.YthhaednigdgclaaGreatYak
open Go.Value renaming int → I, slice → Aa, string → Ab, bool → Ac
open Go.IntKind renaming i64 → J
open Go.Obj renaming cells → Ad
open And renaming intro → B5
open List renaming getElem?_eq_getElem → B7, getElem?_eq_some_iff → BA, replicate → BC, mem_singleton → BG, length_nil → BH, length_append → BI, eq_nil_of_length_eq_zero → BJ, length_set → BL, mem_map → BM, drop_eq_nil_of_le → BN, length_take → BO, drop_eq_getElem_cons → BQ, eq_of_mem_replicate → BR, getElem?_take_of_lt → BS, take_of_length_le → BW, getElem?_eq_none → BZ, mem_of_getElem? → Cb, mem_cons → Ce, not_mem_nil → Ck, length_cons → Cl, length_map → Cm, map_append → Cn, mem_append → Co, take_zero → Cp
open Nat renaming le_refl → BB, zero_add → BK, add_sub_cancel_left → BV, add_zero → Cg, sub_self → Ch, le_trans → Ci, zero_le → Cj
open Option renaming map_eq_some_iff → BD
open Go.Act renaming put → BF
open Array renaming ext_getElem? → BP, getElem?_modify → BX, toArray_toList → Cc, getElem?_push → Cf
open Go.Addr renaming add_lit → BU
open Go.IntWalk renaming i64_in → Ca
set_option maxRecDepth 100000
set_option maxHeartbeats 8000000
namespace Go.Proofs.YthhaednigdgclaaGreat
open Go.RowKit
open Go.Lib (hid)
structure WRes where
 code : Int
 world : Wld
def zShp : Shp := ⟨0, 0, 0, 0, 0, 0, 0, 0, 0⟩
def zWld : Wld := ⟨zShp, [], [], [], 0, 0, false⟩
structure BRes where
 code : Int
 block : Blk
/-! ### how much there is of it -/
section
variable {α : Type} {f : α → Int}
end
end Go.Proofs.YthhaednigdgclaaGreat
namespace Go.Proofs.YthhaednigdgclaaGreat
open Go.RowKit
open Go.Lib (hid)
theorem setCell_same {w : World} {b o : Nat} {v : Value} (h : w.cell? ⟨b, o, none⟩ = some v) : w.setCell ⟨b, o, none⟩ v = w := by
 unfold World.cell? at h;unfold World.setCell;have e : (w.heap.modify b fun
   | Ad c elem frozen => Ad (if (none : Option Value).isSome then c else c.setIfInBounds o v) elem frozen
   | o => o) = w.heap := by
  apply BP;intro j;rw [BX];by_cases e : b = j
  ·subst e;simp only [if_true];cases hb : w.heap[b]? with
   | none => rfl
   | some x =>
    simp only [hb] at h;cases x <;> simp at h ⊢
    rename_i c E fr
    apply BP;intro i;rw [Array.getElem?_setIfInBounds];by_cases e2 : o = i
    ·subst e2;simp [h];exact (Array.getElem?_eq_some_iff.1 h).1
    ·rw [if_neg e2]
  ·rw [if_neg e]
 cases w;simp only at e ⊢
 congr 1
def bblk : Blk := ⟨0, [0, 0, 0, 0]⟩
def q5e (w wr : World) (b n k : Nat) : Prop :=
 ∃ ms : List Nat, ms.length = k ∧ q1c blkL wr b 0 (ms.map (fun m => (bblk, [m])) ++ BC (n - k) (zBlk, [])) ∧ q1r w.heap.size wr (b :: ms) ∧ Chg [] w wr
theorem q5e.start {w : World} {E : TypeId} {cur : Array Value} (n : Nat) (h : blkL.sl (w.alloc (Ad cur E)) (some ⟨w.heap.size, 0, none⟩) n n (BC n zBlk) [w.heap.size]) : q5e w (w.alloc (Ad cur E)) w.heap.size n 0 := by
 have hlo : q4j (w.alloc (Ad cur E)) w.heap.size := ⟨_, _, q0k w _⟩;obtain ⟨ps, h1, h2, h3⟩ := blkL.sl_row h hlo ⟨[], rfl, by simp⟩;have h4 : ps = BC n (zBlk, []) := by
  apply List.eq_replicate_iff.2;have hl := congrArg List.length h2;simp only [Cm, List.length_replicate] at hl;refine ⟨hl, fun p hp => ?_⟩;have e1 : p.1 = zBlk := by
   have : p.1 ∈ ps.map (·.1) := List.mem_map_of_mem hp;rw [h2] at this;exact BR this
  have e2 : p.2 = [] := by
   have e3 := (List.cons.inj h3).2;rw [List.eq_nil_iff_forall_not_mem];intro y hy;have : y ∈ ps.flatMap (·.2) := List.mem_flatMap.2 ⟨p, hp, hy⟩;rw [← e3] at this;simp at this
  exact Prod.ext e1 e2
 subst h4;exact ⟨[], rfl, by simpa using h1, ⟨by simp, fun b hb => by simp at hb; subst hb; exact ⟨BB _, hlo⟩⟩, (Chg.refl [] w).alloc _⟩
theorem q5e.next {w wr w2 : World} {b n k m : Nat} (h : q5e w wr b n k) (hk : k < n) (hc : Chg [] wr w2) (hm : q0o.sl w2 (some ⟨m, 0, none⟩) 4 4 [0, 0, 0, 0] [m]) (hf : q1r wr.heap.size w2 [m]) :
  q5e w (w2.setCell ⟨b, k * 2 + 1, none⟩ (Aa (some ⟨m, 0, none⟩) 4 4)) b n (k + 1) := by
 obtain ⟨ms, h1, h2, h3, h4⟩ := h;have r2 := h2.ext hc;have hlen : (ms.map (fun m => (bblk, [m])) ++ BC (n - k) (zBlk, ([] : List Nat))).length = n := by simp; omega
 obtain ⟨p, c, hp, Az, hnb, hcell⟩ := r2.at (i := k) (by rw [hlen]; exact hk);have hpe : p = (zBlk, []) := by
  rw [List.getElem?_append_right (by simp; omega)] at hp;have := Cb hp;exact BR this
 subst hpe;obtain ⟨a', l', c', f', rfl, -, -, -⟩ := q5c.1 Az;have h0 : w2.cell? ⟨b, k * 2, none⟩ = some (I J 0) := by
  have h5 : w2.cell? ⟨b, 0 + k * 2 + 0, none⟩ = some (I J 0) := hcell 0 (by decide);rw [BK, Cg] at h5;exact h5
 have hbm : b ≠ m := fun e => by have := (hf.2 m (by simp)).1; have := h2.lt; omega
 have hput := r2.put (i := k) (by rw [hlen]; exact hk) (x := bblk) (c := [I J 0, Aa (some ⟨m, 0, none⟩) 4 4]) (f := [m]) (q5c.2 ⟨_, _, _, _, rfl, i64z, hm, rfl⟩) (by simpa using hbm);have ew : w2.setCells b (0 + k * blkL.n) [I J 0, Aa (some ⟨m, 0, none⟩) 4 4] = w2.setCell ⟨b, k * 2 + 1, none⟩ (Aa (some ⟨m, 0, none⟩) 4 4) := by
  show (w2.setCell ⟨b, 0 + k * 2, none⟩ _).setCell ⟨b, 0 + k * 2 + 1, none⟩ _ = _;rw [BK, setCell_same h0]
 rw [ew] at hput;have es : (ms.map (fun m => (bblk, [m])) ++ BC (n - k) (zBlk, ([] : List Nat))).set k (bblk, [m]) = (ms ++ [m]).map (fun m => (bblk, [m])) ++ BC (n - (k + 1)) (zBlk, []) := by
  rw [List.set_append_right _ _ (by simp; omega), Cm, h1, Ch, show n - k = (n - (k + 1)) + 1 by omega, List.replicate_succ, List.set_cons_zero, Cn];simp
 rw [es] at hput;have cS : Chg [b] w2 (w2.setCell ⟨b, k * 2 + 1, none⟩ (Aa (some ⟨m, 0, none⟩) 4 4)) := (Chg.refl _ _).setCell _ _ (.inl (by simp));refine ⟨ms ++ [m], by simp [h1], hput, ?_, ?_⟩
 ·have := (h3.chg hc).append hf h3.lts h4.size;exact (show q1r w.heap.size w2 (b :: (ms ++ [m])) from this).chg cS
 ·exact (h4.trans0 hc).setCell _ _ (.inr (h3.2 b (by simp)).1)
theorem q5e.cells {w wr : World} {b n k : Nat} (h : q5e w wr b n k) (hk : k < n) : (∃ v, wr.cell? ⟨b, k * 2 + 1, none⟩ = some v) ∧ b < wr.heap.size ∧ ∀ j, wr.frozen? ⟨b, j, none⟩ = false := by
 obtain ⟨ms, h1, h2, h3, h4⟩ := h;have hlen : (ms.map (fun m => (bblk, [m])) ++ BC (n - k) (zBlk, ([] : List Nat))).length = n := by simp; omega
 obtain ⟨p, c, hp, Az, hnb, hcell⟩ := h2.at (i := k) (by rw [hlen]; exact hk);obtain ⟨a', l', c', f', rfl, -, -, -⟩ := q5c.1 Az;have h5 : wr.cell? ⟨b, 0 + k * 2 + 1, none⟩ = some (Aa a' l' c') := hcell 1 (by decide);rw [BK] at h5;exact ⟨⟨_, h5⟩, h2.lt, h2.free⟩
theorem q5e.last {w wr : World} {b n : Nat} (h : q5e w wr b n n) (hn : n ≤ maxLen) : q7r blkL (BC n bblk) w (.returned (Aa (some ⟨b, 0, none⟩) n n)) wr := by
 obtain ⟨ms, h1, h2, h3, h4⟩ := h;rw [Ch, List.replicate_zero, List.append_nil] at h2;have := h2.sl (len := n) (cap := n) (by simp [h1]) (BB _) hn;have e1 : (ms.map (fun m => (bblk, [m]))).map (·.1) = BC n bblk := by
  rw [List.map_map, ← h1];exact List.map_const' ..
 have e2 : (ms.map (fun m => (bblk, [m]))).flatMap (·.2) = ms := by
  rw [List.flatMap_map];simp
 rw [e1, e2] at this;exact ⟨some ⟨b, 0, none⟩, n, _, by simp, by simpa using this, h3, h4⟩
theorem row9_back {w : World} {b : Nat} {E : TypeId} {fr : Nat × Nat} {u0 u1 u2 u3 u4 u5 u6 u7 u8 : Value} (v0 v1 v2 v3 v4 v5 v6 v7 v8 : Value) (h : w.heap[b]? = some (.cells #[u0, u1, u2, u3, u4, u5, u6, u7, u8] E fr)) :
  (((((((((w.setCell ⟨b, 0, none⟩ (v0)).setCell ⟨b, 1, none⟩ (v1)).setCell ⟨b, 2, none⟩ (v2)).setCell ⟨b, 3, none⟩ (v3)).setCell ⟨b, 4, none⟩ (v4)).setCell ⟨b, 5, none⟩ (v5)).setCell ⟨b, 6, none⟩ (v6)).setCell ⟨b, 7, none⟩ (v7)).setCell ⟨b, 8, none⟩ (v8)).heap[b]? = some (.cells #[v0, v1, v2, v3, v4, v5, v6, v7, v8] E fr) := by
 have e : (((((((((w.setCell ⟨b, 0, none⟩ (v0)).setCell ⟨b, 1, none⟩ (v1)).setCell ⟨b, 2, none⟩ (v2)).setCell ⟨b, 3, none⟩ (v3)).setCell ⟨b, 4, none⟩ (v4)).setCell ⟨b, 5, none⟩ (v5)).setCell ⟨b, 6, none⟩ (v6)).setCell ⟨b, 7, none⟩ (v7)).setCell ⟨b, 8, none⟩ (v8)) = w.setCells b 0 [v0, v1, v2, v3, v4, v5, v6, v7, v8] := rfl;rw [e, q3k [v0, v1, v2, v3, v4, v5, v6, v7, v8] 0 w _ h];simp [setRow]
theorem cpyB_any (a : Option Addr) (la ca : Nat) (xs : List UInt8) (f : List Nat) (w : World) (ha : q0o.sl w a la ca xs f) (hz : la ≤ 140737488355327) :
  Calls Tryz.prog 63 #[Aa a la ca] w (q7r q0o xs w) := by
 obtain ⟨K, _⟩ := kindB;have HA := hid ha;have HZ := hid hz;have hn := fun w => Lib.run_eql_slice_nil (P := Tryz.prog) w 22 5 a la ca 0 0 Tryz.underlying22
 clear ha hz;cases a with
 | none =>
  obtain rfl : xs = [] := by apply BJ; have := HA.o.1; have := HA.o.2.1; have := HA.o.2.2.2.1 rfl; omega
  go_enter Tryz.func63, Tryz.ntmps63;go_wp2;go_ret;exact ⟨none, 0, [], rfl, z1e _ _, q1r.nil _ _, Chg.refl _ _⟩
 | some ad =>
  have HL : Hid (([] : List UInt8).length + xs.length ≤ maxLen ∧ (([] : List UInt8).length + xs.length) * 1 ≤ 140737488355328) := by
   have := HA.o.1; have := HZ.o; have := Lay.sl_max _ HA.o;refine ⟨?_, ?_⟩
   ·simp only [BH, maxLen]; omega
   ·simp only [BH, BK]; omega
  go_enter Tryz.func63, Tryz.ntmps63;go_wp2_with (refine q0o.wpList_growS q5w rfl _ _ 22 rfl Tryz.underlying22 K rfl (Grow.made (Chg.refl [] w)) (Chg.refl [] _) rfl (q0o.sl_ext HA.o ((Chg.refl [] w).alloc _)) HL.o.1 HL.o.2 ?_; intro v' w' Ao; have hN := hid Ao; clear Ao);go_ret;obtain ⟨a', c', f', h1, h2, h3, h4⟩ := hN.out.sl;exact ⟨a', c', f', by rw [h1]; rfl, h2, h3, h4⟩
theorem cpyI_any (a : Option Addr) (la ca : Nat) (xs : List Int) (f : List Nat) (w : World) (ha : intL.sl w a la ca xs f) (hz : la ≤ 17592186044415) :
  Calls Tryz.prog 62 #[Aa a la ca] w (q7r intL xs w) := by
 obtain ⟨K, _⟩ := kindI;have HA := hid ha;have HZ := hid hz;have hn := fun w => Lib.run_eql_slice_nil (P := Tryz.prog) w 27 2 a la ca 0 0 Tryz.underlying27
 clear ha hz;cases a with
 | none =>
  obtain rfl : xs = [] := by apply BJ; have := HA.o.1; have := HA.o.2.1; have := HA.o.2.2.2.1 rfl; omega
  go_enter Tryz.func62, Tryz.ntmps62;go_wp2;go_ret;exact ⟨none, 0, [], rfl, z1e _ _, q1r.nil _ _, Chg.refl _ _⟩
 | some ad =>
  have HL : Hid (([] : List Int).length + xs.length ≤ maxLen ∧ (([] : List Int).length + xs.length) * 8 ≤ 140737488355328) := by
   have := HA.o.1; have := HZ.o; have := Lay.sl_max _ HA.o;refine ⟨?_, ?_⟩
   ·simp only [BH, maxLen]; omega
   ·simp only [BH, BK]; omega
  go_enter Tryz.func62, Tryz.ntmps62;go_wp2_with (refine intL.wpList_growS q8v rfl _ _ 27 rfl Tryz.underlying27 K rfl (Grow.made (Chg.refl [] w)) (Chg.refl [] _) rfl (intL.sl_ext HA.o ((Chg.refl [] w).alloc _)) HL.o.1 HL.o.2 ?_; intro v' w' Ao; have hN := hid Ao; clear Ao);go_ret;obtain ⟨a', c', f', h1, h2, h3, h4⟩ := hN.out.sl;exact ⟨a', c', f', by rw [h1]; rfl, h2, h3, h4⟩
theorem q8i (x : Rec) (cx : Array Value) (fx : List Nat) (w : World) (hx : recL.rep w cx.toList x fx) (hz : q2l x ≤ 1048576) :
  Calls Tryz.prog 27 #[.agg cx] w (q5x recL x w) := by
 obtain ⟨a6, l6, c6, f6, a7, l7, c7, f7, a8, l8, c8, f8, ex, o0, o1, o2, o3, o4, o5, h6, h7, h8, -⟩ := q0m.1 hx;obtain rfl := (tLi ex);have q6 := q3s x.rows; have q7 := q2r x.data; have q8 := q2r x.delta;unfold q2l q4s q8m at hz;unfold q4s at q6; unfold q8m at q7 q8;have z6 : l6 ≤ 1048576 := by rw [h6.1]; omega
 have z7 : l7 ≤ 1048576 := by rw [h7.1]; omega
 have z8 : l8 ≤ 1048576 := by rw [h8.1]; omega
 have HO := hid (B5 o0 (B5 o1 (B5 o2 (B5 o3 (B5 o4 o5)))));have L6 := hid h6.1.symm; have L7 := hid h7.1.symm; have L8 := hid h8.1.symm;have H6 := hid h6; have H7 := hid h7; have H8 := hid h8;clear hx ex hz q6 q7 q8 o0 o1 o2 o3 o4 o5 h6 h7 h8;have g0 : Chg [] w ((w.alloc (.cells #[I J x.kD, I J x.seq, Ab x.nM, I J x.length, I J x.gP, I J x.row, Aa a6 l6 c6, Aa a7 l7 c7, Aa a8 l8 c8] 38)).alloc (.cells #[I J 0, I J 0, Ab ⟨#[]⟩, I J 0, I J 0, I J 0, Aa none 0 0, Aa none 0 0, Aa none 0 0] 38)).drew := (((Chg.refl [] w).alloc _).alloc _).drew;have B1 := hid (show ((w.alloc (.cells #[I J x.kD, I J x.seq, Ab x.nM, I J x.length, I J x.gP, I J x.row, Aa a6 l6 c6, Aa a7 l7 c7, Aa a8 l8 c8] 38)).alloc (.cells #[I J 0, I J 0, Ab ⟨#[]⟩, I J 0, I J 0, I J 0, Aa none 0 0, Aa none 0 0, Aa none 0 0] 38)).drew.heap[w.heap.size]? = some (.cells #[I J x.kD, I J x.seq, Ab x.nM, I J x.length, I J x.gP, I J x.row, Aa a6 l6 c6, Aa a7 l7 c7, Aa a8 l8 c8] 38 (0, 0)) from q0a (q0b (q0k w _) _));have B2 := hid (show ((w.alloc (.cells #[I J x.kD, I J x.seq, Ab x.nM, I J x.length, I J x.gP, I J x.row, Aa a6 l6 c6, Aa a7 l7 c7, Aa a8 l8 c8] 38)).alloc (.cells #[I J 0, I J 0, Ab ⟨#[]⟩, I J 0, I J 0, I J 0, Aa none 0 0, Aa none 0 0, Aa none 0 0] 38)).drew.heap[w.heap.size + 1]? = some (.cells #[I J 0, I J 0, Ab ⟨#[]⟩, I J 0, I J 0, I J 0, Aa none 0 0, Aa none 0 0, Aa none 0 0] 38 (0, 0)) from q0a (q0c (by simp) _));have hs0 : ((w.alloc (.cells #[I J x.kD, I J x.seq, Ab x.nM, I J x.length, I J x.gP, I J x.row, Aa a6 l6 c6, Aa a7 l7 c7, Aa a8 l8 c8] 38)).alloc (.cells #[I J 0, I J 0, Ab ⟨#[]⟩, I J 0, I J 0, I J 0, Aa none 0 0, Aa none 0 0, Aa none 0 0] 38)).drew.heap.size = w.heap.size + 2 := by simp [World.drew]
 have G0 := hid g0;have Bc := hid hs0;clear g0 hs0;go_enter Tryz.func27, Tryz.ntmps27;go_wp2_with fail;obtain ⟨CC, Ap, Au⟩ := q0f (fun w' => Know w.heap.size #[I J x.kD, I J x.seq, Ab x.nM, I J x.length, I J x.gP, I J x.row, Aa a6 l6 c6, Aa a7 l7 c7, Aa a8 l8 c8] w');refine q1l [10] CC (by kernel_rfl) (Ap.o _ (Know.of B1.o)) (fun Ae hS => ?_);refine ggT 0 Ae hS ?_; clear Ae hS; intro Ae hS;refine ggL 1 Ae hS Au ?_; clear Ae hS; intro Ae hS;refine ggT 3 Ae hS ?_; clear Ae hS; intro Ae hS;refine ggL 4 Ae hS Au ?_; clear Ae hS; intro Ae hS;refine ggT 6 Ae hS ?_; clear Ae hS; intro Ae hS;refine ggL 7 Ae hS Au ?_; clear Ae hS; intro Ae hS;refine ggq 2 Ae (fun K hK => ?_);go_simp;go_at_call 62;refine (cpyI_any a6 l6 c6 x.rows f6 _ (intL.sl_ext H6.o G0.o) (by omega)).mono ?_; rintro e w1 ⟨p6, d6, g6, rfl, hs, hf, hc⟩;rw [L6.o] at hs ⊢; have Aj := hid (B5 hs (B5 hf hc)); obtain ⟨-, -, A1⟩ := bk0 hc B1.o; obtain ⟨-, -, A2⟩ := bk0 hc B2.o; clear hs hf hc;go_wp2_with fail;refine hK.out _ _ (fun _ => Ap.o _ (Know.of A1.o)) ?_;clear hK K Ae hS;intro Ae hS;try simp only [BF, pA, pB, pC]
 refine ggT 9 Ae hS ?_; clear Ae hS; intro Ae hS;refine ggq 5 Ae (fun K hK => ?_);go_simp;go_at_call 63;refine (cpyB_any a7 l7 c7 x.data f7 _ (q0o.sl_ext H7.o (G0.o.trans0 Aj.o.2.2)) (by omega)).mono ?_; rintro e w2 ⟨p7, d7, g7, rfl, hs, hf, hc⟩;rw [L7.o] at hs ⊢; have Aw := hid (B5 hs (B5 hf hc)); obtain ⟨-, -, A3⟩ := bk0 hc A1.o; obtain ⟨-, -, A4⟩ := bk0 hc A2.o; clear hs hf hc;go_wp2_with fail;refine hK.out _ _ (fun _ => Ap.o _ (Know.of A3.o)) ?_;clear hK K Ae hS;intro Ae hS;try simp only [BF, pA, pB, pC]
 refine ggq 8 Ae (fun K hK => ?_);go_simp;go_at_call 63;refine (cpyB_any a8 l8 c8 x.delta f8 _ (q0o.sl_ext H8.o ((G0.o.trans0 Aj.o.2.2).trans0 Aw.o.2.2)) (by omega)).mono ?_; rintro e w3 ⟨p8, d8, g8, rfl, hs, hf, hc⟩;rw [L8.o] at hs ⊢; have Al := hid (B5 hs (B5 hf hc)); obtain ⟨e1, n1, A5⟩ := bk0 hc A3.o; obtain ⟨e2, n2, A6⟩ := bk0 hc A4.o; have fz := q0j A5.o; have fy := q0j A6.o; clear hs hf hc;go_wp2_with fail;refine hK.out _ _ (fun _ => Ap.o _ (Know.of A5.o)) ?_;clear hK K Ae hS;intro Ae hS;try simp only [BF, pA, pB, pC]
 refine ggq 10 Ae (fun K hK => ?_);go_simp;refine hK.out _ _ (Till.done (m := 10) (by simp) (by rfl)) ?_;clear hK K Ae hS;intro Ae hS;try simp only [BF, pA, pB, pC]
 refine ggT 11 Ae hS ?_; clear Ae hS; intro Ae hS;refine ggq 12 Ae (fun K hK => ?_);go_simp;refine hK.out _ _ (Till.done (m := 10) (by simp) (by rfl)) ?_;clear hK K Ae hS;intro Ae hS;try simp only [BF, pA, pB, pC]
 refine ggT 13 Ae hS ?_; clear Ae hS; intro Ae hS;refine ggq 14 Ae (fun K hK => ?_);go_simp;refine hK.out _ _ (Till.done (m := 10) (by simp) (by rfl)) ?_;clear hK K Ae hS;intro Ae hS;try simp only [BF, pA, pB, pC]
 refine q3m (by kernel_rfl) ?_ _;go_wp2_with fail;have hb1 : (((w3.setCell ⟨w.heap.size, 6, none⟩ (Aa p6 l6 d6)).setCell ⟨w.heap.size, 7, none⟩ (Aa p7 l7 d7)).setCell ⟨w.heap.size, 8, none⟩ (Aa p8 l8 d8)).heap[w.heap.size + 1]? = some (.cells #[I J 0, I J 0, Ab ⟨#[]⟩, I J 0, I J 0, I J 0, Aa none 0 0, Aa none 0 0, Aa none 0 0] 38 (0, 0)) := q0r (q0r (q0r A6.o _ _ (by simp)) _ _ (by simp)) _ _ (by simp);have hq : ((((((((((((w3.setCell ⟨w.heap.size, 6, none⟩ (Aa p6 l6 d6)).setCell ⟨w.heap.size, 7, none⟩ (Aa p7 l7 d7)).setCell ⟨w.heap.size, 8, none⟩ (Aa p8 l8 d8)).setCell ⟨w.heap.size + 1, 0, none⟩ (I J x.kD)).setCell ⟨w.heap.size + 1, 1, none⟩ (I J x.seq)).setCell ⟨w.heap.size + 1, 2, none⟩ (Ab x.nM)).setCell ⟨w.heap.size + 1, 3, none⟩ (I J x.length)).setCell ⟨w.heap.size + 1, 4, none⟩ (I J x.gP)).setCell ⟨w.heap.size + 1, 5, none⟩ (I J x.row)).setCell ⟨w.heap.size + 1, 6, none⟩ (Aa p6 l6 d6)).setCell ⟨w.heap.size + 1, 7, none⟩ (Aa p7 l7 d7)).setCell ⟨w.heap.size + 1, 8, none⟩ (Aa p8 l8 d8)).heap[w.heap.size + 1]? = some (.cells #[I J x.kD, I J x.seq, Ab x.nM, I J x.length, I J x.gP, I J x.row, Aa p6 l6 d6, Aa p7 l7 d7, Aa p8 l8 d8] 38 (0, 0)) := by
  have h := row9_back (I J x.kD) (I J x.seq) (Ab x.nM) (I J x.length) (I J x.gP) (I J x.row) (Aa p6 l6 d6) (Aa p7 l7 d7) (Aa p8 l8 d8) hb1;exact h
 have AK := cellsOf hq;have s1 := Aj.o.2.2.size; have s2 := Aw.o.2.2.size; have s3 := Al.o.2.2.size;rw [Bc.o] at s1;have cS : Chg [w.heap.size, w.heap.size + 1] w3 ((((((((((((w3.setCell ⟨w.heap.size, 6, none⟩ (Aa p6 l6 d6)).setCell ⟨w.heap.size, 7, none⟩ (Aa p7 l7 d7)).setCell ⟨w.heap.size, 8, none⟩ (Aa p8 l8 d8)).setCell ⟨w.heap.size + 1, 0, none⟩ (I J x.kD)).setCell ⟨w.heap.size + 1, 1, none⟩ (I J x.seq)).setCell ⟨w.heap.size + 1, 2, none⟩ (Ab x.nM)).setCell ⟨w.heap.size + 1, 3, none⟩ (I J x.length)).setCell ⟨w.heap.size + 1, 4, none⟩ (I J x.gP)).setCell ⟨w.heap.size + 1, 5, none⟩ (I J x.row)).setCell ⟨w.heap.size + 1, 6, none⟩ (Aa p6 l6 d6)).setCell ⟨w.heap.size + 1, 7, none⟩ (Aa p7 l7 d7)).setCell ⟨w.heap.size + 1, 8, none⟩ (Aa p8 l8 d8)) := by
  iterate 12 refine Chg.setCell ?_ _ _ (.inl (by simp))
  exact Chg.refl _ _
 have nb : ∀ g (B : Nat) (W : World), w.heap.size + 2 ≤ B → q1r B W g → ∀ b ∈ g, b ∉ [w.heap.size, w.heap.size + 1] := fun g B W hB hf b hb hm => by
  have := (hf.2 b hb).1;simp only [Ce, Ck, or_false] at hm;omega
 have n6 := nb g6 _ _ (by rw [Bc.o]; exact BB _) Aj.o.2.1;have n7 := nb g7 _ _ (by omega) Aw.o.2.1;have n8 := nb g8 _ _ (by omega) Al.o.2.1;have K6 := intL.sl_chg (intL.sl_ext (intL.sl_ext Aj.o.1 Aw.o.2.2) Al.o.2.2) cS n6;have K7 := q0o.sl_chg (q0o.sl_ext Aw.o.1 Al.o.2.2) cS n7;have K8 := q0o.sl_chg Al.o.1 cS n8;have F6 := ((Aj.o.2.1.chg Aw.o.2.2).chg Al.o.2.2).chg cS;have F7 := (Aw.o.2.1.chg Al.o.2.2).chg cS;have F8 := Al.o.2.1.chg cS;have l6' := Aj.o.2.1.low (BB _); have l7' := Aw.o.2.1.low (BB _);have hfr := (F6.append (F7.append F8 l7' (by omega)) l6' (by rw [Bc.o]; omega)).mono (C := w.heap.size) (by rw [Bc.o]; omega);have hch : Chg [] w ((((((((((((w3.setCell ⟨w.heap.size, 6, none⟩ (Aa p6 l6 d6)).setCell ⟨w.heap.size, 7, none⟩ (Aa p7 l7 d7)).setCell ⟨w.heap.size, 8, none⟩ (Aa p8 l8 d8)).setCell ⟨w.heap.size + 1, 0, none⟩ (I J x.kD)).setCell ⟨w.heap.size + 1, 1, none⟩ (I J x.seq)).setCell ⟨w.heap.size + 1, 2, none⟩ (Ab x.nM)).setCell ⟨w.heap.size + 1, 3, none⟩ (I J x.length)).setCell ⟨w.heap.size + 1, 4, none⟩ (I J x.gP)).setCell ⟨w.heap.size + 1, 5, none⟩ (I J x.row)).setCell ⟨w.heap.size + 1, 6, none⟩ (Aa p6 l6 d6)).setCell ⟨w.heap.size + 1, 7, none⟩ (Aa p7 l7 d7)).setCell ⟨w.heap.size + 1, 8, none⟩ (Aa p8 l8 d8)) := (((G0.o.trans0 Aj.o.2.2).trans0 Aw.o.2.2).trans0 Al.o.2.2).trans cS (fun y hy => .inr (by simp only [Ce, Ck, or_false] at hy; omega));refine bodyPost_ret (v := .agg #[I J x.kD, I J x.seq, Ab x.nM, I J x.length, I J x.gP, I J x.row, Aa p6 l6 d6, Aa p7 l7 d7, Aa p8 l8 d8]) (by simp [results, Tryz.results27, go_sem, AK]) rfl ⟨_, _, rfl, q0m.2 ⟨p6, l6, d6, g6, p7, l7, d7, g7, p8, l8, d8, g8, rfl, HO.o.1, HO.o.2.1, HO.o.2.2.1, HO.o.2.2.2.1, HO.o.2.2.2.2.1, HO.o.2.2.2.2.2, K6, K7, K8, rfl⟩, hfr, hch⟩
theorem row2_back {w : World} {b : Nat} {E : TypeId} {fr : Nat × Nat} {u0 u1 : Value} (v0 v1 : Value) (h : w.heap[b]? = some (.cells #[u0, u1] E fr)) :
  ((w.setCell ⟨b, 0, none⟩ v0).setCell ⟨b, 1, none⟩ v1).heap[b]? = some (.cells #[v0, v1] E fr) := by
 have e : ((w.setCell ⟨b, 0, none⟩ v0).setCell ⟨b, 1, none⟩ v1) = w.setCells b 0 [v0, v1] := rfl;rw [e, q3k [v0, v1] 0 w _ h];simp [setRow]
theorem z1x (a : Option Addr) (la ca : Nat) (xs : List Rec) (f : List Nat) (w : World) (ha : recL.sl w a la ca xs f) (hz : totL q2l xs ≤ 1048576) :
  Calls Tryz.prog 18 #[Aa a la ca] w (q7r recL xs w) := by
 obtain ⟨K, _⟩ := q4y;have hlz : la ≤ 1048576 := by have := totL_len q2i xs; rw [ha.1]; omega
 have HL := hid ha.1;have HA := hid ha;have HZ := hid (fun x hx => Int.le_trans (z0v q2i hx) hz : ∀ x ∈ xs, q2l x ≤ 1048576);clear ha hz;go_enter Tryz.func18, Tryz.ntmps18;go_wp2_with fail;go_loopw [3, 9] (fun vo vi wr => ∃ (k : Nat) (Wr : World), Wr = wr ∧ k ≤ la ∧ vi = I J k ∧ Grow recL 38 w wr vo (xs.take k)) (fun _ vi _ => la - (intOf vi).toNat)
 case atStart => exact ⟨0, _, rfl, by omega, rfl, by rw [Cp]; exact Grow.made (Chg.refl _ _)⟩
 case round =>
  obtain ⟨k, wr, rfl, hk, rfl, hg⟩ := hrel;by_cases hlt : k < la
  ·obtain ⟨x, b, off, a6, l6, c6, a7, l7, c7, a8, l8, c8, fq, HX, rfl, hq0, hq1, hq2, hq3, hq4, hq5, hq6, hq7, hq8, HXS⟩ := q6m (recL.sl_ext HA.o hg.chg) hlt;have HG := hid hg;have HXI := hid HX.o.1;have HXZ := hid (HZ.o x (Cb HX.o.1));clear hg HX;go_wp2_with fail;refine (q8i x #[I J x.kD, I J x.seq, Ab x.nM, I J x.length, I J x.gP, I J x.row, Aa a6 l6 c6, Aa a7 l7 c7, Aa a8 l8 c8] fq _ (recL.ext HXS.o ((Chg.refl [] wr).alloc (.cells #[I J x.kD, I J x.seq, Ab x.nM, I J x.length, I J x.gP, I J x.row, Aa a6 l6 c6, Aa a7 l7 c7, Aa a8 l8 c8] 38))) HXZ.o).mono ?_;rintro e w1 ⟨cs, f1, rfl, hr, hf, hc⟩;obtain ⟨p6, m6, d6, _, p7, m7, d7, _, p8, m8, d8, _, ex, -⟩ := q0m.1 hr;obtain rfl := (tLi ex);have Aj := hid (B5 hr (B5 (hf.mono (C := wr.heap.size) (by simp)) (((Chg.refl [] wr).alloc (.cells #[I J x.kD, I J x.seq, Ab x.nM, I J x.length, I J x.gP, I J x.row, Aa a6 l6 c6, Aa a7 l7 c7, Aa a8 l8 c8] 38)).trans0 hc)));have AV : Hid ((xs.take k).length + [x].length ≤ maxLen ∧ ((xs.take k).length + [x].length) * 128 ≤ 140737488355328) := by
    refine ⟨?_, ?_⟩ <;> simp only [BO, Cl, BH, maxLen] <;> omega
   have HNX := hid (q1e HXI.o);clear ex hr hf hc hq0 hq1 hq2 hq3 hq4 hq5 hq6 hq7 hq8 HXS;go_wp2_with (at_builtin; refine recL.wpList_grow rfl _ _ 32 rfl Tryz.underlying32 K rfl HG.o (Aj.o.2.2.alloc (.cells #[I J x.kD, I J x.seq, Ab x.nM, I J x.length, I J x.gP, I J x.row, Aa p6 m6 d6, Aa p7 m7 d7, Aa p8 m8 d8] 38)) ⟨w1.heap.size, 0, none⟩ 1 1 [I J x.kD, I J x.seq, Ab x.nM, I J x.length, I J x.gP, I J x.row, Aa p6 m6 d6, Aa p7 m7 d7, Aa p8 m8 d8] (ys := [x]) (f := f1) rfl rfl (q1p w1 #[I J x.kD, I J x.seq, Ab x.nM, I J x.length, I J x.gP, I J x.row, Aa p6 m6 d6, Aa p7 m7 d7, Aa p8 m8 d8] 38) (recL.all_single (recL.ext Aj.o.1 ((Chg.refl [] w1).alloc _))) (Aj.o.2.1.chg ((Chg.refl [] w1).alloc (.cells #[I J x.kD, I J x.seq, Ab x.nM, I J x.length, I J x.gP, I J x.row, Aa p6 m6 d6, Aa p7 m7 d7, Aa p8 m8 d8] 38))) AV.o.1 AV.o.2 ?_; intro v' w' Ao; rw [← HNX.o] at Ao; have HG2 := hid Ao; clear Ao);go_roundw
   case rel => exact ⟨k + 1, _, rfl, by omega, by go_num, HG2.o⟩
   case measure => simp [intOf]; omega
  ·obtain rfl : k = la := by omega
   rw [BW (by have := HL.o; omega)] at hg;obtain ⟨a', c', f', h1, h2, h3, h4⟩ := hg.sl;subst h1;have HN := hid (show q7r recL xs w (.returned (Aa a' xs.length c')) wr from ⟨a', c', f', rfl, h2, h3, h4⟩);generalize xs.length = n at HN ⊢;clear h2 h3 h4 hg;go_wp2_with fail;go_ret;exact HN.o

theorem l5Blank_ty {T : List TRow} {w : World} (h : Well T w) :
  Calls Tryz.prog 106 #[] w fun e w' => ∃ v T', e = .returned (.agg #[I J 0, v]) ∧ SlT T' .bt v ∧ TyStep T w T' w' := by
 have hmb : ∀ w : World, (Instr.makeSlice 22 (I J 4) (I J 4)).run Tryz.prog w = .ok (Aa (some ⟨w.heap.size, 0, none⟩) 4 4) (w.alloc (Ad (zrow (.int .u8 0) 4) 5)) := fun w => z0h 4 (by omega) w
 have hz : (zrow (.int .u8 0) 4).toList = BC 4 (.int .u8 0) := toList_madeCells_one (.int .u8 0) 4;have hzs : (zrow (.int .u8 0) 4).size = 4 * Kd.bt.n := by rw [← Array.length_toList, hz]; rfl
 have HT := hid ((((TyStep.refl h).ext ((Chg.refl [] w).alloc (.cells #[I J 0, Aa (some ⟨w.heap.size + 1, 0, none⟩) 4 4] 84))).push .bt 4 4 (zrow (.int .u8 0) 4) (BB _) hzs (fun i hi => by
  rw [hz];have hi4 : i = 0 ∨ i = 1 ∨ i = 2 ∨ i = 3 := by omega
  rcases hi4 with rfl | rfl | rfl | rfl <;> exact ⟨0, rfl⟩)))
 clear h hz hzs;go_enter Tryz.func106, Tryz.ntmps106;go_wp2_with fail;refine bodyPost_ret (v := .agg #[I J 0, Aa (some ⟨w.heap.size + 1, 0, none⟩) 4 4]) (by simp [results, Tryz.results106, go_sem]) rfl ⟨_, _, rfl, ?_, HT.o⟩;exact ⟨_, 4, 4, rfl, by decide, BB _, by simp [maxLen], .inr ⟨_, List.mem_cons_self, rfl, 0, by simp [Kd.n], by simp, by simp⟩⟩
theorem z0j (x : Shp) (n : Nat) {T : List TRow} (w : World) (h : Well T w) (hx : x.rows = n) (hn : n ≤ 15) :
  Calls Tryz.prog 75 #[.agg #[I J x.gS, I J x.cZ, I J x.data, I J x.spare, I J x.rows, I J x.cap, I J x.bT, I J x.qU, I J x.sG]] w fun e w' => ∃ p c, e = .returned (.agg #[Ac false, Aa p n c]) ∧ ∃ T', SlT T' .bk (Aa p n c) ∧ TyStep T w T' w' := by
 obtain ⟨KB, _⟩ := kindBlock;have HX := hid hx;have HN0 := hid (fun r (hr : r ∈ T) => (.inl (h.lt hr) : r.b < w.heap.size ∨ w.heap.size + 3 ≤ r.b));have G0 := hid ((TyStep.refl h).ext (show Chg [] w (((w.alloc (.cells #[I J x.gS, I J x.cZ, I J x.data, I J x.spare, I J x.rows, I J x.cap, I J x.bT, I J x.qU, I J x.sG] 25)).alloc (.cells #[Ac false, Aa none 0 0] 82)).alloc (.cells #[Ac false, Aa none 0 0] 82)) from (((Chg.refl [] w).alloc _).alloc _).alloc _));have B0 := hid (show (((w.alloc (.cells #[I J x.gS, I J x.cZ, I J x.data, I J x.spare, I J x.rows, I J x.cap, I J x.bT, I J x.qU, I J x.sG] 25)).alloc (.cells #[Ac false, Aa none 0 0] 82)).alloc (.cells #[Ac false, Aa none 0 0] 82)).heap[w.heap.size]? = some (.cells #[I J x.gS, I J x.cZ, I J x.data, I J x.spare, I J x.rows, I J x.cap, I J x.bT, I J x.qU, I J x.sG] 25 (0, 0)) from q0b (q0b (q0k w _) _) _);have B1 := hid (show (((w.alloc (.cells #[I J x.gS, I J x.cZ, I J x.data, I J x.spare, I J x.rows, I J x.cap, I J x.bT, I J x.qU, I J x.sG] 25)).alloc (.cells #[Ac false, Aa none 0 0] 82)).alloc (.cells #[Ac false, Aa none 0 0] 82)).heap[w.heap.size + 1]? = some (.cells #[Ac false, Aa none 0 0] 82 (0, 0)) from q0b (q0c (by simp) _) _);have B2 := hid (show (((w.alloc (.cells #[I J x.gS, I J x.cZ, I J x.data, I J x.spare, I J x.rows, I J x.cap, I J x.bT, I J x.qU, I J x.sG] 25)).alloc (.cells #[Ac false, Aa none 0 0] 82)).alloc (.cells #[Ac false, Aa none 0 0] 82)).heap[w.heap.size + 2]? = some (.cells #[Ac false, Aa none 0 0] 82 (0, 0)) from q0c (by simp) _);clear hx h;go_enter Tryz.func75, Tryz.ntmps75;go_wp2_with fail;go_loopw [4] (fun vi wr => ∃ (k : Nat) (pv : Option Addr) (cv : Nat) (T' : List TRow) (Wr : World), Wr = wr ∧ k ≤ n ∧ vi = I J k ∧ SlT T' .bk (Aa pv k cv) ∧ Hid (∀ r ∈ T', r.b < w.heap.size ∨ w.heap.size + 3 ≤ r.b) ∧ wr.heap[w.heap.size]? = some (.cells #[I J x.gS, I J x.cZ, I J x.data, I J x.spare, I J x.rows, I J x.cap, I J x.bT, I J x.qU, I J x.sG] 25 (0, 0)) ∧ wr.heap[w.heap.size + 1]? = some (.cells #[Ac false, Aa none 0 0] 82 (0, 0)) ∧ wr.heap[w.heap.size + 2]? = some (.cells #[Ac false, Aa pv k cv] 82 (0, 0)) ∧ TyStep T w T' wr) (fun vi _ => n - (intOf vi).toNat)
 case atStart => exact ⟨0, none, 0, T, _, rfl, by omega, rfl, ⟨none, 0, 0, rfl, Cj _, BB _, by simp [maxLen], .inl ⟨rfl, rfl⟩⟩, HN0, B0.o, B1.o, B2.o, G0.o⟩
 case round =>
  clear G0 B0 B1 B2 HN0;obtain ⟨k, pv, cv, T', wr, rfl, hk, rfl, hv, HNB, hb0, hb1, hb2, hc⟩ := hrel;have c0 := cellsOf hb0; have n0 := ltOf hb0;have B0 := hid hb0; have B1 := hid hb1; have B2 := hid hb2;by_cases hlt : k < n
  ·have hle : ((k : Int) < x.rows) := by have := HX.o; omega
   have HV := hid hv; have HC := hid hc;have lw : w.heap.size + 2 < wr.heap.size := ltOf hb2;have Bf := hid (fun (b : Nat) (h1 : w.heap.size ≤ b) (h2 : b < w.heap.size + 3) (hm : b ∈ T'.map (·.b)) => (by
    obtain ⟨q, hq, e⟩ := BM.1 hm;have e : q.b = b := e;have := HNB.o q hq;omega : False))
   clear hv hc hb0 hb1 hb2;go_wp2_with fail;obtain ⟨CC, Ap, Au⟩ := q0f (fun w' => Know (w.heap.size + 2) #[Ac false, Aa pv k cv] w');refine q1l [4] CC (by kernel_rfl) (Ap.o _ (Know.of (q0a B2.o))) (fun Ae hS => ?_);refine ggT 0 Ae hS ?_; clear Ae hS; intro Ae hS;refine ggL 1 Ae hS Au ?_; clear Ae hS; intro Ae hS;refine ggq 2 Ae (fun K hK => ?_);go_simp;go_at_call 106;refine (l5Blank_ty (HC.o.well.ext (Chg.refl [] wr).drew)).mono ?_; rintro e w3 ⟨v3, T3, rfl, hv3, AJ⟩;obtain ⟨p3, m3, d3, rfl, -⟩ := id hv3;have HV3 := hid hv3; have Ba := hid AJ;have F2 := hid (AJ.chg.keepb (q0a B2.o) (Bf.o (w.heap.size + 2) (by omega) (by omega))); have F1 := hid (AJ.chg.keepb (q0a B1.o) (Bf.o (w.heap.size + 1) (by omega) (by omega))); have F0 := hid (AJ.chg.keepb (q0a B0.o) (Bf.o w.heap.size (by omega) (by omega)));have Al := hid (fun (b : Nat) (h1 : w.heap.size ≤ b) (h2 : b < w.heap.size + 3) (hm : b ∈ T3.map (·.b)) => (by obtain ⟨q, hq, e⟩ := BM.1 hm; have e : q.b = b := e; rcases AJ.new q hq with h4 | h4; exact Bf.o b h1 h2 (e ▸ h4); have h5 : wr.heap.size ≤ q.b := h4; omega : False));clear hv3 AJ;go_wp2_with fail;refine hK.out _ _ (fun _ => Ap.o _ (Know.of F2.o)) ?_;clear hK K Ae hS;intro Ae hS;try simp only [BF, pA, pB, pC]
   refine ggq 3 Ae (fun K hK => ?_);go_simp;refine hK.out _ _ (fun _ => Ap.o _ (Know.of (q0b F2.o _))) ?_;clear hK K Ae hS;intro Ae hS;try simp only [BF, pA, pB, pC]
   refine ggq 4 Ae (fun K hK => ?_);refine q4p rfl _ _ 80 rfl (Ba.o.well.ext ((Chg.refl [] w3).alloc (.cells #[I J 0, Aa p3 m3 d3] 84))) (k := .bk) Tryz.underlying80 KB (by omega) rfl (HV.o.sub Ba.o.sub) (cs := [I J 0, Aa p3 m3 d3]) ⟨0, _, rfl, i64z, HV3.o⟩ (by show k + 1 ≤ 16; omega) ⟨w3.heap.size, 0, none⟩ 1 rfl (q1p w3 #[I J 0, Aa p3 m3 d3] 84) ?_;intro a' c' w4 T4 h41 h42 h43 AR h45;have H4 := hid (show TyStep T3 (w3.alloc (.cells #[I J 0, Aa p3 m3 d3] 84)) T4 w4 from ⟨h41, h42, AR, h45⟩); have HV4 := hid h43;have F6 := hid (AR.keepb (q0b F2.o (.cells #[I J 0, Aa p3 m3 d3] 84)) (Al.o (w.heap.size + 2) (by omega) (by omega))); have Q1 := hid (AR.keepb (q0b F1.o (.cells #[I J 0, Aa p3 m3 d3] 84)) (Al.o (w.heap.size + 1) (by omega) (by omega))); have Q0 := hid (AR.keepb (q0b F0.o (.cells #[I J 0, Aa p3 m3 d3] 84)) (Al.o w.heap.size (by omega) (by omega))); have k6 := cellsOf F6.o; have n6 := ltOf F6.o; have z6 := q0j F6.o;clear h41 h42 h43 AR h45;refine hK.out _ _ (Till.done (m := 4) (by simp) (by rfl)) ?_;clear hK K Ae hS;intro Ae hS;try simp only [BF, pA, pB, pC]
   refine ggT 5 Ae hS ?_; clear Ae hS; intro Ae hS;refine ggq 6 Ae (fun K hK => ?_);go_simp;refine hK.out _ _ (Till.done (m := 4) (by simp) (by rfl)) ?_;clear hK K Ae hS;intro Ae hS;try simp only [BF, pA, pB, pC]
   refine q3m (by kernel_rfl) ?_ _;have hsz3 : wr.heap.size ≤ w3.heap.size := Ba.o.chg.size;have HN4 := hid (show ∀ r ∈ T4, r.b < w.heap.size ∨ w.heap.size + 3 ≤ r.b from fun r hr => by
    rcases H4.o.new r hr with h1 | h1
    ·refine Classical.byContradiction fun hn => Al.o r.b (by omega) (by omega) h1
    ·simp at h1; omega)
   have HR := hid (((((HC.o.ext (Chg.refl [] wr).drew).trans Ba.o).ext ((Chg.refl [] w3).alloc (.cells #[I J 0, Aa p3 m3 d3] 84))).trans H4.o).chg0 ((Chg.refl [w.heap.size + 2] w4).setCell ⟨w.heap.size + 2, 1, none⟩ (Aa a' (k + 1) c') (.inl (by simp))) (by simp) (fun r hr hm => by rw [BG] at hm; have := HN4.o r hr; omega));have r2 := hid (q0r Q0.o ⟨w.heap.size + 2, 1, none⟩ (Aa a' (k + 1) c') (by simp));have r3 := hid (q0r Q1.o ⟨w.heap.size + 2, 1, none⟩ (Aa a' (k + 1) c') (by simp));have r4 := hid (show (w4.setCell ⟨w.heap.size + 2, 1, none⟩ (Aa a' (k + 1) c')).heap[w.heap.size + 2]? = some (.cells #[Ac false, Aa a' (k + 1) c'] 82 (0, 0)) from q0n (cur := #[Ac false, Aa pv k cv]) F6.o rfl);go_wp2_with fail;go_roundw
   case rel => exact ⟨k + 1, a', c', T4, _, rfl, by omega, by go_num, HV4.o, HN4, r2.out, r3.out, r4.out, HR.o⟩
   case measure => simp [intOf]; omega
  ·obtain rfl : k = n := by omega
   have hle : ¬ ((k : Int) < x.rows) := by have := HX.o; omega
   have cb2 := cellsOf hb2; have lb2 := ltOf hb2;have hlb1 := ltOf hb1; have fz := q0j hb1; have cb1 := cellsOf hb1;have hq := row2_back (Ac false) (Aa pv k cv) hb1;have AK := cellsOf hq;have cS : Chg [w.heap.size + 1] wr ((wr.setCell ⟨w.heap.size + 1, 0, none⟩ (Ac false)).setCell ⟨w.heap.size + 1, 1, none⟩ (Aa pv k cv)) := ((Chg.refl _ wr).setCell _ _ (.inl (by simp))).setCell _ _ (.inl (by simp));have HN := hid (B5 hv (hc.chg0 cS (by simp) (fun r hr hm => by rw [BG] at hm; have := HNB.o r hr; omega)));have HQC := hid AK;clear hv hc hb1 hb2 hq AK cS;go_wp2_with fail;have AK := HQC.o;refine bodyPost_ret (v := .agg #[Ac false, Aa pv k cv]) (by simp [results, Tryz.results75, go_sem, AK]) rfl ⟨_, _, rfl, T', HN.o.1, HN.o.2⟩
end Go.Proofs.YthhaednigdgclaaGreat
namespace Go.Proofs.YthhaednigdgclaaGreat
open Go.RowKit
open Go.Lib (hid)
structure TyN (n : Nat) (T : List TRow) (w : World) : Prop where
 well : Well T w
 new : ∀ q ∈ T, n ≤ q.b
theorem TyN.nil (n : Nat) (w : World) : TyN n [] w := ⟨⟨by simp, by simp⟩, by simp⟩
section
variable {n : Nat} {T T2 : List TRow} {w w' : World}
theorem TyN.chg {S : List Nat} (h : TyN n T w) (hc : Chg S w w') (hS : ∀ x ∈ S, x < n) : TyN n T w' :=
 ⟨h.well.chg hc (fun r hr hm => by have h1 := h.new r hr; have h2 := hS _ hm; omega), h.new⟩
theorem TyN.ext (h : TyN n T w) (hc : Chg [] w w') : TyN n T w' := h.chg hc (by simp)
theorem TyN.mono {m : Nat} (h : TyN n T w) (hm : m ≤ n) : TyN m T w := ⟨h.well, fun q hq => Ci hm (h.new q hq)⟩
theorem SubT.right (T T2 : List TRow) : SubT T (T2 ++ T) := fun r hr => ⟨r, List.mem_append_right _ hr, rfl, rfl, BB _, rfl⟩
theorem SubT.left (T T2 : List TRow) : SubT T2 (T2 ++ T) := fun r hr => ⟨r, List.mem_append_left _ hr, rfl, rfl, BB _, rfl⟩
theorem SubT.none (T : List TRow) : SubT [] T := fun r hr => by cases hr
theorem TyN.app {S : List Nat} (h : TyN n T w) (hc : Chg S w w') (hS : ∀ x ∈ S, x < n) (h2 : TyN w.heap.size T2 w') (hn : n ≤ w.heap.size) : TyN n (T2 ++ T) w' := by
 have h1 := h.chg hc hS;refine ⟨⟨?_, fun r hr => ?_⟩, fun q hq => ?_⟩
 ·rw [Cn, List.nodup_append];refine ⟨h2.well.nd, h.well.nd, fun a ha b hb e => ?_⟩;obtain ⟨p, hp, rfl⟩ := BM.1 ha;obtain ⟨q, hq, rfl⟩ := BM.1 hb;have k1 := h2.new p hp;have k2 := h.well.lt hq;omega
 ·rcases Co.1 hr with hr | hr
  ·obtain ⟨cur, e1, e2, e3, e4⟩ := h2.well.row r hr;exact ⟨cur, e1, e2, e3, fun i hi => (e4 i hi).sub (SubT.left T T2)⟩
  ·obtain ⟨cur, e1, e2, e3, e4⟩ := h1.well.row r hr;exact ⟨cur, e1, e2, e3, fun i hi => (e4 i hi).sub (SubT.right T T2)⟩
 ·rcases Co.1 hq with hq | hq
  ·exact Ci hn (h2.new q hq)
  ·exact h.new q hq
theorem TyN.step (h : TyN n T w) (k : TyStep T w T2 w') (hn : n ≤ w.heap.size) : TyN n T2 w' :=
 ⟨k.well, fun q hq => by
  rcases k.new q hq with h1 | h1
  ·obtain ⟨p, hp, e⟩ := BM.1 h1;have e : p.b = q.b := e;rw [← e]; exact h.new p hp
  ·exact Ci hn h1⟩
theorem TyN.notIn (h : TyN n T w) {b : Nat} (hb : b < n) : b ∉ T.map (·.b) := fun hm => by
 obtain ⟨p, hp, e⟩ := BM.1 hm;have e : p.b = b := e;have := h.new p hp;omega
theorem TyStep.tyN (h : TyStep [] w T w') : TyN w.heap.size T w' := ⟨h.well, fun q hq => by
 rcases h.new q hq with h1 | h1
 ·cases h1
 ·exact h1⟩
end
theorem ty_os {α : Type} (L : Lay α) (k : Kd) (hn : L.n = k.n) {n : Nat} {w : World} {v : Value} {xs : List α} (hel : ∀ cs x fp, L.rep w cs x fp → ElT [] k cs) (h : q2x L k.E n w v xs) (hl : xs.length ≤ k.max) :
  ∃ A C, v = Aa A xs.length C ∧ ∃ T, SlT T k (Aa A xs.length C) ∧ TyN n T w := by
 obtain ⟨hs, hd, fps, hos, hf⟩ := h;rcases hos with ⟨rfl, rfl, rfl, rfl⟩ | ⟨g, cap, cur, rfl, rfl, hb, h1, h2, h3, h4, h5⟩
 ·exact ⟨none, 0, rfl, [], ⟨none, 0, 0, rfl, Cj _, BB _, Cj _, .inl ⟨rfl, rfl⟩⟩, TyN.nil n w⟩
 ·refine ⟨_, _, rfl, [⟨g, k, xs.length, cap⟩], ⟨_, _, _, rfl, hl, h1, h2, .inr ⟨_, BG.2 rfl, rfl, 0, by rw [Nat.zero_mul], by simp, by simp⟩⟩, ⟨by simp, fun r hr => ?_⟩, fun q hq => ?_⟩
  ·rw [BG] at hr; subst hr;refine ⟨cur, hb, by rw [h3, hn], h1, fun i hi => ?_⟩;show ElT _ k _;have hi : i < xs.length := hi;obtain ⟨c, f, e1, e2, -⟩ := L.all_at h4 (B7 hi);have he := (hel _ _ _ e2);have Ae := he.len;have : (cur.toList.drop (i * k.n)).take k.n = c := by
    apply List.ext_getElem?;intro j;by_cases hj : j < k.n
    ·rw [BS hj, List.getElem?_drop];have := e1 j (by omega);rw [← this, hn, BS];have := Nat.mul_le_mul_right k.n (show i + 1 ≤ xs.length by omega);rw [Nat.add_mul, Nat.one_mul] at this;omega
    ·rw [BZ (by rw [BO]; omega), BZ (by omega)]
   rw [this];exact he.sub (SubT.none _)
  ·rw [BG] at hq; subst hq;exact (hf.2 g (by simp)).1
theorem ty_bytes {n : Nat} {w : World} {v : Value} {xs : List UInt8} (h : q2x q0o 5 n w v xs) (hl : xs.length ≤ 64) : ∃ A C, v = Aa A xs.length C ∧ ∃ T, SlT T .bt (Aa A xs.length C) ∧ TyN n T w :=
 ty_os q0o .bt rfl (fun _ x _ hr => ⟨x, hr.1⟩) h hl
theorem some_ty (b : Nat) (a : Option Addr) (la ca : Nat) (xs : List UInt8) (f : List Nat) (t n : Int) (w : World) (h : SrcB b a la ca xs f t w) (hn : -1000000 ≤ n) (hn2 : n ≤ 64) (ht : t ≤ 1073740000) :
  Calls Tryz.prog 73 #[.pointer (some ⟨b, 0, none⟩), I J n] w fun e w' => ∃ (A : Option Addr) (C : Nat), e = .returned (Aa A n.toNat C) ∧ (∃ T, SlT T .bt (Aa A n.toNat C) ∧ TyN w.heap.size T w') ∧ SrcB b a la ca xs f (t + 200) w' ∧ Chg [b] w w' := by
 obtain ⟨K, _⟩ := kindB;have HH := hid h;have hlb := h.lt;have HFB := hid (fun x hx => q0o.sl_lt h.2.1 x hx : ∀ x ∈ f, x < w.heap.size);clear h;obtain ⟨m, hm⟩ : ∃ m, m = n.toNat := ⟨_, rfl⟩;rw [← hm];have HM := hid hm;have hnm : n ≤ (m : Int) := by omega
 have Bi : m ≤ 64 := by omega
 clear hm;go_enter Tryz.func73, Tryz.ntmps73;go_wp2_with fail;go_loopw [1, 5] (fun vn vo wr => ∃ (k : Nat) (ys : List UInt8) (Wr : World), Wr = wr ∧ k ≤ m ∧ vn = I J (n - k) ∧ ys.length = k ∧ q2x q0o 5 w.heap.size wr vo ys ∧ SrcB b a la ca xs f (t + 3 * k) wr ∧ Chg [b] w wr) (fun vn _ _ => (intOf vn).toNat)
 case atStart => exact ⟨0, [], _, rfl, by omega, by simp, rfl, q2x.made (BB _), by simpa using HH.o.ext ((Chg.refl [] w).alloc _), (Chg.refl [b] w).alloc _⟩
 case round =>
  obtain ⟨k, ys, wr, rfl, hk, rfl, hl, hg, hs, hc⟩ := hrel;by_cases hlt : 0 < n - (k : Int)
  ·have HL := hid hl;have HG := hid hg; have HS := hid hs; have HC := hid hc;clear hl hg hs hc;go_wp2_with fail;refine (byte_any b a la ca xs f (t + 3 * k) _ HS.o (by omega)).mono ?_;rintro e w1 ⟨y, rfl, hs1, hc1⟩;have hg1 := HG.o.chg hc1 (fun x hx => by rw [BG] at hx; rw [hx]; exact hlb);have HG1 := hid hg1;have HS1 := hid hs1;have AH := hid (HC.o.trans hc1 (fun x hx => .inl hx));have HSZ := hid hg1.1;have AV : Hid (ys.length + [y].length ≤ maxLen ∧ (ys.length + [y].length) * 1 ≤ 140737488355328) := by
    have := HL.o;refine ⟨?_, ?_⟩ <;> simp only [Cl, BH, maxLen] <;> omega
   clear hs1 hc1 hg1;go_wp2_with (refine q0o.wpList_grow rfl _ _ 22 rfl Tryz.underlying22 K rfl HG1.o.to ((Chg.refl [] w1).alloc _) ⟨w1.heap.size, 0, none⟩ 1 1 [.int .u8 ((y.toNat : Nat) : Int)] (ys := [y]) (f := []) rfl rfl (new_cell _ _ _) (byte_all1 rfl) (q1r.nil _ _) AV.o.1 AV.o.2 ?_; intro v' w' Ao; have HN := hid (q2x.next HSZ.o Ao AH.o (BB _)); have HQ := hid (HS1.o.keep (q2x.low HSZ.o Ao) hlb HFB.o); clear Ao);go_roundw
   case rel => exact ⟨k + 1, ys ++ [y], _, rfl, by have := HM.o; omega, by go_num, by simp [HL.o], HN.o.1, HQ.o.mono (by omega), HN.o.2⟩
   case measure => simp [intOf]; omega
  ·obtain rfl : k = m := by have := HM.o; omega
   subst hl;obtain ⟨A, C, rfl, T, h1, h2⟩ := ty_bytes hg Bi;have HN := hid (B5 (show ∃ T, SlT T .bt (Aa A ys.length C) ∧ TyN w.heap.size T wr from ⟨T, h1, h2⟩) (B5 (hs.mono (t2 := t + 200) (by omega)) hc));clear hg hs hc h1 h2;generalize hyl : ys.length = yl at HN hlt ⊢;have HYL := hid hyl;clear hyl;go_wp2_with fail;go_ret;rw [HYL.o];exact ⟨A, C, rfl, HN.o.1, HN.o.2.1, HN.o.2.2⟩
end Go.Proofs.YthhaednigdgclaaGreat
namespace Go.Proofs.YthhaednigdgclaaGreat
open Go.RowKit
open Go.Lib (hid)
theorem Chg.setRowAt {S : List Nat} {a w : World} {b : Nat} (cs : Array Value) (h : Chg S a w) (hb : b ∈ S ∨ a.heap.size ≤ b) : Chg S a (w.setRow b cs) :=
 ⟨h.os, h.tape, h.output, by simp only [World.setRow, Array.size_modify]; exact h.size, fun k hk hS => by rw [setRow_other _ _ _ _ (hb.elim (fun hb e => hS (by rw [e]; exact hb)) (fun hb => by omega))]; exact h.block k hk hS, fun k hk => by
  obtain ⟨c, E, h1⟩ := h.loose k hk;by_cases e : k = b
  ·subst e; exact ⟨_, E, setRow_heap w k c _ E _ h1⟩
  ·exact ⟨c, E, by rw [setRow_other _ _ _ _ e]; exact h1⟩⟩
theorem store_wp' {P : Program} {o : Oper} {a : Act} {Kc : Act → World → Prop} {Q : Exit → Act → World → Prop} {w : World} {b : Nat} {cs vs : Array Value} {E : TypeId} {n : Nat} (p v : Operand) (t : TypeId)
  (hop : o.op = .store t p v) (hp : a.eval p = .pointer (some ⟨b, 0, none⟩)) (hv : a.eval v = .agg vs) (hi : (P.info? t).map (fun i => i.size) = some n) (h : w.heap[b]? = some (Ad cs E (0, 0)))
  (hn : vs.size = n) (hs : cs.size = n) (Ag : vs.toList.all Value.oneCell' = true)
  (hk : Kc (a.put o.dst undef) (w.setRow b vs)) : o.wp P a w Kc Q := by
 obtain ⟨i, Am, AL⟩ := BD.1 hi;have hst := run_storeCells_at (P := P) b 0 E vs.toList 0 cs w h (by simp; omega) (fun v hv => List.all_eq_true.1 Ag v hv);have e : (cs.toList.take (0 + 0) ++ vs.toList ++ cs.toList.drop (0 + 0 + vs.toList.length)).toArray = vs := by
  have : cs.toList.drop (0 + 0 + vs.toList.length) = [] := BN (by simp; omega);rw [this]; simp
 rw [e] at hst;have hsz : vs.size = i.size := by omega
 unfold Oper.wp execOp;simp only [hop, hp, hv, Instr.storeAt, Instr.sureAddr, storeVar, Value.cells, sizeOf, typeInfo, Sem.run_bind, Sem.run_pure, Result.andThen_ok];have Aq : (program : Sem Program).run P w = .ok P w := rfl;simp only [Aq, Result.andThen_ok, Am, Sem.run_pure, ← hsz, ne_eq, not_true, if_false, hst];exact hk
theorem store_wp {P : Program} {o : Oper} {a : Act} {Kc : Act → World → Prop} {Q : Exit → Act → World → Prop} {w : World} {b : Nat} {cs vs : Array Value} {E : TypeId} {n : Nat} (p v : Operand) (t : TypeId)
  (hop : o.op = .store t p v) (hp : a.eval p = .pointer (some ⟨b, 0, none⟩)) (hv : a.eval v = .agg vs) (hi : (P.info? t).map (fun i => i.size) = some n) (h : w.heap[b]? = some (Ad cs E (0, 0)))
  (hn : vs.size = n) (hs : cs.size = n) (Ag : vs.toList.all Value.oneCell' = true)
  (hk : ∀ w', w'.heap[b]? = some (Ad vs E (0, 0)) → Chg [b] w w' → Kc (a.put o.dst undef) w') : o.wp P a w Kc Q :=
 store_wp' p v t hop hp hv hi h hn hs Ag (hk _ (setRow_heap w b cs vs E (0, 0) h) ((Chg.refl _ w).setRowAt vs (.inl (by simp))))
theorem q0v {P : Program} {ops : Array Oper} {rest : List Oper} {o : Oper} {a : Act} {Q : Exit → Act → World → Prop} {w : World} {b : Nat} {cs vs : Array Value} {E : TypeId} {n : Nat} (hgd : o.guard = none) (p v : Operand) (t : TypeId)
  (hop : o.op = .store t p v) (hp : a.eval p = .pointer (some ⟨b, 0, none⟩)) (hv : a.eval v = .agg vs) (hi : (P.info? t).map (fun i => i.size) = some n) (h : w.heap[b]? = some (Ad cs E (0, 0)))
  (hn : vs.size = n) (hs : cs.size = n) (Ag : vs.toList.all Value.oneCell' = true)
  (hk : ∀ w', w'.heap[b]? = some (Ad vs E (0, 0)) → Chg [b] w w' → wpList P ops Q rest (a.put o.dst undef) w') : wpList P ops Q (o :: rest) a w :=
 wpList_plain hgd fun _ hK => store_wp p v t hop hp hv hi h hn hs Ag fun w' h1 h2 => hK _ _ (hk w' h1 h2)
theorem alloc_setRow (w : World) (cs vs : Array Value) (E : TypeId) : (w.alloc (Ad cs E)).setRow w.heap.size vs = w.alloc (Ad vs E) := by
 unfold World.setRow World.alloc
 congr 1
 apply BP;intro k;rw [BX];by_cases h : w.heap.size = k
 ·subst h; simp
 ·rw [if_neg h, Cf, Cf, if_neg (fun e => h e.symm), if_neg (fun e => h e.symm)]
theorem q2s {P : Program} {ops : Array Oper} {rest : List Oper} {o : Oper} {a : Act} {Q : Exit → Act → World → Prop} {w : World} {b : Nat} {cs vs : Array Value} {E : TypeId} {n : Nat} (hgd : o.guard = none) (p v : Operand) (t : TypeId)
  (hop : o.op = .store t p v) (hp : a.eval p = .pointer (some ⟨b, 0, none⟩)) (hv : a.eval v = .agg vs) (hb : b = w.heap.size) (hi : (P.info? t).map (fun i => i.size) = some n)
  (hn : vs.size = n) (hs : cs.size = n) (Ag : vs.toList.all Value.oneCell' = true)
  (hk : wpList P ops Q rest (a.put o.dst undef) (w.alloc (Ad vs E))) : wpList P ops Q (o :: rest) a (w.alloc (Ad cs E)) := by
 subst hb;exact wpList_plain hgd fun _ hK => store_wp' p v t hop hp hv hi (q0k w _) hn hs Ag (by rw [alloc_setRow]; exact hK _ _ hk)
theorem load_wp {P : Program} {o : Oper} {a : Act} {Kc : Act → World → Prop} {Q : Exit → Act → World → Prop} {w : World} {b : Nat} {cs : Array Value} {E : TypeId} {fr : Nat × Nat} {n : Nat} {fs : Array Field} (p : Operand) (t : TypeId)
  (hop : o.op = .load t p) (hp : a.eval p = .pointer (some ⟨b, 0, none⟩)) (hi : (P.info? t).map (fun i => i.size) = some n) (hu : P.underlying t = some (.struct fs)) (h : w.heap[b]? = some (Ad cs E fr))
  (hs : cs.size = n) (hk : Kc (a.put o.dst (.agg cs)) w) : o.wp P a w Kc Q := by
 obtain ⟨i, Am, AL⟩ := BD.1 hi;have Ar := run_loadCells_list (P := P) (w := w) ⟨b, 0, none⟩ cs.toList (fun j v hv => by
  have := cell_of_row w b j cs E fr h;rw [BU, BK, this]; simpa using hv)
 have hsz : cs.toList.length = i.size := by simp; omega
 rw [hsz] at Ar;unfold Oper.wp execOp;have Aq : (program : Sem Program).run P w = .ok P w := rfl;simp only [hop, hp, Instr.loadAt, Instr.sureAddr, loadVar, isAgg, run_underlying hu, sizeOf, typeInfo, Sem.run_bind, Sem.run_pure, Result.andThen_ok, Aq, Am, if_true, Ar];rw [Cc];exact hk
theorem q0x {P : Program} {ops : Array Oper} {rest : List Oper} {o : Oper} {a : Act} {Q : Exit → Act → World → Prop} {w : World} {b : Nat} {cs : Array Value} {E : TypeId} {fr : Nat × Nat} {n : Nat} {fs : Array Field} (hgd : o.guard = none) (p : Operand) (t : TypeId)
  (hop : o.op = .load t p) (hp : a.eval p = .pointer (some ⟨b, 0, none⟩)) (hi : (P.info? t).map (fun i => i.size) = some n) (hu : P.underlying t = some (.struct fs)) (h : w.heap[b]? = some (Ad cs E fr))
  (hs : cs.size = n) (hk : wpList P ops Q rest (a.put o.dst (.agg cs)) w) : wpList P ops Q (o :: rest) a w :=
 wpList_plain hgd fun _ hK => load_wp p t hop hp hi hu h hs (hK _ _ hk)
theorem q0q {P : Program} {fn : Func} {tmps : Array Value} {w : World} {b : Nat} {cs : Array Value} {E : TypeId} {fr : Nat × Nat} {n : Nat} {fs : Array Field} (s : Tmp) (t : TypeId) (hr : fn.results = #[.cell s t])
  (hp : tmps.getD s undef = .pointer (some ⟨b, 0, none⟩)) (hi : (P.info? t).map (fun i => i.size) = some n) (hu : P.underlying t = some (.struct fs)) (h : w.heap[b]? = some (Ad cs E fr)) (hs : cs.size = n) :
  (results fn tmps).run P w = .ok (.agg cs) w := by
 obtain ⟨i, Am, AL⟩ := BD.1 hi;have Ar := run_loadCells_list (P := P) (w := w) ⟨b, 0, none⟩ cs.toList (fun j v hv => by
  have := cell_of_row w b j cs E fr h;rw [BU, BK, this]; simpa using hv)
 have hsz : cs.toList.length = i.size := by simp; omega
 rw [hsz, Cc] at Ar;have Aq : (program : Sem Program).run P w = .ok P w := rfl;have hl : (loadVar t ⟨b, 0, none⟩).run P w = .ok (.agg cs) w := by
  simp only [loadVar, isAgg, run_underlying hu, sizeOf, typeInfo, Sem.run_bind, Sem.run_pure, Result.andThen_ok, Aq, Am, if_true, Ar]
 have hp2 : tmps[s]?.getD undef = .pointer (some ⟨b, 0, none⟩) := by simpa using hp
 simp [results, hr, hp2, asAddr, hl]
theorem q1q : (Tryz.prog.info? 30).map (fun i => i.size) = some 15 := by kernel_rfl
theorem infoWR : (Tryz.prog.info? 97).map (fun i => i.size) = some 16 := by kernel_rfl
end Go.Proofs.YthhaednigdgclaaGreat
namespace Go.Proofs.YthhaednigdgclaaGreat
open Go.RowKit
open Go.Lib (hid)
theorem load_row {P : Program} {o : Oper} {a : Act} {Kc : Act → World → Prop} {Q : Exit → Act → World → Prop} {w : World} {b k n : Nat} {cs : List Value} {fs : Array Field} (p : Operand) (t : TypeId)
  (hop : o.op = .load t p) (hp : a.eval p = .pointer (some ⟨b, k, none⟩)) (hi : (P.info? t).map (fun i => i.size) = some n) (hu : P.underlying t = some (.struct fs)) (h : ∀ j v, cs[j]? = some v → w.cell? ⟨b, k + j, none⟩ = some v)
  (hs : cs.length = n) (hk : Kc (a.put o.dst (.agg cs.toArray)) w) : o.wp P a w Kc Q := by
 obtain ⟨i, Am, AL⟩ := BD.1 hi;have Ar := run_loadCells_list (P := P) (w := w) ⟨b, k, none⟩ cs (fun j v hv => by rw [BU]; exact h j v hv);have hsz : cs.length = i.size := by omega
 rw [hsz] at Ar;unfold Oper.wp execOp;have Aq : (program : Sem Program).run P w = .ok P w := rfl;simp only [hop, hp, Instr.loadAt, Instr.sureAddr, loadVar, isAgg, run_underlying hu, sizeOf, typeInfo, Sem.run_bind, Sem.run_pure, Result.andThen_ok, Aq, Am, if_true, Ar];exact hk
theorem q3d {P : Program} {ops : Array Oper} {rest : List Oper} {o : Oper} {a : Act} {Q : Exit → Act → World → Prop} {w : World} {b k n : Nat} {cs : List Value} {fs : Array Field} (hgd : o.guard = none) (p : Operand) (t : TypeId)
  (hop : o.op = .load t p) (hp : a.eval p = .pointer (some ⟨b, k, none⟩)) (hi : (P.info? t).map (fun i => i.size) = some n) (hu : P.underlying t = some (.struct fs)) (h : ∀ j v, cs[j]? = some v → w.cell? ⟨b, k + j, none⟩ = some v)
  (hs : cs.length = n) (hk : wpList P ops Q rest (a.put o.dst (.agg cs.toArray)) w) : wpList P ops Q (o :: rest) a w :=
 wpList_plain hgd fun _ hK => load_row p t hop hp hi hu h hs (hK _ _ hk)
theorem store_row {P : Program} {o : Oper} {a : Act} {Kc : Act → World → Prop} {Q : Exit → Act → World → Prop} {w : World} {b k n : Nat} {cs : List Value} (p v : Operand) (t : TypeId)
  (hop : o.op = .store t p v) (hp : a.eval p = .pointer (some ⟨b, k, none⟩)) (hv : a.eval v = .agg cs.toArray) (hi : (P.info? t).map (fun i => i.size) = some n)
  (hc : ∀ j, j < n → (w.cell? ⟨b, k + j, none⟩).isSome = true) (hf : ∀ j, w.frozen? ⟨b, j, none⟩ = false) (hs : cs.length = n) (Ag : ∀ u ∈ cs, u.oneCell' = true)
  (hk : Kc (a.put o.dst undef) (w.setCells b k cs)) : o.wp P a w Kc Q := by
 obtain ⟨i, Am, AL⟩ := BD.1 hi;have hst := run_storeCells_cells (P := P) b k cs 0 w (fun j hj => by rw [Cg]; exact hc j (by omega)) (fun j _ => hf _) Ag;rw [Cg] at hst;have hsz : cs.toArray.size = i.size := by simp; omega
 unfold Oper.wp execOp;simp only [hop, hp, hv, Instr.storeAt, Instr.sureAddr, storeVar, Value.cells, sizeOf, typeInfo, Sem.run_bind, Sem.run_pure, Result.andThen_ok];have Aq : (program : Sem Program).run P w = .ok P w := rfl;simp only [Aq, Result.andThen_ok, Am, Sem.run_pure, ← hsz, ne_eq, not_true, if_false, hst];exact hk
section
variable {α : Type} {L : Lay α} {w w' : World} {b off : Nat} {ps : List (α × List Nat)}
def q1j (w : World) (b k n : Nat) (cs : List Value) : Prop := cs.length = n ∧ (∀ j v, cs[j]? = some v → w.cell? ⟨b, k + j, none⟩ = some v) ∧ ∀ u ∈ cs, u.oneCell' = true
theorem q1c.look (h : q1c L w b off ps) {i : Nat} {p : α × List Nat} (hp : ps[i]? = some p) : ∃ c, L.rep w c p.1 p.2 ∧ b ∉ p.2 ∧ q1j w b (off + i * L.n) L.n c := by
 have hi := (BA.1 hp).1;obtain ⟨q, c, hq, hr, hb, hc⟩ := h.at hi;rw [hp] at hq;obtain rfl := Option.some.inj hq;refine ⟨c, hr, hb, L.len hr, fun j v hv => ?_, ?_⟩
 ·rw [hc j (by have := (BA.1 hv).1; have := L.len hr; omega)]; exact hv
 ·intro u hu;exact Lay.all_one (L := L) (L.all_single hr) u hu
theorem q1c.isSome (h : q1c L w b off ps) {i : Nat} (hi : i < ps.length) : ∀ j, j < L.n → (w.cell? ⟨b, off + i * L.n + j, none⟩).isSome = true := fun j hj => by
 obtain ⟨c, hr, -, h1, h2, -⟩ := h.look (B7 hi);rw [h2 j c[j] (B7 (by omega))]; rfl
theorem q1j.far {k n : Nat} {cs vs : List Value} (h : q1j w b k n cs) (b2 k2 : Nat) (hd : b ≠ b2) : q1j (w.setCells b2 k2 vs) b k n cs :=
 ⟨h.1, fun j v hv => by rw [World.cell?_of_block (q5n hd vs k2 w)]; exact h.2.1 j v hv, h.2.2⟩
theorem q1c.swap (h : q1c L w b off ps) {i j : Nat} {p q : α × List Nat} (hi : ps[i]? = some p) (hj : ps[j]? = some q) {cp cq : List Value} (rp : L.rep w cp p.1 p.2) (rq : L.rep w cq q.1 q.2) (bp : b ∉ p.2) (bq : b ∉ q.2) :
  q1c L (w.setCells b (off + i * L.n) cq) b off (ps.set i q) ∧ q1c L ((w.setCells b (off + i * L.n) cq).setCells b (off + j * L.n) cp) b off ((ps.set i q).set j p) := by
 have h1 := h.put (i := i) (BA.1 hi).1 rq bq;refine ⟨h1, h1.put (i := j) (by rw [BL]; exact (BA.1 hj).1) (L.keep rp (fun y hy => q5n (fun (e : y = b) => bp (e ▸ hy)) _ _ _)) bp⟩
end
end Go.Proofs.YthhaednigdgclaaGreat
namespace Go.Proofs.YthhaednigdgclaaGreat
open Go.RowKit
open Go.Lib (hid)
theorem q1b : (Tryz.prog.info? 38).map (fun i => i.size) = some 9 := by kernel_rfl
theorem q1d {P : Program} {ρ : Operand → Value} {o : Oper} {w : World} {b k n : Nat} {cs : List Value} {fs : Array Field} (p : Operand) (t : TypeId) (hop : o.op = .load t p) (hp : ρ p = .pointer (some ⟨b, k, none⟩))
  (hi : (P.info? t).map (fun i => i.size) = some n) (hu : P.underlying t = some (.struct fs)) (h : q1j w b k n cs) : (execOp ρ o).run P w = .ok (.value (.agg cs.toArray)) w := by
 obtain ⟨i, Am, AL⟩ := BD.1 hi;have Ar := run_loadCells_list (P := P) (w := w) ⟨b, k, none⟩ cs (fun j v hv => by rw [BU]; exact h.2.1 j v hv);have hsz : cs.length = i.size := by have := h.1; omega
 rw [hsz] at Ar;have Aq : (program : Sem Program).run P w = .ok P w := rfl;unfold execOp;simp only [hop, hp, Instr.loadAt, Instr.sureAddr, loadVar, isAgg, run_underlying hu, sizeOf, typeInfo, Sem.run_bind, Sem.run_pure, Result.andThen_ok, Aq, Am, if_true, Ar]
theorem q3h {P : Program} {ops : Array Oper} {o : Oper} {a : Act} {Kc : Act → World → Prop} {Q : Exit → Act → World → Prop} {R : Prop} {w : World} {b k n : Nat} {cs : List Value} (hgd : o.guard = none) (p v : Operand) (t : TypeId)
  (hop : o.op = .store t p v) (hp : a.eval p = .pointer (some ⟨b, k, none⟩)) (hv : a.eval v = .agg cs.toArray) (hi : (P.info? t).map (fun i => i.size) = some n)
  (hc : ∀ j, j < n → (w.cell? ⟨b, k + j, none⟩).isSome = true) (hf : ∀ j, w.frozen? ⟨b, j, none⟩ = false) (hs : cs.length = n) (Ag : ∀ u ∈ cs, u.oneCell' = true)
  (hk : Kc (a.put o.dst undef) (w.setCells b k cs)) : if Region.wanted o (yielded ops a.tmps) = true then Oper.wp P o a w Kc Q else R := by
 have hw : Region.wanted o (yielded ops a.tmps) = true := by simp [Region.wanted, hgd]
 rw [if_pos hw];exact store_row p v t hop hp hv hi hc hf hs Ag hk
abbrev RP := Rec × List Nat
section
variable {w w' : World} {b off : Nat} {ps : List RP}
theorem q1n (h : q1c recL w b off ps) {i : Nat} {p : RP} (hp : ps[i]? = some p) : ∃ c : List Value, recL.rep w c p.1 p.2 ∧ b ∉ p.2 ∧ q1j w b (off + i * 9) 9 c := h.look hp
theorem q8p (h : q1c recL w b off ps) {i j : Nat} {p q : RP} (hi : ps[i]? = some p) (hj : ps[j]? = some q) {cp cq : List Value} (rp : recL.rep w cp p.1 p.2) (rq : recL.rep w cq q.1 q.2) (bp : b ∉ p.2) (bq : b ∉ q.2) :
  q1c recL (w.setCells b (off + i * 9) cq) b off (ps.set i q) ∧ q1c recL ((w.setCells b (off + i * 9) cq).setCells b (off + j * 9) cp) b off ((ps.set i q).set j p) := h.swap hi hj rp rq bp bq
theorem q4l (h : q1c recL w b off ps) {i : Nat} (hi : i < ps.length) : ∀ j, j < 9 → (w.cell? ⟨b, off + i * 9 + j, none⟩).isSome = true := h.isSome hi
theorem q4v (h : q1c recL w b off ps) : q1c recL w.drew b off ps := h.ext (Chg.refl [] w).drew
theorem chg_sw {W0 : World} {k1 k2 : Nat} {c1 c2 : List Value} (h : Chg [b] W0 w) : Chg [b] W0 ((w.drew.setCells b k1 c1).setCells b k2 c2) := Chg.setCells (.inl (by simp)) _ _ (Chg.setCells (.inl (by simp)) _ _ h.drew)
end
theorem q9a (b off n cap A B k : Nat) (ps : List RP) (fv : Value) (w : World) (hr : q1c recL w b off ps) (hn : n = ps.length) (hm : n ≤ 1000000) (hab : A + k ≤ B) (hb : B + k ≤ n) :
  Calls Tryz.prog 145 #[Aa (some ⟨b, off, none⟩) n cap, I J A, I J B, I J k, fv] w fun e w' => e = .returned (.tuple #[]) ∧ ∃ ps', q1c recL w' b off ps' ∧ SwR ps ps' A B k ∧ Chg [b] w w' := by
 have HR := hid hr; have HN := hid hn;clear hr hn;go_enter Tryz.func145, Tryz.ntmps145;go_wp2_with fail;go_loopw [10] (fun vi wr => ∃ (i : Nat) (ps' : List RP) (Wr : World), Wr = wr ∧ i ≤ k ∧ vi = I J i ∧ q1c recL wr b off ps' ∧ Hid (SwR ps ps' A B i) ∧ Chg [b] w wr) (fun vi _ => k - (intOf vi).toNat)
 case atStart => exact ⟨0, ps, _, rfl, by omega, rfl, HR.o, SwR.zero _ _ _, Chg.refl _ _⟩
 case round =>
  obtain ⟨i, ps', wr, rfl, hi, rfl, hrow, Bn, hch⟩ := hrel;have Ai := hid hch;by_cases hlt : i < k
  ·have hpl : ps'.length = n := by rw [Bn.o.1]; exact HN.o.symm
   obtain ⟨p, hp⟩ : ∃ p, ps'[A + i]? = some p := ⟨_, B7 (by omega)⟩;obtain ⟨q, hq⟩ : ∃ q, ps'[B + i]? = some q := ⟨_, B7 (by omega)⟩;have Ah := q4v hrow;obtain ⟨x, hx⟩ : ∃ x, x = A + i := ⟨_, rfl⟩;obtain ⟨y, hy⟩ : ∃ y, y = B + i := ⟨_, rfl⟩;have hwx : IntKind.i64.wrap ((A : Int) + (i : Int)) = (x : Int) := by rw [Ca _ ⟨by omega, by omega⟩]; omega
   have hwy : IntKind.i64.wrap ((B : Int) + (i : Int)) = (y : Int) := by rw [Ca _ ⟨by omega, by omega⟩]; omega
   have h1 : x < n := by omega
   have h2 : y < n := by omega
   rw [← hx] at hp; rw [← hy] at hq;have HXY := hid (B5 hx hy);clear hch hrow hx hy;go_wp2_with fail;obtain ⟨cp, rp, bp, kp⟩ := q1n Ah hp;obtain ⟨cq, rq, bq, kq⟩ := q1n Ah hq;have A9 := hid (q8p Ah hp hq rp rq bp bq);have Ak := hid Ah; have Ay := hid (B5 hp hq); have AG := hid kp; have AE := hid kq;clear rp rq bp bq kp kq hp hq Ah;obtain ⟨CC, Ap, Au⟩ := q0f (fun w' => q1j w' b (off + (x) * 9) 9 cp ∧ q1j w' b (off + (y) * 9) 9 cq);refine q1l [21, 23] CC (by kernel_rfl) (Ap.o _ ⟨AG.o, AE.o⟩) (fun Ae hS => ?_);refine ggT 0 Ae hS ?_; clear Ae hS; intro Ae hS;refine ggT 1 Ae hS ?_; clear Ae hS; intro Ae hS;refine ggT 2 Ae hS ?_; clear Ae hS; intro Ae hS;refine ggT 3 Ae hS ?_; clear Ae hS; intro Ae hS;refine ggT 4 Ae hS ?_; clear Ae hS; intro Ae hS;refine ggT 5 Ae hS ?_; clear Ae hS; intro Ae hS;refine ggT 6 Ae hS ?_; clear Ae hS; intro Ae hS;refine ggT 7 Ae hS ?_; clear Ae hS; intro Ae hS;refine ggT 8 Ae hS ?_; clear Ae hS; intro Ae hS;refine ggT 9 Ae hS ?_; clear Ae hS; intro Ae hS;refine ggT 10 Ae hS ?_; clear Ae hS; intro Ae hS;refine ggT 11 Ae hS ?_; clear Ae hS; intro Ae hS;refine ggT 12 Ae hS ?_; clear Ae hS; intro Ae hS;refine ggL 13 Ae hS Au ?_ (hy := fun w' hw => q1d _ 38 rfl rfl q1b Tryz.underlying38 hw.2); clear Ae hS; intro Ae hS;refine ggT 14 Ae hS ?_; clear Ae hS; intro Ae hS;refine ggT 15 Ae hS ?_; clear Ae hS; intro Ae hS;refine ggT 16 Ae hS ?_; clear Ae hS; intro Ae hS;refine ggT 17 Ae hS ?_; clear Ae hS; intro Ae hS;refine ggT 18 Ae hS ?_; clear Ae hS; intro Ae hS;refine ggL 19 Ae hS Au ?_ (hy := fun w' hw => q1d _ 38 rfl rfl q1b Tryz.underlying38 hw.1); clear Ae hS; intro Ae hS;refine ggT 20 Ae hS ?_; clear Ae hS; intro Ae hS;refine ggq 21 Ae (fun K hK => ?_);refine q3h (cs := cq) rfl _ _ 38 rfl rfl rfl q1b (q4l Ak.o (i := x) (by first | omega | (rw [BL]; omega))) (q1c.free Ak.o) AE.o.1 AE.o.2.2 ?_;refine hK.out _ _ (Till.done (m := 21) (by simp) (by rfl)) ?_;clear hK K Ae hS;intro Ae hS;try simp only [BF]
   refine ggT 22 Ae hS ?_; clear Ae hS; intro Ae hS;refine ggq 23 Ae (fun K hK => ?_);refine q3h (cs := cp) rfl _ _ 38 rfl rfl rfl q1b (q4l A9.o.1 (i := y) (by first | omega | (rw [BL]; omega))) (q1c.free A9.o.1) AG.o.1 AG.o.2.2 ?_;refine hK.out _ _ (Till.done (m := 21) (by simp) (by rfl)) ?_;clear hK K Ae hS;intro Ae hS;try simp only [BF]
   refine q3m (by kernel_rfl) ?_ _;go_wp2_with fail;go_roundw
   case rel => exact ⟨i + 1, _, _, rfl, by omega, by go_num, A9.o.2, by obtain ⟨rfl, rfl⟩ := HXY.o; exact Bn.o.next (by omega) Ay.o.1 Ay.o.2, chg_sw Ai.o⟩
   case measure => simp [intOf]; omega
  ·obtain rfl : i = k := by omega
   have Av := hid hrow;clear hch hrow;go_wp2_with fail;go_end0;exact ⟨rfl, ps', Av.o, Bn.o, Ai.o⟩
theorem rotR_any (b off n cap A m B : Nat) (X U V Y : List RP) (fv : Value) (w : World) (hr : q1c recL w b off (X ++ (U ++ (V ++ Y)))) (hn : n = (X ++ (U ++ (V ++ Y))).length) (hm : n ≤ 1000000) (hX : X.length = A) (hU : A + U.length = m) (hV : m + V.length = B) (hU1 : A < m) (hV1 : m < B) :
  Calls Tryz.prog 143 #[Aa (some ⟨b, off, none⟩) n cap, I J A, I J m, I J B, fv] w fun e w' => e = .returned (.tuple #[]) ∧ q1c recL w' b off (X ++ (V ++ (U ++ Y))) ∧ Chg [b] w w' := by
 have hBn : B ≤ n := by rw [hn]; simp only [BI]; omega
 have HR := hid (show RotR m (X ++ (V ++ (U ++ Y))) (X ++ (U ++ (V ++ Y))) (m - A) (B - m) from ⟨X, U, V, Y, rfl, by omega, by omega, by omega, rfl⟩);have Bj : (X ++ (V ++ (U ++ Y))).length = n := by rw [hn]; simp only [BI]; omega
 generalize X ++ (V ++ (U ++ Y)) = G at HR Bj ⊢;generalize X ++ (U ++ (V ++ Y)) = ps at hr hn HR;have Bp := hid hr; have HN := hid hn; have HG := hid Bj;clear hr hn hX hU hV Bj;obtain ⟨i0, hi0⟩ : ∃ i0, i0 = m - A := ⟨_, rfl⟩;obtain ⟨j0, hj0⟩ : ∃ j0, j0 = B - m := ⟨_, rfl⟩;rw [← hi0, ← hj0] at HR;have hz1 : (m : Int) - (A : Int) = (i0 : Int) := by omega
 have hz2 : (B : Int) - (m : Int) = (j0 : Int) := by omega
 have hb1 : 1 ≤ i0 ∧ 1 ≤ j0 ∧ i0 ≤ m ∧ m + j0 ≤ n := by omega
 have HB1 := hid hb1;clear hi0 hj0 hb1;go_enter Tryz.func143, Tryz.ntmps143;go_wp2_with fail;go_loopw [10, 11] (fun vi vj wr => ∃ (i j : Nat) (ps' : List RP) (Wr : World), Wr = wr ∧ 1 ≤ i ∧ 1 ≤ j ∧ i ≤ m ∧ m + j ≤ n ∧ vi = I J i ∧ vj = I J j ∧ ps'.length = n ∧ q1c recL wr b off ps' ∧ Hid (RotR m G ps' i j) ∧ Chg [b] w wr) (fun vi vj _ => (intOf vi).toNat + (intOf vj).toNat)
 case atStart =>
  have := HB1.o;exact ⟨i0, j0, ps, _, rfl, by omega, by omega, by omega, by omega, by go_num, by go_num, HN.o.symm, Bp.o, HR, Chg.refl _ _⟩
 case round =>
  obtain ⟨i, j, ps', wr, rfl, Am, hj1, him, hjn, rfl, rfl, hpl, hrow, Bq, hch⟩ := hrel;have Ai := hid hch; have Av := hid hrow;obtain ⟨x, hx⟩ : ∃ x, x = m - i := ⟨_, rfl⟩;have hwx : (m : Int) - (i : Int) = (x : Int) := by omega
  have HX := hid hx;clear hch hrow;rcases Nat.lt_trichotomy j i with AQ | AQ | AQ
  ·have HS := hid (q9a b off n cap x m j ps' fv wr Av.o hpl.symm hm (by omega) (by omega));have hne : ((i : Int) != (j : Int)) = true := by rw [bne_iff_ne]; omega
   have hgt : (j : Int) < (i : Int) := by omega
   have hd : (i : Int) - (j : Int) = ((i - j : Nat) : Int) := by omega
   clear hx;go_wp2_with fail;refine HS.o.mono ?_;rintro e w2 ⟨rfl, AY, hr2, hs2, hc2⟩;have Aj := hid (Bq.o.left AQ (by rw [← HX.o]; exact hs2)); have Bt := hid (hs2.1.trans hpl); have AU := hid hr2; have AX := hid (Ai.o.trans hc2 (fun y hy => .inl hy));clear hr2 hs2 hc2;go_wp2_with fail;go_roundw
   case rel => exact ⟨i - j, j, AY, _, rfl, by omega, by omega, by omega, by omega, by go_num, rfl, Bt.o, AU.o, Aj, AX.o⟩
   case measure => simp [intOf]; omega
  ·subst AQ;have HS := hid (q9a b off n cap x m j ps' fv wr Av.o hpl.symm hm (by omega) (by omega));have hne : ((j : Int) != (j : Int)) = false := by simp
   clear hx;go_wp2_with fail;refine HS.o.mono ?_;rintro e w2 ⟨rfl, AY, hr2, hs2, hc2⟩;have e2 := Bq.o.last (by rw [← HX.o]; exact hs2);have AU := hid hr2; have AX := hid (Ai.o.trans hc2 (fun y hy => .inl hy)); have HE2 := hid e2;clear hr2 hs2 hc2 e2;go_wp2_with fail;go_end0;exact ⟨rfl, by rw [← HE2.o]; exact AU.o, AX.o⟩
  ·obtain ⟨y, hy⟩ : ∃ y, y = m + j - i := ⟨_, rfl⟩;have hwy : (m : Int) + (j : Int) - (i : Int) = (y : Int) := by omega
   have HS := hid (q9a b off n cap x y i ps' fv wr Av.o hpl.symm hm (by omega) (by omega));have hne : ((i : Int) != (j : Int)) = true := by rw [bne_iff_ne]; omega
   have hgt : ¬ (j : Int) < (i : Int) := by omega
   have hd : (j : Int) - (i : Int) = ((j - i : Nat) : Int) := by omega
   have HY := hid hy;clear hx hy;go_wp2_with fail;refine HS.o.mono ?_;rintro e w2 ⟨rfl, AY, hr2, hs2, hc2⟩;have Aj := hid (Bq.o.right AQ (by rw [← HX.o, ← HY.o]; exact hs2)); have Bt := hid (hs2.1.trans hpl); have AU := hid hr2; have AX := hid (Ai.o.trans hc2 (fun y hy => .inl hy));clear hr2 hs2 hc2;go_wp2_with fail;go_roundw
   case rel => exact ⟨i, j - i, AY, _, rfl, by omega, by omega, by omega, by omega, rfl, by go_num, Bt.o, AU.o, Aj, AX.o⟩
   case measure => simp [intOf]; omega
def q1z (x y : Rec) : Bool := decide (x.seq < y.seq ∨ x.seq = y.seq ∧ (x.kD < y.kD ∨ x.kD = y.kD ∧ x.gP < y.gP))
def ltP (p q : RP) : Bool := q1z p.1 q.1
theorem q3f : Ordr ltP := by
 refine ⟨fun x => ?_, fun x y z h k => ?_, fun x y z h k => ?_⟩ <;> simp only [ltP, q1z, decide_eq_true_eq, decide_eq_false_iff_not] at * <;> omega
def CmpOK : Prop := ∀ (w : World) (cx cy : List Value) (x y : Rec) (fx fy : List Nat), recL.rep w cx x fx → recL.rep w cy y fy → Calls Tryz.prog 96 #[.agg cx.toArray, .agg cy.toArray] w fun e w' => ∃ r : Int, e = .returned (I J r) ∧ Hid (decide (r < 0) = q1z x y) ∧ Chg [] w w'
theorem cmp_r {p q : RP} {r : Int} {v : Bool} (hl : ltP p q = v) (h : Hid (decide (r < 0) = q1z p.1 q.1)) : decide (r < 0) = v := h.out.trans hl
theorem q1j.ext {w w' : World} {b k n : Nat} {cs : List Value} (h : q1j w b k n cs) (hc : Chg [] w w') (hb : b < w.heap.size) : q1j w' b k n cs := ⟨h.1, fun j v hv => (hc.facts.1 b _ hb).trans (h.2.1 j v hv), h.2.2⟩
theorem thru_full {X S Y : List RP} {x : RP} {k : Nat} (hk : k = S.length) : thru X S Y x k = X ++ (S ++ (x :: Y)) := by
 subst hk;unfold thru;rw [List.take_length, List.drop_length]; rfl
theorem ins_end {X S Y Z0 : List RP} {x : RP} {k : Nat} (hs : Srt ltP S) (hb : Stab ltP Z0 S) (h1 : ∀ y ∈ S.drop k, ltP x y = true) (h2 : ∀ y ∈ S.take k, ltP x y = false) : ∃ S', thru X S Y x k = X ++ (S' ++ Y) ∧ Srt ltP S' ∧ Stab ltP (Z0 ++ [x]) S' :=
 ⟨S.take k ++ (x :: S.drop k), by unfold thru; simp, q7z q3f hs h1 h2, (hb.app (Stab.refl [x])).trans (q6j q3f h1)⟩
theorem ins_stop {S : List RP} {x : RP} {k : Nat} (hs : Srt ltP S) (hk : k < S.length) (h : ltP x S[k] = false) : ∀ y ∈ S.take (k + 1), ltP x y = false := fun y hy => by
 obtain ⟨i, hi, rfl⟩ := List.getElem_of_mem hy;rw [BO] at hi;rw [List.getElem_take];exact q3f.le_trans (Srt.at q3f hs (show i ≤ k by omega) (B7 (by omega)) (B7 hk)) h
theorem ins_go {S : List RP} {x : RP} {k : Nat} (hk : k < S.length) (h : ∀ y ∈ S.drop (k + 1), ltP x y = true) (h2 : ltP x S[k] = true) : ∀ y ∈ S.drop k, ltP x y = true := fun y hy => by
 rw [BQ hk] at hy;rcases Ce.1 hy with rfl | hy
 ·exact h2
 ·exact h y hy
theorem insR_any (b off n cap A B : Nat) (X Z Y : List RP) (w : World) (AW : Hid CmpOK) (hr : q1c recL w b off (X ++ (Z ++ Y))) (hn : n = (X ++ (Z ++ Y)).length) (hm : n ≤ 1000000) (hX : X.length = A) (hZ : A + Z.length = B) :
  Calls Tryz.prog 119 #[Aa (some ⟨b, off, none⟩) n cap, I J A, I J B, .func (.func 96) #[] #[]] w fun e w' => e = .returned (.tuple #[]) ∧ ∃ S, q1c recL w' b off (X ++ (S ++ Y)) ∧ Srt ltP S ∧ Stab ltP Z S ∧ Chg [b] w w' := by
 have hBn : B ≤ n := by rw [hn]; simp only [BI]; omega
 have hLN : n = A + (Z.length + Y.length) := by rw [hn]; simp only [BI]; omega
 have hAn : A ≤ n := by omega
 have HR := hid hr; have HX := hid hX; have HLN := hid hLN; have HZ := hid hZ;clear hr hn hLN;by_cases hz : Z.length = 0
 ·have hlt : ¬ (A : Int) + 1 < (B : Int) := by omega
  have HE := hid (BJ hz);clear hX hZ hz;go_enter Tryz.func119, Tryz.ntmps119;go_wp2_with fail;go_loopw [8] (fun vi wr => vi = I J ((A : Int) + 1) ∧ wr = w) (fun _ _ => 0)
  case atStart => exact ⟨by go_num, rfl⟩
  case round =>
  obtain ⟨rfl, rfl⟩ := hrel;go_wp2_with fail;go_end0;exact ⟨rfl, [], by rw [← HE.o]; exact HR.o, List.Pairwise.nil, by rw [HE.o]; exact Stab.refl _, Chg.refl _ _⟩
 ·have hAB : A + 1 ≤ B := by omega
  clear hX hZ hz;go_enter Tryz.func119, Tryz.ntmps119;go_wp2_with fail;go_loopw [8] (fun vi wr => ∃ (i : Nat) (S : List RP) (Wr : World), Wr = wr ∧ A + 1 ≤ i ∧ i ≤ B ∧ vi = I J i ∧ q1c recL wr b off (X ++ (S ++ (Z.drop (i - A) ++ Y))) ∧ Hid (Srt ltP S ∧ Stab ltP (Z.take (i - A)) S) ∧ Chg [b] w wr) (fun vi _ => B - (intOf vi).toNat)
  case atStart =>
   refine ⟨A + 1, Z.take 1, _, rfl, by omega, by omega, by go_num, ?_, ⟨?_, ?_⟩, Chg.refl _ _⟩
   ·rw [BV, ← List.append_assoc (Z.take 1), List.take_append_drop]; exact HR.o
   ·cases Z with
    | nil => exact List.Pairwise.nil
    | cons z Z => simp; exact List.pairwise_singleton _ _
   ·rw [BV]; exact Stab.refl _
  case round =>
   obtain ⟨i, S, wr, rfl, Am, AL, rfl, hrow, Ax, hch⟩ := hrel;have Ai := hid hch;by_cases hlt : i < B
   ·have hzl : i - A < Z.length := by have := HZ.o; omega
    obtain ⟨x, hx⟩ : ∃ x, x = Z[i - A] := ⟨_, rfl⟩;obtain ⟨Y', AZ⟩ : ∃ Y', Y' = Z.drop (i - A + 1) ++ Y := ⟨_, rfl⟩;have hsl : S.length = i - A := by have := Ax.o.2.1; rw [BO] at this; omega
    have e0 : Z.drop (i - A) ++ Y = x :: Y' := by rw [BQ hzl, hx, AZ]; rfl
    rw [e0, ← thru_full (Y := Y') hsl.symm] at hrow;have Av := hid hrow; have Bb := hid hsl; have HY' := hid AZ;have HXE := hid (show Z[i - A]? = some x by rw [B7 hzl, hx]);have hpn : A + (i - A) + 1 + Y'.length = n := by have := HLN.o; rw [AZ, BI, List.length_drop]; omega
    have HPN := hid hpn;clear hch hrow hx AZ hsl e0 hzl hpn;go_wp2_with fail;go_loopw [9] (fun vj wq => ∃ (j : Nat) (Wq : World), Wq = wq ∧ A ≤ j ∧ j ≤ i ∧ vj = I J j ∧ q1c recL wq b off (thru X S Y' x (j - A)) ∧ Hid (∀ y ∈ S.drop (j - A), ltP x y = true) ∧ Chg [b] w wq) (fun vj _ => (intOf vj).toNat)
    case atStart => exact ⟨i, _, rfl, by omega, by omega, rfl, Av.o, hid (show ∀ y ∈ S.drop (i - A), ltP x y = true from fun y hy => by rw [BN (by have := Bb.o; omega)] at hy; cases hy), Ai.o⟩
    case round =>
     clear Ai Av;obtain ⟨j, wq, rfl, hj1, hj2, rfl, hrow, Bw, hch⟩ := hrel;have Ai := hid hch;have hln : (thru X S Y' x (j - A)).length = n := by rw [q6y, HX.o, Bb.o]; exact HPN.o
     by_cases hja : A < j
     ·have hjk : j - A - 1 < S.length := by have := Bb.o; omega
      have hk : j - A = (j - A - 1) + 1 := by omega
      obtain ⟨q, Bh⟩ : ∃ q, q = S[j - A - 1] := ⟨_, rfl⟩;have hp : (thru X S Y' x (j - A))[j]? = some x := by
       have := thru_at (A := X) (S := S) (B := Y') (x := x) (k := j - A) (by have := Bb.o; omega)
       rwa [HX.o, show A + (j - A) = j by omega] at this
      have hq : (thru X S Y' x (j - A))[j - 1]? = some q := by
       have := thru_prev (A := X) (B := Y') (x := x) hjk;rw [← hk, HX.o, show A + (j - A - 1) = j - 1 by omega] at this;rw [this, Bh]
      have Ah := q4v hrow;have AD := hid hrow;have hgt : (A : Int) < (j : Int) := by omega
      obtain ⟨y, hy⟩ : ∃ y, y = j - 1 := ⟨_, rfl⟩;have hwy : IntKind.i64.wrap ((j : Int) - 1) = (y : Int) := by rw [Ca _ ⟨by omega, by omega⟩]; omega
      have h1 : j < n := by omega
      have h2 : y < n := by omega
      rw [← hy] at hq;have HY := hid hy; have HQE := hid (show S[j - A - 1]? = some q by rw [B7 hjk, Bh]); have Bu := hid hk;clear hch hrow hy Bh hk;cases hl : ltP x q
      ·have HNL := hid hl;go_wp2_with fail;obtain ⟨c1, r1, -, k1⟩ := q1n Ah hp;obtain ⟨c2, r2, -, k2⟩ := q1n Ah hq;have HK := hid (B5 k1 k2); have Ak := hid Ah; have Ay := hid (B5 hp hq); have Be := hid (AW.o _ _ _ _ _ _ _ r1 r2);clear r1 r2 k1 k2 hp hq Ah;obtain ⟨SS, AB, AO⟩ := q0f (fun w' => q1j w' b (off + (j) * 9) 9 c1 ∧ q1j w' b (off + (y) * 9) 9 c2);have Af := AB.o _ HK.o;refine q0g SS (by kernel_rfl) Af ?_;refine rgT 0 Af ?_;refine rgT 1 Af ?_;refine rgT 2 Af ?_;refine rgT 3 Af ?_;refine rgT 4 Af ?_;refine rgT 5 Af ?_;refine rgT 6 Af ?_;refine rgT 7 Af ?_;refine rgL 8 Af AO ?_ (hy := fun w' hw => q1d _ 38 rfl rfl q1b Tryz.underlying38 hw.1);refine rgT 9 Af ?_;refine rgT 10 Af ?_;refine rgT 11 Af ?_;refine rgT 12 Af ?_;refine rgL 13 Af AO ?_ (hy := fun w' hw => q1d _ 38 rfl rfl q1b Tryz.underlying38 hw.2);refine rgq 14 (fun K hK => ?_);go_simp;go_at_call 96;refine Be.o.mono ?_;rintro e w1 ⟨r, rfl, AP, hc1⟩;have hr0 := cmp_r hl AP;have Br := hid (Ak.o.ext hc1); have AH := hid (Ai.o.drew.trans0 hc1); have Bg := hid (B5 (HK.o.1.ext hc1 Ak.o.lt) (HK.o.2.ext hc1 Ak.o.lt));clear hc1 AP;go_wp2_with fail;refine hK.out _ _ (AB.o _ Bg.o) (fun hS1 => ?_);clear hK K;try simp only [BF, pA, pB, pC]
       refine rgT 15 hS1 ?_;refine rgT 16 hS1 ?_;refine wDn ?_;go_wp2_with fail;have hend := ins_end (X := X) (Y := Y') (k := j - A) Ax.o.1 Ax.o.2 Bw.o (by
        have e := (BA.1 HQE.o).2;have := ins_stop Ax.o.1 hjk (x := x) (by rw [e]; exact HNL.o)
        rwa [← Bu.o] at this)
       obtain ⟨S', e1, s1, b1⟩ := hend;have hrow2 := Br.o;rw [e1, HY'.o] at hrow2;rw [← q1e HXE.o, show i - A + 1 = i + 1 - A by omega] at b1;rw [show i - A + 1 = i + 1 - A by omega] at hrow2;have AC := hid hrow2; have AA := hid (B5 s1 b1);clear e1 s1 b1 hrow2;go_wp2_with fail;go_roundw
       case rel => exact ⟨i + 1, S', _, rfl, by omega, by omega, by go_num, AC.o, AA, AH.o⟩
       case measure => simp [intOf]; omega
      ·have HL1 := hid hl;go_wp2_with fail;obtain ⟨c1, r1, -, k1⟩ := q1n Ah hp;obtain ⟨c2, r2, -, k2⟩ := q1n Ah hq;have HK := hid (B5 k1 k2); have Ak := hid Ah; have Ay := hid (B5 hp hq); have Be := hid (AW.o _ _ _ _ _ _ _ r1 r2);clear r1 r2 k1 k2 hp hq Ah;obtain ⟨SS, AB, AO⟩ := q0f (fun w' => q1j w' b (off + (j) * 9) 9 c1 ∧ q1j w' b (off + (y) * 9) 9 c2);have Af := AB.o _ HK.o;refine q0g SS (by kernel_rfl) Af ?_;refine rgT 0 Af ?_;refine rgT 1 Af ?_;refine rgT 2 Af ?_;refine rgT 3 Af ?_;refine rgT 4 Af ?_;refine rgT 5 Af ?_;refine rgT 6 Af ?_;refine rgT 7 Af ?_;refine rgL 8 Af AO ?_ (hy := fun w' hw => q1d _ 38 rfl rfl q1b Tryz.underlying38 hw.1);refine rgT 9 Af ?_;refine rgT 10 Af ?_;refine rgT 11 Af ?_;refine rgT 12 Af ?_;refine rgL 13 Af AO ?_ (hy := fun w' hw => q1d _ 38 rfl rfl q1b Tryz.underlying38 hw.2);refine rgq 14 (fun K hK => ?_);go_simp;go_at_call 96;refine Be.o.mono ?_;rintro e w1 ⟨r, rfl, AP, hc1⟩;have hr0 := cmp_r hl AP;have Br := hid (Ak.o.ext hc1); have AH := hid (Ai.o.drew.trans0 hc1); have Bg := hid (B5 (HK.o.1.ext hc1 Ak.o.lt) (HK.o.2.ext hc1 Ak.o.lt));clear hc1 AP;go_wp2_with fail;refine hK.out _ _ (AB.o _ Bg.o) (fun hS1 => ?_);clear hK K;try simp only [BF, pA, pB, pC]
       refine rgT 15 hS1 ?_;refine rgT 16 hS1 ?_;refine wDn ?_;go_wp2_with fail;have hp := Ay.o.1; have hq := Ay.o.2;have Ah := q4v Br.o;clear Ak HK Ay Be Bg AD Ai;have Ai := AH;obtain ⟨cp, rp, bp, kp⟩ := q1n Ah hp;obtain ⟨cq, rq, bq, kq⟩ := q1n Ah hq;have A9 := hid (q8p Ah hp hq rp rq bp bq);have Ak := hid Ah; have Ay := hid (B5 hp hq); have AG := hid kp; have AE := hid kq;clear rp rq bp bq kp kq hp hq Ah;obtain ⟨CC, Ap, Au⟩ := q0f (fun w' => q1j w' b (off + (j) * 9) 9 cp ∧ q1j w' b (off + (y) * 9) 9 cq);refine q1l [15, 17] CC (by kernel_rfl) (Ap.o _ ⟨AG.o, AE.o⟩) (fun Ae hS => ?_);refine ggT 0 Ae hS ?_; clear Ae hS; intro Ae hS;refine ggT 1 Ae hS ?_; clear Ae hS; intro Ae hS;refine ggT 2 Ae hS ?_; clear Ae hS; intro Ae hS;refine ggT 3 Ae hS ?_; clear Ae hS; intro Ae hS;refine ggT 4 Ae hS ?_; clear Ae hS; intro Ae hS;refine ggT 5 Ae hS ?_; clear Ae hS; intro Ae hS;refine ggT 6 Ae hS ?_; clear Ae hS; intro Ae hS;refine ggT 7 Ae hS ?_; clear Ae hS; intro Ae hS;refine ggT 8 Ae hS ?_; clear Ae hS; intro Ae hS;refine ggL 9 Ae hS Au ?_ (hy := fun w' hw => q1d _ 38 rfl rfl q1b Tryz.underlying38 hw.2); clear Ae hS; intro Ae hS;refine ggT 10 Ae hS ?_; clear Ae hS; intro Ae hS;refine ggT 11 Ae hS ?_; clear Ae hS; intro Ae hS;refine ggT 12 Ae hS ?_; clear Ae hS; intro Ae hS;refine ggL 13 Ae hS Au ?_ (hy := fun w' hw => q1d _ 38 rfl rfl q1b Tryz.underlying38 hw.1); clear Ae hS; intro Ae hS;refine ggT 14 Ae hS ?_; clear Ae hS; intro Ae hS;refine ggq 15 Ae (fun K hK => ?_);refine q3h (cs := cq) rfl _ _ 38 rfl rfl rfl q1b (q4l Ak.o (i := j) (by first | omega | (rw [BL]; omega))) (q1c.free Ak.o) AE.o.1 AE.o.2.2 ?_;refine hK.out _ _ (Till.done (m := 15) (by simp) (by rfl)) ?_;clear hK K Ae hS;intro Ae hS;try simp only [BF]
       refine ggT 16 Ae hS ?_; clear Ae hS; intro Ae hS;refine ggq 17 Ae (fun K hK => ?_);refine q3h (cs := cp) rfl _ _ 38 rfl rfl rfl q1b (q4l A9.o.1 (i := y) (by first | omega | (rw [BL]; omega))) (q1c.free A9.o.1) AG.o.1 AG.o.2.2 ?_;refine hK.out _ _ (Till.done (m := 15) (by simp) (by rfl)) ?_;clear hK K Ae hS;intro Ae hS;try simp only [BF]
       refine q3m (by kernel_rfl) ?_ _;go_wp2_with fail;have e := (BA.1 HQE.o).2;have hrow3 := A9.o.2;have Bl := thru_down (A := X) (B := Y') (x := x) hjk;rw [← Bu.o, HX.o, e, show A + (j - A - 1) + 1 = j by omega, show A + (j - A - 1) = y by have := HY.o; omega] at Bl;rw [Bl, show j - A - 1 = y - A by have := HY.o; omega] at hrow3;have Bo := hid hrow3; have Bz := hid (chg_sw (k1 := off + j * 9) (k2 := off + y * 9) (c1 := cq) (c2 := cp) Ai.o);have Bv := hid (show ∀ z ∈ S.drop (y - A), ltP x z = true by
        have := ins_go hjk (x := x) (by rw [← Bu.o]; exact Bw.o) (by rw [e]; exact HL1.o)
        rwa [show j - A - 1 = y - A by have := HY.o; omega] at this)
       have hyy := HY.o;clear hrow3 Bl e;go_roundw
       case rel => exact ⟨y, _, rfl, by omega, by omega, by go_num, Bo.o, Bv, Bz.o⟩
       case measure => simp [intOf]; omega
     ·have hle : ¬ (A : Int) < (j : Int) := by omega
      obtain rfl : j = A := by omega
      have AD := hid hrow;clear hch hrow;go_wp2_with fail;obtain ⟨SS, AB, AO⟩ := q0f (fun _ : World => True);have Af := AB.o wq.drew trivial;refine q0g SS (by kernel_rfl) Af ?_;refine rgT 0 Af ?_;refine rgT 1 Af ?_;refine rgT 2 Af ?_;refine rgT 3 Af ?_;refine rgS 4 Af ?_;refine rgS 5 Af ?_;refine rgS 6 Af ?_;refine rgS 7 Af ?_;refine rgS 8 Af ?_;refine rgS 9 Af ?_;refine rgS 10 Af ?_;refine rgS 11 Af ?_;refine rgS 12 Af ?_;refine rgS 13 Af ?_;refine rgS 14 Af ?_;refine rgS 15 Af ?_;refine rgT 16 Af ?_;refine wDn ?_;go_wp2_with fail;have hend := ins_end (X := X) (Y := Y') (k := j - j) Ax.o.1 Ax.o.2 Bw.o (fun z hz => by rw [Ch, Cp] at hz; cases hz);obtain ⟨S', e1, s1, b1⟩ := hend;have hrow2 := q4v AD.o;rw [e1, HY'.o] at hrow2;rw [← q1e HXE.o, show i - j + 1 = i + 1 - j by omega] at b1;rw [show i - j + 1 = i + 1 - j by omega] at hrow2;have AC := hid hrow2; have AA := hid (B5 s1 b1); have Bz := hid Ai.o.drew;clear e1 s1 b1 hrow2;go_wp2_with fail;go_roundw
      case rel => exact ⟨i + 1, S', _, rfl, by omega, by omega, by go_num, AC.o, AA, Bz.o⟩
      case measure => simp [intOf]; omega
   ·obtain rfl : i = B := by omega
    have hzz : Z.length = i - A := by have := HZ.o; omega
    rw [BN (by omega), List.nil_append] at hrow;have Av := hid hrow; have HST := hid (show Stab ltP Z S by have := Ax.o.2; rwa [BW (by omega)] at this);clear hch hrow hzz;go_wp2_with fail;go_end0;exact ⟨rfl, S, Av.o, Ax.o.1, HST.o, Ai.o⟩
end Go.Proofs.YthhaednigdgclaaGreat
namespace Go.Proofs.YthhaednigdgclaaGreat
open Go.RowKit
open Go.Lib (hid)
section
variable {P : Program} {ops : Array Oper} {Q : Exit → Act → World → Prop} {md : Region.Mode} {S : World → Prop} {fuel : Nat} {listed : Array Bool} {a : Act} {w : World}
theorem q4k (i j : Nat) {oi oj : Oper} (hi : ops.toList[i]? = some oi) (hj : ops.toList[j]? = some oj) (hr : Region.ready md ops listed = [i, j])
  (h : ∀ K' : Act → World → Prop, Shut (∀ a w, S w → (S w → wpAnyH P md ops Q S fuel (listed.setIfInBounds i true) a w) → K' a w) → if Region.wanted oi (yielded ops a.tmps) = true then Oper.wp P oi a w K' Q else K' (a.put oi.dst undef) w)
  (h2 : ∀ K' : Act → World → Prop, Shut (∀ a w, S w → (S w → wpAnyH P md ops Q S fuel (listed.setIfInBounds j true) a w) → K' a w) → if Region.wanted oj (yielded ops a.tmps) = true then Oper.wp P oj a w K' Q else K' (a.put oj.dst undef) w) :
  wpAnyH P md ops Q S (fuel + 1) listed a w :=
 wpAnyH_ready hr (by simp) (AllReadyH.cons (q2h hi) h (AllReadyH.cons (q2h hj) h2 AllReadyH.nil))
end
end Go.Proofs.YthhaednigdgclaaGreat
namespace Go.Proofs.YthhaednigdgclaaGreat
open Go.RowKit
open Go.Lib (hid)
noncomputable def Wld.up (x : Wld) : Int := if x.fault = 0 then (if x.dN = true then 9 else 0) else x.fault
def Wld.isGroup (x : Wld) (g : Int) : Prop := 0 ≤ g ∧ g ≤ x.sH.all - 1
def Wld.isDrive (x : Wld) (d : Int) : Prop := 0 ≤ d ∧ d ≤ x.sH.drives - 1
def Wld.isRow (x : Wld) (r : Int) : Prop := 0 ≤ r ∧ r ≤ x.sH.rows - 1
noncomputable def onR (x : Wld) (g : Int) : WRes :=
 if x.up ≠ 0 then ⟨x.up, zWld⟩ else if pb (x.isGroup g) = false then ⟨3, zWld⟩ else if pb (g ∈ x.on) = true then ⟨0, x⟩ else if (x.on.length : Int) = x.sH.cap then ⟨7, zWld⟩ else ⟨0, { x with on := x.on ++ [g] }⟩
noncomputable def offR (x : Wld) (g : Int) : WRes :=
 if x.up ≠ 0 then ⟨x.up, zWld⟩ else if pb (x.isGroup g) = false then ⟨3, zWld⟩ else if pb (g ∈ x.on) = false then ⟨8, zWld⟩ else ⟨0, { x with on := x.on.filter (fun y => y != g) }⟩
def zBlk0 : Blk := ⟨0, []⟩
def Wld.drive (x : Wld) (g d : Int) : Drv := (x.gS.getD g.toNat []).getD d.toNat ⟨false, []⟩
noncomputable def readR (x : Wld) (g d r : Int) : BRes :=
 if x.up ≠ 0 then ⟨x.up, zBlk0⟩ else if pb (x.isGroup g ∧ x.isDrive d ∧ x.isRow r) = false then ⟨3, zBlk0⟩ else if pb (g ∈ x.on) = false then ⟨8, zBlk0⟩ else
  if (x.drive g d).wD = true then ⟨12, zBlk0⟩ else ⟨0, (x.drive g d).blocks.getD r.toNat zBlk0⟩
def Wld.cut (x : Wld) : Wld := { x with dN := true, on := [] }
def Wld.setDrive (x : Wld) (g d : Int) (y : Drv) : Wld := { x with gS := x.gS.set g.toNat ((x.gS.getD g.toNat []).set d.toNat y) }
def Wld.tape (x : Wld) (t : Int) : Tap := x.tapes.getD t.toNat ⟨false, []⟩
def Wld.raw (x : Wld) (f : Wld → Wld) : WRes := if x.sP ≠ -1 ∧ x.sP ≤ x.wT then ⟨9, x.cut⟩ else ⟨0, { f x with wT := x.wT + 1 }⟩
def Wld.setBlock (x : Wld) (g d r : Int) (b : Blk) : Wld := x.setDrive g d { x.drive g d with blocks := (x.drive g d).blocks.set r.toNat b }
noncomputable def writeR (x : Wld) (g d r : Int) (b : Blk) : WRes :=
 if x.up ≠ 0 then ⟨x.up, zWld⟩ else if pb (x.isGroup g ∧ x.isDrive d ∧ x.isRow r) = false then ⟨3, zWld⟩ else if pb b.ok = false then ⟨1, zWld⟩ else if pb (g ∈ x.on) = false then ⟨8, zWld⟩ else
  x.raw (fun x => x.setBlock g d r b)
/-! ### how much there is of it -/

structure RRes where
 code : Int
 rC : List Rec
def rrsL : Lay RRes := (intL.pair recL.slice).via (fun x => (x.code, x.rC))
theorem q6c {w : World} {cs : List Value} {x : RRes} {fp : List Nat} : rrsL.rep w cs x fp ↔ ∃ a l c, cs = [I J x.code, Aa a l c] ∧ q0s x.code ∧ recL.sl w a l c x.rC fp := by
 constructor
 ·rintro ⟨_, _, _, f, rfl, rfl, ⟨rfl, h1, rfl⟩, a, l, c, rfl, h2⟩;exact ⟨a, l, c, rfl, h1, h2⟩
 ·rintro ⟨a, l, c, rfl, h1, h2⟩;exact ⟨[_], _, [], _, rfl, rfl, ⟨rfl, h1, rfl⟩, _, _, _, rfl, h2⟩
theorem q5i : (Tryz.prog.info? 34).map (fun i => i.size) = some 2 := by kernel_rfl
theorem q7l (x y : Rec) (cx cy : Array Value) (fx fy : List Nat) (w : World) (hx : recL.rep w cx.toList x fx) (hy : recL.rep w cy.toList y fy) :
  Calls Tryz.prog 9 #[.agg cx, .agg cy] w fun e w' => e = .returned (Ac (q2c x y)) ∧ Chg [] w w' := by
 have hc0 := ((Chg.refl [] w).alloc (Ad cx 38)).alloc (Ad cy 38);have HS := hid (q9e x y cx cy fx fy _ (recL.ext hx hc0) (recL.ext hy hc0));have HC := hid hc0;obtain ⟨a6, l6, c6, f6, a7, l7, c7, f7, a8, l8, c8, f8, ex, -⟩ := q0m.1 hx;obtain ⟨b6, m6, d6, g6, b7, m7, d7, g7, b8, m8, d8, g8, ey, -⟩ := q0m.1 hy;clear hx hy hc0;generalize q2c x y = r at HS ⊢;obtain ⟨kx, sx, nx, lx, gx, rx, Rx, Dx, Ex⟩ := x;obtain ⟨ky, sy, ny, ly, gy, ry, Ry, Dy, Ey⟩ := y;simp only at ex ey;obtain rfl := (tLi ex);obtain rfl := (tLi ey);clear ex ey;go_enter Tryz.func9, Tryz.ntmps9;go_wp2_with fail;refine HS.o.mono ?_;rintro e w1 ⟨rfl, hc⟩;have AH := hid (HC.o.trans0 hc);clear hc;go_wp2_with fail;go_ret;exact ⟨rfl, AH.o⟩
end Go.Proofs.YthhaednigdgclaaGreat
