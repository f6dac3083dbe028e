/- Several texts in one. -/
import Derived.Test.YthhaednigdgclaaGreatRows
import Derived.Test.YthhaednigdgclaaGreatYaa
import Derived.Test.YthhaednigdgclaaGreatYac
import Derived.Deep.RegionLaw
import Derived.Deep.RegionHeld
import Derived.Deep.QuietTactic
import Derived.BigQuiet
import Derived.IntWalk
import Derived.Deep.DeepCutAuto
open Go.Value renaming int → I, slice → Aa, string → Ab, bool → Ac
open Go.IntKind renaming i64 → J
open Go.Obj renaming cells → Ad
open And renaming intro → AW
open List renaming mem_singleton → AX
open Array renaming toList_inj → AY, replicate → AZ, getD_eq_getD_getElem? → Bb, setIfInBounds_comm → Be
open Go.IntWalk renaming i64_in → Ba
open Int renaming tdiv_eq_ediv_of_nonneg → Bc, emod_lt_of_pos → Bf, tmod_lt_of_pos → Bg, ediv_le_self → Bh, emod_nonneg → Bi, tmod_nonneg → Bj, le_refl → Bl
set_option maxRecDepth 100000
set_option maxHeartbeats 8000000
namespace Go.Proofs.YthhaednigdgclaaGreat
open Go.RowKit
open Go.Lib (hid)
/-! ### FactorOf -/
/-! ### PartsFor -/
def q0u (d n : Int) : Int × Int := if n < 1 then (0, 6) else if 12 * d < n then (0, 2) else ((n + 4 * d - 1) / (4 * d), 0)
def Shp.parts (s : Shp) (n : Int) : Int × Int := if s.ok then ((q0u s.data n).2, (q0u s.data n).1) else (3, 0)
theorem q4r (s : Shp) (n : Int) (hd : 1 ≤ s.data) (Av : s.data ≤ 3) (hn : q0s n) (w : World) :
  Calls Tryz.prog 132 #[.agg s.cells, I J n] w fun e w' => e = .returned (.tuple #[I J (q0u s.data n).1, I J (q0u s.data n).2]) ∧ Chg [] w w' := by
 obtain ⟨hn1, Aw⟩ := hn;obtain ⟨g, c, d, p, r', q, b, u, t⟩ := s;simp only at hd Av ⊢;have h : d = 1 ∨ d = 2 ∨ d = 3 := by omega
 clear hd Av;rcases h with rfl | rfl | rfl
 ·simp only [Shp.cells];by_cases h1 : n < 1
  ·have HR := hid (show q0u 1 n = (0, 6) by rw [q0u, if_pos h1]);generalize q0u 1 n = r at HR ⊢;go_enter Tryz.func132, Tryz.ntmps132;go_wp2;go_ret2;exact ⟨by rw [HR.o]; rfl, by repeat (first | exact Chg.refl _ _ | refine Chg.alloc ?_ _ | refine Chg.drewN ?_ _ | refine Chg.drew ?_)⟩
  ·by_cases h2 : 12 < n
   ·have HR := hid (show q0u 1 n = (0, 2) by rw [q0u, if_neg h1, if_pos (by omega)]);generalize q0u 1 n = r at HR ⊢;go_enter Tryz.func132, Tryz.ntmps132;go_wp2;go_ret2;exact ⟨by rw [HR.o]; rfl, by repeat (first | exact Chg.refl _ _ | refine Chg.alloc ?_ _ | refine Chg.drewN ?_ _ | refine Chg.drew ?_)⟩
   ·have HR := hid (show q0u 1 n = ((n - 1) / 4 + 1, 0) by rw [q0u, if_neg h1, if_neg (by omega)]; exact Prod.ext (by show _ / _ = _; omega) rfl);generalize q0u 1 n = r at HR ⊢;go_enter Tryz.func132, Tryz.ntmps132;go_wp2;go_ret2;exact ⟨by rw [HR.o]; rfl, by repeat (first | exact Chg.refl _ _ | refine Chg.alloc ?_ _ | refine Chg.drewN ?_ _ | refine Chg.drew ?_)⟩
 ·simp only [Shp.cells];by_cases h1 : n < 1
  ·have HR := hid (show q0u 2 n = (0, 6) by rw [q0u, if_pos h1]);generalize q0u 2 n = r at HR ⊢;go_enter Tryz.func132, Tryz.ntmps132;go_wp2;go_ret2;exact ⟨by rw [HR.o]; rfl, by repeat (first | exact Chg.refl _ _ | refine Chg.alloc ?_ _ | refine Chg.drewN ?_ _ | refine Chg.drew ?_)⟩
  ·by_cases h2 : 24 < n
   ·have HR := hid (show q0u 2 n = (0, 2) by rw [q0u, if_neg h1, if_pos (by omega)]);generalize q0u 2 n = r at HR ⊢;go_enter Tryz.func132, Tryz.ntmps132;go_wp2;go_ret2;exact ⟨by rw [HR.o]; rfl, by repeat (first | exact Chg.refl _ _ | refine Chg.alloc ?_ _ | refine Chg.drewN ?_ _ | refine Chg.drew ?_)⟩
   ·have HR := hid (show q0u 2 n = ((n - 1) / 8 + 1, 0) by rw [q0u, if_neg h1, if_neg (by omega)]; exact Prod.ext (by show _ / _ = _; omega) rfl);generalize q0u 2 n = r at HR ⊢;go_enter Tryz.func132, Tryz.ntmps132;go_wp2;go_ret2;exact ⟨by rw [HR.o]; rfl, by repeat (first | exact Chg.refl _ _ | refine Chg.alloc ?_ _ | refine Chg.drewN ?_ _ | refine Chg.drew ?_)⟩
 ·simp only [Shp.cells];by_cases h1 : n < 1
  ·have HR := hid (show q0u 3 n = (0, 6) by rw [q0u, if_pos h1]);generalize q0u 3 n = r at HR ⊢;go_enter Tryz.func132, Tryz.ntmps132;go_wp2;go_ret2;exact ⟨by rw [HR.o]; rfl, by repeat (first | exact Chg.refl _ _ | refine Chg.alloc ?_ _ | refine Chg.drewN ?_ _ | refine Chg.drew ?_)⟩
  ·by_cases h2 : 36 < n
   ·have HR := hid (show q0u 3 n = (0, 2) by rw [q0u, if_neg h1, if_pos (by omega)]);generalize q0u 3 n = r at HR ⊢;go_enter Tryz.func132, Tryz.ntmps132;go_wp2;go_ret2;exact ⟨by rw [HR.o]; rfl, by repeat (first | exact Chg.refl _ _ | refine Chg.alloc ?_ _ | refine Chg.drewN ?_ _ | refine Chg.drew ?_)⟩
   ·have HR := hid (show q0u 3 n = ((n - 1) / 12 + 1, 0) by rw [q0u, if_neg h1, if_neg (by omega)]; exact Prod.ext (by show _ / _ = _; omega) rfl);generalize q0u 3 n = r at HR ⊢;go_enter Tryz.func132, Tryz.ntmps132;go_wp2;go_ret2;exact ⟨by rw [HR.o]; rfl, by repeat (first | exact Chg.refl _ _ | refine Chg.alloc ?_ _ | refine Chg.drewN ?_ _ | refine Chg.drew ?_)⟩
theorem q3y (s : Shp) (n : Int) (hd : 1 ≤ s.data) (Av : s.data ≤ 3) (hn : q0s n) (w : World) :
  Calls Tryz.prog 102 #[.agg s.cells, I J n] w fun e w' => e = .returned (I J (q0u s.data n).2) ∧ Chg [] w w' := by
 obtain ⟨hn1, Aw⟩ := hn;obtain ⟨g, c, d, p, r', q, b, u, t⟩ := s;simp only at hd Av ⊢;have h : d = 1 ∨ d = 2 ∨ d = 3 := by omega
 clear hd Av;rcases h with rfl | rfl | rfl
 ·simp only [Shp.cells];by_cases h1 : n < 1
  ·have HR := hid (show q0u 1 n = (0, 6) by rw [q0u, if_pos h1]);generalize q0u 1 n = r at HR ⊢;go_enter Tryz.func102, Tryz.ntmps102;go_wp2;go_ret;exact ⟨by rw [HR.o]; rfl, by repeat (first | exact Chg.refl _ _ | refine Chg.alloc ?_ _ | refine Chg.drewN ?_ _ | refine Chg.drew ?_)⟩
  ·by_cases h2 : 12 < n
   ·have HR := hid (show q0u 1 n = (0, 2) by rw [q0u, if_neg h1, if_pos (by omega)]);generalize q0u 1 n = r at HR ⊢;go_enter Tryz.func102, Tryz.ntmps102;go_wp2;go_ret;exact ⟨by rw [HR.o]; rfl, by repeat (first | exact Chg.refl _ _ | refine Chg.alloc ?_ _ | refine Chg.drewN ?_ _ | refine Chg.drew ?_)⟩
   ·have HR := hid (show q0u 1 n = ((n - 1) / 4 + 1, 0) by rw [q0u, if_neg h1, if_neg (by omega)]; exact Prod.ext (by show _ / _ = _; omega) rfl);generalize q0u 1 n = r at HR ⊢;go_enter Tryz.func102, Tryz.ntmps102;go_wp2;go_ret;exact ⟨by rw [HR.o]; rfl, by repeat (first | exact Chg.refl _ _ | refine Chg.alloc ?_ _ | refine Chg.drewN ?_ _ | refine Chg.drew ?_)⟩
 ·simp only [Shp.cells];by_cases h1 : n < 1
  ·have HR := hid (show q0u 2 n = (0, 6) by rw [q0u, if_pos h1]);generalize q0u 2 n = r at HR ⊢;go_enter Tryz.func102, Tryz.ntmps102;go_wp2;go_ret;exact ⟨by rw [HR.o]; rfl, by repeat (first | exact Chg.refl _ _ | refine Chg.alloc ?_ _ | refine Chg.drewN ?_ _ | refine Chg.drew ?_)⟩
  ·by_cases h2 : 24 < n
   ·have HR := hid (show q0u 2 n = (0, 2) by rw [q0u, if_neg h1, if_pos (by omega)]);generalize q0u 2 n = r at HR ⊢;go_enter Tryz.func102, Tryz.ntmps102;go_wp2;go_ret;exact ⟨by rw [HR.o]; rfl, by repeat (first | exact Chg.refl _ _ | refine Chg.alloc ?_ _ | refine Chg.drewN ?_ _ | refine Chg.drew ?_)⟩
   ·have HR := hid (show q0u 2 n = ((n - 1) / 8 + 1, 0) by rw [q0u, if_neg h1, if_neg (by omega)]; exact Prod.ext (by show _ / _ = _; omega) rfl);generalize q0u 2 n = r at HR ⊢;go_enter Tryz.func102, Tryz.ntmps102;go_wp2;go_ret;exact ⟨by rw [HR.o]; rfl, by repeat (first | exact Chg.refl _ _ | refine Chg.alloc ?_ _ | refine Chg.drewN ?_ _ | refine Chg.drew ?_)⟩
 ·simp only [Shp.cells];by_cases h1 : n < 1
  ·have HR := hid (show q0u 3 n = (0, 6) by rw [q0u, if_pos h1]);generalize q0u 3 n = r at HR ⊢;go_enter Tryz.func102, Tryz.ntmps102;go_wp2;go_ret;exact ⟨by rw [HR.o]; rfl, by repeat (first | exact Chg.refl _ _ | refine Chg.alloc ?_ _ | refine Chg.drewN ?_ _ | refine Chg.drew ?_)⟩
  ·by_cases h2 : 36 < n
   ·have HR := hid (show q0u 3 n = (0, 2) by rw [q0u, if_neg h1, if_pos (by omega)]);generalize q0u 3 n = r at HR ⊢;go_enter Tryz.func102, Tryz.ntmps102;go_wp2;go_ret;exact ⟨by rw [HR.o]; rfl, by repeat (first | exact Chg.refl _ _ | refine Chg.alloc ?_ _ | refine Chg.drewN ?_ _ | refine Chg.drew ?_)⟩
   ·have HR := hid (show q0u 3 n = ((n - 1) / 12 + 1, 0) by rw [q0u, if_neg h1, if_neg (by omega)]; exact Prod.ext (by show _ / _ = _; omega) rfl);generalize q0u 3 n = r at HR ⊢;go_enter Tryz.func102, Tryz.ntmps102;go_wp2;go_ret;exact ⟨by rw [HR.o]; rfl, by repeat (first | exact Chg.refl _ _ | refine Chg.alloc ?_ _ | refine Chg.drewN ?_ _ | refine Chg.drew ?_)⟩
theorem z0k (s : Shp) (hd : 1 ≤ s.data) (Av : s.data ≤ 3) (w : World) :
  Calls Tryz.prog 56 #[.agg s.cells] w fun e w' => e = .returned (I J (s.data * 4)) ∧ w.alloc (Ad s.cells 25) = w' := by
 obtain ⟨g, c, d, p, r', q, b, u, t⟩ := s;simp only [Shp.cells] at *;go_enter Tryz.func56, Tryz.ntmps56;go_wp2;go_ret;exact ⟨rfl, rfl⟩
theorem q7v (n k : Int) (hn : 0 ≤ n) (Aw : n ≤ 1000000000) (hk : 1 ≤ k) (hk2 : k ≤ 12) : IntKind.i64.wrap ((IntKind.i64.wrap (IntKind.i64.wrap (n + k) - 1)).tdiv k) = (n + k - 1) / k := by
 rw [Ba (n + k) ⟨by omega, by omega⟩, Ba (n + k - 1) ⟨by omega, by omega⟩, Bc (by omega)];have h1 : 0 ≤ (n + k - 1) / k := Int.ediv_nonneg (by omega) (by omega);have h2 : (n + k - 1) / k ≤ n + k - 1 := Bh _ (by omega);exact Ba _ ⟨by omega, by omega⟩
theorem q9m (s : Shp) (n : Int) (hd : 1 ≤ s.data) (Av : s.data ≤ 3) (hn : 0 ≤ n) (Aw : n ≤ 1000000000) (w : World) :
  Calls Tryz.prog 103 #[.agg s.cells, I J n] w fun e w' => e = .returned (I J ((n + 4 * s.data - 1) / (4 * s.data))) ∧ Chg [] w w' := by
 have HW := hid (z0k s hd Av);obtain ⟨g, c, d, p, r', q, b, u, t⟩ := s;simp only [Shp.cells] at *;have h : d = 1 ∨ d = 2 ∨ d = 3 := by omega
 clear hd Av;rcases h with rfl | rfl | rfl
 all_goals
  go_enter Tryz.func103, Tryz.ntmps103;go_wp2_with fail;go_region_law (go_simp; go_at_call 56; refine (HW.o _).mono ?_; rintro e w' ⟨rfl, rfl⟩);all_goals (go_wp2; go_ret)
  all_goals refine ⟨q0i ?_, by repeat (first | exact Chg.refl _ _ | refine Chg.alloc ?_ _ | refine Chg.drewN ?_ _ | refine Chg.drew ?_)⟩
  all_goals (first | rw [q7v n 4 (by omega) (by omega) (by omega) (by omega)] | rw [q7v n 8 (by omega) (by omega) (by omega) (by omega)] | rw [q7v n 12 (by omega) (by omega) (by omega) (by omega)])
  all_goals rfl
theorem partsV_cases (d n : Int) (h : 1 ≤ d) (h2 : d ≤ 3) : q0u d n = (0, 6) ∨ q0u d n = (0, 2) ∨ (q0u d n = ((n + 4 * d - 1) / (4 * d), 0) ∧ 1 ≤ n ∧ n ≤ 36) := by
 unfold q0u; split
 ·exact .inl rfl
 ·split
  ·exact .inr (.inl rfl)
  ·exact .inr (.inr ⟨rfl, by omega, by omega⟩)
theorem new_alloc2 (w : World) (x y : Obj) : ((w.alloc x).alloc y).heap[w.heap.size + 1]? = some y := by
 have h := q0k (w.alloc x) y
 simpa using h
/-! ### HomeOf -/
def upTo (s : ByteArray) : Nat → Int
 | 0 => 0
 | k + 1 => upTo s k + (if h : k < s.size then (s[k].toNat : Int) else 0)
theorem upTo_next {s : ByteArray} {k : Nat} (h : k < s.size) : upTo s (k + 1) = upTo s k + (s[k].toNat : Int) := by rw [upTo, dif_pos h]
theorem q5y (s : ByteArray) (k : Nat) : 0 ≤ upTo s k ∧ upTo s k ≤ 255 * k := by
 induction k with
 | zero => exact ⟨Bl _, Bl _⟩
 | succ k ih =>
  rw [upTo]
  split
  ·rename_i h
   have := UInt8.toNat_lt s[k];omega
  ·omega
noncomputable def Shp.home (s : Shp) (n : ByteArray) : Int × Int := if s.ok then (if q0z n = 0 then (0, upTo n n.size % s.gS) else (5, 0)) else (3, 0)
theorem home_any (s : Shp) (n : ByteArray) (hg : 1 ≤ s.gS) (hg2 : s.gS ≤ 4) (hn : n.size ≤ 8) (w : World) :
  Calls Tryz.prog 33 #[.agg s.cells, Ab n] w fun e w' => e = .returned (I J (upTo n n.size % s.gS)) ∧ Chg [] w w' := by
 obtain ⟨g, c, d, p, r, q, b, u, t⟩ := s;simp only [Shp.cells] at hg hg2 ⊢;have hg0 : (g == 0) = false := by rw [beq_eq_false_iff_ne]; omega
 go_enter Tryz.func33, Tryz.ntmps33;go_wp2;go_loop [5, 6, 9] (fun a _ i => ∃ k : Nat, k ≤ n.size ∧ a = I J (upTo n k) ∧ i = I J k) (fun a _ i => n.size - (intOf i).toNat)
 case atStart => exact ⟨0, by omega, rfl, rfl⟩
 case round =>
  obtain ⟨k, hk, rfl, rfl⟩ := hrel;by_cases hlt : k < n.size
  ·have HS := hid (upTo_next hlt);have hb1 := (q5y n k).1;have hb2 : upTo n k ≤ 2040 := by have := (q5y n k).2; omega
   have hb3 : (n[k].toNat : Int) < 256 := by have := UInt8.toNat_lt n[k]; omega
   generalize upTo n k = z at HS hb1 hb2 ⊢;go_wp2;go_round
   case rel => exact ⟨k + 1, by omega, by rw [HS.o], by go_num⟩
   case measure => simp [intOf]; omega
  ·have hk2 : k = n.size := by omega
   subst hk2;have hb1 := (q5y n n.size).1;have hb2 : upTo n n.size ≤ 2040 := by have := (q5y n n.size).2; omega
   generalize hE : upTo n n.size = z at hb1 hb2 ⊢;have HE := hid hE;clear hE;have HT : Hid (z.tmod g = z % g) := Int.tmod_eq_emod_of_nonneg hb1;have hz1 : 0 ≤ z % g := Bi _ (by omega);have hz2 : z % g < g := Bf _ (by omega);go_wp2;go_ret;exact ⟨q0i (by rw [HE.o]; all_goals first | (rw [HT.o]; done) | (rw [HT.o]; exact Ba _ ⟨by omega, by omega⟩) | (rw [HT.o]; exact IntWalk.wrap64_in _ ⟨by omega, by omega⟩) | rfl), by repeat (first | exact Chg.refl _ _ | refine Chg.alloc ?_ _ | refine Chg.drewN ?_ _ | refine Chg.drew ?_)⟩
theorem impl_homeOf (s : Shp) (n : ByteArray) (hn : n.size ≤ maxLen) (w : World) :
  Calls Tryz.prog 11 #[.agg s.cells, Ab n] w fun e w' => e = .returned (.agg #[I J (s.home n).1, I J (s.home n).2]) ∧ Chg [] w w' := by
 have HF := hid (@impl_shape s);have HN := hid (@impl_name n hn);by_cases h : s.ok
 ·have HZ := hid (show s.fault = 0 by rw [Shp.fault, if_pos h]);rcases name_or n with h2 | h2
  ·have HR := hid (show s.home n = (0, upTo n n.size % s.gS) by rw [Shp.home, if_pos h, if_pos h2]);have HP := hid (@home_any s n h.1.1 h.1.2 (q9j h2).1.2);generalize upTo n n.size % s.gS = z at HR HP;generalize s.home n = r at HR ⊢;rw [h2] at HN;clear h hn h2;obtain ⟨g, c, d, p, r, q, b, u, t⟩ := s;simp only [Shp.cells] at HF HP ⊢;go_enter Tryz.func11, Tryz.ntmps11;go_wp2_with (first | (go_at_call 31; refine (HF.o _).mono ?_; rintro e w' ⟨rfl, rfl⟩; rw [HZ.o]) | (go_at_call 32; refine (HN.o _).mono ?_; rintro e w' ⟨rfl, rfl⟩));refine (HP.o _).mono ?_; rintro e w1 ⟨rfl, hc⟩;have Ae := hc.keep0 (q0b (q0b (q0k _ _) _) _); have c2 := cellsOf Ae; have f2 := q0j Ae; have l2 := ltOf Ae; have H2 := hid Ae; clear Ae;have AE := hc.keep0 (q0b (new_alloc2 _ _ _) _); have c4 := cellsOf AE; have f4 := q0j AE; have l4 := ltOf AE; have H4 := hid AE; clear AE;have HC := hid ((((Chg.refl [] w).alloc _).alloc _).alloc _ |>.trans0 hc); clear hc;go_wp2_with fail;refine bodyPost_ret (v := .agg #[I J 0, I J z]) (by simp [results, Tryz.results11, go_sem, c4]) rfl ?_;exact ⟨by rw [HR.o], by repeat (first | exact HC.o | refine Chg.setCell ?_ _ _ (.inr (by simp)) | refine Chg.alloc ?_ _)⟩
  ·have HR := hid (show s.home n = (5, 0) by rw [Shp.home, if_pos h, if_neg (by omega)]);generalize s.home n = r at HR ⊢;rw [h2] at HN;clear h hn h2;obtain ⟨g, c, d, p, r, q, b, u, t⟩ := s;simp only [Shp.cells] at HF ⊢;go_enter Tryz.func11, Tryz.ntmps11;go_wp2_with (first | (go_at_call 31; refine (HF.o _).mono ?_; rintro e w' ⟨rfl, rfl⟩; rw [HZ.o]) | (go_at_call 32; refine (HN.o _).mono ?_; rintro e w' ⟨rfl, rfl⟩));go_returns;exact ⟨by rw [HR.o], by repeat (first | exact Chg.refl _ _ | refine Chg.alloc ?_ _)⟩
 ·have HR := hid (show s.home n = (3, 0) by rw [Shp.home, if_neg h]);have HZ := hid (show s.fault = 3 by rw [Shp.fault, if_neg h]);generalize s.home n = r at HR ⊢;clear h;obtain ⟨g, c, d, p, r, q, b, u, t⟩ := s;simp only [Shp.cells] at HF ⊢;go_enter Tryz.func11, Tryz.ntmps11;go_wp2_with (go_at_call 31; refine (HF.o _).mono ?_; rintro e w' ⟨rfl, rfl⟩; rw [HZ.o]);go_returns;exact ⟨by rw [HR.o], by repeat (first | exact Chg.refl _ _ | refine Chg.alloc ?_ _)⟩
theorem q5l {s t : ByteArray} (h : s ≠ t) : (s.toList == t.toList) = false := by
 rw [beq_eq_false_iff_ne]; exact fun e => h (toList_inj e)
theorem sameV_rec {kx sx : Int} {nx : ByteArray} {lx gx rx : Int} {Rx Ry : List Int} {Dx Dy Ex Ey : List UInt8} : q2c (Rec.mk kx sx nx lx gx rx Rx Dx Ex) (Rec.mk kx sx nx lx gx rx Ry Dy Ey) = (q2c Rx Ry && (q2c Dx Dy && q2c Ex Ey)) := by
 by_cases h1 : Rx = Ry
 ·by_cases h2 : Dx = Dy
  ·by_cases h3 : Ex = Ey
   ·rw [q1x h1, q1x h2, q1x h3, q1x (by rw [h1, h2, h3])]; rfl
   ·rw [q1x h1, q1x h2, q0w h3, q0w (fun h => h3 (congrArg Rec.delta h))]; rfl
  ·rw [q1x h1, q0w h2, q0w (fun h => h2 (congrArg Rec.data h))]; rfl
 ·rw [q0w h1, q0w (fun h => h1 (congrArg Rec.rows h))]; rfl
theorem spec_same_k (kx : Int) (sx : Int) (nx : ByteArray) (lx : Int) (gx : Int) (rx : Int) (ky : Int) (sy : Int) (ny : ByteArray) (ly : Int) (gy : Int) (ry : Int) (a6x : Option Addr) (l6x c6x : Nat) (a7x : Option Addr) (l7x c7x : Nat) (a8x : Option Addr) (l8x c8x : Nat) (a6y : Option Addr) (l6y c6y : Nat) (a7y : Option Addr) (l7y c7y : Nat) (a8y : Option Addr) (l8y c8y : Nat) (e : kx ≠ ky) (w : World) :
  Calls Tryz.prog 104 #[.agg #[I J kx, I J sx, Ab nx, I J lx, I J gx, I J rx, Aa a6x l6x c6x, Aa a7x l7x c7x, Aa a8x l8x c8x], .agg #[I J ky, I J sy, Ab ny, I J ly, I J gy, I J ry, Aa a6y l6y c6y, Aa a7y l7y c7y, Aa a8y l8y c8y]] w fun e w' => e = .returned (Ac false) ∧ Chg [] w w' := by
 have t1 : (kx == ky) = false := by rw [beq_eq_false_iff_ne]; exact e
 clear e;go_enter Tryz.func104, Tryz.ntmps104;go_wp2_with fail;go_ret;exact ⟨rfl, by repeat (first | exact Chg.refl _ _ | refine Chg.alloc ?_ _)⟩
theorem spec_same_s (kx : Int) (sx : Int) (nx : ByteArray) (lx : Int) (gx : Int) (rx : Int) (sy : Int) (ny : ByteArray) (ly : Int) (gy : Int) (ry : Int) (a6x : Option Addr) (l6x c6x : Nat) (a7x : Option Addr) (l7x c7x : Nat) (a8x : Option Addr) (l8x c8x : Nat) (a6y : Option Addr) (l6y c6y : Nat) (a7y : Option Addr) (l7y c7y : Nat) (a8y : Option Addr) (l8y c8y : Nat) (e : sx ≠ sy) (w : World) :
  Calls Tryz.prog 104 #[.agg #[I J kx, I J sx, Ab nx, I J lx, I J gx, I J rx, Aa a6x l6x c6x, Aa a7x l7x c7x, Aa a8x l8x c8x], .agg #[I J kx, I J sy, Ab ny, I J ly, I J gy, I J ry, Aa a6y l6y c6y, Aa a7y l7y c7y, Aa a8y l8y c8y]] w fun e w' => e = .returned (Ac false) ∧ Chg [] w w' := by
 have t1 : (sx == sy) = false := by rw [beq_eq_false_iff_ne]; exact e
 clear e;go_enter Tryz.func104, Tryz.ntmps104;go_wp2_with fail;go_ret;exact ⟨rfl, by repeat (first | exact Chg.refl _ _ | refine Chg.alloc ?_ _)⟩
theorem spec_same_n (kx : Int) (sx : Int) (nx : ByteArray) (lx : Int) (gx : Int) (rx : Int) (ny : ByteArray) (ly : Int) (gy : Int) (ry : Int) (a6x : Option Addr) (l6x c6x : Nat) (a7x : Option Addr) (l7x c7x : Nat) (a8x : Option Addr) (l8x c8x : Nat) (a6y : Option Addr) (l6y c6y : Nat) (a7y : Option Addr) (l7y c7y : Nat) (a8y : Option Addr) (l8y c8y : Nat) (e : nx ≠ ny) (w : World) :
  Calls Tryz.prog 104 #[.agg #[I J kx, I J sx, Ab nx, I J lx, I J gx, I J rx, Aa a6x l6x c6x, Aa a7x l7x c7x, Aa a8x l8x c8x], .agg #[I J kx, I J sx, Ab ny, I J ly, I J gy, I J ry, Aa a6y l6y c6y, Aa a7y l7y c7y, Aa a8y l8y c8y]] w fun e w' => e = .returned (Ac false) ∧ Chg [] w w' := by
 have t1 : (nx.toList == ny.toList) = false := q5l e;clear e;go_enter Tryz.func104, Tryz.ntmps104;go_wp2_with fail;go_ret;exact ⟨rfl, by repeat (first | exact Chg.refl _ _ | refine Chg.alloc ?_ _)⟩
theorem spec_same_l (kx : Int) (sx : Int) (nx : ByteArray) (lx : Int) (gx : Int) (rx : Int) (ly : Int) (gy : Int) (ry : Int) (a6x : Option Addr) (l6x c6x : Nat) (a7x : Option Addr) (l7x c7x : Nat) (a8x : Option Addr) (l8x c8x : Nat) (a6y : Option Addr) (l6y c6y : Nat) (a7y : Option Addr) (l7y c7y : Nat) (a8y : Option Addr) (l8y c8y : Nat) (e : lx ≠ ly) (w : World) :
  Calls Tryz.prog 104 #[.agg #[I J kx, I J sx, Ab nx, I J lx, I J gx, I J rx, Aa a6x l6x c6x, Aa a7x l7x c7x, Aa a8x l8x c8x], .agg #[I J kx, I J sx, Ab nx, I J ly, I J gy, I J ry, Aa a6y l6y c6y, Aa a7y l7y c7y, Aa a8y l8y c8y]] w fun e w' => e = .returned (Ac false) ∧ Chg [] w w' := by
 have t1 : (lx == ly) = false := by rw [beq_eq_false_iff_ne]; exact e
 clear e;go_enter Tryz.func104, Tryz.ntmps104;go_wp2_with fail;go_ret;exact ⟨rfl, by repeat (first | exact Chg.refl _ _ | refine Chg.alloc ?_ _)⟩
theorem spec_same_g (kx : Int) (sx : Int) (nx : ByteArray) (lx : Int) (gx : Int) (rx : Int) (gy : Int) (ry : Int) (a6x : Option Addr) (l6x c6x : Nat) (a7x : Option Addr) (l7x c7x : Nat) (a8x : Option Addr) (l8x c8x : Nat) (a6y : Option Addr) (l6y c6y : Nat) (a7y : Option Addr) (l7y c7y : Nat) (a8y : Option Addr) (l8y c8y : Nat) (e : gx ≠ gy) (w : World) :
  Calls Tryz.prog 104 #[.agg #[I J kx, I J sx, Ab nx, I J lx, I J gx, I J rx, Aa a6x l6x c6x, Aa a7x l7x c7x, Aa a8x l8x c8x], .agg #[I J kx, I J sx, Ab nx, I J lx, I J gy, I J ry, Aa a6y l6y c6y, Aa a7y l7y c7y, Aa a8y l8y c8y]] w fun e w' => e = .returned (Ac false) ∧ Chg [] w w' := by
 have t1 : (gx == gy) = false := by rw [beq_eq_false_iff_ne]; exact e
 clear e;go_enter Tryz.func104, Tryz.ntmps104;go_wp2_with fail;go_ret;exact ⟨rfl, by repeat (first | exact Chg.refl _ _ | refine Chg.alloc ?_ _)⟩
theorem spec_same_r (kx : Int) (sx : Int) (nx : ByteArray) (lx : Int) (gx : Int) (rx : Int) (ry : Int) (a6x : Option Addr) (l6x c6x : Nat) (a7x : Option Addr) (l7x c7x : Nat) (a8x : Option Addr) (l8x c8x : Nat) (a6y : Option Addr) (l6y c6y : Nat) (a7y : Option Addr) (l7y c7y : Nat) (a8y : Option Addr) (l8y c8y : Nat) (e : rx ≠ ry) (w : World) :
  Calls Tryz.prog 104 #[.agg #[I J kx, I J sx, Ab nx, I J lx, I J gx, I J rx, Aa a6x l6x c6x, Aa a7x l7x c7x, Aa a8x l8x c8x], .agg #[I J kx, I J sx, Ab nx, I J lx, I J gx, I J ry, Aa a6y l6y c6y, Aa a7y l7y c7y, Aa a8y l8y c8y]] w fun e w' => e = .returned (Ac false) ∧ Chg [] w w' := by
 have t1 : (rx == ry) = false := by rw [beq_eq_false_iff_ne]; exact e
 clear e;go_enter Tryz.func104, Tryz.ntmps104;go_wp2_with fail;go_ret;exact ⟨rfl, by repeat (first | exact Chg.refl _ _ | refine Chg.alloc ?_ _)⟩
theorem q9b (kx : Int) (sx : Int) (nx : ByteArray) (lx : Int) (gx : Int) (rx : Int) (a6x : Option Addr) (l6x c6x : Nat) (a7x : Option Addr) (l7x c7x : Nat) (a8x : Option Addr) (l8x c8x : Nat) (a6y : Option Addr) (l6y c6y : Nat) (a7y : Option Addr) (l7y c7y : Nat) (a8y : Option Addr) (l8y c8y : Nat) (Rx Ry : List Int) (Dx Dy Ex Ey : List UInt8) (f6x f7x f8x f6y f7y f8y : List Nat) (w : World) (Aq : intL.sl w a6x l6x c6x Rx f6x) (Ao : q0o.sl w a7x l7x c7x Dx f7x) (Al : q0o.sl w a8x l8x c8x Ex f8x) (Ap : intL.sl w a6y l6y c6y Ry f6y) (Am : q0o.sl w a7y l7y c7y Dy f7y) (Ak : q0o.sl w a8y l8y c8y Ey f8y) :
  Calls Tryz.prog 104 #[.agg #[I J kx, I J sx, Ab nx, I J lx, I J gx, I J rx, Aa a6x l6x c6x, Aa a7x l7x c7x, Aa a8x l8x c8x], .agg #[I J kx, I J sx, Ab nx, I J lx, I J gx, I J rx, Aa a6y l6y c6y, Aa a7y l7y c7y, Aa a8y l8y c8y]] w fun e w' => e = .returned (Ac (q2c Rx Ry && (q2c Dx Dy && q2c Ex Ey))) ∧ Chg [] w w' := by
 have hc0 := ((Chg.refl [] w).alloc (.cells #[I J kx, I J sx, Ab nx, I J lx, I J gx, I J rx, Aa a6x l6x c6x, Aa a7x l7x c7x, Aa a8x l8x c8x] 38)).alloc (.cells #[I J kx, I J sx, Ab nx, I J lx, I J gx, I J rx, Aa a6y l6y c6y, Aa a7y l7y c7y, Aa a8y l8y c8y] 38);have AG := hid hc0;have AV := hid Ao; have AR := hid Al; have AU := hid Am; have AQ := hid Ak;have HI := hid (l6Nums_any a6x a6y l6x c6x l6y c6y Rx Ry f6x f6y _ (intL.sl_ext Aq hc0) (intL.sl_ext Ap hc0));clear hc0 Aq Ao Al Ap Am Ak;have tn : (nx.toList == nx.toList) = true := by simp
 cases h6 : q2c Rx Ry
 ·rw [h6] at HI;clear h6;go_enter Tryz.func104, Tryz.ntmps104;go_wp2_with fail;refine HI.o.mono ?_;rintro e w1 ⟨rfl, hc⟩;have Ai := hid (AG.o.trans0 hc);clear hc;go_wp2_with fail;go_ret;exact ⟨rfl, Ai.o⟩
 ·rw [h6] at HI;clear h6;generalize AA : q2c Dx Dy = v7;generalize A9 : q2c Ex Ey = v8;have V7 := hid AA;have V8 := hid A9;clear AA A9;have HK := hid (fun w1 (hc : Chg [] ((w.alloc (.cells #[I J kx, I J sx, Ab nx, I J lx, I J gx, I J rx, Aa a6x l6x c6x, Aa a7x l7x c7x, Aa a8x l8x c8x] 38)).alloc (.cells #[I J kx, I J sx, Ab nx, I J lx, I J gx, I J rx, Aa a6y l6y c6y, Aa a7y l7y c7y, Aa a8y l8y c8y] 38)) w1) => AW (hc.keep0 (q0b (q0k w (.cells #[I J kx, I J sx, Ab nx, I J lx, I J gx, I J rx, Aa a6x l6x c6x, Aa a7x l7x c7x, Aa a8x l8x c8x] 38)) (.cells #[I J kx, I J sx, Ab nx, I J lx, I J gx, I J rx, Aa a6y l6y c6y, Aa a7y l7y c7y, Aa a8y l8y c8y] 38))) (hc.keep0 (new_two w (.cells #[I J kx, I J sx, Ab nx, I J lx, I J gx, I J rx, Aa a6x l6x c6x, Aa a7x l7x c7x, Aa a8x l8x c8x] 38) (.cells #[I J kx, I J sx, Ab nx, I J lx, I J gx, I J rx, Aa a6y l6y c6y, Aa a7y l7y c7y, Aa a8y l8y c8y] 38))));go_enter Tryz.func104, Tryz.ntmps104;go_wp2_with fail;refine HI.o.mono ?_;rintro e w1 ⟨rfl, hc⟩;have Ai := hid (AG.o.trans0 hc);obtain ⟨Ae, Ag⟩ := HK.o w1 hc;have c2 := cellsOf Ae; have l2 := ltOf Ae; have P2 := hid Ae;have c3 := cellsOf Ag; have l3 := ltOf Ag; have P3 := hid Ag;clear Ae Ag hc HK HI;go_wp2_with fail;refine (z0l a7x a7y l7x c7x l7y c7y Dx Dy f7x f7y _ (q0o.sl_ext AV.o Ai.o) (q0o.sl_ext AU.o Ai.o)).mono ?_;rintro e w2 ⟨rfl, hc⟩;rw [V7.o];have Ah := hid (Ai.o.trans0 hc);have Ae := hc.keep0 P2.o; have Ag := hc.keep0 P3.o;clear c2 l2 c3 l3 P2 P3;have c2 := cellsOf Ae; have l2 := ltOf Ae; have P2 := hid Ae;have c3 := cellsOf Ag; have l3 := ltOf Ag; have P3 := hid Ag;clear Ae Ag hc;cases v7
  ·go_wp2_with fail;go_ret;exact ⟨rfl, Ah.o⟩
  ·go_wp2_with fail;refine (z0l a8x a8y l8x c8x l8y c8y Ex Ey f8x f8y _ (q0o.sl_ext AR.o Ah.o) (q0o.sl_ext AQ.o Ah.o)).mono ?_;rintro e w3 ⟨rfl, hc⟩;rw [V8.o];have AP := hid (Ah.o.trans0 hc);clear hc;go_wp2_with fail;go_ret;exact ⟨by simp, AP.o⟩
theorem z1a (x y : Rec) (cx cy : Array Value) (fx fy : List Nat) (w : World) (hx : recL.rep w cx.toList x fx) (hy : recL.rep w cy.toList y fy) :
  Calls Tryz.prog 104 #[.agg cx, .agg cy] w fun e w' => e = .returned (Ac (q2c x y)) ∧ Chg [] w w' := by
 obtain ⟨a6x, l6x, c6x, f6x, a7x, l7x, c7x, f7x, a8x, l8x, c8x, f8x, ex, -, -, -, -, -, -, Aq, Ao, Al, -⟩ := q0m.1 hx;obtain ⟨a6y, l6y, c6y, f6y, a7y, l7y, c7y, f7y, a8y, l8y, c8y, f8y, ey, -, -, -, -, -, -, Ap, Am, Ak, -⟩ := q0m.1 hy;obtain ⟨kx, sx, nx, lx, gx, rx, Rx, Dx, Ex⟩ := x;obtain ⟨ky, sy, ny, ly, gy, ry, Ry, Dy, Ey⟩ := y;simp only at ex ey Aq Ao Al Ap Am Ak;obtain rfl : cx = #[I J kx, I J sx, Ab nx, I J lx, I J gx, I J rx, Aa a6x l6x c6x, Aa a7x l7x c7x, Aa a8x l8x c8x] := AY.1 ex;obtain rfl : cy = #[I J ky, I J sy, Ab ny, I J ly, I J gy, I J ry, Aa a6y l6y c6y, Aa a7y l7y c7y, Aa a8y l8y c8y] := AY.1 ey;clear ex ey hx hy;by_cases e : kx = ky
 ·subst e;by_cases e : sx = sy
  ·subst e;by_cases e : nx = ny
   ·subst e;by_cases e : lx = ly
    ·subst e;by_cases e : gx = gy
     ·subst e;by_cases e : rx = ry
      ·subst e;rw [show q2c (Rec.mk kx sx nx lx gx rx Rx Dx Ex) (Rec.mk kx sx nx lx gx rx Ry Dy Ey) = (q2c Rx Ry && (q2c Dx Dy && q2c Ex Ey)) from sameV_rec];exact q9b _ _ _ _ _ _ _ _ _ _ _ _ _ _ _ _ _ _ _ _ _ _ _ _ Rx Ry Dx Dy Ex Ey _ _ _ _ _ _ w Aq Ao Al Ap Am Ak
      ·rw [q0w (show Rec.mk kx sx nx lx gx rx Rx Dx Ex ≠ Rec.mk kx sx nx lx gx ry Ry Dy Ey from fun h => e (congrArg Rec.row h))];exact spec_same_r _ _ _ _ _ _ _ _ _ _ _ _ _ _ _ _ _ _ _ _ _ _ _ _ _ e w
     ·rw [q0w (show Rec.mk kx sx nx lx gx rx Rx Dx Ex ≠ Rec.mk kx sx nx lx gy ry Ry Dy Ey from fun h => e (congrArg Rec.gP h))];exact spec_same_g _ _ _ _ _ _ _ _ _ _ _ _ _ _ _ _ _ _ _ _ _ _ _ _ _ _ e w
    ·rw [q0w (show Rec.mk kx sx nx lx gx rx Rx Dx Ex ≠ Rec.mk kx sx nx ly gy ry Ry Dy Ey from fun h => e (congrArg Rec.length h))];exact spec_same_l _ _ _ _ _ _ _ _ _ _ _ _ _ _ _ _ _ _ _ _ _ _ _ _ _ _ _ e w
   ·rw [q0w (show Rec.mk kx sx nx lx gx rx Rx Dx Ex ≠ Rec.mk kx sx ny ly gy ry Ry Dy Ey from fun h => e (congrArg Rec.nM h))];exact spec_same_n _ _ _ _ _ _ _ _ _ _ _ _ _ _ _ _ _ _ _ _ _ _ _ _ _ _ _ _ e w
  ·rw [q0w (show Rec.mk kx sx nx lx gx rx Rx Dx Ex ≠ Rec.mk kx sy ny ly gy ry Ry Dy Ey from fun h => e (congrArg Rec.seq h))];exact spec_same_s _ _ _ _ _ _ _ _ _ _ _ _ _ _ _ _ _ _ _ _ _ _ _ _ _ _ _ _ _ e w
 ·rw [q0w (show Rec.mk kx sx nx lx gx rx Rx Dx Ex ≠ Rec.mk ky sy ny ly gy ry Ry Dy Ey from fun h => e (congrArg Rec.kD h))];exact spec_same_k _ _ _ _ _ _ _ _ _ _ _ _ _ _ _ _ _ _ _ _ _ _ _ _ _ _ _ _ _ _ e w
theorem sameRec_k (kx : Int) (sx : Int) (nx : ByteArray) (lx : Int) (gx : Int) (rx : Int) (ky : Int) (sy : Int) (ny : ByteArray) (ly : Int) (gy : Int) (ry : Int) (a6x : Option Addr) (l6x c6x : Nat) (a7x : Option Addr) (l7x c7x : Nat) (a8x : Option Addr) (l8x c8x : Nat) (a6y : Option Addr) (l6y c6y : Nat) (a7y : Option Addr) (l7y c7y : Nat) (a8y : Option Addr) (l8y c8y : Nat) (e : kx ≠ ky) (w : World) :
  Calls Tryz.prog 28 #[.agg #[I J kx, I J sx, Ab nx, I J lx, I J gx, I J rx, Aa a6x l6x c6x, Aa a7x l7x c7x, Aa a8x l8x c8x], .agg #[I J ky, I J sy, Ab ny, I J ly, I J gy, I J ry, Aa a6y l6y c6y, Aa a7y l7y c7y, Aa a8y l8y c8y]] w fun e w' => e = .returned (Ac false) ∧ Chg [] w w' := by
 have t1 : (kx == ky) = false := by rw [beq_eq_false_iff_ne]; exact e
 clear e;go_enter Tryz.func28, Tryz.ntmps28;go_wp2_with fail;go_ret;exact ⟨rfl, by repeat (first | exact Chg.refl _ _ | refine Chg.alloc ?_ _)⟩
theorem sameRec_s (kx : Int) (sx : Int) (nx : ByteArray) (lx : Int) (gx : Int) (rx : Int) (sy : Int) (ny : ByteArray) (ly : Int) (gy : Int) (ry : Int) (a6x : Option Addr) (l6x c6x : Nat) (a7x : Option Addr) (l7x c7x : Nat) (a8x : Option Addr) (l8x c8x : Nat) (a6y : Option Addr) (l6y c6y : Nat) (a7y : Option Addr) (l7y c7y : Nat) (a8y : Option Addr) (l8y c8y : Nat) (e : sx ≠ sy) (w : World) :
  Calls Tryz.prog 28 #[.agg #[I J kx, I J sx, Ab nx, I J lx, I J gx, I J rx, Aa a6x l6x c6x, Aa a7x l7x c7x, Aa a8x l8x c8x], .agg #[I J kx, I J sy, Ab ny, I J ly, I J gy, I J ry, Aa a6y l6y c6y, Aa a7y l7y c7y, Aa a8y l8y c8y]] w fun e w' => e = .returned (Ac false) ∧ Chg [] w w' := by
 have t1 : (sx == sy) = false := by rw [beq_eq_false_iff_ne]; exact e
 clear e;go_enter Tryz.func28, Tryz.ntmps28;go_wp2_with fail;go_ret;exact ⟨rfl, by repeat (first | exact Chg.refl _ _ | refine Chg.alloc ?_ _)⟩
theorem sameRec_n (kx : Int) (sx : Int) (nx : ByteArray) (lx : Int) (gx : Int) (rx : Int) (ny : ByteArray) (ly : Int) (gy : Int) (ry : Int) (a6x : Option Addr) (l6x c6x : Nat) (a7x : Option Addr) (l7x c7x : Nat) (a8x : Option Addr) (l8x c8x : Nat) (a6y : Option Addr) (l6y c6y : Nat) (a7y : Option Addr) (l7y c7y : Nat) (a8y : Option Addr) (l8y c8y : Nat) (e : nx ≠ ny) (w : World) :
  Calls Tryz.prog 28 #[.agg #[I J kx, I J sx, Ab nx, I J lx, I J gx, I J rx, Aa a6x l6x c6x, Aa a7x l7x c7x, Aa a8x l8x c8x], .agg #[I J kx, I J sx, Ab ny, I J ly, I J gy, I J ry, Aa a6y l6y c6y, Aa a7y l7y c7y, Aa a8y l8y c8y]] w fun e w' => e = .returned (Ac false) ∧ Chg [] w w' := by
 have t1 : (nx.toList == ny.toList) = false := q5l e;clear e;go_enter Tryz.func28, Tryz.ntmps28;go_wp2_with fail;go_ret;exact ⟨rfl, by repeat (first | exact Chg.refl _ _ | refine Chg.alloc ?_ _)⟩
theorem sameRec_l (kx : Int) (sx : Int) (nx : ByteArray) (lx : Int) (gx : Int) (rx : Int) (ly : Int) (gy : Int) (ry : Int) (a6x : Option Addr) (l6x c6x : Nat) (a7x : Option Addr) (l7x c7x : Nat) (a8x : Option Addr) (l8x c8x : Nat) (a6y : Option Addr) (l6y c6y : Nat) (a7y : Option Addr) (l7y c7y : Nat) (a8y : Option Addr) (l8y c8y : Nat) (e : lx ≠ ly) (w : World) :
  Calls Tryz.prog 28 #[.agg #[I J kx, I J sx, Ab nx, I J lx, I J gx, I J rx, Aa a6x l6x c6x, Aa a7x l7x c7x, Aa a8x l8x c8x], .agg #[I J kx, I J sx, Ab nx, I J ly, I J gy, I J ry, Aa a6y l6y c6y, Aa a7y l7y c7y, Aa a8y l8y c8y]] w fun e w' => e = .returned (Ac false) ∧ Chg [] w w' := by
 have t1 : (lx == ly) = false := by rw [beq_eq_false_iff_ne]; exact e
 clear e;go_enter Tryz.func28, Tryz.ntmps28;go_wp2_with fail;go_ret;exact ⟨rfl, by repeat (first | exact Chg.refl _ _ | refine Chg.alloc ?_ _)⟩
theorem sameRec_g (kx : Int) (sx : Int) (nx : ByteArray) (lx : Int) (gx : Int) (rx : Int) (gy : Int) (ry : Int) (a6x : Option Addr) (l6x c6x : Nat) (a7x : Option Addr) (l7x c7x : Nat) (a8x : Option Addr) (l8x c8x : Nat) (a6y : Option Addr) (l6y c6y : Nat) (a7y : Option Addr) (l7y c7y : Nat) (a8y : Option Addr) (l8y c8y : Nat) (e : gx ≠ gy) (w : World) :
  Calls Tryz.prog 28 #[.agg #[I J kx, I J sx, Ab nx, I J lx, I J gx, I J rx, Aa a6x l6x c6x, Aa a7x l7x c7x, Aa a8x l8x c8x], .agg #[I J kx, I J sx, Ab nx, I J lx, I J gy, I J ry, Aa a6y l6y c6y, Aa a7y l7y c7y, Aa a8y l8y c8y]] w fun e w' => e = .returned (Ac false) ∧ Chg [] w w' := by
 have t1 : (gx == gy) = false := by rw [beq_eq_false_iff_ne]; exact e
 clear e;go_enter Tryz.func28, Tryz.ntmps28;go_wp2_with fail;go_ret;exact ⟨rfl, by repeat (first | exact Chg.refl _ _ | refine Chg.alloc ?_ _)⟩
theorem sameRec_r (kx : Int) (sx : Int) (nx : ByteArray) (lx : Int) (gx : Int) (rx : Int) (ry : Int) (a6x : Option Addr) (l6x c6x : Nat) (a7x : Option Addr) (l7x c7x : Nat) (a8x : Option Addr) (l8x c8x : Nat) (a6y : Option Addr) (l6y c6y : Nat) (a7y : Option Addr) (l7y c7y : Nat) (a8y : Option Addr) (l8y c8y : Nat) (e : rx ≠ ry) (w : World) :
  Calls Tryz.prog 28 #[.agg #[I J kx, I J sx, Ab nx, I J lx, I J gx, I J rx, Aa a6x l6x c6x, Aa a7x l7x c7x, Aa a8x l8x c8x], .agg #[I J kx, I J sx, Ab nx, I J lx, I J gx, I J ry, Aa a6y l6y c6y, Aa a7y l7y c7y, Aa a8y l8y c8y]] w fun e w' => e = .returned (Ac false) ∧ Chg [] w w' := by
 have t1 : (rx == ry) = false := by rw [beq_eq_false_iff_ne]; exact e
 clear e;go_enter Tryz.func28, Tryz.ntmps28;go_wp2_with fail;go_ret;exact ⟨rfl, by repeat (first | exact Chg.refl _ _ | refine Chg.alloc ?_ _)⟩
theorem z1b (kx : Int) (sx : Int) (nx : ByteArray) (lx : Int) (gx : Int) (rx : Int) (a6x : Option Addr) (l6x c6x : Nat) (a7x : Option Addr) (l7x c7x : Nat) (a8x : Option Addr) (l8x c8x : Nat) (a6y : Option Addr) (l6y c6y : Nat) (a7y : Option Addr) (l7y c7y : Nat) (a8y : Option Addr) (l8y c8y : Nat) (Rx Ry : List Int) (Dx Dy Ex Ey : List UInt8) (f6x f7x f8x f6y f7y f8y : List Nat) (w : World) (Aq : intL.sl w a6x l6x c6x Rx f6x) (Ao : q0o.sl w a7x l7x c7x Dx f7x) (Al : q0o.sl w a8x l8x c8x Ex f8x) (Ap : intL.sl w a6y l6y c6y Ry f6y) (Am : q0o.sl w a7y l7y c7y Dy f7y) (Ak : q0o.sl w a8y l8y c8y Ey f8y) :
  Calls Tryz.prog 28 #[.agg #[I J kx, I J sx, Ab nx, I J lx, I J gx, I J rx, Aa a6x l6x c6x, Aa a7x l7x c7x, Aa a8x l8x c8x], .agg #[I J kx, I J sx, Ab nx, I J lx, I J gx, I J rx, Aa a6y l6y c6y, Aa a7y l7y c7y, Aa a8y l8y c8y]] w fun e w' => e = .returned (Ac (q2c Rx Ry && (q2c Dx Dy && q2c Ex Ey))) ∧ Chg [] w w' := by
 have hc0 := ((Chg.refl [] w).alloc (.cells #[I J kx, I J sx, Ab nx, I J lx, I J gx, I J rx, Aa a6x l6x c6x, Aa a7x l7x c7x, Aa a8x l8x c8x] 38)).alloc (.cells #[I J kx, I J sx, Ab nx, I J lx, I J gx, I J rx, Aa a6y l6y c6y, Aa a7y l7y c7y, Aa a8y l8y c8y] 38);have AG := hid hc0;have AV := hid Ao; have AR := hid Al; have AU := hid Am; have AQ := hid Ak;have HI := hid (slEq_any a6x a6y l6x c6x l6y c6y Rx Ry f6x f6y _ (intL.sl_ext Aq hc0) (intL.sl_ext Ap hc0));clear hc0 Aq Ao Al Ap Am Ak;have tn : (nx.toList == nx.toList) = true := by simp
 cases h6 : q2c Rx Ry
 ·rw [h6] at HI;clear h6;go_enter Tryz.func28, Tryz.ntmps28;go_wp2_with fail;refine HI.o.mono ?_;rintro e w1 ⟨rfl, hc⟩;have Ai := hid (AG.o.trans0 hc);clear hc;go_wp2_with fail;go_ret;exact ⟨rfl, Ai.o⟩
 ·rw [h6] at HI;clear h6;generalize AA : q2c Dx Dy = v7;generalize A9 : q2c Ex Ey = v8;have V7 := hid AA;have V8 := hid A9;clear AA A9;have HK := hid (fun w1 (hc : Chg [] ((w.alloc (.cells #[I J kx, I J sx, Ab nx, I J lx, I J gx, I J rx, Aa a6x l6x c6x, Aa a7x l7x c7x, Aa a8x l8x c8x] 38)).alloc (.cells #[I J kx, I J sx, Ab nx, I J lx, I J gx, I J rx, Aa a6y l6y c6y, Aa a7y l7y c7y, Aa a8y l8y c8y] 38)) w1) => AW (hc.keep0 (q0b (q0k w (.cells #[I J kx, I J sx, Ab nx, I J lx, I J gx, I J rx, Aa a6x l6x c6x, Aa a7x l7x c7x, Aa a8x l8x c8x] 38)) (.cells #[I J kx, I J sx, Ab nx, I J lx, I J gx, I J rx, Aa a6y l6y c6y, Aa a7y l7y c7y, Aa a8y l8y c8y] 38))) (hc.keep0 (new_two w (.cells #[I J kx, I J sx, Ab nx, I J lx, I J gx, I J rx, Aa a6x l6x c6x, Aa a7x l7x c7x, Aa a8x l8x c8x] 38) (.cells #[I J kx, I J sx, Ab nx, I J lx, I J gx, I J rx, Aa a6y l6y c6y, Aa a7y l7y c7y, Aa a8y l8y c8y] 38))));go_enter Tryz.func28, Tryz.ntmps28;go_wp2_with fail;refine HI.o.mono ?_;rintro e w1 ⟨rfl, hc⟩;have Ai := hid (AG.o.trans0 hc);obtain ⟨Ae, Ag⟩ := HK.o w1 hc;have c2 := cellsOf Ae; have l2 := ltOf Ae; have P2 := hid Ae;have c3 := cellsOf Ag; have l3 := ltOf Ag; have P3 := hid Ag;clear Ae Ag hc HK HI;go_wp2_with fail;refine (byEq_any a7x a7y l7x c7x l7y c7y Dx Dy f7x f7y _ (q0o.sl_ext AV.o Ai.o) (q0o.sl_ext AU.o Ai.o)).mono ?_;rintro e w2 ⟨rfl, hc⟩;rw [V7.o];have Ah := hid (Ai.o.trans0 hc);have Ae := hc.keep0 P2.o; have Ag := hc.keep0 P3.o;clear c2 l2 c3 l3 P2 P3;have c2 := cellsOf Ae; have l2 := ltOf Ae; have P2 := hid Ae;have c3 := cellsOf Ag; have l3 := ltOf Ag; have P3 := hid Ag;clear Ae Ag hc;cases v7
  ·go_wp2_with fail;go_ret;exact ⟨rfl, Ah.o⟩
  ·go_wp2_with fail;refine (byEq_any a8x a8y l8x c8x l8y c8y Ex Ey f8x f8y _ (q0o.sl_ext AR.o Ah.o) (q0o.sl_ext AQ.o Ah.o)).mono ?_;rintro e w3 ⟨rfl, hc⟩;rw [V8.o];have AP := hid (Ah.o.trans0 hc);clear hc;go_wp2_with fail;go_ret;exact ⟨by simp, AP.o⟩
theorem q9e (x y : Rec) (cx cy : Array Value) (fx fy : List Nat) (w : World) (hx : recL.rep w cx.toList x fx) (hy : recL.rep w cy.toList y fy) :
  Calls Tryz.prog 28 #[.agg cx, .agg cy] w fun e w' => e = .returned (Ac (q2c x y)) ∧ Chg [] w w' := by
 obtain ⟨a6x, l6x, c6x, f6x, a7x, l7x, c7x, f7x, a8x, l8x, c8x, f8x, ex, -, -, -, -, -, -, Aq, Ao, Al, -⟩ := q0m.1 hx;obtain ⟨a6y, l6y, c6y, f6y, a7y, l7y, c7y, f7y, a8y, l8y, c8y, f8y, ey, -, -, -, -, -, -, Ap, Am, Ak, -⟩ := q0m.1 hy;obtain ⟨kx, sx, nx, lx, gx, rx, Rx, Dx, Ex⟩ := x;obtain ⟨ky, sy, ny, ly, gy, ry, Ry, Dy, Ey⟩ := y;simp only at ex ey Aq Ao Al Ap Am Ak;obtain rfl : cx = #[I J kx, I J sx, Ab nx, I J lx, I J gx, I J rx, Aa a6x l6x c6x, Aa a7x l7x c7x, Aa a8x l8x c8x] := AY.1 ex;obtain rfl : cy = #[I J ky, I J sy, Ab ny, I J ly, I J gy, I J ry, Aa a6y l6y c6y, Aa a7y l7y c7y, Aa a8y l8y c8y] := AY.1 ey;clear ex ey hx hy;by_cases e : kx = ky
 ·subst e;by_cases e : sx = sy
  ·subst e;by_cases e : nx = ny
   ·subst e;by_cases e : lx = ly
    ·subst e;by_cases e : gx = gy
     ·subst e;by_cases e : rx = ry
      ·subst e;rw [show q2c (Rec.mk kx sx nx lx gx rx Rx Dx Ex) (Rec.mk kx sx nx lx gx rx Ry Dy Ey) = (q2c Rx Ry && (q2c Dx Dy && q2c Ex Ey)) from sameV_rec];exact z1b _ _ _ _ _ _ _ _ _ _ _ _ _ _ _ _ _ _ _ _ _ _ _ _ Rx Ry Dx Dy Ex Ey _ _ _ _ _ _ w Aq Ao Al Ap Am Ak
      ·rw [q0w (show Rec.mk kx sx nx lx gx rx Rx Dx Ex ≠ Rec.mk kx sx nx lx gx ry Ry Dy Ey from fun h => e (congrArg Rec.row h))];exact sameRec_r _ _ _ _ _ _ _ _ _ _ _ _ _ _ _ _ _ _ _ _ _ _ _ _ _ e w
     ·rw [q0w (show Rec.mk kx sx nx lx gx rx Rx Dx Ex ≠ Rec.mk kx sx nx lx gy ry Ry Dy Ey from fun h => e (congrArg Rec.gP h))];exact sameRec_g _ _ _ _ _ _ _ _ _ _ _ _ _ _ _ _ _ _ _ _ _ _ _ _ _ _ e w
    ·rw [q0w (show Rec.mk kx sx nx lx gx rx Rx Dx Ex ≠ Rec.mk kx sx nx ly gy ry Ry Dy Ey from fun h => e (congrArg Rec.length h))];exact sameRec_l _ _ _ _ _ _ _ _ _ _ _ _ _ _ _ _ _ _ _ _ _ _ _ _ _ _ _ e w
   ·rw [q0w (show Rec.mk kx sx nx lx gx rx Rx Dx Ex ≠ Rec.mk kx sx ny ly gy ry Ry Dy Ey from fun h => e (congrArg Rec.nM h))];exact sameRec_n _ _ _ _ _ _ _ _ _ _ _ _ _ _ _ _ _ _ _ _ _ _ _ _ _ _ _ _ e w
  ·rw [q0w (show Rec.mk kx sx nx lx gx rx Rx Dx Ex ≠ Rec.mk kx sy ny ly gy ry Ry Dy Ey from fun h => e (congrArg Rec.seq h))];exact sameRec_s _ _ _ _ _ _ _ _ _ _ _ _ _ _ _ _ _ _ _ _ _ _ _ _ _ _ _ _ _ e w
 ·rw [q0w (show Rec.mk kx sx nx lx gx rx Rx Dx Ex ≠ Rec.mk ky sy ny ly gy ry Ry Dy Ey from fun h => e (congrArg Rec.kD h))];exact sameRec_k _ _ _ _ _ _ _ _ _ _ _ _ _ _ _ _ _ _ _ _ _ _ _ _ _ _ _ _ _ _ e w
end Go.Proofs.YthhaednigdgclaaGreat
namespace Go.Proofs.YthhaednigdgclaaGreat
open Go.RowKit
open Go.Lib (hid)
def Know (b : Nat) (cs : Array Value) (w : World) : Prop := ∀ j, w.cell? ⟨b, j, none⟩ = cs[j]?
theorem Know.of {w : World} {b : Nat} {cs : Array Value} {E : TypeId} {fr : Nat × Nat} (hb : w.heap[b]? = some (Ad cs E fr)) : Know b cs w := fun j => cell_of_row w b j cs E fr hb
theorem q0h {w w' : World} (hc : Chg [] w w') {b o : Nat} {v : Value} (h : w.cell? ⟨b, o, none⟩ = some v) (hb : b < w.heap.size) : w'.cell? ⟨b, o, none⟩ = some v := (hc.facts.1 b o hb).trans h
section
variable {P : Program} {ops : Array Oper} {Q : Exit → Act → World → Prop} {md : Region.Mode} {S : World → Prop} {fuel : Nat} {listed : Array Bool} {a : Act} {w : World}
theorem q0g {id : Nat} (S : World → Prop) (hm : P.follows .mixedOrders = true) (hS : S w.drew) (h : wpAnyH P .any ops Q S ops.size (AZ ops.size false) a w.drew) : (Code.region id ops true).wp P Q a w :=
 wp_region_held_drew hm hS (fun _ => h)
theorem q2h {i : Nat} {oi : Oper} (h : ops.toList[i]? = some oi) : ops[i]? = some oi := by simpa using h
theorem rg_take (i : Nat) {oi : Oper} {v : Value} (hi : ops.toList[i]? = some oi) (hc : (Region.noSelect ops && Region.free md ops listed i && (Region.ready md ops listed).contains i) = true)
  (hQ : ∀ c a w, Q (.panic c) (a.put oi.dst v) w → Q (.panic c) a w) (hS : S w) (hw : Region.wanted oi (yielded ops a.tmps) = true) (hy : ∀ w, S w → (execOp a.eval oi).run P w = .ok (.value v) w)
  (h : wpAnyH P md ops Q S fuel (listed.setIfInBounds i true) (a.put oi.dst v) w) : wpAnyH P md ops Q S (fuel + 1) listed a w := by
 simp only [Bool.and_eq_true] at hc;exact wpAnyH_take (q2h hi) hc.1.1 hc.1.2 hc.2 hQ (.inl ⟨hw, hy⟩) hS h
theorem rg_skip (i : Nat) {oi : Oper} (hi : ops.toList[i]? = some oi) (hc : (Region.noSelect ops && Region.free md ops listed i && (Region.ready md ops listed).contains i) = true)
  (hQ : ∀ c a w, Q (.panic c) (a.put oi.dst undef) w → Q (.panic c) a w) (hS : S w) (hw : Region.wanted oi (yielded ops a.tmps) = false)
  (h : wpAnyH P md ops Q S fuel (listed.setIfInBounds i true) (a.put oi.dst undef) w) : wpAnyH P md ops Q S (fuel + 1) listed a w := by
 simp only [Bool.and_eq_true] at hc;exact wpAnyH_take (q2h hi) hc.1.1 hc.1.2 hc.2 hQ (.inr ⟨hw, rfl⟩) hS h
theorem rg_call (i : Nat) {oi : Oper} (hi : ops.toList[i]? = some oi) (hr : Region.ready md ops listed = [i])
  (h : ∀ K' : Act → World → Prop, Shut (∀ a w, S w → (S w → wpAnyH P md ops Q S fuel (listed.setIfInBounds i true) a w) → K' a w) → if Region.wanted oi (yielded ops a.tmps) = true then Oper.wp P oi a w K' Q else K' (a.put oi.dst undef) w) :
  wpAnyH P md ops Q S (fuel + 1) listed a w :=
 wpAnyH_ready hr (by simp) (AllReadyH.cons (q2h hi) h AllReadyH.nil)
theorem rgq (i : Nat) {oi : Oper} 
  (h : ∀ K' : Act → World → Prop, Shut (∀ a w, S w → (S w → wpAnyH P md ops Q S fuel (listed.setIfInBounds i true) a w) → K' a w) → if Region.wanted oi (yielded ops a.tmps) = true then Oper.wp P oi a w K' Q else K' (a.put oi.dst undef) w) (hi : ops.toList[i]? = some oi := by rfl) (hr : Region.ready md ops listed = [i] := by kernel_rfl) :
  wpAnyH P md ops Q S (fuel + 1) listed a w := rg_call i hi hr h
theorem rgT (i : Nat) {oi : Oper} {v : Value} {a' : Act} (hS : S w) (h : wpAnyH P md ops Q S fuel (listed.setIfInBounds i true) a' w) (hi : ops.toList[i]? = some oi := by rfl)
  (hc : (Region.noSelect ops && Region.free md ops listed i && (Region.ready md ops listed).contains i) = true := by kernel_rfl)
  (hQ : ∀ c a w, Q (.panic c) (a.put oi.dst v) w → Q (.panic c) a w := by exact fun _ _ _ h => h) (hw : Region.wanted oi (yielded ops a.tmps) = true := by rfl)
  (hy : ∀ w : World, (execOp a.eval oi).run P w = .ok (.value v) w := by intro w; go_simp; (try with_reducible rfl))
  (ha : a.put oi.dst v = a' := by (try simp only [Act.put, pA, pB, pC]); (try rfl)) : wpAnyH P md ops Q S (fuel + 1) listed a w :=
 rg_take i hi hc hQ hS hw (fun w _ => hy w) (ha ▸ h)
theorem rgL (i : Nat) {S' : World → Prop} {oi : Oper} {v : Value} {a' : Act} (hS : S w) (hSO : Hid (∀ w, S w → S' w)) (h : wpAnyH P md ops Q S fuel (listed.setIfInBounds i true) a' w) (hi : ops.toList[i]? = some oi := by rfl)
  (hc : (Region.noSelect ops && Region.free md ops listed i && (Region.ready md ops listed).contains i) = true := by kernel_rfl)
  (hQ : ∀ c a w, Q (.panic c) (a.put oi.dst v) w → Q (.panic c) a w := by exact fun _ _ _ h => h) (hw : Region.wanted oi (yielded ops a.tmps) = true := by rfl)
  (hy : ∀ w : World, S' w → (execOp a.eval oi).run P w = .ok (.value v) w := by intro w hSw; (try unfold Know at hSw); go_simp; (try with_reducible rfl))
  (ha : a.put oi.dst v = a' := by (try simp only [Act.put, pA, pB, pC]); (try rfl)) : wpAnyH P md ops Q S (fuel + 1) listed a w :=
 rg_take i hi hc hQ hS hw (fun w h => hy w (hSO.out w h)) (ha ▸ h)
theorem rgS (i : Nat) {oi : Oper} {a' : Act} (hS : S w) (h : wpAnyH P md ops Q S fuel (listed.setIfInBounds i true) a' w) (hi : ops.toList[i]? = some oi := by rfl)
  (hc : (Region.noSelect ops && Region.free md ops listed i && (Region.ready md ops listed).contains i) = true := by kernel_rfl)
  (hQ : ∀ c a w, Q (.panic c) (a.put oi.dst undef) w → Q (.panic c) a w := by exact fun _ _ _ h => h) (hw : Region.wanted oi (yielded ops a.tmps) = false := by rfl)
  (ha : a.put oi.dst undef = a' := by (try simp only [Act.put, pA, pB, pC]); (try rfl)) : wpAnyH P md ops Q S (fuel + 1) listed a w :=
 rg_skip i hi hc hQ hS hw (ha ▸ h)
theorem q0f (S : World → Prop) : ∃ S1 : World → Prop, Hid (∀ w, S w → S1 w) ∧ Hid (∀ w, S1 w → S w) := ⟨S, fun _ h => h, fun _ h => h⟩
/-! short words for what is kept behind a call -/
theorem bk {S : List Nat} {w w' : World} {b : Nat} {cs : Array Value} {E : TypeId} (hc : Chg S w w') (h : w.heap[b]? = some (Ad cs E (0, 0))) (hS : b ∉ S) : (∀ j, w'.cell? ⟨b, j, none⟩ = cs[j]?) ∧ b < w'.heap.size ∧ Hid (w'.heap[b]? = some (Ad cs E (0, 0))) :=
 ⟨cellsOf (hc.keepb h hS), ltOf (hc.keepb h hS), hc.keepb h hS⟩
theorem bk0 {w w' : World} {b : Nat} {cs : Array Value} {E : TypeId} (hc : Chg [] w w') (h : w.heap[b]? = some (Ad cs E (0, 0))) : (∀ j, w'.cell? ⟨b, j, none⟩ = cs[j]?) ∧ b < w'.heap.size ∧ Hid (w'.heap[b]? = some (Ad cs E (0, 0))) := bk hc h (by simp)
theorem hct {a b c : World} (h : Hid (Chg [] a b)) (hc : Chg [] b c) : Hid (Chg [] a c) := h.out.trans0 hc
theorem hsl {α : Type} {L : Lay α} {w w' : World} {a : Option Addr} {len cap : Nat} {xs : List α} {fp : List Nat} (h : Hid (L.sl w a len cap xs fp)) (hc : Chg [] w w') : Hid (L.sl w' a len cap xs fp) := L.sl_ext h.out hc
end
theorem bkq {w0 w w' : World} {b d : Nat} {cs ds : Array Value} {E F : TypeId} (hc : Chg [] w w') (A : RowKit.Hid (w.heap[b]? = some (Ad cs E (0, 0)))) (B : RowKit.Hid (w.heap[d]? = some (Ad ds F (0, 0)))) (C : RowKit.Hid (Chg [] w0 w)) : (∀ j, w'.cell? ⟨b, j, none⟩ = cs[j]?) ∧ b < w'.heap.size ∧ RowKit.Hid (w'.heap[b]? = some (Ad cs E (0, 0))) ∧ (∀ j, w'.cell? ⟨d, j, none⟩ = ds[j]?) ∧ d < w'.heap.size ∧ RowKit.Hid (w'.heap[d]? = some (Ad ds F (0, 0))) ∧ RowKit.Hid (Chg [] w0 w') :=
 have h := bk0 hc A.o;have k := bk0 hc B.o
 ⟨h.1, h.2.1, h.2.2, k.1, k.2.1, k.2.2, hct C hc⟩
theorem wDn {P : Program} {md : Region.Mode} {ops : Array Oper} {Q : Exit → Act → World → Prop} {S : World → Prop} {fuel : Nat} {listed : Array Bool} {a : Act} {w : World} (h : Q .normal a w) (hr : Region.ready md ops listed = [] := by kernel_rfl) : wpAnyH P md ops Q S fuel listed a w := wpAnyH_done hr h _
end Go.Proofs.YthhaednigdgclaaGreat
namespace Go.Proofs.YthhaednigdgclaaGreat
open Go.RowKit
open Go.Lib (hid)
def q3v (P : Program) (md : Region.Mode) (ops : Array Oper) (Q : Exit → Act → World → Prop) (S : Array Bool → World → Prop) : Nat → Array Bool → Act → World → Prop
 | 0, listed, a, w => Region.ready md ops listed = [] ∧ Q .normal a w
 | fuel + 1, listed, a, w =>
  (Region.ready md ops listed = [] → Q .normal a w) ∧
  ∀ i ∈ Region.ready md ops listed, wpOp P ops Q i (fun a' w' => S (listed.setIfInBounds i true) w' ∧ q3v P md ops Q S fuel (listed.setIfInBounds i true) a' w') a w
def Till (M : List Nat) (C : World → Prop) (l : Array Bool) (w : World) : Prop := (∀ m ∈ M, l.getD m false = false) → C w
def q2j (md : Region.Mode) (ops : Array Oper) (l : Array Bool) : Prop := ∀ (j : Nat) (o : Oper), ops[j]? = some o → l.getD j false = true → ∀ e ∈ o.after, Region.binds md e = true → l.getD e.on false = true
def waits (md : Region.Mode) (ops : Array Oper) : Nat → Nat → Nat → Bool
 | 0, m, i => m == i
 | n + 1, m, i => m == i || (match ops[m]? with
  | none => false
  | some o => o.after.toList.any (fun e => Region.binds md e && waits md ops n e.on i))
section
variable {P : Program} {ops : Array Oper} {Q : Exit → Act → World → Prop} {md : Region.Mode} {M : List Nat} {C : World → Prop} {fuel : Nat} {listed : Array Bool} {a : Act} {w : World}
theorem q8e (hc : q2j md ops listed) : ∀ (n m i : Nat), waits md ops n m i = true → listed.getD m false = true → listed.getD i false = true
 | 0, m, i, h, hm => by simp [waits] at h; subst h; exact hm
 | n + 1, m, i, h, hm => by
  unfold waits at h;rw [Bool.or_eq_true] at h;rcases h with h | h
  ·simp at h; subst h; exact hm
  ·cases ho : ops[m]? with
   | none => rw [ho] at h; cases h
   | some o =>
    rw [ho] at h;simp only [List.any_eq_true, Bool.and_eq_true] at h;obtain ⟨e, he, hb, hw⟩ := h;exact q8e hc n e.on i hw (hc m o ho hm e (by simpa using he) hb)
theorem q2j.next (hc : q2j md ops listed) {j : Nat} (hj : j ∈ Region.ready md ops listed) : q2j md ops (listed.setIfInBounds j true) := by
 intro k o ho hk e he hb;obtain ⟨_, oj, AC, hall⟩ := mem_ready.1 hj;by_cases h : j = k
 ·subst h;rw [AC] at ho;cases ho;exact getD_set_true (hall e he hb)
 ·rw [getD_set_ne false h] at hk;exact getD_set_true (hc k o ho hk e he hb)
theorem q2j.none : q2j md ops (AZ ops.size false) := by
 intro k o ho hk;rw [Bb, Array.getElem?_replicate] at hk
 split at hk <;> cases hk
theorem unl {i : Nat} (h : i ∈ Region.ready md ops listed) : listed.getD i false = false := by
 have h0 := (mem_ready.1 h).1;rw [Bb] at h0 ⊢;cases e : listed[i]? with
 | none => rfl
 | some b => rw [e] at h0; exact h0
theorem z0d {S : Array Bool → World → Prop} : ∀ (fuel : Nat) (listed : Array Bool) (a : Act) (w : World), q3v P md ops Q S fuel listed a w → wpAny P md ops Q fuel listed a w
 | 0, _, _, _, h => h
 | fuel + 1, _, _, _, h => ⟨h.1, fun i hi => wpOp_mono (fun a' w' h' => z0d fuel _ a' w' h'.2) (h.2 i hi)⟩
theorem Till.now {i n : Nat} (hS : Till M C listed w) (Af : q2j md ops listed) (hi : listed.getD i false = false) (hM : ∀ m ∈ M, waits md ops n m i = true) : C w :=
 hS (fun m hm => by
  cases e : listed.getD m false
  ·rfl
  ·rw [q8e Af n m i (hM m hm) e] at hi; cases hi)
theorem Till.more (hS : Till M C listed w) (j : Nat) : Till M C (listed.setIfInBounds j true) w := fun hm => hS (fun m AH => by
  have := hm m AH;cases e : listed.getD m false
  ·rfl
  ·rw [getD_set_true e] at this; cases this)
theorem q5k {i : Nat} {oi : Oper} {v : Value} (hi : ops[i]? = some oi) (AB : ∀ (j : Nat) (o : Oper) cs b, ops[j]? = some o → o.op ≠ .select cs b)
  (hQ : ∀ c a w, Q (.panic c) (a.put oi.dst v) w → Q (.panic c) a w) {D : World → Prop} (hD : ∀ (l : Array Bool) w, q2j md ops l → l.getD i false = false → Till M C l w → D w) (hiM : i ∉ M) :
  ∀ (fuel : Nat) (listed : Array Bool) (a : Act) (w : World),
   (∀ j oj, ops[j]? = some oj → j ≠ i → listed.getD j true = false → (∀ e ∈ oj.after, Region.binds md e = true → e.on ≠ i) → oi.apart ops oj = true) →
   i ∈ Region.ready md ops listed → q2j md ops listed → YieldsIf P ops D oi v a → Till M C listed w →
   q3v P md ops Q (Till M C) fuel (listed.setIfInBounds i true) (a.put oi.dst v) w → q3v P md ops Q (Till M C) (fuel + 1) listed a w := by
 intro fuel
 induction fuel with
 | zero =>
  intro listed a w _ hr Af hy hS H;refine ⟨fun h => (by rw [h] at hr; cases hr), fun j hj => ?_⟩;by_cases Aj : j = i
  ·subst Aj;exact hy.wpOp hi (hD _ _ Af (unl hr) hS) ⟨hS.more j, H⟩
  ·have := ready_mono hj Aj;rw [H.1] at this;cases this
 | succ fuel ih =>
  intro listed a w Ay hr Af hy hS H;refine ⟨fun h => (by rw [h] at hr; cases hr), fun j hj => ?_⟩;by_cases Aj : j = i
  ·subst Aj;exact hy.wpOp hi (hD _ _ Af (unl hr) hS) ⟨hS.more j, H⟩
  ·have h1 := H.2 j (ready_mono hj Aj);obtain ⟨AD, oj, AC, hall⟩ := mem_ready.1 hj;have AK : ∀ e ∈ oj.after, Region.binds md e = true → e.on ≠ i := fun e he hb heq => by
    have h1 := hall e he hb;rw [heq, unl hr] at h1;cases h1
   have h2 := wpOp_putIf AC (Ay j oj AC Aj AD AK) (fun cs b => AB i oi cs b hi) (fun cs b => AB j oj cs b AC) hQ hy h1;have Az : ∀ k ok, ops[k]? = some ok → k ≠ i → (listed.setIfInBounds j true).getD k true = false →
     (∀ e ∈ ok.after, Region.binds md e = true → e.on ≠ i) → oi.apart ops ok = true := fun k ok hk hki hun hno => by
    refine Ay k ok hk hki ?_ hno;by_cases hjk : j = k
    ·subst hjk; exact AD
    ·rw [getD_set_ne true hjk] at hun; exact hun
   refine wpOp_mono (fun a' w' h3 => ?_) h2;obtain ⟨hy', hS', hW⟩ := h3;have hTl : Till M C (listed.setIfInBounds j true) w' := fun hm => hS' (fun m AH => by
    have hne : i ≠ m := fun e => hiM (by rw [e]; exact AH)
    rw [Be _ _ (Ne.symm Aj), getD_set_ne false hne];exact hm m AH)
   refine ⟨hTl, ih (listed.setIfInBounds j true) a' w' Az (ready_mono hr (Ne.symm Aj)) (Af.next hj) hy' hTl ?_⟩;rw [Be _ _ Aj];exact hW
theorem q1l {id : Nat} (M : List Nat) (C : World → Prop) (hm : P.follows .mixedOrders = true) (hC : C w.drew) (h : q2j .any ops (AZ ops.size false) → Till M C (AZ ops.size false) w.drew → q3v P .any ops Q (Till M C) ops.size (AZ ops.size false) a w.drew) : (Code.region id ops true).wp P Q a w :=
 wp_region_any hm (z0d _ _ _ _ (h q2j.none (fun _ => hC)))
theorem ggT (i : Nat) {oi : Oper} {v : Value} {a' : Act} (Af : q2j md ops listed) (hS : Till M C listed w)
  (h : q2j md ops (listed.setIfInBounds i true) → Till M C (listed.setIfInBounds i true) w → q3v P md ops Q (Till M C) fuel (listed.setIfInBounds i true) a' w) (hi : ops.toList[i]? = some oi := by rfl)
  (hc : (Region.noSelect ops && Region.free md ops listed i && (Region.ready md ops listed).contains i && !M.contains i) = true := by kernel_rfl)
  (hQ : ∀ c a w, Q (.panic c) (a.put oi.dst v) w → Q (.panic c) a w := by exact fun _ _ _ h => h) (hw : Region.wanted oi (yielded ops a.tmps) = true := by rfl)
  (hy : ∀ w : World, (execOp a.eval oi).run P w = .ok (.value v) w := by intro w; go_simp; (try with_reducible rfl))
  (ha : a.put oi.dst v = a' := by (try simp only [Act.put, pA, pB, pC]); (try rfl)) : q3v P md ops Q (Till M C) (fuel + 1) listed a w := by
 simp only [Bool.and_eq_true, Bool.not_eq_true'] at hc;have hr : i ∈ Region.ready md ops listed := by simpa using hc.1.2
 exact q5k (D := fun _ => True) (q2h hi) (Region.noSelect_spec hc.1.1.1) hQ (fun _ _ _ _ _ => trivial) (by simpa using hc.2) fuel listed a w (Region.free_spec (q2h hi) hc.1.1.2) hr Af (.inl ⟨hw, fun w _ => hy w⟩) hS (ha ▸ h (Af.next hr) (hS.more i))
theorem ggL (i : Nat) {oi : Oper} {v : Value} {a' : Act} {D : World → Prop} (Af : q2j md ops listed) (hS : Till M C listed w) (hCD : Hid (∀ w, C w → D w))
  (h : q2j md ops (listed.setIfInBounds i true) → Till M C (listed.setIfInBounds i true) w → q3v P md ops Q (Till M C) fuel (listed.setIfInBounds i true) a' w) (hi : ops.toList[i]? = some oi := by rfl)
  (hc : (Region.noSelect ops && Region.free md ops listed i && (Region.ready md ops listed).contains i && M.all (fun m => waits md ops ops.size m i) && !M.contains i) = true := by kernel_rfl)
  (hQ : ∀ c a w, Q (.panic c) (a.put oi.dst v) w → Q (.panic c) a w := by exact fun _ _ _ h => h) (hw : Region.wanted oi (yielded ops a.tmps) = true := by rfl)
  (hy : ∀ w : World, D w → (execOp a.eval oi).run P w = .ok (.value v) w := by intro w hSw; (try unfold Know at hSw); go_simp; (try with_reducible rfl))
  (ha : a.put oi.dst v = a' := by (try simp only [Act.put, pA, pB, pC]); (try rfl)) : q3v P md ops Q (Till M C) (fuel + 1) listed a w := by
 simp only [Bool.and_eq_true, List.all_eq_true, Bool.not_eq_true'] at hc;have hr : i ∈ Region.ready md ops listed := by simpa using hc.1.1.2
 exact q5k (D := D) (q2h hi) (Region.noSelect_spec hc.1.1.1.1) hQ (fun l w h1 h2 h3 => hCD.out w (h3.now h1 h2 hc.1.2)) (by simpa using hc.2) fuel listed a w (Region.free_spec (q2h hi) hc.1.1.1.2) hr Af (.inl ⟨hw, hy⟩) hS (ha ▸ h (Af.next hr) (hS.more i))
theorem ggS (i : Nat) {oi : Oper} {a' : Act} (Af : q2j md ops listed) (hS : Till M C listed w)
  (h : q2j md ops (listed.setIfInBounds i true) → Till M C (listed.setIfInBounds i true) w → q3v P md ops Q (Till M C) fuel (listed.setIfInBounds i true) a' w) (hi : ops.toList[i]? = some oi := by rfl)
  (hc : (Region.noSelect ops && Region.free md ops listed i && (Region.ready md ops listed).contains i && !M.contains i) = true := by kernel_rfl)
  (hQ : ∀ c a w, Q (.panic c) (a.put oi.dst undef) w → Q (.panic c) a w := by exact fun _ _ _ h => h) (hw : Region.wanted oi (yielded ops a.tmps) = false := by rfl)
  (ha : a.put oi.dst undef = a' := by (try simp only [Act.put, pA, pB, pC]); (try rfl)) : q3v P md ops Q (Till M C) (fuel + 1) listed a w := by
 simp only [Bool.and_eq_true, Bool.not_eq_true'] at hc;have hr : i ∈ Region.ready md ops listed := by simpa using hc.1.2
 exact q5k (D := fun _ => True) (q2h hi) (Region.noSelect_spec hc.1.1.1) hQ (fun _ _ _ _ _ => trivial) (by simpa using hc.2) fuel listed a w (Region.free_spec (q2h hi) hc.1.1.2) hr Af (.inr ⟨hw, rfl⟩) hS (ha ▸ h (Af.next hr) (hS.more i))
theorem ggC (i : Nat) {oi : Oper} (Af : q2j md ops listed) (hi : ops.toList[i]? = some oi) (hr : Region.ready md ops listed = [i])
  (h : ∀ K' : Act → World → Prop, Shut (∀ a w, Till M C (listed.setIfInBounds i true) w → (q2j md ops (listed.setIfInBounds i true) → Till M C (listed.setIfInBounds i true) w → q3v P md ops Q (Till M C) fuel (listed.setIfInBounds i true) a w) → K' a w) → if Region.wanted oi (yielded ops a.tmps) = true then Oper.wp P oi a w K' Q else K' (a.put oi.dst undef) w) :
  q3v P md ops Q (Till M C) (fuel + 1) listed a w := by
 refine ⟨fun h0 => (by rw [hr] at h0; cases h0), fun j hj => ?_⟩;have Aj : j = i := by rw [hr] at hj; simpa using hj
 subst Aj;exact wpOp_step (q2h hi) (fun K' hK => h K' (fun a w hS hW => hK a w ⟨hS, hW (Af.next hj) hS⟩))
theorem ggq (i : Nat) {oi : Oper} (Af : q2j md ops listed) 
  (h : ∀ K' : Act → World → Prop, Shut (∀ a w, Till M C (listed.setIfInBounds i true) w → (q2j md ops (listed.setIfInBounds i true) → Till M C (listed.setIfInBounds i true) w → q3v P md ops Q (Till M C) fuel (listed.setIfInBounds i true) a w) → K' a w) → if Region.wanted oi (yielded ops a.tmps) = true then Oper.wp P oi a w K' Q else K' (a.put oi.dst undef) w) (hi : ops.toList[i]? = some oi := by rfl) (hr : Region.ready md ops listed = [i] := by kernel_rfl) :
  q3v P md ops Q (Till M C) (fuel + 1) listed a w := ggC i Af hi hr h
theorem q3m {a : Act} (hr : Region.ready md ops listed = []) (h : Q .normal a w) : ∀ fuel, q3v P md ops Q (Till M C) fuel listed a w
 | 0 => ⟨hr, h⟩
 | _ + 1 => ⟨fun _ => h, by rw [hr]; simp⟩
theorem Till.done {m : Nat} (hm : m ∈ M) (h : listed.getD m false = true) : Till M C listed w := fun hall => by rw [hall m hm] at h; cases h
end
end Go.Proofs.YthhaednigdgclaaGreat
namespace Go.Proofs.YthhaednigdgclaaGreat
open Go.RowKit
open Go.Lib (hid)
def z0c (n v : Int) : Prop := 0 ≤ v ∧ (1 ≤ n → v < n) ∧ (n < 1 → v = 0)
theorem z0c.zero {n : Int} (h : n < 1) : z0c n 0 := ⟨by omega, by omega, fun _ => rfl⟩
theorem z0c.emod {n v : Int} (h : 1 ≤ n) : z0c n (v % n) := ⟨Bi _ (by omega), fun _ => Bf _ (by omega), by omega⟩
theorem q6o {v : Int} (h : 0 ≤ v) (h2 : v ≤ 9223372036854775807) : IntKind.i64.wrap v = v := Ba _ (by omega)
theorem q6i (b : Nat) (a : Option Addr) (la ca : Nat) (xs : List UInt8) (f : List Nat) (t n : Int) (w : World) (hb : w.heap[b]? = some (.cells #[Aa a la ca, I J t] 73)) (ha : q0o.sl w a la ca xs f) (Ar : b ∉ f)
  (Ax : la ≤ 1048576) (ht : 0 ≤ t) (ht2 : t ≤ 1073741824) (hn : -1099511627776 ≤ n) (Aw : n ≤ 1099511627776) :
  Calls Tryz.prog 39 #[.pointer (some ⟨b, 0, none⟩), I J n] w fun e w' => ∃ v, e = .returned (I J v) ∧ z0c n v ∧ w'.heap[b]? = some (.cells #[Aa a la ca, I J (t + 1)] 73) ∧ Chg [b] w w' := by
 have cb := cellsOf hb; have lb := ltOf hb; have fb := q0j hb;have hb2 := q0n (o := 1) (v := I J (t + 1)) (cur' := #[Aa a la ca, I J (t + 1)]) hb rfl;have hc2 := Chg.setCell (Chg.refl [b] w) ⟨b, 1, none⟩ (I J (t + 1)) (.inl (by simp));have ha2 := q0o.sl_chg ha hc2 (fun x hx he => Ar (by simp at he; exact he ▸ hx));have HB := hid hb; have AJ := hid hb2; have Ah := hid hc2; have HA := hid ha2;clear hb hb2 hc2 ha ha2 Ar;by_cases h1 : n < 1
 ·go_enter Tryz.func39, Tryz.ntmps39;go_wp2_with fail;go_ret;exact ⟨0, rfl, z0c.zero h1, AJ.o, Ah.o⟩
 have hp : (0 : Int) < n := by omega
 by_cases h2 : la = 0
 ·subst h2;have HD := hid (z0c.emod (n := n) (v := t * 7) (by omega));go_enter Tryz.func39, Tryz.ntmps39;go_wp2_with fail;go_ret;exact ⟨_, rfl, HD.o, AJ.o, Ah.o⟩
 have hk : (0 : Int) < (la : Int) := by omega
 obtain ⟨j, hj⟩ : ∃ j : Nat, t.tmod la = (j : Int) := ⟨(t.tmod la).toNat, by have := Bj (la : Int) ht; omega⟩;obtain ⟨i, hi⟩ : ∃ i : Nat, (t + 1).tmod la = (i : Int) := ⟨((t + 1).tmod la).toNat, by have := Bj (la : Int) (show 0 ≤ t + 1 by omega); omega⟩;have AL : j < la := by have := Bg t hk; omega
 have hil : i < la := by have := Bg (t + 1) hk; omega
 obtain ⟨q, hq⟩ : ∃ q, t.tdiv la = q := ⟨_, rfl⟩;have hq0 : 0 ≤ q := by rw [← hq]; exact Int.tdiv_nonneg ht (by omega)
 have hq1 : q ≤ t := by rw [← hq, Bc ht]; exact Bh _ ht
 obtain ⟨x, X, B, o, HX, rfl, hcx, hx0, hx1⟩ := q4o HA.o AL;obtain ⟨y, Y, B', o', HY, e', hcy, hy0, hy1⟩ := q4o HA.o hil;simp only [Option.some.injEq, Addr.mk.injEq, and_true] at e';obtain ⟨rfl, rfl⟩ := e';have e1 : IntKind.i64.wrap (t + 1) = t + 1 := q6o (by omega) (by omega);have e2 : IntKind.i64.wrap (q * 37) = q * 37 := q6o (by omega) (by omega);have e3 : IntKind.i64.wrap (X + q * 37) = X + q * 37 := q6o (by omega) (by omega);have hj1 : (j : Int) < (la : Int) := by omega
 have hi1 : (i : Int) < (la : Int) := by omega
 by_cases h3 : 200 < n
 ·have e4 : IntKind.i64.wrap ((X + q * 37) * 251) = (X + q * 37) * 251 := q6o (by omega) (by omega);have e5 : IntKind.i64.wrap (Y * 13) = Y * 13 := q6o (by omega) (by omega);have e6 : IntKind.i64.wrap ((X + q * 37) * 251 + Y * 13) = (X + q * 37) * 251 + Y * 13 := q6o (by omega) (by omega);have e7 : IntKind.i64.wrap ((X + q * 37) * 251 + Y * 13 + t) = (X + q * 37) * 251 + Y * 13 + t := q6o (by omega) (by omega);have HD := hid (z0c.emod (n := n) (v := (X + q * 37) * 251 + Y * 13 + t) (by omega));go_enter Tryz.func39, Tryz.ntmps39;go_wp2_with fail;go_quiet (fail);go_wp2_with fail;go_quiet (fail);go_wp2_with fail;go_ret;exact ⟨_, rfl, HD.o, AJ.o, Ah.o.drewN _⟩
 ·have HD := hid (z0c.emod (n := n) (v := X + q * 37) (by omega));go_enter Tryz.func39, Tryz.ntmps39;go_wp2_with fail;go_quiet (fail);go_wp2_with fail;go_ret;exact ⟨_, rfl, HD.o, AJ.o, Ah.o.drewN _⟩
theorem int_rowL {w : World} : ∀ {xs : List Int}, (∀ x ∈ xs, q0s x) → intL.all w (xs.map (Value.int IntKind.i64)) xs []
 | [], _ => ⟨rfl, rfl⟩
 | x :: xs, h => ⟨[I J x], xs.map (Value.int IntKind.i64), [], [], rfl, rfl, ⟨rfl, h x (by simp), rfl⟩, int_rowL (fun y hy => h y (by simp [hy]))⟩
theorem int_rowS {w : World} {b : Nat} {E : TypeId} {xs : List Int} (hb : w.heap[b]? = some (.cells (xs.map (Value.int IntKind.i64)).toArray E)) (h : ∀ x ∈ xs, q0s x) (hl : xs.length ≤ 1048576) :
  intL.sl w (some ⟨b, 0, none⟩) xs.length xs.length xs [b] :=
 ⟨rfl, Nat.le_refl _, by unfold maxLen; omega, (fun h => by cases h), .inr ⟨b, 0, _, E, (0, 0), [], rfl, hb, by
  have h1 := int_rowL (w := w) h;rw [List.drop_zero, List.take_of_length_le (by simp [intL])];exact h1, rfl⟩⟩
theorem u8_mod (v : Int) : ∃ x : UInt8, v % 256 = (x.toNat : Int) := ⟨UInt8.ofNat (v % 256).toNat, by rw [UInt8.toNat_ofNat']; omega⟩
theorem z0m (b : Nat) (a : Option Addr) (la ca : Nat) (xs : List UInt8) (f : List Nat) (t : Int) (pa : Option Addr) (pl pc : Nat) (ys : List Int) (g : List Nat) (w : World) (hb : w.heap[b]? = some (.cells #[Aa a la ca, I J t] 73)) (ha : q0o.sl w a la ca xs f) (Ar : b ∉ f)
  (Ax : la ≤ 1048576) (ht : 0 ≤ t) (ht2 : t ≤ 1073741824) (hp : intL.sl w pa pl pc ys g) (hbg : b ∉ g) (hpl : 1 ≤ pl) (Au : pl ≤ 1000) :
  Calls Tryz.prog 74 #[.pointer (some ⟨b, 0, none⟩), Aa pa pl pc] w fun e w' => ∃ v, e = .returned (I J v) ∧ v ∈ ys ∧ w'.heap[b]? = some (.cells #[Aa a la ca, I J (t + 1)] 73) ∧ Chg [b] w w' := by
 have HN := hid (q6i b a la ca xs f t (pl : Int) w hb ha Ar Ax ht (by omega) (by omega) (by omega));have HP := hid (AW hp hbg);clear hb ha Ar hp hbg;go_enter Tryz.func74, Tryz.ntmps74;go_wp2_with fail;refine HN.o.mono ?_;rintro e w1 ⟨v, rfl, hD, hb1, hc⟩;obtain ⟨j, rfl⟩ : ∃ j : Nat, v = (j : Int) := ⟨v.toNat, by have := hD.1; omega⟩;have AL : j < pl := by have := hD.2.1 (by omega); omega
 obtain ⟨y, B, o, HX, rfl, hcx, hok⟩ := q2n (intL.sl_chg HP.o.1 hc (fun x hx he => HP.o.2 (by simp at he; exact he ▸ hx))) AL;have HB := hid hb1; have HC := hid hc; have HD := hid hD;clear hb1 hc hD;go_wp2_with fail;go_ret;exact ⟨y, rfl, List.mem_of_getElem? HX.o.1, HB.o, HC.o⟩
theorem l1Byte_any (b : Nat) (a : Option Addr) (la ca : Nat) (xs : List UInt8) (f : List Nat) (t : Int) (w : World) (hb : w.heap[b]? = some (.cells #[Aa a la ca, I J t] 73)) (ha : q0o.sl w a la ca xs f) (Ar : b ∉ f)
  (Ax : la ≤ 1048576) (ht : 0 ≤ t) (ht2 : t ≤ 1073741800) :
  Calls Tryz.prog 105 #[.pointer (some ⟨b, 0, none⟩)] w fun e w' => ∃ x : UInt8, e = .returned (.int .u8 x.toNat) ∧ w'.heap[b]? = some (.cells #[Aa a la ca, I J (t + 3)] 73) ∧ Chg [b] w w' := by
 have HN := hid (q6i b a la ca xs f t 256 w hb ha Ar Ax ht (by omega) (by omega) (by omega));have HA := hid ha; have HF := hid (fun x hx he => Ar (by simp at he; exact he ▸ hx) : ∀ x ∈ f, x ∉ [b]);clear hb ha;go_enter Tryz.func105, Tryz.ntmps105;go_wp2_with fail;refine HN.o.mono ?_;rintro e w1 ⟨v1, rfl, hD1, hb1, hc1⟩;have H1 := hid (AW hD1 (AW hb1 hc1));clear hD1 hb1 hc1;go_wp2_with fail;refine (q6i b a la ca xs f (t + 1) 256 w1 H1.o.2.1 (q0o.sl_chg HA.o H1.o.2.2 HF.o) Ar Ax (by omega) (by omega) (by omega) (by omega)).mono ?_;rintro e w2 ⟨v2, rfl, hD2, hb2, hc2⟩;have H2 := hid (AW hD2 (AW hb2 hc2));have lb2 := ltOf hb2;clear hD2 hb2 hc2;go_wp2_with fail;have hrow := int_rowS (w := w2.alloc (.cells #[I J v1, I J v2, I J 0, I J 1, I J 2, I J 255] 2)) (b := w2.heap.size) (xs := [v1, v2, 0, 1, 2, 255]) (q0c rfl _) (by
  have q1 := H1.o.1.1; have q2 := H1.o.1.2.1 (by omega); have q3 := H2.o.1.1; have q4 := H2.o.1.2.1 (by omega);intro x hx; simp at hx; unfold q0s; omega) (by simp)
 refine (z0m b a la ca xs f (t + 1 + 1) _ 6 6 [v1, v2, 0, 1, 2, 255] [w2.heap.size] _ (q0b H2.o.2.1 _) (q0o.sl_ext (q0o.sl_chg (q0o.sl_chg HA.o H1.o.2.2 HF.o) H2.o.2.2 HF.o) ((Chg.refl [] w2).alloc _)) Ar Ax (by omega) (by omega) hrow (by simp; omega) (by omega) (by omega)).mono ?_;rintro e w3 ⟨v, rfl, hv, hb3, hc3⟩;have HC := hid ((H1.o.2.2.trans H2.o.2.2 (by simp)).alloc _ |>.trans hc3 (by simp));obtain ⟨x, hx⟩ := u8_mod v;have HB := hid (show w3.heap[b]? = some (.cells #[Aa a la ca, I J (t + 3)] 73) by rw [hb3]; congr 6; omega);clear hb3 hc3 hrow;go_wp2_with fail;go_ret;exact ⟨x, by simp [hx], HB.o, HC.o⟩
theorem l1Source_any (a : Option Addr) (la ca : Nat) (w : World) :
  Calls Tryz.prog 16 #[Aa a la ca] w fun e w' => e = .returned (.pointer (some ⟨w.heap.size, 0, none⟩)) ∧ w'.heap[w.heap.size]? = some (.cells #[Aa a la ca, I J 0] 73) ∧ Chg [] w w' := by
 have HN := hid (q0k w (.cells #[Aa a la ca, I J 0] 73));go_enter Tryz.func16, Tryz.ntmps16;go_wp2_with fail;go_ret;exact ⟨rfl, HN.o, (Chg.refl [] w).alloc _⟩
theorem lwBig_any (a : Option Addr) (la ca : Nat) (w : World) :
  Calls Tryz.prog 4 #[Aa a la ca] w fun e w' => e = .returned (Ac (decide (1048576 < (la : Int)))) ∧ w = w' := by
 go_enter Tryz.func4, Tryz.ntmps4;go_wp2_with fail;go_ret;exact ⟨rfl, rfl⟩
theorem NewRes.store {L : Lay UInt8} {r : Int × List UInt8} {xs : List UInt8} {w wr w2 : World} {o : Obj} {a : Option Addr} {cap : Nat} {fp : List Nat} (hr : r = (0, xs)) (hs : L.sl wr a xs.length cap xs fp)
  (hf : q1r (w.alloc o).heap.size wr fp) (hc : Chg [] (w.alloc o) wr) (h2 : ∃ v u, w2 = (wr.setCell ⟨w.heap.size, 0, none⟩ v).setCell ⟨w.heap.size, 1, none⟩ u) :
  NewRes L r w (.returned (.agg #[I J 0, Aa a xs.length cap])) w2 := by
 obtain ⟨v, u, rfl⟩ := h2;have hc2 : Chg [w.heap.size] wr ((wr.setCell ⟨w.heap.size, 0, none⟩ v).setCell ⟨w.heap.size, 1, none⟩ u) := ((Chg.refl _ wr).setCell _ _ (.inl (by simp))).setCell _ _ (.inl (by simp));have hfw : ∀ b ∈ fp, b ∉ [w.heap.size] := fun b hb hb' => by have := (hf.2 b hb).1; simp at this hb'; omega
 rw [hr];exact ⟨a, cap, fp, rfl, L.sl_chg hs hc2 hfw, (hf.mono (by simp)).chg hc2, (((Chg.refl [] w).alloc _).trans0 hc).trans hc2 (fun x hx => .inr (by simp at hx; omega))⟩
def Alike (xs : List (List UInt8)) : Prop := ∀ x ∈ xs, x.length = (xs.headD []).length
instance (xs : List (List UInt8)) : Decidable (Alike xs) := by unfold Alike; infer_instance
/-! ### the sum -/
end Go.Proofs.YthhaednigdgclaaGreat
namespace Go.Proofs.YthhaednigdgclaaGreat
open Go.RowKit
open Go.Lib (hid)
def SrcB (b : Nat) (a : Option Addr) (la ca : Nat) (xs : List UInt8) (f : List Nat) (t : Int) (w : World) : Prop :=
 (∃ t', 0 ≤ t' ∧ t' ≤ t ∧ w.heap[b]? = some (.cells #[Aa a la ca, I J t'] 73 (0, 0))) ∧ q0o.sl w a la ca xs f ∧ b ∉ f ∧ la ≤ 1048576
section
variable {b : Nat} {a : Option Addr} {la ca : Nat} {xs : List UInt8} {f : List Nat} {t : Int} {w w' : World}
theorem SrcB.lt (h : SrcB b a la ca xs f t w) : b < w.heap.size := by obtain ⟨⟨_, _, _, h⟩, _⟩ := h; exact ltOf h
theorem SrcB.ext (h : SrcB b a la ca xs f t w) (hc : Chg [] w w') : SrcB b a la ca xs f t w' := by
 obtain ⟨⟨t', h1, h2, h3⟩, h4, h5, h6⟩ := h;exact ⟨⟨t', h1, h2, hc.keep0 h3⟩, q0o.sl_ext h4 hc, h5, h6⟩
theorem SrcB.chg {S : List Nat} (h : SrcB b a la ca xs f t w) (hc : Chg S w w') (hb : b ∉ S) (hf : ∀ x ∈ f, x ∉ S) : SrcB b a la ca xs f t w' := by
 obtain ⟨⟨t', h1, h2, h3⟩, h4, h5, h6⟩ := h;exact ⟨⟨t', h1, h2, hc.keepb h3 hb⟩, q0o.sl_chg h4 hc hf, h5, h6⟩
theorem SrcB.keep {n : Nat} (h : SrcB b a la ca xs f t w) (hk : ∀ k, k < n → w'.heap[k]? = w.heap[k]?) (hb : b < n) (hf : ∀ x ∈ f, x < n) : SrcB b a la ca xs f t w' := by
 obtain ⟨⟨t', h1, h2, h3⟩, h4, h5, h6⟩ := h;exact ⟨⟨t', h1, h2, (hk b hb).trans h3⟩, q0o.sl_keep h4 (fun x hx => hk x (hf x hx)), h5, h6⟩
theorem SrcB.mono {t2 : Int} (h : SrcB b a la ca xs f t w) (ht : t ≤ t2) : SrcB b a la ca xs f t2 w := by
 obtain ⟨⟨t', h1, h2, h3⟩, h4⟩ := h;exact ⟨⟨t', h1, by omega, h3⟩, h4⟩
end
theorem q1k (b : Nat) (a : Option Addr) (la ca : Nat) (xs : List UInt8) (f : List Nat) (t n : Int) (w : World) (h : SrcB b a la ca xs f t w) (ht : t ≤ 1073741700) (hn : -1099511627776 ≤ n) (Aw : n ≤ 1099511627776) :
  Calls Tryz.prog 39 #[.pointer (some ⟨b, 0, none⟩), I J n] w fun e w' => ∃ v, e = .returned (I J v) ∧ z0c n v ∧ SrcB b a la ca xs f (t + 1) w' ∧ Chg [b] w w' := by
 obtain ⟨⟨t', h1, h2, h3⟩, h4, h5, h6⟩ := h;refine (q6i b a la ca xs f t' n w h3 h4 h5 h6 h1 (by omega) hn Aw).mono ?_;rintro e w' ⟨v, rfl, hd, hb, hc⟩;exact ⟨v, rfl, hd, ⟨⟨t' + 1, by omega, by omega, hb⟩, q0o.sl_chg h4 hc (fun x hx hm => h5 (by rw [AX] at hm; exact hm ▸ hx)), h5, h6⟩, hc⟩
theorem pick_any (b : Nat) (a : Option Addr) (la ca : Nat) (xs : List UInt8) (f : List Nat) (t : Int) (pa : Option Addr) (pl pc : Nat) (ys : List Int) (g : List Nat) (w : World) (h : SrcB b a la ca xs f t w) (ht : t ≤ 1073741700) (hp : intL.sl w pa pl pc ys g) (hbg : b ∉ g) (hpl : 1 ≤ pl) (Au : pl ≤ 1000) :
  Calls Tryz.prog 74 #[.pointer (some ⟨b, 0, none⟩), Aa pa pl pc] w fun e w' => ∃ v, e = .returned (I J v) ∧ v ∈ ys ∧ SrcB b a la ca xs f (t + 1) w' ∧ Chg [b] w w' := by
 obtain ⟨⟨t', h1, h2, h3⟩, h4, h5, h6⟩ := h;refine (z0m b a la ca xs f t' pa pl pc ys g w h3 h4 h5 h6 h1 (by omega) hp hbg hpl Au).mono ?_;rintro e w' ⟨v, rfl, hd, hb, hc⟩;exact ⟨v, rfl, hd, ⟨⟨t' + 1, by omega, by omega, hb⟩, q0o.sl_chg h4 hc (fun x hx hm => h5 (by rw [AX] at hm; exact hm ▸ hx)), h5, h6⟩, hc⟩
theorem q1a (b : Nat) (a : Option Addr) (la ca : Nat) (xs : List UInt8) (f : List Nat) (t : Int) (pl : Nat) (ys : List Int) (w : World) (h : SrcB b a la ca xs f t w) (ht : t ≤ 1073741700) (hy : ∀ y ∈ ys, q0s y) (hl : pl = ys.length) (hpl : 1 ≤ pl) (Au : pl ≤ 1000) (cs : Array Value) (hcs : cs = (ys.map (Value.int IntKind.i64)).toArray) (bn : Nat) (hbn : bn = w.heap.size) :
  Calls Tryz.prog 74 #[.pointer (some ⟨b, 0, none⟩), Aa (some ⟨bn, 0, none⟩) pl pl] (w.alloc (Ad cs 2)) fun e w' => ∃ v, e = .returned (I J v) ∧ v ∈ ys ∧ SrcB b a la ca xs f (t + 1) w' ∧ Chg [b] w w' := by
 subst hcs hl hbn;refine (pick_any b a la ca xs f t _ ys.length ys.length ys [w.heap.size] _ (h.ext ((Chg.refl [] w).alloc _)) ht (int_rowS (q0k w _) hy (by omega)) (by have := h.lt; simp; omega) hpl Au).mono ?_;rintro e w' ⟨v, rfl, hv, hs, hc⟩;exact ⟨v, rfl, hv, hs, ((Chg.refl [b] w).alloc _).trans hc (fun x hx => .inl hx)⟩
theorem byte_any (b : Nat) (a : Option Addr) (la ca : Nat) (xs : List UInt8) (f : List Nat) (t : Int) (w : World) (h : SrcB b a la ca xs f t w) (ht : t ≤ 1073741700) :
  Calls Tryz.prog 105 #[.pointer (some ⟨b, 0, none⟩)] w fun e w' => ∃ x : UInt8, e = .returned (.int .u8 x.toNat) ∧ SrcB b a la ca xs f (t + 3) w' ∧ Chg [b] w w' := by
 obtain ⟨⟨t', h1, h2, h3⟩, h4, h5, h6⟩ := h;refine (l1Byte_any b a la ca xs f t' w h3 h4 h5 h6 h1 (by omega)).mono ?_;rintro e w' ⟨v, rfl, hb, hc⟩;exact ⟨v, rfl, ⟨⟨t' + 3, by omega, by omega, hb⟩, q0o.sl_chg h4 hc (fun x hx hm => h5 (by rw [AX] at hm; exact hm ▸ hx)), h5, h6⟩, hc⟩
theorem source_any (a : Option Addr) (la ca : Nat) (xs : List UInt8) (f : List Nat) (w : World) (ha : q0o.sl w a la ca xs f) (Ax : la ≤ 1048576) :
  Calls Tryz.prog 16 #[Aa a la ca] w fun e w' => e = .returned (.pointer (some ⟨w.heap.size, 0, none⟩)) ∧ SrcB w.heap.size a la ca xs f 0 w' ∧ Chg [] w w' := by
 refine (l1Source_any a la ca w).mono ?_;rintro e w' ⟨rfl, hb, hc⟩;exact ⟨rfl, ⟨⟨0, by omega, by omega, hb⟩, q0o.sl_ext ha hc, fun hm => Nat.lt_irrefl _ (q0o.sl_lt ha _ hm), Ax⟩, hc⟩
theorem q1y (b : Nat) (a : Option Addr) (la ca : Nat) (xs : List UInt8) (f : List Nat) (t n : Int) (w : World) (h : SrcB b a la ca xs f t w) (ht : t ≤ 1073741700) (hn : -1099511627776 ≤ n) (Aw : n ≤ 1099511627776) :
  Calls Tryz.prog 41 #[.pointer (some ⟨b, 0, none⟩), I J n] w fun e w' => ∃ v, e = .returned (Ac v) ∧ SrcB b a la ca xs f (t + 1) w' ∧ Chg [b] w w' := by
 have HN := hid (q1k b a la ca xs f t n w h ht hn Aw);clear h;go_enter Tryz.func41, Tryz.ntmps41;go_wp2_with fail;refine HN.o.mono ?_;rintro e w1 ⟨v, rfl, -, hs, hc⟩;have HS := hid (AW hs hc);clear hs hc;go_wp2_with fail;go_ret;exact ⟨_, rfl, HS.o⟩
/-! ### rows -/
def q8d (n Bd m : Nat) (w : World) (A : Option Addr) (C : Nat) (rows : List (List UInt8)) : Prop := ∃ g, q0o.slice.sl w A m C rows g ∧ q1r n w g ∧ ∀ b ∈ g, b < Bd
section
variable {n Bd m C : Nat} {w w' : World} {A : Option Addr} {rows : List (List UInt8)}
theorem q8d.chg {S : List Nat} (h : q8d n Bd m w A C rows) (hc : Chg S w w') (hS : ∀ x ∈ S, x < n) : q8d n Bd m w' A C rows := by
 obtain ⟨g, h1, h2, h3⟩ := h;exact ⟨g, q0o.slice.sl_chg h1 hc (fun b hb hm => by have := (h2.2 b hb).1; have := hS b hm; omega), h2.chg hc, h3⟩
theorem q8d.up {Bd' : Nat} (h : q8d n Bd m w A C rows) (hB : Bd ≤ Bd') : q8d n Bd' m w A C rows := by
 obtain ⟨g, h1, h2, h3⟩ := h;exact ⟨g, h1, h2, fun b hb => Nat.lt_of_lt_of_le (h3 b hb) hB⟩
theorem q8d.put {B o i C2 : Nat} {A2 : Option Addr} {y : List UInt8} {f2 : List Nat} (h : q8d n Bd m w (some ⟨B, o, none⟩) C rows) (hi : i < m) (hx : q0o.sl w A2 y.length C2 y f2) (ff : q1r Bd w f2) (hn : n ≤ Bd) :
  q8d n w.heap.size m (w.setCell ⟨B, o + i, none⟩ (Aa A2 y.length C2)) (some ⟨B, o, none⟩) C (rows.set i y) := by
 obtain ⟨g, h1, h2, h3⟩ := h;obtain ⟨fp', k1, k2, k3⟩ := q0o.slice.sl_put rfl h1 h2.1 hi (v := Aa A2 y.length C2) (x' := y) (f' := f2) ⟨A2, y.length, C2, rfl, hx⟩ (fun b hb hg => by have := (ff.2 b hb).1; have := h3 b hg; omega) ff.1;refine ⟨fp', k1, ⟨k3, fun b hb => ?_⟩, fun b hb => ?_⟩
 ·rcases k2 b hb with h | h
  ·exact ⟨(h2.2 b h).1, (h2.2 b h).2.setCell _ _⟩
  ·exact ⟨Nat.le_trans hn (ff.2 b h).1, (ff.2 b h).2.setCell _ _⟩
 ·rcases k2 b hb with h | h
  ·exact h2.lts b h
  ·exact ff.lts b h
theorem q8d.row (h : q8d n Bd m w A C rows) {i : Nat} (hi : i < m) : ∃ x b off X l c f, Hid (rows[i]? = some x ∧ n ≤ b ∧ q4j w b ∧ (∀ y ∈ f, n ≤ y ∧ y < Bd)) ∧ A = some ⟨b, off, none⟩ ∧ w.cell? ⟨b, off + i, none⟩ = some (Aa X l c) ∧ Hid (q0o.sl w X l c x f) := by
 obtain ⟨g, h1, h2, h3⟩ := h;obtain ⟨x, b, off, X, l, c, f, HX, e, hc, HS⟩ := slc_at h1 hi;exact ⟨x, b, off, X, l, c, f, ⟨HX.o.1, (h2.2 b HX.o.2.1).1, (h2.2 b HX.o.2.1).2, fun y hy => ⟨(h2.2 y (HX.o.2.2 y hy)).1, h3 y (HX.o.2.2 y hy)⟩⟩, e, hc, HS⟩
theorem q8d.len (h : q8d n Bd m w A C rows) : m = rows.length := by obtain ⟨g, h1, _⟩ := h; exact h1.1
end
theorem q9t {S : List Nat} {w w' : World} (hc : Chg S w w') {b o : Nat} {v : Value} (h : w.cell? ⟨b, o, none⟩ = some v) (hb : b < w.heap.size) (hS : b ∉ S) : w'.cell? ⟨b, o, none⟩ = some v := by
 have e := hc.block b hb hS;simp only [World.cell?, e] at h ⊢;exact h
end Go.Proofs.YthhaednigdgclaaGreat
namespace Go.Proofs.YthhaednigdgclaaGreat
open Go.RowKit
open Go.Lib (hid)
theorem name_any (b : Nat) (a : Option Addr) (la ca : Nat) (xs : List UInt8) (f : List Nat) (t : Int) (w : World) (h : SrcB b a la ca xs f t w) (ht : t ≤ 1073741700) :
  Calls Tryz.prog 77 #[.pointer (some ⟨b, 0, none⟩)] w fun e w' => ∃ nm, e = .returned (Ab nm) ∧ nm.size ≤ 64 ∧ SrcB b a la ca xs f (t + 1) w' ∧ Chg [b] w w' := by
 have HS := hid h;have AO := hid (show w.heap.size ∉ [b] from fun hm => by rw [AX] at hm; have := h.lt; omega);clear h;go_enter Tryz.func77, Tryz.ntmps77;go_wp2_with fail;refine (q1k b a la ca xs f t 6 _ (HS.o.ext ((Chg.refl [] w).alloc _)) ht (by omega) (by omega)).mono ?_;rintro e w1 ⟨v, rfl, hd, hs, hc⟩;have hb := hc.keepb (q0k w _) AO.o;have cb := cellsOf hb; have lb := ltOf hb;have HN := hid (AW hs (((Chg.refl [b] w).alloc _).trans hc (fun x hx => .inl hx)));have hv : v = 0 ∨ v = 1 ∨ v = 2 ∨ v = 3 ∨ v = 4 ∨ v = 5 := by have := hd.1; have := hd.2.1 (by omega); omega
 clear hs hc hb hd;rcases hv with rfl | rfl | rfl | rfl | rfl | rfl <;>
 ·go_wp2_with fail;go_ret;exact ⟨_, rfl, by decide, HN.o.1, HN.o.2⟩
theorem bentName_any (b : Nat) (a : Option Addr) (la ca : Nat) (xs : List UInt8) (f : List Nat) (t : Int) (w : World) (h : SrcB b a la ca xs f t w) (ht : t ≤ 1073741600) :
  Calls Tryz.prog 78 #[.pointer (some ⟨b, 0, none⟩)] w fun e w' => ∃ nm, e = .returned (Ab nm) ∧ nm.size ≤ 64 ∧ SrcB b a la ca xs f (t + 2) w' ∧ Chg [b] w w' := by
 have HS := hid h;have HLT := hid h.lt;clear h;go_enter Tryz.func78, Tryz.ntmps78;go_wp2_with fail;refine (q1y b a la ca xs f t 14 _ HS.o (by omega) (by omega) (by omega)).mono ?_;rintro e w1 ⟨q, rfl, hs1, hc1⟩;have HS1 := hid hs1; have Ai := hid hc1;have AO := hid (show w1.heap.size ∉ [b] from fun hm => by rw [AX] at hm; have := hc1.size; have := HLT.o; omega);clear hs1 hc1;cases q
 ·go_wp2_with fail;refine (name_any b a la ca xs f (t + 1) _ HS1.o (by omega)).mono ?_;rintro e w2 ⟨nm, rfl, hn, hs, hc⟩;have HN := hid (AW hn (AW (hs.mono (t2 := t + 2) (by omega)) (Ai.o.trans hc (fun x hx => .inl hx))));clear hn hs hc;go_wp2_with fail;go_ret;exact ⟨_, rfl, HN.o.1, HN.o.2.1, HN.o.2.2⟩
 ·go_wp2_with fail;refine (q1k b a la ca xs f (t + 1) 7 _ (HS1.o.ext ((Chg.refl [] w1).alloc _)) (by omega) (by omega) (by omega)).mono ?_;rintro e w2 ⟨v, rfl, hd, hs, hc⟩;have hb := hc.keepb (q0k w1 _) AO.o;have cb := cellsOf hb; have lb := ltOf hb;have HN := hid (AW (hs.mono (t2 := t + 2) (by omega)) ((Ai.o.alloc _).trans hc (fun x hx => .inl hx)));have hv : v = 0 ∨ v = 1 ∨ v = 2 ∨ v = 3 ∨ v = 4 ∨ v = 5 ∨ v = 6 := by have := hd.1; have := hd.2.1 (by omega); omega
  clear hs hc hb hd;rcases hv with rfl | rfl | rfl | rfl | rfl | rfl | rfl <;>
  ·go_wp2_with fail;go_ret;exact ⟨_, rfl, by decide, HN.o.1, HN.o.2⟩

structure IRes where
 code : Int
 list : List Int
def irsL : Lay IRes := (intL.pair intL.slice).via (fun x => (x.code, x.list))
theorem z1l {w : World} {cs : List Value} {x : IRes} {fp : List Nat} : irsL.rep w cs x fp ↔ ∃ a l c, cs = [I J x.code, Aa a l c] ∧ q0s x.code ∧ intL.sl w a l c x.list fp := by
 constructor
 ·rintro ⟨_, _, _, f, rfl, rfl, ⟨rfl, h1, rfl⟩, a, l, c, rfl, h2⟩;exact ⟨a, l, c, rfl, h1, h2⟩
 ·rintro ⟨a, l, c, rfl, h1, h2⟩;exact ⟨[_], _, [], _, rfl, rfl, ⟨rfl, h1, rfl⟩, _, _, _, rfl, h2⟩
theorem irs_open {w : World} {cs : Array Value} {x : IRes} {fp : List Nat} (h : irsL.rep w cs.toList x fp) : ∃ a l c, cs = #[I J x.code, Aa a l c] ∧ q0s x.code ∧ intL.sl w a l c x.list fp := by
 obtain ⟨a, l, c, ex, h1, h2⟩ := z1l.1 h;exact ⟨a, l, c, AY.1 ex, h1, h2⟩
theorem z0o : (Tryz.prog.info? 42).map (fun i => i.size) = some 2 := by kernel_rfl
end Go.Proofs.YthhaednigdgclaaGreat
