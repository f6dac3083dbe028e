/- Several texts in one. -/
import Derived.Test.YtphmpimgbmedbaaGreatRows
import Derived.Test.YtphmpimgbmedbaaGreatQaa
import Derived.Test.YtphmpimgbmedbaaGreatQac
import Derived.Deep.RegionLaw
import Derived.Test.YtphmpimgbmedbaaGreatQae
set_option maxRecDepth 100000
set_option maxHeartbeats 8000000
namespace Go.Proofs.YtphmpimgbmedbaaGreat
open Go.RowKit
open Go.Lib (hid)
/-! ### FactorOf -/
/-! ### PartsFor -/
def q0u (d n : Int) : Int × Int := if n < 1 then (0, 6) else if 12 * d < n then (0, 2) else ((n + 4 * d - 1) / (4 * d), 0)
def Shp.parts (s : Shp) (n : Int) : Int × Int := if s.ok then ((q0u s.data n).2, (q0u s.data n).1) else (3, 0)
theorem q5p (s : Shp) (n : Int) (hd : 1 ≤ s.data) (hd2 : s.data ≤ 3) (hn : q1t n) (w : World) :
  Calls Tryz.prog 283 #[.agg s.cells, .int .i64 n] w fun e w' => e = .returned (.tuple #[.int .i64 (q0u s.data n).1, .int .i64 (q0u s.data n).2]) ∧ Chg [] w w' := by
 obtain ⟨hn1, hn2⟩ := hn
 obtain ⟨g, c, d, p, r', q, b, u, t⟩ := s
 simp only at hd hd2 ⊢
 have h : d = 1 ∨ d = 2 ∨ d = 3 := by omega
 clear hd hd2
 rcases h with rfl | rfl | rfl
 ·simp only [Shp.cells]
  by_cases h1 : n < 1
  ·have HR := hid (show q0u 1 n = (0, 6) by rw [q0u, if_pos h1])
   generalize q0u 1 n = r at HR ⊢
   go_enter Tryz.func283, Tryz.ntmps283
   go_wp2
   go_ret2
   exact ⟨by rw [HR.out]; rfl, by repeat (first | exact Chg.refl _ _ | refine Chg.alloc ?_ _ | refine Chg.drewN ?_ _ | refine Chg.drew ?_)⟩
  ·by_cases h2 : 12 < n
   ·have HR := hid (show q0u 1 n = (0, 2) by rw [q0u, if_neg h1, if_pos (by omega)])
    generalize q0u 1 n = r at HR ⊢
    go_enter Tryz.func283, Tryz.ntmps283
    go_wp2
    go_ret2
    exact ⟨by rw [HR.out]; rfl, by repeat (first | exact Chg.refl _ _ | refine Chg.alloc ?_ _ | refine Chg.drewN ?_ _ | refine Chg.drew ?_)⟩
   ·have HR := hid (show q0u 1 n = ((n - 1) / 4 + 1, 0) by rw [q0u, if_neg h1, if_neg (by omega)]; exact Prod.ext (by show _ / _ = _; omega) rfl)
    generalize q0u 1 n = r at HR ⊢
    go_enter Tryz.func283, Tryz.ntmps283
    go_wp2
    go_ret2
    exact ⟨by rw [HR.out]; rfl, by repeat (first | exact Chg.refl _ _ | refine Chg.alloc ?_ _ | refine Chg.drewN ?_ _ | refine Chg.drew ?_)⟩
 ·simp only [Shp.cells]
  by_cases h1 : n < 1
  ·have HR := hid (show q0u 2 n = (0, 6) by rw [q0u, if_pos h1])
   generalize q0u 2 n = r at HR ⊢
   go_enter Tryz.func283, Tryz.ntmps283
   go_wp2
   go_ret2
   exact ⟨by rw [HR.out]; rfl, by repeat (first | exact Chg.refl _ _ | refine Chg.alloc ?_ _ | refine Chg.drewN ?_ _ | refine Chg.drew ?_)⟩
  ·by_cases h2 : 24 < n
   ·have HR := hid (show q0u 2 n = (0, 2) by rw [q0u, if_neg h1, if_pos (by omega)])
    generalize q0u 2 n = r at HR ⊢
    go_enter Tryz.func283, Tryz.ntmps283
    go_wp2
    go_ret2
    exact ⟨by rw [HR.out]; rfl, by repeat (first | exact Chg.refl _ _ | refine Chg.alloc ?_ _ | refine Chg.drewN ?_ _ | refine Chg.drew ?_)⟩
   ·have HR := hid (show q0u 2 n = ((n - 1) / 8 + 1, 0) by rw [q0u, if_neg h1, if_neg (by omega)]; exact Prod.ext (by show _ / _ = _; omega) rfl)
    generalize q0u 2 n = r at HR ⊢
    go_enter Tryz.func283, Tryz.ntmps283
    go_wp2
    go_ret2
    exact ⟨by rw [HR.out]; rfl, by repeat (first | exact Chg.refl _ _ | refine Chg.alloc ?_ _ | refine Chg.drewN ?_ _ | refine Chg.drew ?_)⟩
 ·simp only [Shp.cells]
  by_cases h1 : n < 1
  ·have HR := hid (show q0u 3 n = (0, 6) by rw [q0u, if_pos h1])
   generalize q0u 3 n = r at HR ⊢
   go_enter Tryz.func283, Tryz.ntmps283
   go_wp2
   go_ret2
   exact ⟨by rw [HR.out]; rfl, by repeat (first | exact Chg.refl _ _ | refine Chg.alloc ?_ _ | refine Chg.drewN ?_ _ | refine Chg.drew ?_)⟩
  ·by_cases h2 : 36 < n
   ·have HR := hid (show q0u 3 n = (0, 2) by rw [q0u, if_neg h1, if_pos (by omega)])
    generalize q0u 3 n = r at HR ⊢
    go_enter Tryz.func283, Tryz.ntmps283
    go_wp2
    go_ret2
    exact ⟨by rw [HR.out]; rfl, by repeat (first | exact Chg.refl _ _ | refine Chg.alloc ?_ _ | refine Chg.drewN ?_ _ | refine Chg.drew ?_)⟩
   ·have HR := hid (show q0u 3 n = ((n - 1) / 12 + 1, 0) by rw [q0u, if_neg h1, if_neg (by omega)]; exact Prod.ext (by show _ / _ = _; omega) rfl)
    generalize q0u 3 n = r at HR ⊢
    go_enter Tryz.func283, Tryz.ntmps283
    go_wp2
    go_ret2
    exact ⟨by rw [HR.out]; rfl, by repeat (first | exact Chg.refl _ _ | refine Chg.alloc ?_ _ | refine Chg.drewN ?_ _ | refine Chg.drew ?_)⟩
theorem q4w (s : Shp) (n : Int) (hd : 1 ≤ s.data) (hd2 : s.data ≤ 3) (hn : q1t n) (w : World) :
  Calls Tryz.prog 248 #[.agg s.cells, .int .i64 n] w fun e w' => e = .returned (.int .i64 (q0u s.data n).2) ∧ Chg [] w w' := by
 obtain ⟨hn1, hn2⟩ := hn
 obtain ⟨g, c, d, p, r', q, b, u, t⟩ := s
 simp only at hd hd2 ⊢
 have h : d = 1 ∨ d = 2 ∨ d = 3 := by omega
 clear hd hd2
 rcases h with rfl | rfl | rfl
 ·simp only [Shp.cells]
  by_cases h1 : n < 1
  ·have HR := hid (show q0u 1 n = (0, 6) by rw [q0u, if_pos h1])
   generalize q0u 1 n = r at HR ⊢
   go_enter Tryz.func248, Tryz.ntmps248
   go_wp2
   go_ret
   exact ⟨by rw [HR.out]; rfl, by repeat (first | exact Chg.refl _ _ | refine Chg.alloc ?_ _ | refine Chg.drewN ?_ _ | refine Chg.drew ?_)⟩
  ·by_cases h2 : 12 < n
   ·have HR := hid (show q0u 1 n = (0, 2) by rw [q0u, if_neg h1, if_pos (by omega)])
    generalize q0u 1 n = r at HR ⊢
    go_enter Tryz.func248, Tryz.ntmps248
    go_wp2
    go_ret
    exact ⟨by rw [HR.out]; rfl, by repeat (first | exact Chg.refl _ _ | refine Chg.alloc ?_ _ | refine Chg.drewN ?_ _ | refine Chg.drew ?_)⟩
   ·have HR := hid (show q0u 1 n = ((n - 1) / 4 + 1, 0) by rw [q0u, if_neg h1, if_neg (by omega)]; exact Prod.ext (by show _ / _ = _; omega) rfl)
    generalize q0u 1 n = r at HR ⊢
    go_enter Tryz.func248, Tryz.ntmps248
    go_wp2
    go_ret
    exact ⟨by rw [HR.out]; rfl, by repeat (first | exact Chg.refl _ _ | refine Chg.alloc ?_ _ | refine Chg.drewN ?_ _ | refine Chg.drew ?_)⟩
 ·simp only [Shp.cells]
  by_cases h1 : n < 1
  ·have HR := hid (show q0u 2 n = (0, 6) by rw [q0u, if_pos h1])
   generalize q0u 2 n = r at HR ⊢
   go_enter Tryz.func248, Tryz.ntmps248
   go_wp2
   go_ret
   exact ⟨by rw [HR.out]; rfl, by repeat (first | exact Chg.refl _ _ | refine Chg.alloc ?_ _ | refine Chg.drewN ?_ _ | refine Chg.drew ?_)⟩
  ·by_cases h2 : 24 < n
   ·have HR := hid (show q0u 2 n = (0, 2) by rw [q0u, if_neg h1, if_pos (by omega)])
    generalize q0u 2 n = r at HR ⊢
    go_enter Tryz.func248, Tryz.ntmps248
    go_wp2
    go_ret
    exact ⟨by rw [HR.out]; rfl, by repeat (first | exact Chg.refl _ _ | refine Chg.alloc ?_ _ | refine Chg.drewN ?_ _ | refine Chg.drew ?_)⟩
   ·have HR := hid (show q0u 2 n = ((n - 1) / 8 + 1, 0) by rw [q0u, if_neg h1, if_neg (by omega)]; exact Prod.ext (by show _ / _ = _; omega) rfl)
    generalize q0u 2 n = r at HR ⊢
    go_enter Tryz.func248, Tryz.ntmps248
    go_wp2
    go_ret
    exact ⟨by rw [HR.out]; rfl, by repeat (first | exact Chg.refl _ _ | refine Chg.alloc ?_ _ | refine Chg.drewN ?_ _ | refine Chg.drew ?_)⟩
 ·simp only [Shp.cells]
  by_cases h1 : n < 1
  ·have HR := hid (show q0u 3 n = (0, 6) by rw [q0u, if_pos h1])
   generalize q0u 3 n = r at HR ⊢
   go_enter Tryz.func248, Tryz.ntmps248
   go_wp2
   go_ret
   exact ⟨by rw [HR.out]; rfl, by repeat (first | exact Chg.refl _ _ | refine Chg.alloc ?_ _ | refine Chg.drewN ?_ _ | refine Chg.drew ?_)⟩
  ·by_cases h2 : 36 < n
   ·have HR := hid (show q0u 3 n = (0, 2) by rw [q0u, if_neg h1, if_pos (by omega)])
    generalize q0u 3 n = r at HR ⊢
    go_enter Tryz.func248, Tryz.ntmps248
    go_wp2
    go_ret
    exact ⟨by rw [HR.out]; rfl, by repeat (first | exact Chg.refl _ _ | refine Chg.alloc ?_ _ | refine Chg.drewN ?_ _ | refine Chg.drew ?_)⟩
   ·have HR := hid (show q0u 3 n = ((n - 1) / 12 + 1, 0) by rw [q0u, if_neg h1, if_neg (by omega)]; exact Prod.ext (by show _ / _ = _; omega) rfl)
    generalize q0u 3 n = r at HR ⊢
    go_enter Tryz.func248, Tryz.ntmps248
    go_wp2
    go_ret
    exact ⟨by rw [HR.out]; rfl, by repeat (first | exact Chg.refl _ _ | refine Chg.alloc ?_ _ | refine Chg.drewN ?_ _ | refine Chg.drew ?_)⟩
theorem z1d (s : Shp) (hd : 1 ≤ s.data) (hd2 : s.data ≤ 3) (w : World) :
  Calls Tryz.prog 194 #[.agg s.cells] w fun e w' => e = .returned (.int .i64 (s.data * 4)) ∧ w.alloc (.cells s.cells 30) = w' := by
 obtain ⟨g, c, d, p, r', q, b, u, t⟩ := s
 simp only [Shp.cells] at *
 go_enter Tryz.func194, Tryz.ntmps194
 go_wp2
 go_ret
 exact ⟨rfl, rfl⟩
theorem q8k (n k : Int) (hn : 0 ≤ n) (hn2 : n ≤ 1000000000) (hk : 1 ≤ k) (hk2 : k ≤ 12) : IntKind.i64.wrap ((IntKind.i64.wrap (IntKind.i64.wrap (n + k) - 1)).tdiv k) = (n + k - 1) / k := by
 rw [IntWalk.i64_in (n + k) ⟨by omega, by omega⟩, IntWalk.i64_in (n + k - 1) ⟨by omega, by omega⟩, Int.tdiv_eq_ediv_of_nonneg (by omega)]
 have h1 : 0 ≤ (n + k - 1) / k := Int.ediv_nonneg (by omega) (by omega)
 have h2 : (n + k - 1) / k ≤ n + k - 1 := Int.ediv_le_self _ (by omega)
 exact IntWalk.i64_in _ ⟨by omega, by omega⟩
theorem z0f (s : Shp) (n : Int) (hd : 1 ≤ s.data) (hd2 : s.data ≤ 3) (hn : 0 ≤ n) (hn2 : n ≤ 1000000000) (w : World) :
  Calls Tryz.prog 249 #[.agg s.cells, .int .i64 n] w fun e w' => e = .returned (.int .i64 ((n + 4 * s.data - 1) / (4 * s.data))) ∧ Chg [] w w' := by
 have HW := hid (z1d s hd hd2)
 obtain ⟨g, c, d, p, r', q, b, u, t⟩ := s
 simp only [Shp.cells] at *
 have h : d = 1 ∨ d = 2 ∨ d = 3 := by omega
 clear hd hd2
 rcases h with rfl | rfl | rfl
 all_goals
  go_enter Tryz.func249, Tryz.ntmps249
  go_wp2_with fail
  go_region_law (go_simp; go_at_call 194; refine (HW.out _).mono ?_; rintro e w' ⟨rfl, rfl⟩)
  all_goals (go_wp2; go_ret)
  all_goals refine ⟨q0e ?_, by repeat (first | exact Chg.refl _ _ | refine Chg.alloc ?_ _ | refine Chg.drewN ?_ _ | refine Chg.drew ?_)⟩
  all_goals (first | rw [q8k n 4 (by omega) (by omega) (by omega) (by omega)] | rw [q8k n 8 (by omega) (by omega) (by omega) (by omega)] | rw [q8k n 12 (by omega) (by omega) (by omega) (by omega)])
  all_goals rfl
theorem partsV_cases (d n : Int) (h : 1 ≤ d) (h2 : d ≤ 3) : q0u d n = (0, 6) ∨ q0u d n = (0, 2) ∨ (q0u d n = ((n + 4 * d - 1) / (4 * d), 0) ∧ 1 ≤ n ∧ n ≤ 36) := by
 unfold q0u; split
 ·exact .inl rfl
 ·split
  ·exact .inr (.inl rfl)
  ·exact .inr (.inr ⟨rfl, by omega, by omega⟩)
/-! ### HomeOf -/
def upTo (s : ByteArray) : Nat → Int
 | 0 => 0
 | k + 1 => upTo s k + (if h : k < s.size then (s[k].toNat : Int) else 0)
theorem upTo_next {s : ByteArray} {k : Nat} (h : k < s.size) : upTo s (k + 1) = upTo s k + (s[k].toNat : Int) := by rw [upTo, dif_pos h]
theorem q3o (s : ByteArray) (k : Nat) : 0 ≤ upTo s k ∧ upTo s k ≤ 255 * k := by
 induction k with
 | zero => exact ⟨Int.le_refl _, Int.le_refl _⟩
 | succ k ih =>
  rw [upTo]
  split
  ·rename_i h
   have := UInt8.toNat_lt s[k]
   omega
  ·omega
noncomputable def Shp.home (s : Shp) (n : ByteArray) : Int × Int := if s.ok then (if q1e n = 0 then (0, upTo n n.size % s.groups) else (5, 0)) else (3, 0)
theorem l4Home_any (s : Shp) (n : ByteArray) (hg : 1 ≤ s.groups) (hg2 : s.groups ≤ 4) (hn : n.size ≤ 8) (w : World) :
  Calls Tryz.prog 186 #[.agg s.cells, .string n] w fun e w' => e = .returned (.int .i64 (upTo n n.size % s.groups)) ∧ Chg [] w w' := by
 obtain ⟨g, c, d, p, r, q, b, u, t⟩ := s
 simp only [Shp.cells] at hg hg2 ⊢
 have hg0 : (g == 0) = false := by rw [beq_eq_false_iff_ne]; omega
 go_enter Tryz.func186, Tryz.ntmps186
 go_wp2
 go_loop [5, 6] (fun a i => ∃ k : Nat, k ≤ n.size ∧ a = .int .i64 (upTo n k) ∧ i = .int .i64 k) (fun a i => n.size - (intOf i).toNat)
 case atStart => exact ⟨0, by omega, rfl, rfl⟩
 case round =>
  obtain ⟨k, hk, rfl, rfl⟩ := hrel
  by_cases hlt : k < n.size
  ·have HS := hid (upTo_next hlt)
   have hb1 := (q3o n k).1
   have hb2 : upTo n k ≤ 2040 := by have := (q3o n k).2; omega
   have hb3 : (n[k].toNat : Int) < 256 := by have := UInt8.toNat_lt n[k]; omega
   generalize upTo n k = z at HS hb1 hb2 ⊢
   go_wp2
   go_round
   case rel => exact ⟨k + 1, by omega, by rw [HS.out], by go_num⟩
   case measure => simp [intOf]; omega
  ·have hk2 : k = n.size := by omega
   subst hk2
   have hb1 := (q3o n n.size).1
   have hb2 : upTo n n.size ≤ 2040 := by have := (q3o n n.size).2; omega
   generalize hE : upTo n n.size = z at hb1 hb2 ⊢
   have HE := hid hE
   clear hE
   have HT : Hid (z.tmod g = z % g) := Int.tmod_eq_emod_of_nonneg hb1
   have hz1 : 0 ≤ z % g := Int.emod_nonneg _ (by omega)
   have hz2 : z % g < g := Int.emod_lt_of_pos _ (by omega)
   go_wp2
   go_ret
   exact ⟨q0e (by rw [HE.out]; all_goals first | (rw [HT.out]; done) | (rw [HT.out]; exact IntWalk.i64_in _ ⟨by omega, by omega⟩) | (rw [HT.out]; exact IntWalk.wrap64_in _ ⟨by omega, by omega⟩) | rfl), by repeat (first | exact Chg.refl _ _ | refine Chg.alloc ?_ _ | refine Chg.drewN ?_ _ | refine Chg.drew ?_)⟩
theorem home_any (s : Shp) (n : ByteArray) (hg : 1 ≤ s.groups) (hg2 : s.groups ≤ 4) (hn : n.size ≤ 8) (w : World) :
  Calls Tryz.prog 126 #[.agg s.cells, .string n] w fun e w' => e = .returned (.int .i64 (upTo n n.size % s.groups)) ∧ Chg [] w w' := by
 obtain ⟨g, c, d, p, r, q, b, u, t⟩ := s
 simp only [Shp.cells] at hg hg2 ⊢
 have hg0 : (g == 0) = false := by rw [beq_eq_false_iff_ne]; omega
 go_enter Tryz.func126, Tryz.ntmps126
 go_wp2
 go_loop [5, 6, 9] (fun a _ i => ∃ k : Nat, k ≤ n.size ∧ a = .int .i64 (upTo n k) ∧ i = .int .i64 k) (fun a _ i => n.size - (intOf i).toNat)
 case atStart => exact ⟨0, by omega, rfl, rfl⟩
 case round =>
  obtain ⟨k, hk, rfl, rfl⟩ := hrel
  by_cases hlt : k < n.size
  ·have HS := hid (upTo_next hlt)
   have hb1 := (q3o n k).1
   have hb2 : upTo n k ≤ 2040 := by have := (q3o n k).2; omega
   have hb3 : (n[k].toNat : Int) < 256 := by have := UInt8.toNat_lt n[k]; omega
   generalize upTo n k = z at HS hb1 hb2 ⊢
   go_wp2
   go_round
   case rel => exact ⟨k + 1, by omega, by rw [HS.out], by go_num⟩
   case measure => simp [intOf]; omega
  ·have hk2 : k = n.size := by omega
   subst hk2
   have hb1 := (q3o n n.size).1
   have hb2 : upTo n n.size ≤ 2040 := by have := (q3o n n.size).2; omega
   generalize hE : upTo n n.size = z at hb1 hb2 ⊢
   have HE := hid hE
   clear hE
   have HT : Hid (z.tmod g = z % g) := Int.tmod_eq_emod_of_nonneg hb1
   have hz1 : 0 ≤ z % g := Int.emod_nonneg _ (by omega)
   have hz2 : z % g < g := Int.emod_lt_of_pos _ (by omega)
   go_wp2
   go_ret
   exact ⟨q0e (by rw [HE.out]; all_goals first | (rw [HT.out]; done) | (rw [HT.out]; exact IntWalk.i64_in _ ⟨by omega, by omega⟩) | (rw [HT.out]; exact IntWalk.wrap64_in _ ⟨by omega, by omega⟩) | rfl), by repeat (first | exact Chg.refl _ _ | refine Chg.alloc ?_ _ | refine Chg.drewN ?_ _ | refine Chg.drew ?_)⟩
theorem q7o {s t : ByteArray} (h : s ≠ t) : (s.toList == t.toList) = false := by
 rw [beq_eq_false_iff_ne]; exact fun e => h (toList_inj e)
theorem sameV_rec {kx sx : Int} {nx : ByteArray} {lx gx rx : Int} {Rx Ry : List Int} {Dx Dy Ex Ey : List UInt8} : q2f (Rec.mk kx sx nx lx gx rx Rx Dx Ex) (Rec.mk kx sx nx lx gx rx Ry Dy Ey) = (q2f Rx Ry && (q2f Dx Dy && q2f Ex Ey)) := by
 by_cases h1 : Rx = Ry
 ·by_cases h2 : Dx = Dy
  ·by_cases h3 : Ex = Ey
   ·rw [q2j h1, q2j h2, q2j h3, q2j (by rw [h1, h2, h3])]; rfl
   ·rw [q2j h1, q2j h2, q0x h3, q0x (fun h => h3 (congrArg Rec.delta h))]; rfl
  ·rw [q2j h1, q0x h2, q0x (fun h => h2 (congrArg Rec.data h))]; rfl
 ·rw [q0x h1, q0x (fun h => h1 (congrArg Rec.rows h))]; rfl
theorem spec_same_k (kx : Int) (sx : Int) (nx : ByteArray) (lx : Int) (gx : Int) (rx : Int) (ky : Int) (sy : Int) (ny : ByteArray) (ly : Int) (gy : Int) (ry : Int) (a6x : Option Addr) (l6x c6x : Nat) (a7x : Option Addr) (l7x c7x : Nat) (a8x : Option Addr) (l8x c8x : Nat) (a6y : Option Addr) (l6y c6y : Nat) (a7y : Option Addr) (l7y c7y : Nat) (a8y : Option Addr) (l8y c8y : Nat) (e : kx ≠ ky) (w : World) :
  Calls Tryz.prog 234 #[.agg #[.int .i64 kx, .int .i64 sx, .string nx, .int .i64 lx, .int .i64 gx, .int .i64 rx, .slice a6x l6x c6x, .slice a7x l7x c7x, .slice a8x l8x c8x], .agg #[.int .i64 ky, .int .i64 sy, .string ny, .int .i64 ly, .int .i64 gy, .int .i64 ry, .slice a6y l6y c6y, .slice a7y l7y c7y, .slice a8y l8y c8y]] w fun e w' => e = .returned (.bool false) ∧ Chg [] w w' := by
 have t1 : (kx == ky) = false := by rw [beq_eq_false_iff_ne]; exact e
 clear e
 go_enter Tryz.func234, Tryz.ntmps234
 go_wp2_with fail
 go_ret
 exact ⟨rfl, by repeat (first | exact Chg.refl _ _ | refine Chg.alloc ?_ _)⟩
theorem spec_same_s (kx : Int) (sx : Int) (nx : ByteArray) (lx : Int) (gx : Int) (rx : Int) (sy : Int) (ny : ByteArray) (ly : Int) (gy : Int) (ry : Int) (a6x : Option Addr) (l6x c6x : Nat) (a7x : Option Addr) (l7x c7x : Nat) (a8x : Option Addr) (l8x c8x : Nat) (a6y : Option Addr) (l6y c6y : Nat) (a7y : Option Addr) (l7y c7y : Nat) (a8y : Option Addr) (l8y c8y : Nat) (e : sx ≠ sy) (w : World) :
  Calls Tryz.prog 234 #[.agg #[.int .i64 kx, .int .i64 sx, .string nx, .int .i64 lx, .int .i64 gx, .int .i64 rx, .slice a6x l6x c6x, .slice a7x l7x c7x, .slice a8x l8x c8x], .agg #[.int .i64 kx, .int .i64 sy, .string ny, .int .i64 ly, .int .i64 gy, .int .i64 ry, .slice a6y l6y c6y, .slice a7y l7y c7y, .slice a8y l8y c8y]] w fun e w' => e = .returned (.bool false) ∧ Chg [] w w' := by
 have t1 : (sx == sy) = false := by rw [beq_eq_false_iff_ne]; exact e
 clear e
 go_enter Tryz.func234, Tryz.ntmps234
 go_wp2_with fail
 go_ret
 exact ⟨rfl, by repeat (first | exact Chg.refl _ _ | refine Chg.alloc ?_ _)⟩
theorem spec_same_n (kx : Int) (sx : Int) (nx : ByteArray) (lx : Int) (gx : Int) (rx : Int) (ny : ByteArray) (ly : Int) (gy : Int) (ry : Int) (a6x : Option Addr) (l6x c6x : Nat) (a7x : Option Addr) (l7x c7x : Nat) (a8x : Option Addr) (l8x c8x : Nat) (a6y : Option Addr) (l6y c6y : Nat) (a7y : Option Addr) (l7y c7y : Nat) (a8y : Option Addr) (l8y c8y : Nat) (e : nx ≠ ny) (w : World) :
  Calls Tryz.prog 234 #[.agg #[.int .i64 kx, .int .i64 sx, .string nx, .int .i64 lx, .int .i64 gx, .int .i64 rx, .slice a6x l6x c6x, .slice a7x l7x c7x, .slice a8x l8x c8x], .agg #[.int .i64 kx, .int .i64 sx, .string ny, .int .i64 ly, .int .i64 gy, .int .i64 ry, .slice a6y l6y c6y, .slice a7y l7y c7y, .slice a8y l8y c8y]] w fun e w' => e = .returned (.bool false) ∧ Chg [] w w' := by
 have t1 : (nx.toList == ny.toList) = false := q7o e
 clear e
 go_enter Tryz.func234, Tryz.ntmps234
 go_wp2_with fail
 go_ret
 exact ⟨rfl, by repeat (first | exact Chg.refl _ _ | refine Chg.alloc ?_ _)⟩
theorem spec_same_l (kx : Int) (sx : Int) (nx : ByteArray) (lx : Int) (gx : Int) (rx : Int) (ly : Int) (gy : Int) (ry : Int) (a6x : Option Addr) (l6x c6x : Nat) (a7x : Option Addr) (l7x c7x : Nat) (a8x : Option Addr) (l8x c8x : Nat) (a6y : Option Addr) (l6y c6y : Nat) (a7y : Option Addr) (l7y c7y : Nat) (a8y : Option Addr) (l8y c8y : Nat) (e : lx ≠ ly) (w : World) :
  Calls Tryz.prog 234 #[.agg #[.int .i64 kx, .int .i64 sx, .string nx, .int .i64 lx, .int .i64 gx, .int .i64 rx, .slice a6x l6x c6x, .slice a7x l7x c7x, .slice a8x l8x c8x], .agg #[.int .i64 kx, .int .i64 sx, .string nx, .int .i64 ly, .int .i64 gy, .int .i64 ry, .slice a6y l6y c6y, .slice a7y l7y c7y, .slice a8y l8y c8y]] w fun e w' => e = .returned (.bool false) ∧ Chg [] w w' := by
 have t1 : (lx == ly) = false := by rw [beq_eq_false_iff_ne]; exact e
 clear e
 go_enter Tryz.func234, Tryz.ntmps234
 go_wp2_with fail
 go_ret
 exact ⟨rfl, by repeat (first | exact Chg.refl _ _ | refine Chg.alloc ?_ _)⟩
theorem spec_same_g (kx : Int) (sx : Int) (nx : ByteArray) (lx : Int) (gx : Int) (rx : Int) (gy : Int) (ry : Int) (a6x : Option Addr) (l6x c6x : Nat) (a7x : Option Addr) (l7x c7x : Nat) (a8x : Option Addr) (l8x c8x : Nat) (a6y : Option Addr) (l6y c6y : Nat) (a7y : Option Addr) (l7y c7y : Nat) (a8y : Option Addr) (l8y c8y : Nat) (e : gx ≠ gy) (w : World) :
  Calls Tryz.prog 234 #[.agg #[.int .i64 kx, .int .i64 sx, .string nx, .int .i64 lx, .int .i64 gx, .int .i64 rx, .slice a6x l6x c6x, .slice a7x l7x c7x, .slice a8x l8x c8x], .agg #[.int .i64 kx, .int .i64 sx, .string nx, .int .i64 lx, .int .i64 gy, .int .i64 ry, .slice a6y l6y c6y, .slice a7y l7y c7y, .slice a8y l8y c8y]] w fun e w' => e = .returned (.bool false) ∧ Chg [] w w' := by
 have t1 : (gx == gy) = false := by rw [beq_eq_false_iff_ne]; exact e
 clear e
 go_enter Tryz.func234, Tryz.ntmps234
 go_wp2_with fail
 go_ret
 exact ⟨rfl, by repeat (first | exact Chg.refl _ _ | refine Chg.alloc ?_ _)⟩
theorem spec_same_r (kx : Int) (sx : Int) (nx : ByteArray) (lx : Int) (gx : Int) (rx : Int) (ry : Int) (a6x : Option Addr) (l6x c6x : Nat) (a7x : Option Addr) (l7x c7x : Nat) (a8x : Option Addr) (l8x c8x : Nat) (a6y : Option Addr) (l6y c6y : Nat) (a7y : Option Addr) (l7y c7y : Nat) (a8y : Option Addr) (l8y c8y : Nat) (e : rx ≠ ry) (w : World) :
  Calls Tryz.prog 234 #[.agg #[.int .i64 kx, .int .i64 sx, .string nx, .int .i64 lx, .int .i64 gx, .int .i64 rx, .slice a6x l6x c6x, .slice a7x l7x c7x, .slice a8x l8x c8x], .agg #[.int .i64 kx, .int .i64 sx, .string nx, .int .i64 lx, .int .i64 gx, .int .i64 ry, .slice a6y l6y c6y, .slice a7y l7y c7y, .slice a8y l8y c8y]] w fun e w' => e = .returned (.bool false) ∧ Chg [] w w' := by
 have t1 : (rx == ry) = false := by rw [beq_eq_false_iff_ne]; exact e
 clear e
 go_enter Tryz.func234, Tryz.ntmps234
 go_wp2_with fail
 go_ret
 exact ⟨rfl, by repeat (first | exact Chg.refl _ _ | refine Chg.alloc ?_ _)⟩
theorem q9q (kx : Int) (sx : Int) (nx : ByteArray) (lx : Int) (gx : Int) (rx : Int) (a6x : Option Addr) (l6x c6x : Nat) (a7x : Option Addr) (l7x c7x : Nat) (a8x : Option Addr) (l8x c8x : Nat) (a6y : Option Addr) (l6y c6y : Nat) (a7y : Option Addr) (l7y c7y : Nat) (a8y : Option Addr) (l8y c8y : Nat) (Rx Ry : List Int) (Dx Dy Ex Ey : List UInt8) (f6x f7x f8x f6y f7y f8y : List Nat) (w : World) (h6x : intL.sl w a6x l6x c6x Rx f6x) (h7x : q0q.sl w a7x l7x c7x Dx f7x) (h8x : q0q.sl w a8x l8x c8x Ex f8x) (h6y : intL.sl w a6y l6y c6y Ry f6y) (h7y : q0q.sl w a7y l7y c7y Dy f7y) (h8y : q0q.sl w a8y l8y c8y Ey f8y) :
  Calls Tryz.prog 234 #[.agg #[.int .i64 kx, .int .i64 sx, .string nx, .int .i64 lx, .int .i64 gx, .int .i64 rx, .slice a6x l6x c6x, .slice a7x l7x c7x, .slice a8x l8x c8x], .agg #[.int .i64 kx, .int .i64 sx, .string nx, .int .i64 lx, .int .i64 gx, .int .i64 rx, .slice a6y l6y c6y, .slice a7y l7y c7y, .slice a8y l8y c8y]] w fun e w' => e = .returned (.bool (q2f Rx Ry && (q2f Dx Dy && q2f Ex Ey))) ∧ Chg [] w w' := by
 have hc0 := ((Chg.refl [] w).alloc (.cells #[.int .i64 kx, .int .i64 sx, .string nx, .int .i64 lx, .int .i64 gx, .int .i64 rx, .slice a6x l6x c6x, .slice a7x l7x c7x, .slice a8x l8x c8x] 67)).alloc (.cells #[.int .i64 kx, .int .i64 sx, .string nx, .int .i64 lx, .int .i64 gx, .int .i64 rx, .slice a6y l6y c6y, .slice a7y l7y c7y, .slice a8y l8y c8y] 67)
 have HC0 := hid hc0
 have H7x := hid h7x; have H8x := hid h8x; have H7y := hid h7y; have H8y := hid h8y
 have HI := hid (l6Nums_any a6x a6y l6x c6x l6y c6y Rx Ry f6x f6y _ (intL.sl_ext h6x hc0) (intL.sl_ext h6y hc0))
 clear hc0 h6x h7x h8x h6y h7y h8y
 have tn : (nx.toList == nx.toList) = true := by simp
 cases h6 : q2f Rx Ry
 ·rw [h6] at HI
  clear h6
  go_enter Tryz.func234, Tryz.ntmps234
  go_wp2_with fail
  refine HI.out.mono ?_
  rintro e w1 ⟨rfl, hc⟩
  have HC1 := hid (HC0.out.trans0 hc)
  clear hc
  go_wp2_with fail
  go_ret
  exact ⟨rfl, HC1.out⟩
 ·rw [h6] at HI
  clear h6
  generalize hv7 : q2f Dx Dy = v7
  generalize hv8 : q2f Ex Ey = v8
  have V7 := hid hv7
  have V8 := hid hv8
  clear hv7 hv8
  have HK := hid (fun w1 (hc : Chg [] ((w.alloc (.cells #[.int .i64 kx, .int .i64 sx, .string nx, .int .i64 lx, .int .i64 gx, .int .i64 rx, .slice a6x l6x c6x, .slice a7x l7x c7x, .slice a8x l8x c8x] 67)).alloc (.cells #[.int .i64 kx, .int .i64 sx, .string nx, .int .i64 lx, .int .i64 gx, .int .i64 rx, .slice a6y l6y c6y, .slice a7y l7y c7y, .slice a8y l8y c8y] 67)) w1) => And.intro (hc.keep0 (q0b (q1a w (.cells #[.int .i64 kx, .int .i64 sx, .string nx, .int .i64 lx, .int .i64 gx, .int .i64 rx, .slice a6x l6x c6x, .slice a7x l7x c7x, .slice a8x l8x c8x] 67)) (.cells #[.int .i64 kx, .int .i64 sx, .string nx, .int .i64 lx, .int .i64 gx, .int .i64 rx, .slice a6y l6y c6y, .slice a7y l7y c7y, .slice a8y l8y c8y] 67))) (hc.keep0 (new_two w (.cells #[.int .i64 kx, .int .i64 sx, .string nx, .int .i64 lx, .int .i64 gx, .int .i64 rx, .slice a6x l6x c6x, .slice a7x l7x c7x, .slice a8x l8x c8x] 67) (.cells #[.int .i64 kx, .int .i64 sx, .string nx, .int .i64 lx, .int .i64 gx, .int .i64 rx, .slice a6y l6y c6y, .slice a7y l7y c7y, .slice a8y l8y c8y] 67))))
  go_enter Tryz.func234, Tryz.ntmps234
  go_wp2_with fail
  refine HI.out.mono ?_
  rintro e w1 ⟨rfl, hc⟩
  have HC1 := hid (HC0.out.trans0 hc)
  obtain ⟨hB2, hB3⟩ := HK.out w1 hc
  have c2 := cellsOf hB2; have l2 := ltOf hB2; have P2 := hid hB2
  have c3 := cellsOf hB3; have l3 := ltOf hB3; have P3 := hid hB3
  clear hB2 hB3 hc HK HI
  go_wp2_with fail
  refine (z1e a7x a7y l7x c7x l7y c7y Dx Dy f7x f7y _ (q0q.sl_ext H7x.out HC1.out) (q0q.sl_ext H7y.out HC1.out)).mono ?_
  rintro e w2 ⟨rfl, hc⟩
  rw [V7.out]
  have HC2 := hid (HC1.out.trans0 hc)
  have hB2 := hc.keep0 P2.out; have hB3 := hc.keep0 P3.out
  clear c2 l2 c3 l3 P2 P3
  have c2 := cellsOf hB2; have l2 := ltOf hB2; have P2 := hid hB2
  have c3 := cellsOf hB3; have l3 := ltOf hB3; have P3 := hid hB3
  clear hB2 hB3 hc
  cases v7
  ·go_wp2_with fail
   go_ret
   exact ⟨rfl, HC2.out⟩
  ·go_wp2_with fail
   refine (z1e a8x a8y l8x c8x l8y c8y Ex Ey f8x f8y _ (q0q.sl_ext H8x.out HC2.out) (q0q.sl_ext H8y.out HC2.out)).mono ?_
   rintro e w3 ⟨rfl, hc⟩
   rw [V8.out]
   have HC3 := hid (HC2.out.trans0 hc)
   clear hc
   go_wp2_with fail
   go_ret
   exact ⟨by simp, HC3.out⟩
theorem z1r (x y : Rec) (cx cy : Array Value) (fx fy : List Nat) (w : World) (hx : recL.rep w cx.toList x fx) (hy : recL.rep w cy.toList y fy) :
  Calls Tryz.prog 234 #[.agg cx, .agg cy] w fun e w' => e = .returned (.bool (q2f x y)) ∧ Chg [] w w' := by
 obtain ⟨a6x, l6x, c6x, f6x, a7x, l7x, c7x, f7x, a8x, l8x, c8x, f8x, ex, -, -, -, -, -, -, h6x, h7x, h8x, -⟩ := q0m.1 hx
 obtain ⟨a6y, l6y, c6y, f6y, a7y, l7y, c7y, f7y, a8y, l8y, c8y, f8y, ey, -, -, -, -, -, -, h6y, h7y, h8y, -⟩ := q0m.1 hy
 obtain ⟨kx, sx, nx, lx, gx, rx, Rx, Dx, Ex⟩ := x
 obtain ⟨ky, sy, ny, ly, gy, ry, Ry, Dy, Ey⟩ := y
 simp only at ex ey h6x h7x h8x h6y h7y h8y
 obtain rfl : cx = #[.int .i64 kx, .int .i64 sx, .string nx, .int .i64 lx, .int .i64 gx, .int .i64 rx, .slice a6x l6x c6x, .slice a7x l7x c7x, .slice a8x l8x c8x] := Array.toList_inj.1 ex
 obtain rfl : cy = #[.int .i64 ky, .int .i64 sy, .string ny, .int .i64 ly, .int .i64 gy, .int .i64 ry, .slice a6y l6y c6y, .slice a7y l7y c7y, .slice a8y l8y c8y] := Array.toList_inj.1 ey
 clear ex ey hx hy
 by_cases e : kx = ky
 ·subst e
  by_cases e : sx = sy
  ·subst e
   by_cases e : nx = ny
   ·subst e
    by_cases e : lx = ly
    ·subst e
     by_cases e : gx = gy
     ·subst e
      by_cases e : rx = ry
      ·subst e
       rw [show q2f (Rec.mk kx sx nx lx gx rx Rx Dx Ex) (Rec.mk kx sx nx lx gx rx Ry Dy Ey) = (q2f Rx Ry && (q2f Dx Dy && q2f Ex Ey)) from sameV_rec]
       exact q9q _ _ _ _ _ _ _ _ _ _ _ _ _ _ _ _ _ _ _ _ _ _ _ _ Rx Ry Dx Dy Ex Ey _ _ _ _ _ _ w h6x h7x h8x h6y h7y h8y
      ·rw [q0x (show Rec.mk kx sx nx lx gx rx Rx Dx Ex ≠ Rec.mk kx sx nx lx gx ry Ry Dy Ey from fun h => e (congrArg Rec.row h))]
       exact spec_same_r _ _ _ _ _ _ _ _ _ _ _ _ _ _ _ _ _ _ _ _ _ _ _ _ _ e w
     ·rw [q0x (show Rec.mk kx sx nx lx gx rx Rx Dx Ex ≠ Rec.mk kx sx nx lx gy ry Ry Dy Ey from fun h => e (congrArg Rec.group h))]
      exact spec_same_g _ _ _ _ _ _ _ _ _ _ _ _ _ _ _ _ _ _ _ _ _ _ _ _ _ _ e w
    ·rw [q0x (show Rec.mk kx sx nx lx gx rx Rx Dx Ex ≠ Rec.mk kx sx nx ly gy ry Ry Dy Ey from fun h => e (congrArg Rec.length h))]
     exact spec_same_l _ _ _ _ _ _ _ _ _ _ _ _ _ _ _ _ _ _ _ _ _ _ _ _ _ _ _ e w
   ·rw [q0x (show Rec.mk kx sx nx lx gx rx Rx Dx Ex ≠ Rec.mk kx sx ny ly gy ry Ry Dy Ey from fun h => e (congrArg Rec.name h))]
    exact spec_same_n _ _ _ _ _ _ _ _ _ _ _ _ _ _ _ _ _ _ _ _ _ _ _ _ _ _ _ _ e w
  ·rw [q0x (show Rec.mk kx sx nx lx gx rx Rx Dx Ex ≠ Rec.mk kx sy ny ly gy ry Ry Dy Ey from fun h => e (congrArg Rec.seq h))]
   exact spec_same_s _ _ _ _ _ _ _ _ _ _ _ _ _ _ _ _ _ _ _ _ _ _ _ _ _ _ _ _ _ e w
 ·rw [q0x (show Rec.mk kx sx nx lx gx rx Rx Dx Ex ≠ Rec.mk ky sy ny ly gy ry Ry Dy Ey from fun h => e (congrArg Rec.kind h))]
  exact spec_same_k _ _ _ _ _ _ _ _ _ _ _ _ _ _ _ _ _ _ _ _ _ _ _ _ _ _ _ _ _ _ e w
theorem sameRec_k (kx : Int) (sx : Int) (nx : ByteArray) (lx : Int) (gx : Int) (rx : Int) (ky : Int) (sy : Int) (ny : ByteArray) (ly : Int) (gy : Int) (ry : Int) (a6x : Option Addr) (l6x c6x : Nat) (a7x : Option Addr) (l7x c7x : Nat) (a8x : Option Addr) (l8x c8x : Nat) (a6y : Option Addr) (l6y c6y : Nat) (a7y : Option Addr) (l7y c7y : Nat) (a8y : Option Addr) (l8y c8y : Nat) (e : kx ≠ ky) (w : World) :
  Calls Tryz.prog 123 #[.agg #[.int .i64 kx, .int .i64 sx, .string nx, .int .i64 lx, .int .i64 gx, .int .i64 rx, .slice a6x l6x c6x, .slice a7x l7x c7x, .slice a8x l8x c8x], .agg #[.int .i64 ky, .int .i64 sy, .string ny, .int .i64 ly, .int .i64 gy, .int .i64 ry, .slice a6y l6y c6y, .slice a7y l7y c7y, .slice a8y l8y c8y]] w fun e w' => e = .returned (.bool false) ∧ Chg [] w w' := by
 have t1 : (kx == ky) = false := by rw [beq_eq_false_iff_ne]; exact e
 clear e
 go_enter Tryz.func123, Tryz.ntmps123
 go_wp2_with fail
 go_ret
 exact ⟨rfl, by repeat (first | exact Chg.refl _ _ | refine Chg.alloc ?_ _)⟩
theorem sameRec_s (kx : Int) (sx : Int) (nx : ByteArray) (lx : Int) (gx : Int) (rx : Int) (sy : Int) (ny : ByteArray) (ly : Int) (gy : Int) (ry : Int) (a6x : Option Addr) (l6x c6x : Nat) (a7x : Option Addr) (l7x c7x : Nat) (a8x : Option Addr) (l8x c8x : Nat) (a6y : Option Addr) (l6y c6y : Nat) (a7y : Option Addr) (l7y c7y : Nat) (a8y : Option Addr) (l8y c8y : Nat) (e : sx ≠ sy) (w : World) :
  Calls Tryz.prog 123 #[.agg #[.int .i64 kx, .int .i64 sx, .string nx, .int .i64 lx, .int .i64 gx, .int .i64 rx, .slice a6x l6x c6x, .slice a7x l7x c7x, .slice a8x l8x c8x], .agg #[.int .i64 kx, .int .i64 sy, .string ny, .int .i64 ly, .int .i64 gy, .int .i64 ry, .slice a6y l6y c6y, .slice a7y l7y c7y, .slice a8y l8y c8y]] w fun e w' => e = .returned (.bool false) ∧ Chg [] w w' := by
 have t1 : (sx == sy) = false := by rw [beq_eq_false_iff_ne]; exact e
 clear e
 go_enter Tryz.func123, Tryz.ntmps123
 go_wp2_with fail
 go_ret
 exact ⟨rfl, by repeat (first | exact Chg.refl _ _ | refine Chg.alloc ?_ _)⟩
theorem sameRec_n (kx : Int) (sx : Int) (nx : ByteArray) (lx : Int) (gx : Int) (rx : Int) (ny : ByteArray) (ly : Int) (gy : Int) (ry : Int) (a6x : Option Addr) (l6x c6x : Nat) (a7x : Option Addr) (l7x c7x : Nat) (a8x : Option Addr) (l8x c8x : Nat) (a6y : Option Addr) (l6y c6y : Nat) (a7y : Option Addr) (l7y c7y : Nat) (a8y : Option Addr) (l8y c8y : Nat) (e : nx ≠ ny) (w : World) :
  Calls Tryz.prog 123 #[.agg #[.int .i64 kx, .int .i64 sx, .string nx, .int .i64 lx, .int .i64 gx, .int .i64 rx, .slice a6x l6x c6x, .slice a7x l7x c7x, .slice a8x l8x c8x], .agg #[.int .i64 kx, .int .i64 sx, .string ny, .int .i64 ly, .int .i64 gy, .int .i64 ry, .slice a6y l6y c6y, .slice a7y l7y c7y, .slice a8y l8y c8y]] w fun e w' => e = .returned (.bool false) ∧ Chg [] w w' := by
 have t1 : (nx.toList == ny.toList) = false := q7o e
 clear e
 go_enter Tryz.func123, Tryz.ntmps123
 go_wp2_with fail
 go_ret
 exact ⟨rfl, by repeat (first | exact Chg.refl _ _ | refine Chg.alloc ?_ _)⟩
theorem sameRec_l (kx : Int) (sx : Int) (nx : ByteArray) (lx : Int) (gx : Int) (rx : Int) (ly : Int) (gy : Int) (ry : Int) (a6x : Option Addr) (l6x c6x : Nat) (a7x : Option Addr) (l7x c7x : Nat) (a8x : Option Addr) (l8x c8x : Nat) (a6y : Option Addr) (l6y c6y : Nat) (a7y : Option Addr) (l7y c7y : Nat) (a8y : Option Addr) (l8y c8y : Nat) (e : lx ≠ ly) (w : World) :
  Calls Tryz.prog 123 #[.agg #[.int .i64 kx, .int .i64 sx, .string nx, .int .i64 lx, .int .i64 gx, .int .i64 rx, .slice a6x l6x c6x, .slice a7x l7x c7x, .slice a8x l8x c8x], .agg #[.int .i64 kx, .int .i64 sx, .string nx, .int .i64 ly, .int .i64 gy, .int .i64 ry, .slice a6y l6y c6y, .slice a7y l7y c7y, .slice a8y l8y c8y]] w fun e w' => e = .returned (.bool false) ∧ Chg [] w w' := by
 have t1 : (lx == ly) = false := by rw [beq_eq_false_iff_ne]; exact e
 clear e
 go_enter Tryz.func123, Tryz.ntmps123
 go_wp2_with fail
 go_ret
 exact ⟨rfl, by repeat (first | exact Chg.refl _ _ | refine Chg.alloc ?_ _)⟩
theorem sameRec_g (kx : Int) (sx : Int) (nx : ByteArray) (lx : Int) (gx : Int) (rx : Int) (gy : Int) (ry : Int) (a6x : Option Addr) (l6x c6x : Nat) (a7x : Option Addr) (l7x c7x : Nat) (a8x : Option Addr) (l8x c8x : Nat) (a6y : Option Addr) (l6y c6y : Nat) (a7y : Option Addr) (l7y c7y : Nat) (a8y : Option Addr) (l8y c8y : Nat) (e : gx ≠ gy) (w : World) :
  Calls Tryz.prog 123 #[.agg #[.int .i64 kx, .int .i64 sx, .string nx, .int .i64 lx, .int .i64 gx, .int .i64 rx, .slice a6x l6x c6x, .slice a7x l7x c7x, .slice a8x l8x c8x], .agg #[.int .i64 kx, .int .i64 sx, .string nx, .int .i64 lx, .int .i64 gy, .int .i64 ry, .slice a6y l6y c6y, .slice a7y l7y c7y, .slice a8y l8y c8y]] w fun e w' => e = .returned (.bool false) ∧ Chg [] w w' := by
 have t1 : (gx == gy) = false := by rw [beq_eq_false_iff_ne]; exact e
 clear e
 go_enter Tryz.func123, Tryz.ntmps123
 go_wp2_with fail
 go_ret
 exact ⟨rfl, by repeat (first | exact Chg.refl _ _ | refine Chg.alloc ?_ _)⟩
theorem sameRec_r (kx : Int) (sx : Int) (nx : ByteArray) (lx : Int) (gx : Int) (rx : Int) (ry : Int) (a6x : Option Addr) (l6x c6x : Nat) (a7x : Option Addr) (l7x c7x : Nat) (a8x : Option Addr) (l8x c8x : Nat) (a6y : Option Addr) (l6y c6y : Nat) (a7y : Option Addr) (l7y c7y : Nat) (a8y : Option Addr) (l8y c8y : Nat) (e : rx ≠ ry) (w : World) :
  Calls Tryz.prog 123 #[.agg #[.int .i64 kx, .int .i64 sx, .string nx, .int .i64 lx, .int .i64 gx, .int .i64 rx, .slice a6x l6x c6x, .slice a7x l7x c7x, .slice a8x l8x c8x], .agg #[.int .i64 kx, .int .i64 sx, .string nx, .int .i64 lx, .int .i64 gx, .int .i64 ry, .slice a6y l6y c6y, .slice a7y l7y c7y, .slice a8y l8y c8y]] w fun e w' => e = .returned (.bool false) ∧ Chg [] w w' := by
 have t1 : (rx == ry) = false := by rw [beq_eq_false_iff_ne]; exact e
 clear e
 go_enter Tryz.func123, Tryz.ntmps123
 go_wp2_with fail
 go_ret
 exact ⟨rfl, by repeat (first | exact Chg.refl _ _ | refine Chg.alloc ?_ _)⟩
theorem z1t (kx : Int) (sx : Int) (nx : ByteArray) (lx : Int) (gx : Int) (rx : Int) (a6x : Option Addr) (l6x c6x : Nat) (a7x : Option Addr) (l7x c7x : Nat) (a8x : Option Addr) (l8x c8x : Nat) (a6y : Option Addr) (l6y c6y : Nat) (a7y : Option Addr) (l7y c7y : Nat) (a8y : Option Addr) (l8y c8y : Nat) (Rx Ry : List Int) (Dx Dy Ex Ey : List UInt8) (f6x f7x f8x f6y f7y f8y : List Nat) (w : World) (h6x : intL.sl w a6x l6x c6x Rx f6x) (h7x : q0q.sl w a7x l7x c7x Dx f7x) (h8x : q0q.sl w a8x l8x c8x Ex f8x) (h6y : intL.sl w a6y l6y c6y Ry f6y) (h7y : q0q.sl w a7y l7y c7y Dy f7y) (h8y : q0q.sl w a8y l8y c8y Ey f8y) :
  Calls Tryz.prog 123 #[.agg #[.int .i64 kx, .int .i64 sx, .string nx, .int .i64 lx, .int .i64 gx, .int .i64 rx, .slice a6x l6x c6x, .slice a7x l7x c7x, .slice a8x l8x c8x], .agg #[.int .i64 kx, .int .i64 sx, .string nx, .int .i64 lx, .int .i64 gx, .int .i64 rx, .slice a6y l6y c6y, .slice a7y l7y c7y, .slice a8y l8y c8y]] w fun e w' => e = .returned (.bool (q2f Rx Ry && (q2f Dx Dy && q2f Ex Ey))) ∧ Chg [] w w' := by
 have hc0 := ((Chg.refl [] w).alloc (.cells #[.int .i64 kx, .int .i64 sx, .string nx, .int .i64 lx, .int .i64 gx, .int .i64 rx, .slice a6x l6x c6x, .slice a7x l7x c7x, .slice a8x l8x c8x] 67)).alloc (.cells #[.int .i64 kx, .int .i64 sx, .string nx, .int .i64 lx, .int .i64 gx, .int .i64 rx, .slice a6y l6y c6y, .slice a7y l7y c7y, .slice a8y l8y c8y] 67)
 have HC0 := hid hc0
 have H7x := hid h7x; have H8x := hid h8x; have H7y := hid h7y; have H8y := hid h8y
 have HI := hid (slEq_any a6x a6y l6x c6x l6y c6y Rx Ry f6x f6y _ (intL.sl_ext h6x hc0) (intL.sl_ext h6y hc0))
 clear hc0 h6x h7x h8x h6y h7y h8y
 have tn : (nx.toList == nx.toList) = true := by simp
 cases h6 : q2f Rx Ry
 ·rw [h6] at HI
  clear h6
  go_enter Tryz.func123, Tryz.ntmps123
  go_wp2_with fail
  refine HI.out.mono ?_
  rintro e w1 ⟨rfl, hc⟩
  have HC1 := hid (HC0.out.trans0 hc)
  clear hc
  go_wp2_with fail
  go_ret
  exact ⟨rfl, HC1.out⟩
 ·rw [h6] at HI
  clear h6
  generalize hv7 : q2f Dx Dy = v7
  generalize hv8 : q2f Ex Ey = v8
  have V7 := hid hv7
  have V8 := hid hv8
  clear hv7 hv8
  have HK := hid (fun w1 (hc : Chg [] ((w.alloc (.cells #[.int .i64 kx, .int .i64 sx, .string nx, .int .i64 lx, .int .i64 gx, .int .i64 rx, .slice a6x l6x c6x, .slice a7x l7x c7x, .slice a8x l8x c8x] 67)).alloc (.cells #[.int .i64 kx, .int .i64 sx, .string nx, .int .i64 lx, .int .i64 gx, .int .i64 rx, .slice a6y l6y c6y, .slice a7y l7y c7y, .slice a8y l8y c8y] 67)) w1) => And.intro (hc.keep0 (q0b (q1a w (.cells #[.int .i64 kx, .int .i64 sx, .string nx, .int .i64 lx, .int .i64 gx, .int .i64 rx, .slice a6x l6x c6x, .slice a7x l7x c7x, .slice a8x l8x c8x] 67)) (.cells #[.int .i64 kx, .int .i64 sx, .string nx, .int .i64 lx, .int .i64 gx, .int .i64 rx, .slice a6y l6y c6y, .slice a7y l7y c7y, .slice a8y l8y c8y] 67))) (hc.keep0 (new_two w (.cells #[.int .i64 kx, .int .i64 sx, .string nx, .int .i64 lx, .int .i64 gx, .int .i64 rx, .slice a6x l6x c6x, .slice a7x l7x c7x, .slice a8x l8x c8x] 67) (.cells #[.int .i64 kx, .int .i64 sx, .string nx, .int .i64 lx, .int .i64 gx, .int .i64 rx, .slice a6y l6y c6y, .slice a7y l7y c7y, .slice a8y l8y c8y] 67))))
  go_enter Tryz.func123, Tryz.ntmps123
  go_wp2_with fail
  refine HI.out.mono ?_
  rintro e w1 ⟨rfl, hc⟩
  have HC1 := hid (HC0.out.trans0 hc)
  obtain ⟨hB2, hB3⟩ := HK.out w1 hc
  have c2 := cellsOf hB2; have l2 := ltOf hB2; have P2 := hid hB2
  have c3 := cellsOf hB3; have l3 := ltOf hB3; have P3 := hid hB3
  clear hB2 hB3 hc HK HI
  go_wp2_with fail
  refine (byEq_any a7x a7y l7x c7x l7y c7y Dx Dy f7x f7y _ (q0q.sl_ext H7x.out HC1.out) (q0q.sl_ext H7y.out HC1.out)).mono ?_
  rintro e w2 ⟨rfl, hc⟩
  rw [V7.out]
  have HC2 := hid (HC1.out.trans0 hc)
  have hB2 := hc.keep0 P2.out; have hB3 := hc.keep0 P3.out
  clear c2 l2 c3 l3 P2 P3
  have c2 := cellsOf hB2; have l2 := ltOf hB2; have P2 := hid hB2
  have c3 := cellsOf hB3; have l3 := ltOf hB3; have P3 := hid hB3
  clear hB2 hB3 hc
  cases v7
  ·go_wp2_with fail
   go_ret
   exact ⟨rfl, HC2.out⟩
  ·go_wp2_with fail
   refine (byEq_any a8x a8y l8x c8x l8y c8y Ex Ey f8x f8y _ (q0q.sl_ext H8x.out HC2.out) (q0q.sl_ext H8y.out HC2.out)).mono ?_
   rintro e w3 ⟨rfl, hc⟩
   rw [V8.out]
   have HC3 := hid (HC2.out.trans0 hc)
   clear hc
   go_wp2_with fail
   go_ret
   exact ⟨by simp, HC3.out⟩
theorem sameRec_any (x y : Rec) (cx cy : Array Value) (fx fy : List Nat) (w : World) (hx : recL.rep w cx.toList x fx) (hy : recL.rep w cy.toList y fy) :
  Calls Tryz.prog 123 #[.agg cx, .agg cy] w fun e w' => e = .returned (.bool (q2f x y)) ∧ Chg [] w w' := by
 obtain ⟨a6x, l6x, c6x, f6x, a7x, l7x, c7x, f7x, a8x, l8x, c8x, f8x, ex, -, -, -, -, -, -, h6x, h7x, h8x, -⟩ := q0m.1 hx
 obtain ⟨a6y, l6y, c6y, f6y, a7y, l7y, c7y, f7y, a8y, l8y, c8y, f8y, ey, -, -, -, -, -, -, h6y, h7y, h8y, -⟩ := q0m.1 hy
 obtain ⟨kx, sx, nx, lx, gx, rx, Rx, Dx, Ex⟩ := x
 obtain ⟨ky, sy, ny, ly, gy, ry, Ry, Dy, Ey⟩ := y
 simp only at ex ey h6x h7x h8x h6y h7y h8y
 obtain rfl : cx = #[.int .i64 kx, .int .i64 sx, .string nx, .int .i64 lx, .int .i64 gx, .int .i64 rx, .slice a6x l6x c6x, .slice a7x l7x c7x, .slice a8x l8x c8x] := Array.toList_inj.1 ex
 obtain rfl : cy = #[.int .i64 ky, .int .i64 sy, .string ny, .int .i64 ly, .int .i64 gy, .int .i64 ry, .slice a6y l6y c6y, .slice a7y l7y c7y, .slice a8y l8y c8y] := Array.toList_inj.1 ey
 clear ex ey hx hy
 by_cases e : kx = ky
 ·subst e
  by_cases e : sx = sy
  ·subst e
   by_cases e : nx = ny
   ·subst e
    by_cases e : lx = ly
    ·subst e
     by_cases e : gx = gy
     ·subst e
      by_cases e : rx = ry
      ·subst e
       rw [show q2f (Rec.mk kx sx nx lx gx rx Rx Dx Ex) (Rec.mk kx sx nx lx gx rx Ry Dy Ey) = (q2f Rx Ry && (q2f Dx Dy && q2f Ex Ey)) from sameV_rec]
       exact z1t _ _ _ _ _ _ _ _ _ _ _ _ _ _ _ _ _ _ _ _ _ _ _ _ Rx Ry Dx Dy Ex Ey _ _ _ _ _ _ w h6x h7x h8x h6y h7y h8y
      ·rw [q0x (show Rec.mk kx sx nx lx gx rx Rx Dx Ex ≠ Rec.mk kx sx nx lx gx ry Ry Dy Ey from fun h => e (congrArg Rec.row h))]
       exact sameRec_r _ _ _ _ _ _ _ _ _ _ _ _ _ _ _ _ _ _ _ _ _ _ _ _ _ e w
     ·rw [q0x (show Rec.mk kx sx nx lx gx rx Rx Dx Ex ≠ Rec.mk kx sx nx lx gy ry Ry Dy Ey from fun h => e (congrArg Rec.group h))]
      exact sameRec_g _ _ _ _ _ _ _ _ _ _ _ _ _ _ _ _ _ _ _ _ _ _ _ _ _ _ e w
    ·rw [q0x (show Rec.mk kx sx nx lx gx rx Rx Dx Ex ≠ Rec.mk kx sx nx ly gy ry Ry Dy Ey from fun h => e (congrArg Rec.length h))]
     exact sameRec_l _ _ _ _ _ _ _ _ _ _ _ _ _ _ _ _ _ _ _ _ _ _ _ _ _ _ _ e w
   ·rw [q0x (show Rec.mk kx sx nx lx gx rx Rx Dx Ex ≠ Rec.mk kx sx ny ly gy ry Ry Dy Ey from fun h => e (congrArg Rec.name h))]
    exact sameRec_n _ _ _ _ _ _ _ _ _ _ _ _ _ _ _ _ _ _ _ _ _ _ _ _ _ _ _ _ e w
  ·rw [q0x (show Rec.mk kx sx nx lx gx rx Rx Dx Ex ≠ Rec.mk kx sy ny ly gy ry Ry Dy Ey from fun h => e (congrArg Rec.seq h))]
   exact sameRec_s _ _ _ _ _ _ _ _ _ _ _ _ _ _ _ _ _ _ _ _ _ _ _ _ _ _ _ _ _ e w
 ·rw [q0x (show Rec.mk kx sx nx lx gx rx Rx Dx Ex ≠ Rec.mk ky sy ny ly gy ry Ry Dy Ey from fun h => e (congrArg Rec.kind h))]
  exact sameRec_k _ _ _ _ _ _ _ _ _ _ _ _ _ _ _ _ _ _ _ _ _ _ _ _ _ _ _ _ _ _ e w
theorem szBlock_any (x : Blk) (cx : Array Value) (fx : List Nat) (k : Int) (w : World) (hx : blkL.rep w cx.toList x fx) (hk : 0 ≤ k) (hk2 : k ≤ 1048576) :
  Calls Tryz.prog 287 #[.agg cx, .int .i64 k] w (q6i (q2u x) k w) := by
 obtain ⟨a1, l1, c1, f1, ex, o0, h1, -⟩ := q2z.1 hx
 clear hx
 obtain ⟨v0, v1⟩ := x
 simp only at ex o0 h1
 obtain rfl := Array.toList_inj.1 (ex.trans (List.toList_toArray).symm)
 clear ex o0
 have H1 := hid h1; clear h1
 obtain ⟨t1, ht1⟩ : ∃ t, t = q3t v1 := ⟨_, rfl⟩
 have n1 : 0 ≤ t1 := by rw [ht1]; exact q1g _
 have HT1 := hid ht1
 have HT := hid (show q2u ⟨v0, v1⟩ = t1 by rw [ht1]; unfold q2u; rfl)
 clear ht1
 go_enter Tryz.func287, Tryz.ntmps287
 go_wp2_with fail
 refine (q7e a1 l1 c1 v1 f1 (k) _ (q0q.sl_ext H1.out (by refine Chg.alloc ?_ _; exact Chg.refl _ _)) (by omega) (by omega)).mono ?_
 rintro e w1 ⟨rfl, hc⟩
 rw [← HT1.out]
 have hP := hc.keep0 (b := w.heap.size) (q0d (by simp) _)
 have cP := cellsOf hP; have lP := ltOf hP; have fP := q0l hP; have HBP := hid hP; clear hP
 have HC1 := hid hc; clear hc
 by_cases m1 : k - t1 < 0
 ·rw [if_pos m1]
  go_wp2_with fail
  go_ret
  exact ⟨q0e (by rw [HT.out, if_pos (by omega)]), by refine Chg.trans0 ?_ HC1.out; refine Chg.alloc ?_ _; exact Chg.refl _ _⟩
 rw [if_neg m1]
 go_wp2_with fail
 go_ret
 exact ⟨q0e (by rw [HT.out, if_neg (by omega)] <;> omega), by refine Chg.trans0 ?_ HC1.out; refine Chg.alloc ?_ _; exact Chg.refl _ _⟩
theorem eqBlock_any (x : Blk) (cx cy : Array Value) (fx fy : List Nat) (w : World) (hx : blkL.rep w cx.toList x fx) (hy : blkL.rep w cy.toList x fy) :
  Calls Tryz.prog 291 #[.agg cx, .agg cy] w fun e w' => e = .returned (.bool true) ∧ Chg [] w w' := by
 obtain ⟨a1, l1, c1, f1, ex, o0, h1, -⟩ := q2z.1 hx
 obtain ⟨b1, m1, d1, g1, ey, q0, j1, -⟩ := q2z.1 hy
 clear hx hy
 obtain ⟨v0, v1⟩ := x
 simp only at ex ey h1 j1
 obtain rfl := Array.toList_inj.1 (ex.trans (List.toList_toArray).symm)
 obtain rfl := Array.toList_inj.1 (ey.trans (List.toList_toArray).symm)
 clear ex ey o0 q0
 obtain rfl : l1 = m1 := h1.1.trans j1.1.symm
 have H1 := hid h1; have J1 := hid j1; clear h1 j1
 have e0 : ((v0 : Int) != v0) = false := by simp
 go_enter Tryz.func291, Tryz.ntmps291
 go_wp2_with fail
 refine (eqB_any a1 b1 l1 c1 d1 v1 f1 g1 _ (q0q.sl_ext H1.out (by refine Chg.alloc ?_ _; refine Chg.alloc ?_ _; exact Chg.refl _ _)) (q0q.sl_ext J1.out (by refine Chg.alloc ?_ _; refine Chg.alloc ?_ _; exact Chg.refl _ _))).mono ?_
 rintro e w1 ⟨rfl, hc⟩
 have hP := hc.keep0 (b := w.heap.size) (q0b (q0d (by simp) _) _)
 have hQ := hc.keep0 (b := w.heap.size + 1) (q0d (by simp) _)
 have cP := cellsOf hP; have lP := ltOf hP; have fP := q0l hP; have HBP := hid hP; clear hP
 have cQ := cellsOf hQ; have lQ := ltOf hQ; have fQ := q0l hQ; have HBQ := hid hQ; clear hQ
 have HC1 := hid hc; clear hc
 go_wp2_with fail
 go_ret
 exact ⟨rfl, by refine Chg.trans0 ?_ HC1.out; refine Chg.alloc ?_ _; refine Chg.alloc ?_ _; exact Chg.refl _ _⟩
theorem szBlockS_any (a : Option Addr) (la ca : Nat) (xs : List (Blk)) (f : List Nat) (k : Int) (w : World) (ha : blkL.sl w a la ca xs f) (hk : 0 ≤ k) (hk2 : k ≤ 1048576) :
  Calls Tryz.prog 263 #[.slice a la ca, .int .i64 k] w (q6i (totL (q2u) xs) k w) := by
 have hm := blkL.sl_max ha
 have HL := hid ha.1
 have HA := hid ha
 have HN := hid (q0w (f := q2u) q2s xs)
 have HT := hid (show totL (q2u) xs = (la : Int) + sumI (q2u) xs by unfold totL; rw [ha.1])
 clear ha
 by_cases hn : k - (la : Int) < 0
 ·go_enter Tryz.func263, Tryz.ntmps263
  go_wp2
  go_ret
  exact ⟨q0e (by rw [HT.out, if_pos (by have := HN.out; omega)]), Chg.refl _ _⟩
 go_enter Tryz.func263, Tryz.ntmps263
 go_wp2
 go_loopw [1, 5] (fun u v wr => ∃ (j : Nat) (z : Int), j ≤ la ∧ u = .int .i64 z ∧ v = .int .i64 j ∧ Hid (z = k - la - sumI (q2u) (xs.take j)) ∧ 0 ≤ z ∧ z ≤ 1048576 ∧ Hid (Chg [] w wr)) (fun _ v _ => la - (intOf v).toNat)
 case atStart => exact ⟨0, k - la, by omega, rfl, rfl, by show k - la = k - la - 0; omega, by omega, by omega, Chg.refl _ _⟩
 case round =>
  obtain ⟨j, z, hj, rfl, rfl, HZ, hz0, hz1, HC⟩ := hrel
  by_cases hlt : j < la
  ·obtain ⟨x, b, o, a1, l1, c1, fx, HX, rfl, hc0, hc1, HXS⟩ := q4v (blkL.sl_ext HA.out HC.out) hlt
   have HS := hid (q5l (f := q2u) q2s HX.out.1)
   have HSN := hid (q3a (f := q2u) HX.out.1)
   obtain ⟨t, ht⟩ : ∃ t, t = (q2u) x := ⟨_, rfl⟩
   have ht0 : 0 ≤ t := by rw [ht]; exact q2s x
   have HTX := hid ht
   clear ht
   go_wp2_with fail
   refine (szBlock_any x #[.int .i64 x.stamp, .slice a1 l1 c1] fx z _ HXS.out hz0 hz1).mono ?_
   rintro e w1 ⟨rfl, hc⟩
   have HC2 := hid (HC.out.trans0 hc)
   clear hc
   rw [← HTX.out]
   by_cases hneg : z - t < 0
   ·rw [if_pos hneg]
    go_wp2_with fail
    go_ret
    exact ⟨q0e (by rw [HT.out, if_pos (by have h1 := HS.out; have h2 := HZ.out; have h3 := HTX.out; omega)]), HC2.out⟩
   ·rw [if_neg hneg]
    have HN2 := hid (show z - t = k - la - sumI (q2u) (xs.take (j + 1)) by rw [HSN.out, HZ.out, HTX.out]; omega)
    go_wp2_with fail
    go_roundw
    case rel => exact ⟨j + 1, z - t, by omega, rfl, by go_num, HN2, by omega, by omega, HC2⟩
    case measure => simp [intOf]; omega
  ·have hjl : j = la := by omega
   subst hjl
   have HR := hid (show (if k - totL (q2u) xs < 0 then -1 else k - totL (q2u) xs) = z by
    have h1 := HZ.out
    rw [List.take_of_length_le (by have := HL.out; omega)] at h1
    rw [HT.out, if_neg (by omega)]; omega)
   go_wp2
   go_ret
   exact ⟨q0e HR.out.symm, HC.out⟩
theorem eqBlockS_any (a b : Option Addr) (la ca cb : Nat) (xs : List (Blk)) (f g : List Nat) (w : World) (ha : blkL.sl w a la ca xs f) (hb : blkL.sl w b la cb xs g) :
  Calls Tryz.prog 267 #[.slice a la ca, .slice b la cb] w fun e w' => e = .returned (.bool true) ∧ Chg [] w w' := by
 have hm := blkL.sl_max ha
 have hne : ((la : Int) != (la : Int)) = false := by simp
 have HA := hid ha
 have HB := hid hb
 clear ha hb
 go_enter Tryz.func267, Tryz.ntmps267
 go_wp2
 go_loopw [5] (fun i wr => ∃ k : Nat, k ≤ la ∧ i = .int .i64 k ∧ Chg [] w wr) (fun i _ => la - (intOf i).toNat)
 case atStart => exact ⟨0, by omega, rfl, Chg.refl _ _⟩
 case round =>
  obtain ⟨k, hk, rfl, hc⟩ := hrel
  rename_i wr
  by_cases hlt : k < la
  ·obtain ⟨x, b1, o1, a1, l1, c1, fx, HX, rfl, hx0, hx1, HXS⟩ := q4v (blkL.sl_ext HA.out hc) hlt
   obtain ⟨y, b2, o2, bb1, m1, d1, fy, HY, rfl, hy0, hy1, HYS⟩ := q4v (blkL.sl_ext HB.out hc) hlt
   have hxy : x = y := by have := HX.out.1.symm.trans HY.out.1; exact Option.some.inj this
   subst hxy
   have HC := hid hc
   have HE := hid (eqBlock_any x #[.int .i64 x.stamp, .slice a1 l1 c1] #[.int .i64 x.stamp, .slice bb1 m1 d1] fx fy wr.drew (Lay.keep _ HXS.out (fun _ _ => rfl)) (Lay.keep _ HYS.out (fun _ _ => rfl)))
   clear hc
   go_wp2_with fail
   go_region_law (go_simp; go_at_call 291; refine HE.out.mono ?_; rintro e w' ⟨rfl, hc⟩)
   all_goals
    have HC2 := hid (HC.out.drew.trans0 hc)
    clear hc
    go_wp2
    go_roundw
    case rel => exact ⟨k + 1, by omega, by go_num, HC2.out⟩
    case measure => simp [intOf]; omega
  ·have HC := hid hc
   clear hc
   go_wp2
   go_ret
   exact ⟨rfl, HC.out⟩
theorem szDrive_any (x : Drv) (cx : Array Value) (fx : List Nat) (k : Int) (w : World) (hx : drvL.rep w cx.toList x fx) (hk : 0 ≤ k) (hk2 : k ≤ 1048576) :
  Calls Tryz.prog 226 #[.agg cx, .int .i64 k] w (q6i (q1p x) k w) := by
 obtain ⟨a1, l1, c1, f1, ex, h1, -⟩ := q2y.1 hx
 clear hx
 obtain ⟨v0, v1⟩ := x
 simp only at ex h1
 obtain rfl := Array.toList_inj.1 (ex.trans (List.toList_toArray).symm)
 clear ex
 have H1 := hid h1; clear h1
 obtain ⟨t1, ht1⟩ : ∃ t, t = totL q2u v1 := ⟨_, rfl⟩
 have n1 : 0 ≤ t1 := by rw [ht1]; exact q0v q2s _
 have HT1 := hid ht1
 have HT := hid (show q1p ⟨v0, v1⟩ = t1 by rw [ht1]; unfold q1p; rfl)
 clear ht1
 go_enter Tryz.func226, Tryz.ntmps226
 go_wp2_with fail
 refine (szBlockS_any a1 l1 c1 v1 f1 (k) _ (blkL.sl_ext H1.out (by refine Chg.alloc ?_ _; exact Chg.refl _ _)) (by omega) (by omega)).mono ?_
 rintro e w1 ⟨rfl, hc⟩
 rw [← HT1.out]
 have hP := hc.keep0 (b := w.heap.size) (q0d (by simp) _)
 have cP := cellsOf hP; have lP := ltOf hP; have fP := q0l hP; have HBP := hid hP; clear hP
 have HC1 := hid hc; clear hc
 by_cases m1 : k - t1 < 0
 ·rw [if_pos m1]
  go_wp2_with fail
  go_ret
  exact ⟨q0e (by rw [HT.out, if_pos (by omega)]), by refine Chg.trans0 ?_ HC1.out; refine Chg.alloc ?_ _; exact Chg.refl _ _⟩
 rw [if_neg m1]
 go_wp2_with fail
 go_ret
 exact ⟨q0e (by rw [HT.out, if_neg (by omega)] <;> omega), by refine Chg.trans0 ?_ HC1.out; refine Chg.alloc ?_ _; exact Chg.refl _ _⟩
theorem eqDrive_any (x : Drv) (cx cy : Array Value) (fx fy : List Nat) (w : World) (hx : drvL.rep w cx.toList x fx) (hy : drvL.rep w cy.toList x fy) :
  Calls Tryz.prog 231 #[.agg cx, .agg cy] w fun e w' => e = .returned (.bool true) ∧ Chg [] w w' := by
 obtain ⟨a1, l1, c1, f1, ex, h1, -⟩ := q2y.1 hx
 obtain ⟨b1, m1, d1, g1, ey, j1, -⟩ := q2y.1 hy
 clear hx hy
 obtain ⟨v0, v1⟩ := x
 simp only at ex ey h1 j1
 obtain rfl := Array.toList_inj.1 (ex.trans (List.toList_toArray).symm)
 obtain rfl := Array.toList_inj.1 (ey.trans (List.toList_toArray).symm)
 clear ex ey
 obtain rfl : l1 = m1 := h1.1.trans j1.1.symm
 have H1 := hid h1; have J1 := hid j1; clear h1 j1
 have e0 : (v0 != v0) = false := by simp
 go_enter Tryz.func231, Tryz.ntmps231
 go_wp2_with fail
 refine (eqBlockS_any a1 b1 l1 c1 d1 v1 f1 g1 _ (blkL.sl_ext H1.out (by refine Chg.alloc ?_ _; refine Chg.alloc ?_ _; exact Chg.refl _ _)) (blkL.sl_ext J1.out (by refine Chg.alloc ?_ _; refine Chg.alloc ?_ _; exact Chg.refl _ _))).mono ?_
 rintro e w1 ⟨rfl, hc⟩
 have hP := hc.keep0 (b := w.heap.size) (q0b (q0d (by simp) _) _)
 have hQ := hc.keep0 (b := w.heap.size + 1) (q0d (by simp) _)
 have cP := cellsOf hP; have lP := ltOf hP; have fP := q0l hP; have HBP := hid hP; clear hP
 have cQ := cellsOf hQ; have lQ := ltOf hQ; have fQ := q0l hQ; have HBQ := hid hQ; clear hQ
 have HC1 := hid hc; clear hc
 go_wp2_with fail
 go_ret
 exact ⟨rfl, by refine Chg.trans0 ?_ HC1.out; refine Chg.alloc ?_ _; refine Chg.alloc ?_ _; exact Chg.refl _ _⟩
theorem szDriveS_any (a : Option Addr) (la ca : Nat) (xs : List (Drv)) (f : List Nat) (k : Int) (w : World) (ha : drvL.sl w a la ca xs f) (hk : 0 ≤ k) (hk2 : k ≤ 1048576) :
  Calls Tryz.prog 150 #[.slice a la ca, .int .i64 k] w (q6i (totL (q1p) xs) k w) := by
 have hm := drvL.sl_max ha
 have HL := hid ha.1
 have HA := hid ha
 have HN := hid (q0w (f := q1p) q1h xs)
 have HT := hid (show totL (q1p) xs = (la : Int) + sumI (q1p) xs by unfold totL; rw [ha.1])
 clear ha
 by_cases hn : k - (la : Int) < 0
 ·go_enter Tryz.func150, Tryz.ntmps150
  go_wp2
  go_ret
  exact ⟨q0e (by rw [HT.out, if_pos (by have := HN.out; omega)]), Chg.refl _ _⟩
 go_enter Tryz.func150, Tryz.ntmps150
 go_wp2
 go_loopw [1, 5] (fun u v wr => ∃ (j : Nat) (z : Int), j ≤ la ∧ u = .int .i64 z ∧ v = .int .i64 j ∧ Hid (z = k - la - sumI (q1p) (xs.take j)) ∧ 0 ≤ z ∧ z ≤ 1048576 ∧ Hid (Chg [] w wr)) (fun _ v _ => la - (intOf v).toNat)
 case atStart => exact ⟨0, k - la, by omega, rfl, rfl, by show k - la = k - la - 0; omega, by omega, by omega, Chg.refl _ _⟩
 case round =>
  obtain ⟨j, z, hj, rfl, rfl, HZ, hz0, hz1, HC⟩ := hrel
  by_cases hlt : j < la
  ·obtain ⟨x, b, o, a1, l1, c1, fx, HX, rfl, hc0, hc1, HXS⟩ := q4r (drvL.sl_ext HA.out HC.out) hlt
   have HS := hid (q5l (f := q1p) q1h HX.out.1)
   have HSN := hid (q3a (f := q1p) HX.out.1)
   obtain ⟨t, ht⟩ : ∃ t, t = (q1p) x := ⟨_, rfl⟩
   have ht0 : 0 ≤ t := by rw [ht]; exact q1h x
   have HTX := hid ht
   clear ht
   go_wp2_with fail
   refine (szDrive_any x #[.bool x.wiped, .slice a1 l1 c1] fx z _ HXS.out hz0 hz1).mono ?_
   rintro e w1 ⟨rfl, hc⟩
   have HC2 := hid (HC.out.trans0 hc)
   clear hc
   rw [← HTX.out]
   by_cases hneg : z - t < 0
   ·rw [if_pos hneg]
    go_wp2_with fail
    go_ret
    exact ⟨q0e (by rw [HT.out, if_pos (by have h1 := HS.out; have h2 := HZ.out; have h3 := HTX.out; omega)]), HC2.out⟩
   ·rw [if_neg hneg]
    have HN2 := hid (show z - t = k - la - sumI (q1p) (xs.take (j + 1)) by rw [HSN.out, HZ.out, HTX.out]; omega)
    go_wp2_with fail
    go_roundw
    case rel => exact ⟨j + 1, z - t, by omega, rfl, by go_num, HN2, by omega, by omega, HC2⟩
    case measure => simp [intOf]; omega
  ·have hjl : j = la := by omega
   subst hjl
   have HR := hid (show (if k - totL (q1p) xs < 0 then -1 else k - totL (q1p) xs) = z by
    have h1 := HZ.out
    rw [List.take_of_length_le (by have := HL.out; omega)] at h1
    rw [HT.out, if_neg (by omega)]; omega)
   go_wp2
   go_ret
   exact ⟨q0e HR.out.symm, HC.out⟩
theorem eqDriveS_any (a b : Option Addr) (la ca cb : Nat) (xs : List (Drv)) (f g : List Nat) (w : World) (ha : drvL.sl w a la ca xs f) (hb : drvL.sl w b la cb xs g) :
  Calls Tryz.prog 160 #[.slice a la ca, .slice b la cb] w fun e w' => e = .returned (.bool true) ∧ Chg [] w w' := by
 have hm := drvL.sl_max ha
 have hne : ((la : Int) != (la : Int)) = false := by simp
 have HA := hid ha
 have HB := hid hb
 clear ha hb
 go_enter Tryz.func160, Tryz.ntmps160
 go_wp2
 go_loopw [5] (fun i wr => ∃ k : Nat, k ≤ la ∧ i = .int .i64 k ∧ Chg [] w wr) (fun i _ => la - (intOf i).toNat)
 case atStart => exact ⟨0, by omega, rfl, Chg.refl _ _⟩
 case round =>
  obtain ⟨k, hk, rfl, hc⟩ := hrel
  rename_i wr
  by_cases hlt : k < la
  ·obtain ⟨x, b1, o1, a1, l1, c1, fx, HX, rfl, hx0, hx1, HXS⟩ := q4r (drvL.sl_ext HA.out hc) hlt
   obtain ⟨y, b2, o2, bb1, m1, d1, fy, HY, rfl, hy0, hy1, HYS⟩ := q4r (drvL.sl_ext HB.out hc) hlt
   have hxy : x = y := by have := HX.out.1.symm.trans HY.out.1; exact Option.some.inj this
   subst hxy
   have HC := hid hc
   have HE := hid (eqDrive_any x #[.bool x.wiped, .slice a1 l1 c1] #[.bool x.wiped, .slice bb1 m1 d1] fx fy wr.drew (Lay.keep _ HXS.out (fun _ _ => rfl)) (Lay.keep _ HYS.out (fun _ _ => rfl)))
   clear hc
   go_wp2_with fail
   go_region_law (go_simp; go_at_call 231; refine HE.out.mono ?_; rintro e w' ⟨rfl, hc⟩)
   all_goals
    have HC2 := hid (HC.out.drew.trans0 hc)
    clear hc
    go_wp2
    go_roundw
    case rel => exact ⟨k + 1, by omega, by go_num, HC2.out⟩
    case measure => simp [intOf]; omega
  ·have HC := hid hc
   clear hc
   go_wp2
   go_ret
   exact ⟨rfl, HC.out⟩
theorem z1o (a : Option Addr) (la ca : Nat) (xs : List (List Drv)) (f : List Nat) (k : Int) (w : World) (ha : drvL.slice.sl w a la ca xs f) (hk : 0 ≤ k) (hk2 : k ≤ 1048576) :
  Calls Tryz.prog 66 #[.slice a la ca, .int .i64 k] w (q6i (totL (totL q1p) xs) k w) := by
 have hm := drvL.slice.sl_max ha
 have HL := hid ha.1
 have HA := hid ha
 have HN := hid (q0w (f := totL q1p) (q0v q1h) xs)
 have HT := hid (show totL (totL q1p) xs = (la : Int) + sumI (totL q1p) xs by unfold totL; rw [ha.1])
 clear ha
 by_cases hn : k - (la : Int) < 0
 ·go_enter Tryz.func66, Tryz.ntmps66
  go_wp2
  go_ret
  exact ⟨q0e (by rw [HT.out, if_pos (by have := HN.out; omega)]), Chg.refl _ _⟩
 go_enter Tryz.func66, Tryz.ntmps66
 go_wp2
 go_loopw [1, 5] (fun u v wr => ∃ (j : Nat) (z : Int), j ≤ la ∧ u = .int .i64 z ∧ v = .int .i64 j ∧ Hid (z = k - la - sumI (totL q1p) (xs.take j)) ∧ 0 ≤ z ∧ z ≤ 1048576 ∧ Hid (Chg [] w wr)) (fun _ v _ => la - (intOf v).toNat)
 case atStart => exact ⟨0, k - la, by omega, rfl, rfl, by show k - la = k - la - 0; omega, by omega, by omega, Chg.refl _ _⟩
 case round =>
  obtain ⟨j, z, hj, rfl, rfl, HZ, hz0, hz1, HC⟩ := hrel
  by_cases hlt : j < la
  ·obtain ⟨x, b, o, A, lx, C, fx, HX, rfl, hcx, HXS⟩ := q7r (drvL.slice.sl_ext HA.out HC.out) hlt
   have HS := hid (q5l (f := totL q1p) (q0v q1h) HX.out.1)
   have HSN := hid (q3a (f := totL q1p) HX.out.1)
   obtain ⟨t, ht⟩ : ∃ t, t = (totL q1p) x := ⟨_, rfl⟩
   have ht0 : 0 ≤ t := by rw [ht]; exact (q0v q1h) x
   have HTX := hid ht
   clear ht
   go_wp2_with fail
   refine (szDriveS_any A lx C x fx z _ HXS.out hz0 hz1).mono ?_
   rintro e w1 ⟨rfl, hc⟩
   have HC2 := hid (HC.out.trans0 hc)
   clear hc
   rw [← HTX.out]
   by_cases hneg : z - t < 0
   ·rw [if_pos hneg]
    go_wp2_with fail
    go_ret
    exact ⟨q0e (by rw [HT.out, if_pos (by have h1 := HS.out; have h2 := HZ.out; have h3 := HTX.out; omega)]), HC2.out⟩
   ·rw [if_neg hneg]
    have HN2 := hid (show z - t = k - la - sumI (totL q1p) (xs.take (j + 1)) by rw [HSN.out, HZ.out, HTX.out]; omega)
    go_wp2_with fail
    go_roundw
    case rel => exact ⟨j + 1, z - t, by omega, rfl, by go_num, HN2, by omega, by omega, HC2⟩
    case measure => simp [intOf]; omega
  ·have hjl : j = la := by omega
   subst hjl
   have HR := hid (show (if k - totL (totL q1p) xs < 0 then -1 else k - totL (totL q1p) xs) = z by
    have h1 := HZ.out
    rw [List.take_of_length_le (by have := HL.out; omega)] at h1
    rw [HT.out, if_neg (by omega)]; omega)
   go_wp2
   go_ret
   exact ⟨q0e HR.out.symm, HC.out⟩
theorem z2n (a b : Option Addr) (la ca cb : Nat) (xs : List (List Drv)) (f g : List Nat) (w : World) (ha : drvL.slice.sl w a la ca xs f) (hb : drvL.slice.sl w b la cb xs g) :
  Calls Tryz.prog 84 #[.slice a la ca, .slice b la cb] w fun e w' => e = .returned (.bool true) ∧ Chg [] w w' := by
 have hm := drvL.slice.sl_max ha
 have hne : ((la : Int) != (la : Int)) = false := by simp
 have HA := hid ha
 have HB := hid hb
 clear ha hb
 go_enter Tryz.func84, Tryz.ntmps84
 go_wp2
 go_loopw [5] (fun i wr => ∃ k : Nat, k ≤ la ∧ i = .int .i64 k ∧ Chg [] w wr) (fun i _ => la - (intOf i).toNat)
 case atStart => exact ⟨0, by omega, rfl, Chg.refl _ _⟩
 case round =>
  obtain ⟨k, hk, rfl, hc⟩ := hrel
  rename_i wr
  by_cases hlt : k < la
  ·obtain ⟨x, b1, o1, A, lx, C, fx, HX, rfl, hcx, HXS⟩ := q7r (drvL.slice.sl_ext HA.out hc) hlt
   obtain ⟨y, b2, o2, B, ly, D, fy, HY, rfl, hcy, HYS⟩ := q7r (drvL.slice.sl_ext HB.out hc) hlt
   have hxy : x = y := by have := HX.out.1.symm.trans HY.out.1; exact Option.some.inj this
   subst hxy
   obtain rfl : lx = ly := HXS.out.1.trans HYS.out.1.symm
   have HC := hid hc
   have HE := hid (eqDriveS_any A B lx C D x fx fy wr.drew (Lay.sl_keep _ HXS.out (fun _ _ => rfl)) (Lay.sl_keep _ HYS.out (fun _ _ => rfl)))
   clear hc
   go_wp2_with fail
   go_region_law (go_simp; go_at_call 160; refine HE.out.mono ?_; rintro e w' ⟨rfl, hc⟩)
   all_goals
    have HC2 := hid (HC.out.drew.trans0 hc)
    clear hc
    go_wp2
    go_roundw
    case rel => exact ⟨k + 1, by omega, by go_num, HC2.out⟩
    case measure => simp [intOf]; omega
  ·have HC := hid hc
   clear hc
   go_wp2
   go_ret
   exact ⟨rfl, HC.out⟩
theorem szRecS_any (a : Option Addr) (la ca : Nat) (xs : List (Rec)) (f : List Nat) (k : Int) (w : World) (ha : recL.sl w a la ca xs f) (hk : 0 ≤ k) (hk2 : k ≤ 1048576) :
  Calls Tryz.prog 227 #[.slice a la ca, .int .i64 k] w (q6i (totL (q2m) xs) k w) := by
 have hm := recL.sl_max ha
 have HL := hid ha.1
 have HA := hid ha
 have HN := hid (q0w (f := q2m) q2l xs)
 have HT := hid (show totL (q2m) xs = (la : Int) + sumI (q2m) xs by unfold totL; rw [ha.1])
 clear ha
 by_cases hn : k - (la : Int) < 0
 ·go_enter Tryz.func227, Tryz.ntmps227
  go_wp2
  go_ret
  exact ⟨q0e (by rw [HT.out, if_pos (by have := HN.out; omega)]), Chg.refl _ _⟩
 go_enter Tryz.func227, Tryz.ntmps227
 go_wp2
 go_loopw [1, 5] (fun u v wr => ∃ (j : Nat) (z : Int), j ≤ la ∧ u = .int .i64 z ∧ v = .int .i64 j ∧ Hid (z = k - la - sumI (q2m) (xs.take j)) ∧ 0 ≤ z ∧ z ≤ 1048576 ∧ Hid (Chg [] w wr)) (fun _ v _ => la - (intOf v).toNat)
 case atStart => exact ⟨0, k - la, by omega, rfl, rfl, by show k - la = k - la - 0; omega, by omega, by omega, Chg.refl _ _⟩
 case round =>
  obtain ⟨j, z, hj, rfl, rfl, HZ, hz0, hz1, HC⟩ := hrel
  by_cases hlt : j < la
  ·obtain ⟨x, b, o, a6, l6, c6, a7, l7, c7, a8, l8, c8, fx, HX, rfl, hc0, hc1, hc2, hc3, hc4, hc5, hc6, hc7, hc8, HXS⟩ := q4q (recL.sl_ext HA.out HC.out) hlt
   have HS := hid (q5l (f := q2m) q2l HX.out.1)
   have HSN := hid (q3a (f := q2m) HX.out.1)
   obtain ⟨t, ht⟩ : ∃ t, t = (q2m) x := ⟨_, rfl⟩
   have ht0 : 0 ≤ t := by rw [ht]; exact q2l x
   have HTX := hid ht
   clear ht
   go_wp2_with fail
   refine (szRec_any x #[.int .i64 x.kind, .int .i64 x.seq, .string x.name, .int .i64 x.length, .int .i64 x.group, .int .i64 x.row, .slice a6 l6 c6, .slice a7 l7 c7, .slice a8 l8 c8] fx z _ HXS.out hz0 hz1).mono ?_
   rintro e w1 ⟨rfl, hc⟩
   have HC2 := hid (HC.out.trans0 hc)
   clear hc
   rw [← HTX.out]
   by_cases hneg : z - t < 0
   ·rw [if_pos hneg]
    go_wp2_with fail
    go_ret
    exact ⟨q0e (by rw [HT.out, if_pos (by have h1 := HS.out; have h2 := HZ.out; have h3 := HTX.out; omega)]), HC2.out⟩
   ·rw [if_neg hneg]
    have HN2 := hid (show z - t = k - la - sumI (q2m) (xs.take (j + 1)) by rw [HSN.out, HZ.out, HTX.out]; omega)
    go_wp2_with fail
    go_roundw
    case rel => exact ⟨j + 1, z - t, by omega, rfl, by go_num, HN2, by omega, by omega, HC2⟩
    case measure => simp [intOf]; omega
  ·have hjl : j = la := by omega
   subst hjl
   have HR := hid (show (if k - totL (q2m) xs < 0 then -1 else k - totL (q2m) xs) = z by
    have h1 := HZ.out
    rw [List.take_of_length_le (by have := HL.out; omega)] at h1
    rw [HT.out, if_neg (by omega)]; omega)
   go_wp2
   go_ret
   exact ⟨q0e HR.out.symm, HC.out⟩
theorem eqRecS_any (a b : Option Addr) (la ca cb : Nat) (xs : List (Rec)) (f g : List Nat) (w : World) (ha : recL.sl w a la ca xs f) (hb : recL.sl w b la cb xs g) :
  Calls Tryz.prog 95 #[.slice a la ca, .slice b la cb] w fun e w' => e = .returned (.bool true) ∧ Chg [] w w' := by
 have hm := recL.sl_max ha
 have hne : ((la : Int) != (la : Int)) = false := by simp
 have HA := hid ha
 have HB := hid hb
 clear ha hb
 go_enter Tryz.func95, Tryz.ntmps95
 go_wp2
 go_loopw [5] (fun i wr => ∃ k : Nat, k ≤ la ∧ i = .int .i64 k ∧ Chg [] w wr) (fun i _ => la - (intOf i).toNat)
 case atStart => exact ⟨0, by omega, rfl, Chg.refl _ _⟩
 case round =>
  obtain ⟨k, hk, rfl, hc⟩ := hrel
  rename_i wr
  by_cases hlt : k < la
  ·obtain ⟨x, b1, o1, a6, l6, c6, a7, l7, c7, a8, l8, c8, fx, HX, rfl, hx0, hx1, hx2, hx3, hx4, hx5, hx6, hx7, hx8, HXS⟩ := q4q (recL.sl_ext HA.out hc) hlt
   obtain ⟨y, b2, o2, bb6, m6, d6, bb7, m7, d7, bb8, m8, d8, fy, HY, rfl, hy0, hy1, hy2, hy3, hy4, hy5, hy6, hy7, hy8, HYS⟩ := q4q (recL.sl_ext HB.out hc) hlt
   have hxy : x = y := by have := HX.out.1.symm.trans HY.out.1; exact Option.some.inj this
   subst hxy
   have HC := hid hc
   have HE := hid (eqRec_any x #[.int .i64 x.kind, .int .i64 x.seq, .string x.name, .int .i64 x.length, .int .i64 x.group, .int .i64 x.row, .slice a6 l6 c6, .slice a7 l7 c7, .slice a8 l8 c8] #[.int .i64 x.kind, .int .i64 x.seq, .string x.name, .int .i64 x.length, .int .i64 x.group, .int .i64 x.row, .slice bb6 m6 d6, .slice bb7 m7 d7, .slice bb8 m8 d8] fx fy wr.drew (Lay.keep _ HXS.out (fun _ _ => rfl)) (Lay.keep _ HYS.out (fun _ _ => rfl)))
   clear hc
   go_wp2_with fail
   go_region_law (go_simp; go_at_call 173; refine HE.out.mono ?_; rintro e w' ⟨rfl, hc⟩)
   all_goals
    have HC2 := hid (HC.out.drew.trans0 hc)
    clear hc
    go_wp2
    go_roundw
    case rel => exact ⟨k + 1, by omega, by go_num, HC2.out⟩
    case measure => simp [intOf]; omega
  ·have HC := hid hc
   clear hc
   go_wp2
   go_ret
   exact ⟨rfl, HC.out⟩
theorem szTape_any (x : Tap) (cx : Array Value) (fx : List Nat) (k : Int) (w : World) (hx : tapL.rep w cx.toList x fx) (hk : 0 ≤ k) (hk2 : k ≤ 1048576) :
  Calls Tryz.prog 151 #[.agg cx, .int .i64 k] w (q6i (q2n x) k w) := by
 obtain ⟨a1, l1, c1, f1, ex, h1, -⟩ := q1k.1 hx
 clear hx
 obtain ⟨v0, v1⟩ := x
 simp only at ex h1
 obtain rfl := Array.toList_inj.1 (ex.trans (List.toList_toArray).symm)
 clear ex
 have H1 := hid h1; clear h1
 obtain ⟨t1, ht1⟩ : ∃ t, t = totL q2m v1 := ⟨_, rfl⟩
 have n1 : 0 ≤ t1 := by rw [ht1]; exact q0v q2l _
 have HT1 := hid ht1
 have HT := hid (show q2n ⟨v0, v1⟩ = t1 by rw [ht1]; unfold q2n; rfl)
 clear ht1
 go_enter Tryz.func151, Tryz.ntmps151
 go_wp2_with fail
 refine (szRecS_any a1 l1 c1 v1 f1 (k) _ (recL.sl_ext H1.out (by refine Chg.alloc ?_ _; exact Chg.refl _ _)) (by omega) (by omega)).mono ?_
 rintro e w1 ⟨rfl, hc⟩
 rw [← HT1.out]
 have hP := hc.keep0 (b := w.heap.size) (q0d (by simp) _)
 have cP := cellsOf hP; have lP := ltOf hP; have fP := q0l hP; have HBP := hid hP; clear hP
 have HC1 := hid hc; clear hc
 by_cases m1 : k - t1 < 0
 ·rw [if_pos m1]
  go_wp2_with fail
  go_ret
  exact ⟨q0e (by rw [HT.out, if_pos (by omega)]), by refine Chg.trans0 ?_ HC1.out; refine Chg.alloc ?_ _; exact Chg.refl _ _⟩
 rw [if_neg m1]
 go_wp2_with fail
 go_ret
 exact ⟨q0e (by rw [HT.out, if_neg (by omega)] <;> omega), by refine Chg.trans0 ?_ HC1.out; refine Chg.alloc ?_ _; exact Chg.refl _ _⟩
theorem eqTape_any (x : Tap) (cx cy : Array Value) (fx fy : List Nat) (w : World) (hx : tapL.rep w cx.toList x fx) (hy : tapL.rep w cy.toList x fy) :
  Calls Tryz.prog 161 #[.agg cx, .agg cy] w fun e w' => e = .returned (.bool true) ∧ Chg [] w w' := by
 obtain ⟨a1, l1, c1, f1, ex, h1, -⟩ := q1k.1 hx
 obtain ⟨b1, m1, d1, g1, ey, j1, -⟩ := q1k.1 hy
 clear hx hy
 obtain ⟨v0, v1⟩ := x
 simp only at ex ey h1 j1
 obtain rfl := Array.toList_inj.1 (ex.trans (List.toList_toArray).symm)
 obtain rfl := Array.toList_inj.1 (ey.trans (List.toList_toArray).symm)
 clear ex ey
 obtain rfl : l1 = m1 := h1.1.trans j1.1.symm
 have H1 := hid h1; have J1 := hid j1; clear h1 j1
 have e0 : (v0 != v0) = false := by simp
 go_enter Tryz.func161, Tryz.ntmps161
 go_wp2_with fail
 refine (eqRecS_any a1 b1 l1 c1 d1 v1 f1 g1 _ (recL.sl_ext H1.out (by refine Chg.alloc ?_ _; refine Chg.alloc ?_ _; exact Chg.refl _ _)) (recL.sl_ext J1.out (by refine Chg.alloc ?_ _; refine Chg.alloc ?_ _; exact Chg.refl _ _))).mono ?_
 rintro e w1 ⟨rfl, hc⟩
 have hP := hc.keep0 (b := w.heap.size) (q0b (q0d (by simp) _) _)
 have hQ := hc.keep0 (b := w.heap.size + 1) (q0d (by simp) _)
 have cP := cellsOf hP; have lP := ltOf hP; have fP := q0l hP; have HBP := hid hP; clear hP
 have cQ := cellsOf hQ; have lQ := ltOf hQ; have fQ := q0l hQ; have HBQ := hid hQ; clear hQ
 have HC1 := hid hc; clear hc
 go_wp2_with fail
 go_ret
 exact ⟨rfl, by refine Chg.trans0 ?_ HC1.out; refine Chg.alloc ?_ _; refine Chg.alloc ?_ _; exact Chg.refl _ _⟩
theorem szTapeS_any (a : Option Addr) (la ca : Nat) (xs : List (Tap)) (f : List Nat) (k : Int) (w : World) (ha : tapL.sl w a la ca xs f) (hk : 0 ≤ k) (hk2 : k ≤ 1048576) :
  Calls Tryz.prog 68 #[.slice a la ca, .int .i64 k] w (q6i (totL (q2n) xs) k w) := by
 have hm := tapL.sl_max ha
 have HL := hid ha.1
 have HA := hid ha
 have HN := hid (q0w (f := q2n) q1y xs)
 have HT := hid (show totL (q2n) xs = (la : Int) + sumI (q2n) xs by unfold totL; rw [ha.1])
 clear ha
 by_cases hn : k - (la : Int) < 0
 ·go_enter Tryz.func68, Tryz.ntmps68
  go_wp2
  go_ret
  exact ⟨q0e (by rw [HT.out, if_pos (by have := HN.out; omega)]), Chg.refl _ _⟩
 go_enter Tryz.func68, Tryz.ntmps68
 go_wp2
 go_loopw [1, 5] (fun u v wr => ∃ (j : Nat) (z : Int), j ≤ la ∧ u = .int .i64 z ∧ v = .int .i64 j ∧ Hid (z = k - la - sumI (q2n) (xs.take j)) ∧ 0 ≤ z ∧ z ≤ 1048576 ∧ Hid (Chg [] w wr)) (fun _ v _ => la - (intOf v).toNat)
 case atStart => exact ⟨0, k - la, by omega, rfl, rfl, by show k - la = k - la - 0; omega, by omega, by omega, Chg.refl _ _⟩
 case round =>
  obtain ⟨j, z, hj, rfl, rfl, HZ, hz0, hz1, HC⟩ := hrel
  by_cases hlt : j < la
  ·obtain ⟨x, b, o, a1, l1, c1, fx, HX, rfl, hc0, hc1, HXS⟩ := q2i (tapL.sl_ext HA.out HC.out) hlt
   have HS := hid (q5l (f := q2n) q1y HX.out.1)
   have HSN := hid (q3a (f := q2n) HX.out.1)
   obtain ⟨t, ht⟩ : ∃ t, t = (q2n) x := ⟨_, rfl⟩
   have ht0 : 0 ≤ t := by rw [ht]; exact q1y x
   have HTX := hid ht
   clear ht
   go_wp2_with fail
   refine (szTape_any x #[.bool x.wiped, .slice a1 l1 c1] fx z _ HXS.out hz0 hz1).mono ?_
   rintro e w1 ⟨rfl, hc⟩
   have HC2 := hid (HC.out.trans0 hc)
   clear hc
   rw [← HTX.out]
   by_cases hneg : z - t < 0
   ·rw [if_pos hneg]
    go_wp2_with fail
    go_ret
    exact ⟨q0e (by rw [HT.out, if_pos (by have h1 := HS.out; have h2 := HZ.out; have h3 := HTX.out; omega)]), HC2.out⟩
   ·rw [if_neg hneg]
    have HN2 := hid (show z - t = k - la - sumI (q2n) (xs.take (j + 1)) by rw [HSN.out, HZ.out, HTX.out]; omega)
    go_wp2_with fail
    go_roundw
    case rel => exact ⟨j + 1, z - t, by omega, rfl, by go_num, HN2, by omega, by omega, HC2⟩
    case measure => simp [intOf]; omega
  ·have hjl : j = la := by omega
   subst hjl
   have HR := hid (show (if k - totL (q2n) xs < 0 then -1 else k - totL (q2n) xs) = z by
    have h1 := HZ.out
    rw [List.take_of_length_le (by have := HL.out; omega)] at h1
    rw [HT.out, if_neg (by omega)]; omega)
   go_wp2
   go_ret
   exact ⟨q0e HR.out.symm, HC.out⟩
theorem eqTapeS_any (a b : Option Addr) (la ca cb : Nat) (xs : List (Tap)) (f g : List Nat) (w : World) (ha : tapL.sl w a la ca xs f) (hb : tapL.sl w b la cb xs g) :
  Calls Tryz.prog 86 #[.slice a la ca, .slice b la cb] w fun e w' => e = .returned (.bool true) ∧ Chg [] w w' := by
 have hm := tapL.sl_max ha
 have hne : ((la : Int) != (la : Int)) = false := by simp
 have HA := hid ha
 have HB := hid hb
 clear ha hb
 go_enter Tryz.func86, Tryz.ntmps86
 go_wp2
 go_loopw [5] (fun i wr => ∃ k : Nat, k ≤ la ∧ i = .int .i64 k ∧ Chg [] w wr) (fun i _ => la - (intOf i).toNat)
 case atStart => exact ⟨0, by omega, rfl, Chg.refl _ _⟩
 case round =>
  obtain ⟨k, hk, rfl, hc⟩ := hrel
  rename_i wr
  by_cases hlt : k < la
  ·obtain ⟨x, b1, o1, a1, l1, c1, fx, HX, rfl, hx0, hx1, HXS⟩ := q2i (tapL.sl_ext HA.out hc) hlt
   obtain ⟨y, b2, o2, bb1, m1, d1, fy, HY, rfl, hy0, hy1, HYS⟩ := q2i (tapL.sl_ext HB.out hc) hlt
   have hxy : x = y := by have := HX.out.1.symm.trans HY.out.1; exact Option.some.inj this
   subst hxy
   have HC := hid hc
   have HE := hid (eqTape_any x #[.bool x.wiped, .slice a1 l1 c1] #[.bool x.wiped, .slice bb1 m1 d1] fx fy wr.drew (Lay.keep _ HXS.out (fun _ _ => rfl)) (Lay.keep _ HYS.out (fun _ _ => rfl)))
   clear hc
   go_wp2_with fail
   go_region_law (go_simp; go_at_call 161; refine HE.out.mono ?_; rintro e w' ⟨rfl, hc⟩)
   all_goals
    have HC2 := hid (HC.out.drew.trans0 hc)
    clear hc
    go_wp2
    go_roundw
    case rel => exact ⟨k + 1, by omega, by go_num, HC2.out⟩
    case measure => simp [intOf]; omega
  ·have HC := hid hc
   clear hc
   go_wp2
   go_ret
   exact ⟨rfl, HC.out⟩
structure IRes where
 code : Int
 list : List Int
def irsL : Lay IRes := (intL.pair intL.slice).via (fun x => (x.code, x.list))
theorem q9i {w : World} {cs : List Value} {x : IRes} {fp : List Nat} : irsL.rep w cs x fp ↔ ∃ a l c, cs = [.int .i64 x.code, .slice a l c] ∧ q1t x.code ∧ intL.sl w a l c x.list fp := by
 constructor
 ·rintro ⟨_, _, _, f, rfl, rfl, ⟨rfl, h1, rfl⟩, a, l, c, rfl, h2⟩
  exact ⟨a, l, c, rfl, h1, h2⟩
 ·rintro ⟨a, l, c, rfl, h1, h2⟩
  exact ⟨[_], _, [], _, rfl, rfl, ⟨rfl, h1, rfl⟩, _, _, _, rfl, h2⟩
theorem q5w {w : World} {cs : Array Value} {x : IRes} {fp : List Nat} (h : irsL.rep w cs.toList x fp) : ∃ a l c, cs = #[.int .i64 x.code, .slice a l c] ∧ q1t x.code ∧ intL.sl w a l c x.list fp := by
 obtain ⟨a, l, c, ex, h1, h2⟩ := q9i.1 h
 exact ⟨a, l, c, Array.toList_inj.1 ex, h1, h2⟩
theorem q6g : (Tryz.prog.info? 58).map (fun i => i.size) = some 2 := by kernel_rfl
theorem z0l (x : IRes) (cx cy : Array Value) (fx fy : List Nat) (w : World) (hx : irsL.rep w cx.toList x fx) (hy : irsL.rep w cy.toList x fy) :
  Calls Tryz.prog 42 #[.agg cx, .agg cy] w fun e w' => e = .returned (.bool true) ∧ Chg [] w w' := by
 obtain ⟨a, l, c, rfl, -, h1⟩ := q5w hx
 obtain ⟨b, m, d, rfl, -, h2⟩ := q5w hy
 obtain rfl : m = l := h2.1.trans h1.1.symm
 exact q9c x.code a b m c d x.list fx fy w h1 h2
theorem markIrs_any (x : IRes) (cx : Array Value) (fx : List Nat) (k : Int) (w : World) (hx : irsL.rep w cx.toList x fx) (hf : q0r 0 w fx) (hk : 0 ≤ k) (hk2 : k + (x.list.length : Int) ≤ 4611686018427387904) :
  Calls Tryz.prog 43 #[.agg cx, .int .i64 k] w fun e w' => e = .returned (.int .i64 (k + (x.list.length : Int))) ∧ irsL.rep w' cx.toList ⟨x.code, q3h k x.list.length⟩ fx ∧ Chg fx w w' := by
 obtain ⟨a, l, c, rfl, hc, h1⟩ := q5w hx
 have hl := h1.1
 subst hl
 exact (q7w x.code a _ c x.list fx k w h1 hf hk (by omega)).mono fun e w' ⟨he, hs, hcg⟩ => ⟨he, q9i.2 ⟨_, _, _, rfl, hc, hs⟩, hcg⟩
theorem z0j (x : IRes) (cx : Array Value) (fx : List Nat) (k : Int) (w : World) (hx : irsL.rep w cx.toList ⟨x.code, q3h k x.list.length⟩ fx) (hk : 0 ≤ k) (hk2 : k + (x.list.length : Int) ≤ 4611686018427387904) :
  Calls Tryz.prog 44 #[.agg cx, .int .i64 k] w fun e w' => e = .returned (.int .i64 (k + (x.list.length : Int))) ∧ Chg [] w w' := by
 obtain ⟨a, l, c, rfl, -, h1⟩ := q5w hx
 have hl : l = x.list.length := by rw [h1.1]; simp [q3h]
 subst hl
 exact q8c x.code a _ c fx k w h1 hk (by omega)
end Go.Proofs.YtphmpimgbmedbaaGreat
namespace Go.Proofs.YtphmpimgbmedbaaGreat
open Go.RowKit
open Go.Lib (hid)
def cutW (w : World) (n : Nat) : World := { w with heap := w.heap.extract 0 n }
theorem q4m {w : World} {n : Nat} (h : n ≤ w.heap.size) : (cutW w n).heap.size = n := by simp [cutW]; omega
theorem z0m {w : World} {n k : Nat} (h : k < n) : (cutW w n).heap[k]? = w.heap[k]? := by
 unfold cutW
 simp only [Array.getElem?_extract]
 by_cases hk : k < w.heap.size
 ·rw [if_pos (by omega)]; simp
 ·rw [if_neg (by omega), Array.getElem?_eq_none (by omega)]
theorem cutW_chg {w : World} {n : Nat} (h : n ≤ w.heap.size) : Chg [] (cutW w n) w := by
 refine ⟨rfl, rfl, rfl, by rw [q4m h]; exact h, fun k hk _ => ?_, fun k hk => ?_⟩
 ·rw [q4m h] at hk; exact (z0m hk).symm
 ·have hlt := hk.lt
  rw [q4m h] at hlt
  obtain ⟨cur, E, hb⟩ := hk
  exact ⟨cur, E, by rw [← z0m hlt]; exact hb⟩
def q3y {α : Type} (L : Lay α) (E : TypeId) (n : Nat) (wr : World) (v : Value) (xs : List α) : Prop :=
 n ≤ wr.heap.size ∧ ∃ h fps, L.os E wr v xs h fps ∧ q0r n wr (h.toList ++ fps)
section
variable {α : Type} {L : Lay α} {E : TypeId} {n : Nat} {w wr w' : World} {v : Value} {xs : List α}
theorem q3y.to (h : q3y L E n wr v xs) : Grow L E (cutW wr n) wr v xs := by
 obtain ⟨h0, hd, fps, h1, h2⟩ := h
 exact ⟨hd, fps, h1, by rw [q4m h0]; exact h2, cutW_chg h0⟩
theorem q3y.of (h : Grow L E w wr v xs) : q3y L E w.heap.size wr v xs := by
 obtain ⟨hd, fps, h1, h2, h3⟩ := h
 exact ⟨h3.size, hd, fps, h1, h2⟩
theorem q3y.of' (h : Grow L E w wr v xs) (hn : n = w.heap.size) : q3y L E n wr v xs := by subst hn; exact q3y.of h
theorem q3y.chg {S : List Nat} (h : q3y L E n wr v xs) (hc : Chg S wr w') (hS : ∀ x ∈ S, x < n) : q3y L E n w' v xs := by
 obtain ⟨h0, hd, fps, h1, h2⟩ := h
 refine ⟨Nat.le_trans h0 hc.size, hd, fps, L.os_chg h1 hc (fun g hg hm => ?_) (fun b hb hm => ?_), h2.chg hc⟩
 ·have := (h2.2 g (List.mem_append.2 (.inl (by simp [hg])))).1; have := hS g hm; omega
 ·have := (h2.2 b (List.mem_append.2 (.inr hb))).1; have := hS b hm; omega
theorem q3y.ext (h : q3y L E n wr v xs) (hc : Chg [] wr w') : q3y L E n w' v xs := h.chg hc (by simp)
theorem q3y.next {ys : List α} {v' : Value} {S : List Nat} {w0 : World} (hn : n ≤ wr.heap.size) (h : Grow L E (cutW wr n) w' v' ys) (hc : Chg S w0 wr) (h0 : w0.heap.size ≤ n) : q3y L E n w' v' ys ∧ Chg S w0 w' := by
 refine ⟨q3y.of' h (q4m hn).symm, ?_⟩
 have h1 := h.chg
 refine ⟨h1.os.trans hc.os, h1.tape.trans hc.tape, h1.output.trans hc.output, ?_, fun k hk hS => ?_, fun k hk => ?_⟩
 ·have := h1.size; rw [q4m hn] at this; omega
 ·rw [h1.block k (by rw [q4m hn]; omega) (by simp), z0m (by omega), hc.block k hk hS]
 ·have hlt := hk.lt
  have h2 := hc.loose k hk
  refine h1.loose k ?_
  obtain ⟨cur, T, hb⟩ := h2
  exact ⟨cur, T, by rw [z0m (by omega)]; exact hb⟩
theorem q3y.low {ys : List α} {v' : Value} (hn : n ≤ wr.heap.size) (h : Grow L E (cutW wr n) w' v' ys) : ∀ k, k < n → w'.heap[k]? = wr.heap[k]? := fun k hk => by
 rw [h.chg.block k (by rw [q4m hn]; exact hk) (by simp), z0m hk]
theorem q3y.sl (h : q3y L E n wr v xs) : ∃ a cap fp, v = .slice a xs.length cap ∧ L.sl wr a xs.length cap xs fp ∧ q0r n wr fp := by
 obtain ⟨h0, hd, fps, h1, h2⟩ := h
 obtain ⟨a, cap, rfl, hs⟩ := L.os_sl h1
 exact ⟨a, cap, _, rfl, hs, h2⟩
theorem q3y.made (h : n ≤ wr.heap.size) : q3y L E n (wr.alloc (.cells #[] E)) (.slice (some ⟨wr.heap.size, 0, none⟩) 0 0) [] :=
 ⟨by simp; omega, some wr.heap.size, [], Lay.os_made _ _ _ _ _ (by simp [maxLen]) (by simp), ⟨by simp, fun b hb => by simp at hb; subst hb; exact ⟨h, _, _, q1a wr _⟩⟩⟩
theorem q3y.nil (h : n ≤ wr.heap.size) : q3y L E n wr (.slice none 0 0) [] := ⟨h, none, [], Lay.os_nil _ _ _, q0r.nil _ _⟩
end
structure Up (n : Nat) (w w' : World) : Prop where
 os : w'.os = w.os
 tape : w'.tape = w.tape
 output : w'.output = w.output
 size : w.heap.size ≤ w'.heap.size
 low : ∀ k, k < n → w'.heap[k]? = w.heap[k]?
 loose : ∀ k, q4h w k → q4h w' k
theorem Up.chg {n : Nat} {S : List Nat} {w0 w w' : World} (h : Up n w w') (hc : Chg S w0 w) (h0 : w0.heap.size ≤ n) : Chg S w0 w' :=
 ⟨h.os.trans hc.os, h.tape.trans hc.tape, h.output.trans hc.output, Nat.le_trans hc.size h.size, fun k hk hS => by rw [h.low k (by omega), hc.block k hk hS], fun k hk => h.loose k (hc.loose k hk)⟩
theorem Up.of {n : Nat} {S : List Nat} {w w' : World} (hc : Chg S w w') (hS : ∀ x ∈ S, n ≤ x) (hn : n ≤ w.heap.size) : Up n w w' :=
 ⟨hc.os, hc.tape, hc.output, hc.size, fun k hk => hc.block k (by omega) (fun hm => by have := hS k hm; omega), hc.loose⟩
def q7j {α : Type} (L : Lay α) (E : TypeId) (n B : Nat) (wr : World) (v : Value) (xs : List α) : Prop :=
 n ≤ B ∧ B ≤ wr.heap.size ∧ ∃ h fps, L.os E wr v xs h fps ∧ q0r n wr (h.toList ++ fps) ∧ ∀ b ∈ h.toList ++ fps, b < B
section
variable {α : Type} {L : Lay α} {E : TypeId} {n B : Nat} {w wr w' : World} {v : Value} {xs : List α}
theorem q3y.b (h : q3y L E n wr v xs) : q7j L E n wr.heap.size wr v xs := by
 obtain ⟨h0, hd, fps, h1, h2⟩ := h
 exact ⟨h0, Nat.le_refl _, hd, fps, h1, h2, h2.lts⟩
theorem q7j.chg {S : List Nat} (h : q7j L E n B wr v xs) (hc : Chg S wr w') (hS : ∀ x ∈ S, x < n) : q7j L E n B w' v xs := by
 obtain ⟨h0, h9, hd, fps, h1, h2, h3⟩ := h
 refine ⟨h0, Nat.le_trans h9 hc.size, hd, fps, L.os_chg h1 hc (fun g hg hm => ?_) (fun b hb hm => ?_), h2.chg hc, h3⟩
 ·have := (h2.2 g (List.mem_append.2 (.inl (by simp [hg])))).1; have := hS g hm; omega
 ·have := (h2.2 b (List.mem_append.2 (.inr hb))).1; have := hS b hm; omega
theorem q7j.ext (h : q7j L E n B wr v xs) (hc : Chg [] wr w') : q7j L E n B w' v xs := h.chg hc (by simp)
theorem q7j.run {P : Program} {bytes : Nat} {ys : List α} {f : List Nat} (t ty : TypeId) (ht : P.underlying t = some (.slice E)) (K : Kind P E L.n bytes) (hg : q7j L E n B w v xs)
  (ad : Addr) (c : Nat) (news : List Value) (hnews : ∀ j u, news[j]? = some u → w.cell? (ad.add j) = some u) (hall : L.all w news ys f) (ff : q0r B w f)
  (h63 : xs.length + ys.length ≤ maxLen) (hbytes : (xs.length + ys.length) * bytes ≤ 140737488355328) :
  ∃ v' w', (Builtin.append_ #[t, t] ty #[v, .slice (some ad) ys.length c]).run P w = .ok v' w' ∧ q3y L E n w' v' (xs ++ ys) ∧ Up n w w' := by
 obtain ⟨h0, h9, hd, fps, h1, h2, h3⟩ := hg
 have hlt := L.os_lt h1
 obtain ⟨v', w', h', hr, ho', hh', hc', hl⟩ := L.run_append (P := P) t ty ht K h1 ad c news hnews hall (fun g hg hf => by have a1 := h3 g (by simp [hg]); have a2 := (ff.2 g hf).1; omega) h63 hbytes
 have hle : Up n w w' := Up.of hc' (fun x hx => (h2.2 x (List.mem_append.2 (.inl hx))).1) (by omega)
 refine ⟨v', w', hr, ⟨Nat.le_trans (Nat.le_trans h0 h9) hle.size, h', fps ++ f, ho', ?_⟩, hle⟩
 have f2 := h2.chg hc'
 have g2 := ff.chg hc'
 have nd := List.nodup_append.1 h2.1
 have dj : ∀ a ∈ hd.toList ++ fps, ∀ b ∈ f, a ≠ b := fun a ha b hb e => by have a1 := h3 a ha; have a2 := (ff.2 b hb).1; omega
 have hlo := L.os_loose ho'
 rcases hh' with rfl | rfl
 ·rw [← List.append_assoc]
  exact ⟨List.nodup_append.2 ⟨h2.1, ff.1, dj⟩, fun b hb => by
   rcases List.mem_append.1 hb with hb | hb
   ·exact f2.2 b hb
   ·exact ⟨Nat.le_trans h0 (g2.2 b hb).1, (g2.2 b hb).2⟩⟩
 ·refine ⟨?_, fun b hb => ?_⟩
  ·rw [Option.toList_some, List.singleton_append, List.nodup_cons]
   refine ⟨fun hb => ?_, List.nodup_append.2 ⟨nd.2.1, ff.1, fun a ha b hb => dj a (List.mem_append.2 (.inr ha)) b hb⟩⟩
   rcases List.mem_append.1 hb with hb | hb
   ·have := h3 _ (List.mem_append.2 (.inr hb)); omega
   ·have := ff.lts _ hb; omega
  ·rw [Option.toList_some, List.singleton_append, List.mem_cons] at hb
   rcases hb with rfl | hb
   ·exact ⟨by omega, hlo _ rfl⟩
   ·rcases List.mem_append.1 hb with hb | hb
    ·exact f2.2 b (List.mem_append.2 (.inr hb))
    ·exact ⟨Nat.le_trans h0 (g2.2 b hb).1, (g2.2 b hb).2⟩
theorem q7j.wp {P : Program} {bytes : Nat} {ys : List α} {f : List Nat} {o : Oper} {a : Act} {Kc : Act → World → Prop} {Q : Exit → Act → World → Prop} (s x : Operand) (t : TypeId)
  (hop : o.op = .call { callee := .builtin .append, args := #[s, x], argTypes := #[t, t] }) (ht : P.underlying t = some (.slice E)) (K : Kind P E L.n bytes)
  (hs : a.eval s = v) (hg : q7j L E n B w v xs)
  (ad : Addr) (m c : Nat) (news : List Value) (hx : a.eval x = .slice (some ad) m c) (hm : m = ys.length) (hnews : ∀ j u, news[j]? = some u → w.cell? (ad.add j) = some u) (hall : L.all w news ys f) (ff : q0r B w f)
  (h63 : xs.length + ys.length ≤ maxLen) (hbytes : (xs.length + ys.length) * bytes ≤ 140737488355328)
  (hk : ∀ v' w', q3y L E n w' v' (xs ++ ys) → Up n w w' → Kc (a.put o.dst v') w') : o.wp P a w Kc Q := by
 subst hm
 obtain ⟨v', w', hr, h2, h3⟩ := hg.run (P := P) t o.type ht K ad c news hnews hall ff h63 hbytes
 unfold Oper.wp execOp
 simp only [hop, resolve, invoke, builtin, Sem.run_bind, Sem.run_pure, Result.andThen_ok, List.map_toArray, List.map_cons, List.map_nil, hs, hx, hr]
 exact hk v' w' h2 h3
theorem q7j.wpList {P : Program} {bytes : Nat} {ys : List α} {f : List Nat} {ops : Array Oper} {rest : List Oper} {o : Oper} {a : Act} {Q : Exit → Act → World → Prop} (hgd : o.guard = none) (s x : Operand) (t : TypeId)
  (hop : o.op = .call { callee := .builtin .append, args := #[s, x], argTypes := #[t, t] }) (ht : P.underlying t = some (.slice E)) (K : Kind P E L.n bytes)
  (hs : a.eval s = v) (hg : q7j L E n B w v xs)
  (ad : Addr) (m c : Nat) (news : List Value) (hx : a.eval x = .slice (some ad) m c) (hm : m = ys.length) (hnews : ∀ j u, news[j]? = some u → w.cell? (ad.add j) = some u) (hall : L.all w news ys f) (ff : q0r B w f)
  (h63 : xs.length + ys.length ≤ maxLen) (hbytes : (xs.length + ys.length) * bytes ≤ 140737488355328)
  (hk : ∀ v' w', q3y L E n w' v' (xs ++ ys) → Up n w w' → wpList P ops Q rest (a.put o.dst v') w') : wpList P ops Q (o :: rest) a w :=
 wpList_plain hgd fun _ hK => hg.wp s x t hop ht K hs ad m c news hx hm hnews hall ff h63 hbytes fun v' w' h1 h2 => hK _ _ (hk v' w' h1 h2)
theorem q7j.step {P : Program} {bytes : Nat} {ys : List α} {f : List Nat} {ops : Array Oper} {o : Oper} {a : Act} {Kc : Act → World → Prop} {Q : Exit → Act → World → Prop} {R : Prop} (hgd : o.guard = none) (s x : Operand) (t : TypeId)
  (hop : o.op = .call { callee := .builtin .append, args := #[s, x], argTypes := #[t, t] }) (ht : P.underlying t = some (.slice E)) (K : Kind P E L.n bytes)
  (hs : a.eval s = v) (hg : q7j L E n B w v xs)
  (ad : Addr) (m c : Nat) (news : List Value) (hx : a.eval x = .slice (some ad) m c) (hm : m = ys.length) (hnews : ∀ j u, news[j]? = some u → w.cell? (ad.add j) = some u) (hall : L.all w news ys f) (ff : q0r B w f)
  (h63 : xs.length + ys.length ≤ maxLen) (hbytes : (xs.length + ys.length) * bytes ≤ 140737488355328)
  (hk : ∀ v' w', q3y L E n w' v' (xs ++ ys) → Up n w w' → Kc (a.put o.dst v') w') :
  if Region.wanted o (yielded ops a.tmps) = true then Oper.wp P o a w Kc Q else R := by
 have hw : Region.wanted o (yielded ops a.tmps) = true := by simp [Region.wanted, hgd]
 rw [if_pos hw]
 exact hg.wp s x t hop ht K hs ad m c news hx hm hnews hall ff h63 hbytes hk
end
end Go.Proofs.YtphmpimgbmedbaaGreat
