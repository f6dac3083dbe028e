/- Several texts in one. -/
import Derived.Test.YtphmpimgbmedbaaGreatRows
import Derived.Test.YtphmpimgbmedbaaGreatVaa
import Derived.Test.YtphmpimgbmedbaaGreatVac
import Derived.Deep.RegionLaw
import Derived.Test.YtphmpimgbmedbaaGreatVae
namespace Go.Proofs.YtphmpimgbmedbaaGreat
open Go.RowKit
open Go.Lib (hid)
/-! ### FactorOf -/
/-! ### PartsFor -/
def partsV (d n : Int) : Int × Int := if n < 1 then (0, 6) else if 12 * d < n then (0, 2) else ((n + 4 * d - 1) / (4 * d), 0)
def Shp.parts (s : Shp) (n : Int) : Int × Int := if s.ok then ((partsV s.data n).2, (partsV s.data n).1) else (3, 0)
set_option maxHeartbeats 1000000 in
theorem parts_any (s : Shp) (n : Int) (hd : 1 ≤ s.data) (hd2 : s.data ≤ 3) (hn : i64ok n) (w : World) :
  Calls Tryz.prog 283 #[.agg s.cells, .int .i64 n] w fun e w' => e = .returned (.tuple #[.int .i64 (partsV s.data n).1, .int .i64 (partsV s.data n).2]) ∧ Chg [] w w' := by
 obtain ⟨hn1, hn2⟩ := hn
 obtain ⟨g, c, d, p, r', q, b, u, t⟩ := s
 simp only at hd hd2 ⊢
 have h : d = 1 ∨ d = 2 ∨ d = 3 := by omega
 clear hd hd2
 rcases h with rfl | rfl | rfl
 ·simp only [Shp.cells]
  by_cases h1 : n < 1
  ·have HR := hid (show partsV 1 n = (0, 6) by rw [partsV, if_pos h1])
   generalize partsV 1 n = r at HR ⊢
   go_enter Tryz.func283, Tryz.ntmps283
   go_wp2
   go_ret2
   exact ⟨by rw [HR.out]; rfl, by repeat (first | exact Chg.refl _ _ | refine Chg.alloc ?_ _ | refine Chg.drewN ?_ _ | refine Chg.drew ?_)⟩
  ·by_cases h2 : 12 < n
   ·have HR := hid (show partsV 1 n = (0, 2) by rw [partsV, if_neg h1, if_pos (by omega)])
    generalize partsV 1 n = r at HR ⊢
    go_enter Tryz.func283, Tryz.ntmps283
    go_wp2
    go_ret2
    exact ⟨by rw [HR.out]; rfl, by repeat (first | exact Chg.refl _ _ | refine Chg.alloc ?_ _ | refine Chg.drewN ?_ _ | refine Chg.drew ?_)⟩
   ·have HR := hid (show partsV 1 n = ((n - 1) / 4 + 1, 0) by rw [partsV, if_neg h1, if_neg (by omega)]; exact Prod.ext (by show _ / _ = _; omega) rfl)
    generalize partsV 1 n = r at HR ⊢
    go_enter Tryz.func283, Tryz.ntmps283
    go_wp2
    go_ret2
    exact ⟨by rw [HR.out]; rfl, by repeat (first | exact Chg.refl _ _ | refine Chg.alloc ?_ _ | refine Chg.drewN ?_ _ | refine Chg.drew ?_)⟩
 ·simp only [Shp.cells]
  by_cases h1 : n < 1
  ·have HR := hid (show partsV 2 n = (0, 6) by rw [partsV, if_pos h1])
   generalize partsV 2 n = r at HR ⊢
   go_enter Tryz.func283, Tryz.ntmps283
   go_wp2
   go_ret2
   exact ⟨by rw [HR.out]; rfl, by repeat (first | exact Chg.refl _ _ | refine Chg.alloc ?_ _ | refine Chg.drewN ?_ _ | refine Chg.drew ?_)⟩
  ·by_cases h2 : 24 < n
   ·have HR := hid (show partsV 2 n = (0, 2) by rw [partsV, if_neg h1, if_pos (by omega)])
    generalize partsV 2 n = r at HR ⊢
    go_enter Tryz.func283, Tryz.ntmps283
    go_wp2
    go_ret2
    exact ⟨by rw [HR.out]; rfl, by repeat (first | exact Chg.refl _ _ | refine Chg.alloc ?_ _ | refine Chg.drewN ?_ _ | refine Chg.drew ?_)⟩
   ·have HR := hid (show partsV 2 n = ((n - 1) / 8 + 1, 0) by rw [partsV, if_neg h1, if_neg (by omega)]; exact Prod.ext (by show _ / _ = _; omega) rfl)
    generalize partsV 2 n = r at HR ⊢
    go_enter Tryz.func283, Tryz.ntmps283
    go_wp2
    go_ret2
    exact ⟨by rw [HR.out]; rfl, by repeat (first | exact Chg.refl _ _ | refine Chg.alloc ?_ _ | refine Chg.drewN ?_ _ | refine Chg.drew ?_)⟩
 ·simp only [Shp.cells]
  by_cases h1 : n < 1
  ·have HR := hid (show partsV 3 n = (0, 6) by rw [partsV, if_pos h1])
   generalize partsV 3 n = r at HR ⊢
   go_enter Tryz.func283, Tryz.ntmps283
   go_wp2
   go_ret2
   exact ⟨by rw [HR.out]; rfl, by repeat (first | exact Chg.refl _ _ | refine Chg.alloc ?_ _ | refine Chg.drewN ?_ _ | refine Chg.drew ?_)⟩
  ·by_cases h2 : 36 < n
   ·have HR := hid (show partsV 3 n = (0, 2) by rw [partsV, if_neg h1, if_pos (by omega)])
    generalize partsV 3 n = r at HR ⊢
    go_enter Tryz.func283, Tryz.ntmps283
    go_wp2
    go_ret2
    exact ⟨by rw [HR.out]; rfl, by repeat (first | exact Chg.refl _ _ | refine Chg.alloc ?_ _ | refine Chg.drewN ?_ _ | refine Chg.drew ?_)⟩
   ·have HR := hid (show partsV 3 n = ((n - 1) / 12 + 1, 0) by rw [partsV, if_neg h1, if_neg (by omega)]; exact Prod.ext (by show _ / _ = _; omega) rfl)
    generalize partsV 3 n = r at HR ⊢
    go_enter Tryz.func283, Tryz.ntmps283
    go_wp2
    go_ret2
    exact ⟨by rw [HR.out]; rfl, by repeat (first | exact Chg.refl _ _ | refine Chg.alloc ?_ _ | refine Chg.drewN ?_ _ | refine Chg.drew ?_)⟩
set_option maxHeartbeats 1000000 in
theorem l4Long_any (s : Shp) (n : Int) (hd : 1 ≤ s.data) (hd2 : s.data ≤ 3) (hn : i64ok n) (w : World) :
  Calls Tryz.prog 248 #[.agg s.cells, .int .i64 n] w fun e w' => e = .returned (.int .i64 (partsV s.data n).2) ∧ Chg [] w w' := by
 obtain ⟨hn1, hn2⟩ := hn
 obtain ⟨g, c, d, p, r', q, b, u, t⟩ := s
 simp only at hd hd2 ⊢
 have h : d = 1 ∨ d = 2 ∨ d = 3 := by omega
 clear hd hd2
 rcases h with rfl | rfl | rfl
 ·simp only [Shp.cells]
  by_cases h1 : n < 1
  ·have HR := hid (show partsV 1 n = (0, 6) by rw [partsV, if_pos h1])
   generalize partsV 1 n = r at HR ⊢
   go_enter Tryz.func248, Tryz.ntmps248
   go_wp2
   go_ret
   exact ⟨by rw [HR.out]; rfl, by repeat (first | exact Chg.refl _ _ | refine Chg.alloc ?_ _ | refine Chg.drewN ?_ _ | refine Chg.drew ?_)⟩
  ·by_cases h2 : 12 < n
   ·have HR := hid (show partsV 1 n = (0, 2) by rw [partsV, if_neg h1, if_pos (by omega)])
    generalize partsV 1 n = r at HR ⊢
    go_enter Tryz.func248, Tryz.ntmps248
    go_wp2
    go_ret
    exact ⟨by rw [HR.out]; rfl, by repeat (first | exact Chg.refl _ _ | refine Chg.alloc ?_ _ | refine Chg.drewN ?_ _ | refine Chg.drew ?_)⟩
   ·have HR := hid (show partsV 1 n = ((n - 1) / 4 + 1, 0) by rw [partsV, if_neg h1, if_neg (by omega)]; exact Prod.ext (by show _ / _ = _; omega) rfl)
    generalize partsV 1 n = r at HR ⊢
    go_enter Tryz.func248, Tryz.ntmps248
    go_wp2
    go_ret
    exact ⟨by rw [HR.out]; rfl, by repeat (first | exact Chg.refl _ _ | refine Chg.alloc ?_ _ | refine Chg.drewN ?_ _ | refine Chg.drew ?_)⟩
 ·simp only [Shp.cells]
  by_cases h1 : n < 1
  ·have HR := hid (show partsV 2 n = (0, 6) by rw [partsV, if_pos h1])
   generalize partsV 2 n = r at HR ⊢
   go_enter Tryz.func248, Tryz.ntmps248
   go_wp2
   go_ret
   exact ⟨by rw [HR.out]; rfl, by repeat (first | exact Chg.refl _ _ | refine Chg.alloc ?_ _ | refine Chg.drewN ?_ _ | refine Chg.drew ?_)⟩
  ·by_cases h2 : 24 < n
   ·have HR := hid (show partsV 2 n = (0, 2) by rw [partsV, if_neg h1, if_pos (by omega)])
    generalize partsV 2 n = r at HR ⊢
    go_enter Tryz.func248, Tryz.ntmps248
    go_wp2
    go_ret
    exact ⟨by rw [HR.out]; rfl, by repeat (first | exact Chg.refl _ _ | refine Chg.alloc ?_ _ | refine Chg.drewN ?_ _ | refine Chg.drew ?_)⟩
   ·have HR := hid (show partsV 2 n = ((n - 1) / 8 + 1, 0) by rw [partsV, if_neg h1, if_neg (by omega)]; exact Prod.ext (by show _ / _ = _; omega) rfl)
    generalize partsV 2 n = r at HR ⊢
    go_enter Tryz.func248, Tryz.ntmps248
    go_wp2
    go_ret
    exact ⟨by rw [HR.out]; rfl, by repeat (first | exact Chg.refl _ _ | refine Chg.alloc ?_ _ | refine Chg.drewN ?_ _ | refine Chg.drew ?_)⟩
 ·simp only [Shp.cells]
  by_cases h1 : n < 1
  ·have HR := hid (show partsV 3 n = (0, 6) by rw [partsV, if_pos h1])
   generalize partsV 3 n = r at HR ⊢
   go_enter Tryz.func248, Tryz.ntmps248
   go_wp2
   go_ret
   exact ⟨by rw [HR.out]; rfl, by repeat (first | exact Chg.refl _ _ | refine Chg.alloc ?_ _ | refine Chg.drewN ?_ _ | refine Chg.drew ?_)⟩
  ·by_cases h2 : 36 < n
   ·have HR := hid (show partsV 3 n = (0, 2) by rw [partsV, if_neg h1, if_pos (by omega)])
    generalize partsV 3 n = r at HR ⊢
    go_enter Tryz.func248, Tryz.ntmps248
    go_wp2
    go_ret
    exact ⟨by rw [HR.out]; rfl, by repeat (first | exact Chg.refl _ _ | refine Chg.alloc ?_ _ | refine Chg.drewN ?_ _ | refine Chg.drew ?_)⟩
   ·have HR := hid (show partsV 3 n = ((n - 1) / 12 + 1, 0) by rw [partsV, if_neg h1, if_neg (by omega)]; exact Prod.ext (by show _ / _ = _; omega) rfl)
    generalize partsV 3 n = r at HR ⊢
    go_enter Tryz.func248, Tryz.ntmps248
    go_wp2
    go_ret
    exact ⟨by rw [HR.out]; rfl, by repeat (first | exact Chg.refl _ _ | refine Chg.alloc ?_ _ | refine Chg.drewN ?_ _ | refine Chg.drew ?_)⟩
set_option maxHeartbeats 400000 in
theorem l4Wide_any (s : Shp) (hd : 1 ≤ s.data) (hd2 : s.data ≤ 3) (w : World) :
  Calls Tryz.prog 194 #[.agg s.cells] w fun e w' => e = .returned (.int .i64 (s.data * 4)) ∧ w.alloc (.cells s.cells 30) = w' := by
 obtain ⟨g, c, d, p, r', q, b, u, t⟩ := s
 simp only [Shp.cells] at *
 go_enter Tryz.func194, Tryz.ntmps194
 go_wp2
 go_ret
 exact ⟨rfl, rfl⟩
theorem parts_wrap (n k : Int) (hn : 0 ≤ n) (hn2 : n ≤ 1000000000) (hk : 1 ≤ k) (hk2 : k ≤ 12) : IntKind.i64.wrap ((IntKind.i64.wrap (IntKind.i64.wrap (n + k) - 1)).tdiv k) = (n + k - 1) / k := by
 rw [IntWalk.i64_in (n + k) ⟨by omega, by omega⟩, IntWalk.i64_in (n + k - 1) ⟨by omega, by omega⟩, Int.tdiv_eq_ediv_of_nonneg (by omega)]
 have h1 : 0 ≤ (n + k - 1) / k := Int.ediv_nonneg (by omega) (by omega)
 have h2 : (n + k - 1) / k ≤ n + k - 1 := Int.ediv_le_self _ (by omega)
 exact IntWalk.i64_in _ ⟨by omega, by omega⟩
set_option maxRecDepth 100000 in
set_option maxHeartbeats 1000000 in
theorem l4Parts_any (s : Shp) (n : Int) (hd : 1 ≤ s.data) (hd2 : s.data ≤ 3) (hn : 0 ≤ n) (hn2 : n ≤ 1000000000) (w : World) :
  Calls Tryz.prog 249 #[.agg s.cells, .int .i64 n] w fun e w' => e = .returned (.int .i64 ((n + 4 * s.data - 1) / (4 * s.data))) ∧ Chg [] w w' := by
 have HW := hid (l4Wide_any s hd hd2)
 obtain ⟨g, c, d, p, r', q, b, u, t⟩ := s
 simp only [Shp.cells] at *
 have h : d = 1 ∨ d = 2 ∨ d = 3 := by omega
 clear hd hd2
 rcases h with rfl | rfl | rfl
 all_goals
  go_enter Tryz.func249, Tryz.ntmps249
  go_wp2_with fail
  go_region_law (go_simp; go_at_call 194; refine (HW.out _).mono ?_; rintro e w' ⟨rfl, rfl⟩)
  all_goals (go_wp2; go_ret)
  all_goals refine ⟨ret_int ?_, by repeat (first | exact Chg.refl _ _ | refine Chg.alloc ?_ _ | refine Chg.drewN ?_ _ | refine Chg.drew ?_)⟩
  all_goals (first | rw [parts_wrap n 4 (by omega) (by omega) (by omega) (by omega)] | rw [parts_wrap n 8 (by omega) (by omega) (by omega) (by omega)] | rw [parts_wrap n 12 (by omega) (by omega) (by omega) (by omega)])
  all_goals rfl
theorem partsV_cases (d n : Int) (h : 1 ≤ d) (h2 : d ≤ 3) : partsV d n = (0, 6) ∨ partsV d n = (0, 2) ∨ (partsV d n = ((n + 4 * d - 1) / (4 * d), 0) ∧ 1 ≤ n ∧ n ≤ 36) := by
 unfold partsV; split
 ·exact .inl rfl
 ·split
  ·exact .inr (.inl rfl)
  ·exact .inr (.inr ⟨rfl, by omega, by omega⟩)
/-! ### HomeOf -/
theorem toList_ne {s t : ByteArray} (h : s ≠ t) : (s.toList == t.toList) = false := by
 rw [beq_eq_false_iff_ne]; exact fun e => h (toList_inj e)
theorem sameV_rec {kx sx : Int} {nx : ByteArray} {lx gx rx : Int} {Rx Ry : List Int} {Dx Dy Ex Ey : List UInt8} : sameV (Rec.mk kx sx nx lx gx rx Rx Dx Ex) (Rec.mk kx sx nx lx gx rx Ry Dy Ey) = (sameV Rx Ry && (sameV Dx Dy && sameV Ex Ey)) := by
 by_cases h1 : Rx = Ry
 ·by_cases h2 : Dx = Dy
  ·by_cases h3 : Ex = Ey
   ·rw [sameV_true h1, sameV_true h2, sameV_true h3, sameV_true (by rw [h1, h2, h3])]; rfl
   ·rw [sameV_true h1, sameV_true h2, sameV_false h3, sameV_false (fun h => h3 (congrArg Rec.delta h))]; rfl
  ·rw [sameV_true h1, sameV_false h2, sameV_false (fun h => h2 (congrArg Rec.data h))]; rfl
 ·rw [sameV_false h1, sameV_false (fun h => h1 (congrArg Rec.rows h))]; rfl
set_option maxRecDepth 100000 in
set_option maxHeartbeats 1000000 in
theorem sameRec_k (kx : Int) (sx : Int) (nx : ByteArray) (lx : Int) (gx : Int) (rx : Int) (ky : Int) (sy : Int) (ny : ByteArray) (ly : Int) (gy : Int) (ry : Int) (a6x : Option Addr) (l6x c6x : Nat) (a7x : Option Addr) (l7x c7x : Nat) (a8x : Option Addr) (l8x c8x : Nat) (a6y : Option Addr) (l6y c6y : Nat) (a7y : Option Addr) (l7y c7y : Nat) (a8y : Option Addr) (l8y c8y : Nat) (e : kx ≠ ky) (w : World) :
  Calls Tryz.prog 123 #[.agg #[.int .i64 kx, .int .i64 sx, .string nx, .int .i64 lx, .int .i64 gx, .int .i64 rx, .slice a6x l6x c6x, .slice a7x l7x c7x, .slice a8x l8x c8x], .agg #[.int .i64 ky, .int .i64 sy, .string ny, .int .i64 ly, .int .i64 gy, .int .i64 ry, .slice a6y l6y c6y, .slice a7y l7y c7y, .slice a8y l8y c8y]] w fun e w' => e = .returned (.bool false) ∧ Chg [] w w' := by
 have t1 : (kx == ky) = false := by rw [beq_eq_false_iff_ne]; exact e
 clear e
 go_enter Tryz.func123, Tryz.ntmps123
 go_wp2_with fail
 go_ret
 exact ⟨rfl, by repeat (first | exact Chg.refl _ _ | refine Chg.alloc ?_ _)⟩
set_option maxRecDepth 100000 in
set_option maxHeartbeats 1000000 in
theorem sameRec_s (kx : Int) (sx : Int) (nx : ByteArray) (lx : Int) (gx : Int) (rx : Int) (sy : Int) (ny : ByteArray) (ly : Int) (gy : Int) (ry : Int) (a6x : Option Addr) (l6x c6x : Nat) (a7x : Option Addr) (l7x c7x : Nat) (a8x : Option Addr) (l8x c8x : Nat) (a6y : Option Addr) (l6y c6y : Nat) (a7y : Option Addr) (l7y c7y : Nat) (a8y : Option Addr) (l8y c8y : Nat) (e : sx ≠ sy) (w : World) :
  Calls Tryz.prog 123 #[.agg #[.int .i64 kx, .int .i64 sx, .string nx, .int .i64 lx, .int .i64 gx, .int .i64 rx, .slice a6x l6x c6x, .slice a7x l7x c7x, .slice a8x l8x c8x], .agg #[.int .i64 kx, .int .i64 sy, .string ny, .int .i64 ly, .int .i64 gy, .int .i64 ry, .slice a6y l6y c6y, .slice a7y l7y c7y, .slice a8y l8y c8y]] w fun e w' => e = .returned (.bool false) ∧ Chg [] w w' := by
 have t1 : (sx == sy) = false := by rw [beq_eq_false_iff_ne]; exact e
 clear e
 go_enter Tryz.func123, Tryz.ntmps123
 go_wp2_with fail
 go_ret
 exact ⟨rfl, by repeat (first | exact Chg.refl _ _ | refine Chg.alloc ?_ _)⟩
set_option maxRecDepth 100000 in
set_option maxHeartbeats 1000000 in
theorem sameRec_n (kx : Int) (sx : Int) (nx : ByteArray) (lx : Int) (gx : Int) (rx : Int) (ny : ByteArray) (ly : Int) (gy : Int) (ry : Int) (a6x : Option Addr) (l6x c6x : Nat) (a7x : Option Addr) (l7x c7x : Nat) (a8x : Option Addr) (l8x c8x : Nat) (a6y : Option Addr) (l6y c6y : Nat) (a7y : Option Addr) (l7y c7y : Nat) (a8y : Option Addr) (l8y c8y : Nat) (e : nx ≠ ny) (w : World) :
  Calls Tryz.prog 123 #[.agg #[.int .i64 kx, .int .i64 sx, .string nx, .int .i64 lx, .int .i64 gx, .int .i64 rx, .slice a6x l6x c6x, .slice a7x l7x c7x, .slice a8x l8x c8x], .agg #[.int .i64 kx, .int .i64 sx, .string ny, .int .i64 ly, .int .i64 gy, .int .i64 ry, .slice a6y l6y c6y, .slice a7y l7y c7y, .slice a8y l8y c8y]] w fun e w' => e = .returned (.bool false) ∧ Chg [] w w' := by
 have t1 : (nx.toList == ny.toList) = false := toList_ne e
 clear e
 go_enter Tryz.func123, Tryz.ntmps123
 go_wp2_with fail
 go_ret
 exact ⟨rfl, by repeat (first | exact Chg.refl _ _ | refine Chg.alloc ?_ _)⟩
set_option maxRecDepth 100000 in
set_option maxHeartbeats 1000000 in
theorem sameRec_l (kx : Int) (sx : Int) (nx : ByteArray) (lx : Int) (gx : Int) (rx : Int) (ly : Int) (gy : Int) (ry : Int) (a6x : Option Addr) (l6x c6x : Nat) (a7x : Option Addr) (l7x c7x : Nat) (a8x : Option Addr) (l8x c8x : Nat) (a6y : Option Addr) (l6y c6y : Nat) (a7y : Option Addr) (l7y c7y : Nat) (a8y : Option Addr) (l8y c8y : Nat) (e : lx ≠ ly) (w : World) :
  Calls Tryz.prog 123 #[.agg #[.int .i64 kx, .int .i64 sx, .string nx, .int .i64 lx, .int .i64 gx, .int .i64 rx, .slice a6x l6x c6x, .slice a7x l7x c7x, .slice a8x l8x c8x], .agg #[.int .i64 kx, .int .i64 sx, .string nx, .int .i64 ly, .int .i64 gy, .int .i64 ry, .slice a6y l6y c6y, .slice a7y l7y c7y, .slice a8y l8y c8y]] w fun e w' => e = .returned (.bool false) ∧ Chg [] w w' := by
 have t1 : (lx == ly) = false := by rw [beq_eq_false_iff_ne]; exact e
 clear e
 go_enter Tryz.func123, Tryz.ntmps123
 go_wp2_with fail
 go_ret
 exact ⟨rfl, by repeat (first | exact Chg.refl _ _ | refine Chg.alloc ?_ _)⟩
set_option maxRecDepth 100000 in
set_option maxHeartbeats 1000000 in
theorem sameRec_g (kx : Int) (sx : Int) (nx : ByteArray) (lx : Int) (gx : Int) (rx : Int) (gy : Int) (ry : Int) (a6x : Option Addr) (l6x c6x : Nat) (a7x : Option Addr) (l7x c7x : Nat) (a8x : Option Addr) (l8x c8x : Nat) (a6y : Option Addr) (l6y c6y : Nat) (a7y : Option Addr) (l7y c7y : Nat) (a8y : Option Addr) (l8y c8y : Nat) (e : gx ≠ gy) (w : World) :
  Calls Tryz.prog 123 #[.agg #[.int .i64 kx, .int .i64 sx, .string nx, .int .i64 lx, .int .i64 gx, .int .i64 rx, .slice a6x l6x c6x, .slice a7x l7x c7x, .slice a8x l8x c8x], .agg #[.int .i64 kx, .int .i64 sx, .string nx, .int .i64 lx, .int .i64 gy, .int .i64 ry, .slice a6y l6y c6y, .slice a7y l7y c7y, .slice a8y l8y c8y]] w fun e w' => e = .returned (.bool false) ∧ Chg [] w w' := by
 have t1 : (gx == gy) = false := by rw [beq_eq_false_iff_ne]; exact e
 clear e
 go_enter Tryz.func123, Tryz.ntmps123
 go_wp2_with fail
 go_ret
 exact ⟨rfl, by repeat (first | exact Chg.refl _ _ | refine Chg.alloc ?_ _)⟩
set_option maxRecDepth 100000 in
set_option maxHeartbeats 1000000 in
theorem sameRec_r (kx : Int) (sx : Int) (nx : ByteArray) (lx : Int) (gx : Int) (rx : Int) (ry : Int) (a6x : Option Addr) (l6x c6x : Nat) (a7x : Option Addr) (l7x c7x : Nat) (a8x : Option Addr) (l8x c8x : Nat) (a6y : Option Addr) (l6y c6y : Nat) (a7y : Option Addr) (l7y c7y : Nat) (a8y : Option Addr) (l8y c8y : Nat) (e : rx ≠ ry) (w : World) :
  Calls Tryz.prog 123 #[.agg #[.int .i64 kx, .int .i64 sx, .string nx, .int .i64 lx, .int .i64 gx, .int .i64 rx, .slice a6x l6x c6x, .slice a7x l7x c7x, .slice a8x l8x c8x], .agg #[.int .i64 kx, .int .i64 sx, .string nx, .int .i64 lx, .int .i64 gx, .int .i64 ry, .slice a6y l6y c6y, .slice a7y l7y c7y, .slice a8y l8y c8y]] w fun e w' => e = .returned (.bool false) ∧ Chg [] w w' := by
 have t1 : (rx == ry) = false := by rw [beq_eq_false_iff_ne]; exact e
 clear e
 go_enter Tryz.func123, Tryz.ntmps123
 go_wp2_with fail
 go_ret
 exact ⟨rfl, by repeat (first | exact Chg.refl _ _ | refine Chg.alloc ?_ _)⟩
set_option maxRecDepth 100000 in
set_option maxHeartbeats 2000000 in
theorem sameRec_lists (kx : Int) (sx : Int) (nx : ByteArray) (lx : Int) (gx : Int) (rx : Int) (a6x : Option Addr) (l6x c6x : Nat) (a7x : Option Addr) (l7x c7x : Nat) (a8x : Option Addr) (l8x c8x : Nat) (a6y : Option Addr) (l6y c6y : Nat) (a7y : Option Addr) (l7y c7y : Nat) (a8y : Option Addr) (l8y c8y : Nat) (Rx Ry : List Int) (Dx Dy Ex Ey : List UInt8) (f6x f7x f8x f6y f7y f8y : List Nat) (w : World) (h6x : intL.sl w a6x l6x c6x Rx f6x) (h7x : byteL.sl w a7x l7x c7x Dx f7x) (h8x : byteL.sl w a8x l8x c8x Ex f8x) (h6y : intL.sl w a6y l6y c6y Ry f6y) (h7y : byteL.sl w a7y l7y c7y Dy f7y) (h8y : byteL.sl w a8y l8y c8y Ey f8y) :
  Calls Tryz.prog 123 #[.agg #[.int .i64 kx, .int .i64 sx, .string nx, .int .i64 lx, .int .i64 gx, .int .i64 rx, .slice a6x l6x c6x, .slice a7x l7x c7x, .slice a8x l8x c8x], .agg #[.int .i64 kx, .int .i64 sx, .string nx, .int .i64 lx, .int .i64 gx, .int .i64 rx, .slice a6y l6y c6y, .slice a7y l7y c7y, .slice a8y l8y c8y]] w fun e w' => e = .returned (.bool (sameV Rx Ry && (sameV Dx Dy && sameV Ex Ey))) ∧ Chg [] w w' := by
 have hc0 := ((Chg.refl [] w).alloc (.cells #[.int .i64 kx, .int .i64 sx, .string nx, .int .i64 lx, .int .i64 gx, .int .i64 rx, .slice a6x l6x c6x, .slice a7x l7x c7x, .slice a8x l8x c8x] 67)).alloc (.cells #[.int .i64 kx, .int .i64 sx, .string nx, .int .i64 lx, .int .i64 gx, .int .i64 rx, .slice a6y l6y c6y, .slice a7y l7y c7y, .slice a8y l8y c8y] 67)
 have HC0 := hid hc0
 have H7x := hid h7x; have H8x := hid h8x; have H7y := hid h7y; have H8y := hid h8y
 have HI := hid (slEq_any a6x a6y l6x c6x l6y c6y Rx Ry f6x f6y _ (intL.sl_ext h6x hc0) (intL.sl_ext h6y hc0))
 clear hc0 h6x h7x h8x h6y h7y h8y
 have tn : (nx.toList == nx.toList) = true := by simp
 cases h6 : sameV Rx Ry
 ·rw [h6] at HI
  clear h6
  go_enter Tryz.func123, Tryz.ntmps123
  go_wp2_with fail
  refine HI.out.mono ?_
  rintro e w1 ⟨rfl, hc⟩
  have HC1 := hid (HC0.out.trans0 hc)
  clear hc
  go_wp2_with fail
  go_ret
  exact ⟨rfl, HC1.out⟩
 ·rw [h6] at HI
  clear h6
  generalize hv7 : sameV Dx Dy = v7
  generalize hv8 : sameV Ex Ey = v8
  have V7 := hid hv7
  have V8 := hid hv8
  clear hv7 hv8
  have HK := hid (fun w1 (hc : Chg [] ((w.alloc (.cells #[.int .i64 kx, .int .i64 sx, .string nx, .int .i64 lx, .int .i64 gx, .int .i64 rx, .slice a6x l6x c6x, .slice a7x l7x c7x, .slice a8x l8x c8x] 67)).alloc (.cells #[.int .i64 kx, .int .i64 sx, .string nx, .int .i64 lx, .int .i64 gx, .int .i64 rx, .slice a6y l6y c6y, .slice a7y l7y c7y, .slice a8y l8y c8y] 67)) w1) => And.intro (hc.keep0 (keep_alloc (new_alloc w (.cells #[.int .i64 kx, .int .i64 sx, .string nx, .int .i64 lx, .int .i64 gx, .int .i64 rx, .slice a6x l6x c6x, .slice a7x l7x c7x, .slice a8x l8x c8x] 67)) (.cells #[.int .i64 kx, .int .i64 sx, .string nx, .int .i64 lx, .int .i64 gx, .int .i64 rx, .slice a6y l6y c6y, .slice a7y l7y c7y, .slice a8y l8y c8y] 67))) (hc.keep0 (new_two w (.cells #[.int .i64 kx, .int .i64 sx, .string nx, .int .i64 lx, .int .i64 gx, .int .i64 rx, .slice a6x l6x c6x, .slice a7x l7x c7x, .slice a8x l8x c8x] 67) (.cells #[.int .i64 kx, .int .i64 sx, .string nx, .int .i64 lx, .int .i64 gx, .int .i64 rx, .slice a6y l6y c6y, .slice a7y l7y c7y, .slice a8y l8y c8y] 67))))
  go_enter Tryz.func123, Tryz.ntmps123
  go_wp2_with fail
  refine HI.out.mono ?_
  rintro e w1 ⟨rfl, hc⟩
  have HC1 := hid (HC0.out.trans0 hc)
  obtain ⟨hB2, hB3⟩ := HK.out w1 hc
  have c2 := cellsOf hB2; have l2 := ltOf hB2; have P2 := hid hB2
  have c3 := cellsOf hB3; have l3 := ltOf hB3; have P3 := hid hB3
  clear hB2 hB3 hc HK HI
  go_wp2_with fail
  refine (byEq_any a7x a7y l7x c7x l7y c7y Dx Dy f7x f7y _ (byteL.sl_ext H7x.out HC1.out) (byteL.sl_ext H7y.out HC1.out)).mono ?_
  rintro e w2 ⟨rfl, hc⟩
  rw [V7.out]
  have HC2 := hid (HC1.out.trans0 hc)
  have hB2 := hc.keep0 P2.out; have hB3 := hc.keep0 P3.out
  clear c2 l2 c3 l3 P2 P3
  have c2 := cellsOf hB2; have l2 := ltOf hB2; have P2 := hid hB2
  have c3 := cellsOf hB3; have l3 := ltOf hB3; have P3 := hid hB3
  clear hB2 hB3 hc
  cases v7
  ·go_wp2_with fail
   go_ret
   exact ⟨rfl, HC2.out⟩
  ·go_wp2_with fail
   refine (byEq_any a8x a8y l8x c8x l8y c8y Ex Ey f8x f8y _ (byteL.sl_ext H8x.out HC2.out) (byteL.sl_ext H8y.out HC2.out)).mono ?_
   rintro e w3 ⟨rfl, hc⟩
   rw [V8.out]
   have HC3 := hid (HC2.out.trans0 hc)
   clear hc
   go_wp2_with fail
   go_ret
   exact ⟨by simp, HC3.out⟩
set_option maxHeartbeats 400000 in
theorem sameRec_any (x y : Rec) (cx cy : Array Value) (fx fy : List Nat) (w : World) (hx : recL.rep w cx.toList x fx) (hy : recL.rep w cy.toList y fy) :
  Calls Tryz.prog 123 #[.agg cx, .agg cy] w fun e w' => e = .returned (.bool (sameV x y)) ∧ Chg [] w w' := by
 obtain ⟨a6x, l6x, c6x, f6x, a7x, l7x, c7x, f7x, a8x, l8x, c8x, f8x, ex, -, -, -, -, -, -, h6x, h7x, h8x, -⟩ := recL_iff.1 hx
 obtain ⟨a6y, l6y, c6y, f6y, a7y, l7y, c7y, f7y, a8y, l8y, c8y, f8y, ey, -, -, -, -, -, -, h6y, h7y, h8y, -⟩ := recL_iff.1 hy
 obtain ⟨kx, sx, nx, lx, gx, rx, Rx, Dx, Ex⟩ := x
 obtain ⟨ky, sy, ny, ly, gy, ry, Ry, Dy, Ey⟩ := y
 simp only at ex ey h6x h7x h8x h6y h7y h8y
 obtain rfl : cx = #[.int .i64 kx, .int .i64 sx, .string nx, .int .i64 lx, .int .i64 gx, .int .i64 rx, .slice a6x l6x c6x, .slice a7x l7x c7x, .slice a8x l8x c8x] := Array.toList_inj.1 ex
 obtain rfl : cy = #[.int .i64 ky, .int .i64 sy, .string ny, .int .i64 ly, .int .i64 gy, .int .i64 ry, .slice a6y l6y c6y, .slice a7y l7y c7y, .slice a8y l8y c8y] := Array.toList_inj.1 ey
 clear ex ey hx hy
 by_cases e : kx = ky
 ·subst e
  by_cases e : sx = sy
  ·subst e
   by_cases e : nx = ny
   ·subst e
    by_cases e : lx = ly
    ·subst e
     by_cases e : gx = gy
     ·subst e
      by_cases e : rx = ry
      ·subst e
       rw [show sameV (Rec.mk kx sx nx lx gx rx Rx Dx Ex) (Rec.mk kx sx nx lx gx rx Ry Dy Ey) = (sameV Rx Ry && (sameV Dx Dy && sameV Ex Ey)) from sameV_rec]
       exact sameRec_lists _ _ _ _ _ _ _ _ _ _ _ _ _ _ _ _ _ _ _ _ _ _ _ _ Rx Ry Dx Dy Ex Ey _ _ _ _ _ _ w h6x h7x h8x h6y h7y h8y
      ·rw [sameV_false (show Rec.mk kx sx nx lx gx rx Rx Dx Ex ≠ Rec.mk kx sx nx lx gx ry Ry Dy Ey from fun h => e (congrArg Rec.row h))]
       exact sameRec_r _ _ _ _ _ _ _ _ _ _ _ _ _ _ _ _ _ _ _ _ _ _ _ _ _ e w
     ·rw [sameV_false (show Rec.mk kx sx nx lx gx rx Rx Dx Ex ≠ Rec.mk kx sx nx lx gy ry Ry Dy Ey from fun h => e (congrArg Rec.group h))]
      exact sameRec_g _ _ _ _ _ _ _ _ _ _ _ _ _ _ _ _ _ _ _ _ _ _ _ _ _ _ e w
    ·rw [sameV_false (show Rec.mk kx sx nx lx gx rx Rx Dx Ex ≠ Rec.mk kx sx nx ly gy ry Ry Dy Ey from fun h => e (congrArg Rec.length h))]
     exact sameRec_l _ _ _ _ _ _ _ _ _ _ _ _ _ _ _ _ _ _ _ _ _ _ _ _ _ _ _ e w
   ·rw [sameV_false (show Rec.mk kx sx nx lx gx rx Rx Dx Ex ≠ Rec.mk kx sx ny ly gy ry Ry Dy Ey from fun h => e (congrArg Rec.name h))]
    exact sameRec_n _ _ _ _ _ _ _ _ _ _ _ _ _ _ _ _ _ _ _ _ _ _ _ _ _ _ _ _ e w
  ·rw [sameV_false (show Rec.mk kx sx nx lx gx rx Rx Dx Ex ≠ Rec.mk kx sy ny ly gy ry Ry Dy Ey from fun h => e (congrArg Rec.seq h))]
   exact sameRec_s _ _ _ _ _ _ _ _ _ _ _ _ _ _ _ _ _ _ _ _ _ _ _ _ _ _ _ _ _ e w
 ·rw [sameV_false (show Rec.mk kx sx nx lx gx rx Rx Dx Ex ≠ Rec.mk ky sy ny ly gy ry Ry Dy Ey from fun h => e (congrArg Rec.kind h))]
  exact sameRec_k _ _ _ _ _ _ _ _ _ _ _ _ _ _ _ _ _ _ _ _ _ _ _ _ _ _ _ _ _ _ e w
set_option maxRecDepth 100000 in
set_option maxHeartbeats 2000000 in
theorem szBlock_any (x : Blk) (cx : Array Value) (fx : List Nat) (k : Int) (w : World) (hx : blkL.rep w cx.toList x fx) (hk : 0 ≤ k) (hk2 : k ≤ 1048576) :
  Calls Tryz.prog 287 #[.agg cx, .int .i64 k] w (SzPost (totBlk x) k w) := by
 obtain ⟨a1, l1, c1, f1, ex, o0, h1, -⟩ := blkL_iff.1 hx
 clear hx
 obtain ⟨v0, v1⟩ := x
 simp only at ex o0 h1
 obtain rfl := Array.toList_inj.1 (ex.trans (List.toList_toArray).symm)
 clear ex o0
 have H1 := hid h1; clear h1
 obtain ⟨t1, ht1⟩ : ∃ t, t = totBs v1 := ⟨_, rfl⟩
 have n1 : 0 ≤ t1 := by rw [ht1]; exact totBs_nonneg _
 have HT1 := hid ht1
 have HT := hid (show totBlk ⟨v0, v1⟩ = t1 by rw [ht1]; unfold totBlk; rfl)
 clear ht1
 go_enter Tryz.func287, Tryz.ntmps287
 go_wp2_with fail
 refine (szByteS_any a1 l1 c1 v1 f1 (k) _ (byteL.sl_ext H1.out (by refine Chg.alloc ?_ _; exact Chg.refl _ _)) (by omega) (by omega)).mono ?_
 rintro e w1 ⟨rfl, hc⟩
 rw [← HT1.out]
 have hP := hc.keep0 (b := w.heap.size) (new_at (by simp) _)
 have cP := cellsOf hP; have lP := ltOf hP; have fP := freeOf hP; have HBP := hid hP; clear hP
 have HC1 := hid hc; clear hc
 by_cases m1 : k - t1 < 0
 ·rw [if_pos m1]
  go_wp2_with fail
  go_ret
  exact ⟨ret_int (by rw [HT.out, if_pos (by omega)]), by refine Chg.trans0 ?_ HC1.out; refine Chg.alloc ?_ _; exact Chg.refl _ _⟩
 rw [if_neg m1]
 go_wp2_with fail
 go_ret
 exact ⟨ret_int (by rw [HT.out, if_neg (by omega)] <;> omega), by refine Chg.trans0 ?_ HC1.out; refine Chg.alloc ?_ _; exact Chg.refl _ _⟩
set_option maxRecDepth 100000 in
set_option maxHeartbeats 2000000 in
theorem eqBlock_any (x : Blk) (cx cy : Array Value) (fx fy : List Nat) (w : World) (hx : blkL.rep w cx.toList x fx) (hy : blkL.rep w cy.toList x fy) :
  Calls Tryz.prog 291 #[.agg cx, .agg cy] w fun e w' => e = .returned (.bool true) ∧ Chg [] w w' := by
 obtain ⟨a1, l1, c1, f1, ex, o0, h1, -⟩ := blkL_iff.1 hx
 obtain ⟨b1, m1, d1, g1, ey, q0, j1, -⟩ := blkL_iff.1 hy
 clear hx hy
 obtain ⟨v0, v1⟩ := x
 simp only at ex ey h1 j1
 obtain rfl := Array.toList_inj.1 (ex.trans (List.toList_toArray).symm)
 obtain rfl := Array.toList_inj.1 (ey.trans (List.toList_toArray).symm)
 clear ex ey o0 q0
 obtain rfl : l1 = m1 := h1.1.trans j1.1.symm
 have H1 := hid h1; have J1 := hid j1; clear h1 j1
 have e0 : ((v0 : Int) != v0) = false := by simp
 go_enter Tryz.func291, Tryz.ntmps291
 go_wp2_with fail
 refine (eqB_any a1 b1 l1 c1 d1 v1 f1 g1 _ (byteL.sl_ext H1.out (by refine Chg.alloc ?_ _; refine Chg.alloc ?_ _; exact Chg.refl _ _)) (byteL.sl_ext J1.out (by refine Chg.alloc ?_ _; refine Chg.alloc ?_ _; exact Chg.refl _ _))).mono ?_
 rintro e w1 ⟨rfl, hc⟩
 have hP := hc.keep0 (b := w.heap.size) (keep_alloc (new_at (by simp) _) _)
 have hQ := hc.keep0 (b := w.heap.size + 1) (new_at (by simp) _)
 have cP := cellsOf hP; have lP := ltOf hP; have fP := freeOf hP; have HBP := hid hP; clear hP
 have cQ := cellsOf hQ; have lQ := ltOf hQ; have fQ := freeOf hQ; have HBQ := hid hQ; clear hQ
 have HC1 := hid hc; clear hc
 go_wp2_with fail
 go_ret
 exact ⟨rfl, by refine Chg.trans0 ?_ HC1.out; refine Chg.alloc ?_ _; refine Chg.alloc ?_ _; exact Chg.refl _ _⟩
set_option maxRecDepth 100000 in
set_option maxHeartbeats 1000000 in
theorem szBlockS_any (a : Option Addr) (la ca : Nat) (xs : List (Blk)) (f : List Nat) (k : Int) (w : World) (ha : blkL.sl w a la ca xs f) (hk : 0 ≤ k) (hk2 : k ≤ 1048576) :
  Calls Tryz.prog 263 #[.slice a la ca, .int .i64 k] w (SzPost (totL (totBlk) xs) k w) := by
 have hm := blkL.sl_max ha
 have HL := hid ha.1
 have HA := hid ha
 have HN := hid (sumI_nonneg (f := totBlk) totBlk_nonneg xs)
 have HT := hid (show totL (totBlk) xs = (la : Int) + sumI (totBlk) xs by unfold totL; rw [ha.1])
 clear ha
 by_cases hn : k - (la : Int) < 0
 ·go_enter Tryz.func263, Tryz.ntmps263
  go_wp2
  go_ret
  exact ⟨ret_int (by rw [HT.out, if_pos (by have := HN.out; omega)]), Chg.refl _ _⟩
 go_enter Tryz.func263, Tryz.ntmps263
 go_wp2
 go_loopw [1, 5] (fun u v wr => ∃ (j : Nat) (z : Int), j ≤ la ∧ u = .int .i64 z ∧ v = .int .i64 j ∧ Hid (z = k - la - sumI (totBlk) (xs.take j)) ∧ 0 ≤ z ∧ z ≤ 1048576 ∧ Hid (Chg [] w wr)) (fun _ v _ => la - (intOf v).toNat)
 case atStart => exact ⟨0, k - la, by omega, rfl, rfl, by show k - la = k - la - 0; omega, by omega, by omega, Chg.refl _ _⟩
 case round =>
  obtain ⟨j, z, hj, rfl, rfl, HZ, hz0, hz1, HC⟩ := hrel
  by_cases hlt : j < la
  ·obtain ⟨x, b, o, a1, l1, c1, fx, HX, rfl, hc0, hc1, HXS⟩ := block_at (blkL.sl_ext HA.out HC.out) hlt
   have HS := hid (sumI_at (f := totBlk) totBlk_nonneg HX.out.1)
   have HSN := hid (sumI_take (f := totBlk) HX.out.1)
   obtain ⟨t, ht⟩ : ∃ t, t = (totBlk) x := ⟨_, rfl⟩
   have ht0 : 0 ≤ t := by rw [ht]; exact totBlk_nonneg x
   have HTX := hid ht
   clear ht
   go_wp2_with fail
   refine (szBlock_any x #[.int .i64 x.stamp, .slice a1 l1 c1] fx z _ HXS.out hz0 hz1).mono ?_
   rintro e w1 ⟨rfl, hc⟩
   have HC2 := hid (HC.out.trans0 hc)
   clear hc
   rw [← HTX.out]
   by_cases hneg : z - t < 0
   ·rw [if_pos hneg]
    go_wp2_with fail
    go_ret
    exact ⟨ret_int (by rw [HT.out, if_pos (by have h1 := HS.out; have h2 := HZ.out; have h3 := HTX.out; omega)]), HC2.out⟩
   ·rw [if_neg hneg]
    have HN2 := hid (show z - t = k - la - sumI (totBlk) (xs.take (j + 1)) by rw [HSN.out, HZ.out, HTX.out]; omega)
    go_wp2_with fail
    go_roundw
    case rel => exact ⟨j + 1, z - t, by omega, rfl, by go_num, HN2, by omega, by omega, HC2⟩
    case measure => simp [intOf]; omega
  ·have hjl : j = la := by omega
   subst hjl
   have HR := hid (show (if k - totL (totBlk) xs < 0 then -1 else k - totL (totBlk) xs) = z by
    have h1 := HZ.out
    rw [List.take_of_length_le (by have := HL.out; omega)] at h1
    rw [HT.out, if_neg (by omega)]; omega)
   go_wp2
   go_ret
   exact ⟨ret_int HR.out.symm, HC.out⟩
set_option maxRecDepth 100000 in
set_option maxHeartbeats 1000000 in
theorem eqBlockS_any (a b : Option Addr) (la ca cb : Nat) (xs : List (Blk)) (f g : List Nat) (w : World) (ha : blkL.sl w a la ca xs f) (hb : blkL.sl w b la cb xs g) :
  Calls Tryz.prog 267 #[.slice a la ca, .slice b la cb] w fun e w' => e = .returned (.bool true) ∧ Chg [] w w' := by
 have hm := blkL.sl_max ha
 have hne : ((la : Int) != (la : Int)) = false := by simp
 have HA := hid ha
 have HB := hid hb
 clear ha hb
 go_enter Tryz.func267, Tryz.ntmps267
 go_wp2
 go_loopw [5] (fun i wr => ∃ k : Nat, k ≤ la ∧ i = .int .i64 k ∧ Chg [] w wr) (fun i _ => la - (intOf i).toNat)
 case atStart => exact ⟨0, by omega, rfl, Chg.refl _ _⟩
 case round =>
  obtain ⟨k, hk, rfl, hc⟩ := hrel
  rename_i wr
  by_cases hlt : k < la
  ·obtain ⟨x, b1, o1, a1, l1, c1, fx, HX, rfl, hx0, hx1, HXS⟩ := block_at (blkL.sl_ext HA.out hc) hlt
   obtain ⟨y, b2, o2, bb1, m1, d1, fy, HY, rfl, hy0, hy1, HYS⟩ := block_at (blkL.sl_ext HB.out hc) hlt
   have hxy : x = y := by have := HX.out.1.symm.trans HY.out.1; exact Option.some.inj this
   subst hxy
   have HC := hid hc
   have HE := hid (eqBlock_any x #[.int .i64 x.stamp, .slice a1 l1 c1] #[.int .i64 x.stamp, .slice bb1 m1 d1] fx fy wr.drew (Lay.keep _ HXS.out (fun _ _ => rfl)) (Lay.keep _ HYS.out (fun _ _ => rfl)))
   clear hc
   go_wp2_with fail
   go_region_law (go_simp; go_at_call 291; refine HE.out.mono ?_; rintro e w' ⟨rfl, hc⟩)
   all_goals
    have HC2 := hid (HC.out.drew.trans0 hc)
    clear hc
    go_wp2
    go_roundw
    case rel => exact ⟨k + 1, by omega, by go_num, HC2.out⟩
    case measure => simp [intOf]; omega
  ·have HC := hid hc
   clear hc
   go_wp2
   go_ret
   exact ⟨rfl, HC.out⟩
set_option maxRecDepth 100000 in
set_option maxHeartbeats 2000000 in
theorem szDrive_any (x : Drv) (cx : Array Value) (fx : List Nat) (k : Int) (w : World) (hx : drvL.rep w cx.toList x fx) (hk : 0 ≤ k) (hk2 : k ≤ 1048576) :
  Calls Tryz.prog 226 #[.agg cx, .int .i64 k] w (SzPost (totDrv x) k w) := by
 obtain ⟨a1, l1, c1, f1, ex, h1, -⟩ := drvL_iff.1 hx
 clear hx
 obtain ⟨v0, v1⟩ := x
 simp only at ex h1
 obtain rfl := Array.toList_inj.1 (ex.trans (List.toList_toArray).symm)
 clear ex
 have H1 := hid h1; clear h1
 obtain ⟨t1, ht1⟩ : ∃ t, t = totL totBlk v1 := ⟨_, rfl⟩
 have n1 : 0 ≤ t1 := by rw [ht1]; exact totL_nonneg totBlk_nonneg _
 have HT1 := hid ht1
 have HT := hid (show totDrv ⟨v0, v1⟩ = t1 by rw [ht1]; unfold totDrv; rfl)
 clear ht1
 go_enter Tryz.func226, Tryz.ntmps226
 go_wp2_with fail
 refine (szBlockS_any a1 l1 c1 v1 f1 (k) _ (blkL.sl_ext H1.out (by refine Chg.alloc ?_ _; exact Chg.refl _ _)) (by omega) (by omega)).mono ?_
 rintro e w1 ⟨rfl, hc⟩
 rw [← HT1.out]
 have hP := hc.keep0 (b := w.heap.size) (new_at (by simp) _)
 have cP := cellsOf hP; have lP := ltOf hP; have fP := freeOf hP; have HBP := hid hP; clear hP
 have HC1 := hid hc; clear hc
 by_cases m1 : k - t1 < 0
 ·rw [if_pos m1]
  go_wp2_with fail
  go_ret
  exact ⟨ret_int (by rw [HT.out, if_pos (by omega)]), by refine Chg.trans0 ?_ HC1.out; refine Chg.alloc ?_ _; exact Chg.refl _ _⟩
 rw [if_neg m1]
 go_wp2_with fail
 go_ret
 exact ⟨ret_int (by rw [HT.out, if_neg (by omega)] <;> omega), by refine Chg.trans0 ?_ HC1.out; refine Chg.alloc ?_ _; exact Chg.refl _ _⟩
set_option maxRecDepth 100000 in
set_option maxHeartbeats 2000000 in
theorem eqDrive_any (x : Drv) (cx cy : Array Value) (fx fy : List Nat) (w : World) (hx : drvL.rep w cx.toList x fx) (hy : drvL.rep w cy.toList x fy) :
  Calls Tryz.prog 231 #[.agg cx, .agg cy] w fun e w' => e = .returned (.bool true) ∧ Chg [] w w' := by
 obtain ⟨a1, l1, c1, f1, ex, h1, -⟩ := drvL_iff.1 hx
 obtain ⟨b1, m1, d1, g1, ey, j1, -⟩ := drvL_iff.1 hy
 clear hx hy
 obtain ⟨v0, v1⟩ := x
 simp only at ex ey h1 j1
 obtain rfl := Array.toList_inj.1 (ex.trans (List.toList_toArray).symm)
 obtain rfl := Array.toList_inj.1 (ey.trans (List.toList_toArray).symm)
 clear ex ey
 obtain rfl : l1 = m1 := h1.1.trans j1.1.symm
 have H1 := hid h1; have J1 := hid j1; clear h1 j1
 have e0 : (v0 != v0) = false := by simp
 go_enter Tryz.func231, Tryz.ntmps231
 go_wp2_with fail
 refine (eqBlockS_any a1 b1 l1 c1 d1 v1 f1 g1 _ (blkL.sl_ext H1.out (by refine Chg.alloc ?_ _; refine Chg.alloc ?_ _; exact Chg.refl _ _)) (blkL.sl_ext J1.out (by refine Chg.alloc ?_ _; refine Chg.alloc ?_ _; exact Chg.refl _ _))).mono ?_
 rintro e w1 ⟨rfl, hc⟩
 have hP := hc.keep0 (b := w.heap.size) (keep_alloc (new_at (by simp) _) _)
 have hQ := hc.keep0 (b := w.heap.size + 1) (new_at (by simp) _)
 have cP := cellsOf hP; have lP := ltOf hP; have fP := freeOf hP; have HBP := hid hP; clear hP
 have cQ := cellsOf hQ; have lQ := ltOf hQ; have fQ := freeOf hQ; have HBQ := hid hQ; clear hQ
 have HC1 := hid hc; clear hc
 go_wp2_with fail
 go_ret
 exact ⟨rfl, by refine Chg.trans0 ?_ HC1.out; refine Chg.alloc ?_ _; refine Chg.alloc ?_ _; exact Chg.refl _ _⟩
set_option maxRecDepth 100000 in
set_option maxHeartbeats 1000000 in
theorem szDriveS_any (a : Option Addr) (la ca : Nat) (xs : List (Drv)) (f : List Nat) (k : Int) (w : World) (ha : drvL.sl w a la ca xs f) (hk : 0 ≤ k) (hk2 : k ≤ 1048576) :
  Calls Tryz.prog 150 #[.slice a la ca, .int .i64 k] w (SzPost (totL (totDrv) xs) k w) := by
 have hm := drvL.sl_max ha
 have HL := hid ha.1
 have HA := hid ha
 have HN := hid (sumI_nonneg (f := totDrv) totDrv_nonneg xs)
 have HT := hid (show totL (totDrv) xs = (la : Int) + sumI (totDrv) xs by unfold totL; rw [ha.1])
 clear ha
 by_cases hn : k - (la : Int) < 0
 ·go_enter Tryz.func150, Tryz.ntmps150
  go_wp2
  go_ret
  exact ⟨ret_int (by rw [HT.out, if_pos (by have := HN.out; omega)]), Chg.refl _ _⟩
 go_enter Tryz.func150, Tryz.ntmps150
 go_wp2
 go_loopw [1, 5] (fun u v wr => ∃ (j : Nat) (z : Int), j ≤ la ∧ u = .int .i64 z ∧ v = .int .i64 j ∧ Hid (z = k - la - sumI (totDrv) (xs.take j)) ∧ 0 ≤ z ∧ z ≤ 1048576 ∧ Hid (Chg [] w wr)) (fun _ v _ => la - (intOf v).toNat)
 case atStart => exact ⟨0, k - la, by omega, rfl, rfl, by show k - la = k - la - 0; omega, by omega, by omega, Chg.refl _ _⟩
 case round =>
  obtain ⟨j, z, hj, rfl, rfl, HZ, hz0, hz1, HC⟩ := hrel
  by_cases hlt : j < la
  ·obtain ⟨x, b, o, a1, l1, c1, fx, HX, rfl, hc0, hc1, HXS⟩ := drive_at (drvL.sl_ext HA.out HC.out) hlt
   have HS := hid (sumI_at (f := totDrv) totDrv_nonneg HX.out.1)
   have HSN := hid (sumI_take (f := totDrv) HX.out.1)
   obtain ⟨t, ht⟩ : ∃ t, t = (totDrv) x := ⟨_, rfl⟩
   have ht0 : 0 ≤ t := by rw [ht]; exact totDrv_nonneg x
   have HTX := hid ht
   clear ht
   go_wp2_with fail
   refine (szDrive_any x #[.bool x.wiped, .slice a1 l1 c1] fx z _ HXS.out hz0 hz1).mono ?_
   rintro e w1 ⟨rfl, hc⟩
   have HC2 := hid (HC.out.trans0 hc)
   clear hc
   rw [← HTX.out]
   by_cases hneg : z - t < 0
   ·rw [if_pos hneg]
    go_wp2_with fail
    go_ret
    exact ⟨ret_int (by rw [HT.out, if_pos (by have h1 := HS.out; have h2 := HZ.out; have h3 := HTX.out; omega)]), HC2.out⟩
   ·rw [if_neg hneg]
    have HN2 := hid (show z - t = k - la - sumI (totDrv) (xs.take (j + 1)) by rw [HSN.out, HZ.out, HTX.out]; omega)
    go_wp2_with fail
    go_roundw
    case rel => exact ⟨j + 1, z - t, by omega, rfl, by go_num, HN2, by omega, by omega, HC2⟩
    case measure => simp [intOf]; omega
  ·have hjl : j = la := by omega
   subst hjl
   have HR := hid (show (if k - totL (totDrv) xs < 0 then -1 else k - totL (totDrv) xs) = z by
    have h1 := HZ.out
    rw [List.take_of_length_le (by have := HL.out; omega)] at h1
    rw [HT.out, if_neg (by omega)]; omega)
   go_wp2
   go_ret
   exact ⟨ret_int HR.out.symm, HC.out⟩
set_option maxRecDepth 100000 in
set_option maxHeartbeats 1000000 in
theorem eqDriveS_any (a b : Option Addr) (la ca cb : Nat) (xs : List (Drv)) (f g : List Nat) (w : World) (ha : drvL.sl w a la ca xs f) (hb : drvL.sl w b la cb xs g) :
  Calls Tryz.prog 160 #[.slice a la ca, .slice b la cb] w fun e w' => e = .returned (.bool true) ∧ Chg [] w w' := by
 have hm := drvL.sl_max ha
 have hne : ((la : Int) != (la : Int)) = false := by simp
 have HA := hid ha
 have HB := hid hb
 clear ha hb
 go_enter Tryz.func160, Tryz.ntmps160
 go_wp2
 go_loopw [5] (fun i wr => ∃ k : Nat, k ≤ la ∧ i = .int .i64 k ∧ Chg [] w wr) (fun i _ => la - (intOf i).toNat)
 case atStart => exact ⟨0, by omega, rfl, Chg.refl _ _⟩
 case round =>
  obtain ⟨k, hk, rfl, hc⟩ := hrel
  rename_i wr
  by_cases hlt : k < la
  ·obtain ⟨x, b1, o1, a1, l1, c1, fx, HX, rfl, hx0, hx1, HXS⟩ := drive_at (drvL.sl_ext HA.out hc) hlt
   obtain ⟨y, b2, o2, bb1, m1, d1, fy, HY, rfl, hy0, hy1, HYS⟩ := drive_at (drvL.sl_ext HB.out hc) hlt
   have hxy : x = y := by have := HX.out.1.symm.trans HY.out.1; exact Option.some.inj this
   subst hxy
   have HC := hid hc
   have HE := hid (eqDrive_any x #[.bool x.wiped, .slice a1 l1 c1] #[.bool x.wiped, .slice bb1 m1 d1] fx fy wr.drew (Lay.keep _ HXS.out (fun _ _ => rfl)) (Lay.keep _ HYS.out (fun _ _ => rfl)))
   clear hc
   go_wp2_with fail
   go_region_law (go_simp; go_at_call 231; refine HE.out.mono ?_; rintro e w' ⟨rfl, hc⟩)
   all_goals
    have HC2 := hid (HC.out.drew.trans0 hc)
    clear hc
    go_wp2
    go_roundw
    case rel => exact ⟨k + 1, by omega, by go_num, HC2.out⟩
    case measure => simp [intOf]; omega
  ·have HC := hid hc
   clear hc
   go_wp2
   go_ret
   exact ⟨rfl, HC.out⟩
set_option maxRecDepth 100000 in
set_option maxHeartbeats 1000000 in
theorem szDriveSS_any (a : Option Addr) (la ca : Nat) (xs : List (List Drv)) (f : List Nat) (k : Int) (w : World) (ha : drvL.slice.sl w a la ca xs f) (hk : 0 ≤ k) (hk2 : k ≤ 1048576) :
  Calls Tryz.prog 66 #[.slice a la ca, .int .i64 k] w (SzPost (totL (totL totDrv) xs) k w) := by
 have hm := drvL.slice.sl_max ha
 have HL := hid ha.1
 have HA := hid ha
 have HN := hid (sumI_nonneg (f := totL totDrv) (totL_nonneg totDrv_nonneg) xs)
 have HT := hid (show totL (totL totDrv) xs = (la : Int) + sumI (totL totDrv) xs by unfold totL; rw [ha.1])
 clear ha
 by_cases hn : k - (la : Int) < 0
 ·go_enter Tryz.func66, Tryz.ntmps66
  go_wp2
  go_ret
  exact ⟨ret_int (by rw [HT.out, if_pos (by have := HN.out; omega)]), Chg.refl _ _⟩
 go_enter Tryz.func66, Tryz.ntmps66
 go_wp2
 go_loopw [1, 5] (fun u v wr => ∃ (j : Nat) (z : Int), j ≤ la ∧ u = .int .i64 z ∧ v = .int .i64 j ∧ Hid (z = k - la - sumI (totL totDrv) (xs.take j)) ∧ 0 ≤ z ∧ z ≤ 1048576 ∧ Hid (Chg [] w wr)) (fun _ v _ => la - (intOf v).toNat)
 case atStart => exact ⟨0, k - la, by omega, rfl, rfl, by show k - la = k - la - 0; omega, by omega, by omega, Chg.refl _ _⟩
 case round =>
  obtain ⟨j, z, hj, rfl, rfl, HZ, hz0, hz1, HC⟩ := hrel
  by_cases hlt : j < la
  ·obtain ⟨x, b, o, A, lx, C, fx, HX, rfl, hcx, HXS⟩ := slc_at (drvL.slice.sl_ext HA.out HC.out) hlt
   have HS := hid (sumI_at (f := totL totDrv) (totL_nonneg totDrv_nonneg) HX.out.1)
   have HSN := hid (sumI_take (f := totL totDrv) HX.out.1)
   obtain ⟨t, ht⟩ : ∃ t, t = (totL totDrv) x := ⟨_, rfl⟩
   have ht0 : 0 ≤ t := by rw [ht]; exact (totL_nonneg totDrv_nonneg) x
   have HTX := hid ht
   clear ht
   go_wp2_with fail
   refine (szDriveS_any A lx C x fx z _ HXS.out hz0 hz1).mono ?_
   rintro e w1 ⟨rfl, hc⟩
   have HC2 := hid (HC.out.trans0 hc)
   clear hc
   rw [← HTX.out]
   by_cases hneg : z - t < 0
   ·rw [if_pos hneg]
    go_wp2_with fail
    go_ret
    exact ⟨ret_int (by rw [HT.out, if_pos (by have h1 := HS.out; have h2 := HZ.out; have h3 := HTX.out; omega)]), HC2.out⟩
   ·rw [if_neg hneg]
    have HN2 := hid (show z - t = k - la - sumI (totL totDrv) (xs.take (j + 1)) by rw [HSN.out, HZ.out, HTX.out]; omega)
    go_wp2_with fail
    go_roundw
    case rel => exact ⟨j + 1, z - t, by omega, rfl, by go_num, HN2, by omega, by omega, HC2⟩
    case measure => simp [intOf]; omega
  ·have hjl : j = la := by omega
   subst hjl
   have HR := hid (show (if k - totL (totL totDrv) xs < 0 then -1 else k - totL (totL totDrv) xs) = z by
    have h1 := HZ.out
    rw [List.take_of_length_le (by have := HL.out; omega)] at h1
    rw [HT.out, if_neg (by omega)]; omega)
   go_wp2
   go_ret
   exact ⟨ret_int HR.out.symm, HC.out⟩
set_option maxRecDepth 100000 in
set_option maxHeartbeats 1000000 in
theorem eqDriveSS_any (a b : Option Addr) (la ca cb : Nat) (xs : List (List Drv)) (f g : List Nat) (w : World) (ha : drvL.slice.sl w a la ca xs f) (hb : drvL.slice.sl w b la cb xs g) :
  Calls Tryz.prog 84 #[.slice a la ca, .slice b la cb] w fun e w' => e = .returned (.bool true) ∧ Chg [] w w' := by
 have hm := drvL.slice.sl_max ha
 have hne : ((la : Int) != (la : Int)) = false := by simp
 have HA := hid ha
 have HB := hid hb
 clear ha hb
 go_enter Tryz.func84, Tryz.ntmps84
 go_wp2
 go_loopw [5] (fun i wr => ∃ k : Nat, k ≤ la ∧ i = .int .i64 k ∧ Chg [] w wr) (fun i _ => la - (intOf i).toNat)
 case atStart => exact ⟨0, by omega, rfl, Chg.refl _ _⟩
 case round =>
  obtain ⟨k, hk, rfl, hc⟩ := hrel
  rename_i wr
  by_cases hlt : k < la
  ·obtain ⟨x, b1, o1, A, lx, C, fx, HX, rfl, hcx, HXS⟩ := slc_at (drvL.slice.sl_ext HA.out hc) hlt
   obtain ⟨y, b2, o2, B, ly, D, fy, HY, rfl, hcy, HYS⟩ := slc_at (drvL.slice.sl_ext HB.out hc) hlt
   have hxy : x = y := by have := HX.out.1.symm.trans HY.out.1; exact Option.some.inj this
   subst hxy
   obtain rfl : lx = ly := HXS.out.1.trans HYS.out.1.symm
   have HC := hid hc
   have HE := hid (eqDriveS_any A B lx C D x fx fy wr.drew (Lay.sl_keep _ HXS.out (fun _ _ => rfl)) (Lay.sl_keep _ HYS.out (fun _ _ => rfl)))
   clear hc
   go_wp2_with fail
   go_region_law (go_simp; go_at_call 160; refine HE.out.mono ?_; rintro e w' ⟨rfl, hc⟩)
   all_goals
    have HC2 := hid (HC.out.drew.trans0 hc)
    clear hc
    go_wp2
    go_roundw
    case rel => exact ⟨k + 1, by omega, by go_num, HC2.out⟩
    case measure => simp [intOf]; omega
  ·have HC := hid hc
   clear hc
   go_wp2
   go_ret
   exact ⟨rfl, HC.out⟩
set_option maxRecDepth 100000 in
set_option maxHeartbeats 1000000 in
theorem szRecS_any (a : Option Addr) (la ca : Nat) (xs : List (Rec)) (f : List Nat) (k : Int) (w : World) (ha : recL.sl w a la ca xs f) (hk : 0 ≤ k) (hk2 : k ≤ 1048576) :
  Calls Tryz.prog 227 #[.slice a la ca, .int .i64 k] w (SzPost (totL (totRec) xs) k w) := by
 have hm := recL.sl_max ha
 have HL := hid ha.1
 have HA := hid ha
 have HN := hid (sumI_nonneg (f := totRec) totRec_nonneg xs)
 have HT := hid (show totL (totRec) xs = (la : Int) + sumI (totRec) xs by unfold totL; rw [ha.1])
 clear ha
 by_cases hn : k - (la : Int) < 0
 ·go_enter Tryz.func227, Tryz.ntmps227
  go_wp2
  go_ret
  exact ⟨ret_int (by rw [HT.out, if_pos (by have := HN.out; omega)]), Chg.refl _ _⟩
 go_enter Tryz.func227, Tryz.ntmps227
 go_wp2
 go_loopw [1, 5] (fun u v wr => ∃ (j : Nat) (z : Int), j ≤ la ∧ u = .int .i64 z ∧ v = .int .i64 j ∧ Hid (z = k - la - sumI (totRec) (xs.take j)) ∧ 0 ≤ z ∧ z ≤ 1048576 ∧ Hid (Chg [] w wr)) (fun _ v _ => la - (intOf v).toNat)
 case atStart => exact ⟨0, k - la, by omega, rfl, rfl, by show k - la = k - la - 0; omega, by omega, by omega, Chg.refl _ _⟩
 case round =>
  obtain ⟨j, z, hj, rfl, rfl, HZ, hz0, hz1, HC⟩ := hrel
  by_cases hlt : j < la
  ·obtain ⟨x, b, o, a6, l6, c6, a7, l7, c7, a8, l8, c8, fx, HX, rfl, hc0, hc1, hc2, hc3, hc4, hc5, hc6, hc7, hc8, HXS⟩ := rec_at (recL.sl_ext HA.out HC.out) hlt
   have HS := hid (sumI_at (f := totRec) totRec_nonneg HX.out.1)
   have HSN := hid (sumI_take (f := totRec) HX.out.1)
   obtain ⟨t, ht⟩ : ∃ t, t = (totRec) x := ⟨_, rfl⟩
   have ht0 : 0 ≤ t := by rw [ht]; exact totRec_nonneg x
   have HTX := hid ht
   clear ht
   go_wp2_with fail
   refine (szRec_any x #[.int .i64 x.kind, .int .i64 x.seq, .string x.name, .int .i64 x.length, .int .i64 x.group, .int .i64 x.row, .slice a6 l6 c6, .slice a7 l7 c7, .slice a8 l8 c8] fx z _ HXS.out hz0 hz1).mono ?_
   rintro e w1 ⟨rfl, hc⟩
   have HC2 := hid (HC.out.trans0 hc)
   clear hc
   rw [← HTX.out]
   by_cases hneg : z - t < 0
   ·rw [if_pos hneg]
    go_wp2_with fail
    go_ret
    exact ⟨ret_int (by rw [HT.out, if_pos (by have h1 := HS.out; have h2 := HZ.out; have h3 := HTX.out; omega)]), HC2.out⟩
   ·rw [if_neg hneg]
    have HN2 := hid (show z - t = k - la - sumI (totRec) (xs.take (j + 1)) by rw [HSN.out, HZ.out, HTX.out]; omega)
    go_wp2_with fail
    go_roundw
    case rel => exact ⟨j + 1, z - t, by omega, rfl, by go_num, HN2, by omega, by omega, HC2⟩
    case measure => simp [intOf]; omega
  ·have hjl : j = la := by omega
   subst hjl
   have HR := hid (show (if k - totL (totRec) xs < 0 then -1 else k - totL (totRec) xs) = z by
    have h1 := HZ.out
    rw [List.take_of_length_le (by have := HL.out; omega)] at h1
    rw [HT.out, if_neg (by omega)]; omega)
   go_wp2
   go_ret
   exact ⟨ret_int HR.out.symm, HC.out⟩
set_option maxRecDepth 100000 in
set_option maxHeartbeats 1000000 in
theorem eqRecS_any (a b : Option Addr) (la ca cb : Nat) (xs : List (Rec)) (f g : List Nat) (w : World) (ha : recL.sl w a la ca xs f) (hb : recL.sl w b la cb xs g) :
  Calls Tryz.prog 95 #[.slice a la ca, .slice b la cb] w fun e w' => e = .returned (.bool true) ∧ Chg [] w w' := by
 have hm := recL.sl_max ha
 have hne : ((la : Int) != (la : Int)) = false := by simp
 have HA := hid ha
 have HB := hid hb
 clear ha hb
 go_enter Tryz.func95, Tryz.ntmps95
 go_wp2
 go_loopw [5] (fun i wr => ∃ k : Nat, k ≤ la ∧ i = .int .i64 k ∧ Chg [] w wr) (fun i _ => la - (intOf i).toNat)
 case atStart => exact ⟨0, by omega, rfl, Chg.refl _ _⟩
 case round =>
  obtain ⟨k, hk, rfl, hc⟩ := hrel
  rename_i wr
  by_cases hlt : k < la
  ·obtain ⟨x, b1, o1, a6, l6, c6, a7, l7, c7, a8, l8, c8, fx, HX, rfl, hx0, hx1, hx2, hx3, hx4, hx5, hx6, hx7, hx8, HXS⟩ := rec_at (recL.sl_ext HA.out hc) hlt
   obtain ⟨y, b2, o2, bb6, m6, d6, bb7, m7, d7, bb8, m8, d8, fy, HY, rfl, hy0, hy1, hy2, hy3, hy4, hy5, hy6, hy7, hy8, HYS⟩ := rec_at (recL.sl_ext HB.out hc) hlt
   have hxy : x = y := by have := HX.out.1.symm.trans HY.out.1; exact Option.some.inj this
   subst hxy
   have HC := hid hc
   have HE := hid (eqRec_any x #[.int .i64 x.kind, .int .i64 x.seq, .string x.name, .int .i64 x.length, .int .i64 x.group, .int .i64 x.row, .slice a6 l6 c6, .slice a7 l7 c7, .slice a8 l8 c8] #[.int .i64 x.kind, .int .i64 x.seq, .string x.name, .int .i64 x.length, .int .i64 x.group, .int .i64 x.row, .slice bb6 m6 d6, .slice bb7 m7 d7, .slice bb8 m8 d8] fx fy wr.drew (Lay.keep _ HXS.out (fun _ _ => rfl)) (Lay.keep _ HYS.out (fun _ _ => rfl)))
   clear hc
   go_wp2_with fail
   go_region_law (go_simp; go_at_call 173; refine HE.out.mono ?_; rintro e w' ⟨rfl, hc⟩)
   all_goals
    have HC2 := hid (HC.out.drew.trans0 hc)
    clear hc
    go_wp2
    go_roundw
    case rel => exact ⟨k + 1, by omega, by go_num, HC2.out⟩
    case measure => simp [intOf]; omega
  ·have HC := hid hc
   clear hc
   go_wp2
   go_ret
   exact ⟨rfl, HC.out⟩
set_option maxRecDepth 100000 in
set_option maxHeartbeats 2000000 in
theorem szTape_any (x : Tap) (cx : Array Value) (fx : List Nat) (k : Int) (w : World) (hx : tapL.rep w cx.toList x fx) (hk : 0 ≤ k) (hk2 : k ≤ 1048576) :
  Calls Tryz.prog 151 #[.agg cx, .int .i64 k] w (SzPost (totTap x) k w) := by
 obtain ⟨a1, l1, c1, f1, ex, h1, -⟩ := tapL_iff.1 hx
 clear hx
 obtain ⟨v0, v1⟩ := x
 simp only at ex h1
 obtain rfl := Array.toList_inj.1 (ex.trans (List.toList_toArray).symm)
 clear ex
 have H1 := hid h1; clear h1
 obtain ⟨t1, ht1⟩ : ∃ t, t = totL totRec v1 := ⟨_, rfl⟩
 have n1 : 0 ≤ t1 := by rw [ht1]; exact totL_nonneg totRec_nonneg _
 have HT1 := hid ht1
 have HT := hid (show totTap ⟨v0, v1⟩ = t1 by rw [ht1]; unfold totTap; rfl)
 clear ht1
 go_enter Tryz.func151, Tryz.ntmps151
 go_wp2_with fail
 refine (szRecS_any a1 l1 c1 v1 f1 (k) _ (recL.sl_ext H1.out (by refine Chg.alloc ?_ _; exact Chg.refl _ _)) (by omega) (by omega)).mono ?_
 rintro e w1 ⟨rfl, hc⟩
 rw [← HT1.out]
 have hP := hc.keep0 (b := w.heap.size) (new_at (by simp) _)
 have cP := cellsOf hP; have lP := ltOf hP; have fP := freeOf hP; have HBP := hid hP; clear hP
 have HC1 := hid hc; clear hc
 by_cases m1 : k - t1 < 0
 ·rw [if_pos m1]
  go_wp2_with fail
  go_ret
  exact ⟨ret_int (by rw [HT.out, if_pos (by omega)]), by refine Chg.trans0 ?_ HC1.out; refine Chg.alloc ?_ _; exact Chg.refl _ _⟩
 rw [if_neg m1]
 go_wp2_with fail
 go_ret
 exact ⟨ret_int (by rw [HT.out, if_neg (by omega)] <;> omega), by refine Chg.trans0 ?_ HC1.out; refine Chg.alloc ?_ _; exact Chg.refl _ _⟩
set_option maxRecDepth 100000 in
set_option maxHeartbeats 2000000 in
theorem eqTape_any (x : Tap) (cx cy : Array Value) (fx fy : List Nat) (w : World) (hx : tapL.rep w cx.toList x fx) (hy : tapL.rep w cy.toList x fy) :
  Calls Tryz.prog 161 #[.agg cx, .agg cy] w fun e w' => e = .returned (.bool true) ∧ Chg [] w w' := by
 obtain ⟨a1, l1, c1, f1, ex, h1, -⟩ := tapL_iff.1 hx
 obtain ⟨b1, m1, d1, g1, ey, j1, -⟩ := tapL_iff.1 hy
 clear hx hy
 obtain ⟨v0, v1⟩ := x
 simp only at ex ey h1 j1
 obtain rfl := Array.toList_inj.1 (ex.trans (List.toList_toArray).symm)
 obtain rfl := Array.toList_inj.1 (ey.trans (List.toList_toArray).symm)
 clear ex ey
 obtain rfl : l1 = m1 := h1.1.trans j1.1.symm
 have H1 := hid h1; have J1 := hid j1; clear h1 j1
 have e0 : (v0 != v0) = false := by simp
 go_enter Tryz.func161, Tryz.ntmps161
 go_wp2_with fail
 refine (eqRecS_any a1 b1 l1 c1 d1 v1 f1 g1 _ (recL.sl_ext H1.out (by refine Chg.alloc ?_ _; refine Chg.alloc ?_ _; exact Chg.refl _ _)) (recL.sl_ext J1.out (by refine Chg.alloc ?_ _; refine Chg.alloc ?_ _; exact Chg.refl _ _))).mono ?_
 rintro e w1 ⟨rfl, hc⟩
 have hP := hc.keep0 (b := w.heap.size) (keep_alloc (new_at (by simp) _) _)
 have hQ := hc.keep0 (b := w.heap.size + 1) (new_at (by simp) _)
 have cP := cellsOf hP; have lP := ltOf hP; have fP := freeOf hP; have HBP := hid hP; clear hP
 have cQ := cellsOf hQ; have lQ := ltOf hQ; have fQ := freeOf hQ; have HBQ := hid hQ; clear hQ
 have HC1 := hid hc; clear hc
 go_wp2_with fail
 go_ret
 exact ⟨rfl, by refine Chg.trans0 ?_ HC1.out; refine Chg.alloc ?_ _; refine Chg.alloc ?_ _; exact Chg.refl _ _⟩
set_option maxRecDepth 100000 in
set_option maxHeartbeats 1000000 in
theorem szTapeS_any (a : Option Addr) (la ca : Nat) (xs : List (Tap)) (f : List Nat) (k : Int) (w : World) (ha : tapL.sl w a la ca xs f) (hk : 0 ≤ k) (hk2 : k ≤ 1048576) :
  Calls Tryz.prog 68 #[.slice a la ca, .int .i64 k] w (SzPost (totL (totTap) xs) k w) := by
 have hm := tapL.sl_max ha
 have HL := hid ha.1
 have HA := hid ha
 have HN := hid (sumI_nonneg (f := totTap) totTap_nonneg xs)
 have HT := hid (show totL (totTap) xs = (la : Int) + sumI (totTap) xs by unfold totL; rw [ha.1])
 clear ha
 by_cases hn : k - (la : Int) < 0
 ·go_enter Tryz.func68, Tryz.ntmps68
  go_wp2
  go_ret
  exact ⟨ret_int (by rw [HT.out, if_pos (by have := HN.out; omega)]), Chg.refl _ _⟩
 go_enter Tryz.func68, Tryz.ntmps68
 go_wp2
 go_loopw [1, 5] (fun u v wr => ∃ (j : Nat) (z : Int), j ≤ la ∧ u = .int .i64 z ∧ v = .int .i64 j ∧ Hid (z = k - la - sumI (totTap) (xs.take j)) ∧ 0 ≤ z ∧ z ≤ 1048576 ∧ Hid (Chg [] w wr)) (fun _ v _ => la - (intOf v).toNat)
 case atStart => exact ⟨0, k - la, by omega, rfl, rfl, by show k - la = k - la - 0; omega, by omega, by omega, Chg.refl _ _⟩
 case round =>
  obtain ⟨j, z, hj, rfl, rfl, HZ, hz0, hz1, HC⟩ := hrel
  by_cases hlt : j < la
  ·obtain ⟨x, b, o, a1, l1, c1, fx, HX, rfl, hc0, hc1, HXS⟩ := tape_at (tapL.sl_ext HA.out HC.out) hlt
   have HS := hid (sumI_at (f := totTap) totTap_nonneg HX.out.1)
   have HSN := hid (sumI_take (f := totTap) HX.out.1)
   obtain ⟨t, ht⟩ : ∃ t, t = (totTap) x := ⟨_, rfl⟩
   have ht0 : 0 ≤ t := by rw [ht]; exact totTap_nonneg x
   have HTX := hid ht
   clear ht
   go_wp2_with fail
   refine (szTape_any x #[.bool x.wiped, .slice a1 l1 c1] fx z _ HXS.out hz0 hz1).mono ?_
   rintro e w1 ⟨rfl, hc⟩
   have HC2 := hid (HC.out.trans0 hc)
   clear hc
   rw [← HTX.out]
   by_cases hneg : z - t < 0
   ·rw [if_pos hneg]
    go_wp2_with fail
    go_ret
    exact ⟨ret_int (by rw [HT.out, if_pos (by have h1 := HS.out; have h2 := HZ.out; have h3 := HTX.out; omega)]), HC2.out⟩
   ·rw [if_neg hneg]
    have HN2 := hid (show z - t = k - la - sumI (totTap) (xs.take (j + 1)) by rw [HSN.out, HZ.out, HTX.out]; omega)
    go_wp2_with fail
    go_roundw
    case rel => exact ⟨j + 1, z - t, by omega, rfl, by go_num, HN2, by omega, by omega, HC2⟩
    case measure => simp [intOf]; omega
  ·have hjl : j = la := by omega
   subst hjl
   have HR := hid (show (if k - totL (totTap) xs < 0 then -1 else k - totL (totTap) xs) = z by
    have h1 := HZ.out
    rw [List.take_of_length_le (by have := HL.out; omega)] at h1
    rw [HT.out, if_neg (by omega)]; omega)
   go_wp2
   go_ret
   exact ⟨ret_int HR.out.symm, HC.out⟩
set_option maxRecDepth 100000 in
set_option maxHeartbeats 1000000 in
theorem eqTapeS_any (a b : Option Addr) (la ca cb : Nat) (xs : List (Tap)) (f g : List Nat) (w : World) (ha : tapL.sl w a la ca xs f) (hb : tapL.sl w b la cb xs g) :
  Calls Tryz.prog 86 #[.slice a la ca, .slice b la cb] w fun e w' => e = .returned (.bool true) ∧ Chg [] w w' := by
 have hm := tapL.sl_max ha
 have hne : ((la : Int) != (la : Int)) = false := by simp
 have HA := hid ha
 have HB := hid hb
 clear ha hb
 go_enter Tryz.func86, Tryz.ntmps86
 go_wp2
 go_loopw [5] (fun i wr => ∃ k : Nat, k ≤ la ∧ i = .int .i64 k ∧ Chg [] w wr) (fun i _ => la - (intOf i).toNat)
 case atStart => exact ⟨0, by omega, rfl, Chg.refl _ _⟩
 case round =>
  obtain ⟨k, hk, rfl, hc⟩ := hrel
  rename_i wr
  by_cases hlt : k < la
  ·obtain ⟨x, b1, o1, a1, l1, c1, fx, HX, rfl, hx0, hx1, HXS⟩ := tape_at (tapL.sl_ext HA.out hc) hlt
   obtain ⟨y, b2, o2, bb1, m1, d1, fy, HY, rfl, hy0, hy1, HYS⟩ := tape_at (tapL.sl_ext HB.out hc) hlt
   have hxy : x = y := by have := HX.out.1.symm.trans HY.out.1; exact Option.some.inj this
   subst hxy
   have HC := hid hc
   have HE := hid (eqTape_any x #[.bool x.wiped, .slice a1 l1 c1] #[.bool x.wiped, .slice bb1 m1 d1] fx fy wr.drew (Lay.keep _ HXS.out (fun _ _ => rfl)) (Lay.keep _ HYS.out (fun _ _ => rfl)))
   clear hc
   go_wp2_with fail
   go_region_law (go_simp; go_at_call 161; refine HE.out.mono ?_; rintro e w' ⟨rfl, hc⟩)
   all_goals
    have HC2 := hid (HC.out.drew.trans0 hc)
    clear hc
    go_wp2
    go_roundw
    case rel => exact ⟨k + 1, by omega, by go_num, HC2.out⟩
    case measure => simp [intOf]; omega
  ·have HC := hid hc
   clear hc
   go_wp2
   go_ret
   exact ⟨rfl, HC.out⟩
end Go.Proofs.YtphmpimgbmedbaaGreat
namespace Go.Proofs.YtphmpimgbmedbaaGreat
open Go.RowKit
open Go.Lib (hid)
theorem Fresh.lts {B : Nat} {w : World} {fp : List Nat} (h : Fresh B w fp) : ∀ b ∈ fp, b < w.heap.size := fun b hb => (h.2 b hb).2.lt
theorem Lay.os_loose {α : Type} (L : Lay α) {E : TypeId} {w : World} {v : Value} {xs : List α} {h : Option Nat} {fps : List Nat} (ho : L.os E w v xs h fps) : ∀ g, h = some g → Loose w g := by
 rcases ho with ⟨_, _, rfl, _⟩ | ⟨g, cap, cur, _, rfl, hg, _⟩
 ·intro g hg; cases hg
 ·intro g' hg'; cases hg'; exact ⟨_, _, hg⟩
theorem Fresh.grow {B : Nat} {wr w3 w4 : World} {h h' : Option Nat} {fps f : List Nat} (fr : Fresh B wr (h.toList ++ fps)) (hB : B ≤ wr.heap.size) (ff : Fresh wr.heap.size w3 f) (c3 : Chg [] wr w3)
  (hh : h' = h ∨ h' = some w3.heap.size) (c4 : Chg h.toList w3 w4) (hl : ∀ g, h' = some g → Loose w4 g) : Fresh B w4 (h'.toList ++ (fps ++ f)) := by
 have f3 := fr.chg c3
 have f4 := f3.chg c4
 have g4 := ff.chg c4
 have nd := List.nodup_append.1 fr.1
 have dj : ∀ a ∈ h.toList ++ fps, ∀ b ∈ f, a ≠ b := fun a ha b hb e => by have h1 := fr.lts a ha; have h2 := (ff.2 b hb).1; omega
 rcases hh with rfl | rfl
 ·rw [← List.append_assoc]
  exact ⟨List.nodup_append.2 ⟨fr.1, ff.1, dj⟩, fun b hb => by
   rcases List.mem_append.1 hb with hb | hb
   ·exact f4.2 b hb
   ·exact ⟨Nat.le_trans hB (g4.2 b hb).1, (g4.2 b hb).2⟩⟩
 ·refine ⟨?_, fun b hb => ?_⟩
  ·rw [Option.toList_some, List.singleton_append, List.nodup_cons]
   refine ⟨fun hb => ?_, List.nodup_append.2 ⟨nd.2.1, ff.1, fun a ha b hb => dj a (List.mem_append.2 (.inr ha)) b hb⟩⟩
   rcases List.mem_append.1 hb with hb | hb
   ·have := f3.lts _ (List.mem_append.2 (.inr hb)); omega
   ·have := ff.lts _ hb; omega
  ·rw [Option.toList_some, List.singleton_append, List.mem_cons] at hb
   rcases hb with rfl | hb
   ·exact ⟨Nat.le_trans hB c3.size, hl _ rfl⟩
   ·rcases List.mem_append.1 hb with hb | hb
    ·exact f4.2 b (List.mem_append.2 (.inr hb))
    ·exact ⟨Nat.le_trans hB (g4.2 b hb).1, (g4.2 b hb).2⟩
def Grow {α : Type} (L : Lay α) (E : TypeId) (w wr : World) (v : Value) (xs : List α) : Prop :=
 ∃ h fps, L.os E wr v xs h fps ∧ Fresh w.heap.size wr (h.toList ++ fps) ∧ Chg [] w wr
section
variable {α : Type} {L : Lay α} {E : TypeId} {w wr w' : World} {v : Value} {xs : List α}
theorem Grow.nil (hc : Chg [] w wr) : Grow L E w wr (.slice none 0 0) [] := ⟨none, [], Lay.os_nil _ _ _, Fresh.nil _ _, hc⟩
theorem Grow.made (hc : Chg [] w wr) : Grow L E w (wr.alloc (.cells #[] E)) (.slice (some ⟨wr.heap.size, 0, none⟩) 0 0) [] :=
 ⟨some wr.heap.size, [], Lay.os_made _ _ _ _ _ (by simp [maxLen]) (by simp), ⟨by simp, fun b hb => by simp at hb; subst hb; exact ⟨hc.size, _, _, new_alloc wr _⟩⟩, hc.alloc _⟩
theorem Grow.madeN {n : Nat} (hc : Chg [] w wr) (hn : n = wr.heap.size) : Grow L E w (wr.alloc (.cells #[] E)) (.slice (some ⟨n, 0, none⟩) 0 0) [] := by subst hn; exact Grow.made hc
theorem Grow.ext (h : Grow L E w wr v xs) (hc : Chg [] wr w') : Grow L E w w' v xs := by
 obtain ⟨hd, fps, ho, hf, hch⟩ := h
 exact ⟨hd, fps, L.os_ext ho hc, hf.chg hc, hch.trans0 hc⟩
theorem Grow.chg (h : Grow L E w wr v xs) : Chg [] w wr := by obtain ⟨_, _, _, _, h⟩ := h; exact h
theorem Grow.new (h : Grow L E w wr v xs) : NewSl L xs w (.returned v) wr := by
 obtain ⟨hd, fps, ho, hf, hch⟩ := h
 obtain ⟨a, cap, rfl, hs⟩ := L.os_sl ho
 exact ⟨a, cap, _, rfl, hs, hf, hch⟩
theorem Grow.sl (h : Grow L E w wr v xs) : ∃ a cap fp, v = .slice a xs.length cap ∧ L.sl wr a xs.length cap xs fp ∧ Fresh w.heap.size wr fp ∧ Chg [] w wr := by
 obtain ⟨hd, fps, ho, hf, hch⟩ := h
 obtain ⟨a, cap, rfl, hs⟩ := L.os_sl ho
 exact ⟨a, cap, _, rfl, hs, hf, hch⟩
theorem Grow.since {w0 : World} (h : Grow L E w wr v xs) (hc : Chg [] w0 w) : Grow L E w0 wr v xs := by
 obtain ⟨hd, fps, ho, hf, hch⟩ := h
 exact ⟨hd, fps, ho, hf.mono hc.size, hc.trans0 hch⟩
end
section
variable {α : Type} (L : Lay α) {P : Program} {E : TypeId} {bytes : Nat} {w wr w3 : World} {v : Value} {xs ys : List α} {f : List Nat}
theorem Lay.wp_grow {o : Oper} {a : Act} {Kc : Act → World → Prop} {Q : Exit → Act → World → Prop} (s x : Operand) (t : TypeId)
  (hop : o.op = .call { callee := .builtin .append, args := #[s, x], argTypes := #[t, t] }) (ht : P.underlying t = some (.slice E)) (K : Kind P E L.n bytes)
  (hs : a.eval s = v) (hg : Grow L E w wr v xs) (c3 : Chg [] wr w3)
  (ad : Addr) (m c : Nat) (news : List Value) (hx : a.eval x = .slice (some ad) m c) (hm : m = ys.length) (hnews : ∀ j u, news[j]? = some u → w3.cell? (ad.add j) = some u) (hall : L.all w3 news ys f) (ff : Fresh wr.heap.size w3 f)
  (h63 : xs.length + ys.length ≤ maxLen) (hbytes : (xs.length + ys.length) * bytes ≤ 140737488355328)
  (hk : ∀ v' w', Grow L E w w' v' (xs ++ ys) → Kc (a.put o.dst v') w') : o.wp P a w3 Kc Q := by
 obtain ⟨h, fps, ho, fr, hc⟩ := hg
 have hlt := L.os_lt ho
 refine L.wp_append s x t hop ht K hs (L.os_ext ho c3) ad m c news hx hm hnews hall (fun g hg hf => ?_) h63 hbytes (fun v' w' h' ho' hh' hc' => hk _ _ ⟨h', fps ++ f, ho', fr.grow hc.size ff c3 hh' hc' (L.os_loose ho'), ?_⟩)
 ·have := hlt.1 g hg; have := (ff.2 g hf).1; omega
 ·exact (hc.trans0 c3).trans hc' (fun b hb => .inr (by
   have := (fr.2 b (List.mem_append.2 (.inl hb))).1; exact this))
theorem Lay.wpList_grow {ops : Array Oper} {rest : List Oper} {o : Oper} {a : Act} {Q : Exit → Act → World → Prop} (hgd : o.guard = none) (s x : Operand) (t : TypeId)
  (hop : o.op = .call { callee := .builtin .append, args := #[s, x], argTypes := #[t, t] }) (ht : P.underlying t = some (.slice E)) (K : Kind P E L.n bytes)
  (hs : a.eval s = v) (hg : Grow L E w wr v xs) (c3 : Chg [] wr w3)
  (ad : Addr) (m c : Nat) (news : List Value) (hx : a.eval x = .slice (some ad) m c) (hm : m = ys.length) (hnews : ∀ j u, news[j]? = some u → w3.cell? (ad.add j) = some u) (hall : L.all w3 news ys f) (ff : Fresh wr.heap.size w3 f)
  (h63 : xs.length + ys.length ≤ maxLen) (hbytes : (xs.length + ys.length) * bytes ≤ 140737488355328)
  (hk : ∀ v' w', Grow L E w w' v' (xs ++ ys) → wpList P ops Q rest (a.put o.dst v') w') : wpList P ops Q (o :: rest) a w3 :=
 wpList_plain hgd fun _ hK => L.wp_grow s x t hop ht K hs hg c3 ad m c news hx hm hnews hall ff h63 hbytes fun v' w' h1 => hK _ _ (hk v' w' h1)
end
theorem new_cells (w : World) (cs : Array Value) (E : TypeId) : ∀ j u, cs.toList[j]? = some u → (w.alloc (.cells cs E)).cell? ((⟨w.heap.size, 0, none⟩ : Addr).add j) = some u := by
 intro j u hu
 have hadd : (⟨w.heap.size, 0, none⟩ : Addr).add j = ⟨w.heap.size, j, none⟩ := by unfold Addr.add; split <;> simp_all
 rw [hadd, cellsOf (new_alloc w _)]
 simpa using hu
section
variable {α : Type} (L : Lay α) {P : Program} {E : TypeId} {bytes : Nat} {w wr w3 : World} {v : Value} {xs ys : List α} {h : Option Nat} {f fps : List Nat}
theorem Lay.run_append_none (t ty : TypeId) (ht : P.underlying t = some (.slice E)) (K : Kind P E L.n bytes) (ho : L.os E w v xs h fps) : (Builtin.append_ #[t, t] ty #[v, .slice none 0 0]).run P w = .ok v w := by
 rcases ho with ⟨rfl, _⟩ | ⟨g, cap, cur, rfl, _, _, hnc, _⟩
 ·simp [Builtin.append_, run_underlying ht, sizeOf, typeInfo, K.info, Builtin.lenOf, Builtin.firstCells]
 ·simp [Builtin.append_, run_underlying ht, sizeOf, typeInfo, K.info, Builtin.lenOf, Builtin.firstCells, hnc, storeCells]
theorem Lay.run_growS (hL : L.flat) (t ty : TypeId) (ht : P.underlying t = some (.slice E)) (K : Kind P E L.n bytes) (hg : Grow L E w wr v xs) (c3 : Chg [] wr w3)
  {a : Option Addr} {len cap : Nat} (hs : L.sl w3 a len cap ys f)
  (h63 : xs.length + ys.length ≤ maxLen) (hbytes : (xs.length + ys.length) * bytes ≤ 140737488355328) :
  ∃ v' w', (Builtin.append_ #[t, t] ty #[v, .slice a len cap]).run P w3 = .ok v' w' ∧ Grow L E w w' v' (xs ++ ys) := by
 obtain ⟨h, fps, ho, fr, hc⟩ := hg
 cases a with
 | none =>
  have h0 : cap = 0 := hs.2.2.2.1 rfl
  have h1 : len = 0 := by have := hs.2.1; omega
  have h2 : ys = [] := List.eq_nil_of_length_eq_zero (by have := hs.1; omega)
  subst h0 h1 h2
  exact ⟨v, w3, L.run_append_none t ty ht K (L.os_ext ho c3), by rw [List.append_nil]; exact ⟨h, fps, L.os_ext ho c3, fr.chg c3, hc.trans0 c3⟩⟩
 | some ad =>
  obtain ⟨news, fy, hnews, hall, hsub⟩ := L.sl_cells hs
  have hfy := Lay.flat_all hL hall
  subst hfy
  have hlen := hs.1
  subst hlen
  obtain ⟨v', w', h', hr, ho', hh', hc', hl⟩ := L.run_append t ty ht K (L.os_ext ho c3) ad cap news hnews hall (by simp) h63 hbytes
  refine ⟨v', w', hr, h', fps ++ [], ho', fr.grow hc.size (Fresh.nil _ _) c3 hh' hc' (L.os_loose ho'), (hc.trans0 c3).trans hc' (fun b hb => .inr ?_)⟩
  exact (fr.2 b (List.mem_append.2 (.inl hb))).1
theorem Lay.wp_growS (hL : L.flat) {o : Oper} {a : Act} {Kc : Act → World → Prop} {Q : Exit → Act → World → Prop} (s x : Operand) (t : TypeId)
  (hop : o.op = .call { callee := .builtin .append, args := #[s, x], argTypes := #[t, t] }) (ht : P.underlying t = some (.slice E)) (K : Kind P E L.n bytes)
  (hs : a.eval s = v) (hg : Grow L E w wr v xs) (c3 : Chg [] wr w3)
  {ad : Option Addr} {m c : Nat} (hx : a.eval x = .slice ad m c) (hsl : L.sl w3 ad m c ys f)
  (h63 : xs.length + ys.length ≤ maxLen) (hbytes : (xs.length + ys.length) * bytes ≤ 140737488355328)
  (hk : ∀ v' w', Grow L E w w' v' (xs ++ ys) → Kc (a.put o.dst v') w') : o.wp P a w3 Kc Q := by
 obtain ⟨v', w', hr, h2⟩ := L.run_growS hL (P := P) t o.type ht K hg c3 hsl h63 hbytes
 unfold Oper.wp execOp
 simp only [hop, resolve, invoke, builtin, Sem.run_bind, Sem.run_pure, Result.andThen_ok, List.map_toArray, List.map_cons, List.map_nil, hs, hx, hr]
 exact hk v' w' h2
theorem Lay.wpList_growS (hL : L.flat) {ops : Array Oper} {rest : List Oper} {o : Oper} {a : Act} {Q : Exit → Act → World → Prop} (hgd : o.guard = none) (s x : Operand) (t : TypeId)
  (hop : o.op = .call { callee := .builtin .append, args := #[s, x], argTypes := #[t, t] }) (ht : P.underlying t = some (.slice E)) (K : Kind P E L.n bytes)
  (hs : a.eval s = v) (hg : Grow L E w wr v xs) (c3 : Chg [] wr w3)
  {ad : Option Addr} {m c : Nat} (hx : a.eval x = .slice ad m c) (hsl : L.sl w3 ad m c ys f)
  (h63 : xs.length + ys.length ≤ maxLen) (hbytes : (xs.length + ys.length) * bytes ≤ 140737488355328)
  (hk : ∀ v' w', Grow L E w w' v' (xs ++ ys) → wpList P ops Q rest (a.put o.dst v') w') : wpList P ops Q (o :: rest) a w3 :=
 wpList_plain hgd fun _ hK => L.wp_growS hL s x t hop ht K hs hg c3 hx hsl h63 hbytes fun v' w' h1 => hK _ _ (hk v' w' h1)
theorem Lay.step_growS (hL : L.flat) {ops : Array Oper} {o : Oper} {a : Act} {Kc : Act → World → Prop} {Q : Exit → Act → World → Prop} {R : Prop} (hgd : o.guard = none) (s x : Operand) (t : TypeId)
  (hop : o.op = .call { callee := .builtin .append, args := #[s, x], argTypes := #[t, t] }) (ht : P.underlying t = some (.slice E)) (K : Kind P E L.n bytes)
  (hs : a.eval s = v) (hg : Grow L E w wr v xs) (c3 : Chg [] wr w3)
  {ad : Option Addr} {m c : Nat} (hx : a.eval x = .slice ad m c) (hsl : L.sl w3 ad m c ys f)
  (h63 : xs.length + ys.length ≤ maxLen) (hbytes : (xs.length + ys.length) * bytes ≤ 140737488355328)
  (hk : ∀ v' w', Grow L E w w' v' (xs ++ ys) → Kc (a.put o.dst v') w') :
  if Region.wanted o (yielded ops a.tmps) = true then Oper.wp P o a w3 Kc Q else R := by
 have hw : Region.wanted o (yielded ops a.tmps) = true := by simp [Region.wanted, hgd]
 rw [if_pos hw]
 exact L.wp_growS hL s x t hop ht K hs hg c3 hx hsl h63 hbytes hk
end
theorem Grow.bytes {E : TypeId} {w wr : World} {v : Value} {xs : List UInt8} (h : Grow byteL E w wr v xs) : ∃ a c f, v = .slice a xs.length c ∧ byteL.sl wr a xs.length c xs f ∧ Fresh w.heap.size wr f ∧ Chg [] w wr := by
 obtain ⟨a, c, f, h1, h2, h3, h4⟩ := h.sl
 exact ⟨a, c, f, h1, h2, h3, h4⟩
end Go.Proofs.YtphmpimgbmedbaaGreat
namespace Go.Proofs.YtphmpimgbmedbaaGreat
open Go.RowKit
open Go.Lib (hid)
def cutW (w : World) (n : Nat) : World := { w with heap := w.heap.extract 0 n }
theorem cutW_size {w : World} {n : Nat} (h : n ≤ w.heap.size) : (cutW w n).heap.size = n := by simp [cutW]; omega
theorem cutW_at {w : World} {n k : Nat} (h : k < n) : (cutW w n).heap[k]? = w.heap[k]? := by
 unfold cutW
 simp only [Array.getElem?_extract]
 by_cases hk : k < w.heap.size
 ·rw [if_pos (by omega)]; simp
 ·rw [if_neg (by omega), Array.getElem?_eq_none (by omega)]
theorem cutW_chg {w : World} {n : Nat} (h : n ≤ w.heap.size) : Chg [] (cutW w n) w := by
 refine ⟨rfl, rfl, rfl, by rw [cutW_size h]; exact h, fun k hk _ => ?_, fun k hk => ?_⟩
 ·rw [cutW_size h] at hk; exact (cutW_at hk).symm
 ·have hlt := hk.lt
  rw [cutW_size h] at hlt
  obtain ⟨cur, E, hb⟩ := hk
  exact ⟨cur, E, by rw [← cutW_at hlt]; exact hb⟩
def GrowC {α : Type} (L : Lay α) (E : TypeId) (n : Nat) (wr : World) (v : Value) (xs : List α) : Prop :=
 n ≤ wr.heap.size ∧ ∃ h fps, L.os E wr v xs h fps ∧ Fresh n wr (h.toList ++ fps)
section
variable {α : Type} {L : Lay α} {E : TypeId} {n : Nat} {w wr w' : World} {v : Value} {xs : List α}
theorem GrowC.to (h : GrowC L E n wr v xs) : Grow L E (cutW wr n) wr v xs := by
 obtain ⟨h0, hd, fps, h1, h2⟩ := h
 exact ⟨hd, fps, h1, by rw [cutW_size h0]; exact h2, cutW_chg h0⟩
theorem GrowC.of (h : Grow L E w wr v xs) : GrowC L E w.heap.size wr v xs := by
 obtain ⟨hd, fps, h1, h2, h3⟩ := h
 exact ⟨h3.size, hd, fps, h1, h2⟩
theorem GrowC.of' (h : Grow L E w wr v xs) (hn : n = w.heap.size) : GrowC L E n wr v xs := by subst hn; exact GrowC.of h
theorem GrowC.chg {S : List Nat} (h : GrowC L E n wr v xs) (hc : Chg S wr w') (hS : ∀ x ∈ S, x < n) : GrowC L E n w' v xs := by
 obtain ⟨h0, hd, fps, h1, h2⟩ := h
 refine ⟨Nat.le_trans h0 hc.size, hd, fps, L.os_chg h1 hc (fun g hg hm => ?_) (fun b hb hm => ?_), h2.chg hc⟩
 ·have := (h2.2 g (List.mem_append.2 (.inl (by simp [hg])))).1; have := hS g hm; omega
 ·have := (h2.2 b (List.mem_append.2 (.inr hb))).1; have := hS b hm; omega
theorem GrowC.ext (h : GrowC L E n wr v xs) (hc : Chg [] wr w') : GrowC L E n w' v xs := h.chg hc (by simp)
theorem GrowC.next {ys : List α} {v' : Value} {S : List Nat} {w0 : World} (hn : n ≤ wr.heap.size) (h : Grow L E (cutW wr n) w' v' ys) (hc : Chg S w0 wr) (h0 : w0.heap.size ≤ n) : GrowC L E n w' v' ys ∧ Chg S w0 w' := by
 refine ⟨GrowC.of' h (cutW_size hn).symm, ?_⟩
 have h1 := h.chg
 refine ⟨h1.os.trans hc.os, h1.tape.trans hc.tape, h1.output.trans hc.output, ?_, fun k hk hS => ?_, fun k hk => ?_⟩
 ·have := h1.size; rw [cutW_size hn] at this; omega
 ·rw [h1.block k (by rw [cutW_size hn]; omega) (by simp), cutW_at (by omega), hc.block k hk hS]
 ·have hlt := hk.lt
  have h2 := hc.loose k hk
  refine h1.loose k ?_
  obtain ⟨cur, T, hb⟩ := h2
  exact ⟨cur, T, by rw [cutW_at (by omega)]; exact hb⟩
theorem GrowC.low {ys : List α} {v' : Value} (hn : n ≤ wr.heap.size) (h : Grow L E (cutW wr n) w' v' ys) : ∀ k, k < n → w'.heap[k]? = wr.heap[k]? := fun k hk => by
 rw [h.chg.block k (by rw [cutW_size hn]; exact hk) (by simp), cutW_at hk]
theorem GrowC.sl (h : GrowC L E n wr v xs) : ∃ a cap fp, v = .slice a xs.length cap ∧ L.sl wr a xs.length cap xs fp ∧ Fresh n wr fp := by
 obtain ⟨h0, hd, fps, h1, h2⟩ := h
 obtain ⟨a, cap, rfl, hs⟩ := L.os_sl h1
 exact ⟨a, cap, _, rfl, hs, h2⟩
theorem GrowC.made (h : n ≤ wr.heap.size) : GrowC L E n (wr.alloc (.cells #[] E)) (.slice (some ⟨wr.heap.size, 0, none⟩) 0 0) [] :=
 ⟨by simp; omega, some wr.heap.size, [], Lay.os_made _ _ _ _ _ (by simp [maxLen]) (by simp), ⟨by simp, fun b hb => by simp at hb; subst hb; exact ⟨h, _, _, new_alloc wr _⟩⟩⟩
theorem GrowC.nil (h : n ≤ wr.heap.size) : GrowC L E n wr (.slice none 0 0) [] := ⟨h, none, [], Lay.os_nil _ _ _, Fresh.nil _ _⟩
end
structure Up (n : Nat) (w w' : World) : Prop where
 os : w'.os = w.os
 tape : w'.tape = w.tape
 output : w'.output = w.output
 size : w.heap.size ≤ w'.heap.size
 low : ∀ k, k < n → w'.heap[k]? = w.heap[k]?
 loose : ∀ k, Loose w k → Loose w' k
theorem Up.chg {n : Nat} {S : List Nat} {w0 w w' : World} (h : Up n w w') (hc : Chg S w0 w) (h0 : w0.heap.size ≤ n) : Chg S w0 w' :=
 ⟨h.os.trans hc.os, h.tape.trans hc.tape, h.output.trans hc.output, Nat.le_trans hc.size h.size, fun k hk hS => by rw [h.low k (by omega), hc.block k hk hS], fun k hk => h.loose k (hc.loose k hk)⟩
theorem Up.of {n : Nat} {S : List Nat} {w w' : World} (hc : Chg S w w') (hS : ∀ x ∈ S, n ≤ x) (hn : n ≤ w.heap.size) : Up n w w' :=
 ⟨hc.os, hc.tape, hc.output, hc.size, fun k hk => hc.block k (by omega) (fun hm => by have := hS k hm; omega), hc.loose⟩
def GrowB {α : Type} (L : Lay α) (E : TypeId) (n B : Nat) (wr : World) (v : Value) (xs : List α) : Prop :=
 n ≤ B ∧ B ≤ wr.heap.size ∧ ∃ h fps, L.os E wr v xs h fps ∧ Fresh n wr (h.toList ++ fps) ∧ ∀ b ∈ h.toList ++ fps, b < B
section
variable {α : Type} {L : Lay α} {E : TypeId} {n B : Nat} {w wr w' : World} {v : Value} {xs : List α}
theorem GrowC.b (h : GrowC L E n wr v xs) : GrowB L E n wr.heap.size wr v xs := by
 obtain ⟨h0, hd, fps, h1, h2⟩ := h
 exact ⟨h0, Nat.le_refl _, hd, fps, h1, h2, h2.lts⟩
theorem GrowB.chg {S : List Nat} (h : GrowB L E n B wr v xs) (hc : Chg S wr w') (hS : ∀ x ∈ S, x < n) : GrowB L E n B w' v xs := by
 obtain ⟨h0, h9, hd, fps, h1, h2, h3⟩ := h
 refine ⟨h0, Nat.le_trans h9 hc.size, hd, fps, L.os_chg h1 hc (fun g hg hm => ?_) (fun b hb hm => ?_), h2.chg hc, h3⟩
 ·have := (h2.2 g (List.mem_append.2 (.inl (by simp [hg])))).1; have := hS g hm; omega
 ·have := (h2.2 b (List.mem_append.2 (.inr hb))).1; have := hS b hm; omega
theorem GrowB.ext (h : GrowB L E n B wr v xs) (hc : Chg [] wr w') : GrowB L E n B w' v xs := h.chg hc (by simp)
theorem GrowB.run {P : Program} {bytes : Nat} {ys : List α} {f : List Nat} (t ty : TypeId) (ht : P.underlying t = some (.slice E)) (K : Kind P E L.n bytes) (hg : GrowB L E n B w v xs)
  (ad : Addr) (c : Nat) (news : List Value) (hnews : ∀ j u, news[j]? = some u → w.cell? (ad.add j) = some u) (hall : L.all w news ys f) (ff : Fresh B w f)
  (h63 : xs.length + ys.length ≤ maxLen) (hbytes : (xs.length + ys.length) * bytes ≤ 140737488355328) :
  ∃ v' w', (Builtin.append_ #[t, t] ty #[v, .slice (some ad) ys.length c]).run P w = .ok v' w' ∧ GrowC L E n w' v' (xs ++ ys) ∧ Up n w w' := by
 obtain ⟨h0, h9, hd, fps, h1, h2, h3⟩ := hg
 have hlt := L.os_lt h1
 obtain ⟨v', w', h', hr, ho', hh', hc', hl⟩ := L.run_append (P := P) t ty ht K h1 ad c news hnews hall (fun g hg hf => by have a1 := h3 g (by simp [hg]); have a2 := (ff.2 g hf).1; omega) h63 hbytes
 have hle : Up n w w' := Up.of hc' (fun x hx => (h2.2 x (List.mem_append.2 (.inl hx))).1) (by omega)
 refine ⟨v', w', hr, ⟨Nat.le_trans (Nat.le_trans h0 h9) hle.size, h', fps ++ f, ho', ?_⟩, hle⟩
 have f2 := h2.chg hc'
 have g2 := ff.chg hc'
 have nd := List.nodup_append.1 h2.1
 have dj : ∀ a ∈ hd.toList ++ fps, ∀ b ∈ f, a ≠ b := fun a ha b hb e => by have a1 := h3 a ha; have a2 := (ff.2 b hb).1; omega
 have hlo := L.os_loose ho'
 rcases hh' with rfl | rfl
 ·rw [← List.append_assoc]
  exact ⟨List.nodup_append.2 ⟨h2.1, ff.1, dj⟩, fun b hb => by
   rcases List.mem_append.1 hb with hb | hb
   ·exact f2.2 b hb
   ·exact ⟨Nat.le_trans h0 (g2.2 b hb).1, (g2.2 b hb).2⟩⟩
 ·refine ⟨?_, fun b hb => ?_⟩
  ·rw [Option.toList_some, List.singleton_append, List.nodup_cons]
   refine ⟨fun hb => ?_, List.nodup_append.2 ⟨nd.2.1, ff.1, fun a ha b hb => dj a (List.mem_append.2 (.inr ha)) b hb⟩⟩
   rcases List.mem_append.1 hb with hb | hb
   ·have := h3 _ (List.mem_append.2 (.inr hb)); omega
   ·have := ff.lts _ hb; omega
  ·rw [Option.toList_some, List.singleton_append, List.mem_cons] at hb
   rcases hb with rfl | hb
   ·exact ⟨by omega, hlo _ rfl⟩
   ·rcases List.mem_append.1 hb with hb | hb
    ·exact f2.2 b (List.mem_append.2 (.inr hb))
    ·exact ⟨Nat.le_trans h0 (g2.2 b hb).1, (g2.2 b hb).2⟩
theorem GrowB.wp {P : Program} {bytes : Nat} {ys : List α} {f : List Nat} {o : Oper} {a : Act} {Kc : Act → World → Prop} {Q : Exit → Act → World → Prop} (s x : Operand) (t : TypeId)
  (hop : o.op = .call { callee := .builtin .append, args := #[s, x], argTypes := #[t, t] }) (ht : P.underlying t = some (.slice E)) (K : Kind P E L.n bytes)
  (hs : a.eval s = v) (hg : GrowB L E n B w v xs)
  (ad : Addr) (m c : Nat) (news : List Value) (hx : a.eval x = .slice (some ad) m c) (hm : m = ys.length) (hnews : ∀ j u, news[j]? = some u → w.cell? (ad.add j) = some u) (hall : L.all w news ys f) (ff : Fresh B w f)
  (h63 : xs.length + ys.length ≤ maxLen) (hbytes : (xs.length + ys.length) * bytes ≤ 140737488355328)
  (hk : ∀ v' w', GrowC L E n w' v' (xs ++ ys) → Up n w w' → Kc (a.put o.dst v') w') : o.wp P a w Kc Q := by
 subst hm
 obtain ⟨v', w', hr, h2, h3⟩ := hg.run (P := P) t o.type ht K ad c news hnews hall ff h63 hbytes
 unfold Oper.wp execOp
 simp only [hop, resolve, invoke, builtin, Sem.run_bind, Sem.run_pure, Result.andThen_ok, List.map_toArray, List.map_cons, List.map_nil, hs, hx, hr]
 exact hk v' w' h2 h3
theorem GrowB.wpList {P : Program} {bytes : Nat} {ys : List α} {f : List Nat} {ops : Array Oper} {rest : List Oper} {o : Oper} {a : Act} {Q : Exit → Act → World → Prop} (hgd : o.guard = none) (s x : Operand) (t : TypeId)
  (hop : o.op = .call { callee := .builtin .append, args := #[s, x], argTypes := #[t, t] }) (ht : P.underlying t = some (.slice E)) (K : Kind P E L.n bytes)
  (hs : a.eval s = v) (hg : GrowB L E n B w v xs)
  (ad : Addr) (m c : Nat) (news : List Value) (hx : a.eval x = .slice (some ad) m c) (hm : m = ys.length) (hnews : ∀ j u, news[j]? = some u → w.cell? (ad.add j) = some u) (hall : L.all w news ys f) (ff : Fresh B w f)
  (h63 : xs.length + ys.length ≤ maxLen) (hbytes : (xs.length + ys.length) * bytes ≤ 140737488355328)
  (hk : ∀ v' w', GrowC L E n w' v' (xs ++ ys) → Up n w w' → wpList P ops Q rest (a.put o.dst v') w') : wpList P ops Q (o :: rest) a w :=
 wpList_plain hgd fun _ hK => hg.wp s x t hop ht K hs ad m c news hx hm hnews hall ff h63 hbytes fun v' w' h1 h2 => hK _ _ (hk v' w' h1 h2)
theorem GrowB.step {P : Program} {bytes : Nat} {ys : List α} {f : List Nat} {ops : Array Oper} {o : Oper} {a : Act} {Kc : Act → World → Prop} {Q : Exit → Act → World → Prop} {R : Prop} (hgd : o.guard = none) (s x : Operand) (t : TypeId)
  (hop : o.op = .call { callee := .builtin .append, args := #[s, x], argTypes := #[t, t] }) (ht : P.underlying t = some (.slice E)) (K : Kind P E L.n bytes)
  (hs : a.eval s = v) (hg : GrowB L E n B w v xs)
  (ad : Addr) (m c : Nat) (news : List Value) (hx : a.eval x = .slice (some ad) m c) (hm : m = ys.length) (hnews : ∀ j u, news[j]? = some u → w.cell? (ad.add j) = some u) (hall : L.all w news ys f) (ff : Fresh B w f)
  (h63 : xs.length + ys.length ≤ maxLen) (hbytes : (xs.length + ys.length) * bytes ≤ 140737488355328)
  (hk : ∀ v' w', GrowC L E n w' v' (xs ++ ys) → Up n w w' → Kc (a.put o.dst v') w') :
  if Region.wanted o (yielded ops a.tmps) = true then Oper.wp P o a w Kc Q else R := by
 have hw : Region.wanted o (yielded ops a.tmps) = true := by simp [Region.wanted, hgd]
 rw [if_pos hw]
 exact hg.wp s x t hop ht K hs ad m c news hx hm hnews hall ff h63 hbytes hk
end
end Go.Proofs.YtphmpimgbmedbaaGreat
namespace Go.Proofs.YtphmpimgbmedbaaGreat
open Go.RowKit
open Go.Lib (hid)
def IdxOf {α : Type} (q : α → Bool) (xs : List α) (r : Int) : Prop := (r = -1 ∧ xs.any q = false) ∨ ∃ j : Nat, r = j ∧ (∃ x, xs[j]? = some x ∧ q x = true) ∧ ∀ (i : Nat) x, i < j → xs[i]? = some x → q x = false
theorem IdxOf.ge {α : Type} {q : α → Bool} {xs : List α} {r : Int} (h : IdxOf q xs r) : decide (0 ≤ r) = xs.any q := by
 rcases h with ⟨rfl, h⟩ | ⟨j, rfl, ⟨x, hx, hq⟩, _⟩
 ·rw [h]; rfl
 ·rw [List.any_eq_true.2 ⟨x, List.mem_of_getElem? hx, hq⟩]; exact decide_eq_true (Int.natCast_nonneg j)
def TestsBlock (k : Nat) (caps : Array Value) (q : Blk → Bool) (xs : List Blk) (w : World) : Prop :=
 ∀ (x : Blk) (a1 : Option Addr) (l1 c1 : Nat) (f : List Nat) (w1 : World), x ∈ xs → Chg [] w w1 → blkL.rep w1 [.int .i64 x.stamp, .slice a1 l1 c1] x f → Calls Tryz.prog k (#[.agg #[.int .i64 x.stamp, .slice a1 l1 c1]] ++ caps) w1 fun e w' => e = .returned (.bool (q x)) ∧ Chg [] w1 w'
set_option maxRecDepth 100000 in
set_option maxHeartbeats 1000000 in
theorem idxBlock_any (k : Nat) (caps : Array Value) (q : Blk → Bool) (a : Option Addr) (la ca : Nat) (xs : List Blk) (f : List Nat) (w : World) (ha : blkL.sl w a la ca xs f) (hcf : ∀ (args : Array Value) (w : World), (callFunc k args).run Tryz.prog w = .ok (.enter k args) w) (hq : TestsBlock k caps q xs w) :
  Calls Tryz.prog 256 #[.slice a la ca, .func (.func k) #[] caps] w fun e w' => ∃ r : Int, e = .returned (.int .i64 r) ∧ Hid (IdxOf q xs r) ∧ Chg [] w w' := by
 have hla := blkL.sl_max ha
 have HA := hid ha
 have HL := hid ha.1
 have HQ := hid hq
 clear ha hq
 go_enter Tryz.func256, Tryz.ntmps256
 go_wp2
 go_loopw [5, 8] (fun _ i wr => ∃ (j : Nat) (Wr : World), Wr = wr ∧ j ≤ la ∧ i = .int .i64 j ∧ Hid (∀ (i : Nat) x, i < j → xs[i]? = some x → q x = false) ∧ Chg [] w wr) (fun _ i _ => la - (intOf i).toNat)
 case atStart => exact ⟨0, _, rfl, by omega, rfl, fun j x hj => by omega, Chg.refl _ _⟩
 case round =>
  obtain ⟨j, wr, rfl, hj, rfl, HK, hc⟩ := hrel
  have HC := hid hc
  by_cases hlt : j < la
  ·obtain ⟨x, b, off, a1, l1, c1, fx, HX, rfl, hc0, hc1, HXS⟩ := block_at (blkL.sl_ext HA.out hc) hlt
   have HT := hid (HQ.out x a1 l1 c1 fx wr (List.mem_of_getElem? HX.out.1) HC.out HXS.out)
   clear hc
   cases hqx : q x
   ·rw [hqx] at HT
    have HK2 := hid (show ∀ (i : Nat) y, i < j + 1 → xs[i]? = some y → q y = false from fun i y hi hy => by
     by_cases e : i = j
     ·subst e; rw [Option.some.inj (hy.symm.trans HX.out.1)]; exact hqx
     ·exact HK.out i y (by omega) hy)
    clear hqx
    go_wp2_with fail
    refine HT.out.mono ?_
    rintro e w1 ⟨rfl, hc1⟩
    have HC1 := hid (HC.out.trans0 hc1)
    clear hc1
    go_wp2_with fail
    go_roundw
    case rel => exact ⟨j + 1, _, rfl, by omega, by go_num, HK2, HC1.out⟩
    case measure => simp [intOf]; omega
   ·rw [hqx] at HT
    have HR := hid (show IdxOf q xs (j : Int) from .inr ⟨j, rfl, ⟨x, HX.out.1, hqx⟩, HK.out⟩)
    clear hqx
    go_wp2_with fail
    refine HT.out.mono ?_
    rintro e w1 ⟨rfl, hc1⟩
    have HC1 := hid (HC.out.trans0 hc1)
    clear hc1
    go_wp2_with fail
    go_ret
    exact ⟨_, rfl, HR, HC1.out⟩
  ·obtain rfl : j = la := by omega
   have HR := hid (show IdxOf q xs (-1) from .inl ⟨rfl, by
    rw [List.any_eq_false]
    intro x hx h1
    obtain ⟨i, hi, rfl⟩ := List.getElem_of_mem hx
    have h2 := HK.out i _ (by have := HL.out; omega) (List.getElem?_eq_getElem hi)
    rw [h2] at h1; cases h1⟩)
   clear hc
   go_wp2
   go_ret
   exact ⟨_, rfl, HR, HC.out⟩
set_option maxHeartbeats 400000 in
theorem contBlock_any (k : Nat) (caps : Array Value) (q : Blk → Bool) (a : Option Addr) (la ca : Nat) (xs : List Blk) (f : List Nat) (w : World) (ha : blkL.sl w a la ca xs f) (hcf : ∀ (args : Array Value) (w : World), (callFunc k args).run Tryz.prog w = .ok (.enter k args) w) (hq : TestsBlock k caps q xs w) :
  Calls Tryz.prog 218 #[.slice a la ca, .func (.func k) #[] caps] w fun e w' => e = .returned (.bool (xs.any q)) ∧ Chg [] w w' := by
 have HI := hid (idxBlock_any k caps q a la ca xs f w ha hcf hq)
 clear ha hq hcf
 go_enter Tryz.func218, Tryz.ntmps218
 go_wp2_with fail
 refine HI.out.mono ?_
 rintro e w1 ⟨r, rfl, HR, hc1⟩
 have HC1 := hid hc1
 have HD := hid HR.out.ge
 clear hc1
 go_wp2_with fail
 go_ret
 refine ⟨?_, HC1.out⟩
 rw [← HD.out]
 rfl
def TestsTape (k : Nat) (caps : Array Value) (q : Tap → Bool) (xs : List Tap) (w : World) : Prop :=
 ∀ (x : Tap) (a1 : Option Addr) (l1 c1 : Nat) (f : List Nat) (w1 : World), x ∈ xs → Chg [] w w1 → tapL.rep w1 [.bool x.wiped, .slice a1 l1 c1] x f → Calls Tryz.prog k (#[.agg #[.bool x.wiped, .slice a1 l1 c1]] ++ caps) w1 fun e w' => e = .returned (.bool (q x)) ∧ Chg [] w1 w'
set_option maxRecDepth 100000 in
set_option maxHeartbeats 1000000 in
theorem idxTape_any (k : Nat) (caps : Array Value) (q : Tap → Bool) (a : Option Addr) (la ca : Nat) (xs : List Tap) (f : List Nat) (w : World) (ha : tapL.sl w a la ca xs f) (hcf : ∀ (args : Array Value) (w : World), (callFunc k args).run Tryz.prog w = .ok (.enter k args) w) (hq : TestsTape k caps q xs w) :
  Calls Tryz.prog 257 #[.slice a la ca, .func (.func k) #[] caps] w fun e w' => ∃ r : Int, e = .returned (.int .i64 r) ∧ Hid (IdxOf q xs r) ∧ Chg [] w w' := by
 have hla := tapL.sl_max ha
 have HA := hid ha
 have HL := hid ha.1
 have HQ := hid hq
 clear ha hq
 go_enter Tryz.func257, Tryz.ntmps257
 go_wp2
 go_loopw [5, 8] (fun _ i wr => ∃ (j : Nat) (Wr : World), Wr = wr ∧ j ≤ la ∧ i = .int .i64 j ∧ Hid (∀ (i : Nat) x, i < j → xs[i]? = some x → q x = false) ∧ Chg [] w wr) (fun _ i _ => la - (intOf i).toNat)
 case atStart => exact ⟨0, _, rfl, by omega, rfl, fun j x hj => by omega, Chg.refl _ _⟩
 case round =>
  obtain ⟨j, wr, rfl, hj, rfl, HK, hc⟩ := hrel
  have HC := hid hc
  by_cases hlt : j < la
  ·obtain ⟨x, b, off, a1, l1, c1, fx, HX, rfl, hc0, hc1, HXS⟩ := tape_at (tapL.sl_ext HA.out hc) hlt
   have HT := hid (HQ.out x a1 l1 c1 fx wr (List.mem_of_getElem? HX.out.1) HC.out HXS.out)
   clear hc
   cases hqx : q x
   ·rw [hqx] at HT
    have HK2 := hid (show ∀ (i : Nat) y, i < j + 1 → xs[i]? = some y → q y = false from fun i y hi hy => by
     by_cases e : i = j
     ·subst e; rw [Option.some.inj (hy.symm.trans HX.out.1)]; exact hqx
     ·exact HK.out i y (by omega) hy)
    clear hqx
    go_wp2_with fail
    refine HT.out.mono ?_
    rintro e w1 ⟨rfl, hc1⟩
    have HC1 := hid (HC.out.trans0 hc1)
    clear hc1
    go_wp2_with fail
    go_roundw
    case rel => exact ⟨j + 1, _, rfl, by omega, by go_num, HK2, HC1.out⟩
    case measure => simp [intOf]; omega
   ·rw [hqx] at HT
    have HR := hid (show IdxOf q xs (j : Int) from .inr ⟨j, rfl, ⟨x, HX.out.1, hqx⟩, HK.out⟩)
    clear hqx
    go_wp2_with fail
    refine HT.out.mono ?_
    rintro e w1 ⟨rfl, hc1⟩
    have HC1 := hid (HC.out.trans0 hc1)
    clear hc1
    go_wp2_with fail
    go_ret
    exact ⟨_, rfl, HR, HC1.out⟩
  ·obtain rfl : j = la := by omega
   have HR := hid (show IdxOf q xs (-1) from .inl ⟨rfl, by
    rw [List.any_eq_false]
    intro x hx h1
    obtain ⟨i, hi, rfl⟩ := List.getElem_of_mem hx
    have h2 := HK.out i _ (by have := HL.out; omega) (List.getElem?_eq_getElem hi)
    rw [h2] at h1; cases h1⟩)
   clear hc
   go_wp2
   go_ret
   exact ⟨_, rfl, HR, HC.out⟩
set_option maxHeartbeats 400000 in
theorem contTape_any (k : Nat) (caps : Array Value) (q : Tap → Bool) (a : Option Addr) (la ca : Nat) (xs : List Tap) (f : List Nat) (w : World) (ha : tapL.sl w a la ca xs f) (hcf : ∀ (args : Array Value) (w : World), (callFunc k args).run Tryz.prog w = .ok (.enter k args) w) (hq : TestsTape k caps q xs w) :
  Calls Tryz.prog 220 #[.slice a la ca, .func (.func k) #[] caps] w fun e w' => e = .returned (.bool (xs.any q)) ∧ Chg [] w w' := by
 have HI := hid (idxTape_any k caps q a la ca xs f w ha hcf hq)
 clear ha hq hcf
 go_enter Tryz.func220, Tryz.ntmps220
 go_wp2_with fail
 refine HI.out.mono ?_
 rintro e w1 ⟨r, rfl, HR, hc1⟩
 have HC1 := hid hc1
 have HD := hid HR.out.ge
 clear hc1
 go_wp2_with fail
 go_ret
 refine ⟨?_, HC1.out⟩
 rw [← HD.out]
 rfl
def TestsRec (k : Nat) (caps : Array Value) (q : Rec → Bool) (xs : List Rec) (w : World) : Prop :=
 ∀ (x : Rec) (a6 : Option Addr) (l6 c6 : Nat) (a7 : Option Addr) (l7 c7 : Nat) (a8 : Option Addr) (l8 c8 : Nat) (f : List Nat) (w1 : World), x ∈ xs → Chg [] w w1 → recL.rep w1 [.int .i64 x.kind, .int .i64 x.seq, .string x.name, .int .i64 x.length, .int .i64 x.group, .int .i64 x.row, .slice a6 l6 c6, .slice a7 l7 c7, .slice a8 l8 c8] x f → Calls Tryz.prog k (#[.agg #[.int .i64 x.kind, .int .i64 x.seq, .string x.name, .int .i64 x.length, .int .i64 x.group, .int .i64 x.row, .slice a6 l6 c6, .slice a7 l7 c7, .slice a8 l8 c8]] ++ caps) w1 fun e w' => e = .returned (.bool (q x)) ∧ Chg [] w1 w'
set_option maxRecDepth 100000 in
set_option maxHeartbeats 1000000 in
theorem idxRec_any (k : Nat) (caps : Array Value) (q : Rec → Bool) (a : Option Addr) (la ca : Nat) (xs : List Rec) (f : List Nat) (w : World) (ha : recL.sl w a la ca xs f) (hcf : ∀ (args : Array Value) (w : World), (callFunc k args).run Tryz.prog w = .ok (.enter k args) w) (hq : TestsRec k caps q xs w) :
  Calls Tryz.prog 201 #[.slice a la ca, .func (.func k) #[] caps] w fun e w' => ∃ r : Int, e = .returned (.int .i64 r) ∧ Hid (IdxOf q xs r) ∧ Chg [] w w' := by
 have hla := recL.sl_max ha
 have HA := hid ha
 have HL := hid ha.1
 have HQ := hid hq
 clear ha hq
 go_enter Tryz.func201, Tryz.ntmps201
 go_wp2
 go_loopw [5, 8] (fun _ i wr => ∃ (j : Nat) (Wr : World), Wr = wr ∧ j ≤ la ∧ i = .int .i64 j ∧ Hid (∀ (i : Nat) x, i < j → xs[i]? = some x → q x = false) ∧ Chg [] w wr) (fun _ i _ => la - (intOf i).toNat)
 case atStart => exact ⟨0, _, rfl, by omega, rfl, fun j x hj => by omega, Chg.refl _ _⟩
 case round =>
  obtain ⟨j, wr, rfl, hj, rfl, HK, hc⟩ := hrel
  have HC := hid hc
  by_cases hlt : j < la
  ·obtain ⟨x, b, off, a6, l6, c6, a7, l7, c7, a8, l8, c8, fx, HX, rfl, hc0, hc1, hc2, hc3, hc4, hc5, hc6, hc7, hc8, HXS⟩ := rec_at (recL.sl_ext HA.out hc) hlt
   have HT := hid (HQ.out x a6 l6 c6 a7 l7 c7 a8 l8 c8 fx wr (List.mem_of_getElem? HX.out.1) HC.out HXS.out)
   clear hc
   cases hqx : q x
   ·rw [hqx] at HT
    have HK2 := hid (show ∀ (i : Nat) y, i < j + 1 → xs[i]? = some y → q y = false from fun i y hi hy => by
     by_cases e : i = j
     ·subst e; rw [Option.some.inj (hy.symm.trans HX.out.1)]; exact hqx
     ·exact HK.out i y (by omega) hy)
    clear hqx
    go_wp2_with fail
    refine HT.out.mono ?_
    rintro e w1 ⟨rfl, hc1⟩
    have HC1 := hid (HC.out.trans0 hc1)
    clear hc1
    go_wp2_with fail
    go_roundw
    case rel => exact ⟨j + 1, _, rfl, by omega, by go_num, HK2, HC1.out⟩
    case measure => simp [intOf]; omega
   ·rw [hqx] at HT
    have HR := hid (show IdxOf q xs (j : Int) from .inr ⟨j, rfl, ⟨x, HX.out.1, hqx⟩, HK.out⟩)
    clear hqx
    go_wp2_with fail
    refine HT.out.mono ?_
    rintro e w1 ⟨rfl, hc1⟩
    have HC1 := hid (HC.out.trans0 hc1)
    clear hc1
    go_wp2_with fail
    go_ret
    exact ⟨_, rfl, HR, HC1.out⟩
  ·obtain rfl : j = la := by omega
   have HR := hid (show IdxOf q xs (-1) from .inl ⟨rfl, by
    rw [List.any_eq_false]
    intro x hx h1
    obtain ⟨i, hi, rfl⟩ := List.getElem_of_mem hx
    have h2 := HK.out i _ (by have := HL.out; omega) (List.getElem?_eq_getElem hi)
    rw [h2] at h1; cases h1⟩)
   clear hc
   go_wp2
   go_ret
   exact ⟨_, rfl, HR, HC.out⟩
end Go.Proofs.YtphmpimgbmedbaaGreat
