import Derived.Test.YtphmpimgbmedbaaGreatRows
import Derived.Test.YtphmpimgbmedbaaGreatMul
import Derived.Test.YtphmpimgbmedbaaGreatName
import Derived.Test.YtphmpimgbmedbaaGreatShapeM
import Derived.Deep.RegionLaw
/- The walks of the functions that reckon a number: quotients, the bytes of the codes, FactorOf, PartsFor, HomeOf. -/
namespace Go.Proofs.YtphmpimgbmedbaaGreat
open Go.RowKit

def divRes (a b : UInt8) : Int × Int := if b = 0 then (6, 0) else (0, ((Fld.mul a (Fld.inv b)).toNat : Int))
theorem wrap64_u8 (a : UInt8) : wrap64 (a.toNat : Int) = (a.toNat : Int) := by have := UInt8.toNat_lt a; exact IntWalk.wrap64_in _ ⟨by omega, by omega⟩
theorem powZ_254 (a : UInt8) : Fld.powZ a 254 = Fld.inv a := rfl

/-- the byte of the codes in a row and a column -/
def cau (j i : Int) : UInt8 := Fld.inv (UInt8.ofNat (128 + j).toNat ^^^ UInt8.ofNat i.toNat)

theorem byte_of {n : Int} (h : 0 ≤ n) (h2 : n < 256) : n = ((UInt8.ofNat n.toNat).toNat : Int) := by rw [UInt8.toNat_ofNat']; omega
theorem cau_bits {j i : Int} (hj : 0 ≤ j) (hj2 : j < 128) (hi : 0 ≤ i) (hi2 : i < 256) : bits BinOp.xor IntKind.u8 (128 + j) i = ((UInt8.ofNat (128 + j).toNat ^^^ UInt8.ofNat i.toNat).toNat : Int) := by
  conv => lhs; rw [byte_of (n := 128 + j) (by omega) (by omega), byte_of hi hi2]
  exact bits_xor _ _


/-! ### FactorOf -/
def facRes (g c i j : Int) : Int × Int := if (inB g 1 4 && inB c 0 2) && inB i 0 (g - 1) && inB j 0 (c - 1) then (0, ((cau (8 + j) i).toNat : Int)) else (3, 0)


/-! ### PartsFor -/
def partsV (d n : Int) : Int × Int := if n < 1 then (0, 6) else if 12 * d < n then (0, 2) else ((n + 4 * d - 1) / (4 * d), 0)
def Shp.parts (s : Shp) (n : Int) : Int × Int := if s.ok then ((partsV s.data n).2, (partsV s.data n).1) else (3, 0)


set_option maxHeartbeats 1000000 in
theorem parts_any (s : Shp) (n : Int) (hd : 1 ≤ s.data) (hd2 : s.data ≤ 3) (hn : i64ok n) (w : World) :
    Calls Tryz.prog 283 #[.agg s.cells, .int .i64 n] w fun e w' => e = .returned (.tuple #[.int .i64 (partsV s.data n).1, .int .i64 (partsV s.data n).2]) ∧ Chg [] w w' := by
  obtain ⟨hn1, hn2⟩ := hn
  obtain ⟨g, c, d, p, r', q, b, u, t⟩ := s
  simp only at hd hd2 ⊢
  have h : d = 1 ∨ d = 2 ∨ d = 3 := by omega
  clear hd hd2
  rcases h with rfl | rfl | rfl
  · simp only [Shp.cells]
    by_cases h1 : n < 1
    · have HR := Lib.hid (show partsV 1 n = (0, 6) by rw [partsV, if_pos h1])
      generalize partsV 1 n = r at HR ⊢
      go_enter Tryz.func283, Tryz.ntmps283
      go_wp2
      go_ret2
      exact ⟨by rw [HR.out]; rfl, by repeat (first | exact Chg.refl _ _ | refine Chg.alloc ?_ _ | refine Chg.drewN ?_ _ | refine Chg.drew ?_)⟩
    · by_cases h2 : 12 < n
      · have HR := Lib.hid (show partsV 1 n = (0, 2) by rw [partsV, if_neg h1, if_pos (by omega)])
        generalize partsV 1 n = r at HR ⊢
        go_enter Tryz.func283, Tryz.ntmps283
        go_wp2
        go_ret2
        exact ⟨by rw [HR.out]; rfl, by repeat (first | exact Chg.refl _ _ | refine Chg.alloc ?_ _ | refine Chg.drewN ?_ _ | refine Chg.drew ?_)⟩
      · have HR := Lib.hid (show partsV 1 n = ((n - 1) / 4 + 1, 0) by rw [partsV, if_neg h1, if_neg (by omega)]; exact Prod.ext (by show _ / _ = _; omega) rfl)
        generalize partsV 1 n = r at HR ⊢
        go_enter Tryz.func283, Tryz.ntmps283
        go_wp2
        go_ret2
        exact ⟨by rw [HR.out]; rfl, by repeat (first | exact Chg.refl _ _ | refine Chg.alloc ?_ _ | refine Chg.drewN ?_ _ | refine Chg.drew ?_)⟩
  · simp only [Shp.cells]
    by_cases h1 : n < 1
    · have HR := Lib.hid (show partsV 2 n = (0, 6) by rw [partsV, if_pos h1])
      generalize partsV 2 n = r at HR ⊢
      go_enter Tryz.func283, Tryz.ntmps283
      go_wp2
      go_ret2
      exact ⟨by rw [HR.out]; rfl, by repeat (first | exact Chg.refl _ _ | refine Chg.alloc ?_ _ | refine Chg.drewN ?_ _ | refine Chg.drew ?_)⟩
    · by_cases h2 : 24 < n
      · have HR := Lib.hid (show partsV 2 n = (0, 2) by rw [partsV, if_neg h1, if_pos (by omega)])
        generalize partsV 2 n = r at HR ⊢
        go_enter Tryz.func283, Tryz.ntmps283
        go_wp2
        go_ret2
        exact ⟨by rw [HR.out]; rfl, by repeat (first | exact Chg.refl _ _ | refine Chg.alloc ?_ _ | refine Chg.drewN ?_ _ | refine Chg.drew ?_)⟩
      · have HR := Lib.hid (show partsV 2 n = ((n - 1) / 8 + 1, 0) by rw [partsV, if_neg h1, if_neg (by omega)]; exact Prod.ext (by show _ / _ = _; omega) rfl)
        generalize partsV 2 n = r at HR ⊢
        go_enter Tryz.func283, Tryz.ntmps283
        go_wp2
        go_ret2
        exact ⟨by rw [HR.out]; rfl, by repeat (first | exact Chg.refl _ _ | refine Chg.alloc ?_ _ | refine Chg.drewN ?_ _ | refine Chg.drew ?_)⟩
  · simp only [Shp.cells]
    by_cases h1 : n < 1
    · have HR := Lib.hid (show partsV 3 n = (0, 6) by rw [partsV, if_pos h1])
      generalize partsV 3 n = r at HR ⊢
      go_enter Tryz.func283, Tryz.ntmps283
      go_wp2
      go_ret2
      exact ⟨by rw [HR.out]; rfl, by repeat (first | exact Chg.refl _ _ | refine Chg.alloc ?_ _ | refine Chg.drewN ?_ _ | refine Chg.drew ?_)⟩
    · by_cases h2 : 36 < n
      · have HR := Lib.hid (show partsV 3 n = (0, 2) by rw [partsV, if_neg h1, if_pos (by omega)])
        generalize partsV 3 n = r at HR ⊢
        go_enter Tryz.func283, Tryz.ntmps283
        go_wp2
        go_ret2
        exact ⟨by rw [HR.out]; rfl, by repeat (first | exact Chg.refl _ _ | refine Chg.alloc ?_ _ | refine Chg.drewN ?_ _ | refine Chg.drew ?_)⟩
      · have HR := Lib.hid (show partsV 3 n = ((n - 1) / 12 + 1, 0) by rw [partsV, if_neg h1, if_neg (by omega)]; exact Prod.ext (by show _ / _ = _; omega) rfl)
        generalize partsV 3 n = r at HR ⊢
        go_enter Tryz.func283, Tryz.ntmps283
        go_wp2
        go_ret2
        exact ⟨by rw [HR.out]; rfl, by repeat (first | exact Chg.refl _ _ | refine Chg.alloc ?_ _ | refine Chg.drewN ?_ _ | refine Chg.drew ?_)⟩


set_option maxHeartbeats 1000000 in
theorem l4Long_any (s : Shp) (n : Int) (hd : 1 ≤ s.data) (hd2 : s.data ≤ 3) (hn : i64ok n) (w : World) :
    Calls Tryz.prog 248 #[.agg s.cells, .int .i64 n] w fun e w' => e = .returned (.int .i64 (partsV s.data n).2) ∧ Chg [] w w' := by
  obtain ⟨hn1, hn2⟩ := hn
  obtain ⟨g, c, d, p, r', q, b, u, t⟩ := s
  simp only at hd hd2 ⊢
  have h : d = 1 ∨ d = 2 ∨ d = 3 := by omega
  clear hd hd2
  rcases h with rfl | rfl | rfl
  · simp only [Shp.cells]
    by_cases h1 : n < 1
    · have HR := Lib.hid (show partsV 1 n = (0, 6) by rw [partsV, if_pos h1])
      generalize partsV 1 n = r at HR ⊢
      go_enter Tryz.func248, Tryz.ntmps248
      go_wp2
      go_ret
      exact ⟨by rw [HR.out]; rfl, by repeat (first | exact Chg.refl _ _ | refine Chg.alloc ?_ _ | refine Chg.drewN ?_ _ | refine Chg.drew ?_)⟩
    · by_cases h2 : 12 < n
      · have HR := Lib.hid (show partsV 1 n = (0, 2) by rw [partsV, if_neg h1, if_pos (by omega)])
        generalize partsV 1 n = r at HR ⊢
        go_enter Tryz.func248, Tryz.ntmps248
        go_wp2
        go_ret
        exact ⟨by rw [HR.out]; rfl, by repeat (first | exact Chg.refl _ _ | refine Chg.alloc ?_ _ | refine Chg.drewN ?_ _ | refine Chg.drew ?_)⟩
      · have HR := Lib.hid (show partsV 1 n = ((n - 1) / 4 + 1, 0) by rw [partsV, if_neg h1, if_neg (by omega)]; exact Prod.ext (by show _ / _ = _; omega) rfl)
        generalize partsV 1 n = r at HR ⊢
        go_enter Tryz.func248, Tryz.ntmps248
        go_wp2
        go_ret
        exact ⟨by rw [HR.out]; rfl, by repeat (first | exact Chg.refl _ _ | refine Chg.alloc ?_ _ | refine Chg.drewN ?_ _ | refine Chg.drew ?_)⟩
  · simp only [Shp.cells]
    by_cases h1 : n < 1
    · have HR := Lib.hid (show partsV 2 n = (0, 6) by rw [partsV, if_pos h1])
      generalize partsV 2 n = r at HR ⊢
      go_enter Tryz.func248, Tryz.ntmps248
      go_wp2
      go_ret
      exact ⟨by rw [HR.out]; rfl, by repeat (first | exact Chg.refl _ _ | refine Chg.alloc ?_ _ | refine Chg.drewN ?_ _ | refine Chg.drew ?_)⟩
    · by_cases h2 : 24 < n
      · have HR := Lib.hid (show partsV 2 n = (0, 2) by rw [partsV, if_neg h1, if_pos (by omega)])
        generalize partsV 2 n = r at HR ⊢
        go_enter Tryz.func248, Tryz.ntmps248
        go_wp2
        go_ret
        exact ⟨by rw [HR.out]; rfl, by repeat (first | exact Chg.refl _ _ | refine Chg.alloc ?_ _ | refine Chg.drewN ?_ _ | refine Chg.drew ?_)⟩
      · have HR := Lib.hid (show partsV 2 n = ((n - 1) / 8 + 1, 0) by rw [partsV, if_neg h1, if_neg (by omega)]; exact Prod.ext (by show _ / _ = _; omega) rfl)
        generalize partsV 2 n = r at HR ⊢
        go_enter Tryz.func248, Tryz.ntmps248
        go_wp2
        go_ret
        exact ⟨by rw [HR.out]; rfl, by repeat (first | exact Chg.refl _ _ | refine Chg.alloc ?_ _ | refine Chg.drewN ?_ _ | refine Chg.drew ?_)⟩
  · simp only [Shp.cells]
    by_cases h1 : n < 1
    · have HR := Lib.hid (show partsV 3 n = (0, 6) by rw [partsV, if_pos h1])
      generalize partsV 3 n = r at HR ⊢
      go_enter Tryz.func248, Tryz.ntmps248
      go_wp2
      go_ret
      exact ⟨by rw [HR.out]; rfl, by repeat (first | exact Chg.refl _ _ | refine Chg.alloc ?_ _ | refine Chg.drewN ?_ _ | refine Chg.drew ?_)⟩
    · by_cases h2 : 36 < n
      · have HR := Lib.hid (show partsV 3 n = (0, 2) by rw [partsV, if_neg h1, if_pos (by omega)])
        generalize partsV 3 n = r at HR ⊢
        go_enter Tryz.func248, Tryz.ntmps248
        go_wp2
        go_ret
        exact ⟨by rw [HR.out]; rfl, by repeat (first | exact Chg.refl _ _ | refine Chg.alloc ?_ _ | refine Chg.drewN ?_ _ | refine Chg.drew ?_)⟩
      · have HR := Lib.hid (show partsV 3 n = ((n - 1) / 12 + 1, 0) by rw [partsV, if_neg h1, if_neg (by omega)]; exact Prod.ext (by show _ / _ = _; omega) rfl)
        generalize partsV 3 n = r at HR ⊢
        go_enter Tryz.func248, Tryz.ntmps248
        go_wp2
        go_ret
        exact ⟨by rw [HR.out]; rfl, by repeat (first | exact Chg.refl _ _ | refine Chg.alloc ?_ _ | refine Chg.drewN ?_ _ | refine Chg.drew ?_)⟩


set_option maxHeartbeats 400000 in
theorem l4Wide_any (s : Shp) (hd : 1 ≤ s.data) (hd2 : s.data ≤ 3) (w : World) :
    Calls Tryz.prog 194 #[.agg s.cells] w fun e w' => e = .returned (.int .i64 (s.data * 4)) ∧ w.alloc (.cells s.cells 30) = w' := by
  obtain ⟨g, c, d, p, r', q, b, u, t⟩ := s
  simp only [Shp.cells] at *
  go_enter Tryz.func194, Tryz.ntmps194
  go_wp2
  go_ret
  exact ⟨rfl, rfl⟩


theorem parts_wrap (n k : Int) (hn : 0 ≤ n) (hn2 : n ≤ 1000000000) (hk : 1 ≤ k) (hk2 : k ≤ 12) : IntKind.i64.wrap ((IntKind.i64.wrap (IntKind.i64.wrap (n + k) - 1)).tdiv k) = (n + k - 1) / k := by
  rw [IntWalk.i64_in (n + k) ⟨by omega, by omega⟩, IntWalk.i64_in (n + k - 1) ⟨by omega, by omega⟩, Int.tdiv_eq_ediv_of_nonneg (by omega)]
  have h1 : 0 ≤ (n + k - 1) / k := Int.ediv_nonneg (by omega) (by omega)
  have h2 : (n + k - 1) / k ≤ n + k - 1 := Int.ediv_le_self _ (by omega)
  exact IntWalk.i64_in _ ⟨by omega, by omega⟩
set_option maxRecDepth 100000 in
set_option maxHeartbeats 1000000 in
theorem l4Parts_any (s : Shp) (n : Int) (hd : 1 ≤ s.data) (hd2 : s.data ≤ 3) (hn : 0 ≤ n) (hn2 : n ≤ 1000000000) (w : World) :
    Calls Tryz.prog 249 #[.agg s.cells, .int .i64 n] w fun e w' => e = .returned (.int .i64 ((n + 4 * s.data - 1) / (4 * s.data))) ∧ Chg [] w w' := by
  have HW := Lib.hid (l4Wide_any s hd hd2)
  obtain ⟨g, c, d, p, r', q, b, u, t⟩ := s
  simp only [Shp.cells] at *
  have h : d = 1 ∨ d = 2 ∨ d = 3 := by omega
  clear hd hd2
  rcases h with rfl | rfl | rfl
  all_goals
    go_enter Tryz.func249, Tryz.ntmps249
    go_wp2_with fail
    go_region_law (go_simp; go_at_call 194; refine (HW.out _).mono ?_; rintro e w' ⟨rfl, rfl⟩)
    all_goals (go_wp2; go_ret)
    all_goals refine ⟨ret_int ?_, by repeat (first | exact Chg.refl _ _ | refine Chg.alloc ?_ _ | refine Chg.drewN ?_ _ | refine Chg.drew ?_)⟩
    all_goals (first | rw [parts_wrap n 4 (by omega) (by omega) (by omega) (by omega)] | rw [parts_wrap n 8 (by omega) (by omega) (by omega) (by omega)] | rw [parts_wrap n 12 (by omega) (by omega) (by omega) (by omega)])
    all_goals rfl


theorem partsV_cases (d n : Int) (h : 1 ≤ d) (h2 : d ≤ 3) : partsV d n = (0, 6) ∨ partsV d n = (0, 2) ∨ (partsV d n = ((n + 4 * d - 1) / (4 * d), 0) ∧ 1 ≤ n ∧ n ≤ 36) := by
  unfold partsV; split
  · exact .inl rfl
  · split
    · exact .inr (.inl rfl)
    · exact .inr (.inr ⟨rfl, by omega, by omega⟩)
theorem new_alloc2 (w : World) (x y : Obj) : ((w.alloc x).alloc y).heap[w.heap.size + 1]? = some y := by
  have h := new_alloc (w.alloc x) y
  simpa using h
theorem div_mul4 (d n : Int) : (n + 4 * d - 1) / (4 * d) = (n + 4 * d - 1) / (d * 4) := by rw [Int.mul_comm d 4]


/-! ### HomeOf -/
/-- the sum of the first bytes of a text -/
def upTo (s : ByteArray) : Nat → Int
  | 0 => 0
  | k + 1 => upTo s k + (if h : k < s.size then (s[k].toNat : Int) else 0)
theorem upTo_next {s : ByteArray} {k : Nat} (h : k < s.size) : upTo s (k + 1) = upTo s k + (s[k].toNat : Int) := by rw [upTo, dif_pos h]
theorem upTo_bound (s : ByteArray) (k : Nat) : 0 ≤ upTo s k ∧ upTo s k ≤ 255 * k := by
  induction k with
  | zero => exact ⟨Int.le_refl _, Int.le_refl _⟩
  | succ k ih =>
    rw [upTo]
    split
    · rename_i h
      have := UInt8.toNat_lt s[k]
      omega
    · omega
noncomputable def Shp.home (s : Shp) (n : ByteArray) : Int × Int := if s.ok then (if nameFault n = 0 then (0, upTo n n.size % s.groups) else (5, 0)) else (3, 0)


set_option maxHeartbeats 1000000 in
theorem l4Home_any (s : Shp) (n : ByteArray) (hg : 1 ≤ s.groups) (hg2 : s.groups ≤ 4) (hn : n.size ≤ 8) (w : World) :
    Calls Tryz.prog 186 #[.agg s.cells, .string n] w fun e w' => e = .returned (.int .i64 (upTo n n.size % s.groups)) ∧ Chg [] w w' := by
  obtain ⟨g, c, d, p, r, q, b, u, t⟩ := s
  simp only [Shp.cells] at hg hg2 ⊢
  have hg0 : (g == 0) = false := by rw [beq_eq_false_iff_ne]; omega
  go_enter Tryz.func186, Tryz.ntmps186
  go_wp2
  go_loop [5, 6] (fun a i => ∃ k : Nat, k ≤ n.size ∧ a = .int .i64 (upTo n k) ∧ i = .int .i64 k) (fun a i => n.size - (intOf i).toNat)
  case atStart => exact ⟨0, by omega, rfl, rfl⟩
  case round =>
    obtain ⟨k, hk, rfl, rfl⟩ := hrel
    by_cases hlt : k < n.size
    · have HS := Lib.hid (upTo_next hlt)
      have hb1 := (upTo_bound n k).1
      have hb2 : upTo n k ≤ 2040 := by have := (upTo_bound n k).2; omega
      have hb3 : (n[k].toNat : Int) < 256 := by have := UInt8.toNat_lt n[k]; omega
      generalize upTo n k = z at HS hb1 hb2 ⊢
      go_wp2
      go_round
      case rel => exact ⟨k + 1, by omega, by rw [HS.out], by go_num⟩
      case measure => simp [intOf]; omega
    · have hk2 : k = n.size := by omega
      subst hk2
      have hb1 := (upTo_bound n n.size).1
      have hb2 : upTo n n.size ≤ 2040 := by have := (upTo_bound n n.size).2; omega
      generalize hE : upTo n n.size = z at hb1 hb2 ⊢
      have HE := Lib.hid hE
      clear hE
      have HT : RowKit.Hid (z.tmod g = z % g) := Int.tmod_eq_emod_of_nonneg hb1
      have hz1 : 0 ≤ z % g := Int.emod_nonneg _ (by omega)
      have hz2 : z % g < g := Int.emod_lt_of_pos _ (by omega)
      go_wp2
      go_ret
      exact ⟨ret_int (by rw [HE.out]; all_goals first | (rw [HT.out]; done) | (rw [HT.out]; exact IntWalk.i64_in _ ⟨by omega, by omega⟩) | (rw [HT.out]; exact IntWalk.wrap64_in _ ⟨by omega, by omega⟩) | rfl), by repeat (first | exact Chg.refl _ _ | refine Chg.alloc ?_ _ | refine Chg.drewN ?_ _ | refine Chg.drew ?_)⟩


set_option maxHeartbeats 1000000 in
theorem home_any (s : Shp) (n : ByteArray) (hg : 1 ≤ s.groups) (hg2 : s.groups ≤ 4) (hn : n.size ≤ 8) (w : World) :
    Calls Tryz.prog 126 #[.agg s.cells, .string n] w fun e w' => e = .returned (.int .i64 (upTo n n.size % s.groups)) ∧ Chg [] w w' := by
  obtain ⟨g, c, d, p, r, q, b, u, t⟩ := s
  simp only [Shp.cells] at hg hg2 ⊢
  have hg0 : (g == 0) = false := by rw [beq_eq_false_iff_ne]; omega
  go_enter Tryz.func126, Tryz.ntmps126
  go_wp2
  go_loop [5, 6, 9] (fun a _ i => ∃ k : Nat, k ≤ n.size ∧ a = .int .i64 (upTo n k) ∧ i = .int .i64 k) (fun a _ i => n.size - (intOf i).toNat)
  case atStart => exact ⟨0, by omega, rfl, rfl⟩
  case round =>
    obtain ⟨k, hk, rfl, rfl⟩ := hrel
    by_cases hlt : k < n.size
    · have HS := Lib.hid (upTo_next hlt)
      have hb1 := (upTo_bound n k).1
      have hb2 : upTo n k ≤ 2040 := by have := (upTo_bound n k).2; omega
      have hb3 : (n[k].toNat : Int) < 256 := by have := UInt8.toNat_lt n[k]; omega
      generalize upTo n k = z at HS hb1 hb2 ⊢
      go_wp2
      go_round
      case rel => exact ⟨k + 1, by omega, by rw [HS.out], by go_num⟩
      case measure => simp [intOf]; omega
    · have hk2 : k = n.size := by omega
      subst hk2
      have hb1 := (upTo_bound n n.size).1
      have hb2 : upTo n n.size ≤ 2040 := by have := (upTo_bound n n.size).2; omega
      generalize hE : upTo n n.size = z at hb1 hb2 ⊢
      have HE := Lib.hid hE
      clear hE
      have HT : RowKit.Hid (z.tmod g = z % g) := Int.tmod_eq_emod_of_nonneg hb1
      have hz1 : 0 ≤ z % g := Int.emod_nonneg _ (by omega)
      have hz2 : z % g < g := Int.emod_lt_of_pos _ (by omega)
      go_wp2
      go_ret
      exact ⟨ret_int (by rw [HE.out]; all_goals first | (rw [HT.out]; done) | (rw [HT.out]; exact IntWalk.i64_in _ ⟨by omega, by omega⟩) | (rw [HT.out]; exact IntWalk.wrap64_in _ ⟨by omega, by omega⟩) | rfl), by repeat (first | exact Chg.refl _ _ | refine Chg.alloc ?_ _ | refine Chg.drewN ?_ _ | refine Chg.drew ?_)⟩


set_option maxHeartbeats 1000000 in
theorem impl_homeOf (s : Shp) (n : ByteArray) (hn : n.size ≤ maxLen) (w : World) :
    Calls Tryz.prog 53 #[.agg s.cells, .string n] w fun e w' => e = .returned (.agg #[.int .i64 (s.home n).1, .int .i64 (s.home n).2]) ∧ Chg [] w w' := by
  have HF := Lib.hid (@impl_shape s)
  have HN := Lib.hid (@impl_name n hn)
  by_cases h : s.ok
  · have HZ := Lib.hid (show s.fault = 0 by rw [Shp.fault, if_pos h])
    rcases name_or n with h2 | h2
    · have HR := Lib.hid (show s.home n = (0, upTo n n.size % s.groups) by rw [Shp.home, if_pos h, if_pos h2])
      have HP := Lib.hid (@home_any s n h.1.1 h.1.2 (nameOk_of h2).1.2)
      generalize upTo n n.size % s.groups = z at HR HP
      generalize s.home n = r at HR ⊢
      rw [h2] at HN
      clear h hn h2
      obtain ⟨g, c, d, p, r, q, b, u, t⟩ := s
      simp only [Shp.cells] at HF HP ⊢
      go_enter Tryz.func53, Tryz.ntmps53
      go_wp2_with (first | (go_at_call 124; refine (HF.out _).mono ?_; rintro e w' ⟨rfl, rfl⟩; rw [HZ.out]) | (go_at_call 125; refine (HN.out _).mono ?_; rintro e w' ⟨rfl, rfl⟩))
      refine (HP.out _).mono ?_; rintro e w1 ⟨rfl, hc⟩
      have hB2 := hc.keep0 (keep_alloc (keep_alloc (new_alloc _ _) _) _); have c2 := cellsOf hB2; have f2 := freeOf hB2; have l2 := ltOf hB2; have H2 := Lib.hid hB2; clear hB2
      have hB4 := hc.keep0 (keep_alloc (new_alloc2 _ _ _) _); have c4 := cellsOf hB4; have f4 := freeOf hB4; have l4 := ltOf hB4; have H4 := Lib.hid hB4; clear hB4
      have HC := Lib.hid ((((Chg.refl [] w).alloc _).alloc _).alloc _ |>.trans0 hc); clear hc
      go_wp2_with fail
      refine bodyPost_ret (v := .agg #[.int .i64 0, .int .i64 z]) (by simp [results, Tryz.results53, go_sem, c4]) rfl ?_
      exact ⟨by rw [HR.out], by repeat (first | exact HC.out | refine Chg.setCell ?_ _ _ (.inr (by simp)) | refine Chg.alloc ?_ _)⟩

    · have HR := Lib.hid (show s.home n = (5, 0) by rw [Shp.home, if_pos h, if_neg (by omega)])
      generalize s.home n = r at HR ⊢
      rw [h2] at HN
      clear h hn h2
      obtain ⟨g, c, d, p, r, q, b, u, t⟩ := s
      simp only [Shp.cells] at HF ⊢
      go_enter Tryz.func53, Tryz.ntmps53
      go_wp2_with (first | (go_at_call 124; refine (HF.out _).mono ?_; rintro e w' ⟨rfl, rfl⟩; rw [HZ.out]) | (go_at_call 125; refine (HN.out _).mono ?_; rintro e w' ⟨rfl, rfl⟩))
      go_returns
      exact ⟨by rw [HR.out], by repeat (first | exact Chg.refl _ _ | refine Chg.alloc ?_ _)⟩
  · have HR := Lib.hid (show s.home n = (3, 0) by rw [Shp.home, if_neg h])
    have HZ := Lib.hid (show s.fault = 3 by rw [Shp.fault, if_neg h])
    generalize s.home n = r at HR ⊢
    clear h
    obtain ⟨g, c, d, p, r, q, b, u, t⟩ := s
    simp only [Shp.cells] at HF ⊢
    go_enter Tryz.func53, Tryz.ntmps53
    go_wp2_with (go_at_call 124; refine (HF.out _).mono ?_; rintro e w' ⟨rfl, rfl⟩; rw [HZ.out])
    go_returns
    exact ⟨by rw [HR.out], by repeat (first | exact Chg.refl _ _ | refine Chg.alloc ?_ _)⟩


end Go.Proofs.YtphmpimgbmedbaaGreat
