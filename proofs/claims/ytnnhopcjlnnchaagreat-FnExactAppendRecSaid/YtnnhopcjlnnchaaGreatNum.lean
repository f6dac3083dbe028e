
/- The walks of the functions that reckon a number: quotients, the bytes of the codes, FactorOf, PartsFor, HomeOf. -/
import Derived.Test.YtnnhopcjlnnchaaGreatRows
import Derived.Test.YtnnhopcjlnnchaaGreatMul
import Derived.Test.YtnnhopcjlnnchaaGreatName
import Derived.Test.YtnnhopcjlnnchaaGreatShape
import Derived.Deep.RegionLaw
namespace Go.Proofs.YtnnhopcjlnnchaaGreat
open Go.RowKit

def divRes (a b : UInt8) : Int × Int := if b = 0 then (6, 0) else (0, ((Fld.mul a (Fld.inv b)).toNat : Int))
theorem wrap64_u8 (a : UInt8) : wrap64 (a.toNat : Int) = (a.toNat : Int) := by have := UInt8.toNat_lt a; exact IntWalk.wrap64_in _ ⟨by omega, by omega⟩
theorem powZ_254 (a : UInt8) : Fld.powZ a 254 = Fld.inv a := rfl

/-- the byte of the codes in a row and a column -/
def cau (j i : Int) : UInt8 := Fld.inv (UInt8.ofNat (128 + j).toNat ^^^ UInt8.ofNat i.toNat)

theorem byte_of {n : Int} (h : 0 ≤ n) (h2 : n < 256) : n = ((UInt8.ofNat n.toNat).toNat : Int) := by rw [UInt8.toNat_ofNat']; omega
theorem cau_bits {j i : Int} (hj : 0 ≤ j) (hj2 : j < 128) (hi : 0 ≤ i) (hi2 : i < 256) : bits BinOp.xor IntKind.u8 (128 + j) i = ((UInt8.ofNat (128 + j).toNat ^^^ UInt8.ofNat i.toNat).toNat : Int) := by
  conv => lhs; rw [byte_of (n := 128 + j) (by omega) (by omega), byte_of hi hi2]
  exact bits_xor _ _


/-! ### FactorOf -/
def facRes (g c i j : Int) : Int × Int := if (inB g 1 4 && inB c 0 2) && inB i 0 (g - 1) && inB j 0 (c - 1) then (0, ((cau (8 + j) i).toNat : Int)) else (3, 0)


/-! ### PartsFor -/
def partsV (d n : Int) : Int × Int := if n < 1 then (0, 6) else if 12 * d < n then (0, 2) else ((n + 4 * d - 1) / (4 * d), 0)
def Shp.parts (s : Shp) (n : Int) : Int × Int := if s.ok then ((partsV s.data n).2, (partsV s.data n).1) else (3, 0)


set_option maxHeartbeats 1000000 in
theorem parts_any (s : Shp) (n : Int) (hd : 1 ≤ s.data) (hd2 : s.data ≤ 3) (hn : i64ok n) (w : World) :
    Calls Tryz.prog 178 #[.agg s.cells, .int .i64 n] w fun e w' => e = .returned (.tuple #[.int .i64 (partsV s.data n).1, .int .i64 (partsV s.data n).2]) ∧ Chg [] w w' := by
  obtain ⟨hn1, hn2⟩ := hn
  obtain ⟨g, c, d, p, r', q, b, u, t⟩ := s
  simp only at hd hd2 ⊢
  have h : d = 1 ∨ d = 2 ∨ d = 3 := by omega
  clear hd hd2
  rcases h with rfl | rfl | rfl
  · simp only [Shp.cells]
    by_cases h1 : n < 1
    · have HR := Lib.hid (show partsV 1 n = (0, 6) by rw [partsV, if_pos h1])
      generalize partsV 1 n = r at HR ⊢
      go_enter Tryz.func178, Tryz.ntmps178
      go_wp2
      go_ret2
      exact ⟨by rw [HR.out]; rfl, by repeat (first | exact Chg.refl _ _ | refine Chg.alloc ?_ _ | refine Chg.drewN ?_ _ | refine Chg.drew ?_)⟩
    · by_cases h2 : 12 < n
      · have HR := Lib.hid (show partsV 1 n = (0, 2) by rw [partsV, if_neg h1, if_pos (by omega)])
        generalize partsV 1 n = r at HR ⊢
        go_enter Tryz.func178, Tryz.ntmps178
        go_wp2
        go_ret2
        exact ⟨by rw [HR.out]; rfl, by repeat (first | exact Chg.refl _ _ | refine Chg.alloc ?_ _ | refine Chg.drewN ?_ _ | refine Chg.drew ?_)⟩
      · have HR := Lib.hid (show partsV 1 n = ((n - 1) / 4 + 1, 0) by rw [partsV, if_neg h1, if_neg (by omega)]; exact Prod.ext (by show _ / _ = _; omega) rfl)
        generalize partsV 1 n = r at HR ⊢
        go_enter Tryz.func178, Tryz.ntmps178
        go_wp2
        go_ret2
        exact ⟨by rw [HR.out]; rfl, by repeat (first | exact Chg.refl _ _ | refine Chg.alloc ?_ _ | refine Chg.drewN ?_ _ | refine Chg.drew ?_)⟩
  · simp only [Shp.cells]
    by_cases h1 : n < 1
    · have HR := Lib.hid (show partsV 2 n = (0, 6) by rw [partsV, if_pos h1])
      generalize partsV 2 n = r at HR ⊢
      go_enter Tryz.func178, Tryz.ntmps178
      go_wp2
      go_ret2
      exact ⟨by rw [HR.out]; rfl, by repeat (first | exact Chg.refl _ _ | refine Chg.alloc ?_ _ | refine Chg.drewN ?_ _ | refine Chg.drew ?_)⟩
    · by_cases h2 : 24 < n
      · have HR := Lib.hid (show partsV 2 n = (0, 2) by rw [partsV, if_neg h1, if_pos (by omega)])
        generalize partsV 2 n = r at HR ⊢
        go_enter Tryz.func178, Tryz.ntmps178
        go_wp2
        go_ret2
        exact ⟨by rw [HR.out]; rfl, by repeat (first | exact Chg.refl _ _ | refine Chg.alloc ?_ _ | refine Chg.drewN ?_ _ | refine Chg.drew ?_)⟩
      · have HR := Lib.hid (show partsV 2 n = ((n - 1) / 8 + 1, 0) by rw [partsV, if_neg h1, if_neg (by omega)]; exact Prod.ext (by show _ / _ = _; omega) rfl)
        generalize partsV 2 n = r at HR ⊢
        go_enter Tryz.func178, Tryz.ntmps178
        go_wp2
        go_ret2
        exact ⟨by rw [HR.out]; rfl, by repeat (first | exact Chg.refl _ _ | refine Chg.alloc ?_ _ | refine Chg.drewN ?_ _ | refine Chg.drew ?_)⟩
  · simp only [Shp.cells]
    by_cases h1 : n < 1
    · have HR := Lib.hid (show partsV 3 n = (0, 6) by rw [partsV, if_pos h1])
      generalize partsV 3 n = r at HR ⊢
      go_enter Tryz.func178, Tryz.ntmps178
      go_wp2
      go_ret2
      exact ⟨by rw [HR.out]; rfl, by repeat (first | exact Chg.refl _ _ | refine Chg.alloc ?_ _ | refine Chg.drewN ?_ _ | refine Chg.drew ?_)⟩
    · by_cases h2 : 36 < n
      · have HR := Lib.hid (show partsV 3 n = (0, 2) by rw [partsV, if_neg h1, if_pos (by omega)])
        generalize partsV 3 n = r at HR ⊢
        go_enter Tryz.func178, Tryz.ntmps178
        go_wp2
        go_ret2
        exact ⟨by rw [HR.out]; rfl, by repeat (first | exact Chg.refl _ _ | refine Chg.alloc ?_ _ | refine Chg.drewN ?_ _ | refine Chg.drew ?_)⟩
      · have HR := Lib.hid (show partsV 3 n = ((n - 1) / 12 + 1, 0) by rw [partsV, if_neg h1, if_neg (by omega)]; exact Prod.ext (by show _ / _ = _; omega) rfl)
        generalize partsV 3 n = r at HR ⊢
        go_enter Tryz.func178, Tryz.ntmps178
        go_wp2
        go_ret2
        exact ⟨by rw [HR.out]; rfl, by repeat (first | exact Chg.refl _ _ | refine Chg.alloc ?_ _ | refine Chg.drewN ?_ _ | refine Chg.drew ?_)⟩


set_option maxHeartbeats 1000000 in
theorem l4Long_any (s : Shp) (n : Int) (hd : 1 ≤ s.data) (hd2 : s.data ≤ 3) (hn : i64ok n) (w : World) :
    Calls Tryz.prog 175 #[.agg s.cells, .int .i64 n] w fun e w' => e = .returned (.int .i64 (partsV s.data n).2) ∧ Chg [] w w' := by
  obtain ⟨hn1, hn2⟩ := hn
  obtain ⟨g, c, d, p, r', q, b, u, t⟩ := s
  simp only at hd hd2 ⊢
  have h : d = 1 ∨ d = 2 ∨ d = 3 := by omega
  clear hd hd2
  rcases h with rfl | rfl | rfl
  · simp only [Shp.cells]
    by_cases h1 : n < 1
    · have HR := Lib.hid (show partsV 1 n = (0, 6) by rw [partsV, if_pos h1])
      generalize partsV 1 n = r at HR ⊢
      go_enter Tryz.func175, Tryz.ntmps175
      go_wp2
      go_ret
      exact ⟨by rw [HR.out]; rfl, by repeat (first | exact Chg.refl _ _ | refine Chg.alloc ?_ _ | refine Chg.drewN ?_ _ | refine Chg.drew ?_)⟩
    · by_cases h2 : 12 < n
      · have HR := Lib.hid (show partsV 1 n = (0, 2) by rw [partsV, if_neg h1, if_pos (by omega)])
        generalize partsV 1 n = r at HR ⊢
        go_enter Tryz.func175, Tryz.ntmps175
        go_wp2
        go_ret
        exact ⟨by rw [HR.out]; rfl, by repeat (first | exact Chg.refl _ _ | refine Chg.alloc ?_ _ | refine Chg.drewN ?_ _ | refine Chg.drew ?_)⟩
      · have HR := Lib.hid (show partsV 1 n = ((n - 1) / 4 + 1, 0) by rw [partsV, if_neg h1, if_neg (by omega)]; exact Prod.ext (by show _ / _ = _; omega) rfl)
        generalize partsV 1 n = r at HR ⊢
        go_enter Tryz.func175, Tryz.ntmps175
        go_wp2
        go_ret
        exact ⟨by rw [HR.out]; rfl, by repeat (first | exact Chg.refl _ _ | refine Chg.alloc ?_ _ | refine Chg.drewN ?_ _ | refine Chg.drew ?_)⟩
  · simp only [Shp.cells]
    by_cases h1 : n < 1
    · have HR := Lib.hid (show partsV 2 n = (0, 6) by rw [partsV, if_pos h1])
      generalize partsV 2 n = r at HR ⊢
      go_enter Tryz.func175, Tryz.ntmps175
      go_wp2
      go_ret
      exact ⟨by rw [HR.out]; rfl, by repeat (first | exact Chg.refl _ _ | refine Chg.alloc ?_ _ | refine Chg.drewN ?_ _ | refine Chg.drew ?_)⟩
    · by_cases h2 : 24 < n
      · have HR := Lib.hid (show partsV 2 n = (0, 2) by rw [partsV, if_neg h1, if_pos (by omega)])
        generalize partsV 2 n = r at HR ⊢
        go_enter Tryz.func175, Tryz.ntmps175
        go_wp2
        go_ret
        exact ⟨by rw [HR.out]; rfl, by repeat (first | exact Chg.refl _ _ | refine Chg.alloc ?_ _ | refine Chg.drewN ?_ _ | refine Chg.drew ?_)⟩
      · have HR := Lib.hid (show partsV 2 n = ((n - 1) / 8 + 1, 0) by rw [partsV, if_neg h1, if_neg (by omega)]; exact Prod.ext (by show _ / _ = _; omega) rfl)
        generalize partsV 2 n = r at HR ⊢
        go_enter Tryz.func175, Tryz.ntmps175
        go_wp2
        go_ret
        exact ⟨by rw [HR.out]; rfl, by repeat (first | exact Chg.refl _ _ | refine Chg.alloc ?_ _ | refine Chg.drewN ?_ _ | refine Chg.drew ?_)⟩
  · simp only [Shp.cells]
    by_cases h1 : n < 1
    · have HR := Lib.hid (show partsV 3 n = (0, 6) by rw [partsV, if_pos h1])
      generalize partsV 3 n = r at HR ⊢
      go_enter Tryz.func175, Tryz.ntmps175
      go_wp2
      go_ret
      exact ⟨by rw [HR.out]; rfl, by repeat (first | exact Chg.refl _ _ | refine Chg.alloc ?_ _ | refine Chg.drewN ?_ _ | refine Chg.drew ?_)⟩
    · by_cases h2 : 36 < n
      · have HR := Lib.hid (show partsV 3 n = (0, 2) by rw [partsV, if_neg h1, if_pos (by omega)])
        generalize partsV 3 n = r at HR ⊢
        go_enter Tryz.func175, Tryz.ntmps175
        go_wp2
        go_ret
        exact ⟨by rw [HR.out]; rfl, by repeat (first | exact Chg.refl _ _ | refine Chg.alloc ?_ _ | refine Chg.drewN ?_ _ | refine Chg.drew ?_)⟩
      · have HR := Lib.hid (show partsV 3 n = ((n - 1) / 12 + 1, 0) by rw [partsV, if_neg h1, if_neg (by omega)]; exact Prod.ext (by show _ / _ = _; omega) rfl)
        generalize partsV 3 n = r at HR ⊢
        go_enter Tryz.func175, Tryz.ntmps175
        go_wp2
        go_ret
        exact ⟨by rw [HR.out]; rfl, by repeat (first | exact Chg.refl _ _ | refine Chg.alloc ?_ _ | refine Chg.drewN ?_ _ | refine Chg.drew ?_)⟩


set_option maxHeartbeats 400000 in
theorem l4Wide_any (s : Shp) (hd : 1 ≤ s.data) (hd2 : s.data ≤ 3) (w : World) :
    Calls Tryz.prog 140 #[.agg s.cells] w fun e w' => e = .returned (.int .i64 (s.data * 4)) ∧ w.alloc (.cells s.cells 36) = w' := by
  obtain ⟨g, c, d, p, r', q, b, u, t⟩ := s
  simp only [Shp.cells] at *
  go_enter Tryz.func140, Tryz.ntmps140
  go_wp2
  go_ret
  exact ⟨rfl, rfl⟩


theorem parts_wrap (n k : Int) (hn : 0 ≤ n) (hn2 : n ≤ 1000000000) (hk : 1 ≤ k) (hk2 : k ≤ 12) : IntKind.i64.wrap ((IntKind.i64.wrap (IntKind.i64.wrap (n + k) - 1)).tdiv k) = (n + k - 1) / k := by
  rw [IntWalk.i64_in (n + k) ⟨by omega, by omega⟩, IntWalk.i64_in (n + k - 1) ⟨by omega, by omega⟩, Int.tdiv_eq_ediv_of_nonneg (by omega)]
  have h1 : 0 ≤ (n + k - 1) / k := Int.ediv_nonneg (by omega) (by omega)
  have h2 : (n + k - 1) / k ≤ n + k - 1 := Int.ediv_le_self _ (by omega)
  exact IntWalk.i64_in _ ⟨by omega, by omega⟩
set_option maxRecDepth 100000 in
set_option maxHeartbeats 1000000 in
theorem l4Parts_any (s : Shp) (n : Int) (hd : 1 ≤ s.data) (hd2 : s.data ≤ 3) (hn : 0 ≤ n) (hn2 : n ≤ 1000000000) (w : World) :
    Calls Tryz.prog 176 #[.agg s.cells, .int .i64 n] w fun e w' => e = .returned (.int .i64 ((n + 4 * s.data - 1) / (4 * s.data))) ∧ Chg [] w w' := by
  have HW := Lib.hid (l4Wide_any s hd hd2)
  obtain ⟨g, c, d, p, r', q, b, u, t⟩ := s
  simp only [Shp.cells] at *
  have h : d = 1 ∨ d = 2 ∨ d = 3 := by omega
  clear hd hd2
  rcases h with rfl | rfl | rfl
  all_goals
    go_enter Tryz.func176, Tryz.ntmps176
    go_wp2_with fail
    go_region_law (go_simp; go_at_call 140; refine (HW.out _).mono ?_; rintro e w' ⟨rfl, rfl⟩)
    all_goals (go_wp2; go_ret)
    all_goals refine ⟨ret_int ?_, by repeat (first | exact Chg.refl _ _ | refine Chg.alloc ?_ _ | refine Chg.drewN ?_ _ | refine Chg.drew ?_)⟩
    all_goals (first | rw [parts_wrap n 4 (by omega) (by omega) (by omega) (by omega)] | rw [parts_wrap n 8 (by omega) (by omega) (by omega) (by omega)] | rw [parts_wrap n 12 (by omega) (by omega) (by omega) (by omega)])
    all_goals rfl


theorem partsV_cases (d n : Int) (h : 1 ≤ d) (h2 : d ≤ 3) : partsV d n = (0, 6) ∨ partsV d n = (0, 2) ∨ (partsV d n = ((n + 4 * d - 1) / (4 * d), 0) ∧ 1 ≤ n ∧ n ≤ 36) := by
  unfold partsV; split
  · exact .inl rfl
  · split
    · exact .inr (.inl rfl)
    · exact .inr (.inr ⟨rfl, by omega, by omega⟩)
theorem new_alloc2 (w : World) (x y : Obj) : ((w.alloc x).alloc y).heap[w.heap.size + 1]? = some y := by
  have h := new_alloc (w.alloc x) y
  simpa using h
theorem div_mul4 (d n : Int) : (n + 4 * d - 1) / (4 * d) = (n + 4 * d - 1) / (d * 4) := by rw [Int.mul_comm d 4]


/-! ### HomeOf -/
/-- the sum of the first bytes of a text -/
def upTo (s : ByteArray) : Nat → Int
  | 0 => 0
  | k + 1 => upTo s k + (if h : k < s.size then (s[k].toNat : Int) else 0)
theorem upTo_next {s : ByteArray} {k : Nat} (h : k < s.size) : upTo s (k + 1) = upTo s k + (s[k].toNat : Int) := by rw [upTo, dif_pos h]
theorem upTo_bound (s : ByteArray) (k : Nat) : 0 ≤ upTo s k ∧ upTo s k ≤ 255 * k := by
  induction k with
  | zero => exact ⟨Int.le_refl _, Int.le_refl _⟩
  | succ k ih =>
    rw [upTo]
    split
    · rename_i h
      have := UInt8.toNat_lt s[k]
      omega
    · omega
noncomputable def Shp.home (s : Shp) (n : ByteArray) : Int × Int := if s.ok then (if nameFault n = 0 then (0, upTo n n.size % s.groups) else (5, 0)) else (3, 0)


end Go.Proofs.YtnnhopcjlnnchaaGreat
