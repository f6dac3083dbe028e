
/- The walks of the functions that reckon a number: quotients, the bytes of the codes, FactorOf, PartsFor, HomeOf. -/
import Derived.Test.YtjnclggpaekdfaaRows
import Derived.Test.YtjnclggpaekdfaaMul
import Derived.Test.YtjnclggpaekdfaaName
import Derived.Test.YtjnclggpaekdfaaShape
import Derived.Deep.RegionLaw
namespace Go.Proofs.Ytjnclggpaekdfaa
open Go.RowKit

def divRes (a b : UInt8) : Int × Int := if b = 0 then (6, 0) else (0, ((Fld.mul a (Fld.inv b)).toNat : Int))
theorem wrap64_u8 (a : UInt8) : wrap64 (a.toNat : Int) = (a.toNat : Int) := by have := UInt8.toNat_lt a; exact IntWalk.wrap64_in _ ⟨by omega, by omega⟩
theorem powZ_254 (a : UInt8) : Fld.powZ a 254 = Fld.inv a := rfl

/-- the byte of the codes in a row and a column -/
def cau (j i : Int) : UInt8 := Fld.inv (UInt8.ofNat (128 + j).toNat ^^^ UInt8.ofNat i.toNat)

theorem byte_of {n : Int} (h : 0 ≤ n) (h2 : n < 256) : n = ((UInt8.ofNat n.toNat).toNat : Int) := by rw [UInt8.toNat_ofNat']; omega
theorem cau_bits {j i : Int} (hj : 0 ≤ j) (hj2 : j < 128) (hi : 0 ≤ i) (hi2 : i < 256) : bits BinOp.xor IntKind.u8 (128 + j) i = ((UInt8.ofNat (128 + j).toNat ^^^ UInt8.ofNat i.toNat).toNat : Int) := by
  conv => lhs; rw [byte_of (n := 128 + j) (by omega) (by omega), byte_of hi hi2]
  exact bits_xor _ _


set_option maxHeartbeats 400000 in
theorem div_any (a b : UInt8) (w : World) :
    Calls Try.prog 86 #[.int .u8 a.toNat, .int .u8 b.toNat] w fun e w' => e = .returned (.int .u8 (Fld.mul a (Fld.inv b)).toNat) ∧ w = w' := by
  have H := Lib.hid (impl_pow b 254 (by omega) (by omega) w)
  go_enter Try.func86, Try.ntmps86
  go_wp2_with (first | (go_at_call 90; refine H.out.mono ?_; rintro e w' ⟨rfl, rfl⟩; rw [powZ_254]) | (go_at_call 76; refine (impl_mul _ _ _).mono ?_; rintro e w' ⟨rfl, rfl⟩))
  go_ret
  exact ⟨rfl, rfl⟩


set_option maxHeartbeats 400000 in
theorem l1Inv_any (b : UInt8) (w : World) :
    Calls Try.prog 87 #[.int .u8 b.toNat] w fun e w' => e = .returned (.int .u8 (Fld.inv b).toNat) ∧ w = w' := by
  have H := Lib.hid (spec_pow b 254 (by omega) (by omega) w)
  go_enter Try.func87, Try.ntmps87
  go_wp2_with (go_at_call 91; refine H.out.mono ?_; rintro e w' ⟨rfl, rfl⟩; rw [powZ_254])
  go_ret
  exact ⟨rfl, rfl⟩


set_option maxHeartbeats 400000 in
theorem factor_any (i j : Int) (hj : 0 ≤ j) (hj2 : j < 100) (hi : 0 ≤ i) (hi2 : i < 256) (w : World) :
    Calls Try.prog 81 #[.int .i64 i, .int .i64 j] w fun e w' => e = .returned (.int .u8 (cau (8 + j) i).toNat) ∧ w = w' := by
  have HB : RowKit.Hid (bits BinOp.xor IntKind.u8 (136 + j) i = ((UInt8.ofNat (128 + (8 + j)).toNat ^^^ UInt8.ofNat i.toNat).toNat : Int)) := by
    have := cau_bits (j := 8 + j) (i := i) (by omega) (by omega) hi hi2
    rw [show (128 : Int) + (8 + j) = 136 + j by omega] at this ⊢
    exact this
  have HM := Lib.hid (show Fld.mul 1 (Fld.inv (UInt8.ofNat (128 + (8 + j)).toNat ^^^ UInt8.ofNat i.toNat)) = cau (8 + j) i from Fld.one_mul _)
  go_enter Try.func81, Try.ntmps81
  go_wp2_with (go_at_call 86; rw [HB.out]; refine (div_any 1 _ _).mono ?_; rintro e w' ⟨rfl, rfl⟩; rw [HM.out])
  go_ret
  exact ⟨rfl, rfl⟩


set_option maxHeartbeats 400000 in
theorem l1Cauchy_any (j i : Int) (hj : 0 ≤ j) (hj2 : j < 128) (hi : 0 ≤ i) (hi2 : i < 256) (w : World) :
    Calls Try.prog 82 #[.int .i64 j, .int .i64 i] w fun e w' => e = .returned (.int .u8 (cau j i).toNat) ∧ w = w' := by
  have HB := Lib.hid (cau_bits hj hj2 hi hi2)
  go_enter Try.func82, Try.ntmps82
  go_wp2_with (go_at_call 87; rw [HB.out]; refine (l1Inv_any _ _).mono ?_; rintro e w' ⟨rfl, rfl⟩)
  go_ret
  exact ⟨rfl, rfl⟩


/-! ### FactorOf -/
def facRes (g c i j : Int) : Int × Int := if (inB g 1 4 && inB c 0 2) && inB i 0 (g - 1) && inB j 0 (c - 1) then (0, ((cau (8 + j) i).toNat : Int)) else (3, 0)


set_option maxHeartbeats 400000 in
theorem colOk_any (g c : Int) (w : World) :
    Calls Try.prog 33 #[.agg #[.int .i64 g, .int .i64 c]] w fun e w' => e = .returned (.bool (inB g 1 4 && inB c 0 2)) ∧ w.alloc (.cells #[.int .i64 g, .int .i64 c] 57) = w' := by
  cases h1 : inB g 1 4
  · have H : RowKit.Hid (false = (false && inB c 0 2)) := rfl
    go_enter Try.func33, Try.ntmps33
    go_wp2_with (go_at_call 39; refine (inside_any _ _ _ _).mono ?_; rintro e w' ⟨rfl, rfl⟩)
    go_ret
    exact ⟨ret_bool H.out, rfl⟩
  · have H : RowKit.Hid (inB c 0 2 = (true && inB c 0 2)) := by show _ = _; simp
    go_enter Try.func33, Try.ntmps33
    go_wp2_with (go_at_call 39; refine (inside_any _ _ _ _).mono ?_; rintro e w' ⟨rfl, rfl⟩)
    go_ret
    exact ⟨ret_bool H.out, rfl⟩


/-! ### PartsFor -/
def partsV (d n : Int) : Int × Int := if n < 1 then (0, 6) else if 12 * d < n then (0, 2) else ((n + 4 * d - 1) / (4 * d), 0)
def Shp.parts (s : Shp) (n : Int) : Int × Int := if s.ok then ((partsV s.data n).2, (partsV s.data n).1) else (3, 0)


theorem parts_wrap (n k : Int) (hn : 0 ≤ n) (hn2 : n ≤ 1000000000) (hk : 1 ≤ k) (hk2 : k ≤ 12) : IntKind.i64.wrap ((IntKind.i64.wrap (IntKind.i64.wrap (n + k) - 1)).tdiv k) = (n + k - 1) / k := by
  rw [IntWalk.i64_in (n + k) ⟨by omega, by omega⟩, IntWalk.i64_in (n + k - 1) ⟨by omega, by omega⟩, Int.tdiv_eq_ediv_of_nonneg (by omega)]
  have h1 : 0 ≤ (n + k - 1) / k := Int.ediv_nonneg (by omega) (by omega)
  have h2 : (n + k - 1) / k ≤ n + k - 1 := Int.ediv_le_self _ (by omega)
  exact IntWalk.i64_in _ ⟨by omega, by omega⟩
theorem partsV_cases (d n : Int) (h : 1 ≤ d) (h2 : d ≤ 3) : partsV d n = (0, 6) ∨ partsV d n = (0, 2) ∨ (partsV d n = ((n + 4 * d - 1) / (4 * d), 0) ∧ 1 ≤ n ∧ n ≤ 36) := by
  unfold partsV; split
  · exact .inl rfl
  · split
    · exact .inr (.inl rfl)
    · exact .inr (.inr ⟨rfl, by omega, by omega⟩)
theorem new_alloc2 (w : World) (x y : Obj) : ((w.alloc x).alloc y).heap[w.heap.size + 1]? = some y := by
  have h := new_alloc (w.alloc x) y
  simpa using h
theorem div_mul4 (d n : Int) : (n + 4 * d - 1) / (4 * d) = (n + 4 * d - 1) / (d * 4) := by rw [Int.mul_comm d 4]


/-! ### HomeOf -/
/-- the sum of the first bytes of a text -/
def upTo (s : ByteArray) : Nat → Int
  | 0 => 0
  | k + 1 => upTo s k + (if h : k < s.size then (s[k].toNat : Int) else 0)
theorem upTo_next {s : ByteArray} {k : Nat} (h : k < s.size) : upTo s (k + 1) = upTo s k + (s[k].toNat : Int) := by rw [upTo, dif_pos h]
theorem upTo_bound (s : ByteArray) (k : Nat) : 0 ≤ upTo s k ∧ upTo s k ≤ 255 * k := by
  induction k with
  | zero => exact ⟨Int.le_refl _, Int.le_refl _⟩
  | succ k ih =>
    rw [upTo]
    split
    · rename_i h
      have := UInt8.toNat_lt s[k]
      omega
    · omega
noncomputable def Shp.home (s : Shp) (n : ByteArray) : Int × Int := if s.ok then (if nameFault n = 0 then (0, upTo n n.size % s.groups) else (5, 0)) else (3, 0)


end Go.Proofs.Ytjnclggpaekdfaa
