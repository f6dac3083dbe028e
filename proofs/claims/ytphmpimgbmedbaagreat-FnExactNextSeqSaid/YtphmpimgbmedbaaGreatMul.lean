
/- The walks of the two products and the two powers: the program's and the reference's MulG and PowG both compute the product and the power of plain Lean. -/
import Derived.Test.YtphmpimgbmedbaaGreatRows
import Derived.Test.YtphmpimgbmedbaaGreatFld
import Derived.Test.YtphmpimgbmedbaaGreatRep
namespace Go.Proofs.YtphmpimgbmedbaaGreat
open Go.RowKit

theorem u8lt (a : UInt8) : (a.toNat : Int) < 256 := by have := UInt8.toNat_lt a; omega
theorem u8nn (a : UInt8) : 0 ≤ (a.toNat : Int) := by omega

theorem bits_and (a b : UInt8) : bits BinOp.and IntKind.u8 (a.toNat : Int) (b.toNat : Int) = ((a &&& b).toNat : Int) := by
  rw [u8_and_nat _ _ (UInt8.toNat_lt a) (UInt8.toNat_lt b), UInt8.toNat_and]
theorem bits_xor (a b : UInt8) : bits BinOp.xor IntKind.u8 (a.toNat : Int) (b.toNat : Int) = ((a ^^^ b).toNat : Int) := by
  rw [u8_xor_nat _ _ (UInt8.toNat_lt a) (UInt8.toNat_lt b), UInt8.toNat_xor]
theorem bits_and1 (a : UInt8) : bits BinOp.and IntKind.u8 (a.toNat : Int) 1 = ((a &&& 1).toNat : Int) := bits_and a 1
theorem bits_and128 (a : UInt8) : bits BinOp.and IntKind.u8 (a.toNat : Int) 128 = ((a &&& 128).toNat : Int) := bits_and a 128
theorem bits_xor29 (a : UInt8) : bits BinOp.xor IntKind.u8 (a.toNat : Int) 29 = ((a ^^^ 29).toNat : Int) := bits_xor a 29
theorem shl_u8 (a : UInt8) : (a.toNat : Int) * (2 : Int) % (256 : Int) = ((a <<< 1).toNat : Int) := by
  rw [UInt8.toNat_shiftLeft]
  have : (1 : UInt8).toNat % 8 = 1 := by decide
  rw [this, Nat.shiftLeft_eq]
  omega
theorem shr_u8 (a : UInt8) : (a.toNat : Int) / (2 : Int) = ((a >>> 1).toNat : Int) := by
  rw [UInt8.toNat_shiftRight]
  have : (1 : UInt8).toNat % 8 = 1 := by decide
  rw [this, Nat.shiftRight_eq_div_pow]
  omega
theorem and1_is (a : UInt8) : (bits BinOp.and IntKind.u8 (a.toNat : Int) 1 == 1) = true ↔ a &&& 1 = 1 := by
  rw [bits_and1, beq_iff_eq]
  rcases Fld.bit1 a with h | h <;> rw [h] <;> decide
theorem and128_is (a : UInt8) : (bits BinOp.and IntKind.u8 (a.toNat : Int) 128 != 0) = true ↔ ¬ a &&& 128 = 0 := by
  rw [bits_and128, bne_iff_ne]
  rcases Fld.bit128 a with h | h <;> rw [h] <;> decide

theorem u8_eq0 (b : UInt8) (h : (b.toNat : Int) ≤ 0) : b = 0 := by
  apply UInt8.toNat_inj.1; have : (0 : UInt8).toNat = 0 := rfl; omega

theorem int_u8 {a b : UInt8} (h : a = b) : Value.int IntKind.u8 (a.toNat : Int) = Value.int IntKind.u8 (b.toNat : Int) := by rw [h]


theorem mulN_succ (k : Nat) (x y : UInt8) : Fld.mulN (k + 1) x y = (if y &&& 1 = 1 then x else 0) ^^^ Fld.mulN k (Fld.xt x) (y >>> 1) := rfl

theorem shr_lt {k : Nat} {y : UInt8} (h : y.toNat < 2 ^ (k + 1)) : (y >>> 1).toNat < 2 ^ k := by
  rw [UInt8.toNat_shiftRight]
  have : (1 : UInt8).toNat % 8 = 1 := by decide
  rw [this, Nat.shiftRight_eq_div_pow]
  omega

theorem xt_hi {x : UInt8} (h : (bits BinOp.and IntKind.u8 (x.toNat : Int) 128 != 0) = true) : bits BinOp.xor IntKind.u8 ((x.toNat : Int) * (2 : Int) % (256 : Int)) 29 = ((Fld.xt x).toNat : Int) := by
  rw [shl_u8, bits_xor29, Fld.xt, if_neg ((and128_is x).1 h)]
theorem xt_lo {x : UInt8} (h : (bits BinOp.and IntKind.u8 (x.toNat : Int) 128 != 0) = false) : (x.toNat : Int) * (2 : Int) % (256 : Int) = ((Fld.xt x).toNat : Int) := by
  rw [shl_u8, Fld.xt, if_pos]
  rcases Fld.bit128 x with e | e
  · exact e
  · rw [bits_and128, e] at h; exact absurd h (by decide)
theorem o_hi {x y o c : UInt8} {k : Nat} (h : (bits BinOp.and IntKind.u8 (y.toNat : Int) 1 == 1) = true) (hm : o ^^^ Fld.mulN (k + 1) x y = c) :
    bits BinOp.xor IntKind.u8 (o.toNat : Int) (x.toNat : Int) = ((o ^^^ x).toNat : Int) ∧ (o ^^^ x) ^^^ Fld.mulN k (Fld.xt x) (y >>> 1) = c := by
  refine ⟨bits_xor o x, ?_⟩
  rw [← hm, mulN_succ, if_pos ((and1_is y).1 h), UInt8.xor_assoc]
theorem o_lo {x y o c : UInt8} {k : Nat} (h : (bits BinOp.and IntKind.u8 (y.toNat : Int) 1 == 1) = false) (hm : o ^^^ Fld.mulN (k + 1) x y = c) :
    o ^^^ Fld.mulN k (Fld.xt x) (y >>> 1) = c := by
  rw [← hm, mulN_succ, if_neg, UInt8.zero_xor]
  intro e
  rw [(and1_is y).2 e] at h
  cases h

/-- what the loop of the program's product keeps -/
def MulR (a b : UInt8) (X Y O : Int) : Prop := ∃ (k : Nat) (x y o : UInt8), y.toNat < 2 ^ k ∧ o ^^^ Fld.mulN k x y = Fld.mul a b ∧ X = x.toNat ∧ Y = y.toNat ∧ O = o.toNat

theorem MulR.bounds {a b : UInt8} {X Y O : Int} (h : MulR a b X Y O) : (0 ≤ X ∧ X < 256) ∧ (0 ≤ Y ∧ Y < 256) ∧ (0 ≤ O ∧ O < 256) := by
  obtain ⟨k, x, y, o, _, _, rfl, rfl, rfl⟩ := h
  exact ⟨⟨u8nn x, u8lt x⟩, ⟨u8nn y, u8lt y⟩, ⟨u8nn o, u8lt o⟩⟩

theorem MulR.next {a b : UInt8} {X Y O : Int} (h : MulR a b X Y O) (hY : 0 < Y) :
    MulR a b (if (bits BinOp.and IntKind.u8 X 128 != 0) = true then bits BinOp.xor IntKind.u8 (X * 2 % 256) 29 else X * 2 % 256) (Y / 2)
      (if (bits BinOp.and IntKind.u8 Y 1 == 1) = true then bits BinOp.xor IntKind.u8 O X else O) := by
  obtain ⟨k, x, y, o, hk, hm, rfl, rfl, rfl⟩ := h
  cases k with
  | zero => exfalso; simp at hk; omega
  | succ k =>
    have e1 : (if (bits BinOp.and IntKind.u8 (x.toNat : Int) 128 != 0) = true then bits BinOp.xor IntKind.u8 ((x.toNat : Int) * 2 % 256) 29 else (x.toNat : Int) * 2 % 256) = ((Fld.xt x).toNat : Int) := by
      cases h : (bits BinOp.and IntKind.u8 (x.toNat : Int) 128 != 0)
      · rw [if_neg (by simp)]; exact xt_lo h
      · rw [if_pos rfl]; exact xt_hi h
    cases h : (bits BinOp.and IntKind.u8 (y.toNat : Int) 1 == 1)
    · exact ⟨k, Fld.xt x, y >>> 1, o, shr_lt hk, o_lo h hm, e1, shr_u8 y, by rw [if_neg (by simp)]⟩
    · exact ⟨k, Fld.xt x, y >>> 1, o ^^^ x, shr_lt hk, (o_hi h hm).2, e1, shr_u8 y, by rw [if_pos rfl]; exact (o_hi h hm).1⟩

theorem MulR.last {a b : UInt8} {X Y O : Int} (h : MulR a b X Y O) (hY : Y ≤ 0) : O = (Fld.mul a b).toNat := by
  obtain ⟨k, x, y, o, hk, hm, rfl, rfl, rfl⟩ := h
  rw [u8_eq0 y hY, Fld.mulN_zero, UInt8.xor_zero] at hm
  rw [hm]

theorem bits_xor_i64_nat (a b : Nat) (ha : a < 9223372036854775808) (hb : b < 9223372036854775808) :
    bits .xor .i64 (a : Int) (b : Int) = ((a ^^^ b : Nat) : Int) := by
  have hx : a ^^^ b < 2 ^ 63 := Nat.xor_lt_two_pow (by omega) (by omega)
  have h1 : (BitVec.ofInt 64 (a : Int)).toNat = a := by
    rw [BitVec.ofInt_natCast, BitVec.toNat_ofNat]; exact Nat.mod_eq_of_lt (by omega)
  have h2 : (BitVec.ofInt 64 (b : Int)).toNat = b := by
    rw [BitVec.ofInt_natCast, BitVec.toNat_ofNat]; exact Nat.mod_eq_of_lt (by omega)
  show IntKind.i64.wrap ((BitVec.ofInt 64 (a : Int) ^^^ BitVec.ofInt 64 (b : Int)).toNat : Int) = _
  rw [BitVec.toNat_xor, h1, h2]
  exact IntWalk.i64_in _ (by omega)

theorem xt_285 (x : UInt8) : (255 < 2 * x.toNat → (2 * x.toNat) ^^^ 285 = (Fld.xt x).toNat) ∧ (¬ 255 < 2 * x.toNat → 2 * x.toNat = (Fld.xt x).toNat) := by
  revert x; exact Fld.u8_all (by decide +kernel)

/-- what the loop of the reference's product keeps -/
def MulS (a b : UInt8) (X O K : Int) : Prop := ∃ (k : Nat) (x y o : UInt8), k ≤ 8 ∧ y.toNat = b.toNat / 2 ^ k ∧ o ^^^ Fld.mulN (8 - k) x y = Fld.mul a b ∧ X = x.toNat ∧ O = o.toNat ∧ K = k

theorem MulS.bounds {a b : UInt8} {X O K : Int} (h : MulS a b X O K) : (0 ≤ X ∧ X < 256) ∧ (0 ≤ O ∧ O < 256) ∧ (0 ≤ K ∧ K ≤ 8) := by
  obtain ⟨k, x, y, o, _, _, _, rfl, rfl, rfl⟩ := h
  exact ⟨⟨u8nn x, u8lt x⟩, ⟨u8nn o, u8lt o⟩, by omega, by omega⟩

theorem MulS.next {a b : UInt8} {X O K : Int} (h : MulS a b X O K) (hK : K < 8) :
    MulS a b (if 255 < 2 * X then bits BinOp.xor IntKind.i64 (2 * X) 285 else 2 * X)
      (if (bits BinOp.and IntKind.u8 ((b.toNat : Int) / 2 ^ K.toNat) 1 == 1) = true then bits BinOp.xor IntKind.i64 O X else O) (K + 1) := by
  obtain ⟨k, x, y, o, hk, hy, hm, rfl, rfl, rfl⟩ := h
  have hk8 : k < 8 := by omega
  have ey : ((b.toNat : Int) / 2 ^ ((k : Int)).toNat) = (y.toNat : Int) := by
    rw [hy]; simp [Int.natCast_ediv]
  rw [ey]
  have hx := UInt8.toNat_lt x
  have ho := UInt8.toNat_lt o
  have e1 : (if (255 : Int) < 2 * (x.toNat : Int) then bits BinOp.xor IntKind.i64 (2 * (x.toNat : Int)) 285 else 2 * (x.toNat : Int)) = ((Fld.xt x).toNat : Int) := by
    by_cases h : (255 : Int) < 2 * (x.toNat : Int)
    · rw [if_pos h, ← (xt_285 x).1 (by omega)]
      have := bits_xor_i64_nat (2 * x.toNat) 285 (by omega) (by omega)
      rw [← this]; rfl
    · rw [if_neg h, ← (xt_285 x).2 (by omega)]; rfl
  have ey2 : (y >>> 1).toNat = b.toNat / 2 ^ (k + 1) := by
    have := shr_u8 y
    rw [hy] at this
    rw [Nat.pow_succ, ← Nat.div_div_eq_div_mul]
    omega
  have e8 : 8 - k = (8 - (k + 1)) + 1 := by omega
  rw [e8] at hm
  have eO : bits BinOp.xor IntKind.i64 (o.toNat : Int) (x.toNat : Int) = ((o ^^^ x).toNat : Int) := by
    rw [bits_xor_i64_nat _ _ (by omega) (by omega), UInt8.toNat_xor]
  cases h : (bits BinOp.and IntKind.u8 (y.toNat : Int) 1 == 1)
  · exact ⟨k + 1, Fld.xt x, y >>> 1, o, by omega, ey2, o_lo h hm, e1, by rw [if_neg (by simp)], by omega⟩
  · exact ⟨k + 1, Fld.xt x, y >>> 1, o ^^^ x, by omega, ey2, (o_hi h hm).2, e1, by rw [if_pos rfl]; exact eO, by omega⟩

theorem MulS.last {a b : UInt8} {X O K : Int} (h : MulS a b X O K) (hK : ¬ K < 8) : O = (Fld.mul a b).toNat := by
  obtain ⟨k, x, y, o, hk, hy, hm, rfl, rfl, rfl⟩ := h
  have e8 : 8 - k = 0 := by omega
  rw [e8] at hm
  simp only [Fld.mulN, UInt8.xor_zero] at hm
  rw [hm]

theorem bits_and_i64_nat (a b : Nat) (ha : a < 9223372036854775808) (hb : b < 9223372036854775808) :
    bits .and .i64 (a : Int) (b : Int) = ((a &&& b : Nat) : Int) := by
  have hx : a &&& b ≤ a := Nat.and_le_left
  have h1 : (BitVec.ofInt 64 (a : Int)).toNat = a := by
    rw [BitVec.ofInt_natCast, BitVec.toNat_ofNat]; exact Nat.mod_eq_of_lt (by omega)
  have h2 : (BitVec.ofInt 64 (b : Int)).toNat = b := by
    rw [BitVec.ofInt_natCast, BitVec.toNat_ofNat]; exact Nat.mod_eq_of_lt (by omega)
  show IntKind.i64.wrap ((BitVec.ofInt 64 (a : Int) &&& BitVec.ofInt 64 (b : Int)).toNat : Int) = _
  rw [BitVec.toNat_and, h1, h2]
  exact IntWalk.i64_in _ (by omega)

theorem odd_i64 (n : Nat) (hn : n < 9223372036854775808) : (bits BinOp.and IntKind.i64 (n : Int) 1 == 1) = decide (n % 2 = 1) := by
  have := bits_and_i64_nat n 1 hn (by omega)
  rw [show ((1 : Nat) : Int) = 1 from rfl, Nat.and_one_is_mod] at this
  rw [this]
  by_cases h : n % 2 = 1
  · rw [h]; rfl
  · rw [decide_eq_false h]; rw [beq_eq_false_iff_ne]; omega

theorem pow_odd {a o r : UInt8} {n : Nat} (h : Fld.mul o (Fld.pw a n) = r) (hn : n % 2 = 1) : Fld.mul (Fld.mul o a) (Fld.pw (Fld.mul a a) (n / 2)) = r := by
  rw [← h, Fld.pw_sq, Fld.mul_assoc]
  congr 1
  conv => rhs; rw [show n = 1 + 2 * (n / 2) by omega, Fld.pw_add, Fld.pw_one]
theorem pow_even {a o r : UInt8} {n : Nat} (h : Fld.mul o (Fld.pw a n) = r) (hn : ¬ n % 2 = 1) : Fld.mul o (Fld.pw (Fld.mul a a) (n / 2)) = r := by
  rw [← h, Fld.pw_sq]
  congr 2
  omega

/-- what the loops of the powers keep -/
def PowP (r a o : UInt8) (n : Nat) : Prop := Fld.mul o (Fld.pw a n) = r

theorem pow_step {r a o : UInt8} {n : Nat} (h : PowP r a o (n + 1)) : PowP r a (Fld.mul o a) n := by
  unfold PowP at *
  rw [← h, Nat.add_comm, Fld.pw_add, Fld.pw_one, Fld.mul_assoc]

end Go.Proofs.YtphmpimgbmedbaaGreat
