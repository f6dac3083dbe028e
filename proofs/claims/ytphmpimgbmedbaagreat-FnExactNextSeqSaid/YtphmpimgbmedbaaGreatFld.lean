
/- The field of 256 in plain Lean: the product, its laws (sums, order, brackets), powers and inverses. No program in sight. -/
namespace Go.Proofs.YtphmpimgbmedbaaGreat.Fld

theorem u8_all {p : UInt8 → Prop} (h : ∀ n, n < 256 → p (UInt8.ofNat n)) (a : UInt8) : p a := by
  have := h a.toNat (UInt8.toNat_lt a)
  rwa [UInt8.ofNat_toNat] at this

/-- one step of doubling -/
def xt (a : UInt8) : UInt8 := if a &&& 128 = 0 then a <<< 1 else (a <<< 1) ^^^ 29

/-- the product, k bits of b -/
def mulN : Nat → UInt8 → UInt8 → UInt8
  | 0, _, _ => 0
  | k + 1, a, b => (if b &&& 1 = 1 then a else 0) ^^^ mulN k (xt a) (b >>> 1)

def mul (a b : UInt8) : UInt8 := mulN 8 a b

/-- the product once more, by tail recursion: what the code's loops do -/
def mulT : Nat → UInt8 → UInt8 → UInt8 → UInt8
  | 0, _, _, o => o
  | k + 1, a, b, o => mulT k (xt a) (b >>> 1) (if b &&& 1 = 1 then o ^^^ a else o)

theorem mulT_eq (k : Nat) : ∀ a b o, mulT k a b o = o ^^^ mulN k a b := by
  induction k with
  | zero => intro a b o; simp [mulT, mulN]
  | succ k ih =>
    intro a b o
    simp only [mulT, mulN, ih]
    split <;> simp [UInt8.xor_assoc]

theorem mulN_zero (k : Nat) : ∀ a, mulN k a 0 = 0 := by
  induction k with
  | zero => intro a; rfl
  | succ k ih =>
    intro a
    simp [mulN, ih]

theorem shr_xor (a b : UInt8) : (a ^^^ b) >>> 1 = (a >>> 1) ^^^ (b >>> 1) := by
  apply UInt8.toBitVec_inj.1; simp [BitVec.ushiftRight_xor_distrib]

theorem and_xor (a b c : UInt8) : (a ^^^ b) &&& c = (a &&& c) ^^^ (b &&& c) := by
  apply UInt8.toBitVec_inj.1; simp only [UInt8.toBitVec_and, UInt8.toBitVec_xor]; ext i hi; simp [Bool.and_xor_distrib_right]

theorem shl_xor (a b : UInt8) : (a ^^^ b) <<< 1 = (a <<< 1) ^^^ (b <<< 1) := by
  apply UInt8.toBitVec_inj.1; simp [BitVec.shiftLeft_xor_distrib]

theorem bit1 (a : UInt8) : a &&& 1 = 0 ∨ a &&& 1 = 1 := by revert a; exact u8_all (by decide +kernel)
theorem bit2 (a : UInt8) : a &&& 2 = 0 ∨ a &&& 2 = 2 := by revert a; exact u8_all (by decide +kernel)
theorem bit4 (a : UInt8) : a &&& 4 = 0 ∨ a &&& 4 = 4 := by revert a; exact u8_all (by decide +kernel)
theorem bit8 (a : UInt8) : a &&& 8 = 0 ∨ a &&& 8 = 8 := by revert a; exact u8_all (by decide +kernel)
theorem bit16 (a : UInt8) : a &&& 16 = 0 ∨ a &&& 16 = 16 := by revert a; exact u8_all (by decide +kernel)
theorem bit32 (a : UInt8) : a &&& 32 = 0 ∨ a &&& 32 = 32 := by revert a; exact u8_all (by decide +kernel)
theorem bit64 (a : UInt8) : a &&& 64 = 0 ∨ a &&& 64 = 64 := by revert a; exact u8_all (by decide +kernel)
theorem bit128 (a : UInt8) : a &&& 128 = 0 ∨ a &&& 128 = 128 := by revert a; exact u8_all (by decide +kernel)
theorem bits_sum (a : UInt8) : (a &&& 1) ^^^ (a &&& 2) ^^^ (a &&& 4) ^^^ (a &&& 8) ^^^ (a &&& 16) ^^^ (a &&& 32) ^^^ (a &&& 64) ^^^ (a &&& 128) = a := by
  revert a; exact u8_all (by decide +kernel)

theorem xor_4 (a b c d : UInt8) : (a ^^^ b) ^^^ (c ^^^ d) = (a ^^^ c) ^^^ (b ^^^ d) := by
  rw [UInt8.xor_assoc, UInt8.xor_assoc, ← UInt8.xor_assoc b, UInt8.xor_comm b c, UInt8.xor_assoc c]

theorem xt_xor (a b : UInt8) : xt (a ^^^ b) = xt a ^^^ xt b := by
  unfold xt
  rw [and_xor, shl_xor]
  have e : (128 : UInt8) ^^^ 128 = 0 := by decide
  have z : (0 : UInt8) ^^^ 128 = 128 := by decide
  have z' : (128 : UInt8) ^^^ 0 = 128 := by decide
  have n : ¬ (128 : UInt8) = 0 := by decide
  rcases bit128 a with ha | ha <;> rcases bit128 b with hb | hb <;> simp only [ha, hb, e, z, z', n, UInt8.xor_self, if_true, if_false]
  · rw [UInt8.xor_assoc]
  · rw [UInt8.xor_assoc, UInt8.xor_comm (b <<< 1), ← UInt8.xor_assoc]
  · rw [xor_4, UInt8.xor_self, UInt8.xor_zero]

theorem mulN_add_right (k : Nat) : ∀ a b c, mulN k a (b ^^^ c) = mulN k a b ^^^ mulN k a c := by
  induction k with
  | zero => intro a b c; simp [mulN]
  | succ k ih =>
    intro a b c
    simp only [mulN, shr_xor, ih, and_xor]
    have e : (1 : UInt8) ^^^ 1 = 0 := by decide
    have z : (0 : UInt8) ^^^ 1 = 1 := by decide
    have z' : (1 : UInt8) ^^^ 0 = 1 := by decide
    have n : ¬ (0 : UInt8) = 1 := by decide
    rw [xor_4]
    congr 1
    rcases bit1 b with hb | hb <;> rcases bit1 c with hc | hc <;> simp [hb, hc, e, z, z', n]

theorem mulN_add_left (k : Nat) : ∀ a b c, mulN k (a ^^^ b) c = mulN k a c ^^^ mulN k b c := by
  induction k with
  | zero => intro a b c; simp [mulN]
  | succ k ih =>
    intro a b c
    simp only [mulN, xt_xor, ih]
    rw [xor_4]
    congr 1
    split <;> simp

theorem mul_add (a b c : UInt8) : mul a (b ^^^ c) = mul a b ^^^ mul a c := mulN_add_right 8 a b c
theorem add_mul (a b c : UInt8) : mul (a ^^^ b) c = mul a c ^^^ mul b c := mulN_add_left 8 a b c

/-- two additive functions that agree at the eight bits agree -/
theorem ext8 {f g : UInt8 → UInt8} (hf : ∀ a b, f (a ^^^ b) = f a ^^^ f b) (hg : ∀ a b, g (a ^^^ b) = g a ^^^ g b)
    (h : f 1 = g 1 ∧ f 2 = g 2 ∧ f 4 = g 4 ∧ f 8 = g 8 ∧ f 16 = g 16 ∧ f 32 = g 32 ∧ f 64 = g 64 ∧ f 128 = g 128) (a : UInt8) : f a = g a := by
  have f0 : f 0 = 0 := by have := hf 0 0; simpa using this
  have g0 : g 0 = 0 := by have := hg 0 0; simpa using this
  obtain ⟨h1, h2, h3, h4, h5, h6, h7, h8⟩ := h
  rw [← bits_sum a]
  simp only [hf, hg]
  congr 1
  · congr 1
    · congr 1
      · congr 1
        · congr 1
          · congr 1
            · congr 1
              · rcases bit1 a with e | e <;> rw [e] <;> simp only [f0, g0, h1]
              · rcases bit2 a with e | e <;> rw [e] <;> simp only [f0, g0, h2]
            · rcases bit4 a with e | e <;> rw [e] <;> simp only [f0, g0, h3]
          · rcases bit8 a with e | e <;> rw [e] <;> simp only [f0, g0, h4]
        · rcases bit16 a with e | e <;> rw [e] <;> simp only [f0, g0, h5]
      · rcases bit32 a with e | e <;> rw [e] <;> simp only [f0, g0, h6]
    · rcases bit64 a with e | e <;> rw [e] <;> simp only [f0, g0, h7]
  · rcases bit128 a with e | e <;> rw [e] <;> simp only [f0, g0, h8]

theorem mul_comm (a b : UInt8) : mul a b = mul b a := by
  refine ext8 (f := fun a => mul a b) (g := fun a => mul b a) (fun x y => add_mul x y b) (fun x y => mul_add b x y) ?_ a
  refine ⟨?_, ?_, ?_, ?_, ?_, ?_, ?_, ?_⟩ <;>
  · refine ext8 (f := fun b => mul _ b) (g := fun b => mul b _) (fun x y => mul_add _ x y) (fun x y => add_mul x y _) ?_ b
    decide +kernel

theorem mul_assoc (a b c : UInt8) : mul (mul a b) c = mul a (mul b c) := by
  refine ext8 (f := fun a => mul (mul a b) c) (g := fun a => mul a (mul b c)) (fun x y => by simp only [add_mul]) (fun x y => by simp only [add_mul]) ?_ a
  refine ⟨?_, ?_, ?_, ?_, ?_, ?_, ?_, ?_⟩ <;>
  · refine ext8 (f := fun b => mul (mul _ b) c) (g := fun b => mul _ (mul b c)) (fun x y => by simp only [add_mul, mul_add]) (fun x y => by simp only [add_mul, mul_add]) ?_ b
    refine ⟨?_, ?_, ?_, ?_, ?_, ?_, ?_, ?_⟩ <;>
    · refine ext8 (f := fun c => mul (mul _ _) c) (g := fun c => mul _ (mul _ c)) (fun x y => by simp only [mul_add]) (fun x y => by simp only [mul_add]) ?_ c
      decide +kernel

theorem mul_one (a : UInt8) : mul a 1 = a := by revert a; exact u8_all (by decide +kernel)
theorem one_mul (a : UInt8) : mul 1 a = a := by rw [mul_comm]; exact mul_one a
theorem mul_zero (a : UInt8) : mul a 0 = 0 := mulN_zero 8 a
theorem zero_mul (a : UInt8) : mul 0 a = 0 := by rw [mul_comm]; exact mul_zero a

/-- powers -/
def pw (a : UInt8) : Nat → UInt8
  | 0 => 1
  | n + 1 => mul (pw a n) a

theorem pw_add (a : UInt8) (m n : Nat) : pw a (m + n) = mul (pw a m) (pw a n) := by
  induction n with
  | zero => simp [pw, mul_one]
  | succ n ih => rw [← Nat.add_assoc]; simp only [pw, ih, mul_assoc]

theorem pw_sq (a : UInt8) (n : Nat) : pw (mul a a) n = pw a (2 * n) := by
  induction n with
  | zero => rfl
  | succ n ih =>
    have : 2 * (n + 1) = 2 * n + 1 + 1 := by omega
    rw [this]
    simp only [pw, ih, mul_assoc]

/-- squares and products: what the loop of the program does -/
def sqm : Nat → UInt8 → Nat → UInt8 → UInt8
  | 0, _, _, o => o
  | k + 1, a, n, o => sqm k (mul a a) (n / 2) (if n % 2 = 1 then mul o a else o)

theorem sqm_eq (k : Nat) : ∀ a n o, n < 2 ^ k → sqm k a n o = mul o (pw a n) := by
  induction k with
  | zero => intro a n o h; have : n = 0 := by omega
            subst this; simp [sqm, pw, mul_one]
  | succ k ih =>
    intro a n o h
    simp only [sqm]
    rw [ih _ _ _ (by omega), pw_sq]
    by_cases hn : n % 2 = 1
    · rw [if_pos hn]
      have e : n = 2 * (n / 2) + 1 := by omega
      rw [mul_assoc]
      congr 1
      conv => rhs; rw [e]
      rw [Nat.add_comm, pw_add]
      simp [pw, one_mul]
    · rw [if_neg hn]
      congr 2
      omega

theorem pw_succ (a : UInt8) (n : Nat) : pw a (n + 1) = mul (pw a n) a := rfl

/-- the inverses, written out (checked below) -/
def tab : List UInt8 := [
  0, 1, 142, 244, 71, 167, 122, 186, 173, 157, 221, 152, 61, 170, 93, 150, 216, 114, 192, 88, 224, 62, 76, 102, 144, 222, 85, 128, 160, 131, 75, 42,
  108, 237, 57, 81, 96, 86, 44, 138, 112, 208, 31, 74, 38, 139, 51, 110, 72, 137, 111, 46, 164, 195, 64, 94, 80, 34, 207, 169, 171, 12, 21, 225,
  54, 95, 248, 213, 146, 78, 166, 4, 48, 136, 43, 30, 22, 103, 69, 147, 56, 35, 104, 140, 129, 26, 37, 97, 19, 193, 203, 99, 151, 14, 55, 65,
  36, 87, 202, 91, 185, 196, 23, 77, 82, 141, 239, 179, 32, 236, 47, 50, 40, 209, 17, 217, 233, 251, 218, 121, 219, 119, 6, 187, 132, 205, 254, 252,
  27, 84, 161, 29, 124, 204, 228, 176, 73, 49, 39, 45, 83, 105, 2, 245, 24, 223, 68, 79, 155, 188, 15, 92, 11, 220, 189, 148, 172, 9, 199, 162,
  28, 130, 159, 198, 52, 194, 70, 5, 206, 59, 13, 60, 156, 8, 190, 183, 135, 229, 238, 107, 235, 242, 191, 175, 197, 100, 7, 123, 149, 154, 174, 182,
  18, 89, 165, 53, 101, 184, 163, 158, 210, 247, 98, 90, 133, 125, 168, 58, 41, 113, 200, 246, 249, 67, 215, 214, 16, 115, 118, 120, 153, 10, 25, 145,
  20, 63, 230, 240, 134, 177, 226, 241, 250, 116, 243, 180, 109, 33, 178, 106, 227, 231, 181, 234, 3, 143, 211, 201, 66, 212, 232, 117, 127, 255, 126, 253]

theorem has_inv (a : UInt8) (h : a ≠ 0) : ∃ j, mul a j = 1 := by
  refine ⟨tab.getD a.toNat 0, ?_⟩
  revert h
  revert a
  exact u8_all (by decide +kernel)

/-- the square -/
def sq (a : UInt8) : UInt8 := mul a a

theorem sq_add (a b : UInt8) : sq (a ^^^ b) = sq a ^^^ sq b := by
  unfold sq
  rw [add_mul, mul_add, mul_add, mul_comm b a, xor_4, UInt8.xor_comm (mul a b) (mul b b), ← xor_4, UInt8.xor_self, UInt8.xor_zero]

theorem sq8 (a : UInt8) : sq (sq (sq (sq (sq (sq (sq (sq a))))))) = a := by
  refine ext8 (f := fun a => sq (sq (sq (sq (sq (sq (sq (sq a)))))))) (g := fun a => a) (fun x y => by simp only [sq_add]) (fun _ _ => rfl) ?_ a
  decide +kernel

theorem pw_one (a : UInt8) : pw a 1 = a := by rw [show (1 : Nat) = 0 + 1 from rfl, pw_succ]; exact one_mul a

theorem sq_pw (a : UInt8) (n : Nat) : sq (pw a n) = pw a (n + n) := by rw [pw_add]; rfl

theorem pw_256 (a : UInt8) : pw a 256 = a := by
  have h := sq8 a
  rw [← pw_one a] at h
  simp only [sq_pw, Nat.reduceAdd] at h
  rw [pw_one] at h
  exact h

theorem pw_255 (a : UInt8) (h : a ≠ 0) : pw a 255 = 1 := by
  obtain ⟨j, hj⟩ := has_inv a h
  have h1 := pw_256 a
  rw [show (256 : Nat) = 255 + 1 from rfl, pw_succ] at h1
  have h2 := congrArg (fun x => mul x j) h1
  simp only [mul_assoc, hj, mul_one] at h2
  exact h2

theorem pw_mul255 (a : UInt8) (h : a ≠ 0) (q : Nat) : pw a (255 * q) = 1 := by
  induction q with
  | zero => rfl
  | succ q ih => rw [Nat.mul_succ, pw_add, ih, pw_255 a h, mul_one]

theorem pw_mod (a : UInt8) (h : a ≠ 0) (n : Nat) : pw a (n % 255) = pw a n := by
  conv => rhs; rw [← Nat.div_add_mod n 255]
  rw [pw_add, pw_mul255 a h, one_mul]

theorem pw_zero (n : Nat) (h : 0 < n) : pw 0 n = 0 := by
  cases n with
  | zero => omega
  | succ n => simp [pw, mul_zero]

/-- the inverse -/
def inv (a : UInt8) : UInt8 := pw a 254

theorem mul_inv (a : UInt8) (h : a ≠ 0) : mul a (inv a) = 1 := by
  have := pw_255 a h
  rw [show (255 : Nat) = 254 + 1 from rfl, pw_succ] at this
  rw [mul_comm]; exact this

theorem mul_div (a b : UInt8) (h : b ≠ 0) : mul (mul a b) (inv b) = a := by rw [mul_assoc, mul_inv b h, mul_one]

/-- the power of the program, of a whole number -/
def powZ (a : UInt8) (n : Int) : UInt8 := if n < 0 then 0 else pw a n.toNat

end Go.Proofs.YtphmpimgbmedbaaGreat.Fld
