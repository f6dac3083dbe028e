
/- The law's helpers at results that hold lists of lists: compared, marked, held. -/
import Derived.Test.YtcejdmggacjnoaaRows
import Derived.Test.YtcejdmggacjnoaaHelp
import Derived.Test.YtcejdmggacjnoaaBss
namespace Go.Proofs.Ytcejdmggacjnoaa
open Go.RowKit

theorem markGo_at {xs : List (List UInt8)} : ∀ {i : Nat} {y : List UInt8} {k : Int}, (markGo xs k)[i]? = some y → ∃ x, xs[i]? = some x ∧ y = markBL (k + sumLen (xs.take i)) x.length := by
  induction xs with
  | nil => intro i y k h; simp [markGo] at h
  | cons x xs ih =>
    intro i y k h
    cases i with
    | zero => simp [markGo] at h; exact ⟨x, by simp, by simp [sumLen, h]⟩
    | succ i =>
      simp only [markGo, List.getElem?_cons_succ] at h
      obtain ⟨z, h1, h2⟩ := ih h
      exact ⟨z, by simpa using h1, by rw [h2]; simp [sumLen, Int.add_assoc]⟩

theorem sumLen_le {B : Nat} : ∀ {xs : List (List UInt8)}, (∀ x ∈ xs, x.length ≤ B) → sumLen xs ≤ B * xs.length
  | [], _ => by simp [sumLen]
  | x :: xs, h => by
    have h1 := sumLen_le (xs := xs) (fun y hy => h y (by simp [hy]))
    have h2 := h x (by simp)
    show (x.length : Int) + sumLen xs ≤ (B : Int) * ((xs.length + 1 : Nat) : Int)
    rw [Int.natCast_add, Int.mul_add]
    omega

set_option maxRecDepth 100000 in
set_option maxHeartbeats 1000000 in
theorem heldBB_any (a : Option Addr) (la ca : Nat) (xs : List (List UInt8)) (f : List Nat) (k : Int) (w : World) (ha : byteL.slice.sl w a la ca (markGo xs k) f) (hk : 0 ≤ k) (hk2 : k + sumLen xs ≤ 4611686018427387904) :
    Calls Try.prog 25 #[.slice a la ca, .int .i64 k] w fun e w' => e = .returned (.int .i64 (k + sumLen xs)) ∧ Chg [] w w' := by
  have hm := byteL.slice.sl_max ha
  have hl := Lib.hid (show la = xs.length by rw [ha.1, markGo_length])
  have HA := Lib.hid ha
  have HK := Lib.hid hk2
  clear ha hk2
  go_enter Try.func25, Try.ntmps25
  go_wp2_with fail
  go_loopw [1, 5] (fun u v wr => ∃ (i : Nat) (z : Int) (Wr : World), Wr = wr ∧ i ≤ la ∧ u = .int .i64 z ∧ RowKit.Hid (z = k + sumLen (xs.take i)) ∧ v = .int .i64 i ∧ Chg [] w wr) (fun _ v _ => la - (intOf v).toNat)
  case atStart => exact ⟨0, k, _, rfl, by omega, rfl, by show k = k + 0; omega, rfl, Chg.refl _ _⟩
  case round =>
    obtain ⟨i, z, wr, rfl, hi, rfl, HZ, rfl, hc⟩ := hrel
    have HC := Lib.hid hc
    by_cases hlt : i < la
    · obtain ⟨y, b, o, A, ly, C, fy, HY, rfl, hcx, HYS⟩ := slc_at (byteL.slice.sl_ext HA.out hc) hlt
      obtain ⟨x, hx, hy⟩ := markGo_at HY.out.1
      have HX := Lib.hid hx
      have hly : ly = x.length := by rw [HYS.out.1, hy, markBL_length]
      have HLY := Lib.hid hly
      rw [← HZ.out] at hy
      have hz0 : 0 ≤ z := by rw [HZ.out]; have := sumLen_nonneg (xs.take i); omega
      have hz1 : z + ly ≤ 4611686018427387904 := by
        have h1 := sumLen_take_le xs (i + 1)
        rw [sumLen_take hx] at h1
        rw [HZ.out, hly]
        have := HK.out
        omega
      have HE := Lib.hid (heldB_any A ly C fy z wr (by rw [hly, ← hy, ← hly]; exact HYS.out) hz0 hz1)
      have HZ2 := Lib.hid (show z + (ly : Int) = k + sumLen (xs.take (i + 1)) by rw [sumLen_take hx, HZ.out, hly]; omega)
      have hzn : ¬ (z + (ly : Int) < 0) := by omega
      clear hc hx hy hly
      go_wp2_with fail
      refine HE.out.mono ?_; rintro e w1 ⟨rfl, hc1⟩
      have HC1 := Lib.hid (HC.out.trans0 hc1); clear hc1
      go_wp2_with fail
      go_roundw
      case rel => exact ⟨i + 1, z + ly, _, rfl, by omega, rfl, HZ2, by go_num, HC1.out⟩
      case measure => simp [intOf]; omega
    · obtain rfl : i = la := by omega
      have HR := Lib.hid (show z = k + sumLen xs by rw [HZ.out, List.take_of_length_le (by have := hl.out; omega)])
      clear hc
      go_wp2_with fail
      go_ret
      exact ⟨ret_int HR.out, HC.out⟩

set_option maxHeartbeats 400000 in
theorem eqListsResult_any (n : Int) (a b : Option Addr) (la ca cb : Nat) (xs : List (List UInt8)) (f g : List Nat) (w : World) (ha : byteL.slice.sl w a la ca xs f) (hb : byteL.slice.sl w b la cb xs g) :
    Calls Try.prog 9 #[.agg #[.int .i64 n, .slice a la ca], .agg #[.int .i64 n, .slice b la cb]] w fun e w' => e = .returned (.bool true) ∧ Chg [] w w' := by
  have hne : ((n : Int) != n) = false := by simp
  have HC := Lib.hid (((Chg.refl [] w).alloc (.cells #[.int .i64 n, .slice a la ca] 27)).alloc (.cells #[.int .i64 n, .slice b la cb] 27))
  have H1 := Lib.hid (eqBB_any a b la ca cb xs f g _ (byteL.slice.sl_ext ha HC.out) (byteL.slice.sl_ext hb HC.out))
  clear ha hb
  go_enter Try.func9, Try.ntmps9
  go_wp2_with fail
  refine H1.out.mono ?_
  rintro e w1 ⟨rfl, hc⟩
  have HN := Lib.hid (HC.out.trans0 hc)
  clear hc
  go_wp2_with fail
  go_ret
  exact ⟨rfl, HN.out⟩

set_option maxHeartbeats 400000 in
theorem markListsResult_any (n : Int) (a : Option Addr) (la ca : Nat) (xs : List (List UInt8)) (f : List Nat) (k : Int) (w : World) (ha : byteL.slice.sl w a la ca xs f) (hf : Fresh 0 w f) (hk : 0 ≤ k) (hk2 : k + sumLen xs ≤ 4611686018427387904) :
    Calls Try.prog 12 #[.agg #[.int .i64 n, .slice a la ca], .int .i64 k] w fun e w' => e = .returned (.int .i64 (k + sumLen xs)) ∧ byteL.slice.sl w' a la ca (markGo xs k) f ∧ Chg f w w' := by
  have HC := Lib.hid ((Chg.refl [] w).alloc (.cells #[.int .i64 n, .slice a la ca] 27))
  have H1 := Lib.hid (markBB_any a la ca xs f k _ (byteL.slice.sl_ext ha HC.out) (hf.chg HC.out) hk hk2)
  clear ha hf
  generalize sumLen xs = K at *
  generalize markGo xs k = M at *
  go_enter Try.func12, Try.ntmps12
  go_wp2_with fail
  refine H1.out.mono ?_
  rintro e w1 ⟨rfl, hs, hc⟩
  have HN := Lib.hid (And.intro hs ((HC.out.mono (T := f) (by simp)).trans hc (fun x hx => .inl hx)))
  clear hs hc
  go_wp2_with fail
  go_ret
  exact ⟨rfl, HN.out⟩

set_option maxHeartbeats 400000 in
theorem heldListsResult_any (n : Int) (a : Option Addr) (la ca : Nat) (xs : List (List UInt8)) (f : List Nat) (k : Int) (w : World) (ha : byteL.slice.sl w a la ca (markGo xs k) f) (hk : 0 ≤ k) (hk2 : k + sumLen xs ≤ 4611686018427387904) :
    Calls Try.prog 13 #[.agg #[.int .i64 n, .slice a la ca], .int .i64 k] w fun e w' => e = .returned (.int .i64 (k + sumLen xs)) ∧ Chg [] w w' := by
  have HC := Lib.hid ((Chg.refl [] w).alloc (.cells #[.int .i64 n, .slice a la ca] 27))
  have H1 := Lib.hid (heldBB_any a la ca xs f k _ (byteL.slice.sl_ext ha HC.out) hk hk2)
  have hn := sumLen_nonneg xs
  have hn2 : ¬ (k + sumLen xs < 0) := by omega
  clear ha
  generalize sumLen xs = K at *
  go_enter Try.func13, Try.ntmps13
  go_wp2_with fail
  refine H1.out.mono ?_
  rintro e w1 ⟨rfl, hc⟩
  have HN := Lib.hid (HC.out.trans0 hc)
  clear hc
  go_wp2_with fail
  go_ret
  exact ⟨rfl, HN.out⟩
end Go.Proofs.Ytcejdmggacjnoaa
