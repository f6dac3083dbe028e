
/- Parts of slices; EqualFunc over lists of bytes. -/
import Derived.Test.YtjnclggpaekdfaaRows
import Derived.Test.YtjnclggpaekdfaaSam
import Derived.Test.YtjnclggpaekdfaaBss
namespace Go.Proofs.Ytjnclggpaekdfaa
open Go.RowKit

theorem Lay.sl_take {α : Type} (L : Lay α) {w : World} {a : Option Addr} {len cap : Nat} {xs : List α} {fp : List Nat} (h : L.sl w a len cap xs fp) {n : Nat} (hn : n ≤ len) :
    ∃ f', (∀ b ∈ f', b ∈ fp) ∧ L.sl w a n cap (xs.take n) f' := by
  obtain ⟨h1, h2, h3, h4, ⟨rfl, rfl⟩ | ⟨b, off, cur, E, fr, fps, rfl, hb, hall, rfl⟩⟩ := h
  · simp only [List.length_nil] at h1
    obtain rfl : n = 0 := by omega
    exact ⟨[], by simp, rfl, by omega, h3, h4, .inl ⟨rfl, rfl⟩⟩
  · have hsp : L.all w ((cur.toList.drop off).take (len * L.n)) (xs.take n ++ xs.drop n) fps := by rw [List.take_append_drop]; exact hall
    obtain ⟨f1, f2, rfl, k1, k2⟩ := L.all_split hsp
    have hl : (xs.take n).length = n := by rw [List.length_take]; omega
    rw [hl, List.take_take, Nat.min_eq_left (Nat.mul_le_mul_right _ hn)] at k1
    exact ⟨b :: f1, by intro x hx; rcases List.mem_cons.1 hx with rfl | hx <;> simp [*], hl.symm, by omega, h3, h4, .inr ⟨b, off, cur, E, fr, f1, rfl, hb, k1, rfl⟩⟩
theorem Lay.sl_drop {α : Type} (L : Lay α) {w : World} {b off len cap : Nat} {xs : List α} {fp : List Nat} (h : L.sl w (some ⟨b, off, none⟩) len cap xs fp) {n : Nat} (hn : n ≤ len) :
    ∃ f', (∀ b ∈ f', b ∈ fp) ∧ L.sl w (some ⟨b, off + n * L.n, none⟩) (len - n) (cap - n) (xs.drop n) f' := by
  obtain ⟨h1, h2, h3, h4, ⟨rfl, rfl⟩ | ⟨b', off', cur, E, fr, fps, ha, hb, hall, rfl⟩⟩ := h
  · simp only [List.length_nil] at h1
    obtain rfl : n = 0 := by omega
    exact ⟨[], by simp, by simp; omega, by omega, by omega, (fun h => by cases h), .inl ⟨by simp, rfl⟩⟩
  · cases ha
    have hsp : L.all w ((cur.toList.drop off).take (len * L.n)) (xs.take n ++ xs.drop n) fps := by rw [List.take_append_drop]; exact hall
    obtain ⟨f1, f2, rfl, k1, k2⟩ := L.all_split hsp
    have hl : (xs.take n).length = n := by rw [List.length_take]; omega
    rw [hl, List.drop_take, List.drop_drop, ← Nat.sub_mul] at k2
    exact ⟨b :: f2, by intro x hx; rcases List.mem_cons.1 hx with rfl | hx <;> simp [*], by rw [List.length_drop]; omega, by omega, by omega, (fun h => by cases h), .inr ⟨b, _, cur, E, fr, f2, rfl, hb, k2, rfl⟩⟩
theorem Lay.sl_none {α : Type} (L : Lay α) (w : World) (a : Option Addr) : L.sl w a 0 0 [] [] := ⟨rfl, by omega, by simp [maxLen], fun _ => rfl, .inl ⟨rfl, rfl⟩⟩

theorem cf_bytesEqual : ∀ (args : Array Value) (w : World), (callFunc 72 args).run Try.prog w = .ok (.enter 72 args) w := fun _ _ => by go_simp
set_option maxRecDepth 100000 in
set_option maxHeartbeats 1000000 in
theorem eqF_any (a b : Option Addr) (la ca lb cb : Nat) (xs ys : List (List UInt8)) (f g : List Nat) (w : World) (ha : byteL.slice.sl w a la ca xs f) (hb : byteL.slice.sl w b lb cb ys g) :
    Calls Try.prog 71 #[.slice a la ca, .slice b lb cb, .func (.func 72) #[] #[]] w fun e w' => e = .returned (.bool (sameV xs ys)) ∧ Chg [] w w' := by
  have hla := byteL.slice.sl_max ha
  have hlb := byteL.slice.sl_max hb
  have HA := Lib.hid ha
  have HB := Lib.hid hb
  have HLA := Lib.hid ha.1
  have HLB := Lib.hid hb.1
  clear ha hb
  by_cases hl : la = lb
  · subst hl
    have hll : ((la : Int) != (la : Int)) = false := by simp
    go_enter Try.func71, Try.ntmps71
    go_wp2_with fail
    go_loopw [17] (fun vi wr => ∃ (k : Nat) (Wr : World), Wr = wr ∧ k ≤ la ∧ vi = .int .i64 k ∧ RowKit.Hid (xs.take k = ys.take k) ∧ Chg [] w wr) (fun vi _ => la - (intOf vi).toNat)
    case atStart => exact ⟨0, _, rfl, by omega, rfl, Lib.hid rfl, Chg.refl _ _⟩
    case round =>
      obtain ⟨k, wr, rfl, hk, rfl, HK, hc⟩ := hrel
      have HC := Lib.hid hc
      by_cases hlt : k < la
      · obtain ⟨x, bx, ox, A, lx, C, fx, HX, rfl, hcx, HXS⟩ := slc_at (byteL.slice.sl_ext HA.out hc) hlt
        obtain ⟨y, b2, o2, A2, ly, C2, f2, HY, rfl, hcy, HYS⟩ := slc_at (byteL.slice.sl_ext HB.out hc) hlt
        have hmx := byteL.sl_max HXS.out
        have hmy := byteL.sl_max HYS.out
        have HE := Lib.hid (byEq_any A A2 lx C ly C2 x y fx f2 wr HXS.out HYS.out)
        clear hc
        by_cases hxy : x = y
        · have HS := Lib.hid (sameV_true hxy)
          have HK2 := Lib.hid (show xs.take (k + 1) = ys.take (k + 1) by rw [take_next HX.out.1, take_next HY.out.1, HK.out, hxy])
          rw [HS.out] at HE
          clear hxy
          go_wp2_with fail
          refine HE.out.mono ?_; rintro e w2 ⟨rfl, hc2⟩
          have HC2 := Lib.hid (HC.out.trans0 hc2); clear hc2
          go_wp2_with fail
          go_roundw
          case rel => exact ⟨k + 1, _, rfl, by omega, by go_num, HK2, HC2.out⟩
          case measure => simp [intOf]; omega
        · have HS := Lib.hid (sameV_false hxy)
          have HR := Lib.hid (sameV_false (take_ne HX.out.1 HY.out.1 hxy))
          rw [HS.out] at HE
          clear hxy
          go_wp2_with fail
          refine HE.out.mono ?_; rintro e w2 ⟨rfl, hc2⟩
          have HC2 := Lib.hid (HC.out.trans0 hc2); clear hc2
          go_wp2_with fail
          go_ret
          exact ⟨by rw [HR.out]; rfl, HC2.out⟩
      · obtain rfl : k = la := by omega
        have HR := Lib.hid (sameV_true (show xs = ys by have := HK.out; rwa [List.take_of_length_le (by have := HLA.out; omega), List.take_of_length_le (by have := HLB.out; omega)] at this))
        clear hc
        go_wp2_with fail
        go_ret
        exact ⟨by rw [HR.out]; rfl, HC.out⟩
  · have hll : ((la : Int) != (lb : Int)) = true := by rw [bne_iff_ne]; omega
    have HR := Lib.hid (sameV_false (show xs ≠ ys from fun e => hl (by rw [HLA.out, HLB.out, e])))
    clear hl
    go_enter Try.func71, Try.ntmps71
    go_wp2_with fail
    go_ret
    exact ⟨by rw [HR.out]; rfl, Chg.refl _ _⟩
end Go.Proofs.Ytjnclggpaekdfaa
