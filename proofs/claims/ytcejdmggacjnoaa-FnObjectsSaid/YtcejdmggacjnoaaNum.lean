
/- The walks of the functions that reckon a number: quotients, the bytes of the codes, FactorOf, PartsFor, HomeOf. -/
import Derived.Test.YtcejdmggacjnoaaRows
import Derived.Test.YtcejdmggacjnoaaMul
import Derived.Test.YtcejdmggacjnoaaName
import Derived.Test.YtcejdmggacjnoaaShape
import Derived.Deep.RegionLaw
namespace Go.Proofs.Ytcejdmggacjnoaa
open Go.RowKit

def divRes (a b : UInt8) : Int × Int := if b = 0 then (6, 0) else (0, ((Fld.mul a (Fld.inv b)).toNat : Int))
theorem wrap64_u8 (a : UInt8) : wrap64 (a.toNat : Int) = (a.toNat : Int) := by have := UInt8.toNat_lt a; exact IntWalk.wrap64_in _ ⟨by omega, by omega⟩
theorem powZ_254 (a : UInt8) : Fld.powZ a 254 = Fld.inv a := rfl

/-- the byte of the codes in a row and a column -/
def cau (j i : Int) : UInt8 := Fld.inv (UInt8.ofNat (128 + j).toNat ^^^ UInt8.ofNat i.toNat)

theorem byte_of {n : Int} (h : 0 ≤ n) (h2 : n < 256) : n = ((UInt8.ofNat n.toNat).toNat : Int) := by rw [UInt8.toNat_ofNat']; omega
theorem cau_bits {j i : Int} (hj : 0 ≤ j) (hj2 : j < 128) (hi : 0 ≤ i) (hi2 : i < 256) : bits BinOp.xor IntKind.u8 (128 + j) i = ((UInt8.ofNat (128 + j).toNat ^^^ UInt8.ofNat i.toNat).toNat : Int) := by
  conv => lhs; rw [byte_of (n := 128 + j) (by omega) (by omega), byte_of hi hi2]
  exact bits_xor _ _


/-! ### FactorOf -/
def facRes (g c i j : Int) : Int × Int := if (inB g 1 4 && inB c 0 2) && inB i 0 (g - 1) && inB j 0 (c - 1) then (0, ((cau (8 + j) i).toNat : Int)) else (3, 0)


/-! ### PartsFor -/
def partsV (d n : Int) : Int × Int := if n < 1 then (0, 6) else if 12 * d < n then (0, 2) else ((n + 4 * d - 1) / (4 * d), 0)
def Shp.parts (s : Shp) (n : Int) : Int × Int := if s.ok then ((partsV s.data n).2, (partsV s.data n).1) else (3, 0)


set_option maxHeartbeats 1000000 in
theorem parts_any (s : Shp) (n : Int) (hd : 1 ≤ s.data) (hd2 : s.data ≤ 3) (hn : i64ok n) (w : World) :
    Calls Try.prog 37 #[.agg s.cells, .int .i64 n] w fun e w' => e = .returned (.tuple #[.int .i64 (partsV s.data n).1, .int .i64 (partsV s.data n).2]) ∧ Chg [] w w' := by
  obtain ⟨hn1, hn2⟩ := hn
  obtain ⟨g, c, d, p, r', q, b, u, t⟩ := s
  simp only at hd hd2 ⊢
  have h : d = 1 ∨ d = 2 ∨ d = 3 := by omega
  clear hd hd2
  rcases h with rfl | rfl | rfl
  · simp only [Shp.cells]
    by_cases h1 : n < 1
    · have HR := Lib.hid (show partsV 1 n = (0, 6) by rw [partsV, if_pos h1])
      generalize partsV 1 n = r at HR ⊢
      go_enter Try.func37, Try.ntmps37
      go_wp2
      go_ret2
      exact ⟨by rw [HR.out]; rfl, by repeat (first | exact Chg.refl _ _ | refine Chg.alloc ?_ _ | refine Chg.drewN ?_ _ | refine Chg.drew ?_)⟩
    · by_cases h2 : 12 < n
      · have HR := Lib.hid (show partsV 1 n = (0, 2) by rw [partsV, if_neg h1, if_pos (by omega)])
        generalize partsV 1 n = r at HR ⊢
        go_enter Try.func37, Try.ntmps37
        go_wp2
        go_ret2
        exact ⟨by rw [HR.out]; rfl, by repeat (first | exact Chg.refl _ _ | refine Chg.alloc ?_ _ | refine Chg.drewN ?_ _ | refine Chg.drew ?_)⟩
      · have HR := Lib.hid (show partsV 1 n = ((n - 1) / 4 + 1, 0) by rw [partsV, if_neg h1, if_neg (by omega)]; exact Prod.ext (by show _ / _ = _; omega) rfl)
        generalize partsV 1 n = r at HR ⊢
        go_enter Try.func37, Try.ntmps37
        go_wp2
        go_ret2
        exact ⟨by rw [HR.out]; rfl, by repeat (first | exact Chg.refl _ _ | refine Chg.alloc ?_ _ | refine Chg.drewN ?_ _ | refine Chg.drew ?_)⟩
  · simp only [Shp.cells]
    by_cases h1 : n < 1
    · have HR := Lib.hid (show partsV 2 n = (0, 6) by rw [partsV, if_pos h1])
      generalize partsV 2 n = r at HR ⊢
      go_enter Try.func37, Try.ntmps37
      go_wp2
      go_ret2
      exact ⟨by rw [HR.out]; rfl, by repeat (first | exact Chg.refl _ _ | refine Chg.alloc ?_ _ | refine Chg.drewN ?_ _ | refine Chg.drew ?_)⟩
    · by_cases h2 : 24 < n
      · have HR := Lib.hid (show partsV 2 n = (0, 2) by rw [partsV, if_neg h1, if_pos (by omega)])
        generalize partsV 2 n = r at HR ⊢
        go_enter Try.func37, Try.ntmps37
        go_wp2
        go_ret2
        exact ⟨by rw [HR.out]; rfl, by repeat (first | exact Chg.refl _ _ | refine Chg.alloc ?_ _ | refine Chg.drewN ?_ _ | refine Chg.drew ?_)⟩
      · have HR := Lib.hid (show partsV 2 n = ((n - 1) / 8 + 1, 0) by rw [partsV, if_neg h1, if_neg (by omega)]; exact Prod.ext (by show _ / _ = _; omega) rfl)
        generalize partsV 2 n = r at HR ⊢
        go_enter Try.func37, Try.ntmps37
        go_wp2
        go_ret2
        exact ⟨by rw [HR.out]; rfl, by repeat (first | exact Chg.refl _ _ | refine Chg.alloc ?_ _ | refine Chg.drewN ?_ _ | refine Chg.drew ?_)⟩
  · simp only [Shp.cells]
    by_cases h1 : n < 1
    · have HR := Lib.hid (show partsV 3 n = (0, 6) by rw [partsV, if_pos h1])
      generalize partsV 3 n = r at HR ⊢
      go_enter Try.func37, Try.ntmps37
      go_wp2
      go_ret2
      exact ⟨by rw [HR.out]; rfl, by repeat (first | exact Chg.refl _ _ | refine Chg.alloc ?_ _ | refine Chg.drewN ?_ _ | refine Chg.drew ?_)⟩
    · by_cases h2 : 36 < n
      · have HR := Lib.hid (show partsV 3 n = (0, 2) by rw [partsV, if_neg h1, if_pos (by omega)])
        generalize partsV 3 n = r at HR ⊢
        go_enter Try.func37, Try.ntmps37
        go_wp2
        go_ret2
        exact ⟨by rw [HR.out]; rfl, by repeat (first | exact Chg.refl _ _ | refine Chg.alloc ?_ _ | refine Chg.drewN ?_ _ | refine Chg.drew ?_)⟩
      · have HR := Lib.hid (show partsV 3 n = ((n - 1) / 12 + 1, 0) by rw [partsV, if_neg h1, if_neg (by omega)]; exact Prod.ext (by show _ / _ = _; omega) rfl)
        generalize partsV 3 n = r at HR ⊢
        go_enter Try.func37, Try.ntmps37
        go_wp2
        go_ret2
        exact ⟨by rw [HR.out]; rfl, by repeat (first | exact Chg.refl _ _ | refine Chg.alloc ?_ _ | refine Chg.drewN ?_ _ | refine Chg.drew ?_)⟩


set_option maxHeartbeats 1000000 in
theorem l4Long_any (s : Shp) (n : Int) (hd : 1 ≤ s.data) (hd2 : s.data ≤ 3) (hn : i64ok n) (w : World) :
    Calls Try.prog 39 #[.agg s.cells, .int .i64 n] w fun e w' => e = .returned (.int .i64 (partsV s.data n).2) ∧ Chg [] w w' := by
  obtain ⟨hn1, hn2⟩ := hn
  obtain ⟨g, c, d, p, r', q, b, u, t⟩ := s
  simp only at hd hd2 ⊢
  have h : d = 1 ∨ d = 2 ∨ d = 3 := by omega
  clear hd hd2
  rcases h with rfl | rfl | rfl
  · simp only [Shp.cells]
    by_cases h1 : n < 1
    · have HR := Lib.hid (show partsV 1 n = (0, 6) by rw [partsV, if_pos h1])
      generalize partsV 1 n = r at HR ⊢
      go_enter Try.func39, Try.ntmps39
      go_wp2
      go_ret
      exact ⟨by rw [HR.out]; rfl, by repeat (first | exact Chg.refl _ _ | refine Chg.alloc ?_ _ | refine Chg.drewN ?_ _ | refine Chg.drew ?_)⟩
    · by_cases h2 : 12 < n
      · have HR := Lib.hid (show partsV 1 n = (0, 2) by rw [partsV, if_neg h1, if_pos (by omega)])
        generalize partsV 1 n = r at HR ⊢
        go_enter Try.func39, Try.ntmps39
        go_wp2
        go_ret
        exact ⟨by rw [HR.out]; rfl, by repeat (first | exact Chg.refl _ _ | refine Chg.alloc ?_ _ | refine Chg.drewN ?_ _ | refine Chg.drew ?_)⟩
      · have HR := Lib.hid (show partsV 1 n = ((n - 1) / 4 + 1, 0) by rw [partsV, if_neg h1, if_neg (by omega)]; exact Prod.ext (by show _ / _ = _; omega) rfl)
        generalize partsV 1 n = r at HR ⊢
        go_enter Try.func39, Try.ntmps39
        go_wp2
        go_ret
        exact ⟨by rw [HR.out]; rfl, by repeat (first | exact Chg.refl _ _ | refine Chg.alloc ?_ _ | refine Chg.drewN ?_ _ | refine Chg.drew ?_)⟩
  · simp only [Shp.cells]
    by_cases h1 : n < 1
    · have HR := Lib.hid (show partsV 2 n = (0, 6) by rw [partsV, if_pos h1])
      generalize partsV 2 n = r at HR ⊢
      go_enter Try.func39, Try.ntmps39
      go_wp2
      go_ret
      exact ⟨by rw [HR.out]; rfl, by repeat (first | exact Chg.refl _ _ | refine Chg.alloc ?_ _ | refine Chg.drewN ?_ _ | refine Chg.drew ?_)⟩
    · by_cases h2 : 24 < n
      · have HR := Lib.hid (show partsV 2 n = (0, 2) by rw [partsV, if_neg h1, if_pos (by omega)])
        generalize partsV 2 n = r at HR ⊢
        go_enter Try.func39, Try.ntmps39
        go_wp2
        go_ret
        exact ⟨by rw [HR.out]; rfl, by repeat (first | exact Chg.refl _ _ | refine Chg.alloc ?_ _ | refine Chg.drewN ?_ _ | refine Chg.drew ?_)⟩
      · have HR := Lib.hid (show partsV 2 n = ((n - 1) / 8 + 1, 0) by rw [partsV, if_neg h1, if_neg (by omega)]; exact Prod.ext (by show _ / _ = _; omega) rfl)
        generalize partsV 2 n = r at HR ⊢
        go_enter Try.func39, Try.ntmps39
        go_wp2
        go_ret
        exact ⟨by rw [HR.out]; rfl, by repeat (first | exact Chg.refl _ _ | refine Chg.alloc ?_ _ | refine Chg.drewN ?_ _ | refine Chg.drew ?_)⟩
  · simp only [Shp.cells]
    by_cases h1 : n < 1
    · have HR := Lib.hid (show partsV 3 n = (0, 6) by rw [partsV, if_pos h1])
      generalize partsV 3 n = r at HR ⊢
      go_enter Try.func39, Try.ntmps39
      go_wp2
      go_ret
      exact ⟨by rw [HR.out]; rfl, by repeat (first | exact Chg.refl _ _ | refine Chg.alloc ?_ _ | refine Chg.drewN ?_ _ | refine Chg.drew ?_)⟩
    · by_cases h2 : 36 < n
      · have HR := Lib.hid (show partsV 3 n = (0, 2) by rw [partsV, if_neg h1, if_pos (by omega)])
        generalize partsV 3 n = r at HR ⊢
        go_enter Try.func39, Try.ntmps39
        go_wp2
        go_ret
        exact ⟨by rw [HR.out]; rfl, by repeat (first | exact Chg.refl _ _ | refine Chg.alloc ?_ _ | refine Chg.drewN ?_ _ | refine Chg.drew ?_)⟩
      · have HR := Lib.hid (show partsV 3 n = ((n - 1) / 12 + 1, 0) by rw [partsV, if_neg h1, if_neg (by omega)]; exact Prod.ext (by show _ / _ = _; omega) rfl)
        generalize partsV 3 n = r at HR ⊢
        go_enter Try.func39, Try.ntmps39
        go_wp2
        go_ret
        exact ⟨by rw [HR.out]; rfl, by repeat (first | exact Chg.refl _ _ | refine Chg.alloc ?_ _ | refine Chg.drewN ?_ _ | refine Chg.drew ?_)⟩


set_option maxHeartbeats 400000 in
theorem l4Wide_any (s : Shp) (hd : 1 ≤ s.data) (hd2 : s.data ≤ 3) (w : World) :
    Calls Try.prog 41 #[.agg s.cells] w fun e w' => e = .returned (.int .i64 (s.data * 4)) ∧ w.alloc (.cells s.cells 29) = w' := by
  obtain ⟨g, c, d, p, r', q, b, u, t⟩ := s
  simp only [Shp.cells] at *
  go_enter Try.func41, Try.ntmps41
  go_wp2
  go_ret
  exact ⟨rfl, rfl⟩


theorem parts_wrap (n k : Int) (hn : 0 ≤ n) (hn2 : n ≤ 1000000000) (hk : 1 ≤ k) (hk2 : k ≤ 12) : IntKind.i64.wrap ((IntKind.i64.wrap (IntKind.i64.wrap (n + k) - 1)).tdiv k) = (n + k - 1) / k := by
  rw [IntWalk.i64_in (n + k) ⟨by omega, by omega⟩, IntWalk.i64_in (n + k - 1) ⟨by omega, by omega⟩, Int.tdiv_eq_ediv_of_nonneg (by omega)]
  have h1 : 0 ≤ (n + k - 1) / k := Int.ediv_nonneg (by omega) (by omega)
  have h2 : (n + k - 1) / k ≤ n + k - 1 := Int.ediv_le_self _ (by omega)
  exact IntWalk.i64_in _ ⟨by omega, by omega⟩
set_option maxRecDepth 100000 in
set_option maxHeartbeats 1000000 in
theorem l4Parts_any (s : Shp) (n : Int) (hd : 1 ≤ s.data) (hd2 : s.data ≤ 3) (hn : 0 ≤ n) (hn2 : n ≤ 1000000000) (w : World) :
    Calls Try.prog 40 #[.agg s.cells, .int .i64 n] w fun e w' => e = .returned (.int .i64 ((n + 4 * s.data - 1) / (4 * s.data))) ∧ Chg [] w w' := by
  have HW := Lib.hid (l4Wide_any s hd hd2)
  obtain ⟨g, c, d, p, r', q, b, u, t⟩ := s
  simp only [Shp.cells] at *
  have h : d = 1 ∨ d = 2 ∨ d = 3 := by omega
  clear hd hd2
  rcases h with rfl | rfl | rfl
  all_goals
    go_enter Try.func40, Try.ntmps40
    go_wp2_with fail
    go_region_law (go_simp; go_at_call 41; refine (HW.out _).mono ?_; rintro e w' ⟨rfl, rfl⟩)
    all_goals (go_wp2; go_ret)
    all_goals refine ⟨ret_int ?_, by repeat (first | exact Chg.refl _ _ | refine Chg.alloc ?_ _ | refine Chg.drewN ?_ _ | refine Chg.drew ?_)⟩
    all_goals (first | rw [parts_wrap n 4 (by omega) (by omega) (by omega) (by omega)] | rw [parts_wrap n 8 (by omega) (by omega) (by omega) (by omega)] | rw [parts_wrap n 12 (by omega) (by omega) (by omega) (by omega)])
    all_goals rfl


theorem partsV_cases (d n : Int) (h : 1 ≤ d) (h2 : d ≤ 3) : partsV d n = (0, 6) ∨ partsV d n = (0, 2) ∨ (partsV d n = ((n + 4 * d - 1) / (4 * d), 0) ∧ 1 ≤ n ∧ n ≤ 36) := by
  unfold partsV; split
  · exact .inl rfl
  · split
    · exact .inr (.inl rfl)
    · exact .inr (.inr ⟨rfl, by omega, by omega⟩)
theorem new_alloc2 (w : World) (x y : Obj) : ((w.alloc x).alloc y).heap[w.heap.size + 1]? = some y := by
  have h := new_alloc (w.alloc x) y
  simpa using h
theorem div_mul4 (d n : Int) : (n + 4 * d - 1) / (4 * d) = (n + 4 * d - 1) / (d * 4) := by rw [Int.mul_comm d 4]


set_option maxHeartbeats 1000000 in
theorem impl_partsFor (s : Shp) (n : Int) (hn : i64ok n) (w : World) :
    Calls Try.prog 18 #[.agg s.cells, .int .i64 n] w fun e w' => e = .returned (.agg #[.int .i64 (s.parts n).1, .int .i64 (s.parts n).2]) ∧ Chg [] w w' := by
  have HF := Lib.hid (@impl_shape s)
  by_cases h : s.ok
  · have HR := Lib.hid (show s.parts n = ((partsV s.data n).2, (partsV s.data n).1) by rw [Shp.parts, if_pos h])
    have HZ := Lib.hid (show s.fault = 0 by rw [Shp.fault, if_pos h])
    have HP := Lib.hid (@parts_any s n h.2.2.1.1 h.2.2.1.2 hn)
    generalize partsV s.data n = q at HR HP
    generalize s.parts n = r at HR ⊢
    clear h hn
    obtain ⟨q1, q2⟩ := q
    simp only at HP HR
    obtain ⟨g, c, d, p, r, q, b, u, t⟩ := s
    simp only [Shp.cells] at HF HP ⊢
    go_enter Try.func18, Try.ntmps18
    go_wp2_with (go_at_call 36; refine (HF.out _).mono ?_; rintro e w' ⟨rfl, rfl⟩; rw [HZ.out])
    refine (HP.out _).mono ?_; rintro e w1 ⟨rfl, hc⟩
    have hB2 := hc.keep0 (keep_alloc (keep_alloc (new_alloc _ _) _) _); have c2 := cellsOf hB2; have f2 := freeOf hB2; have l2 := ltOf hB2; have H2 := Lib.hid hB2; clear hB2
    have hB4 := hc.keep0 (keep_alloc (new_alloc2 _ _ _) _); have c4 := cellsOf hB4; have f4 := freeOf hB4; have l4 := ltOf hB4; have H4 := Lib.hid hB4; clear hB4
    have HC := Lib.hid ((((Chg.refl [] w).alloc _).alloc _).alloc _ |>.trans0 hc); clear hc
    go_wp2_with fail
    refine bodyPost_ret (v := .agg #[.int .i64 q2, .int .i64 q1]) (by simp [results, Try.results18, go_sem, c4]) rfl ?_
    exact ⟨by rw [HR.out], by repeat (first | exact HC.out | refine Chg.setCell ?_ _ _ (.inr (by simp)) | refine Chg.alloc ?_ _)⟩
  · have HR := Lib.hid (show s.parts n = (3, 0) by rw [Shp.parts, if_neg h])
    have HZ := Lib.hid (show s.fault = 3 by rw [Shp.fault, if_neg h])
    generalize s.parts n = r at HR ⊢
    clear h
    obtain ⟨g, c, d, p, r, q, b, u, t⟩ := s
    simp only [Shp.cells] at HF ⊢
    go_enter Try.func18, Try.ntmps18
    go_wp2_with (go_at_call 36; refine (HF.out _).mono ?_; rintro e w' ⟨rfl, rfl⟩; rw [HZ.out])
    go_returns
    exact ⟨by rw [HR.out], by repeat (first | exact Chg.refl _ _ | refine Chg.alloc ?_ _)⟩


set_option maxHeartbeats 1000000 in
theorem spec_partsFor (s : Shp) (n : Int) (hn : i64ok n) (w : World) :
    Calls Try.prog 19 #[.agg s.cells, .int .i64 n] w fun e w' => e = .returned (.agg #[.int .i64 (s.parts n).1, .int .i64 (s.parts n).2]) ∧ Chg [] w w' := by
  have HF := Lib.hid (@spec_shape s)
  by_cases h : s.ok
  · have HR := Lib.hid (show s.parts n = ((partsV s.data n).2, (partsV s.data n).1) by rw [Shp.parts, if_pos h])
    have HZ := Lib.hid (show s.fault = 0 by rw [Shp.fault, if_pos h])
    have HP := Lib.hid (@l4Long_any s n h.2.2.1.1 h.2.2.1.2 hn)
    have hcs := partsV_cases s.data n h.2.2.1.1 h.2.2.1.2
    have HL := Lib.hid (fun (h1 : 1 ≤ n) (h2 : n ≤ 36) => @l4Parts_any s n h.2.2.1.1 h.2.2.1.2 (by omega) (by omega))
    generalize partsV s.data n = q at HR HP hcs
    generalize s.parts n = r at HR ⊢
    clear h hn
    obtain ⟨g, c, d, p, r, q, b, u, t⟩ := s
    simp only [Shp.cells] at HF HP HL hcs ⊢
    rcases hcs with rfl | rfl | ⟨rfl, h1, h2⟩
    · go_enter Try.func19, Try.ntmps19
      go_wp2_with (go_at_call 38; refine (HF.out _).mono ?_; rintro e w' ⟨rfl, rfl⟩; rw [HZ.out])
      refine (HP.out _).mono ?_; rintro e w1 ⟨rfl, hc⟩
      have hB2 := hc.keep0 (keep_alloc (keep_alloc (new_alloc _ _) _) _); have c2 := cellsOf hB2; have f2 := freeOf hB2; have l2 := ltOf hB2; have H2 := Lib.hid hB2; clear hB2
      have hB4 := hc.keep0 (keep_alloc (new_alloc2 _ _ _) _); have c4 := cellsOf hB4; have f4 := freeOf hB4; have l4 := ltOf hB4; have H4 := Lib.hid hB4; clear hB4
      have HC := Lib.hid ((((Chg.refl [] w).alloc _).alloc _).alloc _ |>.trans0 hc); clear hc
      go_wp2_with fail
      refine bodyPost_ret (v := .agg #[.int .i64 6, .int .i64 0]) (by simp [results, Try.results19, go_sem, c4]) rfl ?_
      exact ⟨by rw [HR.out], by repeat (first | exact HC.out | refine Chg.setCell ?_ _ _ (.inr (by simp)) | refine Chg.alloc ?_ _)⟩
    · go_enter Try.func19, Try.ntmps19
      go_wp2_with (go_at_call 38; refine (HF.out _).mono ?_; rintro e w' ⟨rfl, rfl⟩; rw [HZ.out])
      refine (HP.out _).mono ?_; rintro e w1 ⟨rfl, hc⟩
      have hB2 := hc.keep0 (keep_alloc (keep_alloc (new_alloc _ _) _) _); have c2 := cellsOf hB2; have f2 := freeOf hB2; have l2 := ltOf hB2; have H2 := Lib.hid hB2; clear hB2
      have hB4 := hc.keep0 (keep_alloc (new_alloc2 _ _ _) _); have c4 := cellsOf hB4; have f4 := freeOf hB4; have l4 := ltOf hB4; have H4 := Lib.hid hB4; clear hB4
      have HC := Lib.hid ((((Chg.refl [] w).alloc _).alloc _).alloc _ |>.trans0 hc); clear hc
      go_wp2_with fail
      refine bodyPost_ret (v := .agg #[.int .i64 2, .int .i64 0]) (by simp [results, Try.results19, go_sem, c4]) rfl ?_
      exact ⟨by rw [HR.out], by repeat (first | exact HC.out | refine Chg.setCell ?_ _ _ (.inr (by simp)) | refine Chg.alloc ?_ _)⟩
    · have HL2 := Lib.hid (HL.out h1 h2)
      generalize (n + 4 * d - 1) / (4 * d) = z at HR HL2
      clear h1 h2 HL
      go_enter Try.func19, Try.ntmps19
      go_wp2_with (go_at_call 38; refine (HF.out _).mono ?_; rintro e w' ⟨rfl, rfl⟩; rw [HZ.out])
      refine (HP.out _).mono ?_; rintro e w1 ⟨rfl, hc⟩
      have hB2 := hc.keep0 (keep_alloc (keep_alloc (new_alloc _ _) _) _); have c2 := cellsOf hB2; have f2 := freeOf hB2; have l2 := ltOf hB2; have H2 := Lib.hid hB2; clear hB2
      have hB4 := hc.keep0 (keep_alloc (new_alloc2 _ _ _) _); have c4 := cellsOf hB4; have f4 := freeOf hB4; have l4 := ltOf hB4; have H4 := Lib.hid hB4; clear hB4
      have HC := Lib.hid ((((Chg.refl [] w).alloc _).alloc _).alloc _ |>.trans0 hc); clear hc
      go_wp2_with fail
      refine (HL2.out _).mono ?_; rintro e w2 ⟨rfl, hc⟩
      have hB4 := hc.keep0 H4.out; clear c4 f4 l4 c2 f2 l2 H4; have c4 := cellsOf hB4; have f4 := freeOf hB4; have l4 := ltOf hB4; have H4 := Lib.hid hB4; clear hB4
      have h := HC.out.trans0 hc; clear HC hc; have HC := Lib.hid h; clear h
      go_wp2_with fail
      refine bodyPost_ret (v := .agg #[.int .i64 0, .int .i64 z]) (by simp [results, Try.results19, go_sem, c4]) rfl ?_
      exact ⟨by rw [HR.out], by repeat (first | exact HC.out | refine Chg.setCell ?_ _ _ (.inr (by simp)) | refine Chg.alloc ?_ _)⟩
  · have HR := Lib.hid (show s.parts n = (3, 0) by rw [Shp.parts, if_neg h])
    have HZ := Lib.hid (show s.fault = 3 by rw [Shp.fault, if_neg h])
    generalize s.parts n = r at HR ⊢
    clear h
    obtain ⟨g, c, d, p, r, q, b, u, t⟩ := s
    simp only [Shp.cells] at HF ⊢
    go_enter Try.func19, Try.ntmps19
    go_wp2_with (go_at_call 38; refine (HF.out _).mono ?_; rintro e w' ⟨rfl, rfl⟩; rw [HZ.out])
    go_returns
    exact ⟨by rw [HR.out], by repeat (first | exact Chg.refl _ _ | refine Chg.alloc ?_ _)⟩


/-! ### HomeOf -/
/-- the sum of the first bytes of a text -/
def upTo (s : ByteArray) : Nat → Int
  | 0 => 0
  | k + 1 => upTo s k + (if h : k < s.size then (s[k].toNat : Int) else 0)
theorem upTo_next {s : ByteArray} {k : Nat} (h : k < s.size) : upTo s (k + 1) = upTo s k + (s[k].toNat : Int) := by rw [upTo, dif_pos h]
theorem upTo_bound (s : ByteArray) (k : Nat) : 0 ≤ upTo s k ∧ upTo s k ≤ 255 * k := by
  induction k with
  | zero => exact ⟨Int.le_refl _, Int.le_refl _⟩
  | succ k ih =>
    rw [upTo]
    split
    · rename_i h
      have := UInt8.toNat_lt s[k]
      omega
    · omega
noncomputable def Shp.home (s : Shp) (n : ByteArray) : Int × Int := if s.ok then (if nameFault n = 0 then (0, upTo n n.size % s.groups) else (5, 0)) else (3, 0)


end Go.Proofs.Ytcejdmggacjnoaa
