/- Several texts in one. -/
import Derived.Test.YtjnclggpaekdfaaMa
import Derived.Test.YtjnclggpaekdfaaDcd
import Derived.Test.YtjnclggpaekdfaaEco
import Derived.Test.YtjnclggpaekdfaaSub
import Derived.Test.YtjnclggpaekdfaaReg
import Derived.Deep.RegionLaw
import Derived.Test.YtjnclggpaekdfaaCol
import Derived.Test.YtjnclggpaekdfaaDesM
import Derived.Test.YtjnclggpaekdfaaRow
/- The draws of chapter 3: lists, the arguments of EncodeColumn. -/
namespace Go.Proofs.Ytjnclggpaekdfaa
open Go.RowKit

/-- lists that are drawn, all of one length -/
def ListsPost (b : Nat) (a : Option Addr) (la ca : Nat) (xs : List UInt8) (f : List Nat) (t n : Int) (w : World) (e : Ending) (w' : World) : Prop :=
  ∃ (A : Option Addr) (C : Nat) (L : List (List UInt8)), e = .returned (.slice A L.length C) ∧ L.length = n.toNat ∧ (∀ x ∈ L, x.length ≤ 6) ∧ RowsF w.heap.size w'.heap.size L.length w' A C L ∧ SrcB b a la ca xs f (t + 1 + 18 * n.toNat) w' ∧ Chg [b] w w'
set_option maxRecDepth 100000 in
set_option maxHeartbeats 1000000 in
theorem lists_any (b : Nat) (a : Option Addr) (la ca : Nat) (xs : List UInt8) (f : List Nat) (t n : Int) (w : World) (h : SrcB b a la ca xs f t w) (hn2 : n ≤ 5) (ht : t ≤ 1073000000) :
    Calls Try.prog 28 #[.pointer (some ⟨b, 0, none⟩), .int .i64 n] w (ListsPost b a la ca xs f t n w) := by
  obtain ⟨K, _⟩ := kindLL
  have HH := Lib.hid h
  have hlb := h.lt
  have HFB := Lib.hid (fun x hx => byteL.sl_lt h.2.1 x hx : ∀ x ∈ f, x < w.heap.size)
  clear h
  obtain ⟨m, hm⟩ : ∃ m, m = n.toNat := ⟨_, rfl⟩
  have HM := Lib.hid hm
  have hnm : n ≤ (m : Int) := by omega
  have hm5 : m ≤ 5 := by omega
  clear hm
  go_enter Try.func28, Try.ntmps28
  go_wp2_with fail
  refine (next_any b a la ca xs f t 6 _ (HH.out.ext ((Chg.refl [] w).alloc _)) (by omega) (by omega) (by omega)).mono ?_
  rintro e w1 ⟨v, rfl, hd, hs1, hc1⟩
  have hv0 := hd.1; have hv1 := hd.2.1 (by omega)
  obtain ⟨s, rfl⟩ : ∃ s : Nat, v = (s : Int) := ⟨v.toNat, by omega⟩
  have HS1 := Lib.hid hs1
  have HC1 := Lib.hid (show Chg [b] w w1 from ((Chg.refl [b] w).alloc _).trans hc1 (fun x hx => .inl hx))
  have HG1 := Lib.hid ((GrowC.made (L := byteL.slice) (E := 22) (Nat.le_refl w.heap.size)).chg hc1 (fun x hx => by rw [List.mem_singleton] at hx; rw [hx]; exact hlb))
  clear hs1 hc1 hd
  go_wp2_with fail
  go_loopw [1, 5] (fun vn vo wr => ∃ (k : Nat) (L : List (List UInt8)) (Wr : World), Wr = wr ∧ k ≤ m ∧ vn = .int .i64 (n - k) ∧ RowKit.Hid (L.length = k ∧ ∀ x ∈ L, x.length ≤ 6) ∧ GrowC byteL.slice 22 w.heap.size wr vo L ∧ SrcB b a la ca xs f (t + 1 + 18 * k) wr ∧ Chg [b] w wr) (fun vn _ _ => (intOf vn).toNat)
  case atStart => exact ⟨0, [], _, rfl, by omega, by simp, ⟨rfl, by simp⟩, HG1.out, by simpa using HS1.out, HC1.out⟩
  case round =>
    obtain ⟨k, L, wr, rfl, hk, rfl, HL, hg, hs, hc⟩ := hrel
    have HG := Lib.hid hg; have HS := Lib.hid hs; have HC := Lib.hid hc
    clear hg hs hc
    by_cases hlt : 0 < n - (k : Int)
    · have HLL := Lib.hid (show L.length + [([] : List UInt8)].length ≤ maxLen ∧ (L.length + [([] : List UInt8)].length) * 24 ≤ 140737488355328 by have := HL.out.1; simp only [List.length_singleton, maxLen]; omega)
      go_wp2_with fail
      refine (some_any b a la ca xs f (t + 1 + 18 * k) (1 + (s : Int)) wr HS.out (by omega) (by omega) (by omega) (by omega)).mono ?_
      rintro e w5 ⟨A5, C5, g5, ys, rfl, hy5, hs5, hf5, hr5, hc5⟩
      obtain ⟨yl, hyl⟩ : ∃ yl, yl = ys.length := ⟨_, rfl⟩
      rw [← hyl] at hs5 hy5 ⊢
      have hy6 : yl ≤ 6 := by omega
      have HY := Lib.hid hyl
      have HG5 := Lib.hid ((HG.out.b.chg hc5 (fun x hx => by rw [List.mem_singleton] at hx; rw [hx]; exact hlb)).ext ((Chg.refl [] w5).alloc (.cells #[.slice A5 yl C5] 22)))
      have HA5 := Lib.hid (slc_all1' (byteL.sl_ext hs5 ((Chg.refl [] w5).alloc (.cells #[.slice A5 yl C5] 22))))
      have HF5 := Lib.hid (hf5.chg ((Chg.refl [] w5).alloc (.cells #[.slice A5 yl C5] 22)))
      have HS5 := Lib.hid ((hr5.mono (show t + 1 + 18 * (k : Int) + 3 * ((1 + (s : Int)).toNat : Int) ≤ t + 1 + 18 * ((k + 1 : Nat) : Int) by omega)).ext ((Chg.refl [] w5).alloc (.cells #[.slice A5 yl C5] 22)))
      have HC5 := Lib.hid ((HC.out.trans hc5 (fun x hx => .inl hx)).alloc (.cells #[.slice A5 yl C5] 22))
      clear hy5 hs5 hf5 hr5 hc5 hyl
      go_wp2_with (at_builtin; (refine GrowB.wpList (L := byteL.slice) rfl _ _ 24 rfl Try.underlying24 K rfl HG5.out ⟨w5.heap.size, 0, none⟩ 1 1 [.slice A5 yl C5] (ys := [ys]) (f := g5) rfl rfl (new_cell w5 (.slice A5 yl C5) 22) HA5.out HF5.out HLL.out.1 HLL.out.2 ?_; intro v' w6 hg' hup; have HG6 := Lib.hid hg'; have HU := Lib.hid hup; clear hg' hup))
      go_roundw
      case rel => exact ⟨k + 1, L ++ [ys], _, rfl, by have := HM.out; omega, by go_num, ⟨by rw [List.length_append, HL.out.1]; rfl, fun x hx => by rcases List.mem_append.1 hx with hx | hx; exact HL.out.2 x hx; rw [List.mem_singleton] at hx; subst hx; rw [← HY.out]; exact hy6⟩, HG6.out, HS5.out.keep (n := w.heap.size) HU.out.low hlb HFB.out, HU.out.chg HC5.out (Nat.le_refl _)⟩
      case measure => simp [intOf]; omega
    · obtain ⟨A, C, g, rfl, hsl, hf⟩ := HG.out.sl
      obtain rfl : k = m := by have := HM.out; omega
      rw [HL.out.1] at hsl ⊢
      have HSL := Lib.hid hsl; have HF := Lib.hid hf
      clear hsl hf
      go_wp2_with fail
      go_ret
      exact ⟨A, C, L, by rw [HL.out.1]; rfl, by rw [HL.out.1]; exact HM.out, HL.out.2, ⟨g, by rw [HL.out.1]; exact HSL.out, HF.out, byteL.slice.sl_lt HSL.out⟩, HS.out.mono (by have := HM.out; omega), HC.out⟩
theorem one_row {w : World} {A : Option Addr} {l C : Nat} {y : List UInt8} {f : List Nat} (E : TypeId) (h : byteL.sl w A l C y f) : byteL.slice.sl (w.alloc (.cells #[.slice A l C] E)) (some ⟨w.heap.size, 0, none⟩) 1 1 [y] (w.heap.size :: f) :=
  ⟨rfl, Nat.le_refl _, by simp [maxLen], (fun h => by cases h), .inr ⟨w.heap.size, 0, _, E, (0, 0), f, rfl, new_alloc w _, slc_all1' (byteL.sl_ext h ((Chg.refl [] w).alloc _)), rfl⟩⟩
/-- the arguments that are drawn for EncodeColumn -/
def EncDraw (w0 : World) (e : Ending) (w' : World) : Prop :=
  ∃ (c : Int) (A : Option Addr) (C : Nat) (L : List (List UInt8)) (fl : List Nat), e = .returned (.tuple #[.slice A L.length C, .int .i64 c]) ∧ (-1 ≤ c ∧ c ≤ 3) ∧ L.length ≤ 5 ∧ (∀ x ∈ L, x.length ≤ 4001) ∧ byteL.slice.sl w' A L.length C L fl ∧ Chg [] w0 w'
set_option maxRecDepth 100000 in
set_option maxHeartbeats 4000000 in
theorem drawEnc_any (a : Option Addr) (la ca : Nat) (xs : List UInt8) (f : List Nat) (w : World) (ha : byteL.sl w a la ca xs f) (hla : la ≤ 1048576) :
    Calls Try.prog 7 #[.slice a la ca] w (EncDraw w) := by
  have HA := Lib.hid ha
  clear ha
  go_enter Try.func7, Try.ntmps7
  go_wp2_with fail
  refine (source_any a la ca xs f _ HA.out hla).mono ?_
  rintro e w1 ⟨rfl, hs1, hc1⟩
  have HS1 := Lib.hid hs1; have HC1 := Lib.hid hc1
  obtain ⟨b, hb⟩ : ∃ b, b = w.heap.size := ⟨_, rfl⟩
  rw [← hb] at HS1 ⊢
  have HB := Lib.hid hb
  have HCB := Lib.hid (fun (u v : World) (h : Chg [] w u) (h2 : Chg [b] u v) => (show Chg [] w v from h.trans h2 (fun x hx => .inr (by rw [List.mem_singleton] at hx; have := HB.out; omega))))
  clear hs1 hc1 hb
  go_wp2_with fail
  refine (sides_any b a la ca xs f 0 _ HS1.out (by omega)).mono ?_
  rintro e w2 ⟨g, c, rfl, hg, hc, hs2, hc2⟩
  have HS2 := Lib.hid hs2
  have HC2 := Lib.hid (HCB.out _ _ HC1.out hc2)
  clear hs2 hc2
  go_wp2_with fail
  refine (lists_any b a la ca xs f (0 + 3) g _ HS2.out (by omega) (by omega)).mono ?_
  rintro e w3 ⟨A, C, L, rfl, hl, hx6, hrw, hs3, hc3⟩
  have hb2 := HS2.out.lt
  have HS3 := Lib.hid (hs3.mono (show (0 : Int) + 3 + 1 + 18 * (g.toNat : Int) ≤ 94 by omega))
  have HC3 := Lib.hid (HCB.out _ _ HC2.out hc3)
  have HR3 := Lib.hid hrw
  have hz23 := hc3.size
  have hwz2 := HC2.out.size
  have HX6 := Lib.hid hx6
  obtain ⟨ll, hll⟩ : ∃ ll, ll = L.length := ⟨_, rfl⟩
  rw [← hll] at HR3 hl ⊢
  have hl5 : ll ≤ 5 := by omega
  have HLL := Lib.hid hll
  have hbw : b < w2.heap.size := hb2
  clear hs3 hc3 hrw hx6 hll hl hb2
  by_cases h1 : 1 < ll
  · go_wp2_with fail
    refine (chance_any b a la ca xs f 94 14 _ HS3.out (by omega) (by omega) (by omega)).mono ?_
    rintro e w4 ⟨v, rfl, hs4, hc4⟩
    have HS4 := Lib.hid hs4
    have HC4 := Lib.hid (HCB.out _ _ HC3.out hc4)
    have HR4 := Lib.hid (HR3.out.chg hc4 (fun x hx => by rw [List.mem_singleton] at hx; rw [hx]; exact hbw))
    have hz4 := hc4.size
    have hz24 := Nat.le_trans hz23 hz4
    clear hs4 hc4
    cases v
    · skip
      go_wp2_with fail
      refine (chance_any b a la ca xs f (94 + 1) 40 _ HS4.out (by omega) (by omega) (by omega)).mono ?_
      rintro e w7 ⟨u7, rfl, hs7, hc7⟩
      have HS7 := Lib.hid hs7
      have HC7 := Lib.hid (HCB.out _ _ HC4.out hc7)
      have HR7 := Lib.hid (HR4.out.chg hc7 (fun x hx => by rw [List.mem_singleton] at hx; rw [hx]; exact hbw))
      clear hs7 hc7
      cases u7
      · go_wp2_with fail
        go_ret2
        obtain ⟨gg, hg1, -, -⟩ := HR7.out
        exact ⟨c, A, C, L, gg, by rw [← HLL.out]; rfl, hc, by rw [← HLL.out]; exact hl5, (fun x hx => Nat.le_trans (HX6.out x hx) (by omega)), by rw [← HLL.out]; exact hg1, HC7.out⟩
      · go_wp2_with fail
        refine (next_any b a la ca xs f ((94 + 1) + 1) 2 _ HS7.out (by omega) (by omega) (by omega)).mono ?_
        rintro e w8 ⟨v8, rfl, hd8, hs8, hc8⟩
        have hv80 := hd8.1; have hv81 := hd8.2.1 (by omega)
        have HC8 := Lib.hid (HCB.out _ _ HC7.out hc8)
        obtain ⟨n8, hn8⟩ : ∃ n8 : Nat, 4000 + v8 = (n8 : Int) := ⟨(4000 + v8).toNat, by omega⟩
        have hn81 : n8 ≤ 4001 := by omega
        have hmk : ∀ w : World, (Instr.makeSlice 22 (.int .i64 (4000 + v8)) (.int .i64 (4000 + v8))).run Try.prog w = .ok (.slice (some ⟨w.heap.size, 0, none⟩) n8 n8) (w.alloc (.cells (zrow (.int .u8 0) n8) 5)) := fun w => by rw [hn8]; exact make_bytes n8 (by omega) w
        have HZ := Lib.hid (one_row 22 (byte_zrow w8 5 n8 (by omega)))
        clear hs8 hc8 hd8 hn8
        go_wp2_with fail
        go_ret2
        exact ⟨c, some ⟨w8.heap.size + 1, 0, none⟩, 1, [List.replicate n8 0], _, rfl, hc, by simp, (fun x hx => by rw [List.mem_singleton] at hx; subst hx; rw [List.length_replicate]; exact hn81), by simpa using HZ.out, (HC8.out.alloc _).alloc _⟩
    · go_wp2_with fail
      refine (some_any b a la ca xs f (94 + 1) 9 w4 HS4.out (by omega) (by omega) (by omega) (by omega)).mono ?_
      rintro e w5 ⟨A5, C5, g5, ys, rfl, hy5, hs5, hf5, hr5, hc5⟩
      have hy9 : ys.length = 9 := hy5
      rw [hy9] at hs5 ⊢
      have hr4 := HR4.out.chg hc5 (fun x hx => by rw [List.mem_singleton] at hx; rw [hx]; exact hbw)
      obtain ⟨x0, B0, o0, X0, l0, c0, f0, HX0, rfl, hcx0, -⟩ := RowsF.row hr4 (show 0 < ll by omega)
      have hfz : ∀ j, w5.frozen? ⟨B0, j, none⟩ = false := (by obtain ⟨cur, E, hw⟩ := HX0.out.2.2.1; exact freeOf hw)
      have hB0 := HX0.out.2.1
      have hl0 : 0 < ll := by omega
      rw [Nat.add_zero] at hcx0
      have HP := Lib.hid ((hr4.up hz4).put (C2 := C5) (A2 := A5) (y := ys) hl0 (by rw [hy9]; exact hs5) hf5 hz24)
      have HS5 := Lib.hid hr5
      have HC5 := Lib.hid (HCB.out _ _ HC4.out hc5)
      have HY9 := Lib.hid hy9
      clear hy5 hs5 hf5 hr5 hc5 hr4 hy9
      go_wp2_with fail
      rw [HY9.out] at HP
      have HS6 := Lib.hid ((HS5.out.mono (show (94 : Int) + 1 + 3 * ((9 : Int).toNat : Int) ≤ 94 + 1 + 27 by simp)).keep (n := w2.heap.size) (w' := w5.setCell ⟨B0, o0, none⟩ (.slice A5 9 C5)) (fun q hq => Below.heap_setCell _ _ _ _ (by intro e; subst e; exact Nat.lt_irrefl _ (Nat.lt_of_lt_of_le hq hB0))) hbw (fun x hx => by have := byteL.sl_lt HA.out x hx; omega))
      have HC6 := Lib.hid (show Chg [] w (w5.setCell ⟨B0, o0, none⟩ (.slice A5 9 C5)) from HC5.out.setCell _ _ (.inr (by show w.heap.size ≤ B0; omega)))
      have HLS := Lib.hid (show ll = (L.set 0 ys).length by rw [List.length_set]; exact HLL.out)
      refine (chance_any b a la ca xs f (94 + 1 + 27) 40 _ HS6.out (by omega) (by omega) (by omega)).mono ?_
      rintro e w7 ⟨u7, rfl, hs7, hc7⟩
      have HS7 := Lib.hid hs7
      have HC7 := Lib.hid (HCB.out _ _ HC6.out hc7)
      have HR7 := Lib.hid (HP.out.chg hc7 (fun x hx => by rw [List.mem_singleton] at hx; rw [hx]; exact hbw))
      clear hs7 hc7
      cases u7
      · go_wp2_with fail
        go_ret2
        obtain ⟨gg, hg1, -, -⟩ := HR7.out
        exact ⟨c, some ⟨B0, o0, none⟩, C, L.set 0 ys, gg, by rw [← HLS.out]; rfl, hc, by rw [← HLS.out]; exact hl5, (fun x hx => Nat.le_trans (set_len (k := 9) (fun y hy => Nat.le_trans (HX6.out y hy) (by omega)) (by have := HY9.out; omega) x hx) (by omega)), by rw [← HLS.out]; exact hg1, HC7.out⟩
      · go_wp2_with fail
        refine (next_any b a la ca xs f (94 + 1 + 27 + 1) 2 _ HS7.out (by omega) (by omega) (by omega)).mono ?_
        rintro e w8 ⟨v8, rfl, hd8, hs8, hc8⟩
        have hv80 := hd8.1; have hv81 := hd8.2.1 (by omega)
        have HC8 := Lib.hid (HCB.out _ _ HC7.out hc8)
        obtain ⟨n8, hn8⟩ : ∃ n8 : Nat, 4000 + v8 = (n8 : Int) := ⟨(4000 + v8).toNat, by omega⟩
        have hn81 : n8 ≤ 4001 := by omega
        have hmk : ∀ w : World, (Instr.makeSlice 22 (.int .i64 (4000 + v8)) (.int .i64 (4000 + v8))).run Try.prog w = .ok (.slice (some ⟨w.heap.size, 0, none⟩) n8 n8) (w.alloc (.cells (zrow (.int .u8 0) n8) 5)) := fun w => by rw [hn8]; exact make_bytes n8 (by omega) w
        have HZ := Lib.hid (one_row 22 (byte_zrow w8 5 n8 (by omega)))
        clear hs8 hc8 hd8 hn8
        go_wp2_with fail
        go_ret2
        exact ⟨c, some ⟨w8.heap.size + 1, 0, none⟩, 1, [List.replicate n8 0], _, rfl, hc, by simp, (fun x hx => by rw [List.mem_singleton] at hx; subst hx; rw [List.length_replicate]; exact hn81), by simpa using HZ.out, (HC8.out.alloc _).alloc _⟩
  · skip
    go_wp2_with fail
    refine (chance_any b a la ca xs f 94 40 _ HS3.out (by omega) (by omega) (by omega)).mono ?_
    rintro e w7 ⟨u7, rfl, hs7, hc7⟩
    have HS7 := Lib.hid hs7
    have HC7 := Lib.hid (HCB.out _ _ HC3.out hc7)
    have HR7 := Lib.hid (HR3.out.chg hc7 (fun x hx => by rw [List.mem_singleton] at hx; rw [hx]; exact hbw))
    clear hs7 hc7
    cases u7
    · go_wp2_with fail
      go_ret2
      obtain ⟨gg, hg1, -, -⟩ := HR7.out
      exact ⟨c, A, C, L, gg, by rw [← HLL.out]; rfl, hc, by rw [← HLL.out]; exact hl5, (fun x hx => Nat.le_trans (HX6.out x hx) (by omega)), by rw [← HLL.out]; exact hg1, HC7.out⟩
    · go_wp2_with fail
      refine (next_any b a la ca xs f (94 + 1) 2 _ HS7.out (by omega) (by omega) (by omega)).mono ?_
      rintro e w8 ⟨v8, rfl, hd8, hs8, hc8⟩
      have hv80 := hd8.1; have hv81 := hd8.2.1 (by omega)
      have HC8 := Lib.hid (HCB.out _ _ HC7.out hc8)
      obtain ⟨n8, hn8⟩ : ∃ n8 : Nat, 4000 + v8 = (n8 : Int) := ⟨(4000 + v8).toNat, by omega⟩
      have hn81 : n8 ≤ 4001 := by omega
      have hmk : ∀ w : World, (Instr.makeSlice 22 (.int .i64 (4000 + v8)) (.int .i64 (4000 + v8))).run Try.prog w = .ok (.slice (some ⟨w.heap.size, 0, none⟩) n8 n8) (w.alloc (.cells (zrow (.int .u8 0) n8) 5)) := fun w => by rw [hn8]; exact make_bytes n8 (by omega) w
      have HZ := Lib.hid (one_row 22 (byte_zrow w8 5 n8 (by omega)))
      clear hs8 hc8 hd8 hn8
      go_wp2_with fail
      go_ret2
      exact ⟨c, some ⟨w8.heap.size + 1, 0, none⟩, 1, [List.replicate n8 0], _, rfl, hc, by simp, (fun x hx => by rw [List.mem_singleton] at hx; subst hx; rw [List.length_replicate]; exact hn81), by simpa using HZ.out, (HC8.out.alloc _).alloc _⟩
end Go.Proofs.Ytjnclggpaekdfaa

/- The program's and the reference's ColumnFits. -/
namespace Go.Proofs.Ytjnclggpaekdfaa
open Go.RowKit

/-- what ColumnFits tells of lists that are not too long -/
noncomputable def fitsV (xs : List (List UInt8)) (c : Int) : Bool :=
  if inB c 0 2 = false then false else if (inB (xs.length - c) 1 4 && inB c 0 2) = false then false else if ¬ Alike xs then false
  else sameV (parL (xs.take (xs.length - c.toNat)) (xs.headD []).length c.toNat) (xs.drop (xs.length - c.toNat))
theorem Alike.take {xs : List (List UInt8)} {n0 g : Nat} (h : ∀ x ∈ xs, x.length = n0) : ∀ x ∈ xs.take g, x.length = n0 := fun x hx => h x (List.mem_of_mem_take hx)

set_option maxRecDepth 100000 in
set_option maxHeartbeats 2000000 in
theorem fits_any (a : Option Addr) (la ca g c n0 : Nat) (xs : List (List UInt8)) (f : List Nat) (w : World) (ha : byteL.slice.sl w a la ca xs f) (hg : 1 ≤ g) (hg4 : g ≤ 4) (hc2 : c ≤ 2) (hgc : la = g + c) (hn0 : n0 ≤ 140737488355327) (hx0 : RowKit.Hid ((xs.headD []).length = n0)) :
    Calls Try.prog 40 #[.agg #[.int .i64 g, .int .i64 c], .slice a la ca] w fun e w' => e = .returned (.bool (if Alike xs then sameV (parL (xs.take g) n0 c) (xs.drop g) else false)) ∧ Chg [] w w' := by
  have hla := byteL.slice.sl_max ha
  have HA := Lib.hid ha
  have HL := Lib.hid ha.1
  have hlc := ha.2.1
  have hcm := ha.2.2.1
  clear ha
  have h0 : 0 < la := by omega
  obtain ⟨x0, b0, o0, A0, n0', C0, f0, HX0, rfl, hc0, HXS0⟩ := slc_at HA.out h0
  clear hc0 HX0 HXS0
  have hB0 := new_alloc w (.cells #[.int .i64 g, .int .i64 c] 57)
  have HB0 := Lib.hid hB0
  have hC0 := ((Chg.refl [] w).alloc (.cells #[.int .i64 g, .int .i64 c] 57)).drew
  have HC0 := Lib.hid hC0
  have HAl := Lib.hid ((alike_any (some ⟨b0, o0, none⟩) la ca xs f _ (byteL.slice.sl_ext HA.out hC0) h0).mono (R' := fun e w' => e = .returned (.bool (decide (Alike xs))) ∧ Chg [] (w.alloc (.cells #[.int .i64 g, .int .i64 c] 57)).drew w') (fun e w' h => ⟨h.1, h.2 ▸ (Chg.refl [] _).alloc _⟩))
  clear hB0 hC0
  have HB0' := Lib.hid (show (w.alloc (.cells #[.int .i64 g, .int .i64 c] 57)).drew.heap[w.heap.size]? = some (.cells #[.int .i64 g, .int .i64 c] 57 (0, 0)) from HB0.out)
  have hmm : maxLen = 9223372036854775807 := rfl
  rw [hmm] at hcm
  have HMM := Lib.hid hmm
  clear hmm
  by_cases h2 : Alike xs
  · have HD := Lib.hid (show decide (Alike xs) = true by simp [h2])
    have HAll := Lib.hid (show ∀ x ∈ xs, x.length = n0 from fun x hx => by rw [h2 x hx, hx0.out])
    rw [HD.out] at HAl
    rw [if_pos h2]
    obtain ⟨f1, hf1, hs1⟩ := byteL.slice.sl_take HA.out (n := g) (by omega)
    have HT := Lib.hid hs1
    obtain ⟨f2, hf2, hs2⟩ := byteL.slice.sl_drop HA.out (n := g) (by omega)
    have HDR := Lib.hid (show byteL.slice.sl w (some ⟨b0, o0 + g, none⟩) c (ca - g) (xs.drop g) f2 by have := hs2; rw [show la - g = c by omega, show g * byteL.slice.n = g from Nat.mul_one g] at this; exact this)
    have HAT := Lib.hid (Alike.take (g := g) HAll.out)
    obtain ⟨r, hr⟩ : ∃ r, r = sameV (parL (xs.take g) n0 c) (xs.drop g) := ⟨_, rfl⟩
    rw [← hr]
    have HR := Lib.hid hr
    have hle : ((g : Int) ≤ (ca : Int)) := by omega
    have hle2 : ((g : Int) ≤ (la : Int)) := by omega
    have HGC := Lib.hid hgc
    clear h2 hs1 hs2 hf1 hf2 hr
    have HPL := Lib.hid (parL_length (xs.take g) n0 c)
    clear hgc
    have HLG := Lib.hid (show la - g = c by have := HGC.out; omega)
    by_cases hcg : ca = g
    · have hcg2 : (ca : Int) = (g : Int) := by omega
      have hc0 : c = 0 := by have := HGC.out; omega
      have HDR2 := Lib.hid (show byteL.slice.sl w (some ⟨b0, o0, none⟩) 0 0 (xs.drop g) [] by
        have h2 : xs.drop g = [] := by rw [List.drop_eq_nil_iff]; have := HL.out; have := HGC.out; omega
        rw [h2]
        exact byteL.slice.sl_none w _)
      have HC00 := Lib.hid hc0
      clear hc0 hcg2
      have hgc2 := hcg.symm
      subst hgc2
      go_enter Try.func40, Try.ntmps40
      go_wp2_with fail
      obtain ⟨SS1, hSS⟩ : ∃ S : World → Prop, S = fun w' => Know w.heap.size #[.int .i64 g, .int .i64 c] w' := ⟨_, rfl⟩
      have HSI1 := Lib.hid (fun w' (h : Know w.heap.size #[.int .i64 g, .int .i64 c] w') => (by rw [hSS]; exact h : SS1 w'))
      have HSO1 := Lib.hid (fun w' (h : SS1 w') => (by rw [hSS] at h; exact h : Know w.heap.size #[.int .i64 g, .int .i64 c] w'))
      clear hSS
      have hS0 := HSI1.out (w.alloc (.cells #[.int .i64 g, .int .i64 c] 57)).drew (Know.of HB0'.out)
      refine rg_start SS1 (by kernel_rfl) hS0 ?_
      refine rg_take 0 (v := ?_) rfl (by kernel_rfl) (fun _ _ _ h => h) hS0 (by rfl) ?_ ?_
      rotate_left
      · intro w hSw; clear hSw; go_simp; (try with_reducible rfl)
      simp only [Act.put, List.setIfInBounds_toArray, List.set_cons_zero, List.set_cons_succ]
      refine rg_call 1 rfl (by kernel_rfl) (fun K hK => ?_)
      go_simp
      go_at_call 34
      refine HAl.out.mono ?_; rintro e w1 ⟨rfl, hc1⟩
      have HB1 := Lib.hid (hc1.keep0 HB0'.out); have HN1 := Lib.hid (HC0.out.trans0 hc1); clear hc1
      go_wp2_with fail
      refine hK.out _ _ (HSI1.out _ (Know.of HB1.out)) (fun hS1 => ?_)
      clear hK K
      try simp only [Act.put, List.setIfInBounds_toArray, List.set_cons_zero, List.set_cons_succ]
      refine rg_take 2 (v := ?_) rfl (by kernel_rfl) (fun _ _ _ h => h) hS1 (by rfl) ?_ ?_
      rotate_left
      · intro w hSw; clear hSw; go_simp; (try with_reducible rfl)
      simp only [Act.put, List.setIfInBounds_toArray, List.set_cons_zero, List.set_cons_succ]
      refine rg_take 3 (v := ?_) rfl (by kernel_rfl) (fun _ _ _ h => h) hS1 (by rfl) ?_ ?_
      rotate_left
      · intro w hSw; obtain k0 := HSO1.out w hSw; (try unfold Know at k0); go_simp; (try with_reducible rfl)
      simp only [Act.put, List.setIfInBounds_toArray, List.set_cons_zero, List.set_cons_succ]
      refine rg_take 4 (v := ?_) rfl (by kernel_rfl) (fun _ _ _ h => h) hS1 (by rfl) ?_ ?_
      rotate_left
      · intro w hSw; clear hSw; go_simp; (try with_reducible rfl)
      simp only [Act.put, List.setIfInBounds_toArray, List.set_cons_zero, List.set_cons_succ]
      refine rg_take 5 (v := ?_) rfl (by kernel_rfl) (fun _ _ _ h => h) hS1 (by rfl) ?_ ?_
      rotate_left
      · intro w hSw; clear hSw; go_simp; (try with_reducible rfl)
      simp only [Act.put, List.setIfInBounds_toArray, List.set_cons_zero, List.set_cons_succ]
      refine rg_take 6 (v := ?_) rfl (by kernel_rfl) (fun _ _ _ h => h) hS1 (by rfl) ?_ ?_
      rotate_left
      · intro w hSw; obtain k0 := HSO1.out w hSw; (try unfold Know at k0); go_simp; (try with_reducible rfl)
      simp only [Act.put, List.setIfInBounds_toArray, List.set_cons_zero, List.set_cons_succ]
      refine rg_take 7 (v := ?_) rfl (by kernel_rfl) (fun _ _ _ h => h) hS1 (by rfl) ?_ ?_
      rotate_left
      · intro w hSw; clear hSw; go_simp; (try with_reducible rfl)
      simp only [Act.put, List.setIfInBounds_toArray, List.set_cons_zero, List.set_cons_succ]
      refine rg_take 9 (v := ?_) rfl (by kernel_rfl) (fun _ _ _ h => h) hS1 (by rfl) ?_ ?_
      rotate_left
      · intro w hSw; clear hSw; go_simp; (try with_reducible rfl)
      simp only [Act.put, List.setIfInBounds_toArray, List.set_cons_zero, List.set_cons_succ]
      refine rg_take 10 (v := ?_) rfl (by kernel_rfl) (fun _ _ _ h => h) hS1 (by rfl) ?_ ?_
      rotate_left
      · intro w hSw; clear hSw; go_simp; (try with_reducible rfl)
      simp only [Act.put, List.setIfInBounds_toArray, List.set_cons_zero, List.set_cons_succ]
      refine rg_take 11 (v := ?_) rfl (by kernel_rfl) (fun _ _ _ h => h) hS1 (by rfl) ?_ ?_
      rotate_left
      · intro w hSw; obtain k0 := HSO1.out w hSw; (try unfold Know at k0); go_simp; (try with_reducible rfl)
      simp only [Act.put, List.setIfInBounds_toArray, List.set_cons_zero, List.set_cons_succ]
      refine rg_take 12 (v := ?_) rfl (by kernel_rfl) (fun _ _ _ h => h) hS1 (by rfl) ?_ ?_
      rotate_left
      · intro w hSw; clear hSw; go_simp; (try with_reducible rfl)
      simp only [Act.put, List.setIfInBounds_toArray, List.set_cons_zero, List.set_cons_succ]
      refine rg_call 8 rfl (by kernel_rfl) (fun K hK => ?_)
      go_simp
      go_at_call 35
      refine (parity_any _ g _ n0 c _ f1 w1 (byteL.slice.sl_ext HT.out HN1.out) hg hg4 hc2 hn0 HAT).mono ?_; rintro e w2 ⟨a2, c2, fp2, rfl, hs2, hf2, hc2'⟩; rw [HPL.out] at hs2 ⊢
      have HB2 := Lib.hid (hc2'.keep0 HB1.out); have HN2 := Lib.hid (And.intro hs2 (HN1.out.trans0 hc2')); clear hs2 hf2 hc2'
      go_wp2_with fail
      refine hK.out _ _ (HSI1.out _ (Know.of HB2.out)) (fun hS2 => ?_)
      clear hK K
      try simp only [Act.put, List.setIfInBounds_toArray, List.set_cons_zero, List.set_cons_succ]
      refine rg_call 13 rfl (by kernel_rfl) (fun K hK => ?_)
      go_simp
      go_at_call 71
      refine (eqF_any a2 (some ⟨b0, o0, none⟩) c c2 0 0 _ _ fp2 [] w2 HN2.out.1 (byteL.slice.sl_ext HDR2.out HN2.out.2)).mono ?_; rintro e w3 ⟨rfl, hc3⟩
      have HB3 := Lib.hid (hc3.keep0 HB2.out); have HN3 := Lib.hid (HN2.out.2.trans0 hc3); clear hc3
      go_wp2_with fail
      refine hK.out _ _ (HSI1.out _ (Know.of HB3.out)) (fun hS3 => ?_)
      clear hK K
      try simp only [Act.put, List.setIfInBounds_toArray, List.set_cons_zero, List.set_cons_succ]
      refine rg_take 14 (v := ?_) rfl (by kernel_rfl) (fun _ _ _ h => h) hS3 (by rfl) ?_ ?_
      rotate_left
      · intro w hSw; clear hSw; go_simp; (try with_reducible rfl)
      simp only [Act.put, List.setIfInBounds_toArray, List.set_cons_zero, List.set_cons_succ]
      refine rg_take 15 (v := ?_) rfl (by kernel_rfl) (fun _ _ _ h => h) hS3 (by rfl) ?_ ?_
      rotate_left
      · intro w hSw; clear hSw; go_simp; (try with_reducible rfl)
      simp only [Act.put, List.setIfInBounds_toArray, List.set_cons_zero, List.set_cons_succ]
      refine wpAnyH_done (by kernel_rfl) ?_ _
      go_wp2_with fail
      go_ret
      exact ⟨by rw [HR.out]; rfl, HN3.out⟩
    · have hcg2 : ¬ (ca : Int) = (g : Int) := by omega
      go_enter Try.func40, Try.ntmps40
      go_wp2_with fail
      obtain ⟨SS1, hSS⟩ : ∃ S : World → Prop, S = fun w' => Know w.heap.size #[.int .i64 g, .int .i64 c] w' := ⟨_, rfl⟩
      have HSI1 := Lib.hid (fun w' (h : Know w.heap.size #[.int .i64 g, .int .i64 c] w') => (by rw [hSS]; exact h : SS1 w'))
      have HSO1 := Lib.hid (fun w' (h : SS1 w') => (by rw [hSS] at h; exact h : Know w.heap.size #[.int .i64 g, .int .i64 c] w'))
      clear hSS
      have hS0 := HSI1.out (w.alloc (.cells #[.int .i64 g, .int .i64 c] 57)).drew (Know.of HB0'.out)
      refine rg_start SS1 (by kernel_rfl) hS0 ?_
      refine rg_take 0 (v := ?_) rfl (by kernel_rfl) (fun _ _ _ h => h) hS0 (by rfl) ?_ ?_
      rotate_left
      · intro w hSw; clear hSw; go_simp; (try with_reducible rfl)
      simp only [Act.put, List.setIfInBounds_toArray, List.set_cons_zero, List.set_cons_succ]
      refine rg_call 1 rfl (by kernel_rfl) (fun K hK => ?_)
      go_simp
      go_at_call 34
      refine HAl.out.mono ?_; rintro e w1 ⟨rfl, hc1⟩
      have HB1 := Lib.hid (hc1.keep0 HB0'.out); have HN1 := Lib.hid (HC0.out.trans0 hc1); clear hc1
      go_wp2_with fail
      refine hK.out _ _ (HSI1.out _ (Know.of HB1.out)) (fun hS1 => ?_)
      clear hK K
      try simp only [Act.put, List.setIfInBounds_toArray, List.set_cons_zero, List.set_cons_succ]
      refine rg_take 2 (v := ?_) rfl (by kernel_rfl) (fun _ _ _ h => h) hS1 (by rfl) ?_ ?_
      rotate_left
      · intro w hSw; clear hSw; go_simp; (try with_reducible rfl)
      simp only [Act.put, List.setIfInBounds_toArray, List.set_cons_zero, List.set_cons_succ]
      refine rg_take 3 (v := ?_) rfl (by kernel_rfl) (fun _ _ _ h => h) hS1 (by rfl) ?_ ?_
      rotate_left
      · intro w hSw; obtain k0 := HSO1.out w hSw; (try unfold Know at k0); go_simp; (try with_reducible rfl)
      simp only [Act.put, List.setIfInBounds_toArray, List.set_cons_zero, List.set_cons_succ]
      refine rg_take 4 (v := ?_) rfl (by kernel_rfl) (fun _ _ _ h => h) hS1 (by rfl) ?_ ?_
      rotate_left
      · intro w hSw; clear hSw; go_simp; (try with_reducible rfl)
      simp only [Act.put, List.setIfInBounds_toArray, List.set_cons_zero, List.set_cons_succ]
      refine rg_take 5 (v := ?_) rfl (by kernel_rfl) (fun _ _ _ h => h) hS1 (by rfl) ?_ ?_
      rotate_left
      · intro w hSw; clear hSw; go_simp; (try with_reducible rfl)
      simp only [Act.put, List.setIfInBounds_toArray, List.set_cons_zero, List.set_cons_succ]
      refine rg_take 6 (v := ?_) rfl (by kernel_rfl) (fun _ _ _ h => h) hS1 (by rfl) ?_ ?_
      rotate_left
      · intro w hSw; obtain k0 := HSO1.out w hSw; (try unfold Know at k0); go_simp; (try with_reducible rfl)
      simp only [Act.put, List.setIfInBounds_toArray, List.set_cons_zero, List.set_cons_succ]
      refine rg_take 7 (v := ?_) rfl (by kernel_rfl) (fun _ _ _ h => h) hS1 (by rfl) ?_ ?_
      rotate_left
      · intro w hSw; clear hSw; go_simp; (try with_reducible rfl)
      simp only [Act.put, List.setIfInBounds_toArray, List.set_cons_zero, List.set_cons_succ]
      refine rg_take 9 (v := ?_) rfl (by kernel_rfl) (fun _ _ _ h => h) hS1 (by rfl) ?_ ?_
      rotate_left
      · intro w hSw; clear hSw; go_simp; (try with_reducible rfl)
      simp only [Act.put, List.setIfInBounds_toArray, List.set_cons_zero, List.set_cons_succ]
      refine rg_take 10 (v := ?_) rfl (by kernel_rfl) (fun _ _ _ h => h) hS1 (by rfl) ?_ ?_
      rotate_left
      · intro w hSw; clear hSw; go_simp; (try with_reducible rfl)
      simp only [Act.put, List.setIfInBounds_toArray, List.set_cons_zero, List.set_cons_succ]
      refine rg_take 11 (v := ?_) rfl (by kernel_rfl) (fun _ _ _ h => h) hS1 (by rfl) ?_ ?_
      rotate_left
      · intro w hSw; obtain k0 := HSO1.out w hSw; (try unfold Know at k0); go_simp; (try with_reducible rfl)
      simp only [Act.put, List.setIfInBounds_toArray, List.set_cons_zero, List.set_cons_succ]
      refine rg_take 12 (v := ?_) rfl (by kernel_rfl) (fun _ _ _ h => h) hS1 (by rfl) ?_ ?_
      rotate_left
      · intro w hSw; clear hSw; go_simp; (try with_reducible rfl)
      simp only [Act.put, List.setIfInBounds_toArray, List.set_cons_zero, List.set_cons_succ]
      refine rg_call 8 rfl (by kernel_rfl) (fun K hK => ?_)
      go_simp
      go_at_call 35
      refine (parity_any _ g ca n0 c _ f1 w1 (byteL.slice.sl_ext HT.out HN1.out) hg hg4 hc2 hn0 HAT).mono ?_; rintro e w2 ⟨a2, c2, fp2, rfl, hs2, hf2, hc2'⟩; rw [HPL.out] at hs2 ⊢
      have HB2 := Lib.hid (hc2'.keep0 HB1.out); have HN2 := Lib.hid (And.intro hs2 (HN1.out.trans0 hc2')); clear hs2 hf2 hc2'
      go_wp2_with fail
      refine hK.out _ _ (HSI1.out _ (Know.of HB2.out)) (fun hS2 => ?_)
      clear hK K
      try simp only [Act.put, List.setIfInBounds_toArray, List.set_cons_zero, List.set_cons_succ]
      refine rg_call 13 rfl (by kernel_rfl) (fun K hK => ?_)
      go_simp
      go_at_call 71
      rw [HLG.out]
      refine (eqF_any a2 (some ⟨b0, o0 + g, none⟩) c c2 c (ca - g) _ _ fp2 f2 w2 HN2.out.1 (byteL.slice.sl_ext HDR.out HN2.out.2)).mono ?_; rintro e w3 ⟨rfl, hc3⟩
      have HB3 := Lib.hid (hc3.keep0 HB2.out); have HN3 := Lib.hid (HN2.out.2.trans0 hc3); clear hc3
      go_wp2_with fail
      refine hK.out _ _ (HSI1.out _ (Know.of HB3.out)) (fun hS3 => ?_)
      clear hK K
      try simp only [Act.put, List.setIfInBounds_toArray, List.set_cons_zero, List.set_cons_succ]
      refine rg_take 14 (v := ?_) rfl (by kernel_rfl) (fun _ _ _ h => h) hS3 (by rfl) ?_ ?_
      rotate_left
      · intro w hSw; clear hSw; go_simp; (try with_reducible rfl)
      simp only [Act.put, List.setIfInBounds_toArray, List.set_cons_zero, List.set_cons_succ]
      refine rg_take 15 (v := ?_) rfl (by kernel_rfl) (fun _ _ _ h => h) hS3 (by rfl) ?_ ?_
      rotate_left
      · intro w hSw; clear hSw; go_simp; (try with_reducible rfl)
      simp only [Act.put, List.setIfInBounds_toArray, List.set_cons_zero, List.set_cons_succ]
      refine wpAnyH_done (by kernel_rfl) ?_ _
      go_wp2_with fail
      go_ret
      exact ⟨by rw [HR.out]; rfl, HN3.out⟩
  · have HD := Lib.hid (show decide (Alike xs) = false by simp [h2])
    rw [HD.out] at HAl
    rw [if_neg h2]
    clear h2 hgc
    go_enter Try.func40, Try.ntmps40
    go_wp2_with fail
    obtain ⟨SS1, hSS⟩ : ∃ S : World → Prop, S = fun w' => Know w.heap.size #[.int .i64 g, .int .i64 c] w' := ⟨_, rfl⟩
    have HSI1 := Lib.hid (fun w' (h : Know w.heap.size #[.int .i64 g, .int .i64 c] w') => (by rw [hSS]; exact h : SS1 w'))
    have HSO1 := Lib.hid (fun w' (h : SS1 w') => (by rw [hSS] at h; exact h : Know w.heap.size #[.int .i64 g, .int .i64 c] w'))
    clear hSS
    have hS0 := HSI1.out (w.alloc (.cells #[.int .i64 g, .int .i64 c] 57)).drew (Know.of HB0'.out)
    refine rg_start SS1 (by kernel_rfl) hS0 ?_
    refine rg_take 0 (v := ?_) rfl (by kernel_rfl) (fun _ _ _ h => h) hS0 (by rfl) ?_ ?_
    rotate_left
    · intro w hSw; clear hSw; go_simp; (try with_reducible rfl)
    simp only [Act.put, List.setIfInBounds_toArray, List.set_cons_zero, List.set_cons_succ]
    refine rg_call 1 rfl (by kernel_rfl) (fun K hK => ?_)
    go_simp
    go_at_call 34
    refine HAl.out.mono ?_; rintro e w1 ⟨rfl, hc1⟩
    have HB1 := Lib.hid (hc1.keep0 HB0'.out); have HN1 := Lib.hid (HC0.out.trans0 hc1); clear hc1
    go_wp2_with fail
    refine hK.out _ _ (HSI1.out _ (Know.of HB1.out)) (fun hS1 => ?_)
    clear hK K
    try simp only [Act.put, List.setIfInBounds_toArray, List.set_cons_zero, List.set_cons_succ]
    refine rg_take 2 (v := ?_) rfl (by kernel_rfl) (fun _ _ _ h => h) hS1 (by rfl) ?_ ?_
    rotate_left
    · intro w hSw; clear hSw; go_simp; (try with_reducible rfl)
    simp only [Act.put, List.setIfInBounds_toArray, List.set_cons_zero, List.set_cons_succ]
    refine rg_skip 3 rfl (by kernel_rfl) (fun _ _ _ h => h) hS1 (by rfl) ?_
    simp only [Act.put, List.setIfInBounds_toArray, List.set_cons_zero, List.set_cons_succ]
    refine rg_skip 4 rfl (by kernel_rfl) (fun _ _ _ h => h) hS1 (by rfl) ?_
    simp only [Act.put, List.setIfInBounds_toArray, List.set_cons_zero, List.set_cons_succ]
    refine rg_skip 5 rfl (by kernel_rfl) (fun _ _ _ h => h) hS1 (by rfl) ?_
    simp only [Act.put, List.setIfInBounds_toArray, List.set_cons_zero, List.set_cons_succ]
    refine rg_skip 6 rfl (by kernel_rfl) (fun _ _ _ h => h) hS1 (by rfl) ?_
    simp only [Act.put, List.setIfInBounds_toArray, List.set_cons_zero, List.set_cons_succ]
    refine rg_skip 7 rfl (by kernel_rfl) (fun _ _ _ h => h) hS1 (by rfl) ?_
    simp only [Act.put, List.setIfInBounds_toArray, List.set_cons_zero, List.set_cons_succ]
    refine rg_skip 8 rfl (by kernel_rfl) (fun _ _ _ h => h) hS1 (by rfl) ?_
    simp only [Act.put, List.setIfInBounds_toArray, List.set_cons_zero, List.set_cons_succ]
    refine rg_skip 9 rfl (by kernel_rfl) (fun _ _ _ h => h) hS1 (by rfl) ?_
    simp only [Act.put, List.setIfInBounds_toArray, List.set_cons_zero, List.set_cons_succ]
    refine rg_skip 10 rfl (by kernel_rfl) (fun _ _ _ h => h) hS1 (by rfl) ?_
    simp only [Act.put, List.setIfInBounds_toArray, List.set_cons_zero, List.set_cons_succ]
    refine rg_skip 11 rfl (by kernel_rfl) (fun _ _ _ h => h) hS1 (by rfl) ?_
    simp only [Act.put, List.setIfInBounds_toArray, List.set_cons_zero, List.set_cons_succ]
    refine rg_skip 12 rfl (by kernel_rfl) (fun _ _ _ h => h) hS1 (by rfl) ?_
    simp only [Act.put, List.setIfInBounds_toArray, List.set_cons_zero, List.set_cons_succ]
    refine rg_skip 13 rfl (by kernel_rfl) (fun _ _ _ h => h) hS1 (by rfl) ?_
    simp only [Act.put, List.setIfInBounds_toArray, List.set_cons_zero, List.set_cons_succ]
    refine rg_take 14 (v := ?_) rfl (by kernel_rfl) (fun _ _ _ h => h) hS1 (by rfl) ?_ ?_
    rotate_left
    · intro w hSw; clear hSw; go_simp; (try with_reducible rfl)
    simp only [Act.put, List.setIfInBounds_toArray, List.set_cons_zero, List.set_cons_succ]
    refine rg_take 15 (v := ?_) rfl (by kernel_rfl) (fun _ _ _ h => h) hS1 (by rfl) ?_ ?_
    rotate_left
    · intro w hSw; clear hSw; go_simp; (try with_reducible rfl)
    simp only [Act.put, List.setIfInBounds_toArray, List.set_cons_zero, List.set_cons_succ]
    refine wpAnyH_done (by kernel_rfl) ?_ _
    go_wp2_with fail
    go_ret
    exact ⟨rfl, HN1.out⟩

theorem fitsV_mid {xs : List (List UInt8)} {g c n0 : Nat} (h1 : inB c 0 2 = true) (h2 : (inB g 1 4 && inB c 0 2) = true) (hl : xs.length = g + c) (hn : (xs.headD []).length = n0) :
    fitsV xs c = if Alike xs then sameV (parL (xs.take g) n0 c) (xs.drop g) else false := by
  unfold fitsV
  have e1 : ((xs.length : Int) - (c : Int)) = (g : Int) := by omega
  have e2 : xs.length - (c : Int).toNat = g := by omega
  have e3 : (c : Int).toNat = c := by omega
  rw [if_neg (by rw [h1]; simp), e1, if_neg (by rw [h2]; simp), e2, e3, hn]
  by_cases h : Alike xs
  · rw [if_neg (fun h' => h' h), if_pos h]
  · rw [if_pos h, if_neg h]

set_option maxRecDepth 100000 in
set_option maxHeartbeats 1000000 in
theorem impl_fits {zs : List (List UInt8)} (hz : ∀ x ∈ zs, x.length ≤ 1048576) (a : Option Addr) (la ca : Nat) (_ : List (List UInt8)) (f : List Nat) (c : Int) (hc : i64ok c) (w : World) (ha : byteL.slice.sl w a la ca zs f) :
    Calls Try.prog 10 #[.slice a la ca, .int .i64 c] w fun e w' => e = .returned (.bool (fitsV zs c)) ∧ Chg [] w w' := by
  have hla := byteL.slice.sl_max ha
  have HA := Lib.hid ha
  have HL := Lib.hid ha.1
  clear ha
  have HIN := Lib.hid (inside_any c 0 2)
  cases h1 : inB c 0 2
  · have HR := Lib.hid (show fitsV zs c = false by rw [fitsV, if_pos h1])
    rw [h1] at HIN
    clear h1
    go_enter Try.func10, Try.ntmps10
    go_wp2_with fail
    refine (HIN.out _).mono ?_; rintro e w' ⟨rfl, rfl⟩
    go_wp2_with fail
    go_ret
    exact ⟨by rw [HR.out]; rfl, Chg.refl _ _⟩
  · rw [h1] at HIN
    obtain ⟨hb5, hb6⟩ := inB_true h1
    obtain ⟨cn, rfl⟩ := Int.eq_ofNat_of_zero_le hb5
    have HOK := Lib.hid (colOk_any ((la : Int) - cn) cn)
    cases h2 : (inB ((la : Int) - cn) 1 4 && inB cn 0 2)
    · have HR := Lib.hid (show fitsV zs cn = false by rw [fitsV, if_neg (by rw [h1]; simp), if_pos (by rw [← HL.out]; exact h2)])
      rw [h2] at HOK
      clear h1 h2
      go_enter Try.func10, Try.ntmps10
      go_wp2_with fail
      refine (HIN.out _).mono ?_; rintro e w' ⟨rfl, rfl⟩
      go_wp2_with fail
      refine (sizeL_any a la ca _ (by omega)).mono ?_; rintro e w' ⟨rfl, rfl⟩
      go_wp2_with fail
      refine (HOK.out _).mono ?_; rintro e w' ⟨rfl, rfl⟩
      go_wp2_with fail
      go_ret
      exact ⟨by rw [HR.out]; rfl, by repeat (first | exact Chg.refl _ _ | refine Chg.alloc ?_ _)⟩
    · obtain ⟨hb1, -⟩ := Bool.and_eq_true_iff.1 h2
      obtain ⟨hb3, hb4⟩ := inB_true hb1
      obtain ⟨g, hg⟩ : ∃ g : Nat, (la : Int) - cn = g := ⟨la - cn, by omega⟩
      rw [hg] at HOK h2
      have hsub : (la : Int) - cn = g := hg
      have h0 : 0 < la := by omega
      have HHD := Lib.hid (show (zs.headD []).length ≤ 1048576 by
        cases zs with
        | nil => simp
        | cons z zs => exact hz z (by simp))
      have HM := Lib.hid (fitsV_mid (xs := zs) (g := g) (c := cn) (n0 := (zs.headD []).length) h1 h2 (by have := HL.out; omega) rfl)
      rw [h2] at HOK
      rw [HM.out]
      obtain ⟨n0, hn0⟩ : ∃ n0, n0 = (zs.headD []).length := ⟨_, rfl⟩
      rw [← hn0] at HHD ⊢
      have HN0 := Lib.hid hn0.symm
      have hn1 : n0 ≤ 1048576 := HHD.out
      have HF := Lib.hid (fun w' (h : Chg [] w w') => fits_any a la ca g cn n0 zs f w' (byteL.slice.sl_ext HA.out h) (by omega) (by omega) (by omega) (by omega) (by omega) HN0)
      have hg1 : 1 ≤ g := by omega
      have hg4 : g ≤ 4 := by omega
      clear h1 h2 hb1 hb3 hb4 hn0 hg HM
      generalize (if Alike zs then sameV (parL (zs.take g) n0 cn) (zs.drop g) else false) = r at HF ⊢
      go_enter Try.func10, Try.ntmps10
      go_wp2_with fail
      refine (HIN.out _).mono ?_; rintro e w' ⟨rfl, rfl⟩
      go_wp2_with fail
      refine (sizeL_any a la ca _ (by omega)).mono ?_; rintro e w' ⟨rfl, rfl⟩
      go_wp2_with fail
      refine (HOK.out _).mono ?_; rintro e w' ⟨rfl, rfl⟩
      go_wp2_with fail
      refine (HF.out _ (by repeat (first | exact Chg.refl _ _ | refine Chg.alloc ?_ _))).mono ?_; rintro e w5 ⟨rfl, hc5⟩
      have HN := Lib.hid ((((Chg.refl [] w).alloc _).alloc _).trans0 hc5); clear hc5
      go_wp2_with fail
      go_ret
      exact ⟨rfl, HN.out⟩

end Go.Proofs.Ytjnclggpaekdfaa

/- Any so many lists as there are groups tell a column, in plain Lean. -/
namespace Go.Proofs.Ytjnclggpaekdfaa
open Go.RowKit

/-- lists of which some are struck -/
def Holed (all xs : List (List UInt8)) (j : Nat) : Prop := xs.length = all.length ∧ (∀ i : Nat, xs[i]? = all[i]? ∨ xs[i]? = some []) ∧ all.length ≤ (xs.filter (fun x => x.length != 0)).length + j
theorem Holed.start {all : List (List UInt8)} (h : ∀ x ∈ all, 1 ≤ x.length) : Holed all all 0 := ⟨rfl, fun _ => .inl rfl, by
  rw [List.filter_eq_self.2 (fun x hx => by have := h x hx; simp; intro e; rw [e] at this; simp at this)]; exact Nat.le_refl _⟩
theorem filter_hole : ∀ (xs : List (List UInt8)) (i : Nat), (xs.filter (fun x => x.length != 0)).length ≤ ((xs.set i []).filter (fun x => x.length != 0)).length + 1
  | [], _ => by simp
  | x :: xs, 0 => by
    rw [List.set_cons_zero, List.filter_cons, List.filter_cons]
    split <;> split <;> simp_all
  | x :: xs, i + 1 => by
    have ih := filter_hole xs i
    rw [List.set_cons_succ, List.filter_cons, List.filter_cons]
    split
    · rw [List.length_cons, List.length_cons]; omega
    · exact ih
theorem Holed.next {all xs : List (List UInt8)} {j : Nat} (h : Holed all xs j) (i : Nat) : Holed all (xs.set i []) (j + 1) := by
  obtain ⟨h1, h2, h3⟩ := h
  refine ⟨by rw [List.length_set]; exact h1, fun k => ?_, by have := filter_hole xs i; omega⟩
  by_cases e : i = k
  · subst e
    by_cases hi : i < xs.length
    · right; rw [List.getElem?_set_self hi]
    · left; rw [List.getElem?_eq_none (by rw [List.length_set]; omega), List.getElem?_eq_none (by omega)]
  · rw [List.getElem?_set_ne e]; exact h2 k
theorem min_hav (xs : List (List UInt8)) : ∀ k, k ≤ xs.length → minL xs k = (havL xs k).map (fun p => xs.getD p.toNat [])
  | 0, _ => rfl
  | k + 1, hk => by
    have ih := min_hav xs k (by omega)
    have hx := List.getElem?_eq_getElem (show k < xs.length by omega)
    by_cases h : xs[k].length = 0
    · rw [minL_no hx h, havL_no hx h, ih]
    · rw [minL_yes hx h, havL_yes hx h, List.map_append, ih]
      simp only [List.map_cons, List.map_nil, Int.toNat_natCast, getD_of hx]
theorem hav_at {xs : List (List UInt8)} {k : Nat} {p : Int} (h : p ∈ havL xs k) : ∃ i : Nat, p = (i : Int) ∧ i < k ∧ ¬ (xs.getD i []).length = 0 := by
  unfold havL at h
  obtain ⟨i, hi, rfl⟩ := List.mem_map.1 h
  obtain ⟨h1, h2⟩ := List.mem_filter.1 hi
  exact ⟨i, rfl, List.mem_range.1 h1, by simpa using h2⟩
section
variable {L xs : List (List UInt8)} {n0 c : Nat}
theorem holed_at (h : Holed (codeL L n0 c) xs c) {p : Int} (hp : p ∈ havL xs xs.length) : xs.getD p.toNat [] = codeAt L n0 p := by
  obtain ⟨i, rfl, hi, hn⟩ := hav_at hp
  have hi2 : i < L.length + c := by rw [← codeL_length L n0 c, ← h.1]; exact hi
  rw [Int.toNat_natCast]
  rcases h.2.1 i with e | e
  · rw [List.getD_eq_getElem?_getD, e, codeL_at hi2]; rfl
  · rw [List.getD_eq_getElem?_getD, e] at hn; exact absurd rfl hn
theorem holed_min (h : Holed (codeL L n0 c) xs c) : minL xs xs.length = (havL xs xs.length).map (codeAt L n0) := by
  rw [min_hav xs xs.length (Nat.le_refl _)]
  exact List.map_congr_left (fun p hp => holed_at h hp)
theorem holed_back (hL : ∀ x ∈ L, x.length = n0) (h0 : n0 ≤ 4000) (h1 : 1 ≤ L.length) (h4 : L.length ≤ 4) (hc : c ≤ 2) (h : Holed (codeL L n0 c) xs c) :
    decRes (L.length : Int) (c : Int) xs = (0, codeL L n0 c) := by
  have hxl : xs.length = L.length + c := by rw [h.1, codeL_length]
  have hm := holed_min h
  have hml : ∀ x ∈ minL xs xs.length, x.length = n0 := by
    intro x hx
    rw [hm] at hx
    obtain ⟨p, _, rfl⟩ := List.mem_map.1 hx
    exact codeAt_length hL p
  have hen : L.length ≤ (minL xs xs.length).length := by
    have := h.2.2
    rw [codeL_length] at this
    rw [minL_full]
    omega
  have hhl : (havL xs xs.length).length = (minL xs xs.length).length := havL_len xs _ (Nat.le_refl _)
  have hhd : ((minL xs xs.length).headD []).length = n0 := by
    cases e : minL xs xs.length with
    | nil => rw [e, List.length_nil] at hen; omega
    | cons y ys => exact hml y (by rw [e]; simp)
  unfold decRes
  rw [if_neg (by simp [inB]; omega), if_neg (by rw [hxl]; omega), if_neg (by intro hn; exact hn (fun x hx => by rw [hml x hx, hhd])), if_neg (by rw [hhd]; omega), if_neg (by omega), hhd, Int.toNat_natCast, Int.toNat_natCast]
  refine congrArg (Prod.mk 0) ?_
  unfold decL codeL
  refine List.map_congr_left (fun p _ => ?_)
  have hkl : ((havL xs xs.length).take L.length).length = L.length := by rw [List.length_take]; omega
  have hr : Ris ((L.length : Int) + c) ((havL xs xs.length).take L.length) := by
    have := (havL_ris xs xs.length).take L.length
    rw [hxl] at this ⊢
    simpa using this
  obtain ⟨z, hz, hzl, hw⟩ := wts_some (p := (p : Int)) h1 h4 hkl (by omega : (L.length : Int) + c ≤ L.length + 2) hr
  have ez : wtsL L.length ((havL xs xs.length).take L.length) (p : Int) = z := by unfold wtsL; rw [hz]; rfl
  rw [ez]
  have hb := code_back (n0 := n0) hL hkl hzl hw (p := (p : Int)) (ys := (minL xs xs.length).take L.length) (by rw [hm, List.map_take])
  rw [List.length_take, Nat.min_eq_left hen] at hb
  exact hb
theorem codeL_len (hL : ∀ x ∈ L, x.length = n0) : ∀ x ∈ codeL L n0 c, x.length = n0 := fun x hx => by
  unfold codeL at hx
  obtain ⟨k, _, rfl⟩ := List.mem_map.1 hx
  exact codeAt_length hL _
theorem code_fits (hL : ∀ x ∈ L, x.length = n0) (h1 : 1 ≤ L.length) (h4 : L.length ≤ 4) (hc : c ≤ 2) : fitsV (codeL L n0 c) (c : Int) = true := by
  have hl := codeL_length L n0 c
  have hhd : ((codeL L n0 c).headD []).length = n0 := by
    cases e : codeL L n0 c with
    | nil => rw [e] at hl; simp at hl; omega
    | cons y ys => exact codeL_len hL (c := c) y (by rw [e]; simp)
  unfold fitsV
  rw [if_neg (by simp [inB]; omega), if_neg (by simp [inB]; omega), if_neg (by intro hn; exact hn (fun x hx => by rw [codeL_len hL x hx, hhd])), hhd, Int.toNat_natCast, hl, Nat.add_sub_cancel, ← codeL_eq c hL, List.take_left, List.drop_left]
  exact sameV_true rfl
end
end Go.Proofs.Ytjnclggpaekdfaa

/- Any so many lists as there are groups tell a column, for all codes: the walk. -/
namespace Go.Proofs.Ytjnclggpaekdfaa
open Go.RowKit

section
variable {α : Type} (L : Lay α) {P : Program} {E : TypeId} {bytes : Nat} {w : World} {v : Value} {xs ys : List α} {h : Option Nat} {f fps : List Nat}
/-- a whole slice appended to a row of one's own: its elements lie where they lay -/
theorem Lay.wp_own {o : Oper} {a : Act} {Kc : Act → World → Prop} {Q : Exit → Act → World → Prop} (s x : Operand) (t : TypeId)
    (hop : o.op = .call { callee := .builtin .append, args := #[s, x], argTypes := #[t, t] }) (ht : P.underlying t = some (.slice E)) (K : Kind P E L.n bytes)
    (hs : a.eval s = v) (ho : L.os E w v xs h fps)
    {ad : Option Addr} {m c : Nat} (hx : a.eval x = .slice ad m c) (hsl : L.sl w ad m c ys f) (hf : ∀ g, h = some g → g ∉ f)
    (h63 : xs.length + ys.length ≤ maxLen) (hbytes : (xs.length + ys.length) * bytes ≤ 140737488355328)
    (hk : ∀ v' w' h' fps', L.os E w' v' (xs ++ ys) h' fps' → (h' = h ∨ h' = some w.heap.size) → (∀ b ∈ fps', b ∈ fps ∨ b ∈ f) → Chg h.toList w w' → Kc (a.put o.dst v') w') : o.wp P a w Kc Q := by
  cases ad with
  | none =>
    have h0 : c = 0 := hsl.2.2.2.1 rfl
    have h1 : m = 0 := by have := hsl.2.1; omega
    have h2 : ys = [] := List.eq_nil_of_length_eq_zero (by have := hsl.1; omega)
    subst h0 h1 h2
    have hr := L.run_append_none t o.type ht K ho
    unfold Oper.wp execOp
    simp only [hop, resolve, invoke, builtin, Sem.run_bind, Sem.run_pure, Result.andThen_ok, List.map_toArray, List.map_cons, List.map_nil, hs, hx, hr]
    exact hk v w h fps (by rw [List.append_nil]; exact ho) (.inl rfl) (fun b hb => .inl hb) (Chg.refl _ _)
  | some ad =>
    obtain ⟨news, fy, hnews, hall, hsub⟩ := L.sl_cells hsl
    refine L.wp_append s x t hop ht K hs ho ad m c news hx hsl.1 hnews hall (fun g hg hm => hf g hg (hsub _ hm)) h63 hbytes fun v' w' h' h1 h2 h3 => hk v' w' h' _ h1 h2 (fun b hb => ?_) h3
    rcases List.mem_append.1 hb with hb | hb
    · exact .inl hb
    · exact .inr (hsub _ hb)
theorem Lay.list_own {ops : Array Oper} {rest : List Oper} {o : Oper} {a : Act} {Q : Exit → Act → World → Prop} (hgd : o.guard = none) (s x : Operand) (t : TypeId)
    (hop : o.op = .call { callee := .builtin .append, args := #[s, x], argTypes := #[t, t] }) (ht : P.underlying t = some (.slice E)) (K : Kind P E L.n bytes)
    (hs : a.eval s = v) (ho : L.os E w v xs h fps)
    {ad : Option Addr} {m c : Nat} (hx : a.eval x = .slice ad m c) (hsl : L.sl w ad m c ys f) (hf : ∀ g, h = some g → g ∉ f)
    (h63 : xs.length + ys.length ≤ maxLen) (hbytes : (xs.length + ys.length) * bytes ≤ 140737488355328)
    (hk : ∀ v' w' h' fps', L.os E w' v' (xs ++ ys) h' fps' → (h' = h ∨ h' = some w.heap.size) → (∀ b ∈ fps', b ∈ fps ∨ b ∈ f) → Chg h.toList w w' → wpList P ops Q rest (a.put o.dst v') w') : wpList P ops Q (o :: rest) a w :=
  wpList_plain hgd fun _ hK => L.wp_own s x t hop ht K hs ho hx hsl hf h63 hbytes fun v' w' h' g' h1 h2 h3 h4 => hK _ _ (hk v' w' h' g' h1 h2 h3 h4)
theorem Lay.step_own {ops : Array Oper} {o : Oper} {a : Act} {Kc : Act → World → Prop} {Q : Exit → Act → World → Prop} {R : Prop} (hgd : o.guard = none) (s x : Operand) (t : TypeId)
    (hop : o.op = .call { callee := .builtin .append, args := #[s, x], argTypes := #[t, t] }) (ht : P.underlying t = some (.slice E)) (K : Kind P E L.n bytes)
    (hs : a.eval s = v) (ho : L.os E w v xs h fps)
    {ad : Option Addr} {m c : Nat} (hx : a.eval x = .slice ad m c) (hsl : L.sl w ad m c ys f) (hf : ∀ g, h = some g → g ∉ f)
    (h63 : xs.length + ys.length ≤ maxLen) (hbytes : (xs.length + ys.length) * bytes ≤ 140737488355328)
    (hk : ∀ v' w' h' fps', L.os E w' v' (xs ++ ys) h' fps' → (h' = h ∨ h' = some w.heap.size) → (∀ b ∈ fps', b ∈ fps ∨ b ∈ f) → Chg h.toList w w' → Kc (a.put o.dst v') w') :
    if Region.wanted o (yielded ops a.tmps) = true then Oper.wp P o a w Kc Q else R := by
  have hw : Region.wanted o (yielded ops a.tmps) = true := by simp [Region.wanted, hgd]
  rw [if_pos hw]
  exact L.wp_own s x t hop ht K hs ho hx hsl hf h63 hbytes hk
/-- a row of one's own, element by element -/
theorem Lay.os_row (ho : L.os E w v xs h fps) (hn : xs ≠ []) : ∃ g cap ps, v = .slice (some ⟨g, 0, none⟩) xs.length cap ∧ h = some g ∧ RowAt L w g 0 ps ∧ ps.map (·.1) = xs ∧ xs.length ≤ cap ∧ cap ≤ maxLen := by
  rcases ho with ⟨_, rfl, _⟩ | ⟨g, cap, cur, rfl, rfl, hg, h1, h2, h3, hall, h4⟩
  · exact absurd rfl hn
  · have hs : L.sl w (some ⟨g, 0, none⟩) xs.length cap xs (g :: fps) := ⟨rfl, h1, h2, (fun h => by cases h), .inr ⟨g, 0, cur, E, (0, 0), fps, rfl, hg, by simpa using hall, rfl⟩⟩
    obtain ⟨ps, p1, p2, _⟩ := L.sl_row hs ⟨cur, E, hg⟩ ⟨fps, rfl, h4⟩
    exact ⟨g, cap, ps, rfl, rfl, p1, p2, h1, h2⟩
end
theorem row_hole {w : World} {b i : Nat} {ps : List (List UInt8 × List Nat)} (h : RowAt byteL.slice w b 0 ps) (hi : i < ps.length) : RowAt byteL.slice (w.setCell ⟨b, i, none⟩ (.slice none 0 0)) b 0 (ps.set i ([], [])) := by
  have h1 := h.put (i := i) hi (x := []) (c := [.slice none 0 0]) (f := []) ⟨none, 0, 0, rfl, nil_slD _⟩ (by simp)
  rw [show 0 + i * byteL.slice.n = i by simp [Lay.slice]] at h1
  exact h1
theorem enc_ok {L : List (List UInt8)} {c : Int} (h : (encRes L c).1 = 0) : (1 ≤ L.length ∧ L.length ≤ 4) ∧ (0 ≤ c ∧ c ≤ 2) ∧ (∀ x ∈ L, x.length = (L.headD []).length) ∧ (L.headD []).length ≤ 4000 ∧ encRes L c = (0, parL L (L.headD []).length c.toNat) := by
  unfold encRes at h ⊢
  split at h
  · simp at h
  rename_i h1
  split at h
  · simp at h
  rename_i h2
  split at h
  · simp at h
  rename_i h3
  obtain ⟨hb1, hb2⟩ := Bool.and_eq_true_iff.1 (Bool.not_eq_false _ ▸ h1 : (inB L.length 1 4 && inB c 0 2) = true)
  have e1 := inB_true hb1
  refine ⟨by omega, inB_true hb2, Classical.not_not.1 h2, by omega, ?_⟩
  rw [if_neg h1, if_neg h2, if_neg h3]
set_option maxRecDepth 100000 in
set_option maxHeartbeats 8000000 in
theorem walk_FnColumns (W : World) (a : Option Addr) (la ca : Nat) (xs : List UInt8) (f : List Nat) (o : byteL.sl W a la ca xs f) :
    Calls Try.prog 3 #[.slice a la ca] W fun e w' => e = .returned (.bool true) ∧ Chg [] W w' := by
  have hfd : ∀ (n : Int) (a : Option Addr) (l c : Nat) (w : World), (Instr.field 28 (.agg #[.int .i64 n, .slice a l c]) 0).run Try.prog w = .ok (.int .i64 n) w := fun _ _ _ _ _ => by kernel_rfl
  obtain ⟨KLL, _⟩ := kindLL
  have hm := byteL.sl_max o
  have HA := Lib.hid o
  have HBG := Lib.hid (lwBig_any a la ca W)
  clear o
  by_cases hz : (1048576 : Int) < (la : Int)
  · rw [decide_eq_true hz] at HBG
    go_enter Try.func3, Try.ntmps3
    go_wp2_with fail
    refine HBG.out.mono ?_; rintro e w' ⟨rfl, rfl⟩
    go_wp2_with fail
    go_ret
    exact ⟨rfl, Chg.refl _ _⟩
  rw [decide_eq_false hz] at HBG
  go_enter Try.func3, Try.ntmps3
  go_wp2_with fail
  refine HBG.out.mono ?_; rintro e w' ⟨rfl, rfl⟩
  go_wp2_with fail
  refine (drawEnc_any a la ca xs f W HA.out (by omega)).mono ?_
  rintro e w1 ⟨c, A, C, L, fl, rfl, hc, hl5, hx4, hls, hc1⟩
  have HL1 := Lib.hid hls; have HC1 := Lib.hid hc1; have HX4 := Lib.hid hx4
  have HGI := Lib.hid (show i64ok c by simp only [i64ok]; omega)
  have HIS := Lib.hid (fun (w : World) (h : Chg [] w1 w) => impl_encode2 A L.length C L fl c HGI.out w (byteL.slice.sl_ext HL1.out h))
  have HSS := Lib.hid (fun (w : World) (h : Chg [] w1 w) => spec_encode2 A L.length C L fl c HGI.out w (byteL.slice.sl_ext HL1.out h))
  have hok := @enc_ok L c
  obtain ⟨q, hq⟩ : ∃ q, q = encRes L c := ⟨_, rfl⟩
  rw [← hq] at hok HIS HSS
  clear hq hls hc1 hx4
  obtain ⟨n, B⟩ := q
  simp only at hok HIS HSS
  generalize hkq : L.length = lg at hl5 HL1 HIS HSS hok ⊢
  have HLG := Lib.hid hkq
  have HOK := Lib.hid hok
  clear hkq hok
  go_wp2_with fail
  refine (HIS.out w1 (Chg.refl _ _)).mono ?_
  rintro e w2 ⟨a3, c3, f3, rfl, hz3, hf3, hc3⟩
  simp only at hz3 ⊢
  obtain ⟨lb, hlb⟩ : ∃ lb, lb = B.length := ⟨_, rfl⟩
  rw [← hlb] at hz3 ⊢
  have HLB := Lib.hid hlb
  have HZ2 := Lib.hid hz3; have HC2 := Lib.hid hc3; have HF3 := Lib.hid hf3
  have hBX := new_alloc w2 (.cells #[.int .i64 n, .slice a3 lb c3] 28)
  have HBX := Lib.hid (keep_drew hBX)
  have HBX0 := Lib.hid hBX
  have HCW := Lib.hid (HC2.out.alloc (.cells #[.int .i64 n, .slice a3 lb c3] 28))
  have HCWd := Lib.hid (HCW.out.drew)
  clear hz3 hc3 hBX hlb hf3
  by_cases hn : n = 0
  · subst hn
    obtain ⟨⟨hg1, hg4⟩, ⟨hc0, hc2⟩, hal, hn4, hB⟩ := HOK.out rfl
    obtain ⟨cn, rfl⟩ : ∃ cn : Nat, c = (cn : Int) := ⟨c.toNat, by omega⟩
    have hB2 := congrArg Prod.snd hB
    simp only [Int.toNat_natCast] at hB2
    obtain ⟨n0, hn0⟩ : ∃ n0, n0 = (L.headD []).length := ⟨_, rfl⟩
    rw [← hn0] at hal hn4 hB2
    have HAL := Lib.hid hal
    have HQ := Lib.hid (show codeL L n0 cn = L ++ B by rw [hB2]; exact (codeL_eq cn hal).symm)
    have HQL := Lib.hid (show (codeL L n0 cn).length = lg + cn by rw [codeL_length, HLG.out])
    have hbk : lb = cn := by
      have := HQL.out
      rw [HQ.out, List.length_append, HLG.out, ← HLB.out] at this; omega
    subst hbk
    obtain ⟨ln, hln⟩ : ∃ ln, ln = lg + lb := ⟨_, rfl⟩
    obtain ⟨ALL, hALL⟩ : ∃ ALL, ALL = codeL L n0 lb := ⟨_, rfl⟩
    have HLN := Lib.hid (show ALL.length = ln by rw [hALL, hln]; exact HQL.out)
    have HAP := Lib.hid (show ([] ++ L) ++ B = ALL by rw [hALL, HQ.out, List.nil_append])
    have HFT := Lib.hid (show fitsV ALL (lb : Int) = true by rw [hALL]; exact code_fits hal (by rw [HLG.out]; exact hg1) (by rw [HLG.out]; exact hg4) (by omega))
    have HAN := Lib.hid (show ∀ x ∈ ALL, x.length = n0 by rw [hALL]; exact codeL_len hal)
    have HBK := Lib.hid (fun (xs : List (List UInt8)) (h : Holed ALL xs lb) => (show decRes (lg : Int) (lb : Int) xs = (0, ALL) by
      rw [hALL] at h
      have h2 := holed_back hal hn4 (by rw [HLG.out]; exact hg1) (by rw [HLG.out]; exact hg4) (by omega) h
      rw [HLG.out] at h2; rw [hALL]; exact h2))
    have HLEQ := Lib.hid hln
    have hln6 : ln ≤ 6 := by omega
    have hln1 : 1 ≤ ln := by omega
    clear hal hB hB2 hn0 HOK HIS HSS hln hALL
    have HLW := Lib.hid (byteL.slice.sl_ext HL1.out ((HCW.out.drew).alloc (.cells #[] 22)))
    have HNF := Lib.hid (show ∀ q, (some (w2.alloc (.cells #[.int .i64 0, .slice a3 lb c3] 28)).drew.heap.size : Option Nat) = some q → q ∉ fl from fun q hq hm => by
      cases hq
      have h1 := byteL.slice.sl_lt HL1.out _ hm
      have h2 := HCWd.out.size
      exact absurd h1 (Nat.not_lt.2 h2))
    have HLL := Lib.hid (show ([] : List (List UInt8)).length + L.length ≤ maxLen ∧ (([] : List (List UInt8)).length + L.length) * 24 ≤ 140737488355328 by rw [HLG.out]; simp only [List.length_nil, maxLen]; omega)
    have HLL2 := Lib.hid (show (([] : List (List UInt8)) ++ L).length + B.length ≤ maxLen ∧ ((([] : List (List UInt8)) ++ L).length + B.length) * 24 ≤ 140737488355328 by rw [List.nil_append, HLG.out, ← HLB.out]; simp only [maxLen]; omega)
    have cB := cellsOf HBX0.out; have lB := ltOf HBX0.out
    go_wp2_with fail
    clear cB lB
    have hsz : (w2.alloc (.cells #[.int .i64 0, .slice a3 lb c3] 28)).drew.heap.size = w2.heap.size + 1 := by simp [World.drew]
    have HO1 := Lib.hid (show byteL.slice.os 22 ((w2.alloc (.cells #[.int .i64 0, .slice a3 lb c3] 28)).drew.alloc (.cells #[] 22)) (.slice (some ⟨w2.heap.size + 1, 0, none⟩) 0 0) [] (some (w2.heap.size + 1)) [] by rw [← hsz]; exact byteL.slice.os_made 22 _ #[] 0 (by simp [maxLen]) (by simp))
    rw [hsz] at HNF
    have HSZ := Lib.hid hsz
    have HBXa := Lib.hid (keep_alloc HBX.out (.cells #[] 22))
    clear hsz
    obtain ⟨CC, HCI, HCO⟩ := rg_cond (fun w' => Know w2.heap.size #[.int .i64 0, .slice a3 lb c3] w')
    refine gg_start [5] CC (by kernel_rfl) (HCI.out _ (Know.of HBX.out)) (fun hcl hS => ?_)
    refine ggT 1 hcl hS ?_; clear hcl hS; intro hcl hS
    refine ggT 3 hcl hS ?_; clear hcl hS; intro hcl hS
    refine ggL 4 hcl hS HCO ?_; clear hcl hS; intro hcl hS
    refine ggC 0 hcl rfl (by kernel_rfl) (fun K hK => ?_)
    go_simp
    refine hK.out _ _ (fun _ => HCI.out _ (Know.of HBXa.out)) ?_
    clear hK K hcl hS
    intro hcl hS
    try simp only [Act.put, List.setIfInBounds_toArray, List.set_cons_zero, List.set_cons_succ]
    refine ggC 2 hcl rfl (by kernel_rfl) (fun K hK => ?_)
    refine byteL.slice.step_own rfl _ _ 24 rfl Try.underlying24 KLL rfl HO1.out rfl HLW.out HNF.out HLL.out.1 HLL.out.2 ?_
    intro v4 w4 h4 f4 ho4 hh4 hs4 hc4
    have HB4 := Lib.hid (hc4.keepb HBXa.out (by simp))
    have HW4 := Lib.hid (show Chg [] (w2.alloc (.cells #[.int .i64 0, .slice a3 lb c3] 28)).drew w4 from ((Chg.refl [] _).alloc _).trans hc4 (fun x hx => .inr (by rw [HSZ.out]; simp at hx; omega)))
    have HZ4 := Lib.hid (byteL.slice.sl_ext HZ2.out ((((Chg.refl [] w2).alloc _).drew).trans0 HW4.out))
    have HG4 := Lib.hid (show ∀ q, h4 = some q → w2.heap.size + 1 ≤ q from fun q hq => by
      have e2 : ((w2.alloc (.cells #[.int .i64 0, .slice a3 lb c3] 28)).drew.alloc (.cells #[] 22)).heap.size = w2.heap.size + 2 := by simp [World.drew]
      rcases hh4 with e | e
      · rw [hq] at e; have e3 := Option.some.inj e; omega
      · rw [hq] at e; have e3 := (Option.some.inj e).trans e2; omega)
    have HNF4 := Lib.hid (show ∀ q, h4 = some q → q ∉ f3 from fun q hq hm => by have h1 := byteL.slice.sl_lt HZ2.out _ hm; have h2 := HG4.out q hq; omega)
    have HO4 := Lib.hid ho4; clear ho4 hh4 hs4 hc4
    refine hK.out _ _ (fun _ => HCI.out _ (Know.of HB4.out)) ?_
    clear hK K hcl hS
    intro hcl hS
    try simp only [Act.put, List.setIfInBounds_toArray, List.set_cons_zero, List.set_cons_succ]
    refine ggC 5 hcl rfl (by kernel_rfl) (fun K hK => ?_)
    refine byteL.slice.step_own rfl _ _ 24 rfl Try.underlying24 KLL rfl HO4.out rfl HZ4.out HNF4.out HLL2.out.1 HLL2.out.2 ?_
    intro v6 w6 h6 f6 ho6 hh6 hs6 hc6
    rw [HAP.out] at ho6
    obtain ⟨a6, c6, rfl, hsl6⟩ := byteL.slice.os_sl ho6
    rw [HLN.out] at hsl6 ⊢
    have HS6 := Lib.hid hsl6
    have HW6 := Lib.hid (show Chg [] (w2.alloc (.cells #[.int .i64 0, .slice a3 lb c3] 28)).drew w6 from HW4.out.trans hc6 (fun x hx => .inr (by rw [HSZ.out]; exact HG4.out x (by cases h4 <;> simp_all))))
    clear ho6 hh6 hs6 hc6 hsl6
    refine hK.out _ _ (Till.done (m := 5) (by simp) (by rfl)) ?_
    clear hK K hcl hS
    intro hcl hS
    try simp only [Act.put, List.setIfInBounds_toArray, List.set_cons_zero, List.set_cons_succ]
    refine ggT 6 hcl hS ?_; clear hcl hS; intro hcl hS
    refine ggEnd (by kernel_rfl) ?_ _
    have HB6 := Lib.hid (HW6.out.keep0 HBX.out)
    have HC6 := Lib.hid (HCWd.out.trans0 HW6.out)
    have hfi := impl_fits (zs := ALL) (fun x hx => by rw [HAN.out x hx]; omega) a6 ln c6 ALL (h6.toList ++ f6) (lb : Int) HGI.out w6 HS6.out
    rw [HFT.out] at hfi
    have HFI := Lib.hid hfi
    clear hfi
    go_wp2_with fail
    refine HFI.out.mono ?_
    rintro e w7 ⟨rfl, hc7⟩
    have HB7 := Lib.hid (hc7.keep0 HB6.out)
    have HC7 := Lib.hid (HC6.out.trans0 hc7)
    have HS7 := Lib.hid (byteL.slice.sl_ext HS6.out hc7)
    have cB := cellsOf HB7.out; have lB := ltOf HB7.out
    clear hc7
    obtain ⟨y0, B0, o0, A0, l0, C0, f0, HY0, rfl, hcy0, HYS0⟩ := slc_at (byteL.slice.sl_ext HL1.out HC7.out) (show 0 < lg by omega)
    have hl0 : l0 = n0 := by rw [HYS0.out.1]; exact HAL.out _ (List.mem_of_getElem? HY0.out.1)
    subst hl0
    rw [Nat.add_zero] at hcy0
    have hlg0 : 0 < lg := by omega
    by_cases hz0 : l0 = 0
    · subst hz0
      go_wp2_with fail
      go_ret
      exact ⟨rfl, HC1.out.trans0 HC7.out⟩
    · have hnz0 : ((l0 : Int) == 0) = false := by simp [hz0]
      have HS7a := Lib.hid (byteL.slice.sl_ext HS7.out ((Chg.refl [] w7).alloc (.cells #[] 22)))
      have HNF7 := Lib.hid (show ∀ q, (some w7.heap.size : Option Nat) = some q → q ∉ h6.toList ++ f6 from fun q hq hm => by cases hq; exact Nat.lt_irrefl _ (byteL.slice.sl_lt HS7.out _ hm))
      have HLL7 := Lib.hid (show ([] : List (List UInt8)).length + ALL.length ≤ maxLen ∧ (([] : List (List UInt8)).length + ALL.length) * 24 ≤ 140737488355328 by rw [HLN.out]; simp only [List.length_nil, maxLen]; omega)
      have HNE := Lib.hid (show ALL ≠ [] by intro e; have := HLN.out; rw [e] at this; simp at this; omega)
      go_wp2_with (at_builtin; (refine byteL.slice.list_own rfl _ _ 24 rfl Try.underlying24 KLL rfl (byteL.slice.os_made 22 w7 #[] 0 (by simp [maxLen]) (by simp)) rfl HS7a.out HNF7.out HLL7.out.1 HLL7.out.2 ?_; intro v8 w8 h8 f8 ho8 hh8 hs8 hc8; rw [List.nil_append] at ho8; obtain ⟨g8, cap8, ps0, rfl, hhe, hrow, hmap, hcap, hmax⟩ := byteL.slice.os_row ho8 HNE.out; have HROW := Lib.hid (And.intro hrow (And.intro hmap (And.intro hcap hmax))); have HC8 := Lib.hid (show Chg [] w7 w8 from ((Chg.refl [] w7).alloc (.cells #[] 22)).trans hc8 (fun x hx => .inr (by simp at hx; omega))); have hg8 : w7.heap.size ≤ g8 := (hh8.elim (fun e => by rw [hhe] at e; have e3 := Option.some.inj e; omega) (fun e => by rw [hhe] at e; have e3 := Option.some.inj e; simp at e3; omega)); rw [HLN.out]; clear ho8 hh8 hs8 hc8 hrow hmap hhe hcap hmax))
      go_loopw [9] (fun vk wr => ∃ (k : Nat) (ps : List (List UInt8 × List Nat)) (Wr : World), Wr = wr ∧ k ≤ lb ∧ vk = .int .i64 k ∧ RowKit.Hid (RowAt byteL.slice wr g8 0 ps ∧ Holed ALL (ps.map (·.1)) k ∧ Chg [] w7 wr)) (fun vk _ => lb - (intOf vk).toNat)
      case atStart => exact ⟨0, ps0, _, rfl, by omega, rfl, HROW.out.1, by rw [HROW.out.2.1]; exact Holed.start (fun x hx => by rw [HAN.out x hx]; omega), HC8.out⟩
      case round =>
        obtain ⟨k, ps, wr, rfl, hk, rfl, HR⟩ := hrel
        have hpl : ps.length = ln := by rw [← List.length_map (f := (·.1)), HR.out.2.1.1]; exact HLN.out
        have HPL := Lib.hid hpl
        have HLEN := Lib.hid (show ln ≤ cap8 ∧ cap8 ≤ maxLen from ⟨by rw [← HLN.out]; exact HROW.out.2.2.1, HROW.out.2.2.2⟩)
        clear hpl
        by_cases hlt : k < lb
        · go_wp2_with fail
          refine (lwAt_any a la ca xs f (k + 5) ((lg : Int) + lb) wr (byteL.sl_ext HA.out ((HC1.out.trans0 HC7.out).trans0 HR.out.2.2)) (by omega) (by omega) (by omega) (by omega) (by omega)).mono ?_
          rintro e w5 ⟨v, rfl, hd5, hc5⟩
          have hv0 := hd5.1; have hv1 := hd5.2.1 (by omega)
          obtain ⟨i, rfl⟩ : ∃ i : Nat, v = (i : Int) := ⟨v.toNat, by omega⟩
          have hil : i < ln := by have := HLEQ.out; omega
          have HR5 := Lib.hid (HR.out.1.ext hc5)
          have HC5 := Lib.hid (HR.out.2.2.trans0 hc5)
          have hfz := HR5.out.free
          obtain ⟨y5, B5, o5, A5, l5, C5, f5, -, e5, hcy5, -⟩ := slc_at (HR5.out.sl HPL.out.symm HLEN.out.1 HLEN.out.2) hil
          cases e5
          rw [Nat.zero_add] at hcy5
          clear hd5 hc5
          go_wp2_with fail
          go_roundw
          case rel => exact ⟨k + 1, ps.set i ([], []), _, rfl, by omega, by go_num, row_hole HR5.out (by rw [HPL.out]; exact hil), by rw [List.map_set]; exact HR.out.2.1.next i, HC5.out.setCell _ _ (.inr hg8)⟩
          case measure => simp [intOf]; omega
        · obtain rfl : k = lb := by omega
          have hde := impl_decode2 (some ⟨g8, 0, none⟩) ln cap8 (ps.map (·.1)) _ (lg : Int) (by simp only [i64ok]; omega) (k : Int) HGI.out wr (HR.out.1.sl HPL.out.symm HLEN.out.1 HLEN.out.2) (by omega)
          rw [HBK.out _ HR.out.2.1] at hde
          have HDE := Lib.hid hde
          clear hde
          go_wp2_with fail
          refine HDE.out.mono ?_
          rintro e w9 ⟨a9, c9, f9, rfl, hs9, hf9, hc9⟩
          simp only at hs9 ⊢
          rw [HLN.out] at hs9 ⊢
          have HS9 := Lib.hid hs9
          have HC9 := Lib.hid (HR.out.2.2.trans0 hc9)
          have hB9 := new_alloc w9 (.cells #[.int .i64 0, .slice a9 ln c9] 28)
          have HB9 := Lib.hid hB9
          have cB := cellsOf hB9; have lB := ltOf hB9
          have hnn : ((ln : Int) != (ln : Int)) = false := by simp
          clear hs9 hf9 hc9 hB9
          go_wp2_with fail
          go_loopw [11] (fun vi wq => ∃ (i : Nat) (Wq : World), Wq = wq ∧ i ≤ ln ∧ vi = .int .i64 i ∧ Chg [] (w9.alloc (.cells #[.int .i64 0, .slice a9 ln c9] 28)) wq) (fun vi _ => ln - (intOf vi).toNat)
          case atStart => exact ⟨0, _, rfl, by omega, rfl, Chg.refl _ _⟩
          case round =>
            obtain ⟨i, wq, rfl, hi, rfl, hcq⟩ := hrel
            have HCQ := Lib.hid hcq
            have HCA := Lib.hid (show Chg [] w7 wq from (HC9.out.alloc _).trans0 hcq)
            have HBQ := Lib.hid (keep_drew (hcq.keep0 HB9.out))
            clear hcq cB lB
            by_cases hlt2 : i < ln
            · obtain ⟨y1, B1, o1, A1, l1, C1, f1, HY1, rfl, hcy1, HYS1⟩ := slc_at (byteL.slice.sl_ext HS9.out (((Chg.refl [] w9).alloc _).trans0 HCQ.out)) hlt2
              obtain ⟨y2, B2, o2, A2, l2, C2, f2, HY2, rfl, hcy2, HYS2⟩ := slc_at (byteL.slice.sl_ext HS7.out HCA.out) hlt2
              have hyy : y2 = y1 := Option.some.inj (HY2.out.1.symm.trans HY1.out.1)
              subst hyy
              have hll : l2 = l1 := by rw [HYS2.out.1]; exact HYS1.out.1.symm
              subst hll
              have lB1 : B1 < wq.heap.size := byteL.slice.sl_lt (byteL.slice.sl_ext HS9.out (((Chg.refl [] w9).alloc _).trans0 HCQ.out)) _ HY1.out.2.1
              have lB2 : B2 < wq.heap.size := byteL.slice.sl_lt (byteL.slice.sl_ext HS7.out HCA.out) _ HY2.out.2.1
              have HLB2 := Lib.hid (lwBytes_any A1 A2 l2 C1 C2 y2 f1 f2 wq.drew (byteL.sl_ext HYS1.out (Chg.refl [] _).drew) (byteL.sl_ext HYS2.out (Chg.refl [] _).drew))
              have HCX := Lib.hid (show wq.drew.cell? ⟨B1, o1 + i, none⟩ = some (.slice A1 l2 C1) from hcy1)
              have HCY := Lib.hid (show wq.drew.cell? ⟨B2, o2 + i, none⟩ = some (.slice A2 l2 C2) from hcy2)
              clear hcy1 hcy2
              go_wp2_with fail
              obtain ⟨SS1, HSI1, HSO1⟩ := rg_cond (fun w' => Know w9.heap.size #[.int .i64 0, .slice (some ⟨B1, o1, none⟩) ln c9] w' ∧ w'.cell? ⟨B1, o1 + i, none⟩ = some (.slice A1 l2 C1) ∧ w'.cell? ⟨B2, o2 + i, none⟩ = some (.slice A2 l2 C2))
              have hS0 := HSI1.out wq.drew ⟨(Know.of HBQ.out), HCX.out, HCY.out⟩
              refine rg_start SS1 (by kernel_rfl) hS0 ?_
              refine rgT 0 hS0 ?_
              refine rgL 1 hS0 HSO1 ?_
              refine rgT 2 hS0 ?_
              refine rgT 3 hS0 ?_
              refine rgL 4 hS0 HSO1 ?_
              refine rgT 5 hS0 ?_
              refine rgT 6 hS0 ?_
              refine rgT 7 hS0 ?_
              refine rgL 8 hS0 HSO1 ?_
              refine rg_call 9 rfl (by kernel_rfl) (fun K hK => ?_)
              go_simp
              go_at_call 13
              refine HLB2.out.mono ?_; rintro e wz ⟨rfl, hcz⟩
              have HBZ := Lib.hid (hcz.keep0 HBQ.out); have HCZ := Lib.hid ((Chg.refl [] wq).drew.trans0 hcz); have hd1 := cellKeep hcz HCX.out lB1; have hd2 := cellKeep hcz HCY.out lB2; clear hcz
              go_wp2_with fail
              refine hK.out _ _ (HSI1.out _ ⟨(Know.of HBZ.out), hd1, hd2⟩) (fun hS1 => ?_)
              clear hK K
              try simp only [Act.put, List.setIfInBounds_toArray, List.set_cons_zero, List.set_cons_succ]
              refine rgT 10 hS1 ?_
              refine wpAnyH_done (by kernel_rfl) ?_ _
              go_wp2_with fail
              go_roundw
              case rel => exact ⟨i + 1, _, rfl, by omega, by go_num, HCQ.out.trans0 HCZ.out⟩
              case measure => simp [intOf]; omega
            · go_wp2_with fail
              go_ret
              exact ⟨rfl, (HC1.out.trans0 HC7.out).trans0 HCA.out⟩
  · have hnz : (n != (0 : Int)) = true := by simp [hn]
    have cB := cellsOf HBX0.out; have lB := ltOf HBX0.out
    go_wp2_with fail
    clear cB lB
    obtain ⟨SS1, HSI1, HSO1⟩ := rg_cond (fun w' => Know w2.heap.size #[.int .i64 n, .slice a3 lb c3] w')
    have hS0 := HSI1.out (w2.alloc (.cells #[.int .i64 n, .slice a3 lb c3] 28)).drew (Know.of HBX.out)
    refine rg_start SS1 (by kernel_rfl) hS0 ?_
    refine rgT 0 hS0 ?_
    refine rgT 1 hS0 ?_
    refine rgT 4 hS0 ?_
    refine rgL 5 hS0 HSO1 ?_
    refine rg_call 2 rfl (by kernel_rfl) (fun K hK => ?_)
    go_simp
    go_at_call 9
    refine (HSS.out _ HCWd.out).mono ?_; rintro e w5 ⟨a5, c5, f5, rfl, -, -, hc5⟩
    have HB5 := Lib.hid (hc5.keep0 HBX.out); have HC5 := Lib.hid (HCWd.out.trans0 hc5); clear hc5
    go_wp2_with fail
    refine hK.out _ _ (HSI1.out _ (Know.of HB5.out)) (fun hS1 => ?_)
    clear hK K
    try simp only [Act.put, List.setIfInBounds_toArray, List.set_cons_zero, List.set_cons_succ]
    refine rgT 3 hS1 ?_
    refine rgT 6 hS1 ?_
    refine rgT 7 hS1 ?_
    refine wpAnyH_done (by kernel_rfl) ?_ _
    go_wp2_with fail
    go_ret
    exact ⟨by simp, HC1.out.trans0 HC5.out⟩
end Go.Proofs.Ytjnclggpaekdfaa
