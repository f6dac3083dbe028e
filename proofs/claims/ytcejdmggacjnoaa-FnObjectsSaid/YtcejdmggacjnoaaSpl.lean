
/- An object cut: the reference's loop; SplitObject of the program and of the reference. -/
import Derived.Deep.DeepCutAuto
import Derived.Test.YtcejdmggacjnoaaChk
import Derived.Test.YtcejdmggacjnoaaZer
import Derived.Test.YtcejdmggacjnoaaStB
import Derived.Test.YtcejdmggacjnoaaRg2
import Derived.Test.YtcejdmggacjnoaaCpd
namespace Go.Proofs.Ytcejdmggacjnoaa
open Go.RowKit

theorem row_of {xs : List UInt8} {k n j : Nat} (hl : xs.length ≤ n * k) (hj : j < n) : ((xs ++ List.replicate (n * k - xs.length) 0).drop (j * k)).take ((j + 1) * k - j * k) = rowL xs k j := by
  have h1 : (j + 1) * k ≤ n * k := Nat.mul_le_mul_right _ hj
  rw [Nat.add_mul, Nat.one_mul] at h1 ⊢
  rw [Nat.add_sub_cancel_left]
  have hp := partL_length xs k j
  unfold rowL
  rw [List.drop_append, List.take_append, List.drop_replicate, List.take_replicate, hp]
  unfold partL
  congr 2
  rw [List.length_drop]
  omega
theorem sub_row {w : World} {b off L C : Nat} {ys : List UInt8} {f : List Nat} (h : byteL.sl w (some ⟨b, off, none⟩) L C ys f) {p q : Nat} (hpq : p ≤ q) (hq : q ≤ L) : ∃ f', byteL.sl w (some ⟨b, off + p, none⟩) (q - p) (C - p) ((ys.drop p).take (q - p)) f' := by
  obtain ⟨f1, _, h1⟩ := byteL.sl_drop h (n := p) (by omega)
  have e : off + p * byteL.n = off + p := by simp [byteL]
  rw [e] at h1
  obtain ⟨f2, _, h2⟩ := byteL.sl_take h1 (n := q - p) (by omega)
  exact ⟨f2, h2⟩
set_option maxRecDepth 100000 in
set_option maxHeartbeats 4000000 in
theorem l4Split_any (s : Shp) (hs : s.ok) (k : Nat) (hkw : s.data * 4 = (k : Int)) (b off len cap n : Nat) (xs : List UInt8) (f : List Nat) (w : World) (ha : byteL.sl w (some ⟨b, off, none⟩) len cap xs f) (hl2 : len ≤ 36) (hlen1 : 1 ≤ len) (hn : ((len : Int) + 4 * s.data - 1) / (4 * s.data) = n) (hn9 : n ≤ 3) (hnl : len ≤ n * k) :
    Calls Try.prog 20 #[.agg s.cells, .slice (some ⟨b, off, none⟩) len cap] w (NewSl byteL.slice ((List.range n).map (rowL xs k)) w) := by
  have hd := hs.data
  have hk1 : 1 ≤ k := by omega
  have hk12 : k ≤ 12 := by omega
  have hnk : n * k ≤ 36 := Nat.le_trans (Nat.mul_le_mul hn9 hk12) (by omega)
  have HA := Lib.hid ha
  have HW := Lib.hid (l4Wide_any s hd.1 hd.2)
  have HP := Lib.hid (l4Parts_any s len hd.1 hd.2 (by omega) (by omega))
  obtain ⟨K1, hK1z⟩ := kindB
  obtain ⟨K2, _⟩ := kindLL
  rw [hkw] at HW; rw [hn] at HP
  obtain ⟨sc, hsc⟩ : ∃ sc, sc = s.cells := ⟨_, rfl⟩
  rw [← hsc] at HW HP ⊢
  obtain ⟨g, c, d, p, r, q, bb, u, t⟩ := s
  simp only [Shp.cells] at hsc
  subst hsc
  clear hkw hs hd ha hn
  go_enter Try.func20, Try.ntmps20
  go_wp2_with fail
  refine (HP.out _).mono ?_; rintro e w1 ⟨rfl, hc1⟩
  have HB1 := Lib.hid (hc1.keep0 (new_alloc w _))
  have HC1 := Lib.hid (((Chg.refl [] w).alloc (.cells #[.int .i64 g, .int .i64 c, .int .i64 d, .int .i64 p, .int .i64 r, .int .i64 q, .int .i64 bb, .int .i64 u, .int .i64 t] 29)).trans0 hc1)
  clear hc1
  have HL0 := Lib.hid (show ([] : List UInt8).length + xs.length ≤ maxLen ∧ (([] : List UInt8).length + xs.length) * 1 ≤ 140737488355328 by have := HA.out.1; simp only [List.length_nil, maxLen]; omega)
  have HLz := Lib.hid (show xs.length + (n * k - len) ≤ maxLen ∧ (xs.length + (n * k - len)) * 1 ≤ 140737488355328 by have := HA.out.1; simp only [maxLen]; omega)
  have hmul : IntKind.i64.wrap ((n : Int) * (k : Int)) = ((n * k : Nat) : Int) := by rw [← Int.natCast_mul]; exact IntWalk.i64_in _ ⟨by omega, by omega⟩
  have hsub : IntKind.i64.wrap (((n * k : Nat) : Int) - (len : Int)) = ((n * k - len : Nat) : Int) := by rw [IntWalk.i64_in _ ⟨by omega, by omega⟩]; omega
  go_wp2_with fail
  obtain ⟨SS, HSI, HSO⟩ := rg_cond (fun w' => Know w.heap.size #[.int .i64 g, .int .i64 c, .int .i64 d, .int .i64 p, .int .i64 r, .int .i64 q, .int .i64 bb, .int .i64 u, .int .i64 t] w')
  have hS0 := HSI.out w1.drew (Know.of HB1.out)
  refine rg_start SS (by kernel_rfl) hS0 ?_
  refine rgT 1 hS0 ?_
  refine rgT 3 hS0 ?_
  refine rgL 4 hS0 HSO ?_
  refine rgT 7 hS0 ?_
  refine rgT 8 hS0 ?_
  refine rg_call 0 rfl (by kernel_rfl) (fun K hK => ?_)
  have HM := Lib.hid (show Grow byteL 5 w1 (w1.drew.alloc (.cells #[] 5)) (.slice (some ⟨w1.heap.size, 0, none⟩) 0 0) [] from Grow.madeN ((Chg.refl [] w1).drew) rfl)
  go_simp
  refine hK.out _ _ (HSI.out _ (Know.of ((((Chg.refl [] w1).drew).alloc _).keep0 HB1.out))) (fun hS18 => ?_)
  clear hK K
  try simp only [Act.put, List.setIfInBounds_toArray, List.set_cons_zero, List.set_cons_succ]
  refine rg_call 2 rfl (by kernel_rfl) (fun K hK => ?_)
  refine byteL.step_growS byte_flat rfl _ _ 24 rfl Try.underlying24 K1 rfl HM.out (Chg.refl [] _) rfl (byteL.sl_ext HA.out (HC1.out.trans0 (((Chg.refl [] w1).drew).alloc _))) HL0.out.1 HL0.out.2 ?_
  intro v2 w2 hg2
  rw [List.nil_append] at hg2; obtain ⟨a2, c2, _, rfl, -, -, -⟩ := hg2.sl; have H2 := Lib.hid hg2; clear hg2
  refine hK.out _ _ (HSI.out _ (Know.of (H2.out.chg.keep0 HB1.out))) (fun hS19 => ?_)
  clear hK K
  try simp only [Act.put, List.setIfInBounds_toArray, List.set_cons_zero, List.set_cons_succ]
  refine rg_call 5 rfl (by kernel_rfl) (fun K hK => ?_)
  go_simp
  go_at_call 41
  refine (HW.out _).mono ?_; rintro e w' ⟨rfl, rfl⟩
  go_wp2_with fail
  refine hK.out _ _ (HSI.out _ (Know.of ((H2.out.chg.alloc _).keep0 HB1.out))) (fun hS20 => ?_)
  clear hK K
  try simp only [Act.put, List.setIfInBounds_toArray, List.set_cons_zero, List.set_cons_succ]
  refine rgT 6 hS20 ?_
  refine rgT 9 hS20 ?_
  refine rg_call 10 rfl (by kernel_rfl) (fun K hK => ?_)
  refine byteL.step_growZ (x0 := 0) (kq := .i64) (kn := .i64) rfl _ _ 24 2 rfl Try.underlying24 Try.underlying2 K1 (fun _ => by rw [hK1z]; exact ⟨rfl, rfl⟩) rfl H2.out ((Chg.refl [] _).alloc _) (n * k - len) (by show Value.int .i64 (IntKind.i64.wrap ((n : Int) * (k : Int) - (len : Int))) = _; rw [← Int.natCast_mul, hsub]) HLz.out.1 HLz.out.2 ?_
  intro v3 w3 hg3; have H3 := Lib.hid hg3; clear hg3
  refine hK.out _ _ (HSI.out _ (Know.of (H3.out.chg.keep0 HB1.out))) (fun hS21 => ?_)
  clear hK K
  try simp only [Act.put, List.setIfInBounds_toArray, List.set_cons_zero, List.set_cons_succ]
  refine rgT 11 hS21 ?_
  refine wpAnyH_done (by kernel_rfl) ?_ _
  skip
  obtain ⟨a3, c3, f3, rfl, hs3, hf3, hc3⟩ := H3.out.sl
  have hL6 : (xs ++ List.replicate (n * k - len) 0).length = n * k := by have := HA.out.1; rw [List.length_append, List.length_replicate]; omega
  have hnk1 : 1 ≤ n * k := by have := HA.out.1; have := hlen1; omega
  rw [hL6] at hs3 ⊢
  obtain ⟨_, _, b6, o6, _, rfl, _⟩ := byte_at hs3 (show 0 < n * k by omega)
  have hcap6 := hs3.2.1; have hcm6 := hs3.2.2.1
  have HS3 := Lib.hid hs3; have HC3 := Lib.hid hc3
  have HB6 := Lib.hid (hc3.keep0 HB1.out)
  clear hs3 hf3 hc3 H3
  simp only [maxLen] at hcm6
  go_wp2_with fail
  go_loopw [7, 8] (fun vo vj wr => ∃ (j : Nat) (Wr : World), Wr = wr ∧ j ≤ n ∧ vj = .int .i64 j ∧ Grow byteL.slice 24 w3 wr vo ((List.range j).map (rowL xs k))) (fun _ vj _ => n - (intOf vj).toNat)
  case atStart => exact ⟨0, _, rfl, by omega, rfl, Grow.made (Chg.refl _ _)⟩
  case round =>
    obtain ⟨j, wr, rfl, hj, rfl, hg⟩ := hrel
    by_cases hlt : j < n
    · have HG := Lib.hid hg
      have HBX := Lib.hid (hg.chg.keep0 HB6.out)
      have cX := cellsOf HBX.out; have lX := ltOf HBX.out
      have HC0 := Lib.hid ((Chg.refl [] wr).drew)
      have h1 : (j + 1) * k ≤ n * k := Nat.mul_le_mul_right _ hlt
      have h2 : j * k ≤ (j + 1) * k := Nat.mul_le_mul_right _ (by omega)
      obtain ⟨fs, hsub⟩ := sub_row (byteL.sl_ext HS3.out hg.chg) h2 h1
      rw [show len = xs.length from HA.out.1, row_of (by have := HA.out.1; omega) hlt] at hsub
      have h3 : j * k + k = (j + 1) * k := by rw [Nat.add_mul, Nat.one_mul]
      obtain ⟨p0, hp0⟩ : ∃ p0, p0 = j * k := ⟨_, rfl⟩
      obtain ⟨q0, hq0⟩ : ∃ q0, q0 = (j + 1) * k := ⟨_, rfl⟩
      have hm1 : IntKind.i64.wrap ((j : Int) * (k : Int)) = (p0 : Int) := by rw [← Int.natCast_mul, ← hp0]; exact IntWalk.i64_in _ ⟨by omega, by omega⟩
      have hm2 : IntKind.i64.wrap ((j : Int) + 1) = (j : Int) + 1 := by rw [IntWalk.i64_in _ ⟨by omega, by omega⟩]
      have hm3 : IntKind.i64.wrap (((j : Int) + 1) * (k : Int)) = (q0 : Int) := by
        have e : ((j : Int) + 1) * (k : Int) = (q0 : Int) := by rw [hq0]; push_cast; rfl
        rw [e]; exact IntWalk.i64_in _ ⟨by omega, by omega⟩
      rw [← hp0, ← hq0] at hsub h2 h3
      rw [← hq0] at h1
      clear hp0 hq0
      have hne : ¬ c3 = p0 := by omega
      have hqc : q0 ≤ c3 := by omega
      have HSUB := Lib.hid hsub
      have HL1 := Lib.hid (show ([] : List UInt8).length + (rowL xs k j).length ≤ maxLen ∧ (([] : List UInt8).length + (rowL xs k j).length) * 1 ≤ 140737488355328 by rw [rowL_length]; simp only [List.length_nil, maxLen]; omega)
      have HL2 := Lib.hid (show ((List.range j).map (rowL xs k)).length + [rowL xs k j].length ≤ maxLen ∧ (((List.range j).map (rowL xs k)).length + [rowL xs k j].length) * 24 ≤ 140737488355328 by simp only [List.length_map, List.length_range, List.length_singleton, maxLen]; omega)
      have HNX := Lib.hid (show (List.range j).map (rowL xs k) ++ [rowL xs k j] = (List.range (j + 1)).map (rowL xs k) by rw [List.range_succ, List.map_append]; rfl)
      clear hsub hg HS3 HL0 HLz
      go_wp2_with fail
      obtain ⟨SS, HSI, HSO⟩ := rg_cond (fun w' => Know w.heap.size #[.int .i64 g, .int .i64 c, .int .i64 d, .int .i64 p, .int .i64 r, .int .i64 q, .int .i64 bb, .int .i64 u, .int .i64 t] w')
      have hS0 := HSI.out wr.drew (Know.of HBX.out)
      refine rg_start SS (by kernel_rfl) hS0 ?_
      refine rgT 0 hS0 ?_
      refine rgT 2 hS0 ?_
      refine rgT 3 hS0 ?_
      refine rgL 4 hS0 HSO ?_
      refine rgT 7 hS0 ?_
      refine rgT 8 hS0 ?_
      refine rgL 9 hS0 HSO ?_
      refine rg_call2 1 5 rfl rfl (by kernel_rfl) (fun K hK => ?_) (fun K hK => ?_)
      · have HM := Lib.hid (show Grow byteL 5 wr (wr.drew.alloc (.cells #[] 5)) (.slice (some ⟨wr.heap.size, 0, none⟩) 0 0) [] from Grow.madeN HC0.out (by simp))
        go_simp
        refine hK.out _ _ (HSI.out _ (Know.of ((HC0.out.alloc _).keep0 HBX.out))) (fun hS1 => ?_)
        clear hK K
        try simp only [Act.put, List.setIfInBounds_toArray, List.set_cons_zero, List.set_cons_succ]
        refine rg_call 5 rfl (by kernel_rfl) (fun K hK => ?_)
        go_simp
        go_at_call 41
        refine (HW.out _).mono ?_; rintro e w' ⟨rfl, rfl⟩
        have HM := Lib.hid (HM.out.ext ((Chg.refl [] _).alloc (.cells #[.int .i64 g, .int .i64 c, .int .i64 d, .int .i64 p, .int .i64 r, .int .i64 q, .int .i64 bb, .int .i64 u, .int .i64 t] 29)))
        go_wp2_with fail
        refine hK.out _ _ (HSI.out _ (Know.of (((HC0.out.alloc _).alloc _).keep0 HBX.out))) (fun hS2 => ?_)
        clear hK K
        try simp only [Act.put, List.setIfInBounds_toArray, List.set_cons_zero, List.set_cons_succ]
        refine rgT 6 hS2 ?_
        refine rg_call 10 rfl (by kernel_rfl) (fun K hK => ?_)
        go_simp
        go_at_call 41
        refine (HW.out _).mono ?_; rintro e w' ⟨rfl, rfl⟩
        have HM := Lib.hid (HM.out.ext ((Chg.refl [] _).alloc (.cells #[.int .i64 g, .int .i64 c, .int .i64 d, .int .i64 p, .int .i64 r, .int .i64 q, .int .i64 bb, .int .i64 u, .int .i64 t] 29)))
        go_wp2_with fail
        refine hK.out _ _ (HSI.out _ (Know.of ((((HC0.out.alloc _).alloc _).alloc _).keep0 HBX.out))) (fun hS3 => ?_)
        clear hK K
        try simp only [Act.put, List.setIfInBounds_toArray, List.set_cons_zero, List.set_cons_succ]
        refine rgT 11 hS3 ?_
        refine rgT 12 hS3 ?_
        refine rg_call 13 rfl (by kernel_rfl) (fun K hK => ?_)
        refine byteL.step_growS byte_flat rfl _ _ 24 rfl Try.underlying24 K1 rfl HM.out (Chg.refl [] _) rfl (byteL.sl_ext HSUB.out (((HC0.out.alloc _).alloc _).alloc _)) HL1.out.1 HL1.out.2 ?_
        intro v13 w13 hg13
        rw [List.nil_append] at hg13
        obtain ⟨a13, c13, f13, rfl, hs13, hf13, hc13⟩ := hg13.sl
        have HS13 := Lib.hid hs13; have HF13 := Lib.hid hf13; have HC13 := Lib.hid hc13; clear hs13 hf13 hc13 hg13
        refine hK.out _ _ (HSI.out _ (Know.of (HC13.out.keep0 HBX.out))) (fun hS4 => ?_)
        clear hK K
        try simp only [Act.put, List.setIfInBounds_toArray, List.set_cons_zero, List.set_cons_succ]
        refine rg_call 14 rfl (by kernel_rfl) (fun K hK => ?_)
        go_simp
        refine hK.out _ _ (HSI.out _ (Know.of ((HC13.out.alloc _).keep0 HBX.out))) (fun hS5 => ?_)
        clear hK K
        try simp only [Act.put, List.setIfInBounds_toArray, List.set_cons_zero, List.set_cons_succ]
        refine rg_call 15 rfl (by kernel_rfl) (fun K hK => ?_)
        refine byteL.slice.step_grow rfl _ _ 25 rfl Try.underlying25 K2 rfl HG.out (HC13.out.alloc _) ⟨w13.heap.size, 0, none⟩ 1 1 [.slice a13 (rowL xs k j).length c13] (ys := [rowL xs k j]) (f := f13) rfl rfl (new_cell _ _ _) (slc_all1 (byteL.sl_ext HS13.out ((Chg.refl [] _).alloc _))) (HF13.out.chg ((Chg.refl [] _).alloc _)) HL2.out.1 HL2.out.2 ?_
        intro v15 w15 hg15
        rw [HNX.out] at hg15; have HG15 := Lib.hid hg15; clear hg15
        refine hK.out _ _ (HSI.out _ (Know.of (HG15.out.chg.keep0 HB6.out))) (fun hS6 => ?_)
        clear hK K
        try simp only [Act.put, List.setIfInBounds_toArray, List.set_cons_zero, List.set_cons_succ]
        refine rgT 16 hS6 ?_
        refine wpAnyH_done (by kernel_rfl) ?_ _
        go_wp2_with fail
        go_roundw
        case rel => exact ⟨j + 1, _, rfl, by omega, by go_num, HG15.out⟩
        case measure => simp [intOf]; omega
      · go_simp
        go_at_call 41
        refine (HW.out _).mono ?_; rintro e w' ⟨rfl, rfl⟩
        go_wp2_with fail
        refine hK.out _ _ (HSI.out _ (Know.of ((HC0.out.alloc _).keep0 HBX.out))) (fun hS7 => ?_)
        clear hK K
        try simp only [Act.put, List.setIfInBounds_toArray, List.set_cons_zero, List.set_cons_succ]
        refine rgT 6 hS7 ?_
        refine rg_call2 1 10 rfl rfl (by kernel_rfl) (fun K hK => ?_) (fun K hK => ?_)
        · have HM := Lib.hid (show Grow byteL 5 wr ((wr.drew.alloc (.cells #[.int .i64 g, .int .i64 c, .int .i64 d, .int .i64 p, .int .i64 r, .int .i64 q, .int .i64 bb, .int .i64 u, .int .i64 t] 29)).alloc (.cells #[] 5)) (.slice (some ⟨wr.heap.size + 1, 0, none⟩) 0 0) [] from Grow.madeN (HC0.out.alloc _) (by simp))
          go_simp
          refine hK.out _ _ (HSI.out _ (Know.of (((HC0.out.alloc _).alloc _).keep0 HBX.out))) (fun hS8 => ?_)
          clear hK K
          try simp only [Act.put, List.setIfInBounds_toArray, List.set_cons_zero, List.set_cons_succ]
          refine rg_call 10 rfl (by kernel_rfl) (fun K hK => ?_)
          go_simp
          go_at_call 41
          refine (HW.out _).mono ?_; rintro e w' ⟨rfl, rfl⟩
          have HM := Lib.hid (HM.out.ext ((Chg.refl [] _).alloc (.cells #[.int .i64 g, .int .i64 c, .int .i64 d, .int .i64 p, .int .i64 r, .int .i64 q, .int .i64 bb, .int .i64 u, .int .i64 t] 29)))
          go_wp2_with fail
          refine hK.out _ _ (HSI.out _ (Know.of ((((HC0.out.alloc _).alloc _).alloc _).keep0 HBX.out))) (fun hS9 => ?_)
          clear hK K
          try simp only [Act.put, List.setIfInBounds_toArray, List.set_cons_zero, List.set_cons_succ]
          refine rgT 11 hS9 ?_
          refine rgT 12 hS9 ?_
          refine rg_call 13 rfl (by kernel_rfl) (fun K hK => ?_)
          refine byteL.step_growS byte_flat rfl _ _ 24 rfl Try.underlying24 K1 rfl HM.out (Chg.refl [] _) rfl (byteL.sl_ext HSUB.out (((HC0.out.alloc _).alloc _).alloc _)) HL1.out.1 HL1.out.2 ?_
          intro v13 w13 hg13
          rw [List.nil_append] at hg13
          obtain ⟨a13, c13, f13, rfl, hs13, hf13, hc13⟩ := hg13.sl
          have HS13 := Lib.hid hs13; have HF13 := Lib.hid hf13; have HC13 := Lib.hid hc13; clear hs13 hf13 hc13 hg13
          refine hK.out _ _ (HSI.out _ (Know.of (HC13.out.keep0 HBX.out))) (fun hS10 => ?_)
          clear hK K
          try simp only [Act.put, List.setIfInBounds_toArray, List.set_cons_zero, List.set_cons_succ]
          refine rg_call 14 rfl (by kernel_rfl) (fun K hK => ?_)
          go_simp
          refine hK.out _ _ (HSI.out _ (Know.of ((HC13.out.alloc _).keep0 HBX.out))) (fun hS11 => ?_)
          clear hK K
          try simp only [Act.put, List.setIfInBounds_toArray, List.set_cons_zero, List.set_cons_succ]
          refine rg_call 15 rfl (by kernel_rfl) (fun K hK => ?_)
          refine byteL.slice.step_grow rfl _ _ 25 rfl Try.underlying25 K2 rfl HG.out (HC13.out.alloc _) ⟨w13.heap.size, 0, none⟩ 1 1 [.slice a13 (rowL xs k j).length c13] (ys := [rowL xs k j]) (f := f13) rfl rfl (new_cell _ _ _) (slc_all1 (byteL.sl_ext HS13.out ((Chg.refl [] _).alloc _))) (HF13.out.chg ((Chg.refl [] _).alloc _)) HL2.out.1 HL2.out.2 ?_
          intro v15 w15 hg15
          rw [HNX.out] at hg15; have HG15 := Lib.hid hg15; clear hg15
          refine hK.out _ _ (HSI.out _ (Know.of (HG15.out.chg.keep0 HB6.out))) (fun hS12 => ?_)
          clear hK K
          try simp only [Act.put, List.setIfInBounds_toArray, List.set_cons_zero, List.set_cons_succ]
          refine rgT 16 hS12 ?_
          refine wpAnyH_done (by kernel_rfl) ?_ _
          go_wp2_with fail
          go_roundw
          case rel => exact ⟨j + 1, _, rfl, by omega, by go_num, HG15.out⟩
          case measure => simp [intOf]; omega
        · go_simp
          go_at_call 41
          refine (HW.out _).mono ?_; rintro e w' ⟨rfl, rfl⟩
          go_wp2_with fail
          refine hK.out _ _ (HSI.out _ (Know.of (((HC0.out.alloc _).alloc _).keep0 HBX.out))) (fun hS13 => ?_)
          clear hK K
          try simp only [Act.put, List.setIfInBounds_toArray, List.set_cons_zero, List.set_cons_succ]
          refine rgT 11 hS13 ?_
          refine rgT 12 hS13 ?_
          refine rg_call 1 rfl (by kernel_rfl) (fun K hK => ?_)
          have HM := Lib.hid (show Grow byteL 5 wr (((wr.drew.alloc (.cells #[.int .i64 g, .int .i64 c, .int .i64 d, .int .i64 p, .int .i64 r, .int .i64 q, .int .i64 bb, .int .i64 u, .int .i64 t] 29)).alloc (.cells #[.int .i64 g, .int .i64 c, .int .i64 d, .int .i64 p, .int .i64 r, .int .i64 q, .int .i64 bb, .int .i64 u, .int .i64 t] 29)).alloc (.cells #[] 5)) (.slice (some ⟨wr.heap.size + 1 + 1, 0, none⟩) 0 0) [] from Grow.madeN ((HC0.out.alloc _).alloc _) (by simp))
          go_simp
          refine hK.out _ _ (HSI.out _ (Know.of ((((HC0.out.alloc _).alloc _).alloc _).keep0 HBX.out))) (fun hS14 => ?_)
          clear hK K
          try simp only [Act.put, List.setIfInBounds_toArray, List.set_cons_zero, List.set_cons_succ]
          refine rg_call 13 rfl (by kernel_rfl) (fun K hK => ?_)
          refine byteL.step_growS byte_flat rfl _ _ 24 rfl Try.underlying24 K1 rfl HM.out (Chg.refl [] _) rfl (byteL.sl_ext HSUB.out (((HC0.out.alloc _).alloc _).alloc _)) HL1.out.1 HL1.out.2 ?_
          intro v13 w13 hg13
          rw [List.nil_append] at hg13
          obtain ⟨a13, c13, f13, rfl, hs13, hf13, hc13⟩ := hg13.sl
          have HS13 := Lib.hid hs13; have HF13 := Lib.hid hf13; have HC13 := Lib.hid hc13; clear hs13 hf13 hc13 hg13
          refine hK.out _ _ (HSI.out _ (Know.of (HC13.out.keep0 HBX.out))) (fun hS15 => ?_)
          clear hK K
          try simp only [Act.put, List.setIfInBounds_toArray, List.set_cons_zero, List.set_cons_succ]
          refine rg_call 14 rfl (by kernel_rfl) (fun K hK => ?_)
          go_simp
          refine hK.out _ _ (HSI.out _ (Know.of ((HC13.out.alloc _).keep0 HBX.out))) (fun hS16 => ?_)
          clear hK K
          try simp only [Act.put, List.setIfInBounds_toArray, List.set_cons_zero, List.set_cons_succ]
          refine rg_call 15 rfl (by kernel_rfl) (fun K hK => ?_)
          refine byteL.slice.step_grow rfl _ _ 25 rfl Try.underlying25 K2 rfl HG.out (HC13.out.alloc _) ⟨w13.heap.size, 0, none⟩ 1 1 [.slice a13 (rowL xs k j).length c13] (ys := [rowL xs k j]) (f := f13) rfl rfl (new_cell _ _ _) (slc_all1 (byteL.sl_ext HS13.out ((Chg.refl [] _).alloc _))) (HF13.out.chg ((Chg.refl [] _).alloc _)) HL2.out.1 HL2.out.2 ?_
          intro v15 w15 hg15
          rw [HNX.out] at hg15; have HG15 := Lib.hid hg15; clear hg15
          refine hK.out _ _ (HSI.out _ (Know.of (HG15.out.chg.keep0 HB6.out))) (fun hS17 => ?_)
          clear hK K
          try simp only [Act.put, List.setIfInBounds_toArray, List.set_cons_zero, List.set_cons_succ]
          refine rgT 16 hS17 ?_
          refine wpAnyH_done (by kernel_rfl) ?_ _
          go_wp2_with fail
          go_roundw
          case rel => exact ⟨j + 1, _, rfl, by omega, by go_num, HG15.out⟩
          case measure => simp [intOf]; omega
    · obtain rfl : j = n := by omega
      have HN := Lib.hid (hg.since (HC1.out.trans0 HC3.out)).new
      obtain ⟨a9, c9, f9, e9, -, -, -⟩ := hg.sl
      subst e9
      clear hg
      go_wp2_with fail
      go_ret
      exact HN.out
theorem infoIR : (Try.prog.info? 44).map (fun i => i.size) = some 2 := by kernel_rfl
theorem ceil_lt {len k n : Nat} (hk : 1 ≤ k) (hn : (len + k - 1) / k = n) (j : Nat) : j * k < len ↔ j < n := by
  subst hn
  rw [Nat.lt_iff_add_one_le (m := j), Nat.le_div_iff_mul_le (by omega), Nat.add_mul, Nat.one_mul]
  omega
/-- what SplitObject answers -/
noncomputable def splitRes (s : Shp) (xs : List UInt8) : Int × List (List UInt8) :=
  if (s.parts xs.length).1 ≠ 0 then ((s.parts xs.length).1, []) else (0, (List.range (s.parts xs.length).2.toNat).map (rowL xs s.wide.toNat))
theorem split_ok {s : Shp} {len : Nat} (h : (s.parts len).1 = 0) : s.ok ∧ 1 ≤ len ∧ len ≤ 36 ∧ ∃ n k : Nat, (s.parts len).2 = (n : Int) ∧ s.data * 4 = (k : Int) ∧ s.wide = (k : Int) ∧ ((len : Int) + 4 * s.data - 1) / (4 * s.data) = n ∧ n ≤ 3 ∧ len ≤ n * k ∧ ∀ j, j * k < len ↔ j < n := by
  unfold Shp.parts at h ⊢
  by_cases hs : s.ok
  · rw [if_pos hs] at h ⊢
    have hd := hs.data
    unfold partsV at h ⊢
    split at h
    · cases h
    · rename_i h1
      split at h
      · cases h
      · rename_i h2
        rw [if_neg h1, if_neg h2]
        obtain ⟨k, hk⟩ := Int.eq_ofNat_of_zero_le (show 0 ≤ s.data * 4 by omega)
        have hk' : s.data * 4 = (k : Int) := hk
        have e : ((len : Int) + 4 * s.data - 1) / (4 * s.data) = (((len + k - 1) / k : Nat) : Int) := by
          rw [Int.mul_comm 4 s.data, hk', Int.natCast_ediv]
          congr 1
          omega
        have hk1 : 1 ≤ k := by omega
        have hc := ceil_lt (len := len) hk1 rfl
        have hn3 : (len + k - 1) / k ≤ 3 := by
          have := (hc 3).2
          exact Nat.le_of_not_lt (fun hlt => by have := this hlt; omega)
        have hnl : len ≤ (len + k - 1) / k * k := Nat.le_of_not_lt (fun hlt => Nat.lt_irrefl _ ((hc _).1 hlt))
        exact ⟨hs, by omega, by omega, (len + k - 1) / k, k, e, hk', by unfold Shp.wide; exact hk', e, hn3, hnl, hc⟩
  · rw [if_neg hs] at h; cases h
set_option maxRecDepth 100000 in
set_option maxHeartbeats 2000000 in
theorem impl_splitO (s : Shp) (a : Option Addr) (la ca : Nat) (xs : List UInt8) (f : List Nat) (w : World) (ha : byteL.sl w a la ca xs f) :
    Calls Try.prog 8 #[.agg s.cells, .slice a la ca] w (NewRes byteL.slice (splitRes s xs) w) := by
  have hla := byteL.sl_max ha
  have HA := Lib.hid ha
  have hlx := ha.1
  clear ha
  have HP := Lib.hid (impl_partsFor s (la : Int) ⟨by omega, by omega⟩)
  by_cases h1 : (s.parts la).1 = 0
  · obtain ⟨hs, hl1, hl36, n, k, e2, ek, ew, en, hn3, hnl, hm⟩ := split_ok h1
    have HR := Lib.hid (show splitRes s xs = (0, (List.range n).map (rowL xs k)) by rw [splitRes, if_neg (by rw [← hlx, h1]; simp), ← hlx, e2, ew]; rfl)
    obtain ⟨_, _, b, off, _, rfl, _⟩ := byte_at HA.out (show 0 < la by omega)
    have HS := Lib.hid (fun (w' : World) h => split_any s hs k ew b off la ca n xs f w' h hl36 hm (by omega))
    rw [h1, e2] at HP
    generalize splitRes s xs = SR at HR ⊢
    have HXL := Lib.hid hlx
    clear h1 hs e2 ek ew en hm hlx
    obtain ⟨g, c, d, p, r, q, bb, u, t⟩ := s
    simp only [Shp.cells] at HP HS ⊢
    go_enter Try.func8, Try.ntmps8
    go_upto_region 1 with fail
    go_cut [5] (fun s5 w2 => ∃ m : Nat, s5 = .pointer (some ⟨m, 0, none⟩) ∧ RowKit.Hid (w2.heap[m]? = some (.cells #[.int .i64 0, .int .i64 n] 44 (0, 0))) ∧ RowKit.Hid (Chg [] ((w.alloc (.cells #[.int .i64 g, .int .i64 c, .int .i64 d, .int .i64 p, .int .i64 r, .int .i64 q, .int .i64 bb, .int .i64 u, .int .i64 t] 29)).alloc (.cells #[.int .i64 0, .slice none 0 0] 27)) w2))
    case first =>
      have HB00 := Lib.hid (show ((w.alloc (.cells #[.int .i64 g, .int .i64 c, .int .i64 d, .int .i64 p, .int .i64 r, .int .i64 q, .int .i64 bb, .int .i64 u, .int .i64 t] 29)).alloc (.cells #[.int .i64 0, .slice none 0 0] 27)).heap[w.heap.size]? = some (.cells #[.int .i64 g, .int .i64 c, .int .i64 d, .int .i64 p, .int .i64 r, .int .i64 q, .int .i64 bb, .int .i64 u, .int .i64 t] 29) from keep_alloc (new_alloc w _) _)
      obtain ⟨SS, HSI, HSO⟩ := rg_cond (fun w' => Know w.heap.size #[.int .i64 g, .int .i64 c, .int .i64 d, .int .i64 p, .int .i64 r, .int .i64 q, .int .i64 bb, .int .i64 u, .int .i64 t] w')
      have hS0 := HSI.out ((w.alloc (.cells #[.int .i64 g, .int .i64 c, .int .i64 d, .int .i64 p, .int .i64 r, .int .i64 q, .int .i64 bb, .int .i64 u, .int .i64 t] 29)).alloc (.cells #[.int .i64 0, .slice none 0 0] 27)).drew (Know.of (keep_drew HB00.out))
      refine rg_start SS (by kernel_rfl) hS0 ?_
      refine rgL 0 hS0 HSO ?_
      refine rgT 1 hS0 ?_
      refine rg_call2 2 4 rfl rfl (by kernel_rfl) (fun K hK => ?_) (fun K hK => ?_)
      · go_simp
        go_at_call 21
        refine (sizeB_any _ _ _ _ (by omega)).mono ?_; rintro e w' ⟨rfl, rfl⟩
        go_wp2_with fail
        refine hK.out _ _ (HSI.out _ (Know.of (((Chg.refl [] ((w.alloc (.cells #[.int .i64 g, .int .i64 c, .int .i64 d, .int .i64 p, .int .i64 r, .int .i64 q, .int .i64 bb, .int .i64 u, .int .i64 t] 29)).alloc (.cells #[.int .i64 0, .slice none 0 0] 27))).drew).keep0 HB00.out))) (fun hS22 => ?_)
        clear hK K
        try simp only [Act.put, List.setIfInBounds_toArray, List.set_cons_zero, List.set_cons_succ]
        refine rg_call2 3 4 rfl rfl (by kernel_rfl) (fun K hK => ?_) (fun K hK => ?_)
        · go_simp
          go_at_call 18
          refine (HP.out _).mono ?_; rintro e w1 ⟨rfl, hc⟩
          have HC1 := Lib.hid (((Chg.refl [] ((w.alloc (.cells #[.int .i64 g, .int .i64 c, .int .i64 d, .int .i64 p, .int .i64 r, .int .i64 q, .int .i64 bb, .int .i64 u, .int .i64 t] 29)).alloc (.cells #[.int .i64 0, .slice none 0 0] 27))).drew).trans0 hc)
          clear hc
          go_wp2_with fail
          refine hK.out _ _ (HSI.out _ (Know.of (HC1.out.keep0 HB00.out))) (fun hS23 => ?_)
          clear hK K
          try simp only [Act.put, List.setIfInBounds_toArray, List.set_cons_zero, List.set_cons_succ]
          refine rg_call 4 rfl (by kernel_rfl) (fun K hK => ?_)
          have HROW := Lib.hid (show (w1.alloc (.cells #[.int .i64 0, .int .i64 0] 44)).heap[w1.heap.size]? = some (.cells #[.int .i64 0, .int .i64 0] 44) from new_alloc _ _)
          have HMM := Lib.hid (show ((w.alloc (.cells #[.int .i64 g, .int .i64 c, .int .i64 d, .int .i64 p, .int .i64 r, .int .i64 q, .int .i64 bb, .int .i64 u, .int .i64 t] 29)).alloc (.cells #[.int .i64 0, .slice none 0 0] 27)).heap.size ≤ w1.heap.size from (HC1.out).size)
          go_simp
          refine hK.out _ _ (HSI.out _ (Know.of ((HC1.out.alloc (.cells #[.int .i64 0, .int .i64 0] 44)).keep0 HB00.out))) (fun hS24 => ?_)
          clear hK K
          try simp only [Act.put, List.setIfInBounds_toArray, List.set_cons_zero, List.set_cons_succ]
          refine rg_call 5 rfl (by kernel_rfl) (fun K hK => ?_)
          refine store_step rfl _ _ 44 rfl rfl rfl infoIR HROW.out rfl rfl rfl ?_
          intro w9 hb9 hc9
          have HB9 := Lib.hid hb9
          have HC9 := Lib.hid ((HC1.out.alloc (.cells #[.int .i64 0, .int .i64 0] 44)).trans hc9 (fun y hy => .inr (by rw [List.mem_singleton] at hy; subst hy; exact HMM.out)))
          clear hb9 hc9
          refine hK.out _ _ (HSI.out _ (Know.of (HC9.out.keep0 HB00.out))) (fun hS25 => ?_)
          clear hK K
          try simp only [Act.put]
          refine wpAnyH_done (by kernel_rfl) ?_ _
          go_wp2_with fail
          go_meet
          exact ⟨_, rfl, HB9, HC9⟩
        · have HROW := Lib.hid (show (((w.alloc (.cells #[.int .i64 g, .int .i64 c, .int .i64 d, .int .i64 p, .int .i64 r, .int .i64 q, .int .i64 bb, .int .i64 u, .int .i64 t] 29)).alloc (.cells #[.int .i64 0, .slice none 0 0] 27)).drew.alloc (.cells #[.int .i64 0, .int .i64 0] 44)).heap[w.heap.size + 1 + 1]? = some (.cells #[.int .i64 0, .int .i64 0] 44) from new_at (by simp) _)
          have HMM := Lib.hid (show ((w.alloc (.cells #[.int .i64 g, .int .i64 c, .int .i64 d, .int .i64 p, .int .i64 r, .int .i64 q, .int .i64 bb, .int .i64 u, .int .i64 t] 29)).alloc (.cells #[.int .i64 0, .slice none 0 0] 27)).heap.size ≤ w.heap.size + 1 + 1 from by simp)
          go_simp
          refine hK.out _ _ (HSI.out _ (Know.of ((((Chg.refl [] ((w.alloc (.cells #[.int .i64 g, .int .i64 c, .int .i64 d, .int .i64 p, .int .i64 r, .int .i64 q, .int .i64 bb, .int .i64 u, .int .i64 t] 29)).alloc (.cells #[.int .i64 0, .slice none 0 0] 27))).drew).alloc (.cells #[.int .i64 0, .int .i64 0] 44)).keep0 HB00.out))) (fun hS26 => ?_)
          clear hK K
          try simp only [Act.put, List.setIfInBounds_toArray, List.set_cons_zero, List.set_cons_succ]
          refine rg_call 3 rfl (by kernel_rfl) (fun K hK => ?_)
          go_simp
          go_at_call 18
          refine (HP.out _).mono ?_; rintro e w1 ⟨rfl, hc⟩
          have HC1 := Lib.hid ((((Chg.refl [] ((w.alloc (.cells #[.int .i64 g, .int .i64 c, .int .i64 d, .int .i64 p, .int .i64 r, .int .i64 q, .int .i64 bb, .int .i64 u, .int .i64 t] 29)).alloc (.cells #[.int .i64 0, .slice none 0 0] 27))).drew).alloc (.cells #[.int .i64 0, .int .i64 0] 44)).trans0 hc)
          have HROW2 := Lib.hid (hc.keep0 HROW.out)
          clear hc
          go_wp2_with fail
          refine hK.out _ _ (HSI.out _ (Know.of (HC1.out.keep0 HB00.out))) (fun hS27 => ?_)
          clear hK K
          try simp only [Act.put, List.setIfInBounds_toArray, List.set_cons_zero, List.set_cons_succ]
          refine rg_call 5 rfl (by kernel_rfl) (fun K hK => ?_)
          refine store_step rfl _ _ 44 rfl rfl rfl infoIR HROW2.out rfl rfl rfl ?_
          intro w9 hb9 hc9
          have HB9 := Lib.hid hb9
          have HC9 := Lib.hid (HC1.out.trans hc9 (fun y hy => .inr (by rw [List.mem_singleton] at hy; subst hy; exact HMM.out)))
          clear hb9 hc9
          refine hK.out _ _ (HSI.out _ (Know.of (HC9.out.keep0 HB00.out))) (fun hS28 => ?_)
          clear hK K
          try simp only [Act.put]
          refine wpAnyH_done (by kernel_rfl) ?_ _
          go_wp2_with fail
          go_meet
          exact ⟨_, rfl, HB9, HC9⟩
      · have HROW := Lib.hid (show (((w.alloc (.cells #[.int .i64 g, .int .i64 c, .int .i64 d, .int .i64 p, .int .i64 r, .int .i64 q, .int .i64 bb, .int .i64 u, .int .i64 t] 29)).alloc (.cells #[.int .i64 0, .slice none 0 0] 27)).drew.alloc (.cells #[.int .i64 0, .int .i64 0] 44)).heap[w.heap.size + 1 + 1]? = some (.cells #[.int .i64 0, .int .i64 0] 44) from new_at (by simp) _)
        have HMM := Lib.hid (show ((w.alloc (.cells #[.int .i64 g, .int .i64 c, .int .i64 d, .int .i64 p, .int .i64 r, .int .i64 q, .int .i64 bb, .int .i64 u, .int .i64 t] 29)).alloc (.cells #[.int .i64 0, .slice none 0 0] 27)).heap.size ≤ w.heap.size + 1 + 1 from by simp)
        go_simp
        refine hK.out _ _ (HSI.out _ (Know.of ((((Chg.refl [] ((w.alloc (.cells #[.int .i64 g, .int .i64 c, .int .i64 d, .int .i64 p, .int .i64 r, .int .i64 q, .int .i64 bb, .int .i64 u, .int .i64 t] 29)).alloc (.cells #[.int .i64 0, .slice none 0 0] 27))).drew).alloc (.cells #[.int .i64 0, .int .i64 0] 44)).keep0 HB00.out))) (fun hS29 => ?_)
        clear hK K
        try simp only [Act.put, List.setIfInBounds_toArray, List.set_cons_zero, List.set_cons_succ]
        refine rg_call 2 rfl (by kernel_rfl) (fun K hK => ?_)
        go_simp
        go_at_call 21
        refine (sizeB_any _ _ _ _ (by omega)).mono ?_; rintro e w' ⟨rfl, rfl⟩
        go_wp2_with fail
        refine hK.out _ _ (HSI.out _ (Know.of ((((Chg.refl [] ((w.alloc (.cells #[.int .i64 g, .int .i64 c, .int .i64 d, .int .i64 p, .int .i64 r, .int .i64 q, .int .i64 bb, .int .i64 u, .int .i64 t] 29)).alloc (.cells #[.int .i64 0, .slice none 0 0] 27))).drew).alloc (.cells #[.int .i64 0, .int .i64 0] 44)).keep0 HB00.out))) (fun hS30 => ?_)
        clear hK K
        try simp only [Act.put, List.setIfInBounds_toArray, List.set_cons_zero, List.set_cons_succ]
        refine rg_call 3 rfl (by kernel_rfl) (fun K hK => ?_)
        go_simp
        go_at_call 18
        refine (HP.out _).mono ?_; rintro e w1 ⟨rfl, hc⟩
        have HC1 := Lib.hid ((((Chg.refl [] ((w.alloc (.cells #[.int .i64 g, .int .i64 c, .int .i64 d, .int .i64 p, .int .i64 r, .int .i64 q, .int .i64 bb, .int .i64 u, .int .i64 t] 29)).alloc (.cells #[.int .i64 0, .slice none 0 0] 27))).drew).alloc (.cells #[.int .i64 0, .int .i64 0] 44)).trans0 hc)
        have HROW2 := Lib.hid (hc.keep0 HROW.out)
        clear hc
        go_wp2_with fail
        refine hK.out _ _ (HSI.out _ (Know.of (HC1.out.keep0 HB00.out))) (fun hS31 => ?_)
        clear hK K
        try simp only [Act.put, List.setIfInBounds_toArray, List.set_cons_zero, List.set_cons_succ]
        refine rg_call 5 rfl (by kernel_rfl) (fun K hK => ?_)
        refine store_step rfl _ _ 44 rfl rfl rfl infoIR HROW2.out rfl rfl rfl ?_
        intro w9 hb9 hc9
        have HB9 := Lib.hid hb9
        have HC9 := Lib.hid (HC1.out.trans hc9 (fun y hy => .inr (by rw [List.mem_singleton] at hy; subst hy; exact HMM.out)))
        clear hb9 hc9
        refine hK.out _ _ (HSI.out _ (Know.of (HC9.out.keep0 HB00.out))) (fun hS32 => ?_)
        clear hK K
        try simp only [Act.put]
        refine wpAnyH_done (by kernel_rfl) ?_ _
        go_wp2_with fail
        go_meet
        exact ⟨_, rfl, HB9, HC9⟩
    case rest =>
    revert wc; intro w1 hcut
    obtain ⟨m, rfl, HBM, HC1⟩ := hcut
    have HB0 := Lib.hid (HC1.out.keep0 (keep_alloc (new_alloc w _) _))
    have HB1 := Lib.hid (HC1.out.keep0 (b := w.heap.size + 1) (new_at (by simp) _))
    have HC := Lib.hid ((((Chg.refl [] w).alloc _).alloc _).trans0 HC1.out)
    have c0 := cellsOf HB0.out; have l0 := ltOf HB0.out; have l1 := ltOf HB1.out; have cM := cellsOf HBM.out; have lM := ltOf HBM.out
    go_wp2_with fail
    refine (HS.out _ (byteL.sl_ext HA.out HC.out)).mono ?_
    rintro e w3 ⟨a3, c3, f3, rfl, hs3, hf3, hc3⟩
    have hb := hc3.keep0 HB1.out
    clear c0 l0 l1 cM lM
    have cB := cellsOf hb; have fB := freeOf hb; have lB := ltOf hb
    have hbc := ltOf HB1.out
    have HN := Lib.hid (fun w2 => NewRes.storeB (w2 := w2) (B := w.heap.size + 1) (C := w1.heap.size) HR.out hs3 hf3 hbc (by omega) (HC.out.trans0 hc3))
    rw [show ((List.range n).map (rowL xs k)).length = n by simp] at HN ⊢
    clear hs3 hf3 hc3 hb hbc
    go_wp2_with fail
    refine bodyPost_ret (v := .agg #[.int .i64 0, .slice a3 n c3]) (by simp [results, Try.results8, go_sem, cB]) rfl ?_
    exact HN.out _ ⟨_, _, rfl⟩
  · have HR := Lib.hid (show splitRes s xs = ((s.parts la).1, []) by rw [splitRes, if_pos (by rw [← hlx]; exact h1), ← hlx])
    generalize splitRes s xs = SR at HR ⊢
    generalize (s.parts la).1 = k at h1 HP HR
    generalize (s.parts la).2 = v at HP
    have h1' : (k != 0) = true := by rw [bne_iff_ne]; exact h1
    have HXL := Lib.hid hlx
    clear h1 hlx
    obtain ⟨g, c, d, p, r, q, bb, u, t⟩ := s
    simp only [Shp.cells] at HP ⊢
    go_enter Try.func8, Try.ntmps8
    go_upto_region 1 with fail
    go_cut [5] (fun s5 w2 => ∃ m : Nat, s5 = .pointer (some ⟨m, 0, none⟩) ∧ RowKit.Hid (w2.heap[m]? = some (.cells #[.int .i64 k, .int .i64 v] 44 (0, 0))) ∧ RowKit.Hid (Chg [] ((w.alloc (.cells #[.int .i64 g, .int .i64 c, .int .i64 d, .int .i64 p, .int .i64 r, .int .i64 q, .int .i64 bb, .int .i64 u, .int .i64 t] 29)).alloc (.cells #[.int .i64 0, .slice none 0 0] 27)) w2))
    case first =>
      have HB00 := Lib.hid (show ((w.alloc (.cells #[.int .i64 g, .int .i64 c, .int .i64 d, .int .i64 p, .int .i64 r, .int .i64 q, .int .i64 bb, .int .i64 u, .int .i64 t] 29)).alloc (.cells #[.int .i64 0, .slice none 0 0] 27)).heap[w.heap.size]? = some (.cells #[.int .i64 g, .int .i64 c, .int .i64 d, .int .i64 p, .int .i64 r, .int .i64 q, .int .i64 bb, .int .i64 u, .int .i64 t] 29) from keep_alloc (new_alloc w _) _)
      obtain ⟨SS, HSI, HSO⟩ := rg_cond (fun w' => Know w.heap.size #[.int .i64 g, .int .i64 c, .int .i64 d, .int .i64 p, .int .i64 r, .int .i64 q, .int .i64 bb, .int .i64 u, .int .i64 t] w')
      have hS0 := HSI.out ((w.alloc (.cells #[.int .i64 g, .int .i64 c, .int .i64 d, .int .i64 p, .int .i64 r, .int .i64 q, .int .i64 bb, .int .i64 u, .int .i64 t] 29)).alloc (.cells #[.int .i64 0, .slice none 0 0] 27)).drew (Know.of (keep_drew HB00.out))
      refine rg_start SS (by kernel_rfl) hS0 ?_
      refine rgL 0 hS0 HSO ?_
      refine rgT 1 hS0 ?_
      refine rg_call2 2 4 rfl rfl (by kernel_rfl) (fun K hK => ?_) (fun K hK => ?_)
      · go_simp
        go_at_call 21
        refine (sizeB_any _ _ _ _ (by omega)).mono ?_; rintro e w' ⟨rfl, rfl⟩
        go_wp2_with fail
        refine hK.out _ _ (HSI.out _ (Know.of (((Chg.refl [] ((w.alloc (.cells #[.int .i64 g, .int .i64 c, .int .i64 d, .int .i64 p, .int .i64 r, .int .i64 q, .int .i64 bb, .int .i64 u, .int .i64 t] 29)).alloc (.cells #[.int .i64 0, .slice none 0 0] 27))).drew).keep0 HB00.out))) (fun hS33 => ?_)
        clear hK K
        try simp only [Act.put, List.setIfInBounds_toArray, List.set_cons_zero, List.set_cons_succ]
        refine rg_call2 3 4 rfl rfl (by kernel_rfl) (fun K hK => ?_) (fun K hK => ?_)
        · go_simp
          go_at_call 18
          refine (HP.out _).mono ?_; rintro e w1 ⟨rfl, hc⟩
          have HC1 := Lib.hid (((Chg.refl [] ((w.alloc (.cells #[.int .i64 g, .int .i64 c, .int .i64 d, .int .i64 p, .int .i64 r, .int .i64 q, .int .i64 bb, .int .i64 u, .int .i64 t] 29)).alloc (.cells #[.int .i64 0, .slice none 0 0] 27))).drew).trans0 hc)
          clear hc
          go_wp2_with fail
          refine hK.out _ _ (HSI.out _ (Know.of (HC1.out.keep0 HB00.out))) (fun hS34 => ?_)
          clear hK K
          try simp only [Act.put, List.setIfInBounds_toArray, List.set_cons_zero, List.set_cons_succ]
          refine rg_call 4 rfl (by kernel_rfl) (fun K hK => ?_)
          have HROW := Lib.hid (show (w1.alloc (.cells #[.int .i64 0, .int .i64 0] 44)).heap[w1.heap.size]? = some (.cells #[.int .i64 0, .int .i64 0] 44) from new_alloc _ _)
          have HMM := Lib.hid (show ((w.alloc (.cells #[.int .i64 g, .int .i64 c, .int .i64 d, .int .i64 p, .int .i64 r, .int .i64 q, .int .i64 bb, .int .i64 u, .int .i64 t] 29)).alloc (.cells #[.int .i64 0, .slice none 0 0] 27)).heap.size ≤ w1.heap.size from (HC1.out).size)
          go_simp
          refine hK.out _ _ (HSI.out _ (Know.of ((HC1.out.alloc (.cells #[.int .i64 0, .int .i64 0] 44)).keep0 HB00.out))) (fun hS35 => ?_)
          clear hK K
          try simp only [Act.put, List.setIfInBounds_toArray, List.set_cons_zero, List.set_cons_succ]
          refine rg_call 5 rfl (by kernel_rfl) (fun K hK => ?_)
          refine store_step rfl _ _ 44 rfl rfl rfl infoIR HROW.out rfl rfl rfl ?_
          intro w9 hb9 hc9
          have HB9 := Lib.hid hb9
          have HC9 := Lib.hid ((HC1.out.alloc (.cells #[.int .i64 0, .int .i64 0] 44)).trans hc9 (fun y hy => .inr (by rw [List.mem_singleton] at hy; subst hy; exact HMM.out)))
          clear hb9 hc9
          refine hK.out _ _ (HSI.out _ (Know.of (HC9.out.keep0 HB00.out))) (fun hS36 => ?_)
          clear hK K
          try simp only [Act.put]
          refine wpAnyH_done (by kernel_rfl) ?_ _
          go_wp2_with fail
          go_meet
          exact ⟨_, rfl, HB9, HC9⟩
        · have HROW := Lib.hid (show (((w.alloc (.cells #[.int .i64 g, .int .i64 c, .int .i64 d, .int .i64 p, .int .i64 r, .int .i64 q, .int .i64 bb, .int .i64 u, .int .i64 t] 29)).alloc (.cells #[.int .i64 0, .slice none 0 0] 27)).drew.alloc (.cells #[.int .i64 0, .int .i64 0] 44)).heap[w.heap.size + 1 + 1]? = some (.cells #[.int .i64 0, .int .i64 0] 44) from new_at (by simp) _)
          have HMM := Lib.hid (show ((w.alloc (.cells #[.int .i64 g, .int .i64 c, .int .i64 d, .int .i64 p, .int .i64 r, .int .i64 q, .int .i64 bb, .int .i64 u, .int .i64 t] 29)).alloc (.cells #[.int .i64 0, .slice none 0 0] 27)).heap.size ≤ w.heap.size + 1 + 1 from by simp)
          go_simp
          refine hK.out _ _ (HSI.out _ (Know.of ((((Chg.refl [] ((w.alloc (.cells #[.int .i64 g, .int .i64 c, .int .i64 d, .int .i64 p, .int .i64 r, .int .i64 q, .int .i64 bb, .int .i64 u, .int .i64 t] 29)).alloc (.cells #[.int .i64 0, .slice none 0 0] 27))).drew).alloc (.cells #[.int .i64 0, .int .i64 0] 44)).keep0 HB00.out))) (fun hS37 => ?_)
          clear hK K
          try simp only [Act.put, List.setIfInBounds_toArray, List.set_cons_zero, List.set_cons_succ]
          refine rg_call 3 rfl (by kernel_rfl) (fun K hK => ?_)
          go_simp
          go_at_call 18
          refine (HP.out _).mono ?_; rintro e w1 ⟨rfl, hc⟩
          have HC1 := Lib.hid ((((Chg.refl [] ((w.alloc (.cells #[.int .i64 g, .int .i64 c, .int .i64 d, .int .i64 p, .int .i64 r, .int .i64 q, .int .i64 bb, .int .i64 u, .int .i64 t] 29)).alloc (.cells #[.int .i64 0, .slice none 0 0] 27))).drew).alloc (.cells #[.int .i64 0, .int .i64 0] 44)).trans0 hc)
          have HROW2 := Lib.hid (hc.keep0 HROW.out)
          clear hc
          go_wp2_with fail
          refine hK.out _ _ (HSI.out _ (Know.of (HC1.out.keep0 HB00.out))) (fun hS38 => ?_)
          clear hK K
          try simp only [Act.put, List.setIfInBounds_toArray, List.set_cons_zero, List.set_cons_succ]
          refine rg_call 5 rfl (by kernel_rfl) (fun K hK => ?_)
          refine store_step rfl _ _ 44 rfl rfl rfl infoIR HROW2.out rfl rfl rfl ?_
          intro w9 hb9 hc9
          have HB9 := Lib.hid hb9
          have HC9 := Lib.hid (HC1.out.trans hc9 (fun y hy => .inr (by rw [List.mem_singleton] at hy; subst hy; exact HMM.out)))
          clear hb9 hc9
          refine hK.out _ _ (HSI.out _ (Know.of (HC9.out.keep0 HB00.out))) (fun hS39 => ?_)
          clear hK K
          try simp only [Act.put]
          refine wpAnyH_done (by kernel_rfl) ?_ _
          go_wp2_with fail
          go_meet
          exact ⟨_, rfl, HB9, HC9⟩
      · have HROW := Lib.hid (show (((w.alloc (.cells #[.int .i64 g, .int .i64 c, .int .i64 d, .int .i64 p, .int .i64 r, .int .i64 q, .int .i64 bb, .int .i64 u, .int .i64 t] 29)).alloc (.cells #[.int .i64 0, .slice none 0 0] 27)).drew.alloc (.cells #[.int .i64 0, .int .i64 0] 44)).heap[w.heap.size + 1 + 1]? = some (.cells #[.int .i64 0, .int .i64 0] 44) from new_at (by simp) _)
        have HMM := Lib.hid (show ((w.alloc (.cells #[.int .i64 g, .int .i64 c, .int .i64 d, .int .i64 p, .int .i64 r, .int .i64 q, .int .i64 bb, .int .i64 u, .int .i64 t] 29)).alloc (.cells #[.int .i64 0, .slice none 0 0] 27)).heap.size ≤ w.heap.size + 1 + 1 from by simp)
        go_simp
        refine hK.out _ _ (HSI.out _ (Know.of ((((Chg.refl [] ((w.alloc (.cells #[.int .i64 g, .int .i64 c, .int .i64 d, .int .i64 p, .int .i64 r, .int .i64 q, .int .i64 bb, .int .i64 u, .int .i64 t] 29)).alloc (.cells #[.int .i64 0, .slice none 0 0] 27))).drew).alloc (.cells #[.int .i64 0, .int .i64 0] 44)).keep0 HB00.out))) (fun hS40 => ?_)
        clear hK K
        try simp only [Act.put, List.setIfInBounds_toArray, List.set_cons_zero, List.set_cons_succ]
        refine rg_call 2 rfl (by kernel_rfl) (fun K hK => ?_)
        go_simp
        go_at_call 21
        refine (sizeB_any _ _ _ _ (by omega)).mono ?_; rintro e w' ⟨rfl, rfl⟩
        go_wp2_with fail
        refine hK.out _ _ (HSI.out _ (Know.of ((((Chg.refl [] ((w.alloc (.cells #[.int .i64 g, .int .i64 c, .int .i64 d, .int .i64 p, .int .i64 r, .int .i64 q, .int .i64 bb, .int .i64 u, .int .i64 t] 29)).alloc (.cells #[.int .i64 0, .slice none 0 0] 27))).drew).alloc (.cells #[.int .i64 0, .int .i64 0] 44)).keep0 HB00.out))) (fun hS41 => ?_)
        clear hK K
        try simp only [Act.put, List.setIfInBounds_toArray, List.set_cons_zero, List.set_cons_succ]
        refine rg_call 3 rfl (by kernel_rfl) (fun K hK => ?_)
        go_simp
        go_at_call 18
        refine (HP.out _).mono ?_; rintro e w1 ⟨rfl, hc⟩
        have HC1 := Lib.hid ((((Chg.refl [] ((w.alloc (.cells #[.int .i64 g, .int .i64 c, .int .i64 d, .int .i64 p, .int .i64 r, .int .i64 q, .int .i64 bb, .int .i64 u, .int .i64 t] 29)).alloc (.cells #[.int .i64 0, .slice none 0 0] 27))).drew).alloc (.cells #[.int .i64 0, .int .i64 0] 44)).trans0 hc)
        have HROW2 := Lib.hid (hc.keep0 HROW.out)
        clear hc
        go_wp2_with fail
        refine hK.out _ _ (HSI.out _ (Know.of (HC1.out.keep0 HB00.out))) (fun hS42 => ?_)
        clear hK K
        try simp only [Act.put, List.setIfInBounds_toArray, List.set_cons_zero, List.set_cons_succ]
        refine rg_call 5 rfl (by kernel_rfl) (fun K hK => ?_)
        refine store_step rfl _ _ 44 rfl rfl rfl infoIR HROW2.out rfl rfl rfl ?_
        intro w9 hb9 hc9
        have HB9 := Lib.hid hb9
        have HC9 := Lib.hid (HC1.out.trans hc9 (fun y hy => .inr (by rw [List.mem_singleton] at hy; subst hy; exact HMM.out)))
        clear hb9 hc9
        refine hK.out _ _ (HSI.out _ (Know.of (HC9.out.keep0 HB00.out))) (fun hS43 => ?_)
        clear hK K
        try simp only [Act.put]
        refine wpAnyH_done (by kernel_rfl) ?_ _
        go_wp2_with fail
        go_meet
        exact ⟨_, rfl, HB9, HC9⟩
    case rest =>
    revert wc; intro w1 hcut
    obtain ⟨m, rfl, HBM, HC1⟩ := hcut
    have hB := HC1.out.keep0 (b := w.heap.size + 1) (new_at (by simp) _); have cB := cellsOf hB; have fB := freeOf hB; have lB := ltOf hB; have cM := cellsOf HBM.out; have lM := ltOf HBM.out
    have HC := Lib.hid ((((Chg.refl [] w).alloc _).alloc _).trans0 HC1.out)
    clear hB
    go_wp2_with fail
    refine bodyPost_ret (v := .agg #[.int .i64 k, .slice none 0 0]) (by simp [results, Try.results8, go_sem, cB]) rfl ?_
    exact NewRes.code byteL.slice HR.out (by repeat (first | exact HC.out | exact Chg.refl _ _ | refine Chg.alloc ?_ _ | refine Chg.setCell ?_ _ _ (.inr (by simp)) | refine Chg.drew ?_))
set_option maxRecDepth 100000 in
set_option maxHeartbeats 2000000 in
theorem spec_splitO (s : Shp) (a : Option Addr) (la ca : Nat) (xs : List UInt8) (f : List Nat) (w : World) (ha : byteL.sl w a la ca xs f) :
    Calls Try.prog 5 #[.agg s.cells, .slice a la ca] w (NewRes byteL.slice (splitRes s xs) w) := by
  have hla := byteL.sl_max ha
  have HA := Lib.hid ha
  have hlx := ha.1
  clear ha
  have HP := Lib.hid (spec_partsFor s (la : Int) ⟨by omega, by omega⟩)
  by_cases h1 : (s.parts la).1 = 0
  · obtain ⟨hs, hl1, hl36, n, k, e2, ek, ew, en, hn3, hnl, hm⟩ := split_ok h1
    have HR := Lib.hid (show splitRes s xs = (0, (List.range n).map (rowL xs k)) by rw [splitRes, if_neg (by rw [← hlx, h1]; simp), ← hlx, e2, ew]; rfl)
    obtain ⟨_, _, b, off, _, rfl, _⟩ := byte_at HA.out (show 0 < la by omega)
    have HS := Lib.hid (fun (w' : World) h => l4Split_any s hs k ek b off la ca n xs f w' h hl36 hl1 en hn3 hnl)
    rw [h1, e2] at HP
    generalize splitRes s xs = SR at HR ⊢
    have HXL := Lib.hid hlx
    clear h1 hs e2 ek ew en hm hlx
    obtain ⟨g, c, d, p, r, q, bb, u, t⟩ := s
    simp only [Shp.cells] at HP HS ⊢
    go_enter Try.func5, Try.ntmps5
    go_wp2_with fail
    refine (HP.out _).mono ?_; rintro e w1 ⟨rfl, hc⟩
    have HB0 := Lib.hid (hc.keep0 (keep_alloc (new_alloc w _) _))
    have HB1 := Lib.hid (hc.keep0 (b := w.heap.size + 1) (new_at (by simp) _))
    have HC := Lib.hid ((((Chg.refl [] w).alloc _).alloc _).trans0 hc)
    have c0 := cellsOf HB0.out; have l0 := ltOf HB0.out; have l1 := ltOf HB1.out
    clear hc
    go_wp2_with fail
    refine (HS.out _ (byteL.sl_ext HA.out (HC.out.alloc _))).mono ?_
    rintro e w3 ⟨a3, c3, f3, rfl, hs3, hf3, hc3⟩
    have hb := hc3.keep0 (keep_alloc HB1.out _)
    clear c0 l0 l1
    have cB := cellsOf hb; have fB := freeOf hb; have lB := ltOf hb
    have hbc := ltOf HB1.out
    have HN := Lib.hid (fun w2 => NewRes.storeB (w2 := w2) (B := w.heap.size + 1) (C := w1.heap.size) HR.out hs3 (hf3.mono (by simp)) hbc (by omega) ((HC.out.alloc _).trans0 hc3))
    rw [show ((List.range n).map (rowL xs k)).length = n by simp] at HN ⊢
    clear hs3 hf3 hc3 hb hbc
    go_wp2_with fail
    refine bodyPost_ret (v := .agg #[.int .i64 0, .slice a3 n c3]) (by simp [results, Try.results5, go_sem, cB]) rfl ?_
    exact HN.out _ ⟨_, _, rfl⟩
  · have HR := Lib.hid (show splitRes s xs = ((s.parts la).1, []) by rw [splitRes, if_pos (by rw [← hlx]; exact h1), ← hlx])
    generalize splitRes s xs = SR at HR ⊢
    generalize (s.parts la).1 = k at h1 HP HR
    generalize (s.parts la).2 = v at HP
    have h1' : (k != 0) = true := by rw [bne_iff_ne]; exact h1
    have HXL := Lib.hid hlx
    clear h1 hlx
    obtain ⟨g, c, d, p, r, q, bb, u, t⟩ := s
    simp only [Shp.cells] at HP ⊢
    go_enter Try.func5, Try.ntmps5
    go_wp2_with fail
    refine (HP.out _).mono ?_; rintro e w1 ⟨rfl, hc⟩
    have hB := hc.keep0 (b := w.heap.size + 1) (new_at (by simp) _); have cB := cellsOf hB; have fB := freeOf hB; have lB := ltOf hB
    have HC := Lib.hid ((((Chg.refl [] w).alloc _).alloc _).trans0 hc)
    clear hc hB
    go_wp2_with fail
    refine bodyPost_ret (v := .agg #[.int .i64 k, .slice none 0 0]) (by simp [results, Try.results5, go_sem, cB, lB]) rfl ?_
    exact NewRes.code byteL.slice HR.out (by repeat (first | exact HC.out | exact Chg.refl _ _ | refine Chg.alloc ?_ _ | refine Chg.setCell ?_ _ _ (.inr (by simp)) | refine Chg.drew ?_))
theorem splitRes_len (s : Shp) (xs : List UInt8) : (splitRes s xs).2.length ≤ 3 ∧ ∀ y ∈ (splitRes s xs).2, y.length ≤ 12 := by
  unfold splitRes
  by_cases h : (s.parts xs.length).1 = 0
  · rw [if_neg (fun h2 => h2 h)]
    obtain ⟨hs, -, -, n, k, e2, -, ew, -, hn3, -, -⟩ := split_ok h
    have hw := hs.wide
    rw [e2, ew]
    refine ⟨by simp; omega, fun y hy => ?_⟩
    obtain ⟨j, -, rfl⟩ := List.mem_map.1 hy
    rw [rowL_length]
    show k ≤ 12
    omega
  · rw [if_pos h]
    exact ⟨by simp, by simp⟩
end Go.Proofs.Ytcejdmggacjnoaa
