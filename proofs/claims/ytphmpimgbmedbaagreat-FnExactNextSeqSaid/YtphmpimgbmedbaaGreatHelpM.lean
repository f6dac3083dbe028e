import Derived.Test.YtphmpimgbmedbaaGreatRows
import Derived.Test.YtphmpimgbmedbaaGreatMk
/- The walks of the laws' helpers at lists of bytes and of whole numbers. -/
namespace Go.Proofs.YtphmpimgbmedbaaGreat
open Go.RowKit


theorem copyB_next {xs : List UInt8} {k n : Nat} {x : UInt8} (hx : xs[k]? = some x) (hn : n = xs.length) : (xs.take k ++ List.replicate (n - k) 0).set k x = xs.take (k + 1) ++ List.replicate (n - (k + 1)) 0 := by
  have hk := (List.getElem?_eq_some_iff.1 hx).1
  have hl : (xs.take k).length = k := by rw [List.length_take]; omega
  rw [List.set_append_right _ _ (by omega), hl, Nat.sub_self, take_next hx, show n - k = (n - (k + 1)) + 1 by omega, List.replicate_succ, List.set_cons_zero]
  simp

set_option maxRecDepth 100000 in
set_option maxHeartbeats 400000 in
theorem toB_any (a : Option Addr) (la ca : Nat) (xs : List UInt8) (f : List Nat) (w : World) (ha : byteL.sl w a la ca xs f) (hz : la ≤ 1048576) :
    Calls Tryz.prog 290 #[.slice a la ca] w (NewSl byteL xs w) := by
  have hmk := make_bytes la (by omega)
  have hl := Lib.hid ha.1
  have HA := Lib.hid ha
  clear ha
  go_enter Tryz.func290, Tryz.ntmps290
  go_wp2
  go_loopw [4] (fun i wr => ∃ k : Nat, k ≤ la ∧ i = .int .i64 k ∧ byteL.sl wr (some ⟨w.heap.size, 0, none⟩) la la (xs.take k ++ List.replicate (la - k) 0) [w.heap.size] ∧ Loose wr w.heap.size ∧ Chg [] w wr) (fun i _ => la - (intOf i).toNat)
  case atStart => exact ⟨0, by omega, rfl, by simpa using byte_zrow w 5 la (by omega), ⟨_, _, new_alloc w _⟩, (Chg.refl [] w).alloc _⟩
  case round =>
    obtain ⟨k, hk, rfl, hs, hlo, hc⟩ := hrel
    by_cases hlt : k < la
    · obtain ⟨x, X, b, o, HX, rfl, hcx, _, _⟩ := byte_at (byteL.sl_ext HA.out hc) hlt
      obtain ⟨y, Y, b', o', HO, e', hco, _, _⟩ := byte_at hs hlt
      obtain ⟨rfl, rfl⟩ : b' = w.heap.size ∧ o' = 0 := by simpa using e'.symm
      have hfz : wr.frozen? ⟨w.heap.size, k, none⟩ = false := by obtain ⟨cur, E, h⟩ := hlo; exact freeOf h k
      rw [Nat.zero_add] at hco
      have hst := byte_set hs (by simp) hlt x
      rw [Nat.zero_add, copyB_next HX.out.1 hl.out] at hst
      rw [HX.out.2.1] at hcx
      have HS := Lib.hid (And.intro hst (And.intro (hlo.setCell ⟨w.heap.size, k, none⟩ (.int .u8 (x.toNat : Int))) (hc.setCell ⟨w.heap.size, k, none⟩ (.int .u8 (x.toNat : Int)) (.inr (Nat.le_refl _)))))
      clear hst hlo hc hs e'
      go_wp2
      go_roundw
      case rel => exact ⟨k + 1, by omega, by go_num, HS.out.1, HS.out.2.1, HS.out.2.2⟩
      case measure => simp [intOf]; omega
    · have hkl : k = la := by omega
      subst hkl
      have hN : NewSl byteL xs w (.returned (.slice (some ⟨w.heap.size, 0, none⟩) k k)) wr := by
        rw [List.take_of_length_le (by have := hl.out; omega), Nat.sub_self, List.replicate_zero, List.append_nil] at hs
        rw [hl.out] at hs ⊢
        exact ⟨_, _, _, rfl, hs, ⟨by simp, fun b hb => by simp at hb; subst hb; exact ⟨Nat.le_refl _, hlo⟩⟩, hc⟩
      have HN := Lib.hid hN
      clear hN hs hlo hc
      go_wp2
      go_ret
      exact HN.out


set_option maxRecDepth 100000 in
set_option maxHeartbeats 400000 in
theorem eqB_any (a b : Option Addr) (la ca cb : Nat) (xs : List UInt8) (f g : List Nat) (w : World) (ha : byteL.sl w a la ca xs f) (hb : byteL.sl w b la cb xs g) :
    Calls Tryz.prog 239 #[.slice a la ca, .slice b la cb] w fun e w' => e = .returned (.bool true) ∧ Chg [] w w' := by
  have hm := byteL.sl_max ha
  have hne : ((la : Int) != (la : Int)) = false := by simp
  have HA := Lib.hid ha
  have HB := Lib.hid hb
  clear ha hb
  go_enter Tryz.func239, Tryz.ntmps239
  go_wp2
  go_loopw [5] (fun i wr => ∃ k : Nat, k ≤ la ∧ i = .int .i64 k ∧ Chg [] w wr) (fun i _ => la - (intOf i).toNat)
  case atStart => exact ⟨0, by omega, rfl, Chg.refl _ _⟩
  case round =>
    obtain ⟨k, hk, rfl, hc⟩ := hrel
    by_cases hlt : k < la
    · obtain ⟨x, X, b, o, HX, rfl, hcx, _, _⟩ := byte_at (byteL.sl_ext HA.out hc) hlt
      obtain ⟨y, Y, b', o', HY, rfl, hcy, _, _⟩ := byte_at (byteL.sl_ext HB.out hc) hlt
      have hxy : x = y := by have := HX.out.1.symm.trans HY.out.1; exact Option.some.inj this
      subst hxy
      rw [HX.out.2.1] at hcx; rw [HY.out.2.1] at hcy; have hnn : ((x.toNat : Int) != (x.toNat : Int)) = false := by simp
      have HC := Lib.hid hc
      clear hc
      go_wp2
      first | go_region | skip
      all_goals (try go_wp2)
      all_goals
        go_roundw
        case rel => exact ⟨k + 1, by omega, by go_num, by first | exact HC.out | exact HC.out.drew⟩
        case measure => simp [intOf]; omega
    · have HC := Lib.hid hc
      clear hc
      go_wp2
      go_ret
      exact ⟨rfl, HC.out⟩


/-- the marks from k on -/
def markBL (k : Int) (n : Nat) : List UInt8 := (List.range n).map fun (i : Nat) => UInt8.ofNat ((k.toNat + i) % 256)
theorem markBL_length (k : Int) (n : Nat) : (markBL k n).length = n := by simp [markBL]
theorem markBL_succ (k : Int) (i : Nat) : markBL k (i + 1) = markBL k i ++ [UInt8.ofNat ((k.toNat + i) % 256)] := by simp [markBL, List.range_succ]
theorem markBL_next {xs : List UInt8} (k : Int) (i : Nat) (h : i < xs.length) : (markBL k i ++ xs.drop i).set i (UInt8.ofNat ((k.toNat + i) % 256)) = markBL k (i + 1) ++ xs.drop (i + 1) := by
  have hl := markBL_length k i
  rw [List.set_append_right _ _ (by omega), hl, Nat.sub_self, List.drop_eq_getElem_cons h, List.set_cons_zero, markBL_succ]
  simp
theorem mark_byte {k : Int} {i : Nat} (hk : 0 ≤ k) : (k + (i : Int)) % 256 = ((UInt8.ofNat ((k.toNat + i) % 256)).toNat : Int) := by
  rw [UInt8.toNat_ofNat']
  omega

set_option maxRecDepth 100000 in
set_option maxHeartbeats 400000 in
theorem markB_any (a : Option Addr) (la ca : Nat) (xs : List UInt8) (f : List Nat) (k : Int) (w : World) (ha : byteL.sl w a la ca xs f) (hf : Fresh 0 w f) (hk : 0 ≤ k) (hk2 : k + la ≤ 4611686018427387904) :
    Calls Tryz.prog 175 #[.slice a la ca, .int .i64 k] w fun e w' => e = .returned (.int .i64 (k + la)) ∧ byteL.sl w' a la ca (markBL k la) f ∧ Chg f w w' := by
  have hl := Lib.hid ha.1
  have HF := Lib.hid hf
  go_enter Tryz.func175, Tryz.ntmps175
  go_wp2
  go_loopw [1, 5] (fun u v wr => ∃ i : Nat, i ≤ la ∧ u = .int .i64 (k + i) ∧ v = .int .i64 i ∧ byteL.sl wr a la ca (markBL k i ++ xs.drop i) f ∧ Chg f w wr) (fun _ v _ => la - (intOf v).toNat)
  case atStart => exact ⟨0, by omega, by simp, rfl, by simpa [markBL] using ha, Chg.refl _ _⟩
  case round =>
    clear ha hf
    obtain ⟨i, hi, rfl, rfl, hs, hc⟩ := hrel
    by_cases hlt : i < la
    · obtain ⟨x, X, b, o, HX, rfl, hcx, _, _⟩ := byte_at hs hlt
      have hfz : wr.frozen? ⟨b, o + i, none⟩ = false := by obtain ⟨cur, E, h⟩ := hc.loose b (HF.out.2 b HX.out.2.2).2; exact freeOf h _
      have hst := byte_set hs HF.out.1 hlt (UInt8.ofNat ((k.toNat + i) % 256))
      rw [markBL_next k i (by have := hl.out; omega), ← mark_byte hk] at hst
      have HS := Lib.hid (And.intro hst (hc.setCell ⟨b, o + i, none⟩ (.int .u8 ((k + (i : Int)) % 256)) (.inl HX.out.2.2)))
      clear hst hc hs
      go_wp2
      go_roundw
      case rel => exact ⟨i + 1, by omega, by go_num, by go_num, HS.out.1, HS.out.2⟩
      case measure => simp [intOf]; omega
    · have hil : i = la := by omega
      subst hil
      rw [List.drop_of_length_le (by have := hl.out; omega), List.append_nil] at hs
      have HN := Lib.hid (And.intro hs hc)
      clear hs hc
      go_wp2
      go_ret
      exact ⟨rfl, HN.out⟩


theorem markBL_at {k : Int} {n i : Nat} {x : UInt8} (h : (markBL k n)[i]? = some x) : x = (UInt8.ofNat ((k.toNat + i) % 256)) := by
  unfold markBL at h
  rw [List.getElem?_map] at h
  obtain ⟨j, hj, rfl⟩ := Option.map_eq_some_iff.1 h
  have := List.getElem?_eq_some_iff.1 hj
  obtain ⟨_, e⟩ := this
  simp at e
  subst e
  rfl

set_option maxRecDepth 100000 in
set_option maxHeartbeats 400000 in
theorem heldB_any (a : Option Addr) (la ca : Nat) (f : List Nat) (k : Int) (w : World) (ha : byteL.sl w a la ca (markBL k la) f) (hk : 0 ≤ k) (hk2 : k + la ≤ 4611686018427387904) :
    Calls Tryz.prog 176 #[.slice a la ca, .int .i64 k] w fun e w' => e = .returned (.int .i64 (k + la)) ∧ Chg [] w w' := by
  have HA := Lib.hid ha
  clear ha
  go_enter Tryz.func176, Tryz.ntmps176
  go_wp2
  go_loop [1, 5] (fun u v => ∃ i : Nat, i ≤ la ∧ u = .int .i64 (k + i) ∧ v = .int .i64 i) (fun _ v => la - (intOf v).toNat)
  case atStart => exact ⟨0, by omega, by simp, rfl⟩
  case round =>
    obtain ⟨i, hi, rfl, rfl⟩ := hrel
    by_cases hlt : i < la
    · obtain ⟨x, X, b, o, HX, rfl, hcx, _, _⟩ := byte_at HA.out hlt
      have hx := markBL_at HX.out.1
      rw [HX.out.2.1, hx, ← mark_byte hk] at hcx
      have hnn : (((k + (i : Int)) % 256 : Int) != (k + (i : Int)) % 256) = false := by simp
      clear hx
      go_wp2
      go_round
      case rel => exact ⟨i + 1, by omega, by go_num, by go_num⟩
      case measure => simp [intOf]; omega
    · have hil : i = la := by omega
      subst hil
      go_wp2
      go_ret
      exact ⟨rfl, Chg.refl _ _⟩

theorem infoI : (Tryz.prog.info? 2).map (fun i => (i.zero, i.size, i.bytes)) = some (some (.int .i64 0), 1, 8) := by kernel_rfl
theorem kindI : ∃ K : Kind Tryz.prog 2 intL.n 8, K.z = .int .i64 0 := by
  obtain ⟨i0, hi, hz0, hz1, hz2⟩ := info_parts infoI
  exact ⟨⟨i0, .int .i64 0, hi, hz0, hz1, hz2, rfl⟩, rfl⟩
theorem make_ints (n : Nat) (hn : n ≤ 17592186044415) (w : World) :
    (Instr.makeSlice 25 (.int .i64 (n : Int)) (.int .i64 (n : Int))).run Tryz.prog w = .ok (.slice (some ⟨w.heap.size, 0, none⟩) n n) (w.alloc (.cells (zrow (.int .i64 0) n) 2)) := by
  obtain ⟨K, hK⟩ := kindI
  rw [← hK]
  have := make_row Tryz.underlying25 K n (by omega) (by omega) w
  rw [show n * intL.n = n from Nat.mul_one n] at this
  exact this

theorem copyI_next {xs : List Int} {k n : Nat} {x : Int} (hx : xs[k]? = some x) (hn : n = xs.length) : (xs.take k ++ List.replicate (n - k) 0).set k x = xs.take (k + 1) ++ List.replicate (n - (k + 1)) 0 := by
  have hk := (List.getElem?_eq_some_iff.1 hx).1
  have hl : (xs.take k).length = k := by rw [List.length_take]; omega
  rw [List.set_append_right _ _ (by omega), hl, Nat.sub_self, take_next hx, show n - k = (n - (k + 1)) + 1 by omega, List.replicate_succ, List.set_cons_zero]
  simp

set_option maxRecDepth 100000 in
set_option maxHeartbeats 400000 in
theorem toI_any (a : Option Addr) (la ca : Nat) (xs : List Int) (f : List Nat) (w : World) (ha : intL.sl w a la ca xs f) (hz : la ≤ 1048576) :
    Calls Tryz.prog 76 #[.slice a la ca] w (NewSl intL xs w) := by
  have hmk := make_ints la (by omega)
  have hl := Lib.hid ha.1
  have HA := Lib.hid ha
  clear ha
  go_enter Tryz.func76, Tryz.ntmps76
  go_wp2
  go_loopw [4] (fun i wr => ∃ k : Nat, k ≤ la ∧ i = .int .i64 k ∧ intL.sl wr (some ⟨w.heap.size, 0, none⟩) la la (xs.take k ++ List.replicate (la - k) 0) [w.heap.size] ∧ Loose wr w.heap.size ∧ Chg [] w wr) (fun i _ => la - (intOf i).toNat)
  case atStart => exact ⟨0, by omega, rfl, by simpa using int_zrow w 2 la (by omega), ⟨_, _, new_alloc w _⟩, (Chg.refl [] w).alloc _⟩
  case round =>
    obtain ⟨k, hk, rfl, hs, hlo, hc⟩ := hrel
    by_cases hlt : k < la
    · obtain ⟨x, b, o, HX, rfl, hcx, hok⟩ := int_at (intL.sl_ext HA.out hc) hlt
      obtain ⟨y, b', o', HO, e', hco, hok2⟩ := int_at hs hlt
      obtain ⟨rfl, rfl⟩ : b' = w.heap.size ∧ o' = 0 := by simpa using e'.symm
      have hfz : wr.frozen? ⟨w.heap.size, k, none⟩ = false := by obtain ⟨cur, E, h⟩ := hlo; exact freeOf h k
      rw [Nat.zero_add] at hco
      have hst := int_set hs (by simp) hlt x hok.out
      rw [Nat.zero_add, copyI_next HX.out.1 hl.out] at hst
      
      have HS := Lib.hid (And.intro hst (And.intro (hlo.setCell ⟨w.heap.size, k, none⟩ (.int .i64 x)) (hc.setCell ⟨w.heap.size, k, none⟩ (.int .i64 x) (.inr (Nat.le_refl _)))))
      clear hst hlo hc hs e'
      go_wp2
      go_roundw
      case rel => exact ⟨k + 1, by omega, by go_num, HS.out.1, HS.out.2.1, HS.out.2.2⟩
      case measure => simp [intOf]; omega
    · have hkl : k = la := by omega
      subst hkl
      have hN : NewSl intL xs w (.returned (.slice (some ⟨w.heap.size, 0, none⟩) k k)) wr := by
        rw [List.take_of_length_le (by have := hl.out; omega), Nat.sub_self, List.replicate_zero, List.append_nil] at hs
        rw [hl.out] at hs ⊢
        exact ⟨_, _, _, rfl, hs, ⟨by simp, fun b hb => by simp at hb; subst hb; exact ⟨Nat.le_refl _, hlo⟩⟩, hc⟩
      have HN := Lib.hid hN
      clear hN hs hlo hc
      go_wp2
      go_ret
      exact HN.out


set_option maxRecDepth 100000 in
set_option maxHeartbeats 400000 in
theorem eqI_any (a b : Option Addr) (la ca cb : Nat) (xs : List Int) (f g : List Nat) (w : World) (ha : intL.sl w a la ca xs f) (hb : intL.sl w b la cb xs g) :
    Calls Tryz.prog 85 #[.slice a la ca, .slice b la cb] w fun e w' => e = .returned (.bool true) ∧ Chg [] w w' := by
  have hm := intL.sl_max ha
  have hne : ((la : Int) != (la : Int)) = false := by simp
  have HA := Lib.hid ha
  have HB := Lib.hid hb
  clear ha hb
  go_enter Tryz.func85, Tryz.ntmps85
  go_wp2
  go_loopw [5] (fun i wr => ∃ k : Nat, k ≤ la ∧ i = .int .i64 k ∧ Chg [] w wr) (fun i _ => la - (intOf i).toNat)
  case atStart => exact ⟨0, by omega, rfl, Chg.refl _ _⟩
  case round =>
    obtain ⟨k, hk, rfl, hc⟩ := hrel
    by_cases hlt : k < la
    · obtain ⟨x, b, o, HX, rfl, hcx, hok⟩ := int_at (intL.sl_ext HA.out hc) hlt
      obtain ⟨y, b', o', HY, rfl, hcy, hok⟩ := int_at (intL.sl_ext HB.out hc) hlt
      have hxy : x = y := by have := HX.out.1.symm.trans HY.out.1; exact Option.some.inj this
      subst hxy
      have hnn : ((x : Int) != (x : Int)) = false := by simp
      have HC := Lib.hid hc
      clear hc
      go_wp2
      first | go_region | skip
      all_goals (try go_wp2)
      all_goals
        go_roundw
        case rel => exact ⟨k + 1, by omega, by go_num, by first | exact HC.out | exact HC.out.drew⟩
        case measure => simp [intOf]; omega
    · have HC := Lib.hid hc
      clear hc
      go_wp2
      go_ret
      exact ⟨rfl, HC.out⟩


/-- the marks from k on -/
def markIL (k : Int) (n : Nat) : List Int := (List.range n).map fun (i : Nat) => k + i
theorem markIL_length (k : Int) (n : Nat) : (markIL k n).length = n := by simp [markIL]
theorem markIL_succ (k : Int) (i : Nat) : markIL k (i + 1) = markIL k i ++ [k + i] := by simp [markIL, List.range_succ]
theorem markIL_next {xs : List Int} (k : Int) (i : Nat) (h : i < xs.length) : (markIL k i ++ xs.drop i).set i (k + i) = markIL k (i + 1) ++ xs.drop (i + 1) := by
  have hl := markIL_length k i
  rw [List.set_append_right _ _ (by omega), hl, Nat.sub_self, List.drop_eq_getElem_cons h, List.set_cons_zero, markIL_succ]
  simp

set_option maxRecDepth 100000 in
set_option maxHeartbeats 400000 in
theorem markI_any (a : Option Addr) (la ca : Nat) (xs : List Int) (f : List Nat) (k : Int) (w : World) (ha : intL.sl w a la ca xs f) (hf : Fresh 0 w f) (hk : 0 ≤ k) (hk2 : k + la ≤ 4611686018427387904) :
    Calls Tryz.prog 88 #[.slice a la ca, .int .i64 k] w fun e w' => e = .returned (.int .i64 (k + la)) ∧ intL.sl w' a la ca (markIL k la) f ∧ Chg f w w' := by
  have hl := Lib.hid ha.1
  have HF := Lib.hid hf
  go_enter Tryz.func88, Tryz.ntmps88
  go_wp2
  go_loopw [1, 5] (fun u v wr => ∃ i : Nat, i ≤ la ∧ u = .int .i64 (k + i) ∧ v = .int .i64 i ∧ intL.sl wr a la ca (markIL k i ++ xs.drop i) f ∧ Chg f w wr) (fun _ v _ => la - (intOf v).toNat)
  case atStart => exact ⟨0, by omega, by simp, rfl, by simpa [markIL] using ha, Chg.refl _ _⟩
  case round =>
    clear ha hf
    obtain ⟨i, hi, rfl, rfl, hs, hc⟩ := hrel
    by_cases hlt : i < la
    · obtain ⟨x, b, o, HX, rfl, hcx, hok⟩ := int_at hs hlt
      have hfz : wr.frozen? ⟨b, o + i, none⟩ = false := by obtain ⟨cur, E, h⟩ := hc.loose b (HF.out.2 b HX.out.2.2).2; exact freeOf h _
      have hst := int_set hs HF.out.1 hlt (k + i) ⟨by omega, by omega⟩
      rw [markIL_next k i (by have := hl.out; omega)] at hst
      have HS := Lib.hid (And.intro hst (hc.setCell ⟨b, o + i, none⟩ (.int .i64 (k + (i : Int))) (.inl HX.out.2.2)))
      clear hst hc hs
      go_wp2
      go_roundw
      case rel => exact ⟨i + 1, by omega, by go_num, by go_num, HS.out.1, HS.out.2⟩
      case measure => simp [intOf]; omega
    · have hil : i = la := by omega
      subst hil
      rw [List.drop_of_length_le (by have := hl.out; omega), List.append_nil] at hs
      have HN := Lib.hid (And.intro hs hc)
      clear hs hc
      go_wp2
      go_ret
      exact ⟨rfl, HN.out⟩


theorem markIL_at {k : Int} {n i : Nat} {x : Int} (h : (markIL k n)[i]? = some x) : x = (k + i) := by
  unfold markIL at h
  rw [List.getElem?_map] at h
  obtain ⟨j, hj, rfl⟩ := Option.map_eq_some_iff.1 h
  have := List.getElem?_eq_some_iff.1 hj
  obtain ⟨_, e⟩ := this
  simp at e
  subst e
  rfl

set_option maxRecDepth 100000 in
set_option maxHeartbeats 400000 in
theorem heldI_any (a : Option Addr) (la ca : Nat) (f : List Nat) (k : Int) (w : World) (ha : intL.sl w a la ca (markIL k la) f) (hk : 0 ≤ k) (hk2 : k + la ≤ 4611686018427387904) :
    Calls Tryz.prog 113 #[.slice a la ca, .int .i64 k] w fun e w' => e = .returned (.int .i64 (k + la)) ∧ Chg [] w w' := by
  have HA := Lib.hid ha
  clear ha
  go_enter Tryz.func113, Tryz.ntmps113
  go_wp2
  go_loop [1, 5] (fun u v => ∃ i : Nat, i ≤ la ∧ u = .int .i64 (k + i) ∧ v = .int .i64 i) (fun _ v => la - (intOf v).toNat)
  case atStart => exact ⟨0, by omega, by simp, rfl⟩
  case round =>
    obtain ⟨i, hi, rfl, rfl⟩ := hrel
    by_cases hlt : i < la
    · obtain ⟨x, b, o, HX, rfl, hcx, hok⟩ := int_at HA.out hlt
      have hx := markIL_at HX.out.1
      rw [hx] at hcx
      have hnn : ((k + (i : Int) : Int) != k + (i : Int)) = false := by simp
      clear hx
      go_wp2
      go_round
      case rel => exact ⟨i + 1, by omega, by go_num, by go_num⟩
      case measure => simp [intOf]; omega
    · have hil : i = la := by omega
      subst hil
      go_wp2
      go_ret
      exact ⟨rfl, Chg.refl _ _⟩






set_option maxHeartbeats 400000 in
theorem eqIntsResult_any (n : Int) (a b : Option Addr) (la ca cb : Nat) (xs : List Int) (f g : List Nat) (w : World) (ha : intL.sl w a la ca xs f) (hb : intL.sl w b la cb xs g) :
    Calls Tryz.prog 42 #[.agg #[.int .i64 n, .slice a la ca], .agg #[.int .i64 n, .slice b la cb]] w fun e w' => e = .returned (.bool true) ∧ Chg [] w w' := by
  have hne : ((n : Int) != n) = false := by simp
  have HC := Lib.hid (((Chg.refl [] w).alloc (.cells #[.int .i64 n, .slice a la ca] 58)).alloc (.cells #[.int .i64 n, .slice b la cb] 58))
  have H1 := Lib.hid (eqI_any a b la ca cb xs f g _ (intL.sl_ext ha HC.out) (intL.sl_ext hb HC.out))
  clear ha hb
  go_enter Tryz.func42, Tryz.ntmps42
  go_wp2_with fail
  refine H1.out.mono ?_
  rintro e w1 ⟨rfl, hc⟩
  have HN := Lib.hid (HC.out.trans0 hc)
  clear hc
  go_wp2_with fail
  go_ret
  exact ⟨rfl, HN.out⟩

set_option maxHeartbeats 400000 in
theorem markIntsResult_any (n : Int) (a : Option Addr) (la ca : Nat) (xs : List Int) (f : List Nat) (k : Int) (w : World) (ha : intL.sl w a la ca xs f) (hf : Fresh 0 w f) (hk : 0 ≤ k) (hk2 : k + la ≤ 4611686018427387904) :
    Calls Tryz.prog 43 #[.agg #[.int .i64 n, .slice a la ca], .int .i64 k] w fun e w' => e = .returned (.int .i64 (k + la)) ∧ intL.sl w' a la ca (markIL k la) f ∧ Chg f w w' := by
  have HC := Lib.hid ((Chg.refl [] w).alloc (.cells #[.int .i64 n, .slice a la ca] 58))
  have H1 := Lib.hid (markI_any a la ca xs f k _ (intL.sl_ext ha HC.out) (hf.chg HC.out) hk hk2)
  clear ha hf
  go_enter Tryz.func43, Tryz.ntmps43
  go_wp2_with fail
  refine H1.out.mono ?_
  rintro e w1 ⟨rfl, hs, hc⟩
  have HN := Lib.hid (And.intro hs ((HC.out.mono (T := f) (by simp)).trans hc (fun x hx => .inl hx)))
  clear hs hc
  go_wp2_with fail
  go_ret
  exact ⟨rfl, HN.out⟩

set_option maxHeartbeats 400000 in
theorem heldIntsResult_any (n : Int) (a : Option Addr) (la ca : Nat) (f : List Nat) (k : Int) (w : World) (ha : intL.sl w a la ca (markIL k la) f) (hk : 0 ≤ k) (hk2 : k + la ≤ 4611686018427387904) :
    Calls Tryz.prog 44 #[.agg #[.int .i64 n, .slice a la ca], .int .i64 k] w fun e w' => e = .returned (.int .i64 (k + la)) ∧ Chg [] w w' := by
  have HC := Lib.hid ((Chg.refl [] w).alloc (.cells #[.int .i64 n, .slice a la ca] 58))
  have H1 := Lib.hid (heldI_any a la ca f k _ (intL.sl_ext ha HC.out) hk hk2)
  clear ha
  go_enter Tryz.func44, Tryz.ntmps44
  go_wp2_with fail
  refine H1.out.mono ?_
  rintro e w1 ⟨rfl, hc⟩
  have HN := Lib.hid (HC.out.trans0 hc)
  clear hc
  go_wp2_with fail
  go_ret
  exact ⟨rfl, HN.out⟩

end Go.Proofs.YtphmpimgbmedbaaGreat
