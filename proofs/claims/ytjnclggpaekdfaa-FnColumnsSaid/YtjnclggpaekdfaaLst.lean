
/- The walks of the byte lists: sums, scaled lists, of the reference and of the program. -/
import Derived.Test.YtjnclggpaekdfaaRows
import Derived.Test.YtjnclggpaekdfaaApp
import Derived.Test.YtjnclggpaekdfaaMul
import Derived.Deep.RegionLaw
namespace Go.Proofs.Ytjnclggpaekdfaa
open Go.RowKit

def addL (xs ys : List UInt8) : List UInt8 := xs.zipWith (· ^^^ ·) ys
def scaleL (xs : List UInt8) (c : UInt8) : List UInt8 := xs.map (Fld.mul · c)

theorem addL_next {xs ys : List UInt8} {k : Nat} {x y : UInt8} (hx : xs[k]? = some x) (hy : ys[k]? = some y) : addL (xs.take (k + 1)) (ys.take (k + 1)) = addL (xs.take k) (ys.take k) ++ [x ^^^ y] := by
  rw [take_next hx, take_next hy]
  have h1 := (List.getElem?_eq_some_iff.1 hx).1
  have h2 := (List.getElem?_eq_some_iff.1 hy).1
  unfold addL
  rw [List.zipWith_append (by simp; omega)]
  rfl

theorem addL_len (xs ys : List UInt8) (k : Nat) : (addL (xs.take k) ys).length ≤ k := by
  unfold addL; rw [List.length_zipWith]; exact Nat.le_trans (Nat.min_le_left _ _) (List.length_take_le _ _)
theorem addL_take : ∀ (xs ys : List UInt8), addL xs (ys.take xs.length) = addL xs ys := by
  intro xs
  induction xs with
  | nil => intro ys; simp [addL]
  | cons x xs ih =>
    intro ys
    cases ys with
    | nil => simp [addL]
    | cons y ys => have := ih ys; simp [addL] at this ⊢; exact this
theorem addL_length {xs ys : List UInt8} (h : xs.length ≤ ys.length) : (addL xs ys).length = xs.length := by
  unfold addL; rw [List.length_zipWith]; omega

theorem infoB : (Try.prog.info? 5).map (fun i => (i.zero, i.size, i.bytes)) = some (some (.int .u8 0), 1, 1) := by kernel_rfl
theorem kindB : ∃ K : Kind Try.prog 5 byteL.n 1, K.z = .int .u8 0 := by
  obtain ⟨i0, hi, hz0, hz1, hz2⟩ := info_parts infoB
  exact ⟨⟨i0, .int .u8 0, hi, hz0, hz1, hz2, rfl⟩, rfl⟩
/-- make([]byte, n) -/
theorem make_bytes (n : Nat) (hn : n ≤ 140737488355327) (w : World) :
    (Instr.makeSlice 22 (.int .i64 (n : Int)) (.int .i64 (n : Int))).run Try.prog w = .ok (.slice (some ⟨w.heap.size, 0, none⟩) n n) (w.alloc (.cells (zrow (.int .u8 0) n) 5)) := by
  obtain ⟨K, hK⟩ := kindB
  rw [← hK]
  have := make_row Try.underlying22 K n (by omega) (by omega) w
  rw [show n * byteL.n = n from Nat.mul_one n] at this
  exact this


set_option maxHeartbeats 400000 in
theorem l1Add_any (a b : Option Addr) (la ca lb cb : Nat) (xs ys : List UInt8) (f g : List Nat) (w : World) (ha : byteL.sl w a la ca xs f) (hb : byteL.sl w b lb cb ys g) (hl : la ≤ lb) (hz : la ≤ 140737488355327) :
    Calls Try.prog 77 #[.slice a la ca, .slice b lb cb] w (NewSl byteL (addL xs ys) w) := by
  obtain ⟨K, _⟩ := kindB
  have hm : la ≤ 9223372036854775807 := by have := ha.2.1; have := ha.2.2.1; unfold maxLen at this; omega
  have hm2 : lb ≤ 9223372036854775807 := by have := hb.2.1; have := hb.2.2.1; unfold maxLen at this; omega
  go_enter Try.func77, Try.ntmps77
  go_wp2
  go_loopw [5, 6] (fun v i wr => ∃ (k : Nat) (h : Option Nat), k ≤ la ∧ i = .int .i64 k ∧ byteL.os 5 wr v (addL (xs.take k) (ys.take k)) h [] ∧ Chg [] w wr ∧ (∀ g, h = some g → w.heap.size ≤ g)) (fun _ i _ => la - (intOf i).toNat)
  case atStart => exact ⟨0, _, by omega, rfl, byteL.os_made _ _ _ _ (by simp [maxLen]) rfl, (Chg.refl [] w).alloc _, by simp⟩
  case round =>
    obtain ⟨k, h, hk, rfl, ho, hc, hh⟩ := hrel
    by_cases hlt : k < la
    · obtain ⟨x, X, ba, oa, HX, rfl, hca, _, _⟩ := byte_at (byteL.sl_ext ha hc) hlt
      obtain ⟨y, Y, bb, ob, HY, rfl, hcb, _, _⟩ := byte_at (byteL.sl_ext hb hc) (i := k) (by omega)
      have HC := Lib.hid hc; have HO := Lib.hid ho; have HH := Lib.hid hh
      clear hc ho hh
      go_wp2
      have hlt2 : k < lb := by omega
      have HE := Lib.hid (addL_next HX.out.1 HY.out.1)
      have HB : RowKit.Hid (bits BinOp.xor IntKind.u8 X Y = ((x ^^^ y).toNat : Int)) := by
        obtain ⟨_, h1, _⟩ := HX.out; obtain ⟨_, h2, _⟩ := HY.out; rw [h1, h2]; exact bits_xor x y
      have HL : RowKit.Hid ((addL (xs.take k) (ys.take k)).length + [x ^^^ y].length ≤ maxLen ∧ ((addL (xs.take k) (ys.take k)).length + [x ^^^ y].length) * 1 ≤ 140737488355328) := by
        have hlen := addL_len xs (ys.take k) k
        refine ⟨?_, ?_⟩ <;> simp only [List.length_cons, List.length_nil, maxLen] <;> omega
      go_region_law (refine byteL.step_append rfl _ _ 22 rfl Try.underlying22 K rfl (byteL.os_alloc (byteL.os_drew HO.out) _) ⟨wr.heap.size, 0, none⟩ 1 1 [.int .u8 (bits BinOp.xor IntKind.u8 X Y)] (ys := [x ^^^ y]) (f := []) rfl rfl (new_cell _ _ _) (byte_all1 HB.out) (by simp) HL.out.1 HL.out.2 ?_; intro v' w' h' ho' hh' hc')
      all_goals
        rw [← HE.out] at ho'
        have hN := Lib.hid (And.intro ho' (And.intro (os_head HH.out (HC.out.drew.alloc _) hh') (os_chg HH.out (HC.out.drew.alloc _) hc')))
        clear ho' hh' hc'
        go_wp2
        go_roundw
        case rel => exact ⟨k + 1, _, by omega, by go_num, hN.out.1, hN.out.2.2, hN.out.2.1⟩
        case measure => simp [intOf]; omega
    · have hkl : k = la := by omega
      subst hkl
      have e1 : xs.take k = xs := List.take_of_length_le (by have := ha.1; omega)
      have e2 : addL xs (ys.take k) = addL xs ys := by rw [ha.1]; exact addL_take xs ys
      rw [e1, e2] at ho
      have hN := Lib.hid (byteL.os_new ho byte_flat hc hh)
      clear ho hc hh e1 e2
      go_wp2
      go_ret
      exact hN.out

theorem scaleL_next {xs : List UInt8} {k : Nat} {x c : UInt8} (hx : xs[k]? = some x) : scaleL (xs.take (k + 1)) c = scaleL (xs.take k) c ++ [Fld.mul x c] := by
  rw [take_next hx]; simp [scaleL]
theorem scaleL_len (xs : List UInt8) (c : UInt8) (k : Nat) : (scaleL (xs.take k) c).length ≤ k := by
  unfold scaleL; rw [List.length_map]; exact List.length_take_le _ _
theorem scaleL_length (xs : List UInt8) (c : UInt8) : (scaleL xs c).length = xs.length := by simp [scaleL]

set_option maxHeartbeats 400000 in
theorem l1Scale_any (a : Option Addr) (la ca : Nat) (xs : List UInt8) (f : List Nat) (c : UInt8) (w : World) (ha : byteL.sl w a la ca xs f) (hz : la ≤ 140737488355327) :
    Calls Try.prog 78 #[.slice a la ca, .int .u8 c.toNat] w (NewSl byteL (scaleL xs c) w) := by
  obtain ⟨K, _⟩ := kindB
  have hm := byteL.sl_max ha
  go_enter Try.func78, Try.ntmps78
  go_wp2
  go_loopw [5, 6] (fun v i wr => ∃ (k : Nat) (h : Option Nat), k ≤ la ∧ i = .int .i64 k ∧ byteL.os 5 wr v (scaleL (xs.take k) c) h [] ∧ Chg [] w wr ∧ (∀ g, h = some g → w.heap.size ≤ g)) (fun _ i _ => la - (intOf i).toNat)
  case atStart => exact ⟨0, _, by omega, rfl, byteL.os_made _ _ _ _ (by simp [maxLen]) rfl, (Chg.refl [] w).alloc _, by simp⟩
  case round =>
    obtain ⟨k, h, hk, rfl, ho, hc, hh⟩ := hrel
    by_cases hlt : k < la
    · obtain ⟨x, X, ba, oa, HX, rfl, hca, _, _⟩ := byte_at (byteL.sl_ext ha hc) hlt
      have HC := Lib.hid hc; have HO := Lib.hid ho; have HH := Lib.hid hh
      clear hc ho hh
      have HE := Lib.hid (scaleL_next (c := c) HX.out.1)
      have HL : RowKit.Hid ((scaleL (xs.take k) c).length + [Fld.mul x c].length ≤ maxLen ∧ ((scaleL (xs.take k) c).length + [Fld.mul x c].length) * 1 ≤ 140737488355328) := by
        have hlen := scaleL_len xs c k
        refine ⟨?_, ?_⟩ <;> simp only [List.length_cons, List.length_nil, maxLen] <;> omega
      rw [HX.out.2.1] at hca
      go_wp2_with (first | (go_at_call 84; refine (spec_mul _ _ _).mono ?_; rintro e w' ⟨rfl, rfl⟩) | (refine byteL.wpList_append rfl _ _ 22 rfl Try.underlying22 K rfl (byteL.os_alloc HO.out _) ⟨wr.heap.size, 0, none⟩ 1 1 [.int .u8 ((Fld.mul x c).toNat : Int)] (ys := [Fld.mul x c]) (f := []) rfl rfl (new_cell _ _ _) (byte_all1 rfl) (by simp) HL.out.1 HL.out.2 ?_; intro v' w' h' ho' hh' hc'; rw [← HE.out] at ho'; have hN := Lib.hid (And.intro ho' (And.intro (os_head HH.out (HC.out.alloc _) hh') (os_chg HH.out (HC.out.alloc _) hc'))); clear ho' hh' hc'))
      go_roundw
      case rel => exact ⟨k + 1, _, by omega, by go_num, hN.out.1, hN.out.2.2, hN.out.2.1⟩
      case measure => simp [intOf]; omega
    · have hkl : k = la := by omega
      subst hkl
      rw [show xs.take k = xs from List.take_of_length_le (by have := ha.1; omega)] at ho
      have hN := Lib.hid (byteL.os_new ho byte_flat hc hh)
      clear ho hc hh
      go_wp2
      go_ret
      exact hN.out

/-- the first k places summed -/
def mixL (outs xs : List UInt8) (c : UInt8) (k : Nat) : List UInt8 := addL (outs.take k) (scaleL (xs.take k) c) ++ outs.drop k

theorem addL_len_eq {xs ys : List UInt8} (h : xs.length = ys.length) : (addL xs ys).length = xs.length := by unfold addL; rw [List.length_zipWith]; omega
theorem mixL_zero (outs xs : List UInt8) (c : UInt8) : mixL outs xs c 0 = outs := by simp [mixL, addL]
theorem mixL_all {outs xs : List UInt8} {c : UInt8} {n : Nat} (h : n = outs.length) (h2 : n = xs.length) : mixL outs xs c n = addL outs (scaleL xs c) := by
  unfold mixL
  rw [List.take_of_length_le (by omega), List.take_of_length_le (by omega), List.drop_of_length_le (by omega), List.append_nil]
theorem mixL_at {outs xs : List UInt8} {c : UInt8} {k : Nat} (hx : k < xs.length) (ho : k < outs.length) : (mixL outs xs c k)[k]? = outs[k]? := by
  unfold mixL
  have hl : (addL (outs.take k) (scaleL (xs.take k) c)).length = k := by rw [addL_len_eq (by simp [scaleL]; omega)]; simp; omega
  rw [List.getElem?_append_right (by omega), hl, List.getElem?_drop]
  simp
theorem mixL_next {outs xs : List UInt8} {c o x : UInt8} {k : Nat} (hx : xs[k]? = some x) (ho : outs[k]? = some o) : (mixL outs xs c k).set k (o ^^^ Fld.mul x c) = mixL outs xs c (k + 1) := by
  have hxl := (List.getElem?_eq_some_iff.1 hx).1
  have hol := (List.getElem?_eq_some_iff.1 ho).1
  have he := (List.getElem?_eq_some_iff.1 ho).2
  have hl : (addL (outs.take k) (scaleL (xs.take k) c)).length = k := by rw [addL_len_eq (by simp [scaleL]; omega)]; simp; omega
  unfold mixL
  rw [List.set_append_right _ _ (by omega), hl, Nat.sub_self, List.drop_eq_getElem_cons hol, List.set_cons_zero, take_next ho, scaleL_next hx]
  have : addL (outs.take k ++ [o]) (scaleL (xs.take k) c ++ [Fld.mul x c]) = addL (outs.take k) (scaleL (xs.take k) c) ++ [o ^^^ Fld.mul x c] := by
    unfold addL
    rw [List.zipWith_append (by simp [scaleL]; omega)]
    rfl
  rw [this]
  simp

set_option maxRecDepth 100000 in
set_option maxHeartbeats 400000 in
theorem put_any (a b : Option Addr) (la co cb : Nat) (outs xs : List UInt8) (fo g : List Nat) (c : UInt8) (w : World) (ho : byteL.sl w a la co outs fo) (hl : Fresh 0 w fo) (hb : byteL.sl w b la cb xs g) (hg : ∀ x ∈ g, x ∉ fo) :
    Calls Try.prog 57 #[.slice a la co, .slice b la cb, .int .u8 c.toNat] w fun e w' => e = .returned (.tuple #[]) ∧ byteL.sl w' a la co (addL outs (scaleL xs c)) fo ∧ Chg fo w w' := by
  have hm := byteL.sl_max ho
  have hlo := Lib.hid ho.1
  have hlx := Lib.hid hb.1
  go_enter Try.func57, Try.ntmps57
  go_wp2
  go_loopw [10] (fun i wr => ∃ k : Nat, k ≤ la ∧ i = .int .i64 k ∧ byteL.sl wr a la co (mixL outs xs c k) fo ∧ Chg fo w wr) (fun i _ => la - (intOf i).toNat)
  case atStart => exact ⟨0, by omega, rfl, by rw [mixL_zero]; exact ho, Chg.refl _ _⟩
  case round =>
    obtain ⟨k, hk, rfl, hs, hc⟩ := hrel
    by_cases hlt : k < la
    · obtain ⟨x, X, bb, ob, HX, rfl, hcx, _, _⟩ := byte_at (byteL.sl_chg hb hc hg) hlt
      obtain ⟨o, O, ba, oa, HO, rfl, hco, _, _⟩ := byte_at hs hlt
      have hfz : ∀ j, wr.frozen? ⟨ba, j, none⟩ = false := by
        obtain ⟨cur, E, hw⟩ := hc.loose ba (hl.2 ba HO.out.2.2).2
        exact freeOf hw
      have hfz' := hfz (oa + k)
      have HM := Lib.hid (mixL_next (c := c) HX.out.1 (by rw [← mixL_at (outs := outs) (xs := xs) (c := c) (k := k) (by have := hlx.out; omega) (by have := hlo.out; omega)]; exact HO.out.1))
      obtain ⟨z, hz⟩ : ∃ z, o ^^^ Fld.mul x c = z := ⟨_, rfl⟩
      have hst := byte_set hs hl.1 hlt z
      rw [← hz, HM.out, hz] at hst
      have HS := Lib.hid hst
      have HC := Lib.hid hc
      have HXO := Lib.hid (show bits BinOp.xor IntKind.u8 O ((Fld.mul x c).toNat : Int) = (z.toNat : Int) by rw [HO.out.2.1, ← hz]; exact bits_xor _ _)
      clear hs hc hst hfz hz HM
      rw [HX.out.2.1] at hcx
      go_wp2
      go_region_law (go_simp; go_at_call 76; refine (impl_mul _ _ _).mono ?_; rintro e w' ⟨rfl, rfl⟩)
      all_goals
        rw [HXO.out]
        go_wp2
        go_roundw
        case rel => exact ⟨k + 1, by omega, by go_num, byteL.sl_keep HS.out (fun _ _ => rfl), (HC.out.setCell _ _ (.inl HO.out.2.2)).drew⟩
        case measure => simp [intOf]; omega
    · have hkl : k = la := by omega
      subst hkl
      rw [mixL_all hlo.out hlx.out] at hs
      have HN := Lib.hid (And.intro hs hc)
      clear hs hc
      go_wp2
      go_end0
      exact ⟨rfl, HN.out⟩


theorem addL_zero (n : Nat) (xs : List UInt8) (h : n = xs.length) : addL (List.replicate n 0) xs = xs := by
  subst h
  induction xs with
  | nil => rfl
  | cons x xs ih => simp [addL, List.replicate_succ] at ih ⊢; exact ih

set_option maxHeartbeats 400000 in
theorem scaled_any (a : Option Addr) (la ca : Nat) (xs : List UInt8) (f : List Nat) (c : UInt8) (w : World) (ha : byteL.sl w a la ca xs f) (hz : la ≤ 140737488355327) :
    Calls Try.prog 88 #[.slice a la ca, .int .u8 c.toNat] w (NewSl byteL (scaleL xs c) w) := by
  have hmk := make_bytes la hz
  have hl := Lib.hid ha.1
  have hc0 := (Chg.refl [] w).alloc (.cells (zrow (.int .u8 0) la) 5)
  have HP := Lib.hid (put_any (some ⟨w.heap.size, 0, none⟩) a la la ca _ xs _ f c _ (byte_zrow w 5 la (by omega)) ((fresh_new w _ 5).mono (Nat.zero_le _)) (byteL.sl_ext ha hc0) (fun x hx hx' => by have := byteL.sl_lt ha x hx; simp at hx'; omega))
  go_enter Try.func88, Try.ntmps88
  go_wp2_with fail
  refine HP.out.mono ?_
  rintro e w1 ⟨rfl, hs, hc⟩
  rw [addL_zero _ _ (by rw [scaleL_length]; exact hl.out)] at hs
  have hN : NewSl byteL (scaleL xs c) w (.returned (.slice (some ⟨w.heap.size, 0, none⟩) la la)) w1 := by
    refine ⟨_, la, _, by rw [scaleL_length, ← hl.out], ?_, ((fresh_new w _ 5).chg hc), hc0.trans hc (fun x hx => .inr (by simp at hx; omega))⟩
    rw [scaleL_length, ← hl.out]; exact hs
  have HN := Lib.hid hN
  clear hN hs hc
  go_wp2
  go_ret
  exact HN.out

end Go.Proofs.Ytjnclggpaekdfaa
