/- Several texts in one. -/
import Derived.Test.YtphmpimgbmedbaaGreatRows
import Derived.Test.YtphmpimgbmedbaaGreatQaa
import Derived.Deep.RegionLaw
import Derived.Laws.IdiomCopy
import Derived.Laws.BytesArg
set_option maxRecDepth 100000
set_option maxHeartbeats 8000000
namespace Go.Proofs.YtphmpimgbmedbaaGreat
open Go.RowKit
open Go.Lib (hid)
theorem copyB_next {xs : List UInt8} {k n : Nat} {x : UInt8} (hx : xs[k]? = some x) (hn : n = xs.length) : (xs.take k ++ List.replicate (n - k) 0).set k x = xs.take (k + 1) ++ List.replicate (n - (k + 1)) 0 := by
 have hk := (List.getElem?_eq_some_iff.1 hx).1
 have hl : (xs.take k).length = k := by rw [List.length_take]; omega
 rw [List.set_append_right _ _ (by omega), hl, Nat.sub_self, q1d hx, show n - k = (n - (k + 1)) + 1 by omega, List.replicate_succ, List.set_cons_zero]
 simp
theorem toB_any (a : Option Addr) (la ca : Nat) (xs : List UInt8) (f : List Nat) (w : World) (ha : q0q.sl w a la ca xs f) (hz : la ≤ 1048576) :
  Calls Tryz.prog 290 #[.slice a la ca] w (q5e q0q xs w) := by
 have hmk := make_bytes la (by omega)
 have hl := hid ha.1
 have HA := hid ha
 clear ha
 go_enter Tryz.func290, Tryz.ntmps290
 go_wp2
 go_loopw [4] (fun i wr => ∃ k : Nat, k ≤ la ∧ i = .int .i64 k ∧ q0q.sl wr (some ⟨w.heap.size, 0, none⟩) la la (xs.take k ++ List.replicate (la - k) 0) [w.heap.size] ∧ q4h wr w.heap.size ∧ Chg [] w wr) (fun i _ => la - (intOf i).toNat)
 case atStart => exact ⟨0, by omega, rfl, by simpa using byte_zrow w 5 la (by omega), ⟨_, _, q1a w _⟩, (Chg.refl [] w).alloc _⟩
 case round =>
  obtain ⟨k, hk, rfl, hs, hlo, hc⟩ := hrel
  by_cases hlt : k < la
  ·obtain ⟨x, X, b, o, HX, rfl, hcx, _, _⟩ := q4f (q0q.sl_ext HA.out hc) hlt
   obtain ⟨y, Y, b', o', HO, e', hco, _, _⟩ := q4f hs hlt
   obtain ⟨rfl, rfl⟩ : b' = w.heap.size ∧ o' = 0 := by simpa using e'.symm
   have hfz : wr.frozen? ⟨w.heap.size, k, none⟩ = false := by obtain ⟨cur, E, h⟩ := hlo; exact q0l h k
   rw [Nat.zero_add] at hco
   have hst := byte_set hs (by simp) hlt x
   rw [Nat.zero_add, copyB_next HX.out.1 hl.out] at hst
   rw [HX.out.2.1] at hcx
   have HS := hid (And.intro hst (And.intro (hlo.setCell ⟨w.heap.size, k, none⟩ (.int .u8 (x.toNat : Int))) (hc.setCell ⟨w.heap.size, k, none⟩ (.int .u8 (x.toNat : Int)) (.inr (Nat.le_refl _)))))
   clear hst hlo hc hs e'
   go_wp2
   go_roundw
   case rel => exact ⟨k + 1, by omega, by go_num, HS.out.1, HS.out.2.1, HS.out.2.2⟩
   case measure => simp [intOf]; omega
  ·have hkl : k = la := by omega
   subst hkl
   have hN : q5e q0q xs w (.returned (.slice (some ⟨w.heap.size, 0, none⟩) k k)) wr := by
    rw [List.take_of_length_le (by have := hl.out; omega), Nat.sub_self, List.replicate_zero, List.append_nil] at hs
    rw [hl.out] at hs ⊢
    exact ⟨_, _, _, rfl, hs, ⟨by simp, fun b hb => by simp at hb; subst hb; exact ⟨Nat.le_refl _, hlo⟩⟩, hc⟩
   have HN := hid hN
   clear hN hs hlo hc
   go_wp2
   go_ret
   exact HN.out
theorem eqB_any (a b : Option Addr) (la ca cb : Nat) (xs : List UInt8) (f g : List Nat) (w : World) (ha : q0q.sl w a la ca xs f) (hb : q0q.sl w b la cb xs g) :
  Calls Tryz.prog 239 #[.slice a la ca, .slice b la cb] w fun e w' => e = .returned (.bool true) ∧ Chg [] w w' := by
 have hm := q0q.sl_max ha
 have hne : ((la : Int) != (la : Int)) = false := by simp
 have HA := hid ha
 have HB := hid hb
 clear ha hb
 go_enter Tryz.func239, Tryz.ntmps239
 go_wp2
 go_loopw [5] (fun i wr => ∃ k : Nat, k ≤ la ∧ i = .int .i64 k ∧ Chg [] w wr) (fun i _ => la - (intOf i).toNat)
 case atStart => exact ⟨0, by omega, rfl, Chg.refl _ _⟩
 case round =>
  obtain ⟨k, hk, rfl, hc⟩ := hrel
  by_cases hlt : k < la
  ·obtain ⟨x, X, b, o, HX, rfl, hcx, _, _⟩ := q4f (q0q.sl_ext HA.out hc) hlt
   obtain ⟨y, Y, b', o', HY, rfl, hcy, _, _⟩ := q4f (q0q.sl_ext HB.out hc) hlt
   have hxy : x = y := by have := HX.out.1.symm.trans HY.out.1; exact Option.some.inj this
   subst hxy
   rw [HX.out.2.1] at hcx; rw [HY.out.2.1] at hcy; have hnn : ((x.toNat : Int) != (x.toNat : Int)) = false := by simp
   have HC := hid hc
   clear hc
   go_wp2
   first | go_region | skip
   all_goals (try go_wp2)
   all_goals
    go_roundw
    case rel => exact ⟨k + 1, by omega, by go_num, by first | exact HC.out | exact HC.out.drew⟩
    case measure => simp [intOf]; omega
  ·have HC := hid hc
   clear hc
   go_wp2
   go_ret
   exact ⟨rfl, HC.out⟩
def q4a (k : Int) (n : Nat) : List UInt8 := (List.range n).map fun (i : Nat) => UInt8.ofNat ((k.toNat + i) % 256)
theorem z2e (k : Int) (n : Nat) : (q4a k n).length = n := by simp [q4a]
theorem markBL_succ (k : Int) (i : Nat) : q4a k (i + 1) = q4a k i ++ [UInt8.ofNat ((k.toNat + i) % 256)] := by simp [q4a, List.range_succ]
theorem markBL_next {xs : List UInt8} (k : Int) (i : Nat) (h : i < xs.length) : (q4a k i ++ xs.drop i).set i (UInt8.ofNat ((k.toNat + i) % 256)) = q4a k (i + 1) ++ xs.drop (i + 1) := by
 have hl := z2e k i
 rw [List.set_append_right _ _ (by omega), hl, Nat.sub_self, List.drop_eq_getElem_cons h, List.set_cons_zero, markBL_succ]
 simp
theorem mark_byte {k : Int} {i : Nat} (hk : 0 ≤ k) : (k + (i : Int)) % 256 = ((UInt8.ofNat ((k.toNat + i) % 256)).toNat : Int) := by
 rw [UInt8.toNat_ofNat']
 omega
theorem z0c (a : Option Addr) (la ca : Nat) (xs : List UInt8) (f : List Nat) (k : Int) (w : World) (ha : q0q.sl w a la ca xs f) (hf : q0r 0 w f) (hk : 0 ≤ k) (hk2 : k + la ≤ 4611686018427387904) :
  Calls Tryz.prog 175 #[.slice a la ca, .int .i64 k] w fun e w' => e = .returned (.int .i64 (k + la)) ∧ q0q.sl w' a la ca (q4a k la) f ∧ Chg f w w' := by
 have hl := hid ha.1
 have HF := hid hf
 go_enter Tryz.func175, Tryz.ntmps175
 go_wp2
 go_loopw [1, 5] (fun u v wr => ∃ i : Nat, i ≤ la ∧ u = .int .i64 (k + i) ∧ v = .int .i64 i ∧ q0q.sl wr a la ca (q4a k i ++ xs.drop i) f ∧ Chg f w wr) (fun _ v _ => la - (intOf v).toNat)
 case atStart => exact ⟨0, by omega, by simp, rfl, by simpa [q4a] using ha, Chg.refl _ _⟩
 case round =>
  clear ha hf
  obtain ⟨i, hi, rfl, rfl, hs, hc⟩ := hrel
  by_cases hlt : i < la
  ·obtain ⟨x, X, b, o, HX, rfl, hcx, _, _⟩ := q4f hs hlt
   have hfz : wr.frozen? ⟨b, o + i, none⟩ = false := by obtain ⟨cur, E, h⟩ := hc.loose b (HF.out.2 b HX.out.2.2).2; exact q0l h _
   have hst := byte_set hs HF.out.1 hlt (UInt8.ofNat ((k.toNat + i) % 256))
   rw [markBL_next k i (by have := hl.out; omega), ← mark_byte hk] at hst
   have HS := hid (And.intro hst (hc.setCell ⟨b, o + i, none⟩ (.int .u8 ((k + (i : Int)) % 256)) (.inl HX.out.2.2)))
   clear hst hc hs
   go_wp2
   go_roundw
   case rel => exact ⟨i + 1, by omega, by go_num, by go_num, HS.out.1, HS.out.2⟩
   case measure => simp [intOf]; omega
  ·have hil : i = la := by omega
   subst hil
   rw [List.drop_of_length_le (by have := hl.out; omega), List.append_nil] at hs
   have HN := hid (And.intro hs hc)
   clear hs hc
   go_wp2
   go_ret
   exact ⟨rfl, HN.out⟩
theorem infoI : (Tryz.prog.info? 2).map (fun i => (i.zero, i.size, i.bytes)) = some (some (.int .i64 0), 1, 8) := by kernel_rfl
theorem kindI : ∃ K : Kind Tryz.prog 2 intL.n 8, K.z = .int .i64 0 := by
 obtain ⟨i0, hi, hz0, hz1, hz2⟩ := info_parts infoI
 exact ⟨⟨i0, .int .i64 0, hi, hz0, hz1, hz2, rfl⟩, rfl⟩
theorem make_ints (n : Nat) (hn : n ≤ 17592186044415) (w : World) :
  (Instr.makeSlice 25 (.int .i64 (n : Int)) (.int .i64 (n : Int))).run Tryz.prog w = .ok (.slice (some ⟨w.heap.size, 0, none⟩) n n) (w.alloc (.cells (zrow (.int .i64 0) n) 2)) := by
 obtain ⟨K, hK⟩ := kindI
 rw [← hK]
 have := q5i Tryz.underlying25 K n (by omega) (by omega) w
 rw [show n * intL.n = n from Nat.mul_one n] at this
 exact this
theorem copyI_next {xs : List Int} {k n : Nat} {x : Int} (hx : xs[k]? = some x) (hn : n = xs.length) : (xs.take k ++ List.replicate (n - k) 0).set k x = xs.take (k + 1) ++ List.replicate (n - (k + 1)) 0 := by
 have hk := (List.getElem?_eq_some_iff.1 hx).1
 have hl : (xs.take k).length = k := by rw [List.length_take]; omega
 rw [List.set_append_right _ _ (by omega), hl, Nat.sub_self, q1d hx, show n - k = (n - (k + 1)) + 1 by omega, List.replicate_succ, List.set_cons_zero]
 simp
theorem toI_any (a : Option Addr) (la ca : Nat) (xs : List Int) (f : List Nat) (w : World) (ha : intL.sl w a la ca xs f) (hz : la ≤ 1048576) :
  Calls Tryz.prog 76 #[.slice a la ca] w (q5e intL xs w) := by
 have hmk := make_ints la (by omega)
 have hl := hid ha.1
 have HA := hid ha
 clear ha
 go_enter Tryz.func76, Tryz.ntmps76
 go_wp2
 go_loopw [4] (fun i wr => ∃ k : Nat, k ≤ la ∧ i = .int .i64 k ∧ intL.sl wr (some ⟨w.heap.size, 0, none⟩) la la (xs.take k ++ List.replicate (la - k) 0) [w.heap.size] ∧ q4h wr w.heap.size ∧ Chg [] w wr) (fun i _ => la - (intOf i).toNat)
 case atStart => exact ⟨0, by omega, rfl, by simpa using int_zrow w 2 la (by omega), ⟨_, _, q1a w _⟩, (Chg.refl [] w).alloc _⟩
 case round =>
  obtain ⟨k, hk, rfl, hs, hlo, hc⟩ := hrel
  by_cases hlt : k < la
  ·obtain ⟨x, b, o, HX, rfl, hcx, hok⟩ := q2p (intL.sl_ext HA.out hc) hlt
   obtain ⟨y, b', o', HO, e', hco, hok2⟩ := q2p hs hlt
   obtain ⟨rfl, rfl⟩ : b' = w.heap.size ∧ o' = 0 := by simpa using e'.symm
   have hfz : wr.frozen? ⟨w.heap.size, k, none⟩ = false := by obtain ⟨cur, E, h⟩ := hlo; exact q0l h k
   rw [Nat.zero_add] at hco
   have hst := int_set hs (by simp) hlt x hok.out
   rw [Nat.zero_add, copyI_next HX.out.1 hl.out] at hst
   
   have HS := hid (And.intro hst (And.intro (hlo.setCell ⟨w.heap.size, k, none⟩ (.int .i64 x)) (hc.setCell ⟨w.heap.size, k, none⟩ (.int .i64 x) (.inr (Nat.le_refl _)))))
   clear hst hlo hc hs e'
   go_wp2
   go_roundw
   case rel => exact ⟨k + 1, by omega, by go_num, HS.out.1, HS.out.2.1, HS.out.2.2⟩
   case measure => simp [intOf]; omega
  ·have hkl : k = la := by omega
   subst hkl
   have hN : q5e intL xs w (.returned (.slice (some ⟨w.heap.size, 0, none⟩) k k)) wr := by
    rw [List.take_of_length_le (by have := hl.out; omega), Nat.sub_self, List.replicate_zero, List.append_nil] at hs
    rw [hl.out] at hs ⊢
    exact ⟨_, _, _, rfl, hs, ⟨by simp, fun b hb => by simp at hb; subst hb; exact ⟨Nat.le_refl _, hlo⟩⟩, hc⟩
   have HN := hid hN
   clear hN hs hlo hc
   go_wp2
   go_ret
   exact HN.out
theorem eqI_any (a b : Option Addr) (la ca cb : Nat) (xs : List Int) (f g : List Nat) (w : World) (ha : intL.sl w a la ca xs f) (hb : intL.sl w b la cb xs g) :
  Calls Tryz.prog 85 #[.slice a la ca, .slice b la cb] w fun e w' => e = .returned (.bool true) ∧ Chg [] w w' := by
 have hm := intL.sl_max ha
 have hne : ((la : Int) != (la : Int)) = false := by simp
 have HA := hid ha
 have HB := hid hb
 clear ha hb
 go_enter Tryz.func85, Tryz.ntmps85
 go_wp2
 go_loopw [5] (fun i wr => ∃ k : Nat, k ≤ la ∧ i = .int .i64 k ∧ Chg [] w wr) (fun i _ => la - (intOf i).toNat)
 case atStart => exact ⟨0, by omega, rfl, Chg.refl _ _⟩
 case round =>
  obtain ⟨k, hk, rfl, hc⟩ := hrel
  by_cases hlt : k < la
  ·obtain ⟨x, b, o, HX, rfl, hcx, hok⟩ := q2p (intL.sl_ext HA.out hc) hlt
   obtain ⟨y, b', o', HY, rfl, hcy, hok⟩ := q2p (intL.sl_ext HB.out hc) hlt
   have hxy : x = y := by have := HX.out.1.symm.trans HY.out.1; exact Option.some.inj this
   subst hxy
   have hnn : ((x : Int) != (x : Int)) = false := by simp
   have HC := hid hc
   clear hc
   go_wp2
   first | go_region | skip
   all_goals (try go_wp2)
   all_goals
    go_roundw
    case rel => exact ⟨k + 1, by omega, by go_num, by first | exact HC.out | exact HC.out.drew⟩
    case measure => simp [intOf]; omega
  ·have HC := hid hc
   clear hc
   go_wp2
   go_ret
   exact ⟨rfl, HC.out⟩
def q3h (k : Int) (n : Nat) : List Int := (List.range n).map fun (i : Nat) => k + i
theorem z2d (k : Int) (n : Nat) : (q3h k n).length = n := by simp [q3h]
theorem markIL_succ (k : Int) (i : Nat) : q3h k (i + 1) = q3h k i ++ [k + i] := by simp [q3h, List.range_succ]
theorem markIL_next {xs : List Int} (k : Int) (i : Nat) (h : i < xs.length) : (q3h k i ++ xs.drop i).set i (k + i) = q3h k (i + 1) ++ xs.drop (i + 1) := by
 have hl := z2d k i
 rw [List.set_append_right _ _ (by omega), hl, Nat.sub_self, List.drop_eq_getElem_cons h, List.set_cons_zero, markIL_succ]
 simp
theorem z0a (a : Option Addr) (la ca : Nat) (xs : List Int) (f : List Nat) (k : Int) (w : World) (ha : intL.sl w a la ca xs f) (hf : q0r 0 w f) (hk : 0 ≤ k) (hk2 : k + la ≤ 4611686018427387904) :
  Calls Tryz.prog 88 #[.slice a la ca, .int .i64 k] w fun e w' => e = .returned (.int .i64 (k + la)) ∧ intL.sl w' a la ca (q3h k la) f ∧ Chg f w w' := by
 have hl := hid ha.1
 have HF := hid hf
 go_enter Tryz.func88, Tryz.ntmps88
 go_wp2
 go_loopw [1, 5] (fun u v wr => ∃ i : Nat, i ≤ la ∧ u = .int .i64 (k + i) ∧ v = .int .i64 i ∧ intL.sl wr a la ca (q3h k i ++ xs.drop i) f ∧ Chg f w wr) (fun _ v _ => la - (intOf v).toNat)
 case atStart => exact ⟨0, by omega, by simp, rfl, by simpa [q3h] using ha, Chg.refl _ _⟩
 case round =>
  clear ha hf
  obtain ⟨i, hi, rfl, rfl, hs, hc⟩ := hrel
  by_cases hlt : i < la
  ·obtain ⟨x, b, o, HX, rfl, hcx, hok⟩ := q2p hs hlt
   have hfz : wr.frozen? ⟨b, o + i, none⟩ = false := by obtain ⟨cur, E, h⟩ := hc.loose b (HF.out.2 b HX.out.2.2).2; exact q0l h _
   have hst := int_set hs HF.out.1 hlt (k + i) ⟨by omega, by omega⟩
   rw [markIL_next k i (by have := hl.out; omega)] at hst
   have HS := hid (And.intro hst (hc.setCell ⟨b, o + i, none⟩ (.int .i64 (k + (i : Int))) (.inl HX.out.2.2)))
   clear hst hc hs
   go_wp2
   go_roundw
   case rel => exact ⟨i + 1, by omega, by go_num, by go_num, HS.out.1, HS.out.2⟩
   case measure => simp [intOf]; omega
  ·have hil : i = la := by omega
   subst hil
   rw [List.drop_of_length_le (by have := hl.out; omega), List.append_nil] at hs
   have HN := hid (And.intro hs hc)
   clear hs hc
   go_wp2
   go_ret
   exact ⟨rfl, HN.out⟩
theorem markIL_at {k : Int} {n i : Nat} {x : Int} (h : (q3h k n)[i]? = some x) : x = (k + i) := by
 unfold q3h at h
 rw [List.getElem?_map] at h
 obtain ⟨j, hj, rfl⟩ := Option.map_eq_some_iff.1 h
 have := List.getElem?_eq_some_iff.1 hj
 obtain ⟨_, e⟩ := this
 simp at e
 subst e
 rfl
theorem heldI_any (a : Option Addr) (la ca : Nat) (f : List Nat) (k : Int) (w : World) (ha : intL.sl w a la ca (q3h k la) f) (hk : 0 ≤ k) (hk2 : k + la ≤ 4611686018427387904) :
  Calls Tryz.prog 113 #[.slice a la ca, .int .i64 k] w fun e w' => e = .returned (.int .i64 (k + la)) ∧ Chg [] w w' := by
 have HA := hid ha
 clear ha
 go_enter Tryz.func113, Tryz.ntmps113
 go_wp2
 go_loop [1, 5] (fun u v => ∃ i : Nat, i ≤ la ∧ u = .int .i64 (k + i) ∧ v = .int .i64 i) (fun _ v => la - (intOf v).toNat)
 case atStart => exact ⟨0, by omega, by simp, rfl⟩
 case round =>
  obtain ⟨i, hi, rfl, rfl⟩ := hrel
  by_cases hlt : i < la
  ·obtain ⟨x, b, o, HX, rfl, hcx, hok⟩ := q2p HA.out hlt
   have hx := markIL_at HX.out.1
   rw [hx] at hcx
   have hnn : ((k + (i : Int) : Int) != k + (i : Int)) = false := by simp
   clear hx
   go_wp2
   go_round
   case rel => exact ⟨i + 1, by omega, by go_num, by go_num⟩
   case measure => simp [intOf]; omega
  ·have hil : i = la := by omega
   subst hil
   go_wp2
   go_ret
   exact ⟨rfl, Chg.refl _ _⟩
theorem q9c (n : Int) (a b : Option Addr) (la ca cb : Nat) (xs : List Int) (f g : List Nat) (w : World) (ha : intL.sl w a la ca xs f) (hb : intL.sl w b la cb xs g) :
  Calls Tryz.prog 42 #[.agg #[.int .i64 n, .slice a la ca], .agg #[.int .i64 n, .slice b la cb]] w fun e w' => e = .returned (.bool true) ∧ Chg [] w w' := by
 have hne : ((n : Int) != n) = false := by simp
 have HC := hid (((Chg.refl [] w).alloc (.cells #[.int .i64 n, .slice a la ca] 58)).alloc (.cells #[.int .i64 n, .slice b la cb] 58))
 have H1 := hid (eqI_any a b la ca cb xs f g _ (intL.sl_ext ha HC.out) (intL.sl_ext hb HC.out))
 clear ha hb
 go_enter Tryz.func42, Tryz.ntmps42
 go_wp2_with fail
 refine H1.out.mono ?_
 rintro e w1 ⟨rfl, hc⟩
 have HN := hid (HC.out.trans0 hc)
 clear hc
 go_wp2_with fail
 go_ret
 exact ⟨rfl, HN.out⟩
theorem q7w (n : Int) (a : Option Addr) (la ca : Nat) (xs : List Int) (f : List Nat) (k : Int) (w : World) (ha : intL.sl w a la ca xs f) (hf : q0r 0 w f) (hk : 0 ≤ k) (hk2 : k + la ≤ 4611686018427387904) :
  Calls Tryz.prog 43 #[.agg #[.int .i64 n, .slice a la ca], .int .i64 k] w fun e w' => e = .returned (.int .i64 (k + la)) ∧ intL.sl w' a la ca (q3h k la) f ∧ Chg f w w' := by
 have HC := hid ((Chg.refl [] w).alloc (.cells #[.int .i64 n, .slice a la ca] 58))
 have H1 := hid (z0a a la ca xs f k _ (intL.sl_ext ha HC.out) (hf.chg HC.out) hk hk2)
 clear ha hf
 go_enter Tryz.func43, Tryz.ntmps43
 go_wp2_with fail
 refine H1.out.mono ?_
 rintro e w1 ⟨rfl, hs, hc⟩
 have HN := hid (And.intro hs ((HC.out.mono (T := f) (by simp)).trans hc (fun x hx => .inl hx)))
 clear hs hc
 go_wp2_with fail
 go_ret
 exact ⟨rfl, HN.out⟩
theorem q8c (n : Int) (a : Option Addr) (la ca : Nat) (f : List Nat) (k : Int) (w : World) (ha : intL.sl w a la ca (q3h k la) f) (hk : 0 ≤ k) (hk2 : k + la ≤ 4611686018427387904) :
  Calls Tryz.prog 44 #[.agg #[.int .i64 n, .slice a la ca], .int .i64 k] w fun e w' => e = .returned (.int .i64 (k + la)) ∧ Chg [] w w' := by
 have HC := hid ((Chg.refl [] w).alloc (.cells #[.int .i64 n, .slice a la ca] 58))
 have H1 := hid (heldI_any a la ca f k _ (intL.sl_ext ha HC.out) hk hk2)
 clear ha
 go_enter Tryz.func44, Tryz.ntmps44
 go_wp2_with fail
 refine H1.out.mono ?_
 rintro e w1 ⟨rfl, hc⟩
 have HN := hid (HC.out.trans0 hc)
 clear hc
 go_wp2_with fail
 go_ret
 exact ⟨rfl, HN.out⟩
theorem Lay.all_mod {α : Type} (L : Lay α) {w : World} {x : α} : ∀ {xs : List α} {i : Nat} {cs : List Value} {fps : List Nat}, L.all w cs xs fps → xs[i]? = some x →
  ∃ c f f1 f2, fps = f1 ++ f ++ f2 ∧ (∀ j, j < L.n → cs[i * L.n + j]? = c[j]?) ∧ L.rep w c x f ∧
   ∀ w' x', L.rep w' c x' f → (∀ y, (y ∈ f1 ∨ y ∈ f2) → w'.heap[y]? = w.heap[y]?) → L.all w' cs (xs.set i x') fps := by
 intro xs
 induction xs with
 | nil => intro i cs fps _ hx; simp at hx
 | cons y ys ih =>
  intro i cs fps h hx
  obtain ⟨c1, c2, f1, f2, rfl, rfl, h1, h2⟩ := h
  have hl := L.len h1
  cases i with
  | zero =>
   simp at hx
   subst hx
   refine ⟨c1, f1, [], f2, by simp, fun j hj => by rw [Nat.zero_mul, Nat.zero_add, List.getElem?_append_left (by omega)], h1, fun w' x' hr hk => ⟨c1, c2, f1, f2, rfl, rfl, hr, L.all_keep h2 (fun y hy => hk y (.inr hy))⟩⟩
  | succ i =>
   obtain ⟨c, f, g1, g2, rfl, hc, hr, hm⟩ := ih h2 (by simpa using hx)
   refine ⟨c, f, f1 ++ g1, g2, by simp, fun j hj => ?_, hr, fun w' x' hr' hk => ⟨c1, c2, f1, _, rfl, rfl, L.keep h1 (fun y hy => hk y (.inl (by simp [hy]))), hm w' x' hr' (fun y hy => hk y (by rcases hy with hy | hy; exact .inl (by simp [hy]); exact .inr hy))⟩⟩
   have e : (i + 1) * L.n + j = c1.length + (i * L.n + j) := by rw [Nat.add_mul, Nat.one_mul, hl]; omega
   rw [e, List.getElem?_append_right (by omega), Nat.add_sub_cancel_left, hc j hj]
theorem Lay.sl_mod {α : Type} (L : Lay α) {w : World} {a : Option Addr} {len cap : Nat} {xs : List α} {fp : List Nat} (h : L.sl w a len cap xs fp) (nd : fp.Nodup) {i : Nat} (hi : i < len) :
  ∃ x b off c f, xs[i]? = some x ∧ a = some ⟨b, off, none⟩ ∧ b ∈ fp ∧ (∀ j, j < L.n → w.cell? ⟨b, off + i * L.n + j, none⟩ = c[j]?) ∧ L.rep w c x f ∧ (∀ y ∈ f, y ∈ fp) ∧ f.Nodup ∧
   ∀ w' x', L.rep w' c x' f → (∀ y ∈ fp, y ∉ f → w'.heap[y]? = w.heap[y]?) → L.sl w' a len cap (xs.set i x') fp := by
 obtain ⟨h1, h2, h3, h4, ⟨rfl, rfl⟩ | ⟨b, off, cur, E, fr, fps, ha, hb, hall, rfl⟩⟩ := h
 ·simp at h1; omega
 ·have hx : xs[i]? = some (xs[i]'(by omega)) := List.getElem?_eq_getElem _
  obtain ⟨c, f, f1, f2, rfl, hc, hr, hm⟩ := L.all_mod hall hx
  have nd1 := List.nodup_cons.1 nd
  have nd2 := List.nodup_append.1 nd1.2
  have nd3 := List.nodup_append.1 nd2.1
  refine ⟨_, b, off, c, f, hx, ha, by simp, fun j hj => ?_, hr, fun y hy => by simp [hy], nd3.2.1, fun w' x' hr' hk => ⟨by simpa using h1, h2, h3, h4, .inr ⟨b, off, cur, E, fr, _, ha, ?_, hm w' x' hr' ?_, rfl⟩⟩⟩
  ·rw [cell_of_row w b _ cur E fr hb, ← hc j hj, List.getElem?_take_of_lt, List.getElem?_drop]
   ·simp [Nat.add_assoc]
   ·calc i * L.n + j < i * L.n + L.n := by omega
     _ = (i + 1) * L.n := by rw [Nat.add_mul, Nat.one_mul]
     _ ≤ len * L.n := Nat.mul_le_mul_right _ (by omega)
  ·rw [hk b (by simp) (fun hbf => nd1.1 (by simp [hbf]))]; exact hb
  ·intro y hy
   refine hk y (by rcases hy with hy | hy <;> simp [hy]) (fun hyf => ?_)
   rcases hy with hy | hy
   ·exact nd3.2.2 y hy y hyf rfl
   ·exact nd2.2.2 y (by simp [hyf]) y hy rfl
theorem Lay.all_put {α : Type} (L : Lay α) (hn : L.n = 1) {w w' : World} {v : Value} {x' : α} {f' : List Nat} : ∀ {xs : List α} {i : Nat} {cs : List Value} {fps : List Nat}, L.all w cs xs fps → i < xs.length → L.rep w' [v] x' f' →
  (∀ y ∈ fps, w'.heap[y]? = w.heap[y]?) → ∃ fps', L.all w' (cs.set i v) (xs.set i x') fps' ∧ (∀ y ∈ fps', y ∈ fps ∨ y ∈ f') ∧ (fps.Nodup → f'.Nodup → (∀ y ∈ f', y ∉ fps) → fps'.Nodup) := by
 intro xs
 induction xs with
 | nil => intro i cs fps _ hi; simp at hi
 | cons y ys ih =>
  intro i cs fps h hi hr hk
  obtain ⟨c1, c2, f1, f2, rfl, rfl, h1, h2⟩ := h
  have hl := L.len h1
  rw [hn] at hl
  cases i with
  | zero =>
   refine ⟨f' ++ f2, ⟨[v], c2, f', f2, ?_, rfl, hr, L.all_keep h2 (fun y hy => hk y (by simp [hy]))⟩, fun y hy => ?_, fun n1 n2 n3 => ?_⟩
   ·match c1, hl with | [u], _ => rfl
   ·rcases List.mem_append.1 hy with hy | hy
    ·exact .inr hy
    ·exact .inl (by simp [hy])
   ·exact List.nodup_append.2 ⟨n2, (List.nodup_append.1 n1).2.1, fun a ha b hb e => n3 a ha (by subst e; simp [hb])⟩
  | succ i =>
   obtain ⟨g, hg, hm, hnd⟩ := ih h2 (by simpa using hi) hr (fun y hy => hk y (by simp [hy]))
   refine ⟨f1 ++ g, ⟨c1, c2.set i v, f1, g, ?_, rfl, L.keep h1 (fun y hy => hk y (by simp [hy])), hg⟩, fun y hy => ?_, fun n1 n2 n3 => ?_⟩
   ·rw [List.set_append_right _ _ (by omega), hl, Nat.add_sub_cancel]
   ·rcases List.mem_append.1 hy with hy | hy
    ·exact .inl (by simp [hy])
    ·rcases hm y hy with h | h
     ·exact .inl (by simp [h])
     ·exact .inr h
   ·have n4 := List.nodup_append.1 n1
    refine List.nodup_append.2 ⟨n4.1, hnd n4.2.1 n2 (fun y hy hy' => n3 y hy (by simp [hy'])), fun a ha b hb e => ?_⟩
    subst e
    rcases hm a hb with h | h
    ·exact n4.2.2 a ha a h rfl
    ·exact n3 a h (by simp [ha])
theorem Lay.sl_put {α : Type} (L : Lay α) (hn : L.n = 1) {w : World} {b off len cap : Nat} {xs : List α} {fp : List Nat} (h : L.sl w (some ⟨b, off, none⟩) len cap xs fp) (nd : fp.Nodup) {i : Nat} (hi : i < len) {v : Value} {x' : α} {f' : List Nat}
  (hr : L.rep w [v] x' f') (hd : ∀ y ∈ f', y ∉ fp) (nf : f'.Nodup) :
  ∃ fp', L.sl (w.setCell ⟨b, off + i, none⟩ v) (some ⟨b, off, none⟩) len cap (xs.set i x') fp' ∧ (∀ y ∈ fp', y ∈ fp ∨ y ∈ f') ∧ fp'.Nodup := by
 obtain ⟨h1, h2, h3, h4, ⟨rfl, rfl⟩ | ⟨b', off', cur, E, fr, fps, ha, hb, hall, rfl⟩⟩ := h
 ·simp at h1; omega
 ·simp only [Option.some.injEq, Addr.mk.injEq, and_true] at ha
  obtain ⟨rfl, rfl⟩ := ha
  have hbf : b ∉ fps := (List.nodup_cons.1 nd).1
  have hk : ∀ y, y ≠ b → (w.setCell ⟨b, off + i, none⟩ v).heap[y]? = w.heap[y]? := fun y hy => Below.heap_setCell _ _ _ _ hy
  have hbf' : b ∉ f' := fun hb' => hd b hb' (by simp)
  obtain ⟨g, hg, hm, hnd⟩ := L.all_put hn hall (i := i) (by omega) (L.keep hr (fun y hy => hk y (fun e => hbf' (e ▸ hy)))) (fun y hy => hk y (fun e => hbf (e ▸ hy)))
  have hne : b ∉ g := fun hb' => by rcases hm b hb' with h | h; exact hbf h; exact hbf' h
  refine ⟨b :: g, ⟨by simpa using h1, h2, h3, h4, .inr ⟨b, off, _, E, fr, g, rfl, q2q hb, ?_, rfl⟩⟩, fun y hy => ?_, List.nodup_cons.2 ⟨hne, hnd (List.nodup_cons.1 nd).2 nf (fun y hy hy' => hd y hy (by simp [hy']))⟩⟩
  ·have e : (((cur.setIfInBounds (off + i) v).toList.drop off).take (len * L.n)) = ((cur.toList.drop off).take (len * L.n)).set i v := by
    rw [Array.toList_setIfInBounds, List.drop_set, if_neg (by omega), List.take_set]
    congr 1
    omega
   rw [e]
   exact hg
  ·rcases List.mem_cons.1 hy with rfl | hy
   ·exact .inl (by simp)
   ·rcases hm y hy with h | h
    ·exact .inl (by simp [h])
    ·exact .inr h
theorem q7r {α : Type} {M : Lay α} {w : World} {a : Option Addr} {len cap : Nat} {xs : List (List α)} {fp : List Nat} (h : M.slice.sl w a len cap xs fp) {i : Nat} (hi : i < len) :
  ∃ x b off A l C f, Hid (xs[i]? = some x ∧ b ∈ fp ∧ (∀ y ∈ f, y ∈ fp)) ∧ a = some ⟨b, off, none⟩ ∧ w.cell? ⟨b, off + i, none⟩ = some (.slice A l C) ∧ Hid (M.sl w A l C x f) := by
 obtain ⟨x, b, off, c, f, hx, ha, hb, hc, ⟨A, l, C, rfl, hs⟩, hf⟩ := M.slice.sl_at h hi
 have := hc 0 M.slice.pos
 rw [show off + i * M.slice.n + 0 = off + i by simp [Lay.slice]] at this
 exact ⟨x, b, off, A, l, C, f, ⟨hx, hb, hf⟩, ha, this, hs⟩
theorem copyL_next {α : Type} {xs : List (List α)} {k n : Nat} {x : List α} (hx : xs[k]? = some x) (hn : n = xs.length) : (xs.take k ++ List.replicate (n - k) []).set k x = xs.take (k + 1) ++ List.replicate (n - (k + 1)) [] := by
 have hk := (List.getElem?_eq_some_iff.1 hx).1
 have hl : (xs.take k).length = k := by rw [List.length_take]; omega
 rw [List.set_append_right _ _ (by omega), hl, Nat.sub_self, q1d hx, show n - k = (n - (k + 1)) + 1 by omega, List.replicate_succ, List.set_cons_zero]
 simp
theorem slc_zrow {α : Type} (M : Lay α) (w : World) (E : TypeId) (len : Nat) (h63 : len ≤ 9223372036854775807) :
  M.slice.sl (w.alloc (.cells (zrow (.slice none 0 0) len) E)) (some ⟨w.heap.size, 0, none⟩) len len (List.replicate len []) [w.heap.size] := by
 have := M.slice.sl_zrow (z := .slice none 0 0) (x0 := []) w E len h63 ⟨none, 0, 0, rfl, rfl, Nat.le_refl _, by simp [maxLen], fun _ => rfl, .inl ⟨rfl, rfl⟩⟩
 simpa [Lay.slice] using this
/-! ### how much is in them -/
theorem szB_any (a : Option Addr) (la ca : Nat) (k : Int) (w : World) (hm : la ≤ 9223372036854775807) (hk : 0 ≤ k) (hk2 : k ≤ 1048576) :
  Calls Tryz.prog 288 #[.slice a la ca, .int .i64 k] w fun e w' => e = .returned (.int .i64 (if k - la < 0 then -1 else k - la)) ∧ w = w' := by
 by_cases h : k - la < 0
 ·have HI := hid (show (if k - (la : Int) < 0 then -1 else k - (la : Int)) = -1 from if_pos h)
  go_enter Tryz.func288, Tryz.ntmps288
  go_wp2
  go_ret
  exact ⟨q0e (by first | rfl | rw [HI.out]), rfl⟩
 ·have HI := hid (show (if k - (la : Int) < 0 then -1 else k - (la : Int)) = k - la from if_neg h)
  go_enter Tryz.func288, Tryz.ntmps288
  go_wp2
  go_ret
  exact ⟨q0e (by first | rfl | rw [HI.out]), rfl⟩
/-! ### a list of lists made anew, compared, marked -/
end Go.Proofs.YtphmpimgbmedbaaGreat
namespace Go.Proofs.YtphmpimgbmedbaaGreat
open Go.RowKit
open Go.Lib (hid)
def sumI {α : Type} (f : α → Int) : List α → Int
 | [] => 0
 | x :: xs => f x + sumI f xs
section
variable {α : Type} {f : α → Int}
theorem q0w (hf : ∀ x, 0 ≤ f x) : ∀ xs, 0 ≤ sumI f xs
 | [] => Int.le_refl _
 | x :: xs => by have := q0w hf xs; have := hf x; show 0 ≤ f x + sumI f xs; omega
theorem q7f (xs ys : List α) : sumI f (xs ++ ys) = sumI f xs + sumI f ys := by
 induction xs with
 | nil => simp [sumI]
 | cons x xs ih => simp [sumI, ih]; omega
theorem q3a {xs : List α} {i : Nat} {x : α} (h : xs[i]? = some x) : sumI f (xs.take (i + 1)) = sumI f (xs.take i) + f x := by
 rw [q1d h, q7f]; simp [sumI]
theorem sumI_take_le (hf : ∀ x, 0 ≤ f x) (xs : List α) (i : Nat) : sumI f (xs.take i) ≤ sumI f xs := by
 have := q7f (f := f) (xs.take i) (xs.drop i)
 rw [List.take_append_drop] at this
 have := q0w hf (xs.drop i)
 omega
theorem sumI_mem (hf : ∀ x, 0 ≤ f x) {xs : List α} {x : α} (h : x ∈ xs) : f x ≤ sumI f xs := by
 obtain ⟨a, b, rfl⟩ := List.append_of_mem h
 rw [q7f]
 have := q0w hf a; have := q0w hf b
 show f x ≤ sumI f a + (f x + sumI f b)
 omega
theorem q5l (hf : ∀ x, 0 ≤ f x) {xs : List α} {i : Nat} {x : α} (h : xs[i]? = some x) : sumI f (xs.take i) + f x ≤ sumI f xs := by
 rw [← q3a h]; exact sumI_take_le hf _ _
theorem q9p {g : α → Int} (h : ∀ x, f x ≤ g x) : ∀ xs, sumI f xs ≤ sumI g xs
 | [] => Int.le_refl _
 | x :: xs => by have := q9p h xs; have := h x; show f x + sumI f xs ≤ g x + sumI g xs; omega
theorem q7q {g : α → Int} : ∀ xs, sumI (fun x => f x + g x) xs = sumI f xs + sumI g xs
 | [] => rfl
 | x :: xs => by have := q7q (g := g) xs; show f x + g x + sumI _ xs = f x + sumI f xs + (g x + sumI g xs); omega
theorem q5m (c : Int) : ∀ xs : List α, sumI (fun _ => c) xs = c * xs.length
 | [] => by simp [sumI]
 | x :: xs => by have := q5m c xs; show c + sumI _ xs = c * ((xs.length + 1 : Nat) : Int); rw [this, Int.natCast_add, Int.mul_add]; omega
theorem sumI_mul (c : Int) : ∀ xs : List α, sumI (fun x => c * f x) xs = c * sumI f xs
 | [] => by simp [sumI]
 | x :: xs => by have := sumI_mul c xs; show c * f x + sumI _ xs = c * (f x + sumI f xs); rw [this, Int.mul_add]
def totL (f : α → Int) (xs : List α) : Int := xs.length + sumI f xs
theorem q0v (hf : ∀ x, 0 ≤ f x) (xs : List α) : 0 ≤ totL f xs := by have := q0w hf xs; unfold totL; omega
theorem q7m (hf : ∀ x, 0 ≤ f x) {xs : List α} {x : α} (h : x ∈ xs) : f x ≤ totL f xs := by have := sumI_mem hf h; unfold totL; omega
theorem q7n (hf : ∀ x, 0 ≤ f x) (xs : List α) : (xs.length : Int) ≤ totL f xs := by have := q0w hf xs; unfold totL; omega
end
/-! ### how much there is -/
def q3t (xs : List UInt8) : Int := xs.length
def q3x (xs : List Int) : Int := xs.length
def q2u (x : Blk) : Int := q3t x.bytes
def q1p (x : Drv) : Int := totL q2u x.blocks
def q2m (x : Rec) : Int := (x.name.size : Int) + q3x x.rows + q3t x.data + q3t x.delta
def q2n (x : Tap) : Int := totL q2m x.recs
def q4p (x : Wld) : Int := totL (totL q1p) x.groups + q3x x.on + totL q2n x.tapes
theorem q1g (x : List UInt8) : 0 ≤ q3t x := Int.natCast_nonneg _
theorem q1v (x : List Int) : 0 ≤ q3x x := Int.natCast_nonneg _
theorem q2s (x : Blk) : 0 ≤ q2u x := q1g _
theorem q1h (x : Drv) : 0 ≤ q1p x := q0v q2s _
theorem q2l (x : Rec) : 0 ≤ q2m x := by have := q1v x.rows; have := q1g x.data; have := q1g x.delta; unfold q2m; omega
theorem q1y (x : Tap) : 0 ≤ q2n x := q0v q2l _
theorem z1l (x : Wld) : 0 ≤ q4p x := by have := q0v (q0v q1h) x.groups; have := q1v x.on; have := q0v q1y x.tapes; unfold q4p; omega
/-! ### marks -/
section
variable {α : Type} {cnt : α → Int} {mk : Int → α → α}
def q2h (cnt : α → Int) (mk : Int → α → α) : List α → Int → List α
 | [], _ => []
 | x :: xs, k => mk k x :: q2h cnt mk xs (k + cnt x)
theorem q5h : ∀ (xs : List α) (k : Int), (q2h cnt mk xs k).length = xs.length
 | [], _ => rfl
 | x :: xs, k => by simp [q2h, q5h xs]
theorem markL_append (xs ys : List α) : ∀ k, q2h cnt mk (xs ++ ys) k = q2h cnt mk xs k ++ q2h cnt mk ys (k + sumI cnt xs) := by
 induction xs with
 | nil => intro k; simp [q2h, sumI]
 | cons x xs ih => intro k; simp [q2h, sumI, ih, Int.add_assoc]
theorem q5r {xs : List α} {i : Nat} {x : α} (k : Int) (h : xs[i]? = some x) :
  (q2h cnt mk (xs.take i) k ++ xs.drop i).set i (mk (k + sumI cnt (xs.take i)) x) = q2h cnt mk (xs.take (i + 1)) k ++ xs.drop (i + 1) := by
 have hi := (List.getElem?_eq_some_iff.1 h).1
 have hl : (q2h cnt mk (xs.take i) k).length = i := by rw [q5h, List.length_take]; omega
 rw [List.set_append_right _ _ (by omega), hl, Nat.sub_self, List.drop_eq_getElem_cons hi, List.set_cons_zero, q1d h, markL_append]
 have e : xs[i] = x := (List.getElem?_eq_some_iff.1 h).2
 simp [q2h]
theorem q6n {xs : List α} {i : Nat} {x : α} {k : Int} (h : (q2h cnt mk (xs.take i) k ++ xs.drop i)[i]? = some x) : xs[i]? = some x := by
 have hi : i < xs.length := by
  have := (List.getElem?_eq_some_iff.1 h).1
  rw [List.length_append, q5h, List.length_take, List.length_drop] at this
  omega
 have hl : (q2h cnt mk (xs.take i) k).length = i := by rw [q5h, List.length_take]; omega
 rw [List.getElem?_append_right (by omega), hl, List.getElem?_drop] at h
 simpa using h
end
def q4e : Nat → Nat → ByteArray → ByteArray
 | 0, _, out => out
 | n + 1, k, out => if k = 0 then out else q4e n (k / 10) (ByteArray.mk #[(UInt8.ofNat (48 + k % 10))] ++ out)
def q3j (x : Blk) : Int := 1 + q3t x.bytes
def q3i (x : Drv) : Int := 1 + sumI q3j x.blocks
def q3f (xs : List Drv) : Int := sumI q3i xs
def q2r (x : Rec) : Int := 6 + q3x x.rows + q3t x.data + q3t x.delta
def q3s (x : Tap) : Int := 1 + sumI q2r x.recs
theorem q4u (x : Blk) : 0 ≤ q3j x := by have := q1g x.bytes; unfold q3j; omega
theorem q6a (x : Drv) : 0 ≤ q3i x := by have := q0w q4u x.blocks; unfold q3i; omega
theorem q4k (x : List Drv) : 0 ≤ q3f x := q0w q6a x
theorem q4t (x : Rec) : 0 ≤ q2r x := by have := q1v x.rows; have := q1g x.data; have := q1g x.delta; unfold q2r; omega
theorem q4s (x : Tap) : 0 ≤ q3s x := by have := q0w q4t x.recs; unfold q3s; omega
def q7d (x : Wld) : Int := sumI q3f x.groups + q3x x.on + sumI q3s x.tapes
theorem z2r (x : Wld) : 0 ≤ q7d x := by have := q0w q4k x.groups; have := q1v x.on; have := q0w q4s x.tapes; unfold q7d; omega
theorem sum_cntBlk (xs : List Blk) : sumI q3j xs = totL q2u xs := by
 have h := q7q (f := fun _ : Blk => 1) (g := q2u) xs
 have h2 := q5m (α := Blk) 1 xs
 unfold totL
 show sumI (fun x => 1 + q2u x) xs = _
 omega
theorem cntDrv_eq (x : Drv) : q3i x = 1 + q1p x := by unfold q3i q1p; rw [sum_cntBlk]
theorem sum_cntDrv (xs : List Drv) : sumI q3i xs = totL q1p xs := by
 have h := q7q (f := fun _ : Drv => 1) (g := q1p) xs
 have h2 := q5m (α := Drv) 1 xs
 have h3 : sumI q3i xs = sumI (fun x => 1 + q1p x) xs := by congr 1; funext x; exact cntDrv_eq x
 unfold totL
 omega
theorem sum_cntDrvs (xs : List (List Drv)) : sumI q3f xs ≤ totL (totL q1p) xs := by
 have h3 : sumI q3f xs = sumI (totL q1p) xs := by congr 1; funext x; exact sum_cntDrv x
 unfold totL at h3 ⊢
 omega
theorem sum_cntRec (xs : List Rec) : sumI q2r xs ≤ 6 * totL q2m xs := by
 have h := q7q (f := fun _ : Rec => 6) (g := q2m) xs
 have h2 := q5m (α := Rec) 6 xs
 have h3 : sumI q2r xs ≤ sumI (fun x => 6 + q2m x) xs := q9p (fun x => by unfold q2r q2m; omega) xs
 have h4 := q0w q2l xs
 unfold totL
 omega
theorem sum_cntTap (xs : List Tap) : sumI q3s xs ≤ 6 * totL q2n xs := by
 have h := q7q (f := fun _ : Tap => 1) (g := fun x => 6 * q2n x) xs
 have h2 := q5m (α := Tap) 1 xs
 have h3 : sumI q3s xs ≤ sumI (fun x => 1 + 6 * q2n x) xs := q9p (fun x => by have := sum_cntRec x.recs; unfold q3s q2n; omega) xs
 have h5 := sumI_mul (f := q2n) 6 xs
 unfold totL
 omega
theorem cntWld_le (x : Wld) : q7d x ≤ 6 * q4p x := by
 have := sum_cntDrvs x.groups; have := sum_cntTap x.tapes; have := q0v (q0v q1h) x.groups
 have := q1v x.on
 unfold q7d q4p; omega
def mtext (k : Int) : ByteArray := if k ≤ 0 then ByteArray.mk #[109, 48] else ByteArray.mk #[109] ++ q4e 20 k.toNat (ByteArray.mk #[])
def z2a (k : Int) (x : Blk) : Blk := ⟨k, q4a (k + 1) x.bytes.length⟩
def mkDrv (k : Int) (x : Drv) : Drv := ⟨k % 3 == 0, q2h q3j z2a x.blocks (k + 1)⟩
def mkDrvs (k : Int) (xs : List Drv) : List Drv := q2h q3i mkDrv xs k
def q8l (k : Int) (x : Rec) : Rec := ⟨k, k + 1, mtext (k + 2), k + 3, k + 4, k + 5, q3h (k + 6) x.rows.length, q4a (k + 6 + q3x x.rows) x.data.length, q4a (k + 6 + q3x x.rows + q3t x.data) x.delta.length⟩
def mkTap (k : Int) (x : Tap) : Tap := ⟨k % 3 == 0, q2h q2r q8l x.recs (k + 1)⟩
def mvWld (k : Int) (x : Wld) : Wld := ⟨x.shape, q2h q3f mkDrvs x.groups k, q3h (k + sumI q3f x.groups) x.on.length, q2h q3s mkTap x.tapes (k + sumI q3f x.groups + q3x x.on), x.writes, x.stop, x.down⟩
end Go.Proofs.YtphmpimgbmedbaaGreat
namespace Go.Proofs.YtphmpimgbmedbaaGreat
open Go.RowKit
open Go.Lib (hid)
theorem q0f {w : World} {b o : Nat} {v : Value} {cur cur' : Array Value} {E : TypeId} {fr : Nat × Nat} (hb : w.heap[b]? = some (.cells cur E fr)) (h : cur.setIfInBounds o v = cur') :
  (w.setCell ⟨b, o, none⟩ v).heap[b]? = some (.cells cur' E fr) := by subst h; exact q2q hb
theorem q0r.nots {B : Nat} {w : World} {f : List Nat} (h : q0r B w f) (S : List Nat) (hS : ∀ b ∈ S, b < B) : ∀ b ∈ f, b ∉ S := fun b hb hm => Nat.lt_irrefl _ (Nat.lt_of_lt_of_le (hS b hm) (h.2 b hb).1)
def q6i (t k : Int) (w : World) (e : Ending) (w' : World) : Prop := e = .returned (.int .i64 (if k - t < 0 then -1 else k - t)) ∧ Chg [] w w'
theorem q7e (a : Option Addr) (la ca : Nat) (xs : List UInt8) (f : List Nat) (k : Int) (w : World) (ha : q0q.sl w a la ca xs f) (hk : 0 ≤ k) (hk2 : k ≤ 1048576) :
  Calls Tryz.prog 288 #[.slice a la ca, .int .i64 k] w (q6i (q3t xs) k w) := by
 refine (szB_any a la ca k w (q0q.sl_max ha) hk hk2).mono ?_
 rintro e w' ⟨rfl, rfl⟩
 exact ⟨by unfold q3t; rw [← ha.1], Chg.refl _ _⟩
theorem q8s (a : Option Addr) (la ca : Nat) (xs : List Int) (f : List Nat) (k : Int) (w : World) (ha : intL.sl w a la ca xs f) (hk : 0 ≤ k) (hk2 : k ≤ 1048576) :
  Calls Tryz.prog 67 #[.slice a la ca, .int .i64 k] w (q6i (q3x xs) k w) := by
 have hm := intL.sl_max ha
 have HA := hid ha.1
 clear ha
 by_cases h : k - la < 0
 ·go_enter Tryz.func67, Tryz.ntmps67
  go_wp2
  go_ret
  exact ⟨q0e (by unfold q3x; rw [← HA.out, if_pos h]), Chg.refl _ _⟩
 ·go_enter Tryz.func67, Tryz.ntmps67
  go_wp2
  go_ret
  exact ⟨q0e (by unfold q3x; rw [← HA.out, if_neg (by omega)]), Chg.refl _ _⟩
theorem toRec_any (x : Rec) (cx : Array Value) (fx : List Nat) (w : World) (hx : recL.rep w cx.toList x fx) (hz : q2m x ≤ 1048576) :
  Calls Tryz.prog 266 #[.agg cx] w (q6q recL x w) := by
 obtain ⟨a6, l6, c6, f6, a7, l7, c7, f7, a8, l8, c8, f8, ex, o0, o1, o2, o3, o4, o5, h6, h7, h8, -⟩ := q0m.1 hx
 clear hx
 obtain ⟨v0, v1, v2, v3, v4, v5, v6, v7, v8⟩ := x
 simp only at ex o0 o1 o2 o3 o4 o5 h6 h7 h8
 obtain rfl := Array.toList_inj.1 (ex.trans (List.toList_toArray).symm)
 clear ex
 have HO := hid (And.intro o0 (And.intro o1 (And.intro o2 (And.intro o3 (And.intro o4 o5)))))
 have z6 : l6 ≤ 1048576 := by have q1 := q1v v6; have q2 := q1g v7; have q3 := q1g v8; unfold q2m at hz; unfold q3x at hz q1; unfold q3t at hz q2 q3; simp only at hz; rw [h6.1]; omega
 have H6 := hid h6; have HL6 := hid (show v6.length = l6 from h6.1.symm); clear h6
 have z7 : l7 ≤ 1048576 := by have q1 := q1v v6; have q2 := q1g v7; have q3 := q1g v8; unfold q2m at hz; unfold q3x at hz q1; unfold q3t at hz q2 q3; simp only at hz; rw [h7.1]; omega
 have H7 := hid h7; have HL7 := hid (show v7.length = l7 from h7.1.symm); clear h7
 have z8 : l8 ≤ 1048576 := by have q1 := q1v v6; have q2 := q1g v7; have q3 := q1g v8; unfold q2m at hz; unfold q3x at hz q1; unfold q3t at hz q2 q3; simp only at hz; rw [h8.1]; omega
 have H8 := hid h8; have HL8 := hid (show v8.length = l8 from h8.1.symm); clear h8
 clear hz o0 o1 o2 o3 o4 o5
 go_enter Tryz.func266, Tryz.ntmps266
 go_wp2_with fail
 refine (toI_any a6 l6 c6 v6 f6 _ (intL.sl_ext H6.out (by refine Chg.alloc ?_ _; refine Chg.alloc ?_ _; refine Chg.alloc ?_ _; exact Chg.refl _ _)) z6).mono ?_
 rintro e w1 ⟨b6, d6, g6, rfl, hs, hf, hc⟩
 rw [HL6.out] at hs ⊢
 have HS6 := hid hs; clear hs
 have hP := hc.keep0 (b := w.heap.size) (q0b (q0b (q0d (by simp) _) _) _)
 have hQ := hc.keep0 (b := w.heap.size + 1) (q0b (q0d (by simp) _) _)
 have hR := hc.keep0 (b := w.heap.size + 1 + 1) (q0d (by simp) _)
 have HD6 := hid (q0r.nots hf [w.heap.size, w.heap.size + 1, w.heap.size + 1 + 1] (by intro b hb; simp only [List.mem_cons, List.not_mem_nil, or_false] at hb; rcases hb with rfl | rfl | rfl <;> simp <;> omega)); have HF6 := hid hf; clear hf
 have cP := cellsOf hP; have lP := ltOf hP; have fP := q0l hP; have HBP := hid hP; clear hP
 have cQ := cellsOf hQ; have lQ := ltOf hQ; have fQ := q0l hQ; have HBQ := hid hQ; clear hQ
 have cR := cellsOf hR; have lR := ltOf hR; have fR := q0l hR; have HBR := hid hR; clear hR
 have HC1 := hid hc; clear hc
 go_wp2_with fail
 refine (toB_any a7 l7 c7 v7 f7 _ (q0q.sl_ext H7.out (by refine Chg.setCell ?_ _ _ (.inr (by simp <;> omega)); refine Chg.trans0 ?_ HC1.out; refine Chg.alloc ?_ _; refine Chg.alloc ?_ _; refine Chg.alloc ?_ _; exact Chg.refl _ _)) z7).mono ?_
 rintro e w2 ⟨b7, d7, g7, rfl, hs, hf, hc⟩
 rw [HL7.out] at hs ⊢
 have HS7 := hid hs; clear hs
 have hP := hc.keep0 (q0p HBP.out _ _ (show w.heap.size ≠ w.heap.size + 1 + 1 by omega))
 have hQ := hc.keep0 (q0p HBQ.out _ _ (show w.heap.size + 1 ≠ w.heap.size + 1 + 1 by omega))
 have hR := hc.keep0 (b := w.heap.size + 1 + 1) (o := .cells #[.int .i64 v0, .int .i64 v1, .string v2, .int .i64 v3, .int .i64 v4, .int .i64 v5, .slice b6 l6 d6, .slice none 0 0, .slice none 0 0] 67) (by refine q0f (cur := #[.int .i64 v0, .int .i64 v1, .string v2, .int .i64 v3, .int .i64 v4, .int .i64 v5, .slice none 0 0, .slice none 0 0, .slice none 0 0]) ?_ rfl; exact HBR.out)
 have HD7 := hid (q0r.nots hf [w.heap.size, w.heap.size + 1, w.heap.size + 1 + 1] (by intro b hb; simp only [List.mem_cons, List.not_mem_nil, or_false] at hb; rcases hb with rfl | rfl | rfl <;> simp <;> omega)); have HF7 := hid hf; clear hf
 clear HBP cP lP fP HBQ cQ lQ fQ HBR cR lR fR
 have cP := cellsOf hP; have lP := ltOf hP; have fP := q0l hP; have HBP := hid hP; clear hP
 have cQ := cellsOf hQ; have lQ := ltOf hQ; have fQ := q0l hQ; have HBQ := hid hQ; clear hQ
 have cR := cellsOf hR; have lR := ltOf hR; have fR := q0l hR; have HBR := hid hR; clear hR
 have HC2 := hid hc; clear hc
 go_wp2_with fail
 refine (toB_any a8 l8 c8 v8 f8 _ (q0q.sl_ext H8.out (by refine Chg.setCell ?_ _ _ (.inr (by simp <;> omega)); refine Chg.trans0 ?_ HC2.out; refine Chg.setCell ?_ _ _ (.inr (by simp <;> omega)); refine Chg.trans0 ?_ HC1.out; refine Chg.alloc ?_ _; refine Chg.alloc ?_ _; refine Chg.alloc ?_ _; exact Chg.refl _ _)) z8).mono ?_
 rintro e w3 ⟨b8, d8, g8, rfl, hs, hf, hc⟩
 rw [HL8.out] at hs ⊢
 have HS8 := hid hs; clear hs
 have hP := hc.keep0 (q0p HBP.out _ _ (show w.heap.size ≠ w.heap.size + 1 + 1 by omega))
 have hQ := hc.keep0 (q0p HBQ.out _ _ (show w.heap.size + 1 ≠ w.heap.size + 1 + 1 by omega))
 have hR := hc.keep0 (b := w.heap.size + 1 + 1) (o := .cells #[.int .i64 v0, .int .i64 v1, .string v2, .int .i64 v3, .int .i64 v4, .int .i64 v5, .slice b6 l6 d6, .slice b7 l7 d7, .slice none 0 0] 67) (by refine q0f (cur := #[.int .i64 v0, .int .i64 v1, .string v2, .int .i64 v3, .int .i64 v4, .int .i64 v5, .slice b6 l6 d6, .slice none 0 0, .slice none 0 0]) ?_ rfl; exact HBR.out)
 have HD8 := hid (q0r.nots hf [w.heap.size, w.heap.size + 1, w.heap.size + 1 + 1] (by intro b hb; simp only [List.mem_cons, List.not_mem_nil, or_false] at hb; rcases hb with rfl | rfl | rfl <;> simp <;> omega)); have HF8 := hid hf; clear hf
 clear HBP cP lP fP HBQ cQ lQ fQ HBR cR lR fR
 have cP := cellsOf hP; have lP := ltOf hP; have fP := q0l hP; have HBP := hid hP; clear hP
 have cQ := cellsOf hQ; have lQ := ltOf hQ; have fQ := q0l hQ; have HBQ := hid hQ; clear hQ
 have cR := cellsOf hR; have lR := ltOf hR; have fR := q0l hR; have HBR := hid hR; clear hR
 have HC3 := hid hc; clear hc
 go_wp2_with fail
 have hq : (((((((((((w3.setCell ⟨w.heap.size + 1 + 1, 8, none⟩ (.slice b8 l8 d8)).setCell ⟨w.heap.size + 1, 0, none⟩ (.int .i64 v0)).setCell ⟨w.heap.size + 1, 1, none⟩ (.int .i64 v1)).setCell ⟨w.heap.size + 1, 2, none⟩ (.string v2)).setCell ⟨w.heap.size + 1, 3, none⟩ (.int .i64 v3)).setCell ⟨w.heap.size + 1, 4, none⟩ (.int .i64 v4)).setCell ⟨w.heap.size + 1, 5, none⟩ (.int .i64 v5)).setCell ⟨w.heap.size + 1, 6, none⟩ (.slice b6 l6 d6)).setCell ⟨w.heap.size + 1, 7, none⟩ (.slice b7 l7 d7)).setCell ⟨w.heap.size + 1, 8, none⟩ (.slice b8 l8 d8))).heap[w.heap.size + 1]? = some (.cells #[.int .i64 v0, .int .i64 v1, .string v2, .int .i64 v3, .int .i64 v4, .int .i64 v5, .slice b6 l6 d6, .slice b7 l7 d7, .slice b8 l8 d8] 67) := (by refine q0f (cur := #[.int .i64 v0, .int .i64 v1, .string v2, .int .i64 v3, .int .i64 v4, .int .i64 v5, .slice b6 l6 d6, .slice b7 l7 d7, .slice none 0 0]) ?_ rfl; refine q0f (cur := #[.int .i64 v0, .int .i64 v1, .string v2, .int .i64 v3, .int .i64 v4, .int .i64 v5, .slice b6 l6 d6, .slice none 0 0, .slice none 0 0]) ?_ rfl; refine q0f (cur := #[.int .i64 v0, .int .i64 v1, .string v2, .int .i64 v3, .int .i64 v4, .int .i64 v5, .slice none 0 0, .slice none 0 0, .slice none 0 0]) ?_ rfl; refine q0f (cur := #[.int .i64 v0, .int .i64 v1, .string v2, .int .i64 v3, .int .i64 v4, .int .i64 0, .slice none 0 0, .slice none 0 0, .slice none 0 0]) ?_ rfl; refine q0f (cur := #[.int .i64 v0, .int .i64 v1, .string v2, .int .i64 v3, .int .i64 0, .int .i64 0, .slice none 0 0, .slice none 0 0, .slice none 0 0]) ?_ rfl; refine q0f (cur := #[.int .i64 v0, .int .i64 v1, .string v2, .int .i64 0, .int .i64 0, .int .i64 0, .slice none 0 0, .slice none 0 0, .slice none 0 0]) ?_ rfl; refine q0f (cur := #[.int .i64 v0, .int .i64 v1, .string ⟨#[]⟩, .int .i64 0, .int .i64 0, .int .i64 0, .slice none 0 0, .slice none 0 0, .slice none 0 0]) ?_ rfl; refine q0f (cur := #[.int .i64 v0, .int .i64 0, .string ⟨#[]⟩, .int .i64 0, .int .i64 0, .int .i64 0, .slice none 0 0, .slice none 0 0, .slice none 0 0]) ?_ rfl; refine q0f (cur := #[.int .i64 0, .int .i64 0, .string ⟨#[]⟩, .int .i64 0, .int .i64 0, .int .i64 0, .slice none 0 0, .slice none 0 0, .slice none 0 0]) ?_ rfl; refine q0p ?_ _ _ (show w.heap.size + 1 ≠ w.heap.size + 1 + 1 by omega); exact HBQ.out)
 have hqc := cellsOf hq
 have hch : Chg [] w ((((((((((w3.setCell ⟨w.heap.size + 1 + 1, 8, none⟩ (.slice b8 l8 d8)).setCell ⟨w.heap.size + 1, 0, none⟩ (.int .i64 v0)).setCell ⟨w.heap.size + 1, 1, none⟩ (.int .i64 v1)).setCell ⟨w.heap.size + 1, 2, none⟩ (.string v2)).setCell ⟨w.heap.size + 1, 3, none⟩ (.int .i64 v3)).setCell ⟨w.heap.size + 1, 4, none⟩ (.int .i64 v4)).setCell ⟨w.heap.size + 1, 5, none⟩ (.int .i64 v5)).setCell ⟨w.heap.size + 1, 6, none⟩ (.slice b6 l6 d6)).setCell ⟨w.heap.size + 1, 7, none⟩ (.slice b7 l7 d7)).setCell ⟨w.heap.size + 1, 8, none⟩ (.slice b8 l8 d8)) := by refine Chg.setCell ?_ _ _ (.inr (by simp <;> omega)); refine Chg.setCell ?_ _ _ (.inr (by simp <;> omega)); refine Chg.setCell ?_ _ _ (.inr (by simp <;> omega)); refine Chg.setCell ?_ _ _ (.inr (by simp <;> omega)); refine Chg.setCell ?_ _ _ (.inr (by simp <;> omega)); refine Chg.setCell ?_ _ _ (.inr (by simp <;> omega)); refine Chg.setCell ?_ _ _ (.inr (by simp <;> omega)); refine Chg.setCell ?_ _ _ (.inr (by simp <;> omega)); refine Chg.setCell ?_ _ _ (.inr (by simp <;> omega)); refine Chg.setCell ?_ _ _ (.inr (by simp <;> omega)); refine Chg.trans0 ?_ HC3.out; refine Chg.setCell ?_ _ _ (.inr (by simp <;> omega)); refine Chg.trans0 ?_ HC2.out; refine Chg.setCell ?_ _ _ (.inr (by simp <;> omega)); refine Chg.trans0 ?_ HC1.out; refine Chg.alloc ?_ _; refine Chg.alloc ?_ _; refine Chg.alloc ?_ _; exact Chg.refl _ _
 have k6 : Chg [w.heap.size, w.heap.size + 1, w.heap.size + 1 + 1] w1 ((((((((((w3.setCell ⟨w.heap.size + 1 + 1, 8, none⟩ (.slice b8 l8 d8)).setCell ⟨w.heap.size + 1, 0, none⟩ (.int .i64 v0)).setCell ⟨w.heap.size + 1, 1, none⟩ (.int .i64 v1)).setCell ⟨w.heap.size + 1, 2, none⟩ (.string v2)).setCell ⟨w.heap.size + 1, 3, none⟩ (.int .i64 v3)).setCell ⟨w.heap.size + 1, 4, none⟩ (.int .i64 v4)).setCell ⟨w.heap.size + 1, 5, none⟩ (.int .i64 v5)).setCell ⟨w.heap.size + 1, 6, none⟩ (.slice b6 l6 d6)).setCell ⟨w.heap.size + 1, 7, none⟩ (.slice b7 l7 d7)).setCell ⟨w.heap.size + 1, 8, none⟩ (.slice b8 l8 d8)) := by refine Chg.setCell ?_ _ _ (.inl (by simp)); refine Chg.setCell ?_ _ _ (.inl (by simp)); refine Chg.setCell ?_ _ _ (.inl (by simp)); refine Chg.setCell ?_ _ _ (.inl (by simp)); refine Chg.setCell ?_ _ _ (.inl (by simp)); refine Chg.setCell ?_ _ _ (.inl (by simp)); refine Chg.setCell ?_ _ _ (.inl (by simp)); refine Chg.setCell ?_ _ _ (.inl (by simp)); refine Chg.setCell ?_ _ _ (.inl (by simp)); refine Chg.setCell ?_ _ _ (.inl (by simp)); refine Chg.trans0 ?_ HC3.out; refine Chg.setCell ?_ _ _ (.inl (by simp)); refine Chg.trans0 ?_ HC2.out; refine Chg.setCell ?_ _ _ (.inl (by simp)); exact Chg.refl _ _
 have K6 := intL.sl_chg HS6.out k6 HD6.out
 have F6 := q0r.chg HF6.out k6
 have k7 : Chg [w.heap.size, w.heap.size + 1, w.heap.size + 1 + 1] w2 ((((((((((w3.setCell ⟨w.heap.size + 1 + 1, 8, none⟩ (.slice b8 l8 d8)).setCell ⟨w.heap.size + 1, 0, none⟩ (.int .i64 v0)).setCell ⟨w.heap.size + 1, 1, none⟩ (.int .i64 v1)).setCell ⟨w.heap.size + 1, 2, none⟩ (.string v2)).setCell ⟨w.heap.size + 1, 3, none⟩ (.int .i64 v3)).setCell ⟨w.heap.size + 1, 4, none⟩ (.int .i64 v4)).setCell ⟨w.heap.size + 1, 5, none⟩ (.int .i64 v5)).setCell ⟨w.heap.size + 1, 6, none⟩ (.slice b6 l6 d6)).setCell ⟨w.heap.size + 1, 7, none⟩ (.slice b7 l7 d7)).setCell ⟨w.heap.size + 1, 8, none⟩ (.slice b8 l8 d8)) := by refine Chg.setCell ?_ _ _ (.inl (by simp)); refine Chg.setCell ?_ _ _ (.inl (by simp)); refine Chg.setCell ?_ _ _ (.inl (by simp)); refine Chg.setCell ?_ _ _ (.inl (by simp)); refine Chg.setCell ?_ _ _ (.inl (by simp)); refine Chg.setCell ?_ _ _ (.inl (by simp)); refine Chg.setCell ?_ _ _ (.inl (by simp)); refine Chg.setCell ?_ _ _ (.inl (by simp)); refine Chg.setCell ?_ _ _ (.inl (by simp)); refine Chg.setCell ?_ _ _ (.inl (by simp)); refine Chg.trans0 ?_ HC3.out; refine Chg.setCell ?_ _ _ (.inl (by simp)); exact Chg.refl _ _
 have K7 := q0q.sl_chg HS7.out k7 HD7.out
 have F7 := q0r.chg HF7.out k7
 have k8 : Chg [w.heap.size, w.heap.size + 1, w.heap.size + 1 + 1] w3 ((((((((((w3.setCell ⟨w.heap.size + 1 + 1, 8, none⟩ (.slice b8 l8 d8)).setCell ⟨w.heap.size + 1, 0, none⟩ (.int .i64 v0)).setCell ⟨w.heap.size + 1, 1, none⟩ (.int .i64 v1)).setCell ⟨w.heap.size + 1, 2, none⟩ (.string v2)).setCell ⟨w.heap.size + 1, 3, none⟩ (.int .i64 v3)).setCell ⟨w.heap.size + 1, 4, none⟩ (.int .i64 v4)).setCell ⟨w.heap.size + 1, 5, none⟩ (.int .i64 v5)).setCell ⟨w.heap.size + 1, 6, none⟩ (.slice b6 l6 d6)).setCell ⟨w.heap.size + 1, 7, none⟩ (.slice b7 l7 d7)).setCell ⟨w.heap.size + 1, 8, none⟩ (.slice b8 l8 d8)) := by refine Chg.setCell ?_ _ _ (.inl (by simp)); refine Chg.setCell ?_ _ _ (.inl (by simp)); refine Chg.setCell ?_ _ _ (.inl (by simp)); refine Chg.setCell ?_ _ _ (.inl (by simp)); refine Chg.setCell ?_ _ _ (.inl (by simp)); refine Chg.setCell ?_ _ _ (.inl (by simp)); refine Chg.setCell ?_ _ _ (.inl (by simp)); refine Chg.setCell ?_ _ _ (.inl (by simp)); refine Chg.setCell ?_ _ _ (.inl (by simp)); refine Chg.setCell ?_ _ _ (.inl (by simp)); exact Chg.refl _ _
 have K8 := q0q.sl_chg HS8.out k8 HD8.out
 have F8 := q0r.chg HF8.out k8
 have hfr := q0r.mono (q0r.append F6 (q0r.append F7 F8 (q0r.low HF7.out (by have s1 := HC1.out.size; have s2 := HC2.out.size; have s3 := HC3.out.size; simp at s1 s2 s3 ⊢ <;> omega)) (by have s1 := HC1.out.size; have s2 := HC2.out.size; have s3 := HC3.out.size; simp at s1 s2 s3 ⊢ <;> omega)) (q0r.low HF6.out (by have s1 := HC1.out.size; have s2 := HC2.out.size; have s3 := HC3.out.size; simp at s1 s2 s3 ⊢ <;> omega)) (by have s1 := HC1.out.size; have s2 := HC2.out.size; have s3 := HC3.out.size; simp at s1 s2 s3 ⊢ <;> omega)) (show w.heap.size ≤ _ from (by have s1 := HC1.out.size; have s2 := HC2.out.size; have s3 := HC3.out.size; simp at s1 s2 s3 ⊢ <;> omega))
 refine bodyPost_ret (v := .agg #[.int .i64 v0, .int .i64 v1, .string v2, .int .i64 v3, .int .i64 v4, .int .i64 v5, .slice b6 l6 d6, .slice b7 l7 d7, .slice b8 l8 d8]) (by simp [results, Tryz.results266, go_sem, hqc]) rfl ⟨_, _, rfl, q0m.2 ⟨b6, l6, d6, g6, b7, l7, d7, g7, b8, l8, d8, g8, rfl, HO.out.1, HO.out.2.1, HO.out.2.2.1, HO.out.2.2.2.1, HO.out.2.2.2.2.1, HO.out.2.2.2.2.2, K6, K7, K8, rfl⟩, hfr, hch⟩
theorem szRec_any (x : Rec) (cx : Array Value) (fx : List Nat) (k : Int) (w : World) (hx : recL.rep w cx.toList x fx) (hk : 0 ≤ k) (hk2 : k ≤ 1048576) :
  Calls Tryz.prog 264 #[.agg cx, .int .i64 k] w (q6i (q2m x) k w) := by
 obtain ⟨a6, l6, c6, f6, a7, l7, c7, f7, a8, l8, c8, f8, ex, o0, o1, o2, o3, o4, o5, h6, h7, h8, -⟩ := q0m.1 hx
 clear hx
 obtain ⟨v0, v1, v2, v3, v4, v5, v6, v7, v8⟩ := x
 simp only at ex o0 o1 o2 o3 o4 o5 h6 h7 h8
 obtain rfl := Array.toList_inj.1 (ex.trans (List.toList_toArray).symm)
 clear ex o0 o1 o3 o4 o5
 have H6 := hid h6; clear h6
 have H7 := hid h7; clear h7
 have H8 := hid h8; clear h8
 unfold maxLen at o2
 obtain ⟨t6, ht6⟩ : ∃ t, t = q3x v6 := ⟨_, rfl⟩
 have n6 : 0 ≤ t6 := by rw [ht6]; exact q1v _
 have HT6 := hid ht6
 obtain ⟨t7, ht7⟩ : ∃ t, t = q3t v7 := ⟨_, rfl⟩
 have n7 : 0 ≤ t7 := by rw [ht7]; exact q1g _
 have HT7 := hid ht7
 obtain ⟨t8, ht8⟩ : ∃ t, t = q3t v8 := ⟨_, rfl⟩
 have n8 : 0 ≤ t8 := by rw [ht8]; exact q1g _
 have HT8 := hid ht8
 have HT := hid (show q2m ⟨v0, v1, v2, v3, v4, v5, v6, v7, v8⟩ = (v2.size : Int) + t6 + t7 + t8 by rw [ht6, ht7, ht8]; unfold q2m; rfl)
 clear ht6 ht7 ht8
 go_enter Tryz.func264, Tryz.ntmps264
 by_cases m2 : k - (v2.size : Int) < 0
 ·
  go_wp2_with fail
  go_ret
  exact ⟨q0e (by rw [HT.out, if_pos (by omega)]), by refine Chg.alloc ?_ _; exact Chg.refl _ _⟩
 go_wp2_with fail
 refine (q8s a6 l6 c6 v6 f6 (k - (v2.size : Int)) _ (intL.sl_ext H6.out (by refine Chg.alloc ?_ _; exact Chg.refl _ _)) (by omega) (by omega)).mono ?_
 rintro e w1 ⟨rfl, hc⟩
 rw [← HT6.out]
 have hP := hc.keep0 (b := w.heap.size) (q0d (by simp) _)
 have cP := cellsOf hP; have lP := ltOf hP; have fP := q0l hP; have HBP := hid hP; clear hP
 have HC1 := hid hc; clear hc
 by_cases m6 : k - (v2.size : Int) - t6 < 0
 ·rw [if_pos m6]
  go_wp2_with fail
  go_ret
  exact ⟨q0e (by rw [HT.out, if_pos (by omega)]), by refine Chg.trans0 ?_ HC1.out; refine Chg.alloc ?_ _; exact Chg.refl _ _⟩
 rw [if_neg m6]
 go_wp2_with fail
 refine (q7e a7 l7 c7 v7 f7 (k - (v2.size : Int) - t6) _ (q0q.sl_ext H7.out (by refine Chg.trans0 ?_ HC1.out; refine Chg.alloc ?_ _; exact Chg.refl _ _)) (by omega) (by omega)).mono ?_
 rintro e w2 ⟨rfl, hc⟩
 rw [← HT7.out]
 have hP := hc.keep0 HBP.out
 clear HBP cP lP fP
 have cP := cellsOf hP; have lP := ltOf hP; have fP := q0l hP; have HBP := hid hP; clear hP
 have HC2 := hid hc; clear hc
 by_cases m7 : k - (v2.size : Int) - t6 - t7 < 0
 ·rw [if_pos m7]
  go_wp2_with fail
  go_ret
  exact ⟨q0e (by rw [HT.out, if_pos (by omega)]), by refine Chg.trans0 ?_ HC2.out; refine Chg.trans0 ?_ HC1.out; refine Chg.alloc ?_ _; exact Chg.refl _ _⟩
 rw [if_neg m7]
 go_wp2_with fail
 refine (q7e a8 l8 c8 v8 f8 (k - (v2.size : Int) - t6 - t7) _ (q0q.sl_ext H8.out (by refine Chg.trans0 ?_ HC2.out; refine Chg.trans0 ?_ HC1.out; refine Chg.alloc ?_ _; exact Chg.refl _ _)) (by omega) (by omega)).mono ?_
 rintro e w3 ⟨rfl, hc⟩
 rw [← HT8.out]
 have hP := hc.keep0 HBP.out
 clear HBP cP lP fP
 have cP := cellsOf hP; have lP := ltOf hP; have fP := q0l hP; have HBP := hid hP; clear hP
 have HC3 := hid hc; clear hc
 by_cases m8 : k - (v2.size : Int) - t6 - t7 - t8 < 0
 ·rw [if_pos m8]
  go_wp2_with fail
  go_ret
  exact ⟨q0e (by rw [HT.out, if_pos (by omega)]), by refine Chg.trans0 ?_ HC3.out; refine Chg.trans0 ?_ HC2.out; refine Chg.trans0 ?_ HC1.out; refine Chg.alloc ?_ _; exact Chg.refl _ _⟩
 rw [if_neg m8]
 go_wp2_with fail
 go_ret
 exact ⟨q0e (by rw [HT.out, if_neg (by omega)] <;> omega), by refine Chg.trans0 ?_ HC3.out; refine Chg.trans0 ?_ HC2.out; refine Chg.trans0 ?_ HC1.out; refine Chg.alloc ?_ _; exact Chg.refl _ _⟩
theorem eqRec_any (x : Rec) (cx cy : Array Value) (fx fy : List Nat) (w : World) (hx : recL.rep w cx.toList x fx) (hy : recL.rep w cy.toList x fy) :
  Calls Tryz.prog 173 #[.agg cx, .agg cy] w fun e w' => e = .returned (.bool true) ∧ Chg [] w w' := by
 obtain ⟨a6, l6, c6, f6, a7, l7, c7, f7, a8, l8, c8, f8, ex, o0, o1, o2, o3, o4, o5, h6, h7, h8, -⟩ := q0m.1 hx
 obtain ⟨b6, m6, d6, g6, b7, m7, d7, g7, b8, m8, d8, g8, ey, q0, q1, q2, q3, q4, q5, j6, j7, j8, -⟩ := q0m.1 hy
 clear hx hy
 obtain ⟨v0, v1, v2, v3, v4, v5, v6, v7, v8⟩ := x
 simp only at ex ey h6 j6 h7 j7 h8 j8
 obtain rfl := Array.toList_inj.1 (ex.trans (List.toList_toArray).symm)
 obtain rfl := Array.toList_inj.1 (ey.trans (List.toList_toArray).symm)
 clear ex ey o0 o1 o2 o3 o4 o5 q0 q1 q2 q3 q4 q5
 obtain rfl : l6 = m6 := h6.1.trans j6.1.symm
 have H6 := hid h6; have J6 := hid j6; clear h6 j6
 obtain rfl : l7 = m7 := h7.1.trans j7.1.symm
 have H7 := hid h7; have J7 := hid j7; clear h7 j7
 obtain rfl : l8 = m8 := h8.1.trans j8.1.symm
 have H8 := hid h8; have J8 := hid j8; clear h8 j8
 have e0 : ((v0 : Int) != v0) = false := by simp
 have e1 : ((v1 : Int) != v1) = false := by simp
 have e3 : ((v3 : Int) != v3) = false := by simp
 have e4 : ((v4 : Int) != v4) = false := by simp
 have e5 : ((v5 : Int) != v5) = false := by simp
 go_enter Tryz.func173, Tryz.ntmps173
 go_wp2_with fail
 refine (eqI_any a6 b6 l6 c6 d6 v6 f6 g6 _ (intL.sl_ext H6.out (by refine Chg.alloc ?_ _; refine Chg.alloc ?_ _; exact Chg.refl _ _)) (intL.sl_ext J6.out (by refine Chg.alloc ?_ _; refine Chg.alloc ?_ _; exact Chg.refl _ _))).mono ?_
 rintro e w1 ⟨rfl, hc⟩
 have hP := hc.keep0 (b := w.heap.size) (q0b (q0d (by simp) _) _)
 have hQ := hc.keep0 (b := w.heap.size + 1) (q0d (by simp) _)
 have cP := cellsOf hP; have lP := ltOf hP; have fP := q0l hP; have HBP := hid hP; clear hP
 have cQ := cellsOf hQ; have lQ := ltOf hQ; have fQ := q0l hQ; have HBQ := hid hQ; clear hQ
 have HC1 := hid hc; clear hc
 go_wp2_with fail
 refine (eqB_any a7 b7 l7 c7 d7 v7 f7 g7 _ (q0q.sl_ext H7.out (by refine Chg.trans0 ?_ HC1.out; refine Chg.alloc ?_ _; refine Chg.alloc ?_ _; exact Chg.refl _ _)) (q0q.sl_ext J7.out (by refine Chg.trans0 ?_ HC1.out; refine Chg.alloc ?_ _; refine Chg.alloc ?_ _; exact Chg.refl _ _))).mono ?_
 rintro e w2 ⟨rfl, hc⟩
 have hP := hc.keep0 HBP.out
 have hQ := hc.keep0 HBQ.out
 clear HBP cP lP fP HBQ cQ lQ fQ
 have cP := cellsOf hP; have lP := ltOf hP; have fP := q0l hP; have HBP := hid hP; clear hP
 have cQ := cellsOf hQ; have lQ := ltOf hQ; have fQ := q0l hQ; have HBQ := hid hQ; clear hQ
 have HC2 := hid hc; clear hc
 go_wp2_with fail
 refine (eqB_any a8 b8 l8 c8 d8 v8 f8 g8 _ (q0q.sl_ext H8.out (by refine Chg.trans0 ?_ HC2.out; refine Chg.trans0 ?_ HC1.out; refine Chg.alloc ?_ _; refine Chg.alloc ?_ _; exact Chg.refl _ _)) (q0q.sl_ext J8.out (by refine Chg.trans0 ?_ HC2.out; refine Chg.trans0 ?_ HC1.out; refine Chg.alloc ?_ _; refine Chg.alloc ?_ _; exact Chg.refl _ _))).mono ?_
 rintro e w3 ⟨rfl, hc⟩
 have hP := hc.keep0 HBP.out
 have hQ := hc.keep0 HBQ.out
 clear HBP cP lP fP HBQ cQ lQ fQ
 have cP := cellsOf hP; have lP := ltOf hP; have fP := q0l hP; have HBP := hid hP; clear hP
 have cQ := cellsOf hQ; have lQ := ltOf hQ; have fQ := q0l hQ; have HBQ := hid hQ; clear hQ
 have HC3 := hid hc; clear hc
 go_wp2_with fail
 go_ret
 exact ⟨rfl, by refine Chg.trans0 ?_ HC3.out; refine Chg.trans0 ?_ HC2.out; refine Chg.trans0 ?_ HC1.out; refine Chg.alloc ?_ _; refine Chg.alloc ?_ _; exact Chg.refl _ _⟩
def setRow (cur : Array Value) : Nat → List Value → Array Value
 | _, [] => cur
 | o, v :: vs => setRow (cur.setIfInBounds o v) (o + 1) vs
theorem q7t {b : Nat} {E : TypeId} {fr : Nat × Nat} : ∀ (vs : List Value) (o : Nat) (w : World) (cur : Array Value), w.heap[b]? = some (.cells cur E fr) → (w.setCells b o vs).heap[b]? = some (.cells (setRow cur o vs) E fr) := by
 intro vs
 induction vs with
 | nil => intro o w cur h; exact h
 | cons v vs ih => intro o w cur h; exact ih (o + 1) _ _ (q2q h)
theorem q4l {b k : Nat} (hk : k ≠ b) : ∀ (vs : List Value) (o : Nat) (w : World), (w.setCells b o vs).heap[k]? = w.heap[k]? := by
 intro vs
 induction vs with
 | nil => intro o w; rfl
 | cons v vs ih => intro o w; exact (ih (o + 1) _).trans (Below.heap_setCell _ _ _ _ hk)
theorem Chg.setCells {S : List Nat} {a : World} {b : Nat} (hp : b ∈ S ∨ a.heap.size ≤ b) : ∀ (vs : List Value) (o : Nat) {w : World}, Chg S a w → Chg S a (w.setCells b o vs) := by
 intro vs
 induction vs with
 | nil => intro o w h; exact h
 | cons v vs ih => intro o w h; exact ih (o + 1) (h.setCell ⟨b, o, none⟩ v hp)
theorem q7s : ∀ (vs : List Value) (o : Nat) (cur : Array Value), o + vs.length ≤ cur.size → (setRow cur o vs).toList = cur.toList.take o ++ (vs ++ cur.toList.drop (o + vs.length)) := by
 intro vs
 induction vs with
 | nil => intro o cur _; simp [setRow]
 | cons v vs ih =>
  intro o cur h
  simp only [List.length_cons] at h
  show (setRow (cur.setIfInBounds o v) (o + 1) vs).toList = _
  rw [ih (o + 1) _ (by simp; omega), Array.toList_setIfInBounds]
  have e1 : (cur.toList.set o v).take (o + 1) = cur.toList.take o ++ [v] := by
   apply List.ext_getElem?
   intro j
   by_cases hj : j < o
   ·rw [List.getElem?_take_of_lt (by omega), List.getElem?_set_ne (by omega), List.getElem?_append_left (by simp; omega), List.getElem?_take_of_lt hj]
   ·by_cases hj2 : j = o
    ·subst hj2
     have hlj : (cur.toList.take j).length = j := by rw [List.length_take]; simp; omega
     rw [List.getElem?_take_of_lt (by omega), List.getElem?_set_self (by simp; omega), List.getElem?_append_right (by omega), hlj]
     simp
    ·rw [List.getElem?_eq_none (by simp; omega), List.getElem?_eq_none (by simp; omega)]
  have e2 : (cur.toList.set o v).drop (o + 1 + vs.length) = cur.toList.drop (o + (v :: vs).length) := by
   rw [List.drop_set_of_lt (by omega)]
   congr 1
   simp; omega
  rw [e1, e2]
  simp
theorem Lay.all_putN {α : Type} (L : Lay α) {w w' : World} {xs : List α} {i : Nat} {cs : List Value} {fps : List Nat} {x' : α} {vs : List Value} {f' : List Nat} (h : L.all w cs xs fps) (hi : i < xs.length) (hr : L.rep w' vs x' f')
  (hk : ∀ b ∈ fps, w'.heap[b]? = w.heap[b]?) : ∃ f1 fx f2, fps = f1 ++ (fx ++ f2) ∧ L.all w' (cs.take (i * L.n) ++ (vs ++ cs.drop (i * L.n + L.n))) (xs.set i x') (f1 ++ (f' ++ f2)) := by
 have e : xs = xs.take i ++ (xs[i] :: xs.drop (i + 1)) := by rw [← List.drop_eq_getElem_cons hi, List.take_append_drop]
 rw [e] at h
 have hl : (xs.take i).length = i := by rw [List.length_take]; omega
 obtain ⟨f1, f2', rfl, h1, h2⟩ := L.all_split h
 rw [hl] at h1 h2
 obtain ⟨c1, c2, fx, f2, e2, rfl, r1, r2⟩ := h2
 have hc2 : c2 = cs.drop (i * L.n + L.n) := by
  have := congrArg (List.drop L.n) e2
  rw [List.drop_drop, ← L.len r1, List.drop_left] at this
  rw [← this, L.len r1]
 refine ⟨f1, fx, f2, rfl, ?_⟩
 rw [List.set_eq_take_append_cons_drop, if_pos hi]
 refine L.all_append (L.all_keep h1 (fun b hb => hk b (by simp [hb]))) ⟨vs, _, f', f2, rfl, rfl, hr, ?_⟩
 rw [← hc2]
 exact L.all_keep r2 (fun b hb => hk b (by simp [hb]))
theorem Lay.sl_putN {α : Type} (L : Lay α) {w : World} {b off len cap : Nat} {xs : List α} {fp : List Nat} (h : L.sl w (some ⟨b, off, none⟩) len cap xs fp) (nd : fp.Nodup) {i : Nat} (hi : i < len) {vs : List Value} {x' : α} {f' : List Nat}
  (hr : L.rep w vs x' f') (hf' : ∀ y ∈ f', y ∉ fp) (nd' : f'.Nodup) :
  ∃ fp', L.sl (w.setCells b (off + i * L.n) vs) (some ⟨b, off, none⟩) len cap (xs.set i x') fp' ∧ (∀ y ∈ fp', y ∈ fp ∨ y ∈ f') ∧ fp'.Nodup ∧ b ∈ fp' ∧ b ∈ fp := by
 obtain ⟨h1, h2, h3, h4, ⟨rfl, rfl⟩ | ⟨b', off', cur, E, fr, fps, ha, hb, hall, rfl⟩⟩ := h
 ·simp at h1; omega
 ·simp only [Option.some.injEq, Addr.mk.injEq, and_true] at ha
  obtain ⟨rfl, rfl⟩ := ha
  have hvl := L.len hr
  have hbf : b ∉ fps := (List.nodup_cons.1 nd).1
  have hbf' : b ∉ f' := fun hy => hf' b hy (by simp)
  have hal := L.all_len hall
  rw [List.length_take, List.length_drop] at hal
  have hle : (i + 1) * L.n ≤ len * L.n := Nat.mul_le_mul_right _ (by omega)
  rw [Nat.add_mul, Nat.one_mul] at hle
  have hsz : off + (i * L.n + L.n) ≤ cur.size := by
   have := L.pos
   have e : cur.toList.length = cur.size := by simp
   rw [h1] at hle
   omega
  have hr' := L.keep hr (fun y hy => (q4l (show y ≠ b from fun e => hbf' (by rw [← e]; exact hy)) vs (off + i * L.n) w))
  obtain ⟨f1, fx, f2, rfl, hall'⟩ := L.all_putN hall (show i < xs.length by omega) hr' (fun y hy => q4l (show y ≠ b from fun e => hbf (by rw [← e]; exact hy)) vs (off + i * L.n) w)
  refine ⟨b :: (f1 ++ (f' ++ f2)), ⟨by simpa using h1, h2, h3, h4, .inr ⟨b, off, _, E, fr, _, rfl, q7t vs _ w cur hb, ?_, rfl⟩⟩, ?_, ?_, by simp, by simp⟩
  ·rw [q7s vs _ cur (by omega)]
   have e : ((cur.toList.take (off + i * L.n) ++ (vs ++ cur.toList.drop (off + i * L.n + vs.length))).drop off).take (len * L.n) = ((cur.toList.drop off).take (len * L.n)).take (i * L.n) ++ (vs ++ ((cur.toList.drop off).take (len * L.n)).drop (i * L.n + L.n)) := by
    have hlen : cur.toList.length = cur.size := by simp
    rw [hvl]
    rw [List.drop_append_of_le_length (by rw [List.length_take]; omega), List.drop_take, show off + i * L.n - off = i * L.n by omega]
    rw [List.take_append, List.take_take, List.take_take, List.length_take, List.length_drop]
    rw [show min (len * L.n) (i * L.n) = i * L.n by omega, show min (i * L.n) (len * L.n) = i * L.n by omega]
    congr 1
    rw [show min (i * L.n) (cur.toList.length - off) = i * L.n by omega]
    rw [List.take_append, hvl, List.take_of_length_le (show vs.length ≤ len * L.n - i * L.n by omega)]
    congr 1
    rw [List.drop_take, List.drop_drop, show off + i * L.n + L.n = off + (i * L.n + L.n) by omega]
    congr 1
    omega
   rw [e]
   exact hall'
  ·intro y hy
   simp only [List.mem_cons, List.mem_append] at hy ⊢
   rcases hy with rfl | hy | hy | hy
   ·simp
   ·exact .inl (.inr (.inl hy))
   ·exact .inr hy
   ·exact .inl (.inr (.inr (.inr hy)))
  ·have nd2 := (List.nodup_cons.1 nd).2
   rw [List.nodup_append] at nd2
   obtain ⟨n1, n2, n3⟩ := nd2
   rw [List.nodup_append] at n2
   obtain ⟨n4, n5, n6⟩ := n2
   have q1 : ∀ y ∈ f', y ∉ f1 := fun y hy hy1 => hf' y hy (by simp [hy1])
   have q2 : ∀ y ∈ f', y ∉ f2 := fun y hy hy1 => hf' y hy (by simp [hy1])
   refine List.nodup_cons.2 ⟨?_, List.nodup_append.2 ⟨n1, List.nodup_append.2 ⟨nd', n5, fun a ha c hc e => q2 a ha (e ▸ hc)⟩, fun a ha c hc e => ?_⟩⟩
   ·intro hy
    simp only [List.mem_append] at hy
    rcases hy with hy | hy | hy
    ·exact hbf (by simp [hy])
    ·exact hbf' hy
    ·exact hbf (by simp [hy])
   ·rcases List.mem_append.1 hc with hc | hc
    ·exact q1 c hc (e ▸ ha)
    ·exact n3 a ha c (List.mem_append.2 (.inr hc)) e
def Shp.cells (s : Shp) : Array Value := #[.int .i64 s.groups, .int .i64 s.column, .int .i64 s.data, .int .i64 s.spare, .int .i64 s.rows, .int .i64 s.cap, .int .i64 s.batch, .int .i64 s.queue, .int .i64 s.stage]
def inB (n a b : Int) : Bool := decide (a ≤ n) && decide (n ≤ b)
theorem q4j {n a b : Int} (h : inB n a b = true) : a ≤ n ∧ n ≤ b := by simpa [inB] using h
theorem inB_false {n a b : Int} (h : inB n a b = false) : ¬ (a ≤ n ∧ n ≤ b) := by
 intro ⟨h1, h2⟩; simp [inB, h1, h2] at h
theorem q1q {n a b : Int} (h1 : a ≤ n) (h2 : n ≤ b) : inB n a b = true := by simp [inB, h1, h2]
theorem q1x {n a b : Int} (h : ¬ (a ≤ n ∧ n ≤ b)) : inB n a b = false := by
 cases e : inB n a b
 ·rfl
 ·exact absurd (q4j e) h
def Shp.ok (s : Shp) : Prop := (1 ≤ s.groups ∧ s.groups ≤ 4) ∧ (0 ≤ s.column ∧ s.column ≤ 2) ∧ (1 ≤ s.data ∧ s.data ≤ 3) ∧ (0 ≤ s.spare ∧ s.spare ≤ 2) ∧ (1 ≤ s.rows ∧ s.rows ≤ 6) ∧ (1 ≤ s.cap ∧ s.cap ≤ 6) ∧ (1 ≤ s.batch ∧ s.batch ≤ 4) ∧ (1 ≤ s.queue ∧ s.queue ≤ 6) ∧ (0 ≤ s.stage ∧ s.stage ≤ 400)
instance (s : Shp) : Decidable s.ok := by unfold Shp.ok; infer_instance
def Shp.fault (s : Shp) : Int := if s.ok then 0 else 3
theorem Shp.fault_of {s : Shp} (h1 : inB s.groups 1 4 = true) (h2 : inB s.column 0 2 = true) (h3 : inB s.data 1 3 = true) (h4 : inB s.spare 0 2 = true) (h5 : inB s.rows 1 6 = true)
  (h6 : inB s.cap 1 6 = true) (h7 : inB s.batch 1 4 = true) (h8 : inB s.queue 1 6 = true) (h9 : inB s.stage 0 400 = true) : (0 : Int) = s.fault := by
 rw [Shp.fault, if_pos ⟨q4j h1, q4j h2, q4j h3, q4j h4, q4j h5, q4j h6, q4j h7, q4j h8, q4j h9⟩]
theorem Shp.fault_no {s : Shp} (h : inB s.groups 1 4 = false ∨ inB s.column 0 2 = false ∨ inB s.data 1 3 = false ∨ inB s.spare 0 2 = false ∨ inB s.rows 1 6 = false
  ∨ inB s.cap 1 6 = false ∨ inB s.batch 1 4 = false ∨ inB s.queue 1 6 = false ∨ inB s.stage 0 400 = false) : (3 : Int) = s.fault := by
 rw [Shp.fault, if_neg]
 rintro ⟨g1, g2, g3, g4, g5, g6, g7, g8, g9⟩
 rcases h with h | h | h | h | h | h | h | h | h <;> exact absurd (by assumption) (inB_false h)
theorem q2k (n a b : Int) (w : World) :
  Calls Tryz.prog 147 #[.int .i64 n, .int .i64 a, .int .i64 b] w fun e w' => e = .returned (.bool (inB n a b)) ∧ w = w' := by
 by_cases h : a ≤ n
 ·have H := hid (show decide (n ≤ b) = inB n a b by simp [inB, h])
  go_enter Tryz.func147, Tryz.ntmps147
  go_wp2
  go_ret
  exact ⟨q0o H.out, rfl⟩
 ·have H := hid (show false = inB n a b by simp [inB, h])
  go_enter Tryz.func147, Tryz.ntmps147
  go_wp2
  go_ret
  exact ⟨q0o H.out, rfl⟩
theorem q5v (n a b : Int) (w : World) :
  Calls Tryz.prog 70 #[.int .i64 n, .int .i64 a, .int .i64 b] w fun e w' => e = .returned (.bool (inB n a b)) ∧ w = w' := by
 by_cases h : a ≤ n
 ·have H := hid (show decide (n ≤ b) = inB n a b by simp [inB, h])
  go_enter Tryz.func70, Tryz.ntmps70
  go_wp2
  go_ret
  exact ⟨q0o H.out, rfl⟩
 ·have H := hid (show false = inB n a b by simp [inB, h])
  go_enter Tryz.func70, Tryz.ntmps70
  go_wp2
  go_ret
  exact ⟨q0o H.out, rfl⟩
theorem impl_shape (s : Shp) (w : World) :
  Calls Tryz.prog 124 #[.agg s.cells] w fun e w' => e = .returned (.int .i64 s.fault) ∧ w.alloc (.cells s.cells 30) = w' := by
 have HY := hid (@Shp.fault_of s)
 have HN := hid (@Shp.fault_no s)
 generalize s.fault = F at HY HN ⊢
 obtain ⟨g, c, d, p, r, q, b, u, t⟩ := s
 simp only [Shp.cells] at HY HN ⊢
 go_enter Tryz.func124, Tryz.ntmps124
 go_wp2_with (go_at_call 147; refine (q2k _ _ _ _).mono ?_; rintro e w' ⟨rfl, rfl⟩)
 all_goals go_ret
 all_goals refine ⟨?_, rfl⟩
 all_goals simp only [Bool.not_eq_true, Bool.not_eq_true', Bool.not_eq_false'] at *
 all_goals first
  | exact q0e (HY.out ‹_› ‹_› ‹_› ‹_› ‹_› ‹_› ‹_› ‹_› ‹_›)
  | exact q0e (HN.out (by simp [*]))
theorem l3Shape_any (a b : Int) (w : World) :
  Calls Tryz.prog 189 #[.int .i64 a, .int .i64 b] w fun e w' => e = .returned (.bool (inB a 1 4 && inB b 0 2)) ∧ w = w' := by
 go_enter Tryz.func189, Tryz.ntmps189
 go_wp2_with (go_at_call 70; refine (q5v _ _ _ _).mono ?_; rintro e w' ⟨rfl, rfl⟩)
 all_goals go_ret
 all_goals refine ⟨?_, rfl⟩
 all_goals simp only [Bool.not_eq_true] at *
 all_goals exact q0o (by simp [*])
theorem l2Shape_any (a b : Int) (w : World) :
  Calls Tryz.prog 190 #[.int .i64 a, .int .i64 b] w fun e w' => e = .returned (.bool (inB a 1 3 && inB b 0 2)) ∧ w = w' := by
 go_enter Tryz.func190, Tryz.ntmps190
 go_wp2_with (go_at_call 70; refine (q5v _ _ _ _).mono ?_; rintro e w' ⟨rfl, rfl⟩)
 all_goals go_ret
 all_goals refine ⟨?_, rfl⟩
 all_goals simp only [Bool.not_eq_true] at *
 all_goals exact q0o (by simp [*])
def inBs (a p q b r s : Int) : Bool := inB a p q && inB b r s
theorem q8b {a p q b r s : Int} (h : inBs a p q b r s = true) : inB a p q = true ∧ inB b r s = true := by simpa [inBs] using h
theorem z1f {a p q b r s : Int} (h : inBs a p q b r s = false) : inB a p q = false ∨ inB b r s = false := by
 cases e : inB a p q <;> simp [inBs, e] at h ⊢
 exact h
theorem Shp.fault_ofs {s : Shp} (h1 : inBs s.groups 1 4 s.column 0 2 = true) (h3 : inBs s.data 1 3 s.spare 0 2 = true) (h5 : inB s.rows 1 6 = true)
  (h6 : inB s.cap 1 6 = true) (h7 : inB s.batch 1 4 = true) (h8 : inB s.queue 1 6 = true) (h9 : inB s.stage 0 400 = true) : (0 : Int) = s.fault :=
 Shp.fault_of (q8b h1).1 (q8b h1).2 (q8b h3).1 (q8b h3).2 h5 h6 h7 h8 h9
theorem Shp.fault_nos {s : Shp} (h : inBs s.groups 1 4 s.column 0 2 = false ∨ inBs s.data 1 3 s.spare 0 2 = false ∨ inB s.rows 1 6 = false
  ∨ inB s.cap 1 6 = false ∨ inB s.batch 1 4 = false ∨ inB s.queue 1 6 = false ∨ inB s.stage 0 400 = false) : (3 : Int) = s.fault := by
 rcases h with h | h | h | h | h | h | h
 ·rcases z1f h with h | h <;> exact Shp.fault_no (by simp [h])
 ·rcases z1f h with h | h <;> exact Shp.fault_no (by simp [h])
 all_goals exact Shp.fault_no (by simp [h])
theorem l3Shape_s (a b : Int) (w : World) :
  Calls Tryz.prog 189 #[.int .i64 a, .int .i64 b] w fun e w' => e = .returned (.bool (inBs a 1 4 b 0 2)) ∧ w = w' := l3Shape_any a b w
theorem l2Shape_s (a b : Int) (w : World) :
  Calls Tryz.prog 190 #[.int .i64 a, .int .i64 b] w fun e w' => e = .returned (.bool (inBs a 1 3 b 0 2)) ∧ w = w' := l2Shape_any a b w
theorem spec_shape (s : Shp) (w : World) :
  Calls Tryz.prog 116 #[.agg s.cells] w fun e w' => e = .returned (.int .i64 s.fault) ∧ w.alloc (.cells s.cells 30) = w' := by
 have HY := hid (@Shp.fault_ofs s)
 have HN := hid (@Shp.fault_nos s)
 generalize s.fault = F at HY HN ⊢
 obtain ⟨g, c, d, p, r, q, b, u, t⟩ := s
 simp only [Shp.cells] at HY HN ⊢
 go_enter Tryz.func116, Tryz.ntmps116
 go_wp2_with (first | (go_at_call 70; refine (q5v _ _ _ _).mono ?_; rintro e w' ⟨rfl, rfl⟩) | (go_at_call 189; refine (l3Shape_s _ _ _).mono ?_; rintro e w' ⟨rfl, rfl⟩) | (go_at_call 190; refine (l2Shape_s _ _ _).mono ?_; rintro e w' ⟨rfl, rfl⟩))
 all_goals go_ret
 all_goals refine ⟨?_, rfl⟩
 all_goals simp only [Bool.not_eq_true, Bool.not_eq_true', Bool.not_eq_false'] at *
 all_goals first
  | exact q0e (HY.out (by simp [*]) (by simp [*]) (by simp [*]) (by simp [*]) (by simp [*]) (by simp [*]) (by simp [*]))
  | exact q0e (HN.out (by simp [*]))
theorem toShape_any (s : Shp) (w : World) :
  Calls Tryz.prog 74 #[.agg s.cells] w fun e w' => e = .returned (.agg s.cells) ∧ Chg [] w w' := by
 obtain ⟨g, c, d, p, r, q, b, u, t⟩ := s
 simp only [Shp.cells]
 go_enter Tryz.func74, Tryz.ntmps74
 go_wp2
 go_returns
 exact ⟨rfl, by repeat (first | exact Chg.refl _ _ | refine Chg.alloc ?_ _ | refine Chg.drew ?_)⟩
theorem q3d (s : Shp) (w : World) :
  Calls Tryz.prog 124 #[.agg s.cells] w fun e w' => e = .returned (.int .i64 s.fault) ∧ Chg [] w w' :=
 (impl_shape s w).mono fun _ _ ⟨h1, h2⟩ => ⟨h1, h2 ▸ (Chg.refl [] w).alloc _⟩
theorem q0t (s : Shp) (w : World) :
  Calls Tryz.prog 116 #[.agg s.cells] w fun e w' => e = .returned (.int .i64 s.fault) ∧ Chg [] w w' :=
 (spec_shape s w).mono fun _ _ ⟨h1, h2⟩ => ⟨h1, h2 ▸ (Chg.refl [] w).alloc _⟩
def Good (k : Nat) (c : Int) : Prop := (97 ≤ c ∧ c ≤ 122) ∨ (k ≠ 0 ∧ 48 ≤ c ∧ c ≤ 57)
def NameOk (s : ByteArray) : Prop := (1 ≤ s.size ∧ s.size ≤ 8) ∧ ∀ (k : Nat) (h : k < s.size), Good k (s[k].toNat : Int)
open Classical in
noncomputable def q1e (s : ByteArray) : Int := if NameOk s then 0 else 5
theorem q9g {s : ByteArray} {k : Nat} (h : k < s.size) (hb : ¬ Good k (s[k].toNat : Int)) : (5 : Int) = q1e s := by
  rw [q1e, if_neg (fun hn => hb (hn.2 k h))]
theorem name_len {s : ByteArray} (h : ¬ (1 ≤ s.size ∧ s.size ≤ 8)) : (5 : Int) = q1e s := by
  rw [q1e, if_neg (fun hn => h hn.1)]
theorem name_good {s : ByteArray} (h : 1 ≤ s.size ∧ s.size ≤ 8) (hg : ∀ (k : Nat) (h : k < s.size), Good k (s[k].toNat : Int)) : (0 : Int) = q1e s := by
  rw [q1e, if_pos ⟨h, hg⟩]
theorem nameOk_of {s : ByteArray} (h : q1e s = 0) : NameOk s := by
  unfold q1e at h; split at h
  · assumption
  · cases h
def q9a (s : ByteArray) (k : Nat) : Prop := ∀ (j : Nat) (h : j < s.size), j < k → Good j (s[j].toNat : Int)
theorem z0k {s : ByteArray} {k : Nat} (h : q9a s k) (hk : k < s.size) (hg : Good k (s[k].toNat : Int)) : q9a s (k + 1) := by
  intro j hj hjk
  by_cases e : j = k
  · subst e; exact hg
  · exact h j hj (by omega)
theorem z1g {s : ByteArray} {k : Nat} (h : q9a s k) (hk : s.size ≤ k) : ∀ (k : Nat) (h : k < s.size), Good k (s[k].toNat : Int) := fun j hj => h j hj (by omega)
theorem impl_name (s : ByteArray) (hs : s.size ≤ maxLen) (w : World) :
    Calls Tryz.prog 125 #[.string s] w fun e w' => e = .returned (.int .i64 (q1e s)) ∧ w = w' := by
  unfold maxLen at hs
  go_enter Tryz.func125, Tryz.ntmps125
  go_wp2
  go_loop [3, 4, 7] (fun _ _ i => ∃ k : Nat, k ≤ s.size ∧ q9a s k ∧ i = .int .i64 k) (fun _ _ i => s.size - (intOf i).toNat)
  case atStart => exact ⟨0, by omega, fun j _ h => by omega, rfl⟩
  case round =>
    obtain ⟨k, hk, hg, rfl⟩ := hrel
    by_cases hlt : k < s.size
    · have HB : Hid (¬ Good k (s[k].toNat : Int) → (5 : Int) = q1e s) := fun hb => q9g hlt hb
      have HG : Hid (Good k (s[k].toNat : Int) → q9a s (k + 1)) := fun h => z0k hg hlt h
      clear hg
      have hc : (s[k].toNat : Int) < 48 ∨ (48 ≤ (s[k].toNat : Int) ∧ (s[k].toNat : Int) ≤ 57) ∨ (57 < (s[k].toNat : Int) ∧ (s[k].toNat : Int) < 97) ∨ (97 ≤ (s[k].toNat : Int) ∧ (s[k].toNat : Int) ≤ 122) ∨ 122 < (s[k].toNat : Int) := by omega
      by_cases h0 : k = 0
      · subst h0
        rcases hc with hc | ⟨hc, hc2⟩ | ⟨hc, hc2⟩ | ⟨hc, hc2⟩ | hc
        all_goals
          go_wp2
          all_goals first
            | (go_round
               case rel => exact ⟨1, by omega, HG.out (by unfold Good; omega), rfl⟩
               case measure => simp [intOf]; omega)
            | (go_ret; exact ⟨q0e (HB.out (by unfold Good; omega)), rfl⟩)
            | (exfalso; simp_all; done)
            | (exfalso; simp_all; omega)
      · have hk0 : (((k : Nat) : Int) == 0) = false := by rw [beq_eq_false_iff_ne]; omega
        rcases hc with hc | ⟨hc, hc2⟩ | ⟨hc, hc2⟩ | ⟨hc, hc2⟩ | hc
        all_goals
          go_wp2
          all_goals first
            | (go_round
               case rel => exact ⟨k + 1, by omega, HG.out (by unfold Good; omega), by go_num⟩
               case measure => simp [intOf]; omega)
            | (go_ret; exact ⟨q0e (HB.out (by unfold Good; omega)), rfl⟩)
            | (exfalso; simp_all; done)
            | (exfalso; simp_all; omega)
    · have ha := z1g hg (by omega)
      by_cases hl : 1 ≤ s.size ∧ s.size ≤ 8
      · have H := hid (name_good hl ha)
        obtain ⟨hl1, hl2⟩ := hl
        clear ha hg
        have a1 : (1 : Int) ≤ (s.size : Int) := by omega
        have a2 : (s.size : Int) ≤ 8 := by omega
        go_wp2
        go_ret
        exact ⟨q0e H.out, rfl⟩
      · have H := hid (name_len hl)
        clear ha hg
        by_cases a1 : (1 : Int) ≤ (s.size : Int)
        · have a2 : (8 : Int) < (s.size : Int) := by omega
          have d1 : decide ((s.size : Int) ≤ 8) = false := by simp; omega
          clear hl
          go_wp2
          go_ret
          exact ⟨q0e H.out, rfl⟩
        · clear hl
          go_wp2
          go_ret
          exact ⟨q0e H.out, rfl⟩
theorem spec_name (s : ByteArray) (hs : s.size ≤ maxLen) (w : World) :
    Calls Tryz.prog 192 #[.string s] w fun e w' => e = .returned (.int .i64 (q1e s)) ∧ w = w' := by
  unfold maxLen at hs
  by_cases hl : 1 ≤ s.size ∧ s.size ≤ 8
  · have hlt : 0 < s.size := by omega
    have a1 : (1 : Int) ≤ (s.size : Int) := by omega
    have a2 : (s.size : Int) ≤ 8 := by omega
    have hc : (s[0].toNat : Int) < 97 ∨ 122 < (s[0].toNat : Int) ∨ (97 ≤ (s[0].toNat : Int) ∧ (s[0].toNat : Int) ≤ 122) := by omega
    rcases hc with hc | hc | ⟨hc1, hc2⟩
    · have H := hid (q9g hlt (by unfold Good; omega))
      clear hl
      go_enter Tryz.func192, Tryz.ntmps192
      go_wp2
      go_ret
      exact ⟨q0e H.out, rfl⟩
    · have H := hid (q9g hlt (by unfold Good; omega))
      clear hl
      go_enter Tryz.func192, Tryz.ntmps192
      go_wp2
      go_ret
      exact ⟨q0e H.out, rfl⟩
    · have hl' := hid hl
      have hc' : Hid (97 ≤ (s[0].toNat : Int) ∧ (s[0].toNat : Int) ≤ 122) := ⟨hc1, hc2⟩
      clear hl
      go_enter Tryz.func192, Tryz.ntmps192
      go_wp2
      clear hc1 hc2
      go_loop [3] (fun i => ∃ k : Nat, k ≤ s.size ∧ q9a s k ∧ i = .int .i64 k) (fun i => s.size - (intOf i).toNat)
      case atStart => exact ⟨0, by omega, fun j _ h => by omega, rfl⟩
      case round =>
        obtain ⟨k, hk, hg, rfl⟩ := hrel
        by_cases hlt : k < s.size
        · have HB : Hid (¬ Good k (s[k].toNat : Int) → (5 : Int) = q1e s) := fun hb => q9g hlt hb
          have HG : Hid (Good k (s[k].toNat : Int) → q9a s (k + 1)) := fun h => z0k hg hlt h
          clear hg
          have hc : (s[k].toNat : Int) < 48 ∨ (48 ≤ (s[k].toNat : Int) ∧ (s[k].toNat : Int) ≤ 57) ∨ (57 < (s[k].toNat : Int) ∧ (s[k].toNat : Int) < 97) ∨ (97 ≤ (s[k].toNat : Int) ∧ (s[k].toNat : Int) ≤ 122) ∨ 122 < (s[k].toNat : Int) := by omega
          by_cases h0 : k = 0
          · subst h0
            obtain ⟨hc1, hc2⟩ := hc'.out
            have hgood : q9a s 1 := HG.out (by unfold Good; omega)
            clear hc
            go_wp2
            go_round
            case rel => exact ⟨1, by omega, hgood, rfl⟩
            case measure => simp [intOf]; omega
          · rcases hc with hc | ⟨hc, hc2⟩ | ⟨hc, hc2⟩ | ⟨hc, hc2⟩ | hc
            all_goals
              go_wp2
              all_goals first
                | (go_round
                   case rel => exact ⟨k + 1, by omega, HG.out (by unfold Good; omega), by go_num⟩
                   case measure => simp [intOf]; omega)
                | (go_ret; exact ⟨q0e (HB.out (by unfold Good; omega)), rfl⟩)
                | (exfalso; simp_all; done)
                | (exfalso; simp_all; omega)
        · have H := hid (name_good hl'.out (z1g hg (by omega)))
          clear hg
          go_wp2
          go_ret
          exact ⟨q0e H.out, rfl⟩
  · have H := hid (name_len hl)
    by_cases a1 : (1 : Int) ≤ (s.size : Int)
    · have a2 : (8 : Int) < (s.size : Int) := by omega
      clear hl
      go_enter Tryz.func192, Tryz.ntmps192
      go_wp2
      go_ret
      exact ⟨q0e H.out, rfl⟩
    · clear hl
      go_enter Tryz.func192, Tryz.ntmps192
      go_wp2
      go_ret
      exact ⟨q0e H.out, rfl⟩
theorem take_ne {α : Type} {xs ys : List α} {k : Nat} {x y : α} (hx : xs[k]? = some x) (hy : ys[k]? = some y) (h : x ≠ y) : xs ≠ ys := fun e => by
 subst e; exact h (Option.some.inj (hx.symm.trans hy))
noncomputable def q2f {α : Type} (x y : α) : Bool := @decide (x = y) (Classical.propDecidable _)
theorem q2j {α : Type} {x y : α} (h : x = y) : q2f x y = true := by unfold q2f; simp [h]
theorem q0x {α : Type} {x y : α} (h : x ≠ y) : q2f x y = false := by unfold q2f; simp [h]
theorem l6Nums_any (a b : Option Addr) (la ca lb cb : Nat) (xs ys : List Int) (f g : List Nat) (w : World) (ha : intL.sl w a la ca xs f) (hb : intL.sl w b lb cb ys g) :
  Calls Tryz.prog 269 #[.slice a la ca, .slice b lb cb] w fun e w' => e = .returned (.bool (q2f xs ys)) ∧ Chg [] w w' := by
 have hma := intL.sl_max ha
 have hmb := intL.sl_max hb
 have HLA := hid ha.1
 have HLB := hid hb.1
 have HA := hid ha
 have HB := hid hb
 clear ha hb
 by_cases hl : la = lb
 ·subst hl
  have hne : ((la : Int) != (la : Int)) = false := by simp
  go_enter Tryz.func269, Tryz.ntmps269
  go_wp2
  go_loopw [5] (fun i wr => ∃ k : Nat, k ≤ la ∧ i = .int .i64 k ∧ Chg [] w wr ∧ Hid (xs.take k = ys.take k)) (fun i _ => la - (intOf i).toNat)
  case atStart => exact ⟨0, by omega, rfl, Chg.refl _ _, rfl⟩
  case round =>
   obtain ⟨k, hk, rfl, hc, HT⟩ := hrel
   by_cases hlt : k < la
   ·obtain ⟨x, b1, o1, HX, rfl, hcx, _⟩ := q2p (intL.sl_ext HA.out hc) hlt
    obtain ⟨y, b2, o2, HY, rfl, hcy, _⟩ := q2p (intL.sl_ext HB.out hc) hlt
    by_cases heq : x = y
    ·have HT2 := hid (show xs.take (k + 1) = ys.take (k + 1) by rw [q1d HX.out.1, q1d HY.out.1, HT.out, heq])
     subst heq
     have hxx : (x != x) = false := by simp
     have HC := hid hc
     clear hc
     go_wp2_with fail
     go_region
     all_goals (try go_wp2)
     all_goals
      go_roundw
      case rel => exact ⟨k + 1, by omega, by go_num, HC.out.drew, HT2⟩
      case measure => simp [intOf]; omega
    ·have HF := hid (q0x (take_ne HX.out.1 HY.out.1 heq))
     have hxx : (x != y) = true := by rw [bne_iff_ne]; exact heq
     have HC := hid hc
     clear hc heq
     go_wp2_with fail
     go_region
     all_goals (try go_wp2)
     all_goals
      go_ret
      exact ⟨by rw [HF.out]; rfl, HC.out.drew⟩
   ·have hkl : k = la := by omega
    subst hkl
    have HF := hid (q2j (show xs = ys by rw [← List.take_of_length_le (l := xs) (i := k) (by have := HLA.out; omega), HT.out, List.take_of_length_le (by have := HLB.out; omega)]))
    have HC := hid hc
    clear hc
    go_wp2
    go_ret
    exact ⟨by rw [HF.out]; rfl, HC.out⟩
 ·have hne : ((la : Int) != (lb : Int)) = true := by rw [bne_iff_ne]; omega
  have HF := hid (q0x (show xs ≠ ys from fun e => hl (by rw [HLA.out, HLB.out, e])))
  clear hl
  go_enter Tryz.func269, Tryz.ntmps269
  go_wp2
  go_ret
  exact ⟨by rw [HF.out]; rfl, Chg.refl _ _⟩
theorem slEq_any (a b : Option Addr) (la ca lb cb : Nat) (xs ys : List Int) (f g : List Nat) (w : World) (ha : intL.sl w a la ca xs f) (hb : intL.sl w b lb cb ys g) :
  Calls Tryz.prog 203 #[.slice a la ca, .slice b lb cb] w fun e w' => e = .returned (.bool (q2f xs ys)) ∧ Chg [] w w' := by
 have hma := intL.sl_max ha
 have hmb := intL.sl_max hb
 have HLA := hid ha.1
 have HLB := hid hb.1
 have HA := hid ha
 have HB := hid hb
 clear ha hb
 by_cases hl : la = lb
 ·subst hl
  have hne : ((la : Int) != (la : Int)) = false := by simp
  go_enter Tryz.func203, Tryz.ntmps203
  go_wp2
  go_loopw [13] (fun i wr => ∃ k : Nat, k ≤ la ∧ i = .int .i64 k ∧ Chg [] w wr ∧ Hid (xs.take k = ys.take k)) (fun i _ => la - (intOf i).toNat)
  case atStart => exact ⟨0, by omega, rfl, Chg.refl _ _, rfl⟩
  case round =>
   obtain ⟨k, hk, rfl, hc, HT⟩ := hrel
   by_cases hlt : k < la
   ·obtain ⟨x, b1, o1, HX, rfl, hcx, _⟩ := q2p (intL.sl_ext HA.out hc) hlt
    obtain ⟨y, b2, o2, HY, rfl, hcy, _⟩ := q2p (intL.sl_ext HB.out hc) hlt
    by_cases heq : x = y
    ·have HT2 := hid (show xs.take (k + 1) = ys.take (k + 1) by rw [q1d HX.out.1, q1d HY.out.1, HT.out, heq])
     subst heq
     have hxx : (x != x) = false := by simp
     have HC := hid hc
     clear hc
     go_wp2_with fail
     go_region
     all_goals (try go_wp2)
     all_goals
      go_roundw
      case rel => exact ⟨k + 1, by omega, by go_num, HC.out.drew, HT2⟩
      case measure => simp [intOf]; omega
    ·have HF := hid (q0x (take_ne HX.out.1 HY.out.1 heq))
     have hxx : (x != y) = true := by rw [bne_iff_ne]; exact heq
     have HC := hid hc
     clear hc heq
     go_wp2_with fail
     go_region
     all_goals (try go_wp2)
     all_goals
      go_ret
      exact ⟨by rw [HF.out]; rfl, HC.out.drew⟩
   ·have hkl : k = la := by omega
    subst hkl
    have HF := hid (q2j (show xs = ys by rw [← List.take_of_length_le (l := xs) (i := k) (by have := HLA.out; omega), HT.out, List.take_of_length_le (by have := HLB.out; omega)]))
    have HC := hid hc
    clear hc
    go_wp2
    go_ret
    exact ⟨by rw [HF.out]; rfl, HC.out⟩
 ·have hne : ((la : Int) != (lb : Int)) = true := by rw [bne_iff_ne]; omega
  have HF := hid (q0x (show xs ≠ ys from fun e => hl (by rw [HLA.out, HLB.out, e])))
  clear hl
  go_enter Tryz.func203, Tryz.ntmps203
  go_wp2
  go_ret
  exact ⟨by rw [HF.out]; rfl, Chg.refl _ _⟩
theorem z1e (a b : Option Addr) (la ca lb cb : Nat) (xs ys : List UInt8) (f g : List Nat) (w : World) (ha : q0q.sl w a la ca xs f) (hb : q0q.sl w b lb cb ys g) :
  Calls Tryz.prog 270 #[.slice a la ca, .slice b lb cb] w fun e w' => e = .returned (.bool (q2f xs ys)) ∧ Chg [] w w' := by
 have hma := q0q.sl_max ha
 have hmb := q0q.sl_max hb
 have HLA := hid ha.1
 have HLB := hid hb.1
 have HA := hid ha
 have HB := hid hb
 clear ha hb
 by_cases hl : la = lb
 ·subst hl
  have hne : ((la : Int) != (la : Int)) = false := by simp
  go_enter Tryz.func270, Tryz.ntmps270
  go_wp2
  go_loopw [5] (fun i wr => ∃ k : Nat, k ≤ la ∧ i = .int .i64 k ∧ Chg [] w wr ∧ Hid (xs.take k = ys.take k)) (fun i _ => la - (intOf i).toNat)
  case atStart => exact ⟨0, by omega, rfl, Chg.refl _ _, rfl⟩
  case round =>
   obtain ⟨k, hk, rfl, hc, HT⟩ := hrel
   by_cases hlt : k < la
   ·obtain ⟨x, X, b1, o1, HX, rfl, hcx, _, _⟩ := q4f (q0q.sl_ext HA.out hc) hlt
    obtain ⟨y, Y, b2, o2, HY, rfl, hcy, _, _⟩ := q4f (q0q.sl_ext HB.out hc) hlt
    by_cases heq : x = y
    ·have HT2 := hid (show xs.take (k + 1) = ys.take (k + 1) by rw [q1d HX.out.1, q1d HY.out.1, HT.out, heq])
     have hXY : X = Y := by rw [HX.out.2.1, HY.out.2.1, heq]
     subst hXY
     have hxx : (X != X) = false := by simp
     have HC := hid hc
     clear hc
     go_wp2_with fail
     go_region
     all_goals (try go_wp2)
     all_goals
      go_roundw
      case rel => exact ⟨k + 1, by omega, by go_num, HC.out.drew, HT2⟩
      case measure => simp [intOf]; omega
    ·have HF := hid (q0x (take_ne HX.out.1 HY.out.1 heq))
     have hxx : (X != Y) = true := by rw [bne_iff_ne]; intro e; exact heq (UInt8.toNat_inj.1 (by have h1 := HX.out.2.1; have h2 := HY.out.2.1; omega))
     have HC := hid hc
     clear hc heq
     go_wp2_with fail
     go_region
     all_goals (try go_wp2)
     all_goals
      go_ret
      exact ⟨by rw [HF.out]; rfl, HC.out.drew⟩
   ·have hkl : k = la := by omega
    subst hkl
    have HF := hid (q2j (show xs = ys by rw [← List.take_of_length_le (l := xs) (i := k) (by have := HLA.out; omega), HT.out, List.take_of_length_le (by have := HLB.out; omega)]))
    have HC := hid hc
    clear hc
    go_wp2
    go_ret
    exact ⟨by rw [HF.out]; rfl, HC.out⟩
 ·have hne : ((la : Int) != (lb : Int)) = true := by rw [bne_iff_ne]; omega
  have HF := hid (q0x (show xs ≠ ys from fun e => hl (by rw [HLA.out, HLB.out, e])))
  clear hl
  go_enter Tryz.func270, Tryz.ntmps270
  go_wp2
  go_ret
  exact ⟨by rw [HF.out]; rfl, Chg.refl _ _⟩
theorem toList_inj {s t : ByteArray} (h : s.toList = t.toList) : s = t := by
 rw [ByteArray.toList_eq, ByteArray.toList_eq] at h
 exact ByteArray.ext (Array.toList_inj.1 h)
theorem z1a {P : Program} {w : World} {a : Option Addr} {la ca : Nat} {xs : List UInt8} {f : List Nat} (h : q0q.sl w a la ca xs f) (src e dst : TypeId)
  (hs : P.underlying src = some (.slice e)) (he : P.underlying e = some (.int .u8)) (hd : P.underlying dst = some .string) :
  (convert src dst (.slice a la ca)).run P w = .ok (.string ⟨xs.toArray⟩) w := by
 have hl := h.1
 by_cases h0 : la = 0
 ·subst h0
  obtain rfl : xs = [] := List.eq_nil_of_length_eq_zero hl.symm
  rw [run_convert_bytes_string w src dst e _ 0 ca hs he hd]
  cases a <;> simp [Conv.bytesToString, loadCells]
  all_goals rfl
 ·obtain ⟨x, X, b, o, _, rfl, _, _, _⟩ := q4f h (i := 0) (by omega)
  have := run_convert_bytes_arg (P := P) w src e hs he b o la ca (xs.map fun x => (x.toNat : Int)) (by simp [hl]) (fun i hi => by
   obtain ⟨y, Y, b', o', HY, e', hc, _, _⟩ := q4f h hi
   obtain ⟨rfl, rfl⟩ : b = b' ∧ o = o' := by simpa using e'
   rw [hc, HY.out.2.1, List.getD_eq_getElem?_getD, List.getElem?_map, HY.out.1]
   rfl) dst hd
  rw [this]
  congr 3
  unfold strOfNums
  congr 2
  rw [List.map_map]
  exact List.map_id'' (fun y => by simp) xs
theorem byEq_any (a b : Option Addr) (la ca lb cb : Nat) (xs ys : List UInt8) (f g : List Nat) (w : World) (ha : q0q.sl w a la ca xs f) (hb : q0q.sl w b lb cb ys g) :
  Calls Tryz.prog 204 #[.slice a la ca, .slice b lb cb] w fun e w' => e = .returned (.bool (q2f xs ys)) ∧ Chg [] w w' := by
 have h1 := z1a ha 62 5 9 Tryz.underlying62 Tryz.underlying5 Tryz.underlying9
 have h2 := z1a hb 62 5 9 Tryz.underlying62 Tryz.underlying5 Tryz.underlying9
 obtain ⟨s, hs⟩ : ∃ s : ByteArray, (⟨xs.toArray⟩ : ByteArray) = s := ⟨_, rfl⟩
 obtain ⟨t, ht⟩ : ∃ s : ByteArray, (⟨ys.toArray⟩ : ByteArray) = s := ⟨_, rfl⟩
 have hst : s = t ↔ xs = ys := by
  rw [← hs, ← ht]
  constructor
  ·intro h; have h2 := congrArg (fun z : ByteArray => z.data.toList) h; exact h2
  ·intro h; rw [h]
 rw [hs] at h1
 rw [ht] at h2
 have HST := hid hst
 clear ha hb hs ht hst
 by_cases heq : s = t
 ·have HF := hid (q2j (HST.out.1 heq))
  subst heq
  go_enter Tryz.func204, Tryz.ntmps204
  go_wp2
  go_ret
  exact ⟨by rw [HF.out]; first | rfl | simp, Chg.refl _ _⟩
 ·have hbt : (s.toList == t.toList) = false := by rw [beq_eq_false_iff_ne]; exact fun h => heq (toList_inj h)
  have HF := hid (q0x (fun h => heq (HST.out.2 h)))
  go_enter Tryz.func204, Tryz.ntmps204
  go_wp2
  go_ret
  exact ⟨by rw [HF.out]; first | rfl | simp, Chg.refl _ _⟩
theorem new_two (w : World) (x y : Obj) : ((w.alloc x).alloc y).heap[w.heap.size + 1]? = some y := by
 have h := q1a (w.alloc x) y
 simpa using h
end Go.Proofs.YtphmpimgbmedbaaGreat
