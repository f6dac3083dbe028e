import Derived.Test.YtphmpimgbmedbaaGreatRows
import Derived.Test.YtphmpimgbmedbaaGreatHelpM
import Derived.Test.YtphmpimgbmedbaaGreatMd
import Derived.Laws.BytesArg
import Derived.Deep.RegionLaw
/- The walks that compare lists and records. -/
namespace Go.Proofs.YtphmpimgbmedbaaGreat
open Go.RowKit

theorem take_ne {α : Type} {xs ys : List α} {k : Nat} {x y : α} (hx : xs[k]? = some x) (hy : ys[k]? = some y) (h : x ≠ y) : xs ≠ ys := fun e => by
  subst e; exact h (Option.some.inj (hx.symm.trans hy))
noncomputable def sameV {α : Type} (x y : α) : Bool := @decide (x = y) (Classical.propDecidable _)
theorem sameV_true {α : Type} {x y : α} (h : x = y) : sameV x y = true := by unfold sameV; simp [h]
theorem sameV_false {α : Type} {x y : α} (h : x ≠ y) : sameV x y = false := by unfold sameV; simp [h]


set_option maxRecDepth 100000 in
set_option maxHeartbeats 1000000 in
theorem l6Nums_any (a b : Option Addr) (la ca lb cb : Nat) (xs ys : List Int) (f g : List Nat) (w : World) (ha : intL.sl w a la ca xs f) (hb : intL.sl w b lb cb ys g) :
    Calls Tryz.prog 269 #[.slice a la ca, .slice b lb cb] w fun e w' => e = .returned (.bool (sameV xs ys)) ∧ Chg [] w w' := by
  have hma := intL.sl_max ha
  have hmb := intL.sl_max hb
  have HLA := Lib.hid ha.1
  have HLB := Lib.hid hb.1
  have HA := Lib.hid ha
  have HB := Lib.hid hb
  clear ha hb
  by_cases hl : la = lb
  · subst hl
    have hne : ((la : Int) != (la : Int)) = false := by simp
    go_enter Tryz.func269, Tryz.ntmps269
    go_wp2
    go_loopw [5] (fun i wr => ∃ k : Nat, k ≤ la ∧ i = .int .i64 k ∧ Chg [] w wr ∧ RowKit.Hid (xs.take k = ys.take k)) (fun i _ => la - (intOf i).toNat)
    case atStart => exact ⟨0, by omega, rfl, Chg.refl _ _, rfl⟩
    case round =>
      obtain ⟨k, hk, rfl, hc, HT⟩ := hrel
      by_cases hlt : k < la
      · obtain ⟨x, b1, o1, HX, rfl, hcx, _⟩ := int_at (intL.sl_ext HA.out hc) hlt
        obtain ⟨y, b2, o2, HY, rfl, hcy, _⟩ := int_at (intL.sl_ext HB.out hc) hlt
        by_cases heq : x = y
        · have HT2 := Lib.hid (show xs.take (k + 1) = ys.take (k + 1) by rw [take_next HX.out.1, take_next HY.out.1, HT.out, heq])
          subst heq
          have hxx : (x != x) = false := by simp
          have HC := Lib.hid hc
          clear hc
          go_wp2_with fail
          go_region
          all_goals (try go_wp2)
          all_goals
            go_roundw
            case rel => exact ⟨k + 1, by omega, by go_num, HC.out.drew, HT2⟩
            case measure => simp [intOf]; omega
        · have HF := Lib.hid (sameV_false (take_ne HX.out.1 HY.out.1 heq))
          have hxx : (x != y) = true := by rw [bne_iff_ne]; exact heq
          have HC := Lib.hid hc
          clear hc heq
          go_wp2_with fail
          go_region
          all_goals (try go_wp2)
          all_goals
            go_ret
            exact ⟨by rw [HF.out]; rfl, HC.out.drew⟩
      · have hkl : k = la := by omega
        subst hkl
        have HF := Lib.hid (sameV_true (show xs = ys by rw [← List.take_of_length_le (l := xs) (i := k) (by have := HLA.out; omega), HT.out, List.take_of_length_le (by have := HLB.out; omega)]))
        have HC := Lib.hid hc
        clear hc
        go_wp2
        go_ret
        exact ⟨by rw [HF.out]; rfl, HC.out⟩
  · have hne : ((la : Int) != (lb : Int)) = true := by rw [bne_iff_ne]; omega
    have HF := Lib.hid (sameV_false (show xs ≠ ys from fun e => hl (by rw [HLA.out, HLB.out, e])))
    clear hl
    go_enter Tryz.func269, Tryz.ntmps269
    go_wp2
    go_ret
    exact ⟨by rw [HF.out]; rfl, Chg.refl _ _⟩


set_option maxRecDepth 100000 in
set_option maxHeartbeats 1000000 in
theorem slEq_any (a b : Option Addr) (la ca lb cb : Nat) (xs ys : List Int) (f g : List Nat) (w : World) (ha : intL.sl w a la ca xs f) (hb : intL.sl w b lb cb ys g) :
    Calls Tryz.prog 203 #[.slice a la ca, .slice b lb cb] w fun e w' => e = .returned (.bool (sameV xs ys)) ∧ Chg [] w w' := by
  have hma := intL.sl_max ha
  have hmb := intL.sl_max hb
  have HLA := Lib.hid ha.1
  have HLB := Lib.hid hb.1
  have HA := Lib.hid ha
  have HB := Lib.hid hb
  clear ha hb
  by_cases hl : la = lb
  · subst hl
    have hne : ((la : Int) != (la : Int)) = false := by simp
    go_enter Tryz.func203, Tryz.ntmps203
    go_wp2
    go_loopw [13] (fun i wr => ∃ k : Nat, k ≤ la ∧ i = .int .i64 k ∧ Chg [] w wr ∧ RowKit.Hid (xs.take k = ys.take k)) (fun i _ => la - (intOf i).toNat)
    case atStart => exact ⟨0, by omega, rfl, Chg.refl _ _, rfl⟩
    case round =>
      obtain ⟨k, hk, rfl, hc, HT⟩ := hrel
      by_cases hlt : k < la
      · obtain ⟨x, b1, o1, HX, rfl, hcx, _⟩ := int_at (intL.sl_ext HA.out hc) hlt
        obtain ⟨y, b2, o2, HY, rfl, hcy, _⟩ := int_at (intL.sl_ext HB.out hc) hlt
        by_cases heq : x = y
        · have HT2 := Lib.hid (show xs.take (k + 1) = ys.take (k + 1) by rw [take_next HX.out.1, take_next HY.out.1, HT.out, heq])
          subst heq
          have hxx : (x != x) = false := by simp
          have HC := Lib.hid hc
          clear hc
          go_wp2_with fail
          go_region
          all_goals (try go_wp2)
          all_goals
            go_roundw
            case rel => exact ⟨k + 1, by omega, by go_num, HC.out.drew, HT2⟩
            case measure => simp [intOf]; omega
        · have HF := Lib.hid (sameV_false (take_ne HX.out.1 HY.out.1 heq))
          have hxx : (x != y) = true := by rw [bne_iff_ne]; exact heq
          have HC := Lib.hid hc
          clear hc heq
          go_wp2_with fail
          go_region
          all_goals (try go_wp2)
          all_goals
            go_ret
            exact ⟨by rw [HF.out]; rfl, HC.out.drew⟩
      · have hkl : k = la := by omega
        subst hkl
        have HF := Lib.hid (sameV_true (show xs = ys by rw [← List.take_of_length_le (l := xs) (i := k) (by have := HLA.out; omega), HT.out, List.take_of_length_le (by have := HLB.out; omega)]))
        have HC := Lib.hid hc
        clear hc
        go_wp2
        go_ret
        exact ⟨by rw [HF.out]; rfl, HC.out⟩
  · have hne : ((la : Int) != (lb : Int)) = true := by rw [bne_iff_ne]; omega
    have HF := Lib.hid (sameV_false (show xs ≠ ys from fun e => hl (by rw [HLA.out, HLB.out, e])))
    clear hl
    go_enter Tryz.func203, Tryz.ntmps203
    go_wp2
    go_ret
    exact ⟨by rw [HF.out]; rfl, Chg.refl _ _⟩


set_option maxRecDepth 100000 in
set_option maxHeartbeats 1000000 in
theorem l2Same_any (a b : Option Addr) (la ca lb cb : Nat) (xs ys : List UInt8) (f g : List Nat) (w : World) (ha : byteL.sl w a la ca xs f) (hb : byteL.sl w b lb cb ys g) :
    Calls Tryz.prog 270 #[.slice a la ca, .slice b lb cb] w fun e w' => e = .returned (.bool (sameV xs ys)) ∧ Chg [] w w' := by
  have hma := byteL.sl_max ha
  have hmb := byteL.sl_max hb
  have HLA := Lib.hid ha.1
  have HLB := Lib.hid hb.1
  have HA := Lib.hid ha
  have HB := Lib.hid hb
  clear ha hb
  by_cases hl : la = lb
  · subst hl
    have hne : ((la : Int) != (la : Int)) = false := by simp
    go_enter Tryz.func270, Tryz.ntmps270
    go_wp2
    go_loopw [5] (fun i wr => ∃ k : Nat, k ≤ la ∧ i = .int .i64 k ∧ Chg [] w wr ∧ RowKit.Hid (xs.take k = ys.take k)) (fun i _ => la - (intOf i).toNat)
    case atStart => exact ⟨0, by omega, rfl, Chg.refl _ _, rfl⟩
    case round =>
      obtain ⟨k, hk, rfl, hc, HT⟩ := hrel
      by_cases hlt : k < la
      · obtain ⟨x, X, b1, o1, HX, rfl, hcx, _, _⟩ := byte_at (byteL.sl_ext HA.out hc) hlt
        obtain ⟨y, Y, b2, o2, HY, rfl, hcy, _, _⟩ := byte_at (byteL.sl_ext HB.out hc) hlt
        by_cases heq : x = y
        · have HT2 := Lib.hid (show xs.take (k + 1) = ys.take (k + 1) by rw [take_next HX.out.1, take_next HY.out.1, HT.out, heq])
          have hXY : X = Y := by rw [HX.out.2.1, HY.out.2.1, heq]
          subst hXY
          have hxx : (X != X) = false := by simp
          have HC := Lib.hid hc
          clear hc
          go_wp2_with fail
          go_region
          all_goals (try go_wp2)
          all_goals
            go_roundw
            case rel => exact ⟨k + 1, by omega, by go_num, HC.out.drew, HT2⟩
            case measure => simp [intOf]; omega
        · have HF := Lib.hid (sameV_false (take_ne HX.out.1 HY.out.1 heq))
          have hxx : (X != Y) = true := by rw [bne_iff_ne]; intro e; exact heq (UInt8.toNat_inj.1 (by have h1 := HX.out.2.1; have h2 := HY.out.2.1; omega))
          have HC := Lib.hid hc
          clear hc heq
          go_wp2_with fail
          go_region
          all_goals (try go_wp2)
          all_goals
            go_ret
            exact ⟨by rw [HF.out]; rfl, HC.out.drew⟩
      · have hkl : k = la := by omega
        subst hkl
        have HF := Lib.hid (sameV_true (show xs = ys by rw [← List.take_of_length_le (l := xs) (i := k) (by have := HLA.out; omega), HT.out, List.take_of_length_le (by have := HLB.out; omega)]))
        have HC := Lib.hid hc
        clear hc
        go_wp2
        go_ret
        exact ⟨by rw [HF.out]; rfl, HC.out⟩
  · have hne : ((la : Int) != (lb : Int)) = true := by rw [bne_iff_ne]; omega
    have HF := Lib.hid (sameV_false (show xs ≠ ys from fun e => hl (by rw [HLA.out, HLB.out, e])))
    clear hl
    go_enter Tryz.func270, Tryz.ntmps270
    go_wp2
    go_ret
    exact ⟨by rw [HF.out]; rfl, Chg.refl _ _⟩


theorem toList_inj {s t : ByteArray} (h : s.toList = t.toList) : s = t := by
  rw [ByteArray.toList_eq, ByteArray.toList_eq] at h
  exact ByteArray.ext (Array.toList_inj.1 h)
/-- string(b) of a list of bytes -/
theorem sl_convert {P : Program} {w : World} {a : Option Addr} {la ca : Nat} {xs : List UInt8} {f : List Nat} (h : byteL.sl w a la ca xs f) (src e dst : TypeId)
    (hs : P.underlying src = some (.slice e)) (he : P.underlying e = some (.int .u8)) (hd : P.underlying dst = some .string) :
    (convert src dst (.slice a la ca)).run P w = .ok (.string ⟨xs.toArray⟩) w := by
  have hl := h.1
  by_cases h0 : la = 0
  · subst h0
    obtain rfl : xs = [] := List.eq_nil_of_length_eq_zero hl.symm
    rw [run_convert_bytes_string w src dst e _ 0 ca hs he hd]
    cases a <;> simp [Conv.bytesToString, loadCells]
    all_goals rfl
  · obtain ⟨x, X, b, o, _, rfl, _, _, _⟩ := byte_at h (i := 0) (by omega)
    have := run_convert_bytes_arg (P := P) w src e hs he b o la ca (xs.map fun x => (x.toNat : Int)) (by simp [hl]) (fun i hi => by
      obtain ⟨y, Y, b', o', HY, e', hc, _, _⟩ := byte_at h hi
      obtain ⟨rfl, rfl⟩ : b = b' ∧ o = o' := by simpa using e'
      rw [hc, HY.out.2.1, List.getD_eq_getElem?_getD, List.getElem?_map, HY.out.1]
      rfl) dst hd
    rw [this]
    congr 3
    unfold strOfNums
    congr 2
    rw [List.map_map]
    exact List.map_id'' (fun y => by simp) xs


set_option maxHeartbeats 400000 in
theorem byEq_any (a b : Option Addr) (la ca lb cb : Nat) (xs ys : List UInt8) (f g : List Nat) (w : World) (ha : byteL.sl w a la ca xs f) (hb : byteL.sl w b lb cb ys g) :
    Calls Tryz.prog 204 #[.slice a la ca, .slice b lb cb] w fun e w' => e = .returned (.bool (sameV xs ys)) ∧ Chg [] w w' := by
  have h1 := sl_convert ha 62 5 9 Tryz.underlying62 Tryz.underlying5 Tryz.underlying9
  have h2 := sl_convert hb 62 5 9 Tryz.underlying62 Tryz.underlying5 Tryz.underlying9
  obtain ⟨s, hs⟩ : ∃ s : ByteArray, (⟨xs.toArray⟩ : ByteArray) = s := ⟨_, rfl⟩
  obtain ⟨t, ht⟩ : ∃ s : ByteArray, (⟨ys.toArray⟩ : ByteArray) = s := ⟨_, rfl⟩
  have hst : s = t ↔ xs = ys := by
    rw [← hs, ← ht]
    constructor
    · intro h; have h2 := congrArg (fun z : ByteArray => z.data.toList) h; exact h2
    · intro h; rw [h]
  rw [hs] at h1
  rw [ht] at h2
  have HST := Lib.hid hst
  clear ha hb hs ht hst
  by_cases heq : s = t
  · have HF := Lib.hid (sameV_true (HST.out.1 heq))
    subst heq
    go_enter Tryz.func204, Tryz.ntmps204
    go_wp2
    go_ret
    exact ⟨by rw [HF.out]; first | rfl | simp, Chg.refl _ _⟩
  · have hbt : (s.toList == t.toList) = false := by rw [beq_eq_false_iff_ne]; exact fun h => heq (toList_inj h)
    have HF := Lib.hid (sameV_false (fun h => heq (HST.out.2 h)))
    go_enter Tryz.func204, Tryz.ntmps204
    go_wp2
    go_ret
    exact ⟨by rw [HF.out]; first | rfl | simp, Chg.refl _ _⟩

theorem new_two (w : World) (x y : Obj) : ((w.alloc x).alloc y).heap[w.heap.size + 1]? = some y := by
  have h := new_alloc (w.alloc x) y
  simpa using h


end Go.Proofs.YtphmpimgbmedbaaGreat
