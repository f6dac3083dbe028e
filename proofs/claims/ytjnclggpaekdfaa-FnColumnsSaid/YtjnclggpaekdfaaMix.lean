
/- The walks of the two MixBytes: a sum of scaled lists. -/
import Derived.Test.YtjnclggpaekdfaaRows
import Derived.Test.YtjnclggpaekdfaaLsr
import Derived.Test.YtjnclggpaekdfaaBss
import Derived.Test.YtjnclggpaekdfaaCau
import Derived.Deep.RegionLaw
namespace Go.Proofs.Ytjnclggpaekdfaa
open Go.RowKit

/-- all lists as long as the first -/
def Alike (xs : List (List UInt8)) : Prop := ∀ x ∈ xs, x.length = (xs.headD []).length
instance (xs : List (List UInt8)) : Decidable (Alike xs) := by unfold Alike; infer_instance
theorem headD_at {xs : List (List UInt8)} {x : List UInt8} (h : xs[0]? = some x) : xs.headD [] = x := by
  cases xs with
  | nil => simp at h
  | cons y ys => simp at h; exact h


set_option maxHeartbeats 400000 in
theorem alike1_any (B n0 lx : Nat) (a A : Option Addr) (la ca C : Nat) (x0 : List UInt8) (xs : List (List UInt8)) (f : List Nat) (w : World) (hB : w.heap[B]? = some (.cells #[.slice a la ca] 24)) (ha : byteL.slice.sl w a la ca xs f) (h0 : 0 < la)
    (hx : RowKit.Hid (xs[0]? = some x0 ∧ x0.length = n0)) :
    Calls Try.prog 67 #[.slice A lx C, .pointer (some ⟨B, 0, none⟩)] w fun e w' => e = .returned (.bool ((lx : Int) != (n0 : Int))) ∧ w = w' := by
  have cB := cellsOf hB; have lB := ltOf hB
  have hla := byteL.slice.sl_max ha
  obtain ⟨y, b, o, A0, l0, C0, f0, HY, rfl, hc, HYS⟩ := slc_at ha h0
  obtain rfl : l0 = n0 := by
    have h1 := Option.some.inj (HY.out.1.symm.trans hx.out.1)
    rw [HYS.out.1, h1, hx.out.2]
  have hm0 := byteL.sl_max HYS.out
  have hc' : w.cell? ⟨b, o, none⟩ = some (.slice A0 l0 C0) := hc
  clear hc hx ha hB
  go_enter Try.func67, Try.ntmps67
  go_wp2
  go_ret
  exact ⟨rfl, rfl⟩


set_option maxHeartbeats 1000000 in
theorem idxF_any (B : Nat) (a : Option Addr) (la ca : Nat) (xs : List (List UInt8)) (f : List Nat) (w : World) (hB : w.heap[B]? = some (.cells #[.slice a la ca] 24)) (ha : byteL.slice.sl w a la ca xs f) (h0 : 0 < la) :
    Calls Try.prog 73 #[.slice a la ca, .func (.func 67) #[] #[.pointer (some ⟨B, 0, none⟩)]] w fun e w' => ∃ r : Int, e = .returned (.int .i64 r) ∧ RowKit.Hid (0 ≤ r ↔ ¬ Alike xs) ∧ w = w' := by
  have hla := byteL.slice.sl_max ha
  have HA := Lib.hid ha
  have HL := Lib.hid ha.1
  have HB := Lib.hid hB
  obtain ⟨x0, b0, o0, A0, n0, C0, f0, HX0, -, -, HXS0⟩ := slc_at ha h0
  have HH := Lib.hid (And.intro HX0.out.1 HXS0.out.1.symm)
  clear ha hB HX0 HXS0
  have HHD := Lib.hid (headD_at HH.out.1)
  go_enter Try.func73, Try.ntmps73
  go_wp2
  go_loop [5, 8] (fun _ i => ∃ k : Nat, k ≤ la ∧ i = .int .i64 k ∧ RowKit.Hid (∀ (j : Nat) x, j < k → xs[j]? = some x → x.length = n0)) (fun _ i => la - (intOf i).toNat)
  case atStart => exact ⟨0, by omega, rfl, fun j x hj => by omega⟩
  case round =>
    obtain ⟨k, hk, rfl, HK⟩ := hrel
    by_cases hlt : k < la
    · obtain ⟨x, b, off, A, lx, C, fx, HX, rfl, hcx, HXS⟩ := slc_at HA.out hlt
      have hmx := byteL.sl_max HXS.out
      have HC := Lib.hid (alike1_any B n0 lx _ A la ca C x0 xs f w HB.out HA.out h0 HH)
      by_cases heq : lx = n0
      · have HE := Lib.hid (show ((lx : Int) != (n0 : Int)) = false by simp [heq])
        have HK2 := Lib.hid (show ∀ (j : Nat) y, j < k + 1 → xs[j]? = some y → y.length = n0 from fun j y hj hy => by
          by_cases e : j = k
          · subst e; have h1 := Option.some.inj (hy.symm.trans HX.out.1); rw [h1, ← HXS.out.1, heq]
          · exact HK.out j y (by omega) hy)
        rw [HE.out] at HC
        clear heq
        go_wp2_with (go_at_call 67; refine HC.out.mono ?_; rintro e w' ⟨rfl, rfl⟩)
        go_round
        case rel => exact ⟨k + 1, by omega, by go_num, HK2⟩
        case measure => simp [intOf]; omega
      · have HE := Lib.hid (show ((lx : Int) != (n0 : Int)) = true by rw [bne_iff_ne]; omega)
        have HR := Lib.hid (show 0 ≤ (k : Int) ↔ ¬ Alike xs from ⟨fun _ ha => heq (by rw [HXS.out.1, ha x (List.mem_of_getElem? HX.out.1), HHD.out, HH.out.2]), fun _ => Int.natCast_nonneg k⟩)
        rw [HE.out] at HC
        clear heq
        go_wp2_with (go_at_call 67; refine HC.out.mono ?_; rintro e w' ⟨rfl, rfl⟩)
        go_ret
        exact ⟨_, rfl, HR, rfl⟩
    · have hkl : k = la := by omega
      subst hkl
      have HR := Lib.hid (show 0 ≤ (-1 : Int) ↔ ¬ Alike xs from ⟨fun h => by omega, fun hn => absurd (fun x hx => by
        obtain ⟨j, hj, rfl⟩ := List.getElem_of_mem hx
        rw [HHD.out, HH.out.2]
        exact HK.out j _ (by have := HL.out; omega) (List.getElem?_eq_getElem hj)) hn⟩)
      go_wp2
      go_ret
      exact ⟨_, rfl, HR, rfl⟩

set_option maxHeartbeats 400000 in
theorem contF_any (B : Nat) (a : Option Addr) (la ca : Nat) (xs : List (List UInt8)) (f : List Nat) (w : World) (hB : w.heap[B]? = some (.cells #[.slice a la ca] 24)) (ha : byteL.slice.sl w a la ca xs f) (h0 : 0 < la) :
    Calls Try.prog 66 #[.slice a la ca, .func (.func 67) #[] #[.pointer (some ⟨B, 0, none⟩)]] w fun e w' => e = .returned (.bool (!decide (Alike xs))) ∧ w = w' := by
  have HI := Lib.hid (idxF_any B a la ca xs f w hB ha h0)
  clear ha hB
  go_enter Try.func66, Try.ntmps66
  go_wp2_with fail
  refine HI.out.mono ?_
  rintro e w' ⟨r, rfl, HR, rfl⟩
  have HD : RowKit.Hid (decide (0 ≤ r) = !decide (Alike xs)) := by
    show _ = _
    by_cases h : Alike xs
    · have h1 : ¬ 0 ≤ r := fun h2 => HR.out.1 h2 h
      simp [h, h1]
    · have h1 := HR.out.2 h
      simp [h, h1]
  go_wp2_with fail
  go_ret
  refine ⟨?_, rfl⟩
  rw [← HD.out]
  rfl

set_option maxHeartbeats 400000 in
theorem alike_any (a : Option Addr) (la ca : Nat) (xs : List (List UInt8)) (f : List Nat) (w : World) (ha : byteL.slice.sl w a la ca xs f) (h0 : 0 < la) :
    Calls Try.prog 34 #[.slice a la ca] w fun e w' => e = .returned (.bool (decide (Alike xs))) ∧ w.alloc (.cells #[.slice a la ca] 24) = w' := by
  have hmf : ∀ (fn : Fn) (first cap : Array Value) (w : World), (Instr.makeFunc fn first cap).run Try.prog w = .ok (.func fn first cap) w := fun _ _ _ _ => rfl
  have HI := Lib.hid (contF_any w.heap.size a la ca xs f _ (new_alloc w (.cells #[.slice a la ca] 24)) (byteL.slice.sl_ext ha ((Chg.refl [] w).alloc _)) h0)
  clear ha
  go_enter Try.func34, Try.ntmps34
  go_wp2_with fail
  refine HI.out.mono ?_
  rintro e w' ⟨rfl, rfl⟩
  go_wp2_with fail
  go_ret
  exact ⟨by simp, rfl⟩


/-! ### the sum -/
def mixTo (xs : List (List UInt8)) (cs : List UInt8) (n0 : Nat) : Nat → List UInt8
  | 0 => List.replicate n0 0
  | k + 1 => addL (mixTo xs cs n0 k) (scaleL (xs.getD k []) (cs.getD k 0))
theorem mixTo_next {xs : List (List UInt8)} {cs : List UInt8} {n0 k : Nat} {x : List UInt8} {y : UInt8} (hx : xs[k]? = some x) (hy : cs[k]? = some y) : mixTo xs cs n0 (k + 1) = addL (mixTo xs cs n0 k) (scaleL x y) := by
  rw [mixTo, List.getD_eq_getElem?_getD, List.getD_eq_getElem?_getD, hx, hy]
  rfl
theorem mixTo_len {xs : List (List UInt8)} {cs : List UInt8} {n0 : Nat} (h : ∀ x ∈ xs, x.length = n0) : ∀ {k : Nat}, k ≤ xs.length → (mixTo xs cs n0 k).length = n0
  | 0, _ => by simp [mixTo]
  | k + 1, hk => by
    have ih := mixTo_len (cs := cs) h (k := k) (by omega)
    have hx : (xs.getD k []).length = n0 := by rw [List.getD_eq_getElem?_getD, List.getElem?_eq_getElem (show k < xs.length by omega)]; exact h _ (List.getElem_mem _)
    rw [mixTo, addL_len_eq (by rw [ih, scaleL_length, hx]), ih]
def mixRes (xs : List (List UInt8)) (cs : List UInt8) : Int × List UInt8 :=
  if xs.length = 0 ∨ cs.length ≠ xs.length then (1, []) else if ¬ Alike xs then (1, []) else if 20 < xs.length ∨ 4000 < (xs.headD []).length then (2, []) else (0, mixTo xs cs (xs.headD []).length xs.length)


set_option maxRecDepth 100000 in
set_option maxHeartbeats 1000000 in
theorem mixed_any (a b : Option Addr) (la ca cb n0 : Nat) (xs : List (List UInt8)) (cs : List UInt8) (f g : List Nat) (w : World) (ha : byteL.slice.sl w a la ca xs f) (hb : byteL.sl w b la cb cs g) (h0 : 0 < la) (hn : n0 ≤ 140737488355327) (hal : RowKit.Hid (∀ x ∈ xs, x.length = n0)) :
    Calls Try.prog 68 #[.slice a la ca, .slice b la cb] w (NewSl byteL (mixTo xs cs n0 la) w) := by
  have hla := byteL.slice.sl_max ha
  have hmk := make_bytes n0 (by omega)
  have HA := Lib.hid ha
  have HB := Lib.hid hb
  have HL := Lib.hid ha.1
  obtain ⟨x0, b0, o0, A0, l0, C0, f0, HX0, e0, hc0, HXS0⟩ := slc_at ha h0
  obtain rfl : l0 = n0 := by rw [HXS0.out.1]; exact hal.out x0 (List.mem_of_getElem? HX0.out.1)
  have hc0' : w.cell? ⟨b0, o0, none⟩ = some (.slice A0 l0 C0) := hc0
  subst e0
  clear ha hb hc0 HX0 HXS0
  go_enter Try.func68, Try.ntmps68
  go_wp2_with fail
  go_loopw [15] (fun i wr => ∃ k : Nat, k ≤ la ∧ i = .int .i64 k ∧ byteL.sl wr (some ⟨w.heap.size, 0, none⟩) l0 l0 (mixTo xs cs l0 k) [w.heap.size] ∧ Loose wr w.heap.size ∧ Chg [] w wr) (fun i _ => la - (intOf i).toNat)
  case atStart => exact ⟨0, by omega, rfl, byte_zrow w 5 l0 (by omega), ⟨_, _, new_alloc w _⟩, (Chg.refl [] w).alloc _⟩
  case round =>
    obtain ⟨k, hk, rfl, hs, hlo, hc⟩ := hrel
    by_cases hlt : k < la
    · obtain ⟨x, bx, ox, A, lx, C, fx, HX, ex, hcx, HXS⟩ := slc_at (byteL.slice.sl_ext HA.out hc) hlt
      obtain ⟨rfl, rfl⟩ : b0 = bx ∧ o0 = ox := by simpa using ex
      obtain rfl : lx = l0 := by rw [HXS.out.1]; exact hal.out x (List.mem_of_getElem? HX.out.1)
      obtain ⟨y, Y, by', oy, HY, rfl, hcy, hy1, hy2⟩ := byte_at (byteL.sl_ext HB.out hc) hlt
      have HP := Lib.hid (put_any (some ⟨w.heap.size, 0, none⟩) A lx lx C _ x _ fx y wr hs ⟨by simp, fun z hz => by simp at hz; subst hz; exact ⟨Nat.zero_le _, hlo⟩⟩ HXS.out (fun z hz hz' => by simp at hz'; subst hz'; exact Nat.lt_irrefl _ (byteL.slice.sl_lt HA.out _ (HX.out.2.2 _ hz))))
      have HE := Lib.hid (mixTo_next (n0 := lx) HX.out.1 HY.out.1)
      have HC := Lib.hid hc
      have HLo := Lib.hid hlo
      rw [HY.out.2.1] at hcy
      clear hs hc hlo ex hy1 hy2
      go_wp2_with fail
      refine HP.out.mono ?_
      rintro e w1 ⟨rfl, hs1, hc1⟩
      rw [← HE.out] at hs1
      have HN := Lib.hid (And.intro hs1 (And.intro (hc1.loose _ HLo.out) (HC.out.trans hc1 (fun z hz => .inr (by simp at hz; omega)))))
      clear hs1 hc1
      go_wp2_with fail
      go_roundw
      case rel => exact ⟨k + 1, by omega, by go_num, HN.out.1, HN.out.2.1, HN.out.2.2⟩
      case measure => simp [intOf]; omega
    · have hkl : k = la := by omega
      subst hkl
      have hlen := Lib.hid (mixTo_len (cs := cs) hal.out (k := k) (by have := HL.out; omega))
      have hN : NewSl byteL (mixTo xs cs l0 k) w (.returned (.slice (some ⟨w.heap.size, 0, none⟩) l0 l0)) wr := by
        refine ⟨some ⟨w.heap.size, 0, none⟩, l0, [w.heap.size], by rw [hlen.out], by rw [hlen.out]; exact hs, ⟨by simp, fun b hb => by simp at hb; subst hb; exact ⟨Nat.le_refl _, hlo⟩⟩, hc⟩
      have HN := Lib.hid hN
      clear hN hs hlo hc
      go_wp2_with fail
      go_ret
      exact HN.out


set_option maxRecDepth 100000 in
set_option maxHeartbeats 1000000 in
theorem l1Mix_any (a b : Option Addr) (la ca cb n0 : Nat) (xs : List (List UInt8)) (cs : List UInt8) (f g : List Nat) (w : World) (ha : byteL.slice.sl w a la ca xs f) (hb : byteL.sl w b la cb cs g) (h0 : 0 < la) (hn : n0 ≤ 140737488355327) (hal : RowKit.Hid (∀ x ∈ xs, x.length = n0)) :
    Calls Try.prog 59 #[.slice a la ca, .slice b la cb] w (NewSl byteL (mixTo xs cs n0 la) w) := by
  have hla := byteL.slice.sl_max ha
  have hmk := make_bytes n0 (by omega)
  have HA := Lib.hid ha
  have HB := Lib.hid hb
  have HL := Lib.hid ha.1
  obtain ⟨x0, b0, o0, A0, l0, C0, f0, HX0, e0, hc0, HXS0⟩ := slc_at ha h0
  obtain rfl : l0 = n0 := by rw [HXS0.out.1]; exact hal.out x0 (List.mem_of_getElem? HX0.out.1)
  have hc0' : w.cell? ⟨b0, o0, none⟩ = some (.slice A0 l0 C0) := hc0
  subst e0
  clear ha hb hc0 HX0 HXS0
  go_enter Try.func59, Try.ntmps59
  go_wp2_with fail
  go_loopw [5, 6] (fun v i wr => ∃ (k : Nat) (a1 : Option Addr) (c1 : Nat) (f1 : List Nat), k ≤ la ∧ i = .int .i64 k ∧ v = .slice a1 l0 c1 ∧ byteL.sl wr a1 l0 c1 (mixTo xs cs l0 k) f1 ∧ Fresh w.heap.size wr f1 ∧ Chg [] w wr) (fun _ i _ => la - (intOf i).toNat)
  case atStart => exact ⟨0, _, _, _, by omega, rfl, rfl, byte_zrow w 5 l0 (by omega), fresh_new w _ _, (Chg.refl [] w).alloc _⟩
  case round =>
    obtain ⟨k, a1, c1, f1, hk, rfl, rfl, hs, hf, hc⟩ := hrel
    by_cases hlt : k < la
    · obtain ⟨x, bx, ox, A, lx, C, fx, HX, ex, hcx, HXS⟩ := slc_at (byteL.slice.sl_ext HA.out hc) hlt
      obtain ⟨rfl, rfl⟩ : b0 = bx ∧ o0 = ox := by simpa using ex
      obtain rfl : lx = l0 := by rw [HXS.out.1]; exact hal.out x (List.mem_of_getElem? HX.out.1)
      obtain ⟨y, Y, by', oy, HY, rfl, hcy, hy1, hy2⟩ := byte_at (byteL.sl_ext HB.out hc) hlt
      have HP := Lib.hid (l1Scale_any A lx C x fx y wr.drew (byteL.sl_keep HXS.out (fun _ _ => rfl)) (by omega))
      have HE := Lib.hid (mixTo_next (n0 := lx) HX.out.1 HY.out.1)
      have HSL := Lib.hid (show (scaleL x y).length = lx by rw [scaleL_length, ← HXS.out.1])
      have HML := Lib.hid (mixTo_len (cs := cs) hal.out (k := k + 1) (by have := HL.out; omega))
      have HC := Lib.hid hc
      have HS := Lib.hid hs
      have HFr := Lib.hid hf
      rw [HY.out.2.1] at hcy
      clear hs hc hf ex hy1 hy2
      go_wp2_with fail
      go_region_law (first | (go_simp; go_at_call 78; refine HP.out.mono ?_; rintro e w1 ⟨a2, c2, f2, rfl, hs2, hf2, hc2⟩; rw [HSL.out] at hs2 ⊢; have HS2 := Lib.hid hs2; have HC2 := Lib.hid hc2; clear hs2 hf2 hc2) | (go_simp; go_at_call 77; refine (l1Add_any a1 a2 lx c1 lx c2 _ _ f1 f2 w1 (byteL.sl_ext HS.out (Chg.trans0 ((Chg.refl [] wr).drew) HC2.out)) HS2.out (Nat.le_refl _) (by omega)).mono ?_; rintro e w2 ⟨a3, c3, f3, rfl, hs3, hf3, hc3⟩; rw [← HE.out, HML.out] at hs3 ⊢; have HN := Lib.hid (And.intro hs3 (And.intro (hf3.mono (Nat.le_trans HC.out.size HC2.out.size)) (HC.out.drew.trans0 (HC2.out.trans0 hc3)))); clear hs3 hf3 hc3))
      all_goals
        go_wp2
        go_roundw
        case rel => exact ⟨k + 1, a3, c3, f3, by omega, by go_num, rfl, HN.out.1, HN.out.2.1, HN.out.2.2⟩
        case measure => simp [intOf]; omega
    · have hkl : k = la := by omega
      subst hkl
      have hlen := Lib.hid (mixTo_len (cs := cs) hal.out (k := k) (by have := HL.out; omega))
      have hN : NewSl byteL (mixTo xs cs l0 k) w (.returned (.slice a1 l0 c1)) wr := by
        exact ⟨a1, c1, f1, by rw [hlen.out], by rw [hlen.out]; exact hs, hf, hc⟩
      have HN := Lib.hid hN
      clear hN hs hf hc
      go_wp2_with fail
      go_ret
      exact HN.out






theorem mixRes_len {xs : List (List UInt8)} {cs : List UInt8} : (mixRes xs cs).2.length ≤ 4000 := by
  unfold mixRes
  split
  · simp
  · split
    · simp
    · rename_i h
      split
      · simp
      · rename_i h2
        have hal : Alike xs := by simpa using h
        show (mixTo xs cs _ xs.length).length ≤ 4000
        rw [mixTo_len hal (Nat.le_refl _)]
        omega


end Go.Proofs.Ytjnclggpaekdfaa
