
/- The draws: a number of a source lies where it should; nothing more is said of it. -/
import Derived.Test.YtcejdmggacjnoaaRows
import Derived.Test.YtcejdmggacjnoaaWhT
import Derived.Deep.QuietTactic
import Derived.BigQuiet
import Derived.IntWalk
namespace Go.Proofs.Ytcejdmggacjnoaa
open Go.RowKit

/-- a number drawn below n (0 where n is below 1) -/
def Drawn (n v : Int) : Prop := 0 ≤ v ∧ (1 ≤ n → v < n) ∧ (n < 1 → v = 0)
theorem Drawn.zero {n : Int} (h : n < 1) : Drawn n 0 := ⟨by omega, by omega, fun _ => rfl⟩
theorem Drawn.emod {n v : Int} (h : 1 ≤ n) : Drawn n (v % n) := ⟨Int.emod_nonneg _ (by omega), fun _ => Int.emod_lt_of_pos _ (by omega), by omega⟩
theorem wrap_in {v : Int} (h : 0 ≤ v) (h2 : v ≤ 9223372036854775807) : IntKind.i64.wrap v = v := IntWalk.i64_in _ (by omega)


set_option maxRecDepth 100000 in
set_option maxHeartbeats 1000000 in
theorem l1Next_any (b : Nat) (a : Option Addr) (la ca : Nat) (xs : List UInt8) (f : List Nat) (t n : Int) (w : World) (hb : w.heap[b]? = some (.cells #[.slice a la ca, .int .i64 t] 69)) (ha : byteL.sl w a la ca xs f) (hbf : b ∉ f)
    (hla : la ≤ 1048576) (ht : 0 ≤ t) (ht2 : t ≤ 1073741824) (hn : -1099511627776 ≤ n) (hn2 : n ≤ 1099511627776) :
    Calls Try.prog 45 #[.pointer (some ⟨b, 0, none⟩), .int .i64 n] w fun e w' => ∃ v, e = .returned (.int .i64 v) ∧ Drawn n v ∧ w'.heap[b]? = some (.cells #[.slice a la ca, .int .i64 (t + 1)] 69) ∧ Chg [b] w w' := by
  have cb := cellsOf hb; have lb := ltOf hb; have fb := freeOf hb
  have hb2 := heap_set_lit (o := 1) (v := .int .i64 (t + 1)) (cur' := #[.slice a la ca, .int .i64 (t + 1)]) hb rfl
  have hc2 := Chg.setCell (Chg.refl [b] w) ⟨b, 1, none⟩ (.int .i64 (t + 1)) (.inl (by simp))
  have ha2 := byteL.sl_chg ha hc2 (fun x hx he => hbf (by simp at he; exact he ▸ hx))
  have HB := Lib.hid hb; have HB2 := Lib.hid hb2; have HC2 := Lib.hid hc2; have HA := Lib.hid ha2
  clear hb hb2 hc2 ha ha2 hbf
  by_cases h1 : n < 1
  · go_enter Try.func45, Try.ntmps45
    go_wp2_with fail
    go_ret
    exact ⟨0, rfl, Drawn.zero h1, HB2.out, HC2.out⟩
  have hp : (0 : Int) < n := by omega
  by_cases h2 : la = 0
  · subst h2
    have HD := Lib.hid (Drawn.emod (n := n) (v := t * 7) (by omega))
    go_enter Try.func45, Try.ntmps45
    go_wp2_with fail
    go_ret
    exact ⟨_, rfl, HD.out, HB2.out, HC2.out⟩
  have hk : (0 : Int) < (la : Int) := by omega
  obtain ⟨j, hj⟩ : ∃ j : Nat, t.tmod la = (j : Int) := ⟨(t.tmod la).toNat, by have := Int.tmod_nonneg (la : Int) ht; omega⟩
  obtain ⟨i, hi⟩ : ∃ i : Nat, (t + 1).tmod la = (i : Int) := ⟨((t + 1).tmod la).toNat, by have := Int.tmod_nonneg (la : Int) (show 0 ≤ t + 1 by omega); omega⟩
  have hjl : j < la := by have := Int.tmod_lt_of_pos t hk; omega
  have hil : i < la := by have := Int.tmod_lt_of_pos (t + 1) hk; omega
  obtain ⟨q, hq⟩ : ∃ q, t.tdiv la = q := ⟨_, rfl⟩
  have hq0 : 0 ≤ q := by rw [← hq]; exact Int.tdiv_nonneg ht (by omega)
  have hq1 : q ≤ t := by rw [← hq, Int.tdiv_eq_ediv_of_nonneg ht]; exact Int.ediv_le_self _ ht
  obtain ⟨x, X, B, o, HX, rfl, hcx, hx0, hx1⟩ := byte_at HA.out hjl
  obtain ⟨y, Y, B', o', HY, e', hcy, hy0, hy1⟩ := byte_at HA.out hil
  simp only [Option.some.injEq, Addr.mk.injEq, and_true] at e'
  obtain ⟨rfl, rfl⟩ := e'
  have e1 : IntKind.i64.wrap (t + 1) = t + 1 := wrap_in (by omega) (by omega)
  have e2 : IntKind.i64.wrap (q * 37) = q * 37 := wrap_in (by omega) (by omega)
  have e3 : IntKind.i64.wrap (X + q * 37) = X + q * 37 := wrap_in (by omega) (by omega)
  have hj1 : (j : Int) < (la : Int) := by omega
  have hi1 : (i : Int) < (la : Int) := by omega
  by_cases h3 : 200 < n
  · have e4 : IntKind.i64.wrap ((X + q * 37) * 251) = (X + q * 37) * 251 := wrap_in (by omega) (by omega)
    have e5 : IntKind.i64.wrap (Y * 13) = Y * 13 := wrap_in (by omega) (by omega)
    have e6 : IntKind.i64.wrap ((X + q * 37) * 251 + Y * 13) = (X + q * 37) * 251 + Y * 13 := wrap_in (by omega) (by omega)
    have e7 : IntKind.i64.wrap ((X + q * 37) * 251 + Y * 13 + t) = (X + q * 37) * 251 + Y * 13 + t := wrap_in (by omega) (by omega)
    have HD := Lib.hid (Drawn.emod (n := n) (v := (X + q * 37) * 251 + Y * 13 + t) (by omega))
    go_enter Try.func45, Try.ntmps45
    go_wp2_with fail
    go_quiet (fail)
    go_wp2_with fail
    go_quiet (fail)
    go_wp2_with fail
    go_ret
    exact ⟨_, rfl, HD.out, HB2.out, HC2.out.drewN _⟩
  · have HD := Lib.hid (Drawn.emod (n := n) (v := X + q * 37) (by omega))
    go_enter Try.func45, Try.ntmps45
    go_wp2_with fail
    go_quiet (fail)
    go_wp2_with fail
    go_ret
    exact ⟨_, rfl, HD.out, HB2.out, HC2.out.drewN _⟩


theorem int_rowL {w : World} : ∀ {xs : List Int}, (∀ x ∈ xs, i64ok x) → intL.all w (xs.map (Value.int IntKind.i64)) xs []
  | [], _ => ⟨rfl, rfl⟩
  | x :: xs, h => ⟨[.int .i64 x], xs.map (Value.int IntKind.i64), [], [], rfl, rfl, ⟨rfl, h x (by simp), rfl⟩, int_rowL (fun y hy => h y (by simp [hy]))⟩
/-- a row of numbers laid down at once is a slice -/
theorem int_rowS {w : World} {b : Nat} {E : TypeId} {xs : List Int} (hb : w.heap[b]? = some (.cells (xs.map (Value.int IntKind.i64)).toArray E)) (h : ∀ x ∈ xs, i64ok x) (hl : xs.length ≤ 1048576) :
    intL.sl w (some ⟨b, 0, none⟩) xs.length xs.length xs [b] :=
  ⟨rfl, Nat.le_refl _, by unfold maxLen; omega, (fun h => by cases h), .inr ⟨b, 0, _, E, (0, 0), [], rfl, hb, by
    have h1 := int_rowL (w := w) h
    rw [List.drop_zero, List.take_of_length_le (by simp [intL])]
    exact h1, rfl⟩⟩
theorem u8_mod (v : Int) : ∃ x : UInt8, v % 256 = (x.toNat : Int) := ⟨UInt8.ofNat (v % 256).toNat, by rw [UInt8.toNat_ofNat']; omega⟩

set_option maxRecDepth 100000 in
set_option maxHeartbeats 1000000 in
theorem l1Pick_any (b : Nat) (a : Option Addr) (la ca : Nat) (xs : List UInt8) (f : List Nat) (t : Int) (pa : Option Addr) (pl pc : Nat) (ys : List Int) (g : List Nat) (w : World) (hb : w.heap[b]? = some (.cells #[.slice a la ca, .int .i64 t] 69)) (ha : byteL.sl w a la ca xs f) (hbf : b ∉ f)
    (hla : la ≤ 1048576) (ht : 0 ≤ t) (ht2 : t ≤ 1073741824) (hp : intL.sl w pa pl pc ys g) (hbg : b ∉ g) (hpl : 1 ≤ pl) (hpl2 : pl ≤ 1000) :
    Calls Try.prog 46 #[.pointer (some ⟨b, 0, none⟩), .slice pa pl pc] w fun e w' => ∃ v, e = .returned (.int .i64 v) ∧ v ∈ ys ∧ w'.heap[b]? = some (.cells #[.slice a la ca, .int .i64 (t + 1)] 69) ∧ Chg [b] w w' := by
  have HN := Lib.hid (l1Next_any b a la ca xs f t (pl : Int) w hb ha hbf hla ht (by omega) (by omega) (by omega))
  have HP := Lib.hid (And.intro hp hbg)
  clear hb ha hbf hp hbg
  go_enter Try.func46, Try.ntmps46
  go_wp2_with fail
  refine HN.out.mono ?_
  rintro e w1 ⟨v, rfl, hD, hb1, hc⟩
  obtain ⟨j, rfl⟩ : ∃ j : Nat, v = (j : Int) := ⟨v.toNat, by have := hD.1; omega⟩
  have hjl : j < pl := by have := hD.2.1 (by omega); omega
  obtain ⟨y, B, o, HX, rfl, hcx, hok⟩ := int_at (intL.sl_chg HP.out.1 hc (fun x hx he => HP.out.2 (by simp at he; exact he ▸ hx))) hjl
  have HB := Lib.hid hb1; have HC := Lib.hid hc; have HD := Lib.hid hD
  clear hb1 hc hD
  go_wp2_with fail
  go_ret
  exact ⟨y, rfl, List.mem_of_getElem? HX.out.1, HB.out, HC.out⟩


set_option maxRecDepth 100000 in
set_option maxHeartbeats 1000000 in
theorem l1Byte_any (b : Nat) (a : Option Addr) (la ca : Nat) (xs : List UInt8) (f : List Nat) (t : Int) (w : World) (hb : w.heap[b]? = some (.cells #[.slice a la ca, .int .i64 t] 69)) (ha : byteL.sl w a la ca xs f) (hbf : b ∉ f)
    (hla : la ≤ 1048576) (ht : 0 ≤ t) (ht2 : t ≤ 1073741800) :
    Calls Try.prog 47 #[.pointer (some ⟨b, 0, none⟩)] w fun e w' => ∃ x : UInt8, e = .returned (.int .u8 x.toNat) ∧ w'.heap[b]? = some (.cells #[.slice a la ca, .int .i64 (t + 3)] 69) ∧ Chg [b] w w' := by
  have HN := Lib.hid (l1Next_any b a la ca xs f t 256 w hb ha hbf hla ht (by omega) (by omega) (by omega))
  have HA := Lib.hid ha; have HF := Lib.hid (fun x hx he => hbf (by simp at he; exact he ▸ hx) : ∀ x ∈ f, x ∉ [b])
  clear hb ha
  go_enter Try.func47, Try.ntmps47
  go_wp2_with fail
  refine HN.out.mono ?_
  rintro e w1 ⟨v1, rfl, hD1, hb1, hc1⟩
  have H1 := Lib.hid (And.intro hD1 (And.intro hb1 hc1))
  clear hD1 hb1 hc1
  go_wp2_with fail
  refine (l1Next_any b a la ca xs f (t + 1) 256 w1 H1.out.2.1 (byteL.sl_chg HA.out H1.out.2.2 HF.out) hbf hla (by omega) (by omega) (by omega) (by omega)).mono ?_
  rintro e w2 ⟨v2, rfl, hD2, hb2, hc2⟩
  have H2 := Lib.hid (And.intro hD2 (And.intro hb2 hc2))
  have lb2 := ltOf hb2
  clear hD2 hb2 hc2
  go_wp2_with fail
  have hrow := int_rowS (w := w2.alloc (.cells #[.int .i64 v1, .int .i64 v2, .int .i64 0, .int .i64 1, .int .i64 2, .int .i64 255] 2)) (b := w2.heap.size) (xs := [v1, v2, 0, 1, 2, 255]) (new_at rfl _) (by
    have q1 := H1.out.1.1; have q2 := H1.out.1.2.1 (by omega); have q3 := H2.out.1.1; have q4 := H2.out.1.2.1 (by omega)
    intro x hx; simp at hx; unfold i64ok; omega) (by simp)
  refine (l1Pick_any b a la ca xs f (t + 1 + 1) _ 6 6 [v1, v2, 0, 1, 2, 255] [w2.heap.size] _ (keep_alloc H2.out.2.1 _) (byteL.sl_ext (byteL.sl_chg (byteL.sl_chg HA.out H1.out.2.2 HF.out) H2.out.2.2 HF.out) ((Chg.refl [] w2).alloc _)) hbf hla (by omega) (by omega) hrow (by simp; omega) (by omega) (by omega)).mono ?_
  rintro e w3 ⟨v, rfl, hv, hb3, hc3⟩
  have HC := Lib.hid ((H1.out.2.2.trans H2.out.2.2 (by simp)).alloc _ |>.trans hc3 (by simp))
  obtain ⟨x, hx⟩ := u8_mod v
  have HB := Lib.hid (show w3.heap[b]? = some (.cells #[.slice a la ca, .int .i64 (t + 3)] 69) by rw [hb3]; congr 6; omega)
  clear hb3 hc3 hrow
  go_wp2_with fail
  go_ret
  exact ⟨x, by simp [hx], HB.out, HC.out⟩


theorem l1Source_any (a : Option Addr) (la ca : Nat) (w : World) :
    Calls Try.prog 26 #[.slice a la ca] w fun e w' => e = .returned (.pointer (some ⟨w.heap.size, 0, none⟩)) ∧ w'.heap[w.heap.size]? = some (.cells #[.slice a la ca, .int .i64 0] 69) ∧ Chg [] w w' := by
  have HN := Lib.hid (new_alloc w (.cells #[.slice a la ca, .int .i64 0] 69))
  go_enter Try.func26, Try.ntmps26
  go_wp2_with fail
  go_ret
  exact ⟨rfl, HN.out, (Chg.refl [] w).alloc _⟩


theorem lwBig_any (a : Option Addr) (la ca : Nat) (w : World) :
    Calls Try.prog 14 #[.slice a la ca] w fun e w' => e = .returned (.bool (decide (1048576 < (la : Int)))) ∧ w = w' := by
  go_enter Try.func14, Try.ntmps14
  go_wp2_with fail
  go_ret
  exact ⟨rfl, rfl⟩


end Go.Proofs.Ytcejdmggacjnoaa
