
/- The walks of AddBytes, ScaleBytes and AddShare, of the program and of the reference. -/
import Derived.Test.YtlnclkjmlpipgaaLst
namespace Go.Proofs.Ytlnclkjmlpipgaa
open Go.RowKit

/-- what a call hands back that makes a code and a slice anew -/
def NewRes {α : Type} (L : Lay α) (r : Int × List α) (w : World) (e : Ending) (w' : World) : Prop :=
  ∃ a cap fp, e = .returned (.agg #[.int .i64 r.1, .slice a r.2.length cap]) ∧ L.sl w' a r.2.length cap r.2 fp ∧ Fresh w.heap.size w' fp ∧ Chg [] w w'

theorem NewRes.code {α : Type} (L : Lay α) {n : Int} {r : Int × List α} (hr : r = (n, [])) {w w' : World} (hc : Chg [] w w') : NewRes L r w (.returned (.agg #[.int .i64 n, .slice none 0 0])) w' := by
  subst hr
  exact ⟨none, 0, [], rfl, ⟨rfl, Nat.le_refl _, by simp [maxLen], fun _ => rfl, .inl ⟨rfl, rfl⟩⟩, Fresh.nil _ _, hc⟩


set_option maxHeartbeats 400000 in
theorem clone_bytes (a : Option Addr) (la ca : Nat) (xs : List UInt8) (f : List Nat) (w : World) (ha : Lay.sl byteL w a la ca xs f) (hz : la * 1 ≤ 140737488355327) :
    Calls Try.prog 144 #[.slice a la ca] w (NewRow byteL xs f w) := by
  obtain ⟨K, _⟩ := kindB
  have HZ := Lib.hid hz
  clear hz
  cases a with
  | none =>
    have hn := fun w => Lib.run_eql_slice_nil (P := Try.prog) w 22 5 none la ca 0 0 Try.underlying22
    have hN : NewRow byteL xs f w (.returned (.slice none 0 0)) w := by
      obtain rfl : xs = [] := by apply List.eq_nil_of_length_eq_zero; have := ha.1; have := ha.2.1; have := ha.2.2.2.1 rfl; omega
      exact ⟨5, _, none, [], rfl, Lay.os_nil _ _ _, by simp, by simp, Chg.refl _ _⟩
    have HN := Lib.hid hN
    clear hN
    go_enter Try.func144, Try.ntmps144
    go_wp2
    go_ret
    exact HN.out
  | some ad =>
    have hn := fun w => Lib.run_eql_slice_nil (P := Try.prog) w 22 5 (some ad) la ca 0 0 Try.underlying22
    obtain ⟨news, fps, hnews, hall, hsub⟩ := Lay.sl_cells _ (Lay.sl_ext _ ha ((Chg.refl [] w).alloc (.cells #[] 5)))
    have HA := Lib.hid ha
    have HW := Lib.hid (And.intro hnews (And.intro hall hsub))
    have HL : RowKit.Hid (([] : List UInt8).length + xs.length ≤ maxLen ∧ (([] : List UInt8).length + xs.length) * 1 ≤ 140737488355328 ∧ w.heap.size ∉ fps) := by
      have := HA.out.1; have := HZ.out; have := Lay.sl_max _ ha
      refine ⟨?_, ?_, fun hb => ?_⟩
      · simp only [List.length_nil, maxLen]; omega
      · simp only [List.length_nil, Nat.zero_add]; omega
      · have := Lay.sl_lt _ ha _ (hsub _ hb); omega
    clear ha hnews hall hsub
    go_enter Try.func144, Try.ntmps144
    go_wp2_with (refine Lay.wpList_append byteL rfl _ _ 22 rfl Try.underlying22 K rfl (Lay.os_made byteL 5 w #[] 0 (by simp [maxLen]) rfl) ad la ca news rfl HA.out.1 HW.out.1 HW.out.2.1 (fun g hg => by cases hg; exact HL.out.2.2) HL.out.1 HL.out.2.1 ?_; intro v' w' h' ho' hh' hc'; have hN := Lib.hid (And.intro ho' (And.intro hh' hc')); clear ho' hh' hc')
    go_ret
    obtain ⟨ho, hh, hc⟩ := hN.out
    refine ⟨_, _, h', _, rfl, ho, by simpa using HW.out.2.2, ?_, ((Chg.refl [] w).alloc _).trans hc (fun x hx => .inr (by simp at hx; omega))⟩
    intro g hg
    rcases hh with rfl | rfl
    · cases hg; exact Nat.le_refl _
    · cases hg; simp


set_option maxHeartbeats 400000 in
theorem sum_any (a b : Option Addr) (la ca cb : Nat) (xs ys : List UInt8) (f g : List Nat) (c : UInt8) (w : World) (ha : byteL.sl w a la ca xs f) (hb : byteL.sl w b la cb ys g) (hz : la ≤ 140737488355327) :
    Calls Try.prog 139 #[.slice a la ca, .slice b la cb, .int .u8 c.toNat] w (NewSl byteL (addL xs (scaleL ys c)) w) := by
  have H1 := Lib.hid (clone_bytes a la ca xs f w ha (by omega))
  have HA := Lib.hid ha.1
  have HB := Lib.hid hb
  clear ha hb
  go_enter Try.func139, Try.ntmps139
  go_wp2_with fail
  refine H1.out.mono ?_
  intro e w1 hn
  obtain ⟨a1, c1, f1, rfl, hs, hf, hc⟩ := NewRow.flat hn byte_flat
  have hl := HA.out
  have H2 := put_any a1 b la c1 cb xs ys f1 g c w1 (by rw [hl]; exact hs) (hf.mono (Nat.zero_le _)) (byteL.sl_ext HB.out hc) (fun x hx hx' => by have := byteL.sl_lt HB.out x hx; have := (hf.2 x hx').1; omega)
  rw [← HA.out]
  have H2' := Lib.hid H2
  have HF := Lib.hid hf
  have HC := Lib.hid hc
  clear H2 hf hc hn hs hl
  go_wp2_with fail
  refine H2'.out.mono ?_
  rintro e w2 ⟨rfl, hs2, hc2⟩
  have hN : NewSl byteL (addL xs (scaleL ys c)) w (.returned (.slice a1 la c1)) w2 := by
    have e : (addL xs (scaleL ys c)).length = la := by rw [addL_length (by rw [scaleL_length, ← HB.out.1, HA.out]; exact Nat.le_refl _), HA.out]
    exact ⟨a1, c1, f1, by rw [e], by rw [e]; exact hs2, HF.out.chg hc2, HC.out.trans hc2 (fun x hx => .inr (HF.out.2 x hx).1)⟩
  have HN := Lib.hid hN
  clear hN hs2 hc2
  go_wp2
  go_ret
  exact HN.out

theorem scaleL_one (xs : List UInt8) : scaleL xs 1 = xs := by unfold scaleL; simp [Fld.mul_one]

/-! the models -/
def addRes (xs ys : List UInt8) : Int × List UInt8 := if xs.length ≠ ys.length then (1, []) else if 4000 < xs.length then (2, []) else (0, addL xs ys)
def scaleRes (xs : List UInt8) (c : UInt8) : Int × List UInt8 := if 4000 < xs.length then (2, []) else (0, scaleL xs c)
def shareRes (xs ys : List UInt8) (c : UInt8) : Int × List UInt8 := if xs.length ≠ ys.length then (1, []) else if 4000 < xs.length then (2, []) else (0, addL xs (scaleL ys c))

theorem addRes_len (xs ys : List UInt8) : (addRes xs ys).2.length ≤ xs.length := by
  unfold addRes; split
  · simp
  · split
    · simp
    · show (addL xs ys).length ≤ _; unfold addL; rw [List.length_zipWith]; omega
theorem scaleRes_len (xs : List UInt8) (c : UInt8) : (scaleRes xs c).2.length ≤ xs.length := by
  unfold scaleRes; split
  · simp
  · show (scaleL xs c).length ≤ _; rw [scaleL_length]; omega
theorem shareRes_len (xs ys : List UInt8) (c : UInt8) : (shareRes xs ys c).2.length ≤ xs.length := by
  unfold shareRes; split
  · simp
  · split
    · simp
    · show (addL xs _).length ≤ _; unfold addL; rw [List.length_zipWith]; omega


theorem NewSl.since {α : Type} {L : Lay α} {xs : List α} {w w0 : World} {e : Ending} {w1 : World} (h : NewSl L xs w0 e w1) (hc : Chg [] w w0) : NewSl L xs w e w1 := by
  obtain ⟨a, cap, fp, rfl, hs, hf, hc'⟩ := h
  exact ⟨a, cap, fp, rfl, hs, hf.mono hc.size, hc.trans0 hc'⟩


end Go.Proofs.Ytlnclkjmlpipgaa
