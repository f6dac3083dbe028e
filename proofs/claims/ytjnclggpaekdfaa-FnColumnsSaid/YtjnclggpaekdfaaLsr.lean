
/- The walks of AddBytes, ScaleBytes and AddShare, of the program and of the reference. -/
import Derived.Test.YtjnclggpaekdfaaLst
namespace Go.Proofs.Ytjnclggpaekdfaa
open Go.RowKit

/-- what a call hands back that makes a code and a slice anew -/
def NewRes {α : Type} (L : Lay α) (r : Int × List α) (w : World) (e : Ending) (w' : World) : Prop :=
  ∃ a cap fp, e = .returned (.agg #[.int .i64 r.1, .slice a r.2.length cap]) ∧ L.sl w' a r.2.length cap r.2 fp ∧ Fresh w.heap.size w' fp ∧ Chg [] w w'

theorem NewRes.code {α : Type} (L : Lay α) {n : Int} {r : Int × List α} (hr : r = (n, [])) {w w' : World} (hc : Chg [] w w') : NewRes L r w (.returned (.agg #[.int .i64 n, .slice none 0 0])) w' := by
  subst hr
  exact ⟨none, 0, [], rfl, ⟨rfl, Nat.le_refl _, by simp [maxLen], fun _ => rfl, .inl ⟨rfl, rfl⟩⟩, Fresh.nil _ _, hc⟩


set_option maxHeartbeats 400000 in
theorem clone_bytes (a : Option Addr) (la ca : Nat) (xs : List UInt8) (f : List Nat) (w : World) (ha : Lay.sl byteL w a la ca xs f) (hz : la * 1 ≤ 140737488355327) :
    Calls Try.prog 56 #[.slice a la ca] w (NewRow byteL xs f w) := by
  obtain ⟨K, _⟩ := kindB
  have HZ := Lib.hid hz
  clear hz
  cases a with
  | none =>
    have hn := fun w => Lib.run_eql_slice_nil (P := Try.prog) w 22 5 none la ca 0 0 Try.underlying22
    have hN : NewRow byteL xs f w (.returned (.slice none 0 0)) w := by
      obtain rfl : xs = [] := by apply List.eq_nil_of_length_eq_zero; have := ha.1; have := ha.2.1; have := ha.2.2.2.1 rfl; omega
      exact ⟨5, _, none, [], rfl, Lay.os_nil _ _ _, by simp, by simp, Chg.refl _ _⟩
    have HN := Lib.hid hN
    clear hN
    go_enter Try.func56, Try.ntmps56
    go_wp2
    go_ret
    exact HN.out
  | some ad =>
    have hn := fun w => Lib.run_eql_slice_nil (P := Try.prog) w 22 5 (some ad) la ca 0 0 Try.underlying22
    obtain ⟨news, fps, hnews, hall, hsub⟩ := Lay.sl_cells _ (Lay.sl_ext _ ha ((Chg.refl [] w).alloc (.cells #[] 5)))
    have HA := Lib.hid ha
    have HW := Lib.hid (And.intro hnews (And.intro hall hsub))
    have HL : RowKit.Hid (([] : List UInt8).length + xs.length ≤ maxLen ∧ (([] : List UInt8).length + xs.length) * 1 ≤ 140737488355328 ∧ w.heap.size ∉ fps) := by
      have := HA.out.1; have := HZ.out; have := Lay.sl_max _ ha
      refine ⟨?_, ?_, fun hb => ?_⟩
      · simp only [List.length_nil, maxLen]; omega
      · simp only [List.length_nil, Nat.zero_add]; omega
      · have := Lay.sl_lt _ ha _ (hsub _ hb); omega
    clear ha hnews hall hsub
    go_enter Try.func56, Try.ntmps56
    go_wp2_with (refine Lay.wpList_append byteL rfl _ _ 22 rfl Try.underlying22 K rfl (Lay.os_made byteL 5 w #[] 0 (by simp [maxLen]) rfl) ad la ca news rfl HA.out.1 HW.out.1 HW.out.2.1 (fun g hg => by cases hg; exact HL.out.2.2) HL.out.1 HL.out.2.1 ?_; intro v' w' h' ho' hh' hc'; have hN := Lib.hid (And.intro ho' (And.intro hh' hc')); clear ho' hh' hc')
    go_ret
    obtain ⟨ho, hh, hc⟩ := hN.out
    refine ⟨_, _, h', _, rfl, ho, by simpa using HW.out.2.2, ?_, ((Chg.refl [] w).alloc _).trans hc (fun x hx => .inr (by simp at hx; omega))⟩
    intro g hg
    rcases hh with rfl | rfl
    · cases hg; exact Nat.le_refl _
    · cases hg; simp


set_option maxHeartbeats 400000 in
theorem sum_any (a b : Option Addr) (la ca cb : Nat) (xs ys : List UInt8) (f g : List Nat) (c : UInt8) (w : World) (ha : byteL.sl w a la ca xs f) (hb : byteL.sl w b la cb ys g) (hz : la ≤ 140737488355327) :
    Calls Try.prog 89 #[.slice a la ca, .slice b la cb, .int .u8 c.toNat] w (NewSl byteL (addL xs (scaleL ys c)) w) := by
  have H1 := Lib.hid (clone_bytes a la ca xs f w ha (by omega))
  have HA := Lib.hid ha.1
  have HB := Lib.hid hb
  clear ha hb
  go_enter Try.func89, Try.ntmps89
  go_wp2_with fail
  refine H1.out.mono ?_
  intro e w1 hn
  obtain ⟨a1, c1, f1, rfl, hs, hf, hc⟩ := NewRow.flat hn byte_flat
  have hl := HA.out
  have H2 := put_any a1 b la c1 cb xs ys f1 g c w1 (by rw [hl]; exact hs) (hf.mono (Nat.zero_le _)) (byteL.sl_ext HB.out hc) (fun x hx hx' => by have := byteL.sl_lt HB.out x hx; have := (hf.2 x hx').1; omega)
  rw [← HA.out]
  have H2' := Lib.hid H2
  have HF := Lib.hid hf
  have HC := Lib.hid hc
  clear H2 hf hc hn hs hl
  go_wp2_with fail
  refine H2'.out.mono ?_
  rintro e w2 ⟨rfl, hs2, hc2⟩
  have hN : NewSl byteL (addL xs (scaleL ys c)) w (.returned (.slice a1 la c1)) w2 := by
    have e : (addL xs (scaleL ys c)).length = la := by rw [addL_length (by rw [scaleL_length, ← HB.out.1, HA.out]; exact Nat.le_refl _), HA.out]
    exact ⟨a1, c1, f1, by rw [e], by rw [e]; exact hs2, HF.out.chg hc2, HC.out.trans hc2 (fun x hx => .inr (HF.out.2 x hx).1)⟩
  have HN := Lib.hid hN
  clear hN hs2 hc2
  go_wp2
  go_ret
  exact HN.out

theorem scaleL_one (xs : List UInt8) : scaleL xs 1 = xs := by unfold scaleL; simp [Fld.mul_one]

/-! the models -/
def addRes (xs ys : List UInt8) : Int × List UInt8 := if xs.length ≠ ys.length then (1, []) else if 4000 < xs.length then (2, []) else (0, addL xs ys)
def scaleRes (xs : List UInt8) (c : UInt8) : Int × List UInt8 := if 4000 < xs.length then (2, []) else (0, scaleL xs c)
def shareRes (xs ys : List UInt8) (c : UInt8) : Int × List UInt8 := if xs.length ≠ ys.length then (1, []) else if 4000 < xs.length then (2, []) else (0, addL xs (scaleL ys c))

theorem addRes_len (xs ys : List UInt8) : (addRes xs ys).2.length ≤ xs.length := by
  unfold addRes; split
  · simp
  · split
    · simp
    · show (addL xs ys).length ≤ _; unfold addL; rw [List.length_zipWith]; omega
theorem scaleRes_len (xs : List UInt8) (c : UInt8) : (scaleRes xs c).2.length ≤ xs.length := by
  unfold scaleRes; split
  · simp
  · show (scaleL xs c).length ≤ _; rw [scaleL_length]; omega
theorem shareRes_len (xs ys : List UInt8) (c : UInt8) : (shareRes xs ys c).2.length ≤ xs.length := by
  unfold shareRes; split
  · simp
  · split
    · simp
    · show (addL xs _).length ≤ _; unfold addL; rw [List.length_zipWith]; omega


theorem NewSl.since {α : Type} {L : Lay α} {xs : List α} {w w0 : World} {e : Ending} {w1 : World} (h : NewSl L xs w0 e w1) (hc : Chg [] w w0) : NewSl L xs w e w1 := by
  obtain ⟨a, cap, fp, rfl, hs, hf, hc'⟩ := h
  exact ⟨a, cap, fp, rfl, hs, hf.mono hc.size, hc.trans0 hc'⟩


set_option maxHeartbeats 400000 in
theorem impl_share (a b : Option Addr) (la ca lb cb : Nat) (xs ys : List UInt8) (f g : List Nat) (c : UInt8) (w : World) (ha : byteL.sl w a la ca xs f) (hb : byteL.sl w b lb cb ys g) :
    Calls Try.prog 17 #[.slice a la ca, .slice b lb cb, .int .u8 c.toNat] w (NewRes byteL (shareRes xs ys c) w) := by
  have hm := byteL.sl_max ha
  have hm2 := byteL.sl_max hb
  have HA := Lib.hid ha
  have HB := Lib.hid hb
  have hla := Lib.hid ha.1
  have hlb := Lib.hid hb.1
  clear ha hb
  by_cases h1 : la = lb
  · have hne : ((la : Int) != (lb : Int)) = false := by simp [h1]
    by_cases h2 : 4000 < la
    · have HR : RowKit.Hid (shareRes xs ys c = (2, [])) := by
        show shareRes xs ys c = (2, [])
        rw [shareRes, if_neg (by have := hla.out; have := hlb.out; omega), if_pos (by have := hla.out; omega)]
      clear h1
      have h2' : (4000 : Int) < (la : Int) := by omega
      go_enter Try.func17, Try.ntmps17
      go_wp2_with fail
      refine bodyPost_ret (v := .agg #[.int .i64 2, .slice none 0 0]) (by simp [results, Try.results17, go_sem]) rfl ?_
      exact NewRes.code byteL HR.out (by repeat (first | exact Chg.refl _ _ | refine Chg.alloc ?_ _))
    · have HR : RowKit.Hid (shareRes xs ys c = (0, addL xs (scaleL ys c))) := by
        show shareRes xs ys c = (0, addL xs (scaleL ys c))
        rw [shareRes, if_neg (by have := hla.out; have := hlb.out; omega), if_neg (by have := hla.out; omega)]
      have h2' : ¬ (4000 : Int) < (la : Int) := by omega
      subst h1
      go_enter Try.func17, Try.ntmps17
      go_wp2_with fail
      refine (clone_bytes a la ca xs f _ (byteL.sl_ext HA.out ((Chg.refl [] w).alloc (.cells #[.int .i64 0, .slice none 0 0] 38))) (by omega)).mono ?_
      intro e w0 hn0
      obtain ⟨a1, c1, f1, rfl, hs0, hf0, hc0⟩ := NewRow.flat hn0 byte_flat
      rw [← hla.out] at hs0 ⊢
      have hcw := ((Chg.refl [] w).alloc (.cells #[.int .i64 0, .slice none 0 0] 38)).trans0 hc0
      have H1 := Lib.hid (put_any a1 b la c1 cb xs ys f1 g c w0 hs0 (hf0.mono (Nat.zero_le _)) (byteL.sl_ext HB.out hcw) (fun x hx hx' => by have := byteL.sl_lt HB.out x hx; have := (hf0.2 x hx').1; simp at this; omega))
      have HC0 := Lib.hid hc0
      have HF0 := Lib.hid hf0
      clear hn0 hs0 hf0 hc0 hcw
      go_wp2_with fail
      refine H1.out.mono ?_
      rintro e w1 ⟨rfl, hs1, hc1⟩
      have hlen : (addL xs (scaleL ys c)).length = la := by rw [addL_length (by rw [scaleL_length]; have := hla.out; have := hlb.out; omega), hla.out]
      have hs : byteL.sl w1 a1 (addL xs (scaleL ys c)).length c1 (addL xs (scaleL ys c)) f1 := by rw [hlen]; exact hs1
      have hf : Fresh (w.alloc (.cells #[.int .i64 0, .slice none 0 0] 38)).heap.size w1 f1 := HF0.out.chg hc1
      have hc : Chg [] (w.alloc (.cells #[.int .i64 0, .slice none 0 0] 38)) w1 := HC0.out.trans hc1 (fun x hx => .inr (HF0.out.2 x hx).1)
      clear hs1 hc1
      have HLEN := Lib.hid hlen
      clear hlen
      skip
      have hB := hc.keep0 (new_alloc _ _); have cB := cellsOf hB; have fB := freeOf hB; have lB := ltOf hB
      have HN : RowKit.Hid (∀ w2, Chg [] w1 w2 ∨ (∃ v u, w2 = (w1.setCell ⟨w.heap.size, 0, none⟩ v).setCell ⟨w.heap.size, 1, none⟩ u) → NewRes byteL (shareRes xs ys c) w (.returned (.agg #[.int .i64 0, .slice a1 (addL xs (scaleL ys c)).length c1])) w2) := by
        intro w2 h2
        have hc2 : Chg [w.heap.size] w1 w2 := by
          rcases h2 with h2 | ⟨v, u, rfl⟩
          · exact h2.mono (by simp)
          · exact ((Chg.refl _ w1).setCell _ _ (.inl (by simp))).setCell _ _ (.inl (by simp))
        have hcw : Chg [] w w1 := ((Chg.refl [] w).alloc _).trans0 hc
        have hfw : ∀ b ∈ f1, b ∉ [w.heap.size] := fun b hb hb' => by have := (hf.2 b hb).1; simp at this hb'; omega
        rw [HR.out]
        exact ⟨a1, c1, f1, rfl, byteL.sl_chg hs hc2 hfw, (hf.mono (by simp)).chg hc2, hcw.trans hc2 (fun x hx => .inr (by simp at hx; omega))⟩
      rw [HLEN.out] at HN
      clear hs hf hc hB
      go_wp2_with fail
      refine bodyPost_ret (v := .agg #[.int .i64 0, .slice a1 la c1]) (by simp [results, Try.results17, go_sem, cB]) rfl ?_
      exact HN.out _ (.inr ⟨_, _, rfl⟩)

  · have hne : ((la : Int) != (lb : Int)) = true := by rw [bne_iff_ne]; omega
    have HR : RowKit.Hid (shareRes xs ys c = (1, [])) := by
      show shareRes xs ys c = (1, [])
      rw [shareRes, if_pos (by have := hla.out; have := hlb.out; omega)]
    clear h1
    go_enter Try.func17, Try.ntmps17
    go_wp2_with fail
    refine bodyPost_ret (v := .agg #[.int .i64 1, .slice none 0 0]) (by simp [results, Try.results17, go_sem]) rfl ?_
    exact NewRes.code byteL HR.out (by repeat (first | exact Chg.refl _ _ | refine Chg.alloc ?_ _))


end Go.Proofs.Ytjnclggpaekdfaa
