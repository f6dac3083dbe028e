import Derived.Test.YtphmpimgbmedbaaGreatRows
import Derived.Test.YtphmpimgbmedbaaGreatMetM
/- The laws' helpers at structures: copies. -/
namespace Go.Proofs.YtphmpimgbmedbaaGreat
open Go.RowKit

theorem heap_set_lit {w : World} {b o : Nat} {v : Value} {cur cur' : Array Value} {E : TypeId} {fr : Nat × Nat} (hb : w.heap[b]? = some (.cells cur E fr)) (h : cur.setIfInBounds o v = cur') :
    (w.setCell ⟨b, o, none⟩ v).heap[b]? = some (.cells cur' E fr) := by subst h; exact heap_setCell_same hb
theorem Fresh.nots {B : Nat} {w : World} {f : List Nat} (h : Fresh B w f) (S : List Nat) (hS : ∀ b ∈ S, b < B) : ∀ b ∈ f, b ∉ S := fun b hb hm => Nat.lt_irrefl _ (Nat.lt_of_lt_of_le (hS b hm) (h.2 b hb).1)


def SzPost (t k : Int) (w : World) (e : Ending) (w' : World) : Prop := e = .returned (.int .i64 (if k - t < 0 then -1 else k - t)) ∧ Chg [] w w'
theorem szByteS_any (a : Option Addr) (la ca : Nat) (xs : List UInt8) (f : List Nat) (k : Int) (w : World) (ha : byteL.sl w a la ca xs f) (hk : 0 ≤ k) (hk2 : k ≤ 1048576) :
    Calls Tryz.prog 288 #[.slice a la ca, .int .i64 k] w (SzPost (totBs xs) k w) := by
  refine (szB_any a la ca k w (byteL.sl_max ha) hk hk2).mono ?_
  rintro e w' ⟨rfl, rfl⟩
  exact ⟨by unfold totBs; rw [← ha.1], Chg.refl _ _⟩
theorem szInt64S_any (a : Option Addr) (la ca : Nat) (xs : List Int) (f : List Nat) (k : Int) (w : World) (ha : intL.sl w a la ca xs f) (hk : 0 ≤ k) (hk2 : k ≤ 1048576) :
    Calls Tryz.prog 67 #[.slice a la ca, .int .i64 k] w (SzPost (totIs xs) k w) := by
  have hm := intL.sl_max ha
  have HA := Lib.hid ha.1
  clear ha
  by_cases h : k - la < 0
  · go_enter Tryz.func67, Tryz.ntmps67
    go_wp2
    go_ret
    exact ⟨ret_int (by unfold totIs; rw [← HA.out, if_pos h]), Chg.refl _ _⟩
  · go_enter Tryz.func67, Tryz.ntmps67
    go_wp2
    go_ret
    exact ⟨ret_int (by unfold totIs; rw [← HA.out, if_neg (by omega)]), Chg.refl _ _⟩

set_option maxRecDepth 100000 in
set_option maxHeartbeats 2000000 in
theorem toRec_any (x : Rec) (cx : Array Value) (fx : List Nat) (w : World) (hx : recL.rep w cx.toList x fx) (hz : totRec x ≤ 1048576) :
    Calls Tryz.prog 266 #[.agg cx] w (NewAgg recL x w) := by
  obtain ⟨a6, l6, c6, f6, a7, l7, c7, f7, a8, l8, c8, f8, ex, o0, o1, o2, o3, o4, o5, h6, h7, h8, -⟩ := recL_iff.1 hx
  clear hx
  obtain ⟨v0, v1, v2, v3, v4, v5, v6, v7, v8⟩ := x
  simp only at ex o0 o1 o2 o3 o4 o5 h6 h7 h8
  obtain rfl := Array.toList_inj.1 (ex.trans (List.toList_toArray).symm)
  clear ex
  have HO := Lib.hid (And.intro o0 (And.intro o1 (And.intro o2 (And.intro o3 (And.intro o4 o5)))))
  have z6 : l6 ≤ 1048576 := by have q1 := totIs_nonneg v6; have q2 := totBs_nonneg v7; have q3 := totBs_nonneg v8; unfold totRec at hz; unfold totIs at hz q1; unfold totBs at hz q2 q3; simp only at hz; rw [h6.1]; omega
  have H6 := Lib.hid h6; have HL6 := Lib.hid (show v6.length = l6 from h6.1.symm); clear h6
  have z7 : l7 ≤ 1048576 := by have q1 := totIs_nonneg v6; have q2 := totBs_nonneg v7; have q3 := totBs_nonneg v8; unfold totRec at hz; unfold totIs at hz q1; unfold totBs at hz q2 q3; simp only at hz; rw [h7.1]; omega
  have H7 := Lib.hid h7; have HL7 := Lib.hid (show v7.length = l7 from h7.1.symm); clear h7
  have z8 : l8 ≤ 1048576 := by have q1 := totIs_nonneg v6; have q2 := totBs_nonneg v7; have q3 := totBs_nonneg v8; unfold totRec at hz; unfold totIs at hz q1; unfold totBs at hz q2 q3; simp only at hz; rw [h8.1]; omega
  have H8 := Lib.hid h8; have HL8 := Lib.hid (show v8.length = l8 from h8.1.symm); clear h8
  clear hz o0 o1 o2 o3 o4 o5
  go_enter Tryz.func266, Tryz.ntmps266
  go_wp2_with fail
  refine (toI_any a6 l6 c6 v6 f6 _ (intL.sl_ext H6.out (by refine Chg.alloc ?_ _; refine Chg.alloc ?_ _; refine Chg.alloc ?_ _; exact Chg.refl _ _)) z6).mono ?_
  rintro e w1 ⟨b6, d6, g6, rfl, hs, hf, hc⟩
  rw [HL6.out] at hs ⊢
  have HS6 := Lib.hid hs; clear hs
  have hP := hc.keep0 (b := w.heap.size) (keep_alloc (keep_alloc (new_at (by simp) _) _) _)
  have hQ := hc.keep0 (b := w.heap.size + 1) (keep_alloc (new_at (by simp) _) _)
  have hR := hc.keep0 (b := w.heap.size + 1 + 1) (new_at (by simp) _)
  have HD6 := Lib.hid (Fresh.nots hf [w.heap.size, w.heap.size + 1, w.heap.size + 1 + 1] (by intro b hb; simp only [List.mem_cons, List.not_mem_nil, or_false] at hb; rcases hb with rfl | rfl | rfl <;> simp <;> omega)); have HF6 := Lib.hid hf; clear hf
  have cP := cellsOf hP; have lP := ltOf hP; have fP := freeOf hP; have HBP := Lib.hid hP; clear hP
  have cQ := cellsOf hQ; have lQ := ltOf hQ; have fQ := freeOf hQ; have HBQ := Lib.hid hQ; clear hQ
  have cR := cellsOf hR; have lR := ltOf hR; have fR := freeOf hR; have HBR := Lib.hid hR; clear hR
  have HC1 := Lib.hid hc; clear hc
  go_wp2_with fail
  refine (toB_any a7 l7 c7 v7 f7 _ (byteL.sl_ext H7.out (by refine Chg.setCell ?_ _ _ (.inr (by simp <;> omega)); refine Chg.trans0 ?_ HC1.out; refine Chg.alloc ?_ _; refine Chg.alloc ?_ _; refine Chg.alloc ?_ _; exact Chg.refl _ _)) z7).mono ?_
  rintro e w2 ⟨b7, d7, g7, rfl, hs, hf, hc⟩
  rw [HL7.out] at hs ⊢
  have HS7 := Lib.hid hs; clear hs
  have hP := hc.keep0 (keep_set HBP.out _ _ (show w.heap.size ≠ w.heap.size + 1 + 1 by omega))
  have hQ := hc.keep0 (keep_set HBQ.out _ _ (show w.heap.size + 1 ≠ w.heap.size + 1 + 1 by omega))
  have hR := hc.keep0 (b := w.heap.size + 1 + 1) (o := .cells #[.int .i64 v0, .int .i64 v1, .string v2, .int .i64 v3, .int .i64 v4, .int .i64 v5, .slice b6 l6 d6, .slice none 0 0, .slice none 0 0] 67) (by refine heap_set_lit (cur := #[.int .i64 v0, .int .i64 v1, .string v2, .int .i64 v3, .int .i64 v4, .int .i64 v5, .slice none 0 0, .slice none 0 0, .slice none 0 0]) ?_ rfl; exact HBR.out)
  have HD7 := Lib.hid (Fresh.nots hf [w.heap.size, w.heap.size + 1, w.heap.size + 1 + 1] (by intro b hb; simp only [List.mem_cons, List.not_mem_nil, or_false] at hb; rcases hb with rfl | rfl | rfl <;> simp <;> omega)); have HF7 := Lib.hid hf; clear hf
  clear HBP cP lP fP HBQ cQ lQ fQ HBR cR lR fR
  have cP := cellsOf hP; have lP := ltOf hP; have fP := freeOf hP; have HBP := Lib.hid hP; clear hP
  have cQ := cellsOf hQ; have lQ := ltOf hQ; have fQ := freeOf hQ; have HBQ := Lib.hid hQ; clear hQ
  have cR := cellsOf hR; have lR := ltOf hR; have fR := freeOf hR; have HBR := Lib.hid hR; clear hR
  have HC2 := Lib.hid hc; clear hc
  go_wp2_with fail
  refine (toB_any a8 l8 c8 v8 f8 _ (byteL.sl_ext H8.out (by refine Chg.setCell ?_ _ _ (.inr (by simp <;> omega)); refine Chg.trans0 ?_ HC2.out; refine Chg.setCell ?_ _ _ (.inr (by simp <;> omega)); refine Chg.trans0 ?_ HC1.out; refine Chg.alloc ?_ _; refine Chg.alloc ?_ _; refine Chg.alloc ?_ _; exact Chg.refl _ _)) z8).mono ?_
  rintro e w3 ⟨b8, d8, g8, rfl, hs, hf, hc⟩
  rw [HL8.out] at hs ⊢
  have HS8 := Lib.hid hs; clear hs
  have hP := hc.keep0 (keep_set HBP.out _ _ (show w.heap.size ≠ w.heap.size + 1 + 1 by omega))
  have hQ := hc.keep0 (keep_set HBQ.out _ _ (show w.heap.size + 1 ≠ w.heap.size + 1 + 1 by omega))
  have hR := hc.keep0 (b := w.heap.size + 1 + 1) (o := .cells #[.int .i64 v0, .int .i64 v1, .string v2, .int .i64 v3, .int .i64 v4, .int .i64 v5, .slice b6 l6 d6, .slice b7 l7 d7, .slice none 0 0] 67) (by refine heap_set_lit (cur := #[.int .i64 v0, .int .i64 v1, .string v2, .int .i64 v3, .int .i64 v4, .int .i64 v5, .slice b6 l6 d6, .slice none 0 0, .slice none 0 0]) ?_ rfl; exact HBR.out)
  have HD8 := Lib.hid (Fresh.nots hf [w.heap.size, w.heap.size + 1, w.heap.size + 1 + 1] (by intro b hb; simp only [List.mem_cons, List.not_mem_nil, or_false] at hb; rcases hb with rfl | rfl | rfl <;> simp <;> omega)); have HF8 := Lib.hid hf; clear hf
  clear HBP cP lP fP HBQ cQ lQ fQ HBR cR lR fR
  have cP := cellsOf hP; have lP := ltOf hP; have fP := freeOf hP; have HBP := Lib.hid hP; clear hP
  have cQ := cellsOf hQ; have lQ := ltOf hQ; have fQ := freeOf hQ; have HBQ := Lib.hid hQ; clear hQ
  have cR := cellsOf hR; have lR := ltOf hR; have fR := freeOf hR; have HBR := Lib.hid hR; clear hR
  have HC3 := Lib.hid hc; clear hc
  go_wp2_with fail
  have hq : (((((((((((w3.setCell ⟨w.heap.size + 1 + 1, 8, none⟩ (.slice b8 l8 d8)).setCell ⟨w.heap.size + 1, 0, none⟩ (.int .i64 v0)).setCell ⟨w.heap.size + 1, 1, none⟩ (.int .i64 v1)).setCell ⟨w.heap.size + 1, 2, none⟩ (.string v2)).setCell ⟨w.heap.size + 1, 3, none⟩ (.int .i64 v3)).setCell ⟨w.heap.size + 1, 4, none⟩ (.int .i64 v4)).setCell ⟨w.heap.size + 1, 5, none⟩ (.int .i64 v5)).setCell ⟨w.heap.size + 1, 6, none⟩ (.slice b6 l6 d6)).setCell ⟨w.heap.size + 1, 7, none⟩ (.slice b7 l7 d7)).setCell ⟨w.heap.size + 1, 8, none⟩ (.slice b8 l8 d8))).heap[w.heap.size + 1]? = some (.cells #[.int .i64 v0, .int .i64 v1, .string v2, .int .i64 v3, .int .i64 v4, .int .i64 v5, .slice b6 l6 d6, .slice b7 l7 d7, .slice b8 l8 d8] 67) := (by refine heap_set_lit (cur := #[.int .i64 v0, .int .i64 v1, .string v2, .int .i64 v3, .int .i64 v4, .int .i64 v5, .slice b6 l6 d6, .slice b7 l7 d7, .slice none 0 0]) ?_ rfl; refine heap_set_lit (cur := #[.int .i64 v0, .int .i64 v1, .string v2, .int .i64 v3, .int .i64 v4, .int .i64 v5, .slice b6 l6 d6, .slice none 0 0, .slice none 0 0]) ?_ rfl; refine heap_set_lit (cur := #[.int .i64 v0, .int .i64 v1, .string v2, .int .i64 v3, .int .i64 v4, .int .i64 v5, .slice none 0 0, .slice none 0 0, .slice none 0 0]) ?_ rfl; refine heap_set_lit (cur := #[.int .i64 v0, .int .i64 v1, .string v2, .int .i64 v3, .int .i64 v4, .int .i64 0, .slice none 0 0, .slice none 0 0, .slice none 0 0]) ?_ rfl; refine heap_set_lit (cur := #[.int .i64 v0, .int .i64 v1, .string v2, .int .i64 v3, .int .i64 0, .int .i64 0, .slice none 0 0, .slice none 0 0, .slice none 0 0]) ?_ rfl; refine heap_set_lit (cur := #[.int .i64 v0, .int .i64 v1, .string v2, .int .i64 0, .int .i64 0, .int .i64 0, .slice none 0 0, .slice none 0 0, .slice none 0 0]) ?_ rfl; refine heap_set_lit (cur := #[.int .i64 v0, .int .i64 v1, .string ⟨#[]⟩, .int .i64 0, .int .i64 0, .int .i64 0, .slice none 0 0, .slice none 0 0, .slice none 0 0]) ?_ rfl; refine heap_set_lit (cur := #[.int .i64 v0, .int .i64 0, .string ⟨#[]⟩, .int .i64 0, .int .i64 0, .int .i64 0, .slice none 0 0, .slice none 0 0, .slice none 0 0]) ?_ rfl; refine heap_set_lit (cur := #[.int .i64 0, .int .i64 0, .string ⟨#[]⟩, .int .i64 0, .int .i64 0, .int .i64 0, .slice none 0 0, .slice none 0 0, .slice none 0 0]) ?_ rfl; refine keep_set ?_ _ _ (show w.heap.size + 1 ≠ w.heap.size + 1 + 1 by omega); exact HBQ.out)
  have hqc := cellsOf hq
  have hch : Chg [] w ((((((((((w3.setCell ⟨w.heap.size + 1 + 1, 8, none⟩ (.slice b8 l8 d8)).setCell ⟨w.heap.size + 1, 0, none⟩ (.int .i64 v0)).setCell ⟨w.heap.size + 1, 1, none⟩ (.int .i64 v1)).setCell ⟨w.heap.size + 1, 2, none⟩ (.string v2)).setCell ⟨w.heap.size + 1, 3, none⟩ (.int .i64 v3)).setCell ⟨w.heap.size + 1, 4, none⟩ (.int .i64 v4)).setCell ⟨w.heap.size + 1, 5, none⟩ (.int .i64 v5)).setCell ⟨w.heap.size + 1, 6, none⟩ (.slice b6 l6 d6)).setCell ⟨w.heap.size + 1, 7, none⟩ (.slice b7 l7 d7)).setCell ⟨w.heap.size + 1, 8, none⟩ (.slice b8 l8 d8)) := by refine Chg.setCell ?_ _ _ (.inr (by simp <;> omega)); refine Chg.setCell ?_ _ _ (.inr (by simp <;> omega)); refine Chg.setCell ?_ _ _ (.inr (by simp <;> omega)); refine Chg.setCell ?_ _ _ (.inr (by simp <;> omega)); refine Chg.setCell ?_ _ _ (.inr (by simp <;> omega)); refine Chg.setCell ?_ _ _ (.inr (by simp <;> omega)); refine Chg.setCell ?_ _ _ (.inr (by simp <;> omega)); refine Chg.setCell ?_ _ _ (.inr (by simp <;> omega)); refine Chg.setCell ?_ _ _ (.inr (by simp <;> omega)); refine Chg.setCell ?_ _ _ (.inr (by simp <;> omega)); refine Chg.trans0 ?_ HC3.out; refine Chg.setCell ?_ _ _ (.inr (by simp <;> omega)); refine Chg.trans0 ?_ HC2.out; refine Chg.setCell ?_ _ _ (.inr (by simp <;> omega)); refine Chg.trans0 ?_ HC1.out; refine Chg.alloc ?_ _; refine Chg.alloc ?_ _; refine Chg.alloc ?_ _; exact Chg.refl _ _
  have k6 : Chg [w.heap.size, w.heap.size + 1, w.heap.size + 1 + 1] w1 ((((((((((w3.setCell ⟨w.heap.size + 1 + 1, 8, none⟩ (.slice b8 l8 d8)).setCell ⟨w.heap.size + 1, 0, none⟩ (.int .i64 v0)).setCell ⟨w.heap.size + 1, 1, none⟩ (.int .i64 v1)).setCell ⟨w.heap.size + 1, 2, none⟩ (.string v2)).setCell ⟨w.heap.size + 1, 3, none⟩ (.int .i64 v3)).setCell ⟨w.heap.size + 1, 4, none⟩ (.int .i64 v4)).setCell ⟨w.heap.size + 1, 5, none⟩ (.int .i64 v5)).setCell ⟨w.heap.size + 1, 6, none⟩ (.slice b6 l6 d6)).setCell ⟨w.heap.size + 1, 7, none⟩ (.slice b7 l7 d7)).setCell ⟨w.heap.size + 1, 8, none⟩ (.slice b8 l8 d8)) := by refine Chg.setCell ?_ _ _ (.inl (by simp)); refine Chg.setCell ?_ _ _ (.inl (by simp)); refine Chg.setCell ?_ _ _ (.inl (by simp)); refine Chg.setCell ?_ _ _ (.inl (by simp)); refine Chg.setCell ?_ _ _ (.inl (by simp)); refine Chg.setCell ?_ _ _ (.inl (by simp)); refine Chg.setCell ?_ _ _ (.inl (by simp)); refine Chg.setCell ?_ _ _ (.inl (by simp)); refine Chg.setCell ?_ _ _ (.inl (by simp)); refine Chg.setCell ?_ _ _ (.inl (by simp)); refine Chg.trans0 ?_ HC3.out; refine Chg.setCell ?_ _ _ (.inl (by simp)); refine Chg.trans0 ?_ HC2.out; refine Chg.setCell ?_ _ _ (.inl (by simp)); exact Chg.refl _ _
  have K6 := intL.sl_chg HS6.out k6 HD6.out
  have F6 := Fresh.chg HF6.out k6
  have k7 : Chg [w.heap.size, w.heap.size + 1, w.heap.size + 1 + 1] w2 ((((((((((w3.setCell ⟨w.heap.size + 1 + 1, 8, none⟩ (.slice b8 l8 d8)).setCell ⟨w.heap.size + 1, 0, none⟩ (.int .i64 v0)).setCell ⟨w.heap.size + 1, 1, none⟩ (.int .i64 v1)).setCell ⟨w.heap.size + 1, 2, none⟩ (.string v2)).setCell ⟨w.heap.size + 1, 3, none⟩ (.int .i64 v3)).setCell ⟨w.heap.size + 1, 4, none⟩ (.int .i64 v4)).setCell ⟨w.heap.size + 1, 5, none⟩ (.int .i64 v5)).setCell ⟨w.heap.size + 1, 6, none⟩ (.slice b6 l6 d6)).setCell ⟨w.heap.size + 1, 7, none⟩ (.slice b7 l7 d7)).setCell ⟨w.heap.size + 1, 8, none⟩ (.slice b8 l8 d8)) := by refine Chg.setCell ?_ _ _ (.inl (by simp)); refine Chg.setCell ?_ _ _ (.inl (by simp)); refine Chg.setCell ?_ _ _ (.inl (by simp)); refine Chg.setCell ?_ _ _ (.inl (by simp)); refine Chg.setCell ?_ _ _ (.inl (by simp)); refine Chg.setCell ?_ _ _ (.inl (by simp)); refine Chg.setCell ?_ _ _ (.inl (by simp)); refine Chg.setCell ?_ _ _ (.inl (by simp)); refine Chg.setCell ?_ _ _ (.inl (by simp)); refine Chg.setCell ?_ _ _ (.inl (by simp)); refine Chg.trans0 ?_ HC3.out; refine Chg.setCell ?_ _ _ (.inl (by simp)); exact Chg.refl _ _
  have K7 := byteL.sl_chg HS7.out k7 HD7.out
  have F7 := Fresh.chg HF7.out k7
  have k8 : Chg [w.heap.size, w.heap.size + 1, w.heap.size + 1 + 1] w3 ((((((((((w3.setCell ⟨w.heap.size + 1 + 1, 8, none⟩ (.slice b8 l8 d8)).setCell ⟨w.heap.size + 1, 0, none⟩ (.int .i64 v0)).setCell ⟨w.heap.size + 1, 1, none⟩ (.int .i64 v1)).setCell ⟨w.heap.size + 1, 2, none⟩ (.string v2)).setCell ⟨w.heap.size + 1, 3, none⟩ (.int .i64 v3)).setCell ⟨w.heap.size + 1, 4, none⟩ (.int .i64 v4)).setCell ⟨w.heap.size + 1, 5, none⟩ (.int .i64 v5)).setCell ⟨w.heap.size + 1, 6, none⟩ (.slice b6 l6 d6)).setCell ⟨w.heap.size + 1, 7, none⟩ (.slice b7 l7 d7)).setCell ⟨w.heap.size + 1, 8, none⟩ (.slice b8 l8 d8)) := by refine Chg.setCell ?_ _ _ (.inl (by simp)); refine Chg.setCell ?_ _ _ (.inl (by simp)); refine Chg.setCell ?_ _ _ (.inl (by simp)); refine Chg.setCell ?_ _ _ (.inl (by simp)); refine Chg.setCell ?_ _ _ (.inl (by simp)); refine Chg.setCell ?_ _ _ (.inl (by simp)); refine Chg.setCell ?_ _ _ (.inl (by simp)); refine Chg.setCell ?_ _ _ (.inl (by simp)); refine Chg.setCell ?_ _ _ (.inl (by simp)); refine Chg.setCell ?_ _ _ (.inl (by simp)); exact Chg.refl _ _
  have K8 := byteL.sl_chg HS8.out k8 HD8.out
  have F8 := Fresh.chg HF8.out k8
  have hfr := Fresh.mono (Fresh.append F6 (Fresh.append F7 F8 (Fresh.low HF7.out (by have s1 := HC1.out.size; have s2 := HC2.out.size; have s3 := HC3.out.size; simp at s1 s2 s3 ⊢ <;> omega)) (by have s1 := HC1.out.size; have s2 := HC2.out.size; have s3 := HC3.out.size; simp at s1 s2 s3 ⊢ <;> omega)) (Fresh.low HF6.out (by have s1 := HC1.out.size; have s2 := HC2.out.size; have s3 := HC3.out.size; simp at s1 s2 s3 ⊢ <;> omega)) (by have s1 := HC1.out.size; have s2 := HC2.out.size; have s3 := HC3.out.size; simp at s1 s2 s3 ⊢ <;> omega)) (show w.heap.size ≤ _ from (by have s1 := HC1.out.size; have s2 := HC2.out.size; have s3 := HC3.out.size; simp at s1 s2 s3 ⊢ <;> omega))
  refine bodyPost_ret (v := .agg #[.int .i64 v0, .int .i64 v1, .string v2, .int .i64 v3, .int .i64 v4, .int .i64 v5, .slice b6 l6 d6, .slice b7 l7 d7, .slice b8 l8 d8]) (by simp [results, Tryz.results266, go_sem, hqc]) rfl ⟨_, _, rfl, recL_iff.2 ⟨b6, l6, d6, g6, b7, l7, d7, g7, b8, l8, d8, g8, rfl, HO.out.1, HO.out.2.1, HO.out.2.2.1, HO.out.2.2.2.1, HO.out.2.2.2.2.1, HO.out.2.2.2.2.2, K6, K7, K8, rfl⟩, hfr, hch⟩

set_option maxRecDepth 100000 in
set_option maxHeartbeats 2000000 in
theorem szRec_any (x : Rec) (cx : Array Value) (fx : List Nat) (k : Int) (w : World) (hx : recL.rep w cx.toList x fx) (hk : 0 ≤ k) (hk2 : k ≤ 1048576) :
    Calls Tryz.prog 264 #[.agg cx, .int .i64 k] w (SzPost (totRec x) k w) := by
  obtain ⟨a6, l6, c6, f6, a7, l7, c7, f7, a8, l8, c8, f8, ex, o0, o1, o2, o3, o4, o5, h6, h7, h8, -⟩ := recL_iff.1 hx
  clear hx
  obtain ⟨v0, v1, v2, v3, v4, v5, v6, v7, v8⟩ := x
  simp only at ex o0 o1 o2 o3 o4 o5 h6 h7 h8
  obtain rfl := Array.toList_inj.1 (ex.trans (List.toList_toArray).symm)
  clear ex o0 o1 o3 o4 o5
  have H6 := Lib.hid h6; clear h6
  have H7 := Lib.hid h7; clear h7
  have H8 := Lib.hid h8; clear h8
  unfold maxLen at o2
  obtain ⟨t6, ht6⟩ : ∃ t, t = totIs v6 := ⟨_, rfl⟩
  have n6 : 0 ≤ t6 := by rw [ht6]; exact totIs_nonneg _
  have HT6 := Lib.hid ht6
  obtain ⟨t7, ht7⟩ : ∃ t, t = totBs v7 := ⟨_, rfl⟩
  have n7 : 0 ≤ t7 := by rw [ht7]; exact totBs_nonneg _
  have HT7 := Lib.hid ht7
  obtain ⟨t8, ht8⟩ : ∃ t, t = totBs v8 := ⟨_, rfl⟩
  have n8 : 0 ≤ t8 := by rw [ht8]; exact totBs_nonneg _
  have HT8 := Lib.hid ht8
  have HT := Lib.hid (show totRec ⟨v0, v1, v2, v3, v4, v5, v6, v7, v8⟩ = (v2.size : Int) + t6 + t7 + t8 by rw [ht6, ht7, ht8]; unfold totRec; rfl)
  clear ht6 ht7 ht8
  go_enter Tryz.func264, Tryz.ntmps264
  by_cases m2 : k - (v2.size : Int) < 0
  ·
    go_wp2_with fail
    go_ret
    exact ⟨ret_int (by rw [HT.out, if_pos (by omega)]), by refine Chg.alloc ?_ _; exact Chg.refl _ _⟩
  go_wp2_with fail
  refine (szInt64S_any a6 l6 c6 v6 f6 (k - (v2.size : Int)) _ (intL.sl_ext H6.out (by refine Chg.alloc ?_ _; exact Chg.refl _ _)) (by omega) (by omega)).mono ?_
  rintro e w1 ⟨rfl, hc⟩
  rw [← HT6.out]
  have hP := hc.keep0 (b := w.heap.size) (new_at (by simp) _)
  have cP := cellsOf hP; have lP := ltOf hP; have fP := freeOf hP; have HBP := Lib.hid hP; clear hP
  have HC1 := Lib.hid hc; clear hc
  by_cases m6 : k - (v2.size : Int) - t6 < 0
  · rw [if_pos m6]
    go_wp2_with fail
    go_ret
    exact ⟨ret_int (by rw [HT.out, if_pos (by omega)]), by refine Chg.trans0 ?_ HC1.out; refine Chg.alloc ?_ _; exact Chg.refl _ _⟩
  rw [if_neg m6]
  go_wp2_with fail
  refine (szByteS_any a7 l7 c7 v7 f7 (k - (v2.size : Int) - t6) _ (byteL.sl_ext H7.out (by refine Chg.trans0 ?_ HC1.out; refine Chg.alloc ?_ _; exact Chg.refl _ _)) (by omega) (by omega)).mono ?_
  rintro e w2 ⟨rfl, hc⟩
  rw [← HT7.out]
  have hP := hc.keep0 HBP.out
  clear HBP cP lP fP
  have cP := cellsOf hP; have lP := ltOf hP; have fP := freeOf hP; have HBP := Lib.hid hP; clear hP
  have HC2 := Lib.hid hc; clear hc
  by_cases m7 : k - (v2.size : Int) - t6 - t7 < 0
  · rw [if_pos m7]
    go_wp2_with fail
    go_ret
    exact ⟨ret_int (by rw [HT.out, if_pos (by omega)]), by refine Chg.trans0 ?_ HC2.out; refine Chg.trans0 ?_ HC1.out; refine Chg.alloc ?_ _; exact Chg.refl _ _⟩
  rw [if_neg m7]
  go_wp2_with fail
  refine (szByteS_any a8 l8 c8 v8 f8 (k - (v2.size : Int) - t6 - t7) _ (byteL.sl_ext H8.out (by refine Chg.trans0 ?_ HC2.out; refine Chg.trans0 ?_ HC1.out; refine Chg.alloc ?_ _; exact Chg.refl _ _)) (by omega) (by omega)).mono ?_
  rintro e w3 ⟨rfl, hc⟩
  rw [← HT8.out]
  have hP := hc.keep0 HBP.out
  clear HBP cP lP fP
  have cP := cellsOf hP; have lP := ltOf hP; have fP := freeOf hP; have HBP := Lib.hid hP; clear hP
  have HC3 := Lib.hid hc; clear hc
  by_cases m8 : k - (v2.size : Int) - t6 - t7 - t8 < 0
  · rw [if_pos m8]
    go_wp2_with fail
    go_ret
    exact ⟨ret_int (by rw [HT.out, if_pos (by omega)]), by refine Chg.trans0 ?_ HC3.out; refine Chg.trans0 ?_ HC2.out; refine Chg.trans0 ?_ HC1.out; refine Chg.alloc ?_ _; exact Chg.refl _ _⟩
  rw [if_neg m8]
  go_wp2_with fail
  go_ret
  exact ⟨ret_int (by rw [HT.out, if_neg (by omega)] <;> omega), by refine Chg.trans0 ?_ HC3.out; refine Chg.trans0 ?_ HC2.out; refine Chg.trans0 ?_ HC1.out; refine Chg.alloc ?_ _; exact Chg.refl _ _⟩

set_option maxRecDepth 100000 in
set_option maxHeartbeats 2000000 in
theorem eqRec_any (x : Rec) (cx cy : Array Value) (fx fy : List Nat) (w : World) (hx : recL.rep w cx.toList x fx) (hy : recL.rep w cy.toList x fy) :
    Calls Tryz.prog 173 #[.agg cx, .agg cy] w fun e w' => e = .returned (.bool true) ∧ Chg [] w w' := by
  obtain ⟨a6, l6, c6, f6, a7, l7, c7, f7, a8, l8, c8, f8, ex, o0, o1, o2, o3, o4, o5, h6, h7, h8, -⟩ := recL_iff.1 hx
  obtain ⟨b6, m6, d6, g6, b7, m7, d7, g7, b8, m8, d8, g8, ey, q0, q1, q2, q3, q4, q5, j6, j7, j8, -⟩ := recL_iff.1 hy
  clear hx hy
  obtain ⟨v0, v1, v2, v3, v4, v5, v6, v7, v8⟩ := x
  simp only at ex ey h6 j6 h7 j7 h8 j8
  obtain rfl := Array.toList_inj.1 (ex.trans (List.toList_toArray).symm)
  obtain rfl := Array.toList_inj.1 (ey.trans (List.toList_toArray).symm)
  clear ex ey o0 o1 o2 o3 o4 o5 q0 q1 q2 q3 q4 q5
  obtain rfl : l6 = m6 := h6.1.trans j6.1.symm
  have H6 := Lib.hid h6; have J6 := Lib.hid j6; clear h6 j6
  obtain rfl : l7 = m7 := h7.1.trans j7.1.symm
  have H7 := Lib.hid h7; have J7 := Lib.hid j7; clear h7 j7
  obtain rfl : l8 = m8 := h8.1.trans j8.1.symm
  have H8 := Lib.hid h8; have J8 := Lib.hid j8; clear h8 j8
  have e0 : ((v0 : Int) != v0) = false := by simp
  have e1 : ((v1 : Int) != v1) = false := by simp
  have e3 : ((v3 : Int) != v3) = false := by simp
  have e4 : ((v4 : Int) != v4) = false := by simp
  have e5 : ((v5 : Int) != v5) = false := by simp
  go_enter Tryz.func173, Tryz.ntmps173
  go_wp2_with fail
  refine (eqI_any a6 b6 l6 c6 d6 v6 f6 g6 _ (intL.sl_ext H6.out (by refine Chg.alloc ?_ _; refine Chg.alloc ?_ _; exact Chg.refl _ _)) (intL.sl_ext J6.out (by refine Chg.alloc ?_ _; refine Chg.alloc ?_ _; exact Chg.refl _ _))).mono ?_
  rintro e w1 ⟨rfl, hc⟩
  have hP := hc.keep0 (b := w.heap.size) (keep_alloc (new_at (by simp) _) _)
  have hQ := hc.keep0 (b := w.heap.size + 1) (new_at (by simp) _)
  have cP := cellsOf hP; have lP := ltOf hP; have fP := freeOf hP; have HBP := Lib.hid hP; clear hP
  have cQ := cellsOf hQ; have lQ := ltOf hQ; have fQ := freeOf hQ; have HBQ := Lib.hid hQ; clear hQ
  have HC1 := Lib.hid hc; clear hc
  go_wp2_with fail
  refine (eqB_any a7 b7 l7 c7 d7 v7 f7 g7 _ (byteL.sl_ext H7.out (by refine Chg.trans0 ?_ HC1.out; refine Chg.alloc ?_ _; refine Chg.alloc ?_ _; exact Chg.refl _ _)) (byteL.sl_ext J7.out (by refine Chg.trans0 ?_ HC1.out; refine Chg.alloc ?_ _; refine Chg.alloc ?_ _; exact Chg.refl _ _))).mono ?_
  rintro e w2 ⟨rfl, hc⟩
  have hP := hc.keep0 HBP.out
  have hQ := hc.keep0 HBQ.out
  clear HBP cP lP fP HBQ cQ lQ fQ
  have cP := cellsOf hP; have lP := ltOf hP; have fP := freeOf hP; have HBP := Lib.hid hP; clear hP
  have cQ := cellsOf hQ; have lQ := ltOf hQ; have fQ := freeOf hQ; have HBQ := Lib.hid hQ; clear hQ
  have HC2 := Lib.hid hc; clear hc
  go_wp2_with fail
  refine (eqB_any a8 b8 l8 c8 d8 v8 f8 g8 _ (byteL.sl_ext H8.out (by refine Chg.trans0 ?_ HC2.out; refine Chg.trans0 ?_ HC1.out; refine Chg.alloc ?_ _; refine Chg.alloc ?_ _; exact Chg.refl _ _)) (byteL.sl_ext J8.out (by refine Chg.trans0 ?_ HC2.out; refine Chg.trans0 ?_ HC1.out; refine Chg.alloc ?_ _; refine Chg.alloc ?_ _; exact Chg.refl _ _))).mono ?_
  rintro e w3 ⟨rfl, hc⟩
  have hP := hc.keep0 HBP.out
  have hQ := hc.keep0 HBQ.out
  clear HBP cP lP fP HBQ cQ lQ fQ
  have cP := cellsOf hP; have lP := ltOf hP; have fP := freeOf hP; have HBP := Lib.hid hP; clear hP
  have cQ := cellsOf hQ; have lQ := ltOf hQ; have fQ := freeOf hQ; have HBQ := Lib.hid hQ; clear hQ
  have HC3 := Lib.hid hc; clear hc
  go_wp2_with fail
  go_ret
  exact ⟨rfl, by refine Chg.trans0 ?_ HC3.out; refine Chg.trans0 ?_ HC2.out; refine Chg.trans0 ?_ HC1.out; refine Chg.alloc ?_ _; refine Chg.alloc ?_ _; exact Chg.refl _ _⟩

end Go.Proofs.YtphmpimgbmedbaaGreat
