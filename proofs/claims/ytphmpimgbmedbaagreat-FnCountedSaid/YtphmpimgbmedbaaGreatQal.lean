/- Several texts in one. -/
import Derived.Test.YtphmpimgbmedbaaGreatQac
import Derived.Test.YtphmpimgbmedbaaGreatQaf
import Derived.Test.YtphmpimgbmedbaaGreatQaa
import Derived.Test.YtphmpimgbmedbaaGreatRows
import Derived.Test.YtphmpimgbmedbaaGreatQae
import Derived.Deep.DeepCutAuto
import Derived.Laws.CopyRow
import Derived.Laws.Cells
import Derived.Laws.IdiomCopy
import Derived.Test.YtphmpimgbmedbaaGreatQab
import Derived.Test.YtphmpimgbmedbaaGreatQag
set_option maxRecDepth 100000
set_option maxHeartbeats 8000000
namespace Go.Proofs.YtphmpimgbmedbaaGreat
open Go.RowKit
open Go.Lib (hid)
structure WRes where
 code : Int
 world : Wld
def zShp : Shp := ⟨0, 0, 0, 0, 0, 0, 0, 0, 0⟩
def zWld : Wld := ⟨zShp, [], [], [], 0, 0, false⟩
structure BRes where
 code : Int
 block : Blk
/-! ### how much there is of it -/
section
variable {α : Type} {f : α → Int}
end
end Go.Proofs.YtphmpimgbmedbaaGreat
namespace Go.Proofs.YtphmpimgbmedbaaGreat
open Go.RowKit
open Go.Lib (hid)
theorem setCell_same {w : World} {b o : Nat} {v : Value} (h : w.cell? ⟨b, o, none⟩ = some v) : w.setCell ⟨b, o, none⟩ v = w := by
 unfold World.cell? at h
 unfold World.setCell
 have e : (w.heap.modify b fun
   | .cells c elem frozen => .cells (if (none : Option Value).isSome then c else c.setIfInBounds o v) elem frozen
   | o => o) = w.heap := by
  apply Array.ext_getElem?
  intro j
  rw [Array.getElem?_modify]
  by_cases e : b = j
  ·subst e
   simp only [if_true]
   cases hb : w.heap[b]? with
   | none => rfl
   | some x =>
    simp only [hb] at h
    cases x <;> simp at h ⊢
    rename_i c E fr
    apply Array.ext_getElem?
    intro i
    rw [Array.getElem?_setIfInBounds]
    by_cases e2 : o = i
    ·subst e2
     simp [h]
     exact (Array.getElem?_eq_some_iff.1 h).1
    ·rw [if_neg e2]
  ·rw [if_neg e]
 cases w
 simp only at e ⊢
 congr 1
def bblk : Blk := ⟨0, [0, 0, 0, 0]⟩
def q5n (w wr : World) (b n k : Nat) : Prop :=
 ∃ ms : List Nat, ms.length = k ∧ q0y blkL wr b 0 (ms.map (fun m => (bblk, [m])) ++ List.replicate (n - k) (zBlk, [])) ∧ q1p w.heap.size wr (b :: ms) ∧ Chg [] w wr
theorem q5n.next {w wr w2 : World} {b n k m : Nat} (h : q5n w wr b n k) (hk : k < n) (hc : Chg [] wr w2) (hm : q0p.sl w2 (some ⟨m, 0, none⟩) 4 4 [0, 0, 0, 0] [m]) (hf : q1p wr.heap.size w2 [m]) :
  q5n w (w2.setCell ⟨b, k * 2 + 1, none⟩ (.slice (some ⟨m, 0, none⟩) 4 4)) b n (k + 1) := by
 obtain ⟨ms, h1, h2, h3, h4⟩ := h
 have r2 := h2.ext hc
 have hlen : (ms.map (fun m => (bblk, [m])) ++ List.replicate (n - k) (zBlk, ([] : List Nat))).length = n := by simp; omega
 obtain ⟨p, c, hp, hrep, hnb, hcell⟩ := r2.at (i := k) (by rw [hlen]; exact hk)
 have hpe : p = (zBlk, []) := by
  rw [List.getElem?_append_right (by simp; omega)] at hp
  have := List.mem_of_getElem? hp
  exact List.eq_of_mem_replicate this
 subst hpe
 obtain ⟨a', l', c', f', rfl, -, -, -⟩ := q4m.1 hrep
 have h0 : w2.cell? ⟨b, k * 2, none⟩ = some (.int .i64 0) := by
  have h5 : w2.cell? ⟨b, 0 + k * 2 + 0, none⟩ = some (.int .i64 0) := hcell 0 (by decide)
  rw [Nat.zero_add, Nat.add_zero] at h5
  exact h5
 have hbm : b ≠ m := fun e => by have := (hf.2 m (by simp)).1; have := h2.lt; omega
 have hput := r2.put (i := k) (by rw [hlen]; exact hk) (x := bblk) (c := [.int .i64 0, .slice (some ⟨m, 0, none⟩) 4 4]) (f := [m]) (q4m.2 ⟨_, _, _, _, rfl, i64z, hm, rfl⟩) (by simpa using hbm)
 have ew : w2.setCells b (0 + k * blkL.n) [.int .i64 0, .slice (some ⟨m, 0, none⟩) 4 4] = w2.setCell ⟨b, k * 2 + 1, none⟩ (.slice (some ⟨m, 0, none⟩) 4 4) := by
  show (w2.setCell ⟨b, 0 + k * 2, none⟩ _).setCell ⟨b, 0 + k * 2 + 1, none⟩ _ = _
  rw [Nat.zero_add, setCell_same h0]
 rw [ew] at hput
 have es : (ms.map (fun m => (bblk, [m])) ++ List.replicate (n - k) (zBlk, ([] : List Nat))).set k (bblk, [m]) = (ms ++ [m]).map (fun m => (bblk, [m])) ++ List.replicate (n - (k + 1)) (zBlk, []) := by
  rw [List.set_append_right _ _ (by simp; omega), List.length_map, h1, Nat.sub_self, show n - k = (n - (k + 1)) + 1 by omega, List.replicate_succ, List.set_cons_zero, List.map_append]
  simp
 rw [es] at hput
 have cS : Chg [b] w2 (w2.setCell ⟨b, k * 2 + 1, none⟩ (.slice (some ⟨m, 0, none⟩) 4 4)) := (Chg.refl _ _).setCell _ _ (.inl (by simp))
 refine ⟨ms ++ [m], by simp [h1], hput, ?_, ?_⟩
 ·have := (h3.chg hc).append hf h3.lts h4.size
  exact (show q1p w.heap.size w2 (b :: (ms ++ [m])) from this).chg cS
 ·exact (h4.trans0 hc).setCell _ _ (.inr (h3.2 b (by simp)).1)
theorem q5n.cells {w wr : World} {b n k : Nat} (h : q5n w wr b n k) (hk : k < n) : (∃ v, wr.cell? ⟨b, k * 2 + 1, none⟩ = some v) ∧ b < wr.heap.size ∧ ∀ j, wr.frozen? ⟨b, j, none⟩ = false := by
 obtain ⟨ms, h1, h2, h3, h4⟩ := h
 have hlen : (ms.map (fun m => (bblk, [m])) ++ List.replicate (n - k) (zBlk, ([] : List Nat))).length = n := by simp; omega
 obtain ⟨p, c, hp, hrep, hnb, hcell⟩ := h2.at (i := k) (by rw [hlen]; exact hk)
 obtain ⟨a', l', c', f', rfl, -, -, -⟩ := q4m.1 hrep
 have h5 : wr.cell? ⟨b, 0 + k * 2 + 1, none⟩ = some (.slice a' l' c') := hcell 1 (by decide)
 rw [Nat.zero_add] at h5
 exact ⟨⟨_, h5⟩, h2.lt, h2.free⟩
theorem q5n.last {w wr : World} {b n : Nat} (h : q5n w wr b n n) (hn : n ≤ maxLen) : q7s blkL (List.replicate n bblk) w (.returned (.slice (some ⟨b, 0, none⟩) n n)) wr := by
 obtain ⟨ms, h1, h2, h3, h4⟩ := h
 rw [Nat.sub_self, List.replicate_zero, List.append_nil] at h2
 have := h2.sl (len := n) (cap := n) (by simp [h1]) (Nat.le_refl _) hn
 have e1 : (ms.map (fun m => (bblk, [m]))).map (·.1) = List.replicate n bblk := by
  rw [List.map_map, ← h1]
  exact List.map_const' ..
 have e2 : (ms.map (fun m => (bblk, [m]))).flatMap (·.2) = ms := by
  rw [List.flatMap_map]
  simp
 rw [e1, e2] at this
 exact ⟨some ⟨b, 0, none⟩, n, _, by simp, by simpa using this, h3, h4⟩
theorem row9_back {w : World} {b : Nat} {E : TypeId} {fr : Nat × Nat} {u0 u1 u2 u3 u4 u5 u6 u7 u8 : Value} (v0 v1 v2 v3 v4 v5 v6 v7 v8 : Value) (h : w.heap[b]? = some (.cells #[u0, u1, u2, u3, u4, u5, u6, u7, u8] E fr)) :
  (((((((((w.setCell ⟨b, 0, none⟩ (v0)).setCell ⟨b, 1, none⟩ (v1)).setCell ⟨b, 2, none⟩ (v2)).setCell ⟨b, 3, none⟩ (v3)).setCell ⟨b, 4, none⟩ (v4)).setCell ⟨b, 5, none⟩ (v5)).setCell ⟨b, 6, none⟩ (v6)).setCell ⟨b, 7, none⟩ (v7)).setCell ⟨b, 8, none⟩ (v8)).heap[b]? = some (.cells #[v0, v1, v2, v3, v4, v5, v6, v7, v8] E fr) := by
 have e : (((((((((w.setCell ⟨b, 0, none⟩ (v0)).setCell ⟨b, 1, none⟩ (v1)).setCell ⟨b, 2, none⟩ (v2)).setCell ⟨b, 3, none⟩ (v3)).setCell ⟨b, 4, none⟩ (v4)).setCell ⟨b, 5, none⟩ (v5)).setCell ⟨b, 6, none⟩ (v6)).setCell ⟨b, 7, none⟩ (v7)).setCell ⟨b, 8, none⟩ (v8)) = w.setCells b 0 [v0, v1, v2, v3, v4, v5, v6, v7, v8] := rfl
 rw [e, q2w [v0, v1, v2, v3, v4, v5, v6, v7, v8] 0 w _ h]
 simp [setRow]
theorem cpyB_any (a : Option Addr) (la ca : Nat) (xs : List UInt8) (f : List Nat) (w : World) (ha : q0p.sl w a la ca xs f) (hz : la ≤ 140737488355327) :
  Calls Tryz.prog 141 #[.slice a la ca] w (q7s q0p xs w) := by
 obtain ⟨K, _⟩ := kindB
 have HA := hid ha
 have HZ := hid hz
 have hn := fun w => Lib.run_eql_slice_nil (P := Tryz.prog) w 62 5 a la ca 0 0 Tryz.underlying62
 clear ha hz
 cases a with
 | none =>
  obtain rfl : xs = [] := by apply List.eq_nil_of_length_eq_zero; have := HA.out.1; have := HA.out.2.1; have := HA.out.2.2.2.1 rfl; omega
  go_enter Tryz.func141, Tryz.ntmps141
  go_wp2
  go_ret
  exact ⟨none, 0, [], rfl, nil_sl0 _ _, q1p.nil _ _, Chg.refl _ _⟩
 | some ad =>
  have HL : Hid (([] : List UInt8).length + xs.length ≤ maxLen ∧ (([] : List UInt8).length + xs.length) * 1 ≤ 140737488355328) := by
   have := HA.out.1; have := HZ.out; have := Lay.sl_max _ HA.out
   refine ⟨?_, ?_⟩
   ·simp only [List.length_nil, maxLen]; omega
   ·simp only [List.length_nil, Nat.zero_add]; omega
  go_enter Tryz.func141, Tryz.ntmps141
  go_wp2_with (refine q0p.wpList_growS byte_flat rfl _ _ 62 rfl Tryz.underlying62 K rfl (Grow.made (Chg.refl [] w)) (Chg.refl [] _) rfl (q0p.sl_ext HA.out ((Chg.refl [] w).alloc _)) HL.out.1 HL.out.2 ?_; intro v' w' hg'; have hN := hid hg'; clear hg')
  go_ret
  obtain ⟨a', c', f', h1, h2, h3, h4⟩ := hN.out.sl
  exact ⟨a', c', f', by rw [h1]; rfl, h2, h3, h4⟩
theorem cpyI_any (a : Option Addr) (la ca : Nat) (xs : List Int) (f : List Nat) (w : World) (ha : intL.sl w a la ca xs f) (hz : la ≤ 17592186044415) :
  Calls Tryz.prog 154 #[.slice a la ca] w (q7s intL xs w) := by
 obtain ⟨K, _⟩ := kindI
 have HA := hid ha
 have HZ := hid hz
 have hn := fun w => Lib.run_eql_slice_nil (P := Tryz.prog) w 25 2 a la ca 0 0 Tryz.underlying25
 clear ha hz
 cases a with
 | none =>
  obtain rfl : xs = [] := by apply List.eq_nil_of_length_eq_zero; have := HA.out.1; have := HA.out.2.1; have := HA.out.2.2.2.1 rfl; omega
  go_enter Tryz.func154, Tryz.ntmps154
  go_wp2
  go_ret
  exact ⟨none, 0, [], rfl, nil_sl0 _ _, q1p.nil _ _, Chg.refl _ _⟩
 | some ad =>
  have HL : Hid (([] : List Int).length + xs.length ≤ maxLen ∧ (([] : List Int).length + xs.length) * 8 ≤ 140737488355328) := by
   have := HA.out.1; have := HZ.out; have := Lay.sl_max _ HA.out
   refine ⟨?_, ?_⟩
   ·simp only [List.length_nil, maxLen]; omega
   ·simp only [List.length_nil, Nat.zero_add]; omega
  go_enter Tryz.func154, Tryz.ntmps154
  go_wp2_with (refine intL.wpList_growS int_flat rfl _ _ 25 rfl Tryz.underlying25 K rfl (Grow.made (Chg.refl [] w)) (Chg.refl [] _) rfl (intL.sl_ext HA.out ((Chg.refl [] w).alloc _)) HL.out.1 HL.out.2 ?_; intro v' w' hg'; have hN := hid hg'; clear hg')
  go_ret
  obtain ⟨a', c', f', h1, h2, h3, h4⟩ := hN.out.sl
  exact ⟨a', c', f', by rw [h1]; rfl, h2, h3, h4⟩
theorem cloneRec_any (x : Rec) (cx : Array Value) (fx : List Nat) (w : World) (hx : recL.rep w cx.toList x fx) (hz : q3f x ≤ 1048576) :
  Calls Tryz.prog 122 #[.agg cx] w (q8r recL x w) := by
 obtain ⟨a6, l6, c6, f6, a7, l7, c7, f7, a8, l8, c8, f8, ex, o0, o1, o2, o3, o4, o5, h6, h7, h8, -⟩ := q0v.1 hx
 obtain rfl := Array.toList_inj.1 (ex.trans (List.toList_toArray).symm)
 have q6 := q3g x.rows; have q7 := q3h x.data; have q8 := q3h x.delta
 unfold q3f q5u q7v at hz
 unfold q5u at q6; unfold q7v at q7 q8
 have z6 : l6 ≤ 1048576 := by rw [h6.1]; omega
 have z7 : l7 ≤ 1048576 := by rw [h7.1]; omega
 have z8 : l8 ≤ 1048576 := by rw [h8.1]; omega
 have HO := hid (And.intro o0 (And.intro o1 (And.intro o2 (And.intro o3 (And.intro o4 o5)))))
 have L6 := hid h6.1.symm; have L7 := hid h7.1.symm; have L8 := hid h8.1.symm
 have H6 := hid h6; have H7 := hid h7; have H8 := hid h8
 clear hx ex hz q6 q7 q8 o0 o1 o2 o3 o4 o5 h6 h7 h8
 have g0 : Chg [] w ((w.alloc (.cells #[.int .i64 x.kind, .int .i64 x.seq, .string x.name, .int .i64 x.length, .int .i64 x.group, .int .i64 x.row, .slice a6 l6 c6, .slice a7 l7 c7, .slice a8 l8 c8] 67)).alloc (.cells #[.int .i64 0, .int .i64 0, .string ⟨#[]⟩, .int .i64 0, .int .i64 0, .int .i64 0, .slice none 0 0, .slice none 0 0, .slice none 0 0] 67)).drew := (((Chg.refl [] w).alloc _).alloc _).drew
 have B1 := hid (show ((w.alloc (.cells #[.int .i64 x.kind, .int .i64 x.seq, .string x.name, .int .i64 x.length, .int .i64 x.group, .int .i64 x.row, .slice a6 l6 c6, .slice a7 l7 c7, .slice a8 l8 c8] 67)).alloc (.cells #[.int .i64 0, .int .i64 0, .string ⟨#[]⟩, .int .i64 0, .int .i64 0, .int .i64 0, .slice none 0 0, .slice none 0 0, .slice none 0 0] 67)).drew.heap[w.heap.size]? = some (.cells #[.int .i64 x.kind, .int .i64 x.seq, .string x.name, .int .i64 x.length, .int .i64 x.group, .int .i64 x.row, .slice a6 l6 c6, .slice a7 l7 c7, .slice a8 l8 c8] 67 (0, 0)) from q0a (q0b (q0o w _) _))
 have B2 := hid (show ((w.alloc (.cells #[.int .i64 x.kind, .int .i64 x.seq, .string x.name, .int .i64 x.length, .int .i64 x.group, .int .i64 x.row, .slice a6 l6 c6, .slice a7 l7 c7, .slice a8 l8 c8] 67)).alloc (.cells #[.int .i64 0, .int .i64 0, .string ⟨#[]⟩, .int .i64 0, .int .i64 0, .int .i64 0, .slice none 0 0, .slice none 0 0, .slice none 0 0] 67)).drew.heap[w.heap.size + 1]? = some (.cells #[.int .i64 0, .int .i64 0, .string ⟨#[]⟩, .int .i64 0, .int .i64 0, .int .i64 0, .slice none 0 0, .slice none 0 0, .slice none 0 0] 67 (0, 0)) from q0a (q0e (by simp) _))
 have hs0 : ((w.alloc (.cells #[.int .i64 x.kind, .int .i64 x.seq, .string x.name, .int .i64 x.length, .int .i64 x.group, .int .i64 x.row, .slice a6 l6 c6, .slice a7 l7 c7, .slice a8 l8 c8] 67)).alloc (.cells #[.int .i64 0, .int .i64 0, .string ⟨#[]⟩, .int .i64 0, .int .i64 0, .int .i64 0, .slice none 0 0, .slice none 0 0, .slice none 0 0] 67)).drew.heap.size = w.heap.size + 2 := by simp [World.drew]
 have G0 := hid g0
 have HS0 := hid hs0
 clear g0 hs0
 go_enter Tryz.func122, Tryz.ntmps122
 go_wp2_with fail
 obtain ⟨CC, HCI, HCO⟩ := q0j (fun w' => Know w.heap.size #[.int .i64 x.kind, .int .i64 x.seq, .string x.name, .int .i64 x.length, .int .i64 x.group, .int .i64 x.row, .slice a6 l6 c6, .slice a7 l7 c7, .slice a8 l8 c8] w')
 refine q1j [10] CC (by kernel_rfl) (HCI.out _ (Know.of B1.out)) (fun hcl hS => ?_)
 refine ggT 0 hcl hS ?_; clear hcl hS; intro hcl hS
 refine ggL 1 hcl hS HCO ?_; clear hcl hS; intro hcl hS
 refine ggT 3 hcl hS ?_; clear hcl hS; intro hcl hS
 refine ggL 4 hcl hS HCO ?_; clear hcl hS; intro hcl hS
 refine ggT 6 hcl hS ?_; clear hcl hS; intro hcl hS
 refine ggL 7 hcl hS HCO ?_; clear hcl hS; intro hcl hS
 refine ggC 2 hcl rfl (by kernel_rfl) (fun K hK => ?_)
 go_simp
 go_at_call 154
 refine (cpyI_any a6 l6 c6 x.rows f6 _ (intL.sl_ext H6.out G0.out) (by omega)).mono ?_; rintro e w1 ⟨p6, d6, g6, rfl, hs, hf, hc⟩
 rw [L6.out] at hs ⊢; have HN1 := hid (And.intro hs (And.intro hf hc)); obtain ⟨-, -, A1⟩ := bk0 hc B1.out; obtain ⟨-, -, A2⟩ := bk0 hc B2.out; clear hs hf hc
 go_wp2_with fail
 refine hK.out _ _ (fun _ => HCI.out _ (Know.of A1.out)) ?_
 clear hK K hcl hS
 intro hcl hS
 try simp only [Act.put, pA, pB, pC]
 refine ggT 9 hcl hS ?_; clear hcl hS; intro hcl hS
 refine ggC 5 hcl rfl (by kernel_rfl) (fun K hK => ?_)
 go_simp
 go_at_call 141
 refine (cpyB_any a7 l7 c7 x.data f7 _ (q0p.sl_ext H7.out (G0.out.trans0 HN1.out.2.2)) (by omega)).mono ?_; rintro e w2 ⟨p7, d7, g7, rfl, hs, hf, hc⟩
 rw [L7.out] at hs ⊢; have HN2 := hid (And.intro hs (And.intro hf hc)); obtain ⟨-, -, A3⟩ := bk0 hc A1.out; obtain ⟨-, -, A4⟩ := bk0 hc A2.out; clear hs hf hc
 go_wp2_with fail
 refine hK.out _ _ (fun _ => HCI.out _ (Know.of A3.out)) ?_
 clear hK K hcl hS
 intro hcl hS
 try simp only [Act.put, pA, pB, pC]
 refine ggC 8 hcl rfl (by kernel_rfl) (fun K hK => ?_)
 go_simp
 go_at_call 141
 refine (cpyB_any a8 l8 c8 x.delta f8 _ (q0p.sl_ext H8.out ((G0.out.trans0 HN1.out.2.2).trans0 HN2.out.2.2)) (by omega)).mono ?_; rintro e w3 ⟨p8, d8, g8, rfl, hs, hf, hc⟩
 rw [L8.out] at hs ⊢; have HN3 := hid (And.intro hs (And.intro hf hc)); obtain ⟨e1, n1, A5⟩ := bk0 hc A3.out; obtain ⟨e2, n2, A6⟩ := bk0 hc A4.out; have fz := q0c A5.out; have fy := q0c A6.out; clear hs hf hc
 go_wp2_with fail
 refine hK.out _ _ (fun _ => HCI.out _ (Know.of A5.out)) ?_
 clear hK K hcl hS
 intro hcl hS
 try simp only [Act.put, pA, pB, pC]
 refine ggC 10 hcl rfl (by kernel_rfl) (fun K hK => ?_)
 go_simp
 refine hK.out _ _ (Till.done (m := 10) (by simp) (by rfl)) ?_
 clear hK K hcl hS
 intro hcl hS
 try simp only [Act.put, pA, pB, pC]
 refine ggT 11 hcl hS ?_; clear hcl hS; intro hcl hS
 refine ggC 12 hcl rfl (by kernel_rfl) (fun K hK => ?_)
 go_simp
 refine hK.out _ _ (Till.done (m := 10) (by simp) (by rfl)) ?_
 clear hK K hcl hS
 intro hcl hS
 try simp only [Act.put, pA, pB, pC]
 refine ggT 13 hcl hS ?_; clear hcl hS; intro hcl hS
 refine ggC 14 hcl rfl (by kernel_rfl) (fun K hK => ?_)
 go_simp
 refine hK.out _ _ (Till.done (m := 10) (by simp) (by rfl)) ?_
 clear hK K hcl hS
 intro hcl hS
 try simp only [Act.put, pA, pB, pC]
 refine q3i (by kernel_rfl) ?_ _
 go_wp2_with fail
 have hb1 : (((w3.setCell ⟨w.heap.size, 6, none⟩ (.slice p6 l6 d6)).setCell ⟨w.heap.size, 7, none⟩ (.slice p7 l7 d7)).setCell ⟨w.heap.size, 8, none⟩ (.slice p8 l8 d8)).heap[w.heap.size + 1]? = some (.cells #[.int .i64 0, .int .i64 0, .string ⟨#[]⟩, .int .i64 0, .int .i64 0, .int .i64 0, .slice none 0 0, .slice none 0 0, .slice none 0 0] 67 (0, 0)) := q0q (q0q (q0q A6.out _ _ (by simp)) _ _ (by simp)) _ _ (by simp)
 have hq : ((((((((((((w3.setCell ⟨w.heap.size, 6, none⟩ (.slice p6 l6 d6)).setCell ⟨w.heap.size, 7, none⟩ (.slice p7 l7 d7)).setCell ⟨w.heap.size, 8, none⟩ (.slice p8 l8 d8)).setCell ⟨w.heap.size + 1, 0, none⟩ (.int .i64 x.kind)).setCell ⟨w.heap.size + 1, 1, none⟩ (.int .i64 x.seq)).setCell ⟨w.heap.size + 1, 2, none⟩ (.string x.name)).setCell ⟨w.heap.size + 1, 3, none⟩ (.int .i64 x.length)).setCell ⟨w.heap.size + 1, 4, none⟩ (.int .i64 x.group)).setCell ⟨w.heap.size + 1, 5, none⟩ (.int .i64 x.row)).setCell ⟨w.heap.size + 1, 6, none⟩ (.slice p6 l6 d6)).setCell ⟨w.heap.size + 1, 7, none⟩ (.slice p7 l7 d7)).setCell ⟨w.heap.size + 1, 8, none⟩ (.slice p8 l8 d8)).heap[w.heap.size + 1]? = some (.cells #[.int .i64 x.kind, .int .i64 x.seq, .string x.name, .int .i64 x.length, .int .i64 x.group, .int .i64 x.row, .slice p6 l6 d6, .slice p7 l7 d7, .slice p8 l8 d8] 67 (0, 0)) := by
  have h := row9_back (.int .i64 x.kind) (.int .i64 x.seq) (.string x.name) (.int .i64 x.length) (.int .i64 x.group) (.int .i64 x.row) (.slice p6 l6 d6) (.slice p7 l7 d7) (.slice p8 l8 d8) hb1
  exact h
 have hqc := cellsOf hq
 have s1 := HN1.out.2.2.size; have s2 := HN2.out.2.2.size; have s3 := HN3.out.2.2.size
 rw [HS0.out] at s1
 have cS : Chg [w.heap.size, w.heap.size + 1] w3 ((((((((((((w3.setCell ⟨w.heap.size, 6, none⟩ (.slice p6 l6 d6)).setCell ⟨w.heap.size, 7, none⟩ (.slice p7 l7 d7)).setCell ⟨w.heap.size, 8, none⟩ (.slice p8 l8 d8)).setCell ⟨w.heap.size + 1, 0, none⟩ (.int .i64 x.kind)).setCell ⟨w.heap.size + 1, 1, none⟩ (.int .i64 x.seq)).setCell ⟨w.heap.size + 1, 2, none⟩ (.string x.name)).setCell ⟨w.heap.size + 1, 3, none⟩ (.int .i64 x.length)).setCell ⟨w.heap.size + 1, 4, none⟩ (.int .i64 x.group)).setCell ⟨w.heap.size + 1, 5, none⟩ (.int .i64 x.row)).setCell ⟨w.heap.size + 1, 6, none⟩ (.slice p6 l6 d6)).setCell ⟨w.heap.size + 1, 7, none⟩ (.slice p7 l7 d7)).setCell ⟨w.heap.size + 1, 8, none⟩ (.slice p8 l8 d8)) := by
  iterate 12 refine Chg.setCell ?_ _ _ (.inl (by simp))
  exact Chg.refl _ _
 have nb : ∀ g (B : Nat) (W : World), w.heap.size + 2 ≤ B → q1p B W g → ∀ b ∈ g, b ∉ [w.heap.size, w.heap.size + 1] := fun g B W hB hf b hb hm => by
  have := (hf.2 b hb).1
  simp only [List.mem_cons, List.not_mem_nil, or_false] at hm
  omega
 have n6 := nb g6 _ _ (by rw [HS0.out]; exact Nat.le_refl _) HN1.out.2.1
 have n7 := nb g7 _ _ (by omega) HN2.out.2.1
 have n8 := nb g8 _ _ (by omega) HN3.out.2.1
 have K6 := intL.sl_chg (intL.sl_ext (intL.sl_ext HN1.out.1 HN2.out.2.2) HN3.out.2.2) cS n6
 have K7 := q0p.sl_chg (q0p.sl_ext HN2.out.1 HN3.out.2.2) cS n7
 have K8 := q0p.sl_chg HN3.out.1 cS n8
 have F6 := ((HN1.out.2.1.chg HN2.out.2.2).chg HN3.out.2.2).chg cS
 have F7 := (HN2.out.2.1.chg HN3.out.2.2).chg cS
 have F8 := HN3.out.2.1.chg cS
 have l6' := HN1.out.2.1.low (Nat.le_refl _); have l7' := HN2.out.2.1.low (Nat.le_refl _)
 have hfr := (F6.append (F7.append F8 l7' (by omega)) l6' (by rw [HS0.out]; omega)).mono (C := w.heap.size) (by rw [HS0.out]; omega)
 have hch : Chg [] w ((((((((((((w3.setCell ⟨w.heap.size, 6, none⟩ (.slice p6 l6 d6)).setCell ⟨w.heap.size, 7, none⟩ (.slice p7 l7 d7)).setCell ⟨w.heap.size, 8, none⟩ (.slice p8 l8 d8)).setCell ⟨w.heap.size + 1, 0, none⟩ (.int .i64 x.kind)).setCell ⟨w.heap.size + 1, 1, none⟩ (.int .i64 x.seq)).setCell ⟨w.heap.size + 1, 2, none⟩ (.string x.name)).setCell ⟨w.heap.size + 1, 3, none⟩ (.int .i64 x.length)).setCell ⟨w.heap.size + 1, 4, none⟩ (.int .i64 x.group)).setCell ⟨w.heap.size + 1, 5, none⟩ (.int .i64 x.row)).setCell ⟨w.heap.size + 1, 6, none⟩ (.slice p6 l6 d6)).setCell ⟨w.heap.size + 1, 7, none⟩ (.slice p7 l7 d7)).setCell ⟨w.heap.size + 1, 8, none⟩ (.slice p8 l8 d8)) := (((G0.out.trans0 HN1.out.2.2).trans0 HN2.out.2.2).trans0 HN3.out.2.2).trans cS (fun y hy => .inr (by simp only [List.mem_cons, List.not_mem_nil, or_false] at hy; omega))
 refine bodyPost_ret (v := .agg #[.int .i64 x.kind, .int .i64 x.seq, .string x.name, .int .i64 x.length, .int .i64 x.group, .int .i64 x.row, .slice p6 l6 d6, .slice p7 l7 d7, .slice p8 l8 d8]) (by simp [results, Tryz.results122, go_sem, hqc]) rfl ⟨_, _, rfl, q0v.2 ⟨p6, l6, d6, g6, p7, l7, d7, g7, p8, l8, d8, g8, rfl, HO.out.1, HO.out.2.1, HO.out.2.2.1, HO.out.2.2.2.1, HO.out.2.2.2.2.1, HO.out.2.2.2.2.2, K6, K7, K8, rfl⟩, hfr, hch⟩
theorem row2_back {w : World} {b : Nat} {E : TypeId} {fr : Nat × Nat} {u0 u1 : Value} (v0 v1 : Value) (h : w.heap[b]? = some (.cells #[u0, u1] E fr)) :
  ((w.setCell ⟨b, 0, none⟩ v0).setCell ⟨b, 1, none⟩ v1).heap[b]? = some (.cells #[v0, v1] E fr) := by
 have e : ((w.setCell ⟨b, 0, none⟩ v0).setCell ⟨b, 1, none⟩ v1) = w.setCells b 0 [v0, v1] := rfl
 rw [e, q2w [v0, v1] 0 w _ h]
 simp [setRow]
theorem q9l (a : Option Addr) (la ca : Nat) (xs : List Rec) (f : List Nat) (w : World) (ha : recL.sl w a la ca xs f) (hz : totL q3f xs ≤ 1048576) :
  Calls Tryz.prog 93 #[.slice a la ca] w (q7s recL xs w) := by
 obtain ⟨K, _⟩ := q7j
 have hlz : la ≤ 1048576 := by have := totL_len q3l xs; rw [ha.1]; omega
 have HL := hid ha.1
 have HA := hid ha
 have HZ := hid (fun x hx => Int.le_trans (totL_mem q3l hx) hz : ∀ x ∈ xs, q3f x ≤ 1048576)
 clear ha hz
 go_enter Tryz.func93, Tryz.ntmps93
 go_wp2_with fail
 go_loopw [3, 9] (fun vo vi wr => ∃ (k : Nat) (Wr : World), Wr = wr ∧ k ≤ la ∧ vi = .int .i64 k ∧ Grow recL 67 w wr vo (xs.take k)) (fun _ vi _ => la - (intOf vi).toNat)
 case atStart => exact ⟨0, _, rfl, by omega, rfl, by rw [List.take_zero]; exact Grow.made (Chg.refl _ _)⟩
 case round =>
  obtain ⟨k, wr, rfl, hk, rfl, hg⟩ := hrel
  by_cases hlt : k < la
  ·obtain ⟨x, b, off, a6, l6, c6, a7, l7, c7, a8, l8, c8, fq, HX, rfl, hq0, hq1, hq2, hq3, hq4, hq5, hq6, hq7, hq8, HXS⟩ := q7e (recL.sl_ext HA.out hg.chg) hlt
   have HG := hid hg
   have HXI := hid HX.out.1
   have HXZ := hid (HZ.out x (List.mem_of_getElem? HX.out.1))
   clear hg HX
   go_wp2_with fail
   refine (cloneRec_any x #[.int .i64 x.kind, .int .i64 x.seq, .string x.name, .int .i64 x.length, .int .i64 x.group, .int .i64 x.row, .slice a6 l6 c6, .slice a7 l7 c7, .slice a8 l8 c8] fq _ (recL.ext HXS.out ((Chg.refl [] wr).alloc (.cells #[.int .i64 x.kind, .int .i64 x.seq, .string x.name, .int .i64 x.length, .int .i64 x.group, .int .i64 x.row, .slice a6 l6 c6, .slice a7 l7 c7, .slice a8 l8 c8] 67))) HXZ.out).mono ?_
   rintro e w1 ⟨cs, f1, rfl, hr, hf, hc⟩
   obtain ⟨p6, m6, d6, _, p7, m7, d7, _, p8, m8, d8, _, ex, -⟩ := q0v.1 hr
   obtain rfl := Array.toList_inj.1 (ex.trans (List.toList_toArray).symm)
   have HN1 := hid (And.intro hr (And.intro (hf.mono (C := wr.heap.size) (by simp)) (((Chg.refl [] wr).alloc (.cells #[.int .i64 x.kind, .int .i64 x.seq, .string x.name, .int .i64 x.length, .int .i64 x.group, .int .i64 x.row, .slice a6 l6 c6, .slice a7 l7 c7, .slice a8 l8 c8] 67)).trans0 hc)))
   have HLL : Hid ((xs.take k).length + [x].length ≤ maxLen ∧ ((xs.take k).length + [x].length) * 128 ≤ 140737488355328) := by
    refine ⟨?_, ?_⟩ <;> simp only [List.length_take, List.length_cons, List.length_nil, maxLen] <;> omega
   have HNX := hid (q2b HXI.out)
   clear ex hr hf hc hq0 hq1 hq2 hq3 hq4 hq5 hq6 hq7 hq8 HXS
   go_wp2_with (at_builtin; refine recL.wpList_grow rfl _ _ 44 rfl Tryz.underlying44 K rfl HG.out (HN1.out.2.2.alloc (.cells #[.int .i64 x.kind, .int .i64 x.seq, .string x.name, .int .i64 x.length, .int .i64 x.group, .int .i64 x.row, .slice p6 m6 d6, .slice p7 m7 d7, .slice p8 m8 d8] 67)) ⟨w1.heap.size, 0, none⟩ 1 1 [.int .i64 x.kind, .int .i64 x.seq, .string x.name, .int .i64 x.length, .int .i64 x.group, .int .i64 x.row, .slice p6 m6 d6, .slice p7 m7 d7, .slice p8 m8 d8] (ys := [x]) (f := f1) rfl rfl (q1n w1 #[.int .i64 x.kind, .int .i64 x.seq, .string x.name, .int .i64 x.length, .int .i64 x.group, .int .i64 x.row, .slice p6 m6 d6, .slice p7 m7 d7, .slice p8 m8 d8] 67) (recL.all_single (recL.ext HN1.out.1 ((Chg.refl [] w1).alloc _))) (HN1.out.2.1.chg ((Chg.refl [] w1).alloc (.cells #[.int .i64 x.kind, .int .i64 x.seq, .string x.name, .int .i64 x.length, .int .i64 x.group, .int .i64 x.row, .slice p6 m6 d6, .slice p7 m7 d7, .slice p8 m8 d8] 67))) HLL.out.1 HLL.out.2 ?_; intro v' w' hg'; rw [← HNX.out] at hg'; have HG2 := hid hg'; clear hg')
   go_roundw
   case rel => exact ⟨k + 1, _, rfl, by omega, by go_num, HG2.out⟩
   case measure => simp [intOf]; omega
  ·obtain rfl : k = la := by omega
   rw [List.take_of_length_le (by have := HL.out; omega)] at hg
   obtain ⟨a', c', f', h1, h2, h3, h4⟩ := hg.sl
   subst h1
   have HN := hid (show q7s recL xs w (.returned (.slice a' xs.length c')) wr from ⟨a', c', f', rfl, h2, h3, h4⟩)
   generalize xs.length = n at HN ⊢
   clear h2 h3 h4 hg
   go_wp2_with fail
   go_ret
   exact HN.out

theorem l5Blank_ty {T : List TRow} {w : World} (h : Well T w) :
  Calls Tryz.prog 253 #[] w fun e w' => ∃ v T', e = .returned (.agg #[.int .i64 0, v]) ∧ SlT T' .bt v ∧ TyStep T w T' w' := by
 have hmb : ∀ w : World, (Instr.makeSlice 62 (.int .i64 4) (.int .i64 4)).run Tryz.prog w = .ok (.slice (some ⟨w.heap.size, 0, none⟩) 4 4) (w.alloc (.cells (zrow (.int .u8 0) 4) 5)) := fun w => q8d 4 (by omega) w
 have hz : (zrow (.int .u8 0) 4).toList = List.replicate 4 (.int .u8 0) := toList_madeCells_one (.int .u8 0) 4
 have hzs : (zrow (.int .u8 0) 4).size = 4 * Kd.bt.n := by rw [← Array.length_toList, hz]; rfl
 have HT := hid ((((TyStep.refl h).ext ((Chg.refl [] w).alloc (.cells #[.int .i64 0, .slice (some ⟨w.heap.size + 1, 0, none⟩) 4 4] 76))).push .bt 4 4 (zrow (.int .u8 0) 4) (Nat.le_refl _) hzs (fun i hi => by
  rw [hz]
  have hi4 : i = 0 ∨ i = 1 ∨ i = 2 ∨ i = 3 := by omega
  rcases hi4 with rfl | rfl | rfl | rfl <;> exact ⟨0, rfl⟩)))
 clear h hz hzs
 go_enter Tryz.func253, Tryz.ntmps253
 go_wp2_with fail
 refine bodyPost_ret (v := .agg #[.int .i64 0, .slice (some ⟨w.heap.size + 1, 0, none⟩) 4 4]) (by simp [results, Tryz.results253, go_sem]) rfl ⟨_, _, rfl, ?_, HT.out⟩
 exact ⟨_, 4, 4, rfl, by decide, Nat.le_refl _, by simp [maxLen], .inr ⟨_, List.mem_cons_self, rfl, 0, by simp [Kd.n], by simp, by simp⟩⟩
theorem q8g (x : Shp) (n : Nat) {T : List TRow} (w : World) (h : Well T w) (hx : x.rows = n) (hn : n ≤ 15) :
  Calls Tryz.prog 208 #[.agg #[.int .i64 x.gS, .int .i64 x.cM, .int .i64 x.data, .int .i64 x.spare, .int .i64 x.rows, .int .i64 x.cap, .int .i64 x.bT, .int .i64 x.qU, .int .i64 x.sG]] w fun e w' => ∃ p c, e = .returned (.agg #[.bool false, .slice p n c]) ∧ ∃ T', SlT T' .bk (.slice p n c) ∧ TyStep T w T' w' := by
 obtain ⟨KB, _⟩ := kindBlock
 have HX := hid hx
 have HN0 := hid (fun r (hr : r ∈ T) => (.inl (h.lt hr) : r.b < w.heap.size ∨ w.heap.size + 3 ≤ r.b))
 have G0 := hid ((TyStep.refl h).ext (show Chg [] w (((w.alloc (.cells #[.int .i64 x.gS, .int .i64 x.cM, .int .i64 x.data, .int .i64 x.spare, .int .i64 x.rows, .int .i64 x.cap, .int .i64 x.bT, .int .i64 x.qU, .int .i64 x.sG] 30)).alloc (.cells #[.bool false, .slice none 0 0] 82)).alloc (.cells #[.bool false, .slice none 0 0] 82)) from (((Chg.refl [] w).alloc _).alloc _).alloc _))
 have B0 := hid (show (((w.alloc (.cells #[.int .i64 x.gS, .int .i64 x.cM, .int .i64 x.data, .int .i64 x.spare, .int .i64 x.rows, .int .i64 x.cap, .int .i64 x.bT, .int .i64 x.qU, .int .i64 x.sG] 30)).alloc (.cells #[.bool false, .slice none 0 0] 82)).alloc (.cells #[.bool false, .slice none 0 0] 82)).heap[w.heap.size]? = some (.cells #[.int .i64 x.gS, .int .i64 x.cM, .int .i64 x.data, .int .i64 x.spare, .int .i64 x.rows, .int .i64 x.cap, .int .i64 x.bT, .int .i64 x.qU, .int .i64 x.sG] 30 (0, 0)) from q0b (q0b (q0o w _) _) _)
 have B1 := hid (show (((w.alloc (.cells #[.int .i64 x.gS, .int .i64 x.cM, .int .i64 x.data, .int .i64 x.spare, .int .i64 x.rows, .int .i64 x.cap, .int .i64 x.bT, .int .i64 x.qU, .int .i64 x.sG] 30)).alloc (.cells #[.bool false, .slice none 0 0] 82)).alloc (.cells #[.bool false, .slice none 0 0] 82)).heap[w.heap.size + 1]? = some (.cells #[.bool false, .slice none 0 0] 82 (0, 0)) from q0b (q0e (by simp) _) _)
 have B2 := hid (show (((w.alloc (.cells #[.int .i64 x.gS, .int .i64 x.cM, .int .i64 x.data, .int .i64 x.spare, .int .i64 x.rows, .int .i64 x.cap, .int .i64 x.bT, .int .i64 x.qU, .int .i64 x.sG] 30)).alloc (.cells #[.bool false, .slice none 0 0] 82)).alloc (.cells #[.bool false, .slice none 0 0] 82)).heap[w.heap.size + 2]? = some (.cells #[.bool false, .slice none 0 0] 82 (0, 0)) from q0e (by simp) _)
 clear hx h
 go_enter Tryz.func208, Tryz.ntmps208
 go_wp2_with fail
 go_loopw [4] (fun vi wr => ∃ (k : Nat) (pv : Option Addr) (cv : Nat) (T' : List TRow) (Wr : World), Wr = wr ∧ k ≤ n ∧ vi = .int .i64 k ∧ SlT T' .bk (.slice pv k cv) ∧ Hid (∀ r ∈ T', r.b < w.heap.size ∨ w.heap.size + 3 ≤ r.b) ∧ wr.heap[w.heap.size]? = some (.cells #[.int .i64 x.gS, .int .i64 x.cM, .int .i64 x.data, .int .i64 x.spare, .int .i64 x.rows, .int .i64 x.cap, .int .i64 x.bT, .int .i64 x.qU, .int .i64 x.sG] 30 (0, 0)) ∧ wr.heap[w.heap.size + 1]? = some (.cells #[.bool false, .slice none 0 0] 82 (0, 0)) ∧ wr.heap[w.heap.size + 2]? = some (.cells #[.bool false, .slice pv k cv] 82 (0, 0)) ∧ TyStep T w T' wr) (fun vi _ => n - (intOf vi).toNat)
 case atStart => exact ⟨0, none, 0, T, _, rfl, by omega, rfl, ⟨none, 0, 0, rfl, Nat.zero_le _, Nat.le_refl _, by simp [maxLen], .inl ⟨rfl, rfl⟩⟩, HN0, B0.out, B1.out, B2.out, G0.out⟩
 case round =>
  clear G0 B0 B1 B2 HN0
  obtain ⟨k, pv, cv, T', wr, rfl, hk, rfl, hv, HNB, hb0, hb1, hb2, hc⟩ := hrel
  have c0 := cellsOf hb0; have n0 := ltOf hb0
  have B0 := hid hb0; have B1 := hid hb1; have B2 := hid hb2
  by_cases hlt : k < n
  ·have hle : ((k : Int) < x.rows) := by have := HX.out; omega
   have HV := hid hv; have HC := hid hc
   have lw : w.heap.size + 2 < wr.heap.size := ltOf hb2
   have HNO := hid (fun (b : Nat) (h1 : w.heap.size ≤ b) (h2 : b < w.heap.size + 3) (hm : b ∈ T'.map (·.b)) => (by
    obtain ⟨q, hq, e⟩ := List.mem_map.1 hm
    have e : q.b = b := e
    have := HNB.out q hq
    omega : False))
   clear hv hc hb0 hb1 hb2
   go_wp2_with fail
   obtain ⟨CC, HCI, HCO⟩ := q0j (fun w' => Know (w.heap.size + 2) #[.bool false, .slice pv k cv] w')
   refine q1j [4] CC (by kernel_rfl) (HCI.out _ (Know.of (q0a B2.out))) (fun hcl hS => ?_)
   refine ggT 0 hcl hS ?_; clear hcl hS; intro hcl hS
   refine ggL 1 hcl hS HCO ?_; clear hcl hS; intro hcl hS
   refine ggC 2 hcl rfl (by kernel_rfl) (fun K hK => ?_)
   go_simp
   go_at_call 253
   refine (l5Blank_ty (HC.out.well.ext (Chg.refl [] wr).drew)).mono ?_; rintro e w3 ⟨v3, T3, rfl, hv3, ht3⟩
   obtain ⟨p3, m3, d3, rfl, -⟩ := id hv3
   have HV3 := hid hv3; have HT3 := hid ht3
   have F2 := hid (ht3.chg.keepb (q0a B2.out) (HNO.out (w.heap.size + 2) (by omega) (by omega))); have F1 := hid (ht3.chg.keepb (q0a B1.out) (HNO.out (w.heap.size + 1) (by omega) (by omega))); have F0 := hid (ht3.chg.keepb (q0a B0.out) (HNO.out w.heap.size (by omega) (by omega)))
   have HN3 := hid (fun (b : Nat) (h1 : w.heap.size ≤ b) (h2 : b < w.heap.size + 3) (hm : b ∈ T3.map (·.b)) => (by obtain ⟨q, hq, e⟩ := List.mem_map.1 hm; have e : q.b = b := e; rcases ht3.new q hq with h4 | h4; exact HNO.out b h1 h2 (e ▸ h4); have h5 : wr.heap.size ≤ q.b := h4; omega : False))
   clear hv3 ht3
   go_wp2_with fail
   refine hK.out _ _ (fun _ => HCI.out _ (Know.of F2.out)) ?_
   clear hK K hcl hS
   intro hcl hS
   try simp only [Act.put, pA, pB, pC]
   refine ggC 3 hcl rfl (by kernel_rfl) (fun K hK => ?_)
   go_simp
   refine hK.out _ _ (fun _ => HCI.out _ (Know.of (q0b F2.out _))) ?_
   clear hK K hcl hS
   intro hcl hS
   try simp only [Act.put, pA, pB, pC]
   refine ggC 4 hcl rfl (by kernel_rfl) (fun K hK => ?_)
   refine q4b rfl _ _ 80 rfl (HT3.out.well.ext ((Chg.refl [] w3).alloc (.cells #[.int .i64 0, .slice p3 m3 d3] 76))) (k := .bk) Tryz.underlying80 KB (by omega) rfl (HV.out.sub HT3.out.sub) (cs := [.int .i64 0, .slice p3 m3 d3]) ⟨0, _, rfl, i64z, HV3.out⟩ (by show k + 1 ≤ 16; omega) ⟨w3.heap.size, 0, none⟩ 1 rfl (q1n w3 #[.int .i64 0, .slice p3 m3 d3] 76) ?_
   intro a' c' w4 T4 h41 h42 h43 h44 h45
   have H4 := hid (show TyStep T3 (w3.alloc (.cells #[.int .i64 0, .slice p3 m3 d3] 76)) T4 w4 from ⟨h41, h42, h44, h45⟩); have HV4 := hid h43
   have F6 := hid (h44.keepb (q0b F2.out (.cells #[.int .i64 0, .slice p3 m3 d3] 76)) (HN3.out (w.heap.size + 2) (by omega) (by omega))); have Q1 := hid (h44.keepb (q0b F1.out (.cells #[.int .i64 0, .slice p3 m3 d3] 76)) (HN3.out (w.heap.size + 1) (by omega) (by omega))); have Q0 := hid (h44.keepb (q0b F0.out (.cells #[.int .i64 0, .slice p3 m3 d3] 76)) (HN3.out w.heap.size (by omega) (by omega))); have k6 := cellsOf F6.out; have n6 := ltOf F6.out; have z6 := q0c F6.out
   clear h41 h42 h43 h44 h45
   refine hK.out _ _ (Till.done (m := 4) (by simp) (by rfl)) ?_
   clear hK K hcl hS
   intro hcl hS
   try simp only [Act.put, pA, pB, pC]
   refine ggT 5 hcl hS ?_; clear hcl hS; intro hcl hS
   refine ggC 6 hcl rfl (by kernel_rfl) (fun K hK => ?_)
   go_simp
   refine hK.out _ _ (Till.done (m := 4) (by simp) (by rfl)) ?_
   clear hK K hcl hS
   intro hcl hS
   try simp only [Act.put, pA, pB, pC]
   refine q3i (by kernel_rfl) ?_ _
   have hsz3 : wr.heap.size ≤ w3.heap.size := HT3.out.chg.size
   have HN4 := hid (show ∀ r ∈ T4, r.b < w.heap.size ∨ w.heap.size + 3 ≤ r.b from fun r hr => by
    rcases H4.out.new r hr with h1 | h1
    ·refine Classical.byContradiction fun hn => HN3.out r.b (by omega) (by omega) h1
    ·simp at h1; omega)
   have HR := hid (((((HC.out.ext (Chg.refl [] wr).drew).trans HT3.out).ext ((Chg.refl [] w3).alloc (.cells #[.int .i64 0, .slice p3 m3 d3] 76))).trans H4.out).chg0 ((Chg.refl [w.heap.size + 2] w4).setCell ⟨w.heap.size + 2, 1, none⟩ (.slice a' (k + 1) c') (.inl (by simp))) (by simp) (fun r hr hm => by rw [List.mem_singleton] at hm; have := HN4.out r hr; omega))
   have r2 := hid (q0q Q0.out ⟨w.heap.size + 2, 1, none⟩ (.slice a' (k + 1) c') (by simp))
   have r3 := hid (q0q Q1.out ⟨w.heap.size + 2, 1, none⟩ (.slice a' (k + 1) c') (by simp))
   have r4 := hid (show (w4.setCell ⟨w.heap.size + 2, 1, none⟩ (.slice a' (k + 1) c')).heap[w.heap.size + 2]? = some (.cells #[.bool false, .slice a' (k + 1) c'] 82 (0, 0)) from q0m (cur := #[.bool false, .slice pv k cv]) F6.out rfl)
   go_wp2_with fail
   go_roundw
   case rel => exact ⟨k + 1, a', c', T4, _, rfl, by omega, by go_num, HV4.out, HN4, r2.out, r3.out, r4.out, HR.out⟩
   case measure => simp [intOf]; omega
  ·obtain rfl : k = n := by omega
   have hle : ¬ ((k : Int) < x.rows) := by have := HX.out; omega
   have cb2 := cellsOf hb2; have lb2 := ltOf hb2
   have hlb1 := ltOf hb1; have fz := q0c hb1; have cb1 := cellsOf hb1
   have hq := row2_back (.bool false) (.slice pv k cv) hb1
   have hqc := cellsOf hq
   have cS : Chg [w.heap.size + 1] wr ((wr.setCell ⟨w.heap.size + 1, 0, none⟩ (.bool false)).setCell ⟨w.heap.size + 1, 1, none⟩ (.slice pv k cv)) := ((Chg.refl _ wr).setCell _ _ (.inl (by simp))).setCell _ _ (.inl (by simp))
   have HN := hid (And.intro hv (hc.chg0 cS (by simp) (fun r hr hm => by rw [List.mem_singleton] at hm; have := HNB.out r hr; omega)))
   have HQC := hid hqc
   clear hv hc hb1 hb2 hq hqc cS
   go_wp2_with fail
   have hqc := HQC.out
   refine bodyPost_ret (v := .agg #[.bool false, .slice pv k cv]) (by simp [results, Tryz.results208, go_sem, hqc]) rfl ⟨_, _, rfl, T', HN.out.1, HN.out.2⟩
end Go.Proofs.YtphmpimgbmedbaaGreat
namespace Go.Proofs.YtphmpimgbmedbaaGreat
open Go.RowKit
open Go.Lib (hid)
structure TyN (n : Nat) (T : List TRow) (w : World) : Prop where
 well : Well T w
 new : ∀ q ∈ T, n ≤ q.b
theorem TyN.nil (n : Nat) (w : World) : TyN n [] w := ⟨⟨by simp, by simp⟩, by simp⟩
section
variable {n : Nat} {T T2 : List TRow} {w w' : World}
theorem TyN.chg {S : List Nat} (h : TyN n T w) (hc : Chg S w w') (hS : ∀ x ∈ S, x < n) : TyN n T w' :=
 ⟨h.well.chg hc (fun r hr hm => by have h1 := h.new r hr; have h2 := hS _ hm; omega), h.new⟩
theorem TyN.ext (h : TyN n T w) (hc : Chg [] w w') : TyN n T w' := h.chg hc (by simp)
theorem TyN.mono {m : Nat} (h : TyN n T w) (hm : m ≤ n) : TyN m T w := ⟨h.well, fun q hq => Nat.le_trans hm (h.new q hq)⟩
theorem SubT.right (T T2 : List TRow) : SubT T (T2 ++ T) := fun r hr => ⟨r, List.mem_append_right _ hr, rfl, rfl, Nat.le_refl _, rfl⟩
theorem SubT.left (T T2 : List TRow) : SubT T2 (T2 ++ T) := fun r hr => ⟨r, List.mem_append_left _ hr, rfl, rfl, Nat.le_refl _, rfl⟩
theorem SubT.none (T : List TRow) : SubT [] T := fun r hr => by cases hr
theorem TyN.app {S : List Nat} (h : TyN n T w) (hc : Chg S w w') (hS : ∀ x ∈ S, x < n) (h2 : TyN w.heap.size T2 w') (hn : n ≤ w.heap.size) : TyN n (T2 ++ T) w' := by
 have h1 := h.chg hc hS
 refine ⟨⟨?_, fun r hr => ?_⟩, fun q hq => ?_⟩
 ·rw [List.map_append, List.nodup_append]
  refine ⟨h2.well.nd, h.well.nd, fun a ha b hb e => ?_⟩
  obtain ⟨p, hp, rfl⟩ := List.mem_map.1 ha
  obtain ⟨q, hq, rfl⟩ := List.mem_map.1 hb
  have k1 := h2.new p hp
  have k2 := h.well.lt hq
  omega
 ·rcases List.mem_append.1 hr with hr | hr
  ·obtain ⟨cur, e1, e2, e3, e4⟩ := h2.well.row r hr
   exact ⟨cur, e1, e2, e3, fun i hi => (e4 i hi).sub (SubT.left T T2)⟩
  ·obtain ⟨cur, e1, e2, e3, e4⟩ := h1.well.row r hr
   exact ⟨cur, e1, e2, e3, fun i hi => (e4 i hi).sub (SubT.right T T2)⟩
 ·rcases List.mem_append.1 hq with hq | hq
  ·exact Nat.le_trans hn (h2.new q hq)
  ·exact h.new q hq
theorem TyN.step (h : TyN n T w) (k : TyStep T w T2 w') (hn : n ≤ w.heap.size) : TyN n T2 w' :=
 ⟨k.well, fun q hq => by
  rcases k.new q hq with h1 | h1
  ·obtain ⟨p, hp, e⟩ := List.mem_map.1 h1
   have e : p.b = q.b := e
   rw [← e]; exact h.new p hp
  ·exact Nat.le_trans hn h1⟩
theorem TyN.notIn (h : TyN n T w) {b : Nat} (hb : b < n) : b ∉ T.map (·.b) := fun hm => by
 obtain ⟨p, hp, e⟩ := List.mem_map.1 hm
 have e : p.b = b := e
 have := h.new p hp
 omega
theorem TyStep.tyN (h : TyStep [] w T w') : TyN w.heap.size T w' := ⟨h.well, fun q hq => by
 rcases h.new q hq with h1 | h1
 ·cases h1
 ·exact h1⟩
end
theorem ty_os {α : Type} (L : Lay α) (k : Kd) (hn : L.n = k.n) {n : Nat} {w : World} {v : Value} {xs : List α} (hel : ∀ cs x fp, L.rep w cs x fp → ElT [] k cs) (h : q2k L k.E n w v xs) (hl : xs.length ≤ k.max) :
  ∃ A C, v = .slice A xs.length C ∧ ∃ T, SlT T k (.slice A xs.length C) ∧ TyN n T w := by
 obtain ⟨hs, hd, fps, hos, hf⟩ := h
 rcases hos with ⟨rfl, rfl, rfl, rfl⟩ | ⟨g, cap, cur, rfl, rfl, hb, h1, h2, h3, h4, h5⟩
 ·exact ⟨none, 0, rfl, [], ⟨none, 0, 0, rfl, Nat.zero_le _, Nat.le_refl _, Nat.zero_le _, .inl ⟨rfl, rfl⟩⟩, TyN.nil n w⟩
 ·refine ⟨_, _, rfl, [⟨g, k, xs.length, cap⟩], ⟨_, _, _, rfl, hl, h1, h2, .inr ⟨_, List.mem_singleton.2 rfl, rfl, 0, by rw [Nat.zero_mul], by simp, by simp⟩⟩, ⟨by simp, fun r hr => ?_⟩, fun q hq => ?_⟩
  ·rw [List.mem_singleton] at hr; subst hr
   refine ⟨cur, hb, by rw [h3, hn], h1, fun i hi => ?_⟩
   show ElT _ k _
   have hi : i < xs.length := hi
   obtain ⟨c, f, e1, e2, -⟩ := L.all_at h4 (List.getElem?_eq_getElem hi)
   have he := (hel _ _ _ e2)
   have hcl := he.len
   have : (cur.toList.drop (i * k.n)).take k.n = c := by
    apply List.ext_getElem?
    intro j
    by_cases hj : j < k.n
    ·rw [List.getElem?_take_of_lt hj, List.getElem?_drop]
     have := e1 j (by omega)
     rw [← this, hn, List.getElem?_take_of_lt]
     have := Nat.mul_le_mul_right k.n (show i + 1 ≤ xs.length by omega)
     rw [Nat.add_mul, Nat.one_mul] at this
     omega
    ·rw [List.getElem?_eq_none (by rw [List.length_take]; omega), List.getElem?_eq_none (by omega)]
   rw [this]
   exact he.sub (SubT.none _)
  ·rw [List.mem_singleton] at hq; subst hq
   exact (hf.2 g (by simp)).1
theorem ty_bytes {n : Nat} {w : World} {v : Value} {xs : List UInt8} (h : q2k q0p 5 n w v xs) (hl : xs.length ≤ 64) : ∃ A C, v = .slice A xs.length C ∧ ∃ T, SlT T .bt (.slice A xs.length C) ∧ TyN n T w :=
 ty_os q0p .bt rfl (fun _ x _ hr => ⟨x, hr.1⟩) h hl
theorem some_ty (b : Nat) (a : Option Addr) (la ca : Nat) (xs : List UInt8) (f : List Nat) (t n : Int) (w : World) (h : SrcB b a la ca xs f t w) (hn : -1000000 ≤ n) (hn2 : n ≤ 64) (ht : t ≤ 1073740000) :
  Calls Tryz.prog 132 #[.pointer (some ⟨b, 0, none⟩), .int .i64 n] w fun e w' => ∃ (A : Option Addr) (C : Nat), e = .returned (.slice A n.toNat C) ∧ (∃ T, SlT T .bt (.slice A n.toNat C) ∧ TyN w.heap.size T w') ∧ SrcB b a la ca xs f (t + 200) w' ∧ Chg [b] w w' := by
 obtain ⟨K, _⟩ := kindB
 have HH := hid h
 have hlb := h.lt
 have HFB := hid (fun x hx => q0p.sl_lt h.2.1 x hx : ∀ x ∈ f, x < w.heap.size)
 clear h
 obtain ⟨m, hm⟩ : ∃ m, m = n.toNat := ⟨_, rfl⟩
 rw [← hm]
 have HM := hid hm
 have hnm : n ≤ (m : Int) := by omega
 have hm64 : m ≤ 64 := by omega
 clear hm
 go_enter Tryz.func132, Tryz.ntmps132
 go_wp2_with fail
 go_loopw [1, 5] (fun vn vo wr => ∃ (k : Nat) (ys : List UInt8) (Wr : World), Wr = wr ∧ k ≤ m ∧ vn = .int .i64 (n - k) ∧ ys.length = k ∧ q2k q0p 5 w.heap.size wr vo ys ∧ SrcB b a la ca xs f (t + 3 * k) wr ∧ Chg [b] w wr) (fun vn _ _ => (intOf vn).toNat)
 case atStart => exact ⟨0, [], _, rfl, by omega, by simp, rfl, q2k.made (Nat.le_refl _), by simpa using HH.out.ext ((Chg.refl [] w).alloc _), (Chg.refl [b] w).alloc _⟩
 case round =>
  obtain ⟨k, ys, wr, rfl, hk, rfl, hl, hg, hs, hc⟩ := hrel
  by_cases hlt : 0 < n - (k : Int)
  ·have HL := hid hl
   have HG := hid hg; have HS := hid hs; have HC := hid hc
   clear hl hg hs hc
   go_wp2_with fail
   refine (byte_any b a la ca xs f (t + 3 * k) _ HS.out (by omega)).mono ?_
   rintro e w1 ⟨y, rfl, hs1, hc1⟩
   have hg1 := HG.out.chg hc1 (fun x hx => by rw [List.mem_singleton] at hx; rw [hx]; exact hlb)
   have HG1 := hid hg1
   have HS1 := hid hs1
   have HC1 := hid (HC.out.trans hc1 (fun x hx => .inl hx))
   have HSZ := hid hg1.1
   have HLL : Hid (ys.length + [y].length ≤ maxLen ∧ (ys.length + [y].length) * 1 ≤ 140737488355328) := by
    have := HL.out
    refine ⟨?_, ?_⟩ <;> simp only [List.length_cons, List.length_nil, maxLen] <;> omega
   clear hs1 hc1 hg1
   go_wp2_with (refine q0p.wpList_grow rfl _ _ 62 rfl Tryz.underlying62 K rfl HG1.out.to ((Chg.refl [] w1).alloc _) ⟨w1.heap.size, 0, none⟩ 1 1 [.int .u8 ((y.toNat : Nat) : Int)] (ys := [y]) (f := []) rfl rfl (new_cell _ _ _) (byte_all1 rfl) (q1p.nil _ _) HLL.out.1 HLL.out.2 ?_; intro v' w' hg'; have HN := hid (q2k.next HSZ.out hg' HC1.out (Nat.le_refl _)); have HQ := hid (HS1.out.keep (q2k.low HSZ.out hg') hlb HFB.out); clear hg')
   go_roundw
   case rel => exact ⟨k + 1, ys ++ [y], _, rfl, by have := HM.out; omega, by go_num, by simp [HL.out], HN.out.1, HQ.out.mono (by omega), HN.out.2⟩
   case measure => simp [intOf]; omega
  ·obtain rfl : k = m := by have := HM.out; omega
   subst hl
   obtain ⟨A, C, rfl, T, h1, h2⟩ := ty_bytes hg hm64
   have HN := hid (And.intro (show ∃ T, SlT T .bt (.slice A ys.length C) ∧ TyN w.heap.size T wr from ⟨T, h1, h2⟩) (And.intro (hs.mono (t2 := t + 200) (by omega)) hc))
   clear hg hs hc h1 h2
   generalize hyl : ys.length = yl at HN hlt ⊢
   have HYL := hid hyl
   clear hyl
   go_wp2_with fail
   go_ret
   rw [HYL.out]
   exact ⟨A, C, rfl, HN.out.1, HN.out.2.1, HN.out.2.2⟩
end Go.Proofs.YtphmpimgbmedbaaGreat
namespace Go.Proofs.YtphmpimgbmedbaaGreat
open Go.RowKit
open Go.Lib (hid)
theorem Chg.setRowAt {S : List Nat} {a w : World} {b : Nat} (cs : Array Value) (h : Chg S a w) (hb : b ∈ S ∨ a.heap.size ≤ b) : Chg S a (w.setRow b cs) :=
 ⟨h.os, h.tape, h.output, by simp only [World.setRow, Array.size_modify]; exact h.size, fun k hk hS => by rw [setRow_other _ _ _ _ (hb.elim (fun hb e => hS (by rw [e]; exact hb)) (fun hb => by omega))]; exact h.block k hk hS, fun k hk => by
  obtain ⟨c, E, h1⟩ := h.loose k hk
  by_cases e : k = b
  ·subst e; exact ⟨_, E, setRow_heap w k c _ E _ h1⟩
  ·exact ⟨c, E, by rw [setRow_other _ _ _ _ e]; exact h1⟩⟩
theorem store_wp' {P : Program} {o : Oper} {a : Act} {Kc : Act → World → Prop} {Q : Exit → Act → World → Prop} {w : World} {b : Nat} {cs vs : Array Value} {E : TypeId} {n : Nat} (p v : Operand) (t : TypeId)
  (hop : o.op = .store t p v) (hp : a.eval p = .pointer (some ⟨b, 0, none⟩)) (hv : a.eval v = .agg vs) (hi : (P.info? t).map (fun i => i.size) = some n) (h : w.heap[b]? = some (.cells cs E (0, 0)))
  (hn : vs.size = n) (hs : cs.size = n) (hone : vs.toList.all Value.oneCell' = true)
  (hk : Kc (a.put o.dst undef) (w.setRow b vs)) : o.wp P a w Kc Q := by
 obtain ⟨i, hi1, hi2⟩ := Option.map_eq_some_iff.1 hi
 have hst := run_storeCells_at (P := P) b 0 E vs.toList 0 cs w h (by simp; omega) (fun v hv => List.all_eq_true.1 hone v hv)
 have e : (cs.toList.take (0 + 0) ++ vs.toList ++ cs.toList.drop (0 + 0 + vs.toList.length)).toArray = vs := by
  have : cs.toList.drop (0 + 0 + vs.toList.length) = [] := List.drop_eq_nil_of_le (by simp; omega)
  rw [this]; simp
 rw [e] at hst
 have hsz : vs.size = i.size := by omega
 unfold Oper.wp execOp
 simp only [hop, hp, hv, Instr.storeAt, Instr.sureAddr, storeVar, Value.cells, sizeOf, typeInfo, Sem.run_bind, Sem.run_pure, Result.andThen_ok]
 have hp0 : (program : Sem Program).run P w = .ok P w := rfl
 simp only [hp0, Result.andThen_ok, hi1, Sem.run_pure, ← hsz, ne_eq, not_true, if_false, hst]
 exact hk
theorem store_wp {P : Program} {o : Oper} {a : Act} {Kc : Act → World → Prop} {Q : Exit → Act → World → Prop} {w : World} {b : Nat} {cs vs : Array Value} {E : TypeId} {n : Nat} (p v : Operand) (t : TypeId)
  (hop : o.op = .store t p v) (hp : a.eval p = .pointer (some ⟨b, 0, none⟩)) (hv : a.eval v = .agg vs) (hi : (P.info? t).map (fun i => i.size) = some n) (h : w.heap[b]? = some (.cells cs E (0, 0)))
  (hn : vs.size = n) (hs : cs.size = n) (hone : vs.toList.all Value.oneCell' = true)
  (hk : ∀ w', w'.heap[b]? = some (.cells vs E (0, 0)) → Chg [b] w w' → Kc (a.put o.dst undef) w') : o.wp P a w Kc Q :=
 store_wp' p v t hop hp hv hi h hn hs hone (hk _ (setRow_heap w b cs vs E (0, 0) h) ((Chg.refl _ w).setRowAt vs (.inl (by simp))))
theorem q0z {P : Program} {ops : Array Oper} {rest : List Oper} {o : Oper} {a : Act} {Q : Exit → Act → World → Prop} {w : World} {b : Nat} {cs vs : Array Value} {E : TypeId} {n : Nat} (hgd : o.guard = none) (p v : Operand) (t : TypeId)
  (hop : o.op = .store t p v) (hp : a.eval p = .pointer (some ⟨b, 0, none⟩)) (hv : a.eval v = .agg vs) (hi : (P.info? t).map (fun i => i.size) = some n) (h : w.heap[b]? = some (.cells cs E (0, 0)))
  (hn : vs.size = n) (hs : cs.size = n) (hone : vs.toList.all Value.oneCell' = true)
  (hk : ∀ w', w'.heap[b]? = some (.cells vs E (0, 0)) → Chg [b] w w' → wpList P ops Q rest (a.put o.dst undef) w') : wpList P ops Q (o :: rest) a w :=
 wpList_plain hgd fun _ hK => store_wp p v t hop hp hv hi h hn hs hone fun w' h1 h2 => hK _ _ (hk w' h1 h2)
theorem alloc_setRow (w : World) (cs vs : Array Value) (E : TypeId) : (w.alloc (.cells cs E)).setRow w.heap.size vs = w.alloc (.cells vs E) := by
 unfold World.setRow World.alloc
 congr 1
 apply Array.ext_getElem?
 intro k
 rw [Array.getElem?_modify]
 by_cases h : w.heap.size = k
 ·subst h; simp
 ·rw [if_neg h, Array.getElem?_push, Array.getElem?_push, if_neg (fun e => h e.symm), if_neg (fun e => h e.symm)]
theorem q2l {P : Program} {ops : Array Oper} {rest : List Oper} {o : Oper} {a : Act} {Q : Exit → Act → World → Prop} {w : World} {b : Nat} {cs vs : Array Value} {E : TypeId} {n : Nat} (hgd : o.guard = none) (p v : Operand) (t : TypeId)
  (hop : o.op = .store t p v) (hp : a.eval p = .pointer (some ⟨b, 0, none⟩)) (hv : a.eval v = .agg vs) (hb : b = w.heap.size) (hi : (P.info? t).map (fun i => i.size) = some n)
  (hn : vs.size = n) (hs : cs.size = n) (hone : vs.toList.all Value.oneCell' = true)
  (hk : wpList P ops Q rest (a.put o.dst undef) (w.alloc (.cells vs E))) : wpList P ops Q (o :: rest) a (w.alloc (.cells cs E)) := by
 subst hb
 exact wpList_plain hgd fun _ hK => store_wp' p v t hop hp hv hi (q0o w _) hn hs hone (by rw [alloc_setRow]; exact hK _ _ hk)
theorem load_wp {P : Program} {o : Oper} {a : Act} {Kc : Act → World → Prop} {Q : Exit → Act → World → Prop} {w : World} {b : Nat} {cs : Array Value} {E : TypeId} {fr : Nat × Nat} {n : Nat} {fs : Array Field} (p : Operand) (t : TypeId)
  (hop : o.op = .load t p) (hp : a.eval p = .pointer (some ⟨b, 0, none⟩)) (hi : (P.info? t).map (fun i => i.size) = some n) (hu : P.underlying t = some (.struct fs)) (h : w.heap[b]? = some (.cells cs E fr))
  (hs : cs.size = n) (hk : Kc (a.put o.dst (.agg cs)) w) : o.wp P a w Kc Q := by
 obtain ⟨i, hi1, hi2⟩ := Option.map_eq_some_iff.1 hi
 have hld := run_loadCells_list (P := P) (w := w) ⟨b, 0, none⟩ cs.toList (fun j v hv => by
  have := cell_of_row w b j cs E fr h
  rw [Addr.add_lit, Nat.zero_add, this]; simpa using hv)
 have hsz : cs.toList.length = i.size := by simp; omega
 rw [hsz] at hld
 unfold Oper.wp execOp
 have hp0 : (program : Sem Program).run P w = .ok P w := rfl
 simp only [hop, hp, Instr.loadAt, Instr.sureAddr, loadVar, isAgg, run_underlying hu, sizeOf, typeInfo, Sem.run_bind, Sem.run_pure, Result.andThen_ok, hp0, hi1, if_true, hld]
 rw [Array.toArray_toList]
 exact hk
theorem q1c {P : Program} {ops : Array Oper} {rest : List Oper} {o : Oper} {a : Act} {Q : Exit → Act → World → Prop} {w : World} {b : Nat} {cs : Array Value} {E : TypeId} {fr : Nat × Nat} {n : Nat} {fs : Array Field} (hgd : o.guard = none) (p : Operand) (t : TypeId)
  (hop : o.op = .load t p) (hp : a.eval p = .pointer (some ⟨b, 0, none⟩)) (hi : (P.info? t).map (fun i => i.size) = some n) (hu : P.underlying t = some (.struct fs)) (h : w.heap[b]? = some (.cells cs E fr))
  (hs : cs.size = n) (hk : wpList P ops Q rest (a.put o.dst (.agg cs)) w) : wpList P ops Q (o :: rest) a w :=
 wpList_plain hgd fun _ hK => load_wp p t hop hp hi hu h hs (hK _ _ hk)
theorem q0t {P : Program} {fn : Func} {tmps : Array Value} {w : World} {b : Nat} {cs : Array Value} {E : TypeId} {fr : Nat × Nat} {n : Nat} {fs : Array Field} (s : Tmp) (t : TypeId) (hr : fn.results = #[.cell s t])
  (hp : tmps.getD s undef = .pointer (some ⟨b, 0, none⟩)) (hi : (P.info? t).map (fun i => i.size) = some n) (hu : P.underlying t = some (.struct fs)) (h : w.heap[b]? = some (.cells cs E fr)) (hs : cs.size = n) :
  (results fn tmps).run P w = .ok (.agg cs) w := by
 obtain ⟨i, hi1, hi2⟩ := Option.map_eq_some_iff.1 hi
 have hld := run_loadCells_list (P := P) (w := w) ⟨b, 0, none⟩ cs.toList (fun j v hv => by
  have := cell_of_row w b j cs E fr h
  rw [Addr.add_lit, Nat.zero_add, this]; simpa using hv)
 have hsz : cs.toList.length = i.size := by simp; omega
 rw [hsz, Array.toArray_toList] at hld
 have hp0 : (program : Sem Program).run P w = .ok P w := rfl
 have hl : (loadVar t ⟨b, 0, none⟩).run P w = .ok (.agg cs) w := by
  simp only [loadVar, isAgg, run_underlying hu, sizeOf, typeInfo, Sem.run_bind, Sem.run_pure, Result.andThen_ok, hp0, hi1, if_true, hld]
 have hp2 : tmps[s]?.getD undef = .pointer (some ⟨b, 0, none⟩) := by simpa using hp
 simp [results, hr, hp2, asAddr, hl]
theorem q1x : (Tryz.prog.info? 34).map (fun i => i.size) = some 15 := by kernel_rfl
theorem infoWR : (Tryz.prog.info? 36).map (fun i => i.size) = some 16 := by kernel_rfl
end Go.Proofs.YtphmpimgbmedbaaGreat
namespace Go.Proofs.YtphmpimgbmedbaaGreat
open Go.RowKit
open Go.Lib (hid)
theorem store_row {P : Program} {o : Oper} {a : Act} {Kc : Act → World → Prop} {Q : Exit → Act → World → Prop} {w : World} {b k n : Nat} {cs : List Value} (p v : Operand) (t : TypeId)
  (hop : o.op = .store t p v) (hp : a.eval p = .pointer (some ⟨b, k, none⟩)) (hv : a.eval v = .agg cs.toArray) (hi : (P.info? t).map (fun i => i.size) = some n)
  (hc : ∀ j, j < n → (w.cell? ⟨b, k + j, none⟩).isSome = true) (hf : ∀ j, w.frozen? ⟨b, j, none⟩ = false) (hs : cs.length = n) (hone : ∀ u ∈ cs, u.oneCell' = true)
  (hk : Kc (a.put o.dst undef) (w.setCells b k cs)) : o.wp P a w Kc Q := by
 obtain ⟨i, hi1, hi2⟩ := Option.map_eq_some_iff.1 hi
 have hst := run_storeCells_cells (P := P) b k cs 0 w (fun j hj => by rw [Nat.add_zero]; exact hc j (by omega)) (fun j _ => hf _) hone
 rw [Nat.add_zero] at hst
 have hsz : cs.toArray.size = i.size := by simp; omega
 unfold Oper.wp execOp
 simp only [hop, hp, hv, Instr.storeAt, Instr.sureAddr, storeVar, Value.cells, sizeOf, typeInfo, Sem.run_bind, Sem.run_pure, Result.andThen_ok]
 have hp0 : (program : Sem Program).run P w = .ok P w := rfl
 simp only [hp0, Result.andThen_ok, hi1, Sem.run_pure, ← hsz, ne_eq, not_true, if_false, hst]
 exact hk
section
variable {α : Type} {L : Lay α} {w w' : World} {b off : Nat} {ps : List (α × List Nat)}
def q1k (w : World) (b k n : Nat) (cs : List Value) : Prop := cs.length = n ∧ (∀ j v, cs[j]? = some v → w.cell? ⟨b, k + j, none⟩ = some v) ∧ ∀ u ∈ cs, u.oneCell' = true
theorem q0y.look (h : q0y L w b off ps) {i : Nat} {p : α × List Nat} (hp : ps[i]? = some p) : ∃ c, L.rep w c p.1 p.2 ∧ b ∉ p.2 ∧ q1k w b (off + i * L.n) L.n c := by
 have hi := (List.getElem?_eq_some_iff.1 hp).1
 obtain ⟨q, c, hq, hr, hb, hc⟩ := h.at hi
 rw [hp] at hq
 obtain rfl := Option.some.inj hq
 refine ⟨c, hr, hb, L.len hr, fun j v hv => ?_, ?_⟩
 ·rw [hc j (by have := (List.getElem?_eq_some_iff.1 hv).1; have := L.len hr; omega)]; exact hv
 ·intro u hu
  exact Lay.all_one (L := L) (L.all_single hr) u hu
theorem q0y.isSome (h : q0y L w b off ps) {i : Nat} (hi : i < ps.length) : ∀ j, j < L.n → (w.cell? ⟨b, off + i * L.n + j, none⟩).isSome = true := fun j hj => by
 obtain ⟨c, hr, -, h1, h2, -⟩ := h.look (List.getElem?_eq_getElem hi)
 rw [h2 j c[j] (List.getElem?_eq_getElem (by omega))]; rfl
theorem q1k.far {k n : Nat} {cs vs : List Value} (h : q1k w b k n cs) (b2 k2 : Nat) (hd : b ≠ b2) : q1k (w.setCells b2 k2 vs) b k n cs :=
 ⟨h.1, fun j v hv => by rw [World.cell?_of_block (q4v hd vs k2 w)]; exact h.2.1 j v hv, h.2.2⟩
theorem q0y.swap (h : q0y L w b off ps) {i j : Nat} {p q : α × List Nat} (hi : ps[i]? = some p) (hj : ps[j]? = some q) {cp cq : List Value} (rp : L.rep w cp p.1 p.2) (rq : L.rep w cq q.1 q.2) (bp : b ∉ p.2) (bq : b ∉ q.2) :
  q0y L (w.setCells b (off + i * L.n) cq) b off (ps.set i q) ∧ q0y L ((w.setCells b (off + i * L.n) cq).setCells b (off + j * L.n) cp) b off ((ps.set i q).set j p) := by
 have h1 := h.put (i := i) (List.getElem?_eq_some_iff.1 hi).1 rq bq
 refine ⟨h1, h1.put (i := j) (by rw [List.length_set]; exact (List.getElem?_eq_some_iff.1 hj).1) (L.keep rp (fun y hy => q4v (fun (e : y = b) => bp (e ▸ hy)) _ _ _)) bp⟩
end
end Go.Proofs.YtphmpimgbmedbaaGreat
namespace Go.Proofs.YtphmpimgbmedbaaGreat
open Go.RowKit
open Go.Lib (hid)
theorem q1l : (Tryz.prog.info? 67).map (fun i => i.size) = some 9 := by kernel_rfl
theorem q1h {P : Program} {ρ : Operand → Value} {o : Oper} {w : World} {b k n : Nat} {cs : List Value} {fs : Array Field} (p : Operand) (t : TypeId) (hop : o.op = .load t p) (hp : ρ p = .pointer (some ⟨b, k, none⟩))
  (hi : (P.info? t).map (fun i => i.size) = some n) (hu : P.underlying t = some (.struct fs)) (h : q1k w b k n cs) : (execOp ρ o).run P w = .ok (.value (.agg cs.toArray)) w := by
 obtain ⟨i, hi1, hi2⟩ := Option.map_eq_some_iff.1 hi
 have hld := run_loadCells_list (P := P) (w := w) ⟨b, k, none⟩ cs (fun j v hv => by rw [Addr.add_lit]; exact h.2.1 j v hv)
 have hsz : cs.length = i.size := by have := h.1; omega
 rw [hsz] at hld
 have hp0 : (program : Sem Program).run P w = .ok P w := rfl
 unfold execOp
 simp only [hop, hp, Instr.loadAt, Instr.sureAddr, loadVar, isAgg, run_underlying hu, sizeOf, typeInfo, Sem.run_bind, Sem.run_pure, Result.andThen_ok, hp0, hi1, if_true, hld]
theorem q2u {P : Program} {ops : Array Oper} {o : Oper} {a : Act} {Kc : Act → World → Prop} {Q : Exit → Act → World → Prop} {R : Prop} {w : World} {b k n : Nat} {cs : List Value} (hgd : o.guard = none) (p v : Operand) (t : TypeId)
  (hop : o.op = .store t p v) (hp : a.eval p = .pointer (some ⟨b, k, none⟩)) (hv : a.eval v = .agg cs.toArray) (hi : (P.info? t).map (fun i => i.size) = some n)
  (hc : ∀ j, j < n → (w.cell? ⟨b, k + j, none⟩).isSome = true) (hf : ∀ j, w.frozen? ⟨b, j, none⟩ = false) (hs : cs.length = n) (hone : ∀ u ∈ cs, u.oneCell' = true)
  (hk : Kc (a.put o.dst undef) (w.setCells b k cs)) : if Region.wanted o (yielded ops a.tmps) = true then Oper.wp P o a w Kc Q else R := by
 have hw : Region.wanted o (yielded ops a.tmps) = true := by simp [Region.wanted, hgd]
 rw [if_pos hw]
 exact store_row p v t hop hp hv hi hc hf hs hone hk
abbrev RP := Rec × List Nat
section
variable {w w' : World} {b off : Nat} {ps : List RP}
theorem q1o (h : q0y recL w b off ps) {i : Nat} {p : RP} (hp : ps[i]? = some p) : ∃ c : List Value, recL.rep w c p.1 p.2 ∧ b ∉ p.2 ∧ q1k w b (off + i * 9) 9 c := h.look hp
theorem q6u (h : q0y recL w b off ps) {i j : Nat} {p q : RP} (hi : ps[i]? = some p) (hj : ps[j]? = some q) {cp cq : List Value} (rp : recL.rep w cp p.1 p.2) (rq : recL.rep w cq q.1 q.2) (bp : b ∉ p.2) (bq : b ∉ q.2) :
  q0y recL (w.setCells b (off + i * 9) cq) b off (ps.set i q) ∧ q0y recL ((w.setCells b (off + i * 9) cq).setCells b (off + j * 9) cp) b off ((ps.set i q).set j p) := h.swap hi hj rp rq bp bq
theorem q3w (h : q0y recL w b off ps) {i : Nat} (hi : i < ps.length) : ∀ j, j < 9 → (w.cell? ⟨b, off + i * 9 + j, none⟩).isSome = true := h.isSome hi
theorem q4i (h : q0y recL w b off ps) : q0y recL w.drew b off ps := h.ext (Chg.refl [] w).drew
theorem chg_sw {W0 : World} {k1 k2 : Nat} {c1 c2 : List Value} (h : Chg [b] W0 w) : Chg [b] W0 ((w.drew.setCells b k1 c1).setCells b k2 c2) := Chg.setCells (.inl (by simp)) _ _ (Chg.setCells (.inl (by simp)) _ _ h.drew)
end
theorem q7a (b off n cap A B k : Nat) (ps : List RP) (fv : Value) (w : World) (hr : q0y recL w b off ps) (hn : n = ps.length) (hm : n ≤ 1000000) (hab : A + k ≤ B) (hb : B + k ≤ n) :
  Calls Tryz.prog 298 #[.slice (some ⟨b, off, none⟩) n cap, .int .i64 A, .int .i64 B, .int .i64 k, fv] w fun e w' => e = .returned (.tuple #[]) ∧ ∃ ps', q0y recL w' b off ps' ∧ SwR ps ps' A B k ∧ Chg [b] w w' := by
 have HR := hid hr; have HN := hid hn
 clear hr hn
 go_enter Tryz.func298, Tryz.ntmps298
 go_wp2_with fail
 go_loopw [10] (fun vi wr => ∃ (i : Nat) (ps' : List RP) (Wr : World), Wr = wr ∧ i ≤ k ∧ vi = .int .i64 i ∧ q0y recL wr b off ps' ∧ Hid (SwR ps ps' A B i) ∧ Chg [b] w wr) (fun vi _ => k - (intOf vi).toNat)
 case atStart => exact ⟨0, ps, _, rfl, by omega, rfl, HR.out, SwR.zero _ _ _, Chg.refl _ _⟩
 case round =>
  obtain ⟨i, ps', wr, rfl, hi, rfl, hrow, HSR, hch⟩ := hrel
  have HCH := hid hch
  by_cases hlt : i < k
  ·have hpl : ps'.length = n := by rw [HSR.out.1]; exact HN.out.symm
   obtain ⟨p, hp⟩ : ∃ p, ps'[A + i]? = some p := ⟨_, List.getElem?_eq_getElem (by omega)⟩
   obtain ⟨q, hq⟩ : ∃ q, ps'[B + i]? = some q := ⟨_, List.getElem?_eq_getElem (by omega)⟩
   have hrd := q4i hrow
   obtain ⟨x, hx⟩ : ∃ x, x = A + i := ⟨_, rfl⟩
   obtain ⟨y, hy⟩ : ∃ y, y = B + i := ⟨_, rfl⟩
   have hwx : IntKind.i64.wrap ((A : Int) + (i : Int)) = (x : Int) := by rw [IntWalk.i64_in _ ⟨by omega, by omega⟩]; omega
   have hwy : IntKind.i64.wrap ((B : Int) + (i : Int)) = (y : Int) := by rw [IntWalk.i64_in _ ⟨by omega, by omega⟩]; omega
   have h1 : x < n := by omega
   have h2 : y < n := by omega
   rw [← hx] at hp; rw [← hy] at hq
   have HXY := hid (And.intro hx hy)
   clear hch hrow hx hy
   go_wp2_with fail
   obtain ⟨cp, rp, bp, kp⟩ := q1o hrd hp
   obtain ⟨cq, rq, bq, kq⟩ := q1o hrd hq
   have HSW := hid (q6u hrd hp hq rp rq bp bq)
   have HRD := hid hrd; have HPQ := hid (And.intro hp hq); have HKP := hid kp; have HKQ := hid kq
   clear rp rq bp bq kp kq hp hq hrd
   obtain ⟨CC, HCI, HCO⟩ := q0j (fun w' => q1k w' b (off + (x) * 9) 9 cp ∧ q1k w' b (off + (y) * 9) 9 cq)
   refine q1j [21, 23] CC (by kernel_rfl) (HCI.out _ ⟨HKP.out, HKQ.out⟩) (fun hcl hS => ?_)
   refine ggT 0 hcl hS ?_; clear hcl hS; intro hcl hS
   refine ggT 1 hcl hS ?_; clear hcl hS; intro hcl hS
   refine ggT 2 hcl hS ?_; clear hcl hS; intro hcl hS
   refine ggT 3 hcl hS ?_; clear hcl hS; intro hcl hS
   refine ggT 4 hcl hS ?_; clear hcl hS; intro hcl hS
   refine ggT 5 hcl hS ?_; clear hcl hS; intro hcl hS
   refine ggT 6 hcl hS ?_; clear hcl hS; intro hcl hS
   refine ggT 7 hcl hS ?_; clear hcl hS; intro hcl hS
   refine ggT 8 hcl hS ?_; clear hcl hS; intro hcl hS
   refine ggT 9 hcl hS ?_; clear hcl hS; intro hcl hS
   refine ggT 10 hcl hS ?_; clear hcl hS; intro hcl hS
   refine ggT 11 hcl hS ?_; clear hcl hS; intro hcl hS
   refine ggT 12 hcl hS ?_; clear hcl hS; intro hcl hS
   refine ggL 13 hcl hS HCO ?_ (hy := fun w' hw => q1h _ 67 rfl rfl q1l Tryz.underlying67 hw.2); clear hcl hS; intro hcl hS
   refine ggT 14 hcl hS ?_; clear hcl hS; intro hcl hS
   refine ggT 15 hcl hS ?_; clear hcl hS; intro hcl hS
   refine ggT 16 hcl hS ?_; clear hcl hS; intro hcl hS
   refine ggT 17 hcl hS ?_; clear hcl hS; intro hcl hS
   refine ggT 18 hcl hS ?_; clear hcl hS; intro hcl hS
   refine ggL 19 hcl hS HCO ?_ (hy := fun w' hw => q1h _ 67 rfl rfl q1l Tryz.underlying67 hw.1); clear hcl hS; intro hcl hS
   refine ggT 20 hcl hS ?_; clear hcl hS; intro hcl hS
   refine ggC 21 hcl rfl (by kernel_rfl) (fun K hK => ?_)
   refine q2u (cs := cq) rfl _ _ 67 rfl rfl rfl q1l (q3w HRD.out (i := x) (by first | omega | (rw [List.length_set]; omega))) (q0y.free HRD.out) HKQ.out.1 HKQ.out.2.2 ?_
   refine hK.out _ _ (Till.done (m := 21) (by simp) (by rfl)) ?_
   clear hK K hcl hS
   intro hcl hS
   try simp only [Act.put]
   refine ggT 22 hcl hS ?_; clear hcl hS; intro hcl hS
   refine ggC 23 hcl rfl (by kernel_rfl) (fun K hK => ?_)
   refine q2u (cs := cp) rfl _ _ 67 rfl rfl rfl q1l (q3w HSW.out.1 (i := y) (by first | omega | (rw [List.length_set]; omega))) (q0y.free HSW.out.1) HKP.out.1 HKP.out.2.2 ?_
   refine hK.out _ _ (Till.done (m := 21) (by simp) (by rfl)) ?_
   clear hK K hcl hS
   intro hcl hS
   try simp only [Act.put]
   refine q3i (by kernel_rfl) ?_ _
   go_wp2_with fail
   go_roundw
   case rel => exact ⟨i + 1, _, _, rfl, by omega, by go_num, HSW.out.2, by obtain ⟨rfl, rfl⟩ := HXY.out; exact HSR.out.next (by omega) HPQ.out.1 HPQ.out.2, chg_sw HCH.out⟩
   case measure => simp [intOf]; omega
  ·obtain rfl : i = k := by omega
   have HRW := hid hrow
   clear hch hrow
   go_wp2_with fail
   go_end0
   exact ⟨rfl, ps', HRW.out, HSR.out, HCH.out⟩
theorem rotR_any (b off n cap A m B : Nat) (X U V Y : List RP) (fv : Value) (w : World) (hr : q0y recL w b off (X ++ (U ++ (V ++ Y)))) (hn : n = (X ++ (U ++ (V ++ Y))).length) (hm : n ≤ 1000000) (hX : X.length = A) (hU : A + U.length = m) (hV : m + V.length = B) (hU1 : A < m) (hV1 : m < B) :
  Calls Tryz.prog 292 #[.slice (some ⟨b, off, none⟩) n cap, .int .i64 A, .int .i64 m, .int .i64 B, fv] w fun e w' => e = .returned (.tuple #[]) ∧ q0y recL w' b off (X ++ (V ++ (U ++ Y))) ∧ Chg [b] w w' := by
 have hBn : B ≤ n := by rw [hn]; simp only [List.length_append]; omega
 have HR := hid (show RotR m (X ++ (V ++ (U ++ Y))) (X ++ (U ++ (V ++ Y))) (m - A) (B - m) from ⟨X, U, V, Y, rfl, by omega, by omega, by omega, rfl⟩)
 have hgl : (X ++ (V ++ (U ++ Y))).length = n := by rw [hn]; simp only [List.length_append]; omega
 generalize X ++ (V ++ (U ++ Y)) = G at HR hgl ⊢
 generalize X ++ (U ++ (V ++ Y)) = ps at hr hn HR
 have HRW0 := hid hr; have HN := hid hn; have HG := hid hgl
 clear hr hn hX hU hV hgl
 obtain ⟨i0, hi0⟩ : ∃ i0, i0 = m - A := ⟨_, rfl⟩
 obtain ⟨j0, hj0⟩ : ∃ j0, j0 = B - m := ⟨_, rfl⟩
 rw [← hi0, ← hj0] at HR
 have hz1 : (m : Int) - (A : Int) = (i0 : Int) := by omega
 have hz2 : (B : Int) - (m : Int) = (j0 : Int) := by omega
 have hb1 : 1 ≤ i0 ∧ 1 ≤ j0 ∧ i0 ≤ m ∧ m + j0 ≤ n := by omega
 have HB1 := hid hb1
 clear hi0 hj0 hb1
 go_enter Tryz.func292, Tryz.ntmps292
 go_wp2_with fail
 go_loopw [10, 11] (fun vi vj wr => ∃ (i j : Nat) (ps' : List RP) (Wr : World), Wr = wr ∧ 1 ≤ i ∧ 1 ≤ j ∧ i ≤ m ∧ m + j ≤ n ∧ vi = .int .i64 i ∧ vj = .int .i64 j ∧ ps'.length = n ∧ q0y recL wr b off ps' ∧ Hid (RotR m G ps' i j) ∧ Chg [b] w wr) (fun vi vj _ => (intOf vi).toNat + (intOf vj).toNat)
 case atStart =>
  have := HB1.out
  exact ⟨i0, j0, ps, _, rfl, by omega, by omega, by omega, by omega, by go_num, by go_num, HN.out.symm, HRW0.out, HR, Chg.refl _ _⟩
 case round =>
  obtain ⟨i, j, ps', wr, rfl, hi1, hj1, him, hjn, rfl, rfl, hpl, hrow, HRT, hch⟩ := hrel
  have HCH := hid hch; have HRW := hid hrow
  obtain ⟨x, hx⟩ : ∃ x, x = m - i := ⟨_, rfl⟩
  have hwx : (m : Int) - (i : Int) = (x : Int) := by omega
  have HX := hid hx
  clear hch hrow
  rcases Nat.lt_trichotomy j i with hji | hji | hji
  ·have HS := hid (q7a b off n cap x m j ps' fv wr HRW.out hpl.symm hm (by omega) (by omega))
   have hne : ((i : Int) != (j : Int)) = true := by rw [bne_iff_ne]; omega
   have hgt : (j : Int) < (i : Int) := by omega
   have hd : (i : Int) - (j : Int) = ((i - j : Nat) : Int) := by omega
   clear hx
   go_wp2_with fail
   refine HS.out.mono ?_
   rintro e w2 ⟨rfl, ps2, hr2, hs2, hc2⟩
   have HN1 := hid (HRT.out.left hji (by rw [← HX.out]; exact hs2)); have HL2 := hid (hs2.1.trans hpl); have HR2 := hid hr2; have HC2 := hid (HCH.out.trans hc2 (fun y hy => .inl hy))
   clear hr2 hs2 hc2
   go_wp2_with fail
   go_roundw
   case rel => exact ⟨i - j, j, ps2, _, rfl, by omega, by omega, by omega, by omega, by go_num, rfl, HL2.out, HR2.out, HN1, HC2.out⟩
   case measure => simp [intOf]; omega
  ·subst hji
   have HS := hid (q7a b off n cap x m j ps' fv wr HRW.out hpl.symm hm (by omega) (by omega))
   have hne : ((j : Int) != (j : Int)) = false := by simp
   clear hx
   go_wp2_with fail
   refine HS.out.mono ?_
   rintro e w2 ⟨rfl, ps2, hr2, hs2, hc2⟩
   have e2 := HRT.out.last (by rw [← HX.out]; exact hs2)
   have HR2 := hid hr2; have HC2 := hid (HCH.out.trans hc2 (fun y hy => .inl hy)); have HE2 := hid e2
   clear hr2 hs2 hc2 e2
   go_wp2_with fail
   go_end0
   exact ⟨rfl, by rw [← HE2.out]; exact HR2.out, HC2.out⟩
  ·obtain ⟨y, hy⟩ : ∃ y, y = m + j - i := ⟨_, rfl⟩
   have hwy : (m : Int) + (j : Int) - (i : Int) = (y : Int) := by omega
   have HS := hid (q7a b off n cap x y i ps' fv wr HRW.out hpl.symm hm (by omega) (by omega))
   have hne : ((i : Int) != (j : Int)) = true := by rw [bne_iff_ne]; omega
   have hgt : ¬ (j : Int) < (i : Int) := by omega
   have hd : (j : Int) - (i : Int) = ((j - i : Nat) : Int) := by omega
   have HY := hid hy
   clear hx hy
   go_wp2_with fail
   refine HS.out.mono ?_
   rintro e w2 ⟨rfl, ps2, hr2, hs2, hc2⟩
   have HN1 := hid (HRT.out.right hji (by rw [← HX.out, ← HY.out]; exact hs2)); have HL2 := hid (hs2.1.trans hpl); have HR2 := hid hr2; have HC2 := hid (HCH.out.trans hc2 (fun y hy => .inl hy))
   clear hr2 hs2 hc2
   go_wp2_with fail
   go_roundw
   case rel => exact ⟨i, j - i, ps2, _, rfl, by omega, by omega, by omega, by omega, rfl, by go_num, HL2.out, HR2.out, HN1, HC2.out⟩
   case measure => simp [intOf]; omega
def q2x (x y : Rec) : Bool := decide (x.seq < y.seq ∨ x.seq = y.seq ∧ (x.kind < y.kind ∨ x.kind = y.kind ∧ x.group < y.group))
def ltP (p q : RP) : Bool := q2x p.1 q.1
theorem q2p : Ordr ltP := by
 refine ⟨fun x => ?_, fun x y z h k => ?_, fun x y z h k => ?_⟩ <;> simp only [ltP, q2x, decide_eq_true_eq, decide_eq_false_iff_not] at * <;> omega
def CmpOK : Prop := ∀ (w : World) (cx cy : List Value) (x y : Rec) (fx fy : List Nat), recL.rep w cx x fx → recL.rep w cy y fy → Calls Tryz.prog 170 #[.agg cx.toArray, .agg cy.toArray] w fun e w' => ∃ r : Int, e = .returned (.int .i64 r) ∧ Hid (decide (r < 0) = q2x x y) ∧ Chg [] w w'
theorem cmp_r {p q : RP} {r : Int} {v : Bool} (hl : ltP p q = v) (h : Hid (decide (r < 0) = q2x p.1 q.1)) : decide (r < 0) = v := h.out.trans hl
theorem q1k.ext {w w' : World} {b k n : Nat} {cs : List Value} (h : q1k w b k n cs) (hc : Chg [] w w') (hb : b < w.heap.size) : q1k w' b k n cs := ⟨h.1, fun j v hv => (hc.facts.1 b _ hb).trans (h.2.1 j v hv), h.2.2⟩
theorem thru_full {X S Y : List RP} {x : RP} {k : Nat} (hk : k = S.length) : thru X S Y x k = X ++ (S ++ (x :: Y)) := by
 subst hk
 unfold thru
 rw [List.take_length, List.drop_length]; rfl
theorem ins_end {X S Y Z0 : List RP} {x : RP} {k : Nat} (hs : Srt ltP S) (hb : Stab ltP Z0 S) (h1 : ∀ y ∈ S.drop k, ltP x y = true) (h2 : ∀ y ∈ S.take k, ltP x y = false) : ∃ S', thru X S Y x k = X ++ (S' ++ Y) ∧ Srt ltP S' ∧ Stab ltP (Z0 ++ [x]) S' :=
 ⟨S.take k ++ (x :: S.drop k), by unfold thru; simp, ins_srt q2p hs h1 h2, (hb.app (Stab.refl [x])).trans (q9d q2p h1)⟩
theorem ins_stop {S : List RP} {x : RP} {k : Nat} (hs : Srt ltP S) (hk : k < S.length) (h : ltP x S[k] = false) : ∀ y ∈ S.take (k + 1), ltP x y = false := fun y hy => by
 obtain ⟨i, hi, rfl⟩ := List.getElem_of_mem hy
 rw [List.length_take] at hi
 rw [List.getElem_take]
 exact q2p.le_trans (Srt.at q2p hs (show i ≤ k by omega) (List.getElem?_eq_getElem (by omega)) (List.getElem?_eq_getElem hk)) h
theorem ins_go {S : List RP} {x : RP} {k : Nat} (hk : k < S.length) (h : ∀ y ∈ S.drop (k + 1), ltP x y = true) (h2 : ltP x S[k] = true) : ∀ y ∈ S.drop k, ltP x y = true := fun y hy => by
 rw [List.drop_eq_getElem_cons hk] at hy
 rcases List.mem_cons.1 hy with rfl | hy
 ·exact h2
 ·exact h y hy
theorem insR_any (b off n cap A B : Nat) (X Z Y : List RP) (w : World) (HCMP : Hid CmpOK) (hr : q0y recL w b off (X ++ (Z ++ Y))) (hn : n = (X ++ (Z ++ Y)).length) (hm : n ≤ 1000000) (hX : X.length = A) (hZ : A + Z.length = B) :
  Calls Tryz.prog 271 #[.slice (some ⟨b, off, none⟩) n cap, .int .i64 A, .int .i64 B, .func (.func 170) #[] #[]] w fun e w' => e = .returned (.tuple #[]) ∧ ∃ S, q0y recL w' b off (X ++ (S ++ Y)) ∧ Srt ltP S ∧ Stab ltP Z S ∧ Chg [b] w w' := by
 have hBn : B ≤ n := by rw [hn]; simp only [List.length_append]; omega
 have hLN : n = A + (Z.length + Y.length) := by rw [hn]; simp only [List.length_append]; omega
 have hAn : A ≤ n := by omega
 have HR := hid hr; have HX := hid hX; have HLN := hid hLN; have HZ := hid hZ
 clear hr hn hLN
 by_cases hz : Z.length = 0
 ·have hlt : ¬ (A : Int) + 1 < (B : Int) := by omega
  have HE := hid (List.eq_nil_of_length_eq_zero hz)
  clear hX hZ hz
  go_enter Tryz.func271, Tryz.ntmps271
  go_wp2_with fail
  go_loopw [8] (fun vi wr => vi = .int .i64 ((A : Int) + 1) ∧ wr = w) (fun _ _ => 0)
  case atStart => exact ⟨by go_num, rfl⟩
  case round =>
  obtain ⟨rfl, rfl⟩ := hrel
  go_wp2_with fail
  go_end0
  exact ⟨rfl, [], by rw [← HE.out]; exact HR.out, List.Pairwise.nil, by rw [HE.out]; exact Stab.refl _, Chg.refl _ _⟩
 ·have hAB : A + 1 ≤ B := by omega
  clear hX hZ hz
  go_enter Tryz.func271, Tryz.ntmps271
  go_wp2_with fail
  go_loopw [8] (fun vi wr => ∃ (i : Nat) (S : List RP) (Wr : World), Wr = wr ∧ A + 1 ≤ i ∧ i ≤ B ∧ vi = .int .i64 i ∧ q0y recL wr b off (X ++ (S ++ (Z.drop (i - A) ++ Y))) ∧ Hid (Srt ltP S ∧ Stab ltP (Z.take (i - A)) S) ∧ Chg [b] w wr) (fun vi _ => B - (intOf vi).toNat)
  case atStart =>
   refine ⟨A + 1, Z.take 1, _, rfl, by omega, by omega, by go_num, ?_, ⟨?_, ?_⟩, Chg.refl _ _⟩
   ·rw [Nat.add_sub_cancel_left, ← List.append_assoc (Z.take 1), List.take_append_drop]; exact HR.out
   ·cases Z with
    | nil => exact List.Pairwise.nil
    | cons z Z => simp; exact List.pairwise_singleton _ _
   ·rw [Nat.add_sub_cancel_left]; exact Stab.refl _
  case round =>
   obtain ⟨i, S, wr, rfl, hi1, hi2, rfl, hrow, HSS, hch⟩ := hrel
   have HCH := hid hch
   by_cases hlt : i < B
   ·have hzl : i - A < Z.length := by have := HZ.out; omega
    obtain ⟨x, hx⟩ : ∃ x, x = Z[i - A] := ⟨_, rfl⟩
    obtain ⟨Y', hY'⟩ : ∃ Y', Y' = Z.drop (i - A + 1) ++ Y := ⟨_, rfl⟩
    have hsl : S.length = i - A := by have := HSS.out.2.1; rw [List.length_take] at this; omega
    have e0 : Z.drop (i - A) ++ Y = x :: Y' := by rw [List.drop_eq_getElem_cons hzl, hx, hY']; rfl
    rw [e0, ← thru_full (Y := Y') hsl.symm] at hrow
    have HRW := hid hrow; have HSL := hid hsl; have HY' := hid hY'
    have HXE := hid (show Z[i - A]? = some x by rw [List.getElem?_eq_getElem hzl, hx])
    have hpn : A + (i - A) + 1 + Y'.length = n := by have := HLN.out; rw [hY', List.length_append, List.length_drop]; omega
    have HPN := hid hpn
    clear hch hrow hx hY' hsl e0 hzl hpn
    go_wp2_with fail
    go_loopw [9] (fun vj wq => ∃ (j : Nat) (Wq : World), Wq = wq ∧ A ≤ j ∧ j ≤ i ∧ vj = .int .i64 j ∧ q0y recL wq b off (thru X S Y' x (j - A)) ∧ Hid (∀ y ∈ S.drop (j - A), ltP x y = true) ∧ Chg [b] w wq) (fun vj _ => (intOf vj).toNat)
    case atStart => exact ⟨i, _, rfl, by omega, by omega, rfl, HRW.out, hid (show ∀ y ∈ S.drop (i - A), ltP x y = true from fun y hy => by rw [List.drop_eq_nil_of_le (by have := HSL.out; omega)] at hy; cases hy), HCH.out⟩
    case round =>
     clear HCH HRW
     obtain ⟨j, wq, rfl, hj1, hj2, rfl, hrow, HDR, hch⟩ := hrel
     have HCH := hid hch
     have hln : (thru X S Y' x (j - A)).length = n := by rw [q5v, HX.out, HSL.out]; exact HPN.out
     by_cases hja : A < j
     ·have hjk : j - A - 1 < S.length := by have := HSL.out; omega
      have hk : j - A = (j - A - 1) + 1 := by omega
      obtain ⟨q, hqe⟩ : ∃ q, q = S[j - A - 1] := ⟨_, rfl⟩
      have hp : (thru X S Y' x (j - A))[j]? = some x := by
       have := thru_at (A := X) (S := S) (B := Y') (x := x) (k := j - A) (by have := HSL.out; omega)
       rwa [HX.out, show A + (j - A) = j by omega] at this
      have hq : (thru X S Y' x (j - A))[j - 1]? = some q := by
       have := thru_prev (A := X) (B := Y') (x := x) hjk
       rw [← hk, HX.out, show A + (j - A - 1) = j - 1 by omega] at this
       rw [this, hqe]
      have hrd := q4i hrow
      have HROW := hid hrow
      have hgt : (A : Int) < (j : Int) := by omega
      obtain ⟨y, hy⟩ : ∃ y, y = j - 1 := ⟨_, rfl⟩
      have hwy : IntKind.i64.wrap ((j : Int) - 1) = (y : Int) := by rw [IntWalk.i64_in _ ⟨by omega, by omega⟩]; omega
      have h1 : j < n := by omega
      have h2 : y < n := by omega
      rw [← hy] at hq
      have HY := hid hy; have HQE := hid (show S[j - A - 1]? = some q by rw [List.getElem?_eq_getElem hjk, hqe]); have HK0 := hid hk
      clear hch hrow hy hqe hk
      cases hl : ltP x q
      ·have HNL := hid hl
       go_wp2_with fail
       obtain ⟨c1, r1, -, k1⟩ := q1o hrd hp
       obtain ⟨c2, r2, -, k2⟩ := q1o hrd hq
       have HK := hid (And.intro k1 k2); have HRD := hid hrd; have HPQ := hid (And.intro hp hq); have HRC := hid (HCMP.out _ _ _ _ _ _ _ r1 r2)
       clear r1 r2 k1 k2 hp hq hrd
       obtain ⟨SS, HSI, HSO⟩ := q0j (fun w' => q1k w' b (off + (j) * 9) 9 c1 ∧ q1k w' b (off + (y) * 9) 9 c2)
       have hS0 := HSI.out _ HK.out
       refine q0k SS (by kernel_rfl) hS0 ?_
       refine rgT 0 hS0 ?_
       refine rgT 1 hS0 ?_
       refine rgT 2 hS0 ?_
       refine rgT 3 hS0 ?_
       refine rgT 4 hS0 ?_
       refine rgT 5 hS0 ?_
       refine rgT 6 hS0 ?_
       refine rgT 7 hS0 ?_
       refine rgL 8 hS0 HSO ?_ (hy := fun w' hw => q1h _ 67 rfl rfl q1l Tryz.underlying67 hw.1)
       refine rgT 9 hS0 ?_
       refine rgT 10 hS0 ?_
       refine rgT 11 hS0 ?_
       refine rgT 12 hS0 ?_
       refine rgL 13 hS0 HSO ?_ (hy := fun w' hw => q1h _ 67 rfl rfl q1l Tryz.underlying67 hw.2)
       refine q0d 14 rfl (by kernel_rfl) (fun K hK => ?_)
       go_simp
       go_at_call 170
       refine HRC.out.mono ?_
       rintro e w1 ⟨r, rfl, hrr, hc1⟩
       have hr0 := cmp_r hl hrr
       have HR1 := hid (HRD.out.ext hc1); have HC1 := hid (HCH.out.drew.trans0 hc1); have HK1 := hid (And.intro (HK.out.1.ext hc1 HRD.out.lt) (HK.out.2.ext hc1 HRD.out.lt))
       clear hc1 hrr
       go_wp2_with fail
       refine hK.out _ _ (HSI.out _ HK1.out) (fun hS1 => ?_)
       clear hK K
       try simp only [Act.put, pA, pB, pC]
       refine rgT 15 hS1 ?_
       refine rgT 16 hS1 ?_
       refine wpAnyH_done (by kernel_rfl) ?_ _
       go_wp2_with fail
       have hend := ins_end (X := X) (Y := Y') (k := j - A) HSS.out.1 HSS.out.2 HDR.out (by
        have e := (List.getElem?_eq_some_iff.1 HQE.out).2
        have := ins_stop HSS.out.1 hjk (x := x) (by rw [e]; exact HNL.out)
        rwa [← HK0.out] at this)
       obtain ⟨S', e1, s1, b1⟩ := hend
       have hrow2 := HR1.out
       rw [e1, HY'.out] at hrow2
       rw [← q2b HXE.out, show i - A + 1 = i + 1 - A by omega] at b1
       rw [show i - A + 1 = i + 1 - A by omega] at hrow2
       have HRW2 := hid hrow2; have HSS2 := hid (And.intro s1 b1)
       clear e1 s1 b1 hrow2
       go_wp2_with fail
       go_roundw
       case rel => exact ⟨i + 1, S', _, rfl, by omega, by omega, by go_num, HRW2.out, HSS2, HC1.out⟩
       case measure => simp [intOf]; omega
      ·have HL1 := hid hl
       go_wp2_with fail
       obtain ⟨c1, r1, -, k1⟩ := q1o hrd hp
       obtain ⟨c2, r2, -, k2⟩ := q1o hrd hq
       have HK := hid (And.intro k1 k2); have HRD := hid hrd; have HPQ := hid (And.intro hp hq); have HRC := hid (HCMP.out _ _ _ _ _ _ _ r1 r2)
       clear r1 r2 k1 k2 hp hq hrd
       obtain ⟨SS, HSI, HSO⟩ := q0j (fun w' => q1k w' b (off + (j) * 9) 9 c1 ∧ q1k w' b (off + (y) * 9) 9 c2)
       have hS0 := HSI.out _ HK.out
       refine q0k SS (by kernel_rfl) hS0 ?_
       refine rgT 0 hS0 ?_
       refine rgT 1 hS0 ?_
       refine rgT 2 hS0 ?_
       refine rgT 3 hS0 ?_
       refine rgT 4 hS0 ?_
       refine rgT 5 hS0 ?_
       refine rgT 6 hS0 ?_
       refine rgT 7 hS0 ?_
       refine rgL 8 hS0 HSO ?_ (hy := fun w' hw => q1h _ 67 rfl rfl q1l Tryz.underlying67 hw.1)
       refine rgT 9 hS0 ?_
       refine rgT 10 hS0 ?_
       refine rgT 11 hS0 ?_
       refine rgT 12 hS0 ?_
       refine rgL 13 hS0 HSO ?_ (hy := fun w' hw => q1h _ 67 rfl rfl q1l Tryz.underlying67 hw.2)
       refine q0d 14 rfl (by kernel_rfl) (fun K hK => ?_)
       go_simp
       go_at_call 170
       refine HRC.out.mono ?_
       rintro e w1 ⟨r, rfl, hrr, hc1⟩
       have hr0 := cmp_r hl hrr
       have HR1 := hid (HRD.out.ext hc1); have HC1 := hid (HCH.out.drew.trans0 hc1); have HK1 := hid (And.intro (HK.out.1.ext hc1 HRD.out.lt) (HK.out.2.ext hc1 HRD.out.lt))
       clear hc1 hrr
       go_wp2_with fail
       refine hK.out _ _ (HSI.out _ HK1.out) (fun hS1 => ?_)
       clear hK K
       try simp only [Act.put, pA, pB, pC]
       refine rgT 15 hS1 ?_
       refine rgT 16 hS1 ?_
       refine wpAnyH_done (by kernel_rfl) ?_ _
       go_wp2_with fail
       have hp := HPQ.out.1; have hq := HPQ.out.2
       have hrd := q4i HR1.out
       clear HRD HK HPQ HRC HK1 HROW HCH
       have HCH := HC1
       obtain ⟨cp, rp, bp, kp⟩ := q1o hrd hp
       obtain ⟨cq, rq, bq, kq⟩ := q1o hrd hq
       have HSW := hid (q6u hrd hp hq rp rq bp bq)
       have HRD := hid hrd; have HPQ := hid (And.intro hp hq); have HKP := hid kp; have HKQ := hid kq
       clear rp rq bp bq kp kq hp hq hrd
       obtain ⟨CC, HCI, HCO⟩ := q0j (fun w' => q1k w' b (off + (j) * 9) 9 cp ∧ q1k w' b (off + (y) * 9) 9 cq)
       refine q1j [15, 17] CC (by kernel_rfl) (HCI.out _ ⟨HKP.out, HKQ.out⟩) (fun hcl hS => ?_)
       refine ggT 0 hcl hS ?_; clear hcl hS; intro hcl hS
       refine ggT 1 hcl hS ?_; clear hcl hS; intro hcl hS
       refine ggT 2 hcl hS ?_; clear hcl hS; intro hcl hS
       refine ggT 3 hcl hS ?_; clear hcl hS; intro hcl hS
       refine ggT 4 hcl hS ?_; clear hcl hS; intro hcl hS
       refine ggT 5 hcl hS ?_; clear hcl hS; intro hcl hS
       refine ggT 6 hcl hS ?_; clear hcl hS; intro hcl hS
       refine ggT 7 hcl hS ?_; clear hcl hS; intro hcl hS
       refine ggT 8 hcl hS ?_; clear hcl hS; intro hcl hS
       refine ggL 9 hcl hS HCO ?_ (hy := fun w' hw => q1h _ 67 rfl rfl q1l Tryz.underlying67 hw.2); clear hcl hS; intro hcl hS
       refine ggT 10 hcl hS ?_; clear hcl hS; intro hcl hS
       refine ggT 11 hcl hS ?_; clear hcl hS; intro hcl hS
       refine ggT 12 hcl hS ?_; clear hcl hS; intro hcl hS
       refine ggL 13 hcl hS HCO ?_ (hy := fun w' hw => q1h _ 67 rfl rfl q1l Tryz.underlying67 hw.1); clear hcl hS; intro hcl hS
       refine ggT 14 hcl hS ?_; clear hcl hS; intro hcl hS
       refine ggC 15 hcl rfl (by kernel_rfl) (fun K hK => ?_)
       refine q2u (cs := cq) rfl _ _ 67 rfl rfl rfl q1l (q3w HRD.out (i := j) (by first | omega | (rw [List.length_set]; omega))) (q0y.free HRD.out) HKQ.out.1 HKQ.out.2.2 ?_
       refine hK.out _ _ (Till.done (m := 15) (by simp) (by rfl)) ?_
       clear hK K hcl hS
       intro hcl hS
       try simp only [Act.put]
       refine ggT 16 hcl hS ?_; clear hcl hS; intro hcl hS
       refine ggC 17 hcl rfl (by kernel_rfl) (fun K hK => ?_)
       refine q2u (cs := cp) rfl _ _ 67 rfl rfl rfl q1l (q3w HSW.out.1 (i := y) (by first | omega | (rw [List.length_set]; omega))) (q0y.free HSW.out.1) HKP.out.1 HKP.out.2.2 ?_
       refine hK.out _ _ (Till.done (m := 15) (by simp) (by rfl)) ?_
       clear hK K hcl hS
       intro hcl hS
       try simp only [Act.put]
       refine q3i (by kernel_rfl) ?_ _
       go_wp2_with fail
       have e := (List.getElem?_eq_some_iff.1 HQE.out).2
       have hrow3 := HSW.out.2
       have hdn := thru_down (A := X) (B := Y') (x := x) hjk
       rw [← HK0.out, HX.out, e, show A + (j - A - 1) + 1 = j by omega, show A + (j - A - 1) = y by have := HY.out; omega] at hdn
       rw [hdn, show j - A - 1 = y - A by have := HY.out; omega] at hrow3
       have HRW3 := hid hrow3; have HCC := hid (chg_sw (k1 := off + j * 9) (k2 := off + y * 9) (c1 := cq) (c2 := cp) HCH.out)
       have HDR3 := hid (show ∀ z ∈ S.drop (y - A), ltP x z = true by
        have := ins_go hjk (x := x) (by rw [← HK0.out]; exact HDR.out) (by rw [e]; exact HL1.out)
        rwa [show j - A - 1 = y - A by have := HY.out; omega] at this)
       have hyy := HY.out
       clear hrow3 hdn e
       go_roundw
       case rel => exact ⟨y, _, rfl, by omega, by omega, by go_num, HRW3.out, HDR3, HCC.out⟩
       case measure => simp [intOf]; omega
     ·have hle : ¬ (A : Int) < (j : Int) := by omega
      obtain rfl : j = A := by omega
      have HROW := hid hrow
      clear hch hrow
      go_wp2_with fail
      obtain ⟨SS, HSI, HSO⟩ := q0j (fun _ : World => True)
      have hS0 := HSI.out wq.drew trivial
      refine q0k SS (by kernel_rfl) hS0 ?_
      refine rgT 0 hS0 ?_
      refine rgT 1 hS0 ?_
      refine rgT 2 hS0 ?_
      refine rgT 3 hS0 ?_
      refine rgS 4 hS0 ?_
      refine rgS 5 hS0 ?_
      refine rgS 6 hS0 ?_
      refine rgS 7 hS0 ?_
      refine rgS 8 hS0 ?_
      refine rgS 9 hS0 ?_
      refine rgS 10 hS0 ?_
      refine rgS 11 hS0 ?_
      refine rgS 12 hS0 ?_
      refine rgS 13 hS0 ?_
      refine rgS 14 hS0 ?_
      refine rgS 15 hS0 ?_
      refine rgT 16 hS0 ?_
      refine wpAnyH_done (by kernel_rfl) ?_ _
      go_wp2_with fail
      have hend := ins_end (X := X) (Y := Y') (k := j - j) HSS.out.1 HSS.out.2 HDR.out (fun z hz => by rw [Nat.sub_self, List.take_zero] at hz; cases hz)
      obtain ⟨S', e1, s1, b1⟩ := hend
      have hrow2 := q4i HROW.out
      rw [e1, HY'.out] at hrow2
      rw [← q2b HXE.out, show i - j + 1 = i + 1 - j by omega] at b1
      rw [show i - j + 1 = i + 1 - j by omega] at hrow2
      have HRW2 := hid hrow2; have HSS2 := hid (And.intro s1 b1); have HCC := hid HCH.out.drew
      clear e1 s1 b1 hrow2
      go_wp2_with fail
      go_roundw
      case rel => exact ⟨i + 1, S', _, rfl, by omega, by omega, by go_num, HRW2.out, HSS2, HCC.out⟩
      case measure => simp [intOf]; omega
   ·obtain rfl : i = B := by omega
    have hzz : Z.length = i - A := by have := HZ.out; omega
    rw [List.drop_eq_nil_of_le (by omega), List.nil_append] at hrow
    have HRW := hid hrow; have HST := hid (show Stab ltP Z S by have := HSS.out.2; rwa [List.take_of_length_le (by omega)] at this)
    clear hch hrow hzz
    go_wp2_with fail
    go_end0
    exact ⟨rfl, S, HRW.out, HSS.out.1, HST.out, HCH.out⟩
end Go.Proofs.YtphmpimgbmedbaaGreat
namespace Go.Proofs.YtphmpimgbmedbaaGreat
open Go.RowKit
open Go.Lib (hid)
structure RecW (b : Nat) (a : Option Addr) (la ca : Nat) (xs : List UInt8) (f : List Nat) (x : Shp) (w0 : World) (m : Nat) (T : List TRow) (t : Int) (cs : Array Value) (w : World) : Prop where
 h3 : w.heap[w0.heap.size]? = some (.cells #[.int .i64 x.gS, .int .i64 x.cM, .int .i64 x.data, .int .i64 x.spare, .int .i64 x.rows, .int .i64 x.cap, .int .i64 x.bT, .int .i64 x.qU, .int .i64 x.sG] 30 (0, 0))
 h4 : w.heap[w0.heap.size + 1]? = some (.cells #[.int .i64 0, .int .i64 0, .string ⟨#[]⟩, .int .i64 0, .int .i64 0, .int .i64 0, .slice none 0 0, .slice none 0 0, .slice none 0 0] 67 (0, 0))
 hm : w.heap[m]? = some (.cells cs 67 (0, 0))
 ty : TyN (m + 1) T w
 src : SrcB b a la ca xs f t w
 chg : Chg [b] w0 w
 lm : w0.heap.size + 1 < m
 lb : b < w0.heap.size
 lf : ∀ y ∈ f, y < w0.heap.size
section
variable {b : Nat} {a : Option Addr} {la ca : Nat} {xs : List UInt8} {f : List Nat} {x : Shp} {w0 : World} {m : Nat} {T T' : List TRow} {t t' : Int} {cs cs' : Array Value} {w w' : World}
theorem RecW.call (h : RecW b a la ca xs f x w0 m T t cs w) (hs : SrcB b a la ca xs f t' w') (hc : Chg [b] w w') : RecW b a la ca xs f x w0 m T t' cs w' := by
 have h1 := h.lb; have h2 := h.lm
 exact ⟨hc.keepb h.h3 (by simp; omega), hc.keepb h.h4 (by simp; omega), hc.keepb h.hm (by simp; omega), h.ty.chg hc (fun y hy => by rw [List.mem_singleton] at hy; omega), hs, h.chg.trans hc (fun y hy => .inl hy), h.lm, h.lb, h.lf⟩
theorem RecW.ext (h : RecW b a la ca xs f x w0 m T t cs w) (hc : Chg [] w w') : RecW b a la ca xs f x w0 m T t cs w' :=
 ⟨hc.keep0 h.h3, hc.keep0 h.h4, hc.keep0 h.hm, h.ty.ext hc, h.src.ext hc, h.chg.trans0 hc, h.lm, h.lb, h.lf⟩
theorem RecW.rows (h : RecW b a la ca xs f x w0 m T t cs w) (h1 : TyN w.heap.size T' w') (hs : SrcB b a la ca xs f t' w') (hc : Chg [b] w w') : RecW b a la ca xs f x w0 m (T' ++ T) t' cs w' := by
 have k := h.call hs hc
 have h2 := h.lb; have h3 := h.lm
 exact ⟨k.h3, k.h4, k.hm, h.ty.app hc (fun y hy => by rw [List.mem_singleton] at hy; omega) h1 (ltOf h.hm), k.src, k.chg, k.lm, k.lb, k.lf⟩
theorem RecW.step (h : RecW b a la ca xs f x w0 m T t cs w) (k : TyStep T w T' w') : RecW b a la ca xs f x w0 m T' t cs w' := by
 have h2 := h.lb; have h3 := h.lm
 have hn : ∀ y, y < m + 1 → y ∉ T.map (·.b) := fun y hy => h.ty.notIn hy
 exact ⟨k.chg.keepb h.h3 (hn _ (by omega)), k.chg.keepb h.h4 (hn _ (by omega)), k.chg.keepb h.hm (hn _ (by omega)), h.ty.step k (ltOf h.hm), h.src.chg k.chg (hn _ (by omega)) (fun y hy => hn _ (by have := h.lf y hy; omega)),
  h.chg.trans k.chg (fun y hy => .inr (by
   obtain ⟨q, hq, e⟩ := List.mem_map.1 hy
   have e : q.b = y := e
   have := h.ty.new q hq
   omega)), h.lm, h.lb, h.lf⟩
theorem RecW.put (h : RecW b a la ca xs f x w0 m T t cs w) (i : Nat) (v : Value) (e : cs.setIfInBounds i v = cs') : RecW b a la ca xs f x w0 m T t cs' (w.setCell ⟨m, i, none⟩ v) := by
 have h2 := h.lb; have h3 := h.lm
 have hc : Chg [m] w (w.setCell ⟨m, i, none⟩ v) := (Chg.refl [m] w).setCell _ _ (.inl (by simp))
 exact ⟨hc.keepb h.h3 (by simp; omega), hc.keepb h.h4 (by simp; omega), q0m h.hm e, h.ty.chg hc (fun y hy => by rw [List.mem_singleton] at hy; omega), h.src.chg hc (by simp; omega) (fun y hy => by have := h.lf y hy; simp; omega), h.chg.setCell _ _ (.inr (by show w0.heap.size ≤ m; omega)), h.lm, h.lb, h.lf⟩
theorem RecW.mono (h : RecW b a la ca xs f x w0 m T t cs w) (ht : t ≤ t') : RecW b a la ca xs f x w0 m T t' cs w := ⟨h.h3, h.h4, h.hm, h.ty, h.src.mono ht, h.chg, h.lm, h.lb, h.lf⟩
end
def sml (v : Int) : Prop := -2000000000 ≤ v ∧ v ≤ 2000000000
theorem sml.ok {v : Int} (h : sml v) : q0u v := by unfold sml at h; constructor <;> omega
def RecT (T : List TRow) (cs : Array Value) : Prop := ∃ (k s : Int) (nm : ByteArray) (ln g r : Int) (p6 : Option Addr) (l6 c6 : Nat) (p7 : Option Addr) (l7 c7 : Nat) (p8 : Option Addr) (l8 c8 : Nat),
 cs = #[.int .i64 k, .int .i64 s, .string nm, .int .i64 ln, .int .i64 g, .int .i64 r, .slice p6 l6 c6, .slice p7 l7 c7, .slice p8 l8 c8] ∧ sml k ∧ sml s ∧ nm.size ≤ 64 ∧ (-1 ≤ ln ∧ ln ≤ 64) ∧ sml g ∧ sml r ∧ SlT T .it (.slice p6 l6 c6) ∧ l6 ≤ 16 ∧ SlT T .bt (.slice p7 l7 c7) ∧ SlT T .bt (.slice p8 l8 c8) ∧ l8 ≤ 16
theorem RecT.el {T : List TRow} {cs : Array Value} (h : RecT T cs) : ElT T .rc cs.toList := by
 obtain ⟨k, s, nm, ln, g, r, p6, l6, c6, p7, l7, c7, p8, l8, c8, rfl, h1, h2, h3, h4, h5, h6, h7, -, h8, h9, -⟩ := h
 exact ⟨k, s, nm, ln, g, r, _, _, _, rfl, ⟨h1.ok, h2.ok, sml.ok ⟨by omega, by omega⟩, h5.ok, h6.ok⟩, h3, h7, h8, h9⟩
theorem q5y (b : Nat) (a : Option Addr) (la ca : Nat) (xs : List UInt8) (f : List Nat) (t : Int) (n : Nat) (w : World) (h : SrcB b a la ca xs f t w) (hn2 : n ≤ 64) (ht : t ≤ 1073740000) :
  Calls Tryz.prog 132 #[.pointer (some ⟨b, 0, none⟩), .int .i64 n] w fun e w' => ∃ (A : Option Addr) (C : Nat), e = .returned (.slice A n C) ∧ (∃ T, SlT T .bt (.slice A n C) ∧ TyN w.heap.size T w') ∧ SrcB b a la ca xs f (t + 200) w' ∧ Chg [b] w w' := by
 have := some_ty b a la ca xs f t n w h (by omega) (by omega) ht
 rw [Int.toNat_natCast] at this
 exact this
theorem Well.lt8 {T : List TRow} {w : World} (h : Well T w) {b j : Nat} {k : Kd} (hr : ∃ r ∈ T, r.k = k ∧ r.b = b ∧ ∃ p, p < r.m ∧ j = p) : b < w.heap.size := by
 obtain ⟨r, hr, -, rfl, -⟩ := hr
 exact h.lt hr
theorem Well.fr8 {T : List TRow} {w : World} (h : Well T w) {b j : Nat} {k : Kd} (hr : ∃ r ∈ T, r.k = k ∧ r.b = b ∧ ∃ p, p < r.m ∧ j = p) : ∀ i, w.frozen? ⟨b, i, none⟩ = false := by
 obtain ⟨r, hr, -, rfl, -⟩ := hr
 obtain ⟨cur, h1, -⟩ := h.row r hr
 exact q0c h1
theorem u8_cell (y : Int) : ∃ x : UInt8, IntKind.u8.wrap y = (x.toNat : Int) := by
 refine ⟨UInt8.ofNat (y % 256).toNat, ?_⟩
 rw [show IntKind.u8.wrap y = y % 256 by simp [IntKind.wrap, IntKind.bits, IntKind.signed], UInt8.toNat_ofNat']
 omega
theorem Well.ce8 {T : List TRow} {w : World} (h : Well T w) {b j : Nat} (hr : ∃ r ∈ T, r.k = .bt ∧ r.b = b ∧ ∃ p, p < r.m ∧ j = p) : ∃ u, w.cell? ⟨b, j, none⟩ = some u := by
 obtain ⟨r, hr, hk, rfl, p, hp, rfl⟩ := hr
 obtain ⟨cur, h1, h2, h3, -⟩ := h.row r hr
 have hs : j < cur.size := by rw [h2, hk]; show j < r.z * 1; omega
 exact ⟨cur[j], by rw [cellsOf h1, Array.getElem?_eq_getElem hs]⟩
theorem put_bt {T : List TRow} {w : World} (h : Well T w) {b j : Nat} (hr : ∃ r ∈ T, r.k = .bt ∧ r.b = b ∧ ∃ p, p < r.m ∧ j = p) {y : Int} (hy : ∃ x : UInt8, y = (x.toNat : Int)) : TyStep T w T (w.setCell ⟨b, j, none⟩ (.int .u8 y)) := by
 obtain ⟨r, hr, hk, rfl, p, hp, rfl⟩ := hr
 obtain ⟨x, rfl⟩ := hy
 have := (TyStep.refl h).put1 hr hp (cs := [.int .u8 x.toNat]) (by rw [hk]; exact ⟨x, rfl⟩)
 rw [hk, show j * Kd.n .bt = j from Nat.mul_one j] at this
 exact this
theorem one_it {T : List TRow} {w : World} (h : Well T w) (v : Int) (hv : q0u v) : SlT (⟨w.heap.size, .it, 1, 1⟩ :: T) .it (.slice (some ⟨w.heap.size, 0, none⟩) 1 1) ∧ TyStep T w (⟨w.heap.size, .it, 1, 1⟩ :: T) (w.alloc (.cells #[.int .i64 v] 2)) :=
 ⟨⟨_, _, _, rfl, by decide, Nat.le_refl _, by simp [maxLen], .inr ⟨_, List.mem_cons_self, rfl, 0, by rw [Nat.zero_mul], Nat.le_refl _, Nat.le_refl _⟩⟩, (TyStep.refl h).push .it 1 1 #[.int .i64 v] (Nat.le_refl _) rfl (fun i hi => by
  obtain rfl : i = 0 := by omega
  exact ⟨v, rfl, hv⟩)⟩
theorem zero_bt {T : List TRow} {w : World} (h : Well T w) (n : Nat) (hn : n ≤ 64) : SlT (⟨w.heap.size, .bt, n, n⟩ :: T) .bt (.slice (some ⟨w.heap.size, 0, none⟩) n n) ∧ TyStep T w (⟨w.heap.size, .bt, n, n⟩ :: T) (w.alloc (.cells (zrow (.int .u8 0) n) 5)) := by
 have hz : (zrow (.int .u8 0) n).toList = List.replicate n (.int .u8 0) := toList_madeCells_one (.int .u8 0) n
 refine ⟨⟨_, _, _, rfl, hn, Nat.le_refl _, by simp [maxLen]; omega, .inr ⟨_, List.mem_cons_self, rfl, 0, by rw [Nat.zero_mul], by simp, by simp⟩⟩, (TyStep.refl h).push .bt n n _ (Nat.le_refl _) (by rw [← Array.length_toList, hz]; simp [Kd.n]) (fun i hi => ?_)⟩
 rw [hz]
 refine ⟨0, ?_⟩
 show (List.drop (i * 1) (List.replicate n (Value.int .u8 0))).take 1 = [.int .u8 ((0 : UInt8).toNat : Nat)]
 rw [List.drop_replicate, List.take_replicate, show min 1 (n - i * 1) = 1 by omega]
 rfl
end Go.Proofs.YtphmpimgbmedbaaGreat
namespace Go.Proofs.YtphmpimgbmedbaaGreat
open Go.RowKit
open Go.Lib (hid)

end Go.Proofs.YtphmpimgbmedbaaGreat
