/- Several texts in one. -/
import Derived.Test.YtphmpimgbmedbaaGreatVac
import Derived.Test.YtphmpimgbmedbaaGreatVaf
import Derived.Test.YtphmpimgbmedbaaGreatVaa
import Derived.Test.YtphmpimgbmedbaaGreatRows
import Derived.Test.YtphmpimgbmedbaaGreatVae
import Derived.Deep.DeepCutAuto
import Derived.Laws.CopyRow
import Derived.Laws.Cells
import Derived.Laws.IdiomCopy
import Derived.Test.YtphmpimgbmedbaaGreatVab
import Derived.Test.YtphmpimgbmedbaaGreatVag
set_option maxRecDepth 100000
set_option maxHeartbeats 8000000
namespace Go.Proofs.YtphmpimgbmedbaaGreat
open Go.RowKit
open Go.Lib (hid)
structure WRes where
 code : Int
 world : Wld
def zShp : Shp := ⟨0, 0, 0, 0, 0, 0, 0, 0, 0⟩
def zWld : Wld := ⟨zShp, [], [], [], 0, 0, false⟩
def wrsL : Lay WRes := (intL.pair wldL).via (fun x => (x.code, x.world))
theorem q9w {w : World} {cs : List Value} {x : WRes} {fp : List Nat} : wrsL.rep w cs x fp ↔ ∃ c, cs = .int .i64 x.code :: c ∧ q0q x.code ∧ wldL.rep w c x.world fp := by
 constructor
 ·rintro ⟨_, c, _, f, rfl, rfl, ⟨rfl, h1, rfl⟩, h2⟩
  exact ⟨c, rfl, h1, h2⟩
 ·rintro ⟨c, rfl, h1, h2⟩
  exact ⟨[_], c, [], fp, rfl, rfl, ⟨rfl, h1, rfl⟩, h2⟩
structure BRes where
 code : Int
 block : Blk
def brsL : Lay BRes := (intL.pair blkL).via (fun x => (x.code, x.block))
theorem z0p {w : World} {cs : List Value} {x : BRes} {fp : List Nat} : brsL.rep w cs x fp ↔ ∃ c, cs = .int .i64 x.code :: c ∧ q0q x.code ∧ blkL.rep w c x.block fp := by
 constructor
 ·rintro ⟨_, c, _, f, rfl, rfl, ⟨rfl, h1, rfl⟩, h2⟩
  exact ⟨c, rfl, h1, h2⟩
 ·rintro ⟨c, rfl, h1, h2⟩
  exact ⟨[_], c, [], fp, rfl, rfl, ⟨rfl, h1, rfl⟩, h2⟩
/-! ### how much there is of it -/
section
variable {α : Type} {f : α → Int}
end
end Go.Proofs.YtphmpimgbmedbaaGreat
namespace Go.Proofs.YtphmpimgbmedbaaGreat
open Go.RowKit
open Go.Lib (hid)
theorem setCell_same {w : World} {b o : Nat} {v : Value} (h : w.cell? ⟨b, o, none⟩ = some v) : w.setCell ⟨b, o, none⟩ v = w := by
 unfold World.cell? at h
 unfold World.setCell
 have e : (w.heap.modify b fun
   | .cells c elem frozen => .cells (if (none : Option Value).isSome then c else c.setIfInBounds o v) elem frozen
   | o => o) = w.heap := by
  apply Array.ext_getElem?
  intro j
  rw [Array.getElem?_modify]
  by_cases e : b = j
  ·subst e
   simp only [if_true]
   cases hb : w.heap[b]? with
   | none => rfl
   | some x =>
    simp only [hb] at h
    cases x <;> simp at h ⊢
    rename_i c E fr
    apply Array.ext_getElem?
    intro i
    rw [Array.getElem?_setIfInBounds]
    by_cases e2 : o = i
    ·subst e2
     simp [h]
     exact (Array.getElem?_eq_some_iff.1 h).1
    ·rw [if_neg e2]
  ·rw [if_neg e]
 cases w
 simp only at e ⊢
 congr 1
def bblk : Blk := ⟨0, [0, 0, 0, 0]⟩
def q6r (w wr : World) (b n k : Nat) : Prop :=
 ∃ ms : List Nat, ms.length = k ∧ q2q blkL wr b 0 (ms.map (fun m => (bblk, [m])) ++ List.replicate (n - k) (zBlk, [])) ∧ q1c w.heap.size wr (b :: ms) ∧ Chg [] w wr
theorem q6r.next {w wr w2 : World} {b n k m : Nat} (h : q6r w wr b n k) (hk : k < n) (hc : Chg [] wr w2) (hm : q0t.sl w2 (some ⟨m, 0, none⟩) 4 4 [0, 0, 0, 0] [m]) (hf : q1c wr.heap.size w2 [m]) :
  q6r w (w2.setCell ⟨b, k * 2 + 1, none⟩ (.slice (some ⟨m, 0, none⟩) 4 4)) b n (k + 1) := by
 obtain ⟨ms, h1, h2, h3, h4⟩ := h
 have r2 := h2.ext hc
 have hlen : (ms.map (fun m => (bblk, [m])) ++ List.replicate (n - k) (zBlk, ([] : List Nat))).length = n := by simp; omega
 obtain ⟨p, c, hp, hrep, hnb, hcell⟩ := r2.at (i := k) (by rw [hlen]; exact hk)
 have hpe : p = (zBlk, []) := by
  rw [List.getElem?_append_right (by simp; omega)] at hp
  have := List.mem_of_getElem? hp
  exact List.eq_of_mem_replicate this
 subst hpe
 obtain ⟨a', l', c', f', rfl, -, -, -⟩ := q1s.1 hrep
 have h0 : w2.cell? ⟨b, k * 2, none⟩ = some (.int .i64 0) := by
  have h5 : w2.cell? ⟨b, 0 + k * 2 + 0, none⟩ = some (.int .i64 0) := hcell 0 (by decide)
  rw [Nat.zero_add, Nat.add_zero] at h5
  exact h5
 have hbm : b ≠ m := fun e => by have := (hf.2 m (by simp)).1; have := h2.lt; omega
 have hput := r2.put (i := k) (by rw [hlen]; exact hk) (x := bblk) (c := [.int .i64 0, .slice (some ⟨m, 0, none⟩) 4 4]) (f := [m]) (q1s.2 ⟨_, _, _, _, rfl, i64z, hm, rfl⟩) (by simpa using hbm)
 have ew : w2.setCells b (0 + k * blkL.n) [.int .i64 0, .slice (some ⟨m, 0, none⟩) 4 4] = w2.setCell ⟨b, k * 2 + 1, none⟩ (.slice (some ⟨m, 0, none⟩) 4 4) := by
  show (w2.setCell ⟨b, 0 + k * 2, none⟩ _).setCell ⟨b, 0 + k * 2 + 1, none⟩ _ = _
  rw [Nat.zero_add, setCell_same h0]
 rw [ew] at hput
 have es : (ms.map (fun m => (bblk, [m])) ++ List.replicate (n - k) (zBlk, ([] : List Nat))).set k (bblk, [m]) = (ms ++ [m]).map (fun m => (bblk, [m])) ++ List.replicate (n - (k + 1)) (zBlk, []) := by
  rw [List.set_append_right _ _ (by simp; omega), List.length_map, h1, Nat.sub_self, show n - k = (n - (k + 1)) + 1 by omega, List.replicate_succ, List.set_cons_zero, List.map_append]
  simp
 rw [es] at hput
 have cS : Chg [b] w2 (w2.setCell ⟨b, k * 2 + 1, none⟩ (.slice (some ⟨m, 0, none⟩) 4 4)) := (Chg.refl _ _).setCell _ _ (.inl (by simp))
 refine ⟨ms ++ [m], by simp [h1], hput, ?_, ?_⟩
 ·have := (h3.chg hc).append hf h3.lts h4.size
  exact (show q1c w.heap.size w2 (b :: (ms ++ [m])) from this).chg cS
 ·exact (h4.trans0 hc).setCell _ _ (.inr (h3.2 b (by simp)).1)
theorem q6r.cells {w wr : World} {b n k : Nat} (h : q6r w wr b n k) (hk : k < n) : (∃ v, wr.cell? ⟨b, k * 2 + 1, none⟩ = some v) ∧ b < wr.heap.size ∧ ∀ j, wr.frozen? ⟨b, j, none⟩ = false := by
 obtain ⟨ms, h1, h2, h3, h4⟩ := h
 have hlen : (ms.map (fun m => (bblk, [m])) ++ List.replicate (n - k) (zBlk, ([] : List Nat))).length = n := by simp; omega
 obtain ⟨p, c, hp, hrep, hnb, hcell⟩ := h2.at (i := k) (by rw [hlen]; exact hk)
 obtain ⟨a', l', c', f', rfl, -, -, -⟩ := q1s.1 hrep
 have h5 : wr.cell? ⟨b, 0 + k * 2 + 1, none⟩ = some (.slice a' l' c') := hcell 1 (by decide)
 rw [Nat.zero_add] at h5
 exact ⟨⟨_, h5⟩, h2.lt, h2.free⟩
theorem q6r.last {w wr : World} {b n : Nat} (h : q6r w wr b n n) (hn : n ≤ maxLen) : q7w blkL (List.replicate n bblk) w (.returned (.slice (some ⟨b, 0, none⟩) n n)) wr := by
 obtain ⟨ms, h1, h2, h3, h4⟩ := h
 rw [Nat.sub_self, List.replicate_zero, List.append_nil] at h2
 have := h2.sl (len := n) (cap := n) (by simp [h1]) (Nat.le_refl _) hn
 have e1 : (ms.map (fun m => (bblk, [m]))).map (·.1) = List.replicate n bblk := by
  rw [List.map_map, ← h1]
  exact List.map_const' ..
 have e2 : (ms.map (fun m => (bblk, [m]))).flatMap (·.2) = ms := by
  rw [List.flatMap_map]
  simp
 rw [e1, e2] at this
 exact ⟨some ⟨b, 0, none⟩, n, _, by simp, by simpa using this, h3, h4⟩
theorem row9_back {w : World} {b : Nat} {E : TypeId} {fr : Nat × Nat} {u0 u1 u2 u3 u4 u5 u6 u7 u8 : Value} (v0 v1 v2 v3 v4 v5 v6 v7 v8 : Value) (h : w.heap[b]? = some (.cells #[u0, u1, u2, u3, u4, u5, u6, u7, u8] E fr)) :
  (((((((((w.setCell ⟨b, 0, none⟩ (v0)).setCell ⟨b, 1, none⟩ (v1)).setCell ⟨b, 2, none⟩ (v2)).setCell ⟨b, 3, none⟩ (v3)).setCell ⟨b, 4, none⟩ (v4)).setCell ⟨b, 5, none⟩ (v5)).setCell ⟨b, 6, none⟩ (v6)).setCell ⟨b, 7, none⟩ (v7)).setCell ⟨b, 8, none⟩ (v8)).heap[b]? = some (.cells #[v0, v1, v2, v3, v4, v5, v6, v7, v8] E fr) := by
 have e : (((((((((w.setCell ⟨b, 0, none⟩ (v0)).setCell ⟨b, 1, none⟩ (v1)).setCell ⟨b, 2, none⟩ (v2)).setCell ⟨b, 3, none⟩ (v3)).setCell ⟨b, 4, none⟩ (v4)).setCell ⟨b, 5, none⟩ (v5)).setCell ⟨b, 6, none⟩ (v6)).setCell ⟨b, 7, none⟩ (v7)).setCell ⟨b, 8, none⟩ (v8)) = w.setCells b 0 [v0, v1, v2, v3, v4, v5, v6, v7, v8] := rfl
 rw [e, q2j [v0, v1, v2, v3, v4, v5, v6, v7, v8] 0 w _ h]
 simp [setRow]
theorem q7f (a : Option Addr) (la ca : Nat) (xs : List UInt8) (f : List Nat) (w : World) (ha : q0t.sl w a la ca xs f) (hz : la ≤ 140737488355327) :
  Calls Tryz.prog 141 #[.slice a la ca] w (q7w q0t xs w) := by
 obtain ⟨K, _⟩ := kindB
 have HA := hid ha
 have HZ := hid hz
 have hn := fun w => Lib.run_eql_slice_nil (P := Tryz.prog) w 62 5 a la ca 0 0 Tryz.underlying62
 clear ha hz
 cases a with
 | none =>
  obtain rfl : xs = [] := by apply List.eq_nil_of_length_eq_zero; have := HA.out.1; have := HA.out.2.1; have := HA.out.2.2.2.1 rfl; omega
  go_enter Tryz.func141, Tryz.ntmps141
  go_wp2
  go_ret
  exact ⟨none, 0, [], rfl, q5d _ _, q1c.nil _ _, Chg.refl _ _⟩
 | some ad =>
  have HL : Hid (([] : List UInt8).length + xs.length ≤ maxLen ∧ (([] : List UInt8).length + xs.length) * 1 ≤ 140737488355328) := by
   have := HA.out.1; have := HZ.out; have := Lay.sl_max _ HA.out
   refine ⟨?_, ?_⟩
   ·simp only [List.length_nil, maxLen]; omega
   ·simp only [List.length_nil, Nat.zero_add]; omega
  go_enter Tryz.func141, Tryz.ntmps141
  go_wp2_with (refine q0t.wpList_growS q7l rfl _ _ 62 rfl Tryz.underlying62 K rfl (Grow.made (Chg.refl [] w)) (Chg.refl [] _) rfl (q0t.sl_ext HA.out ((Chg.refl [] w).alloc _)) HL.out.1 HL.out.2 ?_; intro v' w' hg'; have hN := hid hg'; clear hg')
  go_ret
  obtain ⟨a', c', f', h1, h2, h3, h4⟩ := hN.out.sl
  exact ⟨a', c', f', by rw [h1]; rfl, h2, h3, h4⟩
theorem cpyI_any (a : Option Addr) (la ca : Nat) (xs : List Int) (f : List Nat) (w : World) (ha : intL.sl w a la ca xs f) (hz : la ≤ 17592186044415) :
  Calls Tryz.prog 154 #[.slice a la ca] w (q7w intL xs w) := by
 obtain ⟨K, _⟩ := z0i
 have HA := hid ha
 have HZ := hid hz
 have hn := fun w => Lib.run_eql_slice_nil (P := Tryz.prog) w 25 2 a la ca 0 0 Tryz.underlying25
 clear ha hz
 cases a with
 | none =>
  obtain rfl : xs = [] := by apply List.eq_nil_of_length_eq_zero; have := HA.out.1; have := HA.out.2.1; have := HA.out.2.2.2.1 rfl; omega
  go_enter Tryz.func154, Tryz.ntmps154
  go_wp2
  go_ret
  exact ⟨none, 0, [], rfl, q5d _ _, q1c.nil _ _, Chg.refl _ _⟩
 | some ad =>
  have HL : Hid (([] : List Int).length + xs.length ≤ maxLen ∧ (([] : List Int).length + xs.length) * 8 ≤ 140737488355328) := by
   have := HA.out.1; have := HZ.out; have := Lay.sl_max _ HA.out
   refine ⟨?_, ?_⟩
   ·simp only [List.length_nil, maxLen]; omega
   ·simp only [List.length_nil, Nat.zero_add]; omega
  go_enter Tryz.func154, Tryz.ntmps154
  go_wp2_with (refine intL.wpList_growS q4q rfl _ _ 25 rfl Tryz.underlying25 K rfl (Grow.made (Chg.refl [] w)) (Chg.refl [] _) rfl (intL.sl_ext HA.out ((Chg.refl [] w).alloc _)) HL.out.1 HL.out.2 ?_; intro v' w' hg'; have hN := hid hg'; clear hg')
  go_ret
  obtain ⟨a', c', f', h1, h2, h3, h4⟩ := hN.out.sl
  exact ⟨a', c', f', by rw [h1]; rfl, h2, h3, h4⟩
theorem cloneRec_any (x : Rec) (cx : Array Value) (fx : List Nat) (w : World) (hx : recL.rep w cx.toList x fx) (hz : q3t x ≤ 1048576) :
  Calls Tryz.prog 122 #[.agg cx] w (q2l recL x w) := by
 obtain ⟨a6, l6, c6, f6, a7, l7, c7, f7, a8, l8, c8, f8, ex, o0, o1, o2, o3, o4, o5, h6, h7, h8, -⟩ := q1g.1 hx
 obtain rfl := Array.toList_inj.1 (ex.trans (List.toList_toArray).symm)
 have q6 := q2f x.rows; have q7 := q2r x.data; have q8 := q2r x.delta
 unfold q3t q3z q5m at hz
 unfold q3z at q6; unfold q5m at q7 q8
 have z6 : l6 ≤ 1048576 := by rw [h6.1]; omega
 have z7 : l7 ≤ 1048576 := by rw [h7.1]; omega
 have z8 : l8 ≤ 1048576 := by rw [h8.1]; omega
 have HO := hid (And.intro o0 (And.intro o1 (And.intro o2 (And.intro o3 (And.intro o4 o5)))))
 have L6 := hid h6.1.symm; have L7 := hid h7.1.symm; have L8 := hid h8.1.symm
 have H6 := hid h6; have H7 := hid h7; have H8 := hid h8
 clear hx ex hz q6 q7 q8 o0 o1 o2 o3 o4 o5 h6 h7 h8
 have g0 : Chg [] w ((w.alloc (.cells #[.int .i64 x.kind, .int .i64 x.seq, .string x.name, .int .i64 x.length, .int .i64 x.group, .int .i64 x.row, .slice a6 l6 c6, .slice a7 l7 c7, .slice a8 l8 c8] 67)).alloc (.cells #[.int .i64 0, .int .i64 0, .string ⟨#[]⟩, .int .i64 0, .int .i64 0, .int .i64 0, .slice none 0 0, .slice none 0 0, .slice none 0 0] 67)).drew := (((Chg.refl [] w).alloc _).alloc _).drew
 have B1 := hid (show ((w.alloc (.cells #[.int .i64 x.kind, .int .i64 x.seq, .string x.name, .int .i64 x.length, .int .i64 x.group, .int .i64 x.row, .slice a6 l6 c6, .slice a7 l7 c7, .slice a8 l8 c8] 67)).alloc (.cells #[.int .i64 0, .int .i64 0, .string ⟨#[]⟩, .int .i64 0, .int .i64 0, .int .i64 0, .slice none 0 0, .slice none 0 0, .slice none 0 0] 67)).drew.heap[w.heap.size]? = some (.cells #[.int .i64 x.kind, .int .i64 x.seq, .string x.name, .int .i64 x.length, .int .i64 x.group, .int .i64 x.row, .slice a6 l6 c6, .slice a7 l7 c7, .slice a8 l8 c8] 67 (0, 0)) from q0a (q0b (q0j w _) _))
 have B2 := hid (show ((w.alloc (.cells #[.int .i64 x.kind, .int .i64 x.seq, .string x.name, .int .i64 x.length, .int .i64 x.group, .int .i64 x.row, .slice a6 l6 c6, .slice a7 l7 c7, .slice a8 l8 c8] 67)).alloc (.cells #[.int .i64 0, .int .i64 0, .string ⟨#[]⟩, .int .i64 0, .int .i64 0, .int .i64 0, .slice none 0 0, .slice none 0 0, .slice none 0 0] 67)).drew.heap[w.heap.size + 1]? = some (.cells #[.int .i64 0, .int .i64 0, .string ⟨#[]⟩, .int .i64 0, .int .i64 0, .int .i64 0, .slice none 0 0, .slice none 0 0, .slice none 0 0] 67 (0, 0)) from q0a (q0e (by simp) _))
 have hs0 : ((w.alloc (.cells #[.int .i64 x.kind, .int .i64 x.seq, .string x.name, .int .i64 x.length, .int .i64 x.group, .int .i64 x.row, .slice a6 l6 c6, .slice a7 l7 c7, .slice a8 l8 c8] 67)).alloc (.cells #[.int .i64 0, .int .i64 0, .string ⟨#[]⟩, .int .i64 0, .int .i64 0, .int .i64 0, .slice none 0 0, .slice none 0 0, .slice none 0 0] 67)).drew.heap.size = w.heap.size + 2 := by simp [World.drew]
 have G0 := hid g0
 have HS0 := hid hs0
 clear g0 hs0
 go_enter Tryz.func122, Tryz.ntmps122
 go_wp2_with fail
 obtain ⟨CC, HCI, HCO⟩ := q0l (fun w' => Know w.heap.size #[.int .i64 x.kind, .int .i64 x.seq, .string x.name, .int .i64 x.length, .int .i64 x.group, .int .i64 x.row, .slice a6 l6 c6, .slice a7 l7 c7, .slice a8 l8 c8] w')
 refine q1m [10] CC (by kernel_rfl) (HCI.out _ (Know.of B1.out)) (fun hcl hS => ?_)
 refine ggT 0 hcl hS ?_; clear hcl hS; intro hcl hS
 refine ggL 1 hcl hS HCO ?_; clear hcl hS; intro hcl hS
 refine ggT 3 hcl hS ?_; clear hcl hS; intro hcl hS
 refine ggL 4 hcl hS HCO ?_; clear hcl hS; intro hcl hS
 refine ggT 6 hcl hS ?_; clear hcl hS; intro hcl hS
 refine ggL 7 hcl hS HCO ?_; clear hcl hS; intro hcl hS
 refine ggC 2 hcl rfl (by kernel_rfl) (fun K hK => ?_)
 go_simp
 go_at_call 154
 refine (cpyI_any a6 l6 c6 x.rows f6 _ (intL.sl_ext H6.out G0.out) (by omega)).mono ?_; rintro e w1 ⟨p6, d6, g6, rfl, hs, hf, hc⟩
 rw [L6.out] at hs ⊢; have HN1 := hid (And.intro hs (And.intro hf hc)); obtain ⟨-, -, A1⟩ := bk0 hc B1.out; obtain ⟨-, -, A2⟩ := bk0 hc B2.out; clear hs hf hc
 go_wp2_with fail
 refine hK.out _ _ (fun _ => HCI.out _ (Know.of A1.out)) ?_
 clear hK K hcl hS
 intro hcl hS
 try simp only [Act.put, pA, pB, pC]
 refine ggT 9 hcl hS ?_; clear hcl hS; intro hcl hS
 refine ggC 5 hcl rfl (by kernel_rfl) (fun K hK => ?_)
 go_simp
 go_at_call 141
 refine (q7f a7 l7 c7 x.data f7 _ (q0t.sl_ext H7.out (G0.out.trans0 HN1.out.2.2)) (by omega)).mono ?_; rintro e w2 ⟨p7, d7, g7, rfl, hs, hf, hc⟩
 rw [L7.out] at hs ⊢; have HN2 := hid (And.intro hs (And.intro hf hc)); obtain ⟨-, -, A3⟩ := bk0 hc A1.out; obtain ⟨-, -, A4⟩ := bk0 hc A2.out; clear hs hf hc
 go_wp2_with fail
 refine hK.out _ _ (fun _ => HCI.out _ (Know.of A3.out)) ?_
 clear hK K hcl hS
 intro hcl hS
 try simp only [Act.put, pA, pB, pC]
 refine ggC 8 hcl rfl (by kernel_rfl) (fun K hK => ?_)
 go_simp
 go_at_call 141
 refine (q7f a8 l8 c8 x.delta f8 _ (q0t.sl_ext H8.out ((G0.out.trans0 HN1.out.2.2).trans0 HN2.out.2.2)) (by omega)).mono ?_; rintro e w3 ⟨p8, d8, g8, rfl, hs, hf, hc⟩
 rw [L8.out] at hs ⊢; have HN3 := hid (And.intro hs (And.intro hf hc)); obtain ⟨e1, n1, A5⟩ := bk0 hc A3.out; obtain ⟨e2, n2, A6⟩ := bk0 hc A4.out; have fz := q0c A5.out; have fy := q0c A6.out; clear hs hf hc
 go_wp2_with fail
 refine hK.out _ _ (fun _ => HCI.out _ (Know.of A5.out)) ?_
 clear hK K hcl hS
 intro hcl hS
 try simp only [Act.put, pA, pB, pC]
 refine ggC 10 hcl rfl (by kernel_rfl) (fun K hK => ?_)
 go_simp
 refine hK.out _ _ (Till.done (m := 10) (by simp) (by rfl)) ?_
 clear hK K hcl hS
 intro hcl hS
 try simp only [Act.put, pA, pB, pC]
 refine ggT 11 hcl hS ?_; clear hcl hS; intro hcl hS
 refine ggC 12 hcl rfl (by kernel_rfl) (fun K hK => ?_)
 go_simp
 refine hK.out _ _ (Till.done (m := 10) (by simp) (by rfl)) ?_
 clear hK K hcl hS
 intro hcl hS
 try simp only [Act.put, pA, pB, pC]
 refine ggT 13 hcl hS ?_; clear hcl hS; intro hcl hS
 refine ggC 14 hcl rfl (by kernel_rfl) (fun K hK => ?_)
 go_simp
 refine hK.out _ _ (Till.done (m := 10) (by simp) (by rfl)) ?_
 clear hK K hcl hS
 intro hcl hS
 try simp only [Act.put, pA, pB, pC]
 refine q3h (by kernel_rfl) ?_ _
 go_wp2_with fail
 have hb1 : (((w3.setCell ⟨w.heap.size, 6, none⟩ (.slice p6 l6 d6)).setCell ⟨w.heap.size, 7, none⟩ (.slice p7 l7 d7)).setCell ⟨w.heap.size, 8, none⟩ (.slice p8 l8 d8)).heap[w.heap.size + 1]? = some (.cells #[.int .i64 0, .int .i64 0, .string ⟨#[]⟩, .int .i64 0, .int .i64 0, .int .i64 0, .slice none 0 0, .slice none 0 0, .slice none 0 0] 67 (0, 0)) := q0u (q0u (q0u A6.out _ _ (by simp)) _ _ (by simp)) _ _ (by simp)
 have hq : ((((((((((((w3.setCell ⟨w.heap.size, 6, none⟩ (.slice p6 l6 d6)).setCell ⟨w.heap.size, 7, none⟩ (.slice p7 l7 d7)).setCell ⟨w.heap.size, 8, none⟩ (.slice p8 l8 d8)).setCell ⟨w.heap.size + 1, 0, none⟩ (.int .i64 x.kind)).setCell ⟨w.heap.size + 1, 1, none⟩ (.int .i64 x.seq)).setCell ⟨w.heap.size + 1, 2, none⟩ (.string x.name)).setCell ⟨w.heap.size + 1, 3, none⟩ (.int .i64 x.length)).setCell ⟨w.heap.size + 1, 4, none⟩ (.int .i64 x.group)).setCell ⟨w.heap.size + 1, 5, none⟩ (.int .i64 x.row)).setCell ⟨w.heap.size + 1, 6, none⟩ (.slice p6 l6 d6)).setCell ⟨w.heap.size + 1, 7, none⟩ (.slice p7 l7 d7)).setCell ⟨w.heap.size + 1, 8, none⟩ (.slice p8 l8 d8)).heap[w.heap.size + 1]? = some (.cells #[.int .i64 x.kind, .int .i64 x.seq, .string x.name, .int .i64 x.length, .int .i64 x.group, .int .i64 x.row, .slice p6 l6 d6, .slice p7 l7 d7, .slice p8 l8 d8] 67 (0, 0)) := by
  have h := row9_back (.int .i64 x.kind) (.int .i64 x.seq) (.string x.name) (.int .i64 x.length) (.int .i64 x.group) (.int .i64 x.row) (.slice p6 l6 d6) (.slice p7 l7 d7) (.slice p8 l8 d8) hb1
  exact h
 have hqc := cellsOf hq
 have s1 := HN1.out.2.2.size; have s2 := HN2.out.2.2.size; have s3 := HN3.out.2.2.size
 rw [HS0.out] at s1
 have cS : Chg [w.heap.size, w.heap.size + 1] w3 ((((((((((((w3.setCell ⟨w.heap.size, 6, none⟩ (.slice p6 l6 d6)).setCell ⟨w.heap.size, 7, none⟩ (.slice p7 l7 d7)).setCell ⟨w.heap.size, 8, none⟩ (.slice p8 l8 d8)).setCell ⟨w.heap.size + 1, 0, none⟩ (.int .i64 x.kind)).setCell ⟨w.heap.size + 1, 1, none⟩ (.int .i64 x.seq)).setCell ⟨w.heap.size + 1, 2, none⟩ (.string x.name)).setCell ⟨w.heap.size + 1, 3, none⟩ (.int .i64 x.length)).setCell ⟨w.heap.size + 1, 4, none⟩ (.int .i64 x.group)).setCell ⟨w.heap.size + 1, 5, none⟩ (.int .i64 x.row)).setCell ⟨w.heap.size + 1, 6, none⟩ (.slice p6 l6 d6)).setCell ⟨w.heap.size + 1, 7, none⟩ (.slice p7 l7 d7)).setCell ⟨w.heap.size + 1, 8, none⟩ (.slice p8 l8 d8)) := by
  iterate 12 refine Chg.setCell ?_ _ _ (.inl (by simp))
  exact Chg.refl _ _
 have nb : ∀ g (B : Nat) (W : World), w.heap.size + 2 ≤ B → q1c B W g → ∀ b ∈ g, b ∉ [w.heap.size, w.heap.size + 1] := fun g B W hB hf b hb hm => by
  have := (hf.2 b hb).1
  simp only [List.mem_cons, List.not_mem_nil, or_false] at hm
  omega
 have n6 := nb g6 _ _ (by rw [HS0.out]; exact Nat.le_refl _) HN1.out.2.1
 have n7 := nb g7 _ _ (by omega) HN2.out.2.1
 have n8 := nb g8 _ _ (by omega) HN3.out.2.1
 have K6 := intL.sl_chg (intL.sl_ext (intL.sl_ext HN1.out.1 HN2.out.2.2) HN3.out.2.2) cS n6
 have K7 := q0t.sl_chg (q0t.sl_ext HN2.out.1 HN3.out.2.2) cS n7
 have K8 := q0t.sl_chg HN3.out.1 cS n8
 have F6 := ((HN1.out.2.1.chg HN2.out.2.2).chg HN3.out.2.2).chg cS
 have F7 := (HN2.out.2.1.chg HN3.out.2.2).chg cS
 have F8 := HN3.out.2.1.chg cS
 have l6' := HN1.out.2.1.low (Nat.le_refl _); have l7' := HN2.out.2.1.low (Nat.le_refl _)
 have hfr := (F6.append (F7.append F8 l7' (by omega)) l6' (by rw [HS0.out]; omega)).mono (C := w.heap.size) (by rw [HS0.out]; omega)
 have hch : Chg [] w ((((((((((((w3.setCell ⟨w.heap.size, 6, none⟩ (.slice p6 l6 d6)).setCell ⟨w.heap.size, 7, none⟩ (.slice p7 l7 d7)).setCell ⟨w.heap.size, 8, none⟩ (.slice p8 l8 d8)).setCell ⟨w.heap.size + 1, 0, none⟩ (.int .i64 x.kind)).setCell ⟨w.heap.size + 1, 1, none⟩ (.int .i64 x.seq)).setCell ⟨w.heap.size + 1, 2, none⟩ (.string x.name)).setCell ⟨w.heap.size + 1, 3, none⟩ (.int .i64 x.length)).setCell ⟨w.heap.size + 1, 4, none⟩ (.int .i64 x.group)).setCell ⟨w.heap.size + 1, 5, none⟩ (.int .i64 x.row)).setCell ⟨w.heap.size + 1, 6, none⟩ (.slice p6 l6 d6)).setCell ⟨w.heap.size + 1, 7, none⟩ (.slice p7 l7 d7)).setCell ⟨w.heap.size + 1, 8, none⟩ (.slice p8 l8 d8)) := (((G0.out.trans0 HN1.out.2.2).trans0 HN2.out.2.2).trans0 HN3.out.2.2).trans cS (fun y hy => .inr (by simp only [List.mem_cons, List.not_mem_nil, or_false] at hy; omega))
 refine bodyPost_ret (v := .agg #[.int .i64 x.kind, .int .i64 x.seq, .string x.name, .int .i64 x.length, .int .i64 x.group, .int .i64 x.row, .slice p6 l6 d6, .slice p7 l7 d7, .slice p8 l8 d8]) (by simp [results, Tryz.results122, go_sem, hqc]) rfl ⟨_, _, rfl, q1g.2 ⟨p6, l6, d6, g6, p7, l7, d7, g7, p8, l8, d8, g8, rfl, HO.out.1, HO.out.2.1, HO.out.2.2.1, HO.out.2.2.2.1, HO.out.2.2.2.2.1, HO.out.2.2.2.2.2, K6, K7, K8, rfl⟩, hfr, hch⟩
theorem q8q {w : World} {b : Nat} {E : TypeId} {fr : Nat × Nat} {u0 u1 : Value} (v0 v1 : Value) (h : w.heap[b]? = some (.cells #[u0, u1] E fr)) :
  ((w.setCell ⟨b, 0, none⟩ v0).setCell ⟨b, 1, none⟩ v1).heap[b]? = some (.cells #[v0, v1] E fr) := by
 have e : ((w.setCell ⟨b, 0, none⟩ v0).setCell ⟨b, 1, none⟩ v1) = w.setCells b 0 [v0, v1] := rfl
 rw [e, q2j [v0, v1] 0 w _ h]
 simp [setRow]
theorem q7j (a : Option Addr) (la ca : Nat) (xs : List Rec) (f : List Nat) (w : World) (ha : recL.sl w a la ca xs f) (hz : totL q3t xs ≤ 1048576) :
  Calls Tryz.prog 93 #[.slice a la ca] w (q7w recL xs w) := by
 obtain ⟨K, _⟩ := z0h
 have hlz : la ≤ 1048576 := by have := q2e q3i xs; rw [ha.1]; omega
 have HL := hid ha.1
 have HA := hid ha
 have HZ := hid (fun x hx => Int.le_trans (q1y q3i hx) hz : ∀ x ∈ xs, q3t x ≤ 1048576)
 clear ha hz
 go_enter Tryz.func93, Tryz.ntmps93
 go_wp2_with fail
 go_loopw [3, 9] (fun vo vi wr => ∃ (k : Nat) (Wr : World), Wr = wr ∧ k ≤ la ∧ vi = .int .i64 k ∧ Grow recL 67 w wr vo (xs.take k)) (fun _ vi _ => la - (intOf vi).toNat)
 case atStart => exact ⟨0, _, rfl, by omega, rfl, by rw [List.take_zero]; exact Grow.made (Chg.refl _ _)⟩
 case round =>
  obtain ⟨k, wr, rfl, hk, rfl, hg⟩ := hrel
  by_cases hlt : k < la
  ·obtain ⟨x, b, off, a6, l6, c6, a7, l7, c7, a8, l8, c8, fq, HX, rfl, hq0, hq1, hq2, hq3, hq4, hq5, hq6, hq7, hq8, HXS⟩ := rec_at (recL.sl_ext HA.out hg.chg) hlt
   have HG := hid hg
   have HXI := hid HX.out.1
   have HXZ := hid (HZ.out x (List.mem_of_getElem? HX.out.1))
   clear hg HX
   go_wp2_with fail
   refine (cloneRec_any x #[.int .i64 x.kind, .int .i64 x.seq, .string x.name, .int .i64 x.length, .int .i64 x.group, .int .i64 x.row, .slice a6 l6 c6, .slice a7 l7 c7, .slice a8 l8 c8] fq _ (recL.ext HXS.out ((Chg.refl [] wr).alloc (.cells #[.int .i64 x.kind, .int .i64 x.seq, .string x.name, .int .i64 x.length, .int .i64 x.group, .int .i64 x.row, .slice a6 l6 c6, .slice a7 l7 c7, .slice a8 l8 c8] 67))) HXZ.out).mono ?_
   rintro e w1 ⟨cs, f1, rfl, hr, hf, hc⟩
   obtain ⟨p6, m6, d6, _, p7, m7, d7, _, p8, m8, d8, _, ex, -⟩ := q1g.1 hr
   obtain rfl := Array.toList_inj.1 (ex.trans (List.toList_toArray).symm)
   have HN1 := hid (And.intro hr (And.intro (hf.mono (C := wr.heap.size) (by simp)) (((Chg.refl [] wr).alloc (.cells #[.int .i64 x.kind, .int .i64 x.seq, .string x.name, .int .i64 x.length, .int .i64 x.group, .int .i64 x.row, .slice a6 l6 c6, .slice a7 l7 c7, .slice a8 l8 c8] 67)).trans0 hc)))
   have HLL : Hid ((xs.take k).length + [x].length ≤ maxLen ∧ ((xs.take k).length + [x].length) * 128 ≤ 140737488355328) := by
    refine ⟨?_, ?_⟩ <;> simp only [List.length_take, List.length_cons, List.length_nil, maxLen] <;> omega
   have HNX := hid (q1j HXI.out)
   clear ex hr hf hc hq0 hq1 hq2 hq3 hq4 hq5 hq6 hq7 hq8 HXS
   go_wp2_with (at_builtin; refine recL.wpList_grow rfl _ _ 44 rfl Tryz.underlying44 K rfl HG.out (HN1.out.2.2.alloc (.cells #[.int .i64 x.kind, .int .i64 x.seq, .string x.name, .int .i64 x.length, .int .i64 x.group, .int .i64 x.row, .slice p6 m6 d6, .slice p7 m7 d7, .slice p8 m8 d8] 67)) ⟨w1.heap.size, 0, none⟩ 1 1 [.int .i64 x.kind, .int .i64 x.seq, .string x.name, .int .i64 x.length, .int .i64 x.group, .int .i64 x.row, .slice p6 m6 d6, .slice p7 m7 d7, .slice p8 m8 d8] (ys := [x]) (f := f1) rfl rfl (q1i w1 #[.int .i64 x.kind, .int .i64 x.seq, .string x.name, .int .i64 x.length, .int .i64 x.group, .int .i64 x.row, .slice p6 m6 d6, .slice p7 m7 d7, .slice p8 m8 d8] 67) (recL.all_single (recL.ext HN1.out.1 ((Chg.refl [] w1).alloc _))) (HN1.out.2.1.chg ((Chg.refl [] w1).alloc (.cells #[.int .i64 x.kind, .int .i64 x.seq, .string x.name, .int .i64 x.length, .int .i64 x.group, .int .i64 x.row, .slice p6 m6 d6, .slice p7 m7 d7, .slice p8 m8 d8] 67))) HLL.out.1 HLL.out.2 ?_; intro v' w' hg'; rw [← HNX.out] at hg'; have HG2 := hid hg'; clear hg')
   go_roundw
   case rel => exact ⟨k + 1, _, rfl, by omega, by go_num, HG2.out⟩
   case measure => simp [intOf]; omega
  ·obtain rfl : k = la := by omega
   rw [List.take_of_length_le (by have := HL.out; omega)] at hg
   obtain ⟨a', c', f', h1, h2, h3, h4⟩ := hg.sl
   subst h1
   have HN := hid (show q7w recL xs w (.returned (.slice a' xs.length c')) wr from ⟨a', c', f', rfl, h2, h3, h4⟩)
   generalize xs.length = n at HN ⊢
   clear h2 h3 h4 hg
   go_wp2_with fail
   go_ret
   exact HN.out
theorem q6k (x : Drv) (cx : Array Value) (fx : List Nat) (w : World) (hx : drvL.rep w cx.toList x fx) (hz : q2h x ≤ 1048576) :
  Calls Tryz.prog 155 #[.agg cx] w (q2l drvL x w) := by
 obtain ⟨KB, _⟩ := q7c
 obtain ⟨a1, l1, c1, f1, ex, h1, -⟩ := q2i.1 hx
 obtain rfl := Array.toList_inj.1 (ex.trans (List.toList_toArray).symm)
 have hz1 : totL q2s x.blocks ≤ 1048576 := hz
 have hlz : l1 ≤ 1048576 := by have := q2e q2g x.blocks; rw [h1.1]; omega
 have HL := hid h1.1
 have H1 := hid h1
 have HZ := hid (fun b hb => Int.le_trans (q1y q2g hb) hz1 : ∀ b ∈ x.blocks, q2s b ≤ 1048576)
 clear hx ex hz hz1 h1
 go_enter Tryz.func155, Tryz.ntmps155
 go_wp2_with fail
 go_loopw [12] (fun vi wr => ∃ (k : Nat) (v : Value) (Wr : World), Wr = wr ∧ k ≤ l1 ∧ vi = .int .i64 k ∧ q1v blkL 76 (w.heap.size + 3) wr v (x.blocks.take k) ∧ wr.heap[w.heap.size + 1]? = some (.cells #[.bool false, .slice none 0 0] 82 (0, 0)) ∧ wr.heap[w.heap.size + 2]? = some (.cells #[.bool x.wiped, v] 82 (0, 0)) ∧ Chg [] w wr) (fun vi _ => l1 - (intOf vi).toNat)
 case atStart => exact ⟨0, _, _, rfl, by omega, rfl, by rw [List.take_zero]; exact q1v.nil (by simp), q0b (q0e (by simp) _) _, q0e (by simp) _, (((Chg.refl [] w).alloc _).alloc _).alloc _⟩
 case round =>
  obtain ⟨k, v, wr, rfl, hk, rfl, hg, hb1, hb2, hc⟩ := hrel
  have cb2 := cellsOf hb2; have lb2 := ltOf hb2
  have HB1 := hid hb1; have HB2 := hid hb2; have HC := hid hc
  by_cases hlt : k < l1
  ·obtain ⟨y, b, off, a2, l2, c2, f2, HY, rfl, hy0, hy1, HYS⟩ := q3s (blkL.sl_ext H1.out hc) hlt
   have HG := hid hg
   have HYI := hid HY.out.1
   obtain ⟨_, _, _, _, exb, hok, hby, -⟩ := q1s.1 HYS.out
   obtain ⟨q1, q2, q3⟩ := Value.slice.inj (List.cons.inj (List.cons.inj exb).2).1
   subst q1 q2 q3
   have hl2 : l2 ≤ 1048576 := by have := HZ.out y (List.mem_of_getElem? HYI.out); unfold q2s q5m at this; rw [hby.1]; omega
   have HBY := hid hby; have HOK := hid hok
   have LB := hid hby.1.symm
   clear hg hb1 hb2 hc HY exb hok hby HYS
   go_wp2_with fail
   have D1 := hid (show (wr.alloc (.cells #[.int .i64 y.sM, .slice a2 l2 c2] 76)).drew.heap[w.heap.size + 2]? = some (.cells #[.bool x.wiped, v] 82 (0, 0)) from q0a (q0b HB2.out _))
   have D2 := hid (show (wr.alloc (.cells #[.int .i64 y.sM, .slice a2 l2 c2] 76)).drew.heap[wr.heap.size]? = some (.cells #[.int .i64 y.sM, .slice a2 l2 c2] 76 (0, 0)) from q0a (q0j wr _))
   have G0 := hid (((Chg.refl [] wr).alloc (.cells #[.int .i64 y.sM, .slice a2 l2 c2] 76)).drew)
   have HLL : Hid ((x.blocks.take k).length + [y].length ≤ maxLen ∧ ((x.blocks.take k).length + [y].length) * 32 ≤ 140737488355328) := by
    refine ⟨?_, ?_⟩ <;> simp only [List.length_take, List.length_cons, List.length_nil, maxLen] <;> omega
   have HNX := hid (q1j HYI.out)
   obtain ⟨CC, HCI, HCO⟩ := q0l (fun w' => Know (w.heap.size + 2) #[.bool x.wiped, v] w' ∧ Know wr.heap.size #[.int .i64 y.sM, .slice a2 l2 c2] w')
   refine q1m [9] CC (by kernel_rfl) (HCI.out _ ⟨(Know.of D1.out), (Know.of D2.out)⟩) (fun hcl hS => ?_)
   refine ggT 0 hcl hS ?_; clear hcl hS; intro hcl hS
   refine ggL 1 hcl hS HCO ?_; clear hcl hS; intro hcl hS
   refine ggT 2 hcl hS ?_; clear hcl hS; intro hcl hS
   refine ggL 3 hcl hS HCO ?_; clear hcl hS; intro hcl hS
   refine ggT 4 hcl hS ?_; clear hcl hS; intro hcl hS
   refine ggL 5 hcl hS HCO ?_; clear hcl hS; intro hcl hS
   refine ggC 6 hcl rfl (by kernel_rfl) (fun K hK => ?_)
   go_simp
   go_at_call 141
   refine (q7f a2 l2 c2 y.bytes _ _ (q0t.sl_ext HBY.out G0.out) (by omega)).mono ?_; rintro e w1 ⟨p2, d2, g2, rfl, hs, hf, hc⟩
   rw [LB.out] at hs ⊢; have HN1 := hid (And.intro hs (And.intro (hf.mono (C := wr.heap.size) (by simp [World.drew])) (G0.out.trans0 hc))); obtain ⟨-, -, E1⟩ := bk0 hc D1.out; obtain ⟨-, -, E2⟩ := bk0 hc D2.out; clear hs hf hc
   go_wp2_with fail
   refine hK.out _ _ (fun _ => HCI.out _ ⟨(Know.of E1.out), (Know.of E2.out)⟩) ?_
   clear hK K hcl hS
   intro hcl hS
   try simp only [Act.put, pA, pB, pC]
   refine ggT 7 hcl hS ?_; clear hcl hS; intro hcl hS
   refine ggC 8 hcl rfl (by kernel_rfl) (fun K hK => ?_)
   go_simp
   refine hK.out _ _ (fun _ => HCI.out _ ⟨(Know.of (q0b E1.out _)), (Know.of (q0b E2.out _))⟩) ?_
   clear hK K hcl hS
   intro hcl hS
   try simp only [Act.put, pA, pB, pC]
   refine ggC 9 hcl rfl (by kernel_rfl) (fun K hK => ?_)
   refine q3y.step rfl _ _ 80 rfl Tryz.underlying80 KB rfl (HG.out.b.ext (HN1.out.2.2.alloc (.cells #[.int .i64 y.sM, .slice p2 l2 d2] 76))) ⟨w1.heap.size, 0, none⟩ 1 1 [.int .i64 y.sM, .slice p2 l2 d2] (ys := [y]) (f := g2) rfl rfl (q1i w1 #[.int .i64 y.sM, .slice p2 l2 d2] 76) (blkL.all_single (q1s.2 ⟨p2, l2, d2, g2, rfl, HOK.out, q0t.sl_ext HN1.out.1 ((Chg.refl [] w1).alloc _), rfl⟩)) (HN1.out.2.1.chg ((Chg.refl [] w1).alloc _)) HLL.out.1 HLL.out.2 ?_
   intro v' w2 hg' hup
   rw [← HNX.out] at hg'
   obtain ⟨pv, lv, cv, rfl⟩ : ∃ a l c, v' = Value.slice a l c := by obtain ⟨a, c, f, h, -⟩ := hg'.sl; exact ⟨a, _, c, h⟩
   have HG2 := hid hg'; have HU := hid hup
   have E3 := hid ((hup.low (w.heap.size + 2) (by omega)).trans (q0b E1.out _)); have E4 := hid ((hup.low (w.heap.size + 1) (by omega)).trans (q0b (HN1.out.2.2.keep0 HB1.out) _)); have e3 := cellsOf E3.out; have n3 := ltOf E3.out; have z3 := q0c E3.out; clear hg' hup
   refine hK.out _ _ (Till.done (m := 9) (by simp) (by rfl)) ?_
   clear hK K hcl hS
   intro hcl hS
   try simp only [Act.put, pA, pB, pC]
   refine ggT 10 hcl hS ?_; clear hcl hS; intro hcl hS
   refine ggC 11 hcl rfl (by kernel_rfl) (fun K hK => ?_)
   go_simp
   refine hK.out _ _ (Till.done (m := 9) (by simp) (by rfl)) ?_
   clear hK K hcl hS
   intro hcl hS
   try simp only [Act.put, pA, pB, pC]
   refine q3h (by kernel_rfl) ?_ _
   have hw2 : wr.heap.size ≤ w2.heap.size := Nat.le_trans HN1.out.2.2.size (Nat.le_trans (by simp) HU.out.size)
   have lw : w.heap.size + 3 ≤ wr.heap.size := HG.out.1
   have r1 := HG2.out.chg ((Chg.refl [w.heap.size + 2] w2).setCell ⟨w.heap.size + 2, 1, none⟩ (.slice pv lv cv) (.inl (by simp))) (by simp)
   have r2 := q0u E4.out ⟨w.heap.size + 2, 1, none⟩ (.slice pv lv cv) (by simp)
   have r3 : (w2.setCell ⟨w.heap.size + 2, 1, none⟩ (.slice pv lv cv)).heap[w.heap.size + 2]? = some (.cells #[.bool x.wiped, (.slice pv lv cv)] 82 (0, 0)) := q0i (cur := #[.bool x.wiped, v]) E3.out rfl
   have r4 := (HU.out.chg ((HC.out.trans0 HN1.out.2.2).alloc (.cells #[.int .i64 y.sM, .slice p2 l2 d2] 76)) (by omega)).setCell ⟨w.heap.size + 2, 1, none⟩ (.slice pv lv cv) (.inr (by simp))
   have HR := hid (And.intro r1 (And.intro r2 (And.intro r3 r4)))
   clear r1 r2 r3 r4
   go_wp2_with fail
   go_roundw
   case rel => exact ⟨k + 1, (.slice pv lv cv), _, rfl, by omega, by go_num, HR.out.1, HR.out.2.1, HR.out.2.2.1, HR.out.2.2.2⟩
   case measure => simp [intOf]; omega
  ·obtain rfl : k = l1 := by omega
   rw [List.take_of_length_le (by have := HL.out; omega)] at hg
   obtain ⟨p1, d1, g1, rfl, hs, hf⟩ := hg.sl
   rw [← HL.out] at hs hb2 HB2 cb2
   have hlb1 := ltOf hb1; have fz := q0c hb1; have cb1 := cellsOf hb1
   have hq := q8q (.bool x.wiped) (.slice p1 k d1) hb1
   have hqc := cellsOf hq
   have cS : Chg [w.heap.size + 1] wr ((wr.setCell ⟨w.heap.size + 1, 0, none⟩ (.bool x.wiped)).setCell ⟨w.heap.size + 1, 1, none⟩ (.slice p1 k d1)) := ((Chg.refl _ wr).setCell _ _ (.inl (by simp))).setCell _ _ (.inl (by simp))
   have hns : ∀ y ∈ g1, y ∉ [w.heap.size + 1] := fun y hy hm => by have := (hf.2 y hy).1; rw [List.mem_singleton] at hm; omega
   have K1 := blkL.sl_chg hs cS hns
   have F1 := (hf.mono (C := w.heap.size) (by omega)).chg cS
   have hch := hc.trans cS (fun y hy => .inr (by rw [List.mem_singleton] at hy; omega))
   have HN := hid (show q2l drvL x w (.returned (.agg #[.bool x.wiped, .slice p1 k d1])) _ from ⟨_, _, rfl, q2i.2 ⟨p1, k, d1, g1, rfl, K1, rfl⟩, F1, hch⟩)
   have HQC := hid hqc
   clear hs hf hb1 hb2 hc hg hq hqc cS hns K1 F1 hch HB1 HB2
   go_wp2_with fail
   have hqc := HQC.out
   refine bodyPost_ret (v := .agg #[.bool x.wiped, .slice p1 k d1]) (by simp [results, Tryz.results155, go_sem, hqc]) rfl HN.out

theorem l5Blank_ty {T : List TRow} {w : World} (h : Well T w) :
  Calls Tryz.prog 253 #[] w fun e w' => ∃ v T', e = .returned (.agg #[.int .i64 0, v]) ∧ SlT T' .bt v ∧ TyStep T w T' w' := by
 have hmb : ∀ w : World, (Instr.makeSlice 62 (.int .i64 4) (.int .i64 4)).run Tryz.prog w = .ok (.slice (some ⟨w.heap.size, 0, none⟩) 4 4) (w.alloc (.cells (zrow (.int .u8 0) 4) 5)) := fun w => q7s 4 (by omega) w
 have hz : (zrow (.int .u8 0) 4).toList = List.replicate 4 (.int .u8 0) := toList_madeCells_one (.int .u8 0) 4
 have hzs : (zrow (.int .u8 0) 4).size = 4 * Kd.bt.n := by rw [← Array.length_toList, hz]; rfl
 have HT := hid ((((TyStep.refl h).ext ((Chg.refl [] w).alloc (.cells #[.int .i64 0, .slice (some ⟨w.heap.size + 1, 0, none⟩) 4 4] 76))).push .bt 4 4 (zrow (.int .u8 0) 4) (Nat.le_refl _) hzs (fun i hi => by
  rw [hz]
  have hi4 : i = 0 ∨ i = 1 ∨ i = 2 ∨ i = 3 := by omega
  rcases hi4 with rfl | rfl | rfl | rfl <;> exact ⟨0, rfl⟩)))
 clear h hz hzs
 go_enter Tryz.func253, Tryz.ntmps253
 go_wp2_with fail
 refine bodyPost_ret (v := .agg #[.int .i64 0, .slice (some ⟨w.heap.size + 1, 0, none⟩) 4 4]) (by simp [results, Tryz.results253, go_sem]) rfl ⟨_, _, rfl, ?_, HT.out⟩
 exact ⟨_, 4, 4, rfl, by decide, Nat.le_refl _, by simp [maxLen], .inr ⟨_, List.mem_cons_self, rfl, 0, by simp [Kd.n], by simp, by simp⟩⟩
theorem q9q (x : Shp) (n : Nat) {T : List TRow} (w : World) (h : Well T w) (hx : x.rows = n) (hn : n ≤ 15) :
  Calls Tryz.prog 208 #[.agg #[.int .i64 x.gS, .int .i64 x.column, .int .i64 x.data, .int .i64 x.sR, .int .i64 x.rows, .int .i64 x.cap, .int .i64 x.bT, .int .i64 x.qU, .int .i64 x.sG]] w fun e w' => ∃ p c, e = .returned (.agg #[.bool false, .slice p n c]) ∧ ∃ T', SlT T' .bk (.slice p n c) ∧ TyStep T w T' w' := by
 obtain ⟨KB, _⟩ := q7c
 have HX := hid hx
 have HN0 := hid (fun r (hr : r ∈ T) => (.inl (h.lt hr) : r.b < w.heap.size ∨ w.heap.size + 3 ≤ r.b))
 have G0 := hid ((TyStep.refl h).ext (show Chg [] w (((w.alloc (.cells #[.int .i64 x.gS, .int .i64 x.column, .int .i64 x.data, .int .i64 x.sR, .int .i64 x.rows, .int .i64 x.cap, .int .i64 x.bT, .int .i64 x.qU, .int .i64 x.sG] 30)).alloc (.cells #[.bool false, .slice none 0 0] 82)).alloc (.cells #[.bool false, .slice none 0 0] 82)) from (((Chg.refl [] w).alloc _).alloc _).alloc _))
 have B0 := hid (show (((w.alloc (.cells #[.int .i64 x.gS, .int .i64 x.column, .int .i64 x.data, .int .i64 x.sR, .int .i64 x.rows, .int .i64 x.cap, .int .i64 x.bT, .int .i64 x.qU, .int .i64 x.sG] 30)).alloc (.cells #[.bool false, .slice none 0 0] 82)).alloc (.cells #[.bool false, .slice none 0 0] 82)).heap[w.heap.size]? = some (.cells #[.int .i64 x.gS, .int .i64 x.column, .int .i64 x.data, .int .i64 x.sR, .int .i64 x.rows, .int .i64 x.cap, .int .i64 x.bT, .int .i64 x.qU, .int .i64 x.sG] 30 (0, 0)) from q0b (q0b (q0j w _) _) _)
 have B1 := hid (show (((w.alloc (.cells #[.int .i64 x.gS, .int .i64 x.column, .int .i64 x.data, .int .i64 x.sR, .int .i64 x.rows, .int .i64 x.cap, .int .i64 x.bT, .int .i64 x.qU, .int .i64 x.sG] 30)).alloc (.cells #[.bool false, .slice none 0 0] 82)).alloc (.cells #[.bool false, .slice none 0 0] 82)).heap[w.heap.size + 1]? = some (.cells #[.bool false, .slice none 0 0] 82 (0, 0)) from q0b (q0e (by simp) _) _)
 have B2 := hid (show (((w.alloc (.cells #[.int .i64 x.gS, .int .i64 x.column, .int .i64 x.data, .int .i64 x.sR, .int .i64 x.rows, .int .i64 x.cap, .int .i64 x.bT, .int .i64 x.qU, .int .i64 x.sG] 30)).alloc (.cells #[.bool false, .slice none 0 0] 82)).alloc (.cells #[.bool false, .slice none 0 0] 82)).heap[w.heap.size + 2]? = some (.cells #[.bool false, .slice none 0 0] 82 (0, 0)) from q0e (by simp) _)
 clear hx h
 go_enter Tryz.func208, Tryz.ntmps208
 go_wp2_with fail
 go_loopw [4] (fun vi wr => ∃ (k : Nat) (pv : Option Addr) (cv : Nat) (T' : List TRow) (Wr : World), Wr = wr ∧ k ≤ n ∧ vi = .int .i64 k ∧ SlT T' .bk (.slice pv k cv) ∧ Hid (∀ r ∈ T', r.b < w.heap.size ∨ w.heap.size + 3 ≤ r.b) ∧ wr.heap[w.heap.size]? = some (.cells #[.int .i64 x.gS, .int .i64 x.column, .int .i64 x.data, .int .i64 x.sR, .int .i64 x.rows, .int .i64 x.cap, .int .i64 x.bT, .int .i64 x.qU, .int .i64 x.sG] 30 (0, 0)) ∧ wr.heap[w.heap.size + 1]? = some (.cells #[.bool false, .slice none 0 0] 82 (0, 0)) ∧ wr.heap[w.heap.size + 2]? = some (.cells #[.bool false, .slice pv k cv] 82 (0, 0)) ∧ TyStep T w T' wr) (fun vi _ => n - (intOf vi).toNat)
 case atStart => exact ⟨0, none, 0, T, _, rfl, by omega, rfl, ⟨none, 0, 0, rfl, Nat.zero_le _, Nat.le_refl _, by simp [maxLen], .inl ⟨rfl, rfl⟩⟩, HN0, B0.out, B1.out, B2.out, G0.out⟩
 case round =>
  clear G0 B0 B1 B2 HN0
  obtain ⟨k, pv, cv, T', wr, rfl, hk, rfl, hv, HNB, hb0, hb1, hb2, hc⟩ := hrel
  have c0 := cellsOf hb0; have n0 := ltOf hb0
  have B0 := hid hb0; have B1 := hid hb1; have B2 := hid hb2
  by_cases hlt : k < n
  ·have hle : ((k : Int) < x.rows) := by have := HX.out; omega
   have HV := hid hv; have HC := hid hc
   have lw : w.heap.size + 2 < wr.heap.size := ltOf hb2
   have HNO := hid (fun (b : Nat) (h1 : w.heap.size ≤ b) (h2 : b < w.heap.size + 3) (hm : b ∈ T'.map (·.b)) => (by
    obtain ⟨q, hq, e⟩ := List.mem_map.1 hm
    have e : q.b = b := e
    have := HNB.out q hq
    omega : False))
   clear hv hc hb0 hb1 hb2
   go_wp2_with fail
   obtain ⟨CC, HCI, HCO⟩ := q0l (fun w' => Know (w.heap.size + 2) #[.bool false, .slice pv k cv] w')
   refine q1m [4] CC (by kernel_rfl) (HCI.out _ (Know.of (q0a B2.out))) (fun hcl hS => ?_)
   refine ggT 0 hcl hS ?_; clear hcl hS; intro hcl hS
   refine ggL 1 hcl hS HCO ?_; clear hcl hS; intro hcl hS
   refine ggC 2 hcl rfl (by kernel_rfl) (fun K hK => ?_)
   go_simp
   go_at_call 253
   refine (l5Blank_ty (HC.out.well.ext (Chg.refl [] wr).drew)).mono ?_; rintro e w3 ⟨v3, T3, rfl, hv3, ht3⟩
   obtain ⟨p3, m3, d3, rfl, -⟩ := id hv3
   have HV3 := hid hv3; have HT3 := hid ht3
   have F2 := hid (ht3.chg.keepb (q0a B2.out) (HNO.out (w.heap.size + 2) (by omega) (by omega))); have F1 := hid (ht3.chg.keepb (q0a B1.out) (HNO.out (w.heap.size + 1) (by omega) (by omega))); have F0 := hid (ht3.chg.keepb (q0a B0.out) (HNO.out w.heap.size (by omega) (by omega)))
   have HN3 := hid (fun (b : Nat) (h1 : w.heap.size ≤ b) (h2 : b < w.heap.size + 3) (hm : b ∈ T3.map (·.b)) => (by obtain ⟨q, hq, e⟩ := List.mem_map.1 hm; have e : q.b = b := e; rcases ht3.new q hq with h4 | h4; exact HNO.out b h1 h2 (e ▸ h4); have h5 : wr.heap.size ≤ q.b := h4; omega : False))
   clear hv3 ht3
   go_wp2_with fail
   refine hK.out _ _ (fun _ => HCI.out _ (Know.of F2.out)) ?_
   clear hK K hcl hS
   intro hcl hS
   try simp only [Act.put, pA, pB, pC]
   refine ggC 3 hcl rfl (by kernel_rfl) (fun K hK => ?_)
   go_simp
   refine hK.out _ _ (fun _ => HCI.out _ (Know.of (q0b F2.out _))) ?_
   clear hK K hcl hS
   intro hcl hS
   try simp only [Act.put, pA, pB, pC]
   refine ggC 4 hcl rfl (by kernel_rfl) (fun K hK => ?_)
   refine q4t rfl _ _ 80 rfl (HT3.out.well.ext ((Chg.refl [] w3).alloc (.cells #[.int .i64 0, .slice p3 m3 d3] 76))) (k := .bk) Tryz.underlying80 KB (by omega) rfl (HV.out.sub HT3.out.sub) (cs := [.int .i64 0, .slice p3 m3 d3]) ⟨0, _, rfl, i64z, HV3.out⟩ (by show k + 1 ≤ 16; omega) ⟨w3.heap.size, 0, none⟩ 1 rfl (q1i w3 #[.int .i64 0, .slice p3 m3 d3] 76) ?_
   intro a' c' w4 T4 h41 h42 h43 h44 h45
   have H4 := hid (show TyStep T3 (w3.alloc (.cells #[.int .i64 0, .slice p3 m3 d3] 76)) T4 w4 from ⟨h41, h42, h44, h45⟩); have HV4 := hid h43
   have F6 := hid (h44.keepb (q0b F2.out (.cells #[.int .i64 0, .slice p3 m3 d3] 76)) (HN3.out (w.heap.size + 2) (by omega) (by omega))); have Q1 := hid (h44.keepb (q0b F1.out (.cells #[.int .i64 0, .slice p3 m3 d3] 76)) (HN3.out (w.heap.size + 1) (by omega) (by omega))); have Q0 := hid (h44.keepb (q0b F0.out (.cells #[.int .i64 0, .slice p3 m3 d3] 76)) (HN3.out w.heap.size (by omega) (by omega))); have k6 := cellsOf F6.out; have n6 := ltOf F6.out; have z6 := q0c F6.out
   clear h41 h42 h43 h44 h45
   refine hK.out _ _ (Till.done (m := 4) (by simp) (by rfl)) ?_
   clear hK K hcl hS
   intro hcl hS
   try simp only [Act.put, pA, pB, pC]
   refine ggT 5 hcl hS ?_; clear hcl hS; intro hcl hS
   refine ggC 6 hcl rfl (by kernel_rfl) (fun K hK => ?_)
   go_simp
   refine hK.out _ _ (Till.done (m := 4) (by simp) (by rfl)) ?_
   clear hK K hcl hS
   intro hcl hS
   try simp only [Act.put, pA, pB, pC]
   refine q3h (by kernel_rfl) ?_ _
   have hsz3 : wr.heap.size ≤ w3.heap.size := HT3.out.chg.size
   have HN4 := hid (show ∀ r ∈ T4, r.b < w.heap.size ∨ w.heap.size + 3 ≤ r.b from fun r hr => by
    rcases H4.out.new r hr with h1 | h1
    ·refine Classical.byContradiction fun hn => HN3.out r.b (by omega) (by omega) h1
    ·simp at h1; omega)
   have HR := hid (((((HC.out.ext (Chg.refl [] wr).drew).trans HT3.out).ext ((Chg.refl [] w3).alloc (.cells #[.int .i64 0, .slice p3 m3 d3] 76))).trans H4.out).chg0 ((Chg.refl [w.heap.size + 2] w4).setCell ⟨w.heap.size + 2, 1, none⟩ (.slice a' (k + 1) c') (.inl (by simp))) (by simp) (fun r hr hm => by rw [List.mem_singleton] at hm; have := HN4.out r hr; omega))
   have r2 := hid (q0u Q0.out ⟨w.heap.size + 2, 1, none⟩ (.slice a' (k + 1) c') (by simp))
   have r3 := hid (q0u Q1.out ⟨w.heap.size + 2, 1, none⟩ (.slice a' (k + 1) c') (by simp))
   have r4 := hid (show (w4.setCell ⟨w.heap.size + 2, 1, none⟩ (.slice a' (k + 1) c')).heap[w.heap.size + 2]? = some (.cells #[.bool false, .slice a' (k + 1) c'] 82 (0, 0)) from q0i (cur := #[.bool false, .slice pv k cv]) F6.out rfl)
   go_wp2_with fail
   go_roundw
   case rel => exact ⟨k + 1, a', c', T4, _, rfl, by omega, by go_num, HV4.out, HN4, r2.out, r3.out, r4.out, HR.out⟩
   case measure => simp [intOf]; omega
  ·obtain rfl : k = n := by omega
   have hle : ¬ ((k : Int) < x.rows) := by have := HX.out; omega
   have cb2 := cellsOf hb2; have lb2 := ltOf hb2
   have hlb1 := ltOf hb1; have fz := q0c hb1; have cb1 := cellsOf hb1
   have hq := q8q (.bool false) (.slice pv k cv) hb1
   have hqc := cellsOf hq
   have cS : Chg [w.heap.size + 1] wr ((wr.setCell ⟨w.heap.size + 1, 0, none⟩ (.bool false)).setCell ⟨w.heap.size + 1, 1, none⟩ (.slice pv k cv)) := ((Chg.refl _ wr).setCell _ _ (.inl (by simp))).setCell _ _ (.inl (by simp))
   have HN := hid (And.intro hv (hc.chg0 cS (by simp) (fun r hr hm => by rw [List.mem_singleton] at hm; have := HNB.out r hr; omega)))
   have HQC := hid hqc
   clear hv hc hb1 hb2 hq hqc cS
   go_wp2_with fail
   have hqc := HQC.out
   refine bodyPost_ret (v := .agg #[.bool false, .slice pv k cv]) (by simp [results, Tryz.results208, go_sem, hqc]) rfl ⟨_, _, rfl, T', HN.out.1, HN.out.2⟩
end Go.Proofs.YtphmpimgbmedbaaGreat
namespace Go.Proofs.YtphmpimgbmedbaaGreat
open Go.RowKit
open Go.Lib (hid)
structure TyN (n : Nat) (T : List TRow) (w : World) : Prop where
 well : Well T w
 new : ∀ q ∈ T, n ≤ q.b
theorem TyN.nil (n : Nat) (w : World) : TyN n [] w := ⟨⟨by simp, by simp⟩, by simp⟩
section
variable {n : Nat} {T T2 : List TRow} {w w' : World}
theorem TyN.chg {S : List Nat} (h : TyN n T w) (hc : Chg S w w') (hS : ∀ x ∈ S, x < n) : TyN n T w' :=
 ⟨h.well.chg hc (fun r hr hm => by have h1 := h.new r hr; have h2 := hS _ hm; omega), h.new⟩
theorem TyN.ext (h : TyN n T w) (hc : Chg [] w w') : TyN n T w' := h.chg hc (by simp)
theorem TyN.mono {m : Nat} (h : TyN n T w) (hm : m ≤ n) : TyN m T w := ⟨h.well, fun q hq => Nat.le_trans hm (h.new q hq)⟩
theorem SubT.right (T T2 : List TRow) : SubT T (T2 ++ T) := fun r hr => ⟨r, List.mem_append_right _ hr, rfl, rfl, Nat.le_refl _, rfl⟩
theorem SubT.left (T T2 : List TRow) : SubT T2 (T2 ++ T) := fun r hr => ⟨r, List.mem_append_left _ hr, rfl, rfl, Nat.le_refl _, rfl⟩
theorem SubT.none (T : List TRow) : SubT [] T := fun r hr => by cases hr
theorem TyN.app {S : List Nat} (h : TyN n T w) (hc : Chg S w w') (hS : ∀ x ∈ S, x < n) (h2 : TyN w.heap.size T2 w') (hn : n ≤ w.heap.size) : TyN n (T2 ++ T) w' := by
 have h1 := h.chg hc hS
 refine ⟨⟨?_, fun r hr => ?_⟩, fun q hq => ?_⟩
 ·rw [List.map_append, List.nodup_append]
  refine ⟨h2.well.nd, h.well.nd, fun a ha b hb e => ?_⟩
  obtain ⟨p, hp, rfl⟩ := List.mem_map.1 ha
  obtain ⟨q, hq, rfl⟩ := List.mem_map.1 hb
  have k1 := h2.new p hp
  have k2 := h.well.lt hq
  omega
 ·rcases List.mem_append.1 hr with hr | hr
  ·obtain ⟨cur, e1, e2, e3, e4⟩ := h2.well.row r hr
   exact ⟨cur, e1, e2, e3, fun i hi => (e4 i hi).sub (SubT.left T T2)⟩
  ·obtain ⟨cur, e1, e2, e3, e4⟩ := h1.well.row r hr
   exact ⟨cur, e1, e2, e3, fun i hi => (e4 i hi).sub (SubT.right T T2)⟩
 ·rcases List.mem_append.1 hq with hq | hq
  ·exact Nat.le_trans hn (h2.new q hq)
  ·exact h.new q hq
theorem TyN.step (h : TyN n T w) (k : TyStep T w T2 w') (hn : n ≤ w.heap.size) : TyN n T2 w' :=
 ⟨k.well, fun q hq => by
  rcases k.new q hq with h1 | h1
  ·obtain ⟨p, hp, e⟩ := List.mem_map.1 h1
   have e : p.b = q.b := e
   rw [← e]; exact h.new p hp
  ·exact Nat.le_trans hn h1⟩
theorem TyN.notIn (h : TyN n T w) {b : Nat} (hb : b < n) : b ∉ T.map (·.b) := fun hm => by
 obtain ⟨p, hp, e⟩ := List.mem_map.1 hm
 have e : p.b = b := e
 have := h.new p hp
 omega
theorem TyStep.tyN (h : TyStep [] w T w') : TyN w.heap.size T w' := ⟨h.well, fun q hq => by
 rcases h.new q hq with h1 | h1
 ·cases h1
 ·exact h1⟩
end
theorem ty_os {α : Type} (L : Lay α) (k : Kd) (hn : L.n = k.n) {n : Nat} {w : World} {v : Value} {xs : List α} (hel : ∀ cs x fp, L.rep w cs x fp → ElT [] k cs) (h : q1v L k.E n w v xs) (hl : xs.length ≤ k.max) :
  ∃ A C, v = .slice A xs.length C ∧ ∃ T, SlT T k (.slice A xs.length C) ∧ TyN n T w := by
 obtain ⟨hs, hd, fps, hos, hf⟩ := h
 rcases hos with ⟨rfl, rfl, rfl, rfl⟩ | ⟨g, cap, cur, rfl, rfl, hb, h1, h2, h3, h4, h5⟩
 ·exact ⟨none, 0, rfl, [], ⟨none, 0, 0, rfl, Nat.zero_le _, Nat.le_refl _, Nat.zero_le _, .inl ⟨rfl, rfl⟩⟩, TyN.nil n w⟩
 ·refine ⟨_, _, rfl, [⟨g, k, xs.length, cap⟩], ⟨_, _, _, rfl, hl, h1, h2, .inr ⟨_, List.mem_singleton.2 rfl, rfl, 0, by rw [Nat.zero_mul], by simp, by simp⟩⟩, ⟨by simp, fun r hr => ?_⟩, fun q hq => ?_⟩
  ·rw [List.mem_singleton] at hr; subst hr
   refine ⟨cur, hb, by rw [h3, hn], h1, fun i hi => ?_⟩
   show ElT _ k _
   have hi : i < xs.length := hi
   obtain ⟨c, f, e1, e2, -⟩ := L.all_at h4 (List.getElem?_eq_getElem hi)
   have he := (hel _ _ _ e2)
   have hcl := he.len
   have : (cur.toList.drop (i * k.n)).take k.n = c := by
    apply List.ext_getElem?
    intro j
    by_cases hj : j < k.n
    ·rw [List.getElem?_take_of_lt hj, List.getElem?_drop]
     have := e1 j (by omega)
     rw [← this, hn, List.getElem?_take_of_lt]
     have := Nat.mul_le_mul_right k.n (show i + 1 ≤ xs.length by omega)
     rw [Nat.add_mul, Nat.one_mul] at this
     omega
    ·rw [List.getElem?_eq_none (by rw [List.length_take]; omega), List.getElem?_eq_none (by omega)]
   rw [this]
   exact he.sub (SubT.none _)
  ·rw [List.mem_singleton] at hq; subst hq
   exact (hf.2 g (by simp)).1
theorem ty_bytes {n : Nat} {w : World} {v : Value} {xs : List UInt8} (h : q1v q0t 5 n w v xs) (hl : xs.length ≤ 64) : ∃ A C, v = .slice A xs.length C ∧ ∃ T, SlT T .bt (.slice A xs.length C) ∧ TyN n T w :=
 ty_os q0t .bt rfl (fun _ x _ hr => ⟨x, hr.1⟩) h hl
theorem some_ty (b : Nat) (a : Option Addr) (la ca : Nat) (xs : List UInt8) (f : List Nat) (t n : Int) (w : World) (h : SrcB b a la ca xs f t w) (hn : -1000000 ≤ n) (hn2 : n ≤ 64) (ht : t ≤ 1073740000) :
  Calls Tryz.prog 132 #[.pointer (some ⟨b, 0, none⟩), .int .i64 n] w fun e w' => ∃ (A : Option Addr) (C : Nat), e = .returned (.slice A n.toNat C) ∧ (∃ T, SlT T .bt (.slice A n.toNat C) ∧ TyN w.heap.size T w') ∧ SrcB b a la ca xs f (t + 200) w' ∧ Chg [b] w w' := by
 obtain ⟨K, _⟩ := kindB
 have HH := hid h
 have hlb := h.lt
 have HFB := hid (fun x hx => q0t.sl_lt h.2.1 x hx : ∀ x ∈ f, x < w.heap.size)
 clear h
 obtain ⟨m, hm⟩ : ∃ m, m = n.toNat := ⟨_, rfl⟩
 rw [← hm]
 have HM := hid hm
 have hnm : n ≤ (m : Int) := by omega
 have hm64 : m ≤ 64 := by omega
 clear hm
 go_enter Tryz.func132, Tryz.ntmps132
 go_wp2_with fail
 go_loopw [1, 5] (fun vn vo wr => ∃ (k : Nat) (ys : List UInt8) (Wr : World), Wr = wr ∧ k ≤ m ∧ vn = .int .i64 (n - k) ∧ ys.length = k ∧ q1v q0t 5 w.heap.size wr vo ys ∧ SrcB b a la ca xs f (t + 3 * k) wr ∧ Chg [b] w wr) (fun vn _ _ => (intOf vn).toNat)
 case atStart => exact ⟨0, [], _, rfl, by omega, by simp, rfl, q1v.made (Nat.le_refl _), by simpa using HH.out.ext ((Chg.refl [] w).alloc _), (Chg.refl [b] w).alloc _⟩
 case round =>
  obtain ⟨k, ys, wr, rfl, hk, rfl, hl, hg, hs, hc⟩ := hrel
  by_cases hlt : 0 < n - (k : Int)
  ·have HL := hid hl
   have HG := hid hg; have HS := hid hs; have HC := hid hc
   clear hl hg hs hc
   go_wp2_with fail
   refine (byte_any b a la ca xs f (t + 3 * k) _ HS.out (by omega)).mono ?_
   rintro e w1 ⟨y, rfl, hs1, hc1⟩
   have hg1 := HG.out.chg hc1 (fun x hx => by rw [List.mem_singleton] at hx; rw [hx]; exact hlb)
   have HG1 := hid hg1
   have HS1 := hid hs1
   have HC1 := hid (HC.out.trans hc1 (fun x hx => .inl hx))
   have HSZ := hid hg1.1
   have HLL : Hid (ys.length + [y].length ≤ maxLen ∧ (ys.length + [y].length) * 1 ≤ 140737488355328) := by
    have := HL.out
    refine ⟨?_, ?_⟩ <;> simp only [List.length_cons, List.length_nil, maxLen] <;> omega
   clear hs1 hc1 hg1
   go_wp2_with (refine q0t.wpList_grow rfl _ _ 62 rfl Tryz.underlying62 K rfl HG1.out.to ((Chg.refl [] w1).alloc _) ⟨w1.heap.size, 0, none⟩ 1 1 [.int .u8 ((y.toNat : Nat) : Int)] (ys := [y]) (f := []) rfl rfl (z0c _ _ _) (byte_all1 rfl) (q1c.nil _ _) HLL.out.1 HLL.out.2 ?_; intro v' w' hg'; have HN := hid (q1v.next HSZ.out hg' HC1.out (Nat.le_refl _)); have HQ := hid (HS1.out.keep (q1v.low HSZ.out hg') hlb HFB.out); clear hg')
   go_roundw
   case rel => exact ⟨k + 1, ys ++ [y], _, rfl, by have := HM.out; omega, by go_num, by simp [HL.out], HN.out.1, HQ.out.mono (by omega), HN.out.2⟩
   case measure => simp [intOf]; omega
  ·obtain rfl : k = m := by have := HM.out; omega
   subst hl
   obtain ⟨A, C, rfl, T, h1, h2⟩ := ty_bytes hg hm64
   have HN := hid (And.intro (show ∃ T, SlT T .bt (.slice A ys.length C) ∧ TyN w.heap.size T wr from ⟨T, h1, h2⟩) (And.intro (hs.mono (t2 := t + 200) (by omega)) hc))
   clear hg hs hc h1 h2
   generalize hyl : ys.length = yl at HN hlt ⊢
   have HYL := hid hyl
   clear hyl
   go_wp2_with fail
   go_ret
   rw [HYL.out]
   exact ⟨A, C, rfl, HN.out.1, HN.out.2.1, HN.out.2.2⟩
end Go.Proofs.YtphmpimgbmedbaaGreat
namespace Go.Proofs.YtphmpimgbmedbaaGreat
open Go.RowKit
open Go.Lib (hid)
theorem Chg.setRowAt {S : List Nat} {a w : World} {b : Nat} (cs : Array Value) (h : Chg S a w) (hb : b ∈ S ∨ a.heap.size ≤ b) : Chg S a (w.setRow b cs) :=
 ⟨h.os, h.tape, h.output, by simp only [World.setRow, Array.size_modify]; exact h.size, fun k hk hS => by rw [setRow_other _ _ _ _ (hb.elim (fun hb e => hS (by rw [e]; exact hb)) (fun hb => by omega))]; exact h.block k hk hS, fun k hk => by
  obtain ⟨c, E, h1⟩ := h.loose k hk
  by_cases e : k = b
  ·subst e; exact ⟨_, E, setRow_heap w k c _ E _ h1⟩
  ·exact ⟨c, E, by rw [setRow_other _ _ _ _ e]; exact h1⟩⟩
theorem store_wp' {P : Program} {o : Oper} {a : Act} {Kc : Act → World → Prop} {Q : Exit → Act → World → Prop} {w : World} {b : Nat} {cs vs : Array Value} {E : TypeId} {n : Nat} (p v : Operand) (t : TypeId)
  (hop : o.op = .store t p v) (hp : a.eval p = .pointer (some ⟨b, 0, none⟩)) (hv : a.eval v = .agg vs) (hi : (P.info? t).map (fun i => i.size) = some n) (h : w.heap[b]? = some (.cells cs E (0, 0)))
  (hn : vs.size = n) (hs : cs.size = n) (hone : vs.toList.all Value.oneCell' = true)
  (hk : Kc (a.put o.dst undef) (w.setRow b vs)) : o.wp P a w Kc Q := by
 obtain ⟨i, hi1, hi2⟩ := Option.map_eq_some_iff.1 hi
 have hst := run_storeCells_at (P := P) b 0 E vs.toList 0 cs w h (by simp; omega) (fun v hv => List.all_eq_true.1 hone v hv)
 have e : (cs.toList.take (0 + 0) ++ vs.toList ++ cs.toList.drop (0 + 0 + vs.toList.length)).toArray = vs := by
  have : cs.toList.drop (0 + 0 + vs.toList.length) = [] := List.drop_eq_nil_of_le (by simp; omega)
  rw [this]; simp
 rw [e] at hst
 have hsz : vs.size = i.size := by omega
 unfold Oper.wp execOp
 simp only [hop, hp, hv, Instr.storeAt, Instr.sureAddr, storeVar, Value.cells, sizeOf, typeInfo, Sem.run_bind, Sem.run_pure, Result.andThen_ok]
 have hp0 : (program : Sem Program).run P w = .ok P w := rfl
 simp only [hp0, Result.andThen_ok, hi1, Sem.run_pure, ← hsz, ne_eq, not_true, if_false, hst]
 exact hk
theorem store_wp {P : Program} {o : Oper} {a : Act} {Kc : Act → World → Prop} {Q : Exit → Act → World → Prop} {w : World} {b : Nat} {cs vs : Array Value} {E : TypeId} {n : Nat} (p v : Operand) (t : TypeId)
  (hop : o.op = .store t p v) (hp : a.eval p = .pointer (some ⟨b, 0, none⟩)) (hv : a.eval v = .agg vs) (hi : (P.info? t).map (fun i => i.size) = some n) (h : w.heap[b]? = some (.cells cs E (0, 0)))
  (hn : vs.size = n) (hs : cs.size = n) (hone : vs.toList.all Value.oneCell' = true)
  (hk : ∀ w', w'.heap[b]? = some (.cells vs E (0, 0)) → Chg [b] w w' → Kc (a.put o.dst undef) w') : o.wp P a w Kc Q :=
 store_wp' p v t hop hp hv hi h hn hs hone (hk _ (setRow_heap w b cs vs E (0, 0) h) ((Chg.refl _ w).setRowAt vs (.inl (by simp))))
theorem q0p {P : Program} {ops : Array Oper} {rest : List Oper} {o : Oper} {a : Act} {Q : Exit → Act → World → Prop} {w : World} {b : Nat} {cs vs : Array Value} {E : TypeId} {n : Nat} (hgd : o.guard = none) (p v : Operand) (t : TypeId)
  (hop : o.op = .store t p v) (hp : a.eval p = .pointer (some ⟨b, 0, none⟩)) (hv : a.eval v = .agg vs) (hi : (P.info? t).map (fun i => i.size) = some n) (h : w.heap[b]? = some (.cells cs E (0, 0)))
  (hn : vs.size = n) (hs : cs.size = n) (hone : vs.toList.all Value.oneCell' = true)
  (hk : ∀ w', w'.heap[b]? = some (.cells vs E (0, 0)) → Chg [b] w w' → wpList P ops Q rest (a.put o.dst undef) w') : wpList P ops Q (o :: rest) a w :=
 wpList_plain hgd fun _ hK => store_wp p v t hop hp hv hi h hn hs hone fun w' h1 h2 => hK _ _ (hk w' h1 h2)
theorem alloc_setRow (w : World) (cs vs : Array Value) (E : TypeId) : (w.alloc (.cells cs E)).setRow w.heap.size vs = w.alloc (.cells vs E) := by
 unfold World.setRow World.alloc
 congr 1
 apply Array.ext_getElem?
 intro k
 rw [Array.getElem?_modify]
 by_cases h : w.heap.size = k
 ·subst h; simp
 ·rw [if_neg h, Array.getElem?_push, Array.getElem?_push, if_neg (fun e => h e.symm), if_neg (fun e => h e.symm)]
theorem q3a {P : Program} {ops : Array Oper} {rest : List Oper} {o : Oper} {a : Act} {Q : Exit → Act → World → Prop} {w : World} {b : Nat} {cs vs : Array Value} {E : TypeId} {n : Nat} (hgd : o.guard = none) (p v : Operand) (t : TypeId)
  (hop : o.op = .store t p v) (hp : a.eval p = .pointer (some ⟨b, 0, none⟩)) (hv : a.eval v = .agg vs) (hb : b = w.heap.size) (hi : (P.info? t).map (fun i => i.size) = some n)
  (hn : vs.size = n) (hs : cs.size = n) (hone : vs.toList.all Value.oneCell' = true)
  (hk : wpList P ops Q rest (a.put o.dst undef) (w.alloc (.cells vs E))) : wpList P ops Q (o :: rest) a (w.alloc (.cells cs E)) := by
 subst hb
 exact wpList_plain hgd fun _ hK => store_wp' p v t hop hp hv hi (q0j w _) hn hs hone (by rw [alloc_setRow]; exact hK _ _ hk)
theorem load_wp {P : Program} {o : Oper} {a : Act} {Kc : Act → World → Prop} {Q : Exit → Act → World → Prop} {w : World} {b : Nat} {cs : Array Value} {E : TypeId} {fr : Nat × Nat} {n : Nat} {fs : Array Field} (p : Operand) (t : TypeId)
  (hop : o.op = .load t p) (hp : a.eval p = .pointer (some ⟨b, 0, none⟩)) (hi : (P.info? t).map (fun i => i.size) = some n) (hu : P.underlying t = some (.struct fs)) (h : w.heap[b]? = some (.cells cs E fr))
  (hs : cs.size = n) (hk : Kc (a.put o.dst (.agg cs)) w) : o.wp P a w Kc Q := by
 obtain ⟨i, hi1, hi2⟩ := Option.map_eq_some_iff.1 hi
 have hld := run_loadCells_list (P := P) (w := w) ⟨b, 0, none⟩ cs.toList (fun j v hv => by
  have := cell_of_row w b j cs E fr h
  rw [Addr.add_lit, Nat.zero_add, this]; simpa using hv)
 have hsz : cs.toList.length = i.size := by simp; omega
 rw [hsz] at hld
 unfold Oper.wp execOp
 have hp0 : (program : Sem Program).run P w = .ok P w := rfl
 simp only [hop, hp, Instr.loadAt, Instr.sureAddr, loadVar, isAgg, run_underlying hu, sizeOf, typeInfo, Sem.run_bind, Sem.run_pure, Result.andThen_ok, hp0, hi1, if_true, hld]
 rw [Array.toArray_toList]
 exact hk
theorem q0k {P : Program} {ops : Array Oper} {rest : List Oper} {o : Oper} {a : Act} {Q : Exit → Act → World → Prop} {w : World} {b : Nat} {cs : Array Value} {E : TypeId} {fr : Nat × Nat} {n : Nat} {fs : Array Field} (hgd : o.guard = none) (p : Operand) (t : TypeId)
  (hop : o.op = .load t p) (hp : a.eval p = .pointer (some ⟨b, 0, none⟩)) (hi : (P.info? t).map (fun i => i.size) = some n) (hu : P.underlying t = some (.struct fs)) (h : w.heap[b]? = some (.cells cs E fr))
  (hs : cs.size = n) (hk : wpList P ops Q rest (a.put o.dst (.agg cs)) w) : wpList P ops Q (o :: rest) a w :=
 wpList_plain hgd fun _ hK => load_wp p t hop hp hi hu h hs (hK _ _ hk)
theorem q0m {P : Program} {fn : Func} {tmps : Array Value} {w : World} {b : Nat} {cs : Array Value} {E : TypeId} {fr : Nat × Nat} {n : Nat} {fs : Array Field} (s : Tmp) (t : TypeId) (hr : fn.results = #[.cell s t])
  (hp : tmps.getD s undef = .pointer (some ⟨b, 0, none⟩)) (hi : (P.info? t).map (fun i => i.size) = some n) (hu : P.underlying t = some (.struct fs)) (h : w.heap[b]? = some (.cells cs E fr)) (hs : cs.size = n) :
  (results fn tmps).run P w = .ok (.agg cs) w := by
 obtain ⟨i, hi1, hi2⟩ := Option.map_eq_some_iff.1 hi
 have hld := run_loadCells_list (P := P) (w := w) ⟨b, 0, none⟩ cs.toList (fun j v hv => by
  have := cell_of_row w b j cs E fr h
  rw [Addr.add_lit, Nat.zero_add, this]; simpa using hv)
 have hsz : cs.toList.length = i.size := by simp; omega
 rw [hsz, Array.toArray_toList] at hld
 have hp0 : (program : Sem Program).run P w = .ok P w := rfl
 have hl : (loadVar t ⟨b, 0, none⟩).run P w = .ok (.agg cs) w := by
  simp only [loadVar, isAgg, run_underlying hu, sizeOf, typeInfo, Sem.run_bind, Sem.run_pure, Result.andThen_ok, hp0, hi1, if_true, hld]
 have hp2 : tmps[s]?.getD undef = .pointer (some ⟨b, 0, none⟩) := by simpa using hp
 simp [results, hr, hp2, asAddr, hl]
theorem q0v : (Tryz.prog.info? 34).map (fun i => i.size) = some 15 := by kernel_rfl
theorem infoSh : (Tryz.prog.info? 30).map (fun i => i.size) = some 9 := by kernel_rfl
theorem wrs_z (w : World) (q : Int) (h : q0q q) : wrsL.rep w (#[.int .i64 q, .int .i64 0, .int .i64 0, .int .i64 0, .int .i64 0, .int .i64 0, .int .i64 0, .int .i64 0, .int .i64 0, .int .i64 0, .slice none 0 0, .slice none 0 0, .slice none 0 0, .int .i64 0, .int .i64 0, .bool false] : Array Value).toList ⟨q, zWld⟩ [] :=
 q9w.2 ⟨_, rfl, h, q0x.2 ⟨none, 0, 0, [], none, 0, 0, [], none, 0, 0, [], rfl, i64z, i64z, i64z, i64z, i64z, i64z, i64z, i64z, i64z, q5d _ _, q5d _ _, q5d _ _, i64z, i64z, rfl⟩⟩
theorem bad9 {w w1 w9 : World} {b : Nat} (q : Int) (hq : q0q q) (r : WRes) (hr : r = ⟨q, zWld⟩) (hc : Chg [] w w1) (hc9 : Chg [b] w1 w9) (hb : w.heap.size ≤ b) :
  q2l wrsL r w (.returned (.agg #[.int .i64 q, .int .i64 0, .int .i64 0, .int .i64 0, .int .i64 0, .int .i64 0, .int .i64 0, .int .i64 0, .int .i64 0, .int .i64 0, .slice none 0 0, .slice none 0 0, .slice none 0 0, .int .i64 0, .int .i64 0, .bool false])) w9 :=
 ⟨_, [], rfl, by rw [hr]; exact wrs_z _ q hq, q1c.nil _ _, hc.trans hc9 (fun y hy => .inr (by rw [List.mem_singleton] at hy; omega))⟩
theorem fin9 {w w1 w9 : World} {b : Nat} {y : Wld} {f : List Nat} {cs : Array Value} {c : List Value} (q : Int) (hq : q0q q) (r : WRes) (hrr : r = ⟨q, y⟩) (hr : wldL.rep w1 c y f) (hcs : cs.toList = .int .i64 q :: c) (hf : q1c w.heap.size w1 f) (hc : Chg [] w w1) (hc9 : Chg [b] w1 w9) (hn : b ∉ f) (hb : w.heap.size ≤ b) :
  q2l wrsL r w (.returned (.agg cs)) w9 :=
 ⟨_, f, rfl, by rw [hrr, hcs]; exact q9w.2 ⟨_, rfl, hq, wldL.chg hr hc9 (fun y hy hm => hn (by rw [List.mem_singleton] at hm; exact hm ▸ hy))⟩, hf.chg hc9, hc.trans hc9 (fun y hy => .inr (by rw [List.mem_singleton] at hy; omega))⟩
theorem q1f : (Tryz.prog.info? 36).map (fun i => i.size) = some 16 := by kernel_rfl
end Go.Proofs.YtphmpimgbmedbaaGreat
namespace Go.Proofs.YtphmpimgbmedbaaGreat
open Go.RowKit
open Go.Lib (hid)
section
variable {α : Type} {L : Lay α} {w w' : World} {b off : Nat} {ps : List (α × List Nat)}
def q9d (w : World) (b k n : Nat) (cs : List Value) : Prop := cs.length = n ∧ (∀ j v, cs[j]? = some v → w.cell? ⟨b, k + j, none⟩ = some v) ∧ ∀ u ∈ cs, u.oneCell' = true
theorem q2q.look (h : q2q L w b off ps) {i : Nat} {p : α × List Nat} (hp : ps[i]? = some p) : ∃ c, L.rep w c p.1 p.2 ∧ b ∉ p.2 ∧ q9d w b (off + i * L.n) L.n c := by
 have hi := (List.getElem?_eq_some_iff.1 hp).1
 obtain ⟨q, c, hq, hr, hb, hc⟩ := h.at hi
 rw [hp] at hq
 obtain rfl := Option.some.inj hq
 refine ⟨c, hr, hb, L.len hr, fun j v hv => ?_, ?_⟩
 ·rw [hc j (by have := (List.getElem?_eq_some_iff.1 hv).1; have := L.len hr; omega)]; exact hv
 ·intro u hu
  exact Lay.all_one (L := L) (L.all_single hr) u hu
theorem q2q.isSome (h : q2q L w b off ps) {i : Nat} (hi : i < ps.length) : ∀ j, j < L.n → (w.cell? ⟨b, off + i * L.n + j, none⟩).isSome = true := fun j hj => by
 obtain ⟨c, hr, -, h1, h2, -⟩ := h.look (List.getElem?_eq_getElem hi)
 rw [h2 j c[j] (List.getElem?_eq_getElem (by omega))]; rfl
theorem q9d.far {k n : Nat} {cs vs : List Value} (h : q9d w b k n cs) (b2 k2 : Nat) (hd : b ≠ b2) : q9d (w.setCells b2 k2 vs) b k n cs :=
 ⟨h.1, fun j v hv => by rw [World.cell?_of_block (q3u hd vs k2 w)]; exact h.2.1 j v hv, h.2.2⟩
theorem q2q.swap (h : q2q L w b off ps) {i j : Nat} {p q : α × List Nat} (hi : ps[i]? = some p) (hj : ps[j]? = some q) {cp cq : List Value} (rp : L.rep w cp p.1 p.2) (rq : L.rep w cq q.1 q.2) (bp : b ∉ p.2) (bq : b ∉ q.2) :
  q2q L (w.setCells b (off + i * L.n) cq) b off (ps.set i q) ∧ q2q L ((w.setCells b (off + i * L.n) cq).setCells b (off + j * L.n) cp) b off ((ps.set i q).set j p) := by
 have h1 := h.put (i := i) (List.getElem?_eq_some_iff.1 hi).1 rq bq
 refine ⟨h1, h1.put (i := j) (by rw [List.length_set]; exact (List.getElem?_eq_some_iff.1 hj).1) (L.keep rp (fun y hy => q3u (fun (e : y = b) => bp (e ▸ hy)) _ _ _)) bp⟩
end
end Go.Proofs.YtphmpimgbmedbaaGreat
namespace Go.Proofs.YtphmpimgbmedbaaGreat
open Go.RowKit
open Go.Lib (hid)
theorem infoRc : (Tryz.prog.info? 67).map (fun i => i.size) = some 9 := by kernel_rfl
abbrev RP := Rec × List Nat
section
variable {w w' : World} {b off : Nat} {ps : List RP}
end
theorem q9d.ext {w w' : World} {b k n : Nat} {cs : List Value} (h : q9d w b k n cs) (hc : Chg [] w w') (hb : b < w.heap.size) : q9d w' b k n cs := ⟨h.1, fun j v hv => (hc.facts.1 b _ hb).trans (h.2.1 j v hv), h.2.2⟩
end Go.Proofs.YtphmpimgbmedbaaGreat
namespace Go.Proofs.YtphmpimgbmedbaaGreat
open Go.RowKit
open Go.Lib (hid)
structure RecW (b : Nat) (a : Option Addr) (la ca : Nat) (xs : List UInt8) (f : List Nat) (x : Shp) (w0 : World) (m : Nat) (T : List TRow) (t : Int) (cs : Array Value) (w : World) : Prop where
 h3 : w.heap[w0.heap.size]? = some (.cells #[.int .i64 x.gS, .int .i64 x.column, .int .i64 x.data, .int .i64 x.sR, .int .i64 x.rows, .int .i64 x.cap, .int .i64 x.bT, .int .i64 x.qU, .int .i64 x.sG] 30 (0, 0))
 h4 : w.heap[w0.heap.size + 1]? = some (.cells #[.int .i64 0, .int .i64 0, .string ⟨#[]⟩, .int .i64 0, .int .i64 0, .int .i64 0, .slice none 0 0, .slice none 0 0, .slice none 0 0] 67 (0, 0))
 hm : w.heap[m]? = some (.cells cs 67 (0, 0))
 ty : TyN (m + 1) T w
 src : SrcB b a la ca xs f t w
 chg : Chg [b] w0 w
 lm : w0.heap.size + 1 < m
 lb : b < w0.heap.size
 lf : ∀ y ∈ f, y < w0.heap.size
section
variable {b : Nat} {a : Option Addr} {la ca : Nat} {xs : List UInt8} {f : List Nat} {x : Shp} {w0 : World} {m : Nat} {T T' : List TRow} {t t' : Int} {cs cs' : Array Value} {w w' : World}
theorem RecW.call (h : RecW b a la ca xs f x w0 m T t cs w) (hs : SrcB b a la ca xs f t' w') (hc : Chg [b] w w') : RecW b a la ca xs f x w0 m T t' cs w' := by
 have h1 := h.lb; have h2 := h.lm
 exact ⟨hc.keepb h.h3 (by simp; omega), hc.keepb h.h4 (by simp; omega), hc.keepb h.hm (by simp; omega), h.ty.chg hc (fun y hy => by rw [List.mem_singleton] at hy; omega), hs, h.chg.trans hc (fun y hy => .inl hy), h.lm, h.lb, h.lf⟩
theorem RecW.ext (h : RecW b a la ca xs f x w0 m T t cs w) (hc : Chg [] w w') : RecW b a la ca xs f x w0 m T t cs w' :=
 ⟨hc.keep0 h.h3, hc.keep0 h.h4, hc.keep0 h.hm, h.ty.ext hc, h.src.ext hc, h.chg.trans0 hc, h.lm, h.lb, h.lf⟩
theorem RecW.rows (h : RecW b a la ca xs f x w0 m T t cs w) (h1 : TyN w.heap.size T' w') (hs : SrcB b a la ca xs f t' w') (hc : Chg [b] w w') : RecW b a la ca xs f x w0 m (T' ++ T) t' cs w' := by
 have k := h.call hs hc
 have h2 := h.lb; have h3 := h.lm
 exact ⟨k.h3, k.h4, k.hm, h.ty.app hc (fun y hy => by rw [List.mem_singleton] at hy; omega) h1 (ltOf h.hm), k.src, k.chg, k.lm, k.lb, k.lf⟩
theorem RecW.step (h : RecW b a la ca xs f x w0 m T t cs w) (k : TyStep T w T' w') : RecW b a la ca xs f x w0 m T' t cs w' := by
 have h2 := h.lb; have h3 := h.lm
 have hn : ∀ y, y < m + 1 → y ∉ T.map (·.b) := fun y hy => h.ty.notIn hy
 exact ⟨k.chg.keepb h.h3 (hn _ (by omega)), k.chg.keepb h.h4 (hn _ (by omega)), k.chg.keepb h.hm (hn _ (by omega)), h.ty.step k (ltOf h.hm), h.src.chg k.chg (hn _ (by omega)) (fun y hy => hn _ (by have := h.lf y hy; omega)),
  h.chg.trans k.chg (fun y hy => .inr (by
   obtain ⟨q, hq, e⟩ := List.mem_map.1 hy
   have e : q.b = y := e
   have := h.ty.new q hq
   omega)), h.lm, h.lb, h.lf⟩
theorem RecW.put (h : RecW b a la ca xs f x w0 m T t cs w) (i : Nat) (v : Value) (e : cs.setIfInBounds i v = cs') : RecW b a la ca xs f x w0 m T t cs' (w.setCell ⟨m, i, none⟩ v) := by
 have h2 := h.lb; have h3 := h.lm
 have hc : Chg [m] w (w.setCell ⟨m, i, none⟩ v) := (Chg.refl [m] w).setCell _ _ (.inl (by simp))
 exact ⟨hc.keepb h.h3 (by simp; omega), hc.keepb h.h4 (by simp; omega), q0i h.hm e, h.ty.chg hc (fun y hy => by rw [List.mem_singleton] at hy; omega), h.src.chg hc (by simp; omega) (fun y hy => by have := h.lf y hy; simp; omega), h.chg.setCell _ _ (.inr (by show w0.heap.size ≤ m; omega)), h.lm, h.lb, h.lf⟩
theorem RecW.mono (h : RecW b a la ca xs f x w0 m T t cs w) (ht : t ≤ t') : RecW b a la ca xs f x w0 m T t' cs w := ⟨h.h3, h.h4, h.hm, h.ty, h.src.mono ht, h.chg, h.lm, h.lb, h.lf⟩
end
def sml (v : Int) : Prop := -2000000000 ≤ v ∧ v ≤ 2000000000
theorem sml.ok {v : Int} (h : sml v) : q0q v := by unfold sml at h; constructor <;> omega
def RecT (T : List TRow) (cs : Array Value) : Prop := ∃ (k s : Int) (nm : ByteArray) (ln g r : Int) (p6 : Option Addr) (l6 c6 : Nat) (p7 : Option Addr) (l7 c7 : Nat) (p8 : Option Addr) (l8 c8 : Nat),
 cs = #[.int .i64 k, .int .i64 s, .string nm, .int .i64 ln, .int .i64 g, .int .i64 r, .slice p6 l6 c6, .slice p7 l7 c7, .slice p8 l8 c8] ∧ sml k ∧ sml s ∧ nm.size ≤ 64 ∧ (-1 ≤ ln ∧ ln ≤ 64) ∧ sml g ∧ sml r ∧ SlT T .it (.slice p6 l6 c6) ∧ l6 ≤ 16 ∧ SlT T .bt (.slice p7 l7 c7) ∧ SlT T .bt (.slice p8 l8 c8) ∧ l8 ≤ 16
theorem q6y (b : Nat) (a : Option Addr) (la ca : Nat) (xs : List UInt8) (f : List Nat) (t : Int) (n : Nat) (w : World) (h : SrcB b a la ca xs f t w) (hn2 : n ≤ 64) (ht : t ≤ 1073740000) :
  Calls Tryz.prog 132 #[.pointer (some ⟨b, 0, none⟩), .int .i64 n] w fun e w' => ∃ (A : Option Addr) (C : Nat), e = .returned (.slice A n C) ∧ (∃ T, SlT T .bt (.slice A n C) ∧ TyN w.heap.size T w') ∧ SrcB b a la ca xs f (t + 200) w' ∧ Chg [b] w w' := by
 have := some_ty b a la ca xs f t n w h (by omega) (by omega) ht
 rw [Int.toNat_natCast] at this
 exact this
theorem Well.lt8 {T : List TRow} {w : World} (h : Well T w) {b j : Nat} {k : Kd} (hr : ∃ r ∈ T, r.k = k ∧ r.b = b ∧ ∃ p, p < r.m ∧ j = p) : b < w.heap.size := by
 obtain ⟨r, hr, -, rfl, -⟩ := hr
 exact h.lt hr
theorem Well.fr8 {T : List TRow} {w : World} (h : Well T w) {b j : Nat} {k : Kd} (hr : ∃ r ∈ T, r.k = k ∧ r.b = b ∧ ∃ p, p < r.m ∧ j = p) : ∀ i, w.frozen? ⟨b, i, none⟩ = false := by
 obtain ⟨r, hr, -, rfl, -⟩ := hr
 obtain ⟨cur, h1, -⟩ := h.row r hr
 exact q0c h1
theorem u8_cell (y : Int) : ∃ x : UInt8, IntKind.u8.wrap y = (x.toNat : Int) := by
 refine ⟨UInt8.ofNat (y % 256).toNat, ?_⟩
 rw [show IntKind.u8.wrap y = y % 256 by simp [IntKind.wrap, IntKind.bits, IntKind.signed], UInt8.toNat_ofNat']
 omega
theorem Well.ce8 {T : List TRow} {w : World} (h : Well T w) {b j : Nat} (hr : ∃ r ∈ T, r.k = .bt ∧ r.b = b ∧ ∃ p, p < r.m ∧ j = p) : ∃ u, w.cell? ⟨b, j, none⟩ = some u := by
 obtain ⟨r, hr, hk, rfl, p, hp, rfl⟩ := hr
 obtain ⟨cur, h1, h2, h3, -⟩ := h.row r hr
 have hs : j < cur.size := by rw [h2, hk]; show j < r.z * 1; omega
 exact ⟨cur[j], by rw [cellsOf h1, Array.getElem?_eq_getElem hs]⟩
theorem put_bt {T : List TRow} {w : World} (h : Well T w) {b j : Nat} (hr : ∃ r ∈ T, r.k = .bt ∧ r.b = b ∧ ∃ p, p < r.m ∧ j = p) {y : Int} (hy : ∃ x : UInt8, y = (x.toNat : Int)) : TyStep T w T (w.setCell ⟨b, j, none⟩ (.int .u8 y)) := by
 obtain ⟨r, hr, hk, rfl, p, hp, rfl⟩ := hr
 obtain ⟨x, rfl⟩ := hy
 have := (TyStep.refl h).put1 hr hp (cs := [.int .u8 x.toNat]) (by rw [hk]; exact ⟨x, rfl⟩)
 rw [hk, show j * Kd.n .bt = j from Nat.mul_one j] at this
 exact this
theorem one_it {T : List TRow} {w : World} (h : Well T w) (v : Int) (hv : q0q v) : SlT (⟨w.heap.size, .it, 1, 1⟩ :: T) .it (.slice (some ⟨w.heap.size, 0, none⟩) 1 1) ∧ TyStep T w (⟨w.heap.size, .it, 1, 1⟩ :: T) (w.alloc (.cells #[.int .i64 v] 2)) :=
 ⟨⟨_, _, _, rfl, by decide, Nat.le_refl _, by simp [maxLen], .inr ⟨_, List.mem_cons_self, rfl, 0, by rw [Nat.zero_mul], Nat.le_refl _, Nat.le_refl _⟩⟩, (TyStep.refl h).push .it 1 1 #[.int .i64 v] (Nat.le_refl _) rfl (fun i hi => by
  obtain rfl : i = 0 := by omega
  exact ⟨v, rfl, hv⟩)⟩
theorem zero_bt {T : List TRow} {w : World} (h : Well T w) (n : Nat) (hn : n ≤ 64) : SlT (⟨w.heap.size, .bt, n, n⟩ :: T) .bt (.slice (some ⟨w.heap.size, 0, none⟩) n n) ∧ TyStep T w (⟨w.heap.size, .bt, n, n⟩ :: T) (w.alloc (.cells (zrow (.int .u8 0) n) 5)) := by
 have hz : (zrow (.int .u8 0) n).toList = List.replicate n (.int .u8 0) := toList_madeCells_one (.int .u8 0) n
 refine ⟨⟨_, _, _, rfl, hn, Nat.le_refl _, by simp [maxLen]; omega, .inr ⟨_, List.mem_cons_self, rfl, 0, by rw [Nat.zero_mul], by simp, by simp⟩⟩, (TyStep.refl h).push .bt n n _ (Nat.le_refl _) (by rw [← Array.length_toList, hz]; simp [Kd.n]) (fun i hi => ?_)⟩
 rw [hz]
 refine ⟨0, ?_⟩
 show (List.drop (i * 1) (List.replicate n (Value.int .u8 0))).take 1 = [.int .u8 ((0 : UInt8).toNat : Nat)]
 rw [List.drop_replicate, List.take_replicate, show min 1 (n - i * 1) = 1 by omega]
 rfl
end Go.Proofs.YtphmpimgbmedbaaGreat
namespace Go.Proofs.YtphmpimgbmedbaaGreat
open Go.RowKit
open Go.Lib (hid)
theorem tape_zero : zrow (.agg #[.bool false, .slice none 0 0]) 4 = #[.bool false, .slice none 0 0, .bool false, .slice none 0 0] := by
 have h : (Value.agg #[.bool false, .slice none 0 0]).cells = #[.bool false, .slice none 0 0] := by simp [Value.cells]
 unfold zrow madeCells
 rw [h]
 apply Array.ext (by simp)
 intro i hi _
 have hi : i < 4 := by simpa using hi
 have : i = 0 ∨ i = 1 ∨ i = 2 ∨ i = 3 := by omega
 rcases this with rfl | rfl | rfl | rfl <;> simp
theorem newWorld_ty (x : Shp) (hok : x.ok) (w : World) :
  Calls Tryz.prog 206 #[.agg #[.int .i64 x.gS, .int .i64 x.column, .int .i64 x.data, .int .i64 x.sR, .int .i64 x.rows, .int .i64 x.cap, .int .i64 x.bT, .int .i64 x.qU, .int .i64 x.sG]] w fun e w' => ∃ (na : Nat) (p : Option Addr) (c b : Nat), e = .returned (.agg #[.int .i64 0, .int .i64 x.gS, .int .i64 x.column, .int .i64 x.data, .int .i64 x.sR, .int .i64 x.rows, .int .i64 x.cap, .int .i64 x.bT, .int .i64 x.qU, .int .i64 x.sG, .slice p na c, .slice none 0 0, .slice (some ⟨b, 0, none⟩) 2 2, .int .i64 0, .int .i64 (-1), .bool false]) ∧ x.all = na ∧ (∃ T, SlT T (.ds x.drives.toNat x.rows.toNat) (.slice p na c) ∧ TyN w.heap.size T w' ∧ b ∉ T.map (·.b)) ∧ w'.heap[b]? = some (.cells #[.bool false, .slice none 0 0, .bool false, .slice none 0 0] 69 (0, 0)) ∧ w.heap.size ≤ b ∧ Chg [] w w' := by
 obtain ⟨KD, _⟩ := q4y
 obtain ⟨KS, _⟩ := kindDS
 have hmk : ∀ w : World, (Instr.makeSlice 32 (.int .i64 2) (.int .i64 2)).run Tryz.prog w = .ok (.slice (some ⟨w.heap.size, 0, none⟩) 2 2) (w.alloc (.cells #[.bool false, .slice none 0 0, .bool false, .slice none 0 0] 69)) := fun w => by rw [← tape_zero]; exact makeTape 2 (by omega) w
 have G0 := hid (show Chg [] w ((w.alloc (.cells #[.int .i64 x.gS, .int .i64 x.column, .int .i64 x.data, .int .i64 x.sR, .int .i64 x.rows, .int .i64 x.cap, .int .i64 x.bT, .int .i64 x.qU, .int .i64 x.sG] 30)).alloc (.cells #[.int .i64 0, .int .i64 0, .int .i64 0, .int .i64 0, .int .i64 0, .int .i64 0, .int .i64 0, .int .i64 0, .int .i64 0, .int .i64 0, .slice none 0 0, .slice none 0 0, .slice none 0 0, .int .i64 0, .int .i64 0, .bool false] 36)) from ((Chg.refl [] w).alloc _).alloc _)
 have B1 := hid (show ((w.alloc (.cells #[.int .i64 x.gS, .int .i64 x.column, .int .i64 x.data, .int .i64 x.sR, .int .i64 x.rows, .int .i64 x.cap, .int .i64 x.bT, .int .i64 x.qU, .int .i64 x.sG] 30)).alloc (.cells #[.int .i64 0, .int .i64 0, .int .i64 0, .int .i64 0, .int .i64 0, .int .i64 0, .int .i64 0, .int .i64 0, .int .i64 0, .int .i64 0, .slice none 0 0, .slice none 0 0, .slice none 0 0, .int .i64 0, .int .i64 0, .bool false] 36)).heap[w.heap.size]? = some (.cells #[.int .i64 x.gS, .int .i64 x.column, .int .i64 x.data, .int .i64 x.sR, .int .i64 x.rows, .int .i64 x.cap, .int .i64 x.bT, .int .i64 x.qU, .int .i64 x.sG] 30 (0, 0)) from q0b (q0j w _) _)
 have B2 := hid (show ((w.alloc (.cells #[.int .i64 x.gS, .int .i64 x.column, .int .i64 x.data, .int .i64 x.sR, .int .i64 x.rows, .int .i64 x.cap, .int .i64 x.bT, .int .i64 x.qU, .int .i64 x.sG] 30)).alloc (.cells #[.int .i64 0, .int .i64 0, .int .i64 0, .int .i64 0, .int .i64 0, .int .i64 0, .int .i64 0, .int .i64 0, .int .i64 0, .int .i64 0, .slice none 0 0, .slice none 0 0, .slice none 0 0, .int .i64 0, .int .i64 0, .bool false] 36)).heap[w.heap.size + 1]? = some (.cells #[.int .i64 0, .int .i64 0, .int .i64 0, .int .i64 0, .int .i64 0, .int .i64 0, .int .i64 0, .int .i64 0, .int .i64 0, .int .i64 0, .slice none 0 0, .slice none 0 0, .slice none 0 0, .int .i64 0, .int .i64 0, .bool false] 36 (0, 0)) from q0e (by simp) _)
 have hf0 : x.fault = 0 := by unfold Shp.fault; rw [if_pos hok]
 have HF0 := hid hf0; clear hf0
 have HOK := hid hok; clear hok
 obtain ⟨na, hna⟩ : ∃ n : Nat, x.all = n := ⟨x.all.toNat, by have := HOK.out.all; omega⟩
 obtain ⟨nd, hnd⟩ : ∃ n : Nat, x.drives = n := ⟨x.drives.toNat, by have := HOK.out.drives; omega⟩
 obtain ⟨nr, hnr⟩ : ∃ n : Nat, x.rows = n := ⟨x.rows.toNat, by have := HOK.out.rows; omega⟩
 have ba : na ≤ 6 := by have := HOK.out.all; omega
 have bd : nd ≤ 5 := by have := HOK.out.drives; omega
 have br : nr ≤ 6 := by have := HOK.out.rows; omega
 rw [show x.drives.toNat = nd by omega, show x.rows.toNat = nr by omega]
 have HA := hid hna; have HD := hid hnd; have HR0 := hid hnr
 clear hna hnd hnr
 go_enter Tryz.func206, Tryz.ntmps206
 go_wp2_with fail
 refine (q0y x _).mono ?_
 rintro e w1 ⟨rfl, hc⟩
 rw [HF0.out]
 obtain ⟨e1, n1, A1⟩ := bk0 hc B1.out; obtain ⟨e2, n2, A2⟩ := bk0 hc B2.out
 have fz2 := q0c A2.out
 have G1 := hid (G0.out.trans0 hc)
 clear hc G0 B1 B2
 go_wp2_with fail
 go_cut [4] (fun s4 w2 => ∃ m b, s4 = .pointer (some ⟨m, 0, none⟩) ∧ w1.heap.size ≤ m ∧ w1.heap.size ≤ b ∧ m ≠ b ∧ w2.heap[m]? = some (.cells #[.int .i64 x.gS, .int .i64 x.column, .int .i64 x.data, .int .i64 x.sR, .int .i64 x.rows, .int .i64 x.cap, .int .i64 x.bT, .int .i64 x.qU, .int .i64 x.sG, .slice none 0 0, .slice none 0 0, .slice (some ⟨b, 0, none⟩) 2 2, .int .i64 0, .int .i64 (-1), .bool false] 34 (0, 0)) ∧ w2.heap.size = w1.heap.size + 2 ∧ w2.heap[b]? = some (.cells #[.bool false, .slice none 0 0, .bool false, .slice none 0 0] 69 (0, 0)) ∧ Chg [] w1 w2)
 case first =>
  go_region
  all_goals
   go_wp2_with fail
   go_meet
   first
   | exact ⟨w1.heap.size + 1, w1.heap.size, rfl, by omega, by omega, by omega, q0a (q0e (by simp) _), by simp, q0a (q0b (q0j w1 _) _), (((Chg.refl [] _).alloc _).alloc _).drew⟩
   | exact ⟨w1.heap.size, w1.heap.size + 1, rfl, by omega, by omega, by omega, q0a (q0b (q0j w1 _) _), by simp, q0a (q0e (by simp) _), (((Chg.refl [] _).alloc _).alloc _).drew⟩
 case rest =>
 revert wc; intro w2 hcut
 obtain ⟨m, b, rfl, hm, hbb, hmb, hw, hsz, htp, hc⟩ := hcut
 have HW := hid hw; have HT := hid htp
 have HNB := hid (And.intro hm (And.intro hbb hmb))
 have A1' := hid (hc.keep0 A1.out); have A2' := hid (hc.keep0 A2.out)
 have lm : m < w2.heap.size := ltOf hw
 have lb : b < w2.heap.size := ltOf htp
 have hmw : w.heap.size + 1 < m := by omega
 have G2 := hid (G1.out.trans0 hc)
 have nR1 : w.heap.size + 1 < w1.heap.size := n2
 clear e1 n1 e2 n2 fz2 A1 A2 hc htp hm hbb hmb hw hsz
 obtain ⟨c1, n1, -⟩ := bk (Chg.refl [] w2) A1'.out (by simp)
 have HSM := hid (show ∀ y, y ∈ [m] → y < w2.heap.size from fun y hy => by rw [List.mem_singleton] at hy; omega)
 have HNm := hid (show w.heap.size ∉ [m] ∧ w.heap.size + 1 ∉ [m] ∧ b ∉ [m] from by simp only [List.mem_singleton]; have := HNB.out; omega)
 go_wp2_with fail
 go_loopw [5] (fun vi wr => ∃ (k : Nat) (pv : Option Addr) (cv : Nat) (T : List TRow) (Wr : World), Wr = wr ∧ k ≤ na ∧ vi = .int .i64 k ∧ SlT T (.ds nd nr) (.slice pv k cv) ∧ TyN w2.heap.size T wr ∧ wr.heap[m]? = some (.cells #[.int .i64 x.gS, .int .i64 x.column, .int .i64 x.data, .int .i64 x.sR, .int .i64 x.rows, .int .i64 x.cap, .int .i64 x.bT, .int .i64 x.qU, .int .i64 x.sG, .slice pv k cv, .slice none 0 0, .slice (some ⟨b, 0, none⟩) 2 2, .int .i64 0, .int .i64 (-1), .bool false] 34 (0, 0)) ∧ Chg [m] w2 wr) (fun vi _ => na - (intOf vi).toNat)
 case atStart => exact ⟨0, none, 0, [], _, rfl, by omega, rfl, SlT.nil _ _, TyN.nil _ _, HW.out, Chg.refl _ _⟩
 case round =>
  clear c1 n1
  obtain ⟨k, pv, cv, T, wr, rfl, hk, rfl, hv, hty, hb3, hc⟩ := hrel
  have D1 := hid (hc.keepb A1'.out HNm.out.1); have D2 := hid (hc.keepb A2'.out HNm.out.2.1); have D3 := hid hb3
  have c1 := cellsOf D1.out; have n1 := ltOf D1.out
  have HV := hid hv; have HTY := hid hty; have HC := hid hc
  clear hv hty hc hb3
  go_wp2_with fail
  refine (q1a x HOK.out _).mono ?_
  rintro e wa ⟨rfl, hca⟩
  rw [HA.out]
  have HCA := hid hca
  clear c1 n1; obtain ⟨c1, n1, E0⟩ := bk hca D1.out (by simp)
  have HTA := hid (HTY.out.ext hca)
  have HWA := hid (HC.out.trans0 hca)
  have E3A := hid (hca.keep0 D3.out)
  clear hca
  by_cases hlt : k < na
  ·have hwa : w2.heap.size ≤ wa.heap.size := HWA.out.size
   have HP := hid ((HTA.out.well.push (.dr nr) 0 0 #[] (Nat.le_refl _) rfl (fun i hi => absurd hi (Nat.not_lt_zero _))))
   go_wp2_with fail
   go_loopw [6, 7] (fun vo vi wi => ∃ (j : Nat) (pj : Option Addr) (cj : Nat) (T2 : List TRow) (Wi : World), Wi = wi ∧ j ≤ nd ∧ vi = .int .i64 j ∧ vo = .slice pj j cj ∧ SlT T2 (.ds nd nr) (.slice pv k cv) ∧ SlT T2 (.dr nr) (.slice pj j cj) ∧ TyN w2.heap.size T2 wi ∧ wi.heap[m]? = some (.cells #[.int .i64 x.gS, .int .i64 x.column, .int .i64 x.data, .int .i64 x.sR, .int .i64 x.rows, .int .i64 x.cap, .int .i64 x.bT, .int .i64 x.qU, .int .i64 x.sG, .slice pv k cv, .slice none 0 0, .slice (some ⟨b, 0, none⟩) 2 2, .int .i64 0, .int .i64 (-1), .bool false] 34 (0, 0)) ∧ Chg [m] w2 wi) (fun _ vi _ => nd - (intOf vi).toNat)
   case atStart =>
    exact ⟨0, _, _, _, _, rfl, by omega, rfl, rfl, HV.out.sub HP.out.2, ⟨_, 0, 0, rfl, Nat.zero_le _, Nat.le_refl _, Nat.zero_le _, .inr ⟨_, List.mem_cons_self, rfl, 0, by rw [Nat.zero_mul], Nat.le_refl _, Nat.le_refl _⟩⟩, ⟨HP.out.1, fun q hq => by
     rcases List.mem_cons.1 hq with rfl | hq
     ·exact hwa
     ·exact HTA.out.new q hq⟩, q0b E3A.out _, HWA.out.alloc _⟩
   case round =>
    clear c1 n1
    obtain ⟨j, pj, cj, T2, wi, rfl, hj, rfl, rfl, hv2, hvj, hty2, hb3, hc⟩ := hrel
    have E1 := hid (hc.keepb A1'.out HNm.out.1); have E3 := hid hb3
    have c1 := cellsOf E1.out; have n1 := ltOf E1.out
    have HV2 := hid hv2; have HVJ := hid hvj; have HTY2 := hid hty2; have HC2 := hid hc
    clear hv2 hvj hty2 hc hb3
    go_wp2_with fail
    refine (q4p x HOK.out _).mono ?_
    rintro e wb ⟨rfl, hcb⟩
    rw [HD.out]
    have HTB := hid (HTY2.out.ext hcb); have HCB := hid (HC2.out.trans0 hcb)
    clear c1 n1; obtain ⟨c1, n1, E5⟩ := bk hcb E1.out (by simp)
    have E6 := hid (hcb.keep0 E3.out)
    have hwb : w2.heap.size ≤ wb.heap.size := HCB.out.size
    clear E3 hcb
    by_cases hlj : j < nd
    ·go_wp2_with fail
     refine (q9q x nr _ HTB.out.well HR0.out (by omega)).mono ?_
     rintro e wd ⟨p3, c3, rfl, T3, hv3, ht3⟩
     have HV3 := hid hv3; have HT3 := hid (HTB.out.step ht3 hwb); have HS3 := hid ht3.sub
     have HC3 := hid (HCB.out.trans ht3.chg (fun y hy => .inr (by obtain ⟨q, hq, e⟩ := List.mem_map.1 hy; have e : q.b = y := e; rw [← e]; exact HTB.out.new q hq)))
     have E7 := hid (ht3.chg.keepb E6.out (HTB.out.notIn lm))
     have hwd : w2.heap.size ≤ wd.heap.size := HC3.out.size
     clear hv3 ht3
     go_wp2_with (at_builtin; refine q6s rfl _ _ 83 rfl (HT3.out.well.ext ((Chg.refl [] wd).alloc (.cells #[.bool false, .slice p3 nr c3] 82))) (k := .dr nr) Tryz.underlying83 KD (by omega) rfl (HVJ.out.sub HS3.out) (cs := [.bool false, .slice p3 nr c3]) ⟨false, p3, nr, c3, rfl, HV3.out, Nat.le_refl _⟩ (by show j + 1 ≤ 16; omega) ⟨wd.heap.size, 0, none⟩ 1 rfl (q1i wd #[.bool false, .slice p3 nr c3] 82) ?_; intro a' c' w4 T4 h41 h42 h43 h44 h45; have H4 := hid (show TyStep T3 (wd.alloc (.cells #[.bool false, .slice p3 nr c3] 82)) T4 w4 from ⟨h41, h42, h44, h45⟩); have HV4 := hid h43; clear h41 h42 h43 h44 h45)
     have HT4 := hid ((HT3.out.ext ((Chg.refl [] wd).alloc (.cells #[.bool false, .slice p3 nr c3] 82))).step H4.out (by simp; omega))
     have HC4 := hid ((HC3.out.alloc (.cells #[.bool false, .slice p3 nr c3] 82)).trans H4.out.chg (fun y hy => .inr (by obtain ⟨q, hq, e⟩ := List.mem_map.1 hy; have e : q.b = y := e; rw [← e]; exact HT3.out.new q hq)))
     have E8 := hid (H4.out.chg.keepb (q0b E7.out (.cells #[.bool false, .slice p3 nr c3] 82)) (HT3.out.notIn lm))
     go_roundw
     case rel => exact ⟨j + 1, a', c', T4, _, rfl, by omega, by go_num, rfl, HV2.out.sub (HS3.out.trans H4.out.sub), HV4.out, HT4.out, E8.out, HC4.out⟩
     case measure => simp [intOf]; omega
    ·obtain rfl : j = nd := by omega
     have e3 := cellsOf E6.out; have n3' := ltOf E6.out
     go_wp2_with (at_builtin; refine q6s rfl _ _ 31 rfl (HTB.out.well.ext ((Chg.refl [] wb).alloc (.cells #[.slice pj j cj] 83))) (k := .ds j nr) Tryz.underlying31 KS (by omega) rfl HV2.out (cs := [.slice pj j cj]) ⟨pj, j, cj, rfl, HVJ.out, Nat.le_refl _, .inr (by omega)⟩ (by show k + 1 ≤ 8; omega) ⟨wb.heap.size, 0, none⟩ 1 rfl (q1i wb #[.slice pj j cj] 83) ?_; intro a' c' w4 T4 h41 h42 h43 h44 h45; have H4 := hid (show TyStep T2 (wb.alloc (.cells #[.slice pj j cj] 83)) T4 w4 from ⟨h41, h42, h44, h45⟩); have HV4 := hid h43; have E8 := hid (h44.keepb (q0b E6.out (.cells #[.slice pj j cj] 83)) (HTB.out.notIn lm)); have e4 := cellsOf E8.out; have n4 := ltOf E8.out; have z4 := q0c E8.out; clear h41 h42 h43 h44 h45)
     have HT4 := hid (((HTB.out.ext ((Chg.refl [] wb).alloc (.cells #[.slice pj j cj] 83))).step H4.out (by simp; omega)).chg ((Chg.refl [m] w4).setCell ⟨m, 9, none⟩ (.slice a' (k + 1) c') (.inl (by simp))) HSM.out)
     have HC4 := hid (((HCB.out.alloc (.cells #[.slice pj j cj] 83)).trans H4.out.chg (fun y hy => .inr (by obtain ⟨q, hq, e⟩ := List.mem_map.1 hy; have e : q.b = y := e; rw [← e]; exact HTB.out.new q hq))).setCell ⟨m, 9, none⟩ (.slice a' (k + 1) c') (.inl (by simp)))
     have E9 := hid (show (w4.setCell ⟨m, 9, none⟩ (.slice a' (k + 1) c')).heap[m]? = some (.cells #[.int .i64 x.gS, .int .i64 x.column, .int .i64 x.data, .int .i64 x.sR, .int .i64 x.rows, .int .i64 x.cap, .int .i64 x.bT, .int .i64 x.qU, .int .i64 x.sG, .slice a' (k + 1) c', .slice none 0 0, .slice (some ⟨b, 0, none⟩) 2 2, .int .i64 0, .int .i64 (-1), .bool false] 34 (0, 0)) from q0i (cur := #[.int .i64 x.gS, .int .i64 x.column, .int .i64 x.data, .int .i64 x.sR, .int .i64 x.rows, .int .i64 x.cap, .int .i64 x.bT, .int .i64 x.qU, .int .i64 x.sG, .slice pv k cv, .slice none 0 0, .slice (some ⟨b, 0, none⟩) 2 2, .int .i64 0, .int .i64 (-1), .bool false]) E8.out rfl)
     go_roundw
     case rel => exact ⟨k + 1, a', c', T4, _, rfl, by omega, by go_num, HV4.out, HT4.out, E9.out, HC4.out⟩
     case measure => simp [intOf]; omega
  ·obtain rfl : k = na := by omega
   have Q2 := hid (HCA.out.keep0 D2.out)
   have e3 := cellsOf E3A.out; have m3 := ltOf E3A.out; have e2 := cellsOf Q2.out; have m2 := ltOf Q2.out; have fz2 := q0c Q2.out
   have hg2 : w.heap.size ≤ w2.heap.size := G2.out.size
   have HTP := hid (HWA.out.keepb HT.out HNm.out.2.2)
   have hch := G2.out.trans HWA.out (fun y hy => .inr (by rw [List.mem_singleton] at hy; omega))
   have HCH := hid hch
   have HBN := hid (HTA.out.notIn lb)
   clear hch
   go_wp2_with (refine q0p rfl _ _ 36 rfl rfl rfl q1f Q2.out rfl rfl rfl ?_; intro w9 hb9 hc9; have HB9 := hid hb9; have HC9 := hid hc9; clear hb9 hc9)
   refine bodyPost_ret (v := .agg #[.int .i64 0, .int .i64 x.gS, .int .i64 x.column, .int .i64 x.data, .int .i64 x.sR, .int .i64 x.rows, .int .i64 x.cap, .int .i64 x.bT, .int .i64 x.qU, .int .i64 x.sG, .slice pv k cv, .slice none 0 0, .slice (some ⟨b, 0, none⟩) 2 2, .int .i64 0, .int .i64 (-1), .bool false]) (q0m _ _ Tryz.results206 rfl q1f Tryz.underlying36 HB9.out rfl) rfl ⟨k, pv, cv, b, rfl, HA.out, ⟨T, HV.out, ((HTA.out.chg HC9.out (fun y hy => by rw [List.mem_singleton] at hy; omega)).mono hg2), HBN.out⟩, HC9.out.keepb HTP.out (by rw [List.mem_singleton]; have := HNB.out; omega), by have := HNB.out; omega, HCH.out.trans HC9.out (fun y hy => .inr (by rw [List.mem_singleton] at hy; omega))⟩
end Go.Proofs.YtphmpimgbmedbaaGreat
namespace Go.Proofs.YtphmpimgbmedbaaGreat
open Go.RowKit
open Go.Lib (hid)
section
variable {P : Program} {ops : Array Oper} {Q : Exit → Act → World → Prop} {md : Region.Mode} {S : World → Prop} {fuel : Nat} {listed : Array Bool} {a : Act} {w : World}
theorem q7o {o : Oper} {Kc : Act → World → Prop} {R : Prop} {b : Nat} {cs vs : Array Value} {E : TypeId} {n : Nat} (hgd : o.guard = none) (p v : Operand) (t : TypeId)
  (hop : o.op = .store t p v) (hp : a.eval p = .pointer (some ⟨b, 0, none⟩)) (hv : a.eval v = .agg vs) (hi : (P.info? t).map (fun i => i.size) = some n) (h : w.heap[b]? = some (.cells cs E (0, 0)))
  (hn : vs.size = n) (hs : cs.size = n) (hone : vs.toList.all Value.oneCell' = true)
  (hk : ∀ w', w'.heap[b]? = some (.cells vs E (0, 0)) → Chg [b] w w' → Kc (a.put o.dst undef) w') : if Region.wanted o (yielded ops a.tmps) = true then Oper.wp P o a w Kc Q else R := by
 have hw : Region.wanted o (yielded ops a.tmps) = true := by simp [Region.wanted, hgd]
 rw [if_pos hw]
 exact store_wp p v t hop hp hv hi h hn hs hone hk
end
end Go.Proofs.YtphmpimgbmedbaaGreat
namespace Go.Proofs.YtphmpimgbmedbaaGreat
open Go.RowKit
open Go.Lib (hid)

theorem brs_z (w : World) (q : Int) (h : q0q q) : brsL.rep w (#[.int .i64 q, .int .i64 0, .slice none 0 0] : Array Value).toList ⟨q, ⟨0, []⟩⟩ [] :=
 z0p.2 ⟨_, rfl, h, q1s.2 ⟨none, 0, 0, [], rfl, i64z, q5d _ _, rfl⟩⟩
theorem badB9 {w w1 w9 : World} {b : Nat} (q : Int) (hq : q0q q) (r : BRes) (hr : r = ⟨q, ⟨0, []⟩⟩) (hc : Chg [] w w1) (hc9 : Chg [b] w1 w9) (hb : w.heap.size ≤ b) :
  q2l brsL r w (.returned (.agg #[.int .i64 q, .int .i64 0, .slice none 0 0])) w9 :=
 ⟨_, [], rfl, by rw [hr]; exact brs_z _ q hq, q1c.nil _ _, hc.trans hc9 (fun y hy => .inr (by rw [List.mem_singleton] at hy; omega))⟩
theorem finB9 {w w1 w9 : World} {b : Nat} {y : Blk} {f : List Nat} {cs : Array Value} {c : List Value} (r : BRes) (hrr : r = ⟨0, y⟩) (hr : blkL.rep w1 c y f) (hcs : cs.toList = .int .i64 0 :: c) (hf : q1c w.heap.size w1 f) (hc : Chg [] w w1) (hc9 : Chg [b] w1 w9) (hn : b ∉ f) (hb : w.heap.size ≤ b) :
  q2l brsL r w (.returned (.agg cs)) w9 :=
 ⟨_, f, rfl, by rw [hrr, hcs]; exact z0p.2 ⟨_, rfl, i64z, blkL.chg hr hc9 (fun y hy hm => hn (by rw [List.mem_singleton] at hm; exact hm ▸ hy))⟩, hf.chg hc9, hc.trans hc9 (fun y hy => .inr (by rw [List.mem_singleton] at hy; omega))⟩
theorem q5a : (Tryz.prog.info? 86).map (fun i => i.size) = some 3 := by kernel_rfl
end Go.Proofs.YtphmpimgbmedbaaGreat
