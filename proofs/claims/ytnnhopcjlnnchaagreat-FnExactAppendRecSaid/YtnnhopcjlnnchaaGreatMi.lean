/- Several texts in one. -/
import Derived.Test.YtnnhopcjlnnchaaGreatReg
import Derived.Test.YtnnhopcjlnnchaaGreatRows
import Derived.Test.YtnnhopcjlnnchaaGreatGrc
import Derived.Test.YtnnhopcjlnnchaaGreatWra
import Derived.Deep.DeepCutAuto
/- A region that draws its order, walked by hand: what is known of the world is asked for only till all loads have come up. No function of the program in sight. -/
namespace Go.Proofs.YtnnhopcjlnnchaaGreat
open Go.RowKit

/-- whatever order is picked; S says what holds of the world, by what has come up -/
def wpAnyG (P : Program) (md : Region.Mode) (ops : Array Oper) (Q : Exit → Act → World → Prop) (S : Array Bool → World → Prop) : Nat → Array Bool → Act → World → Prop
 | 0, listed, a, w => Region.ready md ops listed = [] ∧ Q .normal a w
 | fuel + 1, listed, a, w =>
  (Region.ready md ops listed = [] → Q .normal a w) ∧
  ∀ i ∈ Region.ready md ops listed, wpOp P ops Q i (fun a' w' => S (listed.setIfInBounds i true) w' ∧ wpAnyG P md ops Q S fuel (listed.setIfInBounds i true) a' w') a w
/-- C holds till one of M has come up -/
def Till (M : List Nat) (C : World → Prop) (l : Array Bool) (w : World) : Prop := (∀ m ∈ M, l.getD m false = false) → C w
/-- what has come up has come up behind all that it waits for -/
def LClosed (md : Region.Mode) (ops : Array Oper) (l : Array Bool) : Prop := ∀ (j : Nat) (o : Oper), ops[j]? = some o → l.getD j false = true → ∀ e ∈ o.after, Region.binds md e = true → l.getD e.on false = true
def waits (md : Region.Mode) (ops : Array Oper) : Nat → Nat → Nat → Bool
 | 0, m, i => m == i
 | n + 1, m, i => m == i || (match ops[m]? with
  | none => false
  | some o => o.after.toList.any (fun e => Region.binds md e && waits md ops n e.on i))
section
variable {P : Program} {ops : Array Oper} {Q : Exit → Act → World → Prop} {md : Region.Mode} {M : List Nat} {C : World → Prop} {fuel : Nat} {listed : Array Bool} {a : Act} {w : World}
theorem waits_listed (hc : LClosed md ops listed) : ∀ (n m i : Nat), waits md ops n m i = true → listed.getD m false = true → listed.getD i false = true
 | 0, m, i, h, hm => by simp [waits] at h; subst h; exact hm
 | n + 1, m, i, h, hm => by
  unfold waits at h
  rw [Bool.or_eq_true] at h
  rcases h with h | h
  ·simp at h; subst h; exact hm
  ·cases ho : ops[m]? with
   | none => rw [ho] at h; cases h
   | some o =>
    rw [ho] at h
    simp only [List.any_eq_true, Bool.and_eq_true] at h
    obtain ⟨e, he, hb, hw⟩ := h
    exact waits_listed hc n e.on i hw (hc m o ho hm e (by simpa using he) hb)
theorem LClosed.next (hc : LClosed md ops listed) {j : Nat} (hj : j ∈ Region.ready md ops listed) : LClosed md ops (listed.setIfInBounds j true) := by
 intro k o ho hk e he hb
 obtain ⟨_, oj, hoj, hall⟩ := mem_ready.1 hj
 by_cases h : j = k
 ·subst h
  rw [hoj] at ho
  cases ho
  exact getD_set_true (hall e he hb)
 ·rw [getD_set_ne false h] at hk
  exact getD_set_true (hc k o ho hk e he hb)
theorem LClosed.none : LClosed md ops (Array.replicate ops.size false) := by
 intro k o ho hk
 rw [Array.getD_eq_getD_getElem?, Array.getElem?_replicate] at hk
 split at hk <;> cases hk
theorem unl {i : Nat} (h : i ∈ Region.ready md ops listed) : listed.getD i false = false := by
 have h0 := (mem_ready.1 h).1
 rw [Array.getD_eq_getD_getElem?] at h0 ⊢
 cases e : listed[i]? with
 | none => rfl
 | some b => rw [e] at h0; exact h0
theorem wpAny_of_G {S : Array Bool → World → Prop} : ∀ (fuel : Nat) (listed : Array Bool) (a : Act) (w : World), wpAnyG P md ops Q S fuel listed a w → wpAny P md ops Q fuel listed a w
 | 0, _, _, _, h => h
 | fuel + 1, _, _, _, h => ⟨h.1, fun i hi => wpOp_mono (fun a' w' h' => wpAny_of_G fuel _ a' w' h'.2) (h.2 i hi)⟩
theorem Till.now {i n : Nat} (hS : Till M C listed w) (hcl : LClosed md ops listed) (hi : listed.getD i false = false) (hM : ∀ m ∈ M, waits md ops n m i = true) : C w :=
 hS (fun m hm => by
  cases e : listed.getD m false
  ·rfl
  ·rw [waits_listed hcl n m i (hM m hm) e] at hi; cases hi)
theorem Till.more (hS : Till M C listed w) (j : Nat) : Till M C (listed.setIfInBounds j true) w := fun hm => hS (fun m hmM => by
  have := hm m hmM
  cases e : listed.getD m false
  ·rfl
  ·rw [getD_set_true e] at this; cases this)
theorem wpAnyG_first {i : Nat} {oi : Oper} {v : Value} (hi : ops[i]? = some oi) (hsel : ∀ (j : Nat) (o : Oper) cs b, ops[j]? = some o → o.op ≠ .select cs b)
  (hQ : ∀ c a w, Q (.panic c) (a.put oi.dst v) w → Q (.panic c) a w) {D : World → Prop} (hD : ∀ (l : Array Bool) w, LClosed md ops l → l.getD i false = false → Till M C l w → D w) (hiM : i ∉ M) :
  ∀ (fuel : Nat) (listed : Array Bool) (a : Act) (w : World),
   (∀ j oj, ops[j]? = some oj → j ≠ i → listed.getD j true = false → (∀ e ∈ oj.after, Region.binds md e = true → e.on ≠ i) → oi.apart ops oj = true) →
   i ∈ Region.ready md ops listed → LClosed md ops listed → YieldsIf P ops D oi v a → Till M C listed w →
   wpAnyG P md ops Q (Till M C) fuel (listed.setIfInBounds i true) (a.put oi.dst v) w → wpAnyG P md ops Q (Till M C) (fuel + 1) listed a w := by
 intro fuel
 induction fuel with
 | zero =>
  intro listed a w _ hr hcl hy hS H
  refine ⟨fun h => (by rw [h] at hr; cases hr), fun j hj => ?_⟩
  by_cases hji : j = i
  ·subst hji
   exact hy.wpOp hi (hD _ _ hcl (unl hr) hS) ⟨hS.more j, H⟩
  ·have := ready_mono hj hji
   rw [H.1] at this
   cases this
 | succ fuel ih =>
  intro listed a w hfree hr hcl hy hS H
  refine ⟨fun h => (by rw [h] at hr; cases hr), fun j hj => ?_⟩
  by_cases hji : j = i
  ·subst hji
   exact hy.wpOp hi (hD _ _ hcl (unl hr) hS) ⟨hS.more j, H⟩
  ·have h1 := H.2 j (ready_mono hj hji)
   obtain ⟨hjun, oj, hoj, hall⟩ := mem_ready.1 hj
   have hnot : ∀ e ∈ oj.after, Region.binds md e = true → e.on ≠ i := fun e he hb heq => by
    have h1 := hall e he hb
    rw [heq, unl hr] at h1
    cases h1
   have h2 := wpOp_putIf hoj (hfree j oj hoj hji hjun hnot) (fun cs b => hsel i oi cs b hi) (fun cs b => hsel j oj cs b hoj) hQ hy h1
   have hfree' : ∀ k ok, ops[k]? = some ok → k ≠ i → (listed.setIfInBounds j true).getD k true = false →
     (∀ e ∈ ok.after, Region.binds md e = true → e.on ≠ i) → oi.apart ops ok = true := fun k ok hk hki hun hno => by
    refine hfree k ok hk hki ?_ hno
    by_cases hjk : j = k
    ·subst hjk; exact hjun
    ·rw [getD_set_ne true hjk] at hun; exact hun
   refine wpOp_mono (fun a' w' h3 => ?_) h2
   obtain ⟨hy', hS', hW⟩ := h3
   have hTl : Till M C (listed.setIfInBounds j true) w' := fun hm => hS' (fun m hmM => by
    have hne : i ≠ m := fun e => hiM (by rw [e]; exact hmM)
    rw [Array.setIfInBounds_comm _ _ (Ne.symm hji), getD_set_ne false hne]
    exact hm m hmM)
   refine ⟨hTl, ih (listed.setIfInBounds j true) a' w' hfree' (ready_mono hr (Ne.symm hji)) (hcl.next hj) hy' hTl ?_⟩
   rw [Array.setIfInBounds_comm _ _ hji]
   exact hW

theorem gg_start {id : Nat} (M : List Nat) (C : World → Prop) (hm : P.follows .mixedOrders = true) (hC : C w.drew) (h : LClosed .any ops (Array.replicate ops.size false) → Till M C (Array.replicate ops.size false) w.drew → wpAnyG P .any ops Q (Till M C) ops.size (Array.replicate ops.size false) a w.drew) : (Code.region id ops true).wp P Q a w :=
 wp_region_any hm (wpAny_of_G _ _ _ _ (h LClosed.none (fun _ => hC)))
/-- one operation taken; what it comes to is worked out -/
theorem ggT (i : Nat) {oi : Oper} {v : Value} {a' : Act} (hcl : LClosed md ops listed) (hS : Till M C listed w)
  (h : LClosed md ops (listed.setIfInBounds i true) → Till M C (listed.setIfInBounds i true) w → wpAnyG P md ops Q (Till M C) fuel (listed.setIfInBounds i true) a' w) (hi : ops.toList[i]? = some oi := by rfl)
  (hc : (Region.noSelect ops && Region.free md ops listed i && (Region.ready md ops listed).contains i && !M.contains i) = true := by kernel_rfl)
  (hQ : ∀ c a w, Q (.panic c) (a.put oi.dst v) w → Q (.panic c) a w := by exact fun _ _ _ h => h) (hw : Region.wanted oi (yielded ops a.tmps) = true := by rfl)
  (hy : ∀ w : World, (execOp a.eval oi).run P w = .ok (.value v) w := by intro w; go_simp; (try with_reducible rfl))
  (ha : a.put oi.dst v = a' := by (try simp only [Act.put, List.setIfInBounds_toArray, List.set_cons_zero, List.set_cons_succ]); (try rfl)) : wpAnyG P md ops Q (Till M C) (fuel + 1) listed a w := by
 simp only [Bool.and_eq_true, Bool.not_eq_true'] at hc
 have hr : i ∈ Region.ready md ops listed := by simpa using hc.1.2
 exact wpAnyG_first (D := fun _ => True) (get_toList hi) (Region.noSelect_spec hc.1.1.1) hQ (fun _ _ _ _ _ => trivial) (by simpa using hc.2) fuel listed a w (Region.free_spec (get_toList hi) hc.1.1.2) hr hcl (.inl ⟨hw, fun w _ => hy w⟩) hS (ha ▸ h (hcl.next hr) (hS.more i))
/-- a load: all of M wait for it -/
theorem ggL (i : Nat) {oi : Oper} {v : Value} {a' : Act} {D : World → Prop} (hcl : LClosed md ops listed) (hS : Till M C listed w) (hCD : RowKit.Hid (∀ w, C w → D w))
  (h : LClosed md ops (listed.setIfInBounds i true) → Till M C (listed.setIfInBounds i true) w → wpAnyG P md ops Q (Till M C) fuel (listed.setIfInBounds i true) a' w) (hi : ops.toList[i]? = some oi := by rfl)
  (hc : (Region.noSelect ops && Region.free md ops listed i && (Region.ready md ops listed).contains i && M.all (fun m => waits md ops ops.size m i) && !M.contains i) = true := by kernel_rfl)
  (hQ : ∀ c a w, Q (.panic c) (a.put oi.dst v) w → Q (.panic c) a w := by exact fun _ _ _ h => h) (hw : Region.wanted oi (yielded ops a.tmps) = true := by rfl)
  (hy : ∀ w : World, D w → (execOp a.eval oi).run P w = .ok (.value v) w := by intro w hSw; (try unfold Know at hSw); go_simp; (try with_reducible rfl))
  (ha : a.put oi.dst v = a' := by (try simp only [Act.put, List.setIfInBounds_toArray, List.set_cons_zero, List.set_cons_succ]); (try rfl)) : wpAnyG P md ops Q (Till M C) (fuel + 1) listed a w := by
 simp only [Bool.and_eq_true, List.all_eq_true, Bool.not_eq_true'] at hc
 have hr : i ∈ Region.ready md ops listed := by simpa using hc.1.1.2
 exact wpAnyG_first (D := D) (get_toList hi) (Region.noSelect_spec hc.1.1.1.1) hQ (fun l w h1 h2 h3 => hCD.out w (h3.now h1 h2 hc.1.2)) (by simpa using hc.2) fuel listed a w (Region.free_spec (get_toList hi) hc.1.1.1.2) hr hcl (.inl ⟨hw, hy⟩) hS (ha ▸ h (hcl.next hr) (hS.more i))
/-- the only operation that may come up is carried out -/
theorem ggC (i : Nat) {oi : Oper} (hcl : LClosed md ops listed) (hi : ops.toList[i]? = some oi) (hr : Region.ready md ops listed = [i])
  (h : ∀ K' : Act → World → Prop, Shut (∀ a w, Till M C (listed.setIfInBounds i true) w → (LClosed md ops (listed.setIfInBounds i true) → Till M C (listed.setIfInBounds i true) w → wpAnyG P md ops Q (Till M C) fuel (listed.setIfInBounds i true) a w) → K' a w) → if Region.wanted oi (yielded ops a.tmps) = true then Oper.wp P oi a w K' Q else K' (a.put oi.dst undef) w) :
  wpAnyG P md ops Q (Till M C) (fuel + 1) listed a w := by
 refine ⟨fun h0 => (by rw [hr] at h0; cases h0), fun j hj => ?_⟩
 have hji : j = i := by rw [hr] at hj; simpa using hj
 subst hji
 exact wpOp_step (get_toList hi) (fun K' hK => h K' (fun a w hS hW => hK a w ⟨hS, hW (hcl.next hj) hS⟩))
theorem ggEnd {a : Act} (hr : Region.ready md ops listed = []) (h : Q .normal a w) : ∀ fuel, wpAnyG P md ops Q (Till M C) fuel listed a w
 | 0 => ⟨hr, h⟩
 | _ + 1 => ⟨fun _ => h, by rw [hr]; simp⟩
/-- one of M has come up: nothing is asked for any more -/
theorem Till.done {m : Nat} (hm : m ∈ M) (h : listed.getD m false = true) : Till M C listed w := fun hall => by rw [hall m hm] at h; cases h
end
end Go.Proofs.YtnnhopcjlnnchaaGreat

/- Copies: lists, records: both sides. -/
namespace Go.Proofs.YtnnhopcjlnnchaaGreat
open Go.RowKit

theorem row9_back {w : World} {b : Nat} {E : TypeId} {fr : Nat × Nat} {u0 u1 u2 u3 u4 u5 u6 u7 u8 : Value} (v0 v1 v2 v3 v4 v5 v6 v7 v8 : Value) (h : w.heap[b]? = some (.cells #[u0, u1, u2, u3, u4, u5, u6, u7, u8] E fr)) :
  (((((((((w.setCell ⟨b, 0, none⟩ (v0)).setCell ⟨b, 1, none⟩ (v1)).setCell ⟨b, 2, none⟩ (v2)).setCell ⟨b, 3, none⟩ (v3)).setCell ⟨b, 4, none⟩ (v4)).setCell ⟨b, 5, none⟩ (v5)).setCell ⟨b, 6, none⟩ (v6)).setCell ⟨b, 7, none⟩ (v7)).setCell ⟨b, 8, none⟩ (v8)).heap[b]? = some (.cells #[v0, v1, v2, v3, v4, v5, v6, v7, v8] E fr) := by
 have e : (((((((((w.setCell ⟨b, 0, none⟩ (v0)).setCell ⟨b, 1, none⟩ (v1)).setCell ⟨b, 2, none⟩ (v2)).setCell ⟨b, 3, none⟩ (v3)).setCell ⟨b, 4, none⟩ (v4)).setCell ⟨b, 5, none⟩ (v5)).setCell ⟨b, 6, none⟩ (v6)).setCell ⟨b, 7, none⟩ (v7)).setCell ⟨b, 8, none⟩ (v8)) = w.setCells b 0 [v0, v1, v2, v3, v4, v5, v6, v7, v8] := rfl
 rw [e, setCells_heap [v0, v1, v2, v3, v4, v5, v6, v7, v8] 0 w _ h]
 simp [setRow]
set_option maxHeartbeats 400000 in
theorem cpyB_any (a : Option Addr) (la ca : Nat) (xs : List UInt8) (f : List Nat) (w : World) (ha : byteL.sl w a la ca xs f) (hz : la ≤ 140737488355327) :
  Calls Tryz.prog 67 #[.slice a la ca] w (NewSl byteL xs w) := by
 obtain ⟨K, _⟩ := kindB
 have HA := Lib.hid ha
 have HZ := Lib.hid hz
 have hn := fun w => Lib.run_eql_slice_nil (P := Tryz.prog) w 30 5 a la ca 0 0 Tryz.underlying30
 clear ha hz
 cases a with
 | none =>
  obtain rfl : xs = [] := by apply List.eq_nil_of_length_eq_zero; have := HA.out.1; have := HA.out.2.1; have := HA.out.2.2.2.1 rfl; omega
  go_enter Tryz.func67, Tryz.ntmps67
  go_wp2
  go_ret
  exact ⟨none, 0, [], rfl, nil_sl0 _ _, Fresh.nil _ _, Chg.refl _ _⟩
 | some ad =>
  have HL : RowKit.Hid (([] : List UInt8).length + xs.length ≤ maxLen ∧ (([] : List UInt8).length + xs.length) * 1 ≤ 140737488355328) := by
   have := HA.out.1; have := HZ.out; have := Lay.sl_max _ HA.out
   refine ⟨?_, ?_⟩
   ·simp only [List.length_nil, maxLen]; omega
   ·simp only [List.length_nil, Nat.zero_add]; omega
  go_enter Tryz.func67, Tryz.ntmps67
  go_wp2_with (refine byteL.wpList_growS byte_flat rfl _ _ 30 rfl Tryz.underlying30 K rfl (Grow.made (Chg.refl [] w)) (Chg.refl [] _) rfl (byteL.sl_ext HA.out ((Chg.refl [] w).alloc _)) HL.out.1 HL.out.2 ?_; intro v' w' hg'; have hN := Lib.hid hg'; clear hg')
  go_ret
  obtain ⟨a', c', f', h1, h2, h3, h4⟩ := hN.out.sl
  exact ⟨a', c', f', by rw [h1]; rfl, h2, h3, h4⟩
set_option maxHeartbeats 400000 in
theorem cpyI_any (a : Option Addr) (la ca : Nat) (xs : List Int) (f : List Nat) (w : World) (ha : intL.sl w a la ca xs f) (hz : la ≤ 17592186044415) :
  Calls Tryz.prog 126 #[.slice a la ca] w (NewSl intL xs w) := by
 obtain ⟨K, _⟩ := kindI
 have HA := Lib.hid ha
 have HZ := Lib.hid hz
 have hn := fun w => Lib.run_eql_slice_nil (P := Tryz.prog) w 25 2 a la ca 0 0 Tryz.underlying25
 clear ha hz
 cases a with
 | none =>
  obtain rfl : xs = [] := by apply List.eq_nil_of_length_eq_zero; have := HA.out.1; have := HA.out.2.1; have := HA.out.2.2.2.1 rfl; omega
  go_enter Tryz.func126, Tryz.ntmps126
  go_wp2
  go_ret
  exact ⟨none, 0, [], rfl, nil_sl0 _ _, Fresh.nil _ _, Chg.refl _ _⟩
 | some ad =>
  have HL : RowKit.Hid (([] : List Int).length + xs.length ≤ maxLen ∧ (([] : List Int).length + xs.length) * 8 ≤ 140737488355328) := by
   have := HA.out.1; have := HZ.out; have := Lay.sl_max _ HA.out
   refine ⟨?_, ?_⟩
   ·simp only [List.length_nil, maxLen]; omega
   ·simp only [List.length_nil, Nat.zero_add]; omega
  go_enter Tryz.func126, Tryz.ntmps126
  go_wp2_with (refine intL.wpList_growS int_flat rfl _ _ 25 rfl Tryz.underlying25 K rfl (Grow.made (Chg.refl [] w)) (Chg.refl [] _) rfl (intL.sl_ext HA.out ((Chg.refl [] w).alloc _)) HL.out.1 HL.out.2 ?_; intro v' w' hg'; have hN := Lib.hid hg'; clear hg')
  go_ret
  obtain ⟨a', c', f', h1, h2, h3, h4⟩ := hN.out.sl
  exact ⟨a', c', f', by rw [h1]; rfl, h2, h3, h4⟩

set_option maxRecDepth 100000 in
set_option maxHeartbeats 2000000 in
theorem cloneRec_any (x : Rec) (cx : Array Value) (fx : List Nat) (w : World) (hx : recL.rep w cx.toList x fx) (hz : totRec x ≤ 1048576) :
  Calls Tryz.prog 152 #[.agg cx] w (NewAgg recL x w) := by
 obtain ⟨a6, l6, c6, f6, a7, l7, c7, f7, a8, l8, c8, f8, ex, o0, o1, o2, o3, o4, o5, h6, h7, h8, -⟩ := recL_iff.1 hx
 obtain rfl := Array.toList_inj.1 (ex.trans (List.toList_toArray).symm)
 have q6 := totIs_nonneg x.rows; have q7 := totBs_nonneg x.data; have q8 := totBs_nonneg x.delta
 unfold totRec totIs totBs at hz
 unfold totIs at q6; unfold totBs at q7 q8
 have z6 : l6 ≤ 1048576 := by rw [h6.1]; omega
 have z7 : l7 ≤ 1048576 := by rw [h7.1]; omega
 have z8 : l8 ≤ 1048576 := by rw [h8.1]; omega
 have HO := Lib.hid (And.intro o0 (And.intro o1 (And.intro o2 (And.intro o3 (And.intro o4 o5)))))
 have L6 := Lib.hid h6.1.symm; have L7 := Lib.hid h7.1.symm; have L8 := Lib.hid h8.1.symm
 have H6 := Lib.hid h6; have H7 := Lib.hid h7; have H8 := Lib.hid h8
 clear hx ex hz q6 q7 q8 o0 o1 o2 o3 o4 o5 h6 h7 h8
 have g0 : Chg [] w ((w.alloc (.cells #[.int .i64 x.kind, .int .i64 x.seq, .string x.name, .int .i64 x.length, .int .i64 x.group, .int .i64 x.row, .slice a6 l6 c6, .slice a7 l7 c7, .slice a8 l8 c8] 68)).alloc (.cells #[.int .i64 0, .int .i64 0, .string ⟨#[]⟩, .int .i64 0, .int .i64 0, .int .i64 0, .slice none 0 0, .slice none 0 0, .slice none 0 0] 68)).drew := (((Chg.refl [] w).alloc _).alloc _).drew
 have B1 := Lib.hid (show ((w.alloc (.cells #[.int .i64 x.kind, .int .i64 x.seq, .string x.name, .int .i64 x.length, .int .i64 x.group, .int .i64 x.row, .slice a6 l6 c6, .slice a7 l7 c7, .slice a8 l8 c8] 68)).alloc (.cells #[.int .i64 0, .int .i64 0, .string ⟨#[]⟩, .int .i64 0, .int .i64 0, .int .i64 0, .slice none 0 0, .slice none 0 0, .slice none 0 0] 68)).drew.heap[w.heap.size]? = some (.cells #[.int .i64 x.kind, .int .i64 x.seq, .string x.name, .int .i64 x.length, .int .i64 x.group, .int .i64 x.row, .slice a6 l6 c6, .slice a7 l7 c7, .slice a8 l8 c8] 68 (0, 0)) from keep_drew (keep_alloc (new_alloc w _) _))
 have B2 := Lib.hid (show ((w.alloc (.cells #[.int .i64 x.kind, .int .i64 x.seq, .string x.name, .int .i64 x.length, .int .i64 x.group, .int .i64 x.row, .slice a6 l6 c6, .slice a7 l7 c7, .slice a8 l8 c8] 68)).alloc (.cells #[.int .i64 0, .int .i64 0, .string ⟨#[]⟩, .int .i64 0, .int .i64 0, .int .i64 0, .slice none 0 0, .slice none 0 0, .slice none 0 0] 68)).drew.heap[w.heap.size + 1]? = some (.cells #[.int .i64 0, .int .i64 0, .string ⟨#[]⟩, .int .i64 0, .int .i64 0, .int .i64 0, .slice none 0 0, .slice none 0 0, .slice none 0 0] 68 (0, 0)) from keep_drew (new_at (by simp) _))
 have hs0 : ((w.alloc (.cells #[.int .i64 x.kind, .int .i64 x.seq, .string x.name, .int .i64 x.length, .int .i64 x.group, .int .i64 x.row, .slice a6 l6 c6, .slice a7 l7 c7, .slice a8 l8 c8] 68)).alloc (.cells #[.int .i64 0, .int .i64 0, .string ⟨#[]⟩, .int .i64 0, .int .i64 0, .int .i64 0, .slice none 0 0, .slice none 0 0, .slice none 0 0] 68)).drew.heap.size = w.heap.size + 2 := by simp [World.drew]
 have G0 := Lib.hid g0
 have HS0 := Lib.hid hs0
 clear g0 hs0
 go_enter Tryz.func152, Tryz.ntmps152
 go_wp2_with fail
 obtain ⟨CC, HCI, HCO⟩ := rg_cond (fun w' => Know w.heap.size #[.int .i64 x.kind, .int .i64 x.seq, .string x.name, .int .i64 x.length, .int .i64 x.group, .int .i64 x.row, .slice a6 l6 c6, .slice a7 l7 c7, .slice a8 l8 c8] w')
 refine gg_start [10] CC (by kernel_rfl) (HCI.out _ (Know.of B1.out)) (fun hcl hS => ?_)
 refine ggT 0 hcl hS ?_; clear hcl hS; intro hcl hS
 refine ggL 1 hcl hS HCO ?_; clear hcl hS; intro hcl hS
 refine ggT 3 hcl hS ?_; clear hcl hS; intro hcl hS
 refine ggL 4 hcl hS HCO ?_; clear hcl hS; intro hcl hS
 refine ggT 6 hcl hS ?_; clear hcl hS; intro hcl hS
 refine ggL 7 hcl hS HCO ?_; clear hcl hS; intro hcl hS
 refine ggC 2 hcl rfl (by kernel_rfl) (fun K hK => ?_)
 go_simp
 go_at_call 126
 refine (cpyI_any a6 l6 c6 x.rows f6 _ (intL.sl_ext H6.out G0.out) (by omega)).mono ?_; rintro e w1 ⟨p6, d6, g6, rfl, hs, hf, hc⟩
 rw [L6.out] at hs ⊢; have HN1 := Lib.hid (And.intro hs (And.intro hf hc)); obtain ⟨-, -, A1⟩ := bk hc B1.out (by simp); obtain ⟨-, -, A2⟩ := bk hc B2.out (by simp); clear hs hf hc
 go_wp2_with fail
 refine hK.out _ _ (fun _ => HCI.out _ (Know.of A1.out)) ?_
 clear hK K hcl hS
 intro hcl hS
 try simp only [Act.put, List.setIfInBounds_toArray, List.set_cons_zero, List.set_cons_succ]
 refine ggT 9 hcl hS ?_; clear hcl hS; intro hcl hS
 refine ggC 5 hcl rfl (by kernel_rfl) (fun K hK => ?_)
 go_simp
 go_at_call 67
 refine (cpyB_any a7 l7 c7 x.data f7 _ (byteL.sl_ext H7.out (G0.out.trans0 HN1.out.2.2)) (by omega)).mono ?_; rintro e w2 ⟨p7, d7, g7, rfl, hs, hf, hc⟩
 rw [L7.out] at hs ⊢; have HN2 := Lib.hid (And.intro hs (And.intro hf hc)); obtain ⟨-, -, A3⟩ := bk hc A1.out (by simp); obtain ⟨-, -, A4⟩ := bk hc A2.out (by simp); clear hs hf hc
 go_wp2_with fail
 refine hK.out _ _ (fun _ => HCI.out _ (Know.of A3.out)) ?_
 clear hK K hcl hS
 intro hcl hS
 try simp only [Act.put, List.setIfInBounds_toArray, List.set_cons_zero, List.set_cons_succ]
 refine ggC 8 hcl rfl (by kernel_rfl) (fun K hK => ?_)
 go_simp
 go_at_call 67
 refine (cpyB_any a8 l8 c8 x.delta f8 _ (byteL.sl_ext H8.out ((G0.out.trans0 HN1.out.2.2).trans0 HN2.out.2.2)) (by omega)).mono ?_; rintro e w3 ⟨p8, d8, g8, rfl, hs, hf, hc⟩
 rw [L8.out] at hs ⊢; have HN3 := Lib.hid (And.intro hs (And.intro hf hc)); obtain ⟨e1, n1, A5⟩ := bk hc A3.out (by simp); obtain ⟨e2, n2, A6⟩ := bk hc A4.out (by simp); have fz := freeOf A5.out; have fy := freeOf A6.out; clear hs hf hc
 go_wp2_with fail
 refine hK.out _ _ (fun _ => HCI.out _ (Know.of A5.out)) ?_
 clear hK K hcl hS
 intro hcl hS
 try simp only [Act.put, List.setIfInBounds_toArray, List.set_cons_zero, List.set_cons_succ]
 refine ggC 10 hcl rfl (by kernel_rfl) (fun K hK => ?_)
 go_simp
 refine hK.out _ _ (Till.done (m := 10) (by simp) (by rfl)) ?_
 clear hK K hcl hS
 intro hcl hS
 try simp only [Act.put, List.setIfInBounds_toArray, List.set_cons_zero, List.set_cons_succ]
 refine ggT 11 hcl hS ?_; clear hcl hS; intro hcl hS
 refine ggC 12 hcl rfl (by kernel_rfl) (fun K hK => ?_)
 go_simp
 refine hK.out _ _ (Till.done (m := 10) (by simp) (by rfl)) ?_
 clear hK K hcl hS
 intro hcl hS
 try simp only [Act.put, List.setIfInBounds_toArray, List.set_cons_zero, List.set_cons_succ]
 refine ggT 13 hcl hS ?_; clear hcl hS; intro hcl hS
 refine ggC 14 hcl rfl (by kernel_rfl) (fun K hK => ?_)
 go_simp
 refine hK.out _ _ (Till.done (m := 10) (by simp) (by rfl)) ?_
 clear hK K hcl hS
 intro hcl hS
 try simp only [Act.put, List.setIfInBounds_toArray, List.set_cons_zero, List.set_cons_succ]
 refine ggEnd (by kernel_rfl) ?_ _
 go_wp2_with fail
 have hb1 : (((w3.setCell ⟨w.heap.size, 6, none⟩ (.slice p6 l6 d6)).setCell ⟨w.heap.size, 7, none⟩ (.slice p7 l7 d7)).setCell ⟨w.heap.size, 8, none⟩ (.slice p8 l8 d8)).heap[w.heap.size + 1]? = some (.cells #[.int .i64 0, .int .i64 0, .string ⟨#[]⟩, .int .i64 0, .int .i64 0, .int .i64 0, .slice none 0 0, .slice none 0 0, .slice none 0 0] 68 (0, 0)) := keep_set (keep_set (keep_set A6.out _ _ (by simp)) _ _ (by simp)) _ _ (by simp)
 have hq : ((((((((((((w3.setCell ⟨w.heap.size, 6, none⟩ (.slice p6 l6 d6)).setCell ⟨w.heap.size, 7, none⟩ (.slice p7 l7 d7)).setCell ⟨w.heap.size, 8, none⟩ (.slice p8 l8 d8)).setCell ⟨w.heap.size + 1, 0, none⟩ (.int .i64 x.kind)).setCell ⟨w.heap.size + 1, 1, none⟩ (.int .i64 x.seq)).setCell ⟨w.heap.size + 1, 2, none⟩ (.string x.name)).setCell ⟨w.heap.size + 1, 3, none⟩ (.int .i64 x.length)).setCell ⟨w.heap.size + 1, 4, none⟩ (.int .i64 x.group)).setCell ⟨w.heap.size + 1, 5, none⟩ (.int .i64 x.row)).setCell ⟨w.heap.size + 1, 6, none⟩ (.slice p6 l6 d6)).setCell ⟨w.heap.size + 1, 7, none⟩ (.slice p7 l7 d7)).setCell ⟨w.heap.size + 1, 8, none⟩ (.slice p8 l8 d8)).heap[w.heap.size + 1]? = some (.cells #[.int .i64 x.kind, .int .i64 x.seq, .string x.name, .int .i64 x.length, .int .i64 x.group, .int .i64 x.row, .slice p6 l6 d6, .slice p7 l7 d7, .slice p8 l8 d8] 68 (0, 0)) := by
  have h := row9_back (.int .i64 x.kind) (.int .i64 x.seq) (.string x.name) (.int .i64 x.length) (.int .i64 x.group) (.int .i64 x.row) (.slice p6 l6 d6) (.slice p7 l7 d7) (.slice p8 l8 d8) hb1
  exact h
 have hqc := cellsOf hq
 have s1 := HN1.out.2.2.size; have s2 := HN2.out.2.2.size; have s3 := HN3.out.2.2.size
 rw [HS0.out] at s1
 have cS : Chg [w.heap.size, w.heap.size + 1] w3 ((((((((((((w3.setCell ⟨w.heap.size, 6, none⟩ (.slice p6 l6 d6)).setCell ⟨w.heap.size, 7, none⟩ (.slice p7 l7 d7)).setCell ⟨w.heap.size, 8, none⟩ (.slice p8 l8 d8)).setCell ⟨w.heap.size + 1, 0, none⟩ (.int .i64 x.kind)).setCell ⟨w.heap.size + 1, 1, none⟩ (.int .i64 x.seq)).setCell ⟨w.heap.size + 1, 2, none⟩ (.string x.name)).setCell ⟨w.heap.size + 1, 3, none⟩ (.int .i64 x.length)).setCell ⟨w.heap.size + 1, 4, none⟩ (.int .i64 x.group)).setCell ⟨w.heap.size + 1, 5, none⟩ (.int .i64 x.row)).setCell ⟨w.heap.size + 1, 6, none⟩ (.slice p6 l6 d6)).setCell ⟨w.heap.size + 1, 7, none⟩ (.slice p7 l7 d7)).setCell ⟨w.heap.size + 1, 8, none⟩ (.slice p8 l8 d8)) := by
  iterate 12 refine Chg.setCell ?_ _ _ (.inl (by simp))
  exact Chg.refl _ _
 have nb : ∀ g (B : Nat) (W : World), w.heap.size + 2 ≤ B → Fresh B W g → ∀ b ∈ g, b ∉ [w.heap.size, w.heap.size + 1] := fun g B W hB hf b hb hm => by
  have := (hf.2 b hb).1
  simp only [List.mem_cons, List.not_mem_nil, or_false] at hm
  omega
 have n6 := nb g6 _ _ (by rw [HS0.out]; exact Nat.le_refl _) HN1.out.2.1
 have n7 := nb g7 _ _ (by omega) HN2.out.2.1
 have n8 := nb g8 _ _ (by omega) HN3.out.2.1
 have K6 := intL.sl_chg (intL.sl_ext (intL.sl_ext HN1.out.1 HN2.out.2.2) HN3.out.2.2) cS n6
 have K7 := byteL.sl_chg (byteL.sl_ext HN2.out.1 HN3.out.2.2) cS n7
 have K8 := byteL.sl_chg HN3.out.1 cS n8
 have F6 := ((HN1.out.2.1.chg HN2.out.2.2).chg HN3.out.2.2).chg cS
 have F7 := (HN2.out.2.1.chg HN3.out.2.2).chg cS
 have F8 := HN3.out.2.1.chg cS
 have l6' := HN1.out.2.1.low (Nat.le_refl _); have l7' := HN2.out.2.1.low (Nat.le_refl _)
 have hfr := (F6.append (F7.append F8 l7' (by omega)) l6' (by rw [HS0.out]; omega)).mono (C := w.heap.size) (by rw [HS0.out]; omega)
 have hch : Chg [] w ((((((((((((w3.setCell ⟨w.heap.size, 6, none⟩ (.slice p6 l6 d6)).setCell ⟨w.heap.size, 7, none⟩ (.slice p7 l7 d7)).setCell ⟨w.heap.size, 8, none⟩ (.slice p8 l8 d8)).setCell ⟨w.heap.size + 1, 0, none⟩ (.int .i64 x.kind)).setCell ⟨w.heap.size + 1, 1, none⟩ (.int .i64 x.seq)).setCell ⟨w.heap.size + 1, 2, none⟩ (.string x.name)).setCell ⟨w.heap.size + 1, 3, none⟩ (.int .i64 x.length)).setCell ⟨w.heap.size + 1, 4, none⟩ (.int .i64 x.group)).setCell ⟨w.heap.size + 1, 5, none⟩ (.int .i64 x.row)).setCell ⟨w.heap.size + 1, 6, none⟩ (.slice p6 l6 d6)).setCell ⟨w.heap.size + 1, 7, none⟩ (.slice p7 l7 d7)).setCell ⟨w.heap.size + 1, 8, none⟩ (.slice p8 l8 d8)) := (((G0.out.trans0 HN1.out.2.2).trans0 HN2.out.2.2).trans0 HN3.out.2.2).trans cS (fun y hy => .inr (by simp only [List.mem_cons, List.not_mem_nil, or_false] at hy; omega))
 refine bodyPost_ret (v := .agg #[.int .i64 x.kind, .int .i64 x.seq, .string x.name, .int .i64 x.length, .int .i64 x.group, .int .i64 x.row, .slice p6 l6 d6, .slice p7 l7 d7, .slice p8 l8 d8]) (by simp [results, Tryz.results152, go_sem, hqc]) rfl ⟨_, _, rfl, recL_iff.2 ⟨p6, l6, d6, g6, p7, l7, d7, g7, p8, l8, d8, g8, rfl, HO.out.1, HO.out.2.1, HO.out.2.2.1, HO.out.2.2.2.1, HO.out.2.2.2.2.1, HO.out.2.2.2.2.2, K6, K7, K8, rfl⟩, hfr, hch⟩
end Go.Proofs.YtnnhopcjlnnchaaGreat

/- Copies: lists of records, drives: the program. -/
namespace Go.Proofs.YtnnhopcjlnnchaaGreat
open Go.RowKit

theorem row2_back {w : World} {b : Nat} {E : TypeId} {fr : Nat × Nat} {u0 u1 : Value} (v0 v1 : Value) (h : w.heap[b]? = some (.cells #[u0, u1] E fr)) :
  ((w.setCell ⟨b, 0, none⟩ v0).setCell ⟨b, 1, none⟩ v1).heap[b]? = some (.cells #[v0, v1] E fr) := by
 have e : ((w.setCell ⟨b, 0, none⟩ v0).setCell ⟨b, 1, none⟩ v1) = w.setCells b 0 [v0, v1] := rfl
 rw [e, setCells_heap [v0, v1] 0 w _ h]
 simp [setRow]
set_option maxRecDepth 100000 in
set_option maxHeartbeats 4000000 in
theorem cloneDrive_any (x : Drv) (cx : Array Value) (fx : List Nat) (w : World) (hx : drvL.rep w cx.toList x fx) (hz : totDrv x ≤ 1048576) :
  Calls Tryz.prog 127 #[.agg cx] w (NewAgg drvL x w) := by
 obtain ⟨KB, _⟩ := kindBlock
 obtain ⟨a1, l1, c1, f1, ex, h1, -⟩ := drvL_iff.1 hx
 obtain rfl := Array.toList_inj.1 (ex.trans (List.toList_toArray).symm)
 have hz1 : totL totBlk x.blocks ≤ 1048576 := hz
 have hlz : l1 ≤ 1048576 := by have := totL_len totBlk_nonneg x.blocks; rw [h1.1]; omega
 have HL := Lib.hid h1.1
 have H1 := Lib.hid h1
 have HZ := Lib.hid (fun b hb => Int.le_trans (totL_mem totBlk_nonneg hb) hz1 : ∀ b ∈ x.blocks, totBlk b ≤ 1048576)
 clear hx ex hz hz1 h1
 go_enter Tryz.func127, Tryz.ntmps127
 go_wp2_with fail
 go_loopw [12] (fun vi wr => ∃ (k : Nat) (v : Value) (Wr : World), Wr = wr ∧ k ≤ l1 ∧ vi = .int .i64 k ∧ GrowC blkL 32 (w.heap.size + 3) wr v (x.blocks.take k) ∧ wr.heap[w.heap.size + 1]? = some (.cells #[.bool false, .slice none 0 0] 81 (0, 0)) ∧ wr.heap[w.heap.size + 2]? = some (.cells #[.bool x.wiped, v] 81 (0, 0)) ∧ Chg [] w wr) (fun vi _ => l1 - (intOf vi).toNat)
 case atStart => exact ⟨0, _, _, rfl, by omega, rfl, by rw [List.take_zero]; exact GrowC.nil (by simp), keep_alloc (new_at (by simp) _) _, new_at (by simp) _, (((Chg.refl [] w).alloc _).alloc _).alloc _⟩
 case round =>
  obtain ⟨k, v, wr, rfl, hk, rfl, hg, hb1, hb2, hc⟩ := hrel
  have cb2 := cellsOf hb2; have lb2 := ltOf hb2
  have HB1 := Lib.hid hb1; have HB2 := Lib.hid hb2; have HC := Lib.hid hc
  by_cases hlt : k < l1
  ·obtain ⟨y, b, off, a2, l2, c2, f2, HY, rfl, hy0, hy1, HYS⟩ := block_at (blkL.sl_ext H1.out hc) hlt
   have HG := Lib.hid hg
   have HYI := Lib.hid HY.out.1
   obtain ⟨_, _, _, _, exb, hok, hby, -⟩ := blkL_iff.1 HYS.out
   obtain ⟨q1, q2, q3⟩ := Value.slice.inj (List.cons.inj (List.cons.inj exb).2).1
   subst q1 q2 q3
   have hl2 : l2 ≤ 1048576 := by have := HZ.out y (List.mem_of_getElem? HYI.out); unfold totBlk totBs at this; rw [hby.1]; omega
   have HBY := Lib.hid hby; have HOK := Lib.hid hok
   have LB := Lib.hid hby.1.symm
   clear hg hb1 hb2 hc HY exb hok hby HYS
   go_wp2_with fail
   have D1 := Lib.hid (show (wr.alloc (.cells #[.int .i64 y.stamp, .slice a2 l2 c2] 32)).drew.heap[w.heap.size + 2]? = some (.cells #[.bool x.wiped, v] 81 (0, 0)) from keep_drew (keep_alloc HB2.out _))
   have D2 := Lib.hid (show (wr.alloc (.cells #[.int .i64 y.stamp, .slice a2 l2 c2] 32)).drew.heap[wr.heap.size]? = some (.cells #[.int .i64 y.stamp, .slice a2 l2 c2] 32 (0, 0)) from keep_drew (new_alloc wr _))
   have G0 := Lib.hid (((Chg.refl [] wr).alloc (.cells #[.int .i64 y.stamp, .slice a2 l2 c2] 32)).drew)
   have HLL : RowKit.Hid ((x.blocks.take k).length + [y].length ≤ maxLen ∧ ((x.blocks.take k).length + [y].length) * 32 ≤ 140737488355328) := by
    refine ⟨?_, ?_⟩ <;> simp only [List.length_take, List.length_cons, List.length_nil, maxLen] <;> omega
   have HNX := Lib.hid (take_next HYI.out)
   obtain ⟨CC, HCI, HCO⟩ := rg_cond (fun w' => Know (w.heap.size + 2) #[.bool x.wiped, v] w' ∧ Know wr.heap.size #[.int .i64 y.stamp, .slice a2 l2 c2] w')
   refine gg_start [9] CC (by kernel_rfl) (HCI.out _ ⟨(Know.of D1.out), (Know.of D2.out)⟩) (fun hcl hS => ?_)
   refine ggT 0 hcl hS ?_; clear hcl hS; intro hcl hS
   refine ggL 1 hcl hS HCO ?_; clear hcl hS; intro hcl hS
   refine ggT 2 hcl hS ?_; clear hcl hS; intro hcl hS
   refine ggL 3 hcl hS HCO ?_; clear hcl hS; intro hcl hS
   refine ggT 4 hcl hS ?_; clear hcl hS; intro hcl hS
   refine ggL 5 hcl hS HCO ?_; clear hcl hS; intro hcl hS
   refine ggC 6 hcl rfl (by kernel_rfl) (fun K hK => ?_)
   go_simp
   go_at_call 67
   refine (cpyB_any a2 l2 c2 y.bytes _ _ (byteL.sl_ext HBY.out G0.out) (by omega)).mono ?_; rintro e w1 ⟨p2, d2, g2, rfl, hs, hf, hc⟩
   rw [LB.out] at hs ⊢; have HN1 := Lib.hid (And.intro hs (And.intro (hf.mono (C := wr.heap.size) (by simp [World.drew])) (G0.out.trans0 hc))); obtain ⟨-, -, E1⟩ := bk hc D1.out (by simp); obtain ⟨-, -, E2⟩ := bk hc D2.out (by simp); clear hs hf hc
   go_wp2_with fail
   refine hK.out _ _ (fun _ => HCI.out _ ⟨(Know.of E1.out), (Know.of E2.out)⟩) ?_
   clear hK K hcl hS
   intro hcl hS
   try simp only [Act.put, List.setIfInBounds_toArray, List.set_cons_zero, List.set_cons_succ]
   refine ggT 7 hcl hS ?_; clear hcl hS; intro hcl hS
   refine ggC 8 hcl rfl (by kernel_rfl) (fun K hK => ?_)
   go_simp
   refine hK.out _ _ (fun _ => HCI.out _ ⟨(Know.of (keep_alloc E1.out _)), (Know.of (keep_alloc E2.out _))⟩) ?_
   clear hK K hcl hS
   intro hcl hS
   try simp only [Act.put, List.setIfInBounds_toArray, List.set_cons_zero, List.set_cons_succ]
   refine ggC 9 hcl rfl (by kernel_rfl) (fun K hK => ?_)
   refine GrowB.step rfl _ _ 79 rfl Tryz.underlying79 KB rfl (HG.out.b.ext (HN1.out.2.2.alloc (.cells #[.int .i64 y.stamp, .slice p2 l2 d2] 32))) ⟨w1.heap.size, 0, none⟩ 1 1 [.int .i64 y.stamp, .slice p2 l2 d2] (ys := [y]) (f := g2) rfl rfl (new_cells w1 #[.int .i64 y.stamp, .slice p2 l2 d2] 32) (blkL.all_single (blkL_iff.2 ⟨p2, l2, d2, g2, rfl, HOK.out, byteL.sl_ext HN1.out.1 ((Chg.refl [] w1).alloc _), rfl⟩)) (HN1.out.2.1.chg ((Chg.refl [] w1).alloc _)) HLL.out.1 HLL.out.2 ?_
   intro v' w2 hg' hup
   rw [← HNX.out] at hg'
   obtain ⟨pv, lv, cv, rfl⟩ : ∃ a l c, v' = Value.slice a l c := by obtain ⟨a, c, f, h, -⟩ := hg'.sl; exact ⟨a, _, c, h⟩
   have HG2 := Lib.hid hg'; have HU := Lib.hid hup
   have E3 := Lib.hid ((hup.low (w.heap.size + 2) (by omega)).trans (keep_alloc E1.out _)); have E4 := Lib.hid ((hup.low (w.heap.size + 1) (by omega)).trans (keep_alloc (HN1.out.2.2.keep0 HB1.out) _)); have e3 := cellsOf E3.out; have n3 := ltOf E3.out; have z3 := freeOf E3.out; clear hg' hup
   refine hK.out _ _ (Till.done (m := 9) (by simp) (by rfl)) ?_
   clear hK K hcl hS
   intro hcl hS
   try simp only [Act.put, List.setIfInBounds_toArray, List.set_cons_zero, List.set_cons_succ]
   refine ggT 10 hcl hS ?_; clear hcl hS; intro hcl hS
   refine ggC 11 hcl rfl (by kernel_rfl) (fun K hK => ?_)
   go_simp
   refine hK.out _ _ (Till.done (m := 9) (by simp) (by rfl)) ?_
   clear hK K hcl hS
   intro hcl hS
   try simp only [Act.put, List.setIfInBounds_toArray, List.set_cons_zero, List.set_cons_succ]
   refine ggEnd (by kernel_rfl) ?_ _
   have hw2 : wr.heap.size ≤ w2.heap.size := Nat.le_trans HN1.out.2.2.size (Nat.le_trans (by simp) HU.out.size)
   have lw : w.heap.size + 3 ≤ wr.heap.size := HG.out.1
   have r1 := HG2.out.chg ((Chg.refl [w.heap.size + 2] w2).setCell ⟨w.heap.size + 2, 1, none⟩ (.slice pv lv cv) (.inl (by simp))) (by simp)
   have r2 := keep_set E4.out ⟨w.heap.size + 2, 1, none⟩ (.slice pv lv cv) (by simp)
   have r3 : (w2.setCell ⟨w.heap.size + 2, 1, none⟩ (.slice pv lv cv)).heap[w.heap.size + 2]? = some (.cells #[.bool x.wiped, (.slice pv lv cv)] 81 (0, 0)) := heap_set_lit (cur := #[.bool x.wiped, v]) E3.out rfl
   have r4 := (HU.out.chg ((HC.out.trans0 HN1.out.2.2).alloc (.cells #[.int .i64 y.stamp, .slice p2 l2 d2] 32)) (by omega)).setCell ⟨w.heap.size + 2, 1, none⟩ (.slice pv lv cv) (.inr (by simp))
   have HR := Lib.hid (And.intro r1 (And.intro r2 (And.intro r3 r4)))
   clear r1 r2 r3 r4
   go_wp2_with fail
   go_roundw
   case rel => exact ⟨k + 1, (.slice pv lv cv), _, rfl, by omega, by go_num, HR.out.1, HR.out.2.1, HR.out.2.2.1, HR.out.2.2.2⟩
   case measure => simp [intOf]; omega
  ·obtain rfl : k = l1 := by omega
   rw [List.take_of_length_le (by have := HL.out; omega)] at hg
   obtain ⟨p1, d1, g1, rfl, hs, hf⟩ := hg.sl
   rw [← HL.out] at hs hb2 HB2 cb2
   have hlb1 := ltOf hb1; have fz := freeOf hb1; have cb1 := cellsOf hb1
   have hq := row2_back (.bool x.wiped) (.slice p1 k d1) hb1
   have hqc := cellsOf hq
   have cS : Chg [w.heap.size + 1] wr ((wr.setCell ⟨w.heap.size + 1, 0, none⟩ (.bool x.wiped)).setCell ⟨w.heap.size + 1, 1, none⟩ (.slice p1 k d1)) := ((Chg.refl _ wr).setCell _ _ (.inl (by simp))).setCell _ _ (.inl (by simp))
   have hns : ∀ y ∈ g1, y ∉ [w.heap.size + 1] := fun y hy hm => by have := (hf.2 y hy).1; rw [List.mem_singleton] at hm; omega
   have K1 := blkL.sl_chg hs cS hns
   have F1 := (hf.mono (C := w.heap.size) (by omega)).chg cS
   have hch := hc.trans cS (fun y hy => .inr (by rw [List.mem_singleton] at hy; omega))
   have HN := Lib.hid (show NewAgg drvL x w (.returned (.agg #[.bool x.wiped, .slice p1 k d1])) _ from ⟨_, _, rfl, drvL_iff.2 ⟨p1, k, d1, g1, rfl, K1, rfl⟩, F1, hch⟩)
   have HQC := Lib.hid hqc
   clear hs hf hb1 hb2 hc hg hq hqc cS hns K1 F1 hch HB1 HB2
   go_wp2_with fail
   have hqc := HQC.out
   refine bodyPost_ret (v := .agg #[.bool x.wiped, .slice p1 k d1]) (by simp [results, Tryz.results127, go_sem, hqc]) rfl HN.out
end Go.Proofs.YtnnhopcjlnnchaaGreat

/- Copies: records, blocks: the specification. -/
namespace Go.Proofs.YtnnhopcjlnnchaaGreat
open Go.RowKit

set_option maxRecDepth 100000 in
set_option maxHeartbeats 2000000 in
theorem l5CopyRec_any (x : Rec) (cx : Array Value) (fx : List Nat) (w : World) (hx : recL.rep w cx.toList x fx) (hz : totRec x ≤ 1048576) :
  Calls Tryz.prog 102 #[.agg cx] w (NewAgg recL x w) := by
 obtain ⟨KI, _⟩ := kindI
 obtain ⟨KB, _⟩ := kindB
 obtain ⟨a6, l6, c6, f6, a7, l7, c7, f7, a8, l8, c8, f8, ex, o0, o1, o2, o3, o4, o5, h6, h7, h8, -⟩ := recL_iff.1 hx
 obtain rfl := Array.toList_inj.1 (ex.trans (List.toList_toArray).symm)
 have q6 := totIs_nonneg x.rows; have q7 := totBs_nonneg x.data; have q8 := totBs_nonneg x.delta
 unfold totRec totIs totBs at hz
 unfold totIs at q6; unfold totBs at q7 q8
 have z6 : l6 ≤ 1048576 := by rw [h6.1]; omega
 have z7 : l7 ≤ 1048576 := by rw [h7.1]; omega
 have z8 : l8 ≤ 1048576 := by rw [h8.1]; omega
 have HO := Lib.hid (And.intro o0 (And.intro o1 (And.intro o2 (And.intro o3 (And.intro o4 o5)))))
 have L6 := Lib.hid h6.1.symm; have L7 := Lib.hid h7.1.symm; have L8 := Lib.hid h8.1.symm
 have H6 := Lib.hid h6; have H7 := Lib.hid h7; have H8 := Lib.hid h8
 clear hx ex hz q6 q7 q8 o0 o1 o2 o3 o4 o5 h6 h7 h8
 have G0 := Lib.hid (show Chg [] w ((w.alloc (.cells #[.int .i64 x.kind, .int .i64 x.seq, .string x.name, .int .i64 x.length, .int .i64 x.group, .int .i64 x.row, .slice a6 l6 c6, .slice a7 l7 c7, .slice a8 l8 c8] 68)).alloc (.cells #[.int .i64 0, .int .i64 0, .string ⟨#[]⟩, .int .i64 0, .int .i64 0, .int .i64 0, .slice none 0 0, .slice none 0 0, .slice none 0 0] 68)) from ((Chg.refl [] w).alloc _).alloc _)
 have A0 := Lib.hid (show ((w.alloc (.cells #[.int .i64 x.kind, .int .i64 x.seq, .string x.name, .int .i64 x.length, .int .i64 x.group, .int .i64 x.row, .slice a6 l6 c6, .slice a7 l7 c7, .slice a8 l8 c8] 68)).alloc (.cells #[.int .i64 0, .int .i64 0, .string ⟨#[]⟩, .int .i64 0, .int .i64 0, .int .i64 0, .slice none 0 0, .slice none 0 0, .slice none 0 0] 68)).heap[w.heap.size]? = some (.cells #[.int .i64 x.kind, .int .i64 x.seq, .string x.name, .int .i64 x.length, .int .i64 x.group, .int .i64 x.row, .slice a6 l6 c6, .slice a7 l7 c7, .slice a8 l8 c8] 68 (0, 0)) from keep_alloc (new_alloc w _) _)
 have B0 := Lib.hid (show ((w.alloc (.cells #[.int .i64 x.kind, .int .i64 x.seq, .string x.name, .int .i64 x.length, .int .i64 x.group, .int .i64 x.row, .slice a6 l6 c6, .slice a7 l7 c7, .slice a8 l8 c8] 68)).alloc (.cells #[.int .i64 0, .int .i64 0, .string ⟨#[]⟩, .int .i64 0, .int .i64 0, .int .i64 0, .slice none 0 0, .slice none 0 0, .slice none 0 0] 68)).heap[w.heap.size + 1]? = some (.cells #[.int .i64 0, .int .i64 0, .string ⟨#[]⟩, .int .i64 0, .int .i64 0, .int .i64 0, .slice none 0 0, .slice none 0 0, .slice none 0 0] 68 (0, 0)) from new_at (by simp) _)
 have S0 := Lib.hid (show w.heap.size + 2 ≤ ((w.alloc (.cells #[.int .i64 x.kind, .int .i64 x.seq, .string x.name, .int .i64 x.length, .int .i64 x.group, .int .i64 x.row, .slice a6 l6 c6, .slice a7 l7 c7, .slice a8 l8 c8] 68)).alloc (.cells #[.int .i64 0, .int .i64 0, .string ⟨#[]⟩, .int .i64 0, .int .i64 0, .int .i64 0, .slice none 0 0, .slice none 0 0, .slice none 0 0] 68)).heap.size by simp)
 have HL6 : RowKit.Hid (([] : List Int).length + x.rows.length ≤ maxLen ∧ (([] : List Int).length + x.rows.length) * 8 ≤ 140737488355328) := by
  have := L6.out
  refine ⟨?_, ?_⟩ <;> simp only [List.length_nil, maxLen] <;> omega
 have HL7 : RowKit.Hid (([] : List UInt8).length + x.data.length ≤ maxLen ∧ (([] : List UInt8).length + x.data.length) * 1 ≤ 140737488355328) := by
  have := L7.out
  refine ⟨?_, ?_⟩ <;> simp only [List.length_nil, maxLen] <;> omega
 have HL8 : RowKit.Hid (([] : List UInt8).length + x.delta.length ≤ maxLen ∧ (([] : List UInt8).length + x.delta.length) * 1 ≤ 140737488355328) := by
  have := L8.out
  refine ⟨?_, ?_⟩ <;> simp only [List.length_nil, maxLen] <;> omega
 go_enter Tryz.func102, Tryz.ntmps102
 go_wp2_with (at_builtin; first | (refine intL.wpList_growS int_flat rfl _ _ 25 rfl Tryz.underlying25 KI rfl (Grow.madeN (Chg.refl [] ((w.alloc (.cells #[.int .i64 x.kind, .int .i64 x.seq, .string x.name, .int .i64 x.length, .int .i64 x.group, .int .i64 x.row, .slice a6 l6 c6, .slice a7 l7 c7, .slice a8 l8 c8] 68)).alloc (.cells #[.int .i64 0, .int .i64 0, .string ⟨#[]⟩, .int .i64 0, .int .i64 0, .int .i64 0, .slice none 0 0, .slice none 0 0, .slice none 0 0] 68))) (by simp)) (Chg.refl [] _) rfl (intL.sl_ext H6.out (G0.out.alloc _)) HL6.out.1 HL6.out.2 ?_; intro v' w1 hg'; obtain ⟨p6, d6, g6, rfl, hs, hf, hc⟩ := hg'.sl; rw [List.nil_append, L6.out] at hs hg' ⊢; obtain ⟨e1, n1, A1'⟩ := bk hc A0.out (by simp); obtain ⟨-, -, B1'⟩ := bk hc B0.out (by simp); have fz1 := freeOf A1'.out; have A1 := Lib.hid (show (w1.setCell ⟨w.heap.size, 6, none⟩ (.slice p6 l6 d6)).heap[w.heap.size]? = some (.cells #[.int .i64 x.kind, .int .i64 x.seq, .string x.name, .int .i64 x.length, .int .i64 x.group, .int .i64 x.row, .slice p6 l6 d6, .slice a7 l7 c7, .slice a8 l8 c8] 68 (0, 0)) from heap_set_lit (cur := #[.int .i64 x.kind, .int .i64 x.seq, .string x.name, .int .i64 x.length, .int .i64 x.group, .int .i64 x.row, .slice a6 l6 c6, .slice a7 l7 c7, .slice a8 l8 c8]) A1'.out rfl); have B1 := Lib.hid (keep_set B1'.out ⟨w.heap.size, 6, none⟩ (.slice p6 l6 d6) (by simp)); have G1 := Lib.hid ((G0.out.trans0 hc).setCell ⟨w.heap.size, 6, none⟩ (.slice p6 l6 d6) (.inr (by simp))); have N1 := Lib.hid (And.intro hs (And.intro hf hc)); clear hs hf hc hg') | (refine byteL.wpList_growS byte_flat rfl _ _ 30 rfl Tryz.underlying30 KB rfl (Grow.madeN (Chg.refl [] (w1.setCell ⟨w.heap.size, 6, none⟩ (.slice p6 l6 d6))) (by simp)) (Chg.refl [] _) rfl (byteL.sl_ext H7.out (G1.out.alloc _)) HL7.out.1 HL7.out.2 ?_; intro v' w2 hg'; obtain ⟨p7, d7, g7, rfl, hs, hf, hc⟩ := hg'.sl; rw [List.nil_append, L7.out] at hs hg' ⊢; obtain ⟨e2, n2, A2'⟩ := bk hc A1.out (by simp); obtain ⟨-, -, B2'⟩ := bk hc B1.out (by simp); have fz2 := freeOf A2'.out; have A2 := Lib.hid (show (w2.setCell ⟨w.heap.size, 7, none⟩ (.slice p7 l7 d7)).heap[w.heap.size]? = some (.cells #[.int .i64 x.kind, .int .i64 x.seq, .string x.name, .int .i64 x.length, .int .i64 x.group, .int .i64 x.row, .slice p6 l6 d6, .slice p7 l7 d7, .slice a8 l8 c8] 68 (0, 0)) from heap_set_lit (cur := #[.int .i64 x.kind, .int .i64 x.seq, .string x.name, .int .i64 x.length, .int .i64 x.group, .int .i64 x.row, .slice p6 l6 d6, .slice a7 l7 c7, .slice a8 l8 c8]) A2'.out rfl); have B2 := Lib.hid (keep_set B2'.out ⟨w.heap.size, 7, none⟩ (.slice p7 l7 d7) (by simp)); have G2 := Lib.hid ((G1.out.trans0 hc).setCell ⟨w.heap.size, 7, none⟩ (.slice p7 l7 d7) (.inr (by simp))); have N2 := Lib.hid (And.intro hs (And.intro hf hc)); clear hs hf hc hg') | (refine byteL.wpList_growS byte_flat rfl _ _ 30 rfl Tryz.underlying30 KB rfl (Grow.madeN (Chg.refl [] (w2.setCell ⟨w.heap.size, 7, none⟩ (.slice p7 l7 d7))) (by simp)) (Chg.refl [] _) rfl (byteL.sl_ext H8.out (G2.out.alloc _)) HL8.out.1 HL8.out.2 ?_; intro v' w3 hg'; obtain ⟨p8, d8, g8, rfl, hs, hf, hc⟩ := hg'.sl; rw [List.nil_append, L8.out] at hs hg' ⊢; obtain ⟨e3, n3, A3'⟩ := bk hc A2.out (by simp); obtain ⟨k3, m3, B3'⟩ := bk hc B2.out (by simp); have fz3 := freeOf A3'.out; have A3 := Lib.hid (show (w3.setCell ⟨w.heap.size, 8, none⟩ (.slice p8 l8 d8)).heap[w.heap.size]? = some (.cells #[.int .i64 x.kind, .int .i64 x.seq, .string x.name, .int .i64 x.length, .int .i64 x.group, .int .i64 x.row, .slice p6 l6 d6, .slice p7 l7 d7, .slice p8 l8 d8] 68 (0, 0)) from heap_set_lit (cur := #[.int .i64 x.kind, .int .i64 x.seq, .string x.name, .int .i64 x.length, .int .i64 x.group, .int .i64 x.row, .slice p6 l6 d6, .slice p7 l7 d7, .slice a8 l8 c8]) A3'.out rfl); have B3 := Lib.hid (keep_set B3'.out ⟨w.heap.size, 8, none⟩ (.slice p8 l8 d8) (by simp)); have G3 := Lib.hid ((G2.out.trans0 hc).setCell ⟨w.heap.size, 8, none⟩ (.slice p8 l8 d8) (.inr (by simp))); have N3 := Lib.hid (And.intro hs (And.intro hf hc)); have z3 := freeOf B3'.out; clear hs hf hc hg'))
 have hq : ((((((((((w3.setCell ⟨w.heap.size, 8, none⟩ (.slice p8 l8 d8)).setCell ⟨w.heap.size + 1, 0, none⟩ (.int .i64 x.kind)).setCell ⟨w.heap.size + 1, 1, none⟩ (.int .i64 x.seq)).setCell ⟨w.heap.size + 1, 2, none⟩ (.string x.name)).setCell ⟨w.heap.size + 1, 3, none⟩ (.int .i64 x.length)).setCell ⟨w.heap.size + 1, 4, none⟩ (.int .i64 x.group)).setCell ⟨w.heap.size + 1, 5, none⟩ (.int .i64 x.row)).setCell ⟨w.heap.size + 1, 6, none⟩ (.slice p6 l6 d6)).setCell ⟨w.heap.size + 1, 7, none⟩ (.slice p7 l7 d7)).setCell ⟨w.heap.size + 1, 8, none⟩ (.slice p8 l8 d8)).heap[w.heap.size + 1]? = some (.cells #[.int .i64 x.kind, .int .i64 x.seq, .string x.name, .int .i64 x.length, .int .i64 x.group, .int .i64 x.row, .slice p6 l6 d6, .slice p7 l7 d7, .slice p8 l8 d8] 68 (0, 0)) := by
  have h := row9_back (.int .i64 x.kind) (.int .i64 x.seq) (.string x.name) (.int .i64 x.length) (.int .i64 x.group) (.int .i64 x.row) (.slice p6 l6 d6) (.slice p7 l7 d7) (.slice p8 l8 d8) B3.out
  exact h
 have hqc := cellsOf hq
 have D3 : Chg [w.heap.size, w.heap.size + 1] w3 ((((((((((w3.setCell ⟨w.heap.size, 8, none⟩ (.slice p8 l8 d8)).setCell ⟨w.heap.size + 1, 0, none⟩ (.int .i64 x.kind)).setCell ⟨w.heap.size + 1, 1, none⟩ (.int .i64 x.seq)).setCell ⟨w.heap.size + 1, 2, none⟩ (.string x.name)).setCell ⟨w.heap.size + 1, 3, none⟩ (.int .i64 x.length)).setCell ⟨w.heap.size + 1, 4, none⟩ (.int .i64 x.group)).setCell ⟨w.heap.size + 1, 5, none⟩ (.int .i64 x.row)).setCell ⟨w.heap.size + 1, 6, none⟩ (.slice p6 l6 d6)).setCell ⟨w.heap.size + 1, 7, none⟩ (.slice p7 l7 d7)).setCell ⟨w.heap.size + 1, 8, none⟩ (.slice p8 l8 d8)) := by
  iterate 10 refine Chg.setCell ?_ _ _ (.inl (by simp))
  exact Chg.refl _ _
 have D2 : Chg [w.heap.size, w.heap.size + 1] w2 ((((((((((w3.setCell ⟨w.heap.size, 8, none⟩ (.slice p8 l8 d8)).setCell ⟨w.heap.size + 1, 0, none⟩ (.int .i64 x.kind)).setCell ⟨w.heap.size + 1, 1, none⟩ (.int .i64 x.seq)).setCell ⟨w.heap.size + 1, 2, none⟩ (.string x.name)).setCell ⟨w.heap.size + 1, 3, none⟩ (.int .i64 x.length)).setCell ⟨w.heap.size + 1, 4, none⟩ (.int .i64 x.group)).setCell ⟨w.heap.size + 1, 5, none⟩ (.int .i64 x.row)).setCell ⟨w.heap.size + 1, 6, none⟩ (.slice p6 l6 d6)).setCell ⟨w.heap.size + 1, 7, none⟩ (.slice p7 l7 d7)).setCell ⟨w.heap.size + 1, 8, none⟩ (.slice p8 l8 d8)) := (((Chg.refl [w.heap.size, w.heap.size + 1] w2).setCell _ _ (.inl (by simp))).trans0 N3.out.2.2).trans D3 (fun y hy => .inl hy)
 have D1 : Chg [w.heap.size, w.heap.size + 1] w1 ((((((((((w3.setCell ⟨w.heap.size, 8, none⟩ (.slice p8 l8 d8)).setCell ⟨w.heap.size + 1, 0, none⟩ (.int .i64 x.kind)).setCell ⟨w.heap.size + 1, 1, none⟩ (.int .i64 x.seq)).setCell ⟨w.heap.size + 1, 2, none⟩ (.string x.name)).setCell ⟨w.heap.size + 1, 3, none⟩ (.int .i64 x.length)).setCell ⟨w.heap.size + 1, 4, none⟩ (.int .i64 x.group)).setCell ⟨w.heap.size + 1, 5, none⟩ (.int .i64 x.row)).setCell ⟨w.heap.size + 1, 6, none⟩ (.slice p6 l6 d6)).setCell ⟨w.heap.size + 1, 7, none⟩ (.slice p7 l7 d7)).setCell ⟨w.heap.size + 1, 8, none⟩ (.slice p8 l8 d8)) := (((Chg.refl [w.heap.size, w.heap.size + 1] w1).setCell _ _ (.inl (by simp))).trans0 N2.out.2.2).trans D2 (fun y hy => .inl hy)
 have s1 : w.heap.size + 2 ≤ w1.heap.size := Nat.le_trans S0.out N1.out.2.2.size
 have s2 : w1.heap.size ≤ w2.heap.size := by have := N2.out.2.2.size; simpa using this
 have f1 := N1.out.2.1.mono (C := w.heap.size + 2) S0.out
 have f2 := N2.out.2.1.mono (C := w1.heap.size) (by simp)
 have f3 := N3.out.2.1.mono (C := w2.heap.size) (by simp)
 have K6 := intL.sl_chg N1.out.1 D1 (f1.nots _ (by simp))
 have K7 := byteL.sl_chg N2.out.1 D2 (f2.nots _ (by simp; omega))
 have K8 := byteL.sl_chg N3.out.1 D3 (f3.nots _ (by simp; omega))
 have hfr := ((f1.chg D1).append ((f2.chg D2).append (f3.chg D3) f2.lts s2) f1.lts s1).mono (C := w.heap.size) (by omega)
 have hch : Chg [] w ((((((((((w3.setCell ⟨w.heap.size, 8, none⟩ (.slice p8 l8 d8)).setCell ⟨w.heap.size + 1, 0, none⟩ (.int .i64 x.kind)).setCell ⟨w.heap.size + 1, 1, none⟩ (.int .i64 x.seq)).setCell ⟨w.heap.size + 1, 2, none⟩ (.string x.name)).setCell ⟨w.heap.size + 1, 3, none⟩ (.int .i64 x.length)).setCell ⟨w.heap.size + 1, 4, none⟩ (.int .i64 x.group)).setCell ⟨w.heap.size + 1, 5, none⟩ (.int .i64 x.row)).setCell ⟨w.heap.size + 1, 6, none⟩ (.slice p6 l6 d6)).setCell ⟨w.heap.size + 1, 7, none⟩ (.slice p7 l7 d7)).setCell ⟨w.heap.size + 1, 8, none⟩ (.slice p8 l8 d8)) := (G0.out.trans0 N1.out.2.2).trans D1 (fun y hy => .inr (by simp only [List.mem_cons, List.not_mem_nil, or_false] at hy; omega))
 refine bodyPost_ret (v := .agg #[.int .i64 x.kind, .int .i64 x.seq, .string x.name, .int .i64 x.length, .int .i64 x.group, .int .i64 x.row, .slice p6 l6 d6, .slice p7 l7 d7, .slice p8 l8 d8]) (by simp [results, Tryz.results102, go_sem, hqc]) rfl ⟨_, _, rfl, recL_iff.2 ⟨p6, l6, d6, g6, p7, l7, d7, g7, p8, l8, d8, g8, rfl, HO.out.1, HO.out.2.1, HO.out.2.2.1, HO.out.2.2.2.1, HO.out.2.2.2.2.1, HO.out.2.2.2.2.2, K6, K7, K8, by simp⟩, hfr, hch⟩
set_option maxRecDepth 100000 in
set_option maxHeartbeats 2000000 in
theorem l5CopyBlock_any (x : Blk) (cx : Array Value) (fx : List Nat) (w : World) (hx : blkL.rep w cx.toList x fx) (hz : totBlk x ≤ 1048576) :
  Calls Tryz.prog 57 #[.agg cx] w (NewAgg blkL x w) := by
 obtain ⟨KB, _⟩ := kindB
 obtain ⟨a1, l1, c1, f1, ex, o0, h1, -⟩ := blkL_iff.1 hx
 obtain rfl := Array.toList_inj.1 (ex.trans (List.toList_toArray).symm)
 have z1 : l1 ≤ 1048576 := by unfold totBlk totBs at hz; rw [h1.1]; omega
 have HO := Lib.hid o0
 have L1 := Lib.hid h1.1.symm
 have H1 := Lib.hid h1
 clear hx ex hz o0 h1
 have G0 := Lib.hid (show Chg [] w ((w.alloc (.cells #[.int .i64 x.stamp, .slice a1 l1 c1] 32)).alloc (.cells #[.int .i64 0, .slice none 0 0] 32)).drew from (((Chg.refl [] w).alloc _).alloc _).drew)
 have B1 := Lib.hid (show ((w.alloc (.cells #[.int .i64 x.stamp, .slice a1 l1 c1] 32)).alloc (.cells #[.int .i64 0, .slice none 0 0] 32)).drew.heap[w.heap.size]? = some (.cells #[.int .i64 x.stamp, .slice a1 l1 c1] 32 (0, 0)) from keep_drew (keep_alloc (new_alloc w _) _))
 have B2 := Lib.hid (show ((w.alloc (.cells #[.int .i64 x.stamp, .slice a1 l1 c1] 32)).alloc (.cells #[.int .i64 0, .slice none 0 0] 32)).drew.heap[w.heap.size + 1]? = some (.cells #[.int .i64 0, .slice none 0 0] 32 (0, 0)) from keep_drew (new_at (by simp) _))
 have S0 := Lib.hid (show w.heap.size + 2 ≤ ((w.alloc (.cells #[.int .i64 x.stamp, .slice a1 l1 c1] 32)).alloc (.cells #[.int .i64 0, .slice none 0 0] 32)).drew.heap.size by simp [World.drew])
 have HL1 : RowKit.Hid (([] : List UInt8).length + x.bytes.length ≤ maxLen ∧ (([] : List UInt8).length + x.bytes.length) * 1 ≤ 140737488355328) := by
  have := L1.out
  refine ⟨?_, ?_⟩ <;> simp only [List.length_nil, maxLen] <;> omega
 go_enter Tryz.func57, Tryz.ntmps57
 go_wp2_with fail
 obtain ⟨CC, HCI, HCO⟩ := rg_cond (fun w' => Know w.heap.size #[.int .i64 x.stamp, .slice a1 l1 c1] w')
 refine gg_start [7] CC (by kernel_rfl) (HCI.out _ (Know.of B1.out)) (fun hcl hS => ?_)
 refine ggT 0 hcl hS ?_; clear hcl hS; intro hcl hS
 refine ggL 1 hcl hS HCO ?_; clear hcl hS; intro hcl hS
 refine ggT 3 hcl hS ?_; clear hcl hS; intro hcl hS
 refine ggL 4 hcl hS HCO ?_; clear hcl hS; intro hcl hS
 refine ggC 2 hcl rfl (by kernel_rfl) (fun K hK => ?_)
 go_simp
 refine hK.out _ _ (fun _ => HCI.out _ (Know.of (keep_alloc B1.out _))) ?_
 clear hK K hcl hS
 intro hcl hS
 try simp only [Act.put, List.setIfInBounds_toArray, List.set_cons_zero, List.set_cons_succ]
 refine ggC 5 hcl rfl (by kernel_rfl) (fun K hK => ?_)
 refine byteL.step_growS byte_flat rfl _ _ 30 rfl Tryz.underlying30 KB rfl (Grow.madeN (Chg.refl [] ((w.alloc (.cells #[.int .i64 x.stamp, .slice a1 l1 c1] 32)).alloc (.cells #[.int .i64 0, .slice none 0 0] 32)).drew) (by simp [World.drew])) (Chg.refl [] _) rfl (byteL.sl_ext H1.out (G0.out.alloc _)) HL1.out.1 HL1.out.2 ?_
 intro v' w1 hg'
 obtain ⟨p1, d1, g1, rfl, hs, hf, hc⟩ := hg'.sl
 rw [List.nil_append, L1.out] at hs hg' ⊢
 obtain ⟨-, -, C1⟩ := bk hc B1.out (by simp); obtain ⟨k2, m2, C2⟩ := bk hc B2.out (by simp); have z2 := freeOf C2.out; have N1 := Lib.hid (And.intro hs (And.intro hf hc)); clear hs hf hc hg'
 refine hK.out _ _ (fun _ => HCI.out _ (Know.of C1.out)) ?_
 clear hK K hcl hS
 intro hcl hS
 try simp only [Act.put, List.setIfInBounds_toArray, List.set_cons_zero, List.set_cons_succ]
 refine ggT 6 hcl hS ?_; clear hcl hS; intro hcl hS
 refine ggC 7 hcl rfl (by kernel_rfl) (fun K hK => ?_)
 go_simp
 refine hK.out _ _ (Till.done (m := 7) (by simp) (by rfl)) ?_
 clear hK K hcl hS
 intro hcl hS
 try simp only [Act.put, List.setIfInBounds_toArray, List.set_cons_zero, List.set_cons_succ]
 refine ggEnd (by kernel_rfl) ?_ _
 go_wp2_with fail
 have hq : ((w1.setCell ⟨w.heap.size + 1, 0, none⟩ (.int .i64 x.stamp)).setCell ⟨w.heap.size + 1, 1, none⟩ (.slice p1 l1 d1)).heap[w.heap.size + 1]? = some (.cells #[.int .i64 x.stamp, .slice p1 l1 d1] 32 (0, 0)) := row2_back _ _ C2.out
 have hqc := cellsOf hq
 have D1 : Chg [w.heap.size + 1] w1 ((w1.setCell ⟨w.heap.size + 1, 0, none⟩ (.int .i64 x.stamp)).setCell ⟨w.heap.size + 1, 1, none⟩ (.slice p1 l1 d1)) := ((Chg.refl _ w1).setCell _ _ (.inl (by simp))).setCell _ _ (.inl (by simp))
 have f1' := N1.out.2.1.mono (C := w.heap.size + 2) S0.out
 have K1 := byteL.sl_chg N1.out.1 D1 (f1'.nots _ (by simp))
 have hch : Chg [] w ((w1.setCell ⟨w.heap.size + 1, 0, none⟩ (.int .i64 x.stamp)).setCell ⟨w.heap.size + 1, 1, none⟩ (.slice p1 l1 d1)) := (G0.out.trans0 N1.out.2.2).trans D1 (fun y hy => .inr (by rw [List.mem_singleton] at hy; omega))
 refine bodyPost_ret (v := .agg #[.int .i64 x.stamp, .slice p1 l1 d1]) (by simp [results, Tryz.results57, go_sem, hqc]) rfl ⟨_, _, rfl, blkL_iff.2 ⟨p1, l1, d1, g1, rfl, HO.out, K1, rfl⟩, (f1'.chg D1).mono (by omega), hch⟩
end Go.Proofs.YtnnhopcjlnnchaaGreat
