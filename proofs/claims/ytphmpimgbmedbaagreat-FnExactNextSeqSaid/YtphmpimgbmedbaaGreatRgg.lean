
/- A region that draws its order, walked by hand: what is known of the world is asked for only till all loads have come up. No function of the program in sight. -/
import Derived.Test.YtphmpimgbmedbaaGreatReg
namespace Go.Proofs.YtphmpimgbmedbaaGreat
open Go.RowKit

/-- whatever order is picked; S says what holds of the world, by what has come up -/
def wpAnyG (P : Program) (md : Region.Mode) (ops : Array Oper) (Q : Exit → Act → World → Prop) (S : Array Bool → World → Prop) : Nat → Array Bool → Act → World → Prop
  | 0, listed, a, w => Region.ready md ops listed = [] ∧ Q .normal a w
  | fuel + 1, listed, a, w =>
    (Region.ready md ops listed = [] → Q .normal a w) ∧
    ∀ i ∈ Region.ready md ops listed, wpOp P ops Q i (fun a' w' => S (listed.setIfInBounds i true) w' ∧ wpAnyG P md ops Q S fuel (listed.setIfInBounds i true) a' w') a w
/-- C holds till one of M has come up -/
def Till (M : List Nat) (C : World → Prop) (l : Array Bool) (w : World) : Prop := (∀ m ∈ M, l.getD m false = false) → C w
/-- what has come up has come up behind all that it waits for -/
def LClosed (md : Region.Mode) (ops : Array Oper) (l : Array Bool) : Prop := ∀ (j : Nat) (o : Oper), ops[j]? = some o → l.getD j false = true → ∀ e ∈ o.after, Region.binds md e = true → l.getD e.on false = true
def waits (md : Region.Mode) (ops : Array Oper) : Nat → Nat → Nat → Bool
  | 0, m, i => m == i
  | n + 1, m, i => m == i || (match ops[m]? with
    | none => false
    | some o => o.after.toList.any (fun e => Region.binds md e && waits md ops n e.on i))
section
variable {P : Program} {ops : Array Oper} {Q : Exit → Act → World → Prop} {md : Region.Mode} {M : List Nat} {C : World → Prop} {fuel : Nat} {listed : Array Bool} {a : Act} {w : World}
theorem waits_listed (hc : LClosed md ops listed) : ∀ (n m i : Nat), waits md ops n m i = true → listed.getD m false = true → listed.getD i false = true
  | 0, m, i, h, hm => by simp [waits] at h; subst h; exact hm
  | n + 1, m, i, h, hm => by
    unfold waits at h
    rw [Bool.or_eq_true] at h
    rcases h with h | h
    · simp at h; subst h; exact hm
    · cases ho : ops[m]? with
      | none => rw [ho] at h; cases h
      | some o =>
        rw [ho] at h
        simp only [List.any_eq_true, Bool.and_eq_true] at h
        obtain ⟨e, he, hb, hw⟩ := h
        exact waits_listed hc n e.on i hw (hc m o ho hm e (by simpa using he) hb)
theorem LClosed.next (hc : LClosed md ops listed) {j : Nat} (hj : j ∈ Region.ready md ops listed) : LClosed md ops (listed.setIfInBounds j true) := by
  intro k o ho hk e he hb
  obtain ⟨_, oj, hoj, hall⟩ := mem_ready.1 hj
  by_cases h : j = k
  · subst h
    rw [hoj] at ho
    cases ho
    exact getD_set_true (hall e he hb)
  · rw [getD_set_ne false h] at hk
    exact getD_set_true (hc k o ho hk e he hb)
theorem LClosed.none : LClosed md ops (Array.replicate ops.size false) := by
  intro k o ho hk
  rw [Array.getD_eq_getD_getElem?, Array.getElem?_replicate] at hk
  split at hk <;> cases hk
theorem unl {i : Nat} (h : i ∈ Region.ready md ops listed) : listed.getD i false = false := by
  have h0 := (mem_ready.1 h).1
  rw [Array.getD_eq_getD_getElem?] at h0 ⊢
  cases e : listed[i]? with
  | none => rfl
  | some b => rw [e] at h0; exact h0
theorem wpAny_of_G {S : Array Bool → World → Prop} : ∀ (fuel : Nat) (listed : Array Bool) (a : Act) (w : World), wpAnyG P md ops Q S fuel listed a w → wpAny P md ops Q fuel listed a w
  | 0, _, _, _, h => h
  | fuel + 1, _, _, _, h => ⟨h.1, fun i hi => wpOp_mono (fun a' w' h' => wpAny_of_G fuel _ a' w' h'.2) (h.2 i hi)⟩
theorem Till.now {i n : Nat} (hS : Till M C listed w) (hcl : LClosed md ops listed) (hi : listed.getD i false = false) (hM : ∀ m ∈ M, waits md ops n m i = true) : C w :=
  hS (fun m hm => by
    cases e : listed.getD m false
    · rfl
    · rw [waits_listed hcl n m i (hM m hm) e] at hi; cases hi)
theorem Till.more (hS : Till M C listed w) (j : Nat) : Till M C (listed.setIfInBounds j true) w := fun hm => hS (fun m hmM => by
    have := hm m hmM
    cases e : listed.getD m false
    · rfl
    · rw [getD_set_true e] at this; cases this)
theorem wpAnyG_first {i : Nat} {oi : Oper} {v : Value} (hi : ops[i]? = some oi) (hsel : ∀ (j : Nat) (o : Oper) cs b, ops[j]? = some o → o.op ≠ .select cs b)
    (hQ : ∀ c a w, Q (.panic c) (a.put oi.dst v) w → Q (.panic c) a w) {D : World → Prop} (hD : ∀ (l : Array Bool) w, LClosed md ops l → l.getD i false = false → Till M C l w → D w) (hiM : i ∉ M) :
    ∀ (fuel : Nat) (listed : Array Bool) (a : Act) (w : World),
      (∀ j oj, ops[j]? = some oj → j ≠ i → listed.getD j true = false → (∀ e ∈ oj.after, Region.binds md e = true → e.on ≠ i) → oi.apart ops oj = true) →
      i ∈ Region.ready md ops listed → LClosed md ops listed → YieldsIf P ops D oi v a → Till M C listed w →
      wpAnyG P md ops Q (Till M C) fuel (listed.setIfInBounds i true) (a.put oi.dst v) w → wpAnyG P md ops Q (Till M C) (fuel + 1) listed a w := by
  intro fuel
  induction fuel with
  | zero =>
    intro listed a w _ hr hcl hy hS H
    refine ⟨fun h => (by rw [h] at hr; cases hr), fun j hj => ?_⟩
    by_cases hji : j = i
    · subst hji
      exact hy.wpOp hi (hD _ _ hcl (unl hr) hS) ⟨hS.more j, H⟩
    · have := ready_mono hj hji
      rw [H.1] at this
      cases this
  | succ fuel ih =>
    intro listed a w hfree hr hcl hy hS H
    refine ⟨fun h => (by rw [h] at hr; cases hr), fun j hj => ?_⟩
    by_cases hji : j = i
    · subst hji
      exact hy.wpOp hi (hD _ _ hcl (unl hr) hS) ⟨hS.more j, H⟩
    · have h1 := H.2 j (ready_mono hj hji)
      obtain ⟨hjun, oj, hoj, hall⟩ := mem_ready.1 hj
      have hnot : ∀ e ∈ oj.after, Region.binds md e = true → e.on ≠ i := fun e he hb heq => by
        have h1 := hall e he hb
        rw [heq, unl hr] at h1
        cases h1
      have h2 := wpOp_putIf hoj (hfree j oj hoj hji hjun hnot) (fun cs b => hsel i oi cs b hi) (fun cs b => hsel j oj cs b hoj) hQ hy h1
      have hfree' : ∀ k ok, ops[k]? = some ok → k ≠ i → (listed.setIfInBounds j true).getD k true = false →
          (∀ e ∈ ok.after, Region.binds md e = true → e.on ≠ i) → oi.apart ops ok = true := fun k ok hk hki hun hno => by
        refine hfree k ok hk hki ?_ hno
        by_cases hjk : j = k
        · subst hjk; exact hjun
        · rw [getD_set_ne true hjk] at hun; exact hun
      refine wpOp_mono (fun a' w' h3 => ?_) h2
      obtain ⟨hy', hS', hW⟩ := h3
      have hTl : Till M C (listed.setIfInBounds j true) w' := fun hm => hS' (fun m hmM => by
        have hne : i ≠ m := fun e => hiM (by rw [e]; exact hmM)
        rw [Array.setIfInBounds_comm _ _ (Ne.symm hji), getD_set_ne false hne]
        exact hm m hmM)
      refine ⟨hTl, ih (listed.setIfInBounds j true) a' w' hfree' (ready_mono hr (Ne.symm hji)) (hcl.next hj) hy' hTl ?_⟩
      rw [Array.setIfInBounds_comm _ _ hji]
      exact hW

theorem gg_start {id : Nat} (M : List Nat) (C : World → Prop) (hm : P.follows .mixedOrders = true) (hC : C w.drew) (h : LClosed .any ops (Array.replicate ops.size false) → Till M C (Array.replicate ops.size false) w.drew → wpAnyG P .any ops Q (Till M C) ops.size (Array.replicate ops.size false) a w.drew) : (Code.region id ops true).wp P Q a w :=
  wp_region_any hm (wpAny_of_G _ _ _ _ (h LClosed.none (fun _ => hC)))
/-- one operation taken; what it comes to is worked out -/
theorem ggT (i : Nat) {oi : Oper} {v : Value} {a' : Act} (hcl : LClosed md ops listed) (hS : Till M C listed w)
    (h : LClosed md ops (listed.setIfInBounds i true) → Till M C (listed.setIfInBounds i true) w → wpAnyG P md ops Q (Till M C) fuel (listed.setIfInBounds i true) a' w) (hi : ops.toList[i]? = some oi := by rfl)
    (hc : (Region.noSelect ops && Region.free md ops listed i && (Region.ready md ops listed).contains i && !M.contains i) = true := by kernel_rfl)
    (hQ : ∀ c a w, Q (.panic c) (a.put oi.dst v) w → Q (.panic c) a w := by exact fun _ _ _ h => h) (hw : Region.wanted oi (yielded ops a.tmps) = true := by rfl)
    (hy : ∀ w : World, (execOp a.eval oi).run P w = .ok (.value v) w := by intro w; go_simp; (try with_reducible rfl))
    (ha : a.put oi.dst v = a' := by (try simp only [Act.put, List.setIfInBounds_toArray, List.set_cons_zero, List.set_cons_succ]); (try rfl)) : wpAnyG P md ops Q (Till M C) (fuel + 1) listed a w := by
  simp only [Bool.and_eq_true, Bool.not_eq_true'] at hc
  have hr : i ∈ Region.ready md ops listed := by simpa using hc.1.2
  exact wpAnyG_first (D := fun _ => True) (get_toList hi) (Region.noSelect_spec hc.1.1.1) hQ (fun _ _ _ _ _ => trivial) (by simpa using hc.2) fuel listed a w (Region.free_spec (get_toList hi) hc.1.1.2) hr hcl (.inl ⟨hw, fun w _ => hy w⟩) hS (ha ▸ h (hcl.next hr) (hS.more i))
/-- a load: all of M wait for it -/
theorem ggL (i : Nat) {oi : Oper} {v : Value} {a' : Act} {D : World → Prop} (hcl : LClosed md ops listed) (hS : Till M C listed w) (hCD : RowKit.Hid (∀ w, C w → D w))
    (h : LClosed md ops (listed.setIfInBounds i true) → Till M C (listed.setIfInBounds i true) w → wpAnyG P md ops Q (Till M C) fuel (listed.setIfInBounds i true) a' w) (hi : ops.toList[i]? = some oi := by rfl)
    (hc : (Region.noSelect ops && Region.free md ops listed i && (Region.ready md ops listed).contains i && M.all (fun m => waits md ops ops.size m i) && !M.contains i) = true := by kernel_rfl)
    (hQ : ∀ c a w, Q (.panic c) (a.put oi.dst v) w → Q (.panic c) a w := by exact fun _ _ _ h => h) (hw : Region.wanted oi (yielded ops a.tmps) = true := by rfl)
    (hy : ∀ w : World, D w → (execOp a.eval oi).run P w = .ok (.value v) w := by intro w hSw; (try unfold Know at hSw); go_simp; (try with_reducible rfl))
    (ha : a.put oi.dst v = a' := by (try simp only [Act.put, List.setIfInBounds_toArray, List.set_cons_zero, List.set_cons_succ]); (try rfl)) : wpAnyG P md ops Q (Till M C) (fuel + 1) listed a w := by
  simp only [Bool.and_eq_true, List.all_eq_true, Bool.not_eq_true'] at hc
  have hr : i ∈ Region.ready md ops listed := by simpa using hc.1.1.2
  exact wpAnyG_first (D := D) (get_toList hi) (Region.noSelect_spec hc.1.1.1.1) hQ (fun l w h1 h2 h3 => hCD.out w (h3.now h1 h2 hc.1.2)) (by simpa using hc.2) fuel listed a w (Region.free_spec (get_toList hi) hc.1.1.1.2) hr hcl (.inl ⟨hw, hy⟩) hS (ha ▸ h (hcl.next hr) (hS.more i))
theorem ggS (i : Nat) {oi : Oper} {a' : Act} (hcl : LClosed md ops listed) (hS : Till M C listed w)
    (h : LClosed md ops (listed.setIfInBounds i true) → Till M C (listed.setIfInBounds i true) w → wpAnyG P md ops Q (Till M C) fuel (listed.setIfInBounds i true) a' w) (hi : ops.toList[i]? = some oi := by rfl)
    (hc : (Region.noSelect ops && Region.free md ops listed i && (Region.ready md ops listed).contains i && !M.contains i) = true := by kernel_rfl)
    (hQ : ∀ c a w, Q (.panic c) (a.put oi.dst undef) w → Q (.panic c) a w := by exact fun _ _ _ h => h) (hw : Region.wanted oi (yielded ops a.tmps) = false := by rfl)
    (ha : a.put oi.dst undef = a' := by (try simp only [Act.put, List.setIfInBounds_toArray, List.set_cons_zero, List.set_cons_succ]); (try rfl)) : wpAnyG P md ops Q (Till M C) (fuel + 1) listed a w := by
  simp only [Bool.and_eq_true, Bool.not_eq_true'] at hc
  have hr : i ∈ Region.ready md ops listed := by simpa using hc.1.2
  exact wpAnyG_first (D := fun _ => True) (get_toList hi) (Region.noSelect_spec hc.1.1.1) hQ (fun _ _ _ _ _ => trivial) (by simpa using hc.2) fuel listed a w (Region.free_spec (get_toList hi) hc.1.1.2) hr hcl (.inr ⟨hw, rfl⟩) hS (ha ▸ h (hcl.next hr) (hS.more i))
/-- the only operation that may come up is carried out -/
theorem ggC (i : Nat) {oi : Oper} (hcl : LClosed md ops listed) (hi : ops.toList[i]? = some oi) (hr : Region.ready md ops listed = [i])
    (h : ∀ K' : Act → World → Prop, Shut (∀ a w, Till M C (listed.setIfInBounds i true) w → (LClosed md ops (listed.setIfInBounds i true) → Till M C (listed.setIfInBounds i true) w → wpAnyG P md ops Q (Till M C) fuel (listed.setIfInBounds i true) a w) → K' a w) → if Region.wanted oi (yielded ops a.tmps) = true then Oper.wp P oi a w K' Q else K' (a.put oi.dst undef) w) :
    wpAnyG P md ops Q (Till M C) (fuel + 1) listed a w := by
  refine ⟨fun h0 => (by rw [hr] at h0; cases h0), fun j hj => ?_⟩
  have hji : j = i := by rw [hr] at hj; simpa using hj
  subst hji
  exact wpOp_step (get_toList hi) (fun K' hK => h K' (fun a w hS hW => hK a w ⟨hS, hW (hcl.next hj) hS⟩))
theorem ggEnd {a : Act} (hr : Region.ready md ops listed = []) (h : Q .normal a w) : ∀ fuel, wpAnyG P md ops Q (Till M C) fuel listed a w
  | 0 => ⟨hr, h⟩
  | _ + 1 => ⟨fun _ => h, by rw [hr]; simp⟩
/-- one of M has come up: nothing is asked for any more -/
theorem Till.done {m : Nat} (hm : m ∈ M) (h : listed.getD m false = true) : Till M C listed w := fun hall => by rw [hall m hm] at h; cases h
end
end Go.Proofs.YtphmpimgbmedbaaGreat
