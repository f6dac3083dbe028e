/- Several texts in one. -/
import Derived.Test.YtjnclggpaekdfaaReg
import Derived.Test.YtjnclggpaekdfaaDr2
import Derived.Test.YtjnclggpaekdfaaGrc
import Derived.Test.YtjnclggpaekdfaaCol
import Derived.Test.YtjnclggpaekdfaaSha
/- A region that draws its order, walked by hand: what is known of the world is asked for only till all loads have come up. No function of the program in sight. -/
namespace Go.Proofs.Ytjnclggpaekdfaa
open Go.RowKit

/-- whatever order is picked; S says what holds of the world, by what has come up -/
def wpAnyG (P : Program) (md : Region.Mode) (ops : Array Oper) (Q : Exit → Act → World → Prop) (S : Array Bool → World → Prop) : Nat → Array Bool → Act → World → Prop
  | 0, listed, a, w => Region.ready md ops listed = [] ∧ Q .normal a w
  | fuel + 1, listed, a, w =>
    (Region.ready md ops listed = [] → Q .normal a w) ∧
    ∀ i ∈ Region.ready md ops listed, wpOp P ops Q i (fun a' w' => S (listed.setIfInBounds i true) w' ∧ wpAnyG P md ops Q S fuel (listed.setIfInBounds i true) a' w') a w
/-- C holds till one of M has come up -/
def Till (M : List Nat) (C : World → Prop) (l : Array Bool) (w : World) : Prop := (∀ m ∈ M, l.getD m false = false) → C w
/-- what has come up has come up behind all that it waits for -/
def LClosed (md : Region.Mode) (ops : Array Oper) (l : Array Bool) : Prop := ∀ (j : Nat) (o : Oper), ops[j]? = some o → l.getD j false = true → ∀ e ∈ o.after, Region.binds md e = true → l.getD e.on false = true
def waits (md : Region.Mode) (ops : Array Oper) : Nat → Nat → Nat → Bool
  | 0, m, i => m == i
  | n + 1, m, i => m == i || (match ops[m]? with
    | none => false
    | some o => o.after.toList.any (fun e => Region.binds md e && waits md ops n e.on i))
section
variable {P : Program} {ops : Array Oper} {Q : Exit → Act → World → Prop} {md : Region.Mode} {M : List Nat} {C : World → Prop} {fuel : Nat} {listed : Array Bool} {a : Act} {w : World}
theorem waits_listed (hc : LClosed md ops listed) : ∀ (n m i : Nat), waits md ops n m i = true → listed.getD m false = true → listed.getD i false = true
  | 0, m, i, h, hm => by simp [waits] at h; subst h; exact hm
  | n + 1, m, i, h, hm => by
    unfold waits at h
    rw [Bool.or_eq_true] at h
    rcases h with h | h
    · simp at h; subst h; exact hm
    · cases ho : ops[m]? with
      | none => rw [ho] at h; cases h
      | some o =>
        rw [ho] at h
        simp only [List.any_eq_true, Bool.and_eq_true] at h
        obtain ⟨e, he, hb, hw⟩ := h
        exact waits_listed hc n e.on i hw (hc m o ho hm e (by simpa using he) hb)
theorem LClosed.next (hc : LClosed md ops listed) {j : Nat} (hj : j ∈ Region.ready md ops listed) : LClosed md ops (listed.setIfInBounds j true) := by
  intro k o ho hk e he hb
  obtain ⟨_, oj, hoj, hall⟩ := mem_ready.1 hj
  by_cases h : j = k
  · subst h
    rw [hoj] at ho
    cases ho
    exact getD_set_true (hall e he hb)
  · rw [getD_set_ne false h] at hk
    exact getD_set_true (hc k o ho hk e he hb)
theorem LClosed.none : LClosed md ops (Array.replicate ops.size false) := by
  intro k o ho hk
  rw [Array.getD_eq_getD_getElem?, Array.getElem?_replicate] at hk
  split at hk <;> cases hk
theorem unl {i : Nat} (h : i ∈ Region.ready md ops listed) : listed.getD i false = false := by
  have h0 := (mem_ready.1 h).1
  rw [Array.getD_eq_getD_getElem?] at h0 ⊢
  cases e : listed[i]? with
  | none => rfl
  | some b => rw [e] at h0; exact h0
theorem wpAny_of_G {S : Array Bool → World → Prop} : ∀ (fuel : Nat) (listed : Array Bool) (a : Act) (w : World), wpAnyG P md ops Q S fuel listed a w → wpAny P md ops Q fuel listed a w
  | 0, _, _, _, h => h
  | fuel + 1, _, _, _, h => ⟨h.1, fun i hi => wpOp_mono (fun a' w' h' => wpAny_of_G fuel _ a' w' h'.2) (h.2 i hi)⟩
theorem Till.now {i n : Nat} (hS : Till M C listed w) (hcl : LClosed md ops listed) (hi : listed.getD i false = false) (hM : ∀ m ∈ M, waits md ops n m i = true) : C w :=
  hS (fun m hm => by
    cases e : listed.getD m false
    · rfl
    · rw [waits_listed hcl n m i (hM m hm) e] at hi; cases hi)
theorem Till.more (hS : Till M C listed w) (j : Nat) : Till M C (listed.setIfInBounds j true) w := fun hm => hS (fun m hmM => by
    have := hm m hmM
    cases e : listed.getD m false
    · rfl
    · rw [getD_set_true e] at this; cases this)
theorem wpAnyG_first {i : Nat} {oi : Oper} {v : Value} (hi : ops[i]? = some oi) (hsel : ∀ (j : Nat) (o : Oper) cs b, ops[j]? = some o → o.op ≠ .select cs b)
    (hQ : ∀ c a w, Q (.panic c) (a.put oi.dst v) w → Q (.panic c) a w) {D : World → Prop} (hD : ∀ (l : Array Bool) w, LClosed md ops l → l.getD i false = false → Till M C l w → D w) (hiM : i ∉ M) :
    ∀ (fuel : Nat) (listed : Array Bool) (a : Act) (w : World),
      (∀ j oj, ops[j]? = some oj → j ≠ i → listed.getD j true = false → (∀ e ∈ oj.after, Region.binds md e = true → e.on ≠ i) → oi.apart ops oj = true) →
      i ∈ Region.ready md ops listed → LClosed md ops listed → YieldsIf P ops D oi v a → Till M C listed w →
      wpAnyG P md ops Q (Till M C) fuel (listed.setIfInBounds i true) (a.put oi.dst v) w → wpAnyG P md ops Q (Till M C) (fuel + 1) listed a w := by
  intro fuel
  induction fuel with
  | zero =>
    intro listed a w _ hr hcl hy hS H
    refine ⟨fun h => (by rw [h] at hr; cases hr), fun j hj => ?_⟩
    by_cases hji : j = i
    · subst hji
      exact hy.wpOp hi (hD _ _ hcl (unl hr) hS) ⟨hS.more j, H⟩
    · have := ready_mono hj hji
      rw [H.1] at this
      cases this
  | succ fuel ih =>
    intro listed a w hfree hr hcl hy hS H
    refine ⟨fun h => (by rw [h] at hr; cases hr), fun j hj => ?_⟩
    by_cases hji : j = i
    · subst hji
      exact hy.wpOp hi (hD _ _ hcl (unl hr) hS) ⟨hS.more j, H⟩
    · have h1 := H.2 j (ready_mono hj hji)
      obtain ⟨hjun, oj, hoj, hall⟩ := mem_ready.1 hj
      have hnot : ∀ e ∈ oj.after, Region.binds md e = true → e.on ≠ i := fun e he hb heq => by
        have h1 := hall e he hb
        rw [heq, unl hr] at h1
        cases h1
      have h2 := wpOp_putIf hoj (hfree j oj hoj hji hjun hnot) (fun cs b => hsel i oi cs b hi) (fun cs b => hsel j oj cs b hoj) hQ hy h1
      have hfree' : ∀ k ok, ops[k]? = some ok → k ≠ i → (listed.setIfInBounds j true).getD k true = false →
          (∀ e ∈ ok.after, Region.binds md e = true → e.on ≠ i) → oi.apart ops ok = true := fun k ok hk hki hun hno => by
        refine hfree k ok hk hki ?_ hno
        by_cases hjk : j = k
        · subst hjk; exact hjun
        · rw [getD_set_ne true hjk] at hun; exact hun
      refine wpOp_mono (fun a' w' h3 => ?_) h2
      obtain ⟨hy', hS', hW⟩ := h3
      have hTl : Till M C (listed.setIfInBounds j true) w' := fun hm => hS' (fun m hmM => by
        have hne : i ≠ m := fun e => hiM (by rw [e]; exact hmM)
        rw [Array.setIfInBounds_comm _ _ (Ne.symm hji), getD_set_ne false hne]
        exact hm m hmM)
      refine ⟨hTl, ih (listed.setIfInBounds j true) a' w' hfree' (ready_mono hr (Ne.symm hji)) (hcl.next hj) hy' hTl ?_⟩
      rw [Array.setIfInBounds_comm _ _ hji]
      exact hW

theorem gg_start {id : Nat} (M : List Nat) (C : World → Prop) (hm : P.follows .mixedOrders = true) (hC : C w.drew) (h : LClosed .any ops (Array.replicate ops.size false) → Till M C (Array.replicate ops.size false) w.drew → wpAnyG P .any ops Q (Till M C) ops.size (Array.replicate ops.size false) a w.drew) : (Code.region id ops true).wp P Q a w :=
  wp_region_any hm (wpAny_of_G _ _ _ _ (h LClosed.none (fun _ => hC)))
/-- one operation taken; what it comes to is worked out -/
theorem ggT (i : Nat) {oi : Oper} {v : Value} {a' : Act} (hcl : LClosed md ops listed) (hS : Till M C listed w)
    (h : LClosed md ops (listed.setIfInBounds i true) → Till M C (listed.setIfInBounds i true) w → wpAnyG P md ops Q (Till M C) fuel (listed.setIfInBounds i true) a' w) (hi : ops.toList[i]? = some oi := by rfl)
    (hc : (Region.noSelect ops && Region.free md ops listed i && (Region.ready md ops listed).contains i && !M.contains i) = true := by kernel_rfl)
    (hQ : ∀ c a w, Q (.panic c) (a.put oi.dst v) w → Q (.panic c) a w := by exact fun _ _ _ h => h) (hw : Region.wanted oi (yielded ops a.tmps) = true := by rfl)
    (hy : ∀ w : World, (execOp a.eval oi).run P w = .ok (.value v) w := by intro w; go_simp; (try with_reducible rfl))
    (ha : a.put oi.dst v = a' := by (try simp only [Act.put, List.setIfInBounds_toArray, List.set_cons_zero, List.set_cons_succ]); (try rfl)) : wpAnyG P md ops Q (Till M C) (fuel + 1) listed a w := by
  simp only [Bool.and_eq_true, Bool.not_eq_true'] at hc
  have hr : i ∈ Region.ready md ops listed := by simpa using hc.1.2
  exact wpAnyG_first (D := fun _ => True) (get_toList hi) (Region.noSelect_spec hc.1.1.1) hQ (fun _ _ _ _ _ => trivial) (by simpa using hc.2) fuel listed a w (Region.free_spec (get_toList hi) hc.1.1.2) hr hcl (.inl ⟨hw, fun w _ => hy w⟩) hS (ha ▸ h (hcl.next hr) (hS.more i))
/-- a load: all of M wait for it -/
theorem ggL (i : Nat) {oi : Oper} {v : Value} {a' : Act} {D : World → Prop} (hcl : LClosed md ops listed) (hS : Till M C listed w) (hCD : RowKit.Hid (∀ w, C w → D w))
    (h : LClosed md ops (listed.setIfInBounds i true) → Till M C (listed.setIfInBounds i true) w → wpAnyG P md ops Q (Till M C) fuel (listed.setIfInBounds i true) a' w) (hi : ops.toList[i]? = some oi := by rfl)
    (hc : (Region.noSelect ops && Region.free md ops listed i && (Region.ready md ops listed).contains i && M.all (fun m => waits md ops ops.size m i) && !M.contains i) = true := by kernel_rfl)
    (hQ : ∀ c a w, Q (.panic c) (a.put oi.dst v) w → Q (.panic c) a w := by exact fun _ _ _ h => h) (hw : Region.wanted oi (yielded ops a.tmps) = true := by rfl)
    (hy : ∀ w : World, D w → (execOp a.eval oi).run P w = .ok (.value v) w := by intro w hSw; (try unfold Know at hSw); go_simp; (try with_reducible rfl))
    (ha : a.put oi.dst v = a' := by (try simp only [Act.put, List.setIfInBounds_toArray, List.set_cons_zero, List.set_cons_succ]); (try rfl)) : wpAnyG P md ops Q (Till M C) (fuel + 1) listed a w := by
  simp only [Bool.and_eq_true, List.all_eq_true, Bool.not_eq_true'] at hc
  have hr : i ∈ Region.ready md ops listed := by simpa using hc.1.1.2
  exact wpAnyG_first (D := D) (get_toList hi) (Region.noSelect_spec hc.1.1.1.1) hQ (fun l w h1 h2 h3 => hCD.out w (h3.now h1 h2 hc.1.2)) (by simpa using hc.2) fuel listed a w (Region.free_spec (get_toList hi) hc.1.1.1.2) hr hcl (.inl ⟨hw, hy⟩) hS (ha ▸ h (hcl.next hr) (hS.more i))
theorem ggS (i : Nat) {oi : Oper} {a' : Act} (hcl : LClosed md ops listed) (hS : Till M C listed w)
    (h : LClosed md ops (listed.setIfInBounds i true) → Till M C (listed.setIfInBounds i true) w → wpAnyG P md ops Q (Till M C) fuel (listed.setIfInBounds i true) a' w) (hi : ops.toList[i]? = some oi := by rfl)
    (hc : (Region.noSelect ops && Region.free md ops listed i && (Region.ready md ops listed).contains i && !M.contains i) = true := by kernel_rfl)
    (hQ : ∀ c a w, Q (.panic c) (a.put oi.dst undef) w → Q (.panic c) a w := by exact fun _ _ _ h => h) (hw : Region.wanted oi (yielded ops a.tmps) = false := by rfl)
    (ha : a.put oi.dst undef = a' := by (try simp only [Act.put, List.setIfInBounds_toArray, List.set_cons_zero, List.set_cons_succ]); (try rfl)) : wpAnyG P md ops Q (Till M C) (fuel + 1) listed a w := by
  simp only [Bool.and_eq_true, Bool.not_eq_true'] at hc
  have hr : i ∈ Region.ready md ops listed := by simpa using hc.1.2
  exact wpAnyG_first (D := fun _ => True) (get_toList hi) (Region.noSelect_spec hc.1.1.1) hQ (fun _ _ _ _ _ => trivial) (by simpa using hc.2) fuel listed a w (Region.free_spec (get_toList hi) hc.1.1.2) hr hcl (.inr ⟨hw, rfl⟩) hS (ha ▸ h (hcl.next hr) (hS.more i))
/-- the only operation that may come up is carried out -/
theorem ggC (i : Nat) {oi : Oper} (hcl : LClosed md ops listed) (hi : ops.toList[i]? = some oi) (hr : Region.ready md ops listed = [i])
    (h : ∀ K' : Act → World → Prop, Shut (∀ a w, Till M C (listed.setIfInBounds i true) w → (LClosed md ops (listed.setIfInBounds i true) → Till M C (listed.setIfInBounds i true) w → wpAnyG P md ops Q (Till M C) fuel (listed.setIfInBounds i true) a w) → K' a w) → if Region.wanted oi (yielded ops a.tmps) = true then Oper.wp P oi a w K' Q else K' (a.put oi.dst undef) w) :
    wpAnyG P md ops Q (Till M C) (fuel + 1) listed a w := by
  refine ⟨fun h0 => (by rw [hr] at h0; cases h0), fun j hj => ?_⟩
  have hji : j = i := by rw [hr] at hj; simpa using hj
  subst hji
  exact wpOp_step (get_toList hi) (fun K' hK => h K' (fun a w hS hW => hK a w ⟨hS, hW (hcl.next hj) hS⟩))
theorem ggEnd {a : Act} (hr : Region.ready md ops listed = []) (h : Q .normal a w) : ∀ fuel, wpAnyG P md ops Q (Till M C) fuel listed a w
  | 0 => ⟨hr, h⟩
  | _ + 1 => ⟨fun _ => h, by rw [hr]; simp⟩
/-- one of M has come up: nothing is asked for any more -/
theorem Till.done {m : Nat} (hm : m ∈ M) (h : listed.getD m false = true) : Till M C listed w := fun hall => by rw [hall m hm] at h; cases h
end
end Go.Proofs.Ytjnclggpaekdfaa

/- The draws of chapter 3: the sides of a column, the arguments of ShareOf. -/
namespace Go.Proofs.Ytjnclggpaekdfaa
open Go.RowKit

/-- what the sides are -/
def Sides (b : Nat) (a : Option Addr) (la ca : Nat) (xs : List UInt8) (f : List Nat) (t : Int) (w0 : World) (e : Ending) (w' : World) : Prop :=
  ∃ g c : Int, e = .returned (.tuple #[.int .i64 g, .int .i64 c]) ∧ (-1 ≤ g ∧ g ≤ 5) ∧ (-1 ≤ c ∧ c ≤ 3) ∧ SrcB b a la ca xs f (t + 3) w' ∧ Chg [b] w0 w'
set_option maxHeartbeats 1000000 in
theorem sides_any (b : Nat) (a : Option Addr) (la ca : Nat) (xs : List UInt8) (f : List Nat) (t : Int) (w : World) (h : SrcB b a la ca xs f t w) (ht : t ≤ 1073741600) :
    Calls Try.prog 27 #[.pointer (some ⟨b, 0, none⟩)] w (Sides b a la ca xs f t w) := by
  have HS := Lib.hid h
  clear h
  go_enter Try.func27, Try.ntmps27
  go_wp2_with fail
  refine (chance_any b a la ca xs f t 24 _ HS.out (by omega) (by omega) (by omega)).mono ?_
  rintro e w1 ⟨v, rfl, hs1, hc1⟩
  have HS1 := Lib.hid hs1; have HC1 := Lib.hid hc1
  clear hs1 hc1
  cases v
  · go_wp2_with fail
    refine (next_any b a la ca xs f (t + 1) 4 _ HS1.out (by omega) (by omega) (by omega)).mono ?_
    rintro e w2 ⟨v2, rfl, hd2, hs2, hc2⟩
    have HS2 := Lib.hid hs2; have HC2 := Lib.hid (HC1.out.trans hc2 (fun x hx => .inl hx))
    have hb0 := hd2.1; have hb1 := hd2.2.1 (by omega)
    clear hs2 hc2 hd2
    go_wp2_with fail
    refine (next_any b a la ca xs f (t + 1 + 1) 3 _ HS2.out (by omega) (by omega) (by omega)).mono ?_
    rintro e w3 ⟨v3, rfl, hd3, hs3, hc3⟩
    have HS3 := Lib.hid hs3; have HC3 := Lib.hid (HC2.out.trans hc3 (fun x hx => .inl hx))
    have hb2 := hd3.1; have hb3 := hd3.2.1 (by omega)
    clear hs3 hc3 hd3
    go_wp2_with fail
    go_ret2
    exact ⟨1 + v2, v3, rfl, by omega, by omega, HS3.out.mono (by omega), HC3.out⟩
  · go_wp2_with fail
    refine (pickN_any b a la ca xs f (t + 1) 4 [0, 5, 4, -1] w1 HS1.out (by omega) (by simp [i64ok]) rfl (by omega) (by omega) _ rfl _ rfl).mono ?_
    rintro e w2 ⟨v2, rfl, hd2, hs2, hc2⟩
    have HS2 := Lib.hid hs2; have HC2 := Lib.hid (HC1.out.trans hc2 (fun x hx => .inl hx))
    have hb0 : -1 ≤ v2 ∧ v2 ≤ 5 := by simp at hd2; omega
    clear hs2 hc2 hd2
    go_wp2_with fail
    refine (pickN_any b a la ca xs f (t + 1 + 1) 4 [0, 3, 2, -1] w2 HS2.out (by omega) (by simp [i64ok]) rfl (by omega) (by omega) _ rfl _ rfl).mono ?_
    rintro e w3 ⟨v3, rfl, hd3, hs3, hc3⟩
    have HS3 := Lib.hid hs3; have HC3 := Lib.hid (HC2.out.trans hc3 (fun x hx => .inl hx))
    have hb2 : -1 ≤ v3 ∧ v3 ≤ 3 := by simp at hd3; omega
    clear hs3 hc3 hd3
    go_wp2_with fail
    go_ret2
    exact ⟨v2, v3, rfl, hb0, hb2, HS3.out.mono (by omega), HC3.out⟩
set_option maxHeartbeats 400000 in
theorem l1Max_any (x y : Int) (w : World) : Calls Try.prog 46 #[.int .i64 x, .int .i64 y] w fun e w' => e = .returned (.int .i64 (if y < x then x else y)) ∧ w = w' := by
  by_cases h : y < x
  · skip
    go_enter Try.func46, Try.ntmps46
    go_wp2
    go_ret
    exact ⟨rfl, rfl⟩
  · skip
    go_enter Try.func46, Try.ntmps46
    go_wp2
    go_ret
    exact ⟨rfl, rfl⟩
/-- the arguments that are drawn for ShareOf -/
def ShareDraw (w0 : World) (e : Ending) (w' : World) : Prop :=
  ∃ (g c p : Int) (A : Option Addr) (C : Nat) (ks : List Int) (fk : List Nat), e = .returned (.tuple #[.int .i64 g, .int .i64 c, .slice A ks.length C, .int .i64 p]) ∧ (-1 ≤ g ∧ g ≤ 5) ∧ (-1 ≤ c ∧ c ≤ 3) ∧ (-1 ≤ p ∧ p ≤ 100) ∧ ks.length ≤ 100 ∧ intL.sl w' A ks.length C ks fk ∧ Chg [] w0 w'
set_option maxRecDepth 100000 in
set_option maxHeartbeats 4000000 in
theorem drawShare_any (a : Option Addr) (la ca : Nat) (xs : List UInt8) (f : List Nat) (w : World) (ha : byteL.sl w a la ca xs f) (hla : la ≤ 1048576) :
    Calls Try.prog 14 #[.slice a la ca] w (ShareDraw w) := by
  obtain ⟨KI, _⟩ := kindI
  have HA := Lib.hid ha
  clear ha
  go_enter Try.func14, Try.ntmps14
  go_wp2_with fail
  refine (source_any a la ca xs f _ HA.out hla).mono ?_
  rintro e w1 ⟨rfl, hs1, hc1⟩
  have HS1 := Lib.hid hs1; have HC1 := Lib.hid hc1
  obtain ⟨b, hb⟩ : ∃ b, b = w.heap.size := ⟨_, rfl⟩
  rw [← hb] at HS1 ⊢
  have HB := Lib.hid hb
  clear hs1 hc1 hb
  go_wp2_with fail
  refine (sides_any b a la ca xs f 0 _ HS1.out (by omega)).mono ?_
  rintro e w2 ⟨g, c, rfl, hg, hc, hs2, hc2⟩
  have HS2 := Lib.hid hs2
  have HC2 := Lib.hid (show Chg [] w w2 from HC1.out.trans hc2 (fun x hx => .inr (by rw [List.mem_singleton] at hx; have := HB.out; omega)))
  clear hs2 hc2
  go_wp2_with fail
  refine (l1Max_any 1 (g + c) _).mono ?_
  rintro e w' ⟨rfl, rfl⟩
  obtain ⟨n, hn⟩ : ∃ n, n = if g + c < 1 then 1 else g + c := ⟨_, rfl⟩
  rw [← hn]
  have hn1 : 1 ≤ n ∧ n ≤ 8 := by rw [hn]; split <;> omega
  clear hn
  go_wp2_with fail
  refine (next_any b a la ca xs f (0 + 3) n _ HS2.out (by omega) (by omega) (by omega)).mono ?_
  rintro e w3 ⟨v, rfl, hd3, hs3, hc3⟩
  have hv0 := hd3.1; have hv1 := hd3.2.1 (by omega)
  have HS3 := Lib.hid hs3
  have HC3 := Lib.hid (show Chg [] w w3 from HC2.out.trans hc3 (fun x hx => .inr (by rw [List.mem_singleton] at hx; have := HB.out; omega)))
  have hbl := hs3.lt
  have hw3 : w.heap.size ≤ w3.heap.size := HC3.out.size
  clear hs3 hc3 hd3
  go_wp2_with fail
  go_loopw [11, 12] (fun vo vi wr => ∃ (k : Nat) (ks : List Int) (Wr : World), Wr = wr ∧ (k : Int) ≤ n ∧ vi = .int .i64 k ∧ ks.length ≤ k ∧ GrowC intL 2 w3.heap.size wr vo ks ∧ SrcB b a la ca xs f (4 + 2 * k) wr ∧ Chg [] w wr ∧ w3.heap.size ≤ wr.heap.size) (fun _ vi _ => 8 - (intOf vi).toNat)
  case atStart => exact ⟨0, [], _, rfl, by omega, rfl, by simp, GrowC.made (Nat.le_refl _), (HS3.out.ext ((Chg.refl [] w3).alloc _)).mono (by omega), HC3.out.alloc _, by simp⟩
  case round =>
    obtain ⟨k, ks, wr, rfl, hk, rfl, hkl, hgr, hsr, hcr, hsz⟩ := hrel
    have HG := Lib.hid hgr; have HSR := Lib.hid hsr; have HCR := Lib.hid hcr
    have hblr := hsr.lt
    have HBS := Lib.hid (show ∀ x ∈ [b], x < w3.heap.size from fun x hx => by rw [List.mem_singleton] at hx; omega)
    have HCS := Lib.hid (fun (w5 : World) (h : Chg [b] wr w5) => (show Chg [] w w5 from HCR.out.trans h (fun x hx => .inr (by rw [List.mem_singleton] at hx; have := HB.out; omega))))
    clear hgr hsr hcr
    by_cases hlt : (k : Int) < n
    · have HLL := Lib.hid (show ks.length + [(k : Int)].length ≤ maxLen ∧ (ks.length + [(k : Int)].length) * 8 ≤ 140737488355328 by simp only [List.length_singleton, maxLen]; omega)
      have HKO := Lib.hid (show i64ok (k : Int) from by constructor <;> omega)
      by_cases hkw : (k : Int) = v
      · subst hkw
        go_wp2_with fail
        refine (chance_any b a la ca xs f (4 + 2 * k) 30 _ HSR.out (by omega) (by omega) (by omega)).mono ?_
        rintro e w5 ⟨u, rfl, hs5, hc5⟩
        have HS5 := Lib.hid hs5; have HC5 := Lib.hid (HCS.out _ hc5); have HG5 := Lib.hid (HG.out.chg hc5 HBS.out); have hz5 := Nat.le_trans hsz hc5.size
        clear hs5 hc5
        cases u
        · go_wp2_with fail
          go_roundw
          case rel => exact ⟨k + 1, ks, _, rfl, by omega, by go_num, by omega, HG5.out, HS5.out.mono (by omega), HC5.out, hz5⟩
          case measure => simp [intOf]; omega
        · go_wp2_with (at_builtin; refine GrowB.wpList (L := intL) rfl _ _ 34 rfl Try.underlying34 KI rfl (HG5.out.b.ext ((Chg.refl [] w5).alloc (.cells #[.int .i64 k] 2))) ⟨w5.heap.size, 0, none⟩ 1 1 [.int .i64 k] (ys := [(k : Int)]) (f := []) rfl rfl (new_cell w5 (.int .i64 k) 2) (intL.all_single ⟨rfl, HKO.out, rfl⟩) (Fresh.nil _ _) HLL.out.1 HLL.out.2 ?_; intro v' w6 hg' hup; have HG6 := Lib.hid hg'; have HU := Lib.hid hup; clear hg' hup)
          go_roundw
          case rel => exact ⟨k + 1, ks ++ [(k : Int)], _, rfl, by omega, by go_num, by simp; omega, HG6.out, ((HS5.out.ext ((Chg.refl [] w5).alloc (.cells #[.int .i64 k] 2))).keep (n := w3.heap.size) HU.out.low hbl (fun x hx => by have := HSR.out; have h2 := byteL.sl_lt HA.out x hx; have := HB.out; omega)).mono (by omega), HU.out.chg (HC5.out.alloc _) hw3, Nat.le_trans hz5 (Nat.le_trans (by simp) HU.out.size)⟩
          case measure => simp [intOf]; omega
      · go_wp2_with fail
        refine (chance_any b a la ca xs f (4 + 2 * k) 6 _ HSR.out (by omega) (by omega) (by omega)).mono ?_
        rintro e w5 ⟨u, rfl, hs5, hc5⟩
        have HS5 := Lib.hid hs5; have HC5 := Lib.hid (HCS.out _ hc5); have HG5 := Lib.hid (HG.out.chg hc5 HBS.out); have hz5 := Nat.le_trans hsz hc5.size
        have HCS5 := Lib.hid (fun (w7 : World) (h : Chg [b] w5 w7) => (show Chg [] w w7 from HC5.out.trans h (fun x hx => .inr (by rw [List.mem_singleton] at hx; have := HB.out; omega))))
        clear hs5 hc5
        cases u
        · go_wp2_with (at_builtin; refine GrowB.wpList (L := intL) rfl _ _ 34 rfl Try.underlying34 KI rfl (HG5.out.b.ext ((Chg.refl [] w5).alloc (.cells #[.int .i64 k] 2))) ⟨w5.heap.size, 0, none⟩ 1 1 [.int .i64 k] (ys := [(k : Int)]) (f := []) rfl rfl (new_cell w5 (.int .i64 k) 2) (intL.all_single ⟨rfl, HKO.out, rfl⟩) (Fresh.nil _ _) HLL.out.1 HLL.out.2 ?_; intro v' w6 hg' hup; have HG6 := Lib.hid hg'; have HU := Lib.hid hup; clear hg' hup)
          go_roundw
          case rel => exact ⟨k + 1, ks ++ [(k : Int)], _, rfl, by omega, by go_num, by simp; omega, HG6.out, ((HS5.out.ext ((Chg.refl [] w5).alloc (.cells #[.int .i64 k] 2))).keep (n := w3.heap.size) HU.out.low hbl (fun x hx => by have h2 := byteL.sl_lt HA.out x hx; have := HB.out; omega)).mono (by omega), HU.out.chg (HC5.out.alloc _) hw3, Nat.le_trans hz5 (Nat.le_trans (by simp) HU.out.size)⟩
          case measure => simp [intOf]; omega
        · go_wp2_with fail
          refine (chance_any b a la ca xs f (4 + 2 * k + 1) 30 _ HS5.out (by omega) (by omega) (by omega)).mono ?_
          rintro e w7 ⟨u, rfl, hs7, hc7⟩
          have HS7 := Lib.hid hs7; have HC7 := Lib.hid (HCS5.out _ hc7); have HG7 := Lib.hid (HG5.out.chg hc7 HBS.out); have hz7 := Nat.le_trans hz5 hc7.size
          clear hs7 hc7
          cases u
          · go_wp2_with fail
            go_roundw
            case rel => exact ⟨k + 1, ks, _, rfl, by omega, by go_num, by omega, HG7.out, HS7.out.mono (by omega), HC7.out, hz7⟩
            case measure => simp [intOf]; omega
          · go_wp2_with (at_builtin; refine GrowB.wpList (L := intL) rfl _ _ 34 rfl Try.underlying34 KI rfl (HG7.out.b.ext ((Chg.refl [] w7).alloc (.cells #[.int .i64 k] 2))) ⟨w7.heap.size, 0, none⟩ 1 1 [.int .i64 k] (ys := [(k : Int)]) (f := []) rfl rfl (new_cell w7 (.int .i64 k) 2) (intL.all_single ⟨rfl, HKO.out, rfl⟩) (Fresh.nil _ _) HLL.out.1 HLL.out.2 ?_; intro v' w6 hg' hup; have HG6 := Lib.hid hg'; have HU := Lib.hid hup; clear hg' hup)
            go_roundw
            case rel => exact ⟨k + 1, ks ++ [(k : Int)], _, rfl, by omega, by go_num, by simp; omega, HG6.out, ((HS7.out.ext ((Chg.refl [] w7).alloc (.cells #[.int .i64 k] 2))).keep (n := w3.heap.size) HU.out.low hbl (fun x hx => by have h2 := byteL.sl_lt HA.out x hx; have := HB.out; omega)).mono (by omega), HU.out.chg (HC7.out.alloc _) hw3, Nat.le_trans hz7 (Nat.le_trans (by simp) HU.out.size)⟩
            case measure => simp [intOf]; omega
    · have hk8 : k ≤ 8 := by omega
      have HWS := Lib.hid (show i64ok n ∧ (∀ y ∈ [v, v, v, v, v, -1, n], i64ok y) ∧ ∀ y ∈ [n, 0, -1], i64ok y by simp only [List.mem_cons, List.not_mem_nil, or_false, forall_eq_or_imp, forall_eq, i64ok]; omega)
      go_wp2_with fail
      refine (chance_any b a la ca xs f (4 + 2 * k) 20 _ HSR.out (by omega) (by omega) (by omega)).mono ?_
      rintro e w5 ⟨u, rfl, hs5, hc5⟩
      have HS5 := Lib.hid hs5; have HC5 := Lib.hid (HCS.out _ hc5); have HG5 := Lib.hid (HG.out.chg hc5 HBS.out); have hz5 := Nat.le_trans hsz hc5.size
      have HCS5 := Lib.hid (fun (w7 : World) (h : Chg [b] w5 w7) => (show Chg [] w w7 from HC5.out.trans h (fun x hx => .inr (by rw [List.mem_singleton] at hx; have := HB.out; omega))))
      clear hs5 hc5
      cases u
      · obtain ⟨A, C, fk, rfl, hsk, hfk⟩ := HG5.out.sl
        have HSK := Lib.hid hsk; have HFK := Lib.hid hfk
        obtain ⟨lk, hlk⟩ : ∃ n, n = ks.length := ⟨_, rfl⟩
        rw [← hlk] at HSK ⊢
        have HLK := Lib.hid hlk
        clear hsk hfk hlk
        go_wp2_with fail
        refine (pickN_any b a la ca xs f (4 + 2 * k + 1) 7 [v, v, v, v, v, -1, n] w5 HS5.out (by omega) HWS.out.2.1 rfl (by omega) (by omega) _ rfl _ rfl).mono ?_
        rintro e w7 ⟨p, rfl, hp, -, hc7⟩
        have hpb : -1 ≤ p ∧ p ≤ 100 := by simp at hp; omega
        have HN := Lib.hid (And.intro (intL.sl_chg HSK.out hc7 (fun y hy hm => by have := (HFK.out.2 y hy).1; rw [List.mem_singleton] at hm; omega)) (HCS5.out _ hc7))
        clear hp hc7
        go_wp2_with fail
        refine bodyPost_ret (v := .tuple #[.int .i64 g, .int .i64 c, .slice A lk C, .int .i64 p]) (by simp [results, Try.results14, go_sem]) rfl ?_
        have hl := HLK.out
        subst hl
        exact ⟨g, c, p, A, C, ks, fk, rfl, hg, hc, hpb, by omega, HN.out.1, HN.out.2⟩
      · go_wp2_with fail
        refine (pickN_any b a la ca xs f (4 + 2 * k + 1) 3 [n, 0, -1] w5 HS5.out (by omega) HWS.out.2.2 rfl (by omega) (by omega) _ rfl _ rfl).mono ?_
        rintro e w7 ⟨q, rfl, hq, hs7, hc7⟩
        have HS7 := Lib.hid hs7; have HC7 := Lib.hid (HCS5.out _ hc7); have HG7 := Lib.hid (HG5.out.chg hc7 HBS.out); have hz7 := Nat.le_trans hz5 hc7.size
        have HQO := Lib.hid (show i64ok q from HWS.out.2.2 q hq)
        have HLL := Lib.hid (show ks.length + [q].length ≤ maxLen ∧ (ks.length + [q].length) * 8 ≤ 140737488355328 by simp only [List.length_singleton, maxLen]; omega)
        clear hs7 hc7 hq
        go_wp2_with (at_builtin; refine GrowB.wpList (L := intL) rfl _ _ 34 rfl Try.underlying34 KI rfl (HG7.out.b.ext ((Chg.refl [] w7).alloc (.cells #[.int .i64 q] 2))) ⟨w7.heap.size, 0, none⟩ 1 1 [.int .i64 q] (ys := [q]) (f := []) rfl rfl (new_cell w7 (.int .i64 q) 2) (intL.all_single ⟨rfl, HQO.out, rfl⟩) (Fresh.nil _ _) HLL.out.1 HLL.out.2 ?_; intro v' w6 hg' hup; have HG6 := Lib.hid hg'; have HU := Lib.hid hup; have HS6 := Lib.hid (((HS7.out.ext ((Chg.refl [] w7).alloc (.cells #[.int .i64 q] 2))).keep (n := w3.heap.size) hup.low hbl (fun x hx => by have h2 := byteL.sl_lt HA.out x hx; have := HB.out; omega))); have HC6 := Lib.hid (hup.chg (HC7.out.alloc (.cells #[.int .i64 q] 2)) hw3); clear hg' hup)
        obtain ⟨A, C, fk, rfl, hsk, hfk⟩ := HG6.out.sl
        have HSK := Lib.hid hsk; have HFK := Lib.hid hfk
        have HCS6 := Lib.hid (fun (w9 : World) (h : Chg [b] w6 w9) => (show Chg [] w w9 from HC6.out.trans h (fun x hx => .inr (by rw [List.mem_singleton] at hx; have := HB.out; omega))))
        obtain ⟨lk, hlk⟩ : ∃ n, n = (ks ++ [q]).length := ⟨_, rfl⟩
        rw [← hlk] at HSK ⊢
        have HLK := Lib.hid hlk
        clear hsk hfk hlk
        refine (pickN_any b a la ca xs f (4 + 2 * k + 1 + 1) 7 [v, v, v, v, v, -1, n] w6 HS6.out (by omega) HWS.out.2.1 rfl (by omega) (by omega) _ rfl _ rfl).mono ?_
        rintro e w9 ⟨p, rfl, hp, -, hc9⟩
        have hpb : -1 ≤ p ∧ p ≤ 100 := by simp at hp; omega
        have HN := Lib.hid (And.intro (intL.sl_chg HSK.out hc9 (fun y hy hm => by have := (HFK.out.2 y hy).1; rw [List.mem_singleton] at hm; omega)) (HCS6.out _ hc9))
        clear hp hc9
        go_wp2_with fail
        refine bodyPost_ret (v := .tuple #[.int .i64 g, .int .i64 c, .slice A lk C, .int .i64 p]) (by simp [results, Try.results14, go_sem]) rfl ?_
        have hl := HLK.out
        subst hl
        exact ⟨g, c, p, A, C, ks ++ [q], fk, rfl, hg, hc, hpb, by simp; omega, HN.out.1, HN.out.2⟩
end Go.Proofs.Ytjnclggpaekdfaa

/- Shares sum up to what is wanted, in plain Lean; lwBytes. -/
namespace Go.Proofs.Ytjnclggpaekdfaa
open Go.RowKit

/-- the sum of the shares, from the last on, so many taken -/
def sdn (all : List (List UInt8)) (ks : List Int) (B : List UInt8) : Nat → List UInt8
  | 0 => [0, 0]
  | d + 1 => addL (sdn all ks B d) (scaleL (all.getD (ks.getD (ks.length - 1 - d) 0).toNat []) (B.getD (ks.length - 1 - d) 0))
section
variable {all : List (List UInt8)} {ks : List Int} {B : List UInt8}
theorem all_len (h : ∀ x ∈ all, x.length = 2) {i : Nat} (hi : i < all.length) : (all.getD i []).length = 2 := by
  rw [List.getD_eq_getElem?_getD, List.getElem?_eq_getElem hi]; exact h _ (List.getElem_mem _)
theorem ks_in (hk : ∀ k ∈ ks, 0 ≤ k ∧ k.toNat < all.length) {j : Nat} (hj : j < ks.length) : (ks.getD j 0).toNat < all.length := by
  rw [List.getD_eq_getElem?_getD, List.getElem?_eq_getElem hj]; exact (hk _ (List.getElem_mem _)).2
theorem sdn_len (h : ∀ x ∈ all, x.length = 2) (hk : ∀ k ∈ ks, 0 ≤ k ∧ k.toNat < all.length) : ∀ d, d ≤ ks.length → (sdn all ks B d).length = 2
  | 0, _ => rfl
  | d + 1, hd => by
    have ih := sdn_len h hk d (by omega)
    have h2 := all_len h (ks_in hk (show ks.length - 1 - d < ks.length by omega))
    show (addL _ _).length = 2
    rw [addL_len_eq (by rw [ih, scaleL_length, h2]), ih]
theorem sdn_at (h : ∀ x ∈ all, x.length = 2) (hk : ∀ k ∈ ks, 0 ≤ k ∧ k.toNat < all.length) (hB : B.length = ks.length) (t : Nat) : ∀ d, d ≤ ks.length →
    (sdn all ks B d).getD t 0 = lin ((ks.map (fun k => (all.getD k.toNat []).getD t 0)).drop (ks.length - d)) (B.drop (ks.length - d))
  | 0, _ => by
    rw [Nat.sub_zero, List.drop_eq_nil_of_le (by simp), List.drop_eq_nil_of_le (by omega)]
    show ([0, 0] : List UInt8).getD t 0 = 0
    match t with
    | 0 => rfl
    | 1 => rfl
    | t + 2 => rfl
  | d + 1, hd => by
    have ih := sdn_at h hk hB t d (by omega)
    have hj : ks.length - (d + 1) < ks.length := by omega
    have e1 : ks.length - (d + 1) + 1 = ks.length - d := by omega
    have e2 : ks.length - 1 - d = ks.length - (d + 1) := by omega
    rw [List.drop_eq_getElem_cons (show ks.length - (d + 1) < (ks.map (fun k => (all.getD k.toNat []).getD t 0)).length by rw [List.length_map]; exact hj), List.drop_eq_getElem_cons (show ks.length - (d + 1) < B.length by omega), e1]
    show (addL (sdn all ks B d) _).getD t 0 = _
    rw [e2, getD_add (by rw [sdn_len h hk d (by omega), scaleL_length, all_len h (ks_in hk hj)]), getD_scale, ih]
    simp only [lin]
    rw [UInt8.xor_comm, List.getElem_map, List.getD_eq_getElem?_getD (l := ks), List.getElem?_eq_getElem hj, List.getD_eq_getElem?_getD (l := B), List.getElem?_eq_getElem (show ks.length - (d + 1) < B.length by omega)]
    rfl
end
/-- the shares of those that are there sum up to the list that is wanted -/
theorem shares_sum {L : List (List UInt8)} {c : Nat} {ks : List Int} {p : Int} (hL : ∀ x ∈ L, x.length = 2) (h1 : 1 ≤ L.length) (h4 : L.length ≤ 4) (hc : c ≤ 2) (hr : Rises ((L.length : Int) + c - 1) ks) (hl : L.length ≤ ks.length) :
    sdn (codeL L 2 c) ks (wtsL L.length (ks.take L.length) p ++ List.replicate (ks.length - L.length) 0) ks.length = codeAt L 2 p := by
  have hk : ∀ k ∈ ks, 0 ≤ k ∧ k.toNat < (codeL L 2 c).length := fun k hm => by
    have := hr.at hm
    rw [codeL_length]
    omega
  have hall : ∀ x ∈ codeL L 2 c, x.length = 2 := fun x hx => by
    unfold codeL at hx
    obtain ⟨k, _, rfl⟩ := List.mem_map.1 hx
    exact codeAt_length hL _
  have hkl : (ks.take L.length).length = L.length := by rw [List.length_take]; omega
  obtain ⟨z, hz, hzl, hw⟩ := wts_some (p := p) h1 h4 hkl (by omega : (L.length : Int) + c - 1 + 1 ≤ L.length + 2) (hr.ris.take L.length)
  have ez : wtsL L.length (ks.take L.length) p = z := by unfold wtsL; rw [hz]; rfl
  rw [ez]
  have hB : (z ++ List.replicate (ks.length - L.length) (0 : UInt8)).length = ks.length := by rw [List.length_append, List.length_replicate, hzl]; omega
  have hb := code_back (n0 := 2) hL hkl hzl hw (p := p) rfl
  rw [← hb]
  refine getD_ext ?_ (fun t => ?_)
  · rw [sdn_len hall hk _ (Nat.le_refl _), mixTo_len (xs := (ks.take L.length).map (codeAt L 2)) (fun x hx => by obtain ⟨k, _, rfl⟩ := List.mem_map.1 hx; exact codeAt_length hL k) (Nat.le_refl _)]
  · rw [sdn_at hall hk hB t _ (Nat.le_refl _), Nat.sub_self, List.drop_zero, List.drop_zero]
    rw [mixTo_at (xs := (ks.take L.length).map (codeAt L 2)) (cs := z) (fun x hx => by obtain ⟨k, _, rfl⟩ := List.mem_map.1 hx; exact codeAt_length hL k) t (Nat.le_refl _) (by rw [List.length_map, hkl, hzl]; exact Nat.le_refl _), List.take_length, List.take_of_length_le (l := z) (by rw [List.length_map, hkl, hzl]; exact Nat.le_refl _)]
    have em : ks.map (fun k => ((codeL L 2 c).getD k.toNat []).getD t 0) = (ks.map (fun k => (codeAt L 2 k).getD t 0)) := by
      apply List.map_congr_left
      intro k hm
      have h2 := hk k hm
      rw [List.getD_eq_getElem?_getD (l := codeL L 2 c), codeL_at (by rw [codeL_length] at h2; exact h2.2), Int.toNat_of_nonneg h2.1]
      rfl
    rw [em, ← List.take_append_drop L.length ks, List.map_append, List.take_append_drop, lin_app _ _ _ _ (by rw [List.length_map, hkl, hzl]), lin_zero _ (List.replicate _ _) (fun y hy => List.eq_of_mem_replicate hy), UInt8.xor_zero]
    unfold colAt
    rw [List.map_map]
    rfl
/-- what ShareOf has told where it tells no fault -/
theorem sha_ok {g c : Int} {ks : List Int} {p : Int} (h : (shaRes g c ks p).1 = 0) : (1 ≤ g ∧ g ≤ 4) ∧ (0 ≤ c ∧ c ≤ 2) ∧ Rises (g + c - 1) ks ∧ (0 ≤ p ∧ p ≤ g + c - 1) ∧ g ≤ (ks.length : Int) ∧ shaRes g c ks p = (0, wtsL g.toNat (ks.take g.toNat) p ++ List.replicate (ks.length - g.toNat) 0) := by
  unfold shaRes at h ⊢
  split at h
  · simp at h
  rename_i h1
  split at h
  · simp at h
  rename_i h2
  split at h
  · simp at h
  rename_i h3
  split at h
  · simp at h
  rename_i h4
  split at h
  · simp at h
  rename_i h5
  obtain ⟨hb1, hb2⟩ := Bool.and_eq_true_iff.1 (Bool.not_eq_false _ ▸ h1 : (inB g 1 4 && inB c 0 2) = true)
  refine ⟨inB_true hb1, inB_true hb2, Classical.byContradiction (fun hn => h2 (pb_false hn)), inB_true (by simpa using h3), by omega, ?_⟩
  rw [if_neg h1, if_neg h2, if_neg h3, if_neg h4, if_neg h5]
set_option maxHeartbeats 1000000 in
theorem lwBytes_any (a b : Option Addr) (la ca cb : Nat) (xs : List UInt8) (f g : List Nat) (w : World) (ha : byteL.sl w a la ca xs f) (hb : byteL.sl w b la cb xs g) :
    Calls Try.prog 13 #[.slice a la ca, .slice b la cb] w fun e w' => e = .returned (.bool true) ∧ Chg [] w w' := by
  have hm := byteL.sl_max ha
  have hne : ((la : Int) != (la : Int)) = false := by simp
  have HA := Lib.hid ha
  have HB := Lib.hid hb
  clear ha hb
  go_enter Try.func13, Try.ntmps13
  go_wp2
  go_loopw [5] (fun i wr => ∃ k : Nat, k ≤ la ∧ i = .int .i64 k ∧ Chg [] w wr) (fun i _ => la - (intOf i).toNat)
  case atStart => exact ⟨0, by omega, rfl, Chg.refl _ _⟩
  case round =>
    obtain ⟨k, hk, rfl, hc⟩ := hrel
    by_cases hlt : k < la
    · obtain ⟨x, X, b, o, HX, rfl, hcx, _, _⟩ := byte_at (byteL.sl_ext HA.out hc) hlt
      obtain ⟨y, Y, b', o', HY, rfl, hcy, _, _⟩ := byte_at (byteL.sl_ext HB.out hc) hlt
      have hxy : x = y := by have := HX.out.1.symm.trans HY.out.1; exact Option.some.inj this
      subst hxy
      rw [HX.out.2.1] at hcx; rw [HY.out.2.1] at hcy; have hnn : ((x.toNat : Int) != (x.toNat : Int)) = false := by simp
      have HC := Lib.hid hc
      clear hc
      go_wp2
      first | go_region | skip
      all_goals (try go_wp2)
      all_goals
        go_roundw
        case rel => exact ⟨k + 1, by omega, by go_num, by first | exact HC.out | exact HC.out.drew⟩
        case measure => simp [intOf]; omega
    · have HC := Lib.hid hc
      clear hc
      go_wp2
      go_ret
      exact ⟨rfl, HC.out⟩
end Go.Proofs.Ytjnclggpaekdfaa
