
/- Rows brought into steps, in plain Lean; rows as they lie in memory. No function of the program in sight. -/
import Derived.Test.YtjnclggpaekdfaaReg
import Derived.Test.YtjnclggpaekdfaaLst
import Derived.Test.YtjnclggpaekdfaaBss
namespace Go.Proofs.Ytjnclggpaekdfaa
open Go.RowKit

def cel (rows : List (List UInt8)) (r c : Nat) : UInt8 := (rows.getD r []).getD c 0
/-- the first row from r on that has something in column c -/
def fnd (rows : List (List UInt8)) (c r : Nat) : Nat := r + ((rows.drop r).takeWhile (fun x => x.getD c 0 == 0)).length
theorem cel_at {rows : List (List UInt8)} {r c : Nat} {x : List UInt8} {y : UInt8} (h : rows[r]? = some x) (h2 : x[c]? = some y) : cel rows r c = y := by
  unfold cel; simp [List.getD_eq_getElem?_getD, h, h2]
theorem fnd_zero {rows : List (List UInt8)} {c r : Nat} (hr : r < rows.length) (h : cel rows r c = 0) : fnd rows c r = fnd rows c (r + 1) := by
  unfold fnd
  have e : (rows[r]).getD c 0 = 0 := by unfold cel at h; simpa [List.getD_eq_getElem?_getD, List.getElem?_eq_getElem hr] using h
  rw [List.drop_eq_getElem_cons hr, List.takeWhile_cons, if_pos (by rw [e]; rfl), List.length_cons]
  omega
theorem fnd_here {rows : List (List UInt8)} {c r : Nat} (hr : r < rows.length) (h : ¬ cel rows r c = 0) : fnd rows c r = r := by
  unfold fnd
  have e : ¬ (rows[r]).getD c 0 = 0 := by unfold cel at h; simpa [List.getD_eq_getElem?_getD, List.getElem?_eq_getElem hr] using h
  rw [List.drop_eq_getElem_cons hr, List.takeWhile_cons, if_neg (by rw [beq_iff_eq]; exact e)]
  rfl
theorem fnd_end {rows : List (List UInt8)} {c r : Nat} (hr : rows.length ≤ r) : fnd rows c r = r := by
  unfold fnd; rw [List.drop_of_length_le hr]; rfl
theorem fnd_ge (rows : List (List UInt8)) (c r : Nat) : r ≤ fnd rows c r := by unfold fnd; omega
theorem fnd_le {rows : List (List UInt8)} {c r : Nat} (hr : r ≤ rows.length) : fnd rows c r ≤ rows.length := by
  unfold fnd
  have := (List.takeWhile_prefix (fun x : List UInt8 => x.getD c 0 == 0) (l := rows.drop r)).length_le
  rw [List.length_drop] at this
  omega
theorem fnd_nz {rows : List (List UInt8)} {c : Nat} : ∀ {r : Nat}, fnd rows c r < rows.length → ¬ cel rows (fnd rows c r) c = 0 := by
  intro r
  generalize hd : rows.length - r = d
  induction d generalizing r with
  | zero => intro h; rw [fnd_end (by omega)] at h; omega
  | succ d ih =>
    intro h
    have hr : r < rows.length := by omega
    by_cases h0 : cel rows r c = 0
    · rw [fnd_zero hr h0] at h ⊢; exact ih (by omega) h
    · rw [fnd_here hr h0]; exact h0

/-- what stays of a row when its place in column c is made nothing -/
def clr (c : Nat) (row r : List UInt8) : List UInt8 := addL r (scaleL row (r.getD c 0))
def elimR (R : List (List UInt8)) (rank c : Nat) (row : List UInt8) : List (List UInt8) := R.mapIdx (fun i r => if i = rank then r else clr c row r)
def prep (rows : List (List UInt8)) (rank p : Nat) (row : List UInt8) : List (List UInt8) := (rows.set p (rows.getD rank [])).set rank row
def lead (rows : List (List UInt8)) (p c : Nat) : List UInt8 := scaleL (rows.getD p []) (Fld.inv (cel rows p c))
def stepAt (rows : List (List UInt8)) (rank c p : Nat) : List (List UInt8) := elimR (prep rows rank p (lead rows p c)) rank c (lead rows p c)
def gstep (s : List (List UInt8) × Nat) (c : Nat) : List (List UInt8) × Nat := if fnd s.1 c s.2 < s.1.length then (stepAt s.1 s.2 c (fnd s.1 c s.2), s.2 + 1) else s
def gauss (n : Nat) (rows : List (List UInt8)) : List (List UInt8) × Nat := (List.range n).foldl gstep (rows, 0)
theorem gauss_zero (rows : List (List UInt8)) : gauss 0 rows = (rows, 0) := rfl
theorem gauss_next (n : Nat) (rows : List (List UInt8)) : gauss (n + 1) rows = gstep (gauss n rows) n := by unfold gauss; rw [List.range_succ, List.foldl_append]; rfl
theorem gstep_none {s : List (List UInt8) × Nat} {c p : Nat} (h : fnd s.1 c s.2 = p) (hp : s.1.length ≤ p) : gstep s c = s := by unfold gstep; rw [if_neg (by omega)]
theorem gstep_some {s : List (List UInt8) × Nat} {c p : Nat} (h : fnd s.1 c s.2 = p) (hp : p < s.1.length) : gstep s c = (stepAt s.1 s.2 c p, s.2 + 1) := by unfold gstep; rw [h, if_pos hp]
theorem elimR_length (R : List (List UInt8)) (rank c : Nat) (row : List UInt8) : (elimR R rank c row).length = R.length := by simp [elimR]
theorem prep_length (rows : List (List UInt8)) (rank p : Nat) (row : List UInt8) : (prep rows rank p row).length = rows.length := by simp [prep]
theorem stepAt_length (rows : List (List UInt8)) (rank c p : Nat) : (stepAt rows rank c p).length = rows.length := by simp [stepAt, elimR_length, prep_length]
theorem elimR_at {R : List (List UInt8)} {rank c i : Nat} {row r : List UInt8} (h : R[i]? = some r) : (elimR R rank c row)[i]? = some (if i = rank then r else clr c row r) := by
  unfold elimR; rw [List.getElem?_mapIdx, h]; rfl

/-- rows of one length -/
def Wide (m : Nat) (rows : List (List UInt8)) : Prop := ∀ x ∈ rows, x.length = m
theorem Wide.at {m : Nat} {rows : List (List UInt8)} (h : Wide m rows) {i : Nat} {x : List UInt8} (hx : rows[i]? = some x) : x.length = m := h x (List.mem_of_getElem? hx)
theorem Wide.set {m : Nat} {rows : List (List UInt8)} (h : Wide m rows) {i : Nat} {x : List UInt8} (hx : x.length = m) : Wide m (rows.set i x) := by
  intro y hy
  rcases List.mem_or_eq_of_mem_set hy with hy | rfl
  · exact h y hy
  · exact hx
theorem clr_length {c m : Nat} {row r : List UInt8} (h1 : row.length = m) (h2 : r.length = m) : (clr c row r).length = m := by
  unfold clr; rw [addL_len_eq (by rw [scaleL_length, h1, h2]), h2]
theorem Wide.elim {m : Nat} {R : List (List UInt8)} (h : Wide m R) {row : List UInt8} (hr : row.length = m) (rank c : Nat) : Wide m (elimR R rank c row) := by
  intro y hy
  obtain ⟨i, hi, e⟩ := List.getElem_of_mem hy
  have hi' : i < R.length := by rw [elimR_length] at hi; exact hi
  have h1 := elimR_at (rank := rank) (c := c) (row := row) (List.getElem?_eq_getElem hi')
  rw [List.getElem?_eq_getElem hi] at h1
  have h2 := Option.some.inj h1
  rw [← e, h2]
  have h3 : (R[i]).length = m := h _ (List.getElem_mem _)
  split
  · exact h3
  · exact clr_length hr h3
theorem Wide.getD {m : Nat} {rows : List (List UInt8)} (h : Wide m rows) {p : Nat} (hp : p < rows.length) : (rows.getD p []).length = m := by
  rw [List.getD_eq_getElem?_getD, List.getElem?_eq_getElem hp, Option.getD_some]; exact h _ (List.getElem_mem _)
theorem lead_length {m : Nat} {rows : List (List UInt8)} (h : Wide m rows) {p : Nat} (hp : p < rows.length) (c : Nat) : (lead rows p c).length = m := by
  unfold lead; rw [scaleL_length]; exact h.getD hp
theorem Wide.prep {m : Nat} {rows : List (List UInt8)} (h : Wide m rows) {rank p : Nat} (hk : rank < rows.length) {row : List UInt8} (hr : row.length = m) : Wide m (prep rows rank p row) :=
  (h.set (h.getD hk)).set hr
theorem Wide.step {m : Nat} {rows : List (List UInt8)} (h : Wide m rows) {rank c p : Nat} (hk : rank ≤ p) (hp : p < rows.length) : Wide m (stepAt rows rank c p) :=
  (h.prep (by omega) (lead_length h hp c)).elim (lead_length h hp c) rank c
/-- what holds of the rows under way -/
theorem gauss_inv {m : Nat} {rows : List (List UInt8)} (h : Wide m rows) (n : Nat) : (gauss n rows).1.length = rows.length ∧ Wide m (gauss n rows).1 ∧ (gauss n rows).2 ≤ rows.length ∧ (gauss n rows).2 ≤ n := by
  induction n with
  | zero => exact ⟨rfl, h, Nat.zero_le _, Nat.le_refl _⟩
  | succ n ih =>
    obtain ⟨h1, h2, h3, h4⟩ := ih
    rw [gauss_next]
    by_cases hp : fnd (gauss n rows).1 n (gauss n rows).2 < (gauss n rows).1.length
    · rw [gstep_some rfl hp]
      have hg := fnd_ge (gauss n rows).1 n (gauss n rows).2
      exact ⟨by rw [stepAt_length, h1], h2.step hg hp, by show _ + 1 ≤ _; omega, by show _ + 1 ≤ _; omega⟩
    · rw [gstep_none rfl (by omega)]
      exact ⟨h1, h2, h3, by omega⟩
theorem gauss_full {m : Nat} {rows : List (List UInt8)} (h : Wide m rows) {k : Nat} (hf : (gauss k rows).2 = rows.length) : ∀ n, k ≤ n → gauss n rows = gauss k rows := by
  intro n
  induction n with
  | zero => intro hn; obtain rfl : k = 0 := by omega
            rfl
  | succ n ih =>
    intro hn
    by_cases e : k = n + 1
    · rw [e]
    · rw [gauss_next, ih (by omega)]
      have h1 := (gauss_inv h k).1
      exact gstep_none (fnd_end (by omega)) (by omega)

/-- the elimination under way: so many rows are done -/
def elimTo (R : List (List UInt8)) (rank c : Nat) (row : List UInt8) (k : Nat) : List (List UInt8) := (elimR R rank c row).take k ++ R.drop k
theorem elimTo_zero (R : List (List UInt8)) (rank c : Nat) (row : List UInt8) : elimTo R rank c row 0 = R := by simp [elimTo]
theorem elimTo_all {R : List (List UInt8)} {rank c k : Nat} {row : List UInt8} (h : R.length ≤ k) : elimTo R rank c row k = elimR R rank c row := by
  unfold elimTo; rw [List.take_of_length_le (by rw [elimR_length]; exact h), List.drop_of_length_le h, List.append_nil]
theorem elimTo_length (R : List (List UInt8)) (rank c : Nat) (row : List UInt8) (k : Nat) : (elimTo R rank c row k).length = R.length := by
  unfold elimTo; rw [List.length_append, List.length_take, List.length_drop, elimR_length]; omega
theorem elimTo_at {R : List (List UInt8)} {rank c k i : Nat} {row : List UInt8} (hk : k ≤ i) : (elimTo R rank c row k)[i]? = R[i]? := by
  unfold elimTo
  by_cases hi : i < R.length
  · rw [List.getElem?_append_right (by rw [List.length_take, elimR_length]; omega), List.length_take, elimR_length, List.getElem?_drop]
    congr 1; omega
  · rw [List.getElem?_eq_none (by rw [List.length_append, List.length_take, List.length_drop, elimR_length]; omega), List.getElem?_eq_none (by omega)]
theorem elimTo_rank {R : List (List UInt8)} {rank c k : Nat} {row r : List UInt8} (h : R[rank]? = some r) : (elimTo R rank c row k)[rank]? = some r := by
  by_cases hk : k ≤ rank
  · rw [elimTo_at hk, h]
  · have hl := (List.getElem?_eq_some_iff.1 h).1
    unfold elimTo
    rw [List.getElem?_append_left (by rw [List.length_take, elimR_length]; omega), List.getElem?_take_of_lt (by omega), elimR_at h, if_pos rfl]
theorem elimTo_next {R : List (List UInt8)} {rank c k : Nat} {row r : List UInt8} (h : R[k]? = some r) : (elimTo R rank c row k).set k (if k = rank then r else clr c row r) = elimTo R rank c row (k + 1) := by
  have hl := (List.getElem?_eq_some_iff.1 h).1
  have h2 := elimR_at (rank := rank) (c := c) (row := row) h
  unfold elimTo
  rw [List.set_append_right _ _ (by rw [List.length_take, elimR_length]; omega), List.length_take, elimR_length, List.drop_eq_getElem_cons hl, take_next h2, show k - min k R.length = 0 by omega, List.set_cons_zero, List.append_assoc]
  rfl
theorem set_same {α : Type} {xs : List α} {i : Nat} {x : α} (h : xs[i]? = some x) : xs.set i x = xs := by
  obtain ⟨hi, e⟩ := List.getElem?_eq_some_iff.1 h
  rw [← e]; exact List.set_getElem_self hi
theorem scaleL_zero (xs : List UInt8) : scaleL xs 0 = List.replicate xs.length 0 := by
  induction xs with
  | nil => rfl
  | cons x xs ih => unfold scaleL at ih ⊢; rw [List.map_cons, ih, Fld.mul_zero]; rfl
theorem addL_zeros : ∀ (xs : List UInt8) (n : Nat), xs.length = n → addL xs (List.replicate n 0) = xs
  | [], _, rfl => rfl
  | x :: xs, _, rfl => by
    have := addL_zeros xs xs.length rfl
    unfold addL at this ⊢
    rw [List.length_cons, List.replicate_succ, List.zipWith_cons_cons, this, UInt8.xor_zero]
theorem clr_zero {c m : Nat} {row r : List UInt8} (h1 : row.length = m) (h2 : r.length = m) (h0 : r.getD c 0 = 0) : clr c row r = r := by
  unfold clr; rw [h0, scaleL_zero, addL_zeros _ _ (by rw [h1, h2])]

/-! ### rows in memory: the heads of the rows lie in a block of their own, the rows are read -/
def Rws (w : World) (H off n : Nat) (xs : List (List UInt8)) : Prop :=
  n = xs.length ∧ ∀ i x, xs[i]? = some x → ∃ A C f, w.cell? ⟨H, off + i, none⟩ = some (.slice A x.length C) ∧ byteL.sl w A x.length C x f ∧ H ∉ f
section
variable {w w' : World} {H off n : Nat} {xs : List (List UInt8)}
theorem Rws.at (h : Rws w H off n xs) {i : Nat} (hi : i < n) : ∃ x A C f, RowKit.Hid (xs[i]? = some x ∧ byteL.sl w A x.length C x f ∧ H ∉ f) ∧ w.cell? ⟨H, off + i, none⟩ = some (.slice A x.length C) := by
  have hx : xs[i]? = some (xs[i]'(by have := h.1; omega)) := List.getElem?_eq_getElem _
  obtain ⟨A, C, f, h1, h2, h3⟩ := h.2 _ _ hx
  exact ⟨_, A, C, f, ⟨hx, h2, h3⟩, h1⟩
theorem Rws.ext (h : Rws w H off n xs) (hH : H < w.heap.size) (hc : Chg [] w w') : Rws w' H off n xs :=
  ⟨h.1, fun i x hx => by
    obtain ⟨A, C, f, h1, h2, h3⟩ := h.2 i x hx
    exact ⟨A, C, f, (hc.facts.1 H _ hH).trans h1, byteL.sl_ext h2 hc, h3⟩⟩
theorem Rws.store (h : Rws w H off n xs) {i : Nat} (hi : i < n) {A : Option Addr} {C : Nat} {x : List UInt8} {f : List Nat} (hx : byteL.sl w A x.length C x f) (hH : H ∉ f) : Rws (w.setCell ⟨H, off + i, none⟩ (.slice A x.length C)) H off n (xs.set i x) := by
  have hk : ∀ (b : Nat), b ≠ H → (w.setCell ⟨H, off + i, none⟩ (.slice A x.length C)).heap[b]? = w.heap[b]? := fun b hb => Below.heap_setCell _ _ _ _ hb
  refine ⟨by rw [List.length_set]; exact h.1, fun j y hy => ?_⟩
  by_cases e : i = j
  · subst e
    have hl : i < xs.length := by have := h.1; omega
    rw [List.getElem?_set_self hl] at hy
    cases hy
    obtain ⟨x0, A0, C0, f0, _, h1⟩ := h.at hi
    exact ⟨A, C, f, World.cell?_setCell_same _ _ _ h1, byteL.sl_keep hx (fun b hb => hk b (fun e => hH (e ▸ hb))), hH⟩
  · rw [List.getElem?_set_ne e] at hy
    obtain ⟨A0, C0, f0, h1, h2, h3⟩ := h.2 j y hy
    exact ⟨A0, C0, f0, (World.cell?_setCell_other _ _ _ _ (by intro h; have := congrArg Addr.off h; simp at this; omega)).trans h1, byteL.sl_keep h2 (fun b hb => hk b (fun e => h3 (e ▸ hb))), h3⟩
theorem Rws.of_sl {cap b : Nat} {fps : List Nat} (h : byteL.slice.sl w (some ⟨H, off, none⟩) n cap xs (b :: fps)) (hb : H ∉ fps) (hbb : b = H) : Rws w H off n xs := by
  obtain ⟨h1, h2, h3, h4, ⟨_, h5⟩ | ⟨b', off', cur, E, fr, fps', ha, hh, hall, h5⟩⟩ := h
  · cases h5
  · cases h5; cases ha
    refine ⟨h1, fun i x hx => ?_⟩
    obtain ⟨c, f, hc, ⟨A, l, C, rfl, hs⟩, hf⟩ := byteL.slice.all_at hall hx
    obtain rfl := hs.1
    have hi : i < n := by have := (List.getElem?_eq_some_iff.1 hx).1; omega
    have := hc 0 byteL.slice.pos
    have e1 : byteL.slice.n = 1 := rfl
    rw [e1, Nat.mul_one, Nat.add_zero, Nat.mul_one, List.getElem?_take_of_lt hi, List.getElem?_drop] at this
    refine ⟨A, C, f, ?_, hs, fun hH => hb (hf _ hH)⟩
    rw [cellsOf hh, ← Array.getElem?_toList, this]; rfl
end
theorem u8_ne {y : UInt8} (h : ¬ y = 0) : (((y.toNat : Nat) : Int) != 0) = true := by
  rw [bne_iff_ne]; intro e; exact h (UInt8.toNat_inj.1 (by rw [show (0 : UInt8).toNat = 0 from rfl]; omega))
theorem u8_ne2 {y : UInt8} (h : ¬ y = 0) : (((y.toNat : Nat) : Int) == 0) = false := by
  rw [beq_eq_false_iff_ne]; intro e; exact h (UInt8.toNat_inj.1 (by rw [show (0 : UInt8).toNat = 0 from rfl]; omega))
/-- in a walk: the world that is now, by what is known of it -/
theorem wp_gen {c : Code} {P : Program} {Q : Exit → Act → World → Prop} {a : Act} {w : World} (F : World → Prop) (hF : F w) (h : ∀ w, F w → c.wp P Q a w) : c.wp P Q a w := h w hF
theorem prep_eq {rows : List (List UInt8)} {rk p : Nat} {x y row : List UInt8} (hy : rows[rk]? = some y) : ((rows.set rk x).set p y).set rk row = prep rows rk p row := by
  have e : rows.getD rk [] = y := by rw [List.getD_eq_getElem?_getD, hy, Option.getD_some]
  unfold prep
  rw [e]
  by_cases h : rk = p
  · subst h; simp only [List.set_set]
  · rw [List.set_comm _ _ h, List.set_set]
theorem prep_eq2 {rows : List (List UInt8)} {rk p : Nat} {x y row : List UInt8} (hy : rows[rk]? = some y) : ((rows.set p y).set rk x).set rk row = prep rows rk p row := by
  have e : rows.getD rk [] = y := by rw [List.getD_eq_getElem?_getD, hy, Option.getD_some]
  unfold prep
  rw [e, List.set_set]
theorem Rws.drew {w : World} {H off n : Nat} {xs : List (List UInt8)} (h : Rws w H off n xs) (hH : H < w.heap.size) : Rws w.drew H off n xs := h.ext hH (Chg.refl [] w).drew
theorem Rws.swap {w : World} {H off n : Nat} {xs : List (List UInt8)} (h : Rws w H off n xs) {i j : Nat} (hi : i < n) (hj : j < n) {A A2 : Option Addr} {C C2 : Nat} {x x2 : List UInt8} {f f2 : List Nat}
    (hx : byteL.sl w A x.length C x f) (hH : H ∉ f) (hx2 : byteL.sl w A2 x2.length C2 x2 f2) (hH2 : H ∉ f2) :
    Rws ((w.setCell ⟨H, off + i, none⟩ (.slice A x.length C)).setCell ⟨H, off + j, none⟩ (.slice A2 x2.length C2)) H off n ((xs.set i x).set j x2) :=
  (h.store hi hx hH).store hj (byteL.sl_keep hx2 (fun b hb => Below.heap_setCell _ _ _ _ (by show b ≠ H; intro e; exact hH2 (e ▸ hb)))) hH2
theorem elimTo_skip {R : List (List UInt8)} {rank c k : Nat} {row r : List UInt8} (h : R[k]? = some r) (h2 : k = rank ∨ clr c row r = r) : elimTo R rank c row (k + 1) = elimTo R rank c row k := by
  rw [← elimTo_next (rank := rank) (c := c) (row := row) h]
  have e : (if k = rank then r else clr c row r) = r := by rcases h2 with h2 | h2 <;> simp [h2]
  rw [e]
  exact set_same ((elimTo_at (Nat.le_refl k)).trans h)
theorem set_at {α : Type} {xs : List α} {i j : Nat} {x y : α} (hj : xs[j]? = some y) (h : i = j → x = y) : ((xs.set j x).set i y)[j]? = some x := by
  have hl := (List.getElem?_eq_some_iff.1 hj).1
  by_cases e : i = j
  · subst e; rw [List.getElem?_set_self (by simpa using hl), h rfl]
  · rw [List.getElem?_set_ne e, List.getElem?_set_self hl]
theorem set_at2 {α : Type} {xs : List α} {i j : Nat} {x y : α} (hj : xs[j]? = some y) : ((xs.set i y).set j x)[j]? = some x := by
  have hl := (List.getElem?_eq_some_iff.1 hj).1
  rw [List.getElem?_set_self (by simpa using hl)]
theorem lead_eq {rows : List (List UInt8)} {p c : Nat} {x : List UInt8} {y : UInt8} (hx : rows[p]? = some x) (hy : cel rows p c = y) : scaleL x (Fld.inv y) = lead rows p c := by
  unfold lead; rw [hy, List.getD_eq_getElem?_getD, hx, Option.getD_some]
/-- what a region leaves, whatever its order: its slots, and what is known of the world -/
theorem rg_tail {c : Code} {P : Program} {Q : Exit → Act → World → Prop} {a : Act} {w : World} (a' : Act) (F : World → Prop) (h1 : c.wp P (fun e a1 w1 => e = .normal ∧ a1 = a' ∧ F w1) a w) (h2 : ∀ w1, F w1 → Q .normal a' w1) : c.wp P Q a w :=
  Code.wp_mono (by rintro e a w ⟨rfl, rfl, h⟩; exact h2 _ h) h1
end Go.Proofs.Ytjnclggpaekdfaa
