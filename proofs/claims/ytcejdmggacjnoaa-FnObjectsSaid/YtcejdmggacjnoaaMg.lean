/- Several texts in one. -/
import Derived.Test.YtcejdmggacjnoaaReg
import Derived.Test.YtcejdmggacjnoaaLst
import Derived.Test.YtcejdmggacjnoaaBss
import Derived.Test.YtcejdmggacjnoaaMix
import Derived.Test.YtcejdmggacjnoaaNum
import Derived.Deep.DeepCutAuto
import Derived.Test.YtcejdmggacjnoaaRows
import Derived.Test.YtcejdmggacjnoaaGrw
import Derived.Test.YtcejdmggacjnoaaSub
import Derived.Deep.RegionLaw
import Derived.Test.YtcejdmggacjnoaaEnc
import Derived.Test.YtcejdmggacjnoaaPar
import Derived.Test.YtcejdmggacjnoaaRfa
import Derived.Test.YtcejdmggacjnoaaZer
import Derived.Test.YtcejdmggacjnoaaLsr
import Derived.Test.YtcejdmggacjnoaaStB
import Derived.Test.YtcejdmggacjnoaaEco
/- Rows brought into steps, in plain Lean; rows as they lie in memory. No function of the program in sight. -/
namespace Go.Proofs.Ytcejdmggacjnoaa
open Go.RowKit

def cel (rows : List (List UInt8)) (r c : Nat) : UInt8 := (rows.getD r []).getD c 0
/-- the first row from r on that has something in column c -/
def fnd (rows : List (List UInt8)) (c r : Nat) : Nat := r + ((rows.drop r).takeWhile (fun x => x.getD c 0 == 0)).length
theorem cel_at {rows : List (List UInt8)} {r c : Nat} {x : List UInt8} {y : UInt8} (h : rows[r]? = some x) (h2 : x[c]? = some y) : cel rows r c = y := by
  unfold cel; simp [List.getD_eq_getElem?_getD, h, h2]
theorem fnd_zero {rows : List (List UInt8)} {c r : Nat} (hr : r < rows.length) (h : cel rows r c = 0) : fnd rows c r = fnd rows c (r + 1) := by
  unfold fnd
  have e : (rows[r]).getD c 0 = 0 := by unfold cel at h; simpa [List.getD_eq_getElem?_getD, List.getElem?_eq_getElem hr] using h
  rw [List.drop_eq_getElem_cons hr, List.takeWhile_cons, if_pos (by rw [e]; rfl), List.length_cons]
  omega
theorem fnd_here {rows : List (List UInt8)} {c r : Nat} (hr : r < rows.length) (h : ¬ cel rows r c = 0) : fnd rows c r = r := by
  unfold fnd
  have e : ¬ (rows[r]).getD c 0 = 0 := by unfold cel at h; simpa [List.getD_eq_getElem?_getD, List.getElem?_eq_getElem hr] using h
  rw [List.drop_eq_getElem_cons hr, List.takeWhile_cons, if_neg (by rw [beq_iff_eq]; exact e)]
  rfl
theorem fnd_end {rows : List (List UInt8)} {c r : Nat} (hr : rows.length ≤ r) : fnd rows c r = r := by
  unfold fnd; rw [List.drop_of_length_le hr]; rfl
theorem fnd_ge (rows : List (List UInt8)) (c r : Nat) : r ≤ fnd rows c r := by unfold fnd; omega
theorem fnd_le {rows : List (List UInt8)} {c r : Nat} (hr : r ≤ rows.length) : fnd rows c r ≤ rows.length := by
  unfold fnd
  have := (List.takeWhile_prefix (fun x : List UInt8 => x.getD c 0 == 0) (l := rows.drop r)).length_le
  rw [List.length_drop] at this
  omega
theorem fnd_nz {rows : List (List UInt8)} {c : Nat} : ∀ {r : Nat}, fnd rows c r < rows.length → ¬ cel rows (fnd rows c r) c = 0 := by
  intro r
  generalize hd : rows.length - r = d
  induction d generalizing r with
  | zero => intro h; rw [fnd_end (by omega)] at h; omega
  | succ d ih =>
    intro h
    have hr : r < rows.length := by omega
    by_cases h0 : cel rows r c = 0
    · rw [fnd_zero hr h0] at h ⊢; exact ih (by omega) h
    · rw [fnd_here hr h0]; exact h0

/-- what stays of a row when its place in column c is made nothing -/
def clr (c : Nat) (row r : List UInt8) : List UInt8 := addL r (scaleL row (r.getD c 0))
def elimR (R : List (List UInt8)) (rank c : Nat) (row : List UInt8) : List (List UInt8) := R.mapIdx (fun i r => if i = rank then r else clr c row r)
def prep (rows : List (List UInt8)) (rank p : Nat) (row : List UInt8) : List (List UInt8) := (rows.set p (rows.getD rank [])).set rank row
def lead (rows : List (List UInt8)) (p c : Nat) : List UInt8 := scaleL (rows.getD p []) (Fld.inv (cel rows p c))
def stepAt (rows : List (List UInt8)) (rank c p : Nat) : List (List UInt8) := elimR (prep rows rank p (lead rows p c)) rank c (lead rows p c)
def gstep (s : List (List UInt8) × Nat) (c : Nat) : List (List UInt8) × Nat := if fnd s.1 c s.2 < s.1.length then (stepAt s.1 s.2 c (fnd s.1 c s.2), s.2 + 1) else s
def gauss (n : Nat) (rows : List (List UInt8)) : List (List UInt8) × Nat := (List.range n).foldl gstep (rows, 0)
theorem gauss_zero (rows : List (List UInt8)) : gauss 0 rows = (rows, 0) := rfl
theorem gauss_next (n : Nat) (rows : List (List UInt8)) : gauss (n + 1) rows = gstep (gauss n rows) n := by unfold gauss; rw [List.range_succ, List.foldl_append]; rfl
theorem gstep_none {s : List (List UInt8) × Nat} {c p : Nat} (h : fnd s.1 c s.2 = p) (hp : s.1.length ≤ p) : gstep s c = s := by unfold gstep; rw [if_neg (by omega)]
theorem gstep_some {s : List (List UInt8) × Nat} {c p : Nat} (h : fnd s.1 c s.2 = p) (hp : p < s.1.length) : gstep s c = (stepAt s.1 s.2 c p, s.2 + 1) := by unfold gstep; rw [h, if_pos hp]
theorem elimR_length (R : List (List UInt8)) (rank c : Nat) (row : List UInt8) : (elimR R rank c row).length = R.length := by simp [elimR]
theorem prep_length (rows : List (List UInt8)) (rank p : Nat) (row : List UInt8) : (prep rows rank p row).length = rows.length := by simp [prep]
theorem stepAt_length (rows : List (List UInt8)) (rank c p : Nat) : (stepAt rows rank c p).length = rows.length := by simp [stepAt, elimR_length, prep_length]
theorem elimR_at {R : List (List UInt8)} {rank c i : Nat} {row r : List UInt8} (h : R[i]? = some r) : (elimR R rank c row)[i]? = some (if i = rank then r else clr c row r) := by
  unfold elimR; rw [List.getElem?_mapIdx, h]; rfl

/-- rows of one length -/
def Wide (m : Nat) (rows : List (List UInt8)) : Prop := ∀ x ∈ rows, x.length = m
theorem Wide.at {m : Nat} {rows : List (List UInt8)} (h : Wide m rows) {i : Nat} {x : List UInt8} (hx : rows[i]? = some x) : x.length = m := h x (List.mem_of_getElem? hx)
theorem Wide.set {m : Nat} {rows : List (List UInt8)} (h : Wide m rows) {i : Nat} {x : List UInt8} (hx : x.length = m) : Wide m (rows.set i x) := by
  intro y hy
  rcases List.mem_or_eq_of_mem_set hy with hy | rfl
  · exact h y hy
  · exact hx
theorem clr_length {c m : Nat} {row r : List UInt8} (h1 : row.length = m) (h2 : r.length = m) : (clr c row r).length = m := by
  unfold clr; rw [addL_len_eq (by rw [scaleL_length, h1, h2]), h2]
theorem Wide.elim {m : Nat} {R : List (List UInt8)} (h : Wide m R) {row : List UInt8} (hr : row.length = m) (rank c : Nat) : Wide m (elimR R rank c row) := by
  intro y hy
  obtain ⟨i, hi, e⟩ := List.getElem_of_mem hy
  have hi' : i < R.length := by rw [elimR_length] at hi; exact hi
  have h1 := elimR_at (rank := rank) (c := c) (row := row) (List.getElem?_eq_getElem hi')
  rw [List.getElem?_eq_getElem hi] at h1
  have h2 := Option.some.inj h1
  rw [← e, h2]
  have h3 : (R[i]).length = m := h _ (List.getElem_mem _)
  split
  · exact h3
  · exact clr_length hr h3
theorem Wide.getD {m : Nat} {rows : List (List UInt8)} (h : Wide m rows) {p : Nat} (hp : p < rows.length) : (rows.getD p []).length = m := by
  rw [List.getD_eq_getElem?_getD, List.getElem?_eq_getElem hp, Option.getD_some]; exact h _ (List.getElem_mem _)
theorem lead_length {m : Nat} {rows : List (List UInt8)} (h : Wide m rows) {p : Nat} (hp : p < rows.length) (c : Nat) : (lead rows p c).length = m := by
  unfold lead; rw [scaleL_length]; exact h.getD hp
theorem Wide.prep {m : Nat} {rows : List (List UInt8)} (h : Wide m rows) {rank p : Nat} (hk : rank < rows.length) {row : List UInt8} (hr : row.length = m) : Wide m (prep rows rank p row) :=
  (h.set (h.getD hk)).set hr
theorem Wide.step {m : Nat} {rows : List (List UInt8)} (h : Wide m rows) {rank c p : Nat} (hk : rank ≤ p) (hp : p < rows.length) : Wide m (stepAt rows rank c p) :=
  (h.prep (by omega) (lead_length h hp c)).elim (lead_length h hp c) rank c
/-- what holds of the rows under way -/
theorem gauss_inv {m : Nat} {rows : List (List UInt8)} (h : Wide m rows) (n : Nat) : (gauss n rows).1.length = rows.length ∧ Wide m (gauss n rows).1 ∧ (gauss n rows).2 ≤ rows.length ∧ (gauss n rows).2 ≤ n := by
  induction n with
  | zero => exact ⟨rfl, h, Nat.zero_le _, Nat.le_refl _⟩
  | succ n ih =>
    obtain ⟨h1, h2, h3, h4⟩ := ih
    rw [gauss_next]
    by_cases hp : fnd (gauss n rows).1 n (gauss n rows).2 < (gauss n rows).1.length
    · rw [gstep_some rfl hp]
      have hg := fnd_ge (gauss n rows).1 n (gauss n rows).2
      exact ⟨by rw [stepAt_length, h1], h2.step hg hp, by show _ + 1 ≤ _; omega, by show _ + 1 ≤ _; omega⟩
    · rw [gstep_none rfl (by omega)]
      exact ⟨h1, h2, h3, by omega⟩
theorem gauss_full {m : Nat} {rows : List (List UInt8)} (h : Wide m rows) {k : Nat} (hf : (gauss k rows).2 = rows.length) : ∀ n, k ≤ n → gauss n rows = gauss k rows := by
  intro n
  induction n with
  | zero => intro hn; obtain rfl : k = 0 := by omega
            rfl
  | succ n ih =>
    intro hn
    by_cases e : k = n + 1
    · rw [e]
    · rw [gauss_next, ih (by omega)]
      have h1 := (gauss_inv h k).1
      exact gstep_none (fnd_end (by omega)) (by omega)

/-- the elimination under way: so many rows are done -/
def elimTo (R : List (List UInt8)) (rank c : Nat) (row : List UInt8) (k : Nat) : List (List UInt8) := (elimR R rank c row).take k ++ R.drop k
theorem elimTo_zero (R : List (List UInt8)) (rank c : Nat) (row : List UInt8) : elimTo R rank c row 0 = R := by simp [elimTo]
theorem elimTo_all {R : List (List UInt8)} {rank c k : Nat} {row : List UInt8} (h : R.length ≤ k) : elimTo R rank c row k = elimR R rank c row := by
  unfold elimTo; rw [List.take_of_length_le (by rw [elimR_length]; exact h), List.drop_of_length_le h, List.append_nil]
theorem elimTo_length (R : List (List UInt8)) (rank c : Nat) (row : List UInt8) (k : Nat) : (elimTo R rank c row k).length = R.length := by
  unfold elimTo; rw [List.length_append, List.length_take, List.length_drop, elimR_length]; omega
theorem elimTo_at {R : List (List UInt8)} {rank c k i : Nat} {row : List UInt8} (hk : k ≤ i) : (elimTo R rank c row k)[i]? = R[i]? := by
  unfold elimTo
  by_cases hi : i < R.length
  · rw [List.getElem?_append_right (by rw [List.length_take, elimR_length]; omega), List.length_take, elimR_length, List.getElem?_drop]
    congr 1; omega
  · rw [List.getElem?_eq_none (by rw [List.length_append, List.length_take, List.length_drop, elimR_length]; omega), List.getElem?_eq_none (by omega)]
theorem elimTo_rank {R : List (List UInt8)} {rank c k : Nat} {row r : List UInt8} (h : R[rank]? = some r) : (elimTo R rank c row k)[rank]? = some r := by
  by_cases hk : k ≤ rank
  · rw [elimTo_at hk, h]
  · have hl := (List.getElem?_eq_some_iff.1 h).1
    unfold elimTo
    rw [List.getElem?_append_left (by rw [List.length_take, elimR_length]; omega), List.getElem?_take_of_lt (by omega), elimR_at h, if_pos rfl]
theorem elimTo_next {R : List (List UInt8)} {rank c k : Nat} {row r : List UInt8} (h : R[k]? = some r) : (elimTo R rank c row k).set k (if k = rank then r else clr c row r) = elimTo R rank c row (k + 1) := by
  have hl := (List.getElem?_eq_some_iff.1 h).1
  have h2 := elimR_at (rank := rank) (c := c) (row := row) h
  unfold elimTo
  rw [List.set_append_right _ _ (by rw [List.length_take, elimR_length]; omega), List.length_take, elimR_length, List.drop_eq_getElem_cons hl, take_next h2, show k - min k R.length = 0 by omega, List.set_cons_zero, List.append_assoc]
  rfl
theorem set_same {α : Type} {xs : List α} {i : Nat} {x : α} (h : xs[i]? = some x) : xs.set i x = xs := by
  obtain ⟨hi, e⟩ := List.getElem?_eq_some_iff.1 h
  rw [← e]; exact List.set_getElem_self hi
theorem scaleL_zero (xs : List UInt8) : scaleL xs 0 = List.replicate xs.length 0 := by
  induction xs with
  | nil => rfl
  | cons x xs ih => unfold scaleL at ih ⊢; rw [List.map_cons, ih, Fld.mul_zero]; rfl
theorem addL_zeros : ∀ (xs : List UInt8) (n : Nat), xs.length = n → addL xs (List.replicate n 0) = xs
  | [], _, rfl => rfl
  | x :: xs, _, rfl => by
    have := addL_zeros xs xs.length rfl
    unfold addL at this ⊢
    rw [List.length_cons, List.replicate_succ, List.zipWith_cons_cons, this, UInt8.xor_zero]
theorem clr_zero {c m : Nat} {row r : List UInt8} (h1 : row.length = m) (h2 : r.length = m) (h0 : r.getD c 0 = 0) : clr c row r = r := by
  unfold clr; rw [h0, scaleL_zero, addL_zeros _ _ (by rw [h1, h2])]

/-! ### rows in memory: the heads of the rows lie in a block of their own, the rows are read -/
def Rws (w : World) (H off n : Nat) (xs : List (List UInt8)) : Prop :=
  n = xs.length ∧ ∀ i x, xs[i]? = some x → ∃ A C f, w.cell? ⟨H, off + i, none⟩ = some (.slice A x.length C) ∧ byteL.sl w A x.length C x f ∧ H ∉ f
section
variable {w w' : World} {H off n : Nat} {xs : List (List UInt8)}
theorem Rws.at (h : Rws w H off n xs) {i : Nat} (hi : i < n) : ∃ x A C f, RowKit.Hid (xs[i]? = some x ∧ byteL.sl w A x.length C x f ∧ H ∉ f) ∧ w.cell? ⟨H, off + i, none⟩ = some (.slice A x.length C) := by
  have hx : xs[i]? = some (xs[i]'(by have := h.1; omega)) := List.getElem?_eq_getElem _
  obtain ⟨A, C, f, h1, h2, h3⟩ := h.2 _ _ hx
  exact ⟨_, A, C, f, ⟨hx, h2, h3⟩, h1⟩
theorem Rws.ext (h : Rws w H off n xs) (hH : H < w.heap.size) (hc : Chg [] w w') : Rws w' H off n xs :=
  ⟨h.1, fun i x hx => by
    obtain ⟨A, C, f, h1, h2, h3⟩ := h.2 i x hx
    exact ⟨A, C, f, (hc.facts.1 H _ hH).trans h1, byteL.sl_ext h2 hc, h3⟩⟩
theorem Rws.store (h : Rws w H off n xs) {i : Nat} (hi : i < n) {A : Option Addr} {C : Nat} {x : List UInt8} {f : List Nat} (hx : byteL.sl w A x.length C x f) (hH : H ∉ f) : Rws (w.setCell ⟨H, off + i, none⟩ (.slice A x.length C)) H off n (xs.set i x) := by
  have hk : ∀ (b : Nat), b ≠ H → (w.setCell ⟨H, off + i, none⟩ (.slice A x.length C)).heap[b]? = w.heap[b]? := fun b hb => Below.heap_setCell _ _ _ _ hb
  refine ⟨by rw [List.length_set]; exact h.1, fun j y hy => ?_⟩
  by_cases e : i = j
  · subst e
    have hl : i < xs.length := by have := h.1; omega
    rw [List.getElem?_set_self hl] at hy
    cases hy
    obtain ⟨x0, A0, C0, f0, _, h1⟩ := h.at hi
    exact ⟨A, C, f, World.cell?_setCell_same _ _ _ h1, byteL.sl_keep hx (fun b hb => hk b (fun e => hH (e ▸ hb))), hH⟩
  · rw [List.getElem?_set_ne e] at hy
    obtain ⟨A0, C0, f0, h1, h2, h3⟩ := h.2 j y hy
    exact ⟨A0, C0, f0, (World.cell?_setCell_other _ _ _ _ (by intro h; have := congrArg Addr.off h; simp at this; omega)).trans h1, byteL.sl_keep h2 (fun b hb => hk b (fun e => h3 (e ▸ hb))), h3⟩
theorem Rws.of_sl {cap b : Nat} {fps : List Nat} (h : byteL.slice.sl w (some ⟨H, off, none⟩) n cap xs (b :: fps)) (hb : H ∉ fps) (hbb : b = H) : Rws w H off n xs := by
  obtain ⟨h1, h2, h3, h4, ⟨_, h5⟩ | ⟨b', off', cur, E, fr, fps', ha, hh, hall, h5⟩⟩ := h
  · cases h5
  · cases h5; cases ha
    refine ⟨h1, fun i x hx => ?_⟩
    obtain ⟨c, f, hc, ⟨A, l, C, rfl, hs⟩, hf⟩ := byteL.slice.all_at hall hx
    obtain rfl := hs.1
    have hi : i < n := by have := (List.getElem?_eq_some_iff.1 hx).1; omega
    have := hc 0 byteL.slice.pos
    have e1 : byteL.slice.n = 1 := rfl
    rw [e1, Nat.mul_one, Nat.add_zero, Nat.mul_one, List.getElem?_take_of_lt hi, List.getElem?_drop] at this
    refine ⟨A, C, f, ?_, hs, fun hH => hb (hf _ hH)⟩
    rw [cellsOf hh, ← Array.getElem?_toList, this]; rfl
end
theorem u8_ne {y : UInt8} (h : ¬ y = 0) : (((y.toNat : Nat) : Int) != 0) = true := by
  rw [bne_iff_ne]; intro e; exact h (UInt8.toNat_inj.1 (by rw [show (0 : UInt8).toNat = 0 from rfl]; omega))
theorem u8_ne2 {y : UInt8} (h : ¬ y = 0) : (((y.toNat : Nat) : Int) == 0) = false := by
  rw [beq_eq_false_iff_ne]; intro e; exact h (UInt8.toNat_inj.1 (by rw [show (0 : UInt8).toNat = 0 from rfl]; omega))
/-- in a walk: the world that is now, by what is known of it -/
theorem wp_gen {c : Code} {P : Program} {Q : Exit → Act → World → Prop} {a : Act} {w : World} (F : World → Prop) (hF : F w) (h : ∀ w, F w → c.wp P Q a w) : c.wp P Q a w := h w hF
theorem prep_eq {rows : List (List UInt8)} {rk p : Nat} {x y row : List UInt8} (hy : rows[rk]? = some y) : ((rows.set rk x).set p y).set rk row = prep rows rk p row := by
  have e : rows.getD rk [] = y := by rw [List.getD_eq_getElem?_getD, hy, Option.getD_some]
  unfold prep
  rw [e]
  by_cases h : rk = p
  · subst h; simp only [List.set_set]
  · rw [List.set_comm _ _ h, List.set_set]
theorem prep_eq2 {rows : List (List UInt8)} {rk p : Nat} {x y row : List UInt8} (hy : rows[rk]? = some y) : ((rows.set p y).set rk x).set rk row = prep rows rk p row := by
  have e : rows.getD rk [] = y := by rw [List.getD_eq_getElem?_getD, hy, Option.getD_some]
  unfold prep
  rw [e, List.set_set]
theorem Rws.drew {w : World} {H off n : Nat} {xs : List (List UInt8)} (h : Rws w H off n xs) (hH : H < w.heap.size) : Rws w.drew H off n xs := h.ext hH (Chg.refl [] w).drew
theorem Rws.swap {w : World} {H off n : Nat} {xs : List (List UInt8)} (h : Rws w H off n xs) {i j : Nat} (hi : i < n) (hj : j < n) {A A2 : Option Addr} {C C2 : Nat} {x x2 : List UInt8} {f f2 : List Nat}
    (hx : byteL.sl w A x.length C x f) (hH : H ∉ f) (hx2 : byteL.sl w A2 x2.length C2 x2 f2) (hH2 : H ∉ f2) :
    Rws ((w.setCell ⟨H, off + i, none⟩ (.slice A x.length C)).setCell ⟨H, off + j, none⟩ (.slice A2 x2.length C2)) H off n ((xs.set i x).set j x2) :=
  (h.store hi hx hH).store hj (byteL.sl_keep hx2 (fun b hb => Below.heap_setCell _ _ _ _ (by show b ≠ H; intro e; exact hH2 (e ▸ hb)))) hH2
theorem elimTo_skip {R : List (List UInt8)} {rank c k : Nat} {row r : List UInt8} (h : R[k]? = some r) (h2 : k = rank ∨ clr c row r = r) : elimTo R rank c row (k + 1) = elimTo R rank c row k := by
  rw [← elimTo_next (rank := rank) (c := c) (row := row) h]
  have e : (if k = rank then r else clr c row r) = r := by rcases h2 with h2 | h2 <;> simp [h2]
  rw [e]
  exact set_same ((elimTo_at (Nat.le_refl k)).trans h)
theorem set_at {α : Type} {xs : List α} {i j : Nat} {x y : α} (hj : xs[j]? = some y) (h : i = j → x = y) : ((xs.set j x).set i y)[j]? = some x := by
  have hl := (List.getElem?_eq_some_iff.1 hj).1
  by_cases e : i = j
  · subst e; rw [List.getElem?_set_self (by simpa using hl), h rfl]
  · rw [List.getElem?_set_ne e, List.getElem?_set_self hl]
theorem set_at2 {α : Type} {xs : List α} {i j : Nat} {x y : α} (hj : xs[j]? = some y) : ((xs.set i y).set j x)[j]? = some x := by
  have hl := (List.getElem?_eq_some_iff.1 hj).1
  rw [List.getElem?_set_self (by simpa using hl)]
theorem lead_eq {rows : List (List UInt8)} {p c : Nat} {x : List UInt8} {y : UInt8} (hx : rows[p]? = some x) (hy : cel rows p c = y) : scaleL x (Fld.inv y) = lead rows p c := by
  unfold lead; rw [hy, List.getD_eq_getElem?_getD, hx, Option.getD_some]
/-- what a region leaves, whatever its order: its slots, and what is known of the world -/
theorem rg_tail {c : Code} {P : Program} {Q : Exit → Act → World → Prop} {a : Act} {w : World} (a' : Act) (F : World → Prop) (h1 : c.wp P (fun e a1 w1 => e = .normal ∧ a1 = a' ∧ F w1) a w) (h2 : ∀ w1, F w1 → Q .normal a' w1) : c.wp P Q a w :=
  Code.wp_mono (by rintro e a w ⟨rfl, rfl, h⟩; exact h2 _ h) h1
end Go.Proofs.Ytcejdmggacjnoaa

/- The program's reduce: rows brought into steps. -/
namespace Go.Proofs.Ytcejdmggacjnoaa
open Go.RowKit

end Go.Proofs.Ytcejdmggacjnoaa

/- slices.Clone at lists of bytes and at lists of lists. -/
namespace Go.Proofs.Ytcejdmggacjnoaa
open Go.RowKit

end Go.Proofs.Ytcejdmggacjnoaa

/- The program's solve: the one solution of independent rows. -/
namespace Go.Proofs.Ytcejdmggacjnoaa
open Go.RowKit

/-- rows with their right sides behind them -/
def augm (rows : List (List UInt8)) (right : List UInt8) : List (List UInt8) := rows.zipWith (fun r b => r ++ [b]) right
def solved (rows : List (List UInt8)) (right : List UInt8) : List (List UInt8) × Nat := gauss rows.length (augm rows right)
def solV (rows : List (List UInt8)) (right : List UInt8) : Option (List UInt8) :=
  if (solved rows right).2 < rows.length then none else some ((solved rows right).1.map (fun r => r.getD rows.length 0))
theorem augm_length {rows : List (List UInt8)} {right : List UInt8} (h : right.length = rows.length) : (augm rows right).length = rows.length := by unfold augm; rw [List.length_zipWith]; omega
theorem augm_at {rows : List (List UInt8)} {right : List UInt8} {i : Nat} {r : List UInt8} {b : UInt8} (h1 : rows[i]? = some r) (h2 : right[i]? = some b) : (augm rows right)[i]? = some (r ++ [b]) := by
  unfold augm; rw [List.getElem?_zipWith, h1, h2]
theorem augm_wide {rows : List (List UInt8)} {right : List UInt8} {m : Nat} (h : Wide m rows) : Wide (m + 1) (augm rows right) := by
  intro x hx
  unfold augm at hx
  obtain ⟨i, hi, e⟩ := List.getElem_of_mem hx
  rw [List.getElem_zipWith] at e
  rw [← e, List.length_append, h _ (List.getElem_mem _)]; rfl
/-- the rows laid so far -/
def augTo (R : List (List UInt8)) (n k : Nat) : List (List UInt8) := R.take k ++ List.replicate (n - k) []
theorem augTo_zero (R : List (List UInt8)) (n : Nat) : augTo R n 0 = List.replicate n [] := by simp [augTo]
theorem augTo_all {R : List (List UInt8)} {n : Nat} (h : R.length = n) : augTo R n n = R := by unfold augTo; rw [List.take_of_length_le (by omega), Nat.sub_self]; simp
theorem augTo_next {R : List (List UInt8)} {n k : Nat} {x : List UInt8} (hx : R[k]? = some x) (hn : n = R.length) : (augTo R n k).set k x = augTo R n (k + 1) := copyL_next hx hn

/-- a list that may be, and whether it is, made anew -/
def NewOpt (r : Option (List UInt8)) (w : World) (e : Ending) (w' : World) : Prop :=
  ∃ a cap fp, e = .returned (.tuple #[.slice a (r.getD []).length cap, .bool r.isSome]) ∧ byteL.sl w' a (r.getD []).length cap (r.getD []) fp ∧ Fresh w.heap.size w' fp ∧ Chg [] w w'

/-- the same, and the list may be grown further -/
def NewOptG (E : TypeId) (r : Option (List UInt8)) (w : World) (e : Ending) (w' : World) : Prop :=
  ∃ v, e = .returned (.tuple #[v, .bool r.isSome]) ∧ Grow byteL E w w' v (r.getD [])
theorem NewOptG.opt {E : TypeId} {r : Option (List UInt8)} {w : World} {e : Ending} {w' : World} (h : NewOptG E r w e w') : NewOpt r w e w' := by
  obtain ⟨v, rfl, hg⟩ := h
  obtain ⟨a, c, f, rfl, h1, h2, h3⟩ := hg.bytes
  exact ⟨a, c, f, rfl, h1, h2, h3⟩

end Go.Proofs.Ytcejdmggacjnoaa

/- Rows brought into steps: what stays true of them, in plain Lean. No function of the program in sight. -/
namespace Go.Proofs.Ytcejdmggacjnoaa
open Go.RowKit

/-- a row, weighed -/
def lin : List UInt8 → List UInt8 → UInt8
  | [], _ => 0
  | _ :: _, [] => 0
  | a :: xs, y :: ys => Fld.mul a y ^^^ lin xs ys
theorem lin_add : ∀ (a b y : List UInt8), a.length = b.length → lin (addL a b) y = lin a y ^^^ lin b y
  | [], [], _, _ => by simp [addL, lin]
  | [], _ :: _, _, h => by simp at h
  | _ :: _, [], _, h => by simp at h
  | a :: xs, b :: zs, [], _ => by simp [addL, lin]
  | a :: xs, b :: zs, y :: ys, h => by
    have := lin_add xs zs ys (by simpa using h)
    unfold addL at this ⊢
    rw [List.zipWith_cons_cons]
    simp only [lin, this, Fld.add_mul]
    exact Fld.xor_4 _ _ _ _
theorem lin_scale : ∀ (a y : List UInt8) (c : UInt8), lin (scaleL a c) y = Fld.mul (lin a y) c
  | [], _, c => by simp [scaleL, lin, Fld.zero_mul]
  | _ :: _, [], c => by simp [scaleL, lin, Fld.zero_mul]
  | a :: xs, y :: ys, c => by
    have := lin_scale xs ys c
    unfold scaleL at this ⊢
    rw [List.map_cons]
    simp only [lin, this, Fld.add_mul]
    rw [Fld.mul_assoc, Fld.mul_comm c y, ← Fld.mul_assoc]
theorem lin_snoc : ∀ (r x : List UInt8) (b : UInt8), r.length = x.length → lin (r ++ [b]) (x ++ [1]) = lin r x ^^^ b
  | [], [], b, _ => by simp [lin, Fld.mul_one]
  | [], _ :: _, _, h => by simp at h
  | _ :: _, [], _, h => by simp at h
  | a :: xs, y :: ys, b, h => by
    have := lin_snoc xs ys b (by simpa using h)
    simp only [List.cons_append, lin, this, UInt8.xor_assoc]
theorem xor_zero_iff {a b : UInt8} : a ^^^ b = 0 ↔ a = b := by
  constructor
  · intro h
    have := congrArg (fun x => x ^^^ b) h
    simpa [UInt8.xor_assoc] using this
  · rintro rfl; exact UInt8.xor_self
theorem mul_eq_zero {a c : UInt8} (hc : c ≠ 0) (h : Fld.mul a c = 0) : a = 0 := by
  have := Fld.mul_div a c hc
  rw [h, Fld.zero_mul] at this
  exact this.symm

/-- each row is weighed to nothing -/
def Nul (y : List UInt8) (rows : List (List UInt8)) : Prop := ∀ (i : Nat) r, rows[i]? = some r → lin r y = 0
theorem cel_out {rows : List (List UInt8)} {i : Nat} (h : rows.length ≤ i) (j : Nat) : cel rows i j = 0 := by
  have e : rows.getD i [] = [] := by simp [List.getD_eq_getElem?_getD, List.getElem?_eq_none h]
  unfold cel; rw [e]; rfl
theorem cel_some {rows : List (List UInt8)} {i c : Nat} (h : ¬ cel rows i c = 0) : i < rows.length := by
  by_cases hi : i < rows.length
  · exact hi
  · exact absurd (cel_out (by omega) c) h
theorem inv_ne {a : UInt8} (h : a ≠ 0) : Fld.inv a ≠ 0 := by
  intro e
  have := Fld.mul_inv a h
  rw [e, Fld.mul_zero] at this
  exact absurd this (by decide)
theorem getD_at {rows : List (List UInt8)} {i : Nat} {r : List UInt8} (h : rows[i]? = some r) : rows.getD i [] = r := by
  rw [List.getD_eq_getElem?_getD, h]; rfl
theorem prep_rank {rows : List (List UInt8)} {rank p : Nat} {row : List UInt8} (h : rank < rows.length) : (prep rows rank p row)[rank]? = some row := by
  unfold prep; rw [List.getElem?_set_self (by simp; omega)]
theorem prep_old {rows : List (List UInt8)} {rank p : Nat} {row r : List UInt8} (hp : p < rows.length) (hn : p ≠ rank) (h : rows[rank]? = some r) : (prep rows rank p row)[p]? = some r := by
  unfold prep; rw [List.getElem?_set_ne (by omega), List.getElem?_set_self hp, getD_at h]
theorem prep_else {rows : List (List UInt8)} {rank p i : Nat} {row : List UInt8} (h1 : i ≠ p) (h2 : i ≠ rank) : (prep rows rank p row)[i]? = rows[i]? := by
  unfold prep; rw [List.getElem?_set_ne (by omega), List.getElem?_set_ne (by omega)]
theorem prep_any {rows : List (List UInt8)} {rank p i : Nat} {row : List UInt8} (hr : rank < rows.length) (hi : i < rows.length) (h2 : i ≠ rank) : ∃ r, rows[if i = p then rank else i]? = some r ∧ (prep rows rank p row)[i]? = some r := by
  by_cases e : i = p
  · subst e; rw [if_pos rfl]; exact ⟨_, List.getElem?_eq_getElem hr, prep_old hi h2 (List.getElem?_eq_getElem hr)⟩
  · rw [if_neg e]; exact ⟨_, List.getElem?_eq_getElem hi, by rw [prep_else e h2]; exact List.getElem?_eq_getElem hi⟩
/-- what is nothing behind a step was nothing ahead of it -/
theorem stepAt_nul {m : Nat} {rows : List (List UInt8)} (hw : Wide m rows) {rank c p : Nat} (hk : rank ≤ p) (hp : p < rows.length) (hz : ¬ cel rows p c = 0) {y : List UInt8} (h : Nul y (stepAt rows rank c p)) : Nul y rows := by
  have hpr : rows[p]? = some rows[p] := List.getElem?_eq_getElem hp
  have hrk : rows[rank]? = some (rows[rank]'(by omega)) := List.getElem?_eq_getElem _
  have hll := lead_length hw hp c
  have hprep : ∀ (i : Nat) r, (prep rows rank p (lead rows p c))[i]? = some r → lin (if i = rank then r else clr c (lead rows p c) r) y = 0 := fun i r hr => h i _ (elimR_at hr)
  have hlead : lin (lead rows p c) y = 0 := by
    have := hprep rank (lead rows p c) (prep_rank (by omega))
    rwa [if_pos rfl] at this
  have hp0 : lin rows[p] y = 0 := by
    unfold lead at hlead
    rw [getD_at hpr, lin_scale] at hlead
    exact mul_eq_zero (inv_ne hz) hlead
  have hclr : ∀ r : List UInt8, r.length = m → lin (clr c (lead rows p c) r) y = lin r y := by
    intro r hr
    unfold clr
    rw [lin_add _ _ _ (by rw [scaleL_length, hr, hll]), lin_scale, hlead, Fld.zero_mul, UInt8.xor_zero]
  intro i r hr
  by_cases e1 : i = p
  · subst e1; rw [hpr] at hr; cases hr; exact hp0
  · by_cases e2 : i = rank
    · subst e2
      rw [hrk] at hr
      cases hr
      have := hprep p rows[i] (prep_old hp (by omega) hrk)
      rw [if_neg (by omega), hclr _ (hw.at hrk)] at this
      exact this
    · have := hprep i r (by unfold prep; rw [List.getElem?_set_ne (by omega), List.getElem?_set_ne (by omega)]; exact hr)
      rw [if_neg e2, hclr _ (hw.at hr)] at this
      exact this
theorem gauss_nul {m : Nat} {rows : List (List UInt8)} (hw : Wide m rows) {y : List UInt8} : ∀ n, Nul y (gauss n rows).1 → Nul y rows := by
  intro n
  induction n with
  | zero => exact fun h => h
  | succ n ih =>
    intro h
    obtain ⟨h1, h2, h3, h4⟩ := gauss_inv hw n
    rw [gauss_next] at h
    by_cases hp : fnd (gauss n rows).1 n (gauss n rows).2 < (gauss n rows).1.length
    · rw [gstep_some rfl hp] at h
      exact ih (stepAt_nul h2 (fnd_ge _ _ _) hp (fnd_nz hp) h)
    · rw [gstep_none rfl (by omega)] at h
      exact ih h

/-- the first columns are those of the unit rows -/
def Unit (c : Nat) (rows : List (List UInt8)) : Prop := ∀ i j, i < rows.length → j < c → cel rows i j = if i = j then 1 else 0
theorem cel_getD {rows : List (List UInt8)} {i j : Nat} {r : List UInt8} (h : rows[i]? = some r) : cel rows i j = r.getD j 0 := by unfold cel; rw [getD_at h]
theorem getD_add {a b : List UInt8} (h : a.length = b.length) (j : Nat) : (addL a b).getD j 0 = a.getD j 0 ^^^ b.getD j 0 := by
  unfold addL
  rw [List.getD_eq_getElem?_getD, List.getD_eq_getElem?_getD, List.getD_eq_getElem?_getD, List.getElem?_zipWith]
  by_cases hj : j < a.length
  · rw [List.getElem?_eq_getElem hj, List.getElem?_eq_getElem (by omega : j < b.length)]; rfl
  · rw [List.getElem?_eq_none (by omega), List.getElem?_eq_none (by omega : b.length ≤ j)]; rfl
theorem getD_scale (a : List UInt8) (c : UInt8) (j : Nat) : (scaleL a c).getD j 0 = Fld.mul (a.getD j 0) c := by
  unfold scaleL
  rw [List.getD_eq_getElem?_getD, List.getD_eq_getElem?_getD, List.getElem?_map]
  cases a[j]? with
  | none => simp [Fld.zero_mul]
  | some x => rfl
theorem stepAt_unit {m : Nat} {rows : List (List UInt8)} (hw : Wide m rows) {c p : Nat} (hk : c ≤ p) (hp : p < rows.length) (hz : ¬ cel rows p c = 0) (hu : Unit c rows) : Unit (c + 1) (stepAt rows c c p) := by
  have hpr : rows[p]? = some rows[p] := List.getElem?_eq_getElem hp
  have hcr : rows[c]? = some (rows[c]'(by omega)) := List.getElem?_eq_getElem _
  have hll := lead_length hw hp c
  have hld : ∀ j, (lead rows p c).getD j 0 = Fld.mul (cel rows p j) (Fld.inv (cel rows p c)) := by
    intro j; unfold lead; rw [getD_scale]; rfl
  have hldj : ∀ j, j < c → (lead rows p c).getD j 0 = 0 := by
    intro j hj; rw [hld, hu p j hp hj, if_neg (by omega), Fld.zero_mul]
  have hldc : (lead rows p c).getD c 0 = 1 := by rw [hld]; exact Fld.mul_inv _ hz
  intro i j hi hj
  rw [stepAt_length] at hi
  unfold stepAt
  by_cases e1 : i = c
  · subst e1
    rw [cel_getD (elimR_at (rank := i) (c := i) (row := lead rows p i) (prep_rank (row := lead rows p i) (p := p) (by omega))), if_pos rfl]
    by_cases e2 : j = i
    · subst e2; rw [if_pos rfl, hldc]
    · rw [if_neg (by omega), hldj j (by omega)]
  · obtain ⟨r, h1, h2⟩ := prep_any (p := p) (row := lead rows p c) (rank := c) (by omega) hi e1
    rw [cel_getD (elimR_at (rank := c) (c := c) (row := lead rows p c) h2), if_neg e1]
    unfold clr
    rw [getD_add (by rw [scaleL_length, hw.at h1, hll]), getD_scale]
    by_cases e2 : j = c
    · subst e2
      rw [hldc, Fld.one_mul, UInt8.xor_self, if_neg e1]
    · rw [hldj j (by omega), Fld.zero_mul, UInt8.xor_zero, ← cel_getD h1, hu _ j (List.getElem?_eq_some_iff.1 h1).1 (by omega)]
      by_cases e3 : i = p
      · rw [if_pos e3, if_neg (by omega), if_neg (by omega)]
      · rw [if_neg e3]
theorem gauss_unit {m : Nat} {rows : List (List UInt8)} (hw : Wide m rows) : ∀ n, (gauss n rows).2 = n → Unit n (gauss n rows).1 := by
  intro n
  induction n with
  | zero => intro _ i j _ hj; omega
  | succ n ih =>
    intro h
    obtain ⟨h1, h2, h3, h4⟩ := gauss_inv hw n
    rw [gauss_next] at h ⊢
    by_cases hp : fnd (gauss n rows).1 n (gauss n rows).2 < (gauss n rows).1.length
    · rw [gstep_some rfl hp] at h ⊢
      have hn : (gauss n rows).2 = n := by simp only at h; omega
      have hge := fnd_ge (gauss n rows).1 n (gauss n rows).2
      have hnz := fnd_nz hp
      have := ih hn
      generalize hG : gauss n rows = G at *
      obtain ⟨M, rk⟩ := G
      simp only at *
      subst hn
      exact stepAt_unit h2 hge hp hnz this
    · rw [gstep_none rfl (by omega)] at h
      omega

/-- a unit row, weighed -/
theorem lin_unit : ∀ (r x : List UInt8) (i : Nat), r.length = x.length → (∀ j, j < r.length → r.getD j 0 = if i = j then 1 else 0) → lin r x = x.getD i 0
  | [], [], _, _, _ => rfl
  | [], _ :: _, _, h, _ => by simp at h
  | _ :: _, [], _, h, _ => by simp at h
  | a :: bs, y :: ys, 0, h, hr => by
    have h0 := hr 0 (by simp)
    have hz : ∀ (bs ys : List UInt8), (∀ j, j < bs.length → bs.getD j 0 = 0) → lin bs ys = 0 := by
      intro bs
      induction bs with
      | nil => intro ys _; rfl
      | cons a bs ih =>
        intro ys h
        cases ys with
        | nil => rfl
        | cons y ys =>
          have h1 : a = 0 := by simpa using h 0 (by simp)
          have h2 := ih ys (fun j hj => by have := h (j + 1) (by simpa using hj); simpa using this)
          simp [lin, h1, h2, Fld.zero_mul]
    have h1 : a = 1 := by simpa using h0
    have h2 := hz bs ys (fun j hj => by have := hr (j + 1) (by simpa using hj); simpa using this)
    simp [lin, h1, h2, Fld.one_mul]
  | a :: bs, y :: ys, i + 1, h, hr => by
    have h1 : a = 0 := by simpa using hr 0 (by simp)
    have h2 := lin_unit bs ys i (by simpa using h) (fun j hj => by have := hr (j + 1) (by simpa using hj); simpa using this)
    simp [lin, h1, h2, Fld.zero_mul]

/-- a solution that is told solves each row -/
theorem solV_sound {rows : List (List UInt8)} {right x : List UInt8} (hw : Wide rows.length rows) (hr : right.length = rows.length) (h : solV rows right = some x) :
    x.length = rows.length ∧ ∀ (i : Nat) r b, rows[i]? = some r → right[i]? = some b → lin r x = b := by
  unfold solV solved at h
  have haw : Wide (rows.length + 1) (augm rows right) := augm_wide hw
  obtain ⟨h1, h2, h3, h4⟩ := gauss_inv haw rows.length
  rw [augm_length hr] at h1 h3
  split at h
  · cases h
  · rename_i hlt
    have hx := (Option.some.inj h).symm
    have hu := gauss_unit haw rows.length (by omega)
    have hxl : x.length = rows.length := by rw [hx, List.length_map, h1]
    refine ⟨hxl, ?_⟩
    have hn : Nul (x ++ [1]) (gauss rows.length (augm rows right)).1 := by
      intro i r hi
      have hil : i < rows.length := by rw [← h1]; exact (List.getElem?_eq_some_iff.1 hi).1
      have hrl : r.length = rows.length + 1 := h2.at hi
      obtain ⟨r0, b, rfl⟩ : ∃ r0 b, r = r0 ++ [b] := ⟨r.dropLast, r.getLast (by intro e; rw [e] at hrl; simp at hrl), (List.dropLast_concat_getLast _).symm⟩
      have hr0 : r0.length = rows.length := by simpa using hrl
      rw [lin_snoc _ _ _ (by omega), xor_zero_iff]
      have hb : b = x.getD i 0 := by
        rw [hx, List.getD_eq_getElem?_getD, List.getElem?_map, hi]
        simp [List.getD_eq_getElem?_getD, ← hr0]
      rw [hb]
      refine lin_unit _ _ _ (by omega) (fun j hj => ?_)
      have := hu i j (by omega) (by omega)
      rw [cel_getD hi] at this
      rw [← this, List.getD_eq_getElem?_getD, List.getD_eq_getElem?_getD, List.getElem?_append_left hj]
    have hn0 := gauss_nul haw rows.length hn
    intro i r b hri hbi
    have := hn0 i _ (augm_at hri hbi)
    rw [lin_snoc _ _ _ (by rw [hw.at hri, hxl]), xor_zero_iff] at this
    exact this

/-! ### the right side does not count for how many rows are independent -/
def Same (n : Nat) (A B : List (List UInt8)) : Prop := A.length = B.length ∧ ∀ i j, j < n → cel A i j = cel B i j
theorem fnd_same {n : Nat} {A B : List (List UInt8)} (h : Same n A B) {c : Nat} (hc : c < n) : ∀ (d r : Nat), A.length - r = d → fnd A c r = fnd B c r := by
  intro d
  induction d with
  | zero => intro r hr; rw [fnd_end (by omega), fnd_end (by have := h.1; omega)]
  | succ d ih =>
    intro r hr
    by_cases h0 : cel A r c = 0
    · have hb : cel B r c = 0 := by rw [← h.2 r c hc]; exact h0
      have e1 := fnd_zero (rows := A) (by omega) h0
      have e2 := fnd_zero (rows := B) (by have := h.1; omega) hb
      rw [e1, e2, ih (r + 1) (by omega)]
    · have hb : ¬ cel B r c = 0 := by rw [← h.2 r c hc]; exact h0
      have e1 := fnd_here (rows := A) (by omega) h0
      have e2 := fnd_here (rows := B) (by have := h.1; omega) hb
      rw [e1, e2]
theorem stepAt_cel {m : Nat} {rows : List (List UInt8)} (hw : Wide m rows) {rank c p : Nat} (hk : rank ≤ p) (hp : p < rows.length) (i j : Nat) (hi : i < rows.length) :
    cel (stepAt rows rank c p) i j = (if i = rank then Fld.mul (cel rows p j) (Fld.inv (cel rows p c)) else
      (cel rows (if i = p then rank else i) j) ^^^ Fld.mul (Fld.mul (cel rows p j) (Fld.inv (cel rows p c))) (cel rows (if i = p then rank else i) c)) := by
  have hll := lead_length hw hp c
  have hld : ∀ j, (lead rows p c).getD j 0 = Fld.mul (cel rows p j) (Fld.inv (cel rows p c)) := by
    intro j; unfold lead; rw [getD_scale]; rfl
  by_cases e1 : i = rank
  · subst e1
    unfold stepAt
    rw [cel_getD (elimR_at (rank := i) (c := c) (row := lead rows p c) (prep_rank (row := lead rows p c) (p := p) (by omega))), if_pos rfl, if_pos rfl, hld]
  · obtain ⟨r, h1, h2⟩ := prep_any (p := p) (row := lead rows p c) (rank := rank) (by omega) hi e1
    unfold stepAt
    rw [cel_getD (elimR_at (rank := rank) (c := c) (row := lead rows p c) h2), if_neg e1, if_neg e1]
    unfold clr
    rw [getD_add (by rw [scaleL_length, hw.at h1, hll]), getD_scale, hld, ← cel_getD h1, ← cel_getD h1]
theorem gauss_same {m m' n : Nat} {A B : List (List UInt8)} (hA : Wide m A) (hB : Wide m' B) (h : Same n A B) : ∀ c, c ≤ n → Same n (gauss c A).1 (gauss c B).1 ∧ (gauss c A).2 = (gauss c B).2 := by
  intro c
  induction c with
  | zero => intro _; exact ⟨h, rfl⟩
  | succ c ih =>
    intro hc
    obtain ⟨h1, h2⟩ := ih (by omega)
    obtain ⟨a1, a2, a3, a4⟩ := gauss_inv hA c
    obtain ⟨b1, b2, b3, b4⟩ := gauss_inv hB c
    rw [gauss_next, gauss_next]
    have hf := fnd_same h1 (c := c) (by omega) _ (gauss c A).2 rfl
    have hfb : fnd (gauss c B).1 c (gauss c B).2 = fnd (gauss c A).1 c (gauss c A).2 := by rw [hf, h2]
    by_cases hp : fnd (gauss c A).1 c (gauss c A).2 < (gauss c A).1.length
    · rw [gstep_some rfl hp, gstep_some hfb (by have := h1.1; omega)]
      have hge := fnd_ge (gauss c A).1 c (gauss c A).2
      refine ⟨⟨by rw [stepAt_length, stepAt_length, h1.1], fun i j hj => ?_⟩, by show _ + 1 = _ + 1; rw [h2]⟩
      by_cases hi : i < (gauss c A).1.length
      · rw [stepAt_cel a2 hge hp i j hi, stepAt_cel b2 (by rw [← h2]; exact hge) (by have := h1.1; omega) i j (by have := h1.1; omega), h2, h1.2 _ j hj, h1.2 _ c (by omega), h1.2 _ j hj, h1.2 _ c (by omega)]
      · rw [cel_out (by rw [stepAt_length]; omega), cel_out (by rw [stepAt_length]; have := h1.1; omega)]
    · rw [gstep_none rfl (by omega), gstep_none hfb (by have := h1.1; omega)]
      exact ⟨h1, h2⟩
theorem augm_same {rows : List (List UInt8)} {right : List UInt8} {n : Nat} (hw : Wide n rows) (hr : right.length = rows.length) : Same n (augm rows right) rows := by
  refine ⟨augm_length hr, fun i j hj => ?_⟩
  by_cases hi : i < rows.length
  · have h1 : rows[i]? = some rows[i] := List.getElem?_eq_getElem hi
    rw [cel_getD (augm_at h1 (List.getElem?_eq_getElem (by omega : i < right.length))), cel_getD h1, List.getD_eq_getElem?_getD, List.getD_eq_getElem?_getD, List.getElem?_append_left (by rw [hw.at h1]; exact hj)]
  · rw [cel_out (by rw [augm_length hr]; omega), cel_out (by omega)]
theorem solved_rank {rows : List (List UInt8)} {right : List UInt8} (hw : Wide rows.length rows) (hr : right.length = rows.length) : (solved rows right).2 = (gauss rows.length rows).2 :=
  (gauss_same (augm_wide (right := right) hw) hw (augm_same hw hr) rows.length (Nat.le_refl _)).2
end Go.Proofs.Ytcejdmggacjnoaa

/- Any so many lists of a column as there are groups tell all: shown by counting. No function of the program in sight. -/
namespace Go.Proofs.Ytcejdmggacjnoaa
open Go.RowKit

/-- the weights of lists, as rows: a row for each group -/
def colR (n : Nat) (base : Int) (ks : List Int) : List (List UInt8) := (List.range n).map (fun i => ks.map (fun k => genAt n k base i))
theorem colR_length (n : Nat) (base : Int) (ks : List Int) : (colR n base ks).length = n := by simp [colR]
theorem colR_at {n : Nat} {base : Int} {ks : List Int} {i : Nat} (h : i < n) : (colR n base ks)[i]? = some (ks.map (fun k => genAt n k base i)) := by
  unfold colR; rw [List.getElem?_map, List.getElem?_range h]; rfl
theorem colR_wide (n : Nat) (base : Int) (ks : List Int) : Wide ks.length (colR n base ks) := by
  intro x hx
  unfold colR at hx
  obtain ⟨i, _, rfl⟩ := List.mem_map.1 hx
  simp

/-! ### the same, with inverses out of a table -/
def invT (a : UInt8) : UInt8 := Fld.tab.getD a.toNat 0
theorem invT_mul (a : UInt8) (h : a ≠ 0) : Fld.mul a (invT a) = 1 := by
  revert h; revert a
  exact Fld.u8_all (by decide +kernel)
theorem inv_eq : Fld.inv = invT := by
  funext a
  by_cases h : a = 0
  · subst h; unfold Fld.inv; rw [Fld.pw_zero 254 (by omega)]; decide +kernel
  · have h1 := invT_mul a h
    have h2 := Fld.mul_inv a h
    have h3 : Fld.mul (Fld.inv a) (Fld.mul a (invT a)) = Fld.inv a := by rw [h1, Fld.mul_one]
    rw [← Fld.mul_assoc, Fld.mul_comm (Fld.inv a) a, h2, Fld.one_mul] at h3
    exact h3.symm
def leadT (rows : List (List UInt8)) (p c : Nat) : List UInt8 := scaleL (rows.getD p []) (invT (cel rows p c))
def stepT (rows : List (List UInt8)) (rank c p : Nat) : List (List UInt8) := elimR (prep rows rank p (leadT rows p c)) rank c (leadT rows p c)
def gstepT (s : List (List UInt8) × Nat) (c : Nat) : List (List UInt8) × Nat := if fnd s.1 c s.2 < s.1.length then (stepT s.1 s.2 c (fnd s.1 c s.2), s.2 + 1) else s
def gaussT (n : Nat) (rows : List (List UInt8)) : List (List UInt8) × Nat := (List.range n).foldl gstepT (rows, 0)
theorem gaussT_eq (n : Nat) (rows : List (List UInt8)) : gauss n rows = gaussT n rows := by
  have h1 : lead = leadT := by funext rows p c; unfold lead leadT; rw [inv_eq]
  have h2 : stepAt = stepT := by funext rows a b c; unfold stepAt stepT; rw [h1]
  have h3 : gstep = gstepT := by funext s c; unfold gstep gstepT; rw [h2]
  unfold gauss gaussT; rw [h3]
def cauT8 (j i : Int) : UInt8 := invT (UInt8.ofNat (128 + j).toNat ^^^ UInt8.ofNat i.toNat)
def genT (n : Nat) (p : Int) (i : Nat) : UInt8 := if (n : Int) ≤ p then cauT8 (8 + p - n) i else if (i : Int) = p then 1 else 0
theorem genT_eq (n : Nat) (p : Int) (i : Nat) : genAt n p 8 i = genT n p i := by unfold genAt genT cau cauT8; rw [inv_eq]
def colT (n : Nat) (ks : List Int) : List (List UInt8) := (List.range n).map (fun i => ks.map (fun k => genT n k i))
theorem colT_eq (n : Nat) (ks : List Int) : colR n 8 ks = colT n ks := by
  unfold colR colT
  congr 1; funext i; congr 1; funext k; exact genT_eq n k i
def full (n : Nat) (ks : List Int) : Bool := (gaussT n (colT n ks)).2 == n
theorem full1 : ∀ a : Fin 3, full 1 [(a.val : Int)] = true := by decide +kernel
theorem full2 : ∀ a b : Fin 4, a < b → full 2 [(a.val : Int), (b.val : Int)] = true := by decide +kernel
theorem full3 : ∀ a b c : Fin 5, a < b → b < c → full 3 [(a.val : Int), (b.val : Int), (c.val : Int)] = true := by decide +kernel
theorem full4 : ∀ a b c d : Fin 6, a < b → b < c → c < d → full 4 [(a.val : Int), (b.val : Int), (c.val : Int), (d.val : Int)] = true := by decide +kernel

/-- numbers that rise, from 0 below most -/
def Ris (most : Int) (ks : List Int) : Prop := (∀ k ∈ ks, 0 ≤ k ∧ k < most) ∧ ks.Pairwise (· < ·)
theorem fin_of {m : Nat} {k : Int} (h : 0 ≤ k ∧ k < m) : ∃ a : Fin m, k = (a.val : Int) := ⟨⟨k.toNat, by omega⟩, by show k = ((k.toNat : Nat) : Int); omega⟩
theorem rises_full {n : Nat} {ks : List Int} (h1 : 1 ≤ n) (h4 : n ≤ 4) (hl : ks.length = n) {most : Int} (hm : most ≤ n + 2) (hr : Ris most ks) : (gauss n (colR n 8 ks)).2 = n := by
  have key : full n ks = true := by
    obtain ⟨hb, hp⟩ := hr
    have hb' : ∀ k ∈ ks, 0 ≤ k ∧ k < ((n + 2 : Nat) : Int) := fun k hk => ⟨(hb k hk).1, by have := (hb k hk).2; omega⟩
    match n, ks, hl with
    | 1, [a], _ =>
      obtain ⟨a, rfl⟩ := fin_of (hb' a (by simp))
      exact full1 a
    | 2, [a, b], _ =>
      obtain ⟨a, rfl⟩ := fin_of (hb' a (by simp)); obtain ⟨b, rfl⟩ := fin_of (hb' b (by simp))
      simp at hp
      exact full2 a b hp
    | 3, [a, b, c], _ =>
      obtain ⟨a, rfl⟩ := fin_of (hb' a (by simp)); obtain ⟨b, rfl⟩ := fin_of (hb' b (by simp)); obtain ⟨c, rfl⟩ := fin_of (hb' c (by simp))
      simp at hp
      exact full3 a b c hp.1.1 hp.2
    | 4, [a, b, c, d], _ =>
      obtain ⟨a, rfl⟩ := fin_of (hb' a (by simp)); obtain ⟨b, rfl⟩ := fin_of (hb' b (by simp)); obtain ⟨c, rfl⟩ := fin_of (hb' c (by simp)); obtain ⟨d, rfl⟩ := fin_of (hb' d (by simp))
      simp at hp
      exact full4 a b c d hp.1.1 hp.2.1.1 hp.2.2
    | 0, _, _ => omega
    | n + 5, _, _ => omega
  unfold full at key
  rw [gaussT_eq, colT_eq]
  simpa using key
/-- the weights by which lists that are there come to a list that is wanted -/
theorem wts_some {n : Nat} {ks : List Int} (h1 : 1 ≤ n) (h4 : n ≤ 4) (hl : ks.length = n) {most : Int} (hm : most ≤ n + 2) (hr : Ris most ks) (p : Int) :
    ∃ x, solV (colR n 8 ks) (genL n p 8) = some x ∧ x.length = n ∧ ∀ i, i < n → lin (ks.map (fun k => genAt n k 8 i)) x = genAt n p 8 i := by
  have hw : Wide (colR n 8 ks).length (colR n 8 ks) := by rw [colR_length, ← hl]; rw [hl]; exact hl ▸ colR_wide ks.length 8 ks
  have hgl : (genL n p 8).length = (colR n 8 ks).length := by rw [genL_length, colR_length]
  have hrk := solved_rank hw hgl
  rw [colR_length, rises_full h1 h4 hl hm hr] at hrk
  obtain ⟨x, hx⟩ : ∃ x, solV (colR n 8 ks) (genL n p 8) = some x := by
    unfold solV
    rw [if_neg (by rw [hrk, colR_length]; omega)]
    exact ⟨_, rfl⟩
  obtain ⟨hxl, hs⟩ := solV_sound hw hgl hx
  refine ⟨x, hx, by rw [hxl, colR_length], fun i hi => hs i _ _ (colR_at hi) ?_⟩
  unfold genL; rw [List.getElem?_map, List.getElem?_range hi]; rfl
def wtsL (n : Nat) (ks : List Int) (p : Int) : List UInt8 := (solV (colR n 8 ks) (genL n p 8)).getD []
end Go.Proofs.Ytcejdmggacjnoaa

/- What lists that are there come to, in plain Lean: a column is told by any so many of its lists. No function of the program in sight. -/
namespace Go.Proofs.Ytcejdmggacjnoaa
open Go.RowKit

theorem lin_comm : ∀ (a b : List UInt8), lin a b = lin b a
  | [], [] => rfl
  | [], _ :: _ => rfl
  | _ :: _, [] => rfl
  | a :: xs, b :: ys => by simp only [lin]; rw [lin_comm xs ys, Fld.mul_comm]
theorem lin_nil (v : List UInt8) : lin v [] = 0 := by rw [lin_comm]; rfl
theorem lin_zero : ∀ (v z : List UInt8), (∀ y ∈ z, y = 0) → lin v z = 0
  | [], _, _ => rfl
  | _ :: _, [], _ => rfl
  | a :: xs, y :: ys, h => by
    have h1 := h y (by simp)
    subst h1
    simp only [lin]
    rw [lin_zero xs ys (fun y hy => h y (by simp [hy])), Fld.mul_zero]
    rfl
theorem lin_app : ∀ (a b c d : List UInt8), a.length = c.length → lin (a ++ b) (c ++ d) = lin a c ^^^ lin b d
  | [], b, [], d, _ => by simp [lin]
  | [], _, _ :: _, _, h => by simp at h
  | _ :: _, _, [], _, h => by simp at h
  | a :: xs, b, c :: ys, d, h => by
    have := lin_app xs b ys d (by simpa using h)
    simp only [List.cons_append, lin, this, UInt8.xor_assoc]
/-- the sums may be taken the one way and the other -/
theorem lin_swap (g : Nat) (v : List UInt8) (hv : v.length = g) (G : Int → Nat → UInt8) : ∀ (ks : List Int) (x : List UInt8), ks.length = x.length →
    lin (ks.map (fun k => lin v ((List.range g).map (G k)))) x = lin v ((List.range g).map (fun i => lin (ks.map (fun k => G k i)) x))
  | [], [], _ => by
    show 0 = _
    rw [lin_zero]
    intro y hy
    obtain ⟨i, _, rfl⟩ := List.mem_map.1 hy
    rfl
  | [], _ :: _, h => by simp at h
  | _ :: _, [], h => by simp at h
  | k :: ks, y :: ys, h => by
    have ih := lin_swap g v hv G ks ys (by simpa using h)
    simp only [List.map_cons, lin]
    rw [ih]
    have e1 : Fld.mul (lin v ((List.range g).map (G k))) y = lin v (scaleL ((List.range g).map (G k)) y) := by
      rw [lin_comm v (scaleL _ _), lin_scale, lin_comm]
    have e2 : (List.range g).map (fun i => Fld.mul (G k i) y ^^^ lin (ks.map (fun k => G k i)) ys) = addL (scaleL ((List.range g).map (G k)) y) ((List.range g).map (fun i => lin (ks.map (fun k => G k i)) ys)) := by
      unfold addL scaleL
      rw [List.map_map, List.zipWith_map, List.zipWith_self]
      rfl
    rw [e1, e2, lin_comm v (addL _ _), lin_add _ _ _ (by simp [scaleL]), lin_comm _ v, lin_comm _ v]

/-- the bytes at a place of lists -/
def colAt (xs : List (List UInt8)) (t : Nat) : List UInt8 := xs.map (fun x => x.getD t 0)
theorem colAt_length (xs : List (List UInt8)) (t : Nat) : (colAt xs t).length = xs.length := by simp [colAt]
theorem mixTo_at {xs : List (List UInt8)} {cs : List UInt8} {n0 : Nat} (h : ∀ x ∈ xs, x.length = n0) (t : Nat) : ∀ {k : Nat}, k ≤ xs.length → k ≤ cs.length → (mixTo xs cs n0 k).getD t 0 = lin (colAt (xs.take k) t) (cs.take k)
  | 0, _, _ => by
    show (List.replicate n0 (0 : UInt8)).getD t 0 = _
    rw [List.getD_eq_getElem?_getD, List.getElem?_replicate]
    by_cases ht : t < n0 <;> simp [ht, colAt, lin]
  | k + 1, hk, hc => by
    have ih := mixTo_at (cs := cs) h t (k := k) (by omega) (by omega)
    have hx : xs[k]? = some xs[k] := List.getElem?_eq_getElem (by omega)
    have hy : cs[k]? = some cs[k] := List.getElem?_eq_getElem (by omega)
    have hl := mixTo_len (cs := cs) h (k := k) (by omega)
    have hxl : (xs[k]).length = n0 := h _ (List.getElem_mem _)
    rw [mixTo_next hx hy, getD_add (by rw [hl, scaleL_length, hxl]), getD_scale, ih, take_next hx, take_next hy]
    unfold colAt
    rw [List.map_append, lin_app _ _ _ _ (by rw [List.length_map, List.length_take, List.length_take]; omega)]
    simp [lin]
theorem getD_ext {a b : List UInt8} (hl : a.length = b.length) (h : ∀ t, a.getD t 0 = b.getD t 0) : a = b := by
  apply List.ext_getElem hl
  intro t h1 h2
  have := h t
  rw [List.getD_eq_getElem?_getD, List.getD_eq_getElem?_getD, List.getElem?_eq_getElem h1, List.getElem?_eq_getElem h2] at this
  exact this
/-- the list of a column at a place -/
def codeAt (xs : List (List UInt8)) (n0 : Nat) (k : Int) : List UInt8 := mixTo xs (genL xs.length k 8) n0 xs.length
theorem codeAt_length {xs : List (List UInt8)} {n0 : Nat} (h : ∀ x ∈ xs, x.length = n0) (k : Int) : (codeAt xs n0 k).length = n0 := mixTo_len h (Nat.le_refl _)
theorem codeAt_at {xs : List (List UInt8)} {n0 : Nat} (h : ∀ x ∈ xs, x.length = n0) (k : Int) (t : Nat) : (codeAt xs n0 k).getD t 0 = lin (colAt xs t) (genL xs.length k 8) := by
  unfold codeAt
  rw [mixTo_at h t (Nat.le_refl _) (by rw [genL_length]; exact Nat.le_refl _), List.take_length, List.take_of_length_le (by rw [genL_length]; exact Nat.le_refl _)]
/-- a unit vector takes a place out -/
theorem lin_one : ∀ (v : List UInt8) (i n : Nat), v.length = n → i < n → lin v ((List.range n).map (fun j : Nat => if (j : Int) = (i : Int) then (1 : UInt8) else 0)) = v.getD i 0 := by
  intro v
  induction v with
  | nil => intro i n h1 h2; simp at h1; omega
  | cons a v ih =>
    intro i n h1 h2
    cases n with
    | zero => omega
    | succ n =>
      rw [List.range_succ_eq_map, List.map_cons, List.map_map]
      simp only [lin]
      cases i with
      | zero =>
        rw [lin_zero]
        · simp [Fld.mul_one]
        · intro y hy
          obtain ⟨j, _, rfl⟩ := List.mem_map.1 hy
          simp only [Function.comp_apply]
          rw [if_neg (by omega)]
      | succ i =>
        have := ih i n (by simpa using h1) (by omega)
        have e : (List.range n).map ((fun j : Nat => if (j : Int) = ((i + 1 : Nat) : Int) then (1 : UInt8) else 0) ∘ Nat.succ) = (List.range n).map (fun j : Nat => if (j : Int) = (i : Int) then (1 : UInt8) else 0) := by
          apply List.map_congr_left
          intro j _
          simp only [Function.comp_apply]
          by_cases h : j = i
          · subst h; rw [if_pos (by omega), if_pos rfl]
          · rw [if_neg (by omega), if_neg (by omega)]
        rw [e, this, if_neg (by omega), Fld.mul_zero]
        simp
theorem codeAt_data {xs : List (List UInt8)} {n0 : Nat} (h : ∀ x ∈ xs, x.length = n0) {k : Nat} {x : List UInt8} (hx : xs[k]? = some x) : codeAt xs n0 (k : Int) = x := by
  have hk := (List.getElem?_eq_some_iff.1 hx).1
  refine getD_ext (by rw [codeAt_length h]; exact (h x (List.mem_of_getElem? hx)).symm) (fun t => ?_)
  rw [codeAt_at h]
  have e : genL xs.length (k : Int) 8 = (List.range xs.length).map (fun j : Nat => if (j : Int) = (k : Int) then (1 : UInt8) else 0) := by
    unfold genL
    apply List.map_congr_left
    intro j _
    unfold genAt
    rw [if_neg (by omega)]
  rw [e, lin_one _ k _ (colAt_length xs t) hk]
  unfold colAt
  rw [List.getD_eq_getElem?_getD, List.getElem?_map, hx]
  rfl
/-- all lists of a column -/
def codeL (xs : List (List UInt8)) (n0 c : Nat) : List (List UInt8) := (List.range (xs.length + c)).map (fun k : Nat => codeAt xs n0 (k : Int))
theorem codeL_length (xs : List (List UInt8)) (n0 c : Nat) : (codeL xs n0 c).length = xs.length + c := by simp [codeL]
theorem codeL_at {xs : List (List UInt8)} {n0 c k : Nat} (h : k < xs.length + c) : (codeL xs n0 c)[k]? = some (codeAt xs n0 (k : Int)) := by unfold codeL; rw [List.getElem?_map, List.getElem?_range h]; rfl
theorem codeL_eq {xs : List (List UInt8)} {n0 : Nat} (c : Nat) (h : ∀ x ∈ xs, x.length = n0) : xs ++ parL xs n0 c = codeL xs n0 c := by
  apply List.ext_getElem?
  intro k
  by_cases h1 : k < xs.length
  · rw [List.getElem?_append_left h1, codeL_at (by omega), List.getElem?_eq_getElem h1, codeAt_data h (List.getElem?_eq_getElem h1)]
  · rw [List.getElem?_append_right (by omega)]
    by_cases h2 : k < xs.length + c
    · rw [codeL_at h2]
      unfold parL
      rw [List.getElem?_map, List.getElem?_range (by omega)]
      show some (mixTo xs (genL xs.length (xs.length + (k - xs.length : Nat)) 8) n0 xs.length) = _
      unfold codeAt
      congr 3
      omega
    · rw [List.getElem?_eq_none (by rw [parL_length]; omega), List.getElem?_eq_none (by rw [codeL_length]; omega)]
/-- any so many lists tell the list at a place -/
theorem code_back {xs : List (List UInt8)} {n0 : Nat} (h : ∀ x ∈ xs, x.length = n0) {ks : List Int} {x : List UInt8} {p : Int} (hl : ks.length = xs.length) (hx : x.length = xs.length) (hw : ∀ i, i < xs.length → lin (ks.map (fun k => genAt xs.length k 8 i)) x = genAt xs.length p 8 i)
    {ys : List (List UInt8)} (hy : ys = ks.map (codeAt xs n0)) : mixTo ys x n0 ys.length = codeAt xs n0 p := by
  have hyl : ys.length = xs.length := by rw [hy, List.length_map, hl]
  have hyn : ∀ y ∈ ys, y.length = n0 := by
    intro y hm
    rw [hy] at hm
    obtain ⟨k, _, rfl⟩ := List.mem_map.1 hm
    exact codeAt_length h k
  refine getD_ext (by rw [mixTo_len hyn (Nat.le_refl _), codeAt_length h]) (fun t => ?_)
  rw [mixTo_at hyn t (Nat.le_refl _) (by omega), List.take_length, List.take_of_length_le (by omega), codeAt_at h]
  have e1 : colAt ys t = ks.map (fun k => lin (colAt xs t) ((List.range xs.length).map (genAt xs.length k 8))) := by
    unfold colAt
    rw [hy, List.map_map]
    apply List.map_congr_left
    intro k _
    exact codeAt_at h k t
  rw [e1, lin_swap xs.length (colAt xs t) (colAt_length xs t) (fun k i => genAt xs.length k 8 i) ks x (by omega)]
  congr 1
  unfold genL
  apply List.map_congr_left
  intro i hi
  exact hw i (by simpa using hi)
end Go.Proofs.Ytcejdmggacjnoaa

/- The reference's l1Step: rows brought into steps. -/
namespace Go.Proofs.Ytcejdmggacjnoaa
open Go.RowKit

end Go.Proofs.Ytcejdmggacjnoaa

/- The reference's l1Solve: the one solution of independent rows. -/
namespace Go.Proofs.Ytcejdmggacjnoaa
open Go.RowKit

theorem news_keep {w w' : World} (hc : Chg [] w w') {b o : Nat} {news : List Value} (h : ∀ j u, news[j]? = some u → w.cell? ((⟨b, o, none⟩ : Addr).add j) = some u) (hb : b < w.heap.size) :
    ∀ j u, news[j]? = some u → w'.cell? ((⟨b, o, none⟩ : Addr).add j) = some u := by
  intro j u hu
  have hadd : (⟨b, o, none⟩ : Addr).add j = ⟨b, o + j, none⟩ := by unfold Addr.add; split <;> simp_all
  have := h j u hu
  rw [hadd] at this ⊢
  exact cellKeep hc this hb
theorem news_keepS {S : List Nat} {w w' : World} (hc : Chg S w w') {b o : Nat} {news : List Value} (h : ∀ j u, news[j]? = some u → w.cell? ((⟨b, o, none⟩ : Addr).add j) = some u) (hb : b < w.heap.size) (hS : b ∉ S) :
    ∀ j u, news[j]? = some u → w'.cell? ((⟨b, o, none⟩ : Addr).add j) = some u := by
  intro j u hu
  have hadd : (⟨b, o, none⟩ : Addr).add j = ⟨b, o + j, none⟩ := by unfold Addr.add; split <;> simp_all
  have := h j u hu
  rw [hadd] at this ⊢
  rw [← this]
  unfold World.cell?
  rw [hc.block b hb hS]
theorem new_cellN {w : World} {n : Nat} (hn : n = w.heap.size) (x : Value) (E : TypeId) : ∀ j u, [x][j]? = some u → (w.alloc (.cells #[x] E)).cell? ((⟨n, 0, none⟩ : Addr).add j) = some u := by subst hn; exact new_cell w x E
theorem os_madeN {α : Type} {L : Lay α} {E : TypeId} {w : World} {n : Nat} (hn : n = w.heap.size) : L.os E (w.alloc (.cells #[] E)) (.slice (some ⟨n, 0, none⟩) 0 0) [] (some n) [] := by
  subst hn; exact L.os_made _ _ #[] 0 (by simp [maxLen]) (by simp)
section
variable {P : Program} {ops : Array Oper} {Q : Exit → Act → World → Prop} {md : Region.Mode} {S : World → Prop} {fuel : Nat} {listed : Array Bool} {a : Act} {w : World}
theorem rg_call2 (i j : Nat) {oi oj : Oper} (hi : ops.toList[i]? = some oi) (hj : ops.toList[j]? = some oj) (hr : Region.ready md ops listed = [i, j])
    (h : ∀ K' : Act → World → Prop, Shut (∀ a w, S w → (S w → wpAnyH P md ops Q S fuel (listed.setIfInBounds i true) a w) → K' a w) → if Region.wanted oi (yielded ops a.tmps) = true then Oper.wp P oi a w K' Q else K' (a.put oi.dst undef) w)
    (h2 : ∀ K' : Act → World → Prop, Shut (∀ a w, S w → (S w → wpAnyH P md ops Q S fuel (listed.setIfInBounds j true) a w) → K' a w) → if Region.wanted oj (yielded ops a.tmps) = true then Oper.wp P oj a w K' Q else K' (a.put oj.dst undef) w) :
    wpAnyH P md ops Q S (fuel + 1) listed a w :=
  wpAnyH_ready hr (by simp) (AllReadyH.cons (get_toList hi) h (AllReadyH.cons (get_toList hj) h2 AllReadyH.nil))
end

end Go.Proofs.Ytcejdmggacjnoaa

/- Rows that a call grows, each in memory of its own; their heads lie in one block. No function of the program in sight. -/
namespace Go.Proofs.Ytcejdmggacjnoaa
open Go.RowKit

/-- the heads lie in H; row i is the slice in cell i, owned -/
def OwnR (E : TypeId) (w : World) (H : Nat) (ok : Nat → Prop) (n : Nat) (xs : List (List UInt8)) : Prop :=
  ∃ (cur : Array Value) (T : TypeId) (hs : List (Option Nat)), w.heap[H]? = some (.cells cur T (0, 0)) ∧ cur.size = n ∧ hs.length = n ∧ n = xs.length ∧
    (∀ (i : Nat) x, xs[i]? = some x → ∃ v h, cur[i]? = some v ∧ hs[i]? = some h ∧ byteL.os E w v x h [] ∧ ∀ g, h = some g → ok g ∧ g ≠ H) ∧
    (∀ (i j g : Nat), hs[i]? = some (some g) → hs[j]? = some (some g) → i = j)

section
variable {E : TypeId} {w w' wr : World} {H n : Nat} {ok : Nat → Prop} {xs : List (List UInt8)}
theorem OwnR.lt (h : OwnR E w H ok n xs) : H < w.heap.size := by obtain ⟨cur, T, hs, h1, _⟩ := h; exact ltOf h1
theorem OwnR.loose (h : OwnR E w H ok n xs) : Loose w H := by obtain ⟨cur, T, hs, h1, _⟩ := h; exact ⟨_, _, h1⟩
theorem OwnR.ext (h : OwnR E w H ok n xs) (hc : Chg [] w w') : OwnR E w' H ok n xs := by
  obtain ⟨cur, T, hs, h1, h2, h3, h4, h5, h6⟩ := h
  refine ⟨cur, T, hs, hc.keep0 h1, h2, h3, h4, fun i x hx => ?_, h6⟩
  obtain ⟨v, h, a1, a2, a3, a4⟩ := h5 i x hx
  exact ⟨v, h, a1, a2, byteL.os_ext a3 hc, a4⟩
theorem OwnR.more {ok' : Nat → Prop} (h : OwnR E w H ok n xs) (hk : ∀ g, g < w.heap.size → ok g → ok' g) : OwnR E w H ok' n xs := by
  obtain ⟨cur, T, hs, h1, h2, h3, h4, h5, h6⟩ := h
  refine ⟨cur, T, hs, h1, h2, h3, h4, fun i x hx => ?_, h6⟩
  obtain ⟨v, hd, a1, a2, a3, a4⟩ := h5 i x hx
  exact ⟨v, hd, a1, a2, a3, fun g hg => ⟨hk g ((byteL.os_lt a3).1 g hg) (a4 g hg).1, (a4 g hg).2⟩⟩
theorem OwnR.start (w : World) (T : TypeId) : OwnR E (w.alloc (.cells (zrow (.slice none 0 0) n) T)) w.heap.size ok n (List.replicate n []) := by
  refine ⟨_, T, List.replicate n none, new_alloc w _, by simp [zrow, madeCells], by simp, by simp, fun i x hx => ?_, fun i j g hi => ?_⟩
  · have hi : i < n := by have := (List.getElem?_eq_some_iff.1 hx).1; simpa using this
    have hx' : x = [] := by rw [List.getElem?_replicate, if_pos hi] at hx; exact (Option.some.inj hx).symm
    subst hx'
    refine ⟨.slice none 0 0, none, ?_, by rw [List.getElem?_replicate, if_pos hi], byteL.os_nil _ _, fun g hg => by cases hg⟩
    simp [zrow, madeCells, hi, Value.cells, Nat.mod_one]
  · rw [List.getElem?_replicate] at hi
    split at hi <;> cases hi
theorem OwnR.row (h : OwnR E wr H ok n xs) (hB : ∀ g, wr.heap.size ≤ g → ok g) {i : Nat} (hi : i < n) : ∃ x a cap hd, RowKit.Hid (xs[i]? = some x ∧ byteL.os E wr (.slice a x.length cap) x hd [] ∧ (∀ g, hd = some g → ok g ∧ g ≠ H) ∧
    ∀ y w3 w' v' h', Chg [] wr w3 → byteL.os E w' v' (x ++ [y]) h' [] → (h' = hd ∨ h' = some w3.heap.size) → Chg hd.toList w3 w' →
      w'.cell? ⟨H, i, none⟩ = some (.slice a x.length cap) ∧ (∀ j, w'.frozen? ⟨H, j, none⟩ = false) ∧ H < w'.heap.size ∧ OwnR E (w'.setCell ⟨H, i, none⟩ v') H ok n (xs.set i (x ++ [y]))) ∧
    wr.cell? ⟨H, i, none⟩ = some (.slice a x.length cap) := by
  obtain ⟨cur, T, hs, h1, h2, h3, h4, h5, h6⟩ := h
  have hx : xs[i]? = some (xs[i]'(by omega)) := List.getElem?_eq_getElem _
  generalize xs[i]'(by omega) = x at hx
  obtain ⟨v, hd, a1, a2, a3, a4⟩ := h5 i x hx
  obtain ⟨a, cap, rfl⟩ := byteL.os_len a3
  refine ⟨x, a, cap, hd, ⟨hx, a3, a4, ?_⟩, by rw [cellsOf h1, a1]⟩
  intro y w3 w' v' h' c3 ho' hh' hc'
  have hH3 := c3.keep0 h1
  have hHd : H ∉ hd.toList := by
    intro hm
    cases hd with
    | none => simp at hm
    | some g => simp at hm; exact (a4 g rfl).2 hm.symm
  have hH' := hc'.keepb hH3 hHd
  have hlt := ltOf h1
  have hne' : ∀ g, h' = some g → ok g ∧ g ≠ H := by
    intro g hg
    rcases hh' with rfl | rfl
    · exact a4 g hg
    · cases hg; have := c3.size; exact ⟨hB _ this, by omega⟩
  refine ⟨by rw [cellsOf hH', a1], freeOf hH', ltOf hH', ?_⟩
  refine ⟨cur.setIfInBounds i v', T, hs.set i h', heap_setCell_same hH', by simp [h2], by simp [h3], by simp [h4], fun j z hz => ?_, fun j k g hj hk => ?_⟩
  · have hkeep : ∀ b, b ≠ H → (w'.setCell ⟨H, i, none⟩ v').heap[b]? = w'.heap[b]? := fun b hb => Below.heap_setCell _ _ _ _ hb
    by_cases e : i = j
    · subst e
      rw [List.getElem?_set_self (by omega)] at hz
      cases hz
      refine ⟨v', h', ?_, by rw [List.getElem?_set_self (by omega)], byteL.os_keep ho' (fun g hg => hkeep g (hne' g hg).2) (by simp), hne'⟩
      rw [Array.getElem?_setIfInBounds_self_of_lt (by omega)]
    · rw [List.getElem?_set_ne e] at hz
      obtain ⟨u, k, b1, b2, b3, b4⟩ := h5 j z hz
      refine ⟨u, k, ?_, by rw [List.getElem?_set_ne e]; exact b2, ?_, b4⟩
      · rw [Array.getElem?_setIfInBounds_ne e]; exact b1
      · refine byteL.os_keep (byteL.os_chg (byteL.os_ext b3 c3) hc' (fun g hg hm => ?_) (by simp)) (fun g hg => hkeep g (b4 g hg).2) (by simp)
        cases hd with
        | none => simp at hm
        | some g' =>
          simp at hm
          subst hm hg
          exact e (h6 i j g a2 b2)
  · have old : ∀ (j : Nat) g, hs[j]? = some (some g) → g < wr.heap.size := by
      intro j g hj
      have hjn := (List.getElem?_eq_some_iff.1 hj).1
      obtain ⟨u, k, b1, b2, b3, b4⟩ := h5 j _ (List.getElem?_eq_getElem (by omega : j < xs.length))
      rw [hj] at b2
      cases b2
      exact (byteL.os_lt b3).1 g rfl
    have key : ∀ (j : Nat), (hs.set i h')[j]? = some (some g) → (i = j ∧ h' = some g) ∨ (i ≠ j ∧ hs[j]? = some (some g)) := by
      intro j hj
      by_cases e : i = j
      · subst e
        rw [List.getElem?_set_self (by omega)] at hj
        exact .inl ⟨rfl, Option.some.inj hj⟩
      · rw [List.getElem?_set_ne e] at hj; exact .inr ⟨e, hj⟩
    have mix : ∀ (q : Nat), i ≠ q → h' = some g → hs[q]? = some (some g) → False := by
      intro q e hg hq
      rcases hh' with rfl | rfl
      · subst hg; exact e (h6 i q g a2 hq)
      · cases hg; have := old q _ hq; have := c3.size; omega
    rcases key j hj with ⟨e1, g1⟩ | ⟨e1, g1⟩ <;> rcases key k hk with ⟨e2, g2⟩ | ⟨e2, g2⟩
    · omega
    · exact (mix k e2 g1 g2).elim
    · exact (mix j e1 g2 g1).elim
    · exact h6 j k g g1 g2
theorem all_of_at {α : Type} {L : Lay α} {w : World} : ∀ {xs : List α} {cs : List Value}, cs.length = xs.length → (∀ (i : Nat) x, xs[i]? = some x → ∃ v f, cs[i]? = some v ∧ L.rep w [v] x f) → ∃ fp, L.all w cs xs fp := by
  intro xs
  induction xs with
  | nil => intro cs hl _; exact ⟨[], List.eq_nil_of_length_eq_zero hl, rfl⟩
  | cons x xs ih =>
    intro cs hl h
    cases cs with
    | nil => simp at hl
    | cons c cs =>
      obtain ⟨v, f, h1, h2⟩ := h 0 x rfl
      obtain ⟨fp, h3⟩ := ih (cs := cs) (by simpa using hl) (fun i y hy => h (i + 1) y (by simpa using hy))
      simp at h1
      subst h1
      exact ⟨f ++ fp, [c], cs, f, fp, rfl, rfl, h2, h3⟩
theorem OwnR.sl (h : OwnR E w H ok n xs) (hn : n ≤ maxLen) : ∃ fp, byteL.slice.sl w (some ⟨H, 0, none⟩) n n xs fp := by
  obtain ⟨cur, T, hs, h1, h2, h3, h4, h5, h6⟩ := h
  obtain ⟨fp, hall⟩ := all_of_at (L := byteL.slice) (w := w) (xs := xs) (cs := cur.toList) (by rw [Array.length_toList]; omega) (fun i x hx => by
    obtain ⟨v, hd, a1, a2, a3, a4⟩ := h5 i x hx
    obtain ⟨a, cap, rfl, hsl⟩ := byteL.os_sl a3
    exact ⟨_, _, by simpa using a1, a, x.length, cap, rfl, hsl⟩)
  refine ⟨H :: fp, h4, Nat.le_refl _, hn, (fun h => by cases h), .inr ⟨H, 0, cur, T, (0, 0), fp, rfl, h1, ?_, rfl⟩⟩
  rw [List.drop_zero, List.take_of_length_le (by rw [Array.length_toList, h2]; show n ≤ n * 1; omega)]
  exact hall
end
end Go.Proofs.Ytcejdmggacjnoaa

/- The weights by which lists that are there come to a list that is wanted, of the reference and of the program. -/
namespace Go.Proofs.Ytcejdmggacjnoaa
open Go.RowKit

def colTo (n : Nat) (base : Int) (ks : List Int) (p : Int) (i : Nat) : List (List UInt8) :=
  (List.range n).map (fun j => ks.map (fun k => genAt n k base j) ++ if j < i then [genAt n p base j] else [])
theorem colR_zero (n : Nat) (base : Int) : colR n base [] = List.replicate n [] := by
  unfold colR
  apply List.ext_getElem?
  intro i
  rw [List.getElem?_map, List.getElem?_replicate]
  by_cases h : i < n
  · rw [List.getElem?_range h, if_pos h]; rfl
  · rw [List.getElem?_eq_none (by simpa using h), if_neg h]; rfl
theorem colTo_zero (n : Nat) (base : Int) (ks : List Int) (p : Int) : colTo n base ks p 0 = colR n base ks := by unfold colTo colR; simp
theorem colTo_all (n : Nat) (base : Int) (ks : List Int) (p : Int) : colTo n base ks p n = colR n base (ks ++ [p]) := by
  unfold colTo colR
  apply List.map_congr_left
  intro j hj
  rw [if_pos (List.mem_range.1 hj), List.map_append]; rfl
theorem colTo_length (n : Nat) (base : Int) (ks : List Int) (p : Int) (i : Nat) : (colTo n base ks p i).length = n := by simp [colTo]
theorem colTo_at {n : Nat} {base : Int} {ks : List Int} {p : Int} {i : Nat} (h : i < n) : (colTo n base ks p i)[i]? = some (ks.map (fun k => genAt n k base i)) := by
  unfold colTo; rw [List.getElem?_map, List.getElem?_range h]; simp
theorem colTo_next {n : Nat} {base : Int} {ks : List Int} {p : Int} {i : Nat} (h : i < n) : (colTo n base ks p i).set i (ks.map (fun k => genAt n k base i) ++ [genAt n p base i]) = colTo n base ks p (i + 1) := by
  apply List.ext_getElem?
  intro j
  by_cases e : i = j
  · subst e
    rw [List.getElem?_set_self (by rw [colTo_length]; exact h)]
    unfold colTo; rw [List.getElem?_map, List.getElem?_range h]; simp
  · rw [List.getElem?_set_ne e]
    unfold colTo
    rw [List.getElem?_map, List.getElem?_map]
    by_cases hj : j < n
    · rw [List.getElem?_range hj]
      simp only [Option.map_some]
      congr 2
      by_cases h2 : j < i
      · rw [if_pos h2, if_pos (by omega)]
      · rw [if_neg h2, if_neg (by omega)]
    · rw [List.getElem?_eq_none (by simpa using hj)]; rfl
theorem genL_at {n : Nat} {p base : Int} {i : Nat} (h : i < n) : (genL n p base)[i]? = some (genAt n p base i) := by
  unfold genL; rw [List.getElem?_map, List.getElem?_range h]; rfl
theorem colTo_step {n : Nat} {base : Int} {ks : List Int} {p : Int} {i : Nat} {x : List UInt8} {y : UInt8} (hx : (colTo n base ks p i)[i]? = some x) (hy : (genL n p base)[i]? = some y) (h : i < n) :
    x.length = ks.length ∧ (colTo n base ks p i).set i (x ++ [y]) = colTo n base ks p (i + 1) := by
  rw [colTo_at h] at hx
  rw [genL_at h] at hy
  cases hx; cases hy
  exact ⟨by simp, colTo_next h⟩

end Go.Proofs.Ytcejdmggacjnoaa

/- IndexFunc and ContainsFunc over lists, at any test of an element that leaves the memory as it is. -/
namespace Go.Proofs.Ytcejdmggacjnoaa
open Go.RowKit

/-- a test of an element, by a function value -/
def Tests (k : Nat) (caps : Array Value) (q : List UInt8 → Bool) (xs : List (List UInt8)) (w : World) : Prop :=
  ∀ x A C f, x ∈ xs → byteL.sl w A x.length C x f → Calls Try.prog k (#[.slice A x.length C] ++ caps) w fun e w' => e = .returned (.bool (q x)) ∧ w = w'

set_option maxRecDepth 100000 in
set_option maxHeartbeats 1000000 in
theorem idxQ_any (k : Nat) (caps : Array Value) (q : List UInt8 → Bool) (a : Option Addr) (la ca : Nat) (xs : List (List UInt8)) (f : List Nat) (w : World) (ha : byteL.slice.sl w a la ca xs f) (hcf : ∀ (args : Array Value) (w : World), (callFunc k args).run Try.prog w = .ok (.enter k args) w) (hq : Tests k caps q xs w) :
    Calls Try.prog 49 #[.slice a la ca, .func (.func k) #[] caps] w fun e w' => ∃ r : Int, e = .returned (.int .i64 r) ∧ RowKit.Hid (0 ≤ r ↔ xs.any q = true) ∧ w = w' := by
  have hla := byteL.slice.sl_max ha
  have HA := Lib.hid ha
  have HL := Lib.hid ha.1
  have HQ := Lib.hid hq
  clear ha hq
  obtain ⟨r0, hr0⟩ : ∃ r0, r0 = xs.any q := ⟨_, rfl⟩
  rw [← hr0]
  have HR0 := Lib.hid hr0
  clear hr0
  go_enter Try.func49, Try.ntmps49
  go_wp2
  go_loop [5, 8] (fun _ i => ∃ k : Nat, k ≤ la ∧ i = .int .i64 k ∧ RowKit.Hid (∀ (j : Nat) x, j < k → xs[j]? = some x → q x = false)) (fun _ i => la - (intOf i).toNat)
  case atStart => exact ⟨0, by omega, rfl, fun j x hj => by omega⟩
  case round =>
    obtain ⟨j, hj, rfl, HK⟩ := hrel
    by_cases hlt : j < la
    · obtain ⟨x, b, off, A, lx, C, fx, HX, rfl, hcx, HXS⟩ := slc_at HA.out hlt
      have hmx := byteL.sl_max HXS.out
      obtain rfl := HXS.out.1
      have HC := Lib.hid (HQ.out x A C fx (List.mem_of_getElem? HX.out.1) HXS.out)
      cases hqx : q x
      · rw [hqx] at HC
        have HK2 := Lib.hid (show ∀ (i : Nat) y, i < j + 1 → xs[i]? = some y → q y = false from fun i y hi hy => by
          by_cases e : i = j
          · subst e; rw [Option.some.inj (hy.symm.trans HX.out.1)]; exact hqx
          · exact HK.out i y (by omega) hy)
        clear hqx
        go_wp2_with fail
        refine HC.out.mono ?_
        rintro e w' ⟨rfl, rfl⟩
        go_wp2_with fail
        go_round
        case rel => exact ⟨j + 1, by omega, by go_num, HK2⟩
        case measure => simp [intOf]; omega
      · rw [hqx] at HC
        have HR := Lib.hid (show 0 ≤ (j : Int) ↔ r0 = true by rw [HR0.out]; exact ⟨fun _ => List.any_eq_true.2 ⟨x, List.mem_of_getElem? HX.out.1, hqx⟩, fun _ => Int.natCast_nonneg j⟩)
        clear hqx
        go_wp2_with fail
        refine HC.out.mono ?_
        rintro e w' ⟨rfl, rfl⟩
        go_wp2_with fail
        go_ret
        exact ⟨_, rfl, HR, rfl⟩
    · obtain rfl : j = la := by omega
      have HR := Lib.hid (show 0 ≤ (-1 : Int) ↔ r0 = true by rw [HR0.out]; exact ⟨fun h => by omega, fun hn => by
        obtain ⟨x, hx, h1⟩ := List.any_eq_true.1 hn
        obtain ⟨i, hi, rfl⟩ := List.getElem_of_mem hx
        have h2 := HK.out i _ (by have := HL.out; omega) (List.getElem?_eq_getElem hi)
        rw [h2] at h1; cases h1⟩)
      go_wp2
      go_ret
      exact ⟨_, rfl, HR, rfl⟩

set_option maxHeartbeats 400000 in
theorem contQ_any (k : Nat) (caps : Array Value) (q : List UInt8 → Bool) (a : Option Addr) (la ca : Nat) (xs : List (List UInt8)) (f : List Nat) (w : World) (ha : byteL.slice.sl w a la ca xs f) (hcf : ∀ (args : Array Value) (w : World), (callFunc k args).run Try.prog w = .ok (.enter k args) w) (hq : Tests k caps q xs w) :
    Calls Try.prog 32 #[.slice a la ca, .func (.func k) #[] caps] w fun e w' => e = .returned (.bool (xs.any q)) ∧ w = w' := by
  have HI := Lib.hid (idxQ_any k caps q a la ca xs f w ha hcf hq)
  clear ha hq hcf
  go_enter Try.func32, Try.ntmps32
  go_wp2_with fail
  refine HI.out.mono ?_
  rintro e w' ⟨r, rfl, HR, rfl⟩
  have HD := Lib.hid (show decide (0 ≤ r) = xs.any q by
    cases h : xs.any q
    · rw [decide_eq_false]; intro h2; rw [HR.out.1 h2] at h; cases h
    · rw [decide_eq_true (HR.out.2 h)])
  go_wp2_with fail
  go_ret
  refine ⟨?_, rfl⟩
  rw [← HD.out]
  rfl
end Go.Proofs.Ytcejdmggacjnoaa

/- The program's and the reference's SolveG. -/
namespace Go.Proofs.Ytcejdmggacjnoaa
open Go.RowKit

def solveRes (rows : List (List UInt8)) (right : List UInt8) : Int × List UInt8 :=
  if 16 < rows.length then (2, []) else if rows.length = 0 ∨ right.length ≠ rows.length then (1, []) else if rows.any (fun r => decide (r.length ≠ rows.length)) = true then (1, [])
  else if (solV rows right).isSome = true then (0, (solV rows right).getD []) else (4, [])
theorem solV_len {rows : List (List UInt8)} {right : List UInt8} {n : Nat} (h : Wide n rows) (hr : right.length = rows.length) : ((solV rows right).getD []).length ≤ rows.length := by
  unfold solV
  split
  · simp
  · show (List.map _ (solved rows right).1).length ≤ _
    rw [List.length_map]
    unfold solved
    have := (gauss_inv (augm_wide (right := right) h) rows.length).1
    rw [augm_length hr] at this
    omega
theorem solveRes_len (rows : List (List UInt8)) (right : List UInt8) : (solveRes rows right).2.length ≤ 16 := by
  unfold solveRes
  split
  · simp
  · rename_i h1
    split
    · simp
    · rename_i h2
      split
      · simp
      · rename_i h3
        split
        · have hw : Wide rows.length rows := fun x hx => by
            by_cases e : x.length = rows.length
            · exact e
            · exact absurd (List.any_eq_true.2 ⟨x, hx, by simpa using e⟩) h3
          have hr : right.length = rows.length := by
            by_cases e : right.length = rows.length
            · exact e
            · exact absurd (.inr e) h2
          have := solV_len (right := right) hw hr
          show ((solV rows right).getD []).length ≤ 16
          omega
        · simp
end Go.Proofs.Ytcejdmggacjnoaa

/- Shares: the weights of those that are there, of the reference and of the program. -/
namespace Go.Proofs.Ytcejdmggacjnoaa
open Go.RowKit

theorem pad_next {z : List UInt8} {k n : Nat} {x : UInt8} (hx : z[k]? = some x) (hn : k < n) : (z.take k ++ List.replicate (n - k) 0).set k x = z.take (k + 1) ++ List.replicate (n - (k + 1)) 0 := by
  have hk := (List.getElem?_eq_some_iff.1 hx).1
  obtain ⟨m, hm⟩ : ∃ m, n - k = m + 1 := ⟨n - k - 1, by omega⟩
  rw [List.set_append_right _ _ (by rw [List.length_take]; omega), List.length_take, hm, show n - (k + 1) = m by omega, show k - min k z.length = 0 by omega, List.replicate_succ, List.set_cons_zero, take_next hx, List.append_assoc]
  rfl
theorem Rises.at {m : Int} {ks : List Int} (h : Rises m ks) {k : Int} (hk : k ∈ ks) : 0 ≤ k ∧ k ≤ m := by
  obtain ⟨i, hi, rfl⟩ := List.getElem_of_mem hk
  exact (h i _ (List.getElem?_eq_getElem hi)).1
theorem Rises.lt {m : Int} {ks : List Int} (h : Rises m ks) : ∀ (d i : Nat) (x y : Int), ks[i]? = some x → ks[i + d + 1]? = some y → x < y := by
  intro d
  induction d with
  | zero => intro i x y hx hy; exact (h (i + 0 + 1) y hy).2 x (by omega) (by simpa using hx)
  | succ d ih =>
    intro i x y hx hy
    have hl := (List.getElem?_eq_some_iff.1 hy).1
    have hz : ks[i + d + 1]? = some (ks[i + d + 1]'(by omega)) := List.getElem?_eq_getElem _
    have h1 := ih i x _ hx hz
    have h2 := (h (i + (d + 1) + 1) y hy).2 _ (by omega) (by rw [show i + (d + 1) + 1 - 1 = i + d + 1 by omega]; exact hz)
    omega
theorem Rises.ris {m : Int} {ks : List Int} (h : Rises m ks) : Ris (m + 1) ks := by
  refine ⟨fun k hk => by have := h.at hk; omega, ?_⟩
  rw [List.pairwise_iff_getElem]
  intro i j hi hj hij
  exact h.lt (j - i - 1) i _ _ (List.getElem?_eq_getElem hi) (by rw [show i + (j - i - 1) + 1 = j by omega]; exact List.getElem?_eq_getElem hj)
theorem Rises.le {m : Int} {ks : List Int} (h : Rises m ks) : (ks.length : Int) ≤ m + 1 ∨ ks = [] := by
  have key : ∀ (i : Nat) x, ks[i]? = some x → (i : Int) ≤ x := by
    intro i
    induction i with
    | zero => intro x hx; exact (h 0 x hx).1.1
    | succ i ih =>
      intro x hx
      have hl := (List.getElem?_eq_some_iff.1 hx).1
      have hz : ks[i]? = some (ks[i]'(by omega)) := List.getElem?_eq_getElem _
      have h1 := ih _ hz
      have h2 := (h (i + 1) x hx).2 _ (by omega) (show ks[i + 1 - 1]? = _ from hz)
      omega
  by_cases e : ks.length = 0
  · exact .inr (List.eq_nil_of_length_eq_zero e)
  · left
    have hz : ks[ks.length - 1]? = some (ks[ks.length - 1]'(by omega)) := List.getElem?_eq_getElem _
    have h1 := key _ _ hz
    have h2 := (h _ _ hz).1.2
    omega
theorem Ris.take {m : Int} {ks : List Int} (h : Ris m ks) (n : Nat) : Ris m (ks.take n) := ⟨fun k hk => h.1 k (List.mem_of_mem_take hk), h.2.sublist (List.take_sublist _ _)⟩

noncomputable def shaRes (g c : Int) (ks : List Int) (p : Int) : Int × List UInt8 :=
  if (inB g 1 4 && inB c 0 2) = false then (3, []) else if pb (Rises (g + c - 1) ks) = false then (1, []) else if inB p 0 (g + c - 1) = false then (3, []) else if pb (p ∈ ks) = true then (7, [])
  else if (ks.length : Int) < g then (10, []) else (0, wtsL g.toNat (ks.take g.toNat) p ++ List.replicate (ks.length - g.toNat) 0)
/-- what the weights are where they are asked for -/
theorem wts_ok {n : Nat} {c : Int} {ks : List Int} {p : Int} (h1 : 1 ≤ n) (h4 : n ≤ 4) (hc : c ≤ 2) (hr : Rises ((n : Int) + c - 1) ks) (hl : n ≤ ks.length) :
    solV (colR n 8 (ks.take n)) (genL n p 8) = some (wtsL n (ks.take n) p) ∧ (wtsL n (ks.take n) p).length = n := by
  obtain ⟨x, hx, hxl, _⟩ := wts_some (p := p) h1 h4 (by rw [List.length_take]; omega : (ks.take n).length = n) (by omega : (n : Int) + c - 1 + 1 ≤ n + 2) (hr.ris.take n)
  unfold wtsL
  rw [hx]
  exact ⟨rfl, hxl⟩

theorem shaRes_len (g c : Int) (ks : List Int) (p : Int) : (shaRes g c ks p).2.length ≤ 16 := by
  unfold shaRes
  split
  · simp
  · rename_i h1
    split
    · simp
    · rename_i h2
      split
      · simp
      · split
        · simp
        · split
          · simp
          · rename_i h5
            obtain ⟨hb1, hb2⟩ := Bool.and_eq_true_iff.1 (by simpa using h1 : (inB g 1 4 && inB c 0 2) = true)
            obtain ⟨hg1, hg4⟩ := inB_true hb1
            obtain ⟨hc0, hc2⟩ := inB_true hb2
            have hr : Rises (g + c - 1) ks := Classical.byContradiction (fun h => h2 (pb_false h))
            obtain ⟨n, rfl⟩ := Int.eq_ofNat_of_zero_le (by omega : 0 ≤ g)
            have hw := (wts_ok (p := p) (by omega) (by omega) hc2 hr (by omega)).2
            show (wtsL n (ks.take n) p ++ List.replicate (ks.length - n) 0).length ≤ 16
            rw [List.length_append, List.length_replicate, hw]
            rcases hr.le with h | h
            · omega
            · subst h; simp; omega
end Go.Proofs.Ytcejdmggacjnoaa
