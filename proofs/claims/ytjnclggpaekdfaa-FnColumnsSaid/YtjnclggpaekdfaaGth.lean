
/- Rows brought into steps: what stays true of them, in plain Lean. No function of the program in sight. -/
import Derived.Test.YtjnclggpaekdfaaGau
import Derived.Test.YtjnclggpaekdfaaSol
namespace Go.Proofs.Ytjnclggpaekdfaa
open Go.RowKit

/-- a row, weighed -/
def lin : List UInt8 → List UInt8 → UInt8
  | [], _ => 0
  | _ :: _, [] => 0
  | a :: xs, y :: ys => Fld.mul a y ^^^ lin xs ys
theorem lin_add : ∀ (a b y : List UInt8), a.length = b.length → lin (addL a b) y = lin a y ^^^ lin b y
  | [], [], _, _ => by simp [addL, lin]
  | [], _ :: _, _, h => by simp at h
  | _ :: _, [], _, h => by simp at h
  | a :: xs, b :: zs, [], _ => by simp [addL, lin]
  | a :: xs, b :: zs, y :: ys, h => by
    have := lin_add xs zs ys (by simpa using h)
    unfold addL at this ⊢
    rw [List.zipWith_cons_cons]
    simp only [lin, this, Fld.add_mul]
    exact Fld.xor_4 _ _ _ _
theorem lin_scale : ∀ (a y : List UInt8) (c : UInt8), lin (scaleL a c) y = Fld.mul (lin a y) c
  | [], _, c => by simp [scaleL, lin, Fld.zero_mul]
  | _ :: _, [], c => by simp [scaleL, lin, Fld.zero_mul]
  | a :: xs, y :: ys, c => by
    have := lin_scale xs ys c
    unfold scaleL at this ⊢
    rw [List.map_cons]
    simp only [lin, this, Fld.add_mul]
    rw [Fld.mul_assoc, Fld.mul_comm c y, ← Fld.mul_assoc]
theorem lin_snoc : ∀ (r x : List UInt8) (b : UInt8), r.length = x.length → lin (r ++ [b]) (x ++ [1]) = lin r x ^^^ b
  | [], [], b, _ => by simp [lin, Fld.mul_one]
  | [], _ :: _, _, h => by simp at h
  | _ :: _, [], _, h => by simp at h
  | a :: xs, y :: ys, b, h => by
    have := lin_snoc xs ys b (by simpa using h)
    simp only [List.cons_append, lin, this, UInt8.xor_assoc]
theorem xor_zero_iff {a b : UInt8} : a ^^^ b = 0 ↔ a = b := by
  constructor
  · intro h
    have := congrArg (fun x => x ^^^ b) h
    simpa [UInt8.xor_assoc] using this
  · rintro rfl; exact UInt8.xor_self
theorem mul_eq_zero {a c : UInt8} (hc : c ≠ 0) (h : Fld.mul a c = 0) : a = 0 := by
  have := Fld.mul_div a c hc
  rw [h, Fld.zero_mul] at this
  exact this.symm

/-- each row is weighed to nothing -/
def Nul (y : List UInt8) (rows : List (List UInt8)) : Prop := ∀ (i : Nat) r, rows[i]? = some r → lin r y = 0
theorem cel_out {rows : List (List UInt8)} {i : Nat} (h : rows.length ≤ i) (j : Nat) : cel rows i j = 0 := by
  have e : rows.getD i [] = [] := by simp [List.getD_eq_getElem?_getD, List.getElem?_eq_none h]
  unfold cel; rw [e]; rfl
theorem cel_some {rows : List (List UInt8)} {i c : Nat} (h : ¬ cel rows i c = 0) : i < rows.length := by
  by_cases hi : i < rows.length
  · exact hi
  · exact absurd (cel_out (by omega) c) h
theorem inv_ne {a : UInt8} (h : a ≠ 0) : Fld.inv a ≠ 0 := by
  intro e
  have := Fld.mul_inv a h
  rw [e, Fld.mul_zero] at this
  exact absurd this (by decide)
theorem getD_at {rows : List (List UInt8)} {i : Nat} {r : List UInt8} (h : rows[i]? = some r) : rows.getD i [] = r := by
  rw [List.getD_eq_getElem?_getD, h]; rfl
theorem prep_rank {rows : List (List UInt8)} {rank p : Nat} {row : List UInt8} (h : rank < rows.length) : (prep rows rank p row)[rank]? = some row := by
  unfold prep; rw [List.getElem?_set_self (by simp; omega)]
theorem prep_old {rows : List (List UInt8)} {rank p : Nat} {row r : List UInt8} (hp : p < rows.length) (hn : p ≠ rank) (h : rows[rank]? = some r) : (prep rows rank p row)[p]? = some r := by
  unfold prep; rw [List.getElem?_set_ne (by omega), List.getElem?_set_self hp, getD_at h]
theorem prep_else {rows : List (List UInt8)} {rank p i : Nat} {row : List UInt8} (h1 : i ≠ p) (h2 : i ≠ rank) : (prep rows rank p row)[i]? = rows[i]? := by
  unfold prep; rw [List.getElem?_set_ne (by omega), List.getElem?_set_ne (by omega)]
theorem prep_any {rows : List (List UInt8)} {rank p i : Nat} {row : List UInt8} (hr : rank < rows.length) (hi : i < rows.length) (h2 : i ≠ rank) : ∃ r, rows[if i = p then rank else i]? = some r ∧ (prep rows rank p row)[i]? = some r := by
  by_cases e : i = p
  · subst e; rw [if_pos rfl]; exact ⟨_, List.getElem?_eq_getElem hr, prep_old hi h2 (List.getElem?_eq_getElem hr)⟩
  · rw [if_neg e]; exact ⟨_, List.getElem?_eq_getElem hi, by rw [prep_else e h2]; exact List.getElem?_eq_getElem hi⟩
/-- what is nothing behind a step was nothing ahead of it -/
theorem stepAt_nul {m : Nat} {rows : List (List UInt8)} (hw : Wide m rows) {rank c p : Nat} (hk : rank ≤ p) (hp : p < rows.length) (hz : ¬ cel rows p c = 0) {y : List UInt8} (h : Nul y (stepAt rows rank c p)) : Nul y rows := by
  have hpr : rows[p]? = some rows[p] := List.getElem?_eq_getElem hp
  have hrk : rows[rank]? = some (rows[rank]'(by omega)) := List.getElem?_eq_getElem _
  have hll := lead_length hw hp c
  have hprep : ∀ (i : Nat) r, (prep rows rank p (lead rows p c))[i]? = some r → lin (if i = rank then r else clr c (lead rows p c) r) y = 0 := fun i r hr => h i _ (elimR_at hr)
  have hlead : lin (lead rows p c) y = 0 := by
    have := hprep rank (lead rows p c) (prep_rank (by omega))
    rwa [if_pos rfl] at this
  have hp0 : lin rows[p] y = 0 := by
    unfold lead at hlead
    rw [getD_at hpr, lin_scale] at hlead
    exact mul_eq_zero (inv_ne hz) hlead
  have hclr : ∀ r : List UInt8, r.length = m → lin (clr c (lead rows p c) r) y = lin r y := by
    intro r hr
    unfold clr
    rw [lin_add _ _ _ (by rw [scaleL_length, hr, hll]), lin_scale, hlead, Fld.zero_mul, UInt8.xor_zero]
  intro i r hr
  by_cases e1 : i = p
  · subst e1; rw [hpr] at hr; cases hr; exact hp0
  · by_cases e2 : i = rank
    · subst e2
      rw [hrk] at hr
      cases hr
      have := hprep p rows[i] (prep_old hp (by omega) hrk)
      rw [if_neg (by omega), hclr _ (hw.at hrk)] at this
      exact this
    · have := hprep i r (by unfold prep; rw [List.getElem?_set_ne (by omega), List.getElem?_set_ne (by omega)]; exact hr)
      rw [if_neg e2, hclr _ (hw.at hr)] at this
      exact this
theorem gauss_nul {m : Nat} {rows : List (List UInt8)} (hw : Wide m rows) {y : List UInt8} : ∀ n, Nul y (gauss n rows).1 → Nul y rows := by
  intro n
  induction n with
  | zero => exact fun h => h
  | succ n ih =>
    intro h
    obtain ⟨h1, h2, h3, h4⟩ := gauss_inv hw n
    rw [gauss_next] at h
    by_cases hp : fnd (gauss n rows).1 n (gauss n rows).2 < (gauss n rows).1.length
    · rw [gstep_some rfl hp] at h
      exact ih (stepAt_nul h2 (fnd_ge _ _ _) hp (fnd_nz hp) h)
    · rw [gstep_none rfl (by omega)] at h
      exact ih h

/-- the first columns are those of the unit rows -/
def Unit (c : Nat) (rows : List (List UInt8)) : Prop := ∀ i j, i < rows.length → j < c → cel rows i j = if i = j then 1 else 0
theorem cel_getD {rows : List (List UInt8)} {i j : Nat} {r : List UInt8} (h : rows[i]? = some r) : cel rows i j = r.getD j 0 := by unfold cel; rw [getD_at h]
theorem getD_add {a b : List UInt8} (h : a.length = b.length) (j : Nat) : (addL a b).getD j 0 = a.getD j 0 ^^^ b.getD j 0 := by
  unfold addL
  rw [List.getD_eq_getElem?_getD, List.getD_eq_getElem?_getD, List.getD_eq_getElem?_getD, List.getElem?_zipWith]
  by_cases hj : j < a.length
  · rw [List.getElem?_eq_getElem hj, List.getElem?_eq_getElem (by omega : j < b.length)]; rfl
  · rw [List.getElem?_eq_none (by omega), List.getElem?_eq_none (by omega : b.length ≤ j)]; rfl
theorem getD_scale (a : List UInt8) (c : UInt8) (j : Nat) : (scaleL a c).getD j 0 = Fld.mul (a.getD j 0) c := by
  unfold scaleL
  rw [List.getD_eq_getElem?_getD, List.getD_eq_getElem?_getD, List.getElem?_map]
  cases a[j]? with
  | none => simp [Fld.zero_mul]
  | some x => rfl
theorem stepAt_unit {m : Nat} {rows : List (List UInt8)} (hw : Wide m rows) {c p : Nat} (hk : c ≤ p) (hp : p < rows.length) (hz : ¬ cel rows p c = 0) (hu : Unit c rows) : Unit (c + 1) (stepAt rows c c p) := by
  have hpr : rows[p]? = some rows[p] := List.getElem?_eq_getElem hp
  have hcr : rows[c]? = some (rows[c]'(by omega)) := List.getElem?_eq_getElem _
  have hll := lead_length hw hp c
  have hld : ∀ j, (lead rows p c).getD j 0 = Fld.mul (cel rows p j) (Fld.inv (cel rows p c)) := by
    intro j; unfold lead; rw [getD_scale]; rfl
  have hldj : ∀ j, j < c → (lead rows p c).getD j 0 = 0 := by
    intro j hj; rw [hld, hu p j hp hj, if_neg (by omega), Fld.zero_mul]
  have hldc : (lead rows p c).getD c 0 = 1 := by rw [hld]; exact Fld.mul_inv _ hz
  intro i j hi hj
  rw [stepAt_length] at hi
  unfold stepAt
  by_cases e1 : i = c
  · subst e1
    rw [cel_getD (elimR_at (rank := i) (c := i) (row := lead rows p i) (prep_rank (row := lead rows p i) (p := p) (by omega))), if_pos rfl]
    by_cases e2 : j = i
    · subst e2; rw [if_pos rfl, hldc]
    · rw [if_neg (by omega), hldj j (by omega)]
  · obtain ⟨r, h1, h2⟩ := prep_any (p := p) (row := lead rows p c) (rank := c) (by omega) hi e1
    rw [cel_getD (elimR_at (rank := c) (c := c) (row := lead rows p c) h2), if_neg e1]
    unfold clr
    rw [getD_add (by rw [scaleL_length, hw.at h1, hll]), getD_scale]
    by_cases e2 : j = c
    · subst e2
      rw [hldc, Fld.one_mul, UInt8.xor_self, if_neg e1]
    · rw [hldj j (by omega), Fld.zero_mul, UInt8.xor_zero, ← cel_getD h1, hu _ j (List.getElem?_eq_some_iff.1 h1).1 (by omega)]
      by_cases e3 : i = p
      · rw [if_pos e3, if_neg (by omega), if_neg (by omega)]
      · rw [if_neg e3]
theorem gauss_unit {m : Nat} {rows : List (List UInt8)} (hw : Wide m rows) : ∀ n, (gauss n rows).2 = n → Unit n (gauss n rows).1 := by
  intro n
  induction n with
  | zero => intro _ i j _ hj; omega
  | succ n ih =>
    intro h
    obtain ⟨h1, h2, h3, h4⟩ := gauss_inv hw n
    rw [gauss_next] at h ⊢
    by_cases hp : fnd (gauss n rows).1 n (gauss n rows).2 < (gauss n rows).1.length
    · rw [gstep_some rfl hp] at h ⊢
      have hn : (gauss n rows).2 = n := by simp only at h; omega
      have hge := fnd_ge (gauss n rows).1 n (gauss n rows).2
      have hnz := fnd_nz hp
      have := ih hn
      generalize hG : gauss n rows = G at *
      obtain ⟨M, rk⟩ := G
      simp only at *
      subst hn
      exact stepAt_unit h2 hge hp hnz this
    · rw [gstep_none rfl (by omega)] at h
      omega

/-- a unit row, weighed -/
theorem lin_unit : ∀ (r x : List UInt8) (i : Nat), r.length = x.length → (∀ j, j < r.length → r.getD j 0 = if i = j then 1 else 0) → lin r x = x.getD i 0
  | [], [], _, _, _ => rfl
  | [], _ :: _, _, h, _ => by simp at h
  | _ :: _, [], _, h, _ => by simp at h
  | a :: bs, y :: ys, 0, h, hr => by
    have h0 := hr 0 (by simp)
    have hz : ∀ (bs ys : List UInt8), (∀ j, j < bs.length → bs.getD j 0 = 0) → lin bs ys = 0 := by
      intro bs
      induction bs with
      | nil => intro ys _; rfl
      | cons a bs ih =>
        intro ys h
        cases ys with
        | nil => rfl
        | cons y ys =>
          have h1 : a = 0 := by simpa using h 0 (by simp)
          have h2 := ih ys (fun j hj => by have := h (j + 1) (by simpa using hj); simpa using this)
          simp [lin, h1, h2, Fld.zero_mul]
    have h1 : a = 1 := by simpa using h0
    have h2 := hz bs ys (fun j hj => by have := hr (j + 1) (by simpa using hj); simpa using this)
    simp [lin, h1, h2, Fld.one_mul]
  | a :: bs, y :: ys, i + 1, h, hr => by
    have h1 : a = 0 := by simpa using hr 0 (by simp)
    have h2 := lin_unit bs ys i (by simpa using h) (fun j hj => by have := hr (j + 1) (by simpa using hj); simpa using this)
    simp [lin, h1, h2, Fld.zero_mul]

/-- a solution that is told solves each row -/
theorem solV_sound {rows : List (List UInt8)} {right x : List UInt8} (hw : Wide rows.length rows) (hr : right.length = rows.length) (h : solV rows right = some x) :
    x.length = rows.length ∧ ∀ (i : Nat) r b, rows[i]? = some r → right[i]? = some b → lin r x = b := by
  unfold solV solved at h
  have haw : Wide (rows.length + 1) (augm rows right) := augm_wide hw
  obtain ⟨h1, h2, h3, h4⟩ := gauss_inv haw rows.length
  rw [augm_length hr] at h1 h3
  split at h
  · cases h
  · rename_i hlt
    have hx := (Option.some.inj h).symm
    have hu := gauss_unit haw rows.length (by omega)
    have hxl : x.length = rows.length := by rw [hx, List.length_map, h1]
    refine ⟨hxl, ?_⟩
    have hn : Nul (x ++ [1]) (gauss rows.length (augm rows right)).1 := by
      intro i r hi
      have hil : i < rows.length := by rw [← h1]; exact (List.getElem?_eq_some_iff.1 hi).1
      have hrl : r.length = rows.length + 1 := h2.at hi
      obtain ⟨r0, b, rfl⟩ : ∃ r0 b, r = r0 ++ [b] := ⟨r.dropLast, r.getLast (by intro e; rw [e] at hrl; simp at hrl), (List.dropLast_concat_getLast _).symm⟩
      have hr0 : r0.length = rows.length := by simpa using hrl
      rw [lin_snoc _ _ _ (by omega), xor_zero_iff]
      have hb : b = x.getD i 0 := by
        rw [hx, List.getD_eq_getElem?_getD, List.getElem?_map, hi]
        simp [List.getD_eq_getElem?_getD, ← hr0]
      rw [hb]
      refine lin_unit _ _ _ (by omega) (fun j hj => ?_)
      have := hu i j (by omega) (by omega)
      rw [cel_getD hi] at this
      rw [← this, List.getD_eq_getElem?_getD, List.getD_eq_getElem?_getD, List.getElem?_append_left hj]
    have hn0 := gauss_nul haw rows.length hn
    intro i r b hri hbi
    have := hn0 i _ (augm_at hri hbi)
    rw [lin_snoc _ _ _ (by rw [hw.at hri, hxl]), xor_zero_iff] at this
    exact this

/-! ### the right side does not count for how many rows are independent -/
def Same (n : Nat) (A B : List (List UInt8)) : Prop := A.length = B.length ∧ ∀ i j, j < n → cel A i j = cel B i j
theorem fnd_same {n : Nat} {A B : List (List UInt8)} (h : Same n A B) {c : Nat} (hc : c < n) : ∀ (d r : Nat), A.length - r = d → fnd A c r = fnd B c r := by
  intro d
  induction d with
  | zero => intro r hr; rw [fnd_end (by omega), fnd_end (by have := h.1; omega)]
  | succ d ih =>
    intro r hr
    by_cases h0 : cel A r c = 0
    · have hb : cel B r c = 0 := by rw [← h.2 r c hc]; exact h0
      have e1 := fnd_zero (rows := A) (by omega) h0
      have e2 := fnd_zero (rows := B) (by have := h.1; omega) hb
      rw [e1, e2, ih (r + 1) (by omega)]
    · have hb : ¬ cel B r c = 0 := by rw [← h.2 r c hc]; exact h0
      have e1 := fnd_here (rows := A) (by omega) h0
      have e2 := fnd_here (rows := B) (by have := h.1; omega) hb
      rw [e1, e2]
theorem stepAt_cel {m : Nat} {rows : List (List UInt8)} (hw : Wide m rows) {rank c p : Nat} (hk : rank ≤ p) (hp : p < rows.length) (i j : Nat) (hi : i < rows.length) :
    cel (stepAt rows rank c p) i j = (if i = rank then Fld.mul (cel rows p j) (Fld.inv (cel rows p c)) else
      (cel rows (if i = p then rank else i) j) ^^^ Fld.mul (Fld.mul (cel rows p j) (Fld.inv (cel rows p c))) (cel rows (if i = p then rank else i) c)) := by
  have hll := lead_length hw hp c
  have hld : ∀ j, (lead rows p c).getD j 0 = Fld.mul (cel rows p j) (Fld.inv (cel rows p c)) := by
    intro j; unfold lead; rw [getD_scale]; rfl
  by_cases e1 : i = rank
  · subst e1
    unfold stepAt
    rw [cel_getD (elimR_at (rank := i) (c := c) (row := lead rows p c) (prep_rank (row := lead rows p c) (p := p) (by omega))), if_pos rfl, if_pos rfl, hld]
  · obtain ⟨r, h1, h2⟩ := prep_any (p := p) (row := lead rows p c) (rank := rank) (by omega) hi e1
    unfold stepAt
    rw [cel_getD (elimR_at (rank := rank) (c := c) (row := lead rows p c) h2), if_neg e1, if_neg e1]
    unfold clr
    rw [getD_add (by rw [scaleL_length, hw.at h1, hll]), getD_scale, hld, ← cel_getD h1, ← cel_getD h1]
theorem gauss_same {m m' n : Nat} {A B : List (List UInt8)} (hA : Wide m A) (hB : Wide m' B) (h : Same n A B) : ∀ c, c ≤ n → Same n (gauss c A).1 (gauss c B).1 ∧ (gauss c A).2 = (gauss c B).2 := by
  intro c
  induction c with
  | zero => intro _; exact ⟨h, rfl⟩
  | succ c ih =>
    intro hc
    obtain ⟨h1, h2⟩ := ih (by omega)
    obtain ⟨a1, a2, a3, a4⟩ := gauss_inv hA c
    obtain ⟨b1, b2, b3, b4⟩ := gauss_inv hB c
    rw [gauss_next, gauss_next]
    have hf := fnd_same h1 (c := c) (by omega) _ (gauss c A).2 rfl
    have hfb : fnd (gauss c B).1 c (gauss c B).2 = fnd (gauss c A).1 c (gauss c A).2 := by rw [hf, h2]
    by_cases hp : fnd (gauss c A).1 c (gauss c A).2 < (gauss c A).1.length
    · rw [gstep_some rfl hp, gstep_some hfb (by have := h1.1; omega)]
      have hge := fnd_ge (gauss c A).1 c (gauss c A).2
      refine ⟨⟨by rw [stepAt_length, stepAt_length, h1.1], fun i j hj => ?_⟩, by show _ + 1 = _ + 1; rw [h2]⟩
      by_cases hi : i < (gauss c A).1.length
      · rw [stepAt_cel a2 hge hp i j hi, stepAt_cel b2 (by rw [← h2]; exact hge) (by have := h1.1; omega) i j (by have := h1.1; omega), h2, h1.2 _ j hj, h1.2 _ c (by omega), h1.2 _ j hj, h1.2 _ c (by omega)]
      · rw [cel_out (by rw [stepAt_length]; omega), cel_out (by rw [stepAt_length]; have := h1.1; omega)]
    · rw [gstep_none rfl (by omega), gstep_none hfb (by have := h1.1; omega)]
      exact ⟨h1, h2⟩
theorem augm_same {rows : List (List UInt8)} {right : List UInt8} {n : Nat} (hw : Wide n rows) (hr : right.length = rows.length) : Same n (augm rows right) rows := by
  refine ⟨augm_length hr, fun i j hj => ?_⟩
  by_cases hi : i < rows.length
  · have h1 : rows[i]? = some rows[i] := List.getElem?_eq_getElem hi
    rw [cel_getD (augm_at h1 (List.getElem?_eq_getElem (by omega : i < right.length))), cel_getD h1, List.getD_eq_getElem?_getD, List.getD_eq_getElem?_getD, List.getElem?_append_left (by rw [hw.at h1]; exact hj)]
  · rw [cel_out (by rw [augm_length hr]; omega), cel_out (by omega)]
theorem solved_rank {rows : List (List UInt8)} {right : List UInt8} (hw : Wide rows.length rows) (hr : right.length = rows.length) : (solved rows right).2 = (gauss rows.length rows).2 :=
  (gauss_same (augm_wide (right := right) hw) hw (augm_same hw hr) rows.length (Nat.le_refl _)).2
end Go.Proofs.Ytjnclggpaekdfaa
