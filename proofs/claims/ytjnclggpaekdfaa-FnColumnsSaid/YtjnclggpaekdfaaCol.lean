
/- What lists that are there come to, in plain Lean: a column is told by any so many of its lists. No function of the program in sight. -/
import Derived.Test.YtjnclggpaekdfaaMds
import Derived.Test.YtjnclggpaekdfaaPar
namespace Go.Proofs.Ytjnclggpaekdfaa
open Go.RowKit

theorem lin_comm : ∀ (a b : List UInt8), lin a b = lin b a
  | [], [] => rfl
  | [], _ :: _ => rfl
  | _ :: _, [] => rfl
  | a :: xs, b :: ys => by simp only [lin]; rw [lin_comm xs ys, Fld.mul_comm]
theorem lin_nil (v : List UInt8) : lin v [] = 0 := by rw [lin_comm]; rfl
theorem lin_zero : ∀ (v z : List UInt8), (∀ y ∈ z, y = 0) → lin v z = 0
  | [], _, _ => rfl
  | _ :: _, [], _ => rfl
  | a :: xs, y :: ys, h => by
    have h1 := h y (by simp)
    subst h1
    simp only [lin]
    rw [lin_zero xs ys (fun y hy => h y (by simp [hy])), Fld.mul_zero]
    rfl
theorem lin_app : ∀ (a b c d : List UInt8), a.length = c.length → lin (a ++ b) (c ++ d) = lin a c ^^^ lin b d
  | [], b, [], d, _ => by simp [lin]
  | [], _, _ :: _, _, h => by simp at h
  | _ :: _, _, [], _, h => by simp at h
  | a :: xs, b, c :: ys, d, h => by
    have := lin_app xs b ys d (by simpa using h)
    simp only [List.cons_append, lin, this, UInt8.xor_assoc]
/-- the sums may be taken the one way and the other -/
theorem lin_swap (g : Nat) (v : List UInt8) (hv : v.length = g) (G : Int → Nat → UInt8) : ∀ (ks : List Int) (x : List UInt8), ks.length = x.length →
    lin (ks.map (fun k => lin v ((List.range g).map (G k)))) x = lin v ((List.range g).map (fun i => lin (ks.map (fun k => G k i)) x))
  | [], [], _ => by
    show 0 = _
    rw [lin_zero]
    intro y hy
    obtain ⟨i, _, rfl⟩ := List.mem_map.1 hy
    rfl
  | [], _ :: _, h => by simp at h
  | _ :: _, [], h => by simp at h
  | k :: ks, y :: ys, h => by
    have ih := lin_swap g v hv G ks ys (by simpa using h)
    simp only [List.map_cons, lin]
    rw [ih]
    have e1 : Fld.mul (lin v ((List.range g).map (G k))) y = lin v (scaleL ((List.range g).map (G k)) y) := by
      rw [lin_comm v (scaleL _ _), lin_scale, lin_comm]
    have e2 : (List.range g).map (fun i => Fld.mul (G k i) y ^^^ lin (ks.map (fun k => G k i)) ys) = addL (scaleL ((List.range g).map (G k)) y) ((List.range g).map (fun i => lin (ks.map (fun k => G k i)) ys)) := by
      unfold addL scaleL
      rw [List.map_map, List.zipWith_map, List.zipWith_self]
      rfl
    rw [e1, e2, lin_comm v (addL _ _), lin_add _ _ _ (by simp [scaleL]), lin_comm _ v, lin_comm _ v]

/-- the bytes at a place of lists -/
def colAt (xs : List (List UInt8)) (t : Nat) : List UInt8 := xs.map (fun x => x.getD t 0)
theorem colAt_length (xs : List (List UInt8)) (t : Nat) : (colAt xs t).length = xs.length := by simp [colAt]
theorem mixTo_at {xs : List (List UInt8)} {cs : List UInt8} {n0 : Nat} (h : ∀ x ∈ xs, x.length = n0) (t : Nat) : ∀ {k : Nat}, k ≤ xs.length → k ≤ cs.length → (mixTo xs cs n0 k).getD t 0 = lin (colAt (xs.take k) t) (cs.take k)
  | 0, _, _ => by
    show (List.replicate n0 (0 : UInt8)).getD t 0 = _
    rw [List.getD_eq_getElem?_getD, List.getElem?_replicate]
    by_cases ht : t < n0 <;> simp [ht, colAt, lin]
  | k + 1, hk, hc => by
    have ih := mixTo_at (cs := cs) h t (k := k) (by omega) (by omega)
    have hx : xs[k]? = some xs[k] := List.getElem?_eq_getElem (by omega)
    have hy : cs[k]? = some cs[k] := List.getElem?_eq_getElem (by omega)
    have hl := mixTo_len (cs := cs) h (k := k) (by omega)
    have hxl : (xs[k]).length = n0 := h _ (List.getElem_mem _)
    rw [mixTo_next hx hy, getD_add (by rw [hl, scaleL_length, hxl]), getD_scale, ih, take_next hx, take_next hy]
    unfold colAt
    rw [List.map_append, lin_app _ _ _ _ (by rw [List.length_map, List.length_take, List.length_take]; omega)]
    simp [lin]
theorem getD_ext {a b : List UInt8} (hl : a.length = b.length) (h : ∀ t, a.getD t 0 = b.getD t 0) : a = b := by
  apply List.ext_getElem hl
  intro t h1 h2
  have := h t
  rw [List.getD_eq_getElem?_getD, List.getD_eq_getElem?_getD, List.getElem?_eq_getElem h1, List.getElem?_eq_getElem h2] at this
  exact this
/-- the list of a column at a place -/
def codeAt (xs : List (List UInt8)) (n0 : Nat) (k : Int) : List UInt8 := mixTo xs (genL xs.length k 8) n0 xs.length
theorem codeAt_length {xs : List (List UInt8)} {n0 : Nat} (h : ∀ x ∈ xs, x.length = n0) (k : Int) : (codeAt xs n0 k).length = n0 := mixTo_len h (Nat.le_refl _)
theorem codeAt_at {xs : List (List UInt8)} {n0 : Nat} (h : ∀ x ∈ xs, x.length = n0) (k : Int) (t : Nat) : (codeAt xs n0 k).getD t 0 = lin (colAt xs t) (genL xs.length k 8) := by
  unfold codeAt
  rw [mixTo_at h t (Nat.le_refl _) (by rw [genL_length]; exact Nat.le_refl _), List.take_length, List.take_of_length_le (by rw [genL_length]; exact Nat.le_refl _)]
/-- a unit vector takes a place out -/
theorem lin_one : ∀ (v : List UInt8) (i n : Nat), v.length = n → i < n → lin v ((List.range n).map (fun j : Nat => if (j : Int) = (i : Int) then (1 : UInt8) else 0)) = v.getD i 0 := by
  intro v
  induction v with
  | nil => intro i n h1 h2; simp at h1; omega
  | cons a v ih =>
    intro i n h1 h2
    cases n with
    | zero => omega
    | succ n =>
      rw [List.range_succ_eq_map, List.map_cons, List.map_map]
      simp only [lin]
      cases i with
      | zero =>
        rw [lin_zero]
        · simp [Fld.mul_one]
        · intro y hy
          obtain ⟨j, _, rfl⟩ := List.mem_map.1 hy
          simp only [Function.comp_apply]
          rw [if_neg (by omega)]
      | succ i =>
        have := ih i n (by simpa using h1) (by omega)
        have e : (List.range n).map ((fun j : Nat => if (j : Int) = ((i + 1 : Nat) : Int) then (1 : UInt8) else 0) ∘ Nat.succ) = (List.range n).map (fun j : Nat => if (j : Int) = (i : Int) then (1 : UInt8) else 0) := by
          apply List.map_congr_left
          intro j _
          simp only [Function.comp_apply]
          by_cases h : j = i
          · subst h; rw [if_pos (by omega), if_pos rfl]
          · rw [if_neg (by omega), if_neg (by omega)]
        rw [e, this, if_neg (by omega), Fld.mul_zero]
        simp
theorem codeAt_data {xs : List (List UInt8)} {n0 : Nat} (h : ∀ x ∈ xs, x.length = n0) {k : Nat} {x : List UInt8} (hx : xs[k]? = some x) : codeAt xs n0 (k : Int) = x := by
  have hk := (List.getElem?_eq_some_iff.1 hx).1
  refine getD_ext (by rw [codeAt_length h]; exact (h x (List.mem_of_getElem? hx)).symm) (fun t => ?_)
  rw [codeAt_at h]
  have e : genL xs.length (k : Int) 8 = (List.range xs.length).map (fun j : Nat => if (j : Int) = (k : Int) then (1 : UInt8) else 0) := by
    unfold genL
    apply List.map_congr_left
    intro j _
    unfold genAt
    rw [if_neg (by omega)]
  rw [e, lin_one _ k _ (colAt_length xs t) hk]
  unfold colAt
  rw [List.getD_eq_getElem?_getD, List.getElem?_map, hx]
  rfl
/-- all lists of a column -/
def codeL (xs : List (List UInt8)) (n0 c : Nat) : List (List UInt8) := (List.range (xs.length + c)).map (fun k : Nat => codeAt xs n0 (k : Int))
theorem codeL_length (xs : List (List UInt8)) (n0 c : Nat) : (codeL xs n0 c).length = xs.length + c := by simp [codeL]
theorem codeL_at {xs : List (List UInt8)} {n0 c k : Nat} (h : k < xs.length + c) : (codeL xs n0 c)[k]? = some (codeAt xs n0 (k : Int)) := by unfold codeL; rw [List.getElem?_map, List.getElem?_range h]; rfl
theorem codeL_eq {xs : List (List UInt8)} {n0 : Nat} (c : Nat) (h : ∀ x ∈ xs, x.length = n0) : xs ++ parL xs n0 c = codeL xs n0 c := by
  apply List.ext_getElem?
  intro k
  by_cases h1 : k < xs.length
  · rw [List.getElem?_append_left h1, codeL_at (by omega), List.getElem?_eq_getElem h1, codeAt_data h (List.getElem?_eq_getElem h1)]
  · rw [List.getElem?_append_right (by omega)]
    by_cases h2 : k < xs.length + c
    · rw [codeL_at h2]
      unfold parL
      rw [List.getElem?_map, List.getElem?_range (by omega)]
      show some (mixTo xs (genL xs.length (xs.length + (k - xs.length : Nat)) 8) n0 xs.length) = _
      unfold codeAt
      congr 3
      omega
    · rw [List.getElem?_eq_none (by rw [parL_length]; omega), List.getElem?_eq_none (by rw [codeL_length]; omega)]
/-- any so many lists tell the list at a place -/
theorem code_back {xs : List (List UInt8)} {n0 : Nat} (h : ∀ x ∈ xs, x.length = n0) {ks : List Int} {x : List UInt8} {p : Int} (hl : ks.length = xs.length) (hx : x.length = xs.length) (hw : ∀ i, i < xs.length → lin (ks.map (fun k => genAt xs.length k 8 i)) x = genAt xs.length p 8 i)
    {ys : List (List UInt8)} (hy : ys = ks.map (codeAt xs n0)) : mixTo ys x n0 ys.length = codeAt xs n0 p := by
  have hyl : ys.length = xs.length := by rw [hy, List.length_map, hl]
  have hyn : ∀ y ∈ ys, y.length = n0 := by
    intro y hm
    rw [hy] at hm
    obtain ⟨k, _, rfl⟩ := List.mem_map.1 hm
    exact codeAt_length h k
  refine getD_ext (by rw [mixTo_len hyn (Nat.le_refl _), codeAt_length h]) (fun t => ?_)
  rw [mixTo_at hyn t (Nat.le_refl _) (by omega), List.take_length, List.take_of_length_le (by omega), codeAt_at h]
  have e1 : colAt ys t = ks.map (fun k => lin (colAt xs t) ((List.range xs.length).map (genAt xs.length k 8))) := by
    unfold colAt
    rw [hy, List.map_map]
    apply List.map_congr_left
    intro k _
    exact codeAt_at h k t
  rw [e1, lin_swap xs.length (colAt xs t) (colAt_length xs t) (fun k i => genAt xs.length k 8 i) ks x (by omega)]
  congr 1
  unfold genL
  apply List.map_congr_left
  intro i hi
  exact hw i (by simpa using hi)
end Go.Proofs.Ytjnclggpaekdfaa
