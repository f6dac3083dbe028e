import Derived.Test.YtphmpimgbmedbaaGreatRows
import Derived.Test.YtphmpimgbmedbaaGreatHelpM
import Derived.Deep.RegionLaw
/- Lists of lists: an element changed, an element put in; the laws' helpers at lists of lists of bytes. -/
namespace Go.Proofs.YtphmpimgbmedbaaGreat
open Go.RowKit

theorem Lay.all_mod {α : Type} (L : Lay α) {w : World} {x : α} : ∀ {xs : List α} {i : Nat} {cs : List Value} {fps : List Nat}, L.all w cs xs fps → xs[i]? = some x →
    ∃ c f f1 f2, fps = f1 ++ f ++ f2 ∧ (∀ j, j < L.n → cs[i * L.n + j]? = c[j]?) ∧ L.rep w c x f ∧
      ∀ w' x', L.rep w' c x' f → (∀ y, (y ∈ f1 ∨ y ∈ f2) → w'.heap[y]? = w.heap[y]?) → L.all w' cs (xs.set i x') fps := by
  intro xs
  induction xs with
  | nil => intro i cs fps _ hx; simp at hx
  | cons y ys ih =>
    intro i cs fps h hx
    obtain ⟨c1, c2, f1, f2, rfl, rfl, h1, h2⟩ := h
    have hl := L.len h1
    cases i with
    | zero =>
      simp at hx
      subst hx
      refine ⟨c1, f1, [], f2, by simp, fun j hj => by rw [Nat.zero_mul, Nat.zero_add, List.getElem?_append_left (by omega)], h1, fun w' x' hr hk => ⟨c1, c2, f1, f2, rfl, rfl, hr, L.all_keep h2 (fun y hy => hk y (.inr hy))⟩⟩
    | succ i =>
      obtain ⟨c, f, g1, g2, rfl, hc, hr, hm⟩ := ih h2 (by simpa using hx)
      refine ⟨c, f, f1 ++ g1, g2, by simp, fun j hj => ?_, hr, fun w' x' hr' hk => ⟨c1, c2, f1, _, rfl, rfl, L.keep h1 (fun y hy => hk y (.inl (by simp [hy]))), hm w' x' hr' (fun y hy => hk y (by rcases hy with hy | hy; exact .inl (by simp [hy]); exact .inr hy))⟩⟩
      have e : (i + 1) * L.n + j = c1.length + (i * L.n + j) := by rw [Nat.add_mul, Nat.one_mul, hl]; omega
      rw [e, List.getElem?_append_right (by omega), Nat.add_sub_cancel_left, hc j hj]

/-- an element of a slice that may change in its own blocks -/
theorem Lay.sl_mod {α : Type} (L : Lay α) {w : World} {a : Option Addr} {len cap : Nat} {xs : List α} {fp : List Nat} (h : L.sl w a len cap xs fp) (nd : fp.Nodup) {i : Nat} (hi : i < len) :
    ∃ x b off c f, xs[i]? = some x ∧ a = some ⟨b, off, none⟩ ∧ b ∈ fp ∧ (∀ j, j < L.n → w.cell? ⟨b, off + i * L.n + j, none⟩ = c[j]?) ∧ L.rep w c x f ∧ (∀ y ∈ f, y ∈ fp) ∧ f.Nodup ∧
      ∀ w' x', L.rep w' c x' f → (∀ y ∈ fp, y ∉ f → w'.heap[y]? = w.heap[y]?) → L.sl w' a len cap (xs.set i x') fp := by
  obtain ⟨h1, h2, h3, h4, ⟨rfl, rfl⟩ | ⟨b, off, cur, E, fr, fps, ha, hb, hall, rfl⟩⟩ := h
  · simp at h1; omega
  · have hx : xs[i]? = some (xs[i]'(by omega)) := List.getElem?_eq_getElem _
    obtain ⟨c, f, f1, f2, rfl, hc, hr, hm⟩ := L.all_mod hall hx
    have nd1 := List.nodup_cons.1 nd
    have nd2 := List.nodup_append.1 nd1.2
    have nd3 := List.nodup_append.1 nd2.1
    refine ⟨_, b, off, c, f, hx, ha, by simp, fun j hj => ?_, hr, fun y hy => by simp [hy], nd3.2.1, fun w' x' hr' hk => ⟨by simpa using h1, h2, h3, h4, .inr ⟨b, off, cur, E, fr, _, ha, ?_, hm w' x' hr' ?_, rfl⟩⟩⟩
    · rw [cell_of_row w b _ cur E fr hb, ← hc j hj, List.getElem?_take_of_lt, List.getElem?_drop]
      · simp [Nat.add_assoc]
      · calc i * L.n + j < i * L.n + L.n := by omega
          _ = (i + 1) * L.n := by rw [Nat.add_mul, Nat.one_mul]
          _ ≤ len * L.n := Nat.mul_le_mul_right _ (by omega)
    · rw [hk b (by simp) (fun hbf => nd1.1 (by simp [hbf]))]; exact hb
    · intro y hy
      refine hk y (by rcases hy with hy | hy <;> simp [hy]) (fun hyf => ?_)
      rcases hy with hy | hy
      · exact nd3.2.2 y hy y hyf rfl
      · exact nd2.2.2 y (by simp [hyf]) y hy rfl

theorem Lay.all_put {α : Type} (L : Lay α) (hn : L.n = 1) {w w' : World} {v : Value} {x' : α} {f' : List Nat} : ∀ {xs : List α} {i : Nat} {cs : List Value} {fps : List Nat}, L.all w cs xs fps → i < xs.length → L.rep w' [v] x' f' →
    (∀ y ∈ fps, w'.heap[y]? = w.heap[y]?) → ∃ fps', L.all w' (cs.set i v) (xs.set i x') fps' ∧ (∀ y ∈ fps', y ∈ fps ∨ y ∈ f') ∧ (fps.Nodup → f'.Nodup → (∀ y ∈ f', y ∉ fps) → fps'.Nodup) := by
  intro xs
  induction xs with
  | nil => intro i cs fps _ hi; simp at hi
  | cons y ys ih =>
    intro i cs fps h hi hr hk
    obtain ⟨c1, c2, f1, f2, rfl, rfl, h1, h2⟩ := h
    have hl := L.len h1
    rw [hn] at hl
    cases i with
    | zero =>
      refine ⟨f' ++ f2, ⟨[v], c2, f', f2, ?_, rfl, hr, L.all_keep h2 (fun y hy => hk y (by simp [hy]))⟩, fun y hy => ?_, fun n1 n2 n3 => ?_⟩
      · match c1, hl with | [u], _ => rfl
      · rcases List.mem_append.1 hy with hy | hy
        · exact .inr hy
        · exact .inl (by simp [hy])
      · exact List.nodup_append.2 ⟨n2, (List.nodup_append.1 n1).2.1, fun a ha b hb e => n3 a ha (by subst e; simp [hb])⟩
    | succ i =>
      obtain ⟨g, hg, hm, hnd⟩ := ih h2 (by simpa using hi) hr (fun y hy => hk y (by simp [hy]))
      refine ⟨f1 ++ g, ⟨c1, c2.set i v, f1, g, ?_, rfl, L.keep h1 (fun y hy => hk y (by simp [hy])), hg⟩, fun y hy => ?_, fun n1 n2 n3 => ?_⟩
      · rw [List.set_append_right _ _ (by omega), hl, Nat.add_sub_cancel]
      · rcases List.mem_append.1 hy with hy | hy
        · exact .inl (by simp [hy])
        · rcases hm y hy with h | h
          · exact .inl (by simp [h])
          · exact .inr h
      · have n4 := List.nodup_append.1 n1
        refine List.nodup_append.2 ⟨n4.1, hnd n4.2.1 n2 (fun y hy hy' => n3 y hy (by simp [hy'])), fun a ha b hb e => ?_⟩
        subst e
        rcases hm a hb with h | h
        · exact n4.2.2 a ha a h rfl
        · exact n3 a h (by simp [ha])

/-- a datum of one cell is put into a slice -/
theorem Lay.sl_put {α : Type} (L : Lay α) (hn : L.n = 1) {w : World} {b off len cap : Nat} {xs : List α} {fp : List Nat} (h : L.sl w (some ⟨b, off, none⟩) len cap xs fp) (nd : fp.Nodup) {i : Nat} (hi : i < len) {v : Value} {x' : α} {f' : List Nat}
    (hr : L.rep w [v] x' f') (hd : ∀ y ∈ f', y ∉ fp) (nf : f'.Nodup) :
    ∃ fp', L.sl (w.setCell ⟨b, off + i, none⟩ v) (some ⟨b, off, none⟩) len cap (xs.set i x') fp' ∧ (∀ y ∈ fp', y ∈ fp ∨ y ∈ f') ∧ fp'.Nodup := by
  obtain ⟨h1, h2, h3, h4, ⟨rfl, rfl⟩ | ⟨b', off', cur, E, fr, fps, ha, hb, hall, rfl⟩⟩ := h
  · simp at h1; omega
  · simp only [Option.some.injEq, Addr.mk.injEq, and_true] at ha
    obtain ⟨rfl, rfl⟩ := ha
    have hbf : b ∉ fps := (List.nodup_cons.1 nd).1
    have hk : ∀ y, y ≠ b → (w.setCell ⟨b, off + i, none⟩ v).heap[y]? = w.heap[y]? := fun y hy => Below.heap_setCell _ _ _ _ hy
    have hbf' : b ∉ f' := fun hb' => hd b hb' (by simp)
    obtain ⟨g, hg, hm, hnd⟩ := L.all_put hn hall (i := i) (by omega) (L.keep hr (fun y hy => hk y (fun e => hbf' (e ▸ hy)))) (fun y hy => hk y (fun e => hbf (e ▸ hy)))
    have hne : b ∉ g := fun hb' => by rcases hm b hb' with h | h; exact hbf h; exact hbf' h
    refine ⟨b :: g, ⟨by simpa using h1, h2, h3, h4, .inr ⟨b, off, _, E, fr, g, rfl, heap_setCell_same hb, ?_, rfl⟩⟩, fun y hy => ?_, List.nodup_cons.2 ⟨hne, hnd (List.nodup_cons.1 nd).2 nf (fun y hy hy' => hd y hy (by simp [hy']))⟩⟩
    · have e : (((cur.setIfInBounds (off + i) v).toList.drop off).take (len * L.n)) = ((cur.toList.drop off).take (len * L.n)).set i v := by
        rw [Array.toList_setIfInBounds, List.drop_set, if_neg (by omega), List.take_set]
        congr 1
        omega
      rw [e]
      exact hg
    · rcases List.mem_cons.1 hy with rfl | hy
      · exact .inl (by simp)
      · rcases hm y hy with h | h
        · exact .inl (by simp [h])
        · exact .inr h

/-- an element of a list of lists -/
theorem slc_at {α : Type} {M : Lay α} {w : World} {a : Option Addr} {len cap : Nat} {xs : List (List α)} {fp : List Nat} (h : M.slice.sl w a len cap xs fp) {i : Nat} (hi : i < len) :
    ∃ x b off A l C f, RowKit.Hid (xs[i]? = some x ∧ b ∈ fp ∧ (∀ y ∈ f, y ∈ fp)) ∧ a = some ⟨b, off, none⟩ ∧ w.cell? ⟨b, off + i, none⟩ = some (.slice A l C) ∧ RowKit.Hid (M.sl w A l C x f) := by
  obtain ⟨x, b, off, c, f, hx, ha, hb, hc, ⟨A, l, C, rfl, hs⟩, hf⟩ := M.slice.sl_at h hi
  have := hc 0 M.slice.pos
  rw [show off + i * M.slice.n + 0 = off + i by simp [Lay.slice]] at this
  exact ⟨x, b, off, A, l, C, f, ⟨hx, hb, hf⟩, ha, this, hs⟩
theorem copyL_next {α : Type} {xs : List (List α)} {k n : Nat} {x : List α} (hx : xs[k]? = some x) (hn : n = xs.length) : (xs.take k ++ List.replicate (n - k) []).set k x = xs.take (k + 1) ++ List.replicate (n - (k + 1)) [] := by
  have hk := (List.getElem?_eq_some_iff.1 hx).1
  have hl : (xs.take k).length = k := by rw [List.length_take]; omega
  rw [List.set_append_right _ _ (by omega), hl, Nat.sub_self, take_next hx, show n - k = (n - (k + 1)) + 1 by omega, List.replicate_succ, List.set_cons_zero]
  simp
theorem slc_zrow {α : Type} (M : Lay α) (w : World) (E : TypeId) (len : Nat) (h63 : len ≤ 9223372036854775807) :
    M.slice.sl (w.alloc (.cells (zrow (.slice none 0 0) len) E)) (some ⟨w.heap.size, 0, none⟩) len len (List.replicate len []) [w.heap.size] := by
  have := M.slice.sl_zrow (z := .slice none 0 0) (x0 := []) w E len h63 ⟨none, 0, 0, rfl, rfl, Nat.le_refl _, by simp [maxLen], fun _ => rfl, .inl ⟨rfl, rfl⟩⟩
  simpa [Lay.slice] using this

/-! ### how much is in them -/
def szGo : List (List UInt8) → Int → Int
  | [], l => l
  | x :: xs, l => if l - x.length < 0 then -1 else szGo xs (l - x.length)
def szBB (xs : List (List UInt8)) (l : Int) : Int := if l - xs.length < 0 then -1 else szGo xs (l - xs.length)
theorem szGo_cons {x : List UInt8} {xs : List (List UInt8)} {l : Int} : szGo (x :: xs) l = if l - x.length < 0 then -1 else szGo xs (l - x.length) := rfl
theorem szGo_le : ∀ {xs : List (List UInt8)} {l : Int}, 0 ≤ l → 0 ≤ szGo xs l → szGo xs l ≤ l ∧ ∀ x ∈ xs, (x.length : Int) ≤ l
  | [], l, _, _ => ⟨Int.le_refl _, by simp⟩
  | x :: xs, l, h0, h => by
    rw [szGo_cons] at h ⊢
    split at h
    · omega
    · rename_i h1
      rw [if_neg h1]
      obtain ⟨h2, h3⟩ := szGo_le (by omega) h
      refine ⟨by omega, fun y hy => ?_⟩
      rcases List.mem_cons.1 hy with rfl | hy
      · omega
      · have := h3 y hy; omega
theorem szBB_le {xs : List (List UInt8)} {l : Int} (h : 0 ≤ szBB xs l) : szBB xs l ≤ l ∧ (xs.length : Int) ≤ l ∧ ∀ x ∈ xs, (x.length : Int) ≤ l := by
  unfold szBB at h ⊢
  split at h
  · omega
  · rename_i h1
    rw [if_neg h1]
    obtain ⟨h2, h3⟩ := szGo_le (by omega) h
    exact ⟨by omega, by omega, fun x hx => by have := h3 x hx; omega⟩
theorem szGo_or (xs : List (List UInt8)) : ∀ l : Int, 0 ≤ l → -1 ≤ szGo xs l ∧ szGo xs l ≤ l := by
  induction xs with
  | nil => intro l h; exact ⟨by show -1 ≤ l; omega, Int.le_refl _⟩
  | cons x xs ih =>
    intro l h
    rw [szGo_cons]
    split
    · omega
    · have := ih (l - x.length) (by omega); omega


set_option maxHeartbeats 400000 in
theorem szB_any (a : Option Addr) (la ca : Nat) (k : Int) (w : World) (hm : la ≤ 9223372036854775807) (hk : 0 ≤ k) (hk2 : k ≤ 1048576) :
    Calls Tryz.prog 288 #[.slice a la ca, .int .i64 k] w fun e w' => e = .returned (.int .i64 (if k - la < 0 then -1 else k - la)) ∧ w = w' := by
  by_cases h : k - la < 0
  · have HI := Lib.hid (show (if k - (la : Int) < 0 then -1 else k - (la : Int)) = -1 from if_pos h)
    go_enter Tryz.func288, Tryz.ntmps288
    go_wp2
    go_ret
    exact ⟨ret_int (by first | rfl | rw [HI.out]), rfl⟩
  · have HI := Lib.hid (show (if k - (la : Int) < 0 then -1 else k - (la : Int)) = k - la from if_neg h)
    go_enter Tryz.func288, Tryz.ntmps288
    go_wp2
    go_ret
    exact ⟨ret_int (by first | rfl | rw [HI.out]), rfl⟩




/-! ### a list of lists made anew, compared, marked -/






/-- the marks of a list of lists -/
def markGo : List (List UInt8) → Int → List (List UInt8)
  | [], _ => []
  | x :: xs, k => markBL k x.length :: markGo xs (k + x.length)
def sumLen : List (List UInt8) → Int
  | [] => 0
  | x :: xs => x.length + sumLen xs
theorem sumLen_nonneg : ∀ xs, 0 ≤ sumLen xs
  | [] => Int.le_refl _
  | x :: xs => by have := sumLen_nonneg xs; show 0 ≤ (x.length : Int) + sumLen xs; omega
theorem szGo_sum : ∀ {xs : List (List UInt8)} {l : Int}, 0 ≤ szGo xs l → szGo xs l = l - sumLen xs
  | [], l, _ => by show l = l - 0; omega
  | x :: xs, l, h => by
    rw [szGo_cons] at h ⊢
    split at h
    · omega
    · rename_i h1
      rw [if_neg h1, szGo_sum h]
      show l - (x.length : Int) - sumLen xs = l - ((x.length : Int) + sumLen xs)
      omega
theorem szBB_sum {xs : List (List UInt8)} {l : Int} (h : 0 ≤ szBB xs l) : sumLen xs ≤ l := by
  unfold szBB at h
  split at h
  · omega
  · have := szGo_sum h; omega
theorem sumLen_append (xs ys : List (List UInt8)) : sumLen (xs ++ ys) = sumLen xs + sumLen ys := by
  induction xs with
  | nil => simp [sumLen]
  | cons x xs ih => simp [sumLen, ih]; omega
theorem sumLen_take {xs : List (List UInt8)} {i : Nat} {x : List UInt8} (h : xs[i]? = some x) : sumLen (xs.take (i + 1)) = sumLen (xs.take i) + x.length := by
  rw [take_next h, sumLen_append]; simp [sumLen]
theorem sumLen_take_le (xs : List (List UInt8)) (i : Nat) : sumLen (xs.take i) ≤ sumLen xs := by
  have := sumLen_append (xs.take i) (xs.drop i)
  rw [List.take_append_drop] at this
  have := sumLen_nonneg (xs.drop i)
  omega
theorem markGo_append (xs ys : List (List UInt8)) : ∀ k, markGo (xs ++ ys) k = markGo xs k ++ markGo ys (k + sumLen xs) := by
  induction xs with
  | nil => intro k; simp [markGo, sumLen]
  | cons x xs ih => intro k; simp [markGo, sumLen, ih, Int.add_assoc]
theorem markGo_length (xs : List (List UInt8)) : ∀ k, (markGo xs k).length = xs.length := by
  induction xs with
  | nil => intro k; rfl
  | cons x xs ih => intro k; simp [markGo, ih]
theorem markGo_next {xs : List (List UInt8)} {i : Nat} {x : List UInt8} (k : Int) (h : xs[i]? = some x) :
    (markGo (xs.take i) k ++ xs.drop i).set i (markBL (k + sumLen (xs.take i)) x.length) = markGo (xs.take (i + 1)) k ++ xs.drop (i + 1) := by
  have hi := (List.getElem?_eq_some_iff.1 h).1
  have hl : (markGo (xs.take i) k).length = i := by rw [markGo_length, List.length_take]; omega
  rw [List.set_append_right _ _ (by omega), hl, Nat.sub_self, List.drop_eq_getElem_cons hi, List.set_cons_zero, take_next h, markGo_append]
  simp [markGo]




end Go.Proofs.YtphmpimgbmedbaaGreat
