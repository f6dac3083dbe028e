
/- Lists of lists: an element changed, an element put in; the laws' helpers at lists of lists of bytes. -/
import Derived.Test.YtcejdmggacjnoaaRows
import Derived.Test.YtcejdmggacjnoaaHelp
import Derived.Deep.RegionLaw
namespace Go.Proofs.Ytcejdmggacjnoaa
open Go.RowKit

theorem Lay.all_mod {α : Type} (L : Lay α) {w : World} {x : α} : ∀ {xs : List α} {i : Nat} {cs : List Value} {fps : List Nat}, L.all w cs xs fps → xs[i]? = some x →
    ∃ c f f1 f2, fps = f1 ++ f ++ f2 ∧ (∀ j, j < L.n → cs[i * L.n + j]? = c[j]?) ∧ L.rep w c x f ∧
      ∀ w' x', L.rep w' c x' f → (∀ y, (y ∈ f1 ∨ y ∈ f2) → w'.heap[y]? = w.heap[y]?) → L.all w' cs (xs.set i x') fps := by
  intro xs
  induction xs with
  | nil => intro i cs fps _ hx; simp at hx
  | cons y ys ih =>
    intro i cs fps h hx
    obtain ⟨c1, c2, f1, f2, rfl, rfl, h1, h2⟩ := h
    have hl := L.len h1
    cases i with
    | zero =>
      simp at hx
      subst hx
      refine ⟨c1, f1, [], f2, by simp, fun j hj => by rw [Nat.zero_mul, Nat.zero_add, List.getElem?_append_left (by omega)], h1, fun w' x' hr hk => ⟨c1, c2, f1, f2, rfl, rfl, hr, L.all_keep h2 (fun y hy => hk y (.inr hy))⟩⟩
    | succ i =>
      obtain ⟨c, f, g1, g2, rfl, hc, hr, hm⟩ := ih h2 (by simpa using hx)
      refine ⟨c, f, f1 ++ g1, g2, by simp, fun j hj => ?_, hr, fun w' x' hr' hk => ⟨c1, c2, f1, _, rfl, rfl, L.keep h1 (fun y hy => hk y (.inl (by simp [hy]))), hm w' x' hr' (fun y hy => hk y (by rcases hy with hy | hy; exact .inl (by simp [hy]); exact .inr hy))⟩⟩
      have e : (i + 1) * L.n + j = c1.length + (i * L.n + j) := by rw [Nat.add_mul, Nat.one_mul, hl]; omega
      rw [e, List.getElem?_append_right (by omega), Nat.add_sub_cancel_left, hc j hj]

/-- an element of a slice that may change in its own blocks -/
theorem Lay.sl_mod {α : Type} (L : Lay α) {w : World} {a : Option Addr} {len cap : Nat} {xs : List α} {fp : List Nat} (h : L.sl w a len cap xs fp) (nd : fp.Nodup) {i : Nat} (hi : i < len) :
    ∃ x b off c f, xs[i]? = some x ∧ a = some ⟨b, off, none⟩ ∧ b ∈ fp ∧ (∀ j, j < L.n → w.cell? ⟨b, off + i * L.n + j, none⟩ = c[j]?) ∧ L.rep w c x f ∧ (∀ y ∈ f, y ∈ fp) ∧ f.Nodup ∧
      ∀ w' x', L.rep w' c x' f → (∀ y ∈ fp, y ∉ f → w'.heap[y]? = w.heap[y]?) → L.sl w' a len cap (xs.set i x') fp := by
  obtain ⟨h1, h2, h3, h4, ⟨rfl, rfl⟩ | ⟨b, off, cur, E, fr, fps, ha, hb, hall, rfl⟩⟩ := h
  · simp at h1; omega
  · have hx : xs[i]? = some (xs[i]'(by omega)) := List.getElem?_eq_getElem _
    obtain ⟨c, f, f1, f2, rfl, hc, hr, hm⟩ := L.all_mod hall hx
    have nd1 := List.nodup_cons.1 nd
    have nd2 := List.nodup_append.1 nd1.2
    have nd3 := List.nodup_append.1 nd2.1
    refine ⟨_, b, off, c, f, hx, ha, by simp, fun j hj => ?_, hr, fun y hy => by simp [hy], nd3.2.1, fun w' x' hr' hk => ⟨by simpa using h1, h2, h3, h4, .inr ⟨b, off, cur, E, fr, _, ha, ?_, hm w' x' hr' ?_, rfl⟩⟩⟩
    · rw [cell_of_row w b _ cur E fr hb, ← hc j hj, List.getElem?_take_of_lt, List.getElem?_drop]
      · simp [Nat.add_assoc]
      · calc i * L.n + j < i * L.n + L.n := by omega
          _ = (i + 1) * L.n := by rw [Nat.add_mul, Nat.one_mul]
          _ ≤ len * L.n := Nat.mul_le_mul_right _ (by omega)
    · rw [hk b (by simp) (fun hbf => nd1.1 (by simp [hbf]))]; exact hb
    · intro y hy
      refine hk y (by rcases hy with hy | hy <;> simp [hy]) (fun hyf => ?_)
      rcases hy with hy | hy
      · exact nd3.2.2 y hy y hyf rfl
      · exact nd2.2.2 y (by simp [hyf]) y hy rfl

theorem Lay.all_put {α : Type} (L : Lay α) (hn : L.n = 1) {w w' : World} {v : Value} {x' : α} {f' : List Nat} : ∀ {xs : List α} {i : Nat} {cs : List Value} {fps : List Nat}, L.all w cs xs fps → i < xs.length → L.rep w' [v] x' f' →
    (∀ y ∈ fps, w'.heap[y]? = w.heap[y]?) → ∃ fps', L.all w' (cs.set i v) (xs.set i x') fps' ∧ (∀ y ∈ fps', y ∈ fps ∨ y ∈ f') ∧ (fps.Nodup → f'.Nodup → (∀ y ∈ f', y ∉ fps) → fps'.Nodup) := by
  intro xs
  induction xs with
  | nil => intro i cs fps _ hi; simp at hi
  | cons y ys ih =>
    intro i cs fps h hi hr hk
    obtain ⟨c1, c2, f1, f2, rfl, rfl, h1, h2⟩ := h
    have hl := L.len h1
    rw [hn] at hl
    cases i with
    | zero =>
      refine ⟨f' ++ f2, ⟨[v], c2, f', f2, ?_, rfl, hr, L.all_keep h2 (fun y hy => hk y (by simp [hy]))⟩, fun y hy => ?_, fun n1 n2 n3 => ?_⟩
      · match c1, hl with | [u], _ => rfl
      · rcases List.mem_append.1 hy with hy | hy
        · exact .inr hy
        · exact .inl (by simp [hy])
      · exact List.nodup_append.2 ⟨n2, (List.nodup_append.1 n1).2.1, fun a ha b hb e => n3 a ha (by subst e; simp [hb])⟩
    | succ i =>
      obtain ⟨g, hg, hm, hnd⟩ := ih h2 (by simpa using hi) hr (fun y hy => hk y (by simp [hy]))
      refine ⟨f1 ++ g, ⟨c1, c2.set i v, f1, g, ?_, rfl, L.keep h1 (fun y hy => hk y (by simp [hy])), hg⟩, fun y hy => ?_, fun n1 n2 n3 => ?_⟩
      · rw [List.set_append_right _ _ (by omega), hl, Nat.add_sub_cancel]
      · rcases List.mem_append.1 hy with hy | hy
        · exact .inl (by simp [hy])
        · rcases hm y hy with h | h
          · exact .inl (by simp [h])
          · exact .inr h
      · have n4 := List.nodup_append.1 n1
        refine List.nodup_append.2 ⟨n4.1, hnd n4.2.1 n2 (fun y hy hy' => n3 y hy (by simp [hy'])), fun a ha b hb e => ?_⟩
        subst e
        rcases hm a hb with h | h
        · exact n4.2.2 a ha a h rfl
        · exact n3 a h (by simp [ha])

/-- a datum of one cell is put into a slice -/
theorem Lay.sl_put {α : Type} (L : Lay α) (hn : L.n = 1) {w : World} {b off len cap : Nat} {xs : List α} {fp : List Nat} (h : L.sl w (some ⟨b, off, none⟩) len cap xs fp) (nd : fp.Nodup) {i : Nat} (hi : i < len) {v : Value} {x' : α} {f' : List Nat}
    (hr : L.rep w [v] x' f') (hd : ∀ y ∈ f', y ∉ fp) (nf : f'.Nodup) :
    ∃ fp', L.sl (w.setCell ⟨b, off + i, none⟩ v) (some ⟨b, off, none⟩) len cap (xs.set i x') fp' ∧ (∀ y ∈ fp', y ∈ fp ∨ y ∈ f') ∧ fp'.Nodup := by
  obtain ⟨h1, h2, h3, h4, ⟨rfl, rfl⟩ | ⟨b', off', cur, E, fr, fps, ha, hb, hall, rfl⟩⟩ := h
  · simp at h1; omega
  · simp only [Option.some.injEq, Addr.mk.injEq, and_true] at ha
    obtain ⟨rfl, rfl⟩ := ha
    have hbf : b ∉ fps := (List.nodup_cons.1 nd).1
    have hk : ∀ y, y ≠ b → (w.setCell ⟨b, off + i, none⟩ v).heap[y]? = w.heap[y]? := fun y hy => Below.heap_setCell _ _ _ _ hy
    have hbf' : b ∉ f' := fun hb' => hd b hb' (by simp)
    obtain ⟨g, hg, hm, hnd⟩ := L.all_put hn hall (i := i) (by omega) (L.keep hr (fun y hy => hk y (fun e => hbf' (e ▸ hy)))) (fun y hy => hk y (fun e => hbf (e ▸ hy)))
    have hne : b ∉ g := fun hb' => by rcases hm b hb' with h | h; exact hbf h; exact hbf' h
    refine ⟨b :: g, ⟨by simpa using h1, h2, h3, h4, .inr ⟨b, off, _, E, fr, g, rfl, heap_setCell_same hb, ?_, rfl⟩⟩, fun y hy => ?_, List.nodup_cons.2 ⟨hne, hnd (List.nodup_cons.1 nd).2 nf (fun y hy hy' => hd y hy (by simp [hy']))⟩⟩
    · have e : (((cur.setIfInBounds (off + i) v).toList.drop off).take (len * L.n)) = ((cur.toList.drop off).take (len * L.n)).set i v := by
        rw [Array.toList_setIfInBounds, List.drop_set, if_neg (by omega), List.take_set]
        congr 1
        omega
      rw [e]
      exact hg
    · rcases List.mem_cons.1 hy with rfl | hy
      · exact .inl (by simp)
      · rcases hm y hy with h | h
        · exact .inl (by simp [h])
        · exact .inr h

/-- an element of a list of lists -/
theorem slc_at {α : Type} {M : Lay α} {w : World} {a : Option Addr} {len cap : Nat} {xs : List (List α)} {fp : List Nat} (h : M.slice.sl w a len cap xs fp) {i : Nat} (hi : i < len) :
    ∃ x b off A l C f, RowKit.Hid (xs[i]? = some x ∧ b ∈ fp ∧ (∀ y ∈ f, y ∈ fp)) ∧ a = some ⟨b, off, none⟩ ∧ w.cell? ⟨b, off + i, none⟩ = some (.slice A l C) ∧ RowKit.Hid (M.sl w A l C x f) := by
  obtain ⟨x, b, off, c, f, hx, ha, hb, hc, ⟨A, l, C, rfl, hs⟩, hf⟩ := M.slice.sl_at h hi
  have := hc 0 M.slice.pos
  rw [show off + i * M.slice.n + 0 = off + i by simp [Lay.slice]] at this
  exact ⟨x, b, off, A, l, C, f, ⟨hx, hb, hf⟩, ha, this, hs⟩
theorem copyL_next {α : Type} {xs : List (List α)} {k n : Nat} {x : List α} (hx : xs[k]? = some x) (hn : n = xs.length) : (xs.take k ++ List.replicate (n - k) []).set k x = xs.take (k + 1) ++ List.replicate (n - (k + 1)) [] := by
  have hk := (List.getElem?_eq_some_iff.1 hx).1
  have hl : (xs.take k).length = k := by rw [List.length_take]; omega
  rw [List.set_append_right _ _ (by omega), hl, Nat.sub_self, take_next hx, show n - k = (n - (k + 1)) + 1 by omega, List.replicate_succ, List.set_cons_zero]
  simp
theorem slc_zrow {α : Type} (M : Lay α) (w : World) (E : TypeId) (len : Nat) (h63 : len ≤ 9223372036854775807) :
    M.slice.sl (w.alloc (.cells (zrow (.slice none 0 0) len) E)) (some ⟨w.heap.size, 0, none⟩) len len (List.replicate len []) [w.heap.size] := by
  have := M.slice.sl_zrow (z := .slice none 0 0) (x0 := []) w E len h63 ⟨none, 0, 0, rfl, rfl, Nat.le_refl _, by simp [maxLen], fun _ => rfl, .inl ⟨rfl, rfl⟩⟩
  simpa [Lay.slice] using this

/-! ### how much is in them -/
def szGo : List (List UInt8) → Int → Int
  | [], l => l
  | x :: xs, l => if l - x.length < 0 then -1 else szGo xs (l - x.length)
def szBB (xs : List (List UInt8)) (l : Int) : Int := if l - xs.length < 0 then -1 else szGo xs (l - xs.length)
theorem szGo_cons {x : List UInt8} {xs : List (List UInt8)} {l : Int} : szGo (x :: xs) l = if l - x.length < 0 then -1 else szGo xs (l - x.length) := rfl
theorem szGo_le : ∀ {xs : List (List UInt8)} {l : Int}, 0 ≤ l → 0 ≤ szGo xs l → szGo xs l ≤ l ∧ ∀ x ∈ xs, (x.length : Int) ≤ l
  | [], l, _, _ => ⟨Int.le_refl _, by simp⟩
  | x :: xs, l, h0, h => by
    rw [szGo_cons] at h ⊢
    split at h
    · omega
    · rename_i h1
      rw [if_neg h1]
      obtain ⟨h2, h3⟩ := szGo_le (by omega) h
      refine ⟨by omega, fun y hy => ?_⟩
      rcases List.mem_cons.1 hy with rfl | hy
      · omega
      · have := h3 y hy; omega
theorem szBB_le {xs : List (List UInt8)} {l : Int} (h : 0 ≤ szBB xs l) : szBB xs l ≤ l ∧ (xs.length : Int) ≤ l ∧ ∀ x ∈ xs, (x.length : Int) ≤ l := by
  unfold szBB at h ⊢
  split at h
  · omega
  · rename_i h1
    rw [if_neg h1]
    obtain ⟨h2, h3⟩ := szGo_le (by omega) h
    exact ⟨by omega, by omega, fun x hx => by have := h3 x hx; omega⟩
theorem szGo_or (xs : List (List UInt8)) : ∀ l : Int, 0 ≤ l → -1 ≤ szGo xs l ∧ szGo xs l ≤ l := by
  induction xs with
  | nil => intro l h; exact ⟨by show -1 ≤ l; omega, Int.le_refl _⟩
  | cons x xs ih =>
    intro l h
    rw [szGo_cons]
    split
    · omega
    · have := ih (l - x.length) (by omega); omega






/-! ### a list of lists made anew, compared, marked -/

theorem infoLL : (Try.prog.info? 24).map (fun i => (i.zero, i.size, i.bytes)) = some (some (.slice none 0 0), 1, 24) := by kernel_rfl
theorem kindLL : ∃ K : Kind Try.prog 24 byteL.slice.n 24, K.z = .slice none 0 0 := by
  obtain ⟨i0, hi, hz0, hz1, hz2⟩ := info_parts infoLL
  exact ⟨⟨i0, .slice none 0 0, hi, hz0, hz1, hz2, rfl⟩, rfl⟩
theorem make_lists (n : Nat) (hn : n ≤ 5864062014805) (w : World) :
    (Instr.makeSlice 25 (.int .i64 (n : Int)) (.int .i64 (n : Int))).run Try.prog w = .ok (.slice (some ⟨w.heap.size, 0, none⟩) n n) (w.alloc (.cells (zrow (.slice none 0 0) n) 24)) := by
  obtain ⟨K, hK⟩ := kindLL
  rw [← hK]
  have := make_row Try.underlying25 K n (by omega) (by omega) w
  rw [show n * byteL.slice.n = n from Nat.mul_one n] at this
  exact this



set_option maxRecDepth 100000 in
set_option maxHeartbeats 1000000 in
theorem eqBB_any (a b : Option Addr) (la ca cb : Nat) (xs : List (List UInt8)) (f g : List Nat) (w : World) (ha : byteL.slice.sl w a la ca xs f) (hb : byteL.slice.sl w b la cb xs g) :
    Calls Try.prog 23 #[.slice a la ca, .slice b la cb] w fun e w' => e = .returned (.bool true) ∧ Chg [] w w' := by
  have hm := byteL.slice.sl_max ha
  have hne : ((la : Int) != (la : Int)) = false := by simp
  have HA := Lib.hid ha
  have HB := Lib.hid hb
  clear ha hb
  go_enter Try.func23, Try.ntmps23
  go_wp2
  go_loopw [5] (fun i wr => ∃ k : Nat, k ≤ la ∧ i = .int .i64 k ∧ Chg [] w wr) (fun i _ => la - (intOf i).toNat)
  case atStart => exact ⟨0, by omega, rfl, Chg.refl _ _⟩
  case round =>
    obtain ⟨k, hk, rfl, hc⟩ := hrel
    by_cases hlt : k < la
    · obtain ⟨x, b1, o1, A, lx, C, fx, HX, rfl, hcx, HXS⟩ := slc_at (byteL.slice.sl_ext HA.out hc) hlt
      obtain ⟨y, b2, o2, B, ly, D, fy, HY, rfl, hcy, HYS⟩ := slc_at (byteL.slice.sl_ext HB.out hc) hlt
      have hxy : x = y := by have := HX.out.1.symm.trans HY.out.1; exact Option.some.inj this
      subst hxy
      obtain rfl : lx = ly := HXS.out.1.trans HYS.out.1.symm
      have HC := Lib.hid hc
      have HE := Lib.hid (eqB_any A B lx C D x fx fy wr.drew (byteL.sl_keep HXS.out (fun _ _ => rfl)) (byteL.sl_keep HYS.out (fun _ _ => rfl)))
      clear hc
      go_wp2_with fail
      go_region_law (go_simp; go_at_call 10; refine HE.out.mono ?_; rintro e w' ⟨rfl, hc⟩)
      all_goals
        have HC2 := Lib.hid (HC.out.drew.trans0 hc)
        clear hc
        go_wp2
        go_roundw
        case rel => exact ⟨k + 1, by omega, by go_num, HC2.out⟩
        case measure => simp [intOf]; omega
    · have HC := Lib.hid hc
      clear hc
      go_wp2
      go_ret
      exact ⟨rfl, HC.out⟩


/-- the marks of a list of lists -/
def markGo : List (List UInt8) → Int → List (List UInt8)
  | [], _ => []
  | x :: xs, k => markBL k x.length :: markGo xs (k + x.length)
def sumLen : List (List UInt8) → Int
  | [] => 0
  | x :: xs => x.length + sumLen xs
theorem sumLen_nonneg : ∀ xs, 0 ≤ sumLen xs
  | [] => Int.le_refl _
  | x :: xs => by have := sumLen_nonneg xs; show 0 ≤ (x.length : Int) + sumLen xs; omega
theorem szGo_sum : ∀ {xs : List (List UInt8)} {l : Int}, 0 ≤ szGo xs l → szGo xs l = l - sumLen xs
  | [], l, _ => by show l = l - 0; omega
  | x :: xs, l, h => by
    rw [szGo_cons] at h ⊢
    split at h
    · omega
    · rename_i h1
      rw [if_neg h1, szGo_sum h]
      show l - (x.length : Int) - sumLen xs = l - ((x.length : Int) + sumLen xs)
      omega
theorem szBB_sum {xs : List (List UInt8)} {l : Int} (h : 0 ≤ szBB xs l) : sumLen xs ≤ l := by
  unfold szBB at h
  split at h
  · omega
  · have := szGo_sum h; omega
theorem sumLen_append (xs ys : List (List UInt8)) : sumLen (xs ++ ys) = sumLen xs + sumLen ys := by
  induction xs with
  | nil => simp [sumLen]
  | cons x xs ih => simp [sumLen, ih]; omega
theorem sumLen_take {xs : List (List UInt8)} {i : Nat} {x : List UInt8} (h : xs[i]? = some x) : sumLen (xs.take (i + 1)) = sumLen (xs.take i) + x.length := by
  rw [take_next h, sumLen_append]; simp [sumLen]
theorem sumLen_take_le (xs : List (List UInt8)) (i : Nat) : sumLen (xs.take i) ≤ sumLen xs := by
  have := sumLen_append (xs.take i) (xs.drop i)
  rw [List.take_append_drop] at this
  have := sumLen_nonneg (xs.drop i)
  omega
theorem markGo_append (xs ys : List (List UInt8)) : ∀ k, markGo (xs ++ ys) k = markGo xs k ++ markGo ys (k + sumLen xs) := by
  induction xs with
  | nil => intro k; simp [markGo, sumLen]
  | cons x xs ih => intro k; simp [markGo, sumLen, ih, Int.add_assoc]
theorem markGo_length (xs : List (List UInt8)) : ∀ k, (markGo xs k).length = xs.length := by
  induction xs with
  | nil => intro k; rfl
  | cons x xs ih => intro k; simp [markGo, ih]
theorem markGo_next {xs : List (List UInt8)} {i : Nat} {x : List UInt8} (k : Int) (h : xs[i]? = some x) :
    (markGo (xs.take i) k ++ xs.drop i).set i (markBL (k + sumLen (xs.take i)) x.length) = markGo (xs.take (i + 1)) k ++ xs.drop (i + 1) := by
  have hi := (List.getElem?_eq_some_iff.1 h).1
  have hl : (markGo (xs.take i) k).length = i := by rw [markGo_length, List.length_take]; omega
  rw [List.set_append_right _ _ (by omega), hl, Nat.sub_self, List.drop_eq_getElem_cons hi, List.set_cons_zero, take_next h, markGo_append]
  simp [markGo]


set_option maxRecDepth 100000 in
set_option maxHeartbeats 1000000 in
theorem markBB_any (a : Option Addr) (la ca : Nat) (xs : List (List UInt8)) (f : List Nat) (k : Int) (w : World) (ha : byteL.slice.sl w a la ca xs f) (hf : Fresh 0 w f) (hk : 0 ≤ k) (hk2 : k + sumLen xs ≤ 4611686018427387904) :
    Calls Try.prog 24 #[.slice a la ca, .int .i64 k] w fun e w' => e = .returned (.int .i64 (k + sumLen xs)) ∧ byteL.slice.sl w' a la ca (markGo xs k) f ∧ Chg f w w' := by
  have hm := byteL.slice.sl_max ha
  have hl := Lib.hid ha.1
  have HF := Lib.hid hf
  have HK := Lib.hid hk2
  go_enter Try.func24, Try.ntmps24
  go_wp2
  go_loopw [1, 5] (fun u v wr => ∃ (i : Nat) (z : Int), i ≤ la ∧ u = .int .i64 z ∧ RowKit.Hid (z = k + sumLen (xs.take i)) ∧ v = .int .i64 i ∧ byteL.slice.sl wr a la ca (markGo (xs.take i) k ++ xs.drop i) f ∧ Chg f w wr) (fun _ v _ => la - (intOf v).toNat)
  case atStart => exact ⟨0, k, by omega, rfl, by show k = k + 0; omega, rfl, by simpa [markGo] using ha, Chg.refl _ _⟩
  case round =>
    clear ha hf hk2
    obtain ⟨i, z, hi, rfl, HZ, rfl, hs, hc⟩ := hrel
    by_cases hlt : i < la
    · obtain ⟨x, b, o, cs, fx, hx, rfl, hb, hcx, ⟨A, lx, C, rfl, hxs⟩, hfx, hndx, hmod⟩ := byteL.slice.sl_mod hs HF.out.1 hlt
      have hcx' := hcx 0 byteL.slice.pos
      rw [show o + i * byteL.slice.n + 0 = o + i by simp [Lay.slice]] at hcx'
      have hxi : xs[i]? = some x := by
        have hli : (markGo (xs.take i) k).length = i := by rw [markGo_length, List.length_take]; have := hl.out; omega
        rw [List.getElem?_append_right (by omega), hli, List.getElem?_drop] at hx
        simpa using hx
      have HX := Lib.hid hxi
      have HLX := Lib.hid hxs.1
      have hz0 : 0 ≤ z := by rw [HZ.out]; have := sumLen_nonneg (xs.take i); omega
      have hz1 : z + lx ≤ 4611686018427387904 := by
        have h1 := sumLen_take_le xs (i + 1)
        rw [sumLen_take hxi] at h1
        rw [HZ.out, HLX.out]
        have := HK.out
        omega
      have HM := Lib.hid (fun w' (h : byteL.sl w' A lx C (markBL z lx) fx) (hk : ∀ y ∈ f, y ∉ fx → w'.heap[y]? = wr.heap[y]?) => hmod w' (markBL z lx) ⟨A, lx, C, rfl, h⟩ hk)
      have HXS := Lib.hid (markB_any A lx C x fx z wr hxs ⟨hndx, fun y hy => ⟨Nat.zero_le _, hc.loose y (HF.out.2 y (hfx y hy)).2⟩⟩ hz0 hz1)
      have HSub := Lib.hid hfx
      have HC := Lib.hid hc
      have HLT := Lib.hid (byteL.slice.sl_lt hs)
      clear hcx hxs hmod hfx hndx hs hx hxi hc
      go_wp2_with fail
      refine HXS.out.mono ?_
      rintro e w1 ⟨rfl, hs1, hc1⟩
      have hs2 := HM.out w1 hs1 (fun y hy hny => hc1.block y (HLT.out y hy) hny)
      have HZ2 := Lib.hid (show z + (lx : Int) = k + sumLen (xs.take (i + 1)) by rw [sumLen_take HX.out, HZ.out, HLX.out]; omega)
      rw [HZ.out, HLX.out, markGo_next k HX.out] at hs2
      have HN := Lib.hid (And.intro hs2 (HC.out.trans hc1 (fun y hy => .inl (HSub.out y hy))))
      clear hs1 hs2 hc1
      go_wp2_with fail
      go_roundw
      case rel => exact ⟨i + 1, z + lx, by omega, rfl, HZ2, by go_num, HN.out.1, HN.out.2⟩
      case measure => simp [intOf]; omega
    · have hil : i = la := by omega
      subst hil
      rw [List.take_of_length_le (by have := hl.out; omega), List.drop_of_length_le (by have := hl.out; omega), List.append_nil] at hs
      rw [List.take_of_length_le (by have := hl.out; omega)] at HZ
      have HN := Lib.hid (And.intro hs hc)
      clear hs hc
      go_wp2
      go_ret
      exact ⟨ret_int HZ.out, HN.out⟩


end Go.Proofs.Ytcejdmggacjnoaa
