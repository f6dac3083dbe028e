/- Several texts in one. -/
import Derived.Test.YtnnhopcjlnnchaaGreatMb
import Derived.Test.YtnnhopcjlnnchaaGreatWra
import Derived.Test.YtnnhopcjlnnchaaGreatPut
import Derived.Test.YtnnhopcjlnnchaaGreatMc
/- An element of a slice that changes, also with other memory than before; footprints exchanged. No function of the program in sight. -/
namespace Go.Proofs.YtnnhopcjlnnchaaGreat
open Go.RowKit

theorem Lay.all_modN {α : Type} (L : Lay α) {w : World} {x : α} : ∀ {xs : List α} {i : Nat} {cs : List Value} {fps : List Nat}, L.all w cs xs fps → xs[i]? = some x →
    ∃ c f f1 f2, fps = f1 ++ f ++ f2 ∧ (∀ j, j < L.n → cs[i * L.n + j]? = c[j]?) ∧ L.rep w c x f ∧
      ∀ w' x' f', L.rep w' c x' f' → (∀ y, (y ∈ f1 ∨ y ∈ f2) → w'.heap[y]? = w.heap[y]?) → L.all w' cs (xs.set i x') (f1 ++ f' ++ f2) := by
  intro xs
  induction xs with
  | nil => intro i cs fps _ hx; simp at hx
  | cons y ys ih =>
    intro i cs fps h hx
    obtain ⟨c1, c2, f1, f2, rfl, rfl, h1, h2⟩ := h
    have hl := L.len h1
    cases i with
    | zero =>
      simp at hx
      subst hx
      refine ⟨c1, f1, [], f2, by simp, fun j hj => by rw [Nat.zero_mul, Nat.zero_add, List.getElem?_append_left (by omega)], h1, fun w' x' f' hr hk => ⟨c1, c2, f', f2, rfl, by simp, hr, L.all_keep h2 (fun y hy => hk y (.inr hy))⟩⟩
    | succ i =>
      obtain ⟨c, f, g1, g2, rfl, hc, hr, hm⟩ := ih h2 (by simpa using hx)
      refine ⟨c, f, f1 ++ g1, g2, by simp, fun j hj => ?_, hr, fun w' x' f' hr' hk => ⟨c1, c2, f1, _, rfl, by simp, L.keep h1 (fun y hy => hk y (.inl (by simp [hy]))), hm w' x' f' hr' (fun y hy => hk y (by rcases hy with hy | hy; exact .inl (by simp [hy]); exact .inr hy))⟩⟩
      have e : (i + 1) * L.n + j = c1.length + (i * L.n + j) := by rw [Nat.add_mul, Nat.one_mul, hl]; omega
      rw [e, List.getElem?_append_right (by omega), Nat.add_sub_cancel_left, hc j hj]
/-- an element of a slice may change in its own blocks and may get others -/
theorem Lay.sl_modN {α : Type} (L : Lay α) {w : World} {b off len cap : Nat} {xs : List α} {fp : List Nat} (h : L.sl w (some ⟨b, off, none⟩) len cap xs fp) (nd : fp.Nodup) {i : Nat} (hi : i < len) :
    ∃ x c f, xs[i]? = some x ∧ b ∈ fp ∧ (∀ j, j < L.n → w.cell? ⟨b, off + i * L.n + j, none⟩ = c[j]?) ∧ L.rep w c x f ∧ (∀ y ∈ f, y ∈ fp) ∧ f.Nodup ∧ b ∉ f ∧
      ∀ w' x' f', L.rep w' c x' f' → f'.Nodup → (∀ y ∈ f', y ∈ f ∨ y ∉ fp) → (∀ y ∈ fp, y ∉ f → w'.heap[y]? = w.heap[y]?) →
        ∃ fp', L.sl w' (some ⟨b, off, none⟩) len cap (xs.set i x') fp' ∧ fp'.Nodup ∧ ∀ y ∈ fp', (y ∈ fp ∧ y ∉ f) ∨ y ∈ f' := by
  obtain ⟨h1, h2, h3, h4, ⟨rfl, rfl⟩ | ⟨b', off', cur, E, fr, fps, ha, hb, hall, rfl⟩⟩ := h
  · simp at h1; omega
  · simp only [Option.some.injEq, Addr.mk.injEq, and_true] at ha
    obtain ⟨rfl, rfl⟩ := ha
    have hx : xs[i]? = some (xs[i]'(by omega)) := List.getElem?_eq_getElem _
    obtain ⟨c, f, f1, f2, rfl, hc, hr, hm⟩ := L.all_modN hall hx
    have nd1 := List.nodup_cons.1 nd
    have nd2 := List.nodup_append.1 nd1.2
    have nd3 := List.nodup_append.1 nd2.1
    have hf1 : ∀ y ∈ f1, y ∉ f := fun y hy hyf => nd3.2.2 y hy y hyf rfl
    have hf2 : ∀ y ∈ f2, y ∉ f := fun y hy hyf => nd2.2.2 y (by simp [hyf]) y hy rfl
    have hbf : b ∉ f := fun hbf => nd1.1 (by simp [hbf])
    refine ⟨_, c, f, hx, by simp, fun j hj => ?_, hr, fun y hy => by simp [hy], nd3.2.1, hbf, fun w' x' f' hr' ndf hd hk => ⟨b :: (f1 ++ f' ++ f2), ⟨by simpa using h1, h2, h3, h4, .inr ⟨b, off, cur, E, fr, _, rfl, ?_, hm w' x' f' hr' ?_, rfl⟩⟩, ?_, ?_⟩⟩
    · rw [cell_of_row w b _ cur E fr hb, ← hc j hj, List.getElem?_take_of_lt, List.getElem?_drop]
      · simp [Nat.add_assoc]
      · calc i * L.n + j < i * L.n + L.n := by omega
          _ = (i + 1) * L.n := by rw [Nat.add_mul, Nat.one_mul]
          _ ≤ len * L.n := Nat.mul_le_mul_right _ (by omega)
    · rw [hk b (by simp) hbf]; exact hb
    · intro y hy
      refine hk y (by rcases hy with hy | hy <;> simp [hy]) (fun hyf => ?_)
      rcases hy with hy | hy
      · exact hf1 y hy hyf
      · exact hf2 y hy hyf
    · have d1 : ∀ y ∈ f', y ∉ f1 := fun y hy h1 => by
        rcases hd y hy with h | h
        · exact hf1 y h1 h
        · exact h (by simp [h1])
      have d2 : ∀ y ∈ f', y ∉ f2 := fun y hy h1 => by
        rcases hd y hy with h | h
        · exact hf2 y h1 h
        · exact h (by simp [h1])
      have db : b ∉ f' := fun hy => by
        rcases hd b hy with h | h
        · exact hbf h
        · exact h (by simp)
      refine List.nodup_cons.2 ⟨fun hm => ?_, List.nodup_append.2 ⟨List.nodup_append.2 ⟨nd3.1, ndf, fun y hy z hz e => d1 z hz (e ▸ hy)⟩, nd2.2.1, fun y hy z hz e => ?_⟩⟩
      · rw [List.mem_append, List.mem_append] at hm
        rcases hm with (hm | hm) | hm
        · exact nd1.1 (by simp [hm])
        · exact db hm
        · exact nd1.1 (by simp [hm])
      · subst e
        rcases List.mem_append.1 hy with hy | hy
        · exact nd2.2.2 y (by simp [hy]) y hz rfl
        · exact d2 y hy hz
    · intro y hy
      simp only [List.mem_cons, List.mem_append] at hy
      rcases hy with rfl | (hy | hy) | hy
      · exact .inl ⟨by simp, hbf⟩
      · exact .inl ⟨by simp [hy], hf1 y hy⟩
      · exact .inr hy
      · exact .inl ⟨by simp [hy], hf2 y hy⟩
theorem Fresh.swap3 {B : Nat} {w : World} {a b c c' : List Nat} (h : Fresh B w (a ++ (b ++ (c ++ [])))) (nd : c'.Nodup) (hc : ∀ y ∈ c', y ∈ c ∨ (y ∉ a ++ (b ++ (c ++ [])) ∧ B ≤ y ∧ Loose w y)) : Fresh B w (a ++ (b ++ (c' ++ []))) := by
  obtain ⟨h1, h2⟩ := h
  rw [List.append_nil] at h1 h2 hc ⊢
  obtain ⟨na, nbc, dabc⟩ := List.nodup_append.1 h1
  obtain ⟨nb, nc, dbc⟩ := List.nodup_append.1 nbc
  refine ⟨List.nodup_append.2 ⟨na, List.nodup_append.2 ⟨nb, nd, fun y hy z hz e => ?_⟩, fun y hy z hz e => ?_⟩, fun y hy => ?_⟩
  · subst e
    rcases hc y hz with h | ⟨h, -⟩
    · exact dbc y hy y h rfl
    · exact h (by simp [hy])
  · subst e
    rcases List.mem_append.1 hz with hz | hz
    · exact dabc y hy y (by simp [hz]) rfl
    · rcases hc y hz with h | ⟨h, -⟩
      · exact dabc y hy y (by simp [h]) rfl
      · exact h (by simp [hy])
  · rcases List.mem_append.1 hy with hy | hy
    · exact h2 y (by simp [hy])
    · rcases List.mem_append.1 hy with hy | hy
      · exact h2 y (by simp [hy])
      · rcases hc y hy with h | ⟨_, h, h'⟩
        · exact h2 y (by simp [h])
        · exact ⟨h, h'⟩
theorem Fresh.swap1 {B : Nat} {w : World} {a a' r : List Nat} (h : Fresh B w (a ++ r)) (nd : a'.Nodup) (hc : ∀ y ∈ a', y ∈ a ∨ (y ∉ a ++ r ∧ B ≤ y ∧ Loose w y)) : Fresh B w (a' ++ r) := by
  obtain ⟨h1, h2⟩ := h
  obtain ⟨na, nr, dar⟩ := List.nodup_append.1 h1
  refine ⟨List.nodup_append.2 ⟨nd, nr, fun y hy z hz e => ?_⟩, fun y hy => ?_⟩
  · subst e
    rcases hc y hy with h | ⟨h, -⟩
    · exact dar y h y hz rfl
    · exact h (by simp [hz])
  · rcases List.mem_append.1 hy with hy | hy
    · rcases hc y hy with h | ⟨_, h, h'⟩
      · exact h2 y (by simp [h])
      · exact ⟨h, h'⟩
    · exact h2 y (by simp [hy])
end Go.Proofs.YtnnhopcjlnnchaaGreat

/- A group is appended to what is on. No function of the program in sight. -/
namespace Go.Proofs.YtnnhopcjlnnchaaGreat
open Go.RowKit

theorem Fresh.perm {B : Nat} {w : World} {f g : List Nat} (h : Fresh B w f) (p : f.Perm g) : Fresh B w g := ⟨p.nodup_iff.1 h.1, fun y hy => h.2 y (p.mem_iff.2 hy)⟩
theorem Fresh.swap2 {B : Nat} {w : World} {a b b' c : List Nat} (h : Fresh B w (a ++ (b ++ c))) (nd : b'.Nodup) (hc : ∀ y ∈ b', y ∈ b ∨ (y ∉ a ++ (b ++ c) ∧ B ≤ y ∧ Loose w y)) : Fresh B w (a ++ (b' ++ c)) := by
  have p : ∀ q : List Nat, (a ++ (q ++ c)).Perm (q ++ (a ++ c)) := fun q => by
    rw [← List.append_assoc, ← List.append_assoc]
    exact List.perm_append_comm.append_right c
  refine Fresh.perm (Fresh.swap1 (h.perm (p b)) nd (fun y hy => ?_)) (p b').symm
  rcases hc y hy with h1 | ⟨h1, h2⟩
  · exact .inl h1
  · exact .inr ⟨fun h3 => h1 ((p b).mem_iff.2 h3), h2⟩
/-- the copy of a world, in a box m, whose list of what is on has been appended to -/
theorem on_grown (x : Wld) (g : Int) {B m : Nat} {wk wq w' : World} {v' : Value} {h h' : Option Nat} {p10 p11 p12 : Option Addr} {m10 d10 m11 d11 m12 d12 : Nat} {g10 g11 g12 : List Nat}
    (ho : i64ok x.shape.groups ∧ i64ok x.shape.column ∧ i64ok x.shape.data ∧ i64ok x.shape.spare ∧ i64ok x.shape.rows ∧ i64ok x.shape.cap ∧ i64ok x.shape.batch ∧ i64ok x.shape.queue ∧ i64ok x.shape.stage ∧ i64ok x.writes ∧ i64ok x.stop) (h10 : drvL.slice.sl wk p10 m10 d10 x.groups g10) (h12 : tapL.sl wk p12 m12 d12 x.tapes g12)
    (hf : Fresh B wk (g10 ++ (g11 ++ (g12 ++ [])))) (hB : B ≤ wk.heap.size) (hh : ∀ k, h = some k → k ∈ g11) (hlt : ∀ y ∈ g10 ++ (g11 ++ (g12 ++ [])), y < m) (hm : wk.heap[m]? = some (.cells #[.int .i64 x.shape.groups, .int .i64 x.shape.column, .int .i64 x.shape.data, .int .i64 x.shape.spare, .int .i64 x.shape.rows, .int .i64 x.shape.cap, .int .i64 x.shape.batch, .int .i64 x.shape.queue, .int .i64 x.shape.stage, .slice p10 m10 d10, .slice p11 m11 d11, .slice p12 m12 d12, .int .i64 x.writes, .int .i64 x.stop, .bool x.down] 40 (0, 0)))
    (hq : Chg [] wk wq) (hw : Chg h.toList wq w') (hos : intL.os 2 w' v' (x.on ++ [g]) h' []) (hn : h' = h ∨ h' = some wq.heap.size) :
    ∃ a l c f, v' = .slice a l c ∧ wldL.rep (w'.setCell ⟨m, 10, none⟩ v') [.int .i64 x.shape.groups, .int .i64 x.shape.column, .int .i64 x.shape.data, .int .i64 x.shape.spare, .int .i64 x.shape.rows, .int .i64 x.shape.cap, .int .i64 x.shape.batch, .int .i64 x.shape.queue, .int .i64 x.shape.stage, .slice p10 m10 d10, .slice a l c, .slice p12 m12 d12, .int .i64 x.writes, .int .i64 x.stop, .bool x.down] { x with on := x.on ++ [g] } f ∧ Fresh B (w'.setCell ⟨m, 10, none⟩ v') f ∧ Chg (m :: h.toList) wk (w'.setCell ⟨m, 10, none⟩ v') ∧
      (w'.setCell ⟨m, 10, none⟩ v').heap[m]? = some (.cells #[.int .i64 x.shape.groups, .int .i64 x.shape.column, .int .i64 x.shape.data, .int .i64 x.shape.spare, .int .i64 x.shape.rows, .int .i64 x.shape.cap, .int .i64 x.shape.batch, .int .i64 x.shape.queue, .int .i64 x.shape.stage, .slice p10 m10 d10, .slice a l c, .slice p12 m12 d12, .int .i64 x.writes, .int .i64 x.stop, .bool x.down] 40 (0, 0)) ∧ (∀ y ∈ f, y < m ∨ wk.heap.size ≤ y) ∧ (∀ k, h = some k → k < m ∧ B ≤ k) := by
  obtain ⟨a, c, rfl, hsl⟩ := intL.os_sl hos
  obtain ⟨o1, o2, o3, o4, o5, o6, o7, o8, o9, o13, o14⟩ := ho
  have nm := ltOf hm
  have hhm : ∀ k ∈ h.toList, k ∈ g11 := fun k hk => hh k (by simpa using hk)
  have nd := List.nodup_append.1 hf.1; have nd2 := List.nodup_append.1 nd.2.1
  have hmh : m ∉ h.toList := fun hk => by have := hlt m (by simp [hhm m hk]); omega
  have hnew : ∀ y ∈ h'.toList, y ∈ g11 ∨ wk.heap.size ≤ y := fun y hy => by
    rcases hn with rfl | rfl
    · exact .inl (hhm y hy)
    · simp only [Option.toList_some, List.mem_singleton] at hy; have := hq.size; exact .inr (by omega)
  have hmh' : m ∉ h'.toList := fun hk => by
    rcases hnew m hk with h1 | h1
    · have := hlt m (by simp [h1]); omega
    · omega
  have hcW : Chg (m :: h.toList) wk (w'.setCell ⟨m, 10, none⟩ (.slice a (x.on ++ [g]).length c)) := ((hq.mono (T := m :: h.toList) (by simp)).trans hw (fun y hy => .inl (by simp at hy ⊢; exact .inr hy))).setCell _ _ (.inl (by simp))
  have hcm : Chg [m] w' (w'.setCell ⟨m, 10, none⟩ (.slice a (x.on ++ [g]).length c)) := (Chg.refl _ _).setCell _ _ (.inl (by simp))
  have k10 := drvL.slice.sl_chg h10 hcW (fun y hy hm' => by
    rcases List.mem_cons.1 hm' with e | e
    · subst e; have := hlt _ (List.mem_append.2 (.inl hy)); omega
    · exact nd.2.2 y hy y (by simp [hhm y e]) rfl)
  have k12 := tapL.sl_chg h12 hcW (fun y hy hm' => by
    rcases List.mem_cons.1 hm' with e | e
    · subst e; have := hlt y (by simp [hy]); omega
    · exact nd2.2.2 y (hhm y e) y (by simp [hy]) rfl)
  have k11 := intL.sl_chg hsl hcm (fun y hy hm' => by rw [List.mem_singleton] at hm'; subst hm'; exact hmh' (by simpa using hy))
  have hrow : w'.heap[m]? = some (.cells #[.int .i64 x.shape.groups, .int .i64 x.shape.column, .int .i64 x.shape.data, .int .i64 x.shape.spare, .int .i64 x.shape.rows, .int .i64 x.shape.cap, .int .i64 x.shape.batch, .int .i64 x.shape.queue, .int .i64 x.shape.stage, .slice p10 m10 d10, .slice p11 m11 d11, .slice p12 m12 d12, .int .i64 x.writes, .int .i64 x.stop, .bool x.down] 40 (0, 0)) := hw.keepb (hq.keep0 hm) hmh
  have hl := intL.os_loose hos
  have fr : Fresh B (w'.setCell ⟨m, 10, none⟩ (.slice a (x.on ++ [g]).length c)) (g10 ++ (h'.toList ++ (g12 ++ []))) := (hf.chg hcW).swap2 (by cases h' <;> simp) (fun y hy => by
    rcases hnew y hy with h1 | h1
    · exact .inl h1
    · exact .inr ⟨fun h2 => by have := hlt y h2; omega, Nat.le_trans hB h1, hcm.loose y (hl y (by simpa using hy))⟩)
  refine ⟨a, _, c, g10 ++ (h'.toList ++ (g12 ++ [])), rfl, wldL_iff.2 ⟨p10, m10, d10, g10, a, _, c, h'.toList, p12, m12, d12, g12, rfl, o1, o2, o3, o4, o5, o6, o7, o8, o9, k10, by simpa using k11, k12, o13, o14, rfl⟩, fr, hcW, heap_set_lit (cur := #[.int .i64 x.shape.groups, .int .i64 x.shape.column, .int .i64 x.shape.data, .int .i64 x.shape.spare, .int .i64 x.shape.rows, .int .i64 x.shape.cap, .int .i64 x.shape.batch, .int .i64 x.shape.queue, .int .i64 x.shape.stage, .slice p10 m10 d10, .slice p11 m11 d11, .slice p12 m12 d12, .int .i64 x.writes, .int .i64 x.stop, .bool x.down]) hrow rfl, fun y hy => ?_, fun k hk => ⟨hlt k (by simp [hh k hk]), (hf.2 k (by simp [hh k hk])).1⟩⟩
  rcases List.mem_append.1 hy with h1 | h1
  · exact .inl (hlt y (by simp [h1]))
  · rcases List.mem_append.1 h1 with h2 | h2
    · rcases hnew y h2 with h3 | h3
      · exact .inl (hlt y (by simp [h3]))
      · exact .inr h3
    · exact .inl (hlt y (List.mem_append.2 (.inr (List.mem_append.2 (.inr h2)))))
theorem up_parts {x : Wld} (h : x.up = 0) : x.fault = 0 ∧ x.down = false ∧ x.built ∧ x.nums ∧ x.shape.ok := by
  have hf : x.fault = 0 := by
    unfold Wld.up at h
    split at h
    · assumption
    · exact h
  have hd : x.down = false := by
    unfold Wld.up at h
    rw [if_pos hf] at h
    cases hd : x.down
    · rfl
    · rw [if_pos hd] at h; omega
  refine ⟨hf, hd, Classical.byContradiction (fun hn => ?_), Classical.byContradiction (fun hn => ?_), rows_ok hf⟩
  · unfold Wld.fault at hf
    rw [pb_false (P := x.built ∧ x.onOk ∧ x.tapes.length = 2) (fun g => hn g.1)] at hf
    split at hf <;> simp at hf
  · unfold Wld.fault at hf
    rw [pb_false (P := x.nums) hn] at hf
    simp only [Bool.false_eq_true, if_false] at hf
    split at hf
    · split at hf
      · split at hf
        · omega
        · contradiction
      · omega
    · omega
theorem up_cap {x : Wld} (h : x.up = 0) : (x.on.length : Int) ≤ x.shape.cap := by
  have hf := (up_parts h).1
  refine Classical.byContradiction (fun hn => ?_)
  unfold Wld.fault at hf
  rw [pb_false (P := x.built ∧ x.onOk ∧ x.tapes.length = 2) (fun g => hn g.2.1.2.1)] at hf
  split at hf <;> simp at hf
theorem onR_bad {x : Wld} {g : Int} (h : ¬ x.up = 0) : onR x g = ⟨x.up, zWld⟩ := if_pos h
theorem onR_out {x : Wld} {g : Int} (h : x.up = 0) (h2 : ¬ (0 ≤ g ∧ g ≤ x.shape.all - 1)) : onR x g = ⟨3, zWld⟩ := by unfold onR; rw [if_neg (fun g => g h), if_pos (pb_false (P := x.isGroup g) h2)]
theorem onR_in {x : Wld} {g : Int} (h : x.up = 0) (h2 : 0 ≤ g ∧ g ≤ x.shape.all - 1) (h3 : g ∈ x.on) : onR x g = ⟨0, x⟩ := by unfold onR; rw [if_neg (fun g => g h), if_neg (by rw [pb_true (P := x.isGroup g) h2]; simp), if_pos (pb_true h3)]
theorem onR_full {x : Wld} {g : Int} (h : x.up = 0) (h2 : 0 ≤ g ∧ g ≤ x.shape.all - 1) (h3 : ¬ g ∈ x.on) (h4 : (x.on.length : Int) = x.shape.cap) : onR x g = ⟨7, zWld⟩ := by unfold onR; rw [if_neg (fun g => g h), if_neg (by rw [pb_true (P := x.isGroup g) h2]; simp), if_neg (by rw [pb_false h3]; simp), if_pos h4]
theorem onR_ok {x : Wld} {g : Int} (h : x.up = 0) (h2 : 0 ≤ g ∧ g ≤ x.shape.all - 1) (h3 : ¬ g ∈ x.on) (h4 : ¬ (x.on.length : Int) = x.shape.cap) : onR x g = ⟨0, { x with on := x.on ++ [g] }⟩ := by unfold onR; rw [if_neg (fun g => g h), if_neg (by rw [pb_true (P := x.isGroup g) h2]; simp), if_neg (by rw [pb_false h3]; simp), if_neg h4]
end Go.Proofs.YtnnhopcjlnnchaaGreat

/- Numbers that are in range, groups that are on: both sides. -/
namespace Go.Proofs.YtnnhopcjlnnchaaGreat
open Go.RowKit

set_option maxHeartbeats 1000000 in
theorem st_isGroup_any (x : Shp) (hs : x.ok) (g : Int) (w : World) :
    Calls Tryz.prog 63 #[.agg #[.int .i64 x.groups, .int .i64 x.column, .int .i64 x.data, .int .i64 x.spare, .int .i64 x.rows, .int .i64 x.cap, .int .i64 x.batch, .int .i64 x.queue, .int .i64 x.stage], .int .i64 g] w fun e w' => e = .returned (.bool (inB g 0 (x.all - 1))) ∧ Chg [] w w' := by
  have h1 := hs.all
  go_enter Tryz.func63, Tryz.ntmps63
  go_wp2_with fail
  refine (all_any x hs _).mono ?_
  rintro e w1 ⟨rfl, hc⟩
  have HC := Lib.hid (((Chg.refl [] w).alloc _).trans0 hc)
  clear hc
  go_wp2_with fail
  refine (inside_any g 0 (x.all - 1) _).mono ?_
  rintro e w' ⟨rfl, rfl⟩
  go_wp2_with fail
  go_ret
  exact ⟨rfl, HC.out⟩
set_option maxHeartbeats 1000000 in
theorem st_isDrive_any (x : Shp) (hs : x.ok) (g : Int) (w : World) :
    Calls Tryz.prog 64 #[.agg #[.int .i64 x.groups, .int .i64 x.column, .int .i64 x.data, .int .i64 x.spare, .int .i64 x.rows, .int .i64 x.cap, .int .i64 x.batch, .int .i64 x.queue, .int .i64 x.stage], .int .i64 g] w fun e w' => e = .returned (.bool (inB g 0 (x.drives - 1))) ∧ Chg [] w w' := by
  have h1 := hs.drives
  go_enter Tryz.func64, Tryz.ntmps64
  go_wp2_with fail
  refine (drives_any x hs _).mono ?_
  rintro e w1 ⟨rfl, hc⟩
  have HC := Lib.hid (((Chg.refl [] w).alloc _).trans0 hc)
  clear hc
  go_wp2_with fail
  refine (inside_any g 0 (x.drives - 1) _).mono ?_
  rintro e w' ⟨rfl, rfl⟩
  go_wp2_with fail
  go_ret
  exact ⟨rfl, HC.out⟩
set_option maxHeartbeats 1000000 in
theorem st_isRow_any (x : Shp) (hs : x.ok) (g : Int) (w : World) :
    Calls Tryz.prog 65 #[.agg #[.int .i64 x.groups, .int .i64 x.column, .int .i64 x.data, .int .i64 x.spare, .int .i64 x.rows, .int .i64 x.cap, .int .i64 x.batch, .int .i64 x.queue, .int .i64 x.stage], .int .i64 g] w fun e w' => e = .returned (.bool (inB g 0 (x.rows - 1))) ∧ Chg [] w w' := by
  have h1 := hs.rows
  go_enter Tryz.func65, Tryz.ntmps65
  go_wp2_with fail
  refine (inside_any g 0 (x.rows - 1) _).mono ?_
  rintro e w' ⟨rfl, rfl⟩
  go_wp2_with fail
  go_ret
  exact ⟨rfl, (Chg.refl [] w).alloc _⟩
set_option maxHeartbeats 2000000 in
theorem l5Place_any (x : Shp) (hs : x.ok) (g d r : Int) (w : World) :
    Calls Tryz.prog 55 #[.agg #[.int .i64 x.groups, .int .i64 x.column, .int .i64 x.data, .int .i64 x.spare, .int .i64 x.rows, .int .i64 x.cap, .int .i64 x.batch, .int .i64 x.queue, .int .i64 x.stage], .int .i64 g, .int .i64 d, .int .i64 r] w fun e w' => e = .returned (.bool (inB g 0 (x.all - 1) && inB d 0 (x.drives - 1) && inB r 0 (x.rows - 1))) ∧ Chg [] w w' := by
  have h1 := hs.all; have h2 := hs.drives; have h3 := hs.rows
  have B0 := Lib.hid (new_alloc w (.cells #[.int .i64 x.groups, .int .i64 x.column, .int .i64 x.data, .int .i64 x.spare, .int .i64 x.rows, .int .i64 x.cap, .int .i64 x.batch, .int .i64 x.queue, .int .i64 x.stage] 36))
  go_enter Tryz.func55, Tryz.ntmps55
  go_wp2_with fail
  refine (l5All_any x hs _).mono ?_
  rintro e w1 ⟨rfl, hc⟩
  obtain ⟨c0, n0, A0⟩ := bk hc B0.out (by simp)
  have HC := Lib.hid (((Chg.refl [] w).alloc _).trans0 hc)
  clear hc
  go_wp2_with fail
  refine (l1In_any g 0 (x.all - 1) _).mono ?_
  rintro e w' ⟨rfl, rfl⟩
  cases hA : inB g 0 (x.all - 1)
  · go_wp2_with fail
    go_ret
    exact ⟨by simp [hA], HC.out⟩
  · go_wp2_with fail
    refine (l5Drives_any x hs _).mono ?_
    rintro e w2 ⟨rfl, hc⟩
    clear c0 n0
    obtain ⟨c0, n0, A1⟩ := bk hc A0.out (by simp)
    have HC2 := Lib.hid (HC.out.trans0 hc)
    clear hc
    go_wp2_with fail
    refine (l1In_any d 0 (x.drives - 1) _).mono ?_
    rintro e w' ⟨rfl, rfl⟩
    cases hB : inB d 0 (x.drives - 1)
    · go_wp2_with fail
      go_ret
      exact ⟨by simp [hA, hB], HC2.out⟩
    · go_wp2_with fail
      refine (l1In_any r 0 (x.rows - 1) _).mono ?_
      rintro e w' ⟨rfl, rfl⟩
      go_wp2_with fail
      go_ret
      exact ⟨by simp [hA, hB], HC2.out⟩
set_option maxHeartbeats 1000000 in
theorem st_isOn_any (b : Nat) {u0 u1 u2 u3 u4 u5 u6 u7 u8 u9 u11 u12 u13 u14 : Value} (a : Option Addr) (la ca : Nat) (xs : List Int) (f : List Nat) (g : Int) (w : World) (h : w.heap[b]? = some (.cells #[u0, u1, u2, u3, u4, u5, u6, u7, u8, u9, .slice a la ca, u11, u12, u13, u14] 40 (0, 0))) (ha : intL.sl w a la ca xs f) :
    Calls Tryz.prog 66 #[.pointer (some ⟨b, 0, none⟩), .int .i64 g] w fun e w' => e = .returned (.bool (pb (g ∈ xs))) ∧ w = w' := by
  have cb := cellsOf h; have nb := ltOf h
  have HA := Lib.hid ha
  clear h ha
  go_enter Tryz.func66, Tryz.ntmps66
  go_wp2_with fail
  refine (containsI_any a la ca xs f g _ HA.out).mono ?_
  rintro e w' ⟨rfl, rfl⟩
  go_wp2_with fail
  go_ret
  exact ⟨rfl, rfl⟩
theorem brs_open {w : World} {cx : Array Value} {x : BRes} {fp : List Nat} (h : brsL.rep w cx.toList x fp) : ∃ (a : Option Addr) (l c : Nat), cx = #[.int .i64 x.code, .int .i64 x.block.stamp, .slice a l c] ∧ i64ok x.code ∧ blkL.rep w [.int .i64 x.block.stamp, .slice a l c] x.block fp := by
  obtain ⟨rest, ex, hcode, hw⟩ := brsL_iff.1 h
  obtain ⟨a, l, c, f, e2, _⟩ := blkL_iff.1 hw
  subst e2
  exact ⟨a, l, c, Array.toList_inj.1 ex, hcode, hw⟩
set_option maxHeartbeats 2000000 in
theorem eqBlockResult_any (x : BRes) (cx cy : Array Value) (fx fy : List Nat) (w : World) (hx : brsL.rep w cx.toList x fx) (hy : brsL.rep w cy.toList x fy) :
    Calls Tryz.prog 17 #[.agg cx, .agg cy] w fun e w' => e = .returned (.bool true) ∧ Chg [] w w' := by
  obtain ⟨a, l, c, rfl, -, h1⟩ := brs_open hx
  obtain ⟨b, m, d, rfl, -, h2⟩ := brs_open hy
  have hcc : ((x.code : Int) != x.code) = false := by simp
  have H1 := Lib.hid h1; have H2 := Lib.hid h2
  clear hx hy h1 h2
  go_enter Tryz.func17, Tryz.ntmps17
  go_wp2_with fail
  refine (eqBlock_any x.block #[.int .i64 x.block.stamp, .slice a l c] #[.int .i64 x.block.stamp, .slice b m d] fx fy _ (blkL.ext H1.out ?_) (blkL.ext H2.out ?_)).mono ?_
  · exact ((Chg.refl [] w).alloc _).alloc _
  · exact ((Chg.refl [] w).alloc _).alloc _
  rintro e w1 ⟨rfl, hc1⟩
  have HC1 := Lib.hid ((((Chg.refl [] w).alloc _).alloc _).trans0 hc1)
  clear hc1
  go_wp2_with fail
  go_ret
  exact ⟨rfl, HC1.out⟩
/-- the marks of a block's own bytes -/
def mvB1 (k : Int) (x : Blk) : Blk := ⟨x.stamp, markBL k x.bytes.length⟩
set_option maxHeartbeats 2000000 in
theorem markBlock_any (x : Blk) (cx : Array Value) (fx : List Nat) (k : Int) (w : World) (hx : blkL.rep w cx.toList x fx) (hf : Fresh 0 w fx) (hk : 0 ≤ k) (hk2 : k + (x.bytes.length : Int) ≤ 4611686018427387904) :
    Calls Tryz.prog 44 #[.agg cx, .int .i64 k] w fun e w' => e = .returned (.int .i64 (k + (x.bytes.length : Int))) ∧ blkL.rep w' cx.toList (mvB1 k x) fx ∧ Chg fx w w' := by
  obtain ⟨a1, l1, c1, f1, ex, o0, h1, hff⟩ := blkL_iff.1 hx
  obtain rfl := Array.toList_inj.1 (ex.trans (List.toList_toArray).symm)
  obtain rfl : fx = f1 := by simpa using hff
  have HL := Lib.hid h1.1
  have H1 := Lib.hid h1; have HF := Lib.hid hf; have HO := Lib.hid o0
  rw [← h1.1] at hk2
  rw [← h1.1]
  clear hx ex h1 hf hff o0
  go_enter Tryz.func44, Tryz.ntmps44
  go_wp2_with fail
  have g0 : Chg [] w (w.alloc (.cells #[.int .i64 x.stamp, .slice a1 l1 c1] 32)) := (Chg.refl [] w).alloc _
  refine (markB_any a1 l1 c1 x.bytes fx k _ (byteL.sl_ext H1.out g0) (HF.out.chg g0) hk hk2).mono ?_
  rintro e w1 ⟨rfl, hs1, hc1⟩
  have HN := Lib.hid (And.intro (blkL_iff.2 ⟨a1, l1, c1, fx, rfl, HO.out, by show byteL.sl w1 a1 l1 c1 (markBL k x.bytes.length) fx; rw [← HL.out]; exact hs1, by simp⟩ : blkL.rep w1 [.int .i64 x.stamp, .slice a1 l1 c1] (mvB1 k x) fx) ((g0.mono (T := fx) (by simp)).trans hc1 (fun x hx => .inl hx)))
  clear hs1 hc1 g0
  go_wp2_with fail
  go_ret
  exact ⟨rfl, HN.out.1, HN.out.2⟩
set_option maxHeartbeats 2000000 in
theorem markBlockResult_any (x : BRes) (cx : Array Value) (fx : List Nat) (k : Int) (w : World) (hx : brsL.rep w cx.toList x fx) (hf : Fresh 0 w fx) (hk : 0 ≤ k) (hk2 : k + (x.block.bytes.length : Int) ≤ 4611686018427387904) :
    Calls Tryz.prog 20 #[.agg cx, .int .i64 k] w fun e w' => e = .returned (.int .i64 (k + (x.block.bytes.length : Int))) ∧ brsL.rep w' cx.toList ⟨x.code, mvB1 k x.block⟩ fx ∧ Chg fx w w' := by
  obtain ⟨a, l, c, rfl, hcode, h1⟩ := brs_open hx
  have H1 := Lib.hid h1; have HF := Lib.hid hf; have HC0 := Lib.hid hcode; have HK := Lib.hid hk2
  clear hx h1 hf hcode hk2
  go_enter Tryz.func20, Tryz.ntmps20
  go_wp2_with fail
  have g0 : Chg [] w (w.alloc (.cells #[.int .i64 x.code, .int .i64 x.block.stamp, .slice a l c] 34)) := (Chg.refl [] w).alloc _
  refine (markBlock_any x.block #[.int .i64 x.block.stamp, .slice a l c] fx k _ (blkL.ext H1.out g0) (HF.out.chg g0) hk HK.out).mono ?_
  rintro e w1 ⟨rfl, hs1, hc1⟩
  have HN := Lib.hid (And.intro (brsL_iff.2 ⟨_, rfl, HC0.out, hs1⟩ : brsL.rep w1 [.int .i64 x.code, .int .i64 x.block.stamp, .slice a l c] ⟨x.code, mvB1 k x.block⟩ fx) ((g0.mono (T := fx) (by simp)).trans hc1 (fun x hx => .inl hx)))
  clear hs1 hc1 g0
  go_wp2_with fail
  go_ret
  exact ⟨rfl, HN.out.1, HN.out.2⟩
set_option maxHeartbeats 2000000 in
theorem heldBlock_any (x : Blk) (cx : Array Value) (fx : List Nat) (k : Int) (w : World) (hx : blkL.rep w cx.toList (mvB1 k x) fx) (hk : 0 ≤ k) (hk2 : k + (x.bytes.length : Int) ≤ 4611686018427387904) :
    Calls Tryz.prog 75 #[.agg cx, .int .i64 k] w fun e w' => e = .returned (.int .i64 (k + (x.bytes.length : Int))) ∧ Chg [] w w' := by
  obtain ⟨a1, l1, c1, f1, ex, o0, h1, -⟩ := blkL_iff.1 hx
  obtain rfl := Array.toList_inj.1 (ex.trans (List.toList_toArray).symm)
  have hl : l1 = x.bytes.length := by rw [h1.1]; show (markBL k x.bytes.length).length = _; rw [markBL_length]
  have h2 : byteL.sl w a1 l1 c1 (markBL k l1) f1 := by rw [hl] at h1 ⊢; exact h1
  rw [← hl] at hk2 ⊢
  have H1 := Lib.hid h2
  have hn : ¬ (k + (l1 : Int) < 0) := by omega
  clear hx ex h1 h2 o0 hl
  go_enter Tryz.func75, Tryz.ntmps75
  go_wp2_with fail
  have g0 : Chg [] w (w.alloc (.cells #[.int .i64 (mvB1 k x).stamp, .slice a1 l1 c1] 32)) := (Chg.refl [] w).alloc _
  refine (heldB_any a1 l1 c1 f1 k _ (byteL.sl_ext H1.out g0) hk hk2).mono ?_
  rintro e w1 ⟨rfl, hc1⟩
  have HC1 := Lib.hid (g0.trans0 hc1)
  clear hc1 g0
  go_wp2_with fail
  go_ret
  exact ⟨rfl, HC1.out⟩
set_option maxHeartbeats 2000000 in
theorem heldBlockResult_any (x : BRes) (cx : Array Value) (fx : List Nat) (k : Int) (w : World) (hx : brsL.rep w cx.toList ⟨x.code, mvB1 k x.block⟩ fx) (hk : 0 ≤ k) (hk2 : k + (x.block.bytes.length : Int) ≤ 4611686018427387904) :
    Calls Tryz.prog 21 #[.agg cx, .int .i64 k] w fun e w' => e = .returned (.int .i64 (k + (x.block.bytes.length : Int))) ∧ Chg [] w w' := by
  obtain ⟨a, l, c, rfl, -, h1⟩ := brs_open hx
  have H1 := Lib.hid h1; have HK := Lib.hid hk2
  have hn : ¬ (k + (x.block.bytes.length : Int) < 0) := by omega
  clear hx h1 hk2
  go_enter Tryz.func21, Tryz.ntmps21
  go_wp2_with fail
  have g0 : Chg [] w (w.alloc (.cells #[.int .i64 x.code, .int .i64 (mvB1 k x.block).stamp, .slice a l c] 34)) := (Chg.refl [] w).alloc _
  refine (heldBlock_any x.block #[.int .i64 (mvB1 k x.block).stamp, .slice a l c] fx k _ (blkL.ext H1.out g0) hk HK.out).mono ?_
  rintro e w1 ⟨rfl, hc1⟩
  have HC1 := Lib.hid (g0.trans0 hc1)
  clear hc1 g0
  go_wp2_with fail
  go_ret
  exact ⟨rfl, HC1.out⟩
end Go.Proofs.YtnnhopcjlnnchaaGreat
