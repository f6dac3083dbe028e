
/- Slices grown while other memory changes. No function of the program in sight. -/
import Derived.Test.YtcejdmggacjnoaaGrw
namespace Go.Proofs.Ytcejdmggacjnoaa
open Go.RowKit

/-- the first n blocks of a world -/
def cutW (w : World) (n : Nat) : World := { w with heap := w.heap.extract 0 n }
theorem cutW_size {w : World} {n : Nat} (h : n ≤ w.heap.size) : (cutW w n).heap.size = n := by simp [cutW]; omega
theorem cutW_at {w : World} {n k : Nat} (h : k < n) : (cutW w n).heap[k]? = w.heap[k]? := by
  unfold cutW
  simp only [Array.getElem?_extract]
  by_cases hk : k < w.heap.size
  · rw [if_pos (by omega)]; simp
  · rw [if_neg (by omega), Array.getElem?_eq_none (by omega)]
theorem cutW_chg {w : World} {n : Nat} (h : n ≤ w.heap.size) : Chg [] (cutW w n) w := by
  refine ⟨rfl, rfl, rfl, by rw [cutW_size h]; exact h, fun k hk _ => ?_, fun k hk => ?_⟩
  · rw [cutW_size h] at hk; exact (cutW_at hk).symm
  · have hlt := hk.lt
    rw [cutW_size h] at hlt
    obtain ⟨cur, E, hb⟩ := hk
    exact ⟨cur, E, by rw [← cutW_at hlt]; exact hb⟩
/-- a slice that is being built out of blocks from n on -/
def GrowC {α : Type} (L : Lay α) (E : TypeId) (n : Nat) (wr : World) (v : Value) (xs : List α) : Prop :=
  n ≤ wr.heap.size ∧ ∃ h fps, L.os E wr v xs h fps ∧ Fresh n wr (h.toList ++ fps)
section
variable {α : Type} {L : Lay α} {E : TypeId} {n : Nat} {w wr w' : World} {v : Value} {xs : List α}
theorem GrowC.to (h : GrowC L E n wr v xs) : Grow L E (cutW wr n) wr v xs := by
  obtain ⟨h0, hd, fps, h1, h2⟩ := h
  exact ⟨hd, fps, h1, by rw [cutW_size h0]; exact h2, cutW_chg h0⟩
theorem GrowC.of (h : Grow L E w wr v xs) : GrowC L E w.heap.size wr v xs := by
  obtain ⟨hd, fps, h1, h2, h3⟩ := h
  exact ⟨h3.size, hd, fps, h1, h2⟩
theorem GrowC.of' (h : Grow L E w wr v xs) (hn : n = w.heap.size) : GrowC L E n wr v xs := by subst hn; exact GrowC.of h
theorem GrowC.chg {S : List Nat} (h : GrowC L E n wr v xs) (hc : Chg S wr w') (hS : ∀ x ∈ S, x < n) : GrowC L E n w' v xs := by
  obtain ⟨h0, hd, fps, h1, h2⟩ := h
  refine ⟨Nat.le_trans h0 hc.size, hd, fps, L.os_chg h1 hc (fun g hg hm => ?_) (fun b hb hm => ?_), h2.chg hc⟩
  · have := (h2.2 g (List.mem_append.2 (.inl (by simp [hg])))).1; have := hS g hm; omega
  · have := (h2.2 b (List.mem_append.2 (.inr hb))).1; have := hS b hm; omega
theorem GrowC.ext (h : GrowC L E n wr v xs) (hc : Chg [] wr w') : GrowC L E n w' v xs := h.chg hc (by simp)
/-- behind an append: what has changed since a world ahead -/
theorem GrowC.next {ys : List α} {v' : Value} {S : List Nat} {w0 : World} (hn : n ≤ wr.heap.size) (h : Grow L E (cutW wr n) w' v' ys) (hc : Chg S w0 wr) (h0 : w0.heap.size ≤ n) : GrowC L E n w' v' ys ∧ Chg S w0 w' := by
  refine ⟨GrowC.of' h (cutW_size hn).symm, ?_⟩
  have h1 := h.chg
  refine ⟨h1.os.trans hc.os, h1.tape.trans hc.tape, h1.output.trans hc.output, ?_, fun k hk hS => ?_, fun k hk => ?_⟩
  · have := h1.size; rw [cutW_size hn] at this; omega
  · rw [h1.block k (by rw [cutW_size hn]; omega) (by simp), cutW_at (by omega), hc.block k hk hS]
  · have hlt := hk.lt
    have h2 := hc.loose k hk
    refine h1.loose k ?_
    obtain ⟨cur, T, hb⟩ := h2
    exact ⟨cur, T, by rw [cutW_at (by omega)]; exact hb⟩
theorem GrowC.low {ys : List α} {v' : Value} (hn : n ≤ wr.heap.size) (h : Grow L E (cutW wr n) w' v' ys) : ∀ k, k < n → w'.heap[k]? = wr.heap[k]? := fun k hk => by
  rw [h.chg.block k (by rw [cutW_size hn]; exact hk) (by simp), cutW_at hk]
theorem GrowC.sl (h : GrowC L E n wr v xs) : ∃ a cap fp, v = .slice a xs.length cap ∧ L.sl wr a xs.length cap xs fp ∧ Fresh n wr fp := by
  obtain ⟨h0, hd, fps, h1, h2⟩ := h
  obtain ⟨a, cap, rfl, hs⟩ := L.os_sl h1
  exact ⟨a, cap, _, rfl, hs, h2⟩
theorem GrowC.made (h : n ≤ wr.heap.size) : GrowC L E n (wr.alloc (.cells #[] E)) (.slice (some ⟨wr.heap.size, 0, none⟩) 0 0) [] :=
  ⟨by simp; omega, some wr.heap.size, [], Lay.os_made _ _ _ _ _ (by simp [maxLen]) (by simp), ⟨by simp, fun b hb => by simp at hb; subst hb; exact ⟨h, _, _, new_alloc wr _⟩⟩⟩
theorem GrowC.nil (h : n ≤ wr.heap.size) : GrowC L E n wr (.slice none 0 0) [] := ⟨h, none, [], Lay.os_nil _ _ _, Fresh.nil _ _⟩
end
/-- what lies below n is as it was -/
structure Up (n : Nat) (w w' : World) : Prop where
  os : w'.os = w.os
  tape : w'.tape = w.tape
  output : w'.output = w.output
  size : w.heap.size ≤ w'.heap.size
  low : ∀ k, k < n → w'.heap[k]? = w.heap[k]?
  loose : ∀ k, Loose w k → Loose w' k
theorem Up.chg {n : Nat} {S : List Nat} {w0 w w' : World} (h : Up n w w') (hc : Chg S w0 w) (h0 : w0.heap.size ≤ n) : Chg S w0 w' :=
  ⟨h.os.trans hc.os, h.tape.trans hc.tape, h.output.trans hc.output, Nat.le_trans hc.size h.size, fun k hk hS => by rw [h.low k (by omega), hc.block k hk hS], fun k hk => h.loose k (hc.loose k hk)⟩
theorem Up.of {n : Nat} {S : List Nat} {w w' : World} (hc : Chg S w w') (hS : ∀ x ∈ S, n ≤ x) (hn : n ≤ w.heap.size) : Up n w w' :=
  ⟨hc.os, hc.tape, hc.output, hc.size, fun k hk => hc.block k (by omega) (fun hm => by have := hS k hm; omega), hc.loose⟩
/-- the same, all its blocks ahead of B -/
def GrowB {α : Type} (L : Lay α) (E : TypeId) (n B : Nat) (wr : World) (v : Value) (xs : List α) : Prop :=
  n ≤ B ∧ B ≤ wr.heap.size ∧ ∃ h fps, L.os E wr v xs h fps ∧ Fresh n wr (h.toList ++ fps) ∧ ∀ b ∈ h.toList ++ fps, b < B
section
variable {α : Type} {L : Lay α} {E : TypeId} {n B : Nat} {w wr w' : World} {v : Value} {xs : List α}
theorem GrowC.b (h : GrowC L E n wr v xs) : GrowB L E n wr.heap.size wr v xs := by
  obtain ⟨h0, hd, fps, h1, h2⟩ := h
  exact ⟨h0, Nat.le_refl _, hd, fps, h1, h2, h2.lts⟩
theorem GrowB.chg {S : List Nat} (h : GrowB L E n B wr v xs) (hc : Chg S wr w') (hS : ∀ x ∈ S, x < n) : GrowB L E n B w' v xs := by
  obtain ⟨h0, h9, hd, fps, h1, h2, h3⟩ := h
  refine ⟨h0, Nat.le_trans h9 hc.size, hd, fps, L.os_chg h1 hc (fun g hg hm => ?_) (fun b hb hm => ?_), h2.chg hc, h3⟩
  · have := (h2.2 g (List.mem_append.2 (.inl (by simp [hg])))).1; have := hS g hm; omega
  · have := (h2.2 b (List.mem_append.2 (.inr hb))).1; have := hS b hm; omega
theorem GrowB.ext (h : GrowB L E n B wr v xs) (hc : Chg [] wr w') : GrowB L E n B w' v xs := h.chg hc (by simp)
theorem GrowB.run {P : Program} {bytes : Nat} {ys : List α} {f : List Nat} (t ty : TypeId) (ht : P.underlying t = some (.slice E)) (K : Kind P E L.n bytes) (hg : GrowB L E n B w v xs)
    (ad : Addr) (c : Nat) (news : List Value) (hnews : ∀ j u, news[j]? = some u → w.cell? (ad.add j) = some u) (hall : L.all w news ys f) (ff : Fresh B w f)
    (h63 : xs.length + ys.length ≤ maxLen) (hbytes : (xs.length + ys.length) * bytes ≤ 140737488355328) :
    ∃ v' w', (Builtin.append_ #[t, t] ty #[v, .slice (some ad) ys.length c]).run P w = .ok v' w' ∧ GrowC L E n w' v' (xs ++ ys) ∧ Up n w w' := by
  obtain ⟨h0, h9, hd, fps, h1, h2, h3⟩ := hg
  have hlt := L.os_lt h1
  obtain ⟨v', w', h', hr, ho', hh', hc', hl⟩ := L.run_append (P := P) t ty ht K h1 ad c news hnews hall (fun g hg hf => by have a1 := h3 g (by simp [hg]); have a2 := (ff.2 g hf).1; omega) h63 hbytes
  have hle : Up n w w' := Up.of hc' (fun x hx => (h2.2 x (List.mem_append.2 (.inl hx))).1) (by omega)
  refine ⟨v', w', hr, ⟨Nat.le_trans (Nat.le_trans h0 h9) hle.size, h', fps ++ f, ho', ?_⟩, hle⟩
  have f2 := h2.chg hc'
  have g2 := ff.chg hc'
  have nd := List.nodup_append.1 h2.1
  have dj : ∀ a ∈ hd.toList ++ fps, ∀ b ∈ f, a ≠ b := fun a ha b hb e => by have a1 := h3 a ha; have a2 := (ff.2 b hb).1; omega
  have hlo := L.os_loose ho'
  rcases hh' with rfl | rfl
  · rw [← List.append_assoc]
    exact ⟨List.nodup_append.2 ⟨h2.1, ff.1, dj⟩, fun b hb => by
      rcases List.mem_append.1 hb with hb | hb
      · exact f2.2 b hb
      · exact ⟨Nat.le_trans h0 (g2.2 b hb).1, (g2.2 b hb).2⟩⟩
  · refine ⟨?_, fun b hb => ?_⟩
    · rw [Option.toList_some, List.singleton_append, List.nodup_cons]
      refine ⟨fun hb => ?_, List.nodup_append.2 ⟨nd.2.1, ff.1, fun a ha b hb => dj a (List.mem_append.2 (.inr ha)) b hb⟩⟩
      rcases List.mem_append.1 hb with hb | hb
      · have := h3 _ (List.mem_append.2 (.inr hb)); omega
      · have := ff.lts _ hb; omega
    · rw [Option.toList_some, List.singleton_append, List.mem_cons] at hb
      rcases hb with rfl | hb
      · exact ⟨by omega, hlo _ rfl⟩
      · rcases List.mem_append.1 hb with hb | hb
        · exact f2.2 b (List.mem_append.2 (.inr hb))
        · exact ⟨Nat.le_trans h0 (g2.2 b hb).1, (g2.2 b hb).2⟩
theorem GrowB.wp {P : Program} {bytes : Nat} {ys : List α} {f : List Nat} {o : Oper} {a : Act} {Kc : Act → World → Prop} {Q : Exit → Act → World → Prop} (s x : Operand) (t : TypeId)
    (hop : o.op = .call { callee := .builtin .append, args := #[s, x], argTypes := #[t, t] }) (ht : P.underlying t = some (.slice E)) (K : Kind P E L.n bytes)
    (hs : a.eval s = v) (hg : GrowB L E n B w v xs)
    (ad : Addr) (m c : Nat) (news : List Value) (hx : a.eval x = .slice (some ad) m c) (hm : m = ys.length) (hnews : ∀ j u, news[j]? = some u → w.cell? (ad.add j) = some u) (hall : L.all w news ys f) (ff : Fresh B w f)
    (h63 : xs.length + ys.length ≤ maxLen) (hbytes : (xs.length + ys.length) * bytes ≤ 140737488355328)
    (hk : ∀ v' w', GrowC L E n w' v' (xs ++ ys) → Up n w w' → Kc (a.put o.dst v') w') : o.wp P a w Kc Q := by
  subst hm
  obtain ⟨v', w', hr, h2, h3⟩ := hg.run (P := P) t o.type ht K ad c news hnews hall ff h63 hbytes
  unfold Oper.wp execOp
  simp only [hop, resolve, invoke, builtin, Sem.run_bind, Sem.run_pure, Result.andThen_ok, List.map_toArray, List.map_cons, List.map_nil, hs, hx, hr]
  exact hk v' w' h2 h3
theorem GrowB.wpList {P : Program} {bytes : Nat} {ys : List α} {f : List Nat} {ops : Array Oper} {rest : List Oper} {o : Oper} {a : Act} {Q : Exit → Act → World → Prop} (hgd : o.guard = none) (s x : Operand) (t : TypeId)
    (hop : o.op = .call { callee := .builtin .append, args := #[s, x], argTypes := #[t, t] }) (ht : P.underlying t = some (.slice E)) (K : Kind P E L.n bytes)
    (hs : a.eval s = v) (hg : GrowB L E n B w v xs)
    (ad : Addr) (m c : Nat) (news : List Value) (hx : a.eval x = .slice (some ad) m c) (hm : m = ys.length) (hnews : ∀ j u, news[j]? = some u → w.cell? (ad.add j) = some u) (hall : L.all w news ys f) (ff : Fresh B w f)
    (h63 : xs.length + ys.length ≤ maxLen) (hbytes : (xs.length + ys.length) * bytes ≤ 140737488355328)
    (hk : ∀ v' w', GrowC L E n w' v' (xs ++ ys) → Up n w w' → wpList P ops Q rest (a.put o.dst v') w') : wpList P ops Q (o :: rest) a w :=
  wpList_plain hgd fun _ hK => hg.wp s x t hop ht K hs ad m c news hx hm hnews hall ff h63 hbytes fun v' w' h1 h2 => hK _ _ (hk v' w' h1 h2)
theorem GrowB.step {P : Program} {bytes : Nat} {ys : List α} {f : List Nat} {ops : Array Oper} {o : Oper} {a : Act} {Kc : Act → World → Prop} {Q : Exit → Act → World → Prop} {R : Prop} (hgd : o.guard = none) (s x : Operand) (t : TypeId)
    (hop : o.op = .call { callee := .builtin .append, args := #[s, x], argTypes := #[t, t] }) (ht : P.underlying t = some (.slice E)) (K : Kind P E L.n bytes)
    (hs : a.eval s = v) (hg : GrowB L E n B w v xs)
    (ad : Addr) (m c : Nat) (news : List Value) (hx : a.eval x = .slice (some ad) m c) (hm : m = ys.length) (hnews : ∀ j u, news[j]? = some u → w.cell? (ad.add j) = some u) (hall : L.all w news ys f) (ff : Fresh B w f)
    (h63 : xs.length + ys.length ≤ maxLen) (hbytes : (xs.length + ys.length) * bytes ≤ 140737488355328)
    (hk : ∀ v' w', GrowC L E n w' v' (xs ++ ys) → Up n w w' → Kc (a.put o.dst v') w') :
    if Region.wanted o (yielded ops a.tmps) = true then Oper.wp P o a w Kc Q else R := by
  have hw : Region.wanted o (yielded ops a.tmps) = true := by simp [Region.wanted, hgd]
  rw [if_pos hw]
  exact hg.wp s x t hop ht K hs ad m c news hx hm hnews hall ff h63 hbytes hk
end
end Go.Proofs.Ytcejdmggacjnoaa
