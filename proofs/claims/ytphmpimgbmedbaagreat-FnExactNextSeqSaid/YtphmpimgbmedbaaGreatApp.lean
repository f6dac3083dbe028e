
/- Slices that a call builds for itself: what it owns, and the laws of append, in the words of the layouts. No function of the program in sight. -/
import Derived.Test.YtphmpimgbmedbaaGreatRep
namespace Go.Proofs.YtphmpimgbmedbaaGreat
open Go.RowKit

/-- a slice that the call owns: nil, or at the head of a loose row; h: its block; fps: the blocks of its elements -/
def Lay.os {α : Type} (L : Lay α) (E : TypeId) (w : World) (v : Value) (xs : List α) (h : Option Nat) (fps : List Nat) : Prop :=
  (v = .slice none 0 0 ∧ xs = [] ∧ h = none ∧ fps = []) ∨
  ∃ g cap cur, v = .slice (some ⟨g, 0, none⟩) xs.length cap ∧ h = some g ∧ w.heap[g]? = some (.cells cur E (0, 0)) ∧ xs.length ≤ cap ∧ cap ≤ maxLen ∧ cur.size = cap * L.n ∧
    L.all w (cur.toList.take (xs.length * L.n)) xs fps ∧ g ∉ fps

section
variable {α : Type} (L : Lay α) {E : TypeId} {w w' : World} {v : Value} {xs : List α} {h : Option Nat} {fps : List Nat}

theorem Lay.os_nil (E : TypeId) (w : World) : L.os E w (.slice none 0 0) [] none [] := .inl ⟨rfl, rfl, rfl, rfl⟩

/-- 'T{}', 'make(T, 0, cap)': an empty row of its own -/
theorem Lay.os_made (E : TypeId) (w : World) (cur : Array Value) (cap : Nat) (hm : cap ≤ maxLen) (hs : cur.size = cap * L.n) :
    L.os E (w.alloc (.cells cur E)) (.slice (some ⟨w.heap.size, 0, none⟩) 0 cap) [] (some w.heap.size) [] :=
  .inr ⟨w.heap.size, cap, cur, rfl, rfl, new_alloc w _, Nat.zero_le _, hm, hs, by simp [Lay.all], by simp⟩

theorem Lay.os_lt (ho : L.os E w v xs h fps) : (∀ g, h = some g → g < w.heap.size) ∧ ∀ b ∈ fps, b < w.heap.size := by
  rcases ho with ⟨rfl, rfl, rfl, rfl⟩ | ⟨g, cap, cur, rfl, rfl, hg, _, _, _, hall, _⟩
  · exact ⟨by simp, by simp⟩
  · exact ⟨fun k hk => by cases hk; exact ltOf hg, L.all_lt hall⟩

theorem Lay.os_keep (ho : L.os E w v xs h fps) (hh : ∀ g, h = some g → w'.heap[g]? = w.heap[g]?) (hf : ∀ b ∈ fps, w'.heap[b]? = w.heap[b]?) : L.os E w' v xs h fps := by
  rcases ho with hn | ⟨g, cap, cur, rfl, rfl, hg, h1, h2, h3, hall, h4⟩
  · exact .inl hn
  · exact .inr ⟨g, cap, cur, rfl, rfl, by rw [hh g rfl]; exact hg, h1, h2, h3, L.all_keep hall hf, h4⟩

theorem Lay.os_chg {S : List Nat} (ho : L.os E w v xs h fps) (hc : Chg S w w') (hh : ∀ g, h = some g → g ∉ S) (hf : ∀ b ∈ fps, b ∉ S) : L.os E w' v xs h fps :=
  L.os_keep ho (fun g hg => hc.block g ((L.os_lt ho).1 g hg) (hh g hg)) (fun b hb => hc.block b ((L.os_lt ho).2 b hb) (hf b hb))
theorem Lay.os_ext (ho : L.os E w v xs h fps) (hc : Chg [] w w') : L.os E w' v xs h fps := L.os_chg ho hc (by simp) (by simp)
theorem Lay.os_alloc (ho : L.os E w v xs h fps) (o : Obj) : L.os E (w.alloc o) v xs h fps := L.os_ext ho ((Chg.refl [] w).alloc o)
theorem Lay.os_drew (ho : L.os E w v xs h fps) : L.os E w.drew v xs h fps := L.os_ext ho (Chg.refl [] w).drew

theorem Lay.os_len (ho : L.os E w v xs h fps) : ∃ a cap, v = .slice a xs.length cap := by
  rcases ho with ⟨rfl, rfl, _, _⟩ | ⟨g, cap, cur, rfl, _⟩
  · exact ⟨none, 0, rfl⟩
  · exact ⟨_, cap, rfl⟩

/-- an owned slice is a slice -/
theorem Lay.os_sl (ho : L.os E w v xs h fps) : ∃ a cap, v = .slice a xs.length cap ∧ L.sl w a xs.length cap xs (h.toList ++ fps) := by
  rcases ho with ⟨rfl, rfl, rfl, rfl⟩ | ⟨g, cap, cur, rfl, rfl, hg, h1, h2, h3, hall, h4⟩
  · exact ⟨none, 0, rfl, rfl, Nat.le_refl _, by simp [maxLen], fun _ => rfl, .inl ⟨rfl, rfl⟩⟩
  · exact ⟨_, cap, rfl, rfl, h1, h2, (fun h => by cases h), .inr ⟨g, 0, cur, E, (0, 0), fps, rfl, hg, by simpa using hall, rfl⟩⟩

end

/-- the row of an owned slice, with room -/
structure Kind (P : Program) (E : TypeId) (n bytes : Nat) where
  i : TypeInfo
  z : Value
  info : P.info? E = some i
  zero : i.zero = some z
  size : i.size = n
  byt : i.bytes = bytes
  zc : z.cells.size = n

section
variable {α : Type} (L : Lay α) {P : Program} {E T : TypeId} {bytes : Nat} {w : World} {v : Value} {xs ys : List α} {h : Option Nat} {fps f : List Nat}

theorem Lay.run_append (t ty : TypeId) (ht : P.underlying t = some (.slice E)) (K : Kind P E L.n bytes) (ho : L.os E w v xs h fps)
    (ad : Addr) (c : Nat) (news : List Value) (hnews : ∀ j u, news[j]? = some u → w.cell? (ad.add j) = some u) (hall : L.all w news ys f) (hf : ∀ g, h = some g → g ∉ f)
    (h63 : xs.length + ys.length ≤ maxLen) (hbytes : (xs.length + ys.length) * bytes ≤ 140737488355328) :
    ∃ v' w' h', (Builtin.append_ #[t, t] ty #[v, .slice (some ad) ys.length c]).run P w = .ok v' w' ∧ L.os E w' v' (xs ++ ys) h' (fps ++ f) ∧ (h' = h ∨ h' = some w.heap.size) ∧ Chg h.toList w w' ∧
      (∀ g, h' = some g → g < w'.heap.size) := by
  have hsmall : xs.length + ys.length ≤ 9223372036854775807 := by simp only [maxLen] at h63; omega
  have hl := L.all_len hall
  have h1 := L.all_one hall
  have hl' : news.length = ys.length * K.i.size := by rw [K.size]; exact hl
  have hbytes' : (xs.length + ys.length) * K.i.bytes ≤ 140737488355328 := by rw [K.byt]; exact hbytes
  have hpos := L.pos
  rcases ho with ⟨rfl, rfl, rfl, rfl⟩ | ⟨g, cap, cur, rfl, rfl, hg, hnc, hcm, hcs, hold, hgf⟩
  · by_cases hm : ys.length = 0
    · obtain rfl : ys = [] := List.eq_nil_of_length_eq_zero hm
      obtain ⟨rfl, rfl⟩ := hall
      refine ⟨.slice none 0 0, w, none, ?_, L.os_nil E w, .inl rfl, Chg.refl _ _, by simp⟩
      simp [Builtin.append_, run_underlying ht, sizeOf, typeInfo, K.info, Builtin.lenOf, Builtin.firstCells, loadCells, loadCellsFrom]
    · have hr := run_append_nil (P := P) w t ty E K.i K.z ht K.info K.zero ad ys.length c news hl' hnews (by omega) (by simp at hsmall; omega) (by simp only [List.length_nil, Nat.zero_add] at hbytes'; omega)
      refine ⟨_, _, some w.heap.size, hr, ?_, .inr rfl, ?_, fun g hg => by cases hg; simp⟩
      · refine .inr ⟨w.heap.size, grownCap w ys.length 0 E, _, by simp, rfl, new_alloc w.drew _, by simpa using grownCap_ge w ys.length 0 E, by simpa using grownCap_le_maxLen w ys.length 0 E (by simpa using h63), ?_, ?_, ?_⟩
        · have hge := grownCap_ge w ys.length 0 E
          simp only [Array.size_append, List.size_toArray, size_zeroCells, K.zc, hl, ← Nat.add_mul]
          congr 1
          omega
        · simp only [List.nil_append, Array.toList_append]
          rw [← hl, List.take_left]
          exact L.all_keep hall (fun b hb => Below.heap_alloc w.drew _ b (L.all_lt hall b hb))
        · intro hb
          have := L.all_lt hall _ (by simpa using hb)
          omega
      · exact ((Chg.refl _ w).drew).alloc _
  · have hold' := L.all_len hold
    by_cases hroom : xs.length + ys.length ≤ cap
    · have hfit : xs.length * K.i.size + news.length ≤ cur.size := by rw [K.size, hl, hcs, ← Nat.add_mul]; exact Nat.mul_le_mul_right _ hroom
      have hr := run_append_room (P := P) w t ty E K.i ht K.info g xs.length cap cur hg ad ys.length c news hl' hnews h1 hroom hfit
      have hlt := ltOf hg
      have hgs : ∀ k, k ≠ g → (w.setRow g (cur.toList.take (xs.length * K.i.size) ++ news ++ cur.toList.drop (xs.length * K.i.size + news.length)).toArray).heap[k]? = w.heap[k]? := fun k hk => setRow_other w g k _ hk
      refine ⟨_, _, some g, hr, ?_, .inl rfl, ⟨rfl, rfl, rfl, by simp [World.setRow], fun k _ hk => hgs k (by simpa using hk), fun k hk => by
        by_cases e : k = g
        · subst e; exact ⟨_, E, setRow_heap w k cur _ E _ hg⟩
        · obtain ⟨c2, E2, h2⟩ := hk
          exact ⟨c2, E2, by rw [hgs k e]; exact h2⟩⟩, fun g' hg' => by cases hg'; simpa [World.setRow] using hlt⟩
      refine .inr ⟨g, cap, _, by simp, rfl, setRow_heap w g cur _ E _ hg, by simpa using hroom, hcm, ?_, ?_, ?_⟩
      · simp only [List.size_toArray, List.length_append, List.length_take, List.length_drop, Array.length_toList]
        omega
      · rw [K.size]
        have e : (xs ++ ys).length * L.n = (cur.toList.take (xs.length * L.n) ++ news).length := by
          rw [List.length_append, List.length_append, hold', hl, Nat.add_mul]
        have e2 : (cur.toList.take (xs.length * L.n) ++ news ++ cur.toList.drop (xs.length * L.n + news.length)).take ((xs ++ ys).length * L.n) = cur.toList.take (xs.length * L.n) ++ news := by
          rw [e, List.take_left]
        rw [e2]
        rw [K.size] at hgs
        exact L.all_append (L.all_keep hold (fun b hb => hgs b (fun e => hgf (e ▸ hb)))) (L.all_keep hall (fun b hb => hgs b (fun e => hf g rfl (e ▸ hb))))
      · intro hb
        rcases List.mem_append.1 hb with hb | hb
        · exact hgf hb
        · exact hf g rfl hb
    · have holds : ∀ j u, (cur.toList.take (xs.length * L.n))[j]? = some u → w.cell? ((⟨g, 0, none⟩ : Addr).add j) = some u := by
        intro j u hu
        have hadd : (⟨g, 0, none⟩ : Addr).add j = ⟨g, j, none⟩ := by unfold Addr.add; split <;> simp_all
        rw [hadd, cell_of_row w g j cur E (0, 0) hg]
        rw [List.getElem?_take] at hu
        split at hu
        · simpa using hu
        · cases hu
      have hr := run_append_grow (P := P) w t ty E K.i K.z ht K.info K.zero ⟨g, 0, none⟩ xs.length cap (cur.toList.take (xs.length * L.n)) (by rw [K.size]; exact hold') holds ad ys.length c news hl' hnews (by omega) (by omega) (growslice_fits (by omega) hbytes')
      have hlt := ltOf hg
      refine ⟨_, _, some w.heap.size, hr, ?_, .inr rfl, ((Chg.refl _ w).drew).alloc _, fun g' hg' => by cases hg'; simp⟩
      refine .inr ⟨w.heap.size, grownCap w (xs.length + ys.length) cap E, _, by simp, rfl, new_alloc w.drew _, by simpa using grownCap_ge w (xs.length + ys.length) cap E, by simpa using grownCap_le_maxLen w (xs.length + ys.length) cap E h63, ?_, ?_, ?_⟩
      · have hge := grownCap_ge w (xs.length + ys.length) cap E
        simp only [Array.size_append, List.size_toArray, size_zeroCells, K.zc, hold', hl, ← Nat.add_mul]
        congr 1
        omega
      · have e : (xs ++ ys).length * L.n = (cur.toList.take (xs.length * L.n) ++ news).length := by
          rw [List.length_append, List.length_append, hold', hl, Nat.add_mul]
        simp only [Array.toList_append]
        rw [e, List.take_left]
        exact L.all_append (L.all_keep hold (fun b hb => Below.heap_alloc w.drew _ b (L.all_lt hold b hb))) (L.all_keep hall (fun b hb => Below.heap_alloc w.drew _ b (L.all_lt hall b hb)))
      · intro hb
        rcases List.mem_append.1 hb with hb | hb
        · have := L.all_lt hold _ hb; omega
        · have := L.all_lt hall _ hb; omega

theorem Lay.wp_append {o : Oper} {a : Act} {Kc : Act → World → Prop} {Q : Exit → Act → World → Prop} (s x : Operand) (t : TypeId)
    (hop : o.op = .call { callee := .builtin .append, args := #[s, x], argTypes := #[t, t] }) (ht : P.underlying t = some (.slice E)) (K : Kind P E L.n bytes)
    (hs : a.eval s = v) (ho : L.os E w v xs h fps)
    (ad : Addr) (m c : Nat) (news : List Value) (hx : a.eval x = .slice (some ad) m c) (hm : m = ys.length) (hnews : ∀ j u, news[j]? = some u → w.cell? (ad.add j) = some u) (hall : L.all w news ys f) (hf : ∀ g, h = some g → g ∉ f)
    (h63 : xs.length + ys.length ≤ maxLen) (hbytes : (xs.length + ys.length) * bytes ≤ 140737488355328)
    (hk : ∀ v' w' h', L.os E w' v' (xs ++ ys) h' (fps ++ f) → (h' = h ∨ h' = some w.heap.size) → Chg h.toList w w' → Kc (a.put o.dst v') w') : o.wp P a w Kc Q := by
  subst hm
  obtain ⟨v', w', h', hr, h2, h3, h4, _⟩ := L.run_append (P := P) t o.type ht K ho ad c news hnews hall hf h63 hbytes
  unfold Oper.wp execOp
  simp only [hop, resolve, invoke, builtin, Sem.run_bind, Sem.run_pure, Result.andThen_ok, List.map_toArray, List.map_cons, List.map_nil, hs, hx, hr]
  exact hk v' w' h' h2 h3 h4

theorem Lay.wpList_append {ops : Array Oper} {rest : List Oper} {o : Oper} {a : Act} {Q : Exit → Act → World → Prop} (hgd : o.guard = none) (s x : Operand) (t : TypeId)
    (hop : o.op = .call { callee := .builtin .append, args := #[s, x], argTypes := #[t, t] }) (ht : P.underlying t = some (.slice E)) (K : Kind P E L.n bytes)
    (hs : a.eval s = v) (ho : L.os E w v xs h fps)
    (ad : Addr) (m c : Nat) (news : List Value) (hx : a.eval x = .slice (some ad) m c) (hm : m = ys.length) (hnews : ∀ j u, news[j]? = some u → w.cell? (ad.add j) = some u) (hall : L.all w news ys f) (hf : ∀ g, h = some g → g ∉ f)
    (h63 : xs.length + ys.length ≤ maxLen) (hbytes : (xs.length + ys.length) * bytes ≤ 140737488355328)
    (hk : ∀ v' w' h', L.os E w' v' (xs ++ ys) h' (fps ++ f) → (h' = h ∨ h' = some w.heap.size) → Chg h.toList w w' → wpList P ops Q rest (a.put o.dst v') w') : wpList P ops Q (o :: rest) a w :=
  wpList_plain hgd fun _ hK => L.wp_append s x t hop ht K hs ho ad m c news hx hm hnews hall hf h63 hbytes fun v' w' h' h1 h2 h3 => hK _ _ (hk v' w' h' h1 h2 h3)

/-- the same as a step of a region that draws its order -/
theorem Lay.step_append {ops : Array Oper} {o : Oper} {a : Act} {Kc : Act → World → Prop} {Q : Exit → Act → World → Prop} {R : Prop} (hgd : o.guard = none) (s x : Operand) (t : TypeId)
    (hop : o.op = .call { callee := .builtin .append, args := #[s, x], argTypes := #[t, t] }) (ht : P.underlying t = some (.slice E)) (K : Kind P E L.n bytes)
    (hs : a.eval s = v) (ho : L.os E w v xs h fps)
    (ad : Addr) (m c : Nat) (news : List Value) (hx : a.eval x = .slice (some ad) m c) (hm : m = ys.length) (hnews : ∀ j u, news[j]? = some u → w.cell? (ad.add j) = some u) (hall : L.all w news ys f) (hf : ∀ g, h = some g → g ∉ f)
    (h63 : xs.length + ys.length ≤ maxLen) (hbytes : (xs.length + ys.length) * bytes ≤ 140737488355328)
    (hk : ∀ v' w' h', L.os E w' v' (xs ++ ys) h' (fps ++ f) → (h' = h ∨ h' = some w.heap.size) → Chg h.toList w w' → Kc (a.put o.dst v') w') :
    if Region.wanted o (yielded ops a.tmps) = true then Oper.wp P o a w Kc Q else R := by
  have hw : Region.wanted o (yielded ops a.tmps) = true := by simp [Region.wanted, hgd]
  rw [if_pos hw]
  exact L.wp_append s x t hop ht K hs ho ad m c news hx hm hnews hall hf h63 hbytes hk

end

/-- new memory of its own: each block once, all from B on, none frozen -/
def Fresh (B : Nat) (w : World) (fp : List Nat) : Prop := fp.Nodup ∧ ∀ b ∈ fp, B ≤ b ∧ Loose w b

theorem Fresh.nil (B : Nat) (w : World) : Fresh B w [] := ⟨List.nodup_nil, by simp⟩
theorem Fresh.chg {B : Nat} {S : List Nat} {w w' : World} {fp : List Nat} (h : Fresh B w fp) (hc : Chg S w w') : Fresh B w' fp :=
  ⟨h.1, fun b hb => ⟨(h.2 b hb).1, hc.loose b (h.2 b hb).2⟩⟩
theorem Fresh.mono {B C : Nat} {w : World} {fp : List Nat} (h : Fresh B w fp) (hC : C ≤ B) : Fresh C w fp := ⟨h.1, fun b hb => ⟨by have := (h.2 b hb).1; omega, (h.2 b hb).2⟩⟩

/-- layouts without blocks of their own -/
def Lay.flat {α : Type} (L : Lay α) : Prop := ∀ w cs x fp, L.rep w cs x fp → fp = []
theorem byte_flat : byteL.flat := fun _ _ _ _ h => h.2
theorem int_flat : intL.flat := fun _ _ _ _ h => h.2.2
theorem Lay.flat_all {α : Type} {L : Lay α} (hL : L.flat) {w : World} : ∀ {xs : List α} {cs : List Value} {fp : List Nat}, L.all w cs xs fp → fp = [] := by
  intro xs
  induction xs with
  | nil => intro cs fp h; exact h.2
  | cons x xs ih =>
    intro cs fp h
    obtain ⟨c1, c2, f1, f2, _, rfl, h1, h2⟩ := h
    rw [hL _ _ _ _ h1, ih h2]; rfl

/-- what a call hands back that makes a slice anew -/
def NewSl {α : Type} (L : Lay α) (xs : List α) (w : World) (e : Ending) (w' : World) : Prop :=
  ∃ a cap fp, e = .returned (.slice a xs.length cap) ∧ L.sl w' a xs.length cap xs fp ∧ Fresh w.heap.size w' fp ∧ Chg [] w w'

theorem Lay.os_new {α : Type} {L : Lay α} {E : TypeId} {w w' : World} {v : Value} {xs : List α} {h : Option Nat} {fps : List Nat} (ho : L.os E w' v xs h fps) (hL : L.flat) (hc : Chg [] w w') (hh : ∀ g, h = some g → w.heap.size ≤ g) :
    NewSl L xs w (.returned v) w' := by
  obtain ⟨a, cap, rfl, hs⟩ := L.os_sl ho
  refine ⟨a, cap, _, rfl, hs, ?_, hc⟩
  rcases ho with ⟨_, _, rfl, rfl⟩ | ⟨g, cap', cur, _, rfl, hg, _, _, _, hall, hgf⟩
  · exact Fresh.nil _ _
  · rw [Lay.flat_all hL hall]
    exact ⟨by simp, fun b hb => by simp at hb; subst hb; exact ⟨hh b rfl, cur, E, hg⟩⟩

theorem new_cell (w : World) (x : Value) (E : TypeId) : ∀ j u, [x][j]? = some u → (w.alloc (.cells #[x] E)).cell? ((⟨w.heap.size, 0, none⟩ : Addr).add j) = some u := by
  intro j u hu
  cases j with
  | zero => simp at hu; subst hu; rw [show (⟨w.heap.size, 0, none⟩ : Addr).add 0 = ⟨w.heap.size, 0, none⟩ from rfl, cell_of_row _ _ _ _ _ _ (new_alloc w _)]; rfl
  | succ j => simp at hu

theorem byte_at {w : World} {a : Option Addr} {len cap : Nat} {xs : List UInt8} {fp : List Nat} (h : byteL.sl w a len cap xs fp) {i : Nat} (hi : i < len) :
    ∃ (x : UInt8) (X : Int) (b off : Nat), RowKit.Hid (xs[i]? = some x ∧ X = x.toNat ∧ b ∈ fp) ∧ a = some ⟨b, off, none⟩ ∧ w.cell? ⟨b, off + i, none⟩ = some (.int .u8 X) ∧ 0 ≤ X ∧ X < 256 := by
  obtain ⟨x, b, off, c, f, hx, ha, hb, hc, ⟨rfl, _⟩, _⟩ := byteL.sl_at h hi
  have := hc 0 byteL.pos
  rw [show off + i * byteL.n + 0 = off + i by simp [byteL]] at this
  have hl := UInt8.toNat_lt x
  exact ⟨x, _, b, off, ⟨hx, rfl, hb⟩, ha, this, by omega, by omega⟩
theorem int_at {w : World} {a : Option Addr} {len cap : Nat} {xs : List Int} {fp : List Nat} (h : intL.sl w a len cap xs fp) {i : Nat} (hi : i < len) :
    ∃ (x : Int) (b off : Nat), RowKit.Hid (xs[i]? = some x ∧ True ∧ b ∈ fp) ∧ a = some ⟨b, off, none⟩ ∧ w.cell? ⟨b, off + i, none⟩ = some (.int .i64 x) ∧ RowKit.Hid (i64ok x) := by
  obtain ⟨x, b, off, c, f, hx, ha, hb, hc, ⟨rfl, hok, _⟩, _⟩ := intL.sl_at h hi
  have := hc 0 intL.pos
  rw [show off + i * intL.n + 0 = off + i by simp [intL]] at this
  exact ⟨x, b, off, ⟨hx, trivial, hb⟩, ha, this, hok⟩
theorem Lay.sl_max {α : Type} (L : Lay α) {w : World} {a : Option Addr} {len cap : Nat} {xs : List α} {fp : List Nat} (h : L.sl w a len cap xs fp) : len ≤ 9223372036854775807 := by
  have := h.2.1; have := h.2.2.1; unfold maxLen at this; omega

theorem take_next {α : Type} {xs : List α} {k : Nat} {x : α} (h : xs[k]? = some x) : xs.take (k + 1) = xs.take k ++ [x] := by
  obtain ⟨hk, e⟩ := List.getElem?_eq_some_iff.1 h
  rw [List.take_succ_eq_append_getElem hk, e]

theorem byte_all1 {w : World} {X : Int} {c : UInt8} (h : X = c.toNat) : byteL.all w [.int .u8 X] [c] [] := byteL.all_single ⟨by rw [h], rfl⟩
theorem int_all1 {w : World} {x : Int} (h : i64ok x) : intL.all w [.int .i64 x] [x] [] := intL.all_single ⟨rfl, h, rfl⟩

/-- behind an append: what holds of the block, and what has changed since the call began -/
theorem os_head {w wr : World} {h h' : Option Nat} (hh : ∀ g, h = some g → w.heap.size ≤ g) (hc : Chg [] w wr) (hh' : h' = h ∨ h' = some wr.heap.size) : ∀ g, h' = some g → w.heap.size ≤ g := by
  intro g hg
  rcases hh' with rfl | rfl
  · exact hh g hg
  · cases hg; exact hc.size
theorem os_chg {w wr w' : World} {h : Option Nat} (hh : ∀ g, h = some g → w.heap.size ≤ g) (hc : Chg [] w wr) (hc' : Chg h.toList wr w') : Chg [] w w' :=
  hc.trans hc' (fun x hx => .inr (hh x (by simpa using hx)))

theorem Lay.all_set {α : Type} (L : Lay α) {w w' : World} {j : Nat} {v : Value} {x x' : α} : ∀ {xs : List α} {i : Nat} {cs : List Value} {fp : List Nat}, L.all w cs xs fp → xs[i]? = some x → j < L.n →
    (∀ c f, L.rep w c x f → (∀ b ∈ f, b ∈ fp) → L.rep w' (c.set j v) x' f) → (∀ b ∈ fp, w'.heap[b]? = w.heap[b]?) → L.all w' (cs.set (i * L.n + j) v) (xs.set i x') fp := by
  intro xs
  induction xs with
  | nil => intro i cs fp _ hx; simp at hx
  | cons y ys ih =>
    intro i cs fp h hx hj hr hk
    obtain ⟨c1, c2, f1, f2, rfl, rfl, h1, h2⟩ := h
    have hl := L.len h1
    cases i with
    | zero =>
      simp at hx
      subst hx
      refine ⟨c1.set j v, c2, f1, f2, ?_, rfl, hr c1 f1 h1 (fun b hb => by simp [hb]), L.all_keep h2 (fun b hb => hk b (by simp [hb]))⟩
      rw [Nat.zero_mul, Nat.zero_add, List.set_append_left _ _ (by omega)]
    | succ i =>
      refine ⟨c1, c2.set (i * L.n + j) v, f1, f2, ?_, rfl, L.keep h1 (fun b hb => hk b (by simp [hb])), ih h2 (by simpa using hx) hj (fun c f hc hf => hr c f hc (fun b hb => by simp [hf b hb])) (fun b hb => hk b (by simp [hb]))⟩
      have e : (i + 1) * L.n + j = c1.length + (i * L.n + j) := by rw [Nat.add_mul, Nat.one_mul, hl]; omega
      rw [e, List.set_append_right _ _ (by omega)]
      congr 2
      omega

/-- a store into a cell of an element -/
theorem Lay.sl_store {α : Type} (L : Lay α) {w : World} {b off len cap : Nat} {xs : List α} {fp : List Nat} (h : L.sl w (some ⟨b, off, none⟩) len cap xs fp) (nd : fp.Nodup) {i j : Nat} {x x' : α} {v : Value} (hx : xs[i]? = some x) (hj : j < L.n)
    (hr : ∀ c f, L.rep w c x f → b ∉ f → L.rep (w.setCell ⟨b, off + (i * L.n + j), none⟩ v) (c.set j v) x' f) :
    L.sl (w.setCell ⟨b, off + (i * L.n + j), none⟩ v) (some ⟨b, off, none⟩) len cap (xs.set i x') fp := by
  obtain ⟨h1, h2, h3, h4, ⟨rfl, rfl⟩ | ⟨b', off', cur, E, fr, fps, ha, hb, hall, rfl⟩⟩ := h
  · simp at hx
  · simp only [Option.some.injEq, Addr.mk.injEq, and_true] at ha
    obtain ⟨rfl, rfl⟩ := ha
    have hi : i < xs.length := (List.getElem?_eq_some_iff.1 hx).1
    have hbf : b ∉ fps := (List.nodup_cons.1 nd).1
    refine ⟨by simpa using h1, h2, h3, h4, .inr ⟨b, off, _, E, fr, fps, rfl, heap_setCell_same hb, ?_, rfl⟩⟩
    have hk : ∀ y ∈ fps, (w.setCell ⟨b, off + (i * L.n + j), none⟩ v).heap[y]? = w.heap[y]? := fun y hy => Below.heap_setCell _ _ _ _ (fun e => hbf (by have e' : y = b := e; exact e' ▸ hy))
    have := L.all_set hall hx hj (v := v) (x' := x') (w' := w.setCell ⟨b, off + (i * L.n + j), none⟩ v) (fun c f hc hf => hr c f hc (fun hb' => hbf (hf b hb'))) hk
    have e : (((cur.setIfInBounds (off + (i * L.n + j)) v).toList.drop off).take (len * L.n)) = ((cur.toList.drop off).take (len * L.n)).set (i * L.n + j) v := by
      rw [Array.toList_setIfInBounds, List.drop_set, if_neg (by omega), List.take_set]
      congr 1
      omega
    rw [e]
    exact this

theorem byte_set {w : World} {b off len cap : Nat} {xs : List UInt8} {fp : List Nat} (h : byteL.sl w (some ⟨b, off, none⟩) len cap xs fp) (nd : fp.Nodup) {i : Nat} (hi : i < len) (x' : UInt8) :
    byteL.sl (w.setCell ⟨b, off + i, none⟩ (.int .u8 (x'.toNat : Int))) (some ⟨b, off, none⟩) len cap (xs.set i x') fp := by
  have hx : xs[i]? = some (xs[i]'(by have := h.1; omega)) := List.getElem?_eq_getElem _
  have := byteL.sl_store h nd (j := 0) (v := .int .u8 (x'.toNat : Int)) (x' := x') hx byteL.pos (fun c f hc _ => by obtain ⟨rfl, rfl⟩ := hc; exact ⟨rfl, rfl⟩)
  rw [show off + (i * byteL.n + 0) = off + i by simp [byteL]] at this
  exact this
theorem int_set {w : World} {b off len cap : Nat} {xs : List Int} {fp : List Nat} (h : intL.sl w (some ⟨b, off, none⟩) len cap xs fp) (nd : fp.Nodup) {i : Nat} (hi : i < len) (x' : Int) (hok : i64ok x') :
    intL.sl (w.setCell ⟨b, off + i, none⟩ (.int .i64 x')) (some ⟨b, off, none⟩) len cap (xs.set i x') fp := by
  have hx : xs[i]? = some (xs[i]'(by have := h.1; omega)) := List.getElem?_eq_getElem _
  have := intL.sl_store h nd (j := 0) (v := .int .i64 x') (x' := x') hx intL.pos (fun c f hc _ => by obtain ⟨rfl, _, rfl⟩ := hc; exact ⟨rfl, hok, rfl⟩)
  rw [show off + (i * intL.n + 0) = off + i by simp [intL]] at this
  exact this

/-! ### rows made whole -/

/-- a row of zero values -/
def zrow (z : Value) (n : Nat) : Array Value := madeCells z.cells n

theorem make_row {P : Program} {E T : TypeId} {n bytes : Nat} (ht : P.underlying T = some (.slice E)) (K : Kind P E n bytes) (len : Nat) (hb : bytes * len ≤ 281474976710656) (h63 : len ≤ 9223372036854775807) (w : World) :
    (Instr.makeSlice T (.int .i64 (len : Int)) (.int .i64 (len : Int))).run P w = .ok (.slice (some ⟨w.heap.size, 0, none⟩) len len) (w.alloc (.cells (zrow K.z (len * n)) E)) := by
  have hb' : (K.i.bytes : Int) * (len : Int) ≤ 281474976710656 := by
    have h : ((K.i.bytes * len : Nat) : Int) ≤ 281474976710656 := by rw [K.byt]; omega
    rwa [Int.natCast_mul] at h
  have hr := run_make (P := P) w T E K.i K.z ht K.info K.zero .i64 .i64 len len (by omega) (Int.le_refl _) hb' (by omega)
  simp only [Int.toNat_natCast, K.size] at hr
  exact hr

theorem madeCells_succ (z : Array Value) (k n : Nat) (hz : z.size = n) (hn : 0 < n) : (madeCells z ((k + 1) * n)).toList = (madeCells z (k * n)).toList ++ z.toList := by
  apply List.ext_getElem?
  intro j
  have e : (k + 1) * n = k * n + n := by rw [Nat.add_mul, Nat.one_mul]
  by_cases h1 : j < k * n
  · rw [List.getElem?_append_left (by simp [madeCells]; exact h1)]
    have h2 : j < (k + 1) * n := by omega
    simp [madeCells, h1, h2]
  · rw [List.getElem?_append_right (by simp [madeCells]; omega)]
    by_cases h2 : j < (k + 1) * n
    · have hl : (madeCells z (k * n)).toList.length = k * n := by simp [madeCells]
      rw [hl]
      have h3 : j - k * n < z.size := by omega
      have h4 : j % z.size = j - k * n := by
        rw [hz]
        have : j = n * k + (j - k * n) := by rw [Nat.mul_comm]; omega
        conv => lhs; rw [this, Nat.mul_add_mod]
        exact Nat.mod_eq_of_lt (by omega)
      simp [madeCells, h2, h4, h3]
    · rw [List.getElem?_eq_none (by simp [madeCells]; omega), List.getElem?_eq_none (by simp [madeCells]; omega)]

theorem Lay.all_zrow {α : Type} (L : Lay α) {z : Value} {x0 : α} (w : World) (hz : L.rep w z.cells.toList x0 []) (k : Nat) : L.all w (zrow z (k * L.n)).toList (List.replicate k x0) [] := by
  have hl := L.len hz
  induction k with
  | zero => simp [zrow, madeCells, Lay.all]
  | succ k ih =>
    unfold zrow at *
    rw [madeCells_succ _ _ _ (by simpa using hl) L.pos, List.replicate_succ']
    exact L.all_append ih (L.all_single hz)

/-- a whole row made anew is a slice of zero data -/
theorem Lay.sl_zrow {α : Type} (L : Lay α) {z : Value} {x0 : α} (w : World) (E : TypeId) (len : Nat) (h63 : len ≤ 9223372036854775807) (hz : L.rep (w.alloc (.cells (zrow z (len * L.n)) E)) z.cells.toList x0 []) :
    L.sl (w.alloc (.cells (zrow z (len * L.n)) E)) (some ⟨w.heap.size, 0, none⟩) len len (List.replicate len x0) [w.heap.size] := by
  refine ⟨by simp, Nat.le_refl _, by unfold maxLen; omega, (fun h => by cases h), .inr ⟨w.heap.size, 0, _, E, (0, 0), [], rfl, new_alloc w _, ?_, rfl⟩⟩
  have := L.all_zrow _ hz len
  rw [List.drop_zero, List.take_of_length_le (by have := L.all_len this; simp at this ⊢; omega)]
  exact this

theorem byte_zrow (w : World) (E : TypeId) (len : Nat) (h63 : len ≤ 9223372036854775807) :
    byteL.sl (w.alloc (.cells (zrow (.int .u8 0) len) E)) (some ⟨w.heap.size, 0, none⟩) len len (List.replicate len 0) [w.heap.size] := by
  have := byteL.sl_zrow (z := .int .u8 0) (x0 := 0) w E len h63 ⟨rfl, rfl⟩
  rw [show len * byteL.n = len from Nat.mul_one len] at this
  exact this
theorem int_zrow (w : World) (E : TypeId) (len : Nat) (h63 : len ≤ 9223372036854775807) :
    intL.sl (w.alloc (.cells (zrow (.int .i64 0) len) E)) (some ⟨w.heap.size, 0, none⟩) len len (List.replicate len 0) [w.heap.size] := by
  have := intL.sl_zrow (z := .int .i64 0) (x0 := 0) w E len h63 ⟨rfl, ⟨by omega, by omega⟩, rfl⟩
  rw [show len * intL.n = len from Nat.mul_one len] at this
  exact this
theorem fresh_new (w : World) (cs : Array Value) (E : TypeId) : Fresh w.heap.size (w.alloc (.cells cs E)) [w.heap.size] :=
  ⟨by simp, fun b hb => by simp at hb; subst hb; exact ⟨Nat.le_refl _, cs, E, new_alloc w _⟩⟩

/-- the cells of a slice, where append looks for them -/
theorem Lay.sl_cells {α : Type} (L : Lay α) {w : World} {ad : Addr} {len cap : Nat} {xs : List α} {fp : List Nat} (h : L.sl w (some ad) len cap xs fp) :
    ∃ news fps, (∀ j u, news[j]? = some u → w.cell? (ad.add j) = some u) ∧ L.all w news xs fps ∧ (∀ b ∈ fps, b ∈ fp) := by
  obtain ⟨h1, h2, h3, h4, ⟨rfl, rfl⟩ | ⟨b, off, cur, E, fr, fps, ha, hb, hall, rfl⟩⟩ := h
  · exact ⟨[], [], by simp, ⟨rfl, rfl⟩, by simp⟩
  · cases ha
    refine ⟨_, fps, ?_, hall, fun b hb => by simp [hb]⟩
    intro j u hu
    have hadd : (⟨b, off, none⟩ : Addr).add j = ⟨b, off + j, none⟩ := by unfold Addr.add; split <;> simp_all
    rw [hadd, cell_of_row w b _ cur E fr hb]
    rw [List.getElem?_take] at hu
    split at hu
    · rw [List.getElem?_drop] at hu; simpa using hu
    · cases hu

/-- what a call hands back that makes the row of a slice anew; the elements' blocks are shared -/
def NewRow {α : Type} (L : Lay α) (xs : List α) (shared : List Nat) (w : World) (e : Ending) (w' : World) : Prop :=
  ∃ E v h fps, e = .returned v ∧ L.os E w' v xs h fps ∧ (∀ b ∈ fps, b ∈ shared) ∧ (∀ g, h = some g → w.heap.size ≤ g) ∧ Chg [] w w'

theorem NewRow.flat {α : Type} {L : Lay α} {xs : List α} {sh : List Nat} {w : World} {e : Ending} {w' : World} (h : NewRow L xs sh w e w') (hL : L.flat) : NewSl L xs w e w' := by
  obtain ⟨E, v, h, fps, rfl, ho, _, hh, hc⟩ := h
  exact Lay.os_new ho hL hc hh

end Go.Proofs.YtphmpimgbmedbaaGreat
