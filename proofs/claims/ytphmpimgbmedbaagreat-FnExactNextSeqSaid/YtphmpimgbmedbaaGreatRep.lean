
/- How plain data lie in memory: layouts, slices, what a step may change. No function of the program in sight. -/
import Derived.WalkKit
import Derived.WalkSpells
import Derived.WalkLawsBesides
import Derived.ProofKit
import Derived.Handy
import Derived.Lib.Hide
namespace Go.Proofs.YtphmpimgbmedbaaGreat
open Go.RowKit

theorem ret_int {k : IntKind} {a b : Int} (h : a = b) : Ending.returned (.int k a) = .returned (.int k b) := by rw [h]
theorem ret_u8 {a b : UInt8} (h : a = b) : Ending.returned (.int .u8 (a.toNat : Int)) = Ending.returned (.int .u8 (b.toNat : Int)) := by rw [h]
theorem ret_bool {a b : Bool} (h : a = b) : Ending.returned (.bool a) = .returned (.bool b) := by rw [h]

/-- a block that is cells, none of them frozen -/
def Loose (w : World) (b : Nat) : Prop := ∃ cur E, w.heap[b]? = some (.cells cur E (0, 0))

theorem Loose.lt {w : World} {b : Nat} (h : Loose w b) : b < w.heap.size := by
  obtain ⟨cur, E, h⟩ := h; exact (Array.getElem?_eq_some_iff.1 h).1

/-- what a piece of work may change: of the blocks that were there, those of S alone; and what was loose stays so -/
structure Chg (S : List Nat) (w w' : World) : Prop where
  os : w'.os = w.os
  tape : w'.tape = w.tape
  output : w'.output = w.output
  size : w.heap.size ≤ w'.heap.size
  block : ∀ k, k < w.heap.size → k ∉ S → w'.heap[k]? = w.heap[k]?
  loose : ∀ k, Loose w k → Loose w' k

theorem heap_setCell_same {w : World} {b o : Nat} {v : Value} {cur : Array Value} {E : TypeId} {fr : Nat × Nat} (hb : w.heap[b]? = some (.cells cur E fr)) :
    (w.setCell ⟨b, o, none⟩ v).heap[b]? = some (.cells (cur.setIfInBounds o v) E fr) := by
  have hlt := (Array.getElem?_eq_some_iff.1 hb).1
  have hv : w.heap[b] = .cells cur E fr := (Array.getElem?_eq_some_iff.1 hb).2
  unfold World.setCell
  rw [Array.getElem?_eq_getElem (by simpa using hlt), Array.getElem_modify]
  simp [hv]
theorem Loose.setCell {w : World} {b : Nat} (h : Loose w b) (p : Addr) (v : Value) : Loose (w.setCell p v) b := by
  obtain ⟨cur, E, hb⟩ := h
  by_cases e : b = p.block
  · subst e
    have hlt := (Array.getElem?_eq_some_iff.1 hb).1
    have hv : w.heap[p.block] = .cells cur E (0, 0) := (Array.getElem?_eq_some_iff.1 hb).2
    refine ⟨if p.spot.isSome then cur else cur.setIfInBounds p.off v, E, ?_⟩
    unfold World.setCell
    rw [Array.getElem?_eq_getElem (by simpa using hlt), Array.getElem_modify]
    simp [hv]
  · exact ⟨cur, E, by rw [Below.heap_setCell _ _ _ _ e]; exact hb⟩
theorem Loose.alloc {w : World} {b : Nat} (h : Loose w b) (o : Obj) : Loose (w.alloc o) b := by
  obtain ⟨cur, E, hb⟩ := h
  exact ⟨cur, E, by rw [Below.heap_alloc _ _ _ (Array.getElem?_eq_some_iff.1 hb).1]; exact hb⟩

theorem Chg.refl (S : List Nat) (w : World) : Chg S w w := ⟨rfl, rfl, rfl, Nat.le_refl _, fun _ _ _ => rfl, fun _ h => h⟩

theorem Chg.trans {S T : List Nat} {a b c : World} (h : Chg S a b) (k : Chg T b c) (hT : ∀ x ∈ T, x ∈ S ∨ a.heap.size ≤ x) : Chg S a c :=
  ⟨k.os.trans h.os, k.tape.trans h.tape, k.output.trans h.output, Nat.le_trans h.size k.size, fun i hi hS => by
    rw [k.block i (Nat.lt_of_lt_of_le hi h.size) (fun hx => by rcases hT i hx with h1 | h1; exact hS h1; omega), h.block i hi hS], fun i hi => k.loose i (h.loose i hi)⟩

theorem Chg.trans0 {S : List Nat} {a b c : World} (h : Chg S a b) (k : Chg [] b c) : Chg S a c := h.trans k (fun x hx => by cases hx)
theorem Chg.mono {S T : List Nat} {a b : World} (h : Chg S a b) (hs : ∀ x ∈ S, x ∈ T ∨ a.heap.size ≤ x) : Chg T a b :=
  ⟨h.os, h.tape, h.output, h.size, fun k hk hT => h.block k hk (fun hx => by rcases hs k hx with h1 | h1; exact hT h1; omega), h.loose⟩
theorem Chg.alloc {S : List Nat} {a w : World} (h : Chg S a w) (o : Obj) : Chg S a (w.alloc o) :=
  h.trans0 ⟨rfl, rfl, rfl, by simp, fun k hk _ => Below.heap_alloc w o k hk, fun _ h => h.alloc o⟩
theorem Chg.drew {S : List Nat} {a w : World} (h : Chg S a w) : Chg S a w.drew := ⟨h.os, h.tape, h.output, h.size, h.block, h.loose⟩
theorem Chg.drewN {S : List Nat} {a w : World} (h : Chg S a w) (n : Nat) : Chg S a (w.drewN n) := ⟨h.os, h.tape, h.output, h.size, h.block, h.loose⟩
theorem Chg.setCell {S : List Nat} {a w : World} (h : Chg S a w) (p : Addr) (u : Value) (hp : p.block ∈ S ∨ a.heap.size ≤ p.block) : Chg S a (w.setCell p u) := by
  refine h.trans (T := [p.block]) ⟨rfl, rfl, rfl, by simp [World.setCell], fun k _ hk => Below.heap_setCell _ _ _ _ (by simpa using hk), fun _ h => h.setCell p u⟩ ?_
  intro x hx; simp at hx; subst hx; exact hp
theorem Chg.below {S : List Nat} {B : Nat} {w w' : World} (h : Chg S w w') (hS : ∀ x ∈ S, B ≤ x) (hB : B ≤ w.heap.size) : Below B w w' :=
  ⟨h.os, h.tape, h.output, h.size, fun k hk => h.block k (by omega) (fun hx => by have := hS k hx; omega)⟩
theorem Chg.below0 {w w' : World} (h : Chg [] w w') : Below w.heap.size w w' := h.below (by simp) (Nat.le_refl _)
theorem Chg.of_below {w w' : World} (h : Below w.heap.size w w') : Chg [] w w' := ⟨h.os, h.tape, h.output, h.size, fun k hk _ => h.block k hk, fun k hl => by
  obtain ⟨cur, E, hb⟩ := hl
  exact ⟨cur, E, by rw [h.block k (Array.getElem?_eq_some_iff.1 hb).1]; exact hb⟩⟩

/-- old cells and old marks read as before -/
theorem Chg.facts {w w1 : World} (h : Chg [] w w1) : (∀ b o, b < w.heap.size → w1.cell? ⟨b, o, none⟩ = w.cell? ⟨b, o, none⟩) ∧ (∀ b o, b < w.heap.size → w1.frozen? ⟨b, o, none⟩ = w.frozen? ⟨b, o, none⟩) :=
  ⟨fun b o hb => h.below0.cell (p := ⟨b, o, none⟩) hb, fun b o hb => h.below0.frozen (p := ⟨b, o, none⟩) hb⟩

/-- a block that is known stays known -/
theorem Chg.keepb {S : List Nat} {w w' : World} (h : Chg S w w') {b : Nat} {o : Obj} (hb : w.heap[b]? = some o) (hS : b ∉ S) : w'.heap[b]? = some o :=
  (h.block b (Array.getElem?_eq_some_iff.1 hb).1 hS).trans hb
theorem Chg.keep0 {w w' : World} (h : Chg [] w w') {b : Nat} {o : Obj} (hb : w.heap[b]? = some o) : w'.heap[b]? = some o := h.keepb hb (by simp)
theorem keep_alloc {w : World} {b : Nat} {o : Obj} (hb : w.heap[b]? = some o) (x : Obj) : (w.alloc x).heap[b]? = some o :=
  (Below.heap_alloc w x b (Array.getElem?_eq_some_iff.1 hb).1).trans hb
theorem new_alloc (w : World) (x : Obj) : (w.alloc x).heap[w.heap.size]? = some x := by
  show (w.heap.push x)[w.heap.size]? = some x
  simp
/-- what the walk is told of a block that is known -/
theorem cellsOf {w : World} {b : Nat} {cs : Array Value} {E : TypeId} {fr : Nat × Nat} (hb : w.heap[b]? = some (.cells cs E fr)) : ∀ j, w.cell? ⟨b, j, none⟩ = cs[j]? := fun j => cell_of_row w b j cs E fr hb
theorem freeOf {w : World} {b : Nat} {cs : Array Value} {E : TypeId} (hb : w.heap[b]? = some (.cells cs E (0, 0))) : ∀ j, w.frozen? ⟨b, j, none⟩ = false := by
  intro j; simp [World.frozen?, hb]
theorem ltOf {w : World} {b : Nat} {o : Obj} (hb : w.heap[b]? = some o) : b < w.heap.size := (Array.getElem?_eq_some_iff.1 hb).1

/-- how data of a kind lie in cells -/
structure Lay (α : Type) where
  n : Nat
  rep : World → List Value → α → List Nat → Prop
  pos : 0 < n
  len : ∀ {w : World} {cs : List Value} {x : α} {fp : List Nat}, rep w cs x fp → cs.length = n
  lt : ∀ {w : World} {cs : List Value} {x : α} {fp : List Nat}, rep w cs x fp → ∀ b ∈ fp, b < w.heap.size
  keep : ∀ {w w' : World} {cs : List Value} {x : α} {fp : List Nat}, rep w cs x fp → (∀ b ∈ fp, w'.heap[b]? = w.heap[b]?) → rep w' cs x fp
  one : ∀ {w : World} {cs : List Value} {x : α} {fp : List Nat}, rep w cs x fp → ∀ u ∈ cs, u.oneCell' = true

theorem Lay.chg {α : Type} (L : Lay α) {S : List Nat} {w w' : World} {cs : List Value} {x : α} {fp : List Nat} (h : L.rep w cs x fp) (hc : Chg S w w') (hS : ∀ b ∈ fp, b ∉ S) : L.rep w' cs x fp :=
  L.keep h (fun b hb => hc.block b (L.lt h b hb) (hS b hb))
theorem Lay.ext {α : Type} (L : Lay α) {w w' : World} {cs : List Value} {x : α} {fp : List Nat} (h : L.rep w cs x fp) (hc : Chg [] w w') : L.rep w' cs x fp := L.chg h hc (by simp)

/-- a row of data, one behind the other -/
def Lay.all {α : Type} (L : Lay α) (w : World) : List Value → List α → List Nat → Prop
  | cs, [], fp => cs = [] ∧ fp = []
  | cs, x :: xs, fp => ∃ c1 c2 f1 f2, cs = c1 ++ c2 ∧ fp = f1 ++ f2 ∧ L.rep w c1 x f1 ∧ L.all w c2 xs f2

section
variable {α : Type} (L : Lay α) {w w' : World}

theorem Lay.all_len : ∀ {xs : List α} {cs : List Value} {fp : List Nat}, L.all w cs xs fp → cs.length = xs.length * L.n := by
  intro xs
  induction xs with
  | nil => intro cs fp h; obtain ⟨rfl, _⟩ := h; simp
  | cons x xs ih =>
    intro cs fp h
    obtain ⟨c1, c2, f1, f2, rfl, rfl, h1, h2⟩ := h
    rw [List.length_append, L.len h1, ih h2, List.length_cons, Nat.add_mul, Nat.one_mul, Nat.add_comm]

theorem Lay.all_lt : ∀ {xs : List α} {cs : List Value} {fp : List Nat}, L.all w cs xs fp → ∀ b ∈ fp, b < w.heap.size := by
  intro xs
  induction xs with
  | nil => intro cs fp h b hb; obtain ⟨_, rfl⟩ := h; cases hb
  | cons x xs ih =>
    intro cs fp h b hb
    obtain ⟨c1, c2, f1, f2, rfl, rfl, h1, h2⟩ := h
    rcases List.mem_append.1 hb with h | h
    · exact L.lt h1 b h
    · exact ih h2 b h

theorem Lay.all_keep : ∀ {xs : List α} {cs : List Value} {fp : List Nat}, L.all w cs xs fp → (∀ b ∈ fp, w'.heap[b]? = w.heap[b]?) → L.all w' cs xs fp := by
  intro xs
  induction xs with
  | nil => intro cs fp h _; exact h
  | cons x xs ih =>
    intro cs fp h hk
    obtain ⟨c1, c2, f1, f2, rfl, rfl, h1, h2⟩ := h
    exact ⟨c1, c2, f1, f2, rfl, rfl, L.keep h1 (fun b hb => hk b (List.mem_append.2 (.inl hb))), ih h2 (fun b hb => hk b (List.mem_append.2 (.inr hb)))⟩

theorem Lay.all_one : ∀ {xs : List α} {cs : List Value} {fp : List Nat}, L.all w cs xs fp → ∀ u ∈ cs, u.oneCell' = true := by
  intro xs
  induction xs with
  | nil => intro cs fp h u hu; obtain ⟨rfl, _⟩ := h; cases hu
  | cons x xs ih =>
    intro cs fp h u hu
    obtain ⟨c1, c2, f1, f2, rfl, rfl, h1, h2⟩ := h
    rcases List.mem_append.1 hu with h | h
    · exact L.one h1 u h
    · exact ih h2 u h

theorem Lay.all_append : ∀ {xs : List α} {ys : List α} {c1 c2 : List Value} {f1 f2 : List Nat}, L.all w c1 xs f1 → L.all w c2 ys f2 → L.all w (c1 ++ c2) (xs ++ ys) (f1 ++ f2) := by
  intro xs
  induction xs with
  | nil => intro ys c1 c2 f1 f2 h1 h2; obtain ⟨rfl, rfl⟩ := h1; exact h2
  | cons x xs ih =>
    intro ys c1 c2 f1 f2 h1 h2
    obtain ⟨a, b, f, g, rfl, rfl, h, h'⟩ := h1
    exact ⟨a, b ++ c2, f, g ++ f2, by simp, by simp, h, ih h' h2⟩

theorem Lay.all_single {x : α} {cs : List Value} {fp : List Nat} (h : L.rep w cs x fp) : L.all w cs [x] fp := ⟨cs, [], fp, [], by simp, by simp, h, rfl, rfl⟩

/-- parted at a place -/
theorem Lay.all_split : ∀ {xs ys : List α} {cs : List Value} {fp : List Nat}, L.all w cs (xs ++ ys) fp → ∃ f1 f2, fp = f1 ++ f2 ∧ L.all w (cs.take (xs.length * L.n)) xs f1 ∧ L.all w (cs.drop (xs.length * L.n)) ys f2 := by
  intro xs
  induction xs with
  | nil => intro ys cs fp h; exact ⟨[], fp, by simp, by simp [Lay.all], by simpa using h⟩
  | cons x xs ih =>
    intro ys cs fp h
    obtain ⟨c1, c2, f1, f2, rfl, rfl, h1, h2⟩ := h
    obtain ⟨g1, g2, rfl, k1, k2⟩ := ih h2
    have hl := L.len h1
    have e : (x :: xs).length * L.n = c1.length + xs.length * L.n := by rw [List.length_cons, Nat.add_mul, Nat.one_mul, hl, Nat.add_comm]
    refine ⟨f1 ++ g1, g2, by simp, ?_, ?_⟩
    · rw [e, List.take_length_add_append]
      exact ⟨c1, _, f1, g1, rfl, rfl, h1, k1⟩
    · rw [e, List.drop_length_add_append]; exact k2

/-- the datum at a place -/
theorem Lay.all_at {xs : List α} {cs : List Value} {fp : List Nat} (h : L.all w cs xs fp) {i : Nat} {x : α} (hx : xs[i]? = some x) :
    ∃ c f, (∀ j, j < L.n → cs[i * L.n + j]? = c[j]?) ∧ L.rep w c x f ∧ (∀ b ∈ f, b ∈ fp) := by
  have hi : i < xs.length := (List.getElem?_eq_some_iff.1 hx).1
  have e : xs = xs.take i ++ (x :: xs.drop (i + 1)) := by
    have := (List.getElem?_eq_some_iff.1 hx).2
    conv => lhs; rw [← List.take_append_drop i xs, List.drop_eq_getElem_cons hi, this]
  rw [e] at h
  obtain ⟨f1, f2, rfl, h1, h2⟩ := L.all_split h
  obtain ⟨c1, c2, g1, g2, e2, rfl, k1, k2⟩ := h2
  refine ⟨c1, g1, fun j hj => ?_, k1, fun b hb => by simp [hb]⟩
  have hl : (xs.take i).length = i := by rw [List.length_take]; omega
  rw [hl] at e2
  have := congrArg (fun l : List Value => l[j]?) e2
  simp only [List.getElem?_drop] at this
  rw [this, List.getElem?_append_left (by rw [L.len k1]; exact hj)]

end

/-- a slice of data -/
def Lay.sl {α : Type} (L : Lay α) (w : World) (a : Option Addr) (len cap : Nat) (xs : List α) (fp : List Nat) : Prop :=
  len = xs.length ∧ len ≤ cap ∧ cap ≤ maxLen ∧ (a = none → cap = 0) ∧
    ((xs = [] ∧ fp = []) ∨ ∃ b off cur E fr fps, a = some ⟨b, off, none⟩ ∧ w.heap[b]? = some (.cells cur E fr) ∧ L.all w ((cur.toList.drop off).take (len * L.n)) xs fps ∧ fp = b :: fps)

section
variable {α : Type} (L : Lay α) {w w' : World} {a : Option Addr} {len cap : Nat} {xs : List α} {fp : List Nat}

theorem Lay.sl_lt (h : L.sl w a len cap xs fp) : ∀ b ∈ fp, b < w.heap.size := by
  obtain ⟨_, _, _, _, ⟨_, rfl⟩ | ⟨b, off, cur, E, fr, fps, _, hb, hall, rfl⟩⟩ := h
  · simp
  · intro x hx
    rcases List.mem_cons.1 hx with rfl | hx
    · exact (Array.getElem?_eq_some_iff.1 hb).1
    · exact L.all_lt hall x hx

theorem Lay.sl_keep (h : L.sl w a len cap xs fp) (hk : ∀ b ∈ fp, w'.heap[b]? = w.heap[b]?) : L.sl w' a len cap xs fp := by
  obtain ⟨h1, h2, h3, h4, ⟨hx, rfl⟩ | ⟨b, off, cur, E, fr, fps, ha, hb, hall, rfl⟩⟩ := h
  · exact ⟨h1, h2, h3, h4, .inl ⟨hx, rfl⟩⟩
  · exact ⟨h1, h2, h3, h4, .inr ⟨b, off, cur, E, fr, fps, ha, by rw [hk b (by simp)]; exact hb, L.all_keep hall (fun x hx => hk x (by simp [hx])), rfl⟩⟩

theorem Lay.sl_chg {S : List Nat} (h : L.sl w a len cap xs fp) (hc : Chg S w w') (hS : ∀ b ∈ fp, b ∉ S) : L.sl w' a len cap xs fp :=
  L.sl_keep h (fun b hb => hc.block b (L.sl_lt h b hb) (hS b hb))
theorem Lay.sl_ext (h : L.sl w a len cap xs fp) (hc : Chg [] w w') : L.sl w' a len cap xs fp := L.sl_chg h hc (by simp)

/-- an element of a slice: its cells, each where the code looks for it -/
theorem Lay.sl_at (h : L.sl w a len cap xs fp) {i : Nat} (hi : i < len) : ∃ x b off c f, xs[i]? = some x ∧ a = some ⟨b, off, none⟩ ∧ b ∈ fp ∧
    (∀ j, j < L.n → w.cell? ⟨b, off + i * L.n + j, none⟩ = c[j]?) ∧ L.rep w c x f ∧ (∀ y ∈ f, y ∈ fp) := by
  obtain ⟨h1, h2, h3, h4, ⟨rfl, rfl⟩ | ⟨b, off, cur, E, fr, fps, ha, hb, hall, rfl⟩⟩ := h
  · simp at h1; omega
  · have hx : xs[i]? = some (xs[i]'(by omega)) := List.getElem?_eq_getElem _
    obtain ⟨c, f, hc, hr, hf⟩ := L.all_at hall hx
    refine ⟨_, b, off, c, f, hx, ha, by simp, fun j hj => ?_, hr, fun y hy => by simp [hf y hy]⟩
    rw [cell_of_row w b _ cur E fr hb, ← hc j hj, List.getElem?_take_of_lt, List.getElem?_drop]
    · simp [Nat.add_assoc]
    · calc i * L.n + j < i * L.n + L.n := by omega
        _ = (i + 1) * L.n := by rw [Nat.add_mul, Nat.one_mul]
        _ ≤ len * L.n := Nat.mul_le_mul_right _ (by omega)
end

/-! ### the layouts -/

def byteL : Lay UInt8 where
  n := 1
  rep := fun _ cs x fp => cs = [.int .u8 x.toNat] ∧ fp = []
  pos := by decide
  len := by rintro w cs x fp ⟨rfl, rfl⟩; rfl
  lt := by rintro w cs x fp ⟨rfl, rfl⟩; simp
  keep := by rintro w w' cs x fp h _; exact h
  one := by rintro w cs x fp ⟨rfl, rfl⟩ u hu; simp at hu; subst hu; rfl

def i64ok (n : Int) : Prop := -9223372036854775808 ≤ n ∧ n ≤ 9223372036854775807

def intL : Lay Int where
  n := 1
  rep := fun _ cs x fp => cs = [.int .i64 x] ∧ i64ok x ∧ fp = []
  pos := by decide
  len := by rintro w cs x fp ⟨rfl, _, rfl⟩; rfl
  lt := by rintro w cs x fp ⟨rfl, _, rfl⟩; simp
  keep := by rintro w w' cs x fp h _; exact h
  one := by rintro w cs x fp ⟨rfl, _, rfl⟩ u hu; simp at hu; subst hu; rfl

def boolL : Lay Bool where
  n := 1
  rep := fun _ cs x fp => cs = [.bool x] ∧ fp = []
  pos := by decide
  len := by rintro w cs x fp ⟨rfl, rfl⟩; rfl
  lt := by rintro w cs x fp ⟨rfl, rfl⟩; simp
  keep := by rintro w w' cs x fp h _; exact h
  one := by rintro w cs x fp ⟨rfl, rfl⟩ u hu; simp at hu; subst hu; rfl

def strL : Lay ByteArray where
  n := 1
  rep := fun _ cs x fp => cs = [.string x] ∧ x.size ≤ maxLen ∧ fp = []
  pos := by decide
  len := by rintro w cs x fp ⟨rfl, _, rfl⟩; rfl
  lt := by rintro w cs x fp ⟨rfl, _, rfl⟩; simp
  keep := by rintro w w' cs x fp h _; exact h
  one := by rintro w cs x fp ⟨rfl, _, rfl⟩ u hu; simp at hu; subst hu; rfl

def Lay.slice {α : Type} (L : Lay α) : Lay (List α) where
  n := 1
  rep := fun w cs xs fp => ∃ a len cap, cs = [.slice a len cap] ∧ L.sl w a len cap xs fp
  pos := by decide
  len := by rintro w cs x fp ⟨a, len, cap, rfl, _⟩; rfl
  lt := by rintro w cs x fp ⟨a, len, cap, rfl, h⟩; exact L.sl_lt h
  keep := by rintro w w' cs x fp ⟨a, len, cap, rfl, h⟩ hk; exact ⟨a, len, cap, rfl, L.sl_keep h hk⟩
  one := by rintro w cs x fp ⟨a, len, cap, rfl, _⟩ u hu; simp at hu; subst hu; rfl

def Lay.pair {α β : Type} (L : Lay α) (M : Lay β) : Lay (α × β) where
  n := L.n + M.n
  rep := fun w cs x fp => ∃ c1 c2 f1 f2, cs = c1 ++ c2 ∧ fp = f1 ++ f2 ∧ L.rep w c1 x.1 f1 ∧ M.rep w c2 x.2 f2
  pos := by have := L.pos; omega
  len := by rintro w cs x fp ⟨c1, c2, f1, f2, rfl, rfl, h1, h2⟩; rw [List.length_append, L.len h1, M.len h2]
  lt := by
    rintro w cs x fp ⟨c1, c2, f1, f2, rfl, rfl, h1, h2⟩ b hb
    rcases List.mem_append.1 hb with h | h
    · exact L.lt h1 b h
    · exact M.lt h2 b h
  keep := by
    rintro w w' cs x fp ⟨c1, c2, f1, f2, rfl, rfl, h1, h2⟩ hk
    exact ⟨c1, c2, f1, f2, rfl, rfl, L.keep h1 (fun b hb => hk b (List.mem_append.2 (.inl hb))), M.keep h2 (fun b hb => hk b (List.mem_append.2 (.inr hb)))⟩
  one := by
    rintro w cs x fp ⟨c1, c2, f1, f2, rfl, rfl, h1, h2⟩ u hu
    rcases List.mem_append.1 hu with h | h
    · exact L.one h1 u h
    · exact M.one h2 u h

def Lay.via {α β : Type} (L : Lay α) (f : β → α) : Lay β where
  n := L.n
  rep := fun w cs x fp => L.rep w cs (f x) fp
  pos := L.pos
  len := fun h => L.len h
  lt := fun h => L.lt h
  keep := fun h hk => L.keep h hk
  one := fun h => L.one h

end Go.Proofs.YtphmpimgbmedbaaGreat
