/- Several texts in one. -/
import Derived.WalkKit
import Derived.WalkSpells
import Derived.WalkLawsBesides
import Derived.ProofKit
import Derived.Handy
import Derived.Lib.Hide
import Derived.ChangeArms
import Derived.Test.YthhaednigdgclaaGreatRows
import Derived.Deep.RegionLaw
import Derived.Laws.IdiomCopy
open Go.Value renaming int → I, slice → Aa, string → Ab, bool → Ac
open Go.IntKind renaming i64 → J
open Go.Obj renaming cells → Ad
open Array renaming getElem?_eq_some_iff → AC, toList_setIfInBounds → Ba, getElem?_eq_getElem → Bc, getElem_modify → Bn, toList_append → Br, length_toList → Bt, size_append → Bz
open List renaming mem_append → AD, nodup_append → AG, length_append → AH, getElem?_take_of_lt → AJ, getElem?_drop → AL, getElem?_eq_none → AO, length_cons → AP, getElem?_eq_some_iff → AV, getElem?_eq_getElem → AX, length_take → AY, eq_nil_of_length_eq_zero → AZ, size_toArray → Bb, getElem?_append_left → Be, length_drop → Bh, nodup_cons → Bi, take_append_drop → Bj, take_left → Bl, mem_cons_of_mem → Bo, mem_cons → Bq, getElem?_take → Bv, ext_getElem? → Bw, drop_drop → BA, mem_map → BF
open Nat renaming add_mul → AE, le_refl → AK, mul_le_mul_right → AQ, one_mul → AR, zero_le → AU, lt_of_lt_of_le → AW, shiftRight_eq_div_pow → Bf, add_comm → Bg, le_trans → Bu, mod_eq_of_lt → B7, add_assoc → BB, lt_irrefl → BC
open Go.World renaming setCell → Bp, setRow → BD
open Go.Addr renaming add → B5
set_option maxRecDepth 100000
set_option maxHeartbeats 8000000
namespace Go.RowKit
theorem Hid.o {p : Prop} (h : Hid p) : p := h
end Go.RowKit
namespace Go.Proofs.YthhaednigdgclaaGreat
open Go.RowKit
open Go.Lib (hid)
theorem pA (l : List Value) (i : Nat) (a : Value) : l.toArray.setIfInBounds i a = (l.set i a).toArray := List.setIfInBounds_toArray l i a
theorem pB {x : Value} {xs : List Value} {a : Value} : (x :: xs).set 0 a = a :: xs := rfl
theorem pC {x : Value} {xs : List Value} {i : Nat} {a : Value} : (x :: xs).set (i + 1) a = x :: xs.set i a := rfl
theorem q0i {k : IntKind} {a b : Int} (h : a = b) : Ending.returned (.int k a) = .returned (.int k b) := by rw [h]
theorem q0l {a b : Bool} (h : a = b) : Ending.returned (Ac a) = .returned (Ac b) := by rw [h]
def q4j (w : World) (b : Nat) : Prop := ∃ cur E, w.heap[b]? = some (Ad cur E (0, 0))
theorem q4j.lt {w : World} {b : Nat} (h : q4j w b) : b < w.heap.size := by
 obtain ⟨cur, E, h⟩ := h; exact (AC.1 h).1
structure Chg (S : List Nat) (w w' : World) : Prop where
 os : w'.os = w.os
 tape : w'.tape = w.tape
 output : w'.output = w.output
 size : w.heap.size ≤ w'.heap.size
 block : ∀ k, k < w.heap.size → k ∉ S → w'.heap[k]? = w.heap[k]?
 loose : ∀ k, q4j w k → q4j w' k
theorem q3a {w : World} {b o : Nat} {v : Value} {cur : Array Value} {E : TypeId} {fr : Nat × Nat} (hb : w.heap[b]? = some (Ad cur E fr)) :
  (w.setCell ⟨b, o, none⟩ v).heap[b]? = some (Ad (cur.setIfInBounds o v) E fr) := by
 have hlt := (AC.1 hb).1;have hv : w.heap[b] = Ad cur E fr := (AC.1 hb).2;unfold Bp;rw [Bc (by simpa using hlt), Bn];simp [hv]
theorem q4j.setCell {w : World} {b : Nat} (h : q4j w b) (p : Addr) (v : Value) : q4j (w.setCell p v) b := by
 obtain ⟨cur, E, hb⟩ := h;by_cases e : b = p.block
 ·subst e;have hlt := (AC.1 hb).1;have hv : w.heap[p.block] = Ad cur E (0, 0) := (AC.1 hb).2;refine ⟨if p.spot.isSome then cur else cur.setIfInBounds p.off v, E, ?_⟩;unfold Bp;rw [Bc (by simpa using hlt), Bn];simp [hv]
 ·exact ⟨cur, E, by rw [Below.heap_setCell _ _ _ _ e]; exact hb⟩
theorem q4j.alloc {w : World} {b : Nat} (h : q4j w b) (o : Obj) : q4j (w.alloc o) b := by
 obtain ⟨cur, E, hb⟩ := h;exact ⟨cur, E, by rw [Below.heap_alloc _ _ _ (AC.1 hb).1]; exact hb⟩
theorem Chg.refl (S : List Nat) (w : World) : Chg S w w := ⟨rfl, rfl, rfl, AK _, fun _ _ _ => rfl, fun _ h => h⟩
theorem Chg.trans {S T : List Nat} {a b c : World} (h : Chg S a b) (k : Chg T b c) (hT : ∀ x ∈ T, x ∈ S ∨ a.heap.size ≤ x) : Chg S a c :=
 ⟨k.os.trans h.os, k.tape.trans h.tape, k.output.trans h.output, Bu h.size k.size, fun i hi hS => by
  rw [k.block i (AW hi h.size) (fun hx => by rcases hT i hx with h1 | h1; exact hS h1; omega), h.block i hi hS], fun i hi => k.loose i (h.loose i hi)⟩
theorem Chg.trans0 {S : List Nat} {a b c : World} (h : Chg S a b) (k : Chg [] b c) : Chg S a c := h.trans k (fun x hx => by cases hx)
theorem Chg.mono {S T : List Nat} {a b : World} (h : Chg S a b) (hs : ∀ x ∈ S, x ∈ T ∨ a.heap.size ≤ x) : Chg T a b :=
 ⟨h.os, h.tape, h.output, h.size, fun k hk hT => h.block k hk (fun hx => by rcases hs k hx with h1 | h1; exact hT h1; omega), h.loose⟩
theorem Chg.alloc {S : List Nat} {a w : World} (h : Chg S a w) (o : Obj) : Chg S a (w.alloc o) :=
 h.trans0 ⟨rfl, rfl, rfl, by simp, fun k hk _ => Below.heap_alloc w o k hk, fun _ h => h.alloc o⟩
theorem Chg.drew {S : List Nat} {a w : World} (h : Chg S a w) : Chg S a w.drew := ⟨h.os, h.tape, h.output, h.size, h.block, h.loose⟩
theorem Chg.drewN {S : List Nat} {a w : World} (h : Chg S a w) (n : Nat) : Chg S a (w.drewN n) := ⟨h.os, h.tape, h.output, h.size, h.block, h.loose⟩
theorem Chg.setCell {S : List Nat} {a w : World} (h : Chg S a w) (p : Addr) (u : Value) (hp : p.block ∈ S ∨ a.heap.size ≤ p.block) : Chg S a (w.setCell p u) := by
 refine h.trans (T := [p.block]) ⟨rfl, rfl, rfl, by simp [Bp], fun k _ hk => Below.heap_setCell _ _ _ _ (by simpa using hk), fun _ h => h.setCell p u⟩ ?_;intro x hx; simp at hx; subst hx; exact hp
theorem Chg.below {S : List Nat} {B : Nat} {w w' : World} (h : Chg S w w') (hS : ∀ x ∈ S, B ≤ x) (hB : B ≤ w.heap.size) : Below B w w' :=
 ⟨h.os, h.tape, h.output, h.size, fun k hk => h.block k (by omega) (fun hx => by have := hS k hx; omega)⟩
theorem Chg.below0 {w w' : World} (h : Chg [] w w') : Below w.heap.size w w' := h.below (by simp) (AK _)
theorem Chg.facts {w w1 : World} (h : Chg [] w w1) : (∀ b o, b < w.heap.size → w1.cell? ⟨b, o, none⟩ = w.cell? ⟨b, o, none⟩) ∧ (∀ b o, b < w.heap.size → w1.frozen? ⟨b, o, none⟩ = w.frozen? ⟨b, o, none⟩) :=
 ⟨fun b o hb => h.below0.cell (p := ⟨b, o, none⟩) hb, fun b o hb => h.below0.frozen (p := ⟨b, o, none⟩) hb⟩
theorem Chg.keepb {S : List Nat} {w w' : World} (h : Chg S w w') {b : Nat} {o : Obj} (hb : w.heap[b]? = some o) (hS : b ∉ S) : w'.heap[b]? = some o :=
 (h.block b (AC.1 hb).1 hS).trans hb
theorem Chg.keep0 {w w' : World} (h : Chg [] w w') {b : Nat} {o : Obj} (hb : w.heap[b]? = some o) : w'.heap[b]? = some o := h.keepb hb (by simp)
theorem q0b {w : World} {b : Nat} {o : Obj} (hb : w.heap[b]? = some o) (x : Obj) : (w.alloc x).heap[b]? = some o :=
 (Below.heap_alloc w x b (AC.1 hb).1).trans hb
theorem q0k (w : World) (x : Obj) : (w.alloc x).heap[w.heap.size]? = some x := by
 show (w.heap.push x)[w.heap.size]? = some x;simp
theorem cellsOf {w : World} {b : Nat} {cs : Array Value} {E : TypeId} {fr : Nat × Nat} (hb : w.heap[b]? = some (Ad cs E fr)) : ∀ j, w.cell? ⟨b, j, none⟩ = cs[j]? := fun j => cell_of_row w b j cs E fr hb
theorem q0j {w : World} {b : Nat} {cs : Array Value} {E : TypeId} (hb : w.heap[b]? = some (Ad cs E (0, 0))) : ∀ j, w.frozen? ⟨b, j, none⟩ = false := by
 intro j; simp [World.frozen?, hb]
theorem ltOf {w : World} {b : Nat} {o : Obj} (hb : w.heap[b]? = some o) : b < w.heap.size := (AC.1 hb).1
structure Lay (α : Type) where
 n : Nat
 rep : World → List Value → α → List Nat → Prop
 pos : 0 < n
 len : ∀ {w : World} {cs : List Value} {x : α} {fp : List Nat}, rep w cs x fp → cs.length = n
 lt : ∀ {w : World} {cs : List Value} {x : α} {fp : List Nat}, rep w cs x fp → ∀ b ∈ fp, b < w.heap.size
 keep : ∀ {w w' : World} {cs : List Value} {x : α} {fp : List Nat}, rep w cs x fp → (∀ b ∈ fp, w'.heap[b]? = w.heap[b]?) → rep w' cs x fp
 one : ∀ {w : World} {cs : List Value} {x : α} {fp : List Nat}, rep w cs x fp → ∀ u ∈ cs, u.oneCell' = true
theorem Lay.chg {α : Type} (L : Lay α) {S : List Nat} {w w' : World} {cs : List Value} {x : α} {fp : List Nat} (h : L.rep w cs x fp) (hc : Chg S w w') (hS : ∀ b ∈ fp, b ∉ S) : L.rep w' cs x fp :=
 L.keep h (fun b hb => hc.block b (L.lt h b hb) (hS b hb))
theorem Lay.ext {α : Type} (L : Lay α) {w w' : World} {cs : List Value} {x : α} {fp : List Nat} (h : L.rep w cs x fp) (hc : Chg [] w w') : L.rep w' cs x fp := L.chg h hc (by simp)
def Lay.all {α : Type} (L : Lay α) (w : World) : List Value → List α → List Nat → Prop
 | cs, [], fp => cs = [] ∧ fp = []
 | cs, x :: xs, fp => ∃ c1 c2 f1 f2, cs = c1 ++ c2 ∧ fp = f1 ++ f2 ∧ L.rep w c1 x f1 ∧ L.all w c2 xs f2
section
variable {α : Type} (L : Lay α) {w w' : World}
theorem Lay.all_len : ∀ {xs : List α} {cs : List Value} {fp : List Nat}, L.all w cs xs fp → cs.length = xs.length * L.n := by
 intro xs
 induction xs with
 | nil => intro cs fp h; obtain ⟨rfl, _⟩ := h; simp
 | cons x xs ih =>
  intro cs fp h;obtain ⟨c1, c2, f1, f2, rfl, rfl, h1, h2⟩ := h;rw [AH, L.len h1, ih h2, AP, AE, AR, Bg]
theorem Lay.all_lt : ∀ {xs : List α} {cs : List Value} {fp : List Nat}, L.all w cs xs fp → ∀ b ∈ fp, b < w.heap.size := by
 intro xs
 induction xs with
 | nil => intro cs fp h b hb; obtain ⟨_, rfl⟩ := h; cases hb
 | cons x xs ih =>
  intro cs fp h b hb;obtain ⟨c1, c2, f1, f2, rfl, rfl, h1, h2⟩ := h;rcases AD.1 hb with h | h
  ·exact L.lt h1 b h
  ·exact ih h2 b h
theorem Lay.all_keep : ∀ {xs : List α} {cs : List Value} {fp : List Nat}, L.all w cs xs fp → (∀ b ∈ fp, w'.heap[b]? = w.heap[b]?) → L.all w' cs xs fp := by
 intro xs
 induction xs with
 | nil => intro cs fp h _; exact h
 | cons x xs ih =>
  intro cs fp h hk;obtain ⟨c1, c2, f1, f2, rfl, rfl, h1, h2⟩ := h;exact ⟨c1, c2, f1, f2, rfl, rfl, L.keep h1 (fun b hb => hk b (AD.2 (.inl hb))), ih h2 (fun b hb => hk b (AD.2 (.inr hb)))⟩
theorem Lay.all_one : ∀ {xs : List α} {cs : List Value} {fp : List Nat}, L.all w cs xs fp → ∀ u ∈ cs, u.oneCell' = true := by
 intro xs
 induction xs with
 | nil => intro cs fp h u hu; obtain ⟨rfl, _⟩ := h; cases hu
 | cons x xs ih =>
  intro cs fp h u hu;obtain ⟨c1, c2, f1, f2, rfl, rfl, h1, h2⟩ := h;rcases AD.1 hu with h | h
  ·exact L.one h1 u h
  ·exact ih h2 u h
theorem Lay.all_append : ∀ {xs : List α} {ys : List α} {c1 c2 : List Value} {f1 f2 : List Nat}, L.all w c1 xs f1 → L.all w c2 ys f2 → L.all w (c1 ++ c2) (xs ++ ys) (f1 ++ f2) := by
 intro xs
 induction xs with
 | nil => intro ys c1 c2 f1 f2 h1 h2; obtain ⟨rfl, rfl⟩ := h1; exact h2
 | cons x xs ih =>
  intro ys c1 c2 f1 f2 h1 h2;obtain ⟨a, b, f, g, rfl, rfl, h, h'⟩ := h1;exact ⟨a, b ++ c2, f, g ++ f2, by simp, by simp, h, ih h' h2⟩
theorem Lay.all_single {x : α} {cs : List Value} {fp : List Nat} (h : L.rep w cs x fp) : L.all w cs [x] fp := ⟨cs, [], fp, [], by simp, by simp, h, rfl, rfl⟩
theorem Lay.all_split : ∀ {xs ys : List α} {cs : List Value} {fp : List Nat}, L.all w cs (xs ++ ys) fp → ∃ f1 f2, fp = f1 ++ f2 ∧ L.all w (cs.take (xs.length * L.n)) xs f1 ∧ L.all w (cs.drop (xs.length * L.n)) ys f2 := by
 intro xs
 induction xs with
 | nil => intro ys cs fp h; exact ⟨[], fp, by simp, by simp [Lay.all], by simpa using h⟩
 | cons x xs ih =>
  intro ys cs fp h;obtain ⟨c1, c2, f1, f2, rfl, rfl, h1, h2⟩ := h;obtain ⟨g1, g2, rfl, k1, k2⟩ := ih h2;have hl := L.len h1;have e : (x :: xs).length * L.n = c1.length + xs.length * L.n := by rw [AP, AE, AR, hl, Bg]
  refine ⟨f1 ++ g1, g2, by simp, ?_, ?_⟩
  ·rw [e, List.take_length_add_append];exact ⟨c1, _, f1, g1, rfl, rfl, h1, k1⟩
  ·rw [e, List.drop_length_add_append]; exact k2
theorem Lay.all_at {xs : List α} {cs : List Value} {fp : List Nat} (h : L.all w cs xs fp) {i : Nat} {x : α} (hx : xs[i]? = some x) :
  ∃ c f, (∀ j, j < L.n → cs[i * L.n + j]? = c[j]?) ∧ L.rep w c x f ∧ (∀ b ∈ f, b ∈ fp) := by
 have hi : i < xs.length := (AV.1 hx).1;have e : xs = xs.take i ++ (x :: xs.drop (i + 1)) := by
  have := (AV.1 hx).2
  conv => lhs; rw [← Bj i xs, List.drop_eq_getElem_cons hi, this]
 rw [e] at h;obtain ⟨f1, f2, rfl, h1, h2⟩ := L.all_split h;obtain ⟨c1, c2, g1, g2, e2, rfl, k1, k2⟩ := h2;refine ⟨c1, g1, fun j hj => ?_, k1, fun b hb => by simp [hb]⟩;have hl : (xs.take i).length = i := by rw [AY]; omega
 rw [hl] at e2;have := congrArg (fun l : List Value => l[j]?) e2;simp only [AL] at this;rw [this, Be (by rw [L.len k1]; exact hj)]
end
def Lay.sl {α : Type} (L : Lay α) (w : World) (a : Option Addr) (len cap : Nat) (xs : List α) (fp : List Nat) : Prop :=
 len = xs.length ∧ len ≤ cap ∧ cap ≤ maxLen ∧ (a = none → cap = 0) ∧
  ((xs = [] ∧ fp = []) ∨ ∃ b off cur E fr Ae, a = some ⟨b, off, none⟩ ∧ w.heap[b]? = some (Ad cur E fr) ∧ L.all w ((cur.toList.drop off).take (len * L.n)) xs Ae ∧ fp = b :: Ae)
section
variable {α : Type} (L : Lay α) {w w' : World} {a : Option Addr} {len cap : Nat} {xs : List α} {fp : List Nat}
theorem Lay.sl_lt (h : L.sl w a len cap xs fp) : ∀ b ∈ fp, b < w.heap.size := by
 obtain ⟨_, _, _, _, ⟨_, rfl⟩ | ⟨b, off, cur, E, fr, Ae, _, hb, hall, rfl⟩⟩ := h
 ·simp
 ·intro x hx;rcases Bq.1 hx with rfl | hx
  ·exact (AC.1 hb).1
  ·exact L.all_lt hall x hx
theorem Lay.sl_keep (h : L.sl w a len cap xs fp) (hk : ∀ b ∈ fp, w'.heap[b]? = w.heap[b]?) : L.sl w' a len cap xs fp := by
 obtain ⟨h1, h2, h3, h4, ⟨hx, rfl⟩ | ⟨b, off, cur, E, fr, Ae, ha, hb, hall, rfl⟩⟩ := h
 ·exact ⟨h1, h2, h3, h4, .inl ⟨hx, rfl⟩⟩
 ·exact ⟨h1, h2, h3, h4, .inr ⟨b, off, cur, E, fr, Ae, ha, by rw [hk b (by simp)]; exact hb, L.all_keep hall (fun x hx => hk x (by simp [hx])), rfl⟩⟩
theorem Lay.sl_chg {S : List Nat} (h : L.sl w a len cap xs fp) (hc : Chg S w w') (hS : ∀ b ∈ fp, b ∉ S) : L.sl w' a len cap xs fp :=
 L.sl_keep h (fun b hb => hc.block b (L.sl_lt h b hb) (hS b hb))
theorem Lay.sl_ext (h : L.sl w a len cap xs fp) (hc : Chg [] w w') : L.sl w' a len cap xs fp := L.sl_chg h hc (by simp)
theorem Lay.sl_at (h : L.sl w a len cap xs fp) {i : Nat} (hi : i < len) : ∃ x b off c f, xs[i]? = some x ∧ a = some ⟨b, off, none⟩ ∧ b ∈ fp ∧
  (∀ j, j < L.n → w.cell? ⟨b, off + i * L.n + j, none⟩ = c[j]?) ∧ L.rep w c x f ∧ (∀ y ∈ f, y ∈ fp) := by
 obtain ⟨h1, h2, h3, h4, ⟨rfl, rfl⟩ | ⟨b, off, cur, E, fr, Ae, ha, hb, hall, rfl⟩⟩ := h
 ·simp at h1; omega
 ·have hx : xs[i]? = some (xs[i]'(by omega)) := AX _;obtain ⟨c, f, hc, hr, hf⟩ := L.all_at hall hx;refine ⟨_, b, off, c, f, hx, ha, by simp, fun j hj => ?_, hr, fun y hy => by simp [hf y hy]⟩;rw [cell_of_row w b _ cur E fr hb, ← hc j hj, AJ, AL]
  ·simp [BB]
  ·calc i * L.n + j < i * L.n + L.n := by omega
    _ = (i + 1) * L.n := by rw [AE, AR]
    _ ≤ len * L.n := AQ _ (by omega)
end
/-! ### the layouts -/
def q0o : Lay UInt8 where
 n := 1
 rep := fun _ cs x fp => cs = [.int .u8 x.toNat] ∧ fp = []
 pos := by decide
 len := by rintro w cs x fp ⟨rfl, rfl⟩; rfl
 lt := by rintro w cs x fp ⟨rfl, rfl⟩; simp
 keep := by rintro w w' cs x fp h _; exact h
 one := by rintro w cs x fp ⟨rfl, rfl⟩ u hu; simp at hu; subst hu; rfl
def q0s (n : Int) : Prop := -9223372036854775808 ≤ n ∧ n ≤ 9223372036854775807
def intL : Lay Int where
 n := 1
 rep := fun _ cs x fp => cs = [I J x] ∧ q0s x ∧ fp = []
 pos := by decide
 len := by rintro w cs x fp ⟨rfl, _, rfl⟩; rfl
 lt := by rintro w cs x fp ⟨rfl, _, rfl⟩; simp
 keep := by rintro w w' cs x fp h _; exact h
 one := by rintro w cs x fp ⟨rfl, _, rfl⟩ u hu; simp at hu; subst hu; rfl
def boolL : Lay Bool where
 n := 1
 rep := fun _ cs x fp => cs = [Ac x] ∧ fp = []
 pos := by decide
 len := by rintro w cs x fp ⟨rfl, rfl⟩; rfl
 lt := by rintro w cs x fp ⟨rfl, rfl⟩; simp
 keep := by rintro w w' cs x fp h _; exact h
 one := by rintro w cs x fp ⟨rfl, rfl⟩ u hu; simp at hu; subst hu; rfl
def strL : Lay ByteArray where
 n := 1
 rep := fun _ cs x fp => cs = [Ab x] ∧ x.size ≤ maxLen ∧ fp = []
 pos := by decide
 len := by rintro w cs x fp ⟨rfl, _, rfl⟩; rfl
 lt := by rintro w cs x fp ⟨rfl, _, rfl⟩; simp
 keep := by rintro w w' cs x fp h _; exact h
 one := by rintro w cs x fp ⟨rfl, _, rfl⟩ u hu; simp at hu; subst hu; rfl
def Lay.slice {α : Type} (L : Lay α) : Lay (List α) where
 n := 1
 rep := fun w cs xs fp => ∃ a len cap, cs = [Aa a len cap] ∧ L.sl w a len cap xs fp
 pos := by decide
 len := by rintro w cs x fp ⟨a, len, cap, rfl, _⟩; rfl
 lt := by rintro w cs x fp ⟨a, len, cap, rfl, h⟩; exact L.sl_lt h
 keep := by rintro w w' cs x fp ⟨a, len, cap, rfl, h⟩ hk; exact ⟨a, len, cap, rfl, L.sl_keep h hk⟩
 one := by rintro w cs x fp ⟨a, len, cap, rfl, _⟩ u hu; simp at hu; subst hu; rfl
def Lay.pair {α β : Type} (L : Lay α) (M : Lay β) : Lay (α × β) where
 n := L.n + M.n
 rep := fun w cs x fp => ∃ c1 c2 f1 f2, cs = c1 ++ c2 ∧ fp = f1 ++ f2 ∧ L.rep w c1 x.1 f1 ∧ M.rep w c2 x.2 f2
 pos := by have := L.pos; omega
 len := by rintro w cs x fp ⟨c1, c2, f1, f2, rfl, rfl, h1, h2⟩; rw [AH, L.len h1, M.len h2]
 lt := by
  rintro w cs x fp ⟨c1, c2, f1, f2, rfl, rfl, h1, h2⟩ b hb;rcases AD.1 hb with h | h
  ·exact L.lt h1 b h
  ·exact M.lt h2 b h
 keep := by
  rintro w w' cs x fp ⟨c1, c2, f1, f2, rfl, rfl, h1, h2⟩ hk;exact ⟨c1, c2, f1, f2, rfl, rfl, L.keep h1 (fun b hb => hk b (AD.2 (.inl hb))), M.keep h2 (fun b hb => hk b (AD.2 (.inr hb)))⟩
 one := by
  rintro w cs x fp ⟨c1, c2, f1, f2, rfl, rfl, h1, h2⟩ u hu;rcases AD.1 hu with h | h
  ·exact L.one h1 u h
  ·exact M.one h2 u h
def Lay.via {α β : Type} (L : Lay α) (f : β → α) : Lay β where
 n := L.n
 rep := fun w cs x fp => L.rep w cs (f x) fp
 pos := L.pos
 len := fun h => L.len h
 lt := fun h => L.lt h
 keep := fun h hk => L.keep h hk
 one := fun h => L.one h
theorem bkf {w : World} {b : Nat} {cs : Array Value} {E : TypeId} (h : w.heap[b]? = some (Ad cs E (0, 0))) : (∀ j, w.cell? ⟨b, j, none⟩ = cs[j]?) ∧ b < w.heap.size ∧ (∀ j, w.frozen? ⟨b, j, none⟩ = false) ∧ RowKit.Hid (w.heap[b]? = some (Ad cs E (0, 0))) := ⟨cellsOf h, ltOf h, q0j h, h⟩
theorem tLi {α : Type} {a : Array α} {l : List α} (h : a.toList = l) : a = l.toArray := Array.toList_inj.1 (h.trans List.toList_toArray.symm)
end Go.Proofs.YthhaednigdgclaaGreat
namespace Go.Proofs.YthhaednigdgclaaGreat
open Go.RowKit
open Go.Lib (hid)
def Opens {α : Type} (P : Program) (T : TypeId) (L : Lay α) : Prop :=
 P.cellsOf T = L.n ∧ ∀ (H : Type) (enc : TypeId × Value → H) (W : World) (fuel : Nat) (cs : List Value) (x : DataW H × List MemPlace),
  DataW.trod enc P W 0 (fun _ => true) true fuel T cs = some x → ∃ a fp, L.rep W cs a fp
theorem opens_byte {P : Program} {T : TypeId} (hT : P.underlying T = some (.int .u8)) (hc : P.cellsOf T = 1) : Opens P T q0o := by
 refine ⟨hc, fun H enc W fuel cs x h => ?_⟩;obtain ⟨n, hcs, _, hw⟩ := DataW.trod_int hT h;simp only [Lit.wf, Bool.and_eq_true, decide_eq_true_eq] at hw;have h1 : (0 : Int) ≤ n := hw.1;have h2 : n ≤ 255 := hw.2;refine ⟨UInt8.ofNat n.toNat, [], ?_, rfl⟩;rw [hcs]
 congr 2
 rw [UInt8.toNat_ofNat'];omega
theorem opens_slice {α : Type} {L : Lay α} {P : Program} {T E : TypeId} (hT : P.underlying T = some (.slice E)) (hc : P.cellsOf T = 1) (hE : Opens P E L) : Opens P T L.slice := by
 refine ⟨hc, fun H enc W fuel cs x h => ?_⟩;rcases DataW.trod_slice hT h with ⟨hcs, _⟩ | ⟨a, len, cap, elems, rest, n, _, hcs, _, _, hl, hm, hlen, Am, _, _⟩
 ·exact ⟨[], [], none, 0, 0, hcs, rfl, by omega, by simp [maxLen], fun _ => rfl, .inl ⟨rfl, rfl⟩⟩
 ·by_cases h0 : len = 0
  ·subst h0;exact ⟨[], [], some a, 0, cap, hcs, rfl, hl, hm, (fun h => by cases h), .inl ⟨rfl, rfl⟩⟩
  ·rw [hE.1] at Am;have hcell : ∀ i, i < len → ∃ c y, W.cells? 0 (a.add (i * L.n)) L.n = some c ∧ DataW.trod enc P W 0 (fun _ => true) true n E c = some y := by
    intro i hi;have h1 := Am i hi;rw [AX (by omega)] at h1;obtain ⟨c, h2, h3⟩ := Option.bind_eq_some_iff.1 h1;exact ⟨c, _, h2, h3⟩
   have cells_get : ∀ (b : Addr) (c : List Value), W.cells? 0 b L.n = some c → c.length = L.n ∧ ∀ j, j < L.n → W.cell? (b.add j) = c[j]? := by
    intro b c h;unfold World.cells? at h;rw [if_pos (AU _)] at h;exact ⟨by simpa using mapM_some_length h, fun j hj => mapM_some_get h j j (by simp [hj])⟩
   obtain ⟨c0, y0, hc0, _⟩ := hcell 0 (by omega);have hz := (cells_get _ _ hc0).2 0 L.pos;have hz' : W.cell? a = c0[0]? := by simpa [B5] using hz
   rw [AX (by rw [(cells_get _ _ hc0).1]; exact L.pos)] at hz';have hspot : a.spot = none := World.cell?_spot hz';obtain ⟨b, off, spot⟩ := a;simp only at hspot;subst hspot;obtain ⟨cur, F, fr, hb⟩ : ∃ cur F fr, W.heap[b]? = some (Ad cur F fr) := by
    simp only [World.cell?] at hz'
    split at hz' <;> simp_all
   have Ah : ∀ i j, ((⟨b, off, none⟩ : Addr).add i).add j = ⟨b, off + i + j, none⟩ := by
    intro i j;unfold B5
    split <;> split <;> simp_all
   have key : ∀ k, k ≤ len → ∃ xs Ae, xs.length = k ∧ L.all W ((cur.toList.drop off).take (k * L.n)) xs Ae := by
    intro k
    induction k with
    | zero => intro _; exact ⟨[], [], rfl, by simp [Lay.all]⟩
    | succ k ih =>
     intro hk;obtain ⟨xs, Ae, hx, hall⟩ := ih (by omega);obtain ⟨c, y, hc, hy⟩ := hcell k (by omega);obtain ⟨hcl, hcg⟩ := cells_get _ _ hc;obtain ⟨v, f, hr⟩ := hE.2 H enc W n c y hy;refine ⟨xs ++ [v], Ae ++ f, by simp [hx], ?_⟩;have e : (cur.toList.drop off).take ((k + 1) * L.n) = (cur.toList.drop off).take (k * L.n) ++ c := by
      rw [AE, AR, List.take_add]
      congr 1
      apply Bw;intro j;by_cases hj : j < L.n
      ·have := hcg j hj;rw [Ah, cell_of_row W b _ cur F fr hb] at this;rw [AJ hj, AL, AL, ← this];simp [BB]
      ·rw [AO (by simp; omega), AO (by omega)]
     rw [e];exact L.all_append hall (L.all_single hr)
   obtain ⟨xs, Ae, hx, hall⟩ := key len (AK _);exact ⟨xs, b :: Ae, some ⟨b, off, none⟩, len, cap, hcs, hx.symm, hl, hm, (fun h => by cases h), .inr ⟨b, off, cur, F, fr, Ae, rfl, hb, hall, rfl⟩⟩
theorem Opens.trod {α : Type} {L : Lay α} {P : Program} {T : TypeId} (h : Opens P T L) {H : Type} {enc : TypeId × Value → H} {W : World} {v : Value} {d : DataW H} {ps : List MemPlace}
  (hd : DataW.Trod enc P W 0 (fun _ => true) true T v d ps) : ∃ a fp, L.rep W v.cells.toList a fp := by
 obtain ⟨fuel, hf⟩ := hd;exact h.2 H enc W fuel _ _ hf
structure Shp where
 gS : Int
 cZ : Int
 data : Int
 spare : Int
 rows : Int
 cap : Int
 bT : Int
 qU : Int
 sG : Int
structure Blk where
 sM : Int
 bytes : List UInt8
structure Drv where
 wD : Bool
 blocks : List Blk
structure Rec where
 kD : Int
 seq : Int
 nM : ByteArray
 length : Int
 gP : Int
 row : Int
 rows : List Int
 data : List UInt8
 delta : List UInt8
structure Tap where
 wD : Bool
 rC : List Rec
def shpT (x : Shp) : Int × Int × Int × Int × Int × Int × Int × Int × Int := (x.gS, x.cZ, x.data, x.spare, x.rows, x.cap, x.bT, x.qU, x.sG)
def shpL : Lay Shp := (intL.pair (intL.pair (intL.pair (intL.pair (intL.pair (intL.pair (intL.pair (intL.pair (intL))))))))).via shpT
def blkT (x : Blk) : Int × (List UInt8) := (x.sM, x.bytes)
def blkL : Lay Blk := (intL.pair (q0o.slice)).via blkT
theorem q5c {w : World} {cs : List Value} {x : Blk} {fp : List Nat} : blkL.rep w cs x fp ↔ ∃ (a1 : Option Addr) (l1 c1 : Nat) (f1 : List Nat), cs = [I J x.sM, Aa a1 l1 c1] ∧ q0s x.sM ∧ q0o.sl w a1 l1 c1 x.bytes f1 ∧ fp = f1 := by
 constructor
 ·rintro ⟨_, _, _, f1, rfl, rfl, ⟨rfl, h0, rfl⟩, a1, l1, c1, rfl, h1⟩;exact ⟨a1, l1, c1, f1, rfl, h0, h1, rfl⟩
 ·rintro ⟨a1, l1, c1, f1, rfl, h0, h1, rfl⟩;exact ⟨[_], _, [], _, rfl, rfl, ⟨rfl, h0, rfl⟩, _, _, _, rfl, h1⟩
def drvT (x : Drv) : Bool × (List Blk) := (x.wD, x.blocks)
def drvL : Lay Drv := (boolL.pair (blkL.slice)).via drvT
theorem q8w {w : World} {cs : List Value} {x : Drv} {fp : List Nat} : drvL.rep w cs x fp ↔ ∃ (a1 : Option Addr) (l1 c1 : Nat) (f1 : List Nat), cs = [Ac x.wD, Aa a1 l1 c1] ∧ blkL.sl w a1 l1 c1 x.blocks f1 ∧ fp = f1 := by
 constructor
 ·rintro ⟨_, _, _, f1, rfl, rfl, ⟨rfl, rfl⟩, a1, l1, c1, rfl, h1⟩;exact ⟨a1, l1, c1, f1, rfl, h1, rfl⟩
 ·rintro ⟨a1, l1, c1, f1, rfl, h1, rfl⟩;exact ⟨[_], _, [], _, rfl, rfl, ⟨rfl, rfl⟩, _, _, _, rfl, h1⟩
def recT (x : Rec) : Int × Int × ByteArray × Int × Int × Int × (List Int) × (List UInt8) × (List UInt8) := (x.kD, x.seq, x.nM, x.length, x.gP, x.row, x.rows, x.data, x.delta)
def recL : Lay Rec := (intL.pair (intL.pair (strL.pair (intL.pair (intL.pair (intL.pair (intL.slice.pair (q0o.slice.pair (q0o.slice))))))))).via recT
theorem q0m {w : World} {cs : List Value} {x : Rec} {fp : List Nat} : recL.rep w cs x fp ↔ ∃ (a6 : Option Addr) (l6 c6 : Nat) (f6 : List Nat) (a7 : Option Addr) (l7 c7 : Nat) (f7 : List Nat) (a8 : Option Addr) (l8 c8 : Nat) (f8 : List Nat), cs = [I J x.kD, I J x.seq, Ab x.nM, I J x.length, I J x.gP, I J x.row, Aa a6 l6 c6, Aa a7 l7 c7, Aa a8 l8 c8] ∧ q0s x.kD ∧ q0s x.seq ∧ x.nM.size ≤ maxLen ∧ q0s x.length ∧ q0s x.gP ∧ q0s x.row ∧ intL.sl w a6 l6 c6 x.rows f6 ∧ q0o.sl w a7 l7 c7 x.data f7 ∧ q0o.sl w a8 l8 c8 x.delta f8 ∧ fp = f6 ++ (f7 ++ (f8)) := by
 constructor
 ·rintro ⟨_, _, _, _, rfl, rfl, ⟨rfl, h0, rfl⟩, _, _, _, _, rfl, rfl, ⟨rfl, h1, rfl⟩, _, _, _, _, rfl, rfl, ⟨rfl, h2, rfl⟩, _, _, _, _, rfl, rfl, ⟨rfl, h3, rfl⟩, _, _, _, _, rfl, rfl, ⟨rfl, h4, rfl⟩, _, _, _, _, rfl, rfl, ⟨rfl, h5, rfl⟩, _, _, f6, _, rfl, rfl, ⟨a6, l6, c6, rfl, h6⟩, _, _, f7, f8, rfl, rfl, ⟨a7, l7, c7, rfl, h7⟩, a8, l8, c8, rfl, h8⟩;exact ⟨a6, l6, c6, f6, a7, l7, c7, f7, a8, l8, c8, f8, rfl, h0, h1, h2, h3, h4, h5, h6, h7, h8, rfl⟩
 ·rintro ⟨a6, l6, c6, f6, a7, l7, c7, f7, a8, l8, c8, f8, rfl, h0, h1, h2, h3, h4, h5, h6, h7, h8, rfl⟩;exact ⟨[_], _, [], _, rfl, rfl, ⟨rfl, h0, rfl⟩, [_], _, [], _, rfl, rfl, ⟨rfl, h1, rfl⟩, [_], _, [], _, rfl, rfl, ⟨rfl, h2, rfl⟩, [_], _, [], _, rfl, rfl, ⟨rfl, h3, rfl⟩, [_], _, [], _, rfl, rfl, ⟨rfl, h4, rfl⟩, [_], _, [], _, rfl, rfl, ⟨rfl, h5, rfl⟩, [_], _, f6, _, rfl, rfl, ⟨_, _, _, rfl, h6⟩, [_], _, f7, _, rfl, rfl, ⟨_, _, _, rfl, h7⟩, _, _, _, rfl, h8⟩
def tapT (x : Tap) : Bool × (List Rec) := (x.wD, x.rC)
def tapL : Lay Tap := (boolL.pair (recL.slice)).via tapT
theorem q2d {w : World} {cs : List Value} {x : Tap} {fp : List Nat} : tapL.rep w cs x fp ↔ ∃ (a1 : Option Addr) (l1 c1 : Nat) (f1 : List Nat), cs = [Ac x.wD, Aa a1 l1 c1] ∧ recL.sl w a1 l1 c1 x.rC f1 ∧ fp = f1 := by
 constructor
 ·rintro ⟨_, _, _, f1, rfl, rfl, ⟨rfl, rfl⟩, a1, l1, c1, rfl, h1⟩;exact ⟨a1, l1, c1, f1, rfl, h1, rfl⟩
 ·rintro ⟨a1, l1, c1, f1, rfl, h1, rfl⟩;exact ⟨[_], _, [], _, rfl, rfl, ⟨rfl, rfl⟩, _, _, _, rfl, h1⟩
structure Wld where
 sH : Shp
 gS : List (List Drv)
 on : List Int
 tapes : List Tap
 wT : Int
 sP : Int
 dN : Bool
def wldT (x : Wld) : Shp × (List (List Drv)) × (List Int) × (List Tap) × Int × Int × Bool := (x.sH, x.gS, x.on, x.tapes, x.wT, x.sP, x.dN)
def wldL : Lay Wld := (shpL.pair (drvL.slice.slice.pair (intL.slice.pair (tapL.slice.pair (intL.pair (intL.pair (boolL))))))).via wldT
theorem q1f {w : World} {cs : List Value} {x : Wld} {fp : List Nat} : wldL.rep w cs x fp ↔ ∃ (Ar : Option Addr) (l10 c10 : Nat) (f10 : List Nat) (Aq : Option Addr) (Ak c11 : Nat) (f11 : List Nat) (Ap : Option Addr) (Aj c12 : Nat) (Ai : List Nat), cs = [I J x.sH.gS, I J x.sH.cZ, I J x.sH.data, I J x.sH.spare, I J x.sH.rows, I J x.sH.cap, I J x.sH.bT, I J x.sH.qU, I J x.sH.sG, Aa Ar l10 c10, Aa Aq Ak c11, Aa Ap Aj c12, I J x.wT, I J x.sP, Ac x.dN] ∧ q0s x.sH.gS ∧ q0s x.sH.cZ ∧ q0s x.sH.data ∧ q0s x.sH.spare ∧ q0s x.sH.rows ∧ q0s x.sH.cap ∧ q0s x.sH.bT ∧ q0s x.sH.qU ∧ q0s x.sH.sG ∧ drvL.slice.sl w Ar l10 c10 x.gS f10 ∧ intL.sl w Aq Ak c11 x.on f11 ∧ tapL.sl w Ap Aj c12 x.tapes Ai ∧ q0s x.wT ∧ q0s x.sP ∧ fp = f10 ++ (f11 ++ (Ai ++ ([]))) := by
 constructor
 ·rintro ⟨_, _, _, _, rfl, rfl, ⟨_, _, _, _, rfl, rfl, ⟨rfl, h1, rfl⟩, _, _, _, _, rfl, rfl, ⟨rfl, h2, rfl⟩, _, _, _, _, rfl, rfl, ⟨rfl, h3, rfl⟩, _, _, _, _, rfl, rfl, ⟨rfl, h4, rfl⟩, _, _, _, _, rfl, rfl, ⟨rfl, h5, rfl⟩, _, _, _, _, rfl, rfl, ⟨rfl, h6, rfl⟩, _, _, _, _, rfl, rfl, ⟨rfl, h7, rfl⟩, _, _, _, _, rfl, rfl, ⟨rfl, h8, rfl⟩, rfl, h9, rfl⟩, _, _, f10, _, rfl, rfl, ⟨Ar, l10, c10, rfl, h10⟩, _, _, f11, _, rfl, rfl, ⟨Aq, Ak, c11, rfl, h11⟩, _, _, Ai, _, rfl, rfl, ⟨Ap, Aj, c12, rfl, AB⟩, _, _, _, _, rfl, rfl, ⟨rfl, AA, rfl⟩, _, _, _, _, rfl, rfl, ⟨rfl, A9, rfl⟩, rfl, rfl⟩;exact ⟨Ar, l10, c10, f10, Aq, Ak, c11, f11, Ap, Aj, c12, Ai, rfl, h1, h2, h3, h4, h5, h6, h7, h8, h9, h10, h11, AB, AA, A9, rfl⟩
 ·rintro ⟨Ar, l10, c10, f10, Aq, Ak, c11, f11, Ap, Aj, c12, Ai, rfl, h1, h2, h3, h4, h5, h6, h7, h8, h9, h10, h11, AB, AA, A9, rfl⟩;exact ⟨[_, _, _, _, _, _, _, _, _], _, [], _, rfl, rfl, ⟨[_], _, [], _, rfl, rfl, ⟨rfl, h1, rfl⟩, [_], _, [], _, rfl, rfl, ⟨rfl, h2, rfl⟩, [_], _, [], _, rfl, rfl, ⟨rfl, h3, rfl⟩, [_], _, [], _, rfl, rfl, ⟨rfl, h4, rfl⟩, [_], _, [], _, rfl, rfl, ⟨rfl, h5, rfl⟩, [_], _, [], _, rfl, rfl, ⟨rfl, h6, rfl⟩, [_], _, [], _, rfl, rfl, ⟨rfl, h7, rfl⟩, [_], _, [], _, rfl, rfl, ⟨rfl, h8, rfl⟩, rfl, h9, rfl⟩, [_], _, f10, _, rfl, rfl, ⟨_, _, _, rfl, h10⟩, [_], _, f11, _, rfl, rfl, ⟨_, _, _, rfl, h11⟩, [_], _, Ai, _, rfl, rfl, ⟨_, _, _, rfl, AB⟩, [_], _, [], _, rfl, rfl, ⟨rfl, AA, rfl⟩, [_], _, [], _, rfl, rfl, ⟨rfl, A9, rfl⟩, rfl, rfl⟩
theorem op_byte : Opens Tryz.prog 5 q0o := opens_byte Tryz.underlying5 (by kernel_rfl)
theorem op_bytes : Opens Tryz.prog 22 q0o.slice := opens_slice Tryz.underlying22 (by kernel_rfl) op_byte
end Go.Proofs.YthhaednigdgclaaGreat
namespace Go.Proofs.YthhaednigdgclaaGreat
open Go.RowKit
open Go.Lib (hid)
def Lay.os {α : Type} (L : Lay α) (E : TypeId) (w : World) (v : Value) (xs : List α) (h : Option Nat) (Ae : List Nat) : Prop :=
 (v = Aa none 0 0 ∧ xs = [] ∧ h = none ∧ Ae = []) ∨
 ∃ g cap cur, v = Aa (some ⟨g, 0, none⟩) xs.length cap ∧ h = some g ∧ w.heap[g]? = some (Ad cur E (0, 0)) ∧ xs.length ≤ cap ∧ cap ≤ maxLen ∧ cur.size = cap * L.n ∧
  L.all w (cur.toList.take (xs.length * L.n)) xs Ae ∧ g ∉ Ae
section
variable {α : Type} (L : Lay α) {E : TypeId} {w w' : World} {v : Value} {xs : List α} {h : Option Nat} {Ae : List Nat}
theorem Lay.os_nil (E : TypeId) (w : World) : L.os E w (Aa none 0 0) [] none [] := .inl ⟨rfl, rfl, rfl, rfl⟩
theorem Lay.os_made (E : TypeId) (w : World) (cur : Array Value) (cap : Nat) (hm : cap ≤ maxLen) (hs : cur.size = cap * L.n) :
  L.os E (w.alloc (Ad cur E)) (Aa (some ⟨w.heap.size, 0, none⟩) 0 cap) [] (some w.heap.size) [] :=
 .inr ⟨w.heap.size, cap, cur, rfl, rfl, q0k w _, AU _, hm, hs, by simp [Lay.all], by simp⟩
theorem Lay.os_lt (ho : L.os E w v xs h Ae) : (∀ g, h = some g → g < w.heap.size) ∧ ∀ b ∈ Ae, b < w.heap.size := by
 rcases ho with ⟨rfl, rfl, rfl, rfl⟩ | ⟨g, cap, cur, rfl, rfl, hg, _, _, _, hall, _⟩
 ·exact ⟨by simp, by simp⟩
 ·exact ⟨fun k hk => by cases hk; exact ltOf hg, L.all_lt hall⟩
theorem Lay.os_keep (ho : L.os E w v xs h Ae) (hh : ∀ g, h = some g → w'.heap[g]? = w.heap[g]?) (hf : ∀ b ∈ Ae, w'.heap[b]? = w.heap[b]?) : L.os E w' v xs h Ae := by
 rcases ho with hn | ⟨g, cap, cur, rfl, rfl, hg, h1, h2, h3, hall, h4⟩
 ·exact .inl hn
 ·exact .inr ⟨g, cap, cur, rfl, rfl, by rw [hh g rfl]; exact hg, h1, h2, h3, L.all_keep hall hf, h4⟩
theorem Lay.os_chg {S : List Nat} (ho : L.os E w v xs h Ae) (hc : Chg S w w') (hh : ∀ g, h = some g → g ∉ S) (hf : ∀ b ∈ Ae, b ∉ S) : L.os E w' v xs h Ae :=
 L.os_keep ho (fun g hg => hc.block g ((L.os_lt ho).1 g hg) (hh g hg)) (fun b hb => hc.block b ((L.os_lt ho).2 b hb) (hf b hb))
theorem Lay.os_ext (ho : L.os E w v xs h Ae) (hc : Chg [] w w') : L.os E w' v xs h Ae := L.os_chg ho hc (by simp) (by simp)
theorem Lay.os_alloc (ho : L.os E w v xs h Ae) (o : Obj) : L.os E (w.alloc o) v xs h Ae := L.os_ext ho ((Chg.refl [] w).alloc o)
theorem Lay.os_len (ho : L.os E w v xs h Ae) : ∃ a cap, v = Aa a xs.length cap := by
 rcases ho with ⟨rfl, rfl, _, _⟩ | ⟨g, cap, cur, rfl, _⟩
 ·exact ⟨none, 0, rfl⟩
 ·exact ⟨_, cap, rfl⟩
theorem Lay.os_sl (ho : L.os E w v xs h Ae) : ∃ a cap, v = Aa a xs.length cap ∧ L.sl w a xs.length cap xs (h.toList ++ Ae) := by
 rcases ho with ⟨rfl, rfl, rfl, rfl⟩ | ⟨g, cap, cur, rfl, rfl, hg, h1, h2, h3, hall, h4⟩
 ·exact ⟨none, 0, rfl, rfl, AK _, by simp [maxLen], fun _ => rfl, .inl ⟨rfl, rfl⟩⟩
 ·exact ⟨_, cap, rfl, rfl, h1, h2, (fun h => by cases h), .inr ⟨g, 0, cur, E, (0, 0), Ae, rfl, hg, by simpa using hall, rfl⟩⟩
end
structure Kind (P : Program) (E : TypeId) (n bytes : Nat) where
 i : TypeInfo
 z : Value
 info : P.info? E = some i
 zero : i.zero = some z
 size : i.size = n
 byt : i.bytes = bytes
 zc : z.cells.size = n
section
variable {α : Type} (L : Lay α) {P : Program} {E T : TypeId} {bytes : Nat} {w : World} {v : Value} {xs ys : List α} {h : Option Nat} {Ae f : List Nat}
theorem Lay.run_append (t ty : TypeId) (ht : P.underlying t = some (.slice E)) (K : Kind P E L.n bytes) (ho : L.os E w v xs h Ae)
  (ad : Addr) (c : Nat) (news : List Value) (hnews : ∀ j u, news[j]? = some u → w.cell? (ad.add j) = some u) (hall : L.all w news ys f) (hf : ∀ g, h = some g → g ∉ f)
  (h63 : xs.length + ys.length ≤ maxLen) (hbytes : (xs.length + ys.length) * bytes ≤ 140737488355328) :
  ∃ v' w' h', (Builtin.append_ #[t, t] ty #[v, Aa (some ad) ys.length c]).run P w = .ok v' w' ∧ L.os E w' v' (xs ++ ys) h' (Ae ++ f) ∧ (h' = h ∨ h' = some w.heap.size) ∧ Chg h.toList w w' ∧
   (∀ g, h' = some g → g < w'.heap.size) := by
 have Al : xs.length + ys.length ≤ 9223372036854775807 := by simp only [maxLen] at h63; omega
 have hl := L.all_len hall;have h1 := L.all_one hall;have hl' : news.length = ys.length * K.i.size := by rw [K.size]; exact hl
 have Ag : (xs.length + ys.length) * K.i.bytes ≤ 140737488355328 := by rw [K.byt]; exact hbytes
 have hpos := L.pos;rcases ho with ⟨rfl, rfl, rfl, rfl⟩ | ⟨g, cap, cur, rfl, rfl, hg, hnc, hcm, hcs, hold, Ax⟩
 ·by_cases hm : ys.length = 0
  ·obtain rfl : ys = [] := AZ hm;obtain ⟨rfl, rfl⟩ := hall;refine ⟨Aa none 0 0, w, none, ?_, L.os_nil E w, .inl rfl, Chg.refl _ _, by simp⟩;simp [Builtin.append_, run_underlying ht, sizeOf, typeInfo, K.info, Builtin.lenOf, Builtin.firstCells, loadCells, loadCellsFrom]
  ·have hr := run_append_nil (P := P) w t ty E K.i K.z ht K.info K.zero ad ys.length c news hl' hnews (by omega) (by simp at Al; omega) (by simp only [List.length_nil, Nat.zero_add] at Ag; omega);refine ⟨_, _, some w.heap.size, hr, ?_, .inr rfl, ?_, fun g hg => by cases hg; simp⟩
   ·refine .inr ⟨w.heap.size, grownCap w ys.length 0 E, _, by simp, rfl, q0k w.drew _, by simpa using grownCap_ge w ys.length 0 E, by simpa using grownCap_le_maxLen w ys.length 0 E (by simpa using h63), ?_, ?_, ?_⟩
    ·have hge := grownCap_ge w ys.length 0 E;simp only [Bz, Bb, size_zeroCells, K.zc, hl, ← AE]
     congr 1
     omega
    ·simp only [List.nil_append, Br];rw [← hl, Bl];exact L.all_keep hall (fun b hb => Below.heap_alloc w.drew _ b (L.all_lt hall b hb))
    ·intro hb;have := L.all_lt hall _ (by simpa using hb);omega
   ·exact ((Chg.refl _ w).drew).alloc _
 ·have Af := L.all_len hold;by_cases hroom : xs.length + ys.length ≤ cap
  ·have Az : xs.length * K.i.size + news.length ≤ cur.size := by rw [K.size, hl, hcs, ← AE]; exact AQ _ hroom
   have hr := run_append_room (P := P) w t ty E K.i ht K.info g xs.length cap cur hg ad ys.length c news hl' hnews h1 hroom Az;have hlt := ltOf hg;have Au : ∀ k, k ≠ g → (w.setRow g (cur.toList.take (xs.length * K.i.size) ++ news ++ cur.toList.drop (xs.length * K.i.size + news.length)).toArray).heap[k]? = w.heap[k]? := fun k hk => setRow_other w g k _ hk
   refine ⟨_, _, some g, hr, ?_, .inl rfl, ⟨rfl, rfl, rfl, by simp [BD], fun k _ hk => Au k (by simpa using hk), fun k hk => by
    by_cases e : k = g
    ·subst e; exact ⟨_, E, setRow_heap w k cur _ E _ hg⟩
    ·obtain ⟨c2, E2, h2⟩ := hk;exact ⟨c2, E2, by rw [Au k e]; exact h2⟩⟩, fun g' Ay => by cases Ay; simpa [BD] using hlt⟩
   refine .inr ⟨g, cap, _, by simp, rfl, setRow_heap w g cur _ E _ hg, by simpa using hroom, hcm, ?_, ?_, ?_⟩
   ·simp only [Bb, AH, AY, Bh, Bt];omega
   ·rw [K.size];have e : (xs ++ ys).length * L.n = (cur.toList.take (xs.length * L.n) ++ news).length := by
     rw [AH, AH, Af, hl, AE]
    have e2 : (cur.toList.take (xs.length * L.n) ++ news ++ cur.toList.drop (xs.length * L.n + news.length)).take ((xs ++ ys).length * L.n) = cur.toList.take (xs.length * L.n) ++ news := by
     rw [e, Bl]
    rw [e2];rw [K.size] at Au;exact L.all_append (L.all_keep hold (fun b hb => Au b (fun e => Ax (e ▸ hb)))) (L.all_keep hall (fun b hb => Au b (fun e => hf g rfl (e ▸ hb))))
   ·intro hb;rcases AD.1 hb with hb | hb
    ·exact Ax hb
    ·exact hf g rfl hb
  ·have holds : ∀ j u, (cur.toList.take (xs.length * L.n))[j]? = some u → w.cell? ((⟨g, 0, none⟩ : Addr).add j) = some u := by
    intro j u hu;have Ah : (⟨g, 0, none⟩ : Addr).add j = ⟨g, j, none⟩ := by unfold B5; split <;> simp_all
    rw [Ah, cell_of_row w g j cur E (0, 0) hg];rw [Bv] at hu
    split at hu
    ·simpa using hu
    ·cases hu
   have hr := run_append_grow (P := P) w t ty E K.i K.z ht K.info K.zero ⟨g, 0, none⟩ xs.length cap (cur.toList.take (xs.length * L.n)) (by rw [K.size]; exact Af) holds ad ys.length c news hl' hnews (by omega) (by omega) (growslice_fits (by omega) Ag);have hlt := ltOf hg;refine ⟨_, _, some w.heap.size, hr, ?_, .inr rfl, ((Chg.refl _ w).drew).alloc _, fun g' Ay => by cases Ay; simp⟩;refine .inr ⟨w.heap.size, grownCap w (xs.length + ys.length) cap E, _, by simp, rfl, q0k w.drew _, by simpa using grownCap_ge w (xs.length + ys.length) cap E, by simpa using grownCap_le_maxLen w (xs.length + ys.length) cap E h63, ?_, ?_, ?_⟩
   ·have hge := grownCap_ge w (xs.length + ys.length) cap E;simp only [Bz, Bb, size_zeroCells, K.zc, Af, hl, ← AE]
    congr 1
    omega
   ·have e : (xs ++ ys).length * L.n = (cur.toList.take (xs.length * L.n) ++ news).length := by
     rw [AH, AH, Af, hl, AE]
    simp only [Br];rw [e, Bl];exact L.all_append (L.all_keep hold (fun b hb => Below.heap_alloc w.drew _ b (L.all_lt hold b hb))) (L.all_keep hall (fun b hb => Below.heap_alloc w.drew _ b (L.all_lt hall b hb)))
   ·intro hb;rcases AD.1 hb with hb | hb
    ·have := L.all_lt hold _ hb; omega
    ·have := L.all_lt hall _ hb; omega
theorem Lay.wp_append {o : Oper} {a : Act} {Kc : Act → World → Prop} {Q : Exit → Act → World → Prop} (s x : Operand) (t : TypeId)
  (hop : o.op = .call { callee := .builtin .append, args := #[s, x], argTypes := #[t, t] }) (ht : P.underlying t = some (.slice E)) (K : Kind P E L.n bytes)
  (hs : a.eval s = v) (ho : L.os E w v xs h Ae)
  (ad : Addr) (m c : Nat) (news : List Value) (hx : a.eval x = Aa (some ad) m c) (hm : m = ys.length) (hnews : ∀ j u, news[j]? = some u → w.cell? (ad.add j) = some u) (hall : L.all w news ys f) (hf : ∀ g, h = some g → g ∉ f)
  (h63 : xs.length + ys.length ≤ maxLen) (hbytes : (xs.length + ys.length) * bytes ≤ 140737488355328)
  (hk : ∀ v' w' h', L.os E w' v' (xs ++ ys) h' (Ae ++ f) → (h' = h ∨ h' = some w.heap.size) → Chg h.toList w w' → Kc (a.put o.dst v') w') : o.wp P a w Kc Q := by
 subst hm;obtain ⟨v', w', h', hr, h2, h3, h4, _⟩ := L.run_append (P := P) t o.type ht K ho ad c news hnews hall hf h63 hbytes;unfold Oper.wp execOp;simp only [hop, resolve, invoke, builtin, Sem.run_bind, Sem.run_pure, Result.andThen_ok, List.map_toArray, List.map_cons, List.map_nil, hs, hx, hr];exact hk v' w' h' h2 h3 h4
theorem Lay.wpList_append {ops : Array Oper} {rest : List Oper} {o : Oper} {a : Act} {Q : Exit → Act → World → Prop} (hgd : o.guard = none) (s x : Operand) (t : TypeId)
  (hop : o.op = .call { callee := .builtin .append, args := #[s, x], argTypes := #[t, t] }) (ht : P.underlying t = some (.slice E)) (K : Kind P E L.n bytes)
  (hs : a.eval s = v) (ho : L.os E w v xs h Ae)
  (ad : Addr) (m c : Nat) (news : List Value) (hx : a.eval x = Aa (some ad) m c) (hm : m = ys.length) (hnews : ∀ j u, news[j]? = some u → w.cell? (ad.add j) = some u) (hall : L.all w news ys f) (hf : ∀ g, h = some g → g ∉ f)
  (h63 : xs.length + ys.length ≤ maxLen) (hbytes : (xs.length + ys.length) * bytes ≤ 140737488355328)
  (hk : ∀ v' w' h', L.os E w' v' (xs ++ ys) h' (Ae ++ f) → (h' = h ∨ h' = some w.heap.size) → Chg h.toList w w' → wpList P ops Q rest (a.put o.dst v') w') : wpList P ops Q (o :: rest) a w :=
 wpList_plain hgd fun _ hK => L.wp_append s x t hop ht K hs ho ad m c news hx hm hnews hall hf h63 hbytes fun v' w' h' h1 h2 h3 => hK _ _ (hk v' w' h' h1 h2 h3)
theorem Lay.step_append {ops : Array Oper} {o : Oper} {a : Act} {Kc : Act → World → Prop} {Q : Exit → Act → World → Prop} {R : Prop} (hgd : o.guard = none) (s x : Operand) (t : TypeId)
  (hop : o.op = .call { callee := .builtin .append, args := #[s, x], argTypes := #[t, t] }) (ht : P.underlying t = some (.slice E)) (K : Kind P E L.n bytes)
  (hs : a.eval s = v) (ho : L.os E w v xs h Ae)
  (ad : Addr) (m c : Nat) (news : List Value) (hx : a.eval x = Aa (some ad) m c) (hm : m = ys.length) (hnews : ∀ j u, news[j]? = some u → w.cell? (ad.add j) = some u) (hall : L.all w news ys f) (hf : ∀ g, h = some g → g ∉ f)
  (h63 : xs.length + ys.length ≤ maxLen) (hbytes : (xs.length + ys.length) * bytes ≤ 140737488355328)
  (hk : ∀ v' w' h', L.os E w' v' (xs ++ ys) h' (Ae ++ f) → (h' = h ∨ h' = some w.heap.size) → Chg h.toList w w' → Kc (a.put o.dst v') w') :
  if Region.wanted o (yielded ops a.tmps) = true then Oper.wp P o a w Kc Q else R := by
 have hw : Region.wanted o (yielded ops a.tmps) = true := by simp [Region.wanted, hgd]
 rw [if_pos hw];exact L.wp_append s x t hop ht K hs ho ad m c news hx hm hnews hall hf h63 hbytes hk
end
def q1r (B : Nat) (w : World) (fp : List Nat) : Prop := fp.Nodup ∧ ∀ b ∈ fp, B ≤ b ∧ q4j w b
theorem q1r.nil (B : Nat) (w : World) : q1r B w [] := ⟨List.nodup_nil, by simp⟩
theorem q1r.chg {B : Nat} {S : List Nat} {w w' : World} {fp : List Nat} (h : q1r B w fp) (hc : Chg S w w') : q1r B w' fp :=
 ⟨h.1, fun b hb => ⟨(h.2 b hb).1, hc.loose b (h.2 b hb).2⟩⟩
theorem q1r.mono {B C : Nat} {w : World} {fp : List Nat} (h : q1r B w fp) (hC : C ≤ B) : q1r C w fp := ⟨h.1, fun b hb => ⟨by have := (h.2 b hb).1; omega, (h.2 b hb).2⟩⟩
def Lay.flat {α : Type} (L : Lay α) : Prop := ∀ w cs x fp, L.rep w cs x fp → fp = []
theorem q5w : q0o.flat := fun _ _ _ _ h => h.2
theorem q8v : intL.flat := fun _ _ _ _ h => h.2.2
theorem Lay.flat_all {α : Type} {L : Lay α} (hL : L.flat) {w : World} : ∀ {xs : List α} {cs : List Value} {fp : List Nat}, L.all w cs xs fp → fp = [] := by
 intro xs
 induction xs with
 | nil => intro cs fp h; exact h.2
 | cons x xs ih =>
  intro cs fp h;obtain ⟨c1, c2, f1, f2, _, rfl, h1, h2⟩ := h;rw [hL _ _ _ _ h1, ih h2]; rfl
def q7r {α : Type} (L : Lay α) (xs : List α) (w : World) (e : Ending) (w' : World) : Prop :=
 ∃ a cap fp, e = .returned (Aa a xs.length cap) ∧ L.sl w' a xs.length cap xs fp ∧ q1r w.heap.size w' fp ∧ Chg [] w w'
theorem Lay.os_new {α : Type} {L : Lay α} {E : TypeId} {w w' : World} {v : Value} {xs : List α} {h : Option Nat} {Ae : List Nat} (ho : L.os E w' v xs h Ae) (hL : L.flat) (hc : Chg [] w w') (hh : ∀ g, h = some g → w.heap.size ≤ g) :
  q7r L xs w (.returned v) w' := by
 obtain ⟨a, cap, rfl, hs⟩ := L.os_sl ho;refine ⟨a, cap, _, rfl, hs, ?_, hc⟩;rcases ho with ⟨_, _, rfl, rfl⟩ | ⟨g, cap', cur, _, rfl, hg, _, _, _, hall, Ax⟩
 ·exact q1r.nil _ _
 ·rw [Lay.flat_all hL hall];exact ⟨by simp, fun b hb => by simp at hb; subst hb; exact ⟨hh b rfl, cur, E, hg⟩⟩
theorem new_cell (w : World) (x : Value) (E : TypeId) : ∀ j u, [x][j]? = some u → (w.alloc (.cells #[x] E)).cell? ((⟨w.heap.size, 0, none⟩ : Addr).add j) = some u := by
 intro j u hu;cases j with
 | zero => simp at hu; subst hu; rw [show (⟨w.heap.size, 0, none⟩ : Addr).add 0 = ⟨w.heap.size, 0, none⟩ from rfl, cell_of_row _ _ _ _ _ _ (q0k w _)]; rfl
 | succ j => simp at hu
theorem q4o {w : World} {a : Option Addr} {len cap : Nat} {xs : List UInt8} {fp : List Nat} (h : q0o.sl w a len cap xs fp) {i : Nat} (hi : i < len) :
  ∃ (x : UInt8) (X : Int) (b off : Nat), Hid (xs[i]? = some x ∧ X = x.toNat ∧ b ∈ fp) ∧ a = some ⟨b, off, none⟩ ∧ w.cell? ⟨b, off + i, none⟩ = some (.int .u8 X) ∧ 0 ≤ X ∧ X < 256 := by
 obtain ⟨x, b, off, c, f, hx, ha, hb, hc, ⟨rfl, _⟩, _⟩ := q0o.sl_at h hi;have := hc 0 q0o.pos;rw [show off + i * q0o.n + 0 = off + i by simp [q0o]] at this;have hl := UInt8.toNat_lt x;exact ⟨x, _, b, off, ⟨hx, rfl, hb⟩, ha, this, by omega, by omega⟩
theorem q2n {w : World} {a : Option Addr} {len cap : Nat} {xs : List Int} {fp : List Nat} (h : intL.sl w a len cap xs fp) {i : Nat} (hi : i < len) :
  ∃ (x : Int) (b off : Nat), Hid (xs[i]? = some x ∧ True ∧ b ∈ fp) ∧ a = some ⟨b, off, none⟩ ∧ w.cell? ⟨b, off + i, none⟩ = some (I J x) ∧ Hid (q0s x) := by
 obtain ⟨x, b, off, c, f, hx, ha, hb, hc, ⟨rfl, hok, _⟩, _⟩ := intL.sl_at h hi;have := hc 0 intL.pos;rw [show off + i * intL.n + 0 = off + i by simp [intL]] at this;exact ⟨x, b, off, ⟨hx, trivial, hb⟩, ha, this, hok⟩
theorem Lay.sl_max {α : Type} (L : Lay α) {w : World} {a : Option Addr} {len cap : Nat} {xs : List α} {fp : List Nat} (h : L.sl w a len cap xs fp) : len ≤ 9223372036854775807 := by
 have := h.2.1; have := h.2.2.1; unfold maxLen at this; omega
theorem q1e {α : Type} {xs : List α} {k : Nat} {x : α} (h : xs[k]? = some x) : xs.take (k + 1) = xs.take k ++ [x] := by
 obtain ⟨hk, e⟩ := AV.1 h;rw [List.take_succ_eq_append_getElem hk, e]
theorem byte_all1 {w : World} {X : Int} {c : UInt8} (h : X = c.toNat) : q0o.all w [.int .u8 X] [c] [] := q0o.all_single ⟨by rw [h], rfl⟩
theorem z1m {w : World} {x : Int} (h : q0s x) : intL.all w [I J x] [x] [] := intL.all_single ⟨rfl, h, rfl⟩
theorem os_chg {w wr w' : World} {h : Option Nat} (hh : ∀ g, h = some g → w.heap.size ≤ g) (hc : Chg [] w wr) (hc' : Chg h.toList wr w') : Chg [] w w' :=
 hc.trans hc' (fun x hx => .inr (hh x (by simpa using hx)))
/-! ### rows made whole -/
def zrow (z : Value) (n : Nat) : Array Value := madeCells z.cells n
theorem q8s {P : Program} {E T : TypeId} {n bytes : Nat} (ht : P.underlying T = some (.slice E)) (K : Kind P E n bytes) (len : Nat) (hb : bytes * len ≤ 281474976710656) (h63 : len ≤ 9223372036854775807) (w : World) :
  (Instr.makeSlice T (I J (len : Int)) (I J (len : Int))).run P w = .ok (Aa (some ⟨w.heap.size, 0, none⟩) len len) (w.alloc (Ad (zrow K.z (len * n)) E)) := by
 have hb' : (K.i.bytes : Int) * (len : Int) ≤ 281474976710656 := by
  have h : ((K.i.bytes * len : Nat) : Int) ≤ 281474976710656 := by rw [K.byt]; omega
  rwa [Int.natCast_mul] at h
 have hr := run_make (P := P) w T E K.i K.z ht K.info K.zero .i64 .i64 len len (by omega) (Int.le_refl _) hb' (by omega);simp only [Int.toNat_natCast, K.size] at hr;exact hr
theorem Lay.sl_cells {α : Type} (L : Lay α) {w : World} {ad : Addr} {len cap : Nat} {xs : List α} {fp : List Nat} (h : L.sl w (some ad) len cap xs fp) :
  ∃ news Ae, (∀ j u, news[j]? = some u → w.cell? (ad.add j) = some u) ∧ L.all w news xs Ae ∧ (∀ b ∈ Ae, b ∈ fp) := by
 obtain ⟨h1, h2, h3, h4, ⟨rfl, rfl⟩ | ⟨b, off, cur, E, fr, Ae, ha, hb, hall, rfl⟩⟩ := h
 ·exact ⟨[], [], by simp, ⟨rfl, rfl⟩, by simp⟩
 ·cases ha;refine ⟨_, Ae, ?_, hall, fun b hb => by simp [hb]⟩;intro j u hu;have Ah : (⟨b, off, none⟩ : Addr).add j = ⟨b, off + j, none⟩ := by unfold B5; split <;> simp_all
  rw [Ah, cell_of_row w b _ cur E fr hb];rw [Bv] at hu
  split at hu
  ·rw [AL] at hu; simpa using hu
  ·cases hu
def NewRow {α : Type} (L : Lay α) (xs : List α) (shared : List Nat) (w : World) (e : Ending) (w' : World) : Prop :=
 ∃ E v h Ae, e = .returned v ∧ L.os E w' v xs h Ae ∧ (∀ b ∈ Ae, b ∈ shared) ∧ (∀ g, h = some g → w.heap.size ≤ g) ∧ Chg [] w w'
theorem NewRow.flat {α : Type} {L : Lay α} {xs : List α} {sh : List Nat} {w : World} {e : Ending} {w' : World} (h : NewRow L xs sh w e w') (hL : L.flat) : q7r L xs w e w' := by
 obtain ⟨E, v, h, Ae, rfl, ho, _, hh, hc⟩ := h;exact Lay.os_new ho hL hc hh
end Go.Proofs.YthhaednigdgclaaGreat
namespace Go.Proofs.YthhaednigdgclaaGreat.Fld
theorem u8_all {p : UInt8 → Prop} (h : ∀ n, n < 256 → p (UInt8.ofNat n)) (a : UInt8) : p a := by
 have := h a.toNat (UInt8.toNat_lt a)
 rwa [UInt8.ofNat_toNat] at this
def xt (a : UInt8) : UInt8 := if a &&& 128 = 0 then a <<< 1 else (a <<< 1) ^^^ 29
def mulN : Nat → UInt8 → UInt8 → UInt8
 | 0, _, _ => 0
 | k + 1, a, b => (if b &&& 1 = 1 then a else 0) ^^^ mulN k (xt a) (b >>> 1)
def mul (a b : UInt8) : UInt8 := mulN 8 a b
theorem mulN_zero (k : Nat) : ∀ a, mulN k a 0 = 0 := by
 induction k with
 | zero => intro a; rfl
 | succ k ih =>
  intro a;simp [mulN, ih]
theorem shr_xor (a b : UInt8) : (a ^^^ b) >>> 1 = (a >>> 1) ^^^ (b >>> 1) := by
 apply UInt8.toBitVec_inj.1; simp [BitVec.ushiftRight_xor_distrib]
theorem and_xor (a b c : UInt8) : (a ^^^ b) &&& c = (a &&& c) ^^^ (b &&& c) := by
 apply UInt8.toBitVec_inj.1; simp only [UInt8.toBitVec_and, UInt8.toBitVec_xor]; ext i hi; simp [Bool.and_xor_distrib_right]
theorem shl_xor (a b : UInt8) : (a ^^^ b) <<< 1 = (a <<< 1) ^^^ (b <<< 1) := by
 apply UInt8.toBitVec_inj.1; simp [BitVec.shiftLeft_xor_distrib]
theorem bit1 (a : UInt8) : a &&& 1 = 0 ∨ a &&& 1 = 1 := by revert a; exact u8_all (by decide +kernel)
theorem bit2 (a : UInt8) : a &&& 2 = 0 ∨ a &&& 2 = 2 := by revert a; exact u8_all (by decide +kernel)
theorem bit4 (a : UInt8) : a &&& 4 = 0 ∨ a &&& 4 = 4 := by revert a; exact u8_all (by decide +kernel)
theorem bit8 (a : UInt8) : a &&& 8 = 0 ∨ a &&& 8 = 8 := by revert a; exact u8_all (by decide +kernel)
theorem bit16 (a : UInt8) : a &&& 16 = 0 ∨ a &&& 16 = 16 := by revert a; exact u8_all (by decide +kernel)
theorem bit32 (a : UInt8) : a &&& 32 = 0 ∨ a &&& 32 = 32 := by revert a; exact u8_all (by decide +kernel)
theorem bit64 (a : UInt8) : a &&& 64 = 0 ∨ a &&& 64 = 64 := by revert a; exact u8_all (by decide +kernel)
theorem bit128 (a : UInt8) : a &&& 128 = 0 ∨ a &&& 128 = 128 := by revert a; exact u8_all (by decide +kernel)
theorem bits_sum (a : UInt8) : (a &&& 1) ^^^ (a &&& 2) ^^^ (a &&& 4) ^^^ (a &&& 8) ^^^ (a &&& 16) ^^^ (a &&& 32) ^^^ (a &&& 64) ^^^ (a &&& 128) = a := by
 revert a; exact u8_all (by decide +kernel)
theorem xor_4 (a b c d : UInt8) : (a ^^^ b) ^^^ (c ^^^ d) = (a ^^^ c) ^^^ (b ^^^ d) := by
 rw [UInt8.xor_assoc, UInt8.xor_assoc, ← UInt8.xor_assoc b, UInt8.xor_comm b c, UInt8.xor_assoc c]
theorem xt_xor (a b : UInt8) : xt (a ^^^ b) = xt a ^^^ xt b := by
 unfold xt;rw [and_xor, shl_xor];have e : (128 : UInt8) ^^^ 128 = 0 := by decide
 have z : (0 : UInt8) ^^^ 128 = 128 := by decide
 have z' : (128 : UInt8) ^^^ 0 = 128 := by decide
 have n : ¬ (128 : UInt8) = 0 := by decide
 rcases bit128 a with ha | ha <;> rcases bit128 b with hb | hb <;> simp only [ha, hb, e, z, z', n, UInt8.xor_self, if_true, if_false]
 ·rw [UInt8.xor_assoc]
 ·rw [UInt8.xor_assoc, UInt8.xor_comm (b <<< 1), ← UInt8.xor_assoc]
 ·rw [xor_4, UInt8.xor_self, UInt8.xor_zero]
theorem q9z (k : Nat) : ∀ a b c, mulN k a (b ^^^ c) = mulN k a b ^^^ mulN k a c := by
 induction k with
 | zero => intro a b c; simp [mulN]
 | succ k ih =>
  intro a b c;simp only [mulN, shr_xor, ih, and_xor];have e : (1 : UInt8) ^^^ 1 = 0 := by decide
  have z : (0 : UInt8) ^^^ 1 = 1 := by decide
  have z' : (1 : UInt8) ^^^ 0 = 1 := by decide
  have n : ¬ (0 : UInt8) = 1 := by decide
  rw [xor_4]
  congr 1
  rcases bit1 b with hb | hb <;> rcases bit1 c with hc | hc <;> simp [hb, hc, e, z, z', n]
theorem z1g (k : Nat) : ∀ a b c, mulN k (a ^^^ b) c = mulN k a c ^^^ mulN k b c := by
 induction k with
 | zero => intro a b c; simp [mulN]
 | succ k ih =>
  intro a b c;simp only [mulN, xt_xor, ih];rw [xor_4]
  congr 1
  split <;> simp
theorem mul_add (a b c : UInt8) : mul a (b ^^^ c) = mul a b ^^^ mul a c := q9z 8 a b c
theorem add_mul (a b c : UInt8) : mul (a ^^^ b) c = mul a c ^^^ mul b c := z1g 8 a b c
theorem ext8 {f g : UInt8 → UInt8} (hf : ∀ a b, f (a ^^^ b) = f a ^^^ f b) (hg : ∀ a b, g (a ^^^ b) = g a ^^^ g b)
  (h : f 1 = g 1 ∧ f 2 = g 2 ∧ f 4 = g 4 ∧ f 8 = g 8 ∧ f 16 = g 16 ∧ f 32 = g 32 ∧ f 64 = g 64 ∧ f 128 = g 128) (a : UInt8) : f a = g a := by
 have f0 : f 0 = 0 := by have := hf 0 0; simpa using this
 have g0 : g 0 = 0 := by have := hg 0 0; simpa using this
 obtain ⟨h1, h2, h3, h4, h5, h6, h7, h8⟩ := h;rw [← bits_sum a];simp only [hf, hg]
 congr 1
 ·congr 1
  ·congr 1
   ·congr 1
    ·congr 1
     ·congr 1
      ·congr 1
       ·rcases bit1 a with e | e <;> rw [e] <;> simp only [f0, g0, h1]
       ·rcases bit2 a with e | e <;> rw [e] <;> simp only [f0, g0, h2]
      ·rcases bit4 a with e | e <;> rw [e] <;> simp only [f0, g0, h3]
     ·rcases bit8 a with e | e <;> rw [e] <;> simp only [f0, g0, h4]
    ·rcases bit16 a with e | e <;> rw [e] <;> simp only [f0, g0, h5]
   ·rcases bit32 a with e | e <;> rw [e] <;> simp only [f0, g0, h6]
  ·rcases bit64 a with e | e <;> rw [e] <;> simp only [f0, g0, h7]
 ·rcases bit128 a with e | e <;> rw [e] <;> simp only [f0, g0, h8]
theorem mul_comm (a b : UInt8) : mul a b = mul b a := by
 refine ext8 (f := fun a => mul a b) (g := fun a => mul b a) (fun x y => add_mul x y b) (fun x y => mul_add b x y) ?_ a;refine ⟨?_, ?_, ?_, ?_, ?_, ?_, ?_, ?_⟩ <;>
 ·refine ext8 (f := fun b => mul _ b) (g := fun b => mul b _) (fun x y => mul_add _ x y) (fun x y => add_mul x y _) ?_ b
  decide +kernel
theorem mul_one (a : UInt8) : mul a 1 = a := by revert a; exact u8_all (by decide +kernel)
theorem one_mul (a : UInt8) : mul 1 a = a := by rw [mul_comm]; exact mul_one a
theorem mul_zero (a : UInt8) : mul a 0 = 0 := mulN_zero 8 a
theorem zero_mul (a : UInt8) : mul 0 a = 0 := by rw [mul_comm]; exact mul_zero a
def sq (a : UInt8) : UInt8 := mul a a
end Go.Proofs.YthhaednigdgclaaGreat.Fld
namespace Go.Proofs.YthhaednigdgclaaGreat
open Go.RowKit
open Go.Lib (hid)
theorem u8lt (a : UInt8) : (a.toNat : Int) < 256 := by have := UInt8.toNat_lt a; omega
theorem u8nn (a : UInt8) : 0 ≤ (a.toNat : Int) := by omega
theorem bits_and (a b : UInt8) : bits BinOp.and IntKind.u8 (a.toNat : Int) (b.toNat : Int) = ((a &&& b).toNat : Int) := by
 rw [u8_and_nat _ _ (UInt8.toNat_lt a) (UInt8.toNat_lt b), UInt8.toNat_and]
theorem bits_xor (a b : UInt8) : bits BinOp.xor IntKind.u8 (a.toNat : Int) (b.toNat : Int) = ((a ^^^ b).toNat : Int) := by
 rw [u8_xor_nat _ _ (UInt8.toNat_lt a) (UInt8.toNat_lt b), UInt8.toNat_xor]
theorem bits_and1 (a : UInt8) : bits BinOp.and IntKind.u8 (a.toNat : Int) 1 = ((a &&& 1).toNat : Int) := bits_and a 1
theorem q9u (a : UInt8) : bits BinOp.and IntKind.u8 (a.toNat : Int) 128 = ((a &&& 128).toNat : Int) := bits_and a 128
theorem bits_xor29 (a : UInt8) : bits BinOp.xor IntKind.u8 (a.toNat : Int) 29 = ((a ^^^ 29).toNat : Int) := bits_xor a 29
theorem shl_u8 (a : UInt8) : (a.toNat : Int) * (2 : Int) % (256 : Int) = ((a <<< 1).toNat : Int) := by
 rw [UInt8.toNat_shiftLeft];have : (1 : UInt8).toNat % 8 = 1 := by decide
 rw [this, Nat.shiftLeft_eq];omega
theorem shr_u8 (a : UInt8) : (a.toNat : Int) / (2 : Int) = ((a >>> 1).toNat : Int) := by
 rw [UInt8.toNat_shiftRight];have : (1 : UInt8).toNat % 8 = 1 := by decide
 rw [this, Bf];omega
theorem and1_is (a : UInt8) : (bits BinOp.and IntKind.u8 (a.toNat : Int) 1 == 1) = true ↔ a &&& 1 = 1 := by
 rw [bits_and1, beq_iff_eq];rcases Fld.bit1 a with h | h <;> rw [h] <;> decide
theorem and128_is (a : UInt8) : (bits BinOp.and IntKind.u8 (a.toNat : Int) 128 != 0) = true ↔ ¬ a &&& 128 = 0 := by
 rw [q9u, bne_iff_ne];rcases Fld.bit128 a with h | h <;> rw [h] <;> decide
theorem u8_eq0 (b : UInt8) (h : (b.toNat : Int) ≤ 0) : b = 0 := by
 apply UInt8.toNat_inj.1; have : (0 : UInt8).toNat = 0 := rfl; omega
theorem mulN_succ (k : Nat) (x y : UInt8) : Fld.mulN (k + 1) x y = (if y &&& 1 = 1 then x else 0) ^^^ Fld.mulN k (Fld.xt x) (y >>> 1) := rfl
theorem shr_lt {k : Nat} {y : UInt8} (h : y.toNat < 2 ^ (k + 1)) : (y >>> 1).toNat < 2 ^ k := by
 rw [UInt8.toNat_shiftRight];have : (1 : UInt8).toNat % 8 = 1 := by decide
 rw [this, Bf];omega
theorem xt_hi {x : UInt8} (h : (bits BinOp.and IntKind.u8 (x.toNat : Int) 128 != 0) = true) : bits BinOp.xor IntKind.u8 ((x.toNat : Int) * (2 : Int) % (256 : Int)) 29 = ((Fld.xt x).toNat : Int) := by
 rw [shl_u8, bits_xor29, Fld.xt, if_neg ((and128_is x).1 h)]
theorem xt_lo {x : UInt8} (h : (bits BinOp.and IntKind.u8 (x.toNat : Int) 128 != 0) = false) : (x.toNat : Int) * (2 : Int) % (256 : Int) = ((Fld.xt x).toNat : Int) := by
 rw [shl_u8, Fld.xt, if_pos];rcases Fld.bit128 x with e | e
 ·exact e
 ·rw [q9u, e] at h; exact absurd h (by decide)
theorem o_hi {x y o c : UInt8} {k : Nat} (h : (bits BinOp.and IntKind.u8 (y.toNat : Int) 1 == 1) = true) (hm : o ^^^ Fld.mulN (k + 1) x y = c) :
  bits BinOp.xor IntKind.u8 (o.toNat : Int) (x.toNat : Int) = ((o ^^^ x).toNat : Int) ∧ (o ^^^ x) ^^^ Fld.mulN k (Fld.xt x) (y >>> 1) = c := by
 refine ⟨bits_xor o x, ?_⟩;rw [← hm, mulN_succ, if_pos ((and1_is y).1 h), UInt8.xor_assoc]
theorem o_lo {x y o c : UInt8} {k : Nat} (h : (bits BinOp.and IntKind.u8 (y.toNat : Int) 1 == 1) = false) (hm : o ^^^ Fld.mulN (k + 1) x y = c) :
  o ^^^ Fld.mulN k (Fld.xt x) (y >>> 1) = c := by
 rw [← hm, mulN_succ, if_neg, UInt8.zero_xor];intro e;rw [(and1_is y).2 e] at h;cases h
def MulR (a b : UInt8) (X Y O : Int) : Prop := ∃ (k : Nat) (x y o : UInt8), y.toNat < 2 ^ k ∧ o ^^^ Fld.mulN k x y = Fld.mul a b ∧ X = x.toNat ∧ Y = y.toNat ∧ O = o.toNat
theorem MulR.bounds {a b : UInt8} {X Y O : Int} (h : MulR a b X Y O) : (0 ≤ X ∧ X < 256) ∧ (0 ≤ Y ∧ Y < 256) ∧ (0 ≤ O ∧ O < 256) := by
 obtain ⟨k, x, y, o, _, _, rfl, rfl, rfl⟩ := h;exact ⟨⟨u8nn x, u8lt x⟩, ⟨u8nn y, u8lt y⟩, ⟨u8nn o, u8lt o⟩⟩
theorem MulR.next {a b : UInt8} {X Y O : Int} (h : MulR a b X Y O) (hY : 0 < Y) :
  MulR a b (if (bits BinOp.and IntKind.u8 X 128 != 0) = true then bits BinOp.xor IntKind.u8 (X * 2 % 256) 29 else X * 2 % 256) (Y / 2)
   (if (bits BinOp.and IntKind.u8 Y 1 == 1) = true then bits BinOp.xor IntKind.u8 O X else O) := by
 obtain ⟨k, x, y, o, hk, hm, rfl, rfl, rfl⟩ := h;cases k with
 | zero => exfalso; simp at hk; omega
 | succ k =>
  have e1 : (if (bits BinOp.and IntKind.u8 (x.toNat : Int) 128 != 0) = true then bits BinOp.xor IntKind.u8 ((x.toNat : Int) * 2 % 256) 29 else (x.toNat : Int) * 2 % 256) = ((Fld.xt x).toNat : Int) := by
   cases h : (bits BinOp.and IntKind.u8 (x.toNat : Int) 128 != 0)
   ·rw [if_neg (by simp)]; exact xt_lo h
   ·rw [if_pos rfl]; exact xt_hi h
  cases h : (bits BinOp.and IntKind.u8 (y.toNat : Int) 1 == 1)
  ·exact ⟨k, Fld.xt x, y >>> 1, o, shr_lt hk, o_lo h hm, e1, shr_u8 y, by rw [if_neg (by simp)]⟩
  ·exact ⟨k, Fld.xt x, y >>> 1, o ^^^ x, shr_lt hk, (o_hi h hm).2, e1, shr_u8 y, by rw [if_pos rfl]; exact (o_hi h hm).1⟩
theorem MulR.last {a b : UInt8} {X Y O : Int} (h : MulR a b X Y O) (hY : Y ≤ 0) : O = (Fld.mul a b).toNat := by
 obtain ⟨k, x, y, o, hk, hm, rfl, rfl, rfl⟩ := h;rw [u8_eq0 y hY, Fld.mulN_zero, UInt8.xor_zero] at hm;rw [hm]
theorem q5j (a b : Nat) (ha : a < 9223372036854775808) (hb : b < 9223372036854775808) :
  bits .xor .i64 (a : Int) (b : Int) = ((a ^^^ b : Nat) : Int) := by
 have hx : a ^^^ b < 2 ^ 63 := Nat.xor_lt_two_pow (by omega) (by omega);have h1 : (BitVec.ofInt 64 (a : Int)).toNat = a := by
  rw [BitVec.ofInt_natCast, BitVec.toNat_ofNat]; exact B7 (by omega)
 have h2 : (BitVec.ofInt 64 (b : Int)).toNat = b := by
  rw [BitVec.ofInt_natCast, BitVec.toNat_ofNat]; exact B7 (by omega)
 show IntKind.i64.wrap ((BitVec.ofInt 64 (a : Int) ^^^ BitVec.ofInt 64 (b : Int)).toNat : Int) = _;rw [BitVec.toNat_xor, h1, h2];exact IntWalk.i64_in _ (by omega)
theorem xt_285 (x : UInt8) : (255 < 2 * x.toNat → (2 * x.toNat) ^^^ 285 = (Fld.xt x).toNat) ∧ (¬ 255 < 2 * x.toNat → 2 * x.toNat = (Fld.xt x).toNat) := by
 revert x; exact Fld.u8_all (by decide +kernel)
def MulS (a b : UInt8) (X O K : Int) : Prop := ∃ (k : Nat) (x y o : UInt8), k ≤ 8 ∧ y.toNat = b.toNat / 2 ^ k ∧ o ^^^ Fld.mulN (8 - k) x y = Fld.mul a b ∧ X = x.toNat ∧ O = o.toNat ∧ K = k
theorem MulS.bounds {a b : UInt8} {X O K : Int} (h : MulS a b X O K) : (0 ≤ X ∧ X < 256) ∧ (0 ≤ O ∧ O < 256) ∧ (0 ≤ K ∧ K ≤ 8) := by
 obtain ⟨k, x, y, o, _, _, _, rfl, rfl, rfl⟩ := h;exact ⟨⟨u8nn x, u8lt x⟩, ⟨u8nn o, u8lt o⟩, by omega, by omega⟩
theorem MulS.next {a b : UInt8} {X O K : Int} (h : MulS a b X O K) (hK : K < 8) :
  MulS a b (if 255 < 2 * X then bits BinOp.xor IntKind.i64 (2 * X) 285 else 2 * X)
   (if (bits BinOp.and IntKind.u8 ((b.toNat : Int) / 2 ^ K.toNat) 1 == 1) = true then bits BinOp.xor IntKind.i64 O X else O) (K + 1) := by
 obtain ⟨k, x, y, o, hk, hy, hm, rfl, rfl, rfl⟩ := h;have hk8 : k < 8 := by omega
 have ey : ((b.toNat : Int) / 2 ^ ((k : Int)).toNat) = (y.toNat : Int) := by
  rw [hy]; simp [Int.natCast_ediv]
 rw [ey];have hx := UInt8.toNat_lt x;have ho := UInt8.toNat_lt o;have e1 : (if (255 : Int) < 2 * (x.toNat : Int) then bits BinOp.xor IntKind.i64 (2 * (x.toNat : Int)) 285 else 2 * (x.toNat : Int)) = ((Fld.xt x).toNat : Int) := by
  by_cases h : (255 : Int) < 2 * (x.toNat : Int)
  ·rw [if_pos h, ← (xt_285 x).1 (by omega)];have := q5j (2 * x.toNat) 285 (by omega) (by omega);rw [← this]; rfl
  ·rw [if_neg h, ← (xt_285 x).2 (by omega)]; rfl
 have ey2 : (y >>> 1).toNat = b.toNat / 2 ^ (k + 1) := by
  have := shr_u8 y;rw [hy] at this;rw [Nat.pow_succ, ← Nat.div_div_eq_div_mul];omega
 have e8 : 8 - k = (8 - (k + 1)) + 1 := by omega
 rw [e8] at hm;have eO : bits BinOp.xor IntKind.i64 (o.toNat : Int) (x.toNat : Int) = ((o ^^^ x).toNat : Int) := by
  rw [q5j _ _ (by omega) (by omega), UInt8.toNat_xor]
 cases h : (bits BinOp.and IntKind.u8 (y.toNat : Int) 1 == 1)
 ·exact ⟨k + 1, Fld.xt x, y >>> 1, o, by omega, ey2, o_lo h hm, e1, by rw [if_neg (by simp)], by omega⟩
 ·exact ⟨k + 1, Fld.xt x, y >>> 1, o ^^^ x, by omega, ey2, (o_hi h hm).2, e1, by rw [if_pos rfl]; exact eO, by omega⟩
theorem MulS.last {a b : UInt8} {X O K : Int} (h : MulS a b X O K) (hK : ¬ K < 8) : O = (Fld.mul a b).toNat := by
 obtain ⟨k, x, y, o, hk, hy, hm, rfl, rfl, rfl⟩ := h;have e8 : 8 - k = 0 := by omega
 rw [e8] at hm;simp only [Fld.mulN, UInt8.xor_zero] at hm;rw [hm]
theorem infoB : (Tryz.prog.info? 5).map (fun i => (i.zero, i.size, i.bytes)) = some (some (.int .u8 0), 1, 1) := by kernel_rfl
theorem kindB : ∃ K : Kind Tryz.prog 5 q0o.n 1, K.z = .int .u8 0 := by
 obtain ⟨i0, hi, hz0, hz1, hz2⟩ := info_parts infoB;exact ⟨⟨i0, .int .u8 0, hi, hz0, hz1, hz2, rfl⟩, rfl⟩
theorem z0h (n : Nat) (hn : n ≤ 140737488355327) (w : World) :
  (Instr.makeSlice 22 (I J (n : Int)) (I J (n : Int))).run Tryz.prog w = .ok (Aa (some ⟨w.heap.size, 0, none⟩) n n) (w.alloc (Ad (zrow (.int .u8 0) n) 5)) := by
 obtain ⟨K, hK⟩ := kindB;rw [← hK];have := q8s Tryz.underlying22 K n (by omega) (by omega) w;rw [show n * q0o.n = n from Nat.mul_one n] at this;exact this
theorem infoI : (Tryz.prog.info? 2).map (fun i => (i.zero, i.size, i.bytes)) = some (some (I J 0), 1, 8) := by kernel_rfl
theorem kindI : ∃ K : Kind Tryz.prog 2 intL.n 8, K.z = I J 0 := by
 obtain ⟨i0, hi, hz0, hz1, hz2⟩ := info_parts infoI;exact ⟨⟨i0, I J 0, hi, hz0, hz1, hz2, rfl⟩, rfl⟩
theorem Lay.all_put {α : Type} (L : Lay α) (hn : L.n = 1) {w w' : World} {v : Value} {x' : α} {f' : List Nat} : ∀ {xs : List α} {i : Nat} {cs : List Value} {Ae : List Nat}, L.all w cs xs Ae → i < xs.length → L.rep w' [v] x' f' →
  (∀ y ∈ Ae, w'.heap[y]? = w.heap[y]?) → ∃ Ao, L.all w' (cs.set i v) (xs.set i x') Ao ∧ (∀ y ∈ Ao, y ∈ Ae ∨ y ∈ f') ∧ (Ae.Nodup → f'.Nodup → (∀ y ∈ f', y ∉ Ae) → Ao.Nodup) := by
 intro xs
 induction xs with
 | nil => intro i cs Ae _ hi; simp at hi
 | cons y ys ih =>
  intro i cs Ae h hi hr hk;obtain ⟨c1, c2, f1, f2, rfl, rfl, h1, h2⟩ := h;have hl := L.len h1;rw [hn] at hl;cases i with
  | zero =>
   refine ⟨f' ++ f2, ⟨[v], c2, f', f2, ?_, rfl, hr, L.all_keep h2 (fun y hy => hk y (by simp [hy]))⟩, fun y hy => ?_, fun n1 n2 n3 => ?_⟩
   ·match c1, hl with | [u], _ => rfl
   ·rcases AD.1 hy with hy | hy
    ·exact .inr hy
    ·exact .inl (by simp [hy])
   ·exact AG.2 ⟨n2, (AG.1 n1).2.1, fun a ha b hb e => n3 a ha (by subst e; simp [hb])⟩
  | succ i =>
   obtain ⟨g, hg, hm, Aw⟩ := ih h2 (by simpa using hi) hr (fun y hy => hk y (by simp [hy]));refine ⟨f1 ++ g, ⟨c1, c2.set i v, f1, g, ?_, rfl, L.keep h1 (fun y hy => hk y (by simp [hy])), hg⟩, fun y hy => ?_, fun n1 n2 n3 => ?_⟩
   ·rw [List.set_append_right _ _ (by omega), hl, Nat.add_sub_cancel]
   ·rcases AD.1 hy with hy | hy
    ·exact .inl (by simp [hy])
    ·rcases hm y hy with h | h
     ·exact .inl (by simp [h])
     ·exact .inr h
   ·have n4 := AG.1 n1;refine AG.2 ⟨n4.1, Aw n4.2.1 n2 (fun y hy hy' => n3 y hy (by simp [hy'])), fun a ha b hb e => ?_⟩;subst e;rcases hm a hb with h | h
    ·exact n4.2.2 a ha a h rfl
    ·exact n3 a h (by simp [ha])
theorem Lay.sl_put {α : Type} (L : Lay α) (hn : L.n = 1) {w : World} {b off len cap : Nat} {xs : List α} {fp : List Nat} (h : L.sl w (some ⟨b, off, none⟩) len cap xs fp) (nd : fp.Nodup) {i : Nat} (hi : i < len) {v : Value} {x' : α} {f' : List Nat}
  (hr : L.rep w [v] x' f') (hd : ∀ y ∈ f', y ∉ fp) (nf : f'.Nodup) :
  ∃ fp', L.sl (w.setCell ⟨b, off + i, none⟩ v) (some ⟨b, off, none⟩) len cap (xs.set i x') fp' ∧ (∀ y ∈ fp', y ∈ fp ∨ y ∈ f') ∧ fp'.Nodup := by
 obtain ⟨h1, h2, h3, h4, ⟨rfl, rfl⟩ | ⟨b', off', cur, E, fr, Ae, ha, hb, hall, rfl⟩⟩ := h
 ·simp at h1; omega
 ·simp only [Option.some.injEq, Addr.mk.injEq, and_true] at ha;obtain ⟨rfl, rfl⟩ := ha;have hbf : b ∉ Ae := (Bi.1 nd).1;have hk : ∀ y, y ≠ b → (w.setCell ⟨b, off + i, none⟩ v).heap[y]? = w.heap[y]? := fun y hy => Below.heap_setCell _ _ _ _ hy
  have Av : b ∉ f' := fun hb' => hd b hb' (by simp)
  obtain ⟨g, hg, hm, Aw⟩ := L.all_put hn hall (i := i) (by omega) (L.keep hr (fun y hy => hk y (fun e => Av (e ▸ hy)))) (fun y hy => hk y (fun e => hbf (e ▸ hy)));have hne : b ∉ g := fun hb' => by rcases hm b hb' with h | h; exact hbf h; exact Av h
  refine ⟨b :: g, ⟨by simpa using h1, h2, h3, h4, .inr ⟨b, off, _, E, fr, g, rfl, q3a hb, ?_, rfl⟩⟩, fun y hy => ?_, Bi.2 ⟨hne, Aw (Bi.1 nd).2 nf (fun y hy hy' => hd y hy (by simp [hy']))⟩⟩
  ·have e : (((cur.setIfInBounds (off + i) v).toList.drop off).take (len * L.n)) = ((cur.toList.drop off).take (len * L.n)).set i v := by
    rw [Ba, List.drop_set, if_neg (by omega), List.take_set]
    congr 1
    omega
   rw [e];exact hg
  ·rcases Bq.1 hy with rfl | hy
   ·exact .inl (by simp)
   ·rcases hm y hy with h | h
    ·exact .inl (by simp [h])
    ·exact .inr h
theorem slc_at {α : Type} {M : Lay α} {w : World} {a : Option Addr} {len cap : Nat} {xs : List (List α)} {fp : List Nat} (h : M.slice.sl w a len cap xs fp) {i : Nat} (hi : i < len) :
  ∃ x b off A l C f, Hid (xs[i]? = some x ∧ b ∈ fp ∧ (∀ y ∈ f, y ∈ fp)) ∧ a = some ⟨b, off, none⟩ ∧ w.cell? ⟨b, off + i, none⟩ = some (Aa A l C) ∧ Hid (M.sl w A l C x f) := by
 obtain ⟨x, b, off, c, f, hx, ha, hb, hc, ⟨A, l, C, rfl, hs⟩, hf⟩ := M.slice.sl_at h hi;have := hc 0 M.slice.pos;rw [show off + i * M.slice.n + 0 = off + i by simp [Lay.slice]] at this;exact ⟨x, b, off, A, l, C, f, ⟨hx, hb, hf⟩, ha, this, hs⟩
/-! ### how much is in them -/
/-! ### a list of lists made anew, compared, marked -/
/-! ### what a call hands back -/
def q5x {α : Type} (L : Lay α) (x : α) (w : World) (e : Ending) (w' : World) : Prop :=
 ∃ cs fp, e = .returned (.agg cs) ∧ L.rep w' cs.toList x fp ∧ q1r w.heap.size w' fp ∧ Chg [] w w'
theorem q0r {w : World} {b : Nat} {o : Obj} (hb : w.heap[b]? = some o) (p : Addr) (v : Value) (h : b ≠ p.block) : (w.setCell p v).heap[b]? = some o := by
 rw [Below.heap_setCell _ _ _ _ h]; exact hb
theorem q0a {w : World} {b : Nat} {o : Obj} (hb : w.heap[b]? = some o) : w.drew.heap[b]? = some o := hb
theorem q0c {w : World} {b : Nat} (h : b = w.heap.size) (x : Obj) : (w.alloc x).heap[b]? = some x := by subst h; exact q0k w x
theorem q1r.append {B C : Nat} {w : World} {f g : List Nat} (hf : q1r B w f) (hg : q1r C w g) (hfC : ∀ b ∈ f, b < C) (hB : B ≤ C) : q1r B w (f ++ g) :=
 ⟨AG.2 ⟨hf.1, hg.1, fun a ha b hb e => by have h1 := hfC a ha; have h2 := (hg.2 b hb).1; omega⟩, fun b hb => by
  rcases AD.1 hb with h | h
  ·exact hf.2 b h
  ·exact ⟨Bu hB (hg.2 b h).1, (hg.2 b h).2⟩⟩
theorem q1r.low {B C : Nat} {w : World} {f : List Nat} (h : q1r B w f) (hC : w.heap.size ≤ C) : ∀ b ∈ f, b < C := fun b hb => AW (h.2 b hb).2.lt hC
theorem q1r.not {B : Nat} {w : World} {f : List Nat} (h : q1r B w f) {b : Nat} (hb : b < B) : b ∉ f := fun hm => BC _ (AW hb (h.2 b hm).1)
theorem q1r.part {B : Nat} {w : World} {f g : List Nat} (h : q1r B w (f ++ g)) : q1r B w f ∧ q1r B w g :=
 ⟨⟨(AG.1 h.1).1, fun b hb => h.2 b (AD.2 (.inl hb))⟩, ⟨(AG.1 h.1).2.1, fun b hb => h.2 b (AD.2 (.inr hb))⟩⟩
theorem q1r.apart {B : Nat} {w : World} {f g : List Nat} (h : q1r B w (f ++ g)) : ∀ b ∈ f, b ∉ g := fun b hb hg => (AG.1 h.1).2.2 b hb b hg rfl
end Go.Proofs.YthhaednigdgclaaGreat
namespace Go.Proofs.YthhaednigdgclaaGreat
open Go.RowKit
open Go.Lib (hid)
def sumI {α : Type} (f : α → Int) : List α → Int
 | [] => 0
 | x :: xs => f x + sumI f xs
section
variable {α : Type} {f : α → Int}
theorem q4c (hf : ∀ x, 0 ≤ f x) : ∀ xs, 0 ≤ sumI f xs
 | [] => Int.le_refl _
 | x :: xs => by have := q4c hf xs; have := hf x; show 0 ≤ f x + sumI f xs; omega
theorem sumI_append (xs ys : List α) : sumI f (xs ++ ys) = sumI f xs + sumI f ys := by
 induction xs with
 | nil => simp [sumI]
 | cons x xs ih => simp [sumI, ih]; omega
theorem sumI_mem (hf : ∀ x, 0 ≤ f x) {xs : List α} {x : α} (h : x ∈ xs) : f x ≤ sumI f xs := by
 obtain ⟨a, b, rfl⟩ := List.append_of_mem h;rw [sumI_append];have := q4c hf a; have := q4c hf b;show f x ≤ sumI f a + (f x + sumI f b);omega
def totL (f : α → Int) (xs : List α) : Int := xs.length + sumI f xs
theorem q1g (hf : ∀ x, 0 ≤ f x) (xs : List α) : 0 ≤ totL f xs := by have := q4c hf xs; unfold totL; omega
theorem z0v (hf : ∀ x, 0 ≤ f x) {xs : List α} {x : α} (h : x ∈ xs) : f x ≤ totL f xs := by have := sumI_mem hf h; unfold totL; omega
theorem totL_len (hf : ∀ x, 0 ≤ f x) (xs : List α) : (xs.length : Int) ≤ totL f xs := by have := q4c hf xs; unfold totL; omega
end
/-! ### how much there is -/
def q8m (xs : List UInt8) : Int := xs.length
def q4s (xs : List Int) : Int := xs.length
def totBlk (x : Blk) : Int := q8m x.bytes
def z0e (x : Drv) : Int := totL totBlk x.blocks
def q2l (x : Rec) : Int := (x.nM.size : Int) + q4s x.rows + q8m x.data + q8m x.delta
def q8f (x : Tap) : Int := totL q2l x.rC
def q2q (x : Wld) : Int := totL (totL z0e) x.gS + q4s x.on + totL q8f x.tapes
theorem q2r (x : List UInt8) : 0 ≤ q8m x := Int.natCast_nonneg _
theorem q3s (x : List Int) : 0 ≤ q4s x := Int.natCast_nonneg _
theorem z0w (x : Blk) : 0 ≤ totBlk x := q2r _
theorem q2y (x : Drv) : 0 ≤ z0e x := q1g z0w _
theorem q2i (x : Rec) : 0 ≤ q2l x := by have := q3s x.rows; have := q2r x.data; have := q2r x.delta; unfold q2l; omega
theorem q3j (x : Tap) : 0 ≤ q8f x := q1g q2i _
/-! ### marks -/
section
variable {α : Type} {cnt : α → Int} {mk : Int → α → α}
end
end Go.Proofs.YthhaednigdgclaaGreat
namespace Go.Proofs.YthhaednigdgclaaGreat
open Go.RowKit
open Go.Lib (hid)
inductive Kd | bt | it | bk | dr (R : Nat) | ds (D R : Nat) | rc | tp
deriving DecidableEq
def Kd.n : Kd → Nat | .bt => 1 | .it => 1 | .bk => 2 | .dr _ => 2 | .ds _ _ => 1 | .rc => 9 | .tp => 2
def Kd.E : Kd → TypeId | .bt => 5 | .it => 2 | .bk => 84 | .dr _ => 82 | .ds _ _ => 79 | .rc => 38 | .tp => 57
def Kd.max : Kd → Nat | .bt => 64 | .it => 64 | .bk => 16 | .dr _ => 16 | .ds _ _ => 8 | .rc => 300 | .tp => 2
structure TRow where
 b : Nat
 k : Kd
 m : Nat
 z : Nat
def SlT (T : List TRow) (k : Kd) (v : Value) : Prop :=
 ∃ a l c, v = Aa a l c ∧ l ≤ k.max ∧ l ≤ c ∧ c ≤ maxLen ∧ ((a = none ∧ c = 0) ∨ ∃ r ∈ T, r.k = k ∧ ∃ j, a = some ⟨r.b, j * k.n, none⟩ ∧ j + l ≤ r.m ∧ j + c ≤ r.z)
def ElT (T : List TRow) : Kd → List Value → Prop
 | .bt, cs => ∃ x : UInt8, cs = [.int .u8 x.toNat]
 | .it, cs => ∃ x : Int, cs = [I J x] ∧ q0s x
 | .bk, cs => ∃ (x : Int) (v : Value), cs = [I J x, v] ∧ q0s x ∧ SlT T .bt v
 | .dr R, cs => ∃ (q : Bool) (a : Option Addr) (l c : Nat), cs = [Ac q, Aa a l c] ∧ SlT T .bk (Aa a l c) ∧ R ≤ l
 | .ds D R, cs => ∃ (a : Option Addr) (l c : Nat), cs = [Aa a l c] ∧ SlT T (.dr R) (Aa a l c) ∧ D ≤ l ∧ (D = 0 ∨ l ≤ 8)
 | .rc, cs => ∃ (x0 x1 : Int) (nm : ByteArray) (x3 x4 x5 : Int) (v6 v7 v8 : Value), cs = [I J x0, I J x1, Ab nm, I J x3, I J x4, I J x5, v6, v7, v8] ∧ (q0s x0 ∧ q0s x1 ∧ q0s x3 ∧ q0s x4 ∧ q0s x5) ∧ nm.size ≤ 64 ∧ SlT T .it v6 ∧ SlT T .bt v7 ∧ SlT T .bt v8
 | .tp, cs => ∃ (q : Bool) (v : Value), cs = [Ac q, v] ∧ SlT T .rc v
def RowT (T : List TRow) (w : World) (r : TRow) : Prop :=
 ∃ cur, w.heap[r.b]? = some (Ad cur r.k.E (0, 0)) ∧ cur.size = r.z * r.k.n ∧ r.m ≤ r.z ∧ ∀ i, i < r.m → ElT T r.k ((cur.toList.drop (i * r.k.n)).take r.k.n)
structure Well (T : List TRow) (w : World) : Prop where
 nd : (T.map (·.b)).Nodup
 row : ∀ r ∈ T, RowT T w r
theorem SlT.nil (T : List TRow) (k : Kd) : SlT T k (Aa none 0 0) := ⟨none, 0, 0, rfl, AU _, AK _, AU _, .inl ⟨rfl, rfl⟩⟩
theorem Kd.npos (k : Kd) : 0 < k.n := by cases k <;> simp [Kd.n]
def SubT (T T' : List TRow) : Prop := ∀ r ∈ T, ∃ r' ∈ T', r'.b = r.b ∧ r'.k = r.k ∧ r.m ≤ r'.m ∧ r'.z = r.z
theorem SubT.refl (T : List TRow) : SubT T T := fun r hr => ⟨r, hr, rfl, rfl, AK _, rfl⟩
theorem SubT.trans {A B C : List TRow} (h : SubT A B) (k : SubT B C) : SubT A C := fun r hr => by
 obtain ⟨r1, h1, e1, e2, e3, e4⟩ := h r hr;obtain ⟨r2, h2, f1, f2, f3, f4⟩ := k r1 h1;exact ⟨r2, h2, f1.trans e1, f2.trans e2, Bu e3 f3, f4.trans e4⟩
theorem SubT.cons (T : List TRow) (r : TRow) : SubT T (r :: T) := fun q hq => ⟨q, Bo _ hq, rfl, rfl, AK _, rfl⟩
theorem SlT.sub {T T' : List TRow} {k : Kd} {v : Value} (h : SlT T k v) (hs : SubT T T') : SlT T' k v := by
 obtain ⟨a, l, c, e, h1, h2, h3, h4⟩ := h;refine ⟨a, l, c, e, h1, h2, h3, ?_⟩;rcases h4 with h4 | ⟨r, hr, hk, j, ea, h5, h6⟩
 ·exact .inl h4
 ·obtain ⟨r', hr', e1, e2, e3, e4⟩ := hs r hr;exact .inr ⟨r', hr', e2.trans hk, j, by rw [e1]; exact ea, by omega, by omega⟩
theorem ElT.sub {T T' : List TRow} {k : Kd} {cs : List Value} (h : ElT T k cs) (hs : SubT T T') : ElT T' k cs := by
 cases k with
 | bt => exact h
 | it => exact h
 | bk => obtain ⟨x, v, h1, h2, h3⟩ := h; exact ⟨x, v, h1, h2, h3.sub hs⟩
 | dr R => obtain ⟨x, a, l, c, h1, h3, h4⟩ := h; exact ⟨x, a, l, c, h1, h3.sub hs, h4⟩
 | ds D R => obtain ⟨a, l, c, h1, h3, h4⟩ := h; exact ⟨a, l, c, h1, h3.sub hs, h4⟩
 | rc => obtain ⟨x0, x1, nm, x3, x4, x5, v6, v7, v8, h1, h2, h3, h6, h7, h8⟩ := h; exact ⟨x0, x1, nm, x3, x4, x5, v6, v7, v8, h1, h2, h3, h6.sub hs, h7.sub hs, h8.sub hs⟩
 | tp => obtain ⟨x, v, h1, h3⟩ := h; exact ⟨x, v, h1, h3.sub hs⟩
theorem ElT.len {T : List TRow} {k : Kd} {cs : List Value} (h : ElT T k cs) : cs.length = k.n := by
 cases k with
 | bt => obtain ⟨_, rfl⟩ := h; rfl
 | it => obtain ⟨_, rfl, _⟩ := h; rfl
 | bk => obtain ⟨_, _, rfl, _⟩ := h; rfl
 | dr R => obtain ⟨_, _, _, _, rfl, _⟩ := h; rfl
 | ds D R => obtain ⟨_, _, _, rfl, _⟩ := h; rfl
 | rc => obtain ⟨_, _, _, _, _, _, _, _, _, rfl, _⟩ := h; rfl
 | tp => obtain ⟨_, _, rfl, _⟩ := h; rfl
def Kd.wk : Kd → Kd | .dr _ => .dr 0 | .ds _ _ => .ds 0 0 | k => k
def wkT (T : List TRow) : List TRow := T.map (fun r => { r with k := r.k.wk })
theorem Kd.wk_n (k : Kd) : k.wk.n = k.n := by cases k <;> rfl
theorem Kd.wk_E (k : Kd) : k.wk.E = k.E := by cases k <;> rfl
theorem Kd.wk_max (k : Kd) : k.wk.max = k.max := by cases k <;> rfl
theorem SlT.wk {T : List TRow} {k : Kd} {v : Value} (h : SlT T k v) : SlT (wkT T) k.wk v := by
 obtain ⟨a, l, c, e, h1, h2, h3, h4⟩ := h;refine ⟨a, l, c, e, by rw [k.wk_max]; exact h1, h2, h3, ?_⟩;rcases h4 with h4 | ⟨r, hr, rfl, j, ea, h5, h6⟩
 ·exact .inl h4
 ·exact .inr ⟨_, BF.2 ⟨r, hr, rfl⟩, rfl, j, by rw [r.k.wk_n]; exact ea, h5, h6⟩
theorem ElT.wk {T : List TRow} {k : Kd} {cs : List Value} (h : ElT T k cs) : ElT (wkT T) k.wk cs := by
 cases k with
 | bt => exact h
 | it => exact h
 | bk => obtain ⟨x, v, h1, h2, h3⟩ := h; exact ⟨x, v, h1, h2, h3.wk⟩
 | dr R => obtain ⟨x, a, l, c, h1, h3, h4⟩ := h; exact ⟨x, a, l, c, h1, h3.wk, AU _⟩
 | ds D R => obtain ⟨a, l, c, h1, h3, h4⟩ := h; exact ⟨a, l, c, h1, h3.wk, AU _, .inl rfl⟩
 | rc => obtain ⟨x0, x1, nm, x3, x4, x5, v6, v7, v8, h1, h2, h3, h6, h7, h8⟩ := h; exact ⟨x0, x1, nm, x3, x4, x5, v6, v7, v8, h1, h2, h3, h6.wk, h7.wk, h8.wk⟩
 | tp => obtain ⟨x, v, h1, h3⟩ := h; exact ⟨x, v, h1, h3.wk⟩
theorem wkT_b (T : List TRow) : (wkT T).map (·.b) = T.map (·.b) := by
 unfold wkT; rw [List.map_map]; rfl
theorem Well.wk {T : List TRow} {w : World} (h : Well T w) : Well (wkT T) w :=
 ⟨by rw [wkT_b]; exact h.nd, fun q hq => by
  obtain ⟨r, hr, rfl⟩ := BF.1 hq;obtain ⟨cur, h1, h2, h3, h4⟩ := h.row r hr;refine ⟨cur, by rw [h1]; show some (Obj.cells cur r.k.E (0, 0)) = some (Obj.cells cur r.k.wk.E (0, 0)); rw [r.k.wk_E], by show _ = r.z * r.k.wk.n; rw [r.k.wk_n]; exact h2, h3, fun i hi => ?_⟩;show ElT _ r.k.wk _;rw [r.k.wk_n];exact (h4 i hi).wk⟩
theorem dec_all {α : Type} (L : Lay α) {w : World} {n : Nat} (hn : L.n = n) {P : α → Prop} {Q : List Value → Prop} (Am : ∀ cs, Q cs → ∃ x fp, L.rep w cs x fp ∧ P x) :
  ∀ (l : Nat) (cs : List Value), cs.length = l * n → (∀ i, i < l → Q ((cs.drop (i * n)).take n)) → ∃ xs Ae, L.all w cs xs Ae ∧ xs.length = l ∧ ∀ x ∈ xs, P x
 | 0, cs, hl, _ => ⟨[], [], ⟨AZ (by simpa using hl), rfl⟩, rfl, by simp⟩
 | l + 1, cs, hl, h => by
  have e : (l + 1) * n = n + l * n := by rw [AE, AR, Bg]
  obtain ⟨x, fp, h1, h2⟩ := Am _ (by have := h 0 (by omega); simpa using this);obtain ⟨xs, Ae, k1, k2, k3⟩ := dec_all L hn Am l (cs.drop n) (by rw [Bh]; omega) (fun i hi => by
   have := h (i + 1) (by omega);rw [show (i + 1) * n = n + i * n by rw [AE, AR, Bg]] at this;rw [BA]; exact this)
  refine ⟨x :: xs, fp ++ Ae, ⟨cs.take n, cs.drop n, fp, Ae, (Bj _ _).symm, rfl, h1, k1⟩, by rw [AP, k2], fun y hy => ?_⟩;rcases Bq.1 hy with rfl | hy
  ·exact h2
  ·exact k3 y hy
theorem q9r {α : Type} (L : Lay α) {T : List TRow} {w : World} {k : Kd} (hn : L.n = k.n) {P : α → Prop} (Am : ∀ cs, ElT T k cs → ∃ x fp, L.rep w cs x fp ∧ P x) (hW : Well T w) {v : Value} (h : SlT T k v) :
  ∃ a l c xs fp, v = Aa a l c ∧ L.sl w a l c xs fp ∧ xs.length ≤ k.max ∧ ∀ x ∈ xs, P x := by
 obtain ⟨a, l, c, rfl, h1, h2, h3, h4⟩ := h;rcases h4 with ⟨rfl, rfl⟩ | ⟨r, hr, rfl, j, rfl, h5, h6⟩
 ·obtain rfl : l = 0 := by omega
  exact ⟨none, 0, 0, [], [], rfl, ⟨rfl, AK _, h3, fun _ => rfl, .inl ⟨rfl, rfl⟩⟩, AU _, by simp⟩
 ·obtain ⟨cur, g1, g2, g3, g4⟩ := hW.row r hr;have hsz : (j + l) * r.k.n ≤ cur.toList.length := by rw [Bt, g2]; exact AQ _ (by omega)
  rw [AE] at hsz;obtain ⟨xs, Ae, k1, k2, k3⟩ := dec_all L hn Am l ((cur.toList.drop (j * r.k.n)).take (l * r.k.n)) (by rw [AY, Bh]; omega) (fun i hi => by
   have := g4 (j + i) (by omega);have hb : i * r.k.n + r.k.n ≤ l * r.k.n := by
    have := AQ r.k.n (show i + 1 ≤ l by omega)
    rwa [AE, AR] at this
   rw [List.drop_take, List.take_take, Nat.min_eq_left (by omega), BA, ← AE];exact this)
  exact ⟨_, l, c, xs, r.b :: Ae, rfl, ⟨k2.symm, h2, h3, (fun h => by cases h), .inr ⟨r.b, _, cur, _, _, Ae, rfl, g1, by rw [hn]; exact k1, rfl⟩⟩, by rw [k2]; exact h1, k3⟩
theorem q6x {α : Type} {f : α → Int} {n : Nat} {M : Int} (hM : 0 ≤ M) : ∀ {xs : List α}, xs.length ≤ n → (∀ x ∈ xs, f x ≤ M) → totL f xs ≤ n + n * M := by
 intro xs h1 h2;have h3 : ∀ {xs : List α}, (∀ x ∈ xs, f x ≤ M) → sumI f xs ≤ xs.length * M := by
  intro xs
  induction xs with
  | nil => intro _; simp [sumI]
  | cons x xs ih =>
   intro h;have k1 := h x (by simp);have k2 := ih (fun y hy => h y (Bo _ hy));show f x + sumI f xs ≤ _;rw [AP, Int.natCast_add, Int.add_mul];omega
 have k := h3 h2;have k3 : (xs.length : Int) * M ≤ n * M := Int.mul_le_mul_of_nonneg_right (by omega) hM;show (xs.length : Int) + sumI f xs ≤ _;omega
section
variable {T : List TRow} {w : World} (hW : Well T w)
include hW
theorem dec_by {v : Value} (h : SlT T .bt v) : ∃ a l c xs fp, v = Aa a l c ∧ q0o.sl w a l c xs fp ∧ q8m xs ≤ 64 := by
 obtain ⟨a, l, c, xs, fp, h1, h2, h3, -⟩ := q9r q0o (k := .bt) rfl (P := fun _ => True) (fun cs ⟨x, e⟩ => ⟨x, [], ⟨e, rfl⟩, trivial⟩) hW h;exact ⟨a, l, c, xs, fp, h1, h2, by unfold q8m; have : xs.length ≤ 64 := h3; omega⟩
theorem dec_it {v : Value} (h : SlT T .it v) : ∃ a l c xs fp, v = Aa a l c ∧ intL.sl w a l c xs fp ∧ q4s xs ≤ 64 := by
 obtain ⟨a, l, c, xs, fp, h1, h2, h3, -⟩ := q9r intL (k := .it) rfl (P := fun _ => True) (fun cs ⟨x, e, ho⟩ => ⟨x, [], ⟨e, ho, rfl⟩, trivial⟩) hW h;exact ⟨a, l, c, xs, fp, h1, h2, by unfold q4s; have : xs.length ≤ 64 := h3; omega⟩
theorem dec_blk {cs : List Value} (h : ElT T .bk cs) : ∃ x fp, blkL.rep w cs x fp ∧ totBlk x ≤ 64 := by
 obtain ⟨s, v, rfl, h1, h2⟩ := h;obtain ⟨a, l, c, xs, fp, rfl, h3, h4⟩ := dec_by hW h2;exact ⟨⟨s, xs⟩, fp, q5c.2 ⟨a, l, c, fp, rfl, h1, h3, rfl⟩, h4⟩
theorem dec_drv {R : Nat} {cs : List Value} (h : ElT T (.dr R) cs) : ∃ x fp, drvL.rep w cs x fp ∧ z0e x ≤ 1040 := by
 obtain ⟨q, a, l, c, rfl, h2, -⟩ := h;obtain ⟨_, _, _, xs, fp, e, h3, h4, h5⟩ := q9r blkL (k := .bk) rfl (fun cs hc => dec_blk hW hc) hW h2;cases e;refine ⟨⟨q, xs⟩, fp, q8w.2 ⟨a, l, c, fp, rfl, h3, rfl⟩, ?_⟩;have := q6x (n := 16) (M := 64) (by omega) h4 h5;show totL totBlk xs ≤ 1040;omega
theorem dec_ds {D R : Nat} {cs : List Value} (h : ElT T (.ds D R) cs) : ∃ x fp, drvL.slice.rep w cs x fp ∧ totL z0e x ≤ 16656 := by
 obtain ⟨a, l, c, rfl, h2, -⟩ := h;obtain ⟨_, _, _, xs, fp, e, h3, h4, h5⟩ := q9r drvL (k := .dr R) rfl (fun cs hc => dec_drv hW hc) hW h2;cases e;refine ⟨xs, fp, ⟨a, l, c, rfl, h3⟩, ?_⟩;have := q6x (n := 16) (M := 1040) (by omega) h4 h5;omega
theorem dec_rec {cs : List Value} (h : ElT T .rc cs) : ∃ x fp, recL.rep w cs x fp ∧ q2l x ≤ 256 := by
 obtain ⟨x0, x1, nm, x3, x4, x5, v6, v7, v8, rfl, ⟨o0, o1, o3, o4, o5⟩, hn, h6, h7, h8⟩ := h;obtain ⟨a6, l6, c6, y6, f6, rfl, p6, q6⟩ := dec_it hW h6;obtain ⟨a7, l7, c7, y7, f7, rfl, p7, q7⟩ := dec_by hW h7;obtain ⟨a8, l8, c8, y8, f8, rfl, p8, q8⟩ := dec_by hW h8;refine ⟨⟨x0, x1, nm, x3, x4, x5, y6, y7, y8⟩, _, q0m.2 ⟨a6, l6, c6, f6, a7, l7, c7, f7, a8, l8, c8, f8, rfl, o0, o1, by simp [maxLen]; omega, o3, o4, o5, p6, p7, p8, rfl⟩, ?_⟩;show (nm.size : Int) + q4s y6 + q8m y7 + q8m y8 ≤ 256;omega
theorem dec_tap {cs : List Value} (h : ElT T .tp cs) : ∃ x fp, tapL.rep w cs x fp ∧ q8f x ≤ 77100 := by
 obtain ⟨q, v, rfl, h2⟩ := h;obtain ⟨a, l, c, xs, fp, rfl, h3, h4, h5⟩ := q9r recL (k := .rc) rfl (fun cs hc => dec_rec hW hc) hW h2;refine ⟨⟨q, xs⟩, fp, q2d.2 ⟨a, l, c, fp, rfl, h3, rfl⟩, ?_⟩;have := q6x (n := 300) (M := 256) (by omega) h4 h5;show totL q2l xs ≤ 77100;omega
def WdT (T : List TRow) (s : Shp) (v10 v11 v12 : Value) : Prop :=
 (q0s s.gS ∧ q0s s.cZ ∧ q0s s.data ∧ q0s s.spare ∧ q0s s.rows ∧ q0s s.cap ∧ q0s s.bT ∧ q0s s.qU ∧ q0s s.sG) ∧ (∃ D R, SlT T (.ds D R) v10) ∧ SlT T .it v11 ∧ SlT T .tp v12
theorem dec_wld {s : Shp} {v10 v11 v12 : Value} {wr st : Int} {dn : Bool} (h : WdT T s v10 v11 v12) (h1 : q0s wr) (h2 : q0s st) :
  ∃ x fp, wldL.rep w [I J s.gS, I J s.cZ, I J s.data, I J s.spare, I J s.rows, I J s.cap, I J s.bT, I J s.qU, I J s.sG, v10, v11, v12, I J wr, I J st, Ac dn] x fp ∧ q2q x ≤ 300000 ∧ x.wT = wr := by
 obtain ⟨⟨o1, o2, o3, o4, o5, o6, o7, o8, o9⟩, ⟨D, R, k10⟩, k11, k12⟩ := h;obtain ⟨Ar, l10, c10, y10, f10, rfl, p10, q10, r10⟩ := q9r drvL.slice (k := .ds D R) rfl (fun cs hc => dec_ds hW hc) hW k10;obtain ⟨Aq, Ak, c11, y11, f11, rfl, p11, q11⟩ := dec_it hW k11;obtain ⟨Ap, Aj, c12, y12, Ai, rfl, p12, q12, r12⟩ := q9r tapL (k := .tp) rfl (fun cs hc => dec_tap hW hc) hW k12;refine ⟨⟨s, y10, y11, y12, wr, st, dn⟩, _, q1f.2 ⟨Ar, l10, c10, f10, Aq, Ak, c11, f11, Ap, Aj, c12, Ai, rfl, o1, o2, o3, o4, o5, o6, o7, o8, o9, p10, p11, p12, h1, h2, rfl⟩, ?_, rfl⟩;have e1 := q6x (n := 8) (M := 16656) (by omega) q10 r10;have e2 := q6x (n := 2) (M := 77100) (by omega) q12 r12;show totL (totL z0e) y10 + q4s y11 + totL q8f y12 ≤ 300000;omega
end
end Go.Proofs.YthhaednigdgclaaGreat
namespace Go.Proofs.YthhaednigdgclaaGreat
open Go.RowKit
open Go.Lib (hid)
def setRow (cur : Array Value) : Nat → List Value → Array Value
 | _, [] => cur
 | o, v :: vs => setRow (cur.setIfInBounds o v) (o + 1) vs
theorem q3k {b : Nat} {E : TypeId} {fr : Nat × Nat} : ∀ (vs : List Value) (o : Nat) (w : World) (cur : Array Value), w.heap[b]? = some (Ad cur E fr) → (w.setCells b o vs).heap[b]? = some (Ad (setRow cur o vs) E fr) := by
 intro vs
 induction vs with
 | nil => intro o w cur h; exact h
 | cons v vs ih => intro o w cur h; exact ih (o + 1) _ _ (q3a h)
theorem q5n {b k : Nat} (hk : k ≠ b) : ∀ (vs : List Value) (o : Nat) (w : World), (w.setCells b o vs).heap[k]? = w.heap[k]? := by
 intro vs
 induction vs with
 | nil => intro o w; rfl
 | cons v vs ih => intro o w; exact (ih (o + 1) _).trans (Below.heap_setCell _ _ _ _ hk)
theorem Chg.setCells {S : List Nat} {a : World} {b : Nat} (hp : b ∈ S ∨ a.heap.size ≤ b) : ∀ (vs : List Value) (o : Nat) {w : World}, Chg S a w → Chg S a (w.setCells b o vs) := by
 intro vs
 induction vs with
 | nil => intro o w h; exact h
 | cons v vs ih => intro o w h; exact ih (o + 1) (h.setCell ⟨b, o, none⟩ v hp)
theorem q4u : ∀ (vs : List Value) (o : Nat) (cur : Array Value), o + vs.length ≤ cur.size → (setRow cur o vs).toList = cur.toList.take o ++ (vs ++ cur.toList.drop (o + vs.length)) := by
 intro vs
 induction vs with
 | nil => intro o cur _; simp [setRow]
 | cons v vs ih =>
  intro o cur h;simp only [AP] at h;show (setRow (cur.setIfInBounds o v) (o + 1) vs).toList = _;rw [ih (o + 1) _ (by simp; omega), Ba];have e1 : (cur.toList.set o v).take (o + 1) = cur.toList.take o ++ [v] := by
   apply Bw;intro j;by_cases hj : j < o
   ·rw [AJ (by omega), List.getElem?_set_ne (by omega), Be (by simp; omega), AJ hj]
   ·by_cases hj2 : j = o
    ·subst hj2;have hlj : (cur.toList.take j).length = j := by rw [AY]; simp; omega
     rw [AJ (by omega), List.getElem?_set_self (by simp; omega), List.getElem?_append_right (by omega), hlj];simp
    ·rw [AO (by simp; omega), AO (by simp; omega)]
  have e2 : (cur.toList.set o v).drop (o + 1 + vs.length) = cur.toList.drop (o + (v :: vs).length) := by
   rw [List.drop_set_of_lt (by omega)]
   congr 1
   simp; omega
  rw [e1, e2];simp
def NewRes {α : Type} (L : Lay α) (r : Int × List α) (w : World) (e : Ending) (w' : World) : Prop :=
 ∃ a cap fp, e = .returned (.agg #[I J r.1, Aa a r.2.length cap]) ∧ L.sl w' a r.2.length cap r.2 fp ∧ q1r w.heap.size w' fp ∧ Chg [] w w'
theorem NewRes.code {α : Type} (L : Lay α) {n : Int} {r : Int × List α} (hr : r = (n, [])) {w w' : World} (hc : Chg [] w w') : NewRes L r w (.returned (.agg #[I J n, Aa none 0 0])) w' := by
 subst hr;exact ⟨none, 0, [], rfl, ⟨rfl, AK _, by simp [maxLen], fun _ => rfl, .inl ⟨rfl, rfl⟩⟩, q1r.nil _ _, hc⟩
/-! the models -/
theorem q7r.since {α : Type} {L : Lay α} {xs : List α} {w w0 : World} {e : Ending} {w1 : World} (h : q7r L xs w0 e w1) (hc : Chg [] w w0) : q7r L xs w e w1 := by
 obtain ⟨a, cap, fp, rfl, hs, hf, hc'⟩ := h;exact ⟨a, cap, fp, rfl, hs, hf.mono hc.size, hc.trans0 hc'⟩
theorem q0n {w : World} {b o : Nat} {v : Value} {cur cur' : Array Value} {E : TypeId} {fr : Nat × Nat} (hb : w.heap[b]? = some (Ad cur E fr)) (h : cur.setIfInBounds o v = cur') :
  (w.setCell ⟨b, o, none⟩ v).heap[b]? = some (Ad cur' E fr) := by subst h; exact q3a hb
theorem q1r.nots {B : Nat} {w : World} {f : List Nat} (h : q1r B w f) (S : List Nat) (hS : ∀ b ∈ S, b < B) : ∀ b ∈ f, b ∉ S := fun b hb hm => BC _ (AW (hS b hm) (h.2 b hb).1)
end Go.Proofs.YthhaednigdgclaaGreat
