/- Several texts in one. -/
import Derived.Test.YthhaednigdgclaaGreatRows
import Derived.Test.YthhaednigdgclaaGreatYad
import Derived.Test.YthhaednigdgclaaGreatYae
import Derived.Deep.RegionHeld3
import Derived.Test.YthhaednigdgclaaGreatYac
open Go.Value renaming int → I, slice → Aa, string → Ab, bool → Ac
open Go.IntKind renaming i64 → J
open Go.Obj renaming cells → Ad
open Go.IntWalk renaming i64_in → AJ
open Go.Act renaming put → AK
open List renaming mem_of_getElem? → AL
set_option maxRecDepth 100000
set_option maxHeartbeats 8000000
namespace Go.Proofs.YthhaednigdgclaaGreat
open Go.RowKit
open Go.Lib (hid)
def Shp.all (s : Shp) : Int := s.gS + s.cZ
def Shp.drives (s : Shp) : Int := s.data + s.spare
def Shp.wide (s : Shp) : Int := s.data * 4
theorem Shp.ok.all {s : Shp} (h : s.ok) : 1 ≤ s.all ∧ s.all ≤ 6 := by obtain ⟨h1, h2, _⟩ := h; unfold Shp.all; omega
theorem Shp.ok.rows {s : Shp} (h : s.ok) : 1 ≤ s.rows ∧ s.rows ≤ 6 := by obtain ⟨h1, h2, h3, h4, h5, _⟩ := h; exact h5
theorem Shp.ok.data {s : Shp} (h : s.ok) : 1 ≤ s.data ∧ s.data ≤ 3 := by obtain ⟨h1, h2, h3, h4, h5, _⟩ := h; exact h3
theorem Shp.ok.gS {s : Shp} (h : s.ok) : 1 ≤ s.gS ∧ s.gS ≤ 4 := by obtain ⟨h1, h2, h3, h4, h5, _⟩ := h; exact h1
theorem Shp.ok.drives {s : Shp} (h : s.ok) : 1 ≤ s.drives ∧ s.drives ≤ 5 := by obtain ⟨h1, h2, h3, h4, h5, _⟩ := h; unfold Shp.drives; omega
theorem Shp.ok.wide {s : Shp} (h : s.ok) : 4 ≤ s.wide ∧ s.wide ≤ 12 := by have := h.data; unfold Shp.wide; omega
theorem q4h (s : Shp) (hs : s.ok) (w : World) :
  Calls Tryz.prog 80 #[.agg s.cells] w fun e w' => e = .returned (I J (s.all)) ∧ Chg [] w w' := by
 have h1 := hs.all;have h2 := hs.gS; have h3 := hs.data;clear hs;obtain ⟨g, c, d, p, r, q, b, u, t⟩ := s;simp only [Shp.all] at *;simp only [Shp.cells];go_enter Tryz.func80, Tryz.ntmps80;go_wp2;go_ret;exact ⟨rfl, by repeat (first | exact Chg.refl _ _ | refine Chg.alloc ?_ _)⟩
theorem q0t (s : Shp) (hs : s.ok) (w : World) :
  Calls Tryz.prog 23 #[.agg s.cells] w fun e w' => e = .returned (I J (s.all)) ∧ Chg [] w w' := by
 have h1 := hs.all;have h2 := hs.gS; have h3 := hs.data;clear hs;obtain ⟨g, c, d, p, r, q, b, u, t⟩ := s;simp only [Shp.all] at *;simp only [Shp.cells];go_enter Tryz.func23, Tryz.ntmps23;go_wp2;go_ret;exact ⟨rfl, by repeat (first | exact Chg.refl _ _ | refine Chg.alloc ?_ _)⟩
theorem z0t (s : Shp) (hs : s.ok) (w : World) :
  Calls Tryz.prog 82 #[.agg s.cells] w fun e w' => e = .returned (I J (s.drives)) ∧ Chg [] w w' := by
 have h1 := hs.drives;have h2 := hs.gS; have h3 := hs.data;clear hs;obtain ⟨g, c, d, p, r, q, b, u, t⟩ := s;simp only [Shp.drives] at *;simp only [Shp.cells];go_enter Tryz.func82, Tryz.ntmps82;go_wp2;go_ret;exact ⟨rfl, by repeat (first | exact Chg.refl _ _ | refine Chg.alloc ?_ _)⟩
theorem q5u (s : Shp) (hs : s.ok) (w : World) :
  Calls Tryz.prog 52 #[.agg s.cells] w fun e w' => e = .returned (I J (s.drives)) ∧ Chg [] w w' := by
 have h1 := hs.drives;have h2 := hs.gS; have h3 := hs.data;clear hs;obtain ⟨g, c, d, p, r, q, b, u, t⟩ := s;simp only [Shp.drives] at *;simp only [Shp.cells];go_enter Tryz.func52, Tryz.ntmps52;go_wp2;go_ret;exact ⟨rfl, by repeat (first | exact Chg.refl _ _ | refine Chg.alloc ?_ _)⟩
theorem q2e (s : Shp) (hs : s.ok) (w : World) :
  Calls Tryz.prog 113 #[.agg s.cells] w fun e w' => e = .returned (I J (s.wide)) ∧ Chg [] w w' := by
 have h1 := hs.wide;have h2 := hs.gS; have h3 := hs.data;clear hs;obtain ⟨g, c, d, p, r, q, b, u, t⟩ := s;simp only [Shp.wide] at *;simp only [Shp.cells];go_enter Tryz.func113, Tryz.ntmps113;go_wp2;go_ret;exact ⟨rfl, by repeat (first | exact Chg.refl _ _ | refine Chg.alloc ?_ _)⟩
theorem q2b (s : Shp) (hs : s.ok) (n : Int) (w : World) :
  Calls Tryz.prog 87 #[.agg s.cells, I J n] w fun e w' => e = .returned (Ac (inB n 0 (s.all - 1))) ∧ Chg [] w w' := by
 have h1 := hs.all; have h2 := hs.gS; have h3 := hs.rows; have h4 := hs.drives;have HS := hid hs;clear hs;obtain ⟨g, c, d, p, r, q, b, u, t⟩ := s;simp only [Shp.all, Shp.drives] at h1 h2 h3 h4 ⊢;simp only [Shp.cells];go_enter Tryz.func87, Tryz.ntmps87;go_wp2_with fail;refine (q4h ⟨g, c, d, p, r, q, b, u, t⟩ HS.o _).mono ?_; rintro e w1 ⟨rfl, hc⟩;have HC := hid ((Chg.refl [] w).alloc _ |>.trans0 hc); clear hc;simp only [Shp.all];go_wp2_with fail;refine (q2g n 0 (g + c - 1) _).mono ?_; rintro e w2 ⟨rfl, rfl⟩;go_wp2_with fail;go_ret;exact ⟨rfl, HC.o⟩
theorem q3z (s : Shp) (hs : s.ok) (n : Int) (w : World) :
  Calls Tryz.prog 29 #[.agg s.cells, I J n] w fun e w' => e = .returned (Ac (inB n 0 (s.gS - 1))) ∧ Chg [] w w' := by
 have h1 := hs.all; have h2 := hs.gS; have h3 := hs.rows; have h4 := hs.drives;have HS := hid hs;clear hs;obtain ⟨g, c, d, p, r, q, b, u, t⟩ := s;simp only [Shp.all, Shp.drives] at h1 h2 h3 h4 ⊢;simp only [Shp.cells];go_enter Tryz.func29, Tryz.ntmps29;go_wp2_with fail;refine (q2g n 0 (g - 1) _).mono ?_; rintro e w2 ⟨rfl, rfl⟩;go_wp2_with fail;go_ret;exact ⟨rfl, by repeat (first | exact Chg.refl _ _ | refine Chg.alloc ?_ _)⟩
theorem q2u (s : Shp) (hs : s.ok) (n : Int) (w : World) :
  Calls Tryz.prog 112 #[.agg s.cells, I J n] w fun e w' => e = .returned (Ac (inB n 0 (s.rows - 1))) ∧ Chg [] w w' := by
 have h1 := hs.all; have h2 := hs.gS; have h3 := hs.rows; have h4 := hs.drives;have HS := hid hs;clear hs;obtain ⟨g, c, d, p, r, q, b, u, t⟩ := s;simp only [Shp.all, Shp.drives] at h1 h2 h3 h4 ⊢;simp only [Shp.cells];go_enter Tryz.func112, Tryz.ntmps112;go_wp2_with fail;refine (q2g n 0 (r - 1) _).mono ?_; rintro e w2 ⟨rfl, rfl⟩;go_wp2_with fail;go_ret;exact ⟨rfl, by repeat (first | exact Chg.refl _ _ | refine Chg.alloc ?_ _)⟩
theorem sizeB_any (a : Option Addr) (la ca : Nat) (w : World) (_ : la ≤ 9223372036854775807) :
  Calls Tryz.prog 66 #[Aa a la ca] w fun e w' => e = .returned (I J (la : Int)) ∧ w = w' := by
 go_enter Tryz.func66, Tryz.ntmps66;go_wp2;go_ret;exact ⟨rfl, rfl⟩
theorem sizeI_any (a : Option Addr) (la ca : Nat) (w : World) (_ : la ≤ 9223372036854775807) :
  Calls Tryz.prog 89 #[Aa a la ca] w fun e w' => e = .returned (I J (la : Int)) ∧ w = w' := by
 go_enter Tryz.func89, Tryz.ntmps89;go_wp2;go_ret;exact ⟨rfl, rfl⟩
def q3n (x : Rec) : Prop := x.nM = ⟨#[]⟩ ∧ x.length = 0 ∧ x.gP = 0 ∧ x.row = 0 ∧ x.rows = [] ∧ x.data = [] ∧ x.delta = []
theorem len0 {α : Type} {xs : List α} {n : Nat} (h : n = xs.length) (h0 : n = 0) : xs = [] := List.eq_nil_of_length_eq_zero (by omega)
theorem len1 {α : Type} {xs : List α} {n : Nat} (h : n = xs.length) (h0 : ¬ n = 0) : ¬ xs = [] := fun e => by subst e; simp at h; exact h0 h
theorem str_eq0 {s : ByteArray} (h : ¬ s = ⟨#[]⟩) : (s.toList == ([] : List UInt8)) = false := by
 have := q5l h;have e : (⟨#[]⟩ : ByteArray).toList = [] := by
  unfold ByteArray.toList;unfold ByteArray.toList.loop
  rfl
 rw [e] at this;exact this
theorem q4x (x : Rec) (cx : Array Value) (fx : List Nat) (w : World) (hx : recL.rep w cx.toList x fx) :
  Calls Tryz.prog 59 #[.agg cx] w fun e w' => e = .returned (Ac (pb (q3n x))) ∧ Chg [] w w' := by
 obtain ⟨a6, l6, c6, f6, a7, l7, c7, f7, a8, l8, c8, f8, ex, -, -, -, -, -, -, h6, h7, h8, -⟩ := q0m.1 hx;clear hx;obtain ⟨v0, v1, v2, v3, v4, v5, v6, v7, v8⟩ := x;simp only at ex h6 h7 h8;obtain rfl := (tLi ex);clear ex;have q6 := intL.sl_max h6; have q7 := q0o.sl_max h7; have q8 := q0o.sl_max h8;have z6 := h6.1; have z7 := h7.1; have z8 := h8.1;clear h6 h7 h8;have HT := hid (fun h => q0e h : q3n ⟨v0, v1, v2, v3, v4, v5, v6, v7, v8⟩ → pb (q3n ⟨v0, v1, v2, v3, v4, v5, v6, v7, v8⟩) = true);have HF := hid (fun h => q0d h : ¬ q3n ⟨v0, v1, v2, v3, v4, v5, v6, v7, v8⟩ → pb (q3n ⟨v0, v1, v2, v3, v4, v5, v6, v7, v8⟩) = false);generalize pb (q3n ⟨v0, v1, v2, v3, v4, v5, v6, v7, v8⟩) = r at HT HF ⊢;by_cases n2 : v2 = ⟨#[]⟩;rotate_left
 ·have HR := hid (HF.o (fun h => by obtain ⟨Ax, Aw, Av, Au, Ar, Aq, Ap⟩ := h; exact n2 Ax));have e2 : (v2.toList == ([] : List UInt8)) = false := str_eq0 n2;clear n2 z6 z7 z8;go_enter Tryz.func59, Tryz.ntmps59;go_wp2;go_ret;exact ⟨q0l HR.o.symm, by repeat (first | exact Chg.refl _ _ | refine Chg.alloc ?_ _)⟩
 subst n2;by_cases n3 : v3 = 0;rotate_left
 ·have HR := hid (HF.o (fun h => by obtain ⟨Ax, Aw, Av, Au, Ar, Aq, Ap⟩ := h; exact n3 Aw));have e3 : ((v3 : Int) == 0) = false := by simp [n3]
  clear n3 z6 z7 z8;go_enter Tryz.func59, Tryz.ntmps59;go_wp2;go_ret;exact ⟨q0l HR.o.symm, by repeat (first | exact Chg.refl _ _ | refine Chg.alloc ?_ _)⟩
 subst n3;by_cases n4 : v4 = 0;rotate_left
 ·have HR := hid (HF.o (fun h => by obtain ⟨Ax, Aw, Av, Au, Ar, Aq, Ap⟩ := h; exact n4 Av));have e4 : ((v4 : Int) == 0) = false := by simp [n4]
  clear n4 z6 z7 z8;go_enter Tryz.func59, Tryz.ntmps59;go_wp2;go_ret;exact ⟨q0l HR.o.symm, by repeat (first | exact Chg.refl _ _ | refine Chg.alloc ?_ _)⟩
 subst n4;by_cases n5 : v5 = 0;rotate_left
 ·have HR := hid (HF.o (fun h => by obtain ⟨Ax, Aw, Av, Au, Ar, Aq, Ap⟩ := h; exact n5 Au));have e5 : ((v5 : Int) == 0) = false := by simp [n5]
  clear n5 z6 z7 z8;go_enter Tryz.func59, Tryz.ntmps59;go_wp2;go_ret;exact ⟨q0l HR.o.symm, by repeat (first | exact Chg.refl _ _ | refine Chg.alloc ?_ _)⟩
 subst n5;by_cases n6 : l6 = 0;rotate_left
 ·have HR := hid (HF.o (fun h => by obtain ⟨Ax, Aw, Av, Au, Ar, Aq, Ap⟩ := h; exact len1 z6 n6 Ar));have e6 : ((l6 : Int) == 0) = false := by simp; exact n6
  clear n6 z6 z7 z8;go_enter Tryz.func59, Tryz.ntmps59;go_wp2;go_ret;exact ⟨q0l HR.o.symm, by repeat (first | exact Chg.refl _ _ | refine Chg.alloc ?_ _)⟩
 by_cases n7 : l7 = 0
 rotate_left
 ·have HR := hid (HF.o (fun h => by obtain ⟨Ax, Aw, Av, Au, Ar, Aq, Ap⟩ := h; exact len1 z7 n7 Aq));have e7 : ((l7 : Int) == 0) = false := by simp; exact n7
  clear n7 z6 z7 z8;go_enter Tryz.func59, Tryz.ntmps59;go_wp2;go_ret;exact ⟨q0l HR.o.symm, by repeat (first | exact Chg.refl _ _ | refine Chg.alloc ?_ _)⟩
 by_cases n8 : l8 = 0
 rotate_left
 ·have HR := hid (HF.o (fun h => by obtain ⟨Ax, Aw, Av, Au, Ar, Aq, Ap⟩ := h; exact len1 z8 n8 Ap));have e8 : ((l8 : Int) == 0) = false := by simp; exact n8
  clear n8 z6 z7 z8;go_enter Tryz.func59, Tryz.ntmps59;go_wp2;go_ret;exact ⟨q0l HR.o.symm, by repeat (first | exact Chg.refl _ _ | refine Chg.alloc ?_ _)⟩
 have HR := hid (HT.o ⟨rfl, rfl, rfl, rfl, len0 z6 n6, len0 z7 n7, len0 z8 n8⟩);clear z6 z7 z8;subst n6; subst n7; subst n8;go_enter Tryz.func59, Tryz.ntmps59;go_wp2;go_ret;exact ⟨q0l HR.o.symm, by repeat (first | exact Chg.refl _ _ | refine Chg.alloc ?_ _)⟩
theorem q5f {l : Nat} (h : l = 0) : ((l : Int) == 0) = true ∧ ¬ (0 : Int) < (l : Int) ∧ ¬ 0 < l ∧ decide ((0 : Int) < (l : Int)) = false ∧ decide (0 < l) = false := by subst h; decide
def partsN (s : Shp) (n : Int) : Int := (n + 4 * s.data - 1) / (4 * s.data)
def q1h (s : Shp) (x : Rec) : Prop := if x.length = -1 then x.data = [] ∧ x.rows = [] else
 (q0u s.data x.length).2 = 0 ∧ (if x.data = [] then (x.rows.length : Int) = partsN s x.length ∧ q3c (s.rows - 1) x.rows else (x.data.length : Int) = x.length ∧ x.rows = [])
theorem parts0 {s : Shp} {n : Int} (hd : 1 ≤ s.data ∧ s.data ≤ 3) (h : (q0u s.data n).2 = 0) : 1 ≤ n ∧ n ≤ 36 ∧ (q0u s.data n).1 = partsN s n := by
 rcases partsV_cases s.data n hd.1 hd.2 with h1 | h1 | h1
 ·rw [h1] at h; cases h
 ·rw [h1] at h; cases h
 ·exact ⟨h1.2.1, h1.2.2, by rw [h1.1]; rfl⟩
theorem q1h.del {s : Shp} {x : Rec} (h : x.length = -1) : q1h s x ↔ x.data = [] ∧ x.rows = [] := by unfold q1h; rw [if_pos h]
theorem q1h.long {s : Shp} {x : Rec} (h : ¬ x.length = -1) (h2 : ¬ (q0u s.data x.length).2 = 0) : ¬ q1h s x := by unfold q1h; rw [if_neg h]; exact fun h3 => h2 h3.1
theorem q1h.data {s : Shp} {x : Rec} (h : ¬ x.length = -1) (h2 : (q0u s.data x.length).2 = 0) (h3 : ¬ x.data = []) : q1h s x ↔ (x.data.length : Int) = x.length ∧ x.rows = [] := by
 unfold q1h; rw [if_neg h, if_neg h3]; exact ⟨fun h => h.2, fun h => ⟨h2, h⟩⟩
theorem q1h.row {s : Shp} {x : Rec} (h : ¬ x.length = -1) (h2 : (q0u s.data x.length).2 = 0) (h3 : x.data = []) : q1h s x ↔ (x.rows.length : Int) = partsN s x.length ∧ q3c (s.rows - 1) x.rows := by
 unfold q1h; rw [if_neg h, if_pos h3]; exact ⟨fun h => h.2, fun h => ⟨h2, h⟩⟩
theorem z0i (s : Shp) (hs : s.ok) (x : Rec) (cx : Array Value) (fx : List Nat) (w : World) (hx : recL.rep w cx.toList x fx) :
  Calls Tryz.prog 55 #[.agg s.cells, .agg cx] w fun e w' => e = .returned (Ac (pb (q1h s x))) ∧ Chg [] w w' := by
 have HX := hid hx;obtain ⟨a6, l6, c6, f6, a7, l7, c7, f7, a8, l8, c8, f8, ex, o0, o1, on, o3, o4, o5, h6, h7, h8, -⟩ := q0m.1 hx;have HO := hid (And.intro o0 o1);clear hx o0 o1;obtain rfl := (tLi ex);clear ex;have q6 := intL.sl_max h6; have q7 := q0o.sl_max h7; have q8 := q0o.sl_max h8;have Z6 := hid h6.1; have Z7 := hid h7.1; have Z8 := hid h8.1;have H6 := hid h6; have H7 := hid h7; have H8 := hid h8;clear h6 h7 h8;have hd := hs.data; have hr := hs.rows; have hg := hs.gS; have hal := hs.all;have HS := hid hs;clear hs;have e50 : IntKind.i64.wrap (s.rows - 1) = s.rows - 1 := AJ _ (by omega);have e51 : IntKind.i64.wrap (s.gS - 1) = s.gS - 1 := AJ _ (by omega);have e52 : IntKind.i64.wrap (s.all - 1) = s.all - 1 := AJ _ (by omega);show Calls _ _ #[.agg #[I J s.gS, I J s.cZ, I J s.data, I J s.spare, I J s.rows, I J s.cap, I J s.bT, I J s.qU, I J s.sG], .agg _] _ _;have HT := hid (fun h => q0e h : q1h s x → pb (q1h s x) = true);have HF := hid (fun h => q0d h : ¬ q1h s x → pb (q1h s x) = false);have HE := hid (fun Q h => q6n h : ∀ Q, (q1h s x ↔ Q) → pb (q1h s x) = pb Q);generalize pb (q1h s x) = r at HT HF HE ⊢;obtain ⟨p2, A9⟩ : ∃ p, p = (q0u s.data x.length).2 := ⟨_, rfl⟩;obtain ⟨pn, hpn⟩ : ∃ p, p = partsN s x.length := ⟨_, rfl⟩;have HP := hid A9; have HN := hid hpn;clear A9 hpn;by_cases hA : x.length = -1
 ·by_cases hB : l7 = 0
  ·by_cases hD : l6 = 0
   ·have HC : Hid (Chg [] w w) := Chg.refl _ _;have HR := hid (HT.o ((q1h.del hA).2 ⟨len0 Z7.o hB, len0 Z6.o hD⟩));have eA : (x.length == -1) = true := by simp; exact hA
    obtain ⟨za, zb, zc, zd, ze⟩ := q5f hB; obtain ⟨ya, yb, yc, yd, ye⟩ := q5f hD; clear hB hD hA;go_enter Tryz.func55, Tryz.ntmps55;go_wp2_with fail;go_ret;exact ⟨q0l HR.o.symm, (Chg.alloc (Chg.alloc HC.o _) _)⟩
   ·have HC : Hid (Chg [] w w) := Chg.refl _ _;have HR := hid (HF.o (fun h => len1 Z6.o hD ((q1h.del hA).1 h).2));have e1 : ((l6 : Int) == 0) = false := by simp; exact hD
    have eA : (x.length == -1) = true := by simp; exact hA
    obtain ⟨za, zb, zc, zd, ze⟩ := q5f hB; clear hB hD hA;go_enter Tryz.func55, Tryz.ntmps55;go_wp2_with fail;go_ret;exact ⟨q0l HR.o.symm, (Chg.alloc (Chg.alloc HC.o _) _)⟩
  ·have HC : Hid (Chg [] w w) := Chg.refl _ _;have HR := hid (HF.o (fun h => len1 Z7.o hB ((q1h.del hA).1 h).1));have e1 : ((l7 : Int) == 0) = false := by simp; exact hB
   have eA : (x.length == -1) = true := by simp; exact hA
   clear hB hA;go_enter Tryz.func55, Tryz.ntmps55;go_wp2_with fail;go_ret;exact ⟨q0l HR.o.symm, (Chg.alloc (Chg.alloc HC.o _) _)⟩
 have eA : (x.length == -1) = false := by simp; exact hA
 by_cases hP : p2 = 0
 rotate_left
 ·have HC : Hid (Chg [] w w) := Chg.refl _ _;have HR := hid (HF.o (q1h.long hA (by rw [← HP.o]; exact hP)));have e1 : (p2 != 0) = true := by simp; exact hP
  clear hA hP;go_enter Tryz.func55, Tryz.ntmps55;go_wp2_with fail;refine (q3y s x.length hd.1 hd.2 o3 _).mono ?_;rintro e w1 ⟨rfl, hc⟩;rw [← HP.o];obtain ⟨cS, lS, Ag⟩ := bk hc (b := w.heap.size) (q0b (q0c (by simp) _) _) (by simp);obtain ⟨cR, lR, Af⟩ := bk hc (b := w.heap.size + 1) (q0c (by simp) _) (by simp);replace HC := hid (Chg.trans0 (Chg.alloc (Chg.alloc HC.o _) _) hc);clear hc;go_wp2_with fail;go_ret;exact ⟨q0l HR.o.symm, HC.o⟩
 subst hP;have hb := parts0 hd HP.o.symm;have hb1 := hb.1; have hb2 := hb.2.1;clear hb;by_cases hB : l7 = 0
 ·by_cases hD : (l6 : Int) = pn
  ·have HC : Hid (Chg [] w w) := Chg.refl _ _;have HR := hid ((HE.o _ ((q1h.row hA HP.o.symm (len0 Z7.o hB)).trans ⟨fun h => h.2, fun h => ⟨by rw [← Z6.o, ← HN.o]; exact hD, h⟩⟩)));obtain ⟨ra, AG⟩ : ∃ v, v = pb (q3c (s.rows - 1) x.rows) := ⟨_, rfl⟩;rw [← AG] at HR;have HA := hid AG;have e1 : ((l6 : Int) == pn) = true := by simp; exact hD
   obtain ⟨za, zb, zc, zd, ze⟩ := q5f hB; clear hB hA hD AG;go_enter Tryz.func55, Tryz.ntmps55;go_wp2_with fail;refine (q3y s x.length hd.1 hd.2 o3 _).mono ?_;rintro e w1 ⟨rfl, hc⟩;rw [← HP.o];obtain ⟨cS, lS, Ag⟩ := bk hc (b := w.heap.size) (q0b (q0c (by simp) _) _) (by simp);obtain ⟨cR, lR, Af⟩ := bk hc (b := w.heap.size + 1) (q0c (by simp) _) (by simp);replace HC := hid (Chg.trans0 (Chg.alloc (Chg.alloc HC.o _) _) hc);clear hc;go_wp2_with fail;obtain ⟨Al, Ai, Ae⟩ := q0f (fun w' => Know (w.heap.size) #[I J s.gS, I J s.cZ, I J s.data, I J s.spare, I J s.rows, I J s.cap, I J s.bT, I J s.qU, I J s.sG] w' ∧ Know (w.heap.size + 1) #[I J x.kD, I J x.seq, Ab x.nM, I J x.length, I J x.gP, I J x.row, Aa a6 l6 c6, Aa a7 l7 c7, Aa a8 l8 c8] w');have Ah := Ai.o (w1.drew) ⟨(Know.of (by refine q0a ?_; exact Ag.o)), (Know.of (by refine q0a ?_; exact Af.o))⟩;refine q0g Al (by kernel_rfl) Ah ?_;refine rgT 0 Ah ?_;refine rgL 1 Ah Ae ?_;refine rgT 2 Ah ?_;refine rgL 3 Ah Ae ?_;refine rgT 4 Ah ?_;refine rgL 5 Ah Ae ?_;refine rgq 6 (fun K hK => ?_);go_simp;go_at_call 103;refine (q9m s x.length hd.1 hd.2 (by omega) (by omega) _).mono ?_;rintro e w2 ⟨rfl, hc⟩;rw [show (x.length + 4 * s.data - 1) / (4 * s.data) = pn from HN.o.symm];have h := bk hc (q0a Ag.o) (by simp); clear Ag cS lS; obtain ⟨cS, lS, Ag⟩ := h;have h := bk hc (q0a Af.o) (by simp); clear Af cR lR; obtain ⟨cR, lR, Af⟩ := h;replace HC := hid (Chg.trans0 (Chg.drew HC.o) hc);clear hc;go_wp2_with fail;refine hK.out _ _ (Ai.o _ ⟨cS, cR⟩) (fun hS1 => ?_);clear hK K;try simp only [AK, pA, pB, pC]
   refine rgT 7 hS1 ?_;refine rgT 8 hS1 ?_;refine rgT 9 hS1 ?_;refine rgL 10 hS1 Ae ?_;refine rgT 11 hS1 ?_;refine rgL 12 hS1 Ae ?_;refine rgT 13 hS1 ?_;refine rgq 14 (fun K hK => ?_);go_simp;go_at_call 22;refine (q9l a6 l6 c6 x.rows f6 (s.rows - 1) _ (Lay.sl_ext intL H6.o HC.o)).mono ?_;rintro e w3 ⟨rfl, hc⟩;rw [← HA.o];have h := bkq hc Ag Af HC; clear hc Ag cS lS Af cR lR HC; obtain ⟨cS, lS, Ag, cR, lR, Af, HC⟩ := h;go_wp2_with fail;refine hK.out _ _ (Ai.o _ ⟨cS, cR⟩) (fun hS2 => ?_);clear hK K;try simp only [AK, pA, pB, pC]
   refine rgT 15 hS2 ?_;refine rgT 16 hS2 ?_;refine wDn ?_;go_wp2_with fail;go_ret;exact ⟨q0l HR.o.symm, HC.o⟩
  ·have HC : Hid (Chg [] w w) := Chg.refl _ _;have HR := hid (HF.o (fun h => hD (by rw [Z6.o, HN.o]; exact ((q1h.row hA HP.o.symm (len0 Z7.o hB)).1 h).1)));have e1 : ((l6 : Int) == pn) = false := by simp; exact hD
   obtain ⟨za, zb, zc, zd, ze⟩ := q5f hB; clear hB hA hD;go_enter Tryz.func55, Tryz.ntmps55;go_wp2_with fail;refine (q3y s x.length hd.1 hd.2 o3 _).mono ?_;rintro e w1 ⟨rfl, hc⟩;rw [← HP.o];obtain ⟨cS, lS, Ag⟩ := bk hc (b := w.heap.size) (q0b (q0c (by simp) _) _) (by simp);obtain ⟨cR, lR, Af⟩ := bk hc (b := w.heap.size + 1) (q0c (by simp) _) (by simp);replace HC := hid (Chg.trans0 (Chg.alloc (Chg.alloc HC.o _) _) hc);clear hc;go_wp2_with fail;obtain ⟨Al, Ai, Ae⟩ := q0f (fun w' => Know (w.heap.size) #[I J s.gS, I J s.cZ, I J s.data, I J s.spare, I J s.rows, I J s.cap, I J s.bT, I J s.qU, I J s.sG] w' ∧ Know (w.heap.size + 1) #[I J x.kD, I J x.seq, Ab x.nM, I J x.length, I J x.gP, I J x.row, Aa a6 l6 c6, Aa a7 l7 c7, Aa a8 l8 c8] w');have Ah := Ai.o (w1.drew) ⟨(Know.of (by refine q0a ?_; exact Ag.o)), (Know.of (by refine q0a ?_; exact Af.o))⟩;refine q0g Al (by kernel_rfl) Ah ?_;refine rgT 0 Ah ?_;refine rgL 1 Ah Ae ?_;refine rgT 2 Ah ?_;refine rgL 3 Ah Ae ?_;refine rgT 4 Ah ?_;refine rgL 5 Ah Ae ?_;refine rgq 6 (fun K hK => ?_);go_simp;go_at_call 103;refine (q9m s x.length hd.1 hd.2 (by omega) (by omega) _).mono ?_;rintro e w2 ⟨rfl, hc⟩;rw [show (x.length + 4 * s.data - 1) / (4 * s.data) = pn from HN.o.symm];have h := bk hc (q0a Ag.o) (by simp); clear Ag cS lS; obtain ⟨cS, lS, Ag⟩ := h;have h := bk hc (q0a Af.o) (by simp); clear Af cR lR; obtain ⟨cR, lR, Af⟩ := h;replace HC := hid (Chg.trans0 (Chg.drew HC.o) hc);clear hc;go_wp2_with fail;refine hK.out _ _ (Ai.o _ ⟨cS, cR⟩) (fun hS1 => ?_);clear hK K;try simp only [AK, pA, pB, pC]
   refine rgT 7 hS1 ?_;refine rgT 8 hS1 ?_;refine rgS 9 hS1 ?_;refine rgS 10 hS1 ?_;refine rgS 11 hS1 ?_;refine rgS 12 hS1 ?_;refine rgS 13 hS1 ?_;refine rgS 14 hS1 ?_;refine rgT 15 hS1 ?_;refine rgT 16 hS1 ?_;refine wDn ?_;go_wp2_with fail;go_ret;exact ⟨q0l HR.o.symm, HC.o⟩
 have hB0 : (0 : Int) < (l7 : Int) := by omega
 by_cases hD : (l7 : Int) = x.length
 ·by_cases hE : l6 = 0
  ·have HC : Hid (Chg [] w w) := Chg.refl _ _;have HR := hid (HT.o ((q1h.data hA HP.o.symm (len1 Z7.o hB)).2 ⟨by rw [← Z7.o]; exact hD, len0 Z6.o hE⟩));have e1 : ((l7 : Int) == x.length) = true := by simp; exact hD
   obtain ⟨za, zb, zc, zd, ze⟩ := q5f hE; clear hE hA hB;go_enter Tryz.func55, Tryz.ntmps55;go_wp2_with fail;refine (q3y s x.length hd.1 hd.2 o3 _).mono ?_;rintro e w1 ⟨rfl, hc⟩;rw [← HP.o];obtain ⟨cS, lS, Ag⟩ := bk hc (b := w.heap.size) (q0b (q0c (by simp) _) _) (by simp);obtain ⟨cR, lR, Af⟩ := bk hc (b := w.heap.size + 1) (q0c (by simp) _) (by simp);replace HC := hid (Chg.trans0 (Chg.alloc (Chg.alloc HC.o _) _) hc);clear hc;go_wp2_with fail;go_ret;exact ⟨q0l HR.o.symm, HC.o⟩
  ·have HC : Hid (Chg [] w w) := Chg.refl _ _;have HR := hid (HF.o (fun h => len1 Z6.o hE ((q1h.data hA HP.o.symm (len1 Z7.o hB)).1 h).2));have e1 : ((l7 : Int) == x.length) = true := by simp; exact hD
   have e2 : ((l6 : Int) == 0) = false := by simp; exact hE
   clear hE hA hB;go_enter Tryz.func55, Tryz.ntmps55;go_wp2_with fail;refine (q3y s x.length hd.1 hd.2 o3 _).mono ?_;rintro e w1 ⟨rfl, hc⟩;rw [← HP.o];obtain ⟨cS, lS, Ag⟩ := bk hc (b := w.heap.size) (q0b (q0c (by simp) _) _) (by simp);obtain ⟨cR, lR, Af⟩ := bk hc (b := w.heap.size + 1) (q0c (by simp) _) (by simp);replace HC := hid (Chg.trans0 (Chg.alloc (Chg.alloc HC.o _) _) hc);clear hc;go_wp2_with fail;go_ret;exact ⟨q0l HR.o.symm, HC.o⟩
 ·have HC : Hid (Chg [] w w) := Chg.refl _ _;have HR := hid (HF.o (fun h => hD (by rw [Z7.o]; exact ((q1h.data hA HP.o.symm (len1 Z7.o hB)).1 h).1)));have e1 : ((l7 : Int) == x.length) = false := by simp; exact hD
  clear hD hA hB;go_enter Tryz.func55, Tryz.ntmps55;go_wp2_with fail;refine (q3y s x.length hd.1 hd.2 o3 _).mono ?_;rintro e w1 ⟨rfl, hc⟩;rw [← HP.o];obtain ⟨cS, lS, Ag⟩ := bk hc (b := w.heap.size) (q0b (q0c (by simp) _) _) (by simp);obtain ⟨cR, lR, Af⟩ := bk hc (b := w.heap.size + 1) (q0c (by simp) _) (by simp);replace HC := hid (Chg.trans0 (Chg.alloc (Chg.alloc HC.o _) _) hc);clear hc;go_wp2_with fail;go_ret;exact ⟨q0l HR.o.symm, HC.o⟩
def q3e (s : Shp) (x : Rec) : Prop := (x.delta.length : Int) = s.all ∧ x.delta[x.gP.toNat]? = some 0 ∧ ∀ k ∈ x.rows, ¬ x.delta[k.toNat]? = some 0
theorem q5d.mem {m : Int} {xs : List Int} (h : q5d m xs) {x : Int} (hx : x ∈ xs) : 0 ≤ x ∧ x ≤ m := by
 obtain ⟨i, hi⟩ := List.getElem?_of_mem hx;exact (h i x hi).1
theorem byte0 {z : UInt8} {Z : Int} (h : Z = z.toNat) : (z = 0 → (Z == 0) = true ∧ (Z != 0) = false) ∧ (¬ z = 0 → (Z == 0) = false ∧ (Z != 0) = true) := by
 subst h;refine ⟨fun h => by subst h; simp, fun h => ?_⟩;have h1 : z.toNat ≠ 0 := fun h0 => h (UInt8.toNat_inj.1 (by rw [h0]; rfl))
 have : (z.toNat : Int) ≠ 0 := by omega
 exact ⟨by simpa using h1, by simpa using h1⟩
theorem q7g (s : Shp) (hs : s.ok) (x : Rec) (cx : Array Value) (fx : List Nat) (w : World) (hx : recL.rep w cx.toList x fx) (hgr : 0 ≤ x.gP ∧ x.gP ≤ s.all - 1) (hri : q5d (s.all - 1) x.rows) :
  Calls Tryz.prog 58 #[.agg s.cells, .agg cx] w fun e w' => e = .returned (Ac (pb (q3e s x))) ∧ Chg [] w w' := by
 have HX := hid hx;obtain ⟨a6, l6, c6, f6, a7, l7, c7, f7, a8, l8, c8, f8, ex, o0, o1, on, o3, o4, o5, h6, h7, h8, -⟩ := q0m.1 hx;have HO := hid (And.intro o0 o1);clear hx o0 o1;obtain rfl := (tLi ex);clear ex;have q6 := intL.sl_max h6; have q7 := q0o.sl_max h7; have q8 := q0o.sl_max h8;have Z6 := hid h6.1; have Z7 := hid h7.1; have Z8 := hid h8.1;have H6 := hid h6; have H7 := hid h7; have H8 := hid h8;clear h6 h7 h8;have hd := hs.data; have hr := hs.rows; have hg := hs.gS; have hal := hs.all;have HS := hid hs;clear hs;have e50 : IntKind.i64.wrap (s.rows - 1) = s.rows - 1 := AJ _ (by omega);have e51 : IntKind.i64.wrap (s.gS - 1) = s.gS - 1 := AJ _ (by omega);have e52 : IntKind.i64.wrap (s.all - 1) = s.all - 1 := AJ _ (by omega);show Calls _ _ #[.agg #[I J s.gS, I J s.cZ, I J s.data, I J s.spare, I J s.rows, I J s.cap, I J s.bT, I J s.qU, I J s.sG], .agg _] _ _;have HT := hid (fun h => q0e h : q3e s x → pb (q3e s x) = true);have HF := hid (fun h => q0d h : ¬ q3e s x → pb (q3e s x) = false);have HE := hid (fun Q h => q6n h : ∀ Q, (q3e s x ↔ Q) → pb (q3e s x) = pb Q);generalize pb (q3e s x) = r at HT HF HE ⊢;have HRI := hid hri;clear hri;obtain ⟨hg1, hg2⟩ := hgr;by_cases hA : (l8 : Int) = s.all;rotate_left
 ·have HC : Hid (Chg [] w w) := Chg.refl _ _;have HR := hid (HF.o (fun h => hA (by rw [Z8.o]; exact h.1)));have e1 : ((l8 : Int) != s.all) = true := by simp; exact hA
  clear hA;go_enter Tryz.func58, Tryz.ntmps58;go_wp2_with fail;obtain ⟨Al, Ai, Ae⟩ := q0f (fun w' => Know (w.heap.size) #[I J s.gS, I J s.cZ, I J s.data, I J s.spare, I J s.rows, I J s.cap, I J s.bT, I J s.qU, I J s.sG] w' ∧ Know (w.heap.size + 1) #[I J x.kD, I J x.seq, Ab x.nM, I J x.length, I J x.gP, I J x.row, Aa a6 l6 c6, Aa a7 l7 c7, Aa a8 l8 c8] w');have Ah := Ai.o (((w.alloc (.cells #[I J s.gS, I J s.cZ, I J s.data, I J s.spare, I J s.rows, I J s.cap, I J s.bT, I J s.qU, I J s.sG] 25)).alloc (.cells #[I J x.kD, I J x.seq, Ab x.nM, I J x.length, I J x.gP, I J x.row, Aa a6 l6 c6, Aa a7 l7 c7, Aa a8 l8 c8] 38)).drew) ⟨(Know.of (by refine q0a ?_; refine q0b ?_ _; exact q0c (by simp) _)), (Know.of (by refine q0a ?_; exact q0c (by simp) _))⟩;refine q0g Al (by kernel_rfl) Ah ?_;refine rgT 0 Ah ?_;refine rgL 1 Ah Ae ?_;refine rgT 2 Ah ?_;refine rgL 3 Ah Ae ?_;refine rgq 4 (fun K hK => ?_);go_simp;go_at_call 23;refine (q0t s HS.o _).mono ?_;rintro e w1 ⟨rfl, hc⟩;obtain ⟨cS, lS, Ag⟩ := bk hc (b := w.heap.size) (q0a (q0b (q0c (by simp) _) _)) (by simp);obtain ⟨cR, lR, Af⟩ := bk hc (b := w.heap.size + 1) (q0a (q0c (by simp) _)) (by simp);replace HC := hid (Chg.trans0 (Chg.drew (Chg.alloc (Chg.alloc HC.o _) _)) hc);clear hc;go_wp2_with fail;refine hK.out _ _ (Ai.o _ ⟨cS, cR⟩) (fun hS1 => ?_);clear hK K;try simp only [AK, pA, pB, pC]
  refine rgT 5 hS1 ?_;refine rgT 6 hS1 ?_;refine rgS 7 hS1 ?_;refine rgS 8 hS1 ?_;refine rgS 9 hS1 ?_;refine rgS 10 hS1 ?_;refine rgS 11 hS1 ?_;refine rgS 12 hS1 ?_;refine rgS 13 hS1 ?_;refine rgT 14 hS1 ?_;refine wDn ?_;go_wp2_with fail;go_ret;exact ⟨q0l HR.o.symm, HC.o⟩
 have e1 : ((l8 : Int) != s.all) = false := by simp; exact hA
 have HAA := hid hA;have hgl : x.gP.toNat < l8 := by omega
 have hgl2 : x.gP < (l8 : Int) := by omega
 obtain ⟨z, Z, b, o, Az, hA8, hcz, hz0, hz1⟩ := q4o H8.o hgl;have HD := hid (show x.delta[x.gP.toNat]? = some z from Az.o.1);subst hA8;have hb0 := byte0 Az.o.2.1;have AE := hid hcz;clear hcz;by_cases hZ : z = 0;rotate_left
 ·have HC : Hid (Chg [] w w) := Chg.refl _ _;have HR := hid (HF.o (fun h => hZ (by have h2 := h.2.1; rw [HD.o] at h2; exact Option.some.inj h2)));have e2 := (hb0.2 hZ).2;clear hb0 hA hZ;go_enter Tryz.func58, Tryz.ntmps58;go_wp2_with fail;obtain ⟨Al, Ai, Ae⟩ := q0f (fun w' => Know (w.heap.size) #[I J s.gS, I J s.cZ, I J s.data, I J s.spare, I J s.rows, I J s.cap, I J s.bT, I J s.qU, I J s.sG] w' ∧ Know (w.heap.size + 1) #[I J x.kD, I J x.seq, Ab x.nM, I J x.length, I J x.gP, I J x.row, Aa a6 l6 c6, Aa a7 l7 c7, Aa (some ⟨b, o, none⟩) l8 c8] w' ∧ w'.cell? ⟨b, o + x.gP.toNat, none⟩ = some (.int .u8 Z));have Ah := Ai.o (((w.alloc (.cells #[I J s.gS, I J s.cZ, I J s.data, I J s.spare, I J s.rows, I J s.cap, I J s.bT, I J s.qU, I J s.sG] 25)).alloc (.cells #[I J x.kD, I J x.seq, Ab x.nM, I J x.length, I J x.gP, I J x.row, Aa a6 l6 c6, Aa a7 l7 c7, Aa (some ⟨b, o, none⟩) l8 c8] 38)).drew) ⟨(Know.of (by refine q0a ?_; refine q0b ?_ _; exact q0c (by simp) _)), (Know.of (by refine q0a ?_; exact q0c (by simp) _)), (q0h (Chg.drew (Chg.alloc (Chg.alloc HC.o _) _)) AE.o (Lay.sl_lt _ H8.o _ Az.o.2.2))⟩;refine q0g Al (by kernel_rfl) Ah ?_;refine rgT 0 Ah ?_;refine rgL 1 Ah Ae ?_;refine rgT 2 Ah ?_;refine rgL 3 Ah Ae ?_;refine rgq 4 (fun K hK => ?_);go_simp;go_at_call 23;refine (q0t s HS.o _).mono ?_;rintro e w1 ⟨rfl, hc⟩;obtain ⟨cS, lS, Ag⟩ := bk hc (b := w.heap.size) (q0a (q0b (q0c (by simp) _) _)) (by simp);obtain ⟨cR, lR, Af⟩ := bk hc (b := w.heap.size + 1) (q0a (q0c (by simp) _)) (by simp);replace HC := hid (Chg.trans0 (Chg.drew (Chg.alloc (Chg.alloc HC.o _) _)) hc);clear hc;go_wp2_with fail;refine hK.out _ _ (Ai.o _ ⟨cS, cR, (q0h HC.o AE.o (Lay.sl_lt _ H8.o _ Az.o.2.2))⟩) (fun hS1 => ?_);clear hK K;try simp only [AK, pA, pB, pC]
  refine rgT 5 hS1 ?_;refine rgT 6 hS1 ?_;refine rgT 7 hS1 ?_;refine rgL 8 hS1 Ae ?_;refine rgT 9 hS1 ?_;refine rgL 10 hS1 Ae ?_;refine rgT 11 hS1 ?_;refine rgL 12 hS1 Ae ?_;refine rgT 13 hS1 ?_;refine rgT 14 hS1 ?_;refine wDn ?_;go_wp2_with fail;go_ret;exact ⟨q0l HR.o.symm, HC.o⟩
 have HC : Hid (Chg [] w w) := Chg.refl _ _;have e2 := (hb0.1 hZ).2;subst hZ;clear hb0 hA;go_enter Tryz.func58, Tryz.ntmps58;go_wp2_with fail;obtain ⟨Al, Ai, Ae⟩ := q0f (fun w' => Know (w.heap.size) #[I J s.gS, I J s.cZ, I J s.data, I J s.spare, I J s.rows, I J s.cap, I J s.bT, I J s.qU, I J s.sG] w' ∧ Know (w.heap.size + 1) #[I J x.kD, I J x.seq, Ab x.nM, I J x.length, I J x.gP, I J x.row, Aa a6 l6 c6, Aa a7 l7 c7, Aa (some ⟨b, o, none⟩) l8 c8] w' ∧ w'.cell? ⟨b, o + x.gP.toNat, none⟩ = some (.int .u8 Z));have Ah := Ai.o (((w.alloc (.cells #[I J s.gS, I J s.cZ, I J s.data, I J s.spare, I J s.rows, I J s.cap, I J s.bT, I J s.qU, I J s.sG] 25)).alloc (.cells #[I J x.kD, I J x.seq, Ab x.nM, I J x.length, I J x.gP, I J x.row, Aa a6 l6 c6, Aa a7 l7 c7, Aa (some ⟨b, o, none⟩) l8 c8] 38)).drew) ⟨(Know.of (by refine q0a ?_; refine q0b ?_ _; exact q0c (by simp) _)), (Know.of (by refine q0a ?_; exact q0c (by simp) _)), (q0h (Chg.drew (Chg.alloc (Chg.alloc HC.o _) _)) AE.o (Lay.sl_lt _ H8.o _ Az.o.2.2))⟩;refine q0g Al (by kernel_rfl) Ah ?_;refine rgT 0 Ah ?_;refine rgL 1 Ah Ae ?_;refine rgT 2 Ah ?_;refine rgL 3 Ah Ae ?_;refine rgq 4 (fun K hK => ?_);go_simp;go_at_call 23;refine (q0t s HS.o _).mono ?_;rintro e w1 ⟨rfl, hc⟩;obtain ⟨cS, lS, Ag⟩ := bk hc (b := w.heap.size) (q0a (q0b (q0c (by simp) _) _)) (by simp);obtain ⟨cR, lR, Af⟩ := bk hc (b := w.heap.size + 1) (q0a (q0c (by simp) _)) (by simp);replace HC := hid (Chg.trans0 (Chg.drew (Chg.alloc (Chg.alloc HC.o _) _)) hc);clear hc;go_wp2_with fail;refine hK.out _ _ (Ai.o _ ⟨cS, cR, (q0h HC.o AE.o (Lay.sl_lt _ H8.o _ Az.o.2.2))⟩) (fun hS1 => ?_);clear hK K;try simp only [AK, pA, pB, pC]
 refine rgT 5 hS1 ?_;refine rgT 6 hS1 ?_;refine rgT 7 hS1 ?_;refine rgL 8 hS1 Ae ?_;refine rgT 9 hS1 ?_;refine rgL 10 hS1 Ae ?_;refine rgT 11 hS1 ?_;refine rgL 12 hS1 Ae ?_;refine rgT 13 hS1 ?_;refine rgT 14 hS1 ?_;refine wDn ?_;go_wp2_with fail;go_loopw [5] (fun i wr => ∃ k : Nat, k ≤ l6 ∧ i = I J k ∧ Hid (∀ y ∈ x.rows.take k, ¬ x.delta[y.toNat]? = some 0) ∧ Hid (Chg [] w1 wr)) (fun i _ => l6 - (intOf i).toNat)
 case atStart => exact ⟨0, by omega, rfl, by intro y hy; simp at hy, Chg.refl _ _⟩
 case round =>
  obtain ⟨k, hk, rfl, HK, Aj⟩ := hrel;have hR := Aj.o.keep0 Af.o;have cR2 := cellsOf hR; have lR2 := ltOf hR;have Ak := hid (HC.o.trans0 Aj.o);clear hR cR lR cS lS;by_cases hlt : k < l6
  ·obtain ⟨y, b2, o2, HY, rfl, AB, AA⟩ := q2n (intL.sl_ext H6.o Ak.o) hlt;have hy := HRI.o.mem (AL HY.o.1);obtain ⟨j, rfl⟩ : ∃ j : Nat, y = (j : Int) := ⟨y.toNat, by omega⟩;have hjl : j < l8 := by have := HAA.o; omega
   have hj1 : (j : Int) < (l8 : Int) := by omega
   have hk1 : (k : Int) < (l6 : Int) := by omega
   obtain ⟨u, U, b3, o3, HU, e', hcu, hu0, hu1⟩ := q4o (q0o.sl_ext H8.o Ak.o) hjl;simp only [Option.some.injEq, Addr.mk.injEq, and_true] at e';obtain ⟨rfl, rfl⟩ := e';have hb1 := byte0 HU.o.2.1;by_cases hU : u = 0
   ·have HR := hid (HF.o (fun h => h.2.2 _ (AL HY.o.1) (by rw [← hU]; simpa using HU.o.1)));have e3 := (hb1.1 hU).1;clear hb1 hU hy;go_wp2_with fail;go_quiet (fail);go_wp2_with fail;go_ret;exact ⟨q0l HR.o.symm, Ak.o.drewN _⟩
   ·have HN := hid (show ∀ y ∈ x.rows.take (k + 1), ¬ x.delta[y.toNat]? = some 0 by
     intro y hy;rw [q1e HY.o.1] at hy;rcases List.mem_append.1 hy with h1 | h1
     ·exact HK.o y h1
     ·simp at h1; subst h1; have h2 := HU.o.1; simp only [Int.toNat_natCast]; rw [h2]; exact fun h => hU (Option.some.inj h))
    have e3 := (hb1.2 hU).1;clear hb1 hU hy;go_wp2_with fail;go_quiet (fail);go_wp2_with fail;go_roundw
    case rel => exact ⟨k + 1, by omega, by go_num, HN, Aj.o.drewN _⟩
    case measure => simp [intOf]; omega
  ·have HR := hid (HT.o ⟨by rw [← Z8.o]; exact HAA.o, HD.o, fun y hy => HK.o y (by rw [List.take_of_length_le (by have := Z6.o; omega)]; exact hy)⟩);go_wp2_with fail;go_ret;exact ⟨q0l HR.o.symm, Ak.o⟩
noncomputable def q3x (s : Shp) (x : Rec) : Int := if q0z x.nM = 0 then (if pb (q1h s x) = true then 0 else 3) else q0z x.nM
theorem pb_step {m : Int} {xs : List Int} {k : Nat} {x : Int} (hx : xs[k]? = some x) (h : q2m m xs k) (h1 : 0 ≤ x ∧ x ≤ m) : pb (q2m m xs (k + 1)) = !pb (x ∈ xs.take k) := by
 by_cases h2 : x ∈ xs.take k
 ·rw [q0e h2, q0d (fun h3 => (h3 k x (by omega) hx).2 h2)]; rfl
 ·rw [q0d h2, q0e (h.next hx h1 h2)]; rfl
theorem pb_out {m : Int} {xs : List Int} {k : Nat} {x : Int} (hx : xs[k]? = some x) (h1 : ¬ (0 ≤ x ∧ x ≤ m)) : pb (q2m m xs (k + 1)) = false := q0d (fun h3 => h1 (h3 k x (by omega) hx).1)
theorem pb_dead {m : Int} {xs : List Int} {k : Nat} (h : ¬ q2m m xs k) : pb (q2m m xs (k + 1)) = false := q0d (fun h3 => h (fun i x hi hx => h3 i x (by omega) hx))
theorem pb_end {m : Int} {xs : List Int} {k : Nat} (hk : xs.length ≤ k) : pb (q2m m xs k) = pb (q3c m xs) := q6n ⟨fun h => h.all hk, fun h i x _ hx => h i x hx⟩
theorem q2p (s : ByteArray) (hs : s.size ≤ maxLen) (w : World) : Calls Tryz.prog 32 #[Ab s] w fun e w' => e = .returned (I J (q0z s)) ∧ Chg [] w w' :=
 (impl_name s hs w).mono fun _ _ h => ⟨h.1, h.2 ▸ Chg.refl _ _⟩
theorem q7t (s : ByteArray) (hs : s.size ≤ maxLen) (w : World) : Calls Tryz.prog 54 #[Ab s] w fun e w' => e = .returned (I J (q0z s)) ∧ Chg [] w w' :=
 (spec_name s hs w).mono fun _ _ h => ⟨h.1, h.2 ▸ Chg.refl _ _⟩
theorem nn_ne {n : Int} (h : ¬ n = 0) : (n != 0) = true := by simp; exact h
theorem q2t (a : Option Addr) (la ca : Nat) (w : World) (hm : la ≤ 9223372036854775807) :
  Calls Tryz.prog 66 #[Aa a la ca] w fun e w' => e = .returned (I J (la : Int)) ∧ Chg [] w w' :=
 (sizeB_any a la ca w hm).mono fun _ _ h => ⟨h.1, h.2 ▸ Chg.refl _ _⟩
theorem q7u (a : Option Addr) (la ca : Nat) (w : World) (hm : la ≤ 9223372036854775807) :
  Calls Tryz.prog 89 #[Aa a la ca] w fun e w' => e = .returned (I J (la : Int)) ∧ Chg [] w w' :=
 (sizeI_any a la ca w hm).mono fun _ _ h => ⟨h.1, h.2 ▸ Chg.refl _ _⟩
theorem q6q (a : Option Addr) (la ca : Nat) (xs : List Int) (f : List Nat) (v : Int) (w : World) (ha : intL.sl w a la ca xs f) :
  Calls Tryz.prog 88 #[Aa a la ca, I J v] w fun e w' => e = .returned (Ac (pb (v ∈ xs))) ∧ Chg [] w w' :=
 (z1t a la ca xs f v w ha).mono fun _ _ h => ⟨h.1, h.2 ▸ Chg.refl _ _⟩
theorem q7i (s : Shp) (hs : s.ok) (x : Rec) (cx : Array Value) (fx : List Nat) (w : World) (hx : recL.rep w cx.toList x fx) :
  Calls Tryz.prog 110 #[.agg s.cells, .agg cx] w fun e w' => e = .returned (I J (q3x s x)) ∧ Chg [] w w' := by
 have HX := hid hx;obtain ⟨a6, l6, c6, f6, a7, l7, c7, f7, a8, l8, c8, f8, ex, o0, o1, on, o3, o4, o5, h6, h7, h8, -⟩ := q0m.1 hx;have HO := hid (And.intro o0 o1);clear hx o0 o1;obtain rfl := (tLi ex);clear ex;have q6 := intL.sl_max h6; have q7 := q0o.sl_max h7; have q8 := q0o.sl_max h8;have Z6 := hid h6.1; have Z7 := hid h7.1; have Z8 := hid h8.1;have H6 := hid h6; have H7 := hid h7; have H8 := hid h8;clear h6 h7 h8;have hd := hs.data; have hr := hs.rows; have hg := hs.gS; have hal := hs.all;have HS := hid hs;clear hs;have e50 : IntKind.i64.wrap (s.rows - 1) = s.rows - 1 := AJ _ (by omega);have e51 : IntKind.i64.wrap (s.gS - 1) = s.gS - 1 := AJ _ (by omega);have e52 : IntKind.i64.wrap (s.all - 1) = s.all - 1 := AJ _ (by omega);show Calls _ _ #[.agg #[I J s.gS, I J s.cZ, I J s.data, I J s.spare, I J s.rows, I J s.cap, I J s.bT, I J s.qU, I J s.sG], .agg _] _ _;have HT := hid (fun h => q0e h : q1h s x → pb (q1h s x) = true);have HF := hid (fun h => q0d h : ¬ q1h s x → pb (q1h s x) = false);have HE := hid (fun Q h => q6n h : ∀ Q, (q1h s x ↔ Q) → pb (q1h s x) = pb Q);obtain ⟨nv, AH⟩ : ∃ n, n = q0z x.nM := ⟨_, rfl⟩;have Am := hid AH;have HM := hid (show q3x s x = if nv = 0 then (if pb (q1h s x) = true then 0 else 3) else nv by rw [AH]; rfl);clear AH;generalize pb (q1h s x) = r at HT HF HE HM ⊢;generalize q3x s x = v at HM ⊢;by_cases hN : nv = 0;rotate_left
 ·have HC : Hid (Chg [] w w) := Chg.refl _ _;have HR := hid (show v = nv by rw [HM.o, if_neg hN]);have e1 := nn_ne hN;clear hN;go_enter Tryz.func110, Tryz.ntmps110;go_wp2_with fail;refine (q2p x.nM on _).mono ?_;rintro e w1 ⟨rfl, hc⟩;rw [← Am.o];obtain ⟨cS, lS, Ag⟩ := bk hc (b := w.heap.size) (q0b (q0c (by simp) _) _) (by simp);obtain ⟨cR, lR, Af⟩ := bk hc (b := w.heap.size + 1) (q0c (by simp) _) (by simp);replace HC := hid (Chg.trans0 (Chg.alloc (Chg.alloc HC.o _) _) hc);clear hc;go_wp2_with fail;go_ret;exact ⟨q0i HR.o.symm, HC.o⟩
 subst hN;by_cases hA : x.length = -1
 ·by_cases hB : l7 = 0
  ·by_cases hD : l6 = 0
   ·have HC : Hid (Chg [] w w) := Chg.refl _ _;have HR := hid (show v = 0 by rw [HM.o, if_pos rfl, if_pos (HT.o ((q1h.del hA).2 ⟨len0 Z7.o hB, len0 Z6.o hD⟩))]);have eA : (x.length == -1) = true := by simp; exact hA
    obtain ⟨za, zb, zc, zd, ze⟩ := q5f hB; obtain ⟨ya, yb, yc, yd, ye⟩ := q5f hD; clear hB hD hA;go_enter Tryz.func110, Tryz.ntmps110;go_wp2_with fail;refine (q2p x.nM on _).mono ?_;rintro e w1 ⟨rfl, hc⟩;rw [← Am.o];obtain ⟨cS, lS, Ag⟩ := bk hc (b := w.heap.size) (q0b (q0c (by simp) _) _) (by simp);obtain ⟨cR, lR, Af⟩ := bk hc (b := w.heap.size + 1) (q0c (by simp) _) (by simp);replace HC := hid (Chg.trans0 (Chg.alloc (Chg.alloc HC.o _) _) hc);clear hc;go_wp2_with fail;go_ret;exact ⟨q0i HR.o.symm, HC.o⟩
   ·have HC : Hid (Chg [] w w) := Chg.refl _ _;have HR := hid (show v = 3 by rw [HM.o, if_pos rfl, if_neg (by rw [HF.o (fun h => len1 Z6.o hD ((q1h.del hA).1 h).2)]; simp)]);have e1 : (0 : Int) < (l6 : Int) := by omega
    have eA : (x.length == -1) = true := by simp; exact hA
    obtain ⟨za, zb, zc, zd, ze⟩ := q5f hB; clear hB hD hA;go_enter Tryz.func110, Tryz.ntmps110;go_wp2_with fail;refine (q2p x.nM on _).mono ?_;rintro e w1 ⟨rfl, hc⟩;rw [← Am.o];obtain ⟨cS, lS, Ag⟩ := bk hc (b := w.heap.size) (q0b (q0c (by simp) _) _) (by simp);obtain ⟨cR, lR, Af⟩ := bk hc (b := w.heap.size + 1) (q0c (by simp) _) (by simp);replace HC := hid (Chg.trans0 (Chg.alloc (Chg.alloc HC.o _) _) hc);clear hc;go_wp2_with fail;go_ret;exact ⟨q0i HR.o.symm, HC.o⟩
  ·have HC : Hid (Chg [] w w) := Chg.refl _ _;have HR := hid (show v = 3 by rw [HM.o, if_pos rfl, if_neg (by rw [HF.o (fun h => len1 Z7.o hB ((q1h.del hA).1 h).1)]; simp)]);have e1 : (0 : Int) < (l7 : Int) := by omega
   have eA : (x.length == -1) = true := by simp; exact hA
   clear hB hA;go_enter Tryz.func110, Tryz.ntmps110;go_wp2_with fail;refine (q2p x.nM on _).mono ?_;rintro e w1 ⟨rfl, hc⟩;rw [← Am.o];obtain ⟨cS, lS, Ag⟩ := bk hc (b := w.heap.size) (q0b (q0c (by simp) _) _) (by simp);obtain ⟨cR, lR, Af⟩ := bk hc (b := w.heap.size + 1) (q0c (by simp) _) (by simp);replace HC := hid (Chg.trans0 (Chg.alloc (Chg.alloc HC.o _) _) hc);clear hc;go_wp2_with fail;go_ret;exact ⟨q0i HR.o.symm, HC.o⟩
 have eA : (x.length == -1) = false := by simp; exact hA
 obtain ⟨p1, hp1⟩ : ∃ p, p = (q0u s.data x.length).1 := ⟨_, rfl⟩;obtain ⟨p2, A9⟩ : ∃ p, p = (q0u s.data x.length).2 := ⟨_, rfl⟩;have HP := hid A9; have Ay := hid hp1;clear A9 hp1;by_cases hP : p2 = 0;rotate_left
 ·have HC : Hid (Chg [] w w) := Chg.refl _ _;have HR := hid (show v = 3 by rw [HM.o, if_pos rfl, if_neg (by rw [HF.o (q1h.long hA (by rw [← HP.o]; exact hP))]; simp)]);have e1 := nn_ne hP;clear hA hP;go_enter Tryz.func110, Tryz.ntmps110;go_wp2_with fail;refine (q2p x.nM on _).mono ?_;rintro e w1 ⟨rfl, hc⟩;rw [← Am.o];obtain ⟨cS, lS, Ag⟩ := bk hc (b := w.heap.size) (q0b (q0c (by simp) _) _) (by simp);obtain ⟨cR, lR, Af⟩ := bk hc (b := w.heap.size + 1) (q0c (by simp) _) (by simp);replace HC := hid (Chg.trans0 (Chg.alloc (Chg.alloc HC.o _) _) hc);clear hc;go_wp2_with fail;refine (q4r s x.length hd.1 hd.2 o3 _).mono ?_;rintro e w2 ⟨rfl, hc⟩;rw [← HP.o, ← Ay.o];have h := bkq hc Ag Af HC; clear hc Ag cS lS Af cR lR HC; obtain ⟨cS, lS, Ag, cR, lR, Af, HC⟩ := h;go_wp2_with fail;go_ret;exact ⟨q0i HR.o.symm, HC.o⟩
 subst hP;have hb := parts0 hd HP.o.symm;have hb1 := hb.1; have hb2 := hb.2.1;have HN1 := hid (show p1 = partsN s x.length from Ay.o.trans hb.2.2);clear hb;by_cases hB : l7 = 0
 ·have eB : ((l7 : Int) == x.length) = false := by simp; omega
  by_cases hD : (l6 : Int) = p1
  rotate_left
  ·have HC : Hid (Chg [] w w) := Chg.refl _ _;have HR := hid (show v = 3 by rw [HM.o, if_pos rfl, if_neg (by rw [HF.o (fun h => hD (by rw [Z6.o, HN1.o]; exact ((q1h.row hA HP.o.symm (len0 Z7.o hB)).1 h).1))]; simp)]);have e1 : ((l6 : Int) == p1) = false := by simp; exact hD
   obtain ⟨za, zb, zc, zd, ze⟩ := q5f hB; clear hB hA hD;go_enter Tryz.func110, Tryz.ntmps110;go_wp2_with fail;refine (q2p x.nM on _).mono ?_;rintro e w1 ⟨rfl, hc⟩;rw [← Am.o];obtain ⟨cS, lS, Ag⟩ := bk hc (b := w.heap.size) (q0b (q0c (by simp) _) _) (by simp);obtain ⟨cR, lR, Af⟩ := bk hc (b := w.heap.size + 1) (q0c (by simp) _) (by simp);replace HC := hid (Chg.trans0 (Chg.alloc (Chg.alloc HC.o _) _) hc);clear hc;go_wp2_with fail;refine (q4r s x.length hd.1 hd.2 o3 _).mono ?_;rintro e w2 ⟨rfl, hc⟩;rw [← HP.o, ← Ay.o];have h := bkq hc Ag Af HC; clear hc Ag cS lS Af cR lR HC; obtain ⟨cS, lS, Ag, cR, lR, Af, HC⟩ := h;go_wp2_with fail;obtain ⟨Al, Ai, Ae⟩ := q0f (fun w' => Know (w.heap.size + 1) #[I J x.kD, I J x.seq, Ab x.nM, I J x.length, I J x.gP, I J x.row, Aa a6 l6 c6, Aa a7 l7 c7, Aa a8 l8 c8] w');have Ah := Ai.o (w2.drew) (Know.of (by refine q0a ?_; exact Af.o));refine q0g Al (by kernel_rfl) Ah ?_;refine rgT 0 Ah ?_;refine rgL 1 Ah Ae ?_;refine rgT 3 Ah ?_;refine rgL 4 Ah Ae ?_;refine rgq 2 (fun K hK => ?_);go_simp;go_at_call 66;refine (q2t a7 l7 c7 _ q7).mono ?_;rintro e w3 ⟨rfl, hc⟩;have h := bk hc (q0a Ag.o) (by simp); clear Ag cS lS; obtain ⟨cS, lS, Ag⟩ := h;have h := bk hc (q0a Af.o) (by simp); clear Af cR lR; obtain ⟨cR, lR, Af⟩ := h;replace HC := hid (Chg.trans0 (Chg.drew HC.o) hc);clear hc;go_wp2_with fail;refine hK.out _ _ (Ai.o _ cR) (fun hS1 => ?_);clear hK K;try simp only [AK, pA, pB, pC]
   refine rgT 5 hS1 ?_;refine rgT 6 hS1 ?_;refine rgS 7 hS1 ?_;refine rgS 8 hS1 ?_;refine rgS 9 hS1 ?_;refine rgS 10 hS1 ?_;refine rgT 11 hS1 ?_;refine rgT 12 hS1 ?_;refine wDn ?_;go_wp2_with fail;refine (q7u a6 l6 c6 _ q6).mono ?_;rintro e w4 ⟨rfl, hc⟩;have h := bkq hc Ag Af HC; clear hc Ag cS lS Af cR lR HC; obtain ⟨cS, lS, Ag, cR, lR, Af, HC⟩ := h;go_wp2_with fail;go_loopw [9, 10, 11, 66] (fun B9 u v i wr => ∃ k : Nat, k ≤ l6 ∧ i = I J k ∧ B9 = Ac false ∧ Hid (Chg [] w4 wr)) (fun _ _ _ i _ => l6 - (intOf i).toNat)
   case atStart => exact ⟨0, by omega, rfl, rfl, Chg.refl _ _⟩
   case round =>
    obtain ⟨k, hk, rfl, rfl, Aj⟩ := hrel;have Ak := hid (HC.o.trans0 Aj.o);by_cases hlt : k < l6
    ·obtain ⟨y, b, o, HY, rfl, AB, AA⟩ := q2n (intL.sl_ext H6.o Ak.o) hlt;go_wp2_with fail;go_roundw
     case rel => exact ⟨k + 1, by omega, by go_num, rfl, Aj.o⟩
     case measure => simp [intOf]; omega
    ·go_wp2_with fail;go_ret;exact ⟨q0i HR.o.symm, Ak.o⟩
  have HV := hid (show v = if pb (q3c (s.rows - 1) x.rows) = true then 0 else 3 by
   rw [HM.o, if_pos rfl, HE.o _ ((q1h.row hA HP.o.symm (len0 Z7.o hB)).trans ⟨fun h => h.2, fun h => ⟨by rw [← Z6.o, ← HN1.o]; exact hD, h⟩⟩)])
  have e1 : ((l6 : Int) == p1) = true := by simp; exact hD
  obtain ⟨za, zb, zc, zd, ze⟩ := q5f hB; clear hB hA hD;have HC : Hid (Chg [] w w) := Chg.refl _ _;go_enter Tryz.func110, Tryz.ntmps110;go_wp2_with fail;refine (q2p x.nM on _).mono ?_;rintro e w1 ⟨rfl, hc⟩;rw [← Am.o];obtain ⟨cS, lS, Ag⟩ := bk hc (b := w.heap.size) (q0b (q0c (by simp) _) _) (by simp);obtain ⟨cR, lR, Af⟩ := bk hc (b := w.heap.size + 1) (q0c (by simp) _) (by simp);replace HC := hid (Chg.trans0 (Chg.alloc (Chg.alloc HC.o _) _) hc);clear hc;go_wp2_with fail;refine (q4r s x.length hd.1 hd.2 o3 _).mono ?_;rintro e w2 ⟨rfl, hc⟩;rw [← HP.o, ← Ay.o];have h := bkq hc Ag Af HC; clear hc Ag cS lS Af cR lR HC; obtain ⟨cS, lS, Ag, cR, lR, Af, HC⟩ := h;go_wp2_with fail;obtain ⟨Al, Ai, Ae⟩ := q0f (fun w' => Know (w.heap.size + 1) #[I J x.kD, I J x.seq, Ab x.nM, I J x.length, I J x.gP, I J x.row, Aa a6 l6 c6, Aa a7 l7 c7, Aa a8 l8 c8] w');have Ah := Ai.o (w2.drew) (Know.of (by refine q0a ?_; exact Af.o));refine q0g Al (by kernel_rfl) Ah ?_;refine rgT 0 Ah ?_;refine rgL 1 Ah Ae ?_;refine rgT 3 Ah ?_;refine rgL 4 Ah Ae ?_;refine rgq 2 (fun K hK => ?_);go_simp;go_at_call 66;refine (q2t a7 l7 c7 _ q7).mono ?_;rintro e w3 ⟨rfl, hc⟩;have h := bk hc (q0a Ag.o) (by simp); clear Ag cS lS; obtain ⟨cS, lS, Ag⟩ := h;have h := bk hc (q0a Af.o) (by simp); clear Af cR lR; obtain ⟨cR, lR, Af⟩ := h;replace HC := hid (Chg.trans0 (Chg.drew HC.o) hc);clear hc;go_wp2_with fail;refine hK.out _ _ (Ai.o _ cR) (fun hS1 => ?_);clear hK K;try simp only [AK, pA, pB, pC]
  refine rgT 5 hS1 ?_;refine rgT 6 hS1 ?_;refine rgS 7 hS1 ?_;refine rgS 8 hS1 ?_;refine rgS 9 hS1 ?_;refine rgS 10 hS1 ?_;refine rgT 11 hS1 ?_;refine rgT 12 hS1 ?_;refine wDn ?_;go_wp2_with fail;refine (q7u a6 l6 c6 _ q6).mono ?_;rintro e w4 ⟨rfl, hc⟩;have h := bkq hc Ag Af HC; clear hc Ag cS lS Af cR lR HC; obtain ⟨cS, lS, Ag, cR, lR, Af, HC⟩ := h;go_wp2_with fail;go_loopw [9, 10, 11, 66] (fun B9 u v i wr => ∃ (k : Nat) (b : Bool), k ≤ l6 ∧ i = I J k ∧ B9 = Ac b ∧ Hid (b = pb (q2m (s.rows - 1) x.rows k)) ∧ Hid (Chg [] w4 wr)) (fun _ _ _ i _ => l6 - (intOf i).toNat)
  case atStart => exact ⟨0, true, by omega, rfl, rfl, (q0e (q2m.zero _ _)).symm, Chg.refl _ _⟩
  case round =>
   obtain ⟨k, b9, hk, rfl, rfl, AC, Aj⟩ := hrel
   rename_i wr
   have Ak := hid (HC.o.trans0 Aj.o);by_cases hlt : k < l6
   ·obtain ⟨y, b, o, HY, rfl, AB, AA⟩ := q2n (intL.sl_ext H6.o Ak.o) hlt;cases AD : b9
    ·rw [AD] at AC;have HN := hid (pb_dead (not_pb AC.o.symm)).symm;clear AD;go_wp2_with fail;go_roundw
     case rel => exact ⟨k + 1, false, by omega, by go_num, rfl, HN.o, Aj.o⟩
     case measure => simp [intOf]; omega
    ·rw [AD] at AC;have hh := Aj.o.keep0 Ag.o; clear cS lS Ag; have cS := cellsOf hh; have lS := ltOf hh; have Ag := hid hh; clear hh;have hh := Aj.o.keep0 Af.o; clear cR lR Af; have cR := cellsOf hh; have lR := ltOf hh; have Af := hid hh; clear hh;have hka : k ≤ c6 := by have := H6.o.2.1; omega
     have hk1 : (k : Int) ≤ (c6 : Int) := by omega
     obtain ⟨gg, hgg⟩ := q6b H6.o (k := k) (by omega) c6 hka (Nat.le_refl _);have HGG := hid hgg; clear hgg;have HCO := hid HC.o;clear HC AD;have HC : Hid (Chg [] wr wr) := Chg.refl _ _;go_wp2_with fail;refine (q2u s HS.o y _).mono ?_;rintro e w1 ⟨rfl, hc⟩;have h := bkq hc Ag Af HC; clear hc Ag cS lS Af cR lR HC; obtain ⟨cS, lS, Ag, cR, lR, Af, HC⟩ := h;by_cases Ao : 0 ≤ y ∧ y ≤ s.rows - 1
     ·rw [q1s Ao.1 Ao.2];have HN := hid (pb_step HY.o.1 (q9h AC.o.symm) Ao);clear Ao;go_wp2_with fail;refine ((q6q (some ⟨b, o, none⟩) k c6 (x.rows.take k) gg y _ (intL.sl_ext HGG.o (Ak.o.trans0 HC.o)))).mono ?_;rintro e w2 ⟨rfl, hc⟩;have h := bkq hc Ag Af HC; clear hc Ag cS lS Af cR lR HC; obtain ⟨cS, lS, Ag, cR, lR, Af, HC⟩ := h;go_wp2_with fail;go_roundw
      case rel => exact ⟨k + 1, _, by omega, by go_num, rfl, HN.o.symm, Aj.o.trans0 HC.o⟩
      case measure => simp [intOf]; omega
     ·rw [q1w Ao];have HN := hid (pb_out HY.o.1 Ao);clear Ao;go_wp2_with fail;go_roundw
      case rel => exact ⟨k + 1, false, by omega, by go_num, rfl, HN.o.symm, Aj.o.trans0 HC.o⟩
      case measure => simp [intOf]; omega
   ·have HQ := hid (AC.o.trans (pb_end (by have := Z6.o; omega)));rw [← HQ.o] at HV;cases b9
    ·have HR := hid (HV.o.trans (if_neg (by simp)));go_wp2_with fail;go_ret;exact ⟨q0i HR.o.symm, Ak.o⟩
    ·have HR := hid (HV.o.trans (if_pos rfl));go_wp2_with fail;go_ret;exact ⟨q0i HR.o.symm, Ak.o⟩
 have eB : ((l7 : Int) == 0) = false := by simp; exact hB
 by_cases hD : (l7 : Int) = x.length
 rotate_left
 ·have HC : Hid (Chg [] w w) := Chg.refl _ _;have HR := hid (show v = 3 by rw [HM.o, if_pos rfl, if_neg (by rw [HF.o (fun h => hD (by rw [Z7.o]; exact ((q1h.data hA HP.o.symm (len1 Z7.o hB)).1 h).1))]; simp)]);have e1 : ((l7 : Int) == x.length) = false := by simp; exact hD
  clear hA hD hB;go_enter Tryz.func110, Tryz.ntmps110;go_wp2_with fail;refine (q2p x.nM on _).mono ?_;rintro e w1 ⟨rfl, hc⟩;rw [← Am.o];obtain ⟨cS, lS, Ag⟩ := bk hc (b := w.heap.size) (q0b (q0c (by simp) _) _) (by simp);obtain ⟨cR, lR, Af⟩ := bk hc (b := w.heap.size + 1) (q0c (by simp) _) (by simp);replace HC := hid (Chg.trans0 (Chg.alloc (Chg.alloc HC.o _) _) hc);clear hc;go_wp2_with fail;refine (q4r s x.length hd.1 hd.2 o3 _).mono ?_;rintro e w2 ⟨rfl, hc⟩;rw [← HP.o, ← Ay.o];have h := bkq hc Ag Af HC; clear hc Ag cS lS Af cR lR HC; obtain ⟨cS, lS, Ag, cR, lR, Af, HC⟩ := h;go_wp2_with fail;obtain ⟨Al, Ai, Ae⟩ := q0f (fun w' => Know (w.heap.size + 1) #[I J x.kD, I J x.seq, Ab x.nM, I J x.length, I J x.gP, I J x.row, Aa a6 l6 c6, Aa a7 l7 c7, Aa a8 l8 c8] w');have Ah := Ai.o (w2.drew) (Know.of (by refine q0a ?_; exact Af.o));refine q0g Al (by kernel_rfl) Ah ?_;refine rgT 0 Ah ?_;refine rgL 1 Ah Ae ?_;refine rgT 3 Ah ?_;refine rgL 4 Ah Ae ?_;refine rgq 2 (fun K hK => ?_);go_simp;go_at_call 66;refine (q2t a7 l7 c7 _ q7).mono ?_;rintro e w3 ⟨rfl, hc⟩;have h := bk hc (q0a Ag.o) (by simp); clear Ag cS lS; obtain ⟨cS, lS, Ag⟩ := h;have h := bk hc (q0a Af.o) (by simp); clear Af cR lR; obtain ⟨cR, lR, Af⟩ := h;replace HC := hid (Chg.trans0 (Chg.drew HC.o) hc);clear hc;go_wp2_with fail;refine hK.out _ _ (Ai.o _ cR) (fun hS1 => ?_);clear hK K;try simp only [AK, pA, pB, pC]
  refine rgT 5 hS1 ?_;refine rgT 6 hS1 ?_;refine rgS 7 hS1 ?_;refine rgS 8 hS1 ?_;refine rgS 9 hS1 ?_;refine rgS 10 hS1 ?_;refine rgT 11 hS1 ?_;refine rgT 12 hS1 ?_;refine wDn ?_;go_wp2_with fail;go_loopw [9, 10, 11, 66] (fun B9 u v i wr => ∃ k : Nat, k ≤ l6 ∧ i = I J k ∧ B9 = Ac false ∧ Hid (Chg [] w3 wr)) (fun _ _ _ i _ => l6 - (intOf i).toNat)
  case atStart => exact ⟨0, by omega, rfl, rfl, Chg.refl _ _⟩
  case round =>
   obtain ⟨k, hk, rfl, rfl, Aj⟩ := hrel;have Ak := hid (HC.o.trans0 Aj.o);by_cases hlt : k < l6
   ·obtain ⟨y, b, o, HY, rfl, AB, AA⟩ := q2n (intL.sl_ext H6.o Ak.o) hlt;go_wp2_with fail;go_roundw
    case rel => exact ⟨k + 1, by omega, by go_num, rfl, Aj.o⟩
    case measure => simp [intOf]; omega
   ·go_wp2_with fail;go_ret;exact ⟨q0i HR.o.symm, Ak.o⟩
 have e1 : ((l7 : Int) == x.length) = true := by simp; exact hD
 by_cases hE : l6 = 0
 rotate_left
 ·have HC : Hid (Chg [] w w) := Chg.refl _ _;have HR := hid (show v = 3 by rw [HM.o, if_pos rfl, if_neg (by rw [HF.o (fun h => len1 Z6.o hE ((q1h.data hA HP.o.symm (len1 Z7.o hB)).1 h).2)]; simp)]);have e2 : ((l6 : Int) == 0) = false := by simp; exact hE
  clear hA hB hE;go_enter Tryz.func110, Tryz.ntmps110;go_wp2_with fail;refine (q2p x.nM on _).mono ?_;rintro e w1 ⟨rfl, hc⟩;rw [← Am.o];obtain ⟨cS, lS, Ag⟩ := bk hc (b := w.heap.size) (q0b (q0c (by simp) _) _) (by simp);obtain ⟨cR, lR, Af⟩ := bk hc (b := w.heap.size + 1) (q0c (by simp) _) (by simp);replace HC := hid (Chg.trans0 (Chg.alloc (Chg.alloc HC.o _) _) hc);clear hc;go_wp2_with fail;refine (q4r s x.length hd.1 hd.2 o3 _).mono ?_;rintro e w2 ⟨rfl, hc⟩;rw [← HP.o, ← Ay.o];have h := bkq hc Ag Af HC; clear hc Ag cS lS Af cR lR HC; obtain ⟨cS, lS, Ag, cR, lR, Af, HC⟩ := h;go_wp2_with fail;obtain ⟨Al, Ai, Ae⟩ := q0f (fun w' => Know (w.heap.size + 1) #[I J x.kD, I J x.seq, Ab x.nM, I J x.length, I J x.gP, I J x.row, Aa a6 l6 c6, Aa a7 l7 c7, Aa a8 l8 c8] w');have Ah := Ai.o (w2.drew) (Know.of (by refine q0a ?_; exact Af.o));refine q0g Al (by kernel_rfl) Ah ?_;refine rgT 0 Ah ?_;refine rgL 1 Ah Ae ?_;refine rgT 3 Ah ?_;refine rgL 4 Ah Ae ?_;refine rgq 2 (fun K hK => ?_);go_simp;go_at_call 66;refine (q2t a7 l7 c7 _ q7).mono ?_;rintro e w3 ⟨rfl, hc⟩;have h := bk hc (q0a Ag.o) (by simp); clear Ag cS lS; obtain ⟨cS, lS, Ag⟩ := h;have h := bk hc (q0a Af.o) (by simp); clear Af cR lR; obtain ⟨cR, lR, Af⟩ := h;replace HC := hid (Chg.trans0 (Chg.drew HC.o) hc);clear hc;go_wp2_with fail;refine hK.out _ _ (Ai.o _ cR) (fun hS1 => ?_);clear hK K;try simp only [AK, pA, pB, pC]
  refine rgT 5 hS1 ?_;refine rgT 6 hS1 ?_;refine rgT 7 hS1 ?_;refine rgL 8 hS1 Ae ?_;refine rgT 9 hS1 ?_;refine rgT 10 hS1 ?_;refine rgT 11 hS1 ?_;refine rgT 12 hS1 ?_;refine wDn ?_;go_wp2_with fail;go_loopw [9, 10, 11, 66] (fun B9 u v i wr => ∃ k : Nat, k ≤ l6 ∧ i = I J k ∧ B9 = Ac false ∧ Hid (Chg [] w3 wr)) (fun _ _ _ i _ => l6 - (intOf i).toNat)
  case atStart => exact ⟨0, by omega, rfl, rfl, Chg.refl _ _⟩
  case round =>
   obtain ⟨k, hk, rfl, rfl, Aj⟩ := hrel;have Ak := hid (HC.o.trans0 Aj.o);by_cases hlt : k < l6
   ·obtain ⟨y, b, o, HY, rfl, AB, AA⟩ := q2n (intL.sl_ext H6.o Ak.o) hlt;go_wp2_with fail;go_roundw
    case rel => exact ⟨k + 1, by omega, by go_num, rfl, Aj.o⟩
    case measure => simp [intOf]; omega
   ·go_wp2_with fail;go_ret;exact ⟨q0i HR.o.symm, Ak.o⟩
 have HC : Hid (Chg [] w w) := Chg.refl _ _;have HR := hid (show v = 0 by rw [HM.o, if_pos rfl, if_pos (HT.o ((q1h.data hA HP.o.symm (len1 Z7.o hB)).2 ⟨by rw [← Z7.o]; exact hD, len0 Z6.o hE⟩))]);obtain ⟨za, zb, zc, zd, ze⟩ := q5f hE; clear hE hA hB;go_enter Tryz.func110, Tryz.ntmps110;go_wp2_with fail;refine (q2p x.nM on _).mono ?_;rintro e w1 ⟨rfl, hc⟩;rw [← Am.o];obtain ⟨cS, lS, Ag⟩ := bk hc (b := w.heap.size) (q0b (q0c (by simp) _) _) (by simp);obtain ⟨cR, lR, Af⟩ := bk hc (b := w.heap.size + 1) (q0c (by simp) _) (by simp);replace HC := hid (Chg.trans0 (Chg.alloc (Chg.alloc HC.o _) _) hc);clear hc;go_wp2_with fail;refine (q4r s x.length hd.1 hd.2 o3 _).mono ?_;rintro e w2 ⟨rfl, hc⟩;rw [← HP.o, ← Ay.o];have h := bkq hc Ag Af HC; clear hc Ag cS lS Af cR lR HC; obtain ⟨cS, lS, Ag, cR, lR, Af, HC⟩ := h;go_wp2_with fail;obtain ⟨Al, Ai, Ae⟩ := q0f (fun w' => Know (w.heap.size + 1) #[I J x.kD, I J x.seq, Ab x.nM, I J x.length, I J x.gP, I J x.row, Aa a6 l6 c6, Aa a7 l7 c7, Aa a8 l8 c8] w');have Ah := Ai.o (w2.drew) (Know.of (by refine q0a ?_; exact Af.o));refine q0g Al (by kernel_rfl) Ah ?_;refine rgT 0 Ah ?_;refine rgL 1 Ah Ae ?_;refine rgT 3 Ah ?_;refine rgL 4 Ah Ae ?_;refine rgq 2 (fun K hK => ?_);go_simp;go_at_call 66;refine (q2t a7 l7 c7 _ q7).mono ?_;rintro e w3 ⟨rfl, hc⟩;have h := bk hc (q0a Ag.o) (by simp); clear Ag cS lS; obtain ⟨cS, lS, Ag⟩ := h;have h := bk hc (q0a Af.o) (by simp); clear Af cR lR; obtain ⟨cR, lR, Af⟩ := h;replace HC := hid (Chg.trans0 (Chg.drew HC.o) hc);clear hc;go_wp2_with fail;refine hK.out _ _ (Ai.o _ cR) (fun hS1 => ?_);clear hK K;try simp only [AK, pA, pB, pC]
 refine rgT 5 hS1 ?_;refine rgT 6 hS1 ?_;refine rgT 7 hS1 ?_;refine rgL 8 hS1 Ae ?_;refine rgT 9 hS1 ?_;refine rgT 10 hS1 ?_;refine rgT 11 hS1 ?_;refine rgT 12 hS1 ?_;refine wDn ?_;go_wp2_with fail;go_loopw [9, 10, 11, 66] (fun B9 u v i wr => ∃ k : Nat, k ≤ l6 ∧ i = I J k ∧ B9 = Ac false ∧ Hid (Chg [] w3 wr)) (fun _ _ _ i _ => l6 - (intOf i).toNat)
 case atStart => exact ⟨0, by omega, rfl, rfl, Chg.refl _ _⟩
 case round =>
  obtain ⟨k, hk, rfl, rfl, Aj⟩ := hrel;have Ak := hid (HC.o.trans0 Aj.o);by_cases hlt : k < l6
  ·obtain ⟨y, b, o, HY, rfl, AB, AA⟩ := q2n (intL.sl_ext H6.o Ak.o) hlt;go_wp2_with fail;go_roundw
   case rel => exact ⟨k + 1, by omega, by go_num, rfl, Aj.o⟩
   case measure => simp [intOf]; omega
  ·go_wp2_with fail;go_ret;exact ⟨q0i HR.o.symm, Ak.o⟩
end Go.Proofs.YthhaednigdgclaaGreat
