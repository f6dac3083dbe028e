/- Several texts in one. -/
import Derived.Test.YtphmpimgbmedbaaGreatRows
import Derived.Test.YtphmpimgbmedbaaGreatQad
import Derived.Test.YtphmpimgbmedbaaGreatQac
import Derived.Test.YtphmpimgbmedbaaGreatQae
import Derived.Deep.RegionHeld3
set_option maxRecDepth 100000
set_option maxHeartbeats 8000000
namespace Go.Proofs.YtphmpimgbmedbaaGreat
open Go.RowKit
open Go.Lib (hid)
def Shp.all (s : Shp) : Int := s.gS + s.cM
def Shp.drives (s : Shp) : Int := s.data + s.spare
def Shp.wide (s : Shp) : Int := s.data * 4
theorem Shp.ok.all {s : Shp} (h : s.ok) : 1 ≤ s.all ∧ s.all ≤ 6 := by obtain ⟨h1, h2, _⟩ := h; unfold Shp.all; omega
theorem Shp.ok.rows {s : Shp} (h : s.ok) : 1 ≤ s.rows ∧ s.rows ≤ 6 := by obtain ⟨h1, h2, h3, h4, h5, _⟩ := h; exact h5
theorem Shp.ok.data {s : Shp} (h : s.ok) : 1 ≤ s.data ∧ s.data ≤ 3 := by obtain ⟨h1, h2, h3, h4, h5, _⟩ := h; exact h3
theorem Shp.ok.gS {s : Shp} (h : s.ok) : 1 ≤ s.gS ∧ s.gS ≤ 4 := by obtain ⟨h1, h2, h3, h4, h5, _⟩ := h; exact h1
theorem Shp.ok.drives {s : Shp} (h : s.ok) : 1 ≤ s.drives ∧ s.drives ≤ 5 := by obtain ⟨h1, h2, h3, h4, h5, _⟩ := h; unfold Shp.drives; omega
theorem Shp.ok.wide {s : Shp} (h : s.ok) : 4 ≤ s.wide ∧ s.wide ≤ 12 := by have := h.data; unfold Shp.wide; omega
theorem q3t (s : Shp) (hs : s.ok) (w : World) :
  Calls Tryz.prog 179 #[.agg s.cells] w fun e w' => e = .returned (.int .i64 (s.all)) ∧ Chg [] w w' := by
 have h1 := hs.all
 have h2 := hs.gS; have h3 := hs.data
 clear hs
 obtain ⟨g, c, d, p, r, q, b, u, t⟩ := s
 simp only [Shp.all] at *
 simp only [Shp.cells]
 go_enter Tryz.func179, Tryz.ntmps179
 go_wp2
 go_ret
 exact ⟨rfl, by repeat (first | exact Chg.refl _ _ | refine Chg.alloc ?_ _)⟩
theorem q0r (s : Shp) (hs : s.ok) (w : World) :
  Calls Tryz.prog 100 #[.agg s.cells] w fun e w' => e = .returned (.int .i64 (s.all)) ∧ Chg [] w w' := by
 have h1 := hs.all
 have h2 := hs.gS; have h3 := hs.data
 clear hs
 obtain ⟨g, c, d, p, r, q, b, u, t⟩ := s
 simp only [Shp.all] at *
 simp only [Shp.cells]
 go_enter Tryz.func100, Tryz.ntmps100
 go_wp2
 go_ret
 exact ⟨rfl, by repeat (first | exact Chg.refl _ _ | refine Chg.alloc ?_ _)⟩
theorem q8o (s : Shp) (hs : s.ok) (w : World) :
  Calls Tryz.prog 212 #[.agg s.cells] w fun e w' => e = .returned (.int .i64 (s.drives)) ∧ Chg [] w w' := by
 have h1 := hs.drives
 have h2 := hs.gS; have h3 := hs.data
 clear hs
 obtain ⟨g, c, d, p, r, q, b, u, t⟩ := s
 simp only [Shp.drives] at *
 simp only [Shp.cells]
 go_enter Tryz.func212, Tryz.ntmps212
 go_wp2
 go_ret
 exact ⟨rfl, by repeat (first | exact Chg.refl _ _ | refine Chg.alloc ?_ _)⟩
theorem q4x (s : Shp) (hs : s.ok) (w : World) :
  Calls Tryz.prog 191 #[.agg s.cells] w fun e w' => e = .returned (.int .i64 (s.drives)) ∧ Chg [] w w' := by
 have h1 := hs.drives
 have h2 := hs.gS; have h3 := hs.data
 clear hs
 obtain ⟨g, c, d, p, r, q, b, u, t⟩ := s
 simp only [Shp.drives] at *
 simp only [Shp.cells]
 go_enter Tryz.func191, Tryz.ntmps191
 go_wp2
 go_ret
 exact ⟨rfl, by repeat (first | exact Chg.refl _ _ | refine Chg.alloc ?_ _)⟩
theorem q1y (s : Shp) (hs : s.ok) (w : World) :
  Calls Tryz.prog 260 #[.agg s.cells] w fun e w' => e = .returned (.int .i64 (s.wide)) ∧ Chg [] w w' := by
 have h1 := hs.wide
 have h2 := hs.gS; have h3 := hs.data
 clear hs
 obtain ⟨g, c, d, p, r, q, b, u, t⟩ := s
 simp only [Shp.wide] at *
 simp only [Shp.cells]
 go_enter Tryz.func260, Tryz.ntmps260
 go_wp2
 go_ret
 exact ⟨rfl, by repeat (first | exact Chg.refl _ _ | refine Chg.alloc ?_ _)⟩
theorem q1w (s : Shp) (hs : s.ok) (n : Int) (w : World) :
  Calls Tryz.prog 102 #[.agg s.cells, .int .i64 n] w fun e w' => e = .returned (.bool (inB n 0 (s.all - 1))) ∧ Chg [] w w' := by
 have h1 := hs.all; have h2 := hs.gS; have h3 := hs.rows; have h4 := hs.drives
 have HS := hid hs
 clear hs
 obtain ⟨g, c, d, p, r, q, b, u, t⟩ := s
 simp only [Shp.all, Shp.drives] at h1 h2 h3 h4 ⊢
 simp only [Shp.cells]
 go_enter Tryz.func102, Tryz.ntmps102
 go_wp2_with fail
 refine (q3t ⟨g, c, d, p, r, q, b, u, t⟩ HS.out _).mono ?_; rintro e w1 ⟨rfl, hc⟩
 have HC := hid ((Chg.refl [] w).alloc _ |>.trans0 hc); clear hc
 simp only [Shp.all]
 go_wp2_with fail
 refine (q2a n 0 (g + c - 1) _).mono ?_; rintro e w2 ⟨rfl, rfl⟩
 go_wp2_with fail
 go_ret
 exact ⟨rfl, HC.out⟩
theorem q4f (s : Shp) (hs : s.ok) (n : Int) (w : World) :
  Calls Tryz.prog 111 #[.agg s.cells, .int .i64 n] w fun e w' => e = .returned (.bool (inB n 0 (s.gS - 1))) ∧ Chg [] w w' := by
 have h1 := hs.all; have h2 := hs.gS; have h3 := hs.rows; have h4 := hs.drives
 have HS := hid hs
 clear hs
 obtain ⟨g, c, d, p, r, q, b, u, t⟩ := s
 simp only [Shp.all, Shp.drives] at h1 h2 h3 h4 ⊢
 simp only [Shp.cells]
 go_enter Tryz.func111, Tryz.ntmps111
 go_wp2_with fail
 refine (q2a n 0 (g - 1) _).mono ?_; rintro e w2 ⟨rfl, rfl⟩
 go_wp2_with fail
 go_ret
 exact ⟨rfl, by repeat (first | exact Chg.refl _ _ | refine Chg.alloc ?_ _)⟩
theorem q2h (s : Shp) (hs : s.ok) (n : Int) (w : World) :
  Calls Tryz.prog 134 #[.agg s.cells, .int .i64 n] w fun e w' => e = .returned (.bool (inB n 0 (s.rows - 1))) ∧ Chg [] w w' := by
 have h1 := hs.all; have h2 := hs.gS; have h3 := hs.rows; have h4 := hs.drives
 have HS := hid hs
 clear hs
 obtain ⟨g, c, d, p, r, q, b, u, t⟩ := s
 simp only [Shp.all, Shp.drives] at h1 h2 h3 h4 ⊢
 simp only [Shp.cells]
 go_enter Tryz.func134, Tryz.ntmps134
 go_wp2_with fail
 refine (q2a n 0 (r - 1) _).mono ?_; rintro e w2 ⟨rfl, rfl⟩
 go_wp2_with fail
 go_ret
 exact ⟨rfl, by repeat (first | exact Chg.refl _ _ | refine Chg.alloc ?_ _)⟩
theorem sizeB_any (a : Option Addr) (la ca : Nat) (w : World) (_ : la ≤ 9223372036854775807) :
  Calls Tryz.prog 185 #[.slice a la ca] w fun e w' => e = .returned (.int .i64 (la : Int)) ∧ w = w' := by
 go_enter Tryz.func185, Tryz.ntmps185
 go_wp2
 go_ret
 exact ⟨rfl, rfl⟩
theorem sizeI_any (a : Option Addr) (la ca : Nat) (w : World) (_ : la ≤ 9223372036854775807) :
  Calls Tryz.prog 143 #[.slice a la ca] w fun e w' => e = .returned (.int .i64 (la : Int)) ∧ w = w' := by
 go_enter Tryz.func143, Tryz.ntmps143
 go_wp2
 go_ret
 exact ⟨rfl, rfl⟩
def q2z (x : Rec) : Prop := x.name = ⟨#[]⟩ ∧ x.length = 0 ∧ x.group = 0 ∧ x.row = 0 ∧ x.rows = [] ∧ x.data = [] ∧ x.delta = []
theorem len0 {α : Type} {xs : List α} {n : Nat} (h : n = xs.length) (h0 : n = 0) : xs = [] := List.eq_nil_of_length_eq_zero (by omega)
theorem len1 {α : Type} {xs : List α} {n : Nat} (h : n = xs.length) (h0 : ¬ n = 0) : ¬ xs = [] := fun e => by subst e; simp at h; exact h0 h
theorem str_eq0 {s : ByteArray} (h : ¬ s = ⟨#[]⟩) : (s.toList == ([] : List UInt8)) = false := by
 have := toList_ne h
 have e : (⟨#[]⟩ : ByteArray).toList = [] := by
  unfold ByteArray.toList
  unfold ByteArray.toList.loop
  rfl
 rw [e] at this
 exact this
theorem q4j (x : Rec) (cx : Array Value) (fx : List Nat) (w : World) (hx : recL.rep w cx.toList x fx) :
  Calls Tryz.prog 197 #[.agg cx] w fun e w' => e = .returned (.bool (pb (q2z x))) ∧ Chg [] w w' := by
 obtain ⟨a6, l6, c6, f6, a7, l7, c7, f7, a8, l8, c8, f8, ex, -, -, -, -, -, -, h6, h7, h8, -⟩ := q0v.1 hx
 clear hx
 obtain ⟨v0, v1, v2, v3, v4, v5, v6, v7, v8⟩ := x
 simp only at ex h6 h7 h8
 obtain rfl := Array.toList_inj.1 (ex.trans (List.toList_toArray).symm)
 clear ex
 have q6 := intL.sl_max h6; have q7 := q0p.sl_max h7; have q8 := q0p.sl_max h8
 have z6 := h6.1; have z7 := h7.1; have z8 := h8.1
 clear h6 h7 h8
 have HT := hid (fun h => q0g h : q2z ⟨v0, v1, v2, v3, v4, v5, v6, v7, v8⟩ → pb (q2z ⟨v0, v1, v2, v3, v4, v5, v6, v7, v8⟩) = true)
 have HF := hid (fun h => q0f h : ¬ q2z ⟨v0, v1, v2, v3, v4, v5, v6, v7, v8⟩ → pb (q2z ⟨v0, v1, v2, v3, v4, v5, v6, v7, v8⟩) = false)
 generalize pb (q2z ⟨v0, v1, v2, v3, v4, v5, v6, v7, v8⟩) = r at HT HF ⊢
 by_cases n2 : v2 = ⟨#[]⟩
 rotate_left
 ·have HR := hid (HF.out (fun h => by obtain ⟨hh0, hh1, hh2, hh3, hh4, hh5, hh6⟩ := h; exact n2 hh0))
  have e2 : (v2.toList == ([] : List UInt8)) = false := str_eq0 n2
  clear n2 z6 z7 z8
  go_enter Tryz.func197, Tryz.ntmps197
  go_wp2
  go_ret
  exact ⟨q0l HR.out.symm, by repeat (first | exact Chg.refl _ _ | refine Chg.alloc ?_ _)⟩
 subst n2
 by_cases n3 : v3 = 0
 rotate_left
 ·have HR := hid (HF.out (fun h => by obtain ⟨hh0, hh1, hh2, hh3, hh4, hh5, hh6⟩ := h; exact n3 hh1))
  have e3 : ((v3 : Int) == 0) = false := by simp [n3]
  clear n3 z6 z7 z8
  go_enter Tryz.func197, Tryz.ntmps197
  go_wp2
  go_ret
  exact ⟨q0l HR.out.symm, by repeat (first | exact Chg.refl _ _ | refine Chg.alloc ?_ _)⟩
 subst n3
 by_cases n4 : v4 = 0
 rotate_left
 ·have HR := hid (HF.out (fun h => by obtain ⟨hh0, hh1, hh2, hh3, hh4, hh5, hh6⟩ := h; exact n4 hh2))
  have e4 : ((v4 : Int) == 0) = false := by simp [n4]
  clear n4 z6 z7 z8
  go_enter Tryz.func197, Tryz.ntmps197
  go_wp2
  go_ret
  exact ⟨q0l HR.out.symm, by repeat (first | exact Chg.refl _ _ | refine Chg.alloc ?_ _)⟩
 subst n4
 by_cases n5 : v5 = 0
 rotate_left
 ·have HR := hid (HF.out (fun h => by obtain ⟨hh0, hh1, hh2, hh3, hh4, hh5, hh6⟩ := h; exact n5 hh3))
  have e5 : ((v5 : Int) == 0) = false := by simp [n5]
  clear n5 z6 z7 z8
  go_enter Tryz.func197, Tryz.ntmps197
  go_wp2
  go_ret
  exact ⟨q0l HR.out.symm, by repeat (first | exact Chg.refl _ _ | refine Chg.alloc ?_ _)⟩
 subst n5
 by_cases n6 : l6 = 0
 rotate_left
 ·have HR := hid (HF.out (fun h => by obtain ⟨hh0, hh1, hh2, hh3, hh4, hh5, hh6⟩ := h; exact len1 z6 n6 hh4))
  have e6 : ((l6 : Int) == 0) = false := by simp; exact n6
  clear n6 z6 z7 z8
  go_enter Tryz.func197, Tryz.ntmps197
  go_wp2
  go_ret
  exact ⟨q0l HR.out.symm, by repeat (first | exact Chg.refl _ _ | refine Chg.alloc ?_ _)⟩
 by_cases n7 : l7 = 0
 rotate_left
 ·have HR := hid (HF.out (fun h => by obtain ⟨hh0, hh1, hh2, hh3, hh4, hh5, hh6⟩ := h; exact len1 z7 n7 hh5))
  have e7 : ((l7 : Int) == 0) = false := by simp; exact n7
  clear n7 z6 z7 z8
  go_enter Tryz.func197, Tryz.ntmps197
  go_wp2
  go_ret
  exact ⟨q0l HR.out.symm, by repeat (first | exact Chg.refl _ _ | refine Chg.alloc ?_ _)⟩
 by_cases n8 : l8 = 0
 rotate_left
 ·have HR := hid (HF.out (fun h => by obtain ⟨hh0, hh1, hh2, hh3, hh4, hh5, hh6⟩ := h; exact len1 z8 n8 hh6))
  have e8 : ((l8 : Int) == 0) = false := by simp; exact n8
  clear n8 z6 z7 z8
  go_enter Tryz.func197, Tryz.ntmps197
  go_wp2
  go_ret
  exact ⟨q0l HR.out.symm, by repeat (first | exact Chg.refl _ _ | refine Chg.alloc ?_ _)⟩
 have HR := hid (HT.out ⟨rfl, rfl, rfl, rfl, len0 z6 n6, len0 z7 n7, len0 z8 n8⟩)
 clear z6 z7 z8
 subst n6; subst n7; subst n8
 go_enter Tryz.func197, Tryz.ntmps197
 go_wp2
 go_ret
 exact ⟨q0l HR.out.symm, by repeat (first | exact Chg.refl _ _ | refine Chg.alloc ?_ _)⟩
theorem q4o {l : Nat} (h : l = 0) : ((l : Int) == 0) = true ∧ ¬ (0 : Int) < (l : Int) ∧ ¬ 0 < l ∧ decide ((0 : Int) < (l : Int)) = false ∧ decide (0 < l) = false := by subst h; decide
def partsN (s : Shp) (n : Int) : Int := (n + 4 * s.data - 1) / (4 * s.data)
def q1e (s : Shp) (x : Rec) : Prop := if x.length = -1 then x.data = [] ∧ x.rows = [] else
 (q0s s.data x.length).2 = 0 ∧ (if x.data = [] then (x.rows.length : Int) = partsN s x.length ∧ q2o (s.rows - 1) x.rows else (x.data.length : Int) = x.length ∧ x.rows = [])
theorem parts0 {s : Shp} {n : Int} (hd : 1 ≤ s.data ∧ s.data ≤ 3) (h : (q0s s.data n).2 = 0) : 1 ≤ n ∧ n ≤ 36 ∧ (q0s s.data n).1 = partsN s n := by
 rcases partsV_cases s.data n hd.1 hd.2 with h1 | h1 | h1
 ·rw [h1] at h; cases h
 ·rw [h1] at h; cases h
 ·exact ⟨h1.2.1, h1.2.2, by rw [h1.1]; rfl⟩
theorem q1e.del {s : Shp} {x : Rec} (h : x.length = -1) : q1e s x ↔ x.data = [] ∧ x.rows = [] := by unfold q1e; rw [if_pos h]
theorem q1e.long {s : Shp} {x : Rec} (h : ¬ x.length = -1) (h2 : ¬ (q0s s.data x.length).2 = 0) : ¬ q1e s x := by unfold q1e; rw [if_neg h]; exact fun h3 => h2 h3.1
theorem q1e.data {s : Shp} {x : Rec} (h : ¬ x.length = -1) (h2 : (q0s s.data x.length).2 = 0) (h3 : ¬ x.data = []) : q1e s x ↔ (x.data.length : Int) = x.length ∧ x.rows = [] := by
 unfold q1e; rw [if_neg h, if_neg h3]; exact ⟨fun h => h.2, fun h => ⟨h2, h⟩⟩
theorem q1e.row {s : Shp} {x : Rec} (h : ¬ x.length = -1) (h2 : (q0s s.data x.length).2 = 0) (h3 : x.data = []) : q1e s x ↔ (x.rows.length : Int) = partsN s x.length ∧ q2o (s.rows - 1) x.rows := by
 unfold q1e; rw [if_neg h, if_pos h3]; exact ⟨fun h => h.2, fun h => ⟨h2, h⟩⟩
theorem q8f (s : Shp) (hs : s.ok) (x : Rec) (cx : Array Value) (fx : List Nat) (w : World) (hx : recL.rep w cx.toList x fx) :
  Calls Tryz.prog 193 #[.agg s.cells, .agg cx] w fun e w' => e = .returned (.bool (pb (q1e s x))) ∧ Chg [] w w' := by
 have HX := hid hx
 obtain ⟨a6, l6, c6, f6, a7, l7, c7, f7, a8, l8, c8, f8, ex, o0, o1, on, o3, o4, o5, h6, h7, h8, -⟩ := q0v.1 hx
 have HO := hid (And.intro o0 o1)
 clear hx o0 o1
 obtain rfl := Array.toList_inj.1 (ex.trans (List.toList_toArray).symm)
 clear ex
 have q6 := intL.sl_max h6; have q7 := q0p.sl_max h7; have q8 := q0p.sl_max h8
 have Z6 := hid h6.1; have Z7 := hid h7.1; have Z8 := hid h8.1
 have H6 := hid h6; have H7 := hid h7; have H8 := hid h8
 clear h6 h7 h8
 have hd := hs.data; have hr := hs.rows; have hg := hs.gS; have hal := hs.all
 have HS := hid hs
 clear hs
 have e50 : IntKind.i64.wrap (s.rows - 1) = s.rows - 1 := IntWalk.i64_in _ (by omega)
 have e51 : IntKind.i64.wrap (s.gS - 1) = s.gS - 1 := IntWalk.i64_in _ (by omega)
 have e52 : IntKind.i64.wrap (s.all - 1) = s.all - 1 := IntWalk.i64_in _ (by omega)
 show Calls _ _ #[.agg #[.int .i64 s.gS, .int .i64 s.cM, .int .i64 s.data, .int .i64 s.spare, .int .i64 s.rows, .int .i64 s.cap, .int .i64 s.bT, .int .i64 s.qU, .int .i64 s.sG], .agg _] _ _
 have HT := hid (fun h => q0g h : q1e s x → pb (q1e s x) = true)
 have HF := hid (fun h => q0f h : ¬ q1e s x → pb (q1e s x) = false)
 have HE := hid (fun Q h => q5i h : ∀ Q, (q1e s x ↔ Q) → pb (q1e s x) = pb Q)
 generalize pb (q1e s x) = r at HT HF HE ⊢
 obtain ⟨p2, hp2⟩ : ∃ p, p = (q0s s.data x.length).2 := ⟨_, rfl⟩
 obtain ⟨pn, hpn⟩ : ∃ p, p = partsN s x.length := ⟨_, rfl⟩
 have HP := hid hp2; have HN := hid hpn
 clear hp2 hpn
 by_cases hA : x.length = -1
 ·by_cases hB : l7 = 0
  ·by_cases hD : l6 = 0
   ·have HC : Hid (Chg [] w w) := Chg.refl _ _
    have HR := hid (HT.out ((q1e.del hA).2 ⟨len0 Z7.out hB, len0 Z6.out hD⟩))
    have eA : (x.length == -1) = true := by simp; exact hA
    obtain ⟨za, zb, zc, zd, ze⟩ := q4o hB; obtain ⟨ya, yb, yc, yd, ye⟩ := q4o hD; clear hB hD hA
    go_enter Tryz.func193, Tryz.ntmps193
    go_wp2_with fail
    go_ret
    exact ⟨q0l HR.out.symm, (Chg.alloc (Chg.alloc HC.out _) _)⟩
   ·have HC : Hid (Chg [] w w) := Chg.refl _ _
    have HR := hid (HF.out (fun h => len1 Z6.out hD ((q1e.del hA).1 h).2))
    have e1 : ((l6 : Int) == 0) = false := by simp; exact hD
    have eA : (x.length == -1) = true := by simp; exact hA
    obtain ⟨za, zb, zc, zd, ze⟩ := q4o hB; clear hB hD hA
    go_enter Tryz.func193, Tryz.ntmps193
    go_wp2_with fail
    go_ret
    exact ⟨q0l HR.out.symm, (Chg.alloc (Chg.alloc HC.out _) _)⟩
  ·have HC : Hid (Chg [] w w) := Chg.refl _ _
   have HR := hid (HF.out (fun h => len1 Z7.out hB ((q1e.del hA).1 h).1))
   have e1 : ((l7 : Int) == 0) = false := by simp; exact hB
   have eA : (x.length == -1) = true := by simp; exact hA
   clear hB hA
   go_enter Tryz.func193, Tryz.ntmps193
   go_wp2_with fail
   go_ret
   exact ⟨q0l HR.out.symm, (Chg.alloc (Chg.alloc HC.out _) _)⟩
 have eA : (x.length == -1) = false := by simp; exact hA
 by_cases hP : p2 = 0
 rotate_left
 ·have HC : Hid (Chg [] w w) := Chg.refl _ _
  have HR := hid (HF.out (q1e.long hA (by rw [← HP.out]; exact hP)))
  have e1 : (p2 != 0) = true := by simp; exact hP
  clear hA hP
  go_enter Tryz.func193, Tryz.ntmps193
  go_wp2_with fail
  refine (q3p s x.length hd.1 hd.2 o3 _).mono ?_
  rintro e w1 ⟨rfl, hc⟩
  rw [← HP.out]
  obtain ⟨cS, lS, HBS⟩ := bk hc (b := w.heap.size) (q0b (q0e (by simp) _) _) (by simp)
  obtain ⟨cR, lR, HBR⟩ := bk hc (b := w.heap.size + 1) (q0e (by simp) _) (by simp)
  have h := Chg.trans0 (Chg.alloc (Chg.alloc HC.out _) _) hc; clear HC; have HC := hid h; clear h
  clear hc
  go_wp2_with fail
  go_ret
  exact ⟨q0l HR.out.symm, HC.out⟩
 subst hP
 have hb := parts0 hd HP.out.symm
 have hb1 := hb.1; have hb2 := hb.2.1
 clear hb
 by_cases hB : l7 = 0
 ·by_cases hD : (l6 : Int) = pn
  ·have HC : Hid (Chg [] w w) := Chg.refl _ _
   have HR := hid ((HE.out _ ((q1e.row hA HP.out.symm (len0 Z7.out hB)).trans ⟨fun h => h.2, fun h => ⟨by rw [← Z6.out, ← HN.out]; exact hD, h⟩⟩)))
   obtain ⟨ra, hra⟩ : ∃ v, v = pb (q2o (s.rows - 1) x.rows) := ⟨_, rfl⟩
   rw [← hra] at HR
   have HA := hid hra
   have e1 : ((l6 : Int) == pn) = true := by simp; exact hD
   obtain ⟨za, zb, zc, zd, ze⟩ := q4o hB; clear hB hA hD hra
   go_enter Tryz.func193, Tryz.ntmps193
   go_wp2_with fail
   refine (q3p s x.length hd.1 hd.2 o3 _).mono ?_
   rintro e w1 ⟨rfl, hc⟩
   rw [← HP.out]
   obtain ⟨cS, lS, HBS⟩ := bk hc (b := w.heap.size) (q0b (q0e (by simp) _) _) (by simp)
   obtain ⟨cR, lR, HBR⟩ := bk hc (b := w.heap.size + 1) (q0e (by simp) _) (by simp)
   have h := Chg.trans0 (Chg.alloc (Chg.alloc HC.out _) _) hc; clear HC; have HC := hid h; clear h
   clear hc
   go_wp2_with fail
   obtain ⟨SS1, HSI1, HSO1⟩ := q0j (fun w' => Know (w.heap.size) #[.int .i64 s.gS, .int .i64 s.cM, .int .i64 s.data, .int .i64 s.spare, .int .i64 s.rows, .int .i64 s.cap, .int .i64 s.bT, .int .i64 s.qU, .int .i64 s.sG] w' ∧ Know (w.heap.size + 1) #[.int .i64 x.kind, .int .i64 x.seq, .string x.name, .int .i64 x.length, .int .i64 x.group, .int .i64 x.row, .slice a6 l6 c6, .slice a7 l7 c7, .slice a8 l8 c8] w')
   have hS0 := HSI1.out (w1.drew) ⟨(Know.of (by refine q0a ?_; exact HBS.out)), (Know.of (by refine q0a ?_; exact HBR.out))⟩
   refine q0k SS1 (by kernel_rfl) hS0 ?_
   refine rgT 0 hS0 ?_
   refine rgL 1 hS0 HSO1 ?_
   refine rgT 2 hS0 ?_
   refine rgL 3 hS0 HSO1 ?_
   refine rgT 4 hS0 ?_
   refine rgL 5 hS0 HSO1 ?_
   refine q0d 6 rfl (by kernel_rfl) (fun K hK => ?_)
   go_simp
   go_at_call 249
   refine (q7i s x.length hd.1 hd.2 (by omega) (by omega) _).mono ?_
   rintro e w2 ⟨rfl, hc⟩
   rw [show (x.length + 4 * s.data - 1) / (4 * s.data) = pn from HN.out.symm]
   have h := bk hc (q0a HBS.out) (by simp); clear HBS cS lS; obtain ⟨cS, lS, HBS⟩ := h
   have h := bk hc (q0a HBR.out) (by simp); clear HBR cR lR; obtain ⟨cR, lR, HBR⟩ := h
   have h := Chg.trans0 (Chg.drew HC.out) hc; clear HC; have HC := hid h; clear h
   clear hc
   go_wp2_with fail
   refine hK.out _ _ (HSI1.out _ ⟨cS, cR⟩) (fun hS1 => ?_)
   clear hK K
   try simp only [Act.put, pA, pB, pC]
   refine rgT 7 hS1 ?_
   refine rgT 8 hS1 ?_
   refine rgT 9 hS1 ?_
   refine rgL 10 hS1 HSO1 ?_
   refine rgT 11 hS1 ?_
   refine rgL 12 hS1 HSO1 ?_
   refine rgT 13 hS1 ?_
   refine q0d 14 rfl (by kernel_rfl) (fun K hK => ?_)
   go_simp
   go_at_call 118
   refine (q7h a6 l6 c6 x.rows f6 (s.rows - 1) _ (Lay.sl_ext intL H6.out HC.out)).mono ?_
   rintro e w3 ⟨rfl, hc⟩
   rw [← HA.out]
   have h := bk0 hc HBS.out; clear HBS cS lS; obtain ⟨cS, lS, HBS⟩ := h
   have h := bk0 hc HBR.out; clear HBR cR lR; obtain ⟨cR, lR, HBR⟩ := h
   replace HC := hct HC hc
   clear hc
   go_wp2_with fail
   refine hK.out _ _ (HSI1.out _ ⟨cS, cR⟩) (fun hS2 => ?_)
   clear hK K
   try simp only [Act.put, pA, pB, pC]
   refine rgT 15 hS2 ?_
   refine rgT 16 hS2 ?_
   refine wpAnyH_done (by kernel_rfl) ?_ _
   go_wp2_with fail
   go_ret
   exact ⟨q0l HR.out.symm, HC.out⟩
  ·have HC : Hid (Chg [] w w) := Chg.refl _ _
   have HR := hid (HF.out (fun h => hD (by rw [Z6.out, HN.out]; exact ((q1e.row hA HP.out.symm (len0 Z7.out hB)).1 h).1)))
   have e1 : ((l6 : Int) == pn) = false := by simp; exact hD
   obtain ⟨za, zb, zc, zd, ze⟩ := q4o hB; clear hB hA hD
   go_enter Tryz.func193, Tryz.ntmps193
   go_wp2_with fail
   refine (q3p s x.length hd.1 hd.2 o3 _).mono ?_
   rintro e w1 ⟨rfl, hc⟩
   rw [← HP.out]
   obtain ⟨cS, lS, HBS⟩ := bk hc (b := w.heap.size) (q0b (q0e (by simp) _) _) (by simp)
   obtain ⟨cR, lR, HBR⟩ := bk hc (b := w.heap.size + 1) (q0e (by simp) _) (by simp)
   have h := Chg.trans0 (Chg.alloc (Chg.alloc HC.out _) _) hc; clear HC; have HC := hid h; clear h
   clear hc
   go_wp2_with fail
   obtain ⟨SS1, HSI1, HSO1⟩ := q0j (fun w' => Know (w.heap.size) #[.int .i64 s.gS, .int .i64 s.cM, .int .i64 s.data, .int .i64 s.spare, .int .i64 s.rows, .int .i64 s.cap, .int .i64 s.bT, .int .i64 s.qU, .int .i64 s.sG] w' ∧ Know (w.heap.size + 1) #[.int .i64 x.kind, .int .i64 x.seq, .string x.name, .int .i64 x.length, .int .i64 x.group, .int .i64 x.row, .slice a6 l6 c6, .slice a7 l7 c7, .slice a8 l8 c8] w')
   have hS0 := HSI1.out (w1.drew) ⟨(Know.of (by refine q0a ?_; exact HBS.out)), (Know.of (by refine q0a ?_; exact HBR.out))⟩
   refine q0k SS1 (by kernel_rfl) hS0 ?_
   refine rgT 0 hS0 ?_
   refine rgL 1 hS0 HSO1 ?_
   refine rgT 2 hS0 ?_
   refine rgL 3 hS0 HSO1 ?_
   refine rgT 4 hS0 ?_
   refine rgL 5 hS0 HSO1 ?_
   refine q0d 6 rfl (by kernel_rfl) (fun K hK => ?_)
   go_simp
   go_at_call 249
   refine (q7i s x.length hd.1 hd.2 (by omega) (by omega) _).mono ?_
   rintro e w2 ⟨rfl, hc⟩
   rw [show (x.length + 4 * s.data - 1) / (4 * s.data) = pn from HN.out.symm]
   have h := bk hc (q0a HBS.out) (by simp); clear HBS cS lS; obtain ⟨cS, lS, HBS⟩ := h
   have h := bk hc (q0a HBR.out) (by simp); clear HBR cR lR; obtain ⟨cR, lR, HBR⟩ := h
   have h := Chg.trans0 (Chg.drew HC.out) hc; clear HC; have HC := hid h; clear h
   clear hc
   go_wp2_with fail
   refine hK.out _ _ (HSI1.out _ ⟨cS, cR⟩) (fun hS1 => ?_)
   clear hK K
   try simp only [Act.put, pA, pB, pC]
   refine rgT 7 hS1 ?_
   refine rgT 8 hS1 ?_
   refine rgS 9 hS1 ?_
   refine rgS 10 hS1 ?_
   refine rgS 11 hS1 ?_
   refine rgS 12 hS1 ?_
   refine rgS 13 hS1 ?_
   refine rgS 14 hS1 ?_
   refine rgT 15 hS1 ?_
   refine rgT 16 hS1 ?_
   refine wpAnyH_done (by kernel_rfl) ?_ _
   go_wp2_with fail
   go_ret
   exact ⟨q0l HR.out.symm, HC.out⟩
 have hB0 : (0 : Int) < (l7 : Int) := by omega
 by_cases hD : (l7 : Int) = x.length
 ·by_cases hE : l6 = 0
  ·have HC : Hid (Chg [] w w) := Chg.refl _ _
   have HR := hid (HT.out ((q1e.data hA HP.out.symm (len1 Z7.out hB)).2 ⟨by rw [← Z7.out]; exact hD, len0 Z6.out hE⟩))
   have e1 : ((l7 : Int) == x.length) = true := by simp; exact hD
   obtain ⟨za, zb, zc, zd, ze⟩ := q4o hE; clear hE hA hB
   go_enter Tryz.func193, Tryz.ntmps193
   go_wp2_with fail
   refine (q3p s x.length hd.1 hd.2 o3 _).mono ?_
   rintro e w1 ⟨rfl, hc⟩
   rw [← HP.out]
   obtain ⟨cS, lS, HBS⟩ := bk hc (b := w.heap.size) (q0b (q0e (by simp) _) _) (by simp)
   obtain ⟨cR, lR, HBR⟩ := bk hc (b := w.heap.size + 1) (q0e (by simp) _) (by simp)
   have h := Chg.trans0 (Chg.alloc (Chg.alloc HC.out _) _) hc; clear HC; have HC := hid h; clear h
   clear hc
   go_wp2_with fail
   go_ret
   exact ⟨q0l HR.out.symm, HC.out⟩
  ·have HC : Hid (Chg [] w w) := Chg.refl _ _
   have HR := hid (HF.out (fun h => len1 Z6.out hE ((q1e.data hA HP.out.symm (len1 Z7.out hB)).1 h).2))
   have e1 : ((l7 : Int) == x.length) = true := by simp; exact hD
   have e2 : ((l6 : Int) == 0) = false := by simp; exact hE
   clear hE hA hB
   go_enter Tryz.func193, Tryz.ntmps193
   go_wp2_with fail
   refine (q3p s x.length hd.1 hd.2 o3 _).mono ?_
   rintro e w1 ⟨rfl, hc⟩
   rw [← HP.out]
   obtain ⟨cS, lS, HBS⟩ := bk hc (b := w.heap.size) (q0b (q0e (by simp) _) _) (by simp)
   obtain ⟨cR, lR, HBR⟩ := bk hc (b := w.heap.size + 1) (q0e (by simp) _) (by simp)
   have h := Chg.trans0 (Chg.alloc (Chg.alloc HC.out _) _) hc; clear HC; have HC := hid h; clear h
   clear hc
   go_wp2_with fail
   go_ret
   exact ⟨q0l HR.out.symm, HC.out⟩
 ·have HC : Hid (Chg [] w w) := Chg.refl _ _
  have HR := hid (HF.out (fun h => hD (by rw [Z7.out]; exact ((q1e.data hA HP.out.symm (len1 Z7.out hB)).1 h).1)))
  have e1 : ((l7 : Int) == x.length) = false := by simp; exact hD
  clear hD hA hB
  go_enter Tryz.func193, Tryz.ntmps193
  go_wp2_with fail
  refine (q3p s x.length hd.1 hd.2 o3 _).mono ?_
  rintro e w1 ⟨rfl, hc⟩
  rw [← HP.out]
  obtain ⟨cS, lS, HBS⟩ := bk hc (b := w.heap.size) (q0b (q0e (by simp) _) _) (by simp)
  obtain ⟨cR, lR, HBR⟩ := bk hc (b := w.heap.size + 1) (q0e (by simp) _) (by simp)
  have h := Chg.trans0 (Chg.alloc (Chg.alloc HC.out _) _) hc; clear HC; have HC := hid h; clear h
  clear hc
  go_wp2_with fail
  go_ret
  exact ⟨q0l HR.out.symm, HC.out⟩
def q2n (s : Shp) (x : Rec) : Prop := (x.delta.length : Int) = s.all ∧ x.delta[x.group.toNat]? = some 0 ∧ ∀ k ∈ x.rows, ¬ x.delta[k.toNat]? = some 0
theorem q4n.mem {m : Int} {xs : List Int} (h : q4n m xs) {x : Int} (hx : x ∈ xs) : 0 ≤ x ∧ x ≤ m := by
 obtain ⟨i, hi⟩ := List.getElem?_of_mem hx
 exact (h i x hi).1
theorem byte0 {z : UInt8} {Z : Int} (h : Z = z.toNat) : (z = 0 → (Z == 0) = true ∧ (Z != 0) = false) ∧ (¬ z = 0 → (Z == 0) = false ∧ (Z != 0) = true) := by
 subst h
 refine ⟨fun h => by subst h; simp, fun h => ?_⟩
 have h1 : z.toNat ≠ 0 := fun h0 => h (UInt8.toNat_inj.1 (by rw [h0]; rfl))
 have : (z.toNat : Int) ≠ 0 := by omega
 exact ⟨by simpa using h1, by simpa using h1⟩
theorem q6a (s : Shp) (hs : s.ok) (x : Rec) (cx : Array Value) (fx : List Nat) (w : World) (hx : recL.rep w cx.toList x fx) (hgr : 0 ≤ x.group ∧ x.group ≤ s.all - 1) (hri : q4n (s.all - 1) x.rows) :
  Calls Tryz.prog 196 #[.agg s.cells, .agg cx] w fun e w' => e = .returned (.bool (pb (q2n s x))) ∧ Chg [] w w' := by
 have HX := hid hx
 obtain ⟨a6, l6, c6, f6, a7, l7, c7, f7, a8, l8, c8, f8, ex, o0, o1, on, o3, o4, o5, h6, h7, h8, -⟩ := q0v.1 hx
 have HO := hid (And.intro o0 o1)
 clear hx o0 o1
 obtain rfl := Array.toList_inj.1 (ex.trans (List.toList_toArray).symm)
 clear ex
 have q6 := intL.sl_max h6; have q7 := q0p.sl_max h7; have q8 := q0p.sl_max h8
 have Z6 := hid h6.1; have Z7 := hid h7.1; have Z8 := hid h8.1
 have H6 := hid h6; have H7 := hid h7; have H8 := hid h8
 clear h6 h7 h8
 have hd := hs.data; have hr := hs.rows; have hg := hs.gS; have hal := hs.all
 have HS := hid hs
 clear hs
 have e50 : IntKind.i64.wrap (s.rows - 1) = s.rows - 1 := IntWalk.i64_in _ (by omega)
 have e51 : IntKind.i64.wrap (s.gS - 1) = s.gS - 1 := IntWalk.i64_in _ (by omega)
 have e52 : IntKind.i64.wrap (s.all - 1) = s.all - 1 := IntWalk.i64_in _ (by omega)
 show Calls _ _ #[.agg #[.int .i64 s.gS, .int .i64 s.cM, .int .i64 s.data, .int .i64 s.spare, .int .i64 s.rows, .int .i64 s.cap, .int .i64 s.bT, .int .i64 s.qU, .int .i64 s.sG], .agg _] _ _
 have HT := hid (fun h => q0g h : q2n s x → pb (q2n s x) = true)
 have HF := hid (fun h => q0f h : ¬ q2n s x → pb (q2n s x) = false)
 have HE := hid (fun Q h => q5i h : ∀ Q, (q2n s x ↔ Q) → pb (q2n s x) = pb Q)
 generalize pb (q2n s x) = r at HT HF HE ⊢
 have HRI := hid hri
 clear hri
 obtain ⟨hg1, hg2⟩ := hgr
 by_cases hA : (l8 : Int) = s.all
 rotate_left
 ·have HC : Hid (Chg [] w w) := Chg.refl _ _
  have HR := hid (HF.out (fun h => hA (by rw [Z8.out]; exact h.1)))
  have e1 : ((l8 : Int) != s.all) = true := by simp; exact hA
  clear hA
  go_enter Tryz.func196, Tryz.ntmps196
  go_wp2_with fail
  obtain ⟨SS1, HSI1, HSO1⟩ := q0j (fun w' => Know (w.heap.size) #[.int .i64 s.gS, .int .i64 s.cM, .int .i64 s.data, .int .i64 s.spare, .int .i64 s.rows, .int .i64 s.cap, .int .i64 s.bT, .int .i64 s.qU, .int .i64 s.sG] w' ∧ Know (w.heap.size + 1) #[.int .i64 x.kind, .int .i64 x.seq, .string x.name, .int .i64 x.length, .int .i64 x.group, .int .i64 x.row, .slice a6 l6 c6, .slice a7 l7 c7, .slice a8 l8 c8] w')
  have hS0 := HSI1.out (((w.alloc (.cells #[.int .i64 s.gS, .int .i64 s.cM, .int .i64 s.data, .int .i64 s.spare, .int .i64 s.rows, .int .i64 s.cap, .int .i64 s.bT, .int .i64 s.qU, .int .i64 s.sG] 30)).alloc (.cells #[.int .i64 x.kind, .int .i64 x.seq, .string x.name, .int .i64 x.length, .int .i64 x.group, .int .i64 x.row, .slice a6 l6 c6, .slice a7 l7 c7, .slice a8 l8 c8] 67)).drew) ⟨(Know.of (by refine q0a ?_; refine q0b ?_ _; exact q0e (by simp) _)), (Know.of (by refine q0a ?_; exact q0e (by simp) _))⟩
  refine q0k SS1 (by kernel_rfl) hS0 ?_
  refine rgT 0 hS0 ?_
  refine rgL 1 hS0 HSO1 ?_
  refine rgT 2 hS0 ?_
  refine rgL 3 hS0 HSO1 ?_
  refine q0d 4 rfl (by kernel_rfl) (fun K hK => ?_)
  go_simp
  go_at_call 100
  refine (q0r s HS.out _).mono ?_
  rintro e w1 ⟨rfl, hc⟩
  obtain ⟨cS, lS, HBS⟩ := bk hc (b := w.heap.size) (q0a (q0b (q0e (by simp) _) _)) (by simp)
  obtain ⟨cR, lR, HBR⟩ := bk hc (b := w.heap.size + 1) (q0a (q0e (by simp) _)) (by simp)
  have h := Chg.trans0 (Chg.drew (Chg.alloc (Chg.alloc HC.out _) _)) hc; clear HC; have HC := hid h; clear h
  clear hc
  go_wp2_with fail
  refine hK.out _ _ (HSI1.out _ ⟨cS, cR⟩) (fun hS1 => ?_)
  clear hK K
  try simp only [Act.put, pA, pB, pC]
  refine rgT 5 hS1 ?_
  refine rgT 6 hS1 ?_
  refine rgS 7 hS1 ?_
  refine rgS 8 hS1 ?_
  refine rgS 9 hS1 ?_
  refine rgS 10 hS1 ?_
  refine rgS 11 hS1 ?_
  refine rgS 12 hS1 ?_
  refine rgS 13 hS1 ?_
  refine rgT 14 hS1 ?_
  refine wpAnyH_done (by kernel_rfl) ?_ _
  go_wp2_with fail
  go_ret
  exact ⟨q0l HR.out.symm, HC.out⟩
 have e1 : ((l8 : Int) != s.all) = false := by simp; exact hA
 have HAA := hid hA
 have hgl : x.group.toNat < l8 := by omega
 have hgl2 : x.group < (l8 : Int) := by omega
 obtain ⟨z, Z, b, o, HXB, hA8, hcz, hz0, hz1⟩ := q4z H8.out hgl
 have HD := hid (show x.delta[x.group.toNat]? = some z from HXB.out.1)
 subst hA8
 have hb0 := byte0 HXB.out.2.1
 have HCZ := hid hcz
 clear hcz
 by_cases hZ : z = 0
 rotate_left
 ·have HC : Hid (Chg [] w w) := Chg.refl _ _
  have HR := hid (HF.out (fun h => hZ (by have h2 := h.2.1; rw [HD.out] at h2; exact Option.some.inj h2)))
  have e2 := (hb0.2 hZ).2
  clear hb0 hA hZ
  go_enter Tryz.func196, Tryz.ntmps196
  go_wp2_with fail
  obtain ⟨SS1, HSI1, HSO1⟩ := q0j (fun w' => Know (w.heap.size) #[.int .i64 s.gS, .int .i64 s.cM, .int .i64 s.data, .int .i64 s.spare, .int .i64 s.rows, .int .i64 s.cap, .int .i64 s.bT, .int .i64 s.qU, .int .i64 s.sG] w' ∧ Know (w.heap.size + 1) #[.int .i64 x.kind, .int .i64 x.seq, .string x.name, .int .i64 x.length, .int .i64 x.group, .int .i64 x.row, .slice a6 l6 c6, .slice a7 l7 c7, .slice (some ⟨b, o, none⟩) l8 c8] w' ∧ w'.cell? ⟨b, o + x.group.toNat, none⟩ = some (.int .u8 Z))
  have hS0 := HSI1.out (((w.alloc (.cells #[.int .i64 s.gS, .int .i64 s.cM, .int .i64 s.data, .int .i64 s.spare, .int .i64 s.rows, .int .i64 s.cap, .int .i64 s.bT, .int .i64 s.qU, .int .i64 s.sG] 30)).alloc (.cells #[.int .i64 x.kind, .int .i64 x.seq, .string x.name, .int .i64 x.length, .int .i64 x.group, .int .i64 x.row, .slice a6 l6 c6, .slice a7 l7 c7, .slice (some ⟨b, o, none⟩) l8 c8] 67)).drew) ⟨(Know.of (by refine q0a ?_; refine q0b ?_ _; exact q0e (by simp) _)), (Know.of (by refine q0a ?_; exact q0e (by simp) _)), (q0h (Chg.drew (Chg.alloc (Chg.alloc HC.out _) _)) HCZ.out (Lay.sl_lt _ H8.out _ HXB.out.2.2))⟩
  refine q0k SS1 (by kernel_rfl) hS0 ?_
  refine rgT 0 hS0 ?_
  refine rgL 1 hS0 HSO1 ?_
  refine rgT 2 hS0 ?_
  refine rgL 3 hS0 HSO1 ?_
  refine q0d 4 rfl (by kernel_rfl) (fun K hK => ?_)
  go_simp
  go_at_call 100
  refine (q0r s HS.out _).mono ?_
  rintro e w1 ⟨rfl, hc⟩
  obtain ⟨cS, lS, HBS⟩ := bk hc (b := w.heap.size) (q0a (q0b (q0e (by simp) _) _)) (by simp)
  obtain ⟨cR, lR, HBR⟩ := bk hc (b := w.heap.size + 1) (q0a (q0e (by simp) _)) (by simp)
  have h := Chg.trans0 (Chg.drew (Chg.alloc (Chg.alloc HC.out _) _)) hc; clear HC; have HC := hid h; clear h
  clear hc
  go_wp2_with fail
  refine hK.out _ _ (HSI1.out _ ⟨cS, cR, (q0h HC.out HCZ.out (Lay.sl_lt _ H8.out _ HXB.out.2.2))⟩) (fun hS1 => ?_)
  clear hK K
  try simp only [Act.put, pA, pB, pC]
  refine rgT 5 hS1 ?_
  refine rgT 6 hS1 ?_
  refine rgT 7 hS1 ?_
  refine rgL 8 hS1 HSO1 ?_
  refine rgT 9 hS1 ?_
  refine rgL 10 hS1 HSO1 ?_
  refine rgT 11 hS1 ?_
  refine rgL 12 hS1 HSO1 ?_
  refine rgT 13 hS1 ?_
  refine rgT 14 hS1 ?_
  refine wpAnyH_done (by kernel_rfl) ?_ _
  go_wp2_with fail
  go_ret
  exact ⟨q0l HR.out.symm, HC.out⟩
 have HC : Hid (Chg [] w w) := Chg.refl _ _
 have e2 := (hb0.1 hZ).2
 subst hZ
 clear hb0 hA
 go_enter Tryz.func196, Tryz.ntmps196
 go_wp2_with fail
 obtain ⟨SS1, HSI1, HSO1⟩ := q0j (fun w' => Know (w.heap.size) #[.int .i64 s.gS, .int .i64 s.cM, .int .i64 s.data, .int .i64 s.spare, .int .i64 s.rows, .int .i64 s.cap, .int .i64 s.bT, .int .i64 s.qU, .int .i64 s.sG] w' ∧ Know (w.heap.size + 1) #[.int .i64 x.kind, .int .i64 x.seq, .string x.name, .int .i64 x.length, .int .i64 x.group, .int .i64 x.row, .slice a6 l6 c6, .slice a7 l7 c7, .slice (some ⟨b, o, none⟩) l8 c8] w' ∧ w'.cell? ⟨b, o + x.group.toNat, none⟩ = some (.int .u8 Z))
 have hS0 := HSI1.out (((w.alloc (.cells #[.int .i64 s.gS, .int .i64 s.cM, .int .i64 s.data, .int .i64 s.spare, .int .i64 s.rows, .int .i64 s.cap, .int .i64 s.bT, .int .i64 s.qU, .int .i64 s.sG] 30)).alloc (.cells #[.int .i64 x.kind, .int .i64 x.seq, .string x.name, .int .i64 x.length, .int .i64 x.group, .int .i64 x.row, .slice a6 l6 c6, .slice a7 l7 c7, .slice (some ⟨b, o, none⟩) l8 c8] 67)).drew) ⟨(Know.of (by refine q0a ?_; refine q0b ?_ _; exact q0e (by simp) _)), (Know.of (by refine q0a ?_; exact q0e (by simp) _)), (q0h (Chg.drew (Chg.alloc (Chg.alloc HC.out _) _)) HCZ.out (Lay.sl_lt _ H8.out _ HXB.out.2.2))⟩
 refine q0k SS1 (by kernel_rfl) hS0 ?_
 refine rgT 0 hS0 ?_
 refine rgL 1 hS0 HSO1 ?_
 refine rgT 2 hS0 ?_
 refine rgL 3 hS0 HSO1 ?_
 refine q0d 4 rfl (by kernel_rfl) (fun K hK => ?_)
 go_simp
 go_at_call 100
 refine (q0r s HS.out _).mono ?_
 rintro e w1 ⟨rfl, hc⟩
 obtain ⟨cS, lS, HBS⟩ := bk hc (b := w.heap.size) (q0a (q0b (q0e (by simp) _) _)) (by simp)
 obtain ⟨cR, lR, HBR⟩ := bk hc (b := w.heap.size + 1) (q0a (q0e (by simp) _)) (by simp)
 have h := Chg.trans0 (Chg.drew (Chg.alloc (Chg.alloc HC.out _) _)) hc; clear HC; have HC := hid h; clear h
 clear hc
 go_wp2_with fail
 refine hK.out _ _ (HSI1.out _ ⟨cS, cR, (q0h HC.out HCZ.out (Lay.sl_lt _ H8.out _ HXB.out.2.2))⟩) (fun hS1 => ?_)
 clear hK K
 try simp only [Act.put, pA, pB, pC]
 refine rgT 5 hS1 ?_
 refine rgT 6 hS1 ?_
 refine rgT 7 hS1 ?_
 refine rgL 8 hS1 HSO1 ?_
 refine rgT 9 hS1 ?_
 refine rgL 10 hS1 HSO1 ?_
 refine rgT 11 hS1 ?_
 refine rgL 12 hS1 HSO1 ?_
 refine rgT 13 hS1 ?_
 refine rgT 14 hS1 ?_
 refine wpAnyH_done (by kernel_rfl) ?_ _
 go_wp2_with fail
 go_loopw [5] (fun i wr => ∃ k : Nat, k ≤ l6 ∧ i = .int .i64 k ∧ Hid (∀ y ∈ x.rows.take k, ¬ x.delta[y.toNat]? = some 0) ∧ Hid (Chg [] w1 wr)) (fun i _ => l6 - (intOf i).toNat)
 case atStart => exact ⟨0, by omega, rfl, by intro y hy; simp at hy, Chg.refl _ _⟩
 case round =>
  obtain ⟨k, hk, rfl, HK, HCr⟩ := hrel
  have hR := HCr.out.keep0 HBR.out
  have cR2 := cellsOf hR; have lR2 := ltOf hR
  have HCW := hid (HC.out.trans0 HCr.out)
  clear hR cR lR cS lS
  by_cases hlt : k < l6
  ·obtain ⟨y, b2, o2, HY, rfl, hcy, hok⟩ := q2y (intL.sl_ext H6.out HCW.out) hlt
   have hy := HRI.out.mem (List.mem_of_getElem? HY.out.1)
   obtain ⟨j, rfl⟩ : ∃ j : Nat, y = (j : Int) := ⟨y.toNat, by omega⟩
   have hjl : j < l8 := by have := HAA.out; omega
   have hj1 : (j : Int) < (l8 : Int) := by omega
   have hk1 : (k : Int) < (l6 : Int) := by omega
   obtain ⟨u, U, b3, o3, HU, e', hcu, hu0, hu1⟩ := q4z (q0p.sl_ext H8.out HCW.out) hjl
   simp only [Option.some.injEq, Addr.mk.injEq, and_true] at e'
   obtain ⟨rfl, rfl⟩ := e'
   have hb1 := byte0 HU.out.2.1
   by_cases hU : u = 0
   ·have HR := hid (HF.out (fun h => h.2.2 _ (List.mem_of_getElem? HY.out.1) (by rw [← hU]; simpa using HU.out.1)))
    have e3 := (hb1.1 hU).1
    clear hb1 hU hy
    go_wp2_with fail
    go_quiet (fail)
    go_wp2_with fail
    go_ret
    exact ⟨q0l HR.out.symm, HCW.out.drewN _⟩
   ·have HN := hid (show ∀ y ∈ x.rows.take (k + 1), ¬ x.delta[y.toNat]? = some 0 by
     intro y hy
     rw [q2b HY.out.1] at hy
     rcases List.mem_append.1 hy with h1 | h1
     ·exact HK.out y h1
     ·simp at h1; subst h1; have h2 := HU.out.1; simp only [Int.toNat_natCast]; rw [h2]; exact fun h => hU (Option.some.inj h))
    have e3 := (hb1.2 hU).1
    clear hb1 hU hy
    go_wp2_with fail
    go_quiet (fail)
    go_wp2_with fail
    go_roundw
    case rel => exact ⟨k + 1, by omega, by go_num, HN, HCr.out.drewN _⟩
    case measure => simp [intOf]; omega
  ·have HR := hid (HT.out ⟨by rw [← Z8.out]; exact HAA.out, HD.out, fun y hy => HK.out y (by rw [List.take_of_length_le (by have := Z6.out; omega)]; exact hy)⟩)
   go_wp2_with fail
   go_ret
   exact ⟨q0l HR.out.symm, HCW.out⟩
noncomputable def q4s (s : Shp) (x : Rec) : Int := if q1b x.name = 0 then (if pb (q1e s x) = true then 0 else 3) else q1b x.name
theorem pb_step {m : Int} {xs : List Int} {k : Nat} {x : Int} (hx : xs[k]? = some x) (h : q2d m xs k) (h1 : 0 ≤ x ∧ x ≤ m) : pb (q2d m xs (k + 1)) = !pb (x ∈ xs.take k) := by
 by_cases h2 : x ∈ xs.take k
 ·rw [q0g h2, q0f (fun h3 => (h3 k x (by omega) hx).2 h2)]; rfl
 ·rw [q0f h2, q0g (h.next hx h1 h2)]; rfl
theorem pb_out {m : Int} {xs : List Int} {k : Nat} {x : Int} (hx : xs[k]? = some x) (h1 : ¬ (0 ≤ x ∧ x ≤ m)) : pb (q2d m xs (k + 1)) = false := q0f (fun h3 => h1 (h3 k x (by omega) hx).1)
theorem pb_dead {m : Int} {xs : List Int} {k : Nat} (h : ¬ q2d m xs k) : pb (q2d m xs (k + 1)) = false := q0f (fun h3 => h (fun i x hi hx => h3 i x (by omega) hx))
theorem pb_end {m : Int} {xs : List Int} {k : Nat} (hk : xs.length ≤ k) : pb (q2d m xs k) = pb (q2o m xs) := q5i ⟨fun h => h.all hk, fun h i x _ hx => h i x hx⟩
theorem q2e (s : ByteArray) (hs : s.size ≤ maxLen) (w : World) : Calls Tryz.prog 125 #[.string s] w fun e w' => e = .returned (.int .i64 (q1b s)) ∧ Chg [] w w' :=
 (impl_name s hs w).mono fun _ _ h => ⟨h.1, h.2 ▸ Chg.refl _ _⟩
theorem q6i (s : ByteArray) (hs : s.size ≤ maxLen) (w : World) : Calls Tryz.prog 192 #[.string s] w fun e w' => e = .returned (.int .i64 (q1b s)) ∧ Chg [] w w' :=
 (spec_name s hs w).mono fun _ _ h => ⟨h.1, h.2 ▸ Chg.refl _ _⟩
theorem nn_ne {n : Int} (h : ¬ n = 0) : (n != 0) = true := by simp; exact h
theorem q2g (a : Option Addr) (la ca : Nat) (w : World) (hm : la ≤ 9223372036854775807) :
  Calls Tryz.prog 185 #[.slice a la ca] w fun e w' => e = .returned (.int .i64 (la : Int)) ∧ Chg [] w w' :=
 (sizeB_any a la ca w hm).mono fun _ _ h => ⟨h.1, h.2 ▸ Chg.refl _ _⟩
theorem q6j (a : Option Addr) (la ca : Nat) (w : World) (hm : la ≤ 9223372036854775807) :
  Calls Tryz.prog 143 #[.slice a la ca] w fun e w' => e = .returned (.int .i64 (la : Int)) ∧ Chg [] w w' :=
 (sizeI_any a la ca w hm).mono fun _ _ h => ⟨h.1, h.2 ▸ Chg.refl _ _⟩
theorem q5k (a : Option Addr) (la ca : Nat) (xs : List Int) (f : List Nat) (v : Int) (w : World) (ha : intL.sl w a la ca xs f) :
  Calls Tryz.prog 213 #[.slice a la ca, .int .i64 v] w fun e w' => e = .returned (.bool (pb (v ∈ xs))) ∧ Chg [] w w' :=
 (q9h a la ca xs f v w ha).mono fun _ _ h => ⟨h.1, h.2 ▸ Chg.refl _ _⟩
theorem q6c (s : Shp) (hs : s.ok) (x : Rec) (cx : Array Value) (fx : List Nat) (w : World) (hx : recL.rep w cx.toList x fx) :
  Calls Tryz.prog 258 #[.agg s.cells, .agg cx] w fun e w' => e = .returned (.int .i64 (q4s s x)) ∧ Chg [] w w' := by
 have HX := hid hx
 obtain ⟨a6, l6, c6, f6, a7, l7, c7, f7, a8, l8, c8, f8, ex, o0, o1, on, o3, o4, o5, h6, h7, h8, -⟩ := q0v.1 hx
 have HO := hid (And.intro o0 o1)
 clear hx o0 o1
 obtain rfl := Array.toList_inj.1 (ex.trans (List.toList_toArray).symm)
 clear ex
 have q6 := intL.sl_max h6; have q7 := q0p.sl_max h7; have q8 := q0p.sl_max h8
 have Z6 := hid h6.1; have Z7 := hid h7.1; have Z8 := hid h8.1
 have H6 := hid h6; have H7 := hid h7; have H8 := hid h8
 clear h6 h7 h8
 have hd := hs.data; have hr := hs.rows; have hg := hs.gS; have hal := hs.all
 have HS := hid hs
 clear hs
 have e50 : IntKind.i64.wrap (s.rows - 1) = s.rows - 1 := IntWalk.i64_in _ (by omega)
 have e51 : IntKind.i64.wrap (s.gS - 1) = s.gS - 1 := IntWalk.i64_in _ (by omega)
 have e52 : IntKind.i64.wrap (s.all - 1) = s.all - 1 := IntWalk.i64_in _ (by omega)
 show Calls _ _ #[.agg #[.int .i64 s.gS, .int .i64 s.cM, .int .i64 s.data, .int .i64 s.spare, .int .i64 s.rows, .int .i64 s.cap, .int .i64 s.bT, .int .i64 s.qU, .int .i64 s.sG], .agg _] _ _
 have HT := hid (fun h => q0g h : q1e s x → pb (q1e s x) = true)
 have HF := hid (fun h => q0f h : ¬ q1e s x → pb (q1e s x) = false)
 have HE := hid (fun Q h => q5i h : ∀ Q, (q1e s x ↔ Q) → pb (q1e s x) = pb Q)
 obtain ⟨nv, hnv⟩ : ∃ n, n = q1b x.name := ⟨_, rfl⟩
 have HNV := hid hnv
 have HM := hid (show q4s s x = if nv = 0 then (if pb (q1e s x) = true then 0 else 3) else nv by rw [hnv]; rfl)
 clear hnv
 generalize pb (q1e s x) = r at HT HF HE HM ⊢
 generalize q4s s x = v at HM ⊢
 by_cases hN : nv = 0
 rotate_left
 ·have HC : Hid (Chg [] w w) := Chg.refl _ _
  have HR := hid (show v = nv by rw [HM.out, if_neg hN])
  have e1 := nn_ne hN
  clear hN
  go_enter Tryz.func258, Tryz.ntmps258
  go_wp2_with fail
  refine (q2e x.name on _).mono ?_
  rintro e w1 ⟨rfl, hc⟩
  rw [← HNV.out]
  obtain ⟨cS, lS, HBS⟩ := bk hc (b := w.heap.size) (q0b (q0e (by simp) _) _) (by simp)
  obtain ⟨cR, lR, HBR⟩ := bk hc (b := w.heap.size + 1) (q0e (by simp) _) (by simp)
  have h := Chg.trans0 (Chg.alloc (Chg.alloc HC.out _) _) hc; clear HC; have HC := hid h; clear h
  clear hc
  go_wp2_with fail
  go_ret
  exact ⟨q0i HR.out.symm, HC.out⟩
 subst hN
 by_cases hA : x.length = -1
 ·by_cases hB : l7 = 0
  ·by_cases hD : l6 = 0
   ·have HC : Hid (Chg [] w w) := Chg.refl _ _
    have HR := hid (show v = 0 by rw [HM.out, if_pos rfl, if_pos (HT.out ((q1e.del hA).2 ⟨len0 Z7.out hB, len0 Z6.out hD⟩))])
    have eA : (x.length == -1) = true := by simp; exact hA
    obtain ⟨za, zb, zc, zd, ze⟩ := q4o hB; obtain ⟨ya, yb, yc, yd, ye⟩ := q4o hD; clear hB hD hA
    go_enter Tryz.func258, Tryz.ntmps258
    go_wp2_with fail
    refine (q2e x.name on _).mono ?_
    rintro e w1 ⟨rfl, hc⟩
    rw [← HNV.out]
    obtain ⟨cS, lS, HBS⟩ := bk hc (b := w.heap.size) (q0b (q0e (by simp) _) _) (by simp)
    obtain ⟨cR, lR, HBR⟩ := bk hc (b := w.heap.size + 1) (q0e (by simp) _) (by simp)
    have h := Chg.trans0 (Chg.alloc (Chg.alloc HC.out _) _) hc; clear HC; have HC := hid h; clear h
    clear hc
    go_wp2_with fail
    go_ret
    exact ⟨q0i HR.out.symm, HC.out⟩
   ·have HC : Hid (Chg [] w w) := Chg.refl _ _
    have HR := hid (show v = 3 by rw [HM.out, if_pos rfl, if_neg (by rw [HF.out (fun h => len1 Z6.out hD ((q1e.del hA).1 h).2)]; simp)])
    have e1 : (0 : Int) < (l6 : Int) := by omega
    have eA : (x.length == -1) = true := by simp; exact hA
    obtain ⟨za, zb, zc, zd, ze⟩ := q4o hB; clear hB hD hA
    go_enter Tryz.func258, Tryz.ntmps258
    go_wp2_with fail
    refine (q2e x.name on _).mono ?_
    rintro e w1 ⟨rfl, hc⟩
    rw [← HNV.out]
    obtain ⟨cS, lS, HBS⟩ := bk hc (b := w.heap.size) (q0b (q0e (by simp) _) _) (by simp)
    obtain ⟨cR, lR, HBR⟩ := bk hc (b := w.heap.size + 1) (q0e (by simp) _) (by simp)
    have h := Chg.trans0 (Chg.alloc (Chg.alloc HC.out _) _) hc; clear HC; have HC := hid h; clear h
    clear hc
    go_wp2_with fail
    go_ret
    exact ⟨q0i HR.out.symm, HC.out⟩
  ·have HC : Hid (Chg [] w w) := Chg.refl _ _
   have HR := hid (show v = 3 by rw [HM.out, if_pos rfl, if_neg (by rw [HF.out (fun h => len1 Z7.out hB ((q1e.del hA).1 h).1)]; simp)])
   have e1 : (0 : Int) < (l7 : Int) := by omega
   have eA : (x.length == -1) = true := by simp; exact hA
   clear hB hA
   go_enter Tryz.func258, Tryz.ntmps258
   go_wp2_with fail
   refine (q2e x.name on _).mono ?_
   rintro e w1 ⟨rfl, hc⟩
   rw [← HNV.out]
   obtain ⟨cS, lS, HBS⟩ := bk hc (b := w.heap.size) (q0b (q0e (by simp) _) _) (by simp)
   obtain ⟨cR, lR, HBR⟩ := bk hc (b := w.heap.size + 1) (q0e (by simp) _) (by simp)
   have h := Chg.trans0 (Chg.alloc (Chg.alloc HC.out _) _) hc; clear HC; have HC := hid h; clear h
   clear hc
   go_wp2_with fail
   go_ret
   exact ⟨q0i HR.out.symm, HC.out⟩
 have eA : (x.length == -1) = false := by simp; exact hA
 obtain ⟨p1, hp1⟩ : ∃ p, p = (q0s s.data x.length).1 := ⟨_, rfl⟩
 obtain ⟨p2, hp2⟩ : ∃ p, p = (q0s s.data x.length).2 := ⟨_, rfl⟩
 have HP := hid hp2; have HP1 := hid hp1
 clear hp2 hp1
 by_cases hP : p2 = 0
 rotate_left
 ·have HC : Hid (Chg [] w w) := Chg.refl _ _
  have HR := hid (show v = 3 by rw [HM.out, if_pos rfl, if_neg (by rw [HF.out (q1e.long hA (by rw [← HP.out]; exact hP))]; simp)])
  have e1 := nn_ne hP
  clear hA hP
  go_enter Tryz.func258, Tryz.ntmps258
  go_wp2_with fail
  refine (q2e x.name on _).mono ?_
  rintro e w1 ⟨rfl, hc⟩
  rw [← HNV.out]
  obtain ⟨cS, lS, HBS⟩ := bk hc (b := w.heap.size) (q0b (q0e (by simp) _) _) (by simp)
  obtain ⟨cR, lR, HBR⟩ := bk hc (b := w.heap.size + 1) (q0e (by simp) _) (by simp)
  have h := Chg.trans0 (Chg.alloc (Chg.alloc HC.out _) _) hc; clear HC; have HC := hid h; clear h
  clear hc
  go_wp2_with fail
  refine (q4e s x.length hd.1 hd.2 o3 _).mono ?_
  rintro e w2 ⟨rfl, hc⟩
  rw [← HP.out, ← HP1.out]
  have h := bk0 hc HBS.out; clear HBS cS lS; obtain ⟨cS, lS, HBS⟩ := h
  have h := bk0 hc HBR.out; clear HBR cR lR; obtain ⟨cR, lR, HBR⟩ := h
  replace HC := hct HC hc
  clear hc
  go_wp2_with fail
  go_ret
  exact ⟨q0i HR.out.symm, HC.out⟩
 subst hP
 have hb := parts0 hd HP.out.symm
 have hb1 := hb.1; have hb2 := hb.2.1
 have HN1 := hid (show p1 = partsN s x.length from HP1.out.trans hb.2.2)
 clear hb
 by_cases hB : l7 = 0
 ·have eB : ((l7 : Int) == x.length) = false := by simp; omega
  by_cases hD : (l6 : Int) = p1
  rotate_left
  ·have HC : Hid (Chg [] w w) := Chg.refl _ _
   have HR := hid (show v = 3 by rw [HM.out, if_pos rfl, if_neg (by rw [HF.out (fun h => hD (by rw [Z6.out, HN1.out]; exact ((q1e.row hA HP.out.symm (len0 Z7.out hB)).1 h).1))]; simp)])
   have e1 : ((l6 : Int) == p1) = false := by simp; exact hD
   obtain ⟨za, zb, zc, zd, ze⟩ := q4o hB; clear hB hA hD
   go_enter Tryz.func258, Tryz.ntmps258
   go_wp2_with fail
   refine (q2e x.name on _).mono ?_
   rintro e w1 ⟨rfl, hc⟩
   rw [← HNV.out]
   obtain ⟨cS, lS, HBS⟩ := bk hc (b := w.heap.size) (q0b (q0e (by simp) _) _) (by simp)
   obtain ⟨cR, lR, HBR⟩ := bk hc (b := w.heap.size + 1) (q0e (by simp) _) (by simp)
   have h := Chg.trans0 (Chg.alloc (Chg.alloc HC.out _) _) hc; clear HC; have HC := hid h; clear h
   clear hc
   go_wp2_with fail
   refine (q4e s x.length hd.1 hd.2 o3 _).mono ?_
   rintro e w2 ⟨rfl, hc⟩
   rw [← HP.out, ← HP1.out]
   have h := bk0 hc HBS.out; clear HBS cS lS; obtain ⟨cS, lS, HBS⟩ := h
   have h := bk0 hc HBR.out; clear HBR cR lR; obtain ⟨cR, lR, HBR⟩ := h
   replace HC := hct HC hc
   clear hc
   go_wp2_with fail
   obtain ⟨SS1, HSI1, HSO1⟩ := q0j (fun w' => Know (w.heap.size + 1) #[.int .i64 x.kind, .int .i64 x.seq, .string x.name, .int .i64 x.length, .int .i64 x.group, .int .i64 x.row, .slice a6 l6 c6, .slice a7 l7 c7, .slice a8 l8 c8] w')
   have hS0 := HSI1.out (w2.drew) (Know.of (by refine q0a ?_; exact HBR.out))
   refine q0k SS1 (by kernel_rfl) hS0 ?_
   refine rgT 0 hS0 ?_
   refine rgL 1 hS0 HSO1 ?_
   refine rgT 3 hS0 ?_
   refine rgL 4 hS0 HSO1 ?_
   refine q0d 2 rfl (by kernel_rfl) (fun K hK => ?_)
   go_simp
   go_at_call 185
   refine (q2g a7 l7 c7 _ q7).mono ?_
   rintro e w3 ⟨rfl, hc⟩
   have h := bk hc (q0a HBS.out) (by simp); clear HBS cS lS; obtain ⟨cS, lS, HBS⟩ := h
   have h := bk hc (q0a HBR.out) (by simp); clear HBR cR lR; obtain ⟨cR, lR, HBR⟩ := h
   have h := Chg.trans0 (Chg.drew HC.out) hc; clear HC; have HC := hid h; clear h
   clear hc
   go_wp2_with fail
   refine hK.out _ _ (HSI1.out _ cR) (fun hS1 => ?_)
   clear hK K
   try simp only [Act.put, pA, pB, pC]
   refine rgT 5 hS1 ?_
   refine rgT 6 hS1 ?_
   refine rgS 7 hS1 ?_
   refine rgS 8 hS1 ?_
   refine rgS 9 hS1 ?_
   refine rgS 10 hS1 ?_
   refine rgT 11 hS1 ?_
   refine rgT 12 hS1 ?_
   refine wpAnyH_done (by kernel_rfl) ?_ _
   go_wp2_with fail
   refine (q6j a6 l6 c6 _ q6).mono ?_
   rintro e w4 ⟨rfl, hc⟩
   have h := bk0 hc HBS.out; clear HBS cS lS; obtain ⟨cS, lS, HBS⟩ := h
   have h := bk0 hc HBR.out; clear HBR cR lR; obtain ⟨cR, lR, HBR⟩ := h
   replace HC := hct HC hc
   clear hc
   go_wp2_with fail
   go_loopw [9, 10, 11, 66] (fun B9 u v i wr => ∃ k : Nat, k ≤ l6 ∧ i = .int .i64 k ∧ B9 = .bool false ∧ Hid (Chg [] w4 wr)) (fun _ _ _ i _ => l6 - (intOf i).toNat)
   case atStart => exact ⟨0, by omega, rfl, rfl, Chg.refl _ _⟩
   case round =>
    obtain ⟨k, hk, rfl, rfl, HCr⟩ := hrel
    have HCW := hid (HC.out.trans0 HCr.out)
    by_cases hlt : k < l6
    ·obtain ⟨y, b, o, HY, rfl, hcy, hok⟩ := q2y (intL.sl_ext H6.out HCW.out) hlt
     go_wp2_with fail
     go_roundw
     case rel => exact ⟨k + 1, by omega, by go_num, rfl, HCr.out⟩
     case measure => simp [intOf]; omega
    ·go_wp2_with fail
     go_ret
     exact ⟨q0i HR.out.symm, HCW.out⟩
  have HV := hid (show v = if pb (q2o (s.rows - 1) x.rows) = true then 0 else 3 by
   rw [HM.out, if_pos rfl, HE.out _ ((q1e.row hA HP.out.symm (len0 Z7.out hB)).trans ⟨fun h => h.2, fun h => ⟨by rw [← Z6.out, ← HN1.out]; exact hD, h⟩⟩)])
  have e1 : ((l6 : Int) == p1) = true := by simp; exact hD
  obtain ⟨za, zb, zc, zd, ze⟩ := q4o hB; clear hB hA hD
  have HC : Hid (Chg [] w w) := Chg.refl _ _
  go_enter Tryz.func258, Tryz.ntmps258
  go_wp2_with fail
  refine (q2e x.name on _).mono ?_
  rintro e w1 ⟨rfl, hc⟩
  rw [← HNV.out]
  obtain ⟨cS, lS, HBS⟩ := bk hc (b := w.heap.size) (q0b (q0e (by simp) _) _) (by simp)
  obtain ⟨cR, lR, HBR⟩ := bk hc (b := w.heap.size + 1) (q0e (by simp) _) (by simp)
  have h := Chg.trans0 (Chg.alloc (Chg.alloc HC.out _) _) hc; clear HC; have HC := hid h; clear h
  clear hc
  go_wp2_with fail
  refine (q4e s x.length hd.1 hd.2 o3 _).mono ?_
  rintro e w2 ⟨rfl, hc⟩
  rw [← HP.out, ← HP1.out]
  have h := bk0 hc HBS.out; clear HBS cS lS; obtain ⟨cS, lS, HBS⟩ := h
  have h := bk0 hc HBR.out; clear HBR cR lR; obtain ⟨cR, lR, HBR⟩ := h
  replace HC := hct HC hc
  clear hc
  go_wp2_with fail
  obtain ⟨SS1, HSI1, HSO1⟩ := q0j (fun w' => Know (w.heap.size + 1) #[.int .i64 x.kind, .int .i64 x.seq, .string x.name, .int .i64 x.length, .int .i64 x.group, .int .i64 x.row, .slice a6 l6 c6, .slice a7 l7 c7, .slice a8 l8 c8] w')
  have hS0 := HSI1.out (w2.drew) (Know.of (by refine q0a ?_; exact HBR.out))
  refine q0k SS1 (by kernel_rfl) hS0 ?_
  refine rgT 0 hS0 ?_
  refine rgL 1 hS0 HSO1 ?_
  refine rgT 3 hS0 ?_
  refine rgL 4 hS0 HSO1 ?_
  refine q0d 2 rfl (by kernel_rfl) (fun K hK => ?_)
  go_simp
  go_at_call 185
  refine (q2g a7 l7 c7 _ q7).mono ?_
  rintro e w3 ⟨rfl, hc⟩
  have h := bk hc (q0a HBS.out) (by simp); clear HBS cS lS; obtain ⟨cS, lS, HBS⟩ := h
  have h := bk hc (q0a HBR.out) (by simp); clear HBR cR lR; obtain ⟨cR, lR, HBR⟩ := h
  have h := Chg.trans0 (Chg.drew HC.out) hc; clear HC; have HC := hid h; clear h
  clear hc
  go_wp2_with fail
  refine hK.out _ _ (HSI1.out _ cR) (fun hS1 => ?_)
  clear hK K
  try simp only [Act.put, pA, pB, pC]
  refine rgT 5 hS1 ?_
  refine rgT 6 hS1 ?_
  refine rgS 7 hS1 ?_
  refine rgS 8 hS1 ?_
  refine rgS 9 hS1 ?_
  refine rgS 10 hS1 ?_
  refine rgT 11 hS1 ?_
  refine rgT 12 hS1 ?_
  refine wpAnyH_done (by kernel_rfl) ?_ _
  go_wp2_with fail
  refine (q6j a6 l6 c6 _ q6).mono ?_
  rintro e w4 ⟨rfl, hc⟩
  have h := bk0 hc HBS.out; clear HBS cS lS; obtain ⟨cS, lS, HBS⟩ := h
  have h := bk0 hc HBR.out; clear HBR cR lR; obtain ⟨cR, lR, HBR⟩ := h
  replace HC := hct HC hc
  clear hc
  go_wp2_with fail
  go_loopw [9, 10, 11, 66] (fun B9 u v i wr => ∃ (k : Nat) (b : Bool), k ≤ l6 ∧ i = .int .i64 k ∧ B9 = .bool b ∧ Hid (b = pb (q2d (s.rows - 1) x.rows k)) ∧ Hid (Chg [] w4 wr)) (fun _ _ _ i _ => l6 - (intOf i).toNat)
  case atStart => exact ⟨0, true, by omega, rfl, rfl, (q0g (q2d.zero _ _)).symm, Chg.refl _ _⟩
  case round =>
   obtain ⟨k, b9, hk, rfl, rfl, HB9, HCr⟩ := hrel
   rename_i wr
   have HCW := hid (HC.out.trans0 HCr.out)
   by_cases hlt : k < l6
   ·obtain ⟨y, b, o, HY, rfl, hcy, hok⟩ := q2y (intL.sl_ext H6.out HCW.out) hlt
    cases hb9 : b9
    ·rw [hb9] at HB9
     have HN := hid (pb_dead (not_pb HB9.out.symm)).symm
     clear hb9
     go_wp2_with fail
     go_roundw
     case rel => exact ⟨k + 1, false, by omega, by go_num, rfl, HN.out, HCr.out⟩
     case measure => simp [intOf]; omega
    ·rw [hb9] at HB9
     have hh := HCr.out.keep0 HBS.out; clear cS lS HBS; have cS := cellsOf hh; have lS := ltOf hh; have HBS := hid hh; clear hh
     have hh := HCr.out.keep0 HBR.out; clear cR lR HBR; have cR := cellsOf hh; have lR := ltOf hh; have HBR := hid hh; clear hh
     have hka : k ≤ c6 := by have := H6.out.2.1; omega
     have hk1 : (k : Int) ≤ (c6 : Int) := by omega
     obtain ⟨gg, hgg⟩ := q5b H6.out (k := k) (by omega) c6 hka (Nat.le_refl _)
     have HGG := hid hgg; clear hgg
     have HCO := hid HC.out
     clear HC hb9
     have HC : Hid (Chg [] wr wr) := Chg.refl _ _
     go_wp2_with fail
     refine (q2h s HS.out y _).mono ?_
     rintro e w1 ⟨rfl, hc⟩
     have h := bk0 hc HBS.out; clear HBS cS lS; obtain ⟨cS, lS, HBS⟩ := h
     have h := bk0 hc HBR.out; clear HBR cR lR; obtain ⟨cR, lR, HBR⟩ := h
     replace HC := hct HC hc
     clear hc
     by_cases hin : 0 ≤ y ∧ y ≤ s.rows - 1
     ·rw [q1m hin.1 hin.2]
      have HN := hid (pb_step HY.out.1 (of_pb HB9.out.symm) hin)
      clear hin
      go_wp2_with fail
      refine ((q5k (some ⟨b, o, none⟩) k c6 (x.rows.take k) gg y _ (intL.sl_ext HGG.out (HCW.out.trans0 HC.out)))).mono ?_
      rintro e w2 ⟨rfl, hc⟩
      have h := bk0 hc HBS.out; clear HBS cS lS; obtain ⟨cS, lS, HBS⟩ := h
      have h := bk0 hc HBR.out; clear HBR cR lR; obtain ⟨cR, lR, HBR⟩ := h
      replace HC := hct HC hc
      clear hc
      go_wp2_with fail
      go_roundw
      case rel => exact ⟨k + 1, _, by omega, by go_num, rfl, HN.out.symm, HCr.out.trans0 HC.out⟩
      case measure => simp [intOf]; omega
     ·rw [q1t hin]
      have HN := hid (pb_out HY.out.1 hin)
      clear hin
      go_wp2_with fail
      go_roundw
      case rel => exact ⟨k + 1, false, by omega, by go_num, rfl, HN.out.symm, HCr.out.trans0 HC.out⟩
      case measure => simp [intOf]; omega
   ·have HQ := hid (HB9.out.trans (pb_end (by have := Z6.out; omega)))
    rw [← HQ.out] at HV
    cases b9
    ·have HR := hid (HV.out.trans (if_neg (by simp)))
     go_wp2_with fail
     go_ret
     exact ⟨q0i HR.out.symm, HCW.out⟩
    ·have HR := hid (HV.out.trans (if_pos rfl))
     go_wp2_with fail
     go_ret
     exact ⟨q0i HR.out.symm, HCW.out⟩
 have eB : ((l7 : Int) == 0) = false := by simp; exact hB
 by_cases hD : (l7 : Int) = x.length
 rotate_left
 ·have HC : Hid (Chg [] w w) := Chg.refl _ _
  have HR := hid (show v = 3 by rw [HM.out, if_pos rfl, if_neg (by rw [HF.out (fun h => hD (by rw [Z7.out]; exact ((q1e.data hA HP.out.symm (len1 Z7.out hB)).1 h).1))]; simp)])
  have e1 : ((l7 : Int) == x.length) = false := by simp; exact hD
  clear hA hD hB
  go_enter Tryz.func258, Tryz.ntmps258
  go_wp2_with fail
  refine (q2e x.name on _).mono ?_
  rintro e w1 ⟨rfl, hc⟩
  rw [← HNV.out]
  obtain ⟨cS, lS, HBS⟩ := bk hc (b := w.heap.size) (q0b (q0e (by simp) _) _) (by simp)
  obtain ⟨cR, lR, HBR⟩ := bk hc (b := w.heap.size + 1) (q0e (by simp) _) (by simp)
  have h := Chg.trans0 (Chg.alloc (Chg.alloc HC.out _) _) hc; clear HC; have HC := hid h; clear h
  clear hc
  go_wp2_with fail
  refine (q4e s x.length hd.1 hd.2 o3 _).mono ?_
  rintro e w2 ⟨rfl, hc⟩
  rw [← HP.out, ← HP1.out]
  have h := bk0 hc HBS.out; clear HBS cS lS; obtain ⟨cS, lS, HBS⟩ := h
  have h := bk0 hc HBR.out; clear HBR cR lR; obtain ⟨cR, lR, HBR⟩ := h
  replace HC := hct HC hc
  clear hc
  go_wp2_with fail
  obtain ⟨SS1, HSI1, HSO1⟩ := q0j (fun w' => Know (w.heap.size + 1) #[.int .i64 x.kind, .int .i64 x.seq, .string x.name, .int .i64 x.length, .int .i64 x.group, .int .i64 x.row, .slice a6 l6 c6, .slice a7 l7 c7, .slice a8 l8 c8] w')
  have hS0 := HSI1.out (w2.drew) (Know.of (by refine q0a ?_; exact HBR.out))
  refine q0k SS1 (by kernel_rfl) hS0 ?_
  refine rgT 0 hS0 ?_
  refine rgL 1 hS0 HSO1 ?_
  refine rgT 3 hS0 ?_
  refine rgL 4 hS0 HSO1 ?_
  refine q0d 2 rfl (by kernel_rfl) (fun K hK => ?_)
  go_simp
  go_at_call 185
  refine (q2g a7 l7 c7 _ q7).mono ?_
  rintro e w3 ⟨rfl, hc⟩
  have h := bk hc (q0a HBS.out) (by simp); clear HBS cS lS; obtain ⟨cS, lS, HBS⟩ := h
  have h := bk hc (q0a HBR.out) (by simp); clear HBR cR lR; obtain ⟨cR, lR, HBR⟩ := h
  have h := Chg.trans0 (Chg.drew HC.out) hc; clear HC; have HC := hid h; clear h
  clear hc
  go_wp2_with fail
  refine hK.out _ _ (HSI1.out _ cR) (fun hS1 => ?_)
  clear hK K
  try simp only [Act.put, pA, pB, pC]
  refine rgT 5 hS1 ?_
  refine rgT 6 hS1 ?_
  refine rgS 7 hS1 ?_
  refine rgS 8 hS1 ?_
  refine rgS 9 hS1 ?_
  refine rgS 10 hS1 ?_
  refine rgT 11 hS1 ?_
  refine rgT 12 hS1 ?_
  refine wpAnyH_done (by kernel_rfl) ?_ _
  go_wp2_with fail
  go_loopw [9, 10, 11, 66] (fun B9 u v i wr => ∃ k : Nat, k ≤ l6 ∧ i = .int .i64 k ∧ B9 = .bool false ∧ Hid (Chg [] w3 wr)) (fun _ _ _ i _ => l6 - (intOf i).toNat)
  case atStart => exact ⟨0, by omega, rfl, rfl, Chg.refl _ _⟩
  case round =>
   obtain ⟨k, hk, rfl, rfl, HCr⟩ := hrel
   have HCW := hid (HC.out.trans0 HCr.out)
   by_cases hlt : k < l6
   ·obtain ⟨y, b, o, HY, rfl, hcy, hok⟩ := q2y (intL.sl_ext H6.out HCW.out) hlt
    go_wp2_with fail
    go_roundw
    case rel => exact ⟨k + 1, by omega, by go_num, rfl, HCr.out⟩
    case measure => simp [intOf]; omega
   ·go_wp2_with fail
    go_ret
    exact ⟨q0i HR.out.symm, HCW.out⟩
 have e1 : ((l7 : Int) == x.length) = true := by simp; exact hD
 by_cases hE : l6 = 0
 rotate_left
 ·have HC : Hid (Chg [] w w) := Chg.refl _ _
  have HR := hid (show v = 3 by rw [HM.out, if_pos rfl, if_neg (by rw [HF.out (fun h => len1 Z6.out hE ((q1e.data hA HP.out.symm (len1 Z7.out hB)).1 h).2)]; simp)])
  have e2 : ((l6 : Int) == 0) = false := by simp; exact hE
  clear hA hB hE
  go_enter Tryz.func258, Tryz.ntmps258
  go_wp2_with fail
  refine (q2e x.name on _).mono ?_
  rintro e w1 ⟨rfl, hc⟩
  rw [← HNV.out]
  obtain ⟨cS, lS, HBS⟩ := bk hc (b := w.heap.size) (q0b (q0e (by simp) _) _) (by simp)
  obtain ⟨cR, lR, HBR⟩ := bk hc (b := w.heap.size + 1) (q0e (by simp) _) (by simp)
  have h := Chg.trans0 (Chg.alloc (Chg.alloc HC.out _) _) hc; clear HC; have HC := hid h; clear h
  clear hc
  go_wp2_with fail
  refine (q4e s x.length hd.1 hd.2 o3 _).mono ?_
  rintro e w2 ⟨rfl, hc⟩
  rw [← HP.out, ← HP1.out]
  have h := bk0 hc HBS.out; clear HBS cS lS; obtain ⟨cS, lS, HBS⟩ := h
  have h := bk0 hc HBR.out; clear HBR cR lR; obtain ⟨cR, lR, HBR⟩ := h
  replace HC := hct HC hc
  clear hc
  go_wp2_with fail
  obtain ⟨SS1, HSI1, HSO1⟩ := q0j (fun w' => Know (w.heap.size + 1) #[.int .i64 x.kind, .int .i64 x.seq, .string x.name, .int .i64 x.length, .int .i64 x.group, .int .i64 x.row, .slice a6 l6 c6, .slice a7 l7 c7, .slice a8 l8 c8] w')
  have hS0 := HSI1.out (w2.drew) (Know.of (by refine q0a ?_; exact HBR.out))
  refine q0k SS1 (by kernel_rfl) hS0 ?_
  refine rgT 0 hS0 ?_
  refine rgL 1 hS0 HSO1 ?_
  refine rgT 3 hS0 ?_
  refine rgL 4 hS0 HSO1 ?_
  refine q0d 2 rfl (by kernel_rfl) (fun K hK => ?_)
  go_simp
  go_at_call 185
  refine (q2g a7 l7 c7 _ q7).mono ?_
  rintro e w3 ⟨rfl, hc⟩
  have h := bk hc (q0a HBS.out) (by simp); clear HBS cS lS; obtain ⟨cS, lS, HBS⟩ := h
  have h := bk hc (q0a HBR.out) (by simp); clear HBR cR lR; obtain ⟨cR, lR, HBR⟩ := h
  have h := Chg.trans0 (Chg.drew HC.out) hc; clear HC; have HC := hid h; clear h
  clear hc
  go_wp2_with fail
  refine hK.out _ _ (HSI1.out _ cR) (fun hS1 => ?_)
  clear hK K
  try simp only [Act.put, pA, pB, pC]
  refine rgT 5 hS1 ?_
  refine rgT 6 hS1 ?_
  refine rgT 7 hS1 ?_
  refine rgL 8 hS1 HSO1 ?_
  refine rgT 9 hS1 ?_
  refine rgT 10 hS1 ?_
  refine rgT 11 hS1 ?_
  refine rgT 12 hS1 ?_
  refine wpAnyH_done (by kernel_rfl) ?_ _
  go_wp2_with fail
  go_loopw [9, 10, 11, 66] (fun B9 u v i wr => ∃ k : Nat, k ≤ l6 ∧ i = .int .i64 k ∧ B9 = .bool false ∧ Hid (Chg [] w3 wr)) (fun _ _ _ i _ => l6 - (intOf i).toNat)
  case atStart => exact ⟨0, by omega, rfl, rfl, Chg.refl _ _⟩
  case round =>
   obtain ⟨k, hk, rfl, rfl, HCr⟩ := hrel
   have HCW := hid (HC.out.trans0 HCr.out)
   by_cases hlt : k < l6
   ·obtain ⟨y, b, o, HY, rfl, hcy, hok⟩ := q2y (intL.sl_ext H6.out HCW.out) hlt
    go_wp2_with fail
    go_roundw
    case rel => exact ⟨k + 1, by omega, by go_num, rfl, HCr.out⟩
    case measure => simp [intOf]; omega
   ·go_wp2_with fail
    go_ret
    exact ⟨q0i HR.out.symm, HCW.out⟩
 have HC : Hid (Chg [] w w) := Chg.refl _ _
 have HR := hid (show v = 0 by rw [HM.out, if_pos rfl, if_pos (HT.out ((q1e.data hA HP.out.symm (len1 Z7.out hB)).2 ⟨by rw [← Z7.out]; exact hD, len0 Z6.out hE⟩))])
 obtain ⟨za, zb, zc, zd, ze⟩ := q4o hE; clear hE hA hB
 go_enter Tryz.func258, Tryz.ntmps258
 go_wp2_with fail
 refine (q2e x.name on _).mono ?_
 rintro e w1 ⟨rfl, hc⟩
 rw [← HNV.out]
 obtain ⟨cS, lS, HBS⟩ := bk hc (b := w.heap.size) (q0b (q0e (by simp) _) _) (by simp)
 obtain ⟨cR, lR, HBR⟩ := bk hc (b := w.heap.size + 1) (q0e (by simp) _) (by simp)
 have h := Chg.trans0 (Chg.alloc (Chg.alloc HC.out _) _) hc; clear HC; have HC := hid h; clear h
 clear hc
 go_wp2_with fail
 refine (q4e s x.length hd.1 hd.2 o3 _).mono ?_
 rintro e w2 ⟨rfl, hc⟩
 rw [← HP.out, ← HP1.out]
 have h := bk0 hc HBS.out; clear HBS cS lS; obtain ⟨cS, lS, HBS⟩ := h
 have h := bk0 hc HBR.out; clear HBR cR lR; obtain ⟨cR, lR, HBR⟩ := h
 replace HC := hct HC hc
 clear hc
 go_wp2_with fail
 obtain ⟨SS1, HSI1, HSO1⟩ := q0j (fun w' => Know (w.heap.size + 1) #[.int .i64 x.kind, .int .i64 x.seq, .string x.name, .int .i64 x.length, .int .i64 x.group, .int .i64 x.row, .slice a6 l6 c6, .slice a7 l7 c7, .slice a8 l8 c8] w')
 have hS0 := HSI1.out (w2.drew) (Know.of (by refine q0a ?_; exact HBR.out))
 refine q0k SS1 (by kernel_rfl) hS0 ?_
 refine rgT 0 hS0 ?_
 refine rgL 1 hS0 HSO1 ?_
 refine rgT 3 hS0 ?_
 refine rgL 4 hS0 HSO1 ?_
 refine q0d 2 rfl (by kernel_rfl) (fun K hK => ?_)
 go_simp
 go_at_call 185
 refine (q2g a7 l7 c7 _ q7).mono ?_
 rintro e w3 ⟨rfl, hc⟩
 have h := bk hc (q0a HBS.out) (by simp); clear HBS cS lS; obtain ⟨cS, lS, HBS⟩ := h
 have h := bk hc (q0a HBR.out) (by simp); clear HBR cR lR; obtain ⟨cR, lR, HBR⟩ := h
 have h := Chg.trans0 (Chg.drew HC.out) hc; clear HC; have HC := hid h; clear h
 clear hc
 go_wp2_with fail
 refine hK.out _ _ (HSI1.out _ cR) (fun hS1 => ?_)
 clear hK K
 try simp only [Act.put, pA, pB, pC]
 refine rgT 5 hS1 ?_
 refine rgT 6 hS1 ?_
 refine rgT 7 hS1 ?_
 refine rgL 8 hS1 HSO1 ?_
 refine rgT 9 hS1 ?_
 refine rgT 10 hS1 ?_
 refine rgT 11 hS1 ?_
 refine rgT 12 hS1 ?_
 refine wpAnyH_done (by kernel_rfl) ?_ _
 go_wp2_with fail
 go_loopw [9, 10, 11, 66] (fun B9 u v i wr => ∃ k : Nat, k ≤ l6 ∧ i = .int .i64 k ∧ B9 = .bool false ∧ Hid (Chg [] w3 wr)) (fun _ _ _ i _ => l6 - (intOf i).toNat)
 case atStart => exact ⟨0, by omega, rfl, rfl, Chg.refl _ _⟩
 case round =>
  obtain ⟨k, hk, rfl, rfl, HCr⟩ := hrel
  have HCW := hid (HC.out.trans0 HCr.out)
  by_cases hlt : k < l6
  ·obtain ⟨y, b, o, HY, rfl, hcy, hok⟩ := q2y (intL.sl_ext H6.out HCW.out) hlt
   go_wp2_with fail
   go_roundw
   case rel => exact ⟨k + 1, by omega, by go_num, rfl, HCr.out⟩
   case measure => simp [intOf]; omega
  ·go_wp2_with fail
   go_ret
   exact ⟨q0i HR.out.symm, HCW.out⟩
end Go.Proofs.YtphmpimgbmedbaaGreat
