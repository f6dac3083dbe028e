import Derived.Test.YtphmpimgbmedbaaGreatRows
import Derived.Test.YtphmpimgbmedbaaGreatRfaM
import Derived.Test.YtphmpimgbmedbaaGreatNumM
import Derived.Test.YtphmpimgbmedbaaGreatSrcM
import Derived.Deep.RegionHeld3
/- The numbers of a shape; sizes; records with nothing in them. -/
namespace Go.Proofs.YtphmpimgbmedbaaGreat
open Go.RowKit

def Shp.all (s : Shp) : Int := s.groups + s.column
def Shp.drives (s : Shp) : Int := s.data + s.spare
def Shp.wide (s : Shp) : Int := s.data * 4
theorem Shp.ok.all {s : Shp} (h : s.ok) : 1 ≤ s.all ∧ s.all ≤ 6 := by obtain ⟨h1, h2, _⟩ := h; unfold Shp.all; omega
theorem Shp.ok.rows {s : Shp} (h : s.ok) : 1 ≤ s.rows ∧ s.rows ≤ 6 := by obtain ⟨h1, h2, h3, h4, h5, _⟩ := h; exact h5
theorem Shp.ok.data {s : Shp} (h : s.ok) : 1 ≤ s.data ∧ s.data ≤ 3 := by obtain ⟨h1, h2, h3, h4, h5, _⟩ := h; exact h3
theorem Shp.ok.groups {s : Shp} (h : s.ok) : 1 ≤ s.groups ∧ s.groups ≤ 4 := by obtain ⟨h1, h2, h3, h4, h5, _⟩ := h; exact h1
theorem Shp.ok.drives {s : Shp} (h : s.ok) : 1 ≤ s.drives ∧ s.drives ≤ 5 := by obtain ⟨h1, h2, h3, h4, h5, _⟩ := h; unfold Shp.drives; omega
theorem Shp.ok.wide {s : Shp} (h : s.ok) : 4 ≤ s.wide ∧ s.wide ≤ 12 := by have := h.data; unfold Shp.wide; omega


theorem all_any (s : Shp) (hs : s.ok) (w : World) :
    Calls Tryz.prog 179 #[.agg s.cells] w fun e w' => e = .returned (.int .i64 (s.all)) ∧ Chg [] w w' := by
  have h1 := hs.all
  have h2 := hs.groups; have h3 := hs.data
  clear hs
  obtain ⟨g, c, d, p, r, q, b, u, t⟩ := s
  simp only [Shp.all] at *
  simp only [Shp.cells]
  go_enter Tryz.func179, Tryz.ntmps179
  go_wp2
  go_ret
  exact ⟨rfl, by repeat (first | exact Chg.refl _ _ | refine Chg.alloc ?_ _)⟩


theorem l5All_any (s : Shp) (hs : s.ok) (w : World) :
    Calls Tryz.prog 100 #[.agg s.cells] w fun e w' => e = .returned (.int .i64 (s.all)) ∧ Chg [] w w' := by
  have h1 := hs.all
  have h2 := hs.groups; have h3 := hs.data
  clear hs
  obtain ⟨g, c, d, p, r, q, b, u, t⟩ := s
  simp only [Shp.all] at *
  simp only [Shp.cells]
  go_enter Tryz.func100, Tryz.ntmps100
  go_wp2
  go_ret
  exact ⟨rfl, by repeat (first | exact Chg.refl _ _ | refine Chg.alloc ?_ _)⟩


theorem drives_any (s : Shp) (hs : s.ok) (w : World) :
    Calls Tryz.prog 212 #[.agg s.cells] w fun e w' => e = .returned (.int .i64 (s.drives)) ∧ Chg [] w w' := by
  have h1 := hs.drives
  have h2 := hs.groups; have h3 := hs.data
  clear hs
  obtain ⟨g, c, d, p, r, q, b, u, t⟩ := s
  simp only [Shp.drives] at *
  simp only [Shp.cells]
  go_enter Tryz.func212, Tryz.ntmps212
  go_wp2
  go_ret
  exact ⟨rfl, by repeat (first | exact Chg.refl _ _ | refine Chg.alloc ?_ _)⟩


theorem l5Drives_any (s : Shp) (hs : s.ok) (w : World) :
    Calls Tryz.prog 191 #[.agg s.cells] w fun e w' => e = .returned (.int .i64 (s.drives)) ∧ Chg [] w w' := by
  have h1 := hs.drives
  have h2 := hs.groups; have h3 := hs.data
  clear hs
  obtain ⟨g, c, d, p, r, q, b, u, t⟩ := s
  simp only [Shp.drives] at *
  simp only [Shp.cells]
  go_enter Tryz.func191, Tryz.ntmps191
  go_wp2
  go_ret
  exact ⟨rfl, by repeat (first | exact Chg.refl _ _ | refine Chg.alloc ?_ _)⟩


theorem rowLength_any (s : Shp) (hs : s.ok) (w : World) :
    Calls Tryz.prog 260 #[.agg s.cells] w fun e w' => e = .returned (.int .i64 (s.wide)) ∧ Chg [] w w' := by
  have h1 := hs.wide
  have h2 := hs.groups; have h3 := hs.data
  clear hs
  obtain ⟨g, c, d, p, r, q, b, u, t⟩ := s
  simp only [Shp.wide] at *
  simp only [Shp.cells]
  go_enter Tryz.func260, Tryz.ntmps260
  go_wp2
  go_ret
  exact ⟨rfl, by repeat (first | exact Chg.refl _ _ | refine Chg.alloc ?_ _)⟩


theorem isGroup_any (s : Shp) (hs : s.ok) (n : Int) (w : World) :
    Calls Tryz.prog 102 #[.agg s.cells, .int .i64 n] w fun e w' => e = .returned (.bool (inB n 0 (s.all - 1))) ∧ Chg [] w w' := by
  have h1 := hs.all; have h2 := hs.groups; have h3 := hs.rows; have h4 := hs.drives
  have HS := Lib.hid hs
  clear hs
  obtain ⟨g, c, d, p, r, q, b, u, t⟩ := s
  simp only [Shp.all, Shp.drives] at h1 h2 h3 h4 ⊢
  simp only [Shp.cells]
  go_enter Tryz.func102, Tryz.ntmps102
  go_wp2_with fail
  refine (all_any ⟨g, c, d, p, r, q, b, u, t⟩ HS.out _).mono ?_; rintro e w1 ⟨rfl, hc⟩
  have HC := Lib.hid ((Chg.refl [] w).alloc _ |>.trans0 hc); clear hc
  simp only [Shp.all]
  go_wp2_with fail
  refine (inside_any n 0 (g + c - 1) _).mono ?_; rintro e w2 ⟨rfl, rfl⟩
  go_wp2_with fail
  go_ret
  exact ⟨rfl, HC.out⟩


theorem isData_any (s : Shp) (hs : s.ok) (n : Int) (w : World) :
    Calls Tryz.prog 111 #[.agg s.cells, .int .i64 n] w fun e w' => e = .returned (.bool (inB n 0 (s.groups - 1))) ∧ Chg [] w w' := by
  have h1 := hs.all; have h2 := hs.groups; have h3 := hs.rows; have h4 := hs.drives
  have HS := Lib.hid hs
  clear hs
  obtain ⟨g, c, d, p, r, q, b, u, t⟩ := s
  simp only [Shp.all, Shp.drives] at h1 h2 h3 h4 ⊢
  simp only [Shp.cells]
  go_enter Tryz.func111, Tryz.ntmps111
  go_wp2_with fail
  refine (inside_any n 0 (g - 1) _).mono ?_; rintro e w2 ⟨rfl, rfl⟩
  go_wp2_with fail
  go_ret
  exact ⟨rfl, by repeat (first | exact Chg.refl _ _ | refine Chg.alloc ?_ _)⟩


theorem isRow_any (s : Shp) (hs : s.ok) (n : Int) (w : World) :
    Calls Tryz.prog 134 #[.agg s.cells, .int .i64 n] w fun e w' => e = .returned (.bool (inB n 0 (s.rows - 1))) ∧ Chg [] w w' := by
  have h1 := hs.all; have h2 := hs.groups; have h3 := hs.rows; have h4 := hs.drives
  have HS := Lib.hid hs
  clear hs
  obtain ⟨g, c, d, p, r, q, b, u, t⟩ := s
  simp only [Shp.all, Shp.drives] at h1 h2 h3 h4 ⊢
  simp only [Shp.cells]
  go_enter Tryz.func134, Tryz.ntmps134
  go_wp2_with fail
  refine (inside_any n 0 (r - 1) _).mono ?_; rintro e w2 ⟨rfl, rfl⟩
  go_wp2_with fail
  go_ret
  exact ⟨rfl, by repeat (first | exact Chg.refl _ _ | refine Chg.alloc ?_ _)⟩


theorem isDrive_any (s : Shp) (hs : s.ok) (n : Int) (w : World) :
    Calls Tryz.prog 133 #[.agg s.cells, .int .i64 n] w fun e w' => e = .returned (.bool (inB n 0 (s.drives - 1))) ∧ Chg [] w w' := by
  have h1 := hs.all; have h2 := hs.groups; have h3 := hs.rows; have h4 := hs.drives
  have HS := Lib.hid hs
  clear hs
  obtain ⟨g, c, d, p, r, q, b, u, t⟩ := s
  simp only [Shp.all, Shp.drives] at h1 h2 h3 h4 ⊢
  simp only [Shp.cells]
  go_enter Tryz.func133, Tryz.ntmps133
  go_wp2_with fail
  refine (drives_any ⟨g, c, d, p, r, q, b, u, t⟩ HS.out _).mono ?_; rintro e w1 ⟨rfl, hc⟩
  have HC := Lib.hid ((Chg.refl [] w).alloc _ |>.trans0 hc); clear hc
  simp only [Shp.drives]
  go_wp2_with fail
  refine (inside_any n 0 (d + p - 1) _).mono ?_; rintro e w2 ⟨rfl, rfl⟩
  go_wp2_with fail
  go_ret
  exact ⟨rfl, HC.out⟩


theorem sizeB_any (a : Option Addr) (la ca : Nat) (w : World) (_ : la ≤ 9223372036854775807) :
    Calls Tryz.prog 185 #[.slice a la ca] w fun e w' => e = .returned (.int .i64 (la : Int)) ∧ w = w' := by
  go_enter Tryz.func185, Tryz.ntmps185
  go_wp2
  go_ret
  exact ⟨rfl, rfl⟩


theorem sizeI_any (a : Option Addr) (la ca : Nat) (w : World) (_ : la ≤ 9223372036854775807) :
    Calls Tryz.prog 143 #[.slice a la ca] w fun e w' => e = .returned (.int .i64 (la : Int)) ∧ w = w' := by
  go_enter Tryz.func143, Tryz.ntmps143
  go_wp2
  go_ret
  exact ⟨rfl, rfl⟩


/-- nothing but a kind and a number -/
def EmptyR (x : Rec) : Prop := x.name = ⟨#[]⟩ ∧ x.length = 0 ∧ x.group = 0 ∧ x.row = 0 ∧ x.rows = [] ∧ x.data = [] ∧ x.delta = []
theorem len0 {α : Type} {xs : List α} {n : Nat} (h : n = xs.length) (h0 : n = 0) : xs = [] := List.eq_nil_of_length_eq_zero (by omega)
theorem len1 {α : Type} {xs : List α} {n : Nat} (h : n = xs.length) (h0 : ¬ n = 0) : ¬ xs = [] := fun e => by subst e; simp at h; exact h0 h
theorem str_eq0 {s : ByteArray} (h : ¬ s = ⟨#[]⟩) : (s.toList == ([] : List UInt8)) = false := by
  have := toList_ne h
  have e : (⟨#[]⟩ : ByteArray).toList = [] := by
    unfold ByteArray.toList
    unfold ByteArray.toList.loop
    rfl
  rw [e] at this
  exact this
set_option maxRecDepth 100000 in
set_option maxHeartbeats 2000000 in
theorem l5Empty_any (x : Rec) (cx : Array Value) (fx : List Nat) (w : World) (hx : recL.rep w cx.toList x fx) :
    Calls Tryz.prog 197 #[.agg cx] w fun e w' => e = .returned (.bool (pb (EmptyR x))) ∧ Chg [] w w' := by
  obtain ⟨a6, l6, c6, f6, a7, l7, c7, f7, a8, l8, c8, f8, ex, -, -, -, -, -, -, h6, h7, h8, -⟩ := recL_iff.1 hx
  clear hx
  obtain ⟨v0, v1, v2, v3, v4, v5, v6, v7, v8⟩ := x
  simp only at ex h6 h7 h8
  obtain rfl := Array.toList_inj.1 (ex.trans (List.toList_toArray).symm)
  clear ex
  have q6 := intL.sl_max h6; have q7 := byteL.sl_max h7; have q8 := byteL.sl_max h8
  have z6 := h6.1; have z7 := h7.1; have z8 := h8.1
  clear h6 h7 h8
  have HT := Lib.hid (fun h => pb_true h : EmptyR ⟨v0, v1, v2, v3, v4, v5, v6, v7, v8⟩ → pb (EmptyR ⟨v0, v1, v2, v3, v4, v5, v6, v7, v8⟩) = true)
  have HF := Lib.hid (fun h => pb_false h : ¬ EmptyR ⟨v0, v1, v2, v3, v4, v5, v6, v7, v8⟩ → pb (EmptyR ⟨v0, v1, v2, v3, v4, v5, v6, v7, v8⟩) = false)
  generalize pb (EmptyR ⟨v0, v1, v2, v3, v4, v5, v6, v7, v8⟩) = r at HT HF ⊢
  by_cases n2 : v2 = ⟨#[]⟩
  rotate_left
  · have HR := Lib.hid (HF.out (fun h => by obtain ⟨hh0, hh1, hh2, hh3, hh4, hh5, hh6⟩ := h; exact n2 hh0))
    have e2 : (v2.toList == ([] : List UInt8)) = false := str_eq0 n2
    clear n2 z6 z7 z8
    go_enter Tryz.func197, Tryz.ntmps197
    go_wp2
    go_ret
    exact ⟨ret_bool HR.out.symm, by repeat (first | exact Chg.refl _ _ | refine Chg.alloc ?_ _)⟩
  subst n2
  by_cases n3 : v3 = 0
  rotate_left
  · have HR := Lib.hid (HF.out (fun h => by obtain ⟨hh0, hh1, hh2, hh3, hh4, hh5, hh6⟩ := h; exact n3 hh1))
    have e3 : ((v3 : Int) == 0) = false := by simp [n3]
    clear n3 z6 z7 z8
    go_enter Tryz.func197, Tryz.ntmps197
    go_wp2
    go_ret
    exact ⟨ret_bool HR.out.symm, by repeat (first | exact Chg.refl _ _ | refine Chg.alloc ?_ _)⟩
  subst n3
  by_cases n4 : v4 = 0
  rotate_left
  · have HR := Lib.hid (HF.out (fun h => by obtain ⟨hh0, hh1, hh2, hh3, hh4, hh5, hh6⟩ := h; exact n4 hh2))
    have e4 : ((v4 : Int) == 0) = false := by simp [n4]
    clear n4 z6 z7 z8
    go_enter Tryz.func197, Tryz.ntmps197
    go_wp2
    go_ret
    exact ⟨ret_bool HR.out.symm, by repeat (first | exact Chg.refl _ _ | refine Chg.alloc ?_ _)⟩
  subst n4
  by_cases n5 : v5 = 0
  rotate_left
  · have HR := Lib.hid (HF.out (fun h => by obtain ⟨hh0, hh1, hh2, hh3, hh4, hh5, hh6⟩ := h; exact n5 hh3))
    have e5 : ((v5 : Int) == 0) = false := by simp [n5]
    clear n5 z6 z7 z8
    go_enter Tryz.func197, Tryz.ntmps197
    go_wp2
    go_ret
    exact ⟨ret_bool HR.out.symm, by repeat (first | exact Chg.refl _ _ | refine Chg.alloc ?_ _)⟩
  subst n5
  by_cases n6 : l6 = 0
  rotate_left
  · have HR := Lib.hid (HF.out (fun h => by obtain ⟨hh0, hh1, hh2, hh3, hh4, hh5, hh6⟩ := h; exact len1 z6 n6 hh4))
    have e6 : ((l6 : Int) == 0) = false := by simp; exact n6
    clear n6 z6 z7 z8
    go_enter Tryz.func197, Tryz.ntmps197
    go_wp2
    go_ret
    exact ⟨ret_bool HR.out.symm, by repeat (first | exact Chg.refl _ _ | refine Chg.alloc ?_ _)⟩
  by_cases n7 : l7 = 0
  rotate_left
  · have HR := Lib.hid (HF.out (fun h => by obtain ⟨hh0, hh1, hh2, hh3, hh4, hh5, hh6⟩ := h; exact len1 z7 n7 hh5))
    have e7 : ((l7 : Int) == 0) = false := by simp; exact n7
    clear n7 z6 z7 z8
    go_enter Tryz.func197, Tryz.ntmps197
    go_wp2
    go_ret
    exact ⟨ret_bool HR.out.symm, by repeat (first | exact Chg.refl _ _ | refine Chg.alloc ?_ _)⟩
  by_cases n8 : l8 = 0
  rotate_left
  · have HR := Lib.hid (HF.out (fun h => by obtain ⟨hh0, hh1, hh2, hh3, hh4, hh5, hh6⟩ := h; exact len1 z8 n8 hh6))
    have e8 : ((l8 : Int) == 0) = false := by simp; exact n8
    clear n8 z6 z7 z8
    go_enter Tryz.func197, Tryz.ntmps197
    go_wp2
    go_ret
    exact ⟨ret_bool HR.out.symm, by repeat (first | exact Chg.refl _ _ | refine Chg.alloc ?_ _)⟩
  have HR := Lib.hid (HT.out ⟨rfl, rfl, rfl, rfl, len0 z6 n6, len0 z7 n7, len0 z8 n8⟩)
  clear z6 z7 z8
  subst n6; subst n7; subst n8
  go_enter Tryz.func197, Tryz.ntmps197
  go_wp2
  go_ret
  exact ⟨ret_bool HR.out.symm, by repeat (first | exact Chg.refl _ _ | refine Chg.alloc ?_ _)⟩

end Go.Proofs.YtphmpimgbmedbaaGreat
