
/- The numbers of a shape; sizes; records with nothing in them. -/
import Derived.Test.YtcejdmggacjnoaaRows
import Derived.Test.YtcejdmggacjnoaaRfa
import Derived.Test.YtcejdmggacjnoaaNum
import Derived.Test.YtcejdmggacjnoaaSrc
import Derived.Deep.RegionHeld3
namespace Go.Proofs.Ytcejdmggacjnoaa
open Go.RowKit

def Shp.all (s : Shp) : Int := s.groups + s.column
def Shp.drives (s : Shp) : Int := s.data + s.spare
def Shp.wide (s : Shp) : Int := s.data * 4
theorem Shp.ok.all {s : Shp} (h : s.ok) : 1 ≤ s.all ∧ s.all ≤ 6 := by obtain ⟨h1, h2, _⟩ := h; unfold Shp.all; omega
theorem Shp.ok.rows {s : Shp} (h : s.ok) : 1 ≤ s.rows ∧ s.rows ≤ 6 := by obtain ⟨h1, h2, h3, h4, h5, _⟩ := h; exact h5
theorem Shp.ok.data {s : Shp} (h : s.ok) : 1 ≤ s.data ∧ s.data ≤ 3 := by obtain ⟨h1, h2, h3, h4, h5, _⟩ := h; exact h3
theorem Shp.ok.groups {s : Shp} (h : s.ok) : 1 ≤ s.groups ∧ s.groups ≤ 4 := by obtain ⟨h1, h2, h3, h4, h5, _⟩ := h; exact h1
theorem Shp.ok.drives {s : Shp} (h : s.ok) : 1 ≤ s.drives ∧ s.drives ≤ 5 := by obtain ⟨h1, h2, h3, h4, h5, _⟩ := h; unfold Shp.drives; omega
theorem Shp.ok.wide {s : Shp} (h : s.ok) : 4 ≤ s.wide ∧ s.wide ≤ 12 := by have := h.data; unfold Shp.wide; omega


theorem rowLength_any (s : Shp) (hs : s.ok) (w : World) :
    Calls Try.prog 34 #[.agg s.cells] w fun e w' => e = .returned (.int .i64 (s.wide)) ∧ Chg [] w w' := by
  have h1 := hs.wide
  have h2 := hs.groups; have h3 := hs.data
  clear hs
  obtain ⟨g, c, d, p, r, q, b, u, t⟩ := s
  simp only [Shp.wide] at *
  simp only [Shp.cells]
  go_enter Try.func34, Try.ntmps34
  go_wp2
  go_ret
  exact ⟨rfl, by repeat (first | exact Chg.refl _ _ | refine Chg.alloc ?_ _)⟩


theorem sizeB_any (a : Option Addr) (la ca : Nat) (w : World) (_ : la ≤ 9223372036854775807) :
    Calls Try.prog 21 #[.slice a la ca] w fun e w' => e = .returned (.int .i64 (la : Int)) ∧ w = w' := by
  go_enter Try.func21, Try.ntmps21
  go_wp2
  go_ret
  exact ⟨rfl, rfl⟩


/-- nothing but a kind and a number -/
def EmptyR (x : Rec) : Prop := x.name = ⟨#[]⟩ ∧ x.length = 0 ∧ x.group = 0 ∧ x.row = 0 ∧ x.rows = [] ∧ x.data = [] ∧ x.delta = []
theorem len0 {α : Type} {xs : List α} {n : Nat} (h : n = xs.length) (h0 : n = 0) : xs = [] := List.eq_nil_of_length_eq_zero (by omega)
theorem len1 {α : Type} {xs : List α} {n : Nat} (h : n = xs.length) (h0 : ¬ n = 0) : ¬ xs = [] := fun e => by subst e; simp at h; exact h0 h
theorem str_eq0 {s : ByteArray} (h : ¬ s = ⟨#[]⟩) : (s.toList == ([] : List UInt8)) = false := by
  have := toList_ne h
  have e : (⟨#[]⟩ : ByteArray).toList = [] := by
    unfold ByteArray.toList
    unfold ByteArray.toList.loop
    rfl
  rw [e] at this
  exact this
end Go.Proofs.Ytcejdmggacjnoaa
