/- Several texts in one. -/
import Derived.Test.YtphmpimgbmedbaaGreatRows
import Derived.Test.YtphmpimgbmedbaaGreatGad
import Derived.Deep.RegionHeld3
import Derived.Test.YtphmpimgbmedbaaGreatGac
import Derived.Test.YtphmpimgbmedbaaGreatGab
/- The numbers of a shape; sizes; records with nothing in them. -/
namespace Go.Proofs.YtphmpimgbmedbaaGreat
open Go.RowKit
open Go.Lib (hid)
def Shp.all (s : Shp) : Int := s.groups + s.column
def Shp.drives (s : Shp) : Int := s.data + s.spare
def Shp.wide (s : Shp) : Int := s.data * 4
theorem Shp.ok.all {s : Shp} (h : s.ok) : 1 ≤ s.all ∧ s.all ≤ 6 := by obtain ⟨h1, h2, _⟩ := h; unfold Shp.all; omega
theorem Shp.ok.rows {s : Shp} (h : s.ok) : 1 ≤ s.rows ∧ s.rows ≤ 6 := by obtain ⟨h1, h2, h3, h4, h5, _⟩ := h; exact h5
theorem Shp.ok.data {s : Shp} (h : s.ok) : 1 ≤ s.data ∧ s.data ≤ 3 := by obtain ⟨h1, h2, h3, h4, h5, _⟩ := h; exact h3
theorem Shp.ok.groups {s : Shp} (h : s.ok) : 1 ≤ s.groups ∧ s.groups ≤ 4 := by obtain ⟨h1, h2, h3, h4, h5, _⟩ := h; exact h1
theorem Shp.ok.drives {s : Shp} (h : s.ok) : 1 ≤ s.drives ∧ s.drives ≤ 5 := by obtain ⟨h1, h2, h3, h4, h5, _⟩ := h; unfold Shp.drives; omega
theorem Shp.ok.wide {s : Shp} (h : s.ok) : 4 ≤ s.wide ∧ s.wide ≤ 12 := by have := h.data; unfold Shp.wide; omega
theorem all_any (s : Shp) (hs : s.ok) (w : World) :
  Calls Tryz.prog 179 #[.agg s.cells] w fun e w' => e = .returned (.int .i64 (s.all)) ∧ Chg [] w w' := by
 have h1 := hs.all
 have h2 := hs.groups; have h3 := hs.data
 clear hs
 obtain ⟨g, c, d, p, r, q, b, u, t⟩ := s
 simp only [Shp.all] at *
 simp only [Shp.cells]
 go_enter Tryz.func179, Tryz.ntmps179
 go_wp2
 go_ret
 exact ⟨rfl, by repeat (first | exact Chg.refl _ _ | refine Chg.alloc ?_ _)⟩
theorem l5All_any (s : Shp) (hs : s.ok) (w : World) :
  Calls Tryz.prog 100 #[.agg s.cells] w fun e w' => e = .returned (.int .i64 (s.all)) ∧ Chg [] w w' := by
 have h1 := hs.all
 have h2 := hs.groups; have h3 := hs.data
 clear hs
 obtain ⟨g, c, d, p, r, q, b, u, t⟩ := s
 simp only [Shp.all] at *
 simp only [Shp.cells]
 go_enter Tryz.func100, Tryz.ntmps100
 go_wp2
 go_ret
 exact ⟨rfl, by repeat (first | exact Chg.refl _ _ | refine Chg.alloc ?_ _)⟩
theorem drives_any (s : Shp) (hs : s.ok) (w : World) :
  Calls Tryz.prog 212 #[.agg s.cells] w fun e w' => e = .returned (.int .i64 (s.drives)) ∧ Chg [] w w' := by
 have h1 := hs.drives
 have h2 := hs.groups; have h3 := hs.data
 clear hs
 obtain ⟨g, c, d, p, r, q, b, u, t⟩ := s
 simp only [Shp.drives] at *
 simp only [Shp.cells]
 go_enter Tryz.func212, Tryz.ntmps212
 go_wp2
 go_ret
 exact ⟨rfl, by repeat (first | exact Chg.refl _ _ | refine Chg.alloc ?_ _)⟩
theorem l5Drives_any (s : Shp) (hs : s.ok) (w : World) :
  Calls Tryz.prog 191 #[.agg s.cells] w fun e w' => e = .returned (.int .i64 (s.drives)) ∧ Chg [] w w' := by
 have h1 := hs.drives
 have h2 := hs.groups; have h3 := hs.data
 clear hs
 obtain ⟨g, c, d, p, r, q, b, u, t⟩ := s
 simp only [Shp.drives] at *
 simp only [Shp.cells]
 go_enter Tryz.func191, Tryz.ntmps191
 go_wp2
 go_ret
 exact ⟨rfl, by repeat (first | exact Chg.refl _ _ | refine Chg.alloc ?_ _)⟩
theorem rowLength_any (s : Shp) (hs : s.ok) (w : World) :
  Calls Tryz.prog 260 #[.agg s.cells] w fun e w' => e = .returned (.int .i64 (s.wide)) ∧ Chg [] w w' := by
 have h1 := hs.wide
 have h2 := hs.groups; have h3 := hs.data
 clear hs
 obtain ⟨g, c, d, p, r, q, b, u, t⟩ := s
 simp only [Shp.wide] at *
 simp only [Shp.cells]
 go_enter Tryz.func260, Tryz.ntmps260
 go_wp2
 go_ret
 exact ⟨rfl, by repeat (first | exact Chg.refl _ _ | refine Chg.alloc ?_ _)⟩
theorem isGroup_any (s : Shp) (hs : s.ok) (n : Int) (w : World) :
  Calls Tryz.prog 102 #[.agg s.cells, .int .i64 n] w fun e w' => e = .returned (.bool (inB n 0 (s.all - 1))) ∧ Chg [] w w' := by
 have h1 := hs.all; have h2 := hs.groups; have h3 := hs.rows; have h4 := hs.drives
 have HS := hid hs
 clear hs
 obtain ⟨g, c, d, p, r, q, b, u, t⟩ := s
 simp only [Shp.all, Shp.drives] at h1 h2 h3 h4 ⊢
 simp only [Shp.cells]
 go_enter Tryz.func102, Tryz.ntmps102
 go_wp2_with fail
 refine (all_any ⟨g, c, d, p, r, q, b, u, t⟩ HS.out _).mono ?_; rintro e w1 ⟨rfl, hc⟩
 have HC := hid ((Chg.refl [] w).alloc _ |>.trans0 hc); clear hc
 simp only [Shp.all]
 go_wp2_with fail
 refine (inside_any n 0 (g + c - 1) _).mono ?_; rintro e w2 ⟨rfl, rfl⟩
 go_wp2_with fail
 go_ret
 exact ⟨rfl, HC.out⟩
theorem isData_any (s : Shp) (hs : s.ok) (n : Int) (w : World) :
  Calls Tryz.prog 111 #[.agg s.cells, .int .i64 n] w fun e w' => e = .returned (.bool (inB n 0 (s.groups - 1))) ∧ Chg [] w w' := by
 have h1 := hs.all; have h2 := hs.groups; have h3 := hs.rows; have h4 := hs.drives
 have HS := hid hs
 clear hs
 obtain ⟨g, c, d, p, r, q, b, u, t⟩ := s
 simp only [Shp.all, Shp.drives] at h1 h2 h3 h4 ⊢
 simp only [Shp.cells]
 go_enter Tryz.func111, Tryz.ntmps111
 go_wp2_with fail
 refine (inside_any n 0 (g - 1) _).mono ?_; rintro e w2 ⟨rfl, rfl⟩
 go_wp2_with fail
 go_ret
 exact ⟨rfl, by repeat (first | exact Chg.refl _ _ | refine Chg.alloc ?_ _)⟩
theorem isRow_any (s : Shp) (hs : s.ok) (n : Int) (w : World) :
  Calls Tryz.prog 134 #[.agg s.cells, .int .i64 n] w fun e w' => e = .returned (.bool (inB n 0 (s.rows - 1))) ∧ Chg [] w w' := by
 have h1 := hs.all; have h2 := hs.groups; have h3 := hs.rows; have h4 := hs.drives
 have HS := hid hs
 clear hs
 obtain ⟨g, c, d, p, r, q, b, u, t⟩ := s
 simp only [Shp.all, Shp.drives] at h1 h2 h3 h4 ⊢
 simp only [Shp.cells]
 go_enter Tryz.func134, Tryz.ntmps134
 go_wp2_with fail
 refine (inside_any n 0 (r - 1) _).mono ?_; rintro e w2 ⟨rfl, rfl⟩
 go_wp2_with fail
 go_ret
 exact ⟨rfl, by repeat (first | exact Chg.refl _ _ | refine Chg.alloc ?_ _)⟩
theorem sizeB_any (a : Option Addr) (la ca : Nat) (w : World) (_ : la ≤ 9223372036854775807) :
  Calls Tryz.prog 185 #[.slice a la ca] w fun e w' => e = .returned (.int .i64 (la : Int)) ∧ w = w' := by
 go_enter Tryz.func185, Tryz.ntmps185
 go_wp2
 go_ret
 exact ⟨rfl, rfl⟩
theorem sizeI_any (a : Option Addr) (la ca : Nat) (w : World) (_ : la ≤ 9223372036854775807) :
  Calls Tryz.prog 143 #[.slice a la ca] w fun e w' => e = .returned (.int .i64 (la : Int)) ∧ w = w' := by
 go_enter Tryz.func143, Tryz.ntmps143
 go_wp2
 go_ret
 exact ⟨rfl, rfl⟩
def EmptyR (x : Rec) : Prop := x.name = ⟨#[]⟩ ∧ x.length = 0 ∧ x.group = 0 ∧ x.row = 0 ∧ x.rows = [] ∧ x.data = [] ∧ x.delta = []
theorem len0 {α : Type} {xs : List α} {n : Nat} (h : n = xs.length) (h0 : n = 0) : xs = [] := List.eq_nil_of_length_eq_zero (by omega)
theorem len1 {α : Type} {xs : List α} {n : Nat} (h : n = xs.length) (h0 : ¬ n = 0) : ¬ xs = [] := fun e => by subst e; simp at h; exact h0 h
theorem str_eq0 {s : ByteArray} (h : ¬ s = ⟨#[]⟩) : (s.toList == ([] : List UInt8)) = false := by
 have := toList_ne h
 have e : (⟨#[]⟩ : ByteArray).toList = [] := by
  unfold ByteArray.toList
  unfold ByteArray.toList.loop
  rfl
 rw [e] at this
 exact this
set_option maxRecDepth 100000 in
set_option maxHeartbeats 2000000 in
theorem l5Empty_any (x : Rec) (cx : Array Value) (fx : List Nat) (w : World) (hx : recL.rep w cx.toList x fx) :
  Calls Tryz.prog 197 #[.agg cx] w fun e w' => e = .returned (.bool (pb (EmptyR x))) ∧ Chg [] w w' := by
 obtain ⟨a6, l6, c6, f6, a7, l7, c7, f7, a8, l8, c8, f8, ex, -, -, -, -, -, -, h6, h7, h8, -⟩ := recL_iff.1 hx
 clear hx
 obtain ⟨v0, v1, v2, v3, v4, v5, v6, v7, v8⟩ := x
 simp only at ex h6 h7 h8
 obtain rfl := Array.toList_inj.1 (ex.trans (List.toList_toArray).symm)
 clear ex
 have q6 := intL.sl_max h6; have q7 := byteL.sl_max h7; have q8 := byteL.sl_max h8
 have z6 := h6.1; have z7 := h7.1; have z8 := h8.1
 clear h6 h7 h8
 have HT := hid (fun h => pb_true h : EmptyR ⟨v0, v1, v2, v3, v4, v5, v6, v7, v8⟩ → pb (EmptyR ⟨v0, v1, v2, v3, v4, v5, v6, v7, v8⟩) = true)
 have HF := hid (fun h => pb_false h : ¬ EmptyR ⟨v0, v1, v2, v3, v4, v5, v6, v7, v8⟩ → pb (EmptyR ⟨v0, v1, v2, v3, v4, v5, v6, v7, v8⟩) = false)
 generalize pb (EmptyR ⟨v0, v1, v2, v3, v4, v5, v6, v7, v8⟩) = r at HT HF ⊢
 by_cases n2 : v2 = ⟨#[]⟩
 rotate_left
 ·have HR := hid (HF.out (fun h => by obtain ⟨hh0, hh1, hh2, hh3, hh4, hh5, hh6⟩ := h; exact n2 hh0))
  have e2 : (v2.toList == ([] : List UInt8)) = false := str_eq0 n2
  clear n2 z6 z7 z8
  go_enter Tryz.func197, Tryz.ntmps197
  go_wp2
  go_ret
  exact ⟨ret_bool HR.out.symm, by repeat (first | exact Chg.refl _ _ | refine Chg.alloc ?_ _)⟩
 subst n2
 by_cases n3 : v3 = 0
 rotate_left
 ·have HR := hid (HF.out (fun h => by obtain ⟨hh0, hh1, hh2, hh3, hh4, hh5, hh6⟩ := h; exact n3 hh1))
  have e3 : ((v3 : Int) == 0) = false := by simp [n3]
  clear n3 z6 z7 z8
  go_enter Tryz.func197, Tryz.ntmps197
  go_wp2
  go_ret
  exact ⟨ret_bool HR.out.symm, by repeat (first | exact Chg.refl _ _ | refine Chg.alloc ?_ _)⟩
 subst n3
 by_cases n4 : v4 = 0
 rotate_left
 ·have HR := hid (HF.out (fun h => by obtain ⟨hh0, hh1, hh2, hh3, hh4, hh5, hh6⟩ := h; exact n4 hh2))
  have e4 : ((v4 : Int) == 0) = false := by simp [n4]
  clear n4 z6 z7 z8
  go_enter Tryz.func197, Tryz.ntmps197
  go_wp2
  go_ret
  exact ⟨ret_bool HR.out.symm, by repeat (first | exact Chg.refl _ _ | refine Chg.alloc ?_ _)⟩
 subst n4
 by_cases n5 : v5 = 0
 rotate_left
 ·have HR := hid (HF.out (fun h => by obtain ⟨hh0, hh1, hh2, hh3, hh4, hh5, hh6⟩ := h; exact n5 hh3))
  have e5 : ((v5 : Int) == 0) = false := by simp [n5]
  clear n5 z6 z7 z8
  go_enter Tryz.func197, Tryz.ntmps197
  go_wp2
  go_ret
  exact ⟨ret_bool HR.out.symm, by repeat (first | exact Chg.refl _ _ | refine Chg.alloc ?_ _)⟩
 subst n5
 by_cases n6 : l6 = 0
 rotate_left
 ·have HR := hid (HF.out (fun h => by obtain ⟨hh0, hh1, hh2, hh3, hh4, hh5, hh6⟩ := h; exact len1 z6 n6 hh4))
  have e6 : ((l6 : Int) == 0) = false := by simp; exact n6
  clear n6 z6 z7 z8
  go_enter Tryz.func197, Tryz.ntmps197
  go_wp2
  go_ret
  exact ⟨ret_bool HR.out.symm, by repeat (first | exact Chg.refl _ _ | refine Chg.alloc ?_ _)⟩
 by_cases n7 : l7 = 0
 rotate_left
 ·have HR := hid (HF.out (fun h => by obtain ⟨hh0, hh1, hh2, hh3, hh4, hh5, hh6⟩ := h; exact len1 z7 n7 hh5))
  have e7 : ((l7 : Int) == 0) = false := by simp; exact n7
  clear n7 z6 z7 z8
  go_enter Tryz.func197, Tryz.ntmps197
  go_wp2
  go_ret
  exact ⟨ret_bool HR.out.symm, by repeat (first | exact Chg.refl _ _ | refine Chg.alloc ?_ _)⟩
 by_cases n8 : l8 = 0
 rotate_left
 ·have HR := hid (HF.out (fun h => by obtain ⟨hh0, hh1, hh2, hh3, hh4, hh5, hh6⟩ := h; exact len1 z8 n8 hh6))
  have e8 : ((l8 : Int) == 0) = false := by simp; exact n8
  clear n8 z6 z7 z8
  go_enter Tryz.func197, Tryz.ntmps197
  go_wp2
  go_ret
  exact ⟨ret_bool HR.out.symm, by repeat (first | exact Chg.refl _ _ | refine Chg.alloc ?_ _)⟩
 have HR := hid (HT.out ⟨rfl, rfl, rfl, rfl, len0 z6 n6, len0 z7 n7, len0 z8 n8⟩)
 clear z6 z7 z8
 subst n6; subst n7; subst n8
 go_enter Tryz.func197, Tryz.ntmps197
 go_wp2
 go_ret
 exact ⟨ret_bool HR.out.symm, by repeat (first | exact Chg.refl _ _ | refine Chg.alloc ?_ _)⟩
end Go.Proofs.YtphmpimgbmedbaaGreat
/- What the functions over a world hand back: a code and a world, a new world. No function of the program in sight. -/
namespace Go.Proofs.YtphmpimgbmedbaaGreat
open Go.RowKit
open Go.Lib (hid)
/-! ### how much there is of it -/
section
variable {α : Type} {f : α → Int}
theorem sumI_filter_le (hf : ∀ x, 0 ≤ f x) (p : α → Bool) : ∀ (xs : List α), sumI f (xs.filter p) ≤ sumI f xs
 | [] => Int.le_refl _
 | x :: xs => by
  have := sumI_filter_le hf p xs
  have := hf x
  rw [List.filter_cons]
  split
  ·simp only [sumI]; omega
  ·simp only [sumI]; omega
end
end Go.Proofs.YtphmpimgbmedbaaGreat
/- What a law finds again of the marks that it has laid into a world. -/
namespace Go.Proofs.YtphmpimgbmedbaaGreat
open Go.RowKit
open Go.Lib (hid)
set_option maxRecDepth 100000 in
set_option maxHeartbeats 2000000 in
theorem heldRecS_any (a : Option Addr) (la ca : Nat) (xs : List Rec) (f : List Nat) (k : Int) (w : World) (ha : recL.sl w a la ca (markL cntRec mkRec xs k) f) (hk : 0 ≤ k) (hk2 : k + sumI cntRec xs ≤ 4611686018427387904) :
  Calls Tryz.prog 97 #[.slice a la ca, .int .i64 k] w fun e w' => e = .returned (.int .i64 (k + sumI cntRec xs)) ∧ Chg [] w w' := by
 have hm := recL.sl_max ha
 have hl := hid (show la = xs.length by rw [ha.1, markL_length])
 have HA := hid ha
 have HK := hid hk2
 clear ha hk2
 go_enter Tryz.func97, Tryz.ntmps97
 go_wp2_with fail
 go_loopw [1, 5] (fun u v wr => ∃ (i : Nat) (z : Int) (Wr : World), Wr = wr ∧ i ≤ la ∧ u = .int .i64 z ∧ Hid (z = k + sumI cntRec (xs.take i)) ∧ v = .int .i64 i ∧ Chg [] w wr) (fun _ v _ => la - (intOf v).toNat)
 case atStart => exact ⟨0, k, _, rfl, by omega, rfl, by show k = k + 0; omega, rfl, Chg.refl _ _⟩
 case round =>
  obtain ⟨i, z, wr, rfl, hi, rfl, HZ, rfl, hc⟩ := hrel
  have HC := hid hc
  by_cases hlt : i < la
  ·obtain ⟨y, b, off, a6, l6, c6, a7, l7, c7, a8, l8, c8, fy, HY, rfl, hc0, hc1, hc2, hc3, hc4, hc5, hc6, hc7, hc8, HYS⟩ := rec_at (recL.sl_ext HA.out hc) hlt
   have hlb : b < wr.heap.size := Lay.sl_lt _ (recL.sl_ext HA.out hc) _ HY.out.2.1
   obtain ⟨x, hx, hy⟩ := markL_at HY.out.1
   rw [← HZ.out] at hy
   subst hy
   have hz0 : 0 ≤ z := by rw [HZ.out]; have := sumI_nonneg cntRec_nonneg (xs.take i); omega
   have hz1 : z + cntRec x ≤ 4611686018427387904 := by
    have h1 := sumI_at cntRec_nonneg hx
    rw [HZ.out]; have := HK.out; omega
   have hcx : cntRec x = 6 + totIs x.rows + totBs x.data + totBs x.delta := rfl
   obtain ⟨a6', l6', c6', f6, a7', l7', c7', f7, a8', l8', c8', f8, ex, -, -, -, -, -, -, h6, h7, h8, -⟩ := recL_iff.1 HYS.out
   simp only [List.cons.injEq, Value.slice.injEq, and_true, true_and] at ex
   obtain ⟨⟨rfl, rfl, rfl⟩, ⟨rfl, rfl, rfl⟩, rfl, rfl, rfl⟩ := ex
   replace h6 : intL.sl wr a6 l6 c6 (markIL (z + 6) x.rows.length) f6 := h6
   replace h7 : byteL.sl wr a7 l7 c7 (markBL (z + 6 + totIs x.rows) x.data.length) f7 := h7
   replace h8 : byteL.sl wr a8 l8 c8 (markBL (z + 6 + totIs x.rows + totBs x.data) x.delta.length) f8 := h8
   have hL6 : l6 = x.rows.length := by rw [h6.1, markIL_length]
   have hL7 : l7 = x.data.length := by rw [h7.1, markBL_length]
   have hL8 : l8 = x.delta.length := by rw [h8.1, markBL_length]
   have t6 : totIs x.rows = (l6 : Int) := by unfold totIs; rw [hL6]
   have t7 : totBs x.data = (l7 : Int) := by unfold totBs; rw [hL7]
   have t8 : totBs x.delta = (l8 : Int) := by unfold totBs; rw [hL8]
   rw [← hL6] at h6; rw [t6, ← hL7] at h7; rw [t6, t7, ← hL8] at h8
   have HZ2 := hid (show z + 1 + 1 + 1 + 1 + 1 + 1 + (l6 : Int) + l7 + l8 = k + sumI cntRec (xs.take (i + 1)) by rw [sumI_take hx, HZ.out, hcx, t6, t7, t8]; omega)
   have hz2 : z + 6 + l6 + l7 + l8 ≤ 4611686018427387904 := by omega
   have H6 := hid h6; have H7 := hid h7; have H8 := hid h8
   have hd0 : wr.cell? ⟨b, off + i * 9, none⟩ = some (.int .i64 z) := hc0
   have hd1 : wr.cell? ⟨b, off + i * 9 + 1, none⟩ = some (.int .i64 (z + 1)) := hc1
   have hd2 : wr.cell? ⟨b, off + i * 9 + 2, none⟩ = some (.string (mtext (z + 2))) := hc2
   have hd3 : wr.cell? ⟨b, off + i * 9 + 3, none⟩ = some (.int .i64 (z + 3)) := hc3
   have hd4 : wr.cell? ⟨b, off + i * 9 + 4, none⟩ = some (.int .i64 (z + 4)) := hc4
   have hd5 : wr.cell? ⟨b, off + i * 9 + 5, none⟩ = some (.int .i64 (z + 5)) := hc5
   have HD2 := hid hd2
   have HD := hid (And.intro hd3 (And.intro hd4 (And.intro hd5 (And.intro hc6 (And.intro hc7 hc8)))))
   have n0 : ((z : Int) != z) = false := by simp
   have n1 : ((z + 1 : Int) != z + 1) = false := by simp
   have n3 : ((z + 3 : Int) != z + 1 + 1 + 1) = false := by rw [bne_eq_false_iff_eq]; omega
   have n4 : ((z + 4 : Int) != z + 1 + 1 + 1 + 1) = false := by rw [bne_eq_false_iff_eq]; omega
   have n5 : ((z + 5 : Int) != z + 1 + 1 + 1 + 1 + 1) = false := by rw [bne_eq_false_iff_eq]; omega
   have HT := hid (show mtext (z + 2) = mtext (z + 1 + 1) by rw [show z + 2 = z + 1 + 1 by omega])
   have hbz6 : 0 ≤ z + 1 + 1 + 1 + 1 + 1 + 1 := by omega
   clear hc hx hz1 hcx h6 h7 h8 HYS HY hc0 hc1 hc2 hc3 hc4 hc5 hd3 hd4 hd5 hc6 hc7 hc8 t6 t7 t8 hL6 hL7 hL8
   go_wp2_with fail
   obtain ⟨SS1, HSI1, HSO1⟩ := rg_cond (fun w' => w'.cell? ⟨b, off + i * 9 + 2, none⟩ = some (.string (mtext (z + 1 + 1))))
   have hS0 := HSI1.out wr.drew (by rw [← HT.out]; exact HD2.out)
   refine rg_start SS1 (by kernel_rfl) hS0 ?_
   refine rgT 0 hS0 ?_
   refine rgT 1 hS0 ?_
   refine rgT 2 hS0 ?_
   refine rgT 3 hS0 ?_
   refine rgL 4 hS0 HSO1 ?_
   refine rgT 5 hS0 ?_
   refine rg_call 6 rfl (by kernel_rfl) (fun K hK => ?_)
   go_simp
   go_at_call 174
   refine (markText_any (z + 1 + 1) (by omega) (by omega) _).mono ?_; rintro e w3 ⟨rfl, hc3⟩
   have HC3 := hid ((Chg.refl [] wr).drew.trans0 hc3); clear hc3
   go_wp2_with fail
   refine hK.out _ _ (HSI1.out _ (by rw [← HT.out]; exact cellKeep HC3.out HD2.out hlb)) (fun hS1 => ?_)
   clear hK K
   try simp only [Act.put, List.setIfInBounds_toArray, List.set_cons_zero, List.set_cons_succ]
   refine rgT 7 hS1 ?_
   refine wpAnyH_done (by kernel_rfl) ?_ _
   have hr3 := cellKeep HC3.out HD.out.1 hlb
   have hr4 := cellKeep HC3.out HD.out.2.1 hlb
   have hr5 := cellKeep HC3.out HD.out.2.2.1 hlb
   have hr6 := cellKeep HC3.out HD.out.2.2.2.1 hlb
   have HR78 := hid (And.intro (cellKeep HC3.out HD.out.2.2.2.2.1 hlb) (cellKeep HC3.out HD.out.2.2.2.2.2 hlb))
   have hlb3 := Nat.lt_of_lt_of_le hlb HC3.out.size
   have hne : ((mtext (z + 1 + 1)).toList != (mtext (z + 1 + 1)).toList) = false := by simp
   have HI6 := hid (heldI_any a6 l6 c6 f6 (z + 1 + 1 + 1 + 1 + 1 + 1) w3 (by rw [show z + 1 + 1 + 1 + 1 + 1 + 1 = z + 6 by omega]; exact intL.sl_ext H6.out HC3.out) (by omega) (by omega))
   have hn6 : ¬ (z + 1 + 1 + 1 + 1 + 1 + 1 + (l6 : Int) < 0) := by omega
   have hn7 : ¬ (z + 1 + 1 + 1 + 1 + 1 + 1 + (l6 : Int) + l7 < 0) := by omega
   have hn8 : ¬ (z + 1 + 1 + 1 + 1 + 1 + 1 + (l6 : Int) + l7 + l8 < 0) := by omega
   clear hd0 hd1 hd2
   go_wp2_with fail
   refine HI6.out.mono ?_; rintro e w4 ⟨rfl, hc4⟩
   have hr7 := cellKeep hc4 HR78.out.1 hlb3
   have HR8 := hid (cellKeep hc4 HR78.out.2 hlb3)
   have hlb4 := Nat.lt_of_lt_of_le hlb3 hc4.size
   have HC4 := hid (HC3.out.trans0 hc4); clear hc4 hr3 hr4 hr5 hr6
   have HI7 := hid (heldB_any a7 l7 c7 f7 (z + 1 + 1 + 1 + 1 + 1 + 1 + l6) w4 (by rw [show z + 1 + 1 + 1 + 1 + 1 + 1 + (l6 : Int) = z + 6 + l6 by omega]; exact byteL.sl_ext H7.out HC4.out) (by omega) (by omega))
   go_wp2_with fail
   refine HI7.out.mono ?_; rintro e w5 ⟨rfl, hc5⟩
   have hr8 := cellKeep hc5 HR8.out hlb4
   have hlb5 := Nat.lt_of_lt_of_le hlb4 hc5.size
   have HC5 := hid (HC4.out.trans0 hc5); clear hc5 hr7
   have HI8 := hid (heldB_any a8 l8 c8 f8 (z + 1 + 1 + 1 + 1 + 1 + 1 + l6 + l7) w5 (by rw [show z + 1 + 1 + 1 + 1 + 1 + 1 + (l6 : Int) + l7 = z + 6 + l6 + l7 by omega]; exact byteL.sl_ext H8.out HC5.out) (by omega) (by omega))
   go_wp2_with fail
   refine HI8.out.mono ?_; rintro e w6 ⟨rfl, hc6⟩
   have HC6 := hid (HC.out.trans0 (HC5.out.trans0 hc6)); clear hc6 hr8
   go_wp2_with fail
   go_roundw
   case rel => exact ⟨i + 1, _, _, rfl, by omega, rfl, HZ2, by go_num, HC6.out⟩
   case measure => simp [intOf]; omega
  ·obtain rfl : i = la := by omega
   have HR := hid (show z = k + sumI cntRec xs by rw [HZ.out, List.take_of_length_le (by have := hl.out; omega)])
   clear hc
   go_wp2_with fail
   go_ret
   exact ⟨ret_int HR.out, HC.out⟩
end Go.Proofs.YtphmpimgbmedbaaGreat
/- The laws' helpers at structures of the world: measured, compared. -/
namespace Go.Proofs.YtphmpimgbmedbaaGreat
open Go.RowKit
open Go.Lib (hid)
set_option maxRecDepth 100000 in
set_option maxHeartbeats 2000000 in
theorem szBlock_any (x : Blk) (cx : Array Value) (fx : List Nat) (k : Int) (w : World) (hx : blkL.rep w cx.toList x fx) (hk : 0 ≤ k) (hk2 : k ≤ 1048576) :
  Calls Tryz.prog 287 #[.agg cx, .int .i64 k] w (SzPost (totBlk x) k w) := by
 obtain ⟨a1, l1, c1, f1, ex, o0, h1, -⟩ := blkL_iff.1 hx
 clear hx
 obtain ⟨v0, v1⟩ := x
 simp only at ex o0 h1
 obtain rfl := Array.toList_inj.1 (ex.trans (List.toList_toArray).symm)
 clear ex o0
 have H1 := hid h1; clear h1
 obtain ⟨t1, ht1⟩ : ∃ t, t = totBs v1 := ⟨_, rfl⟩
 have n1 : 0 ≤ t1 := by rw [ht1]; exact totBs_nonneg _
 have HT1 := hid ht1
 have HT := hid (show totBlk ⟨v0, v1⟩ = t1 by rw [ht1]; unfold totBlk; rfl)
 clear ht1
 go_enter Tryz.func287, Tryz.ntmps287
 go_wp2_with fail
 refine (szByteS_any a1 l1 c1 v1 f1 (k) _ (byteL.sl_ext H1.out (by refine Chg.alloc ?_ _; exact Chg.refl _ _)) (by omega) (by omega)).mono ?_
 rintro e w1 ⟨rfl, hc⟩
 rw [← HT1.out]
 have hP := hc.keep0 (b := w.heap.size) (new_at (by simp) _)
 have cP := cellsOf hP; have lP := ltOf hP; have fP := freeOf hP; have HBP := hid hP; clear hP
 have HC1 := hid hc; clear hc
 by_cases m1 : k - t1 < 0
 ·rw [if_pos m1]
  go_wp2_with fail
  go_ret
  exact ⟨ret_int (by rw [HT.out, if_pos (by omega)]), by refine Chg.trans0 ?_ HC1.out; refine Chg.alloc ?_ _; exact Chg.refl _ _⟩
 rw [if_neg m1]
 go_wp2_with fail
 go_ret
 exact ⟨ret_int (by rw [HT.out, if_neg (by omega)] <;> omega), by refine Chg.trans0 ?_ HC1.out; refine Chg.alloc ?_ _; exact Chg.refl _ _⟩
set_option maxRecDepth 100000 in
set_option maxHeartbeats 2000000 in
theorem eqBlock_any (x : Blk) (cx cy : Array Value) (fx fy : List Nat) (w : World) (hx : blkL.rep w cx.toList x fx) (hy : blkL.rep w cy.toList x fy) :
  Calls Tryz.prog 291 #[.agg cx, .agg cy] w fun e w' => e = .returned (.bool true) ∧ Chg [] w w' := by
 obtain ⟨a1, l1, c1, f1, ex, o0, h1, -⟩ := blkL_iff.1 hx
 obtain ⟨b1, m1, d1, g1, ey, q0, j1, -⟩ := blkL_iff.1 hy
 clear hx hy
 obtain ⟨v0, v1⟩ := x
 simp only at ex ey h1 j1
 obtain rfl := Array.toList_inj.1 (ex.trans (List.toList_toArray).symm)
 obtain rfl := Array.toList_inj.1 (ey.trans (List.toList_toArray).symm)
 clear ex ey o0 q0
 obtain rfl : l1 = m1 := h1.1.trans j1.1.symm
 have H1 := hid h1; have J1 := hid j1; clear h1 j1
 have e0 : ((v0 : Int) != v0) = false := by simp
 go_enter Tryz.func291, Tryz.ntmps291
 go_wp2_with fail
 refine (eqB_any a1 b1 l1 c1 d1 v1 f1 g1 _ (byteL.sl_ext H1.out (by refine Chg.alloc ?_ _; refine Chg.alloc ?_ _; exact Chg.refl _ _)) (byteL.sl_ext J1.out (by refine Chg.alloc ?_ _; refine Chg.alloc ?_ _; exact Chg.refl _ _))).mono ?_
 rintro e w1 ⟨rfl, hc⟩
 have hP := hc.keep0 (b := w.heap.size) (keep_alloc (new_at (by simp) _) _)
 have hQ := hc.keep0 (b := w.heap.size + 1) (new_at (by simp) _)
 have cP := cellsOf hP; have lP := ltOf hP; have fP := freeOf hP; have HBP := hid hP; clear hP
 have cQ := cellsOf hQ; have lQ := ltOf hQ; have fQ := freeOf hQ; have HBQ := hid hQ; clear hQ
 have HC1 := hid hc; clear hc
 go_wp2_with fail
 go_ret
 exact ⟨rfl, by refine Chg.trans0 ?_ HC1.out; refine Chg.alloc ?_ _; refine Chg.alloc ?_ _; exact Chg.refl _ _⟩
set_option maxRecDepth 100000 in
set_option maxHeartbeats 1000000 in
theorem szBlockS_any (a : Option Addr) (la ca : Nat) (xs : List (Blk)) (f : List Nat) (k : Int) (w : World) (ha : blkL.sl w a la ca xs f) (hk : 0 ≤ k) (hk2 : k ≤ 1048576) :
  Calls Tryz.prog 263 #[.slice a la ca, .int .i64 k] w (SzPost (totL (totBlk) xs) k w) := by
 have hm := blkL.sl_max ha
 have HL := hid ha.1
 have HA := hid ha
 have HN := hid (sumI_nonneg (f := totBlk) totBlk_nonneg xs)
 have HT := hid (show totL (totBlk) xs = (la : Int) + sumI (totBlk) xs by unfold totL; rw [ha.1])
 clear ha
 by_cases hn : k - (la : Int) < 0
 ·go_enter Tryz.func263, Tryz.ntmps263
  go_wp2
  go_ret
  exact ⟨ret_int (by rw [HT.out, if_pos (by have := HN.out; omega)]), Chg.refl _ _⟩
 go_enter Tryz.func263, Tryz.ntmps263
 go_wp2
 go_loopw [1, 5] (fun u v wr => ∃ (j : Nat) (z : Int), j ≤ la ∧ u = .int .i64 z ∧ v = .int .i64 j ∧ Hid (z = k - la - sumI (totBlk) (xs.take j)) ∧ 0 ≤ z ∧ z ≤ 1048576 ∧ Hid (Chg [] w wr)) (fun _ v _ => la - (intOf v).toNat)
 case atStart => exact ⟨0, k - la, by omega, rfl, rfl, by show k - la = k - la - 0; omega, by omega, by omega, Chg.refl _ _⟩
 case round =>
  obtain ⟨j, z, hj, rfl, rfl, HZ, hz0, hz1, HC⟩ := hrel
  by_cases hlt : j < la
  ·obtain ⟨x, b, o, a1, l1, c1, fx, HX, rfl, hc0, hc1, HXS⟩ := block_at (blkL.sl_ext HA.out HC.out) hlt
   have HS := hid (sumI_at (f := totBlk) totBlk_nonneg HX.out.1)
   have HSN := hid (sumI_take (f := totBlk) HX.out.1)
   obtain ⟨t, ht⟩ : ∃ t, t = (totBlk) x := ⟨_, rfl⟩
   have ht0 : 0 ≤ t := by rw [ht]; exact totBlk_nonneg x
   have HTX := hid ht
   clear ht
   go_wp2_with fail
   refine (szBlock_any x #[.int .i64 x.stamp, .slice a1 l1 c1] fx z _ HXS.out hz0 hz1).mono ?_
   rintro e w1 ⟨rfl, hc⟩
   have HC2 := hid (HC.out.trans0 hc)
   clear hc
   rw [← HTX.out]
   by_cases hneg : z - t < 0
   ·rw [if_pos hneg]
    go_wp2_with fail
    go_ret
    exact ⟨ret_int (by rw [HT.out, if_pos (by have h1 := HS.out; have h2 := HZ.out; have h3 := HTX.out; omega)]), HC2.out⟩
   ·rw [if_neg hneg]
    have HN2 := hid (show z - t = k - la - sumI (totBlk) (xs.take (j + 1)) by rw [HSN.out, HZ.out, HTX.out]; omega)
    go_wp2_with fail
    go_roundw
    case rel => exact ⟨j + 1, z - t, by omega, rfl, by go_num, HN2, by omega, by omega, HC2⟩
    case measure => simp [intOf]; omega
  ·have hjl : j = la := by omega
   subst hjl
   have HR := hid (show (if k - totL (totBlk) xs < 0 then -1 else k - totL (totBlk) xs) = z by
    have h1 := HZ.out
    rw [List.take_of_length_le (by have := HL.out; omega)] at h1
    rw [HT.out, if_neg (by omega)]; omega)
   go_wp2
   go_ret
   exact ⟨ret_int HR.out.symm, HC.out⟩
set_option maxRecDepth 100000 in
set_option maxHeartbeats 1000000 in
theorem eqBlockS_any (a b : Option Addr) (la ca cb : Nat) (xs : List (Blk)) (f g : List Nat) (w : World) (ha : blkL.sl w a la ca xs f) (hb : blkL.sl w b la cb xs g) :
  Calls Tryz.prog 267 #[.slice a la ca, .slice b la cb] w fun e w' => e = .returned (.bool true) ∧ Chg [] w w' := by
 have hm := blkL.sl_max ha
 have hne : ((la : Int) != (la : Int)) = false := by simp
 have HA := hid ha
 have HB := hid hb
 clear ha hb
 go_enter Tryz.func267, Tryz.ntmps267
 go_wp2
 go_loopw [5] (fun i wr => ∃ k : Nat, k ≤ la ∧ i = .int .i64 k ∧ Chg [] w wr) (fun i _ => la - (intOf i).toNat)
 case atStart => exact ⟨0, by omega, rfl, Chg.refl _ _⟩
 case round =>
  obtain ⟨k, hk, rfl, hc⟩ := hrel
  rename_i wr
  by_cases hlt : k < la
  ·obtain ⟨x, b1, o1, a1, l1, c1, fx, HX, rfl, hx0, hx1, HXS⟩ := block_at (blkL.sl_ext HA.out hc) hlt
   obtain ⟨y, b2, o2, bb1, m1, d1, fy, HY, rfl, hy0, hy1, HYS⟩ := block_at (blkL.sl_ext HB.out hc) hlt
   have hxy : x = y := by have := HX.out.1.symm.trans HY.out.1; exact Option.some.inj this
   subst hxy
   have HC := hid hc
   have HE := hid (eqBlock_any x #[.int .i64 x.stamp, .slice a1 l1 c1] #[.int .i64 x.stamp, .slice bb1 m1 d1] fx fy wr.drew (Lay.keep _ HXS.out (fun _ _ => rfl)) (Lay.keep _ HYS.out (fun _ _ => rfl)))
   clear hc
   go_wp2_with fail
   go_region_law (go_simp; go_at_call 291; refine HE.out.mono ?_; rintro e w' ⟨rfl, hc⟩)
   all_goals
    have HC2 := hid (HC.out.drew.trans0 hc)
    clear hc
    go_wp2
    go_roundw
    case rel => exact ⟨k + 1, by omega, by go_num, HC2.out⟩
    case measure => simp [intOf]; omega
  ·have HC := hid hc
   clear hc
   go_wp2
   go_ret
   exact ⟨rfl, HC.out⟩
set_option maxRecDepth 100000 in
set_option maxHeartbeats 2000000 in
theorem szDrive_any (x : Drv) (cx : Array Value) (fx : List Nat) (k : Int) (w : World) (hx : drvL.rep w cx.toList x fx) (hk : 0 ≤ k) (hk2 : k ≤ 1048576) :
  Calls Tryz.prog 226 #[.agg cx, .int .i64 k] w (SzPost (totDrv x) k w) := by
 obtain ⟨a1, l1, c1, f1, ex, h1, -⟩ := drvL_iff.1 hx
 clear hx
 obtain ⟨v0, v1⟩ := x
 simp only at ex h1
 obtain rfl := Array.toList_inj.1 (ex.trans (List.toList_toArray).symm)
 clear ex
 have H1 := hid h1; clear h1
 obtain ⟨t1, ht1⟩ : ∃ t, t = totL totBlk v1 := ⟨_, rfl⟩
 have n1 : 0 ≤ t1 := by rw [ht1]; exact totL_nonneg totBlk_nonneg _
 have HT1 := hid ht1
 have HT := hid (show totDrv ⟨v0, v1⟩ = t1 by rw [ht1]; unfold totDrv; rfl)
 clear ht1
 go_enter Tryz.func226, Tryz.ntmps226
 go_wp2_with fail
 refine (szBlockS_any a1 l1 c1 v1 f1 (k) _ (blkL.sl_ext H1.out (by refine Chg.alloc ?_ _; exact Chg.refl _ _)) (by omega) (by omega)).mono ?_
 rintro e w1 ⟨rfl, hc⟩
 rw [← HT1.out]
 have hP := hc.keep0 (b := w.heap.size) (new_at (by simp) _)
 have cP := cellsOf hP; have lP := ltOf hP; have fP := freeOf hP; have HBP := hid hP; clear hP
 have HC1 := hid hc; clear hc
 by_cases m1 : k - t1 < 0
 ·rw [if_pos m1]
  go_wp2_with fail
  go_ret
  exact ⟨ret_int (by rw [HT.out, if_pos (by omega)]), by refine Chg.trans0 ?_ HC1.out; refine Chg.alloc ?_ _; exact Chg.refl _ _⟩
 rw [if_neg m1]
 go_wp2_with fail
 go_ret
 exact ⟨ret_int (by rw [HT.out, if_neg (by omega)] <;> omega), by refine Chg.trans0 ?_ HC1.out; refine Chg.alloc ?_ _; exact Chg.refl _ _⟩
set_option maxRecDepth 100000 in
set_option maxHeartbeats 2000000 in
theorem eqDrive_any (x : Drv) (cx cy : Array Value) (fx fy : List Nat) (w : World) (hx : drvL.rep w cx.toList x fx) (hy : drvL.rep w cy.toList x fy) :
  Calls Tryz.prog 231 #[.agg cx, .agg cy] w fun e w' => e = .returned (.bool true) ∧ Chg [] w w' := by
 obtain ⟨a1, l1, c1, f1, ex, h1, -⟩ := drvL_iff.1 hx
 obtain ⟨b1, m1, d1, g1, ey, j1, -⟩ := drvL_iff.1 hy
 clear hx hy
 obtain ⟨v0, v1⟩ := x
 simp only at ex ey h1 j1
 obtain rfl := Array.toList_inj.1 (ex.trans (List.toList_toArray).symm)
 obtain rfl := Array.toList_inj.1 (ey.trans (List.toList_toArray).symm)
 clear ex ey
 obtain rfl : l1 = m1 := h1.1.trans j1.1.symm
 have H1 := hid h1; have J1 := hid j1; clear h1 j1
 have e0 : (v0 != v0) = false := by simp
 go_enter Tryz.func231, Tryz.ntmps231
 go_wp2_with fail
 refine (eqBlockS_any a1 b1 l1 c1 d1 v1 f1 g1 _ (blkL.sl_ext H1.out (by refine Chg.alloc ?_ _; refine Chg.alloc ?_ _; exact Chg.refl _ _)) (blkL.sl_ext J1.out (by refine Chg.alloc ?_ _; refine Chg.alloc ?_ _; exact Chg.refl _ _))).mono ?_
 rintro e w1 ⟨rfl, hc⟩
 have hP := hc.keep0 (b := w.heap.size) (keep_alloc (new_at (by simp) _) _)
 have hQ := hc.keep0 (b := w.heap.size + 1) (new_at (by simp) _)
 have cP := cellsOf hP; have lP := ltOf hP; have fP := freeOf hP; have HBP := hid hP; clear hP
 have cQ := cellsOf hQ; have lQ := ltOf hQ; have fQ := freeOf hQ; have HBQ := hid hQ; clear hQ
 have HC1 := hid hc; clear hc
 go_wp2_with fail
 go_ret
 exact ⟨rfl, by refine Chg.trans0 ?_ HC1.out; refine Chg.alloc ?_ _; refine Chg.alloc ?_ _; exact Chg.refl _ _⟩
set_option maxRecDepth 100000 in
set_option maxHeartbeats 1000000 in
theorem szDriveS_any (a : Option Addr) (la ca : Nat) (xs : List (Drv)) (f : List Nat) (k : Int) (w : World) (ha : drvL.sl w a la ca xs f) (hk : 0 ≤ k) (hk2 : k ≤ 1048576) :
  Calls Tryz.prog 150 #[.slice a la ca, .int .i64 k] w (SzPost (totL (totDrv) xs) k w) := by
 have hm := drvL.sl_max ha
 have HL := hid ha.1
 have HA := hid ha
 have HN := hid (sumI_nonneg (f := totDrv) totDrv_nonneg xs)
 have HT := hid (show totL (totDrv) xs = (la : Int) + sumI (totDrv) xs by unfold totL; rw [ha.1])
 clear ha
 by_cases hn : k - (la : Int) < 0
 ·go_enter Tryz.func150, Tryz.ntmps150
  go_wp2
  go_ret
  exact ⟨ret_int (by rw [HT.out, if_pos (by have := HN.out; omega)]), Chg.refl _ _⟩
 go_enter Tryz.func150, Tryz.ntmps150
 go_wp2
 go_loopw [1, 5] (fun u v wr => ∃ (j : Nat) (z : Int), j ≤ la ∧ u = .int .i64 z ∧ v = .int .i64 j ∧ Hid (z = k - la - sumI (totDrv) (xs.take j)) ∧ 0 ≤ z ∧ z ≤ 1048576 ∧ Hid (Chg [] w wr)) (fun _ v _ => la - (intOf v).toNat)
 case atStart => exact ⟨0, k - la, by omega, rfl, rfl, by show k - la = k - la - 0; omega, by omega, by omega, Chg.refl _ _⟩
 case round =>
  obtain ⟨j, z, hj, rfl, rfl, HZ, hz0, hz1, HC⟩ := hrel
  by_cases hlt : j < la
  ·obtain ⟨x, b, o, a1, l1, c1, fx, HX, rfl, hc0, hc1, HXS⟩ := drive_at (drvL.sl_ext HA.out HC.out) hlt
   have HS := hid (sumI_at (f := totDrv) totDrv_nonneg HX.out.1)
   have HSN := hid (sumI_take (f := totDrv) HX.out.1)
   obtain ⟨t, ht⟩ : ∃ t, t = (totDrv) x := ⟨_, rfl⟩
   have ht0 : 0 ≤ t := by rw [ht]; exact totDrv_nonneg x
   have HTX := hid ht
   clear ht
   go_wp2_with fail
   refine (szDrive_any x #[.bool x.wiped, .slice a1 l1 c1] fx z _ HXS.out hz0 hz1).mono ?_
   rintro e w1 ⟨rfl, hc⟩
   have HC2 := hid (HC.out.trans0 hc)
   clear hc
   rw [← HTX.out]
   by_cases hneg : z - t < 0
   ·rw [if_pos hneg]
    go_wp2_with fail
    go_ret
    exact ⟨ret_int (by rw [HT.out, if_pos (by have h1 := HS.out; have h2 := HZ.out; have h3 := HTX.out; omega)]), HC2.out⟩
   ·rw [if_neg hneg]
    have HN2 := hid (show z - t = k - la - sumI (totDrv) (xs.take (j + 1)) by rw [HSN.out, HZ.out, HTX.out]; omega)
    go_wp2_with fail
    go_roundw
    case rel => exact ⟨j + 1, z - t, by omega, rfl, by go_num, HN2, by omega, by omega, HC2⟩
    case measure => simp [intOf]; omega
  ·have hjl : j = la := by omega
   subst hjl
   have HR := hid (show (if k - totL (totDrv) xs < 0 then -1 else k - totL (totDrv) xs) = z by
    have h1 := HZ.out
    rw [List.take_of_length_le (by have := HL.out; omega)] at h1
    rw [HT.out, if_neg (by omega)]; omega)
   go_wp2
   go_ret
   exact ⟨ret_int HR.out.symm, HC.out⟩
set_option maxRecDepth 100000 in
set_option maxHeartbeats 1000000 in
theorem eqDriveS_any (a b : Option Addr) (la ca cb : Nat) (xs : List (Drv)) (f g : List Nat) (w : World) (ha : drvL.sl w a la ca xs f) (hb : drvL.sl w b la cb xs g) :
  Calls Tryz.prog 160 #[.slice a la ca, .slice b la cb] w fun e w' => e = .returned (.bool true) ∧ Chg [] w w' := by
 have hm := drvL.sl_max ha
 have hne : ((la : Int) != (la : Int)) = false := by simp
 have HA := hid ha
 have HB := hid hb
 clear ha hb
 go_enter Tryz.func160, Tryz.ntmps160
 go_wp2
 go_loopw [5] (fun i wr => ∃ k : Nat, k ≤ la ∧ i = .int .i64 k ∧ Chg [] w wr) (fun i _ => la - (intOf i).toNat)
 case atStart => exact ⟨0, by omega, rfl, Chg.refl _ _⟩
 case round =>
  obtain ⟨k, hk, rfl, hc⟩ := hrel
  rename_i wr
  by_cases hlt : k < la
  ·obtain ⟨x, b1, o1, a1, l1, c1, fx, HX, rfl, hx0, hx1, HXS⟩ := drive_at (drvL.sl_ext HA.out hc) hlt
   obtain ⟨y, b2, o2, bb1, m1, d1, fy, HY, rfl, hy0, hy1, HYS⟩ := drive_at (drvL.sl_ext HB.out hc) hlt
   have hxy : x = y := by have := HX.out.1.symm.trans HY.out.1; exact Option.some.inj this
   subst hxy
   have HC := hid hc
   have HE := hid (eqDrive_any x #[.bool x.wiped, .slice a1 l1 c1] #[.bool x.wiped, .slice bb1 m1 d1] fx fy wr.drew (Lay.keep _ HXS.out (fun _ _ => rfl)) (Lay.keep _ HYS.out (fun _ _ => rfl)))
   clear hc
   go_wp2_with fail
   go_region_law (go_simp; go_at_call 231; refine HE.out.mono ?_; rintro e w' ⟨rfl, hc⟩)
   all_goals
    have HC2 := hid (HC.out.drew.trans0 hc)
    clear hc
    go_wp2
    go_roundw
    case rel => exact ⟨k + 1, by omega, by go_num, HC2.out⟩
    case measure => simp [intOf]; omega
  ·have HC := hid hc
   clear hc
   go_wp2
   go_ret
   exact ⟨rfl, HC.out⟩
set_option maxRecDepth 100000 in
set_option maxHeartbeats 1000000 in
theorem szDriveSS_any (a : Option Addr) (la ca : Nat) (xs : List (List Drv)) (f : List Nat) (k : Int) (w : World) (ha : drvL.slice.sl w a la ca xs f) (hk : 0 ≤ k) (hk2 : k ≤ 1048576) :
  Calls Tryz.prog 66 #[.slice a la ca, .int .i64 k] w (SzPost (totL (totL totDrv) xs) k w) := by
 have hm := drvL.slice.sl_max ha
 have HL := hid ha.1
 have HA := hid ha
 have HN := hid (sumI_nonneg (f := totL totDrv) (totL_nonneg totDrv_nonneg) xs)
 have HT := hid (show totL (totL totDrv) xs = (la : Int) + sumI (totL totDrv) xs by unfold totL; rw [ha.1])
 clear ha
 by_cases hn : k - (la : Int) < 0
 ·go_enter Tryz.func66, Tryz.ntmps66
  go_wp2
  go_ret
  exact ⟨ret_int (by rw [HT.out, if_pos (by have := HN.out; omega)]), Chg.refl _ _⟩
 go_enter Tryz.func66, Tryz.ntmps66
 go_wp2
 go_loopw [1, 5] (fun u v wr => ∃ (j : Nat) (z : Int), j ≤ la ∧ u = .int .i64 z ∧ v = .int .i64 j ∧ Hid (z = k - la - sumI (totL totDrv) (xs.take j)) ∧ 0 ≤ z ∧ z ≤ 1048576 ∧ Hid (Chg [] w wr)) (fun _ v _ => la - (intOf v).toNat)
 case atStart => exact ⟨0, k - la, by omega, rfl, rfl, by show k - la = k - la - 0; omega, by omega, by omega, Chg.refl _ _⟩
 case round =>
  obtain ⟨j, z, hj, rfl, rfl, HZ, hz0, hz1, HC⟩ := hrel
  by_cases hlt : j < la
  ·obtain ⟨x, b, o, A, lx, C, fx, HX, rfl, hcx, HXS⟩ := slc_at (drvL.slice.sl_ext HA.out HC.out) hlt
   have HS := hid (sumI_at (f := totL totDrv) (totL_nonneg totDrv_nonneg) HX.out.1)
   have HSN := hid (sumI_take (f := totL totDrv) HX.out.1)
   obtain ⟨t, ht⟩ : ∃ t, t = (totL totDrv) x := ⟨_, rfl⟩
   have ht0 : 0 ≤ t := by rw [ht]; exact (totL_nonneg totDrv_nonneg) x
   have HTX := hid ht
   clear ht
   go_wp2_with fail
   refine (szDriveS_any A lx C x fx z _ HXS.out hz0 hz1).mono ?_
   rintro e w1 ⟨rfl, hc⟩
   have HC2 := hid (HC.out.trans0 hc)
   clear hc
   rw [← HTX.out]
   by_cases hneg : z - t < 0
   ·rw [if_pos hneg]
    go_wp2_with fail
    go_ret
    exact ⟨ret_int (by rw [HT.out, if_pos (by have h1 := HS.out; have h2 := HZ.out; have h3 := HTX.out; omega)]), HC2.out⟩
   ·rw [if_neg hneg]
    have HN2 := hid (show z - t = k - la - sumI (totL totDrv) (xs.take (j + 1)) by rw [HSN.out, HZ.out, HTX.out]; omega)
    go_wp2_with fail
    go_roundw
    case rel => exact ⟨j + 1, z - t, by omega, rfl, by go_num, HN2, by omega, by omega, HC2⟩
    case measure => simp [intOf]; omega
  ·have hjl : j = la := by omega
   subst hjl
   have HR := hid (show (if k - totL (totL totDrv) xs < 0 then -1 else k - totL (totL totDrv) xs) = z by
    have h1 := HZ.out
    rw [List.take_of_length_le (by have := HL.out; omega)] at h1
    rw [HT.out, if_neg (by omega)]; omega)
   go_wp2
   go_ret
   exact ⟨ret_int HR.out.symm, HC.out⟩
set_option maxRecDepth 100000 in
set_option maxHeartbeats 1000000 in
theorem eqDriveSS_any (a b : Option Addr) (la ca cb : Nat) (xs : List (List Drv)) (f g : List Nat) (w : World) (ha : drvL.slice.sl w a la ca xs f) (hb : drvL.slice.sl w b la cb xs g) :
  Calls Tryz.prog 84 #[.slice a la ca, .slice b la cb] w fun e w' => e = .returned (.bool true) ∧ Chg [] w w' := by
 have hm := drvL.slice.sl_max ha
 have hne : ((la : Int) != (la : Int)) = false := by simp
 have HA := hid ha
 have HB := hid hb
 clear ha hb
 go_enter Tryz.func84, Tryz.ntmps84
 go_wp2
 go_loopw [5] (fun i wr => ∃ k : Nat, k ≤ la ∧ i = .int .i64 k ∧ Chg [] w wr) (fun i _ => la - (intOf i).toNat)
 case atStart => exact ⟨0, by omega, rfl, Chg.refl _ _⟩
 case round =>
  obtain ⟨k, hk, rfl, hc⟩ := hrel
  rename_i wr
  by_cases hlt : k < la
  ·obtain ⟨x, b1, o1, A, lx, C, fx, HX, rfl, hcx, HXS⟩ := slc_at (drvL.slice.sl_ext HA.out hc) hlt
   obtain ⟨y, b2, o2, B, ly, D, fy, HY, rfl, hcy, HYS⟩ := slc_at (drvL.slice.sl_ext HB.out hc) hlt
   have hxy : x = y := by have := HX.out.1.symm.trans HY.out.1; exact Option.some.inj this
   subst hxy
   obtain rfl : lx = ly := HXS.out.1.trans HYS.out.1.symm
   have HC := hid hc
   have HE := hid (eqDriveS_any A B lx C D x fx fy wr.drew (Lay.sl_keep _ HXS.out (fun _ _ => rfl)) (Lay.sl_keep _ HYS.out (fun _ _ => rfl)))
   clear hc
   go_wp2_with fail
   go_region_law (go_simp; go_at_call 160; refine HE.out.mono ?_; rintro e w' ⟨rfl, hc⟩)
   all_goals
    have HC2 := hid (HC.out.drew.trans0 hc)
    clear hc
    go_wp2
    go_roundw
    case rel => exact ⟨k + 1, by omega, by go_num, HC2.out⟩
    case measure => simp [intOf]; omega
  ·have HC := hid hc
   clear hc
   go_wp2
   go_ret
   exact ⟨rfl, HC.out⟩
set_option maxRecDepth 100000 in
set_option maxHeartbeats 1000000 in
theorem szRecS_any (a : Option Addr) (la ca : Nat) (xs : List (Rec)) (f : List Nat) (k : Int) (w : World) (ha : recL.sl w a la ca xs f) (hk : 0 ≤ k) (hk2 : k ≤ 1048576) :
  Calls Tryz.prog 227 #[.slice a la ca, .int .i64 k] w (SzPost (totL (totRec) xs) k w) := by
 have hm := recL.sl_max ha
 have HL := hid ha.1
 have HA := hid ha
 have HN := hid (sumI_nonneg (f := totRec) totRec_nonneg xs)
 have HT := hid (show totL (totRec) xs = (la : Int) + sumI (totRec) xs by unfold totL; rw [ha.1])
 clear ha
 by_cases hn : k - (la : Int) < 0
 ·go_enter Tryz.func227, Tryz.ntmps227
  go_wp2
  go_ret
  exact ⟨ret_int (by rw [HT.out, if_pos (by have := HN.out; omega)]), Chg.refl _ _⟩
 go_enter Tryz.func227, Tryz.ntmps227
 go_wp2
 go_loopw [1, 5] (fun u v wr => ∃ (j : Nat) (z : Int), j ≤ la ∧ u = .int .i64 z ∧ v = .int .i64 j ∧ Hid (z = k - la - sumI (totRec) (xs.take j)) ∧ 0 ≤ z ∧ z ≤ 1048576 ∧ Hid (Chg [] w wr)) (fun _ v _ => la - (intOf v).toNat)
 case atStart => exact ⟨0, k - la, by omega, rfl, rfl, by show k - la = k - la - 0; omega, by omega, by omega, Chg.refl _ _⟩
 case round =>
  obtain ⟨j, z, hj, rfl, rfl, HZ, hz0, hz1, HC⟩ := hrel
  by_cases hlt : j < la
  ·obtain ⟨x, b, o, a6, l6, c6, a7, l7, c7, a8, l8, c8, fx, HX, rfl, hc0, hc1, hc2, hc3, hc4, hc5, hc6, hc7, hc8, HXS⟩ := rec_at (recL.sl_ext HA.out HC.out) hlt
   have HS := hid (sumI_at (f := totRec) totRec_nonneg HX.out.1)
   have HSN := hid (sumI_take (f := totRec) HX.out.1)
   obtain ⟨t, ht⟩ : ∃ t, t = (totRec) x := ⟨_, rfl⟩
   have ht0 : 0 ≤ t := by rw [ht]; exact totRec_nonneg x
   have HTX := hid ht
   clear ht
   go_wp2_with fail
   refine (szRec_any x #[.int .i64 x.kind, .int .i64 x.seq, .string x.name, .int .i64 x.length, .int .i64 x.group, .int .i64 x.row, .slice a6 l6 c6, .slice a7 l7 c7, .slice a8 l8 c8] fx z _ HXS.out hz0 hz1).mono ?_
   rintro e w1 ⟨rfl, hc⟩
   have HC2 := hid (HC.out.trans0 hc)
   clear hc
   rw [← HTX.out]
   by_cases hneg : z - t < 0
   ·rw [if_pos hneg]
    go_wp2_with fail
    go_ret
    exact ⟨ret_int (by rw [HT.out, if_pos (by have h1 := HS.out; have h2 := HZ.out; have h3 := HTX.out; omega)]), HC2.out⟩
   ·rw [if_neg hneg]
    have HN2 := hid (show z - t = k - la - sumI (totRec) (xs.take (j + 1)) by rw [HSN.out, HZ.out, HTX.out]; omega)
    go_wp2_with fail
    go_roundw
    case rel => exact ⟨j + 1, z - t, by omega, rfl, by go_num, HN2, by omega, by omega, HC2⟩
    case measure => simp [intOf]; omega
  ·have hjl : j = la := by omega
   subst hjl
   have HR := hid (show (if k - totL (totRec) xs < 0 then -1 else k - totL (totRec) xs) = z by
    have h1 := HZ.out
    rw [List.take_of_length_le (by have := HL.out; omega)] at h1
    rw [HT.out, if_neg (by omega)]; omega)
   go_wp2
   go_ret
   exact ⟨ret_int HR.out.symm, HC.out⟩
set_option maxRecDepth 100000 in
set_option maxHeartbeats 1000000 in
theorem eqRecS_any (a b : Option Addr) (la ca cb : Nat) (xs : List (Rec)) (f g : List Nat) (w : World) (ha : recL.sl w a la ca xs f) (hb : recL.sl w b la cb xs g) :
  Calls Tryz.prog 95 #[.slice a la ca, .slice b la cb] w fun e w' => e = .returned (.bool true) ∧ Chg [] w w' := by
 have hm := recL.sl_max ha
 have hne : ((la : Int) != (la : Int)) = false := by simp
 have HA := hid ha
 have HB := hid hb
 clear ha hb
 go_enter Tryz.func95, Tryz.ntmps95
 go_wp2
 go_loopw [5] (fun i wr => ∃ k : Nat, k ≤ la ∧ i = .int .i64 k ∧ Chg [] w wr) (fun i _ => la - (intOf i).toNat)
 case atStart => exact ⟨0, by omega, rfl, Chg.refl _ _⟩
 case round =>
  obtain ⟨k, hk, rfl, hc⟩ := hrel
  rename_i wr
  by_cases hlt : k < la
  ·obtain ⟨x, b1, o1, a6, l6, c6, a7, l7, c7, a8, l8, c8, fx, HX, rfl, hx0, hx1, hx2, hx3, hx4, hx5, hx6, hx7, hx8, HXS⟩ := rec_at (recL.sl_ext HA.out hc) hlt
   obtain ⟨y, b2, o2, bb6, m6, d6, bb7, m7, d7, bb8, m8, d8, fy, HY, rfl, hy0, hy1, hy2, hy3, hy4, hy5, hy6, hy7, hy8, HYS⟩ := rec_at (recL.sl_ext HB.out hc) hlt
   have hxy : x = y := by have := HX.out.1.symm.trans HY.out.1; exact Option.some.inj this
   subst hxy
   have HC := hid hc
   have HE := hid (eqRec_any x #[.int .i64 x.kind, .int .i64 x.seq, .string x.name, .int .i64 x.length, .int .i64 x.group, .int .i64 x.row, .slice a6 l6 c6, .slice a7 l7 c7, .slice a8 l8 c8] #[.int .i64 x.kind, .int .i64 x.seq, .string x.name, .int .i64 x.length, .int .i64 x.group, .int .i64 x.row, .slice bb6 m6 d6, .slice bb7 m7 d7, .slice bb8 m8 d8] fx fy wr.drew (Lay.keep _ HXS.out (fun _ _ => rfl)) (Lay.keep _ HYS.out (fun _ _ => rfl)))
   clear hc
   go_wp2_with fail
   go_region_law (go_simp; go_at_call 173; refine HE.out.mono ?_; rintro e w' ⟨rfl, hc⟩)
   all_goals
    have HC2 := hid (HC.out.drew.trans0 hc)
    clear hc
    go_wp2
    go_roundw
    case rel => exact ⟨k + 1, by omega, by go_num, HC2.out⟩
    case measure => simp [intOf]; omega
  ·have HC := hid hc
   clear hc
   go_wp2
   go_ret
   exact ⟨rfl, HC.out⟩
set_option maxRecDepth 100000 in
set_option maxHeartbeats 2000000 in
theorem szTape_any (x : Tap) (cx : Array Value) (fx : List Nat) (k : Int) (w : World) (hx : tapL.rep w cx.toList x fx) (hk : 0 ≤ k) (hk2 : k ≤ 1048576) :
  Calls Tryz.prog 151 #[.agg cx, .int .i64 k] w (SzPost (totTap x) k w) := by
 obtain ⟨a1, l1, c1, f1, ex, h1, -⟩ := tapL_iff.1 hx
 clear hx
 obtain ⟨v0, v1⟩ := x
 simp only at ex h1
 obtain rfl := Array.toList_inj.1 (ex.trans (List.toList_toArray).symm)
 clear ex
 have H1 := hid h1; clear h1
 obtain ⟨t1, ht1⟩ : ∃ t, t = totL totRec v1 := ⟨_, rfl⟩
 have n1 : 0 ≤ t1 := by rw [ht1]; exact totL_nonneg totRec_nonneg _
 have HT1 := hid ht1
 have HT := hid (show totTap ⟨v0, v1⟩ = t1 by rw [ht1]; unfold totTap; rfl)
 clear ht1
 go_enter Tryz.func151, Tryz.ntmps151
 go_wp2_with fail
 refine (szRecS_any a1 l1 c1 v1 f1 (k) _ (recL.sl_ext H1.out (by refine Chg.alloc ?_ _; exact Chg.refl _ _)) (by omega) (by omega)).mono ?_
 rintro e w1 ⟨rfl, hc⟩
 rw [← HT1.out]
 have hP := hc.keep0 (b := w.heap.size) (new_at (by simp) _)
 have cP := cellsOf hP; have lP := ltOf hP; have fP := freeOf hP; have HBP := hid hP; clear hP
 have HC1 := hid hc; clear hc
 by_cases m1 : k - t1 < 0
 ·rw [if_pos m1]
  go_wp2_with fail
  go_ret
  exact ⟨ret_int (by rw [HT.out, if_pos (by omega)]), by refine Chg.trans0 ?_ HC1.out; refine Chg.alloc ?_ _; exact Chg.refl _ _⟩
 rw [if_neg m1]
 go_wp2_with fail
 go_ret
 exact ⟨ret_int (by rw [HT.out, if_neg (by omega)] <;> omega), by refine Chg.trans0 ?_ HC1.out; refine Chg.alloc ?_ _; exact Chg.refl _ _⟩
set_option maxRecDepth 100000 in
set_option maxHeartbeats 2000000 in
theorem eqTape_any (x : Tap) (cx cy : Array Value) (fx fy : List Nat) (w : World) (hx : tapL.rep w cx.toList x fx) (hy : tapL.rep w cy.toList x fy) :
  Calls Tryz.prog 161 #[.agg cx, .agg cy] w fun e w' => e = .returned (.bool true) ∧ Chg [] w w' := by
 obtain ⟨a1, l1, c1, f1, ex, h1, -⟩ := tapL_iff.1 hx
 obtain ⟨b1, m1, d1, g1, ey, j1, -⟩ := tapL_iff.1 hy
 clear hx hy
 obtain ⟨v0, v1⟩ := x
 simp only at ex ey h1 j1
 obtain rfl := Array.toList_inj.1 (ex.trans (List.toList_toArray).symm)
 obtain rfl := Array.toList_inj.1 (ey.trans (List.toList_toArray).symm)
 clear ex ey
 obtain rfl : l1 = m1 := h1.1.trans j1.1.symm
 have H1 := hid h1; have J1 := hid j1; clear h1 j1
 have e0 : (v0 != v0) = false := by simp
 go_enter Tryz.func161, Tryz.ntmps161
 go_wp2_with fail
 refine (eqRecS_any a1 b1 l1 c1 d1 v1 f1 g1 _ (recL.sl_ext H1.out (by refine Chg.alloc ?_ _; refine Chg.alloc ?_ _; exact Chg.refl _ _)) (recL.sl_ext J1.out (by refine Chg.alloc ?_ _; refine Chg.alloc ?_ _; exact Chg.refl _ _))).mono ?_
 rintro e w1 ⟨rfl, hc⟩
 have hP := hc.keep0 (b := w.heap.size) (keep_alloc (new_at (by simp) _) _)
 have hQ := hc.keep0 (b := w.heap.size + 1) (new_at (by simp) _)
 have cP := cellsOf hP; have lP := ltOf hP; have fP := freeOf hP; have HBP := hid hP; clear hP
 have cQ := cellsOf hQ; have lQ := ltOf hQ; have fQ := freeOf hQ; have HBQ := hid hQ; clear hQ
 have HC1 := hid hc; clear hc
 go_wp2_with fail
 go_ret
 exact ⟨rfl, by refine Chg.trans0 ?_ HC1.out; refine Chg.alloc ?_ _; refine Chg.alloc ?_ _; exact Chg.refl _ _⟩
set_option maxRecDepth 100000 in
set_option maxHeartbeats 1000000 in
theorem szTapeS_any (a : Option Addr) (la ca : Nat) (xs : List (Tap)) (f : List Nat) (k : Int) (w : World) (ha : tapL.sl w a la ca xs f) (hk : 0 ≤ k) (hk2 : k ≤ 1048576) :
  Calls Tryz.prog 68 #[.slice a la ca, .int .i64 k] w (SzPost (totL (totTap) xs) k w) := by
 have hm := tapL.sl_max ha
 have HL := hid ha.1
 have HA := hid ha
 have HN := hid (sumI_nonneg (f := totTap) totTap_nonneg xs)
 have HT := hid (show totL (totTap) xs = (la : Int) + sumI (totTap) xs by unfold totL; rw [ha.1])
 clear ha
 by_cases hn : k - (la : Int) < 0
 ·go_enter Tryz.func68, Tryz.ntmps68
  go_wp2
  go_ret
  exact ⟨ret_int (by rw [HT.out, if_pos (by have := HN.out; omega)]), Chg.refl _ _⟩
 go_enter Tryz.func68, Tryz.ntmps68
 go_wp2
 go_loopw [1, 5] (fun u v wr => ∃ (j : Nat) (z : Int), j ≤ la ∧ u = .int .i64 z ∧ v = .int .i64 j ∧ Hid (z = k - la - sumI (totTap) (xs.take j)) ∧ 0 ≤ z ∧ z ≤ 1048576 ∧ Hid (Chg [] w wr)) (fun _ v _ => la - (intOf v).toNat)
 case atStart => exact ⟨0, k - la, by omega, rfl, rfl, by show k - la = k - la - 0; omega, by omega, by omega, Chg.refl _ _⟩
 case round =>
  obtain ⟨j, z, hj, rfl, rfl, HZ, hz0, hz1, HC⟩ := hrel
  by_cases hlt : j < la
  ·obtain ⟨x, b, o, a1, l1, c1, fx, HX, rfl, hc0, hc1, HXS⟩ := tape_at (tapL.sl_ext HA.out HC.out) hlt
   have HS := hid (sumI_at (f := totTap) totTap_nonneg HX.out.1)
   have HSN := hid (sumI_take (f := totTap) HX.out.1)
   obtain ⟨t, ht⟩ : ∃ t, t = (totTap) x := ⟨_, rfl⟩
   have ht0 : 0 ≤ t := by rw [ht]; exact totTap_nonneg x
   have HTX := hid ht
   clear ht
   go_wp2_with fail
   refine (szTape_any x #[.bool x.wiped, .slice a1 l1 c1] fx z _ HXS.out hz0 hz1).mono ?_
   rintro e w1 ⟨rfl, hc⟩
   have HC2 := hid (HC.out.trans0 hc)
   clear hc
   rw [← HTX.out]
   by_cases hneg : z - t < 0
   ·rw [if_pos hneg]
    go_wp2_with fail
    go_ret
    exact ⟨ret_int (by rw [HT.out, if_pos (by have h1 := HS.out; have h2 := HZ.out; have h3 := HTX.out; omega)]), HC2.out⟩
   ·rw [if_neg hneg]
    have HN2 := hid (show z - t = k - la - sumI (totTap) (xs.take (j + 1)) by rw [HSN.out, HZ.out, HTX.out]; omega)
    go_wp2_with fail
    go_roundw
    case rel => exact ⟨j + 1, z - t, by omega, rfl, by go_num, HN2, by omega, by omega, HC2⟩
    case measure => simp [intOf]; omega
  ·have hjl : j = la := by omega
   subst hjl
   have HR := hid (show (if k - totL (totTap) xs < 0 then -1 else k - totL (totTap) xs) = z by
    have h1 := HZ.out
    rw [List.take_of_length_le (by have := HL.out; omega)] at h1
    rw [HT.out, if_neg (by omega)]; omega)
   go_wp2
   go_ret
   exact ⟨ret_int HR.out.symm, HC.out⟩
set_option maxRecDepth 100000 in
set_option maxHeartbeats 1000000 in
theorem eqTapeS_any (a b : Option Addr) (la ca cb : Nat) (xs : List (Tap)) (f g : List Nat) (w : World) (ha : tapL.sl w a la ca xs f) (hb : tapL.sl w b la cb xs g) :
  Calls Tryz.prog 86 #[.slice a la ca, .slice b la cb] w fun e w' => e = .returned (.bool true) ∧ Chg [] w w' := by
 have hm := tapL.sl_max ha
 have hne : ((la : Int) != (la : Int)) = false := by simp
 have HA := hid ha
 have HB := hid hb
 clear ha hb
 go_enter Tryz.func86, Tryz.ntmps86
 go_wp2
 go_loopw [5] (fun i wr => ∃ k : Nat, k ≤ la ∧ i = .int .i64 k ∧ Chg [] w wr) (fun i _ => la - (intOf i).toNat)
 case atStart => exact ⟨0, by omega, rfl, Chg.refl _ _⟩
 case round =>
  obtain ⟨k, hk, rfl, hc⟩ := hrel
  rename_i wr
  by_cases hlt : k < la
  ·obtain ⟨x, b1, o1, a1, l1, c1, fx, HX, rfl, hx0, hx1, HXS⟩ := tape_at (tapL.sl_ext HA.out hc) hlt
   obtain ⟨y, b2, o2, bb1, m1, d1, fy, HY, rfl, hy0, hy1, HYS⟩ := tape_at (tapL.sl_ext HB.out hc) hlt
   have hxy : x = y := by have := HX.out.1.symm.trans HY.out.1; exact Option.some.inj this
   subst hxy
   have HC := hid hc
   have HE := hid (eqTape_any x #[.bool x.wiped, .slice a1 l1 c1] #[.bool x.wiped, .slice bb1 m1 d1] fx fy wr.drew (Lay.keep _ HXS.out (fun _ _ => rfl)) (Lay.keep _ HYS.out (fun _ _ => rfl)))
   clear hc
   go_wp2_with fail
   go_region_law (go_simp; go_at_call 161; refine HE.out.mono ?_; rintro e w' ⟨rfl, hc⟩)
   all_goals
    have HC2 := hid (HC.out.drew.trans0 hc)
    clear hc
    go_wp2
    go_roundw
    case rel => exact ⟨k + 1, by omega, by go_num, HC2.out⟩
    case measure => simp [intOf]; omega
  ·have HC := hid hc
   clear hc
   go_wp2
   go_ret
   exact ⟨rfl, HC.out⟩
end Go.Proofs.YtphmpimgbmedbaaGreat
/- The laws' helpers at the world. -/
namespace Go.Proofs.YtphmpimgbmedbaaGreat
open Go.RowKit
open Go.Lib (hid)
set_option maxRecDepth 100000 in
set_option maxHeartbeats 2000000 in
theorem szWorld_any (x : Wld) (cx : Array Value) (fx : List Nat) (k : Int) (w : World) (hx : wldL.rep w cx.toList x fx) (hk : 0 ≤ k) (hk2 : k ≤ 1048576) :
    Calls Tryz.prog 15 #[.agg cx, .int .i64 k] w (SzPost (totWld x) k w) := by
  obtain ⟨a10, l10, c10, f10, a11, l11, c11, f11, a12, l12, c12, f12, ex, o1, o2, o3, o4, o5, o6, o7, o8, o9, h10, h11, h12, o13, o14, -⟩ := wldL_iff.1 hx
  clear hx
  obtain rfl := Array.toList_inj.1 (ex.trans (List.toList_toArray).symm)
  clear ex o1 o2 o3 o4 o5 o6 o7 o8 o9 o13 o14
  have H10 := hid h10; clear h10
  have H11 := hid h11; clear h11
  have H12 := hid h12; clear h12
  obtain ⟨t10, ht10⟩ : ∃ t, t = totL (totL totDrv) x.groups := ⟨_, rfl⟩
  have n10 : 0 ≤ t10 := by rw [ht10]; exact totL_nonneg (totL_nonneg totDrv_nonneg) _
  have HT10 := hid ht10
  obtain ⟨t11, ht11⟩ : ∃ t, t = totIs x.on := ⟨_, rfl⟩
  have n11 : 0 ≤ t11 := by rw [ht11]; exact totIs_nonneg _
  have HT11 := hid ht11
  obtain ⟨t12, ht12⟩ : ∃ t, t = totL totTap x.tapes := ⟨_, rfl⟩
  have n12 : 0 ≤ t12 := by rw [ht12]; exact totL_nonneg totTap_nonneg _
  have HT12 := hid ht12
  have HT := hid (show totWld x = t10 + t11 + t12 by rw [ht10, ht11, ht12]; rfl)
  clear ht10 ht11 ht12
  go_enter Tryz.func15, Tryz.ntmps15
  go_wp2_with fail
  refine (szDriveSS_any a10 l10 c10 x.groups f10 (k) _ (drvL.slice.sl_ext H10.out (by refine Chg.alloc ?_ _; exact Chg.refl _ _)) (by omega) (by omega)).mono ?_
  rintro e w1 ⟨rfl, hc⟩
  rw [← HT10.out]
  have hP := hc.keep0 (b := w.heap.size) (new_at (by simp) _)
  have cP := cellsOf hP; have lP := ltOf hP; have fP := freeOf hP; have HBP := hid hP; clear hP
  have HC1 := hid hc; clear hc
  by_cases m10 : k - t10 < 0
  · rw [if_pos m10]
    go_wp2_with fail
    go_ret
    exact ⟨ret_int (by rw [HT.out, if_pos (by omega)]), by refine Chg.trans0 ?_ HC1.out; refine Chg.alloc ?_ _; exact Chg.refl _ _⟩
  rw [if_neg m10]
  go_wp2_with fail
  refine (szInt64S_any a11 l11 c11 x.on f11 (k - t10) _ (intL.sl_ext H11.out (by refine Chg.trans0 ?_ HC1.out; refine Chg.alloc ?_ _; exact Chg.refl _ _)) (by omega) (by omega)).mono ?_
  rintro e w2 ⟨rfl, hc⟩
  rw [← HT11.out]
  have hP := hc.keep0 HBP.out
  clear HBP cP lP fP
  have cP := cellsOf hP; have lP := ltOf hP; have fP := freeOf hP; have HBP := hid hP; clear hP
  have HC2 := hid hc; clear hc
  by_cases m11 : k - t10 - t11 < 0
  · rw [if_pos m11]
    go_wp2_with fail
    go_ret
    exact ⟨ret_int (by rw [HT.out, if_pos (by omega)]), by refine Chg.trans0 ?_ HC2.out; refine Chg.trans0 ?_ HC1.out; refine Chg.alloc ?_ _; exact Chg.refl _ _⟩
  rw [if_neg m11]
  go_wp2_with fail
  refine (szTapeS_any a12 l12 c12 x.tapes f12 (k - t10 - t11) _ (tapL.sl_ext H12.out (by refine Chg.trans0 ?_ HC2.out; refine Chg.trans0 ?_ HC1.out; refine Chg.alloc ?_ _; exact Chg.refl _ _)) (by omega) (by omega)).mono ?_
  rintro e w3 ⟨rfl, hc⟩
  rw [← HT12.out]
  have hP := hc.keep0 HBP.out
  clear HBP cP lP fP
  have cP := cellsOf hP; have lP := ltOf hP; have fP := freeOf hP; have HBP := hid hP; clear hP
  have HC3 := hid hc; clear hc
  by_cases m12 : k - t10 - t11 - t12 < 0
  · rw [if_pos m12]
    go_wp2_with fail
    go_ret
    exact ⟨ret_int (by rw [HT.out, if_pos (by omega)]), by refine Chg.trans0 ?_ HC3.out; refine Chg.trans0 ?_ HC2.out; refine Chg.trans0 ?_ HC1.out; refine Chg.alloc ?_ _; exact Chg.refl _ _⟩
  rw [if_neg m12]
  go_wp2_with fail
  go_ret
  exact ⟨ret_int (by rw [HT.out, if_neg (by omega)] <;> omega), by refine Chg.trans0 ?_ HC3.out; refine Chg.trans0 ?_ HC2.out; refine Chg.trans0 ?_ HC1.out; refine Chg.alloc ?_ _; exact Chg.refl _ _⟩
theorem eqShape_any (s : Shp) (w : World) : Calls Tryz.prog 83 #[.agg #[.int .i64 s.groups, .int .i64 s.column, .int .i64 s.data, .int .i64 s.spare, .int .i64 s.rows, .int .i64 s.cap, .int .i64 s.batch, .int .i64 s.queue, .int .i64 s.stage], .agg #[.int .i64 s.groups, .int .i64 s.column, .int .i64 s.data, .int .i64 s.spare, .int .i64 s.rows, .int .i64 s.cap, .int .i64 s.batch, .int .i64 s.queue, .int .i64 s.stage]] w fun e w' => e = .returned (.bool true) ∧ Chg [] w w' := by
  have e_groups : ((s.groups : Int) != s.groups) = false := by simp
  have e_column : ((s.column : Int) != s.column) = false := by simp
  have e_data : ((s.data : Int) != s.data) = false := by simp
  have e_spare : ((s.spare : Int) != s.spare) = false := by simp
  have e_rows : ((s.rows : Int) != s.rows) = false := by simp
  have e_cap : ((s.cap : Int) != s.cap) = false := by simp
  have e_batch : ((s.batch : Int) != s.batch) = false := by simp
  have e_queue : ((s.queue : Int) != s.queue) = false := by simp
  have e_stage : ((s.stage : Int) != s.stage) = false := by simp
  go_enter Tryz.func83, Tryz.ntmps83
  go_wp2
  go_ret
  exact ⟨rfl, by repeat (first | exact Chg.refl _ _ | refine Chg.alloc ?_ _)⟩
set_option maxRecDepth 100000 in
set_option maxHeartbeats 2000000 in
theorem eqWorld_any (x : Wld) (cx cy : Array Value) (fx fy : List Nat) (w : World) (hx : wldL.rep w cx.toList x fx) (hy : wldL.rep w cy.toList x fy) :
    Calls Tryz.prog 20 #[.agg cx, .agg cy] w fun e w' => e = .returned (.bool true) ∧ Chg [] w w' := by
  obtain ⟨a10, l10, c10, f10, a11, l11, c11, f11, a12, l12, c12, f12, ex, o1, o2, o3, o4, o5, o6, o7, o8, o9, h10, h11, h12, o13, o14, -⟩ := wldL_iff.1 hx
  obtain ⟨b10, m10, d10, g10, b11, m11, d11, g11, b12, m12, d12, g12, ey, -, -, -, -, -, -, -, -, -, j10, j11, j12, -⟩ := wldL_iff.1 hy
  clear hx hy
  obtain rfl := Array.toList_inj.1 (ex.trans (List.toList_toArray).symm)
  obtain rfl := Array.toList_inj.1 (ey.trans (List.toList_toArray).symm)
  clear ex ey o1 o2 o3 o4 o5 o6 o7 o8 o9 o13 o14
  obtain rfl : l10 = m10 := h10.1.trans j10.1.symm
  have H10 := hid h10; have J10 := hid j10; clear h10 j10
  obtain rfl : l11 = m11 := h11.1.trans j11.1.symm
  have H11 := hid h11; have J11 := hid j11; clear h11 j11
  obtain rfl : l12 = m12 := h12.1.trans j12.1.symm
  have H12 := hid h12; have J12 := hid j12; clear h12 j12
  have e1 : ((x.writes : Int) != x.writes) = false := by simp
  have e2 : ((x.stop : Int) != x.stop) = false := by simp
  have e3 : (x.down != x.down) = false := by simp
  go_enter Tryz.func20, Tryz.ntmps20
  go_wp2_with fail
  refine (eqShape_any x.shape _).mono ?_
  rintro e w1 ⟨rfl, hc⟩
  have hP := hc.keep0 (b := w.heap.size) (keep_alloc (new_at (by simp) _) _)
  have hQ := hc.keep0 (b := w.heap.size + 1) (new_at (by simp) _)
  have cP := cellsOf hP; have lP := ltOf hP; have fP := freeOf hP; have HBP := hid hP; clear hP
  have cQ := cellsOf hQ; have lQ := ltOf hQ; have fQ := freeOf hQ; have HBQ := hid hQ; clear hQ
  have HC1 := hid hc; clear hc
  go_wp2_with fail
  refine (eqDriveSS_any a10 b10 l10 c10 d10 x.groups f10 g10 _ (drvL.slice.sl_ext H10.out (by refine Chg.trans0 ?_ HC1.out; refine Chg.alloc ?_ _; refine Chg.alloc ?_ _; exact Chg.refl _ _)) (drvL.slice.sl_ext J10.out (by refine Chg.trans0 ?_ HC1.out; refine Chg.alloc ?_ _; refine Chg.alloc ?_ _; exact Chg.refl _ _))).mono ?_
  rintro e w2 ⟨rfl, hc⟩
  have hP := hc.keep0 HBP.out
  have hQ := hc.keep0 HBQ.out
  clear HBP cP lP fP HBQ cQ lQ fQ
  have cP := cellsOf hP; have lP := ltOf hP; have fP := freeOf hP; have HBP := hid hP; clear hP
  have cQ := cellsOf hQ; have lQ := ltOf hQ; have fQ := freeOf hQ; have HBQ := hid hQ; clear hQ
  have HC2 := hid hc; clear hc
  go_wp2_with fail
  refine (eqI_any a11 b11 l11 c11 d11 x.on f11 g11 _ (intL.sl_ext H11.out (by refine Chg.trans0 ?_ HC2.out; refine Chg.trans0 ?_ HC1.out; refine Chg.alloc ?_ _; refine Chg.alloc ?_ _; exact Chg.refl _ _)) (intL.sl_ext J11.out (by refine Chg.trans0 ?_ HC2.out; refine Chg.trans0 ?_ HC1.out; refine Chg.alloc ?_ _; refine Chg.alloc ?_ _; exact Chg.refl _ _))).mono ?_
  rintro e w3 ⟨rfl, hc⟩
  have hP := hc.keep0 HBP.out
  have hQ := hc.keep0 HBQ.out
  clear HBP cP lP fP HBQ cQ lQ fQ
  have cP := cellsOf hP; have lP := ltOf hP; have fP := freeOf hP; have HBP := hid hP; clear hP
  have cQ := cellsOf hQ; have lQ := ltOf hQ; have fQ := freeOf hQ; have HBQ := hid hQ; clear hQ
  have HC3 := hid hc; clear hc
  go_wp2_with fail
  refine (eqTapeS_any a12 b12 l12 c12 d12 x.tapes f12 g12 _ (tapL.sl_ext H12.out (by refine Chg.trans0 ?_ HC3.out; refine Chg.trans0 ?_ HC2.out; refine Chg.trans0 ?_ HC1.out; refine Chg.alloc ?_ _; refine Chg.alloc ?_ _; exact Chg.refl _ _)) (tapL.sl_ext J12.out (by refine Chg.trans0 ?_ HC3.out; refine Chg.trans0 ?_ HC2.out; refine Chg.trans0 ?_ HC1.out; refine Chg.alloc ?_ _; refine Chg.alloc ?_ _; exact Chg.refl _ _))).mono ?_
  rintro e w4 ⟨rfl, hc⟩
  have hP := hc.keep0 HBP.out
  have hQ := hc.keep0 HBQ.out
  clear HBP cP lP fP HBQ cQ lQ fQ
  have cP := cellsOf hP; have lP := ltOf hP; have fP := freeOf hP; have HBP := hid hP; clear hP
  have cQ := cellsOf hQ; have lQ := ltOf hQ; have fQ := freeOf hQ; have HBQ := hid hQ; clear hQ
  have HC4 := hid hc; clear hc
  go_wp2_with fail
  go_ret
  exact ⟨rfl, by refine Chg.trans0 ?_ HC4.out; refine Chg.trans0 ?_ HC3.out; refine Chg.trans0 ?_ HC2.out; refine Chg.trans0 ?_ HC1.out; refine Chg.alloc ?_ _; refine Chg.alloc ?_ _; exact Chg.refl _ _⟩
theorem toShape_lit (s : Shp) (w : World) : Calls Tryz.prog 74 #[.agg #[.int .i64 s.groups, .int .i64 s.column, .int .i64 s.data, .int .i64 s.spare, .int .i64 s.rows, .int .i64 s.cap, .int .i64 s.batch, .int .i64 s.queue, .int .i64 s.stage]] w fun e w' => e = .returned (.agg #[.int .i64 s.groups, .int .i64 s.column, .int .i64 s.data, .int .i64 s.spare, .int .i64 s.rows, .int .i64 s.cap, .int .i64 s.batch, .int .i64 s.queue, .int .i64 s.stage]) ∧ Chg [] w w' := toShape_any s w
set_option maxRecDepth 100000 in
set_option maxHeartbeats 2000000 in
theorem toWorld_any (x : Wld) (cx : Array Value) (fx : List Nat) (w : World) (hx : wldL.rep w cx.toList x fx) (hz : totWld x ≤ 1048576) :
    Calls Tryz.prog 17 #[.agg cx] w (NewAgg wldL x w) := by
  obtain ⟨a10, l10, c10, f10, a11, l11, c11, f11, a12, l12, c12, f12, ex, o1, o2, o3, o4, o5, o6, o7, o8, o9, h10, h11, h12, o13, o14, -⟩ := wldL_iff.1 hx
  clear hx
  obtain rfl := Array.toList_inj.1 (ex.trans (List.toList_toArray).symm)
  clear ex
  have HO := hid (And.intro o1 (And.intro o2 (And.intro o3 (And.intro o4 (And.intro o5 (And.intro o6 (And.intro o7 (And.intro o8 (And.intro o9 (And.intro o13 o14))))))))))
  clear o1 o2 o3 o4 o5 o6 o7 o8 o9 o13 o14
  have q1 := totL_nonneg (totL_nonneg totDrv_nonneg) x.groups; have q2 := totIs_nonneg x.on; have q3 := totL_nonneg totTap_nonneg x.tapes
  unfold totWld at hz
  have z10 : totL (totL totDrv) x.groups ≤ 1048576 := by omega
  have z11 : l11 ≤ 1048576 := by have : totIs x.on ≤ 1048576 := by omega
                                 unfold totIs at this; rw [h11.1]; omega
  have z12 : totL totTap x.tapes ≤ 1048576 := by omega
  clear hz q1 q2 q3
  have H10 := hid h10; have HL10 := hid (show x.groups.length = l10 from h10.1.symm); clear h10
  have H11 := hid h11; have HL11 := hid (show x.on.length = l11 from h11.1.symm); clear h11
  have H12 := hid h12; have HL12 := hid (show x.tapes.length = l12 from h12.1.symm); clear h12
  go_enter Tryz.func17, Tryz.ntmps17
  go_wp2_with fail
  refine (toShape_lit x.shape _).mono ?_
  rintro e w1 ⟨rfl, hc⟩
  have hP := hc.keep0 (b := w.heap.size) (keep_alloc (keep_alloc (new_at (by simp) _) _) _)
  have hQ := hc.keep0 (b := w.heap.size + 1) (keep_alloc (new_at (by simp) _) _)
  have hR := hc.keep0 (b := w.heap.size + 1 + 1) (new_at (by simp) _)
  have cP := cellsOf hP; have lP := ltOf hP; have fP := freeOf hP; have HBP := hid hP; clear hP
  have cQ := cellsOf hQ; have lQ := ltOf hQ; have fQ := freeOf hQ; have HBQ := hid hQ; clear hQ
  have cR := cellsOf hR; have lR := ltOf hR; have fR := freeOf hR; have HBR := hid hR; clear hR
  have HC1 := hid hc; clear hc
  go_wp2_with fail
  refine (toDriveSS_any a10 l10 c10 x.groups f10 _ (drvL.slice.sl_ext H10.out (by refine Chg.setCell ?_ _ _ (.inr (by simp <;> omega)); refine Chg.setCell ?_ _ _ (.inr (by simp <;> omega)); refine Chg.setCell ?_ _ _ (.inr (by simp <;> omega)); refine Chg.setCell ?_ _ _ (.inr (by simp <;> omega)); refine Chg.setCell ?_ _ _ (.inr (by simp <;> omega)); refine Chg.setCell ?_ _ _ (.inr (by simp <;> omega)); refine Chg.setCell ?_ _ _ (.inr (by simp <;> omega)); refine Chg.setCell ?_ _ _ (.inr (by simp <;> omega)); refine Chg.setCell ?_ _ _ (.inr (by simp <;> omega)); refine Chg.trans0 ?_ HC1.out; refine Chg.alloc ?_ _; refine Chg.alloc ?_ _; refine Chg.alloc ?_ _; exact Chg.refl _ _)) z10).mono ?_
  rintro e w2 ⟨b10, d10, g10, rfl, hs, hf, hc⟩
  rw [HL10.out] at hs ⊢
  have HS10 := hid hs; clear hs
  have hP := hc.keep0 (keep_set (keep_set (keep_set (keep_set (keep_set (keep_set (keep_set (keep_set (keep_set HBP.out _ _ (show w.heap.size ≠ w.heap.size + 1 + 1 by omega)) _ _ (show w.heap.size ≠ w.heap.size + 1 + 1 by omega)) _ _ (show w.heap.size ≠ w.heap.size + 1 + 1 by omega)) _ _ (show w.heap.size ≠ w.heap.size + 1 + 1 by omega)) _ _ (show w.heap.size ≠ w.heap.size + 1 + 1 by omega)) _ _ (show w.heap.size ≠ w.heap.size + 1 + 1 by omega)) _ _ (show w.heap.size ≠ w.heap.size + 1 + 1 by omega)) _ _ (show w.heap.size ≠ w.heap.size + 1 + 1 by omega)) _ _ (show w.heap.size ≠ w.heap.size + 1 + 1 by omega))
  have hQ := hc.keep0 (keep_set (keep_set (keep_set (keep_set (keep_set (keep_set (keep_set (keep_set (keep_set HBQ.out _ _ (show w.heap.size + 1 ≠ w.heap.size + 1 + 1 by omega)) _ _ (show w.heap.size + 1 ≠ w.heap.size + 1 + 1 by omega)) _ _ (show w.heap.size + 1 ≠ w.heap.size + 1 + 1 by omega)) _ _ (show w.heap.size + 1 ≠ w.heap.size + 1 + 1 by omega)) _ _ (show w.heap.size + 1 ≠ w.heap.size + 1 + 1 by omega)) _ _ (show w.heap.size + 1 ≠ w.heap.size + 1 + 1 by omega)) _ _ (show w.heap.size + 1 ≠ w.heap.size + 1 + 1 by omega)) _ _ (show w.heap.size + 1 ≠ w.heap.size + 1 + 1 by omega)) _ _ (show w.heap.size + 1 ≠ w.heap.size + 1 + 1 by omega))
  have hR := hc.keep0 (b := w.heap.size + 1 + 1) (o := .cells #[.int .i64 x.shape.groups, .int .i64 x.shape.column, .int .i64 x.shape.data, .int .i64 x.shape.spare, .int .i64 x.shape.rows, .int .i64 x.shape.cap, .int .i64 x.shape.batch, .int .i64 x.shape.queue, .int .i64 x.shape.stage, .slice none 0 0, .slice none 0 0, .slice none 0 0, .int .i64 0, .int .i64 0, .bool false] 34) (by refine heap_set_lit (cur := #[.int .i64 x.shape.groups, .int .i64 x.shape.column, .int .i64 x.shape.data, .int .i64 x.shape.spare, .int .i64 x.shape.rows, .int .i64 x.shape.cap, .int .i64 x.shape.batch, .int .i64 x.shape.queue, .int .i64 0, .slice none 0 0, .slice none 0 0, .slice none 0 0, .int .i64 0, .int .i64 0, .bool false]) ?_ rfl; refine heap_set_lit (cur := #[.int .i64 x.shape.groups, .int .i64 x.shape.column, .int .i64 x.shape.data, .int .i64 x.shape.spare, .int .i64 x.shape.rows, .int .i64 x.shape.cap, .int .i64 x.shape.batch, .int .i64 0, .int .i64 0, .slice none 0 0, .slice none 0 0, .slice none 0 0, .int .i64 0, .int .i64 0, .bool false]) ?_ rfl; refine heap_set_lit (cur := #[.int .i64 x.shape.groups, .int .i64 x.shape.column, .int .i64 x.shape.data, .int .i64 x.shape.spare, .int .i64 x.shape.rows, .int .i64 x.shape.cap, .int .i64 0, .int .i64 0, .int .i64 0, .slice none 0 0, .slice none 0 0, .slice none 0 0, .int .i64 0, .int .i64 0, .bool false]) ?_ rfl; refine heap_set_lit (cur := #[.int .i64 x.shape.groups, .int .i64 x.shape.column, .int .i64 x.shape.data, .int .i64 x.shape.spare, .int .i64 x.shape.rows, .int .i64 0, .int .i64 0, .int .i64 0, .int .i64 0, .slice none 0 0, .slice none 0 0, .slice none 0 0, .int .i64 0, .int .i64 0, .bool false]) ?_ rfl; refine heap_set_lit (cur := #[.int .i64 x.shape.groups, .int .i64 x.shape.column, .int .i64 x.shape.data, .int .i64 x.shape.spare, .int .i64 0, .int .i64 0, .int .i64 0, .int .i64 0, .int .i64 0, .slice none 0 0, .slice none 0 0, .slice none 0 0, .int .i64 0, .int .i64 0, .bool false]) ?_ rfl; refine heap_set_lit (cur := #[.int .i64 x.shape.groups, .int .i64 x.shape.column, .int .i64 x.shape.data, .int .i64 0, .int .i64 0, .int .i64 0, .int .i64 0, .int .i64 0, .int .i64 0, .slice none 0 0, .slice none 0 0, .slice none 0 0, .int .i64 0, .int .i64 0, .bool false]) ?_ rfl; refine heap_set_lit (cur := #[.int .i64 x.shape.groups, .int .i64 x.shape.column, .int .i64 0, .int .i64 0, .int .i64 0, .int .i64 0, .int .i64 0, .int .i64 0, .int .i64 0, .slice none 0 0, .slice none 0 0, .slice none 0 0, .int .i64 0, .int .i64 0, .bool false]) ?_ rfl; refine heap_set_lit (cur := #[.int .i64 x.shape.groups, .int .i64 0, .int .i64 0, .int .i64 0, .int .i64 0, .int .i64 0, .int .i64 0, .int .i64 0, .int .i64 0, .slice none 0 0, .slice none 0 0, .slice none 0 0, .int .i64 0, .int .i64 0, .bool false]) ?_ rfl; refine heap_set_lit (cur := #[.int .i64 0, .int .i64 0, .int .i64 0, .int .i64 0, .int .i64 0, .int .i64 0, .int .i64 0, .int .i64 0, .int .i64 0, .slice none 0 0, .slice none 0 0, .slice none 0 0, .int .i64 0, .int .i64 0, .bool false]) ?_ rfl; exact HBR.out)
  have HD10 := hid (Fresh.nots hf [w.heap.size, w.heap.size + 1, w.heap.size + 1 + 1] (by intro b hb; simp only [List.mem_cons, List.not_mem_nil, or_false] at hb; rcases hb with rfl | rfl | rfl <;> simp <;> omega)); have HF10 := hid hf; clear hf
  clear HBP cP lP fP HBQ cQ lQ fQ HBR cR lR fR
  have cP := cellsOf hP; have lP := ltOf hP; have fP := freeOf hP; have HBP := hid hP; clear hP
  have cQ := cellsOf hQ; have lQ := ltOf hQ; have fQ := freeOf hQ; have HBQ := hid hQ; clear hQ
  have cR := cellsOf hR; have lR := ltOf hR; have fR := freeOf hR; have HBR := hid hR; clear hR
  have HC2 := hid hc; clear hc
  go_wp2_with fail
  refine (toI_any a11 l11 c11 x.on f11 _ (intL.sl_ext H11.out (by refine Chg.setCell ?_ _ _ (.inr (by simp <;> omega)); refine Chg.trans0 ?_ HC2.out; refine Chg.setCell ?_ _ _ (.inr (by simp <;> omega)); refine Chg.setCell ?_ _ _ (.inr (by simp <;> omega)); refine Chg.setCell ?_ _ _ (.inr (by simp <;> omega)); refine Chg.setCell ?_ _ _ (.inr (by simp <;> omega)); refine Chg.setCell ?_ _ _ (.inr (by simp <;> omega)); refine Chg.setCell ?_ _ _ (.inr (by simp <;> omega)); refine Chg.setCell ?_ _ _ (.inr (by simp <;> omega)); refine Chg.setCell ?_ _ _ (.inr (by simp <;> omega)); refine Chg.setCell ?_ _ _ (.inr (by simp <;> omega)); refine Chg.trans0 ?_ HC1.out; refine Chg.alloc ?_ _; refine Chg.alloc ?_ _; refine Chg.alloc ?_ _; exact Chg.refl _ _)) z11).mono ?_
  rintro e w3 ⟨b11, d11, g11, rfl, hs, hf, hc⟩
  rw [HL11.out] at hs ⊢
  have HS11 := hid hs; clear hs
  have hP := hc.keep0 (keep_set HBP.out _ _ (show w.heap.size ≠ w.heap.size + 1 + 1 by omega))
  have hQ := hc.keep0 (keep_set HBQ.out _ _ (show w.heap.size + 1 ≠ w.heap.size + 1 + 1 by omega))
  have hR := hc.keep0 (b := w.heap.size + 1 + 1) (o := .cells #[.int .i64 x.shape.groups, .int .i64 x.shape.column, .int .i64 x.shape.data, .int .i64 x.shape.spare, .int .i64 x.shape.rows, .int .i64 x.shape.cap, .int .i64 x.shape.batch, .int .i64 x.shape.queue, .int .i64 x.shape.stage, .slice b10 l10 d10, .slice none 0 0, .slice none 0 0, .int .i64 0, .int .i64 0, .bool false] 34) (by refine heap_set_lit (cur := #[.int .i64 x.shape.groups, .int .i64 x.shape.column, .int .i64 x.shape.data, .int .i64 x.shape.spare, .int .i64 x.shape.rows, .int .i64 x.shape.cap, .int .i64 x.shape.batch, .int .i64 x.shape.queue, .int .i64 x.shape.stage, .slice none 0 0, .slice none 0 0, .slice none 0 0, .int .i64 0, .int .i64 0, .bool false]) ?_ rfl; exact HBR.out)
  have HD11 := hid (Fresh.nots hf [w.heap.size, w.heap.size + 1, w.heap.size + 1 + 1] (by intro b hb; simp only [List.mem_cons, List.not_mem_nil, or_false] at hb; rcases hb with rfl | rfl | rfl <;> simp <;> omega)); have HF11 := hid hf; clear hf
  clear HBP cP lP fP HBQ cQ lQ fQ HBR cR lR fR
  have cP := cellsOf hP; have lP := ltOf hP; have fP := freeOf hP; have HBP := hid hP; clear hP
  have cQ := cellsOf hQ; have lQ := ltOf hQ; have fQ := freeOf hQ; have HBQ := hid hQ; clear hQ
  have cR := cellsOf hR; have lR := ltOf hR; have fR := freeOf hR; have HBR := hid hR; clear hR
  have HC3 := hid hc; clear hc
  go_wp2_with fail
  refine (toTapeS_any a12 l12 c12 x.tapes f12 _ (tapL.sl_ext H12.out (by refine Chg.setCell ?_ _ _ (.inr (by simp <;> omega)); refine Chg.trans0 ?_ HC3.out; refine Chg.setCell ?_ _ _ (.inr (by simp <;> omega)); refine Chg.trans0 ?_ HC2.out; refine Chg.setCell ?_ _ _ (.inr (by simp <;> omega)); refine Chg.setCell ?_ _ _ (.inr (by simp <;> omega)); refine Chg.setCell ?_ _ _ (.inr (by simp <;> omega)); refine Chg.setCell ?_ _ _ (.inr (by simp <;> omega)); refine Chg.setCell ?_ _ _ (.inr (by simp <;> omega)); refine Chg.setCell ?_ _ _ (.inr (by simp <;> omega)); refine Chg.setCell ?_ _ _ (.inr (by simp <;> omega)); refine Chg.setCell ?_ _ _ (.inr (by simp <;> omega)); refine Chg.setCell ?_ _ _ (.inr (by simp <;> omega)); refine Chg.trans0 ?_ HC1.out; refine Chg.alloc ?_ _; refine Chg.alloc ?_ _; refine Chg.alloc ?_ _; exact Chg.refl _ _)) z12).mono ?_
  rintro e w4 ⟨b12, d12, g12, rfl, hs, hf, hc⟩
  rw [HL12.out] at hs ⊢
  have HS12 := hid hs; clear hs
  have hP := hc.keep0 (keep_set HBP.out _ _ (show w.heap.size ≠ w.heap.size + 1 + 1 by omega))
  have hQ := hc.keep0 (keep_set HBQ.out _ _ (show w.heap.size + 1 ≠ w.heap.size + 1 + 1 by omega))
  have hR := hc.keep0 (b := w.heap.size + 1 + 1) (o := .cells #[.int .i64 x.shape.groups, .int .i64 x.shape.column, .int .i64 x.shape.data, .int .i64 x.shape.spare, .int .i64 x.shape.rows, .int .i64 x.shape.cap, .int .i64 x.shape.batch, .int .i64 x.shape.queue, .int .i64 x.shape.stage, .slice b10 l10 d10, .slice b11 l11 d11, .slice none 0 0, .int .i64 0, .int .i64 0, .bool false] 34) (by refine heap_set_lit (cur := #[.int .i64 x.shape.groups, .int .i64 x.shape.column, .int .i64 x.shape.data, .int .i64 x.shape.spare, .int .i64 x.shape.rows, .int .i64 x.shape.cap, .int .i64 x.shape.batch, .int .i64 x.shape.queue, .int .i64 x.shape.stage, .slice b10 l10 d10, .slice none 0 0, .slice none 0 0, .int .i64 0, .int .i64 0, .bool false]) ?_ rfl; exact HBR.out)
  have HD12 := hid (Fresh.nots hf [w.heap.size, w.heap.size + 1, w.heap.size + 1 + 1] (by intro b hb; simp only [List.mem_cons, List.not_mem_nil, or_false] at hb; rcases hb with rfl | rfl | rfl <;> simp <;> omega)); have HF12 := hid hf; clear hf
  clear HBP cP lP fP HBQ cQ lQ fQ HBR cR lR fR
  have cP := cellsOf hP; have lP := ltOf hP; have fP := freeOf hP; have HBP := hid hP; clear hP
  have cQ := cellsOf hQ; have lQ := ltOf hQ; have fQ := freeOf hQ; have HBQ := hid hQ; clear hQ
  have cR := cellsOf hR; have lR := ltOf hR; have fR := freeOf hR; have HBR := hid hR; clear hR
  have HC4 := hid hc; clear hc
  go_wp2_with fail
  have hq : ((((((((((((((((((((w4.setCell ⟨w.heap.size + 1 + 1, 11, none⟩ (.slice b12 l12 d12)).setCell ⟨w.heap.size + 1 + 1, 12, none⟩ (.int .i64 x.writes)).setCell ⟨w.heap.size + 1 + 1, 13, none⟩ (.int .i64 x.stop)).setCell ⟨w.heap.size + 1 + 1, 14, none⟩ (.bool x.down)).setCell ⟨w.heap.size + 1, 0, none⟩ (.int .i64 x.shape.groups)).setCell ⟨w.heap.size + 1, 1, none⟩ (.int .i64 x.shape.column)).setCell ⟨w.heap.size + 1, 2, none⟩ (.int .i64 x.shape.data)).setCell ⟨w.heap.size + 1, 3, none⟩ (.int .i64 x.shape.spare)).setCell ⟨w.heap.size + 1, 4, none⟩ (.int .i64 x.shape.rows)).setCell ⟨w.heap.size + 1, 5, none⟩ (.int .i64 x.shape.cap)).setCell ⟨w.heap.size + 1, 6, none⟩ (.int .i64 x.shape.batch)).setCell ⟨w.heap.size + 1, 7, none⟩ (.int .i64 x.shape.queue)).setCell ⟨w.heap.size + 1, 8, none⟩ (.int .i64 x.shape.stage)).setCell ⟨w.heap.size + 1, 9, none⟩ (.slice b10 l10 d10)).setCell ⟨w.heap.size + 1, 10, none⟩ (.slice b11 l11 d11)).setCell ⟨w.heap.size + 1, 11, none⟩ (.slice b12 l12 d12)).setCell ⟨w.heap.size + 1, 12, none⟩ (.int .i64 x.writes)).setCell ⟨w.heap.size + 1, 13, none⟩ (.int .i64 x.stop)).setCell ⟨w.heap.size + 1, 14, none⟩ (.bool x.down))).heap[w.heap.size + 1]? = some (.cells #[.int .i64 x.shape.groups, .int .i64 x.shape.column, .int .i64 x.shape.data, .int .i64 x.shape.spare, .int .i64 x.shape.rows, .int .i64 x.shape.cap, .int .i64 x.shape.batch, .int .i64 x.shape.queue, .int .i64 x.shape.stage, .slice b10 l10 d10, .slice b11 l11 d11, .slice b12 l12 d12, .int .i64 x.writes, .int .i64 x.stop, .bool x.down] 34) := (by refine heap_set_lit (cur := #[.int .i64 x.shape.groups, .int .i64 x.shape.column, .int .i64 x.shape.data, .int .i64 x.shape.spare, .int .i64 x.shape.rows, .int .i64 x.shape.cap, .int .i64 x.shape.batch, .int .i64 x.shape.queue, .int .i64 x.shape.stage, .slice b10 l10 d10, .slice b11 l11 d11, .slice b12 l12 d12, .int .i64 x.writes, .int .i64 x.stop, .bool false]) ?_ rfl; refine heap_set_lit (cur := #[.int .i64 x.shape.groups, .int .i64 x.shape.column, .int .i64 x.shape.data, .int .i64 x.shape.spare, .int .i64 x.shape.rows, .int .i64 x.shape.cap, .int .i64 x.shape.batch, .int .i64 x.shape.queue, .int .i64 x.shape.stage, .slice b10 l10 d10, .slice b11 l11 d11, .slice b12 l12 d12, .int .i64 x.writes, .int .i64 0, .bool false]) ?_ rfl; refine heap_set_lit (cur := #[.int .i64 x.shape.groups, .int .i64 x.shape.column, .int .i64 x.shape.data, .int .i64 x.shape.spare, .int .i64 x.shape.rows, .int .i64 x.shape.cap, .int .i64 x.shape.batch, .int .i64 x.shape.queue, .int .i64 x.shape.stage, .slice b10 l10 d10, .slice b11 l11 d11, .slice b12 l12 d12, .int .i64 0, .int .i64 0, .bool false]) ?_ rfl; refine heap_set_lit (cur := #[.int .i64 x.shape.groups, .int .i64 x.shape.column, .int .i64 x.shape.data, .int .i64 x.shape.spare, .int .i64 x.shape.rows, .int .i64 x.shape.cap, .int .i64 x.shape.batch, .int .i64 x.shape.queue, .int .i64 x.shape.stage, .slice b10 l10 d10, .slice b11 l11 d11, .slice none 0 0, .int .i64 0, .int .i64 0, .bool false]) ?_ rfl; refine heap_set_lit (cur := #[.int .i64 x.shape.groups, .int .i64 x.shape.column, .int .i64 x.shape.data, .int .i64 x.shape.spare, .int .i64 x.shape.rows, .int .i64 x.shape.cap, .int .i64 x.shape.batch, .int .i64 x.shape.queue, .int .i64 x.shape.stage, .slice b10 l10 d10, .slice none 0 0, .slice none 0 0, .int .i64 0, .int .i64 0, .bool false]) ?_ rfl; refine heap_set_lit (cur := #[.int .i64 x.shape.groups, .int .i64 x.shape.column, .int .i64 x.shape.data, .int .i64 x.shape.spare, .int .i64 x.shape.rows, .int .i64 x.shape.cap, .int .i64 x.shape.batch, .int .i64 x.shape.queue, .int .i64 x.shape.stage, .slice none 0 0, .slice none 0 0, .slice none 0 0, .int .i64 0, .int .i64 0, .bool false]) ?_ rfl; refine heap_set_lit (cur := #[.int .i64 x.shape.groups, .int .i64 x.shape.column, .int .i64 x.shape.data, .int .i64 x.shape.spare, .int .i64 x.shape.rows, .int .i64 x.shape.cap, .int .i64 x.shape.batch, .int .i64 x.shape.queue, .int .i64 0, .slice none 0 0, .slice none 0 0, .slice none 0 0, .int .i64 0, .int .i64 0, .bool false]) ?_ rfl; refine heap_set_lit (cur := #[.int .i64 x.shape.groups, .int .i64 x.shape.column, .int .i64 x.shape.data, .int .i64 x.shape.spare, .int .i64 x.shape.rows, .int .i64 x.shape.cap, .int .i64 x.shape.batch, .int .i64 0, .int .i64 0, .slice none 0 0, .slice none 0 0, .slice none 0 0, .int .i64 0, .int .i64 0, .bool false]) ?_ rfl; refine heap_set_lit (cur := #[.int .i64 x.shape.groups, .int .i64 x.shape.column, .int .i64 x.shape.data, .int .i64 x.shape.spare, .int .i64 x.shape.rows, .int .i64 x.shape.cap, .int .i64 0, .int .i64 0, .int .i64 0, .slice none 0 0, .slice none 0 0, .slice none 0 0, .int .i64 0, .int .i64 0, .bool false]) ?_ rfl; refine heap_set_lit (cur := #[.int .i64 x.shape.groups, .int .i64 x.shape.column, .int .i64 x.shape.data, .int .i64 x.shape.spare, .int .i64 x.shape.rows, .int .i64 0, .int .i64 0, .int .i64 0, .int .i64 0, .slice none 0 0, .slice none 0 0, .slice none 0 0, .int .i64 0, .int .i64 0, .bool false]) ?_ rfl; refine heap_set_lit (cur := #[.int .i64 x.shape.groups, .int .i64 x.shape.column, .int .i64 x.shape.data, .int .i64 x.shape.spare, .int .i64 0, .int .i64 0, .int .i64 0, .int .i64 0, .int .i64 0, .slice none 0 0, .slice none 0 0, .slice none 0 0, .int .i64 0, .int .i64 0, .bool false]) ?_ rfl; refine heap_set_lit (cur := #[.int .i64 x.shape.groups, .int .i64 x.shape.column, .int .i64 x.shape.data, .int .i64 0, .int .i64 0, .int .i64 0, .int .i64 0, .int .i64 0, .int .i64 0, .slice none 0 0, .slice none 0 0, .slice none 0 0, .int .i64 0, .int .i64 0, .bool false]) ?_ rfl; refine heap_set_lit (cur := #[.int .i64 x.shape.groups, .int .i64 x.shape.column, .int .i64 0, .int .i64 0, .int .i64 0, .int .i64 0, .int .i64 0, .int .i64 0, .int .i64 0, .slice none 0 0, .slice none 0 0, .slice none 0 0, .int .i64 0, .int .i64 0, .bool false]) ?_ rfl; refine heap_set_lit (cur := #[.int .i64 x.shape.groups, .int .i64 0, .int .i64 0, .int .i64 0, .int .i64 0, .int .i64 0, .int .i64 0, .int .i64 0, .int .i64 0, .slice none 0 0, .slice none 0 0, .slice none 0 0, .int .i64 0, .int .i64 0, .bool false]) ?_ rfl; refine heap_set_lit (cur := #[.int .i64 0, .int .i64 0, .int .i64 0, .int .i64 0, .int .i64 0, .int .i64 0, .int .i64 0, .int .i64 0, .int .i64 0, .slice none 0 0, .slice none 0 0, .slice none 0 0, .int .i64 0, .int .i64 0, .bool false]) ?_ rfl; refine keep_set ?_ _ _ (show w.heap.size + 1 ≠ w.heap.size + 1 + 1 by omega); refine keep_set ?_ _ _ (show w.heap.size + 1 ≠ w.heap.size + 1 + 1 by omega); refine keep_set ?_ _ _ (show w.heap.size + 1 ≠ w.heap.size + 1 + 1 by omega); refine keep_set ?_ _ _ (show w.heap.size + 1 ≠ w.heap.size + 1 + 1 by omega); exact HBQ.out)
  have hqc := cellsOf hq
  have hch : Chg [] w (((((((((((((((((((w4.setCell ⟨w.heap.size + 1 + 1, 11, none⟩ (.slice b12 l12 d12)).setCell ⟨w.heap.size + 1 + 1, 12, none⟩ (.int .i64 x.writes)).setCell ⟨w.heap.size + 1 + 1, 13, none⟩ (.int .i64 x.stop)).setCell ⟨w.heap.size + 1 + 1, 14, none⟩ (.bool x.down)).setCell ⟨w.heap.size + 1, 0, none⟩ (.int .i64 x.shape.groups)).setCell ⟨w.heap.size + 1, 1, none⟩ (.int .i64 x.shape.column)).setCell ⟨w.heap.size + 1, 2, none⟩ (.int .i64 x.shape.data)).setCell ⟨w.heap.size + 1, 3, none⟩ (.int .i64 x.shape.spare)).setCell ⟨w.heap.size + 1, 4, none⟩ (.int .i64 x.shape.rows)).setCell ⟨w.heap.size + 1, 5, none⟩ (.int .i64 x.shape.cap)).setCell ⟨w.heap.size + 1, 6, none⟩ (.int .i64 x.shape.batch)).setCell ⟨w.heap.size + 1, 7, none⟩ (.int .i64 x.shape.queue)).setCell ⟨w.heap.size + 1, 8, none⟩ (.int .i64 x.shape.stage)).setCell ⟨w.heap.size + 1, 9, none⟩ (.slice b10 l10 d10)).setCell ⟨w.heap.size + 1, 10, none⟩ (.slice b11 l11 d11)).setCell ⟨w.heap.size + 1, 11, none⟩ (.slice b12 l12 d12)).setCell ⟨w.heap.size + 1, 12, none⟩ (.int .i64 x.writes)).setCell ⟨w.heap.size + 1, 13, none⟩ (.int .i64 x.stop)).setCell ⟨w.heap.size + 1, 14, none⟩ (.bool x.down)) := by refine Chg.setCell ?_ _ _ (.inr (by simp <;> omega)); refine Chg.setCell ?_ _ _ (.inr (by simp <;> omega)); refine Chg.setCell ?_ _ _ (.inr (by simp <;> omega)); refine Chg.setCell ?_ _ _ (.inr (by simp <;> omega)); refine Chg.setCell ?_ _ _ (.inr (by simp <;> omega)); refine Chg.setCell ?_ _ _ (.inr (by simp <;> omega)); refine Chg.setCell ?_ _ _ (.inr (by simp <;> omega)); refine Chg.setCell ?_ _ _ (.inr (by simp <;> omega)); refine Chg.setCell ?_ _ _ (.inr (by simp <;> omega)); refine Chg.setCell ?_ _ _ (.inr (by simp <;> omega)); refine Chg.setCell ?_ _ _ (.inr (by simp <;> omega)); refine Chg.setCell ?_ _ _ (.inr (by simp <;> omega)); refine Chg.setCell ?_ _ _ (.inr (by simp <;> omega)); refine Chg.setCell ?_ _ _ (.inr (by simp <;> omega)); refine Chg.setCell ?_ _ _ (.inr (by simp <;> omega)); refine Chg.setCell ?_ _ _ (.inr (by simp <;> omega)); refine Chg.setCell ?_ _ _ (.inr (by simp <;> omega)); refine Chg.setCell ?_ _ _ (.inr (by simp <;> omega)); refine Chg.setCell ?_ _ _ (.inr (by simp <;> omega)); refine Chg.trans0 ?_ HC4.out; refine Chg.setCell ?_ _ _ (.inr (by simp <;> omega)); refine Chg.trans0 ?_ HC3.out; refine Chg.setCell ?_ _ _ (.inr (by simp <;> omega)); refine Chg.trans0 ?_ HC2.out; refine Chg.setCell ?_ _ _ (.inr (by simp <;> omega)); refine Chg.setCell ?_ _ _ (.inr (by simp <;> omega)); refine Chg.setCell ?_ _ _ (.inr (by simp <;> omega)); refine Chg.setCell ?_ _ _ (.inr (by simp <;> omega)); refine Chg.setCell ?_ _ _ (.inr (by simp <;> omega)); refine Chg.setCell ?_ _ _ (.inr (by simp <;> omega)); refine Chg.setCell ?_ _ _ (.inr (by simp <;> omega)); refine Chg.setCell ?_ _ _ (.inr (by simp <;> omega)); refine Chg.setCell ?_ _ _ (.inr (by simp <;> omega)); refine Chg.trans0 ?_ HC1.out; refine Chg.alloc ?_ _; refine Chg.alloc ?_ _; refine Chg.alloc ?_ _; exact Chg.refl _ _
  have k10 : Chg [w.heap.size, w.heap.size + 1, w.heap.size + 1 + 1] w2 (((((((((((((((((((w4.setCell ⟨w.heap.size + 1 + 1, 11, none⟩ (.slice b12 l12 d12)).setCell ⟨w.heap.size + 1 + 1, 12, none⟩ (.int .i64 x.writes)).setCell ⟨w.heap.size + 1 + 1, 13, none⟩ (.int .i64 x.stop)).setCell ⟨w.heap.size + 1 + 1, 14, none⟩ (.bool x.down)).setCell ⟨w.heap.size + 1, 0, none⟩ (.int .i64 x.shape.groups)).setCell ⟨w.heap.size + 1, 1, none⟩ (.int .i64 x.shape.column)).setCell ⟨w.heap.size + 1, 2, none⟩ (.int .i64 x.shape.data)).setCell ⟨w.heap.size + 1, 3, none⟩ (.int .i64 x.shape.spare)).setCell ⟨w.heap.size + 1, 4, none⟩ (.int .i64 x.shape.rows)).setCell ⟨w.heap.size + 1, 5, none⟩ (.int .i64 x.shape.cap)).setCell ⟨w.heap.size + 1, 6, none⟩ (.int .i64 x.shape.batch)).setCell ⟨w.heap.size + 1, 7, none⟩ (.int .i64 x.shape.queue)).setCell ⟨w.heap.size + 1, 8, none⟩ (.int .i64 x.shape.stage)).setCell ⟨w.heap.size + 1, 9, none⟩ (.slice b10 l10 d10)).setCell ⟨w.heap.size + 1, 10, none⟩ (.slice b11 l11 d11)).setCell ⟨w.heap.size + 1, 11, none⟩ (.slice b12 l12 d12)).setCell ⟨w.heap.size + 1, 12, none⟩ (.int .i64 x.writes)).setCell ⟨w.heap.size + 1, 13, none⟩ (.int .i64 x.stop)).setCell ⟨w.heap.size + 1, 14, none⟩ (.bool x.down)) := by refine Chg.setCell ?_ _ _ (.inl (by simp)); refine Chg.setCell ?_ _ _ (.inl (by simp)); refine Chg.setCell ?_ _ _ (.inl (by simp)); refine Chg.setCell ?_ _ _ (.inl (by simp)); refine Chg.setCell ?_ _ _ (.inl (by simp)); refine Chg.setCell ?_ _ _ (.inl (by simp)); refine Chg.setCell ?_ _ _ (.inl (by simp)); refine Chg.setCell ?_ _ _ (.inl (by simp)); refine Chg.setCell ?_ _ _ (.inl (by simp)); refine Chg.setCell ?_ _ _ (.inl (by simp)); refine Chg.setCell ?_ _ _ (.inl (by simp)); refine Chg.setCell ?_ _ _ (.inl (by simp)); refine Chg.setCell ?_ _ _ (.inl (by simp)); refine Chg.setCell ?_ _ _ (.inl (by simp)); refine Chg.setCell ?_ _ _ (.inl (by simp)); refine Chg.setCell ?_ _ _ (.inl (by simp)); refine Chg.setCell ?_ _ _ (.inl (by simp)); refine Chg.setCell ?_ _ _ (.inl (by simp)); refine Chg.setCell ?_ _ _ (.inl (by simp)); refine Chg.trans0 ?_ HC4.out; refine Chg.setCell ?_ _ _ (.inl (by simp)); refine Chg.trans0 ?_ HC3.out; refine Chg.setCell ?_ _ _ (.inl (by simp)); exact Chg.refl _ _
  have K10 := drvL.slice.sl_chg HS10.out k10 HD10.out
  have F10 := Fresh.chg HF10.out k10
  have k11 : Chg [w.heap.size, w.heap.size + 1, w.heap.size + 1 + 1] w3 (((((((((((((((((((w4.setCell ⟨w.heap.size + 1 + 1, 11, none⟩ (.slice b12 l12 d12)).setCell ⟨w.heap.size + 1 + 1, 12, none⟩ (.int .i64 x.writes)).setCell ⟨w.heap.size + 1 + 1, 13, none⟩ (.int .i64 x.stop)).setCell ⟨w.heap.size + 1 + 1, 14, none⟩ (.bool x.down)).setCell ⟨w.heap.size + 1, 0, none⟩ (.int .i64 x.shape.groups)).setCell ⟨w.heap.size + 1, 1, none⟩ (.int .i64 x.shape.column)).setCell ⟨w.heap.size + 1, 2, none⟩ (.int .i64 x.shape.data)).setCell ⟨w.heap.size + 1, 3, none⟩ (.int .i64 x.shape.spare)).setCell ⟨w.heap.size + 1, 4, none⟩ (.int .i64 x.shape.rows)).setCell ⟨w.heap.size + 1, 5, none⟩ (.int .i64 x.shape.cap)).setCell ⟨w.heap.size + 1, 6, none⟩ (.int .i64 x.shape.batch)).setCell ⟨w.heap.size + 1, 7, none⟩ (.int .i64 x.shape.queue)).setCell ⟨w.heap.size + 1, 8, none⟩ (.int .i64 x.shape.stage)).setCell ⟨w.heap.size + 1, 9, none⟩ (.slice b10 l10 d10)).setCell ⟨w.heap.size + 1, 10, none⟩ (.slice b11 l11 d11)).setCell ⟨w.heap.size + 1, 11, none⟩ (.slice b12 l12 d12)).setCell ⟨w.heap.size + 1, 12, none⟩ (.int .i64 x.writes)).setCell ⟨w.heap.size + 1, 13, none⟩ (.int .i64 x.stop)).setCell ⟨w.heap.size + 1, 14, none⟩ (.bool x.down)) := by refine Chg.setCell ?_ _ _ (.inl (by simp)); refine Chg.setCell ?_ _ _ (.inl (by simp)); refine Chg.setCell ?_ _ _ (.inl (by simp)); refine Chg.setCell ?_ _ _ (.inl (by simp)); refine Chg.setCell ?_ _ _ (.inl (by simp)); refine Chg.setCell ?_ _ _ (.inl (by simp)); refine Chg.setCell ?_ _ _ (.inl (by simp)); refine Chg.setCell ?_ _ _ (.inl (by simp)); refine Chg.setCell ?_ _ _ (.inl (by simp)); refine Chg.setCell ?_ _ _ (.inl (by simp)); refine Chg.setCell ?_ _ _ (.inl (by simp)); refine Chg.setCell ?_ _ _ (.inl (by simp)); refine Chg.setCell ?_ _ _ (.inl (by simp)); refine Chg.setCell ?_ _ _ (.inl (by simp)); refine Chg.setCell ?_ _ _ (.inl (by simp)); refine Chg.setCell ?_ _ _ (.inl (by simp)); refine Chg.setCell ?_ _ _ (.inl (by simp)); refine Chg.setCell ?_ _ _ (.inl (by simp)); refine Chg.setCell ?_ _ _ (.inl (by simp)); refine Chg.trans0 ?_ HC4.out; refine Chg.setCell ?_ _ _ (.inl (by simp)); exact Chg.refl _ _
  have K11 := intL.sl_chg HS11.out k11 HD11.out
  have F11 := Fresh.chg HF11.out k11
  have k12 : Chg [w.heap.size, w.heap.size + 1, w.heap.size + 1 + 1] w4 (((((((((((((((((((w4.setCell ⟨w.heap.size + 1 + 1, 11, none⟩ (.slice b12 l12 d12)).setCell ⟨w.heap.size + 1 + 1, 12, none⟩ (.int .i64 x.writes)).setCell ⟨w.heap.size + 1 + 1, 13, none⟩ (.int .i64 x.stop)).setCell ⟨w.heap.size + 1 + 1, 14, none⟩ (.bool x.down)).setCell ⟨w.heap.size + 1, 0, none⟩ (.int .i64 x.shape.groups)).setCell ⟨w.heap.size + 1, 1, none⟩ (.int .i64 x.shape.column)).setCell ⟨w.heap.size + 1, 2, none⟩ (.int .i64 x.shape.data)).setCell ⟨w.heap.size + 1, 3, none⟩ (.int .i64 x.shape.spare)).setCell ⟨w.heap.size + 1, 4, none⟩ (.int .i64 x.shape.rows)).setCell ⟨w.heap.size + 1, 5, none⟩ (.int .i64 x.shape.cap)).setCell ⟨w.heap.size + 1, 6, none⟩ (.int .i64 x.shape.batch)).setCell ⟨w.heap.size + 1, 7, none⟩ (.int .i64 x.shape.queue)).setCell ⟨w.heap.size + 1, 8, none⟩ (.int .i64 x.shape.stage)).setCell ⟨w.heap.size + 1, 9, none⟩ (.slice b10 l10 d10)).setCell ⟨w.heap.size + 1, 10, none⟩ (.slice b11 l11 d11)).setCell ⟨w.heap.size + 1, 11, none⟩ (.slice b12 l12 d12)).setCell ⟨w.heap.size + 1, 12, none⟩ (.int .i64 x.writes)).setCell ⟨w.heap.size + 1, 13, none⟩ (.int .i64 x.stop)).setCell ⟨w.heap.size + 1, 14, none⟩ (.bool x.down)) := by refine Chg.setCell ?_ _ _ (.inl (by simp)); refine Chg.setCell ?_ _ _ (.inl (by simp)); refine Chg.setCell ?_ _ _ (.inl (by simp)); refine Chg.setCell ?_ _ _ (.inl (by simp)); refine Chg.setCell ?_ _ _ (.inl (by simp)); refine Chg.setCell ?_ _ _ (.inl (by simp)); refine Chg.setCell ?_ _ _ (.inl (by simp)); refine Chg.setCell ?_ _ _ (.inl (by simp)); refine Chg.setCell ?_ _ _ (.inl (by simp)); refine Chg.setCell ?_ _ _ (.inl (by simp)); refine Chg.setCell ?_ _ _ (.inl (by simp)); refine Chg.setCell ?_ _ _ (.inl (by simp)); refine Chg.setCell ?_ _ _ (.inl (by simp)); refine Chg.setCell ?_ _ _ (.inl (by simp)); refine Chg.setCell ?_ _ _ (.inl (by simp)); refine Chg.setCell ?_ _ _ (.inl (by simp)); refine Chg.setCell ?_ _ _ (.inl (by simp)); refine Chg.setCell ?_ _ _ (.inl (by simp)); refine Chg.setCell ?_ _ _ (.inl (by simp)); exact Chg.refl _ _
  have K12 := tapL.sl_chg HS12.out k12 HD12.out
  have F12 := Fresh.chg HF12.out k12
  have hfr := Fresh.mono (Fresh.append F10 (Fresh.append F11 F12 (Fresh.low HF11.out (by have s1 := HC1.out.size; have s2 := HC2.out.size; have s3 := HC3.out.size; have s4 := HC4.out.size; simp at s1 s2 s3 s4 ⊢ <;> omega)) (by have s1 := HC1.out.size; have s2 := HC2.out.size; have s3 := HC3.out.size; have s4 := HC4.out.size; simp at s1 s2 s3 s4 ⊢ <;> omega)) (Fresh.low HF10.out (by have s1 := HC1.out.size; have s2 := HC2.out.size; have s3 := HC3.out.size; have s4 := HC4.out.size; simp at s1 s2 s3 s4 ⊢ <;> omega)) (by have s1 := HC1.out.size; have s2 := HC2.out.size; have s3 := HC3.out.size; have s4 := HC4.out.size; simp at s1 s2 s3 s4 ⊢ <;> omega)) (show w.heap.size ≤ _ from (by have s1 := HC1.out.size; have s2 := HC2.out.size; have s3 := HC3.out.size; have s4 := HC4.out.size; simp at s1 s2 s3 s4 ⊢ <;> omega))
  refine bodyPost_ret (v := .agg #[.int .i64 x.shape.groups, .int .i64 x.shape.column, .int .i64 x.shape.data, .int .i64 x.shape.spare, .int .i64 x.shape.rows, .int .i64 x.shape.cap, .int .i64 x.shape.batch, .int .i64 x.shape.queue, .int .i64 x.shape.stage, .slice b10 l10 d10, .slice b11 l11 d11, .slice b12 l12 d12, .int .i64 x.writes, .int .i64 x.stop, .bool x.down]) (by simp [results, Tryz.results17, go_sem, hqc]) rfl ⟨_, _, rfl, wldL_iff.2 ⟨b10, l10, d10, g10, b11, l11, d11, g11, b12, l12, d12, g12, rfl, HO.out.1, HO.out.2.1, HO.out.2.2.1, HO.out.2.2.2.1, HO.out.2.2.2.2.1, HO.out.2.2.2.2.2.1, HO.out.2.2.2.2.2.2.1, HO.out.2.2.2.2.2.2.2.1, HO.out.2.2.2.2.2.2.2.2.1, K10, K11, K12, HO.out.2.2.2.2.2.2.2.2.2.1, HO.out.2.2.2.2.2.2.2.2.2.2, rfl⟩, (by simpa using hfr), hch⟩
end Go.Proofs.YtphmpimgbmedbaaGreat
