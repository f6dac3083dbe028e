/- Several texts in one. -/
import Derived.Test.YtphmpimgbmedbaaGreatQae
import Derived.Test.YtphmpimgbmedbaaGreatQal
import Derived.Test.YtphmpimgbmedbaaGreatQaq
import Derived.Deep.DeepCutAuto
import Derived.Deep.CutRange
import Derived.Deep.CutBlock
set_option maxRecDepth 100000
set_option maxHeartbeats 8000000
namespace Go.Proofs.YtphmpimgbmedbaaGreat
open Go.RowKit
open Go.Lib (hid)
theorem q1i : (Tryz.prog.info? 30).map (fun i => i.size) = some 9 := by kernel_rfl
def Shp.small (x : Shp) : Prop := (-1000 ≤ x.gS ∧ x.gS ≤ 1000) ∧ (-1000 ≤ x.cM ∧ x.cM ≤ 1000) ∧ (-1000 ≤ x.data ∧ x.data ≤ 1000) ∧ (-1000 ≤ x.spare ∧ x.spare ≤ 1000) ∧ (-1000 ≤ x.rows ∧ x.rows ≤ 1000) ∧ (-1000 ≤ x.cap ∧ x.cap ≤ 1000) ∧ (-1000 ≤ x.bT ∧ x.bT ≤ 1000) ∧ (-1000 ≤ x.qU ∧ x.qU ≤ 1000) ∧ (-1000 ≤ x.sG ∧ x.sG ≤ 1000)
def ShapeDraw (R : Shp → Prop) (b : Nat) (a : Option Addr) (la ca : Nat) (xs : List UInt8) (f : List Nat) (t : Int) (w0 : World) (e : Ending) (w' : World) : Prop :=
 ∃ x : Shp, e = .returned (.agg x.cells) ∧ R x ∧ SrcB b a la ca xs f t w' ∧ Chg [b] w0 w'
theorem shape_any (b : Nat) (a : Option Addr) (la ca : Nat) (xs : List UInt8) (f : List Nat) (t : Int) (w : World) (h : SrcB b a la ca xs f t w) (ht : t ≤ 1073741600) :
  Calls Tryz.prog 207 #[.pointer (some ⟨b, 0, none⟩)] w (ShapeDraw (fun x => x.ok ∧ x.gS ≤ 4 ∧ x.rows ≤ 4) b a la ca xs f (t + 9) w) := by
 have HS0 := hid (h.ext ((Chg.refl [] w).alloc (.cells #[.int .i64 0, .int .i64 0, .int .i64 0, .int .i64 0, .int .i64 0, .int .i64 0, .int .i64 0, .int .i64 0, .int .i64 0] 30)))
 have HC0 := hid (((Chg.refl [b] w).alloc (.cells #[.int .i64 0, .int .i64 0, .int .i64 0, .int .i64 0, .int .i64 0, .int .i64 0, .int .i64 0, .int .i64 0, .int .i64 0] 30)))
 have HX0 := hid (q0o w (.cells #[.int .i64 0, .int .i64 0, .int .i64 0, .int .i64 0, .int .i64 0, .int .i64 0, .int .i64 0, .int .i64 0, .int .i64 0] 30))
 have HBN := hid (show w.heap.size ∉ [b] from fun hm => by rw [List.mem_singleton] at hm; have := h.lt; omega)
 have HF := hid (fun x (hx : x ∈ f) => q0p.sl_lt h.2.1 x hx)
 clear h
 go_enter Tryz.func207, Tryz.ntmps207
 go_wp2_with fail
 refine (q0x b a la ca xs f (t) 4 [2, 3, 1, 4] _ HS0.out (by omega) (by simp [q0u]) rfl (by omega) (by omega) _ rfl _ (by simp)).mono ?_
 rintro e w1 ⟨v0, rfl, hd, hs, hc⟩
 have HS1 := hid hs; have HC1 := hid (HC0.out.trans hc (fun x hx => .inl hx)); have HX1 := hid (hc.keepb HX0.out HBN.out)
 have hb0 : v0 = 1 ∨ v0 = 2 ∨ v0 = 3 ∨ v0 = 4 := by simp only [List.mem_cons, List.not_mem_nil, or_false] at hd; omega
 clear hs hc hd
 go_wp2_with fail
 refine (q0x b a la ca xs f (t + 1) 4 [1, 2, 1, 0] _ HS1.out (by omega) (by simp [q0u]) rfl (by omega) (by omega) _ rfl _ (by simp)).mono ?_
 rintro e w2 ⟨v1, rfl, hd, hs, hc⟩
 have HS2 := hid hs; have HC2 := hid (HC1.out.trans hc (fun x hx => .inl hx)); have HX2 := hid (hc.keepb HX1.out HBN.out)
 have hb1 : v1 = 0 ∨ v1 = 1 ∨ v1 = 2 := by simp only [List.mem_cons, List.not_mem_nil, or_false] at hd; omega
 clear hs hc hd
 go_wp2_with fail
 refine (q0x b a la ca xs f (t + 1 + 1) 3 [2, 1, 3] _ HS2.out (by omega) (by simp [q0u]) rfl (by omega) (by omega) _ rfl _ (by simp)).mono ?_
 rintro e w3 ⟨v2, rfl, hd, hs, hc⟩
 have HS3 := hid hs; have HC3 := hid (HC2.out.trans hc (fun x hx => .inl hx)); have HX3 := hid (hc.keepb HX2.out HBN.out)
 have hb2 : v2 = 1 ∨ v2 = 2 ∨ v2 = 3 := by simp only [List.mem_cons, List.not_mem_nil, or_false] at hd; omega
 clear hs hc hd
 go_wp2_with fail
 refine (q0x b a la ca xs f (t + 1 + 1 + 1) 3 [1, 0, 2] _ HS3.out (by omega) (by simp [q0u]) rfl (by omega) (by omega) _ rfl _ (by simp)).mono ?_
 rintro e w4 ⟨v3, rfl, hd, hs, hc⟩
 have HS4 := hid hs; have HC4 := hid (HC3.out.trans hc (fun x hx => .inl hx)); have HX4 := hid (hc.keepb HX3.out HBN.out)
 have hb3 : v3 = 0 ∨ v3 = 1 ∨ v3 = 2 := by simp only [List.mem_cons, List.not_mem_nil, or_false] at hd; omega
 clear hs hc hd
 go_wp2_with fail
 refine (q0x b a la ca xs f (t + 1 + 1 + 1 + 1) 3 [2, 3, 4] _ HS4.out (by omega) (by simp [q0u]) rfl (by omega) (by omega) _ rfl _ (by simp)).mono ?_
 rintro e w5 ⟨v4, rfl, hd, hs, hc⟩
 have HS5 := hid hs; have HC5 := hid (HC4.out.trans hc (fun x hx => .inl hx)); have HX5 := hid (hc.keepb HX4.out HBN.out)
 have hb4 : v4 = 2 ∨ v4 = 3 ∨ v4 = 4 := by simp only [List.mem_cons, List.not_mem_nil, or_false] at hd; omega
 clear hs hc hd
 go_wp2_with fail
 refine (q0x b a la ca xs f (t + 1 + 1 + 1 + 1 + 1) 3 [1, 2, 3] _ HS5.out (by omega) (by simp [q0u]) rfl (by omega) (by omega) _ rfl _ (by simp)).mono ?_
 rintro e w6 ⟨v5, rfl, hd, hs, hc⟩
 have HS6 := hid hs; have HC6 := hid (HC5.out.trans hc (fun x hx => .inl hx)); have HX6 := hid (hc.keepb HX5.out HBN.out)
 have hb5 : v5 = 1 ∨ v5 = 2 ∨ v5 = 3 := by simp only [List.mem_cons, List.not_mem_nil, or_false] at hd; omega
 clear hs hc hd
 go_wp2_with fail
 refine (q0x b a la ca xs f (t + 1 + 1 + 1 + 1 + 1 + 1) 2 [1, 2] _ HS6.out (by omega) (by simp [q0u]) rfl (by omega) (by omega) _ rfl _ (by simp)).mono ?_
 rintro e w7 ⟨v6, rfl, hd, hs, hc⟩
 have HS7 := hid hs; have HC7 := hid (HC6.out.trans hc (fun x hx => .inl hx)); have HX7 := hid (hc.keepb HX6.out HBN.out)
 have hb6 : v6 = 1 ∨ v6 = 2 := by simp only [List.mem_cons, List.not_mem_nil, or_false] at hd; omega
 clear hs hc hd
 go_wp2_with fail
 refine (q0x b a la ca xs f (t + 1 + 1 + 1 + 1 + 1 + 1 + 1) 3 [1, 2, 3] _ HS7.out (by omega) (by simp [q0u]) rfl (by omega) (by omega) _ rfl _ (by simp)).mono ?_
 rintro e w8 ⟨v7, rfl, hd, hs, hc⟩
 have HS8 := hid hs; have HC8 := hid (HC7.out.trans hc (fun x hx => .inl hx)); have HX8 := hid (hc.keepb HX7.out HBN.out)
 have hb7 : v7 = 1 ∨ v7 = 2 ∨ v7 = 3 := by simp only [List.mem_cons, List.not_mem_nil, or_false] at hd; omega
 clear hs hc hd
 go_wp2_with fail
 refine (q0x b a la ca xs f (t + 1 + 1 + 1 + 1 + 1 + 1 + 1 + 1) 4 [60, 20, 100, 400] _ HS8.out (by omega) (by simp [q0u]) rfl (by omega) (by omega) _ rfl _ (by simp)).mono ?_
 rintro e w9 ⟨v8, rfl, hd, hs, hc⟩
 have HS9 := hid hs; have HC9 := hid (HC8.out.trans hc (fun x hx => .inl hx)); have HX9 := hid (hc.keepb HX8.out HBN.out)
 have hb8 : v8 = 20 ∨ v8 = 60 ∨ v8 = 100 ∨ v8 = 400 := by simp only [List.mem_cons, List.not_mem_nil, or_false] at hd; omega
 clear hs hc hd
 have c9 := cellsOf HX9.out; have l9 := ltOf HX9.out; have f9 := q0c HX9.out
 have HOK := hid (show (⟨v0, v1, v2, v3, v4, v5, v6, v7, v8⟩ : Shp).ok ∧ v0 ≤ 4 ∧ v4 ≤ 4 from ⟨by unfold Shp.ok; dsimp only; omega, by omega, by omega⟩)
 clear hb0 hb1 hb2 hb3 hb4 hb5 hb6 hb7 hb8
 go_wp2_with (refine q0z rfl _ _ 30 rfl rfl rfl q1i HX9.out rfl rfl rfl ?_; intro w10 hb hc; have HB := hid hb; have HC := hid hc; clear hb hc)
 refine bodyPost_ret (v := .agg #[.int .i64 v0, .int .i64 v1, .int .i64 v2, .int .i64 v3, .int .i64 v4, .int .i64 v5, .int .i64 v6, .int .i64 v7, .int .i64 v8]) (q0t _ 30 rfl rfl q1i Tryz.underlying30 HB.out rfl) rfl ?_
 have hlb : ∀ y, y ∈ [w.heap.size] → y ∈ [b] ∨ w.heap.size ≤ y := fun y hy => .inr (by rw [List.mem_singleton] at hy; omega)
 exact ⟨⟨v0, v1, v2, v3, v4, v5, v6, v7, v8⟩, rfl, HOK.out, (HS9.out.chg HC.out (fun hm => by rw [List.mem_singleton] at hm; exact HBN.out (by rw [hm]; simp)) (fun x hx hm => by
  rw [List.mem_singleton] at hm
  have h1 := HF.out x hx
  omega)).mono (by omega), HC9.out.trans HC.out hlb⟩
theorem Shp.small_of_ok {x : Shp} (h : x.ok) : x.small := by unfold Shp.ok at h; unfold Shp.small; omega
theorem bent_any (b : Nat) (a : Option Addr) (la ca : Nat) (xs : List UInt8) (f : List Nat) (t : Int) (w : World) (h : SrcB b a la ca xs f t w) (ht : t ≤ 1073741600) :
  Calls Tryz.prog 209 #[.pointer (some ⟨b, 0, none⟩)] w (ShapeDraw Shp.small b a la ca xs f (t + 11) w) := by
 have HF := hid (fun x (hx : x ∈ f) => q0p.sl_lt h.2.1 x hx)
 have hbw := h.lt
 have HS := hid h
 clear h
 go_enter Tryz.func209, Tryz.ntmps209
 go_wp2_with fail
 refine (shape_any b a la ca xs f t _ (HS.out.ext ((Chg.refl [] w).alloc _)) ht).mono ?_
 rintro e w1 ⟨x, rfl, hok, hs1, hc1⟩
 have HSM := hid (Shp.small_of_ok hok.1)
 have HS1 := hid hs1
 have hnb : w.heap.size ∉ [b] := fun hm => by rw [List.mem_singleton] at hm; omega
 have HR1 := hid (hc1.keepb (q0o w _) hnb)
 have HC1 := hid (((Chg.refl [b] w).alloc _).trans hc1 (fun y hy => .inl hy))
 have hsz : w.heap.size + 1 ≤ w1.heap.size := by have := hc1.size; simpa using this
 clear hs1 hc1 hok
 obtain ⟨g, c, d, p, r, q, bb, u, tt⟩ := x
 simp only [Shp.cells]
 have HX1 := hid (q0o w1 (.cells #[.int .i64 g, .int .i64 c, .int .i64 d, .int .i64 p, .int .i64 r, .int .i64 q, .int .i64 bb, .int .i64 u, .int .i64 tt] 30))
 have HNW := hid (show w1.heap.size ∉ [b] from fun hm => by rw [List.mem_singleton] at hm; omega)
 have hnw : w.heap.size ≠ w1.heap.size := by omega
 go_wp2_with (refine q2l rfl _ _ 30 rfl rfl rfl rfl q1i rfl rfl rfl ?_)
 refine (q1g b a la ca xs f (t + 9) 24 _ (HS1.out.ext ((Chg.refl [] w1).alloc _)) (by omega) (by omega) (by omega)).mono ?_
 rintro e w2 ⟨v, rfl, -, hs2, hc2⟩
 have HS2 := hid hs2
 have HX2 := hid (hc2.keepb HX1.out HNW.out)
 have HR2 := hid (hc2.keepb (q0b HR1.out _) hnb)
 have HC2 := hid ((HC1.out.alloc _).trans hc2 (fun y hy => .inl hy))
 clear hs2 hc2
 by_cases hv0 : v = 0
 ·subst hv0
  go_wp2_with fail
  refine (q0x b a la ca xs f (t + 9 + 1) 2 [0, 5] _ HS2.out (by omega) (by simp [q0u]) rfl (by omega) (by omega) _ rfl _ rfl).mono ?_
  rintro e w3 ⟨v3, rfl, hd, hs3, hc3⟩
  have hb3 : -1000 ≤ v3 ∧ v3 ≤ 1000 := by simp only [List.mem_cons, List.not_mem_nil, or_false] at hd; omega
  have HX3 := hid (hc3.keepb HX2.out HNW.out); have HR3 := hid (hc3.keepb HR2.out hnb)
  have HC3 := hid ((HC2.out.trans hc3 (fun y hy => .inl hy)).setCell ⟨w1.heap.size, 0, none⟩ (.int .i64 v3) (.inr (by show w.heap.size ≤ w1.heap.size; omega)))
  have HS4 := hid (hs3.chg ((Chg.refl [w1.heap.size] w3).setCell ⟨w1.heap.size, 0, none⟩ (.int .i64 v3) (.inl (by simp))) (fun hm => by rw [List.mem_singleton] at hm; exact HNW.out (by rw [hm]; simp)) (fun x hx hm => by rw [List.mem_singleton] at hm; have h1 := HF.out x hx; omega))
  have HX4 := hid (show (w3.setCell ⟨w1.heap.size, 0, none⟩ (.int .i64 v3)).heap[w1.heap.size]? = some (.cells #[.int .i64 v3, .int .i64 c, .int .i64 d, .int .i64 p, .int .i64 r, .int .i64 q, .int .i64 bb, .int .i64 u, .int .i64 tt] 30 (0, 0)) from q0m HX3.out rfl)
  have HR4 := hid (q0q HR3.out ⟨w1.heap.size, 0, none⟩ (.int .i64 v3) hnw)
  have HN := hid (show Shp.small ⟨v3, c, d, p, r, q, bb, u, tt⟩ from by have := HSM.out; unfold Shp.small at this ⊢; dsimp only at this ⊢; omega)
  have c3 := cellsOf HX3.out; have l3 := ltOf HX3.out; have f3 := q0c HX3.out
  clear hs3 hc3 hd hb3
  go_upto_region 21 with fail
  clear c3 l3 f3
  have cX := cellsOf HX4.out; have lX := ltOf HX4.out; have fX := q0c HX4.out
  go_wp2_with (first | (refine q1c rfl _ 30 rfl rfl q1i Tryz.underlying30 HX4.out rfl ?_) | (refine q0z rfl _ _ 30 rfl rfl rfl q1i HR4.out rfl rfl rfl ?_; intro w10 hb hc; have HB := hid hb; have HC := hid hc; clear hb hc))
  refine bodyPost_ret (v := .agg #[.int .i64 v3, .int .i64 c, .int .i64 d, .int .i64 p, .int .i64 r, .int .i64 q, .int .i64 bb, .int .i64 u, .int .i64 tt]) (q0t _ 30 rfl rfl q1i Tryz.underlying30 HB.out rfl) rfl ?_
  exact ⟨⟨v3, c, d, p, r, q, bb, u, tt⟩, rfl, HN.out, (HS4.out.chg HC.out (fun hm => by rw [List.mem_singleton] at hm; exact hnb (by rw [hm]; simp)) (fun x hx hm => by
   rw [List.mem_singleton] at hm
   have h1 := HF.out x hx
   omega)).mono (by omega), HC3.out.trans HC.out (fun y hy => .inr (by rw [List.mem_singleton] at hy; omega))⟩
 ·have hw0 : (v == 0) = false := by simpa using hv0
  clear hv0
  by_cases hv1 : v = 1
  ·subst hv1
   go_wp2_with fail
   refine (q0x b a la ca xs f (t + 9 + 1) 2 [-1, 3] _ HS2.out (by omega) (by simp [q0u]) rfl (by omega) (by omega) _ rfl _ rfl).mono ?_
   rintro e w3 ⟨v3, rfl, hd, hs3, hc3⟩
   have hb3 : -1000 ≤ v3 ∧ v3 ≤ 1000 := by simp only [List.mem_cons, List.not_mem_nil, or_false] at hd; omega
   have HX3 := hid (hc3.keepb HX2.out HNW.out); have HR3 := hid (hc3.keepb HR2.out hnb)
   have HC3 := hid ((HC2.out.trans hc3 (fun y hy => .inl hy)).setCell ⟨w1.heap.size, 1, none⟩ (.int .i64 v3) (.inr (by show w.heap.size ≤ w1.heap.size; omega)))
   have HS4 := hid (hs3.chg ((Chg.refl [w1.heap.size] w3).setCell ⟨w1.heap.size, 1, none⟩ (.int .i64 v3) (.inl (by simp))) (fun hm => by rw [List.mem_singleton] at hm; exact HNW.out (by rw [hm]; simp)) (fun x hx hm => by rw [List.mem_singleton] at hm; have h1 := HF.out x hx; omega))
   have HX4 := hid (show (w3.setCell ⟨w1.heap.size, 1, none⟩ (.int .i64 v3)).heap[w1.heap.size]? = some (.cells #[.int .i64 g, .int .i64 v3, .int .i64 d, .int .i64 p, .int .i64 r, .int .i64 q, .int .i64 bb, .int .i64 u, .int .i64 tt] 30 (0, 0)) from q0m HX3.out rfl)
   have HR4 := hid (q0q HR3.out ⟨w1.heap.size, 1, none⟩ (.int .i64 v3) hnw)
   have HN := hid (show Shp.small ⟨g, v3, d, p, r, q, bb, u, tt⟩ from by have := HSM.out; unfold Shp.small at this ⊢; dsimp only at this ⊢; omega)
   have c3 := cellsOf HX3.out; have l3 := ltOf HX3.out; have f3 := q0c HX3.out
   clear hs3 hc3 hd hb3
   go_upto_region 21 with fail
   clear c3 l3 f3
   have cX := cellsOf HX4.out; have lX := ltOf HX4.out; have fX := q0c HX4.out
   go_wp2_with (first | (refine q1c rfl _ 30 rfl rfl q1i Tryz.underlying30 HX4.out rfl ?_) | (refine q0z rfl _ _ 30 rfl rfl rfl q1i HR4.out rfl rfl rfl ?_; intro w10 hb hc; have HB := hid hb; have HC := hid hc; clear hb hc))
   refine bodyPost_ret (v := .agg #[.int .i64 g, .int .i64 v3, .int .i64 d, .int .i64 p, .int .i64 r, .int .i64 q, .int .i64 bb, .int .i64 u, .int .i64 tt]) (q0t _ 30 rfl rfl q1i Tryz.underlying30 HB.out rfl) rfl ?_
   exact ⟨⟨g, v3, d, p, r, q, bb, u, tt⟩, rfl, HN.out, (HS4.out.chg HC.out (fun hm => by rw [List.mem_singleton] at hm; exact hnb (by rw [hm]; simp)) (fun x hx hm => by
    rw [List.mem_singleton] at hm
    have h1 := HF.out x hx
    omega)).mono (by omega), HC3.out.trans HC.out (fun y hy => .inr (by rw [List.mem_singleton] at hy; omega))⟩
  ·have hw1 : (v == 1) = false := by simpa using hv1
   clear hv1
   by_cases hv2 : v = 2
   ·subst hv2
    go_wp2_with fail
    refine (q0x b a la ca xs f (t + 9 + 1) 2 [0, 4] _ HS2.out (by omega) (by simp [q0u]) rfl (by omega) (by omega) _ rfl _ rfl).mono ?_
    rintro e w3 ⟨v3, rfl, hd, hs3, hc3⟩
    have hb3 : -1000 ≤ v3 ∧ v3 ≤ 1000 := by simp only [List.mem_cons, List.not_mem_nil, or_false] at hd; omega
    have HX3 := hid (hc3.keepb HX2.out HNW.out); have HR3 := hid (hc3.keepb HR2.out hnb)
    have HC3 := hid ((HC2.out.trans hc3 (fun y hy => .inl hy)).setCell ⟨w1.heap.size, 2, none⟩ (.int .i64 v3) (.inr (by show w.heap.size ≤ w1.heap.size; omega)))
    have HS4 := hid (hs3.chg ((Chg.refl [w1.heap.size] w3).setCell ⟨w1.heap.size, 2, none⟩ (.int .i64 v3) (.inl (by simp))) (fun hm => by rw [List.mem_singleton] at hm; exact HNW.out (by rw [hm]; simp)) (fun x hx hm => by rw [List.mem_singleton] at hm; have h1 := HF.out x hx; omega))
    have HX4 := hid (show (w3.setCell ⟨w1.heap.size, 2, none⟩ (.int .i64 v3)).heap[w1.heap.size]? = some (.cells #[.int .i64 g, .int .i64 c, .int .i64 v3, .int .i64 p, .int .i64 r, .int .i64 q, .int .i64 bb, .int .i64 u, .int .i64 tt] 30 (0, 0)) from q0m HX3.out rfl)
    have HR4 := hid (q0q HR3.out ⟨w1.heap.size, 2, none⟩ (.int .i64 v3) hnw)
    have HN := hid (show Shp.small ⟨g, c, v3, p, r, q, bb, u, tt⟩ from by have := HSM.out; unfold Shp.small at this ⊢; dsimp only at this ⊢; omega)
    have c3 := cellsOf HX3.out; have l3 := ltOf HX3.out; have f3 := q0c HX3.out
    clear hs3 hc3 hd hb3
    go_upto_region 21 with fail
    clear c3 l3 f3
    have cX := cellsOf HX4.out; have lX := ltOf HX4.out; have fX := q0c HX4.out
    go_wp2_with (first | (refine q1c rfl _ 30 rfl rfl q1i Tryz.underlying30 HX4.out rfl ?_) | (refine q0z rfl _ _ 30 rfl rfl rfl q1i HR4.out rfl rfl rfl ?_; intro w10 hb hc; have HB := hid hb; have HC := hid hc; clear hb hc))
    refine bodyPost_ret (v := .agg #[.int .i64 g, .int .i64 c, .int .i64 v3, .int .i64 p, .int .i64 r, .int .i64 q, .int .i64 bb, .int .i64 u, .int .i64 tt]) (q0t _ 30 rfl rfl q1i Tryz.underlying30 HB.out rfl) rfl ?_
    exact ⟨⟨g, c, v3, p, r, q, bb, u, tt⟩, rfl, HN.out, (HS4.out.chg HC.out (fun hm => by rw [List.mem_singleton] at hm; exact hnb (by rw [hm]; simp)) (fun x hx hm => by
     rw [List.mem_singleton] at hm
     have h1 := HF.out x hx
     omega)).mono (by omega), HC3.out.trans HC.out (fun y hy => .inr (by rw [List.mem_singleton] at hy; omega))⟩
   ·have hw2 : (v == 2) = false := by simpa using hv2
    clear hv2
    by_cases hv3 : v = 3
    ·subst hv3
     go_wp2_with fail
     refine (q0x b a la ca xs f (t + 9 + 1) 2 [-1, 3] _ HS2.out (by omega) (by simp [q0u]) rfl (by omega) (by omega) _ rfl _ rfl).mono ?_
     rintro e w3 ⟨v3, rfl, hd, hs3, hc3⟩
     have hb3 : -1000 ≤ v3 ∧ v3 ≤ 1000 := by simp only [List.mem_cons, List.not_mem_nil, or_false] at hd; omega
     have HX3 := hid (hc3.keepb HX2.out HNW.out); have HR3 := hid (hc3.keepb HR2.out hnb)
     have HC3 := hid ((HC2.out.trans hc3 (fun y hy => .inl hy)).setCell ⟨w1.heap.size, 3, none⟩ (.int .i64 v3) (.inr (by show w.heap.size ≤ w1.heap.size; omega)))
     have HS4 := hid (hs3.chg ((Chg.refl [w1.heap.size] w3).setCell ⟨w1.heap.size, 3, none⟩ (.int .i64 v3) (.inl (by simp))) (fun hm => by rw [List.mem_singleton] at hm; exact HNW.out (by rw [hm]; simp)) (fun x hx hm => by rw [List.mem_singleton] at hm; have h1 := HF.out x hx; omega))
     have HX4 := hid (show (w3.setCell ⟨w1.heap.size, 3, none⟩ (.int .i64 v3)).heap[w1.heap.size]? = some (.cells #[.int .i64 g, .int .i64 c, .int .i64 d, .int .i64 v3, .int .i64 r, .int .i64 q, .int .i64 bb, .int .i64 u, .int .i64 tt] 30 (0, 0)) from q0m HX3.out rfl)
     have HR4 := hid (q0q HR3.out ⟨w1.heap.size, 3, none⟩ (.int .i64 v3) hnw)
     have HN := hid (show Shp.small ⟨g, c, d, v3, r, q, bb, u, tt⟩ from by have := HSM.out; unfold Shp.small at this ⊢; dsimp only at this ⊢; omega)
     have c3 := cellsOf HX3.out; have l3 := ltOf HX3.out; have f3 := q0c HX3.out
     clear hs3 hc3 hd hb3
     go_upto_region 21 with fail
     clear c3 l3 f3
     have cX := cellsOf HX4.out; have lX := ltOf HX4.out; have fX := q0c HX4.out
     go_wp2_with (first | (refine q1c rfl _ 30 rfl rfl q1i Tryz.underlying30 HX4.out rfl ?_) | (refine q0z rfl _ _ 30 rfl rfl rfl q1i HR4.out rfl rfl rfl ?_; intro w10 hb hc; have HB := hid hb; have HC := hid hc; clear hb hc))
     refine bodyPost_ret (v := .agg #[.int .i64 g, .int .i64 c, .int .i64 d, .int .i64 v3, .int .i64 r, .int .i64 q, .int .i64 bb, .int .i64 u, .int .i64 tt]) (q0t _ 30 rfl rfl q1i Tryz.underlying30 HB.out rfl) rfl ?_
     exact ⟨⟨g, c, d, v3, r, q, bb, u, tt⟩, rfl, HN.out, (HS4.out.chg HC.out (fun hm => by rw [List.mem_singleton] at hm; exact hnb (by rw [hm]; simp)) (fun x hx hm => by
      rw [List.mem_singleton] at hm
      have h1 := HF.out x hx
      omega)).mono (by omega), HC3.out.trans HC.out (fun y hy => .inr (by rw [List.mem_singleton] at hy; omega))⟩
    ·have hw3 : (v == 3) = false := by simpa using hv3
     clear hv3
     by_cases hv4 : v = 4
     ·subst hv4
      go_wp2_with fail
      refine (q0x b a la ca xs f (t + 9 + 1) 3 [0, 7, 6] _ HS2.out (by omega) (by simp [q0u]) rfl (by omega) (by omega) _ rfl _ rfl).mono ?_
      rintro e w3 ⟨v3, rfl, hd, hs3, hc3⟩
      have hb3 : -1000 ≤ v3 ∧ v3 ≤ 1000 := by simp only [List.mem_cons, List.not_mem_nil, or_false] at hd; omega
      have HX3 := hid (hc3.keepb HX2.out HNW.out); have HR3 := hid (hc3.keepb HR2.out hnb)
      have HC3 := hid ((HC2.out.trans hc3 (fun y hy => .inl hy)).setCell ⟨w1.heap.size, 4, none⟩ (.int .i64 v3) (.inr (by show w.heap.size ≤ w1.heap.size; omega)))
      have HS4 := hid (hs3.chg ((Chg.refl [w1.heap.size] w3).setCell ⟨w1.heap.size, 4, none⟩ (.int .i64 v3) (.inl (by simp))) (fun hm => by rw [List.mem_singleton] at hm; exact HNW.out (by rw [hm]; simp)) (fun x hx hm => by rw [List.mem_singleton] at hm; have h1 := HF.out x hx; omega))
      have HX4 := hid (show (w3.setCell ⟨w1.heap.size, 4, none⟩ (.int .i64 v3)).heap[w1.heap.size]? = some (.cells #[.int .i64 g, .int .i64 c, .int .i64 d, .int .i64 p, .int .i64 v3, .int .i64 q, .int .i64 bb, .int .i64 u, .int .i64 tt] 30 (0, 0)) from q0m HX3.out rfl)
      have HR4 := hid (q0q HR3.out ⟨w1.heap.size, 4, none⟩ (.int .i64 v3) hnw)
      have HN := hid (show Shp.small ⟨g, c, d, p, v3, q, bb, u, tt⟩ from by have := HSM.out; unfold Shp.small at this ⊢; dsimp only at this ⊢; omega)
      have c3 := cellsOf HX3.out; have l3 := ltOf HX3.out; have f3 := q0c HX3.out
      clear hs3 hc3 hd hb3
      go_upto_region 21 with fail
      clear c3 l3 f3
      have cX := cellsOf HX4.out; have lX := ltOf HX4.out; have fX := q0c HX4.out
      go_wp2_with (first | (refine q1c rfl _ 30 rfl rfl q1i Tryz.underlying30 HX4.out rfl ?_) | (refine q0z rfl _ _ 30 rfl rfl rfl q1i HR4.out rfl rfl rfl ?_; intro w10 hb hc; have HB := hid hb; have HC := hid hc; clear hb hc))
      refine bodyPost_ret (v := .agg #[.int .i64 g, .int .i64 c, .int .i64 d, .int .i64 p, .int .i64 v3, .int .i64 q, .int .i64 bb, .int .i64 u, .int .i64 tt]) (q0t _ 30 rfl rfl q1i Tryz.underlying30 HB.out rfl) rfl ?_
      exact ⟨⟨g, c, d, p, v3, q, bb, u, tt⟩, rfl, HN.out, (HS4.out.chg HC.out (fun hm => by rw [List.mem_singleton] at hm; exact hnb (by rw [hm]; simp)) (fun x hx hm => by
       rw [List.mem_singleton] at hm
       have h1 := HF.out x hx
       omega)).mono (by omega), HC3.out.trans HC.out (fun y hy => .inr (by rw [List.mem_singleton] at hy; omega))⟩
     ·have hw4 : (v == 4) = false := by simpa using hv4
      clear hv4
      by_cases hv5 : v = 5
      ·subst hv5
       go_wp2_with fail
       refine (q0x b a la ca xs f (t + 9 + 1) 3 [0, 7, 6] _ HS2.out (by omega) (by simp [q0u]) rfl (by omega) (by omega) _ rfl _ rfl).mono ?_
       rintro e w3 ⟨v3, rfl, hd, hs3, hc3⟩
       have hb3 : -1000 ≤ v3 ∧ v3 ≤ 1000 := by simp only [List.mem_cons, List.not_mem_nil, or_false] at hd; omega
       have HX3 := hid (hc3.keepb HX2.out HNW.out); have HR3 := hid (hc3.keepb HR2.out hnb)
       have HC3 := hid ((HC2.out.trans hc3 (fun y hy => .inl hy)).setCell ⟨w1.heap.size, 5, none⟩ (.int .i64 v3) (.inr (by show w.heap.size ≤ w1.heap.size; omega)))
       have HS4 := hid (hs3.chg ((Chg.refl [w1.heap.size] w3).setCell ⟨w1.heap.size, 5, none⟩ (.int .i64 v3) (.inl (by simp))) (fun hm => by rw [List.mem_singleton] at hm; exact HNW.out (by rw [hm]; simp)) (fun x hx hm => by rw [List.mem_singleton] at hm; have h1 := HF.out x hx; omega))
       have HX4 := hid (show (w3.setCell ⟨w1.heap.size, 5, none⟩ (.int .i64 v3)).heap[w1.heap.size]? = some (.cells #[.int .i64 g, .int .i64 c, .int .i64 d, .int .i64 p, .int .i64 r, .int .i64 v3, .int .i64 bb, .int .i64 u, .int .i64 tt] 30 (0, 0)) from q0m HX3.out rfl)
       have HR4 := hid (q0q HR3.out ⟨w1.heap.size, 5, none⟩ (.int .i64 v3) hnw)
       have HN := hid (show Shp.small ⟨g, c, d, p, r, v3, bb, u, tt⟩ from by have := HSM.out; unfold Shp.small at this ⊢; dsimp only at this ⊢; omega)
       have c3 := cellsOf HX3.out; have l3 := ltOf HX3.out; have f3 := q0c HX3.out
       clear hs3 hc3 hd hb3
       go_upto_region 21 with fail
       clear c3 l3 f3
       have cX := cellsOf HX4.out; have lX := ltOf HX4.out; have fX := q0c HX4.out
       go_wp2_with (first | (refine q1c rfl _ 30 rfl rfl q1i Tryz.underlying30 HX4.out rfl ?_) | (refine q0z rfl _ _ 30 rfl rfl rfl q1i HR4.out rfl rfl rfl ?_; intro w10 hb hc; have HB := hid hb; have HC := hid hc; clear hb hc))
       refine bodyPost_ret (v := .agg #[.int .i64 g, .int .i64 c, .int .i64 d, .int .i64 p, .int .i64 r, .int .i64 v3, .int .i64 bb, .int .i64 u, .int .i64 tt]) (q0t _ 30 rfl rfl q1i Tryz.underlying30 HB.out rfl) rfl ?_
       exact ⟨⟨g, c, d, p, r, v3, bb, u, tt⟩, rfl, HN.out, (HS4.out.chg HC.out (fun hm => by rw [List.mem_singleton] at hm; exact hnb (by rw [hm]; simp)) (fun x hx hm => by
        rw [List.mem_singleton] at hm
        have h1 := HF.out x hx
        omega)).mono (by omega), HC3.out.trans HC.out (fun y hy => .inr (by rw [List.mem_singleton] at hy; omega))⟩
      ·have hw5 : (v == 5) = false := by simpa using hv5
       clear hv5
       by_cases hv6 : v = 6
       ·subst hv6
        go_wp2_with fail
        refine (q0x b a la ca xs f (t + 9 + 1) 3 [0, 5, 4] _ HS2.out (by omega) (by simp [q0u]) rfl (by omega) (by omega) _ rfl _ rfl).mono ?_
        rintro e w3 ⟨v3, rfl, hd, hs3, hc3⟩
        have hb3 : -1000 ≤ v3 ∧ v3 ≤ 1000 := by simp only [List.mem_cons, List.not_mem_nil, or_false] at hd; omega
        have HX3 := hid (hc3.keepb HX2.out HNW.out); have HR3 := hid (hc3.keepb HR2.out hnb)
        have HC3 := hid ((HC2.out.trans hc3 (fun y hy => .inl hy)).setCell ⟨w1.heap.size, 6, none⟩ (.int .i64 v3) (.inr (by show w.heap.size ≤ w1.heap.size; omega)))
        have HS4 := hid (hs3.chg ((Chg.refl [w1.heap.size] w3).setCell ⟨w1.heap.size, 6, none⟩ (.int .i64 v3) (.inl (by simp))) (fun hm => by rw [List.mem_singleton] at hm; exact HNW.out (by rw [hm]; simp)) (fun x hx hm => by rw [List.mem_singleton] at hm; have h1 := HF.out x hx; omega))
        have HX4 := hid (show (w3.setCell ⟨w1.heap.size, 6, none⟩ (.int .i64 v3)).heap[w1.heap.size]? = some (.cells #[.int .i64 g, .int .i64 c, .int .i64 d, .int .i64 p, .int .i64 r, .int .i64 q, .int .i64 v3, .int .i64 u, .int .i64 tt] 30 (0, 0)) from q0m HX3.out rfl)
        have HR4 := hid (q0q HR3.out ⟨w1.heap.size, 6, none⟩ (.int .i64 v3) hnw)
        have HN := hid (show Shp.small ⟨g, c, d, p, r, q, v3, u, tt⟩ from by have := HSM.out; unfold Shp.small at this ⊢; dsimp only at this ⊢; omega)
        have c3 := cellsOf HX3.out; have l3 := ltOf HX3.out; have f3 := q0c HX3.out
        clear hs3 hc3 hd hb3
        go_upto_region 21 with fail
        clear c3 l3 f3
        have cX := cellsOf HX4.out; have lX := ltOf HX4.out; have fX := q0c HX4.out
        go_wp2_with (first | (refine q1c rfl _ 30 rfl rfl q1i Tryz.underlying30 HX4.out rfl ?_) | (refine q0z rfl _ _ 30 rfl rfl rfl q1i HR4.out rfl rfl rfl ?_; intro w10 hb hc; have HB := hid hb; have HC := hid hc; clear hb hc))
        refine bodyPost_ret (v := .agg #[.int .i64 g, .int .i64 c, .int .i64 d, .int .i64 p, .int .i64 r, .int .i64 q, .int .i64 v3, .int .i64 u, .int .i64 tt]) (q0t _ 30 rfl rfl q1i Tryz.underlying30 HB.out rfl) rfl ?_
        exact ⟨⟨g, c, d, p, r, q, v3, u, tt⟩, rfl, HN.out, (HS4.out.chg HC.out (fun hm => by rw [List.mem_singleton] at hm; exact hnb (by rw [hm]; simp)) (fun x hx hm => by
         rw [List.mem_singleton] at hm
         have h1 := HF.out x hx
         omega)).mono (by omega), HC3.out.trans HC.out (fun y hy => .inr (by rw [List.mem_singleton] at hy; omega))⟩
       ·have hw6 : (v == 6) = false := by simpa using hv6
        clear hv6
        by_cases hv7 : v = 7
        ·subst hv7
         go_wp2_with fail
         refine (q0x b a la ca xs f (t + 9 + 1) 3 [0, 7, 6] _ HS2.out (by omega) (by simp [q0u]) rfl (by omega) (by omega) _ rfl _ rfl).mono ?_
         rintro e w3 ⟨v3, rfl, hd, hs3, hc3⟩
         have hb3 : -1000 ≤ v3 ∧ v3 ≤ 1000 := by simp only [List.mem_cons, List.not_mem_nil, or_false] at hd; omega
         have HX3 := hid (hc3.keepb HX2.out HNW.out); have HR3 := hid (hc3.keepb HR2.out hnb)
         have HC3 := hid ((HC2.out.trans hc3 (fun y hy => .inl hy)).setCell ⟨w1.heap.size, 7, none⟩ (.int .i64 v3) (.inr (by show w.heap.size ≤ w1.heap.size; omega)))
         have HS4 := hid (hs3.chg ((Chg.refl [w1.heap.size] w3).setCell ⟨w1.heap.size, 7, none⟩ (.int .i64 v3) (.inl (by simp))) (fun hm => by rw [List.mem_singleton] at hm; exact HNW.out (by rw [hm]; simp)) (fun x hx hm => by rw [List.mem_singleton] at hm; have h1 := HF.out x hx; omega))
         have HX4 := hid (show (w3.setCell ⟨w1.heap.size, 7, none⟩ (.int .i64 v3)).heap[w1.heap.size]? = some (.cells #[.int .i64 g, .int .i64 c, .int .i64 d, .int .i64 p, .int .i64 r, .int .i64 q, .int .i64 bb, .int .i64 v3, .int .i64 tt] 30 (0, 0)) from q0m HX3.out rfl)
         have HR4 := hid (q0q HR3.out ⟨w1.heap.size, 7, none⟩ (.int .i64 v3) hnw)
         have HN := hid (show Shp.small ⟨g, c, d, p, r, q, bb, v3, tt⟩ from by have := HSM.out; unfold Shp.small at this ⊢; dsimp only at this ⊢; omega)
         have c3 := cellsOf HX3.out; have l3 := ltOf HX3.out; have f3 := q0c HX3.out
         clear hs3 hc3 hd hb3
         go_upto_region 21 with fail
         clear c3 l3 f3
         have cX := cellsOf HX4.out; have lX := ltOf HX4.out; have fX := q0c HX4.out
         go_wp2_with (first | (refine q1c rfl _ 30 rfl rfl q1i Tryz.underlying30 HX4.out rfl ?_) | (refine q0z rfl _ _ 30 rfl rfl rfl q1i HR4.out rfl rfl rfl ?_; intro w10 hb hc; have HB := hid hb; have HC := hid hc; clear hb hc))
         refine bodyPost_ret (v := .agg #[.int .i64 g, .int .i64 c, .int .i64 d, .int .i64 p, .int .i64 r, .int .i64 q, .int .i64 bb, .int .i64 v3, .int .i64 tt]) (q0t _ 30 rfl rfl q1i Tryz.underlying30 HB.out rfl) rfl ?_
         exact ⟨⟨g, c, d, p, r, q, bb, v3, tt⟩, rfl, HN.out, (HS4.out.chg HC.out (fun hm => by rw [List.mem_singleton] at hm; exact hnb (by rw [hm]; simp)) (fun x hx hm => by
          rw [List.mem_singleton] at hm
          have h1 := HF.out x hx
          omega)).mono (by omega), HC3.out.trans HC.out (fun y hy => .inr (by rw [List.mem_singleton] at hy; omega))⟩
        ·have hw7 : (v == 7) = false := by simpa using hv7
         clear hv7
         by_cases hv8 : v = 8
         ·subst hv8
          go_wp2_with fail
          refine (q0x b a la ca xs f (t + 9 + 1) 3 [-1, 401, 0] _ HS2.out (by omega) (by simp [q0u]) rfl (by omega) (by omega) _ rfl _ rfl).mono ?_
          rintro e w3 ⟨v3, rfl, hd, hs3, hc3⟩
          have hb3 : -1000 ≤ v3 ∧ v3 ≤ 1000 := by simp only [List.mem_cons, List.not_mem_nil, or_false] at hd; omega
          have HX3 := hid (hc3.keepb HX2.out HNW.out); have HR3 := hid (hc3.keepb HR2.out hnb)
          have HC3 := hid ((HC2.out.trans hc3 (fun y hy => .inl hy)).setCell ⟨w1.heap.size, 8, none⟩ (.int .i64 v3) (.inr (by show w.heap.size ≤ w1.heap.size; omega)))
          have HS4 := hid (hs3.chg ((Chg.refl [w1.heap.size] w3).setCell ⟨w1.heap.size, 8, none⟩ (.int .i64 v3) (.inl (by simp))) (fun hm => by rw [List.mem_singleton] at hm; exact HNW.out (by rw [hm]; simp)) (fun x hx hm => by rw [List.mem_singleton] at hm; have h1 := HF.out x hx; omega))
          have HX4 := hid (show (w3.setCell ⟨w1.heap.size, 8, none⟩ (.int .i64 v3)).heap[w1.heap.size]? = some (.cells #[.int .i64 g, .int .i64 c, .int .i64 d, .int .i64 p, .int .i64 r, .int .i64 q, .int .i64 bb, .int .i64 u, .int .i64 v3] 30 (0, 0)) from q0m HX3.out rfl)
          have HR4 := hid (q0q HR3.out ⟨w1.heap.size, 8, none⟩ (.int .i64 v3) hnw)
          have HN := hid (show Shp.small ⟨g, c, d, p, r, q, bb, u, v3⟩ from by have := HSM.out; unfold Shp.small at this ⊢; dsimp only at this ⊢; omega)
          have c3 := cellsOf HX3.out; have l3 := ltOf HX3.out; have f3 := q0c HX3.out
          clear hs3 hc3 hd hb3
          go_upto_region 21 with fail
          clear c3 l3 f3
          have cX := cellsOf HX4.out; have lX := ltOf HX4.out; have fX := q0c HX4.out
          go_wp2_with (first | (refine q1c rfl _ 30 rfl rfl q1i Tryz.underlying30 HX4.out rfl ?_) | (refine q0z rfl _ _ 30 rfl rfl rfl q1i HR4.out rfl rfl rfl ?_; intro w10 hb hc; have HB := hid hb; have HC := hid hc; clear hb hc))
          refine bodyPost_ret (v := .agg #[.int .i64 g, .int .i64 c, .int .i64 d, .int .i64 p, .int .i64 r, .int .i64 q, .int .i64 bb, .int .i64 u, .int .i64 v3]) (q0t _ 30 rfl rfl q1i Tryz.underlying30 HB.out rfl) rfl ?_
          exact ⟨⟨g, c, d, p, r, q, bb, u, v3⟩, rfl, HN.out, (HS4.out.chg HC.out (fun hm => by rw [List.mem_singleton] at hm; exact hnb (by rw [hm]; simp)) (fun x hx hm => by
           rw [List.mem_singleton] at hm
           have h1 := HF.out x hx
           omega)).mono (by omega), HC3.out.trans HC.out (fun y hy => .inr (by rw [List.mem_singleton] at hy; omega))⟩
         ·have hw8 : (v == 8) = false := by simpa using hv8
          clear hv8
          have cX := cellsOf HX2.out; have lX := ltOf HX2.out; have fX := q0c HX2.out
          go_wp2_with (first | (refine q1c rfl _ 30 rfl rfl q1i Tryz.underlying30 HX2.out rfl ?_) | (refine q0z rfl _ _ 30 rfl rfl rfl q1i HR2.out rfl rfl rfl ?_; intro w10 hb hc; have HB := hid hb; have HC := hid hc; clear hb hc))
          refine bodyPost_ret (v := .agg #[.int .i64 g, .int .i64 c, .int .i64 d, .int .i64 p, .int .i64 r, .int .i64 q, .int .i64 bb, .int .i64 u, .int .i64 tt]) (q0t _ 30 rfl rfl q1i Tryz.underlying30 HB.out rfl) rfl ?_
          exact ⟨⟨g, c, d, p, r, q, bb, u, tt⟩, rfl, HSM.out, (HS2.out.chg HC.out (fun hm => by rw [List.mem_singleton] at hm; exact hnb (by rw [hm]; simp)) (fun x hx hm => by
           rw [List.mem_singleton] at hm
           have h1 := HF.out x hx
           omega)).mono (by omega), HC2.out.trans HC.out (fun y hy => .inr (by rw [List.mem_singleton] at hy; omega))⟩
theorem q8e (a b : Option Addr) (la lb ca cb : Nat) (xs : List Rec) (f g : List Nat) (w : World) (ha : recL.sl w a la ca xs f) (hb : recL.sl w b lb cb xs g) :
  Calls Tryz.prog 48 #[.slice a la ca, .slice b lb cb] w fun e w' => e = .returned (.bool true) ∧ Chg [] w w' := by
 obtain rfl : lb = la := hb.1.trans ha.1.symm
 have hm := recL.sl_max ha
 have hne : ((lb : Int) != (lb : Int)) = false := by simp
 have HA := hid ha
 have HB := hid hb
 clear ha hb
 go_enter Tryz.func48, Tryz.ntmps48
 go_wp2_with fail
 go_loopw [5] (fun i wr => ∃ (k : Nat) (Wr : World), Wr = wr ∧ k ≤ lb ∧ i = .int .i64 k ∧ Chg [] w wr) (fun i _ => lb - (intOf i).toNat)
 case atStart => exact ⟨0, _, rfl, by omega, rfl, Chg.refl _ _⟩
 case round =>
  obtain ⟨k, wr, rfl, hk, rfl, hc⟩ := hrel
  have HC := hid hc
  by_cases hlt : k < lb
  ·obtain ⟨x, b1, o1, c1, f1, HX, rfl, HCX, HRX⟩ := q8w (recL.sl_ext HA.out hc) hlt
   obtain ⟨y, b2, o2, c2, f2, HY, rfl, HCY, HRY⟩ := q8w (recL.sl_ext HB.out hc) hlt
   obtain rfl : x = y := Option.some.inj (HX.out.1.symm.trans HY.out.1)
   have HSZ := hid (And.intro (recL.sl_lt (recL.sl_ext HA.out hc) _ HX.out.2.1) (recL.sl_lt (recL.sl_ext HB.out hc) _ HY.out.2.1))
   clear hc
   go_upto_region 6 with fail
   obtain ⟨CC, HCI, HCO⟩ := q0j (fun w' => q1k w' b1 (o1 + k * 9) 9 c1 ∧ q1k w' b2 (o2 + k * 9) 9 c2)
   refine q1j [] CC (by kernel_rfl) (HCI.out _ ⟨(HCX.out.ext (Chg.refl [] wr).drew HSZ.out.1), (HCY.out.ext (Chg.refl [] wr).drew HSZ.out.2)⟩) (fun hcl hS => ?_)
   refine ggT 0 hcl hS ?_; clear hcl hS; intro hcl hS
   refine ggT 1 hcl hS ?_; clear hcl hS; intro hcl hS
   refine ggT 2 hcl hS ?_; clear hcl hS; intro hcl hS
   refine ggL 3 hcl hS HCO ?_ (hy := fun w' hw => q1h _ 67 rfl rfl q1l Tryz.underlying67 hw.1); clear hcl hS; intro hcl hS
   refine ggT 4 hcl hS ?_; clear hcl hS; intro hcl hS
   refine ggT 5 hcl hS ?_; clear hcl hS; intro hcl hS
   refine ggT 6 hcl hS ?_; clear hcl hS; intro hcl hS
   refine ggL 7 hcl hS HCO ?_ (hy := fun w' hw => q1h _ 67 rfl rfl q1l Tryz.underlying67 hw.2); clear hcl hS; intro hcl hS
   refine ggC 8 hcl rfl (by kernel_rfl) (fun K hK => ?_)
   go_simp
   go_at_call 52
   refine (q9e x x c1.toArray c2.toArray f1 f2 _ (by rw [List.toList_toArray]; exact recL.ext HRX.out (Chg.refl [] wr).drew) (by rw [List.toList_toArray]; exact recL.ext HRY.out (Chg.refl [] wr).drew)).mono ?_; rintro e w5 ⟨rfl, hc⟩; rw [q1z rfl]; have HC4 := hid ((Chg.refl [] wr).drew.trans0 hc); clear hc
   go_wp2_with fail
   refine hK.out _ _ (fun _ => HCI.out _ ⟨(HCX.out.ext HC4.out HSZ.out.1), (HCY.out.ext HC4.out HSZ.out.2)⟩) ?_
   clear hK K hcl hS
   intro hcl hS
   try simp only [Act.put, pA, pB, pC]
   refine ggT 9 hcl hS ?_; clear hcl hS; intro hcl hS
   refine q3i (by kernel_rfl) ?_ _
   have HC5 := hid (HC.out.trans0 HC4.out)
   go_wp2_with fail
   go_roundw
   case rel => exact ⟨k + 1, _, rfl, by omega, by go_num, HC5.out⟩
   case measure => simp [intOf]; omega
  ·clear hc
   go_wp2_with fail
   go_ret
   exact ⟨rfl, HC.out⟩
end Go.Proofs.YtphmpimgbmedbaaGreat
