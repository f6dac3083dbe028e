/- Several texts in one. -/
import Derived.Test.YtphmpimgbmedbaaGreatVae
import Derived.Test.YtphmpimgbmedbaaGreatVal
import Derived.Test.YtphmpimgbmedbaaGreatVac
set_option maxRecDepth 100000
set_option maxHeartbeats 8000000
namespace Go.Proofs.YtphmpimgbmedbaaGreat
open Go.RowKit
open Go.Lib (hid)
theorem q1p : (Tryz.prog.info? 30).map (fun i => i.size) = some 9 := by kernel_rfl
def Shp.small (x : Shp) : Prop := (-1000 ≤ x.gS ∧ x.gS ≤ 1000) ∧ (-1000 ≤ x.column ∧ x.column ≤ 1000) ∧ (-1000 ≤ x.data ∧ x.data ≤ 1000) ∧ (-1000 ≤ x.sR ∧ x.sR ≤ 1000) ∧ (-1000 ≤ x.rows ∧ x.rows ≤ 1000) ∧ (-1000 ≤ x.cap ∧ x.cap ≤ 1000) ∧ (-1000 ≤ x.bT ∧ x.bT ≤ 1000) ∧ (-1000 ≤ x.qU ∧ x.qU ≤ 1000) ∧ (-1000 ≤ x.sG ∧ x.sG ≤ 1000)
def ShapeDraw (R : Shp → Prop) (b : Nat) (a : Option Addr) (la ca : Nat) (xs : List UInt8) (f : List Nat) (t : Int) (w0 : World) (e : Ending) (w' : World) : Prop :=
 ∃ x : Shp, e = .returned (.agg x.cells) ∧ R x ∧ SrcB b a la ca xs f t w' ∧ Chg [b] w0 w'
theorem shape_any (b : Nat) (a : Option Addr) (la ca : Nat) (xs : List UInt8) (f : List Nat) (t : Int) (w : World) (h : SrcB b a la ca xs f t w) (ht : t ≤ 1073741600) :
  Calls Tryz.prog 207 #[.pointer (some ⟨b, 0, none⟩)] w (ShapeDraw (fun x => x.ok ∧ x.gS ≤ 4 ∧ x.rows ≤ 4) b a la ca xs f (t + 9) w) := by
 have HS0 := hid (h.ext ((Chg.refl [] w).alloc (.cells #[.int .i64 0, .int .i64 0, .int .i64 0, .int .i64 0, .int .i64 0, .int .i64 0, .int .i64 0, .int .i64 0, .int .i64 0] 30)))
 have HC0 := hid (((Chg.refl [b] w).alloc (.cells #[.int .i64 0, .int .i64 0, .int .i64 0, .int .i64 0, .int .i64 0, .int .i64 0, .int .i64 0, .int .i64 0, .int .i64 0] 30)))
 have HX0 := hid (q0j w (.cells #[.int .i64 0, .int .i64 0, .int .i64 0, .int .i64 0, .int .i64 0, .int .i64 0, .int .i64 0, .int .i64 0, .int .i64 0] 30))
 have HBN := hid (show w.heap.size ∉ [b] from fun hm => by rw [List.mem_singleton] at hm; have := h.lt; omega)
 have HF := hid (fun x (hx : x ∈ f) => q0t.sl_lt h.2.1 x hx)
 clear h
 go_enter Tryz.func207, Tryz.ntmps207
 go_wp2_with fail
 refine (q0z b a la ca xs f (t) 4 [2, 3, 1, 4] _ HS0.out (by omega) (by simp [q0q]) rfl (by omega) (by omega) _ rfl _ (by simp)).mono ?_
 rintro e w1 ⟨v0, rfl, hd, hs, hc⟩
 have HS1 := hid hs; have HC1 := hid (HC0.out.trans hc (fun x hx => .inl hx)); have HX1 := hid (hc.keepb HX0.out HBN.out)
 have hb0 : v0 = 1 ∨ v0 = 2 ∨ v0 = 3 ∨ v0 = 4 := by simp only [List.mem_cons, List.not_mem_nil, or_false] at hd; omega
 clear hs hc hd
 go_wp2_with fail
 refine (q0z b a la ca xs f (t + 1) 4 [1, 2, 1, 0] _ HS1.out (by omega) (by simp [q0q]) rfl (by omega) (by omega) _ rfl _ (by simp)).mono ?_
 rintro e w2 ⟨v1, rfl, hd, hs, hc⟩
 have HS2 := hid hs; have HC2 := hid (HC1.out.trans hc (fun x hx => .inl hx)); have HX2 := hid (hc.keepb HX1.out HBN.out)
 have hb1 : v1 = 0 ∨ v1 = 1 ∨ v1 = 2 := by simp only [List.mem_cons, List.not_mem_nil, or_false] at hd; omega
 clear hs hc hd
 go_wp2_with fail
 refine (q0z b a la ca xs f (t + 1 + 1) 3 [2, 1, 3] _ HS2.out (by omega) (by simp [q0q]) rfl (by omega) (by omega) _ rfl _ (by simp)).mono ?_
 rintro e w3 ⟨v2, rfl, hd, hs, hc⟩
 have HS3 := hid hs; have HC3 := hid (HC2.out.trans hc (fun x hx => .inl hx)); have HX3 := hid (hc.keepb HX2.out HBN.out)
 have hb2 : v2 = 1 ∨ v2 = 2 ∨ v2 = 3 := by simp only [List.mem_cons, List.not_mem_nil, or_false] at hd; omega
 clear hs hc hd
 go_wp2_with fail
 refine (q0z b a la ca xs f (t + 1 + 1 + 1) 3 [1, 0, 2] _ HS3.out (by omega) (by simp [q0q]) rfl (by omega) (by omega) _ rfl _ (by simp)).mono ?_
 rintro e w4 ⟨v3, rfl, hd, hs, hc⟩
 have HS4 := hid hs; have HC4 := hid (HC3.out.trans hc (fun x hx => .inl hx)); have HX4 := hid (hc.keepb HX3.out HBN.out)
 have hb3 : v3 = 0 ∨ v3 = 1 ∨ v3 = 2 := by simp only [List.mem_cons, List.not_mem_nil, or_false] at hd; omega
 clear hs hc hd
 go_wp2_with fail
 refine (q0z b a la ca xs f (t + 1 + 1 + 1 + 1) 3 [2, 3, 4] _ HS4.out (by omega) (by simp [q0q]) rfl (by omega) (by omega) _ rfl _ (by simp)).mono ?_
 rintro e w5 ⟨v4, rfl, hd, hs, hc⟩
 have HS5 := hid hs; have HC5 := hid (HC4.out.trans hc (fun x hx => .inl hx)); have HX5 := hid (hc.keepb HX4.out HBN.out)
 have hb4 : v4 = 2 ∨ v4 = 3 ∨ v4 = 4 := by simp only [List.mem_cons, List.not_mem_nil, or_false] at hd; omega
 clear hs hc hd
 go_wp2_with fail
 refine (q0z b a la ca xs f (t + 1 + 1 + 1 + 1 + 1) 3 [1, 2, 3] _ HS5.out (by omega) (by simp [q0q]) rfl (by omega) (by omega) _ rfl _ (by simp)).mono ?_
 rintro e w6 ⟨v5, rfl, hd, hs, hc⟩
 have HS6 := hid hs; have HC6 := hid (HC5.out.trans hc (fun x hx => .inl hx)); have HX6 := hid (hc.keepb HX5.out HBN.out)
 have hb5 : v5 = 1 ∨ v5 = 2 ∨ v5 = 3 := by simp only [List.mem_cons, List.not_mem_nil, or_false] at hd; omega
 clear hs hc hd
 go_wp2_with fail
 refine (q0z b a la ca xs f (t + 1 + 1 + 1 + 1 + 1 + 1) 2 [1, 2] _ HS6.out (by omega) (by simp [q0q]) rfl (by omega) (by omega) _ rfl _ (by simp)).mono ?_
 rintro e w7 ⟨v6, rfl, hd, hs, hc⟩
 have HS7 := hid hs; have HC7 := hid (HC6.out.trans hc (fun x hx => .inl hx)); have HX7 := hid (hc.keepb HX6.out HBN.out)
 have hb6 : v6 = 1 ∨ v6 = 2 := by simp only [List.mem_cons, List.not_mem_nil, or_false] at hd; omega
 clear hs hc hd
 go_wp2_with fail
 refine (q0z b a la ca xs f (t + 1 + 1 + 1 + 1 + 1 + 1 + 1) 3 [1, 2, 3] _ HS7.out (by omega) (by simp [q0q]) rfl (by omega) (by omega) _ rfl _ (by simp)).mono ?_
 rintro e w8 ⟨v7, rfl, hd, hs, hc⟩
 have HS8 := hid hs; have HC8 := hid (HC7.out.trans hc (fun x hx => .inl hx)); have HX8 := hid (hc.keepb HX7.out HBN.out)
 have hb7 : v7 = 1 ∨ v7 = 2 ∨ v7 = 3 := by simp only [List.mem_cons, List.not_mem_nil, or_false] at hd; omega
 clear hs hc hd
 go_wp2_with fail
 refine (q0z b a la ca xs f (t + 1 + 1 + 1 + 1 + 1 + 1 + 1 + 1) 4 [60, 20, 100, 400] _ HS8.out (by omega) (by simp [q0q]) rfl (by omega) (by omega) _ rfl _ (by simp)).mono ?_
 rintro e w9 ⟨v8, rfl, hd, hs, hc⟩
 have HS9 := hid hs; have HC9 := hid (HC8.out.trans hc (fun x hx => .inl hx)); have HX9 := hid (hc.keepb HX8.out HBN.out)
 have hb8 : v8 = 20 ∨ v8 = 60 ∨ v8 = 100 ∨ v8 = 400 := by simp only [List.mem_cons, List.not_mem_nil, or_false] at hd; omega
 clear hs hc hd
 have c9 := cellsOf HX9.out; have l9 := ltOf HX9.out; have f9 := q0c HX9.out
 have HOK := hid (show (⟨v0, v1, v2, v3, v4, v5, v6, v7, v8⟩ : Shp).ok ∧ v0 ≤ 4 ∧ v4 ≤ 4 from ⟨by unfold Shp.ok; dsimp only; omega, by omega, by omega⟩)
 clear hb0 hb1 hb2 hb3 hb4 hb5 hb6 hb7 hb8
 go_wp2_with (refine q0p rfl _ _ 30 rfl rfl rfl q1p HX9.out rfl rfl rfl ?_; intro w10 hb hc; have HB := hid hb; have HC := hid hc; clear hb hc)
 refine bodyPost_ret (v := .agg #[.int .i64 v0, .int .i64 v1, .int .i64 v2, .int .i64 v3, .int .i64 v4, .int .i64 v5, .int .i64 v6, .int .i64 v7, .int .i64 v8]) (q0m _ 30 rfl rfl q1p Tryz.underlying30 HB.out rfl) rfl ?_
 have hlb : ∀ y, y ∈ [w.heap.size] → y ∈ [b] ∨ w.heap.size ≤ y := fun y hy => .inr (by rw [List.mem_singleton] at hy; omega)
 exact ⟨⟨v0, v1, v2, v3, v4, v5, v6, v7, v8⟩, rfl, HOK.out, (HS9.out.chg HC.out (fun hm => by rw [List.mem_singleton] at hm; exact HBN.out (by rw [hm]; simp)) (fun x hx hm => by
  rw [List.mem_singleton] at hm
  have h1 := HF.out x hx
  omega)).mono (by omega), HC9.out.trans HC.out hlb⟩
theorem Shp.small_of_ok {x : Shp} (h : x.ok) : x.small := by unfold Shp.ok at h; unfold Shp.small; omega
theorem bent_any (b : Nat) (a : Option Addr) (la ca : Nat) (xs : List UInt8) (f : List Nat) (t : Int) (w : World) (h : SrcB b a la ca xs f t w) (ht : t ≤ 1073741600) :
  Calls Tryz.prog 209 #[.pointer (some ⟨b, 0, none⟩)] w (ShapeDraw Shp.small b a la ca xs f (t + 11) w) := by
 have HF := hid (fun x (hx : x ∈ f) => q0t.sl_lt h.2.1 x hx)
 have hbw := h.lt
 have HS := hid h
 clear h
 go_enter Tryz.func209, Tryz.ntmps209
 go_wp2_with fail
 refine (shape_any b a la ca xs f t _ (HS.out.ext ((Chg.refl [] w).alloc _)) ht).mono ?_
 rintro e w1 ⟨x, rfl, hok, hs1, hc1⟩
 have HSM := hid (Shp.small_of_ok hok.1)
 have HS1 := hid hs1
 have hnb : w.heap.size ∉ [b] := fun hm => by rw [List.mem_singleton] at hm; omega
 have HR1 := hid (hc1.keepb (q0j w _) hnb)
 have HC1 := hid (((Chg.refl [b] w).alloc _).trans hc1 (fun y hy => .inl hy))
 have hsz : w.heap.size + 1 ≤ w1.heap.size := by have := hc1.size; simpa using this
 clear hs1 hc1 hok
 obtain ⟨g, c, d, p, r, q, bb, u, tt⟩ := x
 simp only [Shp.cells]
 have HX1 := hid (q0j w1 (.cells #[.int .i64 g, .int .i64 c, .int .i64 d, .int .i64 p, .int .i64 r, .int .i64 q, .int .i64 bb, .int .i64 u, .int .i64 tt] 30))
 have HNW := hid (show w1.heap.size ∉ [b] from fun hm => by rw [List.mem_singleton] at hm; omega)
 have hnw : w.heap.size ≠ w1.heap.size := by omega
 go_wp2_with (refine q3a rfl _ _ 30 rfl rfl rfl rfl q1p rfl rfl rfl ?_)
 refine (q1h b a la ca xs f (t + 9) 24 _ (HS1.out.ext ((Chg.refl [] w1).alloc _)) (by omega) (by omega) (by omega)).mono ?_
 rintro e w2 ⟨v, rfl, -, hs2, hc2⟩
 have HS2 := hid hs2
 have HX2 := hid (hc2.keepb HX1.out HNW.out)
 have HR2 := hid (hc2.keepb (q0b HR1.out _) hnb)
 have HC2 := hid ((HC1.out.alloc _).trans hc2 (fun y hy => .inl hy))
 clear hs2 hc2
 by_cases hv0 : v = 0
 ·subst hv0
  go_wp2_with fail
  refine (q0z b a la ca xs f (t + 9 + 1) 2 [0, 5] _ HS2.out (by omega) (by simp [q0q]) rfl (by omega) (by omega) _ rfl _ rfl).mono ?_
  rintro e w3 ⟨v3, rfl, hd, hs3, hc3⟩
  have hb3 : -1000 ≤ v3 ∧ v3 ≤ 1000 := by simp only [List.mem_cons, List.not_mem_nil, or_false] at hd; omega
  have HX3 := hid (hc3.keepb HX2.out HNW.out); have HR3 := hid (hc3.keepb HR2.out hnb)
  have HC3 := hid ((HC2.out.trans hc3 (fun y hy => .inl hy)).setCell ⟨w1.heap.size, 0, none⟩ (.int .i64 v3) (.inr (by show w.heap.size ≤ w1.heap.size; omega)))
  have HS4 := hid (hs3.chg ((Chg.refl [w1.heap.size] w3).setCell ⟨w1.heap.size, 0, none⟩ (.int .i64 v3) (.inl (by simp))) (fun hm => by rw [List.mem_singleton] at hm; exact HNW.out (by rw [hm]; simp)) (fun x hx hm => by rw [List.mem_singleton] at hm; have h1 := HF.out x hx; omega))
  have HX4 := hid (show (w3.setCell ⟨w1.heap.size, 0, none⟩ (.int .i64 v3)).heap[w1.heap.size]? = some (.cells #[.int .i64 v3, .int .i64 c, .int .i64 d, .int .i64 p, .int .i64 r, .int .i64 q, .int .i64 bb, .int .i64 u, .int .i64 tt] 30 (0, 0)) from q0i HX3.out rfl)
  have HR4 := hid (q0u HR3.out ⟨w1.heap.size, 0, none⟩ (.int .i64 v3) hnw)
  have HN := hid (show Shp.small ⟨v3, c, d, p, r, q, bb, u, tt⟩ from by have := HSM.out; unfold Shp.small at this ⊢; dsimp only at this ⊢; omega)
  have c3 := cellsOf HX3.out; have l3 := ltOf HX3.out; have f3 := q0c HX3.out
  clear hs3 hc3 hd hb3
  go_upto_region 21 with fail
  clear c3 l3 f3
  have cX := cellsOf HX4.out; have lX := ltOf HX4.out; have fX := q0c HX4.out
  go_wp2_with (first | (refine q0k rfl _ 30 rfl rfl q1p Tryz.underlying30 HX4.out rfl ?_) | (refine q0p rfl _ _ 30 rfl rfl rfl q1p HR4.out rfl rfl rfl ?_; intro w10 hb hc; have HB := hid hb; have HC := hid hc; clear hb hc))
  refine bodyPost_ret (v := .agg #[.int .i64 v3, .int .i64 c, .int .i64 d, .int .i64 p, .int .i64 r, .int .i64 q, .int .i64 bb, .int .i64 u, .int .i64 tt]) (q0m _ 30 rfl rfl q1p Tryz.underlying30 HB.out rfl) rfl ?_
  exact ⟨⟨v3, c, d, p, r, q, bb, u, tt⟩, rfl, HN.out, (HS4.out.chg HC.out (fun hm => by rw [List.mem_singleton] at hm; exact hnb (by rw [hm]; simp)) (fun x hx hm => by
   rw [List.mem_singleton] at hm
   have h1 := HF.out x hx
   omega)).mono (by omega), HC3.out.trans HC.out (fun y hy => .inr (by rw [List.mem_singleton] at hy; omega))⟩
 ·have hw0 : (v == 0) = false := by simpa using hv0
  clear hv0
  by_cases hv1 : v = 1
  ·subst hv1
   go_wp2_with fail
   refine (q0z b a la ca xs f (t + 9 + 1) 2 [-1, 3] _ HS2.out (by omega) (by simp [q0q]) rfl (by omega) (by omega) _ rfl _ rfl).mono ?_
   rintro e w3 ⟨v3, rfl, hd, hs3, hc3⟩
   have hb3 : -1000 ≤ v3 ∧ v3 ≤ 1000 := by simp only [List.mem_cons, List.not_mem_nil, or_false] at hd; omega
   have HX3 := hid (hc3.keepb HX2.out HNW.out); have HR3 := hid (hc3.keepb HR2.out hnb)
   have HC3 := hid ((HC2.out.trans hc3 (fun y hy => .inl hy)).setCell ⟨w1.heap.size, 1, none⟩ (.int .i64 v3) (.inr (by show w.heap.size ≤ w1.heap.size; omega)))
   have HS4 := hid (hs3.chg ((Chg.refl [w1.heap.size] w3).setCell ⟨w1.heap.size, 1, none⟩ (.int .i64 v3) (.inl (by simp))) (fun hm => by rw [List.mem_singleton] at hm; exact HNW.out (by rw [hm]; simp)) (fun x hx hm => by rw [List.mem_singleton] at hm; have h1 := HF.out x hx; omega))
   have HX4 := hid (show (w3.setCell ⟨w1.heap.size, 1, none⟩ (.int .i64 v3)).heap[w1.heap.size]? = some (.cells #[.int .i64 g, .int .i64 v3, .int .i64 d, .int .i64 p, .int .i64 r, .int .i64 q, .int .i64 bb, .int .i64 u, .int .i64 tt] 30 (0, 0)) from q0i HX3.out rfl)
   have HR4 := hid (q0u HR3.out ⟨w1.heap.size, 1, none⟩ (.int .i64 v3) hnw)
   have HN := hid (show Shp.small ⟨g, v3, d, p, r, q, bb, u, tt⟩ from by have := HSM.out; unfold Shp.small at this ⊢; dsimp only at this ⊢; omega)
   have c3 := cellsOf HX3.out; have l3 := ltOf HX3.out; have f3 := q0c HX3.out
   clear hs3 hc3 hd hb3
   go_upto_region 21 with fail
   clear c3 l3 f3
   have cX := cellsOf HX4.out; have lX := ltOf HX4.out; have fX := q0c HX4.out
   go_wp2_with (first | (refine q0k rfl _ 30 rfl rfl q1p Tryz.underlying30 HX4.out rfl ?_) | (refine q0p rfl _ _ 30 rfl rfl rfl q1p HR4.out rfl rfl rfl ?_; intro w10 hb hc; have HB := hid hb; have HC := hid hc; clear hb hc))
   refine bodyPost_ret (v := .agg #[.int .i64 g, .int .i64 v3, .int .i64 d, .int .i64 p, .int .i64 r, .int .i64 q, .int .i64 bb, .int .i64 u, .int .i64 tt]) (q0m _ 30 rfl rfl q1p Tryz.underlying30 HB.out rfl) rfl ?_
   exact ⟨⟨g, v3, d, p, r, q, bb, u, tt⟩, rfl, HN.out, (HS4.out.chg HC.out (fun hm => by rw [List.mem_singleton] at hm; exact hnb (by rw [hm]; simp)) (fun x hx hm => by
    rw [List.mem_singleton] at hm
    have h1 := HF.out x hx
    omega)).mono (by omega), HC3.out.trans HC.out (fun y hy => .inr (by rw [List.mem_singleton] at hy; omega))⟩
  ·have hw1 : (v == 1) = false := by simpa using hv1
   clear hv1
   by_cases hv2 : v = 2
   ·subst hv2
    go_wp2_with fail
    refine (q0z b a la ca xs f (t + 9 + 1) 2 [0, 4] _ HS2.out (by omega) (by simp [q0q]) rfl (by omega) (by omega) _ rfl _ rfl).mono ?_
    rintro e w3 ⟨v3, rfl, hd, hs3, hc3⟩
    have hb3 : -1000 ≤ v3 ∧ v3 ≤ 1000 := by simp only [List.mem_cons, List.not_mem_nil, or_false] at hd; omega
    have HX3 := hid (hc3.keepb HX2.out HNW.out); have HR3 := hid (hc3.keepb HR2.out hnb)
    have HC3 := hid ((HC2.out.trans hc3 (fun y hy => .inl hy)).setCell ⟨w1.heap.size, 2, none⟩ (.int .i64 v3) (.inr (by show w.heap.size ≤ w1.heap.size; omega)))
    have HS4 := hid (hs3.chg ((Chg.refl [w1.heap.size] w3).setCell ⟨w1.heap.size, 2, none⟩ (.int .i64 v3) (.inl (by simp))) (fun hm => by rw [List.mem_singleton] at hm; exact HNW.out (by rw [hm]; simp)) (fun x hx hm => by rw [List.mem_singleton] at hm; have h1 := HF.out x hx; omega))
    have HX4 := hid (show (w3.setCell ⟨w1.heap.size, 2, none⟩ (.int .i64 v3)).heap[w1.heap.size]? = some (.cells #[.int .i64 g, .int .i64 c, .int .i64 v3, .int .i64 p, .int .i64 r, .int .i64 q, .int .i64 bb, .int .i64 u, .int .i64 tt] 30 (0, 0)) from q0i HX3.out rfl)
    have HR4 := hid (q0u HR3.out ⟨w1.heap.size, 2, none⟩ (.int .i64 v3) hnw)
    have HN := hid (show Shp.small ⟨g, c, v3, p, r, q, bb, u, tt⟩ from by have := HSM.out; unfold Shp.small at this ⊢; dsimp only at this ⊢; omega)
    have c3 := cellsOf HX3.out; have l3 := ltOf HX3.out; have f3 := q0c HX3.out
    clear hs3 hc3 hd hb3
    go_upto_region 21 with fail
    clear c3 l3 f3
    have cX := cellsOf HX4.out; have lX := ltOf HX4.out; have fX := q0c HX4.out
    go_wp2_with (first | (refine q0k rfl _ 30 rfl rfl q1p Tryz.underlying30 HX4.out rfl ?_) | (refine q0p rfl _ _ 30 rfl rfl rfl q1p HR4.out rfl rfl rfl ?_; intro w10 hb hc; have HB := hid hb; have HC := hid hc; clear hb hc))
    refine bodyPost_ret (v := .agg #[.int .i64 g, .int .i64 c, .int .i64 v3, .int .i64 p, .int .i64 r, .int .i64 q, .int .i64 bb, .int .i64 u, .int .i64 tt]) (q0m _ 30 rfl rfl q1p Tryz.underlying30 HB.out rfl) rfl ?_
    exact ⟨⟨g, c, v3, p, r, q, bb, u, tt⟩, rfl, HN.out, (HS4.out.chg HC.out (fun hm => by rw [List.mem_singleton] at hm; exact hnb (by rw [hm]; simp)) (fun x hx hm => by
     rw [List.mem_singleton] at hm
     have h1 := HF.out x hx
     omega)).mono (by omega), HC3.out.trans HC.out (fun y hy => .inr (by rw [List.mem_singleton] at hy; omega))⟩
   ·have hw2 : (v == 2) = false := by simpa using hv2
    clear hv2
    by_cases hv3 : v = 3
    ·subst hv3
     go_wp2_with fail
     refine (q0z b a la ca xs f (t + 9 + 1) 2 [-1, 3] _ HS2.out (by omega) (by simp [q0q]) rfl (by omega) (by omega) _ rfl _ rfl).mono ?_
     rintro e w3 ⟨v3, rfl, hd, hs3, hc3⟩
     have hb3 : -1000 ≤ v3 ∧ v3 ≤ 1000 := by simp only [List.mem_cons, List.not_mem_nil, or_false] at hd; omega
     have HX3 := hid (hc3.keepb HX2.out HNW.out); have HR3 := hid (hc3.keepb HR2.out hnb)
     have HC3 := hid ((HC2.out.trans hc3 (fun y hy => .inl hy)).setCell ⟨w1.heap.size, 3, none⟩ (.int .i64 v3) (.inr (by show w.heap.size ≤ w1.heap.size; omega)))
     have HS4 := hid (hs3.chg ((Chg.refl [w1.heap.size] w3).setCell ⟨w1.heap.size, 3, none⟩ (.int .i64 v3) (.inl (by simp))) (fun hm => by rw [List.mem_singleton] at hm; exact HNW.out (by rw [hm]; simp)) (fun x hx hm => by rw [List.mem_singleton] at hm; have h1 := HF.out x hx; omega))
     have HX4 := hid (show (w3.setCell ⟨w1.heap.size, 3, none⟩ (.int .i64 v3)).heap[w1.heap.size]? = some (.cells #[.int .i64 g, .int .i64 c, .int .i64 d, .int .i64 v3, .int .i64 r, .int .i64 q, .int .i64 bb, .int .i64 u, .int .i64 tt] 30 (0, 0)) from q0i HX3.out rfl)
     have HR4 := hid (q0u HR3.out ⟨w1.heap.size, 3, none⟩ (.int .i64 v3) hnw)
     have HN := hid (show Shp.small ⟨g, c, d, v3, r, q, bb, u, tt⟩ from by have := HSM.out; unfold Shp.small at this ⊢; dsimp only at this ⊢; omega)
     have c3 := cellsOf HX3.out; have l3 := ltOf HX3.out; have f3 := q0c HX3.out
     clear hs3 hc3 hd hb3
     go_upto_region 21 with fail
     clear c3 l3 f3
     have cX := cellsOf HX4.out; have lX := ltOf HX4.out; have fX := q0c HX4.out
     go_wp2_with (first | (refine q0k rfl _ 30 rfl rfl q1p Tryz.underlying30 HX4.out rfl ?_) | (refine q0p rfl _ _ 30 rfl rfl rfl q1p HR4.out rfl rfl rfl ?_; intro w10 hb hc; have HB := hid hb; have HC := hid hc; clear hb hc))
     refine bodyPost_ret (v := .agg #[.int .i64 g, .int .i64 c, .int .i64 d, .int .i64 v3, .int .i64 r, .int .i64 q, .int .i64 bb, .int .i64 u, .int .i64 tt]) (q0m _ 30 rfl rfl q1p Tryz.underlying30 HB.out rfl) rfl ?_
     exact ⟨⟨g, c, d, v3, r, q, bb, u, tt⟩, rfl, HN.out, (HS4.out.chg HC.out (fun hm => by rw [List.mem_singleton] at hm; exact hnb (by rw [hm]; simp)) (fun x hx hm => by
      rw [List.mem_singleton] at hm
      have h1 := HF.out x hx
      omega)).mono (by omega), HC3.out.trans HC.out (fun y hy => .inr (by rw [List.mem_singleton] at hy; omega))⟩
    ·have hw3 : (v == 3) = false := by simpa using hv3
     clear hv3
     by_cases hv4 : v = 4
     ·subst hv4
      go_wp2_with fail
      refine (q0z b a la ca xs f (t + 9 + 1) 3 [0, 7, 6] _ HS2.out (by omega) (by simp [q0q]) rfl (by omega) (by omega) _ rfl _ rfl).mono ?_
      rintro e w3 ⟨v3, rfl, hd, hs3, hc3⟩
      have hb3 : -1000 ≤ v3 ∧ v3 ≤ 1000 := by simp only [List.mem_cons, List.not_mem_nil, or_false] at hd; omega
      have HX3 := hid (hc3.keepb HX2.out HNW.out); have HR3 := hid (hc3.keepb HR2.out hnb)
      have HC3 := hid ((HC2.out.trans hc3 (fun y hy => .inl hy)).setCell ⟨w1.heap.size, 4, none⟩ (.int .i64 v3) (.inr (by show w.heap.size ≤ w1.heap.size; omega)))
      have HS4 := hid (hs3.chg ((Chg.refl [w1.heap.size] w3).setCell ⟨w1.heap.size, 4, none⟩ (.int .i64 v3) (.inl (by simp))) (fun hm => by rw [List.mem_singleton] at hm; exact HNW.out (by rw [hm]; simp)) (fun x hx hm => by rw [List.mem_singleton] at hm; have h1 := HF.out x hx; omega))
      have HX4 := hid (show (w3.setCell ⟨w1.heap.size, 4, none⟩ (.int .i64 v3)).heap[w1.heap.size]? = some (.cells #[.int .i64 g, .int .i64 c, .int .i64 d, .int .i64 p, .int .i64 v3, .int .i64 q, .int .i64 bb, .int .i64 u, .int .i64 tt] 30 (0, 0)) from q0i HX3.out rfl)
      have HR4 := hid (q0u HR3.out ⟨w1.heap.size, 4, none⟩ (.int .i64 v3) hnw)
      have HN := hid (show Shp.small ⟨g, c, d, p, v3, q, bb, u, tt⟩ from by have := HSM.out; unfold Shp.small at this ⊢; dsimp only at this ⊢; omega)
      have c3 := cellsOf HX3.out; have l3 := ltOf HX3.out; have f3 := q0c HX3.out
      clear hs3 hc3 hd hb3
      go_upto_region 21 with fail
      clear c3 l3 f3
      have cX := cellsOf HX4.out; have lX := ltOf HX4.out; have fX := q0c HX4.out
      go_wp2_with (first | (refine q0k rfl _ 30 rfl rfl q1p Tryz.underlying30 HX4.out rfl ?_) | (refine q0p rfl _ _ 30 rfl rfl rfl q1p HR4.out rfl rfl rfl ?_; intro w10 hb hc; have HB := hid hb; have HC := hid hc; clear hb hc))
      refine bodyPost_ret (v := .agg #[.int .i64 g, .int .i64 c, .int .i64 d, .int .i64 p, .int .i64 v3, .int .i64 q, .int .i64 bb, .int .i64 u, .int .i64 tt]) (q0m _ 30 rfl rfl q1p Tryz.underlying30 HB.out rfl) rfl ?_
      exact ⟨⟨g, c, d, p, v3, q, bb, u, tt⟩, rfl, HN.out, (HS4.out.chg HC.out (fun hm => by rw [List.mem_singleton] at hm; exact hnb (by rw [hm]; simp)) (fun x hx hm => by
       rw [List.mem_singleton] at hm
       have h1 := HF.out x hx
       omega)).mono (by omega), HC3.out.trans HC.out (fun y hy => .inr (by rw [List.mem_singleton] at hy; omega))⟩
     ·have hw4 : (v == 4) = false := by simpa using hv4
      clear hv4
      by_cases hv5 : v = 5
      ·subst hv5
       go_wp2_with fail
       refine (q0z b a la ca xs f (t + 9 + 1) 3 [0, 7, 6] _ HS2.out (by omega) (by simp [q0q]) rfl (by omega) (by omega) _ rfl _ rfl).mono ?_
       rintro e w3 ⟨v3, rfl, hd, hs3, hc3⟩
       have hb3 : -1000 ≤ v3 ∧ v3 ≤ 1000 := by simp only [List.mem_cons, List.not_mem_nil, or_false] at hd; omega
       have HX3 := hid (hc3.keepb HX2.out HNW.out); have HR3 := hid (hc3.keepb HR2.out hnb)
       have HC3 := hid ((HC2.out.trans hc3 (fun y hy => .inl hy)).setCell ⟨w1.heap.size, 5, none⟩ (.int .i64 v3) (.inr (by show w.heap.size ≤ w1.heap.size; omega)))
       have HS4 := hid (hs3.chg ((Chg.refl [w1.heap.size] w3).setCell ⟨w1.heap.size, 5, none⟩ (.int .i64 v3) (.inl (by simp))) (fun hm => by rw [List.mem_singleton] at hm; exact HNW.out (by rw [hm]; simp)) (fun x hx hm => by rw [List.mem_singleton] at hm; have h1 := HF.out x hx; omega))
       have HX4 := hid (show (w3.setCell ⟨w1.heap.size, 5, none⟩ (.int .i64 v3)).heap[w1.heap.size]? = some (.cells #[.int .i64 g, .int .i64 c, .int .i64 d, .int .i64 p, .int .i64 r, .int .i64 v3, .int .i64 bb, .int .i64 u, .int .i64 tt] 30 (0, 0)) from q0i HX3.out rfl)
       have HR4 := hid (q0u HR3.out ⟨w1.heap.size, 5, none⟩ (.int .i64 v3) hnw)
       have HN := hid (show Shp.small ⟨g, c, d, p, r, v3, bb, u, tt⟩ from by have := HSM.out; unfold Shp.small at this ⊢; dsimp only at this ⊢; omega)
       have c3 := cellsOf HX3.out; have l3 := ltOf HX3.out; have f3 := q0c HX3.out
       clear hs3 hc3 hd hb3
       go_upto_region 21 with fail
       clear c3 l3 f3
       have cX := cellsOf HX4.out; have lX := ltOf HX4.out; have fX := q0c HX4.out
       go_wp2_with (first | (refine q0k rfl _ 30 rfl rfl q1p Tryz.underlying30 HX4.out rfl ?_) | (refine q0p rfl _ _ 30 rfl rfl rfl q1p HR4.out rfl rfl rfl ?_; intro w10 hb hc; have HB := hid hb; have HC := hid hc; clear hb hc))
       refine bodyPost_ret (v := .agg #[.int .i64 g, .int .i64 c, .int .i64 d, .int .i64 p, .int .i64 r, .int .i64 v3, .int .i64 bb, .int .i64 u, .int .i64 tt]) (q0m _ 30 rfl rfl q1p Tryz.underlying30 HB.out rfl) rfl ?_
       exact ⟨⟨g, c, d, p, r, v3, bb, u, tt⟩, rfl, HN.out, (HS4.out.chg HC.out (fun hm => by rw [List.mem_singleton] at hm; exact hnb (by rw [hm]; simp)) (fun x hx hm => by
        rw [List.mem_singleton] at hm
        have h1 := HF.out x hx
        omega)).mono (by omega), HC3.out.trans HC.out (fun y hy => .inr (by rw [List.mem_singleton] at hy; omega))⟩
      ·have hw5 : (v == 5) = false := by simpa using hv5
       clear hv5
       by_cases hv6 : v = 6
       ·subst hv6
        go_wp2_with fail
        refine (q0z b a la ca xs f (t + 9 + 1) 3 [0, 5, 4] _ HS2.out (by omega) (by simp [q0q]) rfl (by omega) (by omega) _ rfl _ rfl).mono ?_
        rintro e w3 ⟨v3, rfl, hd, hs3, hc3⟩
        have hb3 : -1000 ≤ v3 ∧ v3 ≤ 1000 := by simp only [List.mem_cons, List.not_mem_nil, or_false] at hd; omega
        have HX3 := hid (hc3.keepb HX2.out HNW.out); have HR3 := hid (hc3.keepb HR2.out hnb)
        have HC3 := hid ((HC2.out.trans hc3 (fun y hy => .inl hy)).setCell ⟨w1.heap.size, 6, none⟩ (.int .i64 v3) (.inr (by show w.heap.size ≤ w1.heap.size; omega)))
        have HS4 := hid (hs3.chg ((Chg.refl [w1.heap.size] w3).setCell ⟨w1.heap.size, 6, none⟩ (.int .i64 v3) (.inl (by simp))) (fun hm => by rw [List.mem_singleton] at hm; exact HNW.out (by rw [hm]; simp)) (fun x hx hm => by rw [List.mem_singleton] at hm; have h1 := HF.out x hx; omega))
        have HX4 := hid (show (w3.setCell ⟨w1.heap.size, 6, none⟩ (.int .i64 v3)).heap[w1.heap.size]? = some (.cells #[.int .i64 g, .int .i64 c, .int .i64 d, .int .i64 p, .int .i64 r, .int .i64 q, .int .i64 v3, .int .i64 u, .int .i64 tt] 30 (0, 0)) from q0i HX3.out rfl)
        have HR4 := hid (q0u HR3.out ⟨w1.heap.size, 6, none⟩ (.int .i64 v3) hnw)
        have HN := hid (show Shp.small ⟨g, c, d, p, r, q, v3, u, tt⟩ from by have := HSM.out; unfold Shp.small at this ⊢; dsimp only at this ⊢; omega)
        have c3 := cellsOf HX3.out; have l3 := ltOf HX3.out; have f3 := q0c HX3.out
        clear hs3 hc3 hd hb3
        go_upto_region 21 with fail
        clear c3 l3 f3
        have cX := cellsOf HX4.out; have lX := ltOf HX4.out; have fX := q0c HX4.out
        go_wp2_with (first | (refine q0k rfl _ 30 rfl rfl q1p Tryz.underlying30 HX4.out rfl ?_) | (refine q0p rfl _ _ 30 rfl rfl rfl q1p HR4.out rfl rfl rfl ?_; intro w10 hb hc; have HB := hid hb; have HC := hid hc; clear hb hc))
        refine bodyPost_ret (v := .agg #[.int .i64 g, .int .i64 c, .int .i64 d, .int .i64 p, .int .i64 r, .int .i64 q, .int .i64 v3, .int .i64 u, .int .i64 tt]) (q0m _ 30 rfl rfl q1p Tryz.underlying30 HB.out rfl) rfl ?_
        exact ⟨⟨g, c, d, p, r, q, v3, u, tt⟩, rfl, HN.out, (HS4.out.chg HC.out (fun hm => by rw [List.mem_singleton] at hm; exact hnb (by rw [hm]; simp)) (fun x hx hm => by
         rw [List.mem_singleton] at hm
         have h1 := HF.out x hx
         omega)).mono (by omega), HC3.out.trans HC.out (fun y hy => .inr (by rw [List.mem_singleton] at hy; omega))⟩
       ·have hw6 : (v == 6) = false := by simpa using hv6
        clear hv6
        by_cases hv7 : v = 7
        ·subst hv7
         go_wp2_with fail
         refine (q0z b a la ca xs f (t + 9 + 1) 3 [0, 7, 6] _ HS2.out (by omega) (by simp [q0q]) rfl (by omega) (by omega) _ rfl _ rfl).mono ?_
         rintro e w3 ⟨v3, rfl, hd, hs3, hc3⟩
         have hb3 : -1000 ≤ v3 ∧ v3 ≤ 1000 := by simp only [List.mem_cons, List.not_mem_nil, or_false] at hd; omega
         have HX3 := hid (hc3.keepb HX2.out HNW.out); have HR3 := hid (hc3.keepb HR2.out hnb)
         have HC3 := hid ((HC2.out.trans hc3 (fun y hy => .inl hy)).setCell ⟨w1.heap.size, 7, none⟩ (.int .i64 v3) (.inr (by show w.heap.size ≤ w1.heap.size; omega)))
         have HS4 := hid (hs3.chg ((Chg.refl [w1.heap.size] w3).setCell ⟨w1.heap.size, 7, none⟩ (.int .i64 v3) (.inl (by simp))) (fun hm => by rw [List.mem_singleton] at hm; exact HNW.out (by rw [hm]; simp)) (fun x hx hm => by rw [List.mem_singleton] at hm; have h1 := HF.out x hx; omega))
         have HX4 := hid (show (w3.setCell ⟨w1.heap.size, 7, none⟩ (.int .i64 v3)).heap[w1.heap.size]? = some (.cells #[.int .i64 g, .int .i64 c, .int .i64 d, .int .i64 p, .int .i64 r, .int .i64 q, .int .i64 bb, .int .i64 v3, .int .i64 tt] 30 (0, 0)) from q0i HX3.out rfl)
         have HR4 := hid (q0u HR3.out ⟨w1.heap.size, 7, none⟩ (.int .i64 v3) hnw)
         have HN := hid (show Shp.small ⟨g, c, d, p, r, q, bb, v3, tt⟩ from by have := HSM.out; unfold Shp.small at this ⊢; dsimp only at this ⊢; omega)
         have c3 := cellsOf HX3.out; have l3 := ltOf HX3.out; have f3 := q0c HX3.out
         clear hs3 hc3 hd hb3
         go_upto_region 21 with fail
         clear c3 l3 f3
         have cX := cellsOf HX4.out; have lX := ltOf HX4.out; have fX := q0c HX4.out
         go_wp2_with (first | (refine q0k rfl _ 30 rfl rfl q1p Tryz.underlying30 HX4.out rfl ?_) | (refine q0p rfl _ _ 30 rfl rfl rfl q1p HR4.out rfl rfl rfl ?_; intro w10 hb hc; have HB := hid hb; have HC := hid hc; clear hb hc))
         refine bodyPost_ret (v := .agg #[.int .i64 g, .int .i64 c, .int .i64 d, .int .i64 p, .int .i64 r, .int .i64 q, .int .i64 bb, .int .i64 v3, .int .i64 tt]) (q0m _ 30 rfl rfl q1p Tryz.underlying30 HB.out rfl) rfl ?_
         exact ⟨⟨g, c, d, p, r, q, bb, v3, tt⟩, rfl, HN.out, (HS4.out.chg HC.out (fun hm => by rw [List.mem_singleton] at hm; exact hnb (by rw [hm]; simp)) (fun x hx hm => by
          rw [List.mem_singleton] at hm
          have h1 := HF.out x hx
          omega)).mono (by omega), HC3.out.trans HC.out (fun y hy => .inr (by rw [List.mem_singleton] at hy; omega))⟩
        ·have hw7 : (v == 7) = false := by simpa using hv7
         clear hv7
         by_cases hv8 : v = 8
         ·subst hv8
          go_wp2_with fail
          refine (q0z b a la ca xs f (t + 9 + 1) 3 [-1, 401, 0] _ HS2.out (by omega) (by simp [q0q]) rfl (by omega) (by omega) _ rfl _ rfl).mono ?_
          rintro e w3 ⟨v3, rfl, hd, hs3, hc3⟩
          have hb3 : -1000 ≤ v3 ∧ v3 ≤ 1000 := by simp only [List.mem_cons, List.not_mem_nil, or_false] at hd; omega
          have HX3 := hid (hc3.keepb HX2.out HNW.out); have HR3 := hid (hc3.keepb HR2.out hnb)
          have HC3 := hid ((HC2.out.trans hc3 (fun y hy => .inl hy)).setCell ⟨w1.heap.size, 8, none⟩ (.int .i64 v3) (.inr (by show w.heap.size ≤ w1.heap.size; omega)))
          have HS4 := hid (hs3.chg ((Chg.refl [w1.heap.size] w3).setCell ⟨w1.heap.size, 8, none⟩ (.int .i64 v3) (.inl (by simp))) (fun hm => by rw [List.mem_singleton] at hm; exact HNW.out (by rw [hm]; simp)) (fun x hx hm => by rw [List.mem_singleton] at hm; have h1 := HF.out x hx; omega))
          have HX4 := hid (show (w3.setCell ⟨w1.heap.size, 8, none⟩ (.int .i64 v3)).heap[w1.heap.size]? = some (.cells #[.int .i64 g, .int .i64 c, .int .i64 d, .int .i64 p, .int .i64 r, .int .i64 q, .int .i64 bb, .int .i64 u, .int .i64 v3] 30 (0, 0)) from q0i HX3.out rfl)
          have HR4 := hid (q0u HR3.out ⟨w1.heap.size, 8, none⟩ (.int .i64 v3) hnw)
          have HN := hid (show Shp.small ⟨g, c, d, p, r, q, bb, u, v3⟩ from by have := HSM.out; unfold Shp.small at this ⊢; dsimp only at this ⊢; omega)
          have c3 := cellsOf HX3.out; have l3 := ltOf HX3.out; have f3 := q0c HX3.out
          clear hs3 hc3 hd hb3
          go_upto_region 21 with fail
          clear c3 l3 f3
          have cX := cellsOf HX4.out; have lX := ltOf HX4.out; have fX := q0c HX4.out
          go_wp2_with (first | (refine q0k rfl _ 30 rfl rfl q1p Tryz.underlying30 HX4.out rfl ?_) | (refine q0p rfl _ _ 30 rfl rfl rfl q1p HR4.out rfl rfl rfl ?_; intro w10 hb hc; have HB := hid hb; have HC := hid hc; clear hb hc))
          refine bodyPost_ret (v := .agg #[.int .i64 g, .int .i64 c, .int .i64 d, .int .i64 p, .int .i64 r, .int .i64 q, .int .i64 bb, .int .i64 u, .int .i64 v3]) (q0m _ 30 rfl rfl q1p Tryz.underlying30 HB.out rfl) rfl ?_
          exact ⟨⟨g, c, d, p, r, q, bb, u, v3⟩, rfl, HN.out, (HS4.out.chg HC.out (fun hm => by rw [List.mem_singleton] at hm; exact hnb (by rw [hm]; simp)) (fun x hx hm => by
           rw [List.mem_singleton] at hm
           have h1 := HF.out x hx
           omega)).mono (by omega), HC3.out.trans HC.out (fun y hy => .inr (by rw [List.mem_singleton] at hy; omega))⟩
         ·have hw8 : (v == 8) = false := by simpa using hv8
          clear hv8
          have cX := cellsOf HX2.out; have lX := ltOf HX2.out; have fX := q0c HX2.out
          go_wp2_with (first | (refine q0k rfl _ 30 rfl rfl q1p Tryz.underlying30 HX2.out rfl ?_) | (refine q0p rfl _ _ 30 rfl rfl rfl q1p HR2.out rfl rfl rfl ?_; intro w10 hb hc; have HB := hid hb; have HC := hid hc; clear hb hc))
          refine bodyPost_ret (v := .agg #[.int .i64 g, .int .i64 c, .int .i64 d, .int .i64 p, .int .i64 r, .int .i64 q, .int .i64 bb, .int .i64 u, .int .i64 tt]) (q0m _ 30 rfl rfl q1p Tryz.underlying30 HB.out rfl) rfl ?_
          exact ⟨⟨g, c, d, p, r, q, bb, u, tt⟩, rfl, HSM.out, (HS2.out.chg HC.out (fun hm => by rw [List.mem_singleton] at hm; exact hnb (by rw [hm]; simp)) (fun x hx hm => by
           rw [List.mem_singleton] at hm
           have h1 := HF.out x hx
           omega)).mono (by omega), HC2.out.trans HC.out (fun y hy => .inr (by rw [List.mem_singleton] at hy; omega))⟩
theorem z0g (x : Rec) (cx : Array Value) (fx : List Nat) (w : World) (hx : recL.rep w cx.toList x fx) (hz : q3t x ≤ 1048576) :
  Calls Tryz.prog 165 #[.agg cx] w (q2l recL x w) := by
 obtain ⟨KI, _⟩ := z0i
 obtain ⟨KB, _⟩ := kindB
 obtain ⟨a6, l6, c6, f6, a7, l7, c7, f7, a8, l8, c8, f8, ex, o0, o1, o2, o3, o4, o5, h6, h7, h8, -⟩ := q1g.1 hx
 obtain rfl := Array.toList_inj.1 (ex.trans (List.toList_toArray).symm)
 have q6 := q2f x.rows; have q7 := q2r x.data; have q8 := q2r x.delta
 unfold q3t q3z q5m at hz
 unfold q3z at q6; unfold q5m at q7 q8
 have z6 : l6 ≤ 1048576 := by rw [h6.1]; omega
 have z7 : l7 ≤ 1048576 := by rw [h7.1]; omega
 have z8 : l8 ≤ 1048576 := by rw [h8.1]; omega
 have HO := hid (And.intro o0 (And.intro o1 (And.intro o2 (And.intro o3 (And.intro o4 o5)))))
 have L6 := hid h6.1.symm; have L7 := hid h7.1.symm; have L8 := hid h8.1.symm
 have H6 := hid h6; have H7 := hid h7; have H8 := hid h8
 clear hx ex hz q6 q7 q8 o0 o1 o2 o3 o4 o5 h6 h7 h8
 have G0 := hid (show Chg [] w ((w.alloc (.cells #[.int .i64 x.kind, .int .i64 x.seq, .string x.name, .int .i64 x.length, .int .i64 x.group, .int .i64 x.row, .slice a6 l6 c6, .slice a7 l7 c7, .slice a8 l8 c8] 67)).alloc (.cells #[.int .i64 0, .int .i64 0, .string ⟨#[]⟩, .int .i64 0, .int .i64 0, .int .i64 0, .slice none 0 0, .slice none 0 0, .slice none 0 0] 67)) from ((Chg.refl [] w).alloc _).alloc _)
 have A0 := hid (show ((w.alloc (.cells #[.int .i64 x.kind, .int .i64 x.seq, .string x.name, .int .i64 x.length, .int .i64 x.group, .int .i64 x.row, .slice a6 l6 c6, .slice a7 l7 c7, .slice a8 l8 c8] 67)).alloc (.cells #[.int .i64 0, .int .i64 0, .string ⟨#[]⟩, .int .i64 0, .int .i64 0, .int .i64 0, .slice none 0 0, .slice none 0 0, .slice none 0 0] 67)).heap[w.heap.size]? = some (.cells #[.int .i64 x.kind, .int .i64 x.seq, .string x.name, .int .i64 x.length, .int .i64 x.group, .int .i64 x.row, .slice a6 l6 c6, .slice a7 l7 c7, .slice a8 l8 c8] 67 (0, 0)) from q0b (q0j w _) _)
 have B0 := hid (show ((w.alloc (.cells #[.int .i64 x.kind, .int .i64 x.seq, .string x.name, .int .i64 x.length, .int .i64 x.group, .int .i64 x.row, .slice a6 l6 c6, .slice a7 l7 c7, .slice a8 l8 c8] 67)).alloc (.cells #[.int .i64 0, .int .i64 0, .string ⟨#[]⟩, .int .i64 0, .int .i64 0, .int .i64 0, .slice none 0 0, .slice none 0 0, .slice none 0 0] 67)).heap[w.heap.size + 1]? = some (.cells #[.int .i64 0, .int .i64 0, .string ⟨#[]⟩, .int .i64 0, .int .i64 0, .int .i64 0, .slice none 0 0, .slice none 0 0, .slice none 0 0] 67 (0, 0)) from q0e (by simp) _)
 have S0 := hid (show w.heap.size + 2 ≤ ((w.alloc (.cells #[.int .i64 x.kind, .int .i64 x.seq, .string x.name, .int .i64 x.length, .int .i64 x.group, .int .i64 x.row, .slice a6 l6 c6, .slice a7 l7 c7, .slice a8 l8 c8] 67)).alloc (.cells #[.int .i64 0, .int .i64 0, .string ⟨#[]⟩, .int .i64 0, .int .i64 0, .int .i64 0, .slice none 0 0, .slice none 0 0, .slice none 0 0] 67)).heap.size by simp)
 have HL6 : Hid (([] : List Int).length + x.rows.length ≤ maxLen ∧ (([] : List Int).length + x.rows.length) * 8 ≤ 140737488355328) := by
  have := L6.out
  refine ⟨?_, ?_⟩ <;> simp only [List.length_nil, maxLen] <;> omega
 have HL7 : Hid (([] : List UInt8).length + x.data.length ≤ maxLen ∧ (([] : List UInt8).length + x.data.length) * 1 ≤ 140737488355328) := by
  have := L7.out
  refine ⟨?_, ?_⟩ <;> simp only [List.length_nil, maxLen] <;> omega
 have HL8 : Hid (([] : List UInt8).length + x.delta.length ≤ maxLen ∧ (([] : List UInt8).length + x.delta.length) * 1 ≤ 140737488355328) := by
  have := L8.out
  refine ⟨?_, ?_⟩ <;> simp only [List.length_nil, maxLen] <;> omega
 go_enter Tryz.func165, Tryz.ntmps165
 go_wp2_with (at_builtin; first | (refine intL.wpList_growS q4q rfl _ _ 25 rfl Tryz.underlying25 KI rfl (Grow.madeN (Chg.refl [] ((w.alloc (.cells #[.int .i64 x.kind, .int .i64 x.seq, .string x.name, .int .i64 x.length, .int .i64 x.group, .int .i64 x.row, .slice a6 l6 c6, .slice a7 l7 c7, .slice a8 l8 c8] 67)).alloc (.cells #[.int .i64 0, .int .i64 0, .string ⟨#[]⟩, .int .i64 0, .int .i64 0, .int .i64 0, .slice none 0 0, .slice none 0 0, .slice none 0 0] 67))) (by simp)) (Chg.refl [] _) rfl (intL.sl_ext H6.out (G0.out.alloc _)) HL6.out.1 HL6.out.2 ?_; intro v' w1 hg'; obtain ⟨p6, d6, g6, rfl, hs, hf, hc⟩ := hg'.sl; rw [List.nil_append, L6.out] at hs hg' ⊢; obtain ⟨e1, n1, A1'⟩ := bk0 hc A0.out; obtain ⟨-, -, B1'⟩ := bk0 hc B0.out; have fz1 := q0c A1'.out; have A1 := hid (show (w1.setCell ⟨w.heap.size, 6, none⟩ (.slice p6 l6 d6)).heap[w.heap.size]? = some (.cells #[.int .i64 x.kind, .int .i64 x.seq, .string x.name, .int .i64 x.length, .int .i64 x.group, .int .i64 x.row, .slice p6 l6 d6, .slice a7 l7 c7, .slice a8 l8 c8] 67 (0, 0)) from q0i (cur := #[.int .i64 x.kind, .int .i64 x.seq, .string x.name, .int .i64 x.length, .int .i64 x.group, .int .i64 x.row, .slice a6 l6 c6, .slice a7 l7 c7, .slice a8 l8 c8]) A1'.out rfl); have B1 := hid (q0u B1'.out ⟨w.heap.size, 6, none⟩ (.slice p6 l6 d6) (by simp)); have G1 := hid ((G0.out.trans0 hc).setCell ⟨w.heap.size, 6, none⟩ (.slice p6 l6 d6) (.inr (by simp))); have N1 := hid (And.intro hs (And.intro hf hc)); clear hs hf hc hg') | (refine q0t.wpList_growS q7l rfl _ _ 62 rfl Tryz.underlying62 KB rfl (Grow.madeN (Chg.refl [] (w1.setCell ⟨w.heap.size, 6, none⟩ (.slice p6 l6 d6))) (by simp)) (Chg.refl [] _) rfl (q0t.sl_ext H7.out (G1.out.alloc _)) HL7.out.1 HL7.out.2 ?_; intro v' w2 hg'; obtain ⟨p7, d7, g7, rfl, hs, hf, hc⟩ := hg'.sl; rw [List.nil_append, L7.out] at hs hg' ⊢; obtain ⟨e2, n2, A2'⟩ := bk0 hc A1.out; obtain ⟨-, -, B2'⟩ := bk0 hc B1.out; have fz2 := q0c A2'.out; have A2 := hid (show (w2.setCell ⟨w.heap.size, 7, none⟩ (.slice p7 l7 d7)).heap[w.heap.size]? = some (.cells #[.int .i64 x.kind, .int .i64 x.seq, .string x.name, .int .i64 x.length, .int .i64 x.group, .int .i64 x.row, .slice p6 l6 d6, .slice p7 l7 d7, .slice a8 l8 c8] 67 (0, 0)) from q0i (cur := #[.int .i64 x.kind, .int .i64 x.seq, .string x.name, .int .i64 x.length, .int .i64 x.group, .int .i64 x.row, .slice p6 l6 d6, .slice a7 l7 c7, .slice a8 l8 c8]) A2'.out rfl); have B2 := hid (q0u B2'.out ⟨w.heap.size, 7, none⟩ (.slice p7 l7 d7) (by simp)); have G2 := hid ((G1.out.trans0 hc).setCell ⟨w.heap.size, 7, none⟩ (.slice p7 l7 d7) (.inr (by simp))); have N2 := hid (And.intro hs (And.intro hf hc)); clear hs hf hc hg') | (refine q0t.wpList_growS q7l rfl _ _ 62 rfl Tryz.underlying62 KB rfl (Grow.madeN (Chg.refl [] (w2.setCell ⟨w.heap.size, 7, none⟩ (.slice p7 l7 d7))) (by simp)) (Chg.refl [] _) rfl (q0t.sl_ext H8.out (G2.out.alloc _)) HL8.out.1 HL8.out.2 ?_; intro v' w3 hg'; obtain ⟨p8, d8, g8, rfl, hs, hf, hc⟩ := hg'.sl; rw [List.nil_append, L8.out] at hs hg' ⊢; obtain ⟨e3, n3, A3'⟩ := bk0 hc A2.out; obtain ⟨k3, m3, B3'⟩ := bk0 hc B2.out; have fz3 := q0c A3'.out; have A3 := hid (show (w3.setCell ⟨w.heap.size, 8, none⟩ (.slice p8 l8 d8)).heap[w.heap.size]? = some (.cells #[.int .i64 x.kind, .int .i64 x.seq, .string x.name, .int .i64 x.length, .int .i64 x.group, .int .i64 x.row, .slice p6 l6 d6, .slice p7 l7 d7, .slice p8 l8 d8] 67 (0, 0)) from q0i (cur := #[.int .i64 x.kind, .int .i64 x.seq, .string x.name, .int .i64 x.length, .int .i64 x.group, .int .i64 x.row, .slice p6 l6 d6, .slice p7 l7 d7, .slice a8 l8 c8]) A3'.out rfl); have B3 := hid (q0u B3'.out ⟨w.heap.size, 8, none⟩ (.slice p8 l8 d8) (by simp)); have G3 := hid ((G2.out.trans0 hc).setCell ⟨w.heap.size, 8, none⟩ (.slice p8 l8 d8) (.inr (by simp))); have N3 := hid (And.intro hs (And.intro hf hc)); have z3 := q0c B3'.out; clear hs hf hc hg'))
 have hq : ((((((((((w3.setCell ⟨w.heap.size, 8, none⟩ (.slice p8 l8 d8)).setCell ⟨w.heap.size + 1, 0, none⟩ (.int .i64 x.kind)).setCell ⟨w.heap.size + 1, 1, none⟩ (.int .i64 x.seq)).setCell ⟨w.heap.size + 1, 2, none⟩ (.string x.name)).setCell ⟨w.heap.size + 1, 3, none⟩ (.int .i64 x.length)).setCell ⟨w.heap.size + 1, 4, none⟩ (.int .i64 x.group)).setCell ⟨w.heap.size + 1, 5, none⟩ (.int .i64 x.row)).setCell ⟨w.heap.size + 1, 6, none⟩ (.slice p6 l6 d6)).setCell ⟨w.heap.size + 1, 7, none⟩ (.slice p7 l7 d7)).setCell ⟨w.heap.size + 1, 8, none⟩ (.slice p8 l8 d8)).heap[w.heap.size + 1]? = some (.cells #[.int .i64 x.kind, .int .i64 x.seq, .string x.name, .int .i64 x.length, .int .i64 x.group, .int .i64 x.row, .slice p6 l6 d6, .slice p7 l7 d7, .slice p8 l8 d8] 67 (0, 0)) := by
  have h := row9_back (.int .i64 x.kind) (.int .i64 x.seq) (.string x.name) (.int .i64 x.length) (.int .i64 x.group) (.int .i64 x.row) (.slice p6 l6 d6) (.slice p7 l7 d7) (.slice p8 l8 d8) B3.out
  exact h
 have hqc := cellsOf hq
 have D3 : Chg [w.heap.size, w.heap.size + 1] w3 ((((((((((w3.setCell ⟨w.heap.size, 8, none⟩ (.slice p8 l8 d8)).setCell ⟨w.heap.size + 1, 0, none⟩ (.int .i64 x.kind)).setCell ⟨w.heap.size + 1, 1, none⟩ (.int .i64 x.seq)).setCell ⟨w.heap.size + 1, 2, none⟩ (.string x.name)).setCell ⟨w.heap.size + 1, 3, none⟩ (.int .i64 x.length)).setCell ⟨w.heap.size + 1, 4, none⟩ (.int .i64 x.group)).setCell ⟨w.heap.size + 1, 5, none⟩ (.int .i64 x.row)).setCell ⟨w.heap.size + 1, 6, none⟩ (.slice p6 l6 d6)).setCell ⟨w.heap.size + 1, 7, none⟩ (.slice p7 l7 d7)).setCell ⟨w.heap.size + 1, 8, none⟩ (.slice p8 l8 d8)) := by
  iterate 10 refine Chg.setCell ?_ _ _ (.inl (by simp))
  exact Chg.refl _ _
 have D2 : Chg [w.heap.size, w.heap.size + 1] w2 ((((((((((w3.setCell ⟨w.heap.size, 8, none⟩ (.slice p8 l8 d8)).setCell ⟨w.heap.size + 1, 0, none⟩ (.int .i64 x.kind)).setCell ⟨w.heap.size + 1, 1, none⟩ (.int .i64 x.seq)).setCell ⟨w.heap.size + 1, 2, none⟩ (.string x.name)).setCell ⟨w.heap.size + 1, 3, none⟩ (.int .i64 x.length)).setCell ⟨w.heap.size + 1, 4, none⟩ (.int .i64 x.group)).setCell ⟨w.heap.size + 1, 5, none⟩ (.int .i64 x.row)).setCell ⟨w.heap.size + 1, 6, none⟩ (.slice p6 l6 d6)).setCell ⟨w.heap.size + 1, 7, none⟩ (.slice p7 l7 d7)).setCell ⟨w.heap.size + 1, 8, none⟩ (.slice p8 l8 d8)) := (((Chg.refl [w.heap.size, w.heap.size + 1] w2).setCell _ _ (.inl (by simp))).trans0 N3.out.2.2).trans D3 (fun y hy => .inl hy)
 have D1 : Chg [w.heap.size, w.heap.size + 1] w1 ((((((((((w3.setCell ⟨w.heap.size, 8, none⟩ (.slice p8 l8 d8)).setCell ⟨w.heap.size + 1, 0, none⟩ (.int .i64 x.kind)).setCell ⟨w.heap.size + 1, 1, none⟩ (.int .i64 x.seq)).setCell ⟨w.heap.size + 1, 2, none⟩ (.string x.name)).setCell ⟨w.heap.size + 1, 3, none⟩ (.int .i64 x.length)).setCell ⟨w.heap.size + 1, 4, none⟩ (.int .i64 x.group)).setCell ⟨w.heap.size + 1, 5, none⟩ (.int .i64 x.row)).setCell ⟨w.heap.size + 1, 6, none⟩ (.slice p6 l6 d6)).setCell ⟨w.heap.size + 1, 7, none⟩ (.slice p7 l7 d7)).setCell ⟨w.heap.size + 1, 8, none⟩ (.slice p8 l8 d8)) := (((Chg.refl [w.heap.size, w.heap.size + 1] w1).setCell _ _ (.inl (by simp))).trans0 N2.out.2.2).trans D2 (fun y hy => .inl hy)
 have s1 : w.heap.size + 2 ≤ w1.heap.size := Nat.le_trans S0.out N1.out.2.2.size
 have s2 : w1.heap.size ≤ w2.heap.size := by have := N2.out.2.2.size; simpa using this
 have f1 := N1.out.2.1.mono (C := w.heap.size + 2) S0.out
 have f2 := N2.out.2.1.mono (C := w1.heap.size) (by simp)
 have f3 := N3.out.2.1.mono (C := w2.heap.size) (by simp)
 have K6 := intL.sl_chg N1.out.1 D1 (f1.nots _ (by simp))
 have K7 := q0t.sl_chg N2.out.1 D2 (f2.nots _ (by simp; omega))
 have K8 := q0t.sl_chg N3.out.1 D3 (f3.nots _ (by simp; omega))
 have hfr := ((f1.chg D1).append ((f2.chg D2).append (f3.chg D3) f2.lts s2) f1.lts s1).mono (C := w.heap.size) (by omega)
 have hch : Chg [] w ((((((((((w3.setCell ⟨w.heap.size, 8, none⟩ (.slice p8 l8 d8)).setCell ⟨w.heap.size + 1, 0, none⟩ (.int .i64 x.kind)).setCell ⟨w.heap.size + 1, 1, none⟩ (.int .i64 x.seq)).setCell ⟨w.heap.size + 1, 2, none⟩ (.string x.name)).setCell ⟨w.heap.size + 1, 3, none⟩ (.int .i64 x.length)).setCell ⟨w.heap.size + 1, 4, none⟩ (.int .i64 x.group)).setCell ⟨w.heap.size + 1, 5, none⟩ (.int .i64 x.row)).setCell ⟨w.heap.size + 1, 6, none⟩ (.slice p6 l6 d6)).setCell ⟨w.heap.size + 1, 7, none⟩ (.slice p7 l7 d7)).setCell ⟨w.heap.size + 1, 8, none⟩ (.slice p8 l8 d8)) := (G0.out.trans0 N1.out.2.2).trans D1 (fun y hy => .inr (by simp only [List.mem_cons, List.not_mem_nil, or_false] at hy; omega))
 refine bodyPost_ret (v := .agg #[.int .i64 x.kind, .int .i64 x.seq, .string x.name, .int .i64 x.length, .int .i64 x.group, .int .i64 x.row, .slice p6 l6 d6, .slice p7 l7 d7, .slice p8 l8 d8]) (by simp [results, Tryz.results165, go_sem, hqc]) rfl ⟨_, _, rfl, q1g.2 ⟨p6, l6, d6, g6, p7, l7, d7, g7, p8, l8, d8, g8, rfl, HO.out.1, HO.out.2.1, HO.out.2.2.1, HO.out.2.2.2.1, HO.out.2.2.2.2.1, HO.out.2.2.2.2.2, K6, K7, K8, by simp⟩, hfr, hch⟩
theorem q6g (a : Option Addr) (la ca : Nat) (xs : List Rec) (f : List Nat) (w : World) (ha : recL.sl w a la ca xs f) (hz : totL q3t xs ≤ 1048576) :
  Calls Tryz.prog 91 #[.slice a la ca] w (q7w recL xs w) := by
 obtain ⟨K, _⟩ := z0h
 have hlz : la ≤ 1048576 := by have := q2e q3i xs; rw [ha.1]; omega
 have HL := hid ha.1
 have HA := hid ha
 have HZ := hid (fun x hx => Int.le_trans (q1y q3i hx) hz : ∀ x ∈ xs, q3t x ≤ 1048576)
 clear ha hz
 go_enter Tryz.func91, Tryz.ntmps91
 go_wp2_with fail
 go_loopw [3, 4] (fun vo vi wr => ∃ (k : Nat) (Wr : World), Wr = wr ∧ k ≤ la ∧ vi = .int .i64 k ∧ Grow recL 67 w wr vo (xs.take k)) (fun _ vi _ => la - (intOf vi).toNat)
 case atStart => exact ⟨0, _, rfl, by omega, rfl, by rw [List.take_zero]; exact Grow.made (Chg.refl _ _)⟩
 case round =>
  obtain ⟨k, wr, rfl, hk, rfl, hg⟩ := hrel
  by_cases hlt : k < la
  ·obtain ⟨x, b, off, a6, l6, c6, a7, l7, c7, a8, l8, c8, fq, HX, rfl, hq0, hq1, hq2, hq3, hq4, hq5, hq6, hq7, hq8, HXS⟩ := rec_at (recL.sl_ext HA.out hg.chg) hlt
   have HG := hid hg
   have HXI := hid HX.out.1
   have HXZ := hid (HZ.out x (List.mem_of_getElem? HX.out.1))
   clear hg HX
   go_wp2_with fail
   refine (z0g x #[.int .i64 x.kind, .int .i64 x.seq, .string x.name, .int .i64 x.length, .int .i64 x.group, .int .i64 x.row, .slice a6 l6 c6, .slice a7 l7 c7, .slice a8 l8 c8] fq _ HXS.out HXZ.out).mono ?_
   rintro e w1 ⟨cs, f1, rfl, hr, hf, hc⟩
   obtain ⟨p6, m6, d6, _, p7, m7, d7, _, p8, m8, d8, _, ex, -⟩ := q1g.1 hr
   obtain rfl := Array.toList_inj.1 (ex.trans (List.toList_toArray).symm)
   have HN1 := hid (And.intro hr (And.intro hf hc))
   have HLL : Hid ((xs.take k).length + [x].length ≤ maxLen ∧ ((xs.take k).length + [x].length) * 128 ≤ 140737488355328) := by
    refine ⟨?_, ?_⟩ <;> simp only [List.length_take, List.length_cons, List.length_nil, maxLen] <;> omega
   have HNX := hid (q1j HXI.out)
   clear ex hr hf hc hq0 hq1 hq2 hq3 hq4 hq5 hq6 hq7 hq8 HXS
   go_wp2_with (at_builtin; refine recL.wpList_grow rfl _ _ 44 rfl Tryz.underlying44 K rfl HG.out (HN1.out.2.2.alloc (.cells #[.int .i64 x.kind, .int .i64 x.seq, .string x.name, .int .i64 x.length, .int .i64 x.group, .int .i64 x.row, .slice p6 m6 d6, .slice p7 m7 d7, .slice p8 m8 d8] 67)) ⟨w1.heap.size, 0, none⟩ 1 1 [.int .i64 x.kind, .int .i64 x.seq, .string x.name, .int .i64 x.length, .int .i64 x.group, .int .i64 x.row, .slice p6 m6 d6, .slice p7 m7 d7, .slice p8 m8 d8] (ys := [x]) (f := f1) rfl rfl (q1i w1 #[.int .i64 x.kind, .int .i64 x.seq, .string x.name, .int .i64 x.length, .int .i64 x.group, .int .i64 x.row, .slice p6 m6 d6, .slice p7 m7 d7, .slice p8 m8 d8] 67) (recL.all_single (recL.ext HN1.out.1 ((Chg.refl [] w1).alloc _))) (HN1.out.2.1.chg ((Chg.refl [] w1).alloc (.cells #[.int .i64 x.kind, .int .i64 x.seq, .string x.name, .int .i64 x.length, .int .i64 x.group, .int .i64 x.row, .slice p6 m6 d6, .slice p7 m7 d7, .slice p8 m8 d8] 67))) HLL.out.1 HLL.out.2 ?_; intro v' w' hg'; rw [← HNX.out] at hg'; have HG2 := hid hg'; clear hg')
   go_roundw
   case rel => exact ⟨k + 1, _, rfl, by omega, by go_num, HG2.out⟩
   case measure => simp [intOf]; omega
  ·obtain rfl : k = la := by omega
   rw [List.take_of_length_le (by have := HL.out; omega)] at hg
   obtain ⟨a', c', f', h1, h2, h3, h4⟩ := hg.sl
   subst h1
   have HN := hid (show q7w recL xs w (.returned (.slice a' xs.length c')) wr from ⟨a', c', f', rfl, h2, h3, h4⟩)
   generalize xs.length = n at HN ⊢
   clear h2 h3 h4 hg
   go_wp2_with fail
   go_ret
   exact HN.out
theorem q4i (x : Blk) (cx : Array Value) (fx : List Nat) (w : World) (hx : blkL.rep w cx.toList x fx) (hz : q2s x ≤ 1048576) :
  Calls Tryz.prog 140 #[.agg cx] w (q2l blkL x w) := by
 obtain ⟨KB, _⟩ := kindB
 obtain ⟨a1, l1, c1, f1, ex, o0, h1, -⟩ := q1s.1 hx
 obtain rfl := Array.toList_inj.1 (ex.trans (List.toList_toArray).symm)
 have z1 : l1 ≤ 1048576 := by unfold q2s q5m at hz; rw [h1.1]; omega
 have HO := hid o0
 have L1 := hid h1.1.symm
 have H1 := hid h1
 clear hx ex hz o0 h1
 have G0 := hid (show Chg [] w ((w.alloc (.cells #[.int .i64 x.sM, .slice a1 l1 c1] 76)).alloc (.cells #[.int .i64 0, .slice none 0 0] 76)).drew from (((Chg.refl [] w).alloc _).alloc _).drew)
 have B1 := hid (show ((w.alloc (.cells #[.int .i64 x.sM, .slice a1 l1 c1] 76)).alloc (.cells #[.int .i64 0, .slice none 0 0] 76)).drew.heap[w.heap.size]? = some (.cells #[.int .i64 x.sM, .slice a1 l1 c1] 76 (0, 0)) from q0a (q0b (q0j w _) _))
 have B2 := hid (show ((w.alloc (.cells #[.int .i64 x.sM, .slice a1 l1 c1] 76)).alloc (.cells #[.int .i64 0, .slice none 0 0] 76)).drew.heap[w.heap.size + 1]? = some (.cells #[.int .i64 0, .slice none 0 0] 76 (0, 0)) from q0a (q0e (by simp) _))
 have S0 := hid (show w.heap.size + 2 ≤ ((w.alloc (.cells #[.int .i64 x.sM, .slice a1 l1 c1] 76)).alloc (.cells #[.int .i64 0, .slice none 0 0] 76)).drew.heap.size by simp [World.drew])
 have HL1 : Hid (([] : List UInt8).length + x.bytes.length ≤ maxLen ∧ (([] : List UInt8).length + x.bytes.length) * 1 ≤ 140737488355328) := by
  have := L1.out
  refine ⟨?_, ?_⟩ <;> simp only [List.length_nil, maxLen] <;> omega
 go_enter Tryz.func140, Tryz.ntmps140
 go_wp2_with fail
 obtain ⟨CC, HCI, HCO⟩ := q0l (fun w' => Know w.heap.size #[.int .i64 x.sM, .slice a1 l1 c1] w')
 refine q1m [7] CC (by kernel_rfl) (HCI.out _ (Know.of B1.out)) (fun hcl hS => ?_)
 refine ggT 0 hcl hS ?_; clear hcl hS; intro hcl hS
 refine ggL 1 hcl hS HCO ?_; clear hcl hS; intro hcl hS
 refine ggT 3 hcl hS ?_; clear hcl hS; intro hcl hS
 refine ggL 4 hcl hS HCO ?_; clear hcl hS; intro hcl hS
 refine ggC 2 hcl rfl (by kernel_rfl) (fun K hK => ?_)
 go_simp
 refine hK.out _ _ (fun _ => HCI.out _ (Know.of (q0b B1.out _))) ?_
 clear hK K hcl hS
 intro hcl hS
 try simp only [Act.put, pA, pB, pC]
 refine ggC 5 hcl rfl (by kernel_rfl) (fun K hK => ?_)
 refine q0t.step_growS q7l rfl _ _ 62 rfl Tryz.underlying62 KB rfl (Grow.madeN (Chg.refl [] ((w.alloc (.cells #[.int .i64 x.sM, .slice a1 l1 c1] 76)).alloc (.cells #[.int .i64 0, .slice none 0 0] 76)).drew) (by simp [World.drew])) (Chg.refl [] _) rfl (q0t.sl_ext H1.out (G0.out.alloc _)) HL1.out.1 HL1.out.2 ?_
 intro v' w1 hg'
 obtain ⟨p1, d1, g1, rfl, hs, hf, hc⟩ := hg'.sl
 rw [List.nil_append, L1.out] at hs hg' ⊢
 obtain ⟨-, -, C1⟩ := bk0 hc B1.out; obtain ⟨k2, m2, C2⟩ := bk0 hc B2.out; have z2 := q0c C2.out; have N1 := hid (And.intro hs (And.intro hf hc)); clear hs hf hc hg'
 refine hK.out _ _ (fun _ => HCI.out _ (Know.of C1.out)) ?_
 clear hK K hcl hS
 intro hcl hS
 try simp only [Act.put, pA, pB, pC]
 refine ggT 6 hcl hS ?_; clear hcl hS; intro hcl hS
 refine ggC 7 hcl rfl (by kernel_rfl) (fun K hK => ?_)
 go_simp
 refine hK.out _ _ (Till.done (m := 7) (by simp) (by rfl)) ?_
 clear hK K hcl hS
 intro hcl hS
 try simp only [Act.put, pA, pB, pC]
 refine q3h (by kernel_rfl) ?_ _
 go_wp2_with fail
 have hq : ((w1.setCell ⟨w.heap.size + 1, 0, none⟩ (.int .i64 x.sM)).setCell ⟨w.heap.size + 1, 1, none⟩ (.slice p1 l1 d1)).heap[w.heap.size + 1]? = some (.cells #[.int .i64 x.sM, .slice p1 l1 d1] 76 (0, 0)) := q8q _ _ C2.out
 have hqc := cellsOf hq
 have D1 : Chg [w.heap.size + 1] w1 ((w1.setCell ⟨w.heap.size + 1, 0, none⟩ (.int .i64 x.sM)).setCell ⟨w.heap.size + 1, 1, none⟩ (.slice p1 l1 d1)) := ((Chg.refl _ w1).setCell _ _ (.inl (by simp))).setCell _ _ (.inl (by simp))
 have f1' := N1.out.2.1.mono (C := w.heap.size + 2) S0.out
 have K1 := q0t.sl_chg N1.out.1 D1 (f1'.nots _ (by simp))
 have hch : Chg [] w ((w1.setCell ⟨w.heap.size + 1, 0, none⟩ (.int .i64 x.sM)).setCell ⟨w.heap.size + 1, 1, none⟩ (.slice p1 l1 d1)) := (G0.out.trans0 N1.out.2.2).trans D1 (fun y hy => .inr (by rw [List.mem_singleton] at hy; omega))
 refine bodyPost_ret (v := .agg #[.int .i64 x.sM, .slice p1 l1 d1]) (by simp [results, Tryz.results140, go_sem, hqc]) rfl ⟨_, _, rfl, q1s.2 ⟨p1, l1, d1, g1, rfl, HO.out, K1, rfl⟩, (f1'.chg D1).mono (by omega), hch⟩
theorem Lay.all_modN {α : Type} (L : Lay α) {w : World} {x : α} : ∀ {xs : List α} {i : Nat} {cs : List Value} {fps : List Nat}, L.all w cs xs fps → xs[i]? = some x →
  ∃ c f f1 f2, fps = f1 ++ f ++ f2 ∧ (∀ j, j < L.n → cs[i * L.n + j]? = c[j]?) ∧ L.rep w c x f ∧
   ∀ w' x' f', L.rep w' c x' f' → (∀ y, (y ∈ f1 ∨ y ∈ f2) → w'.heap[y]? = w.heap[y]?) → L.all w' cs (xs.set i x') (f1 ++ f' ++ f2) := by
 intro xs
 induction xs with
 | nil => intro i cs fps _ hx; simp at hx
 | cons y ys ih =>
  intro i cs fps h hx
  obtain ⟨c1, c2, f1, f2, rfl, rfl, h1, h2⟩ := h
  have hl := L.len h1
  cases i with
  | zero =>
   simp at hx
   subst hx
   refine ⟨c1, f1, [], f2, by simp, fun j hj => by rw [Nat.zero_mul, Nat.zero_add, List.getElem?_append_left (by omega)], h1, fun w' x' f' hr hk => ⟨c1, c2, f', f2, rfl, by simp, hr, L.all_keep h2 (fun y hy => hk y (.inr hy))⟩⟩
  | succ i =>
   obtain ⟨c, f, g1, g2, rfl, hc, hr, hm⟩ := ih h2 (by simpa using hx)
   refine ⟨c, f, f1 ++ g1, g2, by simp, fun j hj => ?_, hr, fun w' x' f' hr' hk => ⟨c1, c2, f1, _, rfl, by simp, L.keep h1 (fun y hy => hk y (.inl (by simp [hy]))), hm w' x' f' hr' (fun y hy => hk y (by rcases hy with hy | hy; exact .inl (by simp [hy]); exact .inr hy))⟩⟩
   have e : (i + 1) * L.n + j = c1.length + (i * L.n + j) := by rw [Nat.add_mul, Nat.one_mul, hl]; omega
   rw [e, List.getElem?_append_right (by omega), Nat.add_sub_cancel_left, hc j hj]
theorem Lay.sl_modN {α : Type} (L : Lay α) {w : World} {b off len cap : Nat} {xs : List α} {fp : List Nat} (h : L.sl w (some ⟨b, off, none⟩) len cap xs fp) (nd : fp.Nodup) {i : Nat} (hi : i < len) :
  ∃ x c f, xs[i]? = some x ∧ b ∈ fp ∧ (∀ j, j < L.n → w.cell? ⟨b, off + i * L.n + j, none⟩ = c[j]?) ∧ L.rep w c x f ∧ (∀ y ∈ f, y ∈ fp) ∧ f.Nodup ∧ b ∉ f ∧
   ∀ w' x' f', L.rep w' c x' f' → f'.Nodup → (∀ y ∈ f', y ∈ f ∨ y ∉ fp) → (∀ y ∈ fp, y ∉ f → w'.heap[y]? = w.heap[y]?) →
    ∃ fp', L.sl w' (some ⟨b, off, none⟩) len cap (xs.set i x') fp' ∧ fp'.Nodup ∧ ∀ y ∈ fp', (y ∈ fp ∧ y ∉ f) ∨ y ∈ f' := by
 obtain ⟨h1, h2, h3, h4, ⟨rfl, rfl⟩ | ⟨b', off', cur, E, fr, fps, ha, hb, hall, rfl⟩⟩ := h
 ·simp at h1; omega
 ·simp only [Option.some.injEq, Addr.mk.injEq, and_true] at ha
  obtain ⟨rfl, rfl⟩ := ha
  have hx : xs[i]? = some (xs[i]'(by omega)) := List.getElem?_eq_getElem _
  obtain ⟨c, f, f1, f2, rfl, hc, hr, hm⟩ := L.all_modN hall hx
  have nd1 := List.nodup_cons.1 nd
  have nd2 := List.nodup_append.1 nd1.2
  have nd3 := List.nodup_append.1 nd2.1
  have hf1 : ∀ y ∈ f1, y ∉ f := fun y hy hyf => nd3.2.2 y hy y hyf rfl
  have hf2 : ∀ y ∈ f2, y ∉ f := fun y hy hyf => nd2.2.2 y (by simp [hyf]) y hy rfl
  have hbf : b ∉ f := fun hbf => nd1.1 (by simp [hbf])
  refine ⟨_, c, f, hx, by simp, fun j hj => ?_, hr, fun y hy => by simp [hy], nd3.2.1, hbf, fun w' x' f' hr' ndf hd hk => ⟨b :: (f1 ++ f' ++ f2), ⟨by simpa using h1, h2, h3, h4, .inr ⟨b, off, cur, E, fr, _, rfl, ?_, hm w' x' f' hr' ?_, rfl⟩⟩, ?_, ?_⟩⟩
  ·rw [cell_of_row w b _ cur E fr hb, ← hc j hj, List.getElem?_take_of_lt, List.getElem?_drop]
   ·simp [Nat.add_assoc]
   ·calc i * L.n + j < i * L.n + L.n := by omega
     _ = (i + 1) * L.n := by rw [Nat.add_mul, Nat.one_mul]
     _ ≤ len * L.n := Nat.mul_le_mul_right _ (by omega)
  ·rw [hk b (by simp) hbf]; exact hb
  ·intro y hy
   refine hk y (by rcases hy with hy | hy <;> simp [hy]) (fun hyf => ?_)
   rcases hy with hy | hy
   ·exact hf1 y hy hyf
   ·exact hf2 y hy hyf
  ·have d1 : ∀ y ∈ f', y ∉ f1 := fun y hy h1 => by
    rcases hd y hy with h | h
    ·exact hf1 y h1 h
    ·exact h (by simp [h1])
   have d2 : ∀ y ∈ f', y ∉ f2 := fun y hy h1 => by
    rcases hd y hy with h | h
    ·exact hf2 y h1 h
    ·exact h (by simp [h1])
   have db : b ∉ f' := fun hy => by
    rcases hd b hy with h | h
    ·exact hbf h
    ·exact h (by simp)
   refine List.nodup_cons.2 ⟨fun hm => ?_, List.nodup_append.2 ⟨List.nodup_append.2 ⟨nd3.1, ndf, fun y hy z hz e => d1 z hz (e ▸ hy)⟩, nd2.2.1, fun y hy z hz e => ?_⟩⟩
   ·rw [List.mem_append, List.mem_append] at hm
    rcases hm with (hm | hm) | hm
    ·exact nd1.1 (by simp [hm])
    ·exact db hm
    ·exact nd1.1 (by simp [hm])
   ·subst e
    rcases List.mem_append.1 hy with hy | hy
    ·exact nd2.2.2 y (by simp [hy]) y hz rfl
    ·exact d2 y hy hz
  ·intro y hy
   simp only [List.mem_cons, List.mem_append] at hy
   rcases hy with rfl | (hy | hy) | hy
   ·exact .inl ⟨by simp, hbf⟩
   ·exact .inl ⟨by simp [hy], hf1 y hy⟩
   ·exact .inr hy
   ·exact .inl ⟨by simp [hy], hf2 y hy⟩
theorem q1c.swap1 {B : Nat} {w : World} {a a' r : List Nat} (h : q1c B w (a ++ r)) (nd : a'.Nodup) (hc : ∀ y ∈ a', y ∈ a ∨ (y ∉ a ++ r ∧ B ≤ y ∧ q3x w y)) : q1c B w (a' ++ r) := by
 obtain ⟨h1, h2⟩ := h
 obtain ⟨na, nr, dar⟩ := List.nodup_append.1 h1
 refine ⟨List.nodup_append.2 ⟨nd, nr, fun y hy z hz e => ?_⟩, fun y hy => ?_⟩
 ·subst e
  rcases hc y hy with h | ⟨h, -⟩
  ·exact dar y h y hz rfl
  ·exact h (by simp [hz])
 ·rcases List.mem_append.1 hy with hy | hy
  ·rcases hc y hy with h | ⟨_, h, h'⟩
   ·exact h2 y (by simp [h])
   ·exact ⟨h, h'⟩
  ·exact h2 y (by simp [hy])
theorem drv_mod {w : World} {b off len cap : Nat} {xs : List Drv} {fp : List Nat} (h : drvL.sl w (some ⟨b, off, none⟩) len cap xs fp) (nd : fp.Nodup) {i : Nat} (hi : i < len) :
  ∃ D A l C f, xs[i]? = some D ∧ w.cell? ⟨b, off + i * 2, none⟩ = some (.bool D.wiped) ∧ w.cell? ⟨b, off + i * 2 + 1, none⟩ = some (.slice A l C) ∧ blkL.sl w A l C D.blocks f ∧ (∀ y ∈ f, y ∈ fp) ∧ f.Nodup ∧ b ∉ f ∧ b ∈ fp ∧
   ∀ w' bs f', blkL.sl w' A l C bs f' → f'.Nodup → (∀ y ∈ f', y ∈ f ∨ y ∉ fp) → (∀ y ∈ fp, y ∉ f → w'.heap[y]? = w.heap[y]?) →
    ∃ fp', drvL.sl w' (some ⟨b, off, none⟩) len cap (xs.set i { D with blocks := bs }) fp' ∧ fp'.Nodup ∧ ∀ y ∈ fp', (y ∈ fp ∧ y ∉ f) ∨ y ∈ f' := by
 obtain ⟨D, c, f, hx, hb, hc, hr, hf, hfn, hbf, hup⟩ := drvL.sl_modN h nd hi
 obtain ⟨A, l, C, f1, rfl, hs, hff⟩ := q2i.1 hr
 obtain rfl : f = f1 := by simpa using hff
 exact ⟨D, A, l, C, f, hx, hc 0 (by decide), hc 1 (by decide), hs, hf, hfn, hbf, hb, fun w' bs f' h1 => hup w' { D with blocks := bs } f' (q2i.2 ⟨A, l, C, f', rfl, h1, by simp⟩)⟩
end Go.Proofs.YtphmpimgbmedbaaGreat
