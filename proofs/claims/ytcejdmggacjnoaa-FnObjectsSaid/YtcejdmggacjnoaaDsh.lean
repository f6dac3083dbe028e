
/- A shape drawn, and one bent. -/
import Derived.Test.YtcejdmggacjnoaaDr2
import Derived.Test.YtcejdmggacjnoaaSto
namespace Go.Proofs.Ytcejdmggacjnoaa
open Go.RowKit

theorem infoShD : (Try.prog.info? 29).map (fun i => i.size) = some 9 := by kernel_rfl
/-- a shape that is small in all -/
def Shp.small (x : Shp) : Prop := (-1000 ≤ x.groups ∧ x.groups ≤ 1000) ∧ (-1000 ≤ x.column ∧ x.column ≤ 1000) ∧ (-1000 ≤ x.data ∧ x.data ≤ 1000) ∧ (-1000 ≤ x.spare ∧ x.spare ≤ 1000) ∧ (-1000 ≤ x.rows ∧ x.rows ≤ 1000) ∧ (-1000 ≤ x.cap ∧ x.cap ≤ 1000) ∧ (-1000 ≤ x.batch ∧ x.batch ≤ 1000) ∧ (-1000 ≤ x.queue ∧ x.queue ≤ 1000) ∧ (-1000 ≤ x.stage ∧ x.stage ≤ 1000)
def ShapeDraw (R : Shp → Prop) (b : Nat) (a : Option Addr) (la ca : Nat) (xs : List UInt8) (f : List Nat) (t : Int) (w0 : World) (e : Ending) (w' : World) : Prop :=
  ∃ x : Shp, e = .returned (.agg x.cells) ∧ R x ∧ SrcB b a la ca xs f t w' ∧ Chg [b] w0 w'
set_option maxRecDepth 100000 in
set_option maxHeartbeats 2000000 in
theorem shape_any (b : Nat) (a : Option Addr) (la ca : Nat) (xs : List UInt8) (f : List Nat) (t : Int) (w : World) (h : SrcB b a la ca xs f t w) (ht : t ≤ 1073741600) :
    Calls Try.prog 44 #[.pointer (some ⟨b, 0, none⟩)] w (ShapeDraw (fun x => x.ok ∧ x.groups ≤ 4 ∧ x.rows ≤ 4) b a la ca xs f (t + 9) w) := by
  have HS0 := Lib.hid (h.ext ((Chg.refl [] w).alloc (.cells #[.int .i64 0, .int .i64 0, .int .i64 0, .int .i64 0, .int .i64 0, .int .i64 0, .int .i64 0, .int .i64 0, .int .i64 0] 29)))
  have HC0 := Lib.hid (((Chg.refl [b] w).alloc (.cells #[.int .i64 0, .int .i64 0, .int .i64 0, .int .i64 0, .int .i64 0, .int .i64 0, .int .i64 0, .int .i64 0, .int .i64 0] 29)))
  have HX0 := Lib.hid (new_alloc w (.cells #[.int .i64 0, .int .i64 0, .int .i64 0, .int .i64 0, .int .i64 0, .int .i64 0, .int .i64 0, .int .i64 0, .int .i64 0] 29))
  have HBN := Lib.hid (show w.heap.size ∉ [b] from fun hm => by rw [List.mem_singleton] at hm; have := h.lt; omega)
  have HF := Lib.hid (fun x (hx : x ∈ f) => byteL.sl_lt h.2.1 x hx)
  clear h
  go_enter Try.func44, Try.ntmps44
  go_wp2_with fail
  refine (pickN_any b a la ca xs f (t) 4 [2, 3, 1, 4] _ HS0.out (by omega) (by simp [i64ok]) rfl (by omega) (by omega) _ rfl _ (by simp)).mono ?_
  rintro e w1 ⟨v0, rfl, hd, hs, hc⟩
  have HS1 := Lib.hid hs; have HC1 := Lib.hid (HC0.out.trans hc (fun x hx => .inl hx)); have HX1 := Lib.hid (hc.keepb HX0.out HBN.out)
  have hb0 : v0 = 1 ∨ v0 = 2 ∨ v0 = 3 ∨ v0 = 4 := by simp only [List.mem_cons, List.not_mem_nil, or_false] at hd; omega
  clear hs hc hd
  go_wp2_with fail
  refine (pickN_any b a la ca xs f (t + 1) 4 [1, 2, 1, 0] _ HS1.out (by omega) (by simp [i64ok]) rfl (by omega) (by omega) _ rfl _ (by simp)).mono ?_
  rintro e w2 ⟨v1, rfl, hd, hs, hc⟩
  have HS2 := Lib.hid hs; have HC2 := Lib.hid (HC1.out.trans hc (fun x hx => .inl hx)); have HX2 := Lib.hid (hc.keepb HX1.out HBN.out)
  have hb1 : v1 = 0 ∨ v1 = 1 ∨ v1 = 2 := by simp only [List.mem_cons, List.not_mem_nil, or_false] at hd; omega
  clear hs hc hd
  go_wp2_with fail
  refine (pickN_any b a la ca xs f (t + 1 + 1) 3 [2, 1, 3] _ HS2.out (by omega) (by simp [i64ok]) rfl (by omega) (by omega) _ rfl _ (by simp)).mono ?_
  rintro e w3 ⟨v2, rfl, hd, hs, hc⟩
  have HS3 := Lib.hid hs; have HC3 := Lib.hid (HC2.out.trans hc (fun x hx => .inl hx)); have HX3 := Lib.hid (hc.keepb HX2.out HBN.out)
  have hb2 : v2 = 1 ∨ v2 = 2 ∨ v2 = 3 := by simp only [List.mem_cons, List.not_mem_nil, or_false] at hd; omega
  clear hs hc hd
  go_wp2_with fail
  refine (pickN_any b a la ca xs f (t + 1 + 1 + 1) 3 [1, 0, 2] _ HS3.out (by omega) (by simp [i64ok]) rfl (by omega) (by omega) _ rfl _ (by simp)).mono ?_
  rintro e w4 ⟨v3, rfl, hd, hs, hc⟩
  have HS4 := Lib.hid hs; have HC4 := Lib.hid (HC3.out.trans hc (fun x hx => .inl hx)); have HX4 := Lib.hid (hc.keepb HX3.out HBN.out)
  have hb3 : v3 = 0 ∨ v3 = 1 ∨ v3 = 2 := by simp only [List.mem_cons, List.not_mem_nil, or_false] at hd; omega
  clear hs hc hd
  go_wp2_with fail
  refine (pickN_any b a la ca xs f (t + 1 + 1 + 1 + 1) 3 [2, 3, 4] _ HS4.out (by omega) (by simp [i64ok]) rfl (by omega) (by omega) _ rfl _ (by simp)).mono ?_
  rintro e w5 ⟨v4, rfl, hd, hs, hc⟩
  have HS5 := Lib.hid hs; have HC5 := Lib.hid (HC4.out.trans hc (fun x hx => .inl hx)); have HX5 := Lib.hid (hc.keepb HX4.out HBN.out)
  have hb4 : v4 = 2 ∨ v4 = 3 ∨ v4 = 4 := by simp only [List.mem_cons, List.not_mem_nil, or_false] at hd; omega
  clear hs hc hd
  go_wp2_with fail
  refine (pickN_any b a la ca xs f (t + 1 + 1 + 1 + 1 + 1) 3 [1, 2, 3] _ HS5.out (by omega) (by simp [i64ok]) rfl (by omega) (by omega) _ rfl _ (by simp)).mono ?_
  rintro e w6 ⟨v5, rfl, hd, hs, hc⟩
  have HS6 := Lib.hid hs; have HC6 := Lib.hid (HC5.out.trans hc (fun x hx => .inl hx)); have HX6 := Lib.hid (hc.keepb HX5.out HBN.out)
  have hb5 : v5 = 1 ∨ v5 = 2 ∨ v5 = 3 := by simp only [List.mem_cons, List.not_mem_nil, or_false] at hd; omega
  clear hs hc hd
  go_wp2_with fail
  refine (pickN_any b a la ca xs f (t + 1 + 1 + 1 + 1 + 1 + 1) 2 [1, 2] _ HS6.out (by omega) (by simp [i64ok]) rfl (by omega) (by omega) _ rfl _ (by simp)).mono ?_
  rintro e w7 ⟨v6, rfl, hd, hs, hc⟩
  have HS7 := Lib.hid hs; have HC7 := Lib.hid (HC6.out.trans hc (fun x hx => .inl hx)); have HX7 := Lib.hid (hc.keepb HX6.out HBN.out)
  have hb6 : v6 = 1 ∨ v6 = 2 := by simp only [List.mem_cons, List.not_mem_nil, or_false] at hd; omega
  clear hs hc hd
  go_wp2_with fail
  refine (pickN_any b a la ca xs f (t + 1 + 1 + 1 + 1 + 1 + 1 + 1) 3 [1, 2, 3] _ HS7.out (by omega) (by simp [i64ok]) rfl (by omega) (by omega) _ rfl _ (by simp)).mono ?_
  rintro e w8 ⟨v7, rfl, hd, hs, hc⟩
  have HS8 := Lib.hid hs; have HC8 := Lib.hid (HC7.out.trans hc (fun x hx => .inl hx)); have HX8 := Lib.hid (hc.keepb HX7.out HBN.out)
  have hb7 : v7 = 1 ∨ v7 = 2 ∨ v7 = 3 := by simp only [List.mem_cons, List.not_mem_nil, or_false] at hd; omega
  clear hs hc hd
  go_wp2_with fail
  refine (pickN_any b a la ca xs f (t + 1 + 1 + 1 + 1 + 1 + 1 + 1 + 1) 4 [60, 20, 100, 400] _ HS8.out (by omega) (by simp [i64ok]) rfl (by omega) (by omega) _ rfl _ (by simp)).mono ?_
  rintro e w9 ⟨v8, rfl, hd, hs, hc⟩
  have HS9 := Lib.hid hs; have HC9 := Lib.hid (HC8.out.trans hc (fun x hx => .inl hx)); have HX9 := Lib.hid (hc.keepb HX8.out HBN.out)
  have hb8 : v8 = 20 ∨ v8 = 60 ∨ v8 = 100 ∨ v8 = 400 := by simp only [List.mem_cons, List.not_mem_nil, or_false] at hd; omega
  clear hs hc hd
  have c9 := cellsOf HX9.out; have l9 := ltOf HX9.out; have f9 := freeOf HX9.out
  have HOK := Lib.hid (show (⟨v0, v1, v2, v3, v4, v5, v6, v7, v8⟩ : Shp).ok ∧ v0 ≤ 4 ∧ v4 ≤ 4 from ⟨by unfold Shp.ok; dsimp only; omega, by omega, by omega⟩)
  clear hb0 hb1 hb2 hb3 hb4 hb5 hb6 hb7 hb8
  go_wp2_with (refine store_wide rfl _ _ 29 rfl rfl rfl infoShD HX9.out rfl rfl rfl ?_; intro w10 hb hc; have HB := Lib.hid hb; have HC := Lib.hid hc; clear hb hc)
  refine bodyPost_ret (v := .agg #[.int .i64 v0, .int .i64 v1, .int .i64 v2, .int .i64 v3, .int .i64 v4, .int .i64 v5, .int .i64 v6, .int .i64 v7, .int .i64 v8]) (results_wide _ 29 rfl rfl infoShD Try.underlying29 HB.out rfl) rfl ?_
  have hlb : ∀ y, y ∈ [w.heap.size] → y ∈ [b] ∨ w.heap.size ≤ y := fun y hy => .inr (by rw [List.mem_singleton] at hy; omega)
  exact ⟨⟨v0, v1, v2, v3, v4, v5, v6, v7, v8⟩, rfl, HOK.out, (HS9.out.chg HC.out (fun hm => by rw [List.mem_singleton] at hm; exact HBN.out (by rw [hm]; simp)) (fun x hx hm => by
    rw [List.mem_singleton] at hm
    have h1 := HF.out x hx
    omega)).mono (by omega), HC9.out.trans HC.out hlb⟩
theorem Shp.small_of_ok {x : Shp} (h : x.ok) : x.small := by unfold Shp.ok at h; unfold Shp.small; omega
set_option maxRecDepth 100000 in
set_option maxHeartbeats 4000000 in
theorem bent_any (b : Nat) (a : Option Addr) (la ca : Nat) (xs : List UInt8) (f : List Nat) (t : Int) (w : World) (h : SrcB b a la ca xs f t w) (ht : t ≤ 1073741600) :
    Calls Try.prog 27 #[.pointer (some ⟨b, 0, none⟩)] w (ShapeDraw Shp.small b a la ca xs f (t + 11) w) := by
  have HF := Lib.hid (fun x (hx : x ∈ f) => byteL.sl_lt h.2.1 x hx)
  have hbw := h.lt
  have HS := Lib.hid h
  clear h
  go_enter Try.func27, Try.ntmps27
  go_wp2_with fail
  refine (shape_any b a la ca xs f t _ (HS.out.ext ((Chg.refl [] w).alloc _)) ht).mono ?_
  rintro e w1 ⟨x, rfl, hok, hs1, hc1⟩
  have HSM := Lib.hid (Shp.small_of_ok hok.1)
  have HS1 := Lib.hid hs1
  have hnb : w.heap.size ∉ [b] := fun hm => by rw [List.mem_singleton] at hm; omega
  have HR1 := Lib.hid (hc1.keepb (new_alloc w _) hnb)
  have HC1 := Lib.hid (((Chg.refl [b] w).alloc _).trans hc1 (fun y hy => .inl hy))
  have hsz : w.heap.size + 1 ≤ w1.heap.size := by have := hc1.size; simpa using this
  clear hs1 hc1 hok
  obtain ⟨g, c, d, p, r, q, bb, u, tt⟩ := x
  simp only [Shp.cells]
  have HX1 := Lib.hid (new_alloc w1 (.cells #[.int .i64 g, .int .i64 c, .int .i64 d, .int .i64 p, .int .i64 r, .int .i64 q, .int .i64 bb, .int .i64 u, .int .i64 tt] 29))
  have HNW := Lib.hid (show w1.heap.size ∉ [b] from fun hm => by rw [List.mem_singleton] at hm; omega)
  have hnw : w.heap.size ≠ w1.heap.size := by omega
  go_wp2_with (refine store_new rfl _ _ 29 rfl rfl rfl rfl infoShD rfl rfl rfl ?_)
  refine (next_any b a la ca xs f (t + 9) 24 _ (HS1.out.ext ((Chg.refl [] w1).alloc _)) (by omega) (by omega) (by omega)).mono ?_
  rintro e w2 ⟨v, rfl, -, hs2, hc2⟩
  have HS2 := Lib.hid hs2
  have HX2 := Lib.hid (hc2.keepb HX1.out HNW.out)
  have HR2 := Lib.hid (hc2.keepb (keep_alloc HR1.out _) hnb)
  have HC2 := Lib.hid ((HC1.out.alloc _).trans hc2 (fun y hy => .inl hy))
  clear hs2 hc2
  by_cases hv0 : v = 0
  · subst hv0
    go_wp2_with fail
    refine (pickN_any b a la ca xs f (t + 9 + 1) 2 [0, 5] _ HS2.out (by omega) (by simp [i64ok]) rfl (by omega) (by omega) _ rfl _ rfl).mono ?_
    rintro e w3 ⟨v3, rfl, hd, hs3, hc3⟩
    have hb3 : -1000 ≤ v3 ∧ v3 ≤ 1000 := by simp only [List.mem_cons, List.not_mem_nil, or_false] at hd; omega
    have HX3 := Lib.hid (hc3.keepb HX2.out HNW.out); have HR3 := Lib.hid (hc3.keepb HR2.out hnb)
    have HC3 := Lib.hid ((HC2.out.trans hc3 (fun y hy => .inl hy)).setCell ⟨w1.heap.size, 0, none⟩ (.int .i64 v3) (.inr (by show w.heap.size ≤ w1.heap.size; omega)))
    have HS4 := Lib.hid (hs3.chg ((Chg.refl [w1.heap.size] w3).setCell ⟨w1.heap.size, 0, none⟩ (.int .i64 v3) (.inl (by simp))) (fun hm => by rw [List.mem_singleton] at hm; exact HNW.out (by rw [hm]; simp)) (fun x hx hm => by rw [List.mem_singleton] at hm; have h1 := HF.out x hx; omega))
    have HX4 := Lib.hid (show (w3.setCell ⟨w1.heap.size, 0, none⟩ (.int .i64 v3)).heap[w1.heap.size]? = some (.cells #[.int .i64 v3, .int .i64 c, .int .i64 d, .int .i64 p, .int .i64 r, .int .i64 q, .int .i64 bb, .int .i64 u, .int .i64 tt] 29 (0, 0)) from heap_set_lit HX3.out rfl)
    have HR4 := Lib.hid (keep_set HR3.out ⟨w1.heap.size, 0, none⟩ (.int .i64 v3) hnw)
    have HN := Lib.hid (show Shp.small ⟨v3, c, d, p, r, q, bb, u, tt⟩ from by have := HSM.out; unfold Shp.small at this ⊢; dsimp only at this ⊢; omega)
    have c3 := cellsOf HX3.out; have l3 := ltOf HX3.out; have f3 := freeOf HX3.out
    clear hs3 hc3 hd hb3
    go_upto_region 21 with fail
    clear c3 l3 f3
    have cX := cellsOf HX4.out; have lX := ltOf HX4.out; have fX := freeOf HX4.out
    go_wp2_with (first | (refine load_wide rfl _ 29 rfl rfl infoShD Try.underlying29 HX4.out rfl ?_) | (refine store_wide rfl _ _ 29 rfl rfl rfl infoShD HR4.out rfl rfl rfl ?_; intro w10 hb hc; have HB := Lib.hid hb; have HC := Lib.hid hc; clear hb hc))
    refine bodyPost_ret (v := .agg #[.int .i64 v3, .int .i64 c, .int .i64 d, .int .i64 p, .int .i64 r, .int .i64 q, .int .i64 bb, .int .i64 u, .int .i64 tt]) (results_wide _ 29 rfl rfl infoShD Try.underlying29 HB.out rfl) rfl ?_
    exact ⟨⟨v3, c, d, p, r, q, bb, u, tt⟩, rfl, HN.out, (HS4.out.chg HC.out (fun hm => by rw [List.mem_singleton] at hm; exact hnb (by rw [hm]; simp)) (fun x hx hm => by
      rw [List.mem_singleton] at hm
      have h1 := HF.out x hx
      omega)).mono (by omega), HC3.out.trans HC.out (fun y hy => .inr (by rw [List.mem_singleton] at hy; omega))⟩
  · have hw0 : (v == 0) = false := by simpa using hv0
    clear hv0
    by_cases hv1 : v = 1
    · subst hv1
      go_wp2_with fail
      refine (pickN_any b a la ca xs f (t + 9 + 1) 2 [-1, 3] _ HS2.out (by omega) (by simp [i64ok]) rfl (by omega) (by omega) _ rfl _ rfl).mono ?_
      rintro e w3 ⟨v3, rfl, hd, hs3, hc3⟩
      have hb3 : -1000 ≤ v3 ∧ v3 ≤ 1000 := by simp only [List.mem_cons, List.not_mem_nil, or_false] at hd; omega
      have HX3 := Lib.hid (hc3.keepb HX2.out HNW.out); have HR3 := Lib.hid (hc3.keepb HR2.out hnb)
      have HC3 := Lib.hid ((HC2.out.trans hc3 (fun y hy => .inl hy)).setCell ⟨w1.heap.size, 1, none⟩ (.int .i64 v3) (.inr (by show w.heap.size ≤ w1.heap.size; omega)))
      have HS4 := Lib.hid (hs3.chg ((Chg.refl [w1.heap.size] w3).setCell ⟨w1.heap.size, 1, none⟩ (.int .i64 v3) (.inl (by simp))) (fun hm => by rw [List.mem_singleton] at hm; exact HNW.out (by rw [hm]; simp)) (fun x hx hm => by rw [List.mem_singleton] at hm; have h1 := HF.out x hx; omega))
      have HX4 := Lib.hid (show (w3.setCell ⟨w1.heap.size, 1, none⟩ (.int .i64 v3)).heap[w1.heap.size]? = some (.cells #[.int .i64 g, .int .i64 v3, .int .i64 d, .int .i64 p, .int .i64 r, .int .i64 q, .int .i64 bb, .int .i64 u, .int .i64 tt] 29 (0, 0)) from heap_set_lit HX3.out rfl)
      have HR4 := Lib.hid (keep_set HR3.out ⟨w1.heap.size, 1, none⟩ (.int .i64 v3) hnw)
      have HN := Lib.hid (show Shp.small ⟨g, v3, d, p, r, q, bb, u, tt⟩ from by have := HSM.out; unfold Shp.small at this ⊢; dsimp only at this ⊢; omega)
      have c3 := cellsOf HX3.out; have l3 := ltOf HX3.out; have f3 := freeOf HX3.out
      clear hs3 hc3 hd hb3
      go_upto_region 21 with fail
      clear c3 l3 f3
      have cX := cellsOf HX4.out; have lX := ltOf HX4.out; have fX := freeOf HX4.out
      go_wp2_with (first | (refine load_wide rfl _ 29 rfl rfl infoShD Try.underlying29 HX4.out rfl ?_) | (refine store_wide rfl _ _ 29 rfl rfl rfl infoShD HR4.out rfl rfl rfl ?_; intro w10 hb hc; have HB := Lib.hid hb; have HC := Lib.hid hc; clear hb hc))
      refine bodyPost_ret (v := .agg #[.int .i64 g, .int .i64 v3, .int .i64 d, .int .i64 p, .int .i64 r, .int .i64 q, .int .i64 bb, .int .i64 u, .int .i64 tt]) (results_wide _ 29 rfl rfl infoShD Try.underlying29 HB.out rfl) rfl ?_
      exact ⟨⟨g, v3, d, p, r, q, bb, u, tt⟩, rfl, HN.out, (HS4.out.chg HC.out (fun hm => by rw [List.mem_singleton] at hm; exact hnb (by rw [hm]; simp)) (fun x hx hm => by
        rw [List.mem_singleton] at hm
        have h1 := HF.out x hx
        omega)).mono (by omega), HC3.out.trans HC.out (fun y hy => .inr (by rw [List.mem_singleton] at hy; omega))⟩
    · have hw1 : (v == 1) = false := by simpa using hv1
      clear hv1
      by_cases hv2 : v = 2
      · subst hv2
        go_wp2_with fail
        refine (pickN_any b a la ca xs f (t + 9 + 1) 2 [0, 4] _ HS2.out (by omega) (by simp [i64ok]) rfl (by omega) (by omega) _ rfl _ rfl).mono ?_
        rintro e w3 ⟨v3, rfl, hd, hs3, hc3⟩
        have hb3 : -1000 ≤ v3 ∧ v3 ≤ 1000 := by simp only [List.mem_cons, List.not_mem_nil, or_false] at hd; omega
        have HX3 := Lib.hid (hc3.keepb HX2.out HNW.out); have HR3 := Lib.hid (hc3.keepb HR2.out hnb)
        have HC3 := Lib.hid ((HC2.out.trans hc3 (fun y hy => .inl hy)).setCell ⟨w1.heap.size, 2, none⟩ (.int .i64 v3) (.inr (by show w.heap.size ≤ w1.heap.size; omega)))
        have HS4 := Lib.hid (hs3.chg ((Chg.refl [w1.heap.size] w3).setCell ⟨w1.heap.size, 2, none⟩ (.int .i64 v3) (.inl (by simp))) (fun hm => by rw [List.mem_singleton] at hm; exact HNW.out (by rw [hm]; simp)) (fun x hx hm => by rw [List.mem_singleton] at hm; have h1 := HF.out x hx; omega))
        have HX4 := Lib.hid (show (w3.setCell ⟨w1.heap.size, 2, none⟩ (.int .i64 v3)).heap[w1.heap.size]? = some (.cells #[.int .i64 g, .int .i64 c, .int .i64 v3, .int .i64 p, .int .i64 r, .int .i64 q, .int .i64 bb, .int .i64 u, .int .i64 tt] 29 (0, 0)) from heap_set_lit HX3.out rfl)
        have HR4 := Lib.hid (keep_set HR3.out ⟨w1.heap.size, 2, none⟩ (.int .i64 v3) hnw)
        have HN := Lib.hid (show Shp.small ⟨g, c, v3, p, r, q, bb, u, tt⟩ from by have := HSM.out; unfold Shp.small at this ⊢; dsimp only at this ⊢; omega)
        have c3 := cellsOf HX3.out; have l3 := ltOf HX3.out; have f3 := freeOf HX3.out
        clear hs3 hc3 hd hb3
        go_upto_region 21 with fail
        clear c3 l3 f3
        have cX := cellsOf HX4.out; have lX := ltOf HX4.out; have fX := freeOf HX4.out
        go_wp2_with (first | (refine load_wide rfl _ 29 rfl rfl infoShD Try.underlying29 HX4.out rfl ?_) | (refine store_wide rfl _ _ 29 rfl rfl rfl infoShD HR4.out rfl rfl rfl ?_; intro w10 hb hc; have HB := Lib.hid hb; have HC := Lib.hid hc; clear hb hc))
        refine bodyPost_ret (v := .agg #[.int .i64 g, .int .i64 c, .int .i64 v3, .int .i64 p, .int .i64 r, .int .i64 q, .int .i64 bb, .int .i64 u, .int .i64 tt]) (results_wide _ 29 rfl rfl infoShD Try.underlying29 HB.out rfl) rfl ?_
        exact ⟨⟨g, c, v3, p, r, q, bb, u, tt⟩, rfl, HN.out, (HS4.out.chg HC.out (fun hm => by rw [List.mem_singleton] at hm; exact hnb (by rw [hm]; simp)) (fun x hx hm => by
          rw [List.mem_singleton] at hm
          have h1 := HF.out x hx
          omega)).mono (by omega), HC3.out.trans HC.out (fun y hy => .inr (by rw [List.mem_singleton] at hy; omega))⟩
      · have hw2 : (v == 2) = false := by simpa using hv2
        clear hv2
        by_cases hv3 : v = 3
        · subst hv3
          go_wp2_with fail
          refine (pickN_any b a la ca xs f (t + 9 + 1) 2 [-1, 3] _ HS2.out (by omega) (by simp [i64ok]) rfl (by omega) (by omega) _ rfl _ rfl).mono ?_
          rintro e w3 ⟨v3, rfl, hd, hs3, hc3⟩
          have hb3 : -1000 ≤ v3 ∧ v3 ≤ 1000 := by simp only [List.mem_cons, List.not_mem_nil, or_false] at hd; omega
          have HX3 := Lib.hid (hc3.keepb HX2.out HNW.out); have HR3 := Lib.hid (hc3.keepb HR2.out hnb)
          have HC3 := Lib.hid ((HC2.out.trans hc3 (fun y hy => .inl hy)).setCell ⟨w1.heap.size, 3, none⟩ (.int .i64 v3) (.inr (by show w.heap.size ≤ w1.heap.size; omega)))
          have HS4 := Lib.hid (hs3.chg ((Chg.refl [w1.heap.size] w3).setCell ⟨w1.heap.size, 3, none⟩ (.int .i64 v3) (.inl (by simp))) (fun hm => by rw [List.mem_singleton] at hm; exact HNW.out (by rw [hm]; simp)) (fun x hx hm => by rw [List.mem_singleton] at hm; have h1 := HF.out x hx; omega))
          have HX4 := Lib.hid (show (w3.setCell ⟨w1.heap.size, 3, none⟩ (.int .i64 v3)).heap[w1.heap.size]? = some (.cells #[.int .i64 g, .int .i64 c, .int .i64 d, .int .i64 v3, .int .i64 r, .int .i64 q, .int .i64 bb, .int .i64 u, .int .i64 tt] 29 (0, 0)) from heap_set_lit HX3.out rfl)
          have HR4 := Lib.hid (keep_set HR3.out ⟨w1.heap.size, 3, none⟩ (.int .i64 v3) hnw)
          have HN := Lib.hid (show Shp.small ⟨g, c, d, v3, r, q, bb, u, tt⟩ from by have := HSM.out; unfold Shp.small at this ⊢; dsimp only at this ⊢; omega)
          have c3 := cellsOf HX3.out; have l3 := ltOf HX3.out; have f3 := freeOf HX3.out
          clear hs3 hc3 hd hb3
          go_upto_region 21 with fail
          clear c3 l3 f3
          have cX := cellsOf HX4.out; have lX := ltOf HX4.out; have fX := freeOf HX4.out
          go_wp2_with (first | (refine load_wide rfl _ 29 rfl rfl infoShD Try.underlying29 HX4.out rfl ?_) | (refine store_wide rfl _ _ 29 rfl rfl rfl infoShD HR4.out rfl rfl rfl ?_; intro w10 hb hc; have HB := Lib.hid hb; have HC := Lib.hid hc; clear hb hc))
          refine bodyPost_ret (v := .agg #[.int .i64 g, .int .i64 c, .int .i64 d, .int .i64 v3, .int .i64 r, .int .i64 q, .int .i64 bb, .int .i64 u, .int .i64 tt]) (results_wide _ 29 rfl rfl infoShD Try.underlying29 HB.out rfl) rfl ?_
          exact ⟨⟨g, c, d, v3, r, q, bb, u, tt⟩, rfl, HN.out, (HS4.out.chg HC.out (fun hm => by rw [List.mem_singleton] at hm; exact hnb (by rw [hm]; simp)) (fun x hx hm => by
            rw [List.mem_singleton] at hm
            have h1 := HF.out x hx
            omega)).mono (by omega), HC3.out.trans HC.out (fun y hy => .inr (by rw [List.mem_singleton] at hy; omega))⟩
        · have hw3 : (v == 3) = false := by simpa using hv3
          clear hv3
          by_cases hv4 : v = 4
          · subst hv4
            go_wp2_with fail
            refine (pickN_any b a la ca xs f (t + 9 + 1) 3 [0, 7, 6] _ HS2.out (by omega) (by simp [i64ok]) rfl (by omega) (by omega) _ rfl _ rfl).mono ?_
            rintro e w3 ⟨v3, rfl, hd, hs3, hc3⟩
            have hb3 : -1000 ≤ v3 ∧ v3 ≤ 1000 := by simp only [List.mem_cons, List.not_mem_nil, or_false] at hd; omega
            have HX3 := Lib.hid (hc3.keepb HX2.out HNW.out); have HR3 := Lib.hid (hc3.keepb HR2.out hnb)
            have HC3 := Lib.hid ((HC2.out.trans hc3 (fun y hy => .inl hy)).setCell ⟨w1.heap.size, 4, none⟩ (.int .i64 v3) (.inr (by show w.heap.size ≤ w1.heap.size; omega)))
            have HS4 := Lib.hid (hs3.chg ((Chg.refl [w1.heap.size] w3).setCell ⟨w1.heap.size, 4, none⟩ (.int .i64 v3) (.inl (by simp))) (fun hm => by rw [List.mem_singleton] at hm; exact HNW.out (by rw [hm]; simp)) (fun x hx hm => by rw [List.mem_singleton] at hm; have h1 := HF.out x hx; omega))
            have HX4 := Lib.hid (show (w3.setCell ⟨w1.heap.size, 4, none⟩ (.int .i64 v3)).heap[w1.heap.size]? = some (.cells #[.int .i64 g, .int .i64 c, .int .i64 d, .int .i64 p, .int .i64 v3, .int .i64 q, .int .i64 bb, .int .i64 u, .int .i64 tt] 29 (0, 0)) from heap_set_lit HX3.out rfl)
            have HR4 := Lib.hid (keep_set HR3.out ⟨w1.heap.size, 4, none⟩ (.int .i64 v3) hnw)
            have HN := Lib.hid (show Shp.small ⟨g, c, d, p, v3, q, bb, u, tt⟩ from by have := HSM.out; unfold Shp.small at this ⊢; dsimp only at this ⊢; omega)
            have c3 := cellsOf HX3.out; have l3 := ltOf HX3.out; have f3 := freeOf HX3.out
            clear hs3 hc3 hd hb3
            go_upto_region 21 with fail
            clear c3 l3 f3
            have cX := cellsOf HX4.out; have lX := ltOf HX4.out; have fX := freeOf HX4.out
            go_wp2_with (first | (refine load_wide rfl _ 29 rfl rfl infoShD Try.underlying29 HX4.out rfl ?_) | (refine store_wide rfl _ _ 29 rfl rfl rfl infoShD HR4.out rfl rfl rfl ?_; intro w10 hb hc; have HB := Lib.hid hb; have HC := Lib.hid hc; clear hb hc))
            refine bodyPost_ret (v := .agg #[.int .i64 g, .int .i64 c, .int .i64 d, .int .i64 p, .int .i64 v3, .int .i64 q, .int .i64 bb, .int .i64 u, .int .i64 tt]) (results_wide _ 29 rfl rfl infoShD Try.underlying29 HB.out rfl) rfl ?_
            exact ⟨⟨g, c, d, p, v3, q, bb, u, tt⟩, rfl, HN.out, (HS4.out.chg HC.out (fun hm => by rw [List.mem_singleton] at hm; exact hnb (by rw [hm]; simp)) (fun x hx hm => by
              rw [List.mem_singleton] at hm
              have h1 := HF.out x hx
              omega)).mono (by omega), HC3.out.trans HC.out (fun y hy => .inr (by rw [List.mem_singleton] at hy; omega))⟩
          · have hw4 : (v == 4) = false := by simpa using hv4
            clear hv4
            by_cases hv5 : v = 5
            · subst hv5
              go_wp2_with fail
              refine (pickN_any b a la ca xs f (t + 9 + 1) 3 [0, 7, 6] _ HS2.out (by omega) (by simp [i64ok]) rfl (by omega) (by omega) _ rfl _ rfl).mono ?_
              rintro e w3 ⟨v3, rfl, hd, hs3, hc3⟩
              have hb3 : -1000 ≤ v3 ∧ v3 ≤ 1000 := by simp only [List.mem_cons, List.not_mem_nil, or_false] at hd; omega
              have HX3 := Lib.hid (hc3.keepb HX2.out HNW.out); have HR3 := Lib.hid (hc3.keepb HR2.out hnb)
              have HC3 := Lib.hid ((HC2.out.trans hc3 (fun y hy => .inl hy)).setCell ⟨w1.heap.size, 5, none⟩ (.int .i64 v3) (.inr (by show w.heap.size ≤ w1.heap.size; omega)))
              have HS4 := Lib.hid (hs3.chg ((Chg.refl [w1.heap.size] w3).setCell ⟨w1.heap.size, 5, none⟩ (.int .i64 v3) (.inl (by simp))) (fun hm => by rw [List.mem_singleton] at hm; exact HNW.out (by rw [hm]; simp)) (fun x hx hm => by rw [List.mem_singleton] at hm; have h1 := HF.out x hx; omega))
              have HX4 := Lib.hid (show (w3.setCell ⟨w1.heap.size, 5, none⟩ (.int .i64 v3)).heap[w1.heap.size]? = some (.cells #[.int .i64 g, .int .i64 c, .int .i64 d, .int .i64 p, .int .i64 r, .int .i64 v3, .int .i64 bb, .int .i64 u, .int .i64 tt] 29 (0, 0)) from heap_set_lit HX3.out rfl)
              have HR4 := Lib.hid (keep_set HR3.out ⟨w1.heap.size, 5, none⟩ (.int .i64 v3) hnw)
              have HN := Lib.hid (show Shp.small ⟨g, c, d, p, r, v3, bb, u, tt⟩ from by have := HSM.out; unfold Shp.small at this ⊢; dsimp only at this ⊢; omega)
              have c3 := cellsOf HX3.out; have l3 := ltOf HX3.out; have f3 := freeOf HX3.out
              clear hs3 hc3 hd hb3
              go_upto_region 21 with fail
              clear c3 l3 f3
              have cX := cellsOf HX4.out; have lX := ltOf HX4.out; have fX := freeOf HX4.out
              go_wp2_with (first | (refine load_wide rfl _ 29 rfl rfl infoShD Try.underlying29 HX4.out rfl ?_) | (refine store_wide rfl _ _ 29 rfl rfl rfl infoShD HR4.out rfl rfl rfl ?_; intro w10 hb hc; have HB := Lib.hid hb; have HC := Lib.hid hc; clear hb hc))
              refine bodyPost_ret (v := .agg #[.int .i64 g, .int .i64 c, .int .i64 d, .int .i64 p, .int .i64 r, .int .i64 v3, .int .i64 bb, .int .i64 u, .int .i64 tt]) (results_wide _ 29 rfl rfl infoShD Try.underlying29 HB.out rfl) rfl ?_
              exact ⟨⟨g, c, d, p, r, v3, bb, u, tt⟩, rfl, HN.out, (HS4.out.chg HC.out (fun hm => by rw [List.mem_singleton] at hm; exact hnb (by rw [hm]; simp)) (fun x hx hm => by
                rw [List.mem_singleton] at hm
                have h1 := HF.out x hx
                omega)).mono (by omega), HC3.out.trans HC.out (fun y hy => .inr (by rw [List.mem_singleton] at hy; omega))⟩
            · have hw5 : (v == 5) = false := by simpa using hv5
              clear hv5
              by_cases hv6 : v = 6
              · subst hv6
                go_wp2_with fail
                refine (pickN_any b a la ca xs f (t + 9 + 1) 3 [0, 5, 4] _ HS2.out (by omega) (by simp [i64ok]) rfl (by omega) (by omega) _ rfl _ rfl).mono ?_
                rintro e w3 ⟨v3, rfl, hd, hs3, hc3⟩
                have hb3 : -1000 ≤ v3 ∧ v3 ≤ 1000 := by simp only [List.mem_cons, List.not_mem_nil, or_false] at hd; omega
                have HX3 := Lib.hid (hc3.keepb HX2.out HNW.out); have HR3 := Lib.hid (hc3.keepb HR2.out hnb)
                have HC3 := Lib.hid ((HC2.out.trans hc3 (fun y hy => .inl hy)).setCell ⟨w1.heap.size, 6, none⟩ (.int .i64 v3) (.inr (by show w.heap.size ≤ w1.heap.size; omega)))
                have HS4 := Lib.hid (hs3.chg ((Chg.refl [w1.heap.size] w3).setCell ⟨w1.heap.size, 6, none⟩ (.int .i64 v3) (.inl (by simp))) (fun hm => by rw [List.mem_singleton] at hm; exact HNW.out (by rw [hm]; simp)) (fun x hx hm => by rw [List.mem_singleton] at hm; have h1 := HF.out x hx; omega))
                have HX4 := Lib.hid (show (w3.setCell ⟨w1.heap.size, 6, none⟩ (.int .i64 v3)).heap[w1.heap.size]? = some (.cells #[.int .i64 g, .int .i64 c, .int .i64 d, .int .i64 p, .int .i64 r, .int .i64 q, .int .i64 v3, .int .i64 u, .int .i64 tt] 29 (0, 0)) from heap_set_lit HX3.out rfl)
                have HR4 := Lib.hid (keep_set HR3.out ⟨w1.heap.size, 6, none⟩ (.int .i64 v3) hnw)
                have HN := Lib.hid (show Shp.small ⟨g, c, d, p, r, q, v3, u, tt⟩ from by have := HSM.out; unfold Shp.small at this ⊢; dsimp only at this ⊢; omega)
                have c3 := cellsOf HX3.out; have l3 := ltOf HX3.out; have f3 := freeOf HX3.out
                clear hs3 hc3 hd hb3
                go_upto_region 21 with fail
                clear c3 l3 f3
                have cX := cellsOf HX4.out; have lX := ltOf HX4.out; have fX := freeOf HX4.out
                go_wp2_with (first | (refine load_wide rfl _ 29 rfl rfl infoShD Try.underlying29 HX4.out rfl ?_) | (refine store_wide rfl _ _ 29 rfl rfl rfl infoShD HR4.out rfl rfl rfl ?_; intro w10 hb hc; have HB := Lib.hid hb; have HC := Lib.hid hc; clear hb hc))
                refine bodyPost_ret (v := .agg #[.int .i64 g, .int .i64 c, .int .i64 d, .int .i64 p, .int .i64 r, .int .i64 q, .int .i64 v3, .int .i64 u, .int .i64 tt]) (results_wide _ 29 rfl rfl infoShD Try.underlying29 HB.out rfl) rfl ?_
                exact ⟨⟨g, c, d, p, r, q, v3, u, tt⟩, rfl, HN.out, (HS4.out.chg HC.out (fun hm => by rw [List.mem_singleton] at hm; exact hnb (by rw [hm]; simp)) (fun x hx hm => by
                  rw [List.mem_singleton] at hm
                  have h1 := HF.out x hx
                  omega)).mono (by omega), HC3.out.trans HC.out (fun y hy => .inr (by rw [List.mem_singleton] at hy; omega))⟩
              · have hw6 : (v == 6) = false := by simpa using hv6
                clear hv6
                by_cases hv7 : v = 7
                · subst hv7
                  go_wp2_with fail
                  refine (pickN_any b a la ca xs f (t + 9 + 1) 3 [0, 7, 6] _ HS2.out (by omega) (by simp [i64ok]) rfl (by omega) (by omega) _ rfl _ rfl).mono ?_
                  rintro e w3 ⟨v3, rfl, hd, hs3, hc3⟩
                  have hb3 : -1000 ≤ v3 ∧ v3 ≤ 1000 := by simp only [List.mem_cons, List.not_mem_nil, or_false] at hd; omega
                  have HX3 := Lib.hid (hc3.keepb HX2.out HNW.out); have HR3 := Lib.hid (hc3.keepb HR2.out hnb)
                  have HC3 := Lib.hid ((HC2.out.trans hc3 (fun y hy => .inl hy)).setCell ⟨w1.heap.size, 7, none⟩ (.int .i64 v3) (.inr (by show w.heap.size ≤ w1.heap.size; omega)))
                  have HS4 := Lib.hid (hs3.chg ((Chg.refl [w1.heap.size] w3).setCell ⟨w1.heap.size, 7, none⟩ (.int .i64 v3) (.inl (by simp))) (fun hm => by rw [List.mem_singleton] at hm; exact HNW.out (by rw [hm]; simp)) (fun x hx hm => by rw [List.mem_singleton] at hm; have h1 := HF.out x hx; omega))
                  have HX4 := Lib.hid (show (w3.setCell ⟨w1.heap.size, 7, none⟩ (.int .i64 v3)).heap[w1.heap.size]? = some (.cells #[.int .i64 g, .int .i64 c, .int .i64 d, .int .i64 p, .int .i64 r, .int .i64 q, .int .i64 bb, .int .i64 v3, .int .i64 tt] 29 (0, 0)) from heap_set_lit HX3.out rfl)
                  have HR4 := Lib.hid (keep_set HR3.out ⟨w1.heap.size, 7, none⟩ (.int .i64 v3) hnw)
                  have HN := Lib.hid (show Shp.small ⟨g, c, d, p, r, q, bb, v3, tt⟩ from by have := HSM.out; unfold Shp.small at this ⊢; dsimp only at this ⊢; omega)
                  have c3 := cellsOf HX3.out; have l3 := ltOf HX3.out; have f3 := freeOf HX3.out
                  clear hs3 hc3 hd hb3
                  go_upto_region 21 with fail
                  clear c3 l3 f3
                  have cX := cellsOf HX4.out; have lX := ltOf HX4.out; have fX := freeOf HX4.out
                  go_wp2_with (first | (refine load_wide rfl _ 29 rfl rfl infoShD Try.underlying29 HX4.out rfl ?_) | (refine store_wide rfl _ _ 29 rfl rfl rfl infoShD HR4.out rfl rfl rfl ?_; intro w10 hb hc; have HB := Lib.hid hb; have HC := Lib.hid hc; clear hb hc))
                  refine bodyPost_ret (v := .agg #[.int .i64 g, .int .i64 c, .int .i64 d, .int .i64 p, .int .i64 r, .int .i64 q, .int .i64 bb, .int .i64 v3, .int .i64 tt]) (results_wide _ 29 rfl rfl infoShD Try.underlying29 HB.out rfl) rfl ?_
                  exact ⟨⟨g, c, d, p, r, q, bb, v3, tt⟩, rfl, HN.out, (HS4.out.chg HC.out (fun hm => by rw [List.mem_singleton] at hm; exact hnb (by rw [hm]; simp)) (fun x hx hm => by
                    rw [List.mem_singleton] at hm
                    have h1 := HF.out x hx
                    omega)).mono (by omega), HC3.out.trans HC.out (fun y hy => .inr (by rw [List.mem_singleton] at hy; omega))⟩
                · have hw7 : (v == 7) = false := by simpa using hv7
                  clear hv7
                  by_cases hv8 : v = 8
                  · subst hv8
                    go_wp2_with fail
                    refine (pickN_any b a la ca xs f (t + 9 + 1) 3 [-1, 401, 0] _ HS2.out (by omega) (by simp [i64ok]) rfl (by omega) (by omega) _ rfl _ rfl).mono ?_
                    rintro e w3 ⟨v3, rfl, hd, hs3, hc3⟩
                    have hb3 : -1000 ≤ v3 ∧ v3 ≤ 1000 := by simp only [List.mem_cons, List.not_mem_nil, or_false] at hd; omega
                    have HX3 := Lib.hid (hc3.keepb HX2.out HNW.out); have HR3 := Lib.hid (hc3.keepb HR2.out hnb)
                    have HC3 := Lib.hid ((HC2.out.trans hc3 (fun y hy => .inl hy)).setCell ⟨w1.heap.size, 8, none⟩ (.int .i64 v3) (.inr (by show w.heap.size ≤ w1.heap.size; omega)))
                    have HS4 := Lib.hid (hs3.chg ((Chg.refl [w1.heap.size] w3).setCell ⟨w1.heap.size, 8, none⟩ (.int .i64 v3) (.inl (by simp))) (fun hm => by rw [List.mem_singleton] at hm; exact HNW.out (by rw [hm]; simp)) (fun x hx hm => by rw [List.mem_singleton] at hm; have h1 := HF.out x hx; omega))
                    have HX4 := Lib.hid (show (w3.setCell ⟨w1.heap.size, 8, none⟩ (.int .i64 v3)).heap[w1.heap.size]? = some (.cells #[.int .i64 g, .int .i64 c, .int .i64 d, .int .i64 p, .int .i64 r, .int .i64 q, .int .i64 bb, .int .i64 u, .int .i64 v3] 29 (0, 0)) from heap_set_lit HX3.out rfl)
                    have HR4 := Lib.hid (keep_set HR3.out ⟨w1.heap.size, 8, none⟩ (.int .i64 v3) hnw)
                    have HN := Lib.hid (show Shp.small ⟨g, c, d, p, r, q, bb, u, v3⟩ from by have := HSM.out; unfold Shp.small at this ⊢; dsimp only at this ⊢; omega)
                    have c3 := cellsOf HX3.out; have l3 := ltOf HX3.out; have f3 := freeOf HX3.out
                    clear hs3 hc3 hd hb3
                    go_upto_region 21 with fail
                    clear c3 l3 f3
                    have cX := cellsOf HX4.out; have lX := ltOf HX4.out; have fX := freeOf HX4.out
                    go_wp2_with (first | (refine load_wide rfl _ 29 rfl rfl infoShD Try.underlying29 HX4.out rfl ?_) | (refine store_wide rfl _ _ 29 rfl rfl rfl infoShD HR4.out rfl rfl rfl ?_; intro w10 hb hc; have HB := Lib.hid hb; have HC := Lib.hid hc; clear hb hc))
                    refine bodyPost_ret (v := .agg #[.int .i64 g, .int .i64 c, .int .i64 d, .int .i64 p, .int .i64 r, .int .i64 q, .int .i64 bb, .int .i64 u, .int .i64 v3]) (results_wide _ 29 rfl rfl infoShD Try.underlying29 HB.out rfl) rfl ?_
                    exact ⟨⟨g, c, d, p, r, q, bb, u, v3⟩, rfl, HN.out, (HS4.out.chg HC.out (fun hm => by rw [List.mem_singleton] at hm; exact hnb (by rw [hm]; simp)) (fun x hx hm => by
                      rw [List.mem_singleton] at hm
                      have h1 := HF.out x hx
                      omega)).mono (by omega), HC3.out.trans HC.out (fun y hy => .inr (by rw [List.mem_singleton] at hy; omega))⟩
                  · have hw8 : (v == 8) = false := by simpa using hv8
                    clear hv8
                    have cX := cellsOf HX2.out; have lX := ltOf HX2.out; have fX := freeOf HX2.out
                    go_wp2_with (first | (refine load_wide rfl _ 29 rfl rfl infoShD Try.underlying29 HX2.out rfl ?_) | (refine store_wide rfl _ _ 29 rfl rfl rfl infoShD HR2.out rfl rfl rfl ?_; intro w10 hb hc; have HB := Lib.hid hb; have HC := Lib.hid hc; clear hb hc))
                    refine bodyPost_ret (v := .agg #[.int .i64 g, .int .i64 c, .int .i64 d, .int .i64 p, .int .i64 r, .int .i64 q, .int .i64 bb, .int .i64 u, .int .i64 tt]) (results_wide _ 29 rfl rfl infoShD Try.underlying29 HB.out rfl) rfl ?_
                    exact ⟨⟨g, c, d, p, r, q, bb, u, tt⟩, rfl, HSM.out, (HS2.out.chg HC.out (fun hm => by rw [List.mem_singleton] at hm; exact hnb (by rw [hm]; simp)) (fun x hx hm => by
                      rw [List.mem_singleton] at hm
                      have h1 := HF.out x hx
                      omega)).mono (by omega), HC2.out.trans HC.out (fun y hy => .inr (by rw [List.mem_singleton] at hy; omega))⟩
end Go.Proofs.Ytcejdmggacjnoaa
