/- Several texts in one. -/
import Derived.Test.YtphmpimgbmedbaaGreatVal
import Derived.Deep.DeepCutAuto
import Derived.Deep.CutRange
import Derived.Deep.CutBlock
import Derived.Test.YtphmpimgbmedbaaGreatRows
import Derived.Test.YtphmpimgbmedbaaGreatVae
import Derived.Test.YtphmpimgbmedbaaGreatVac
import Derived.Test.YtphmpimgbmedbaaGreatVak
set_option maxRecDepth 100000
set_option maxHeartbeats 8000000
namespace Go.Proofs.YtphmpimgbmedbaaGreat
open Go.RowKit
open Go.Lib (hid)
theorem l5Rec_ty (b : Nat) (a : Option Addr) (la ca : Nat) (xs : List UInt8) (f : List Nat) (t : Int) (x : Shp) (hok : x.ok) (w : World) (h : SrcB b a la ca xs f t w) (ht : t ≤ 1070000000) :
  Calls Tryz.prog 187 #[.pointer (some ⟨b, 0, none⟩), .agg #[.int .i64 x.gS, .int .i64 x.column, .int .i64 x.data, .int .i64 x.sR, .int .i64 x.rows, .int .i64 x.cap, .int .i64 x.bT, .int .i64 x.qU, .int .i64 x.sG]] w fun e w' => ∃ cs : Array Value, e = .returned (.agg cs) ∧ (∃ T, ElT T .rc cs.toList ∧ TyN w.heap.size T w') ∧ SrcB b a la ca xs f (t + 4000) w' ∧ Chg [b] w w' := by
 obtain ⟨KI, _⟩ := z0i
 obtain ⟨KU, _⟩ := kindB
 have HOK := hid hok
 have HL := hid (And.intro h.lt (fun y (hy : y ∈ f) => q0t.sl_lt h.2.1 y hy))
 have HS0 := hid (h.ext (show Chg [] w ((w.alloc (.cells #[.int .i64 x.gS, .int .i64 x.column, .int .i64 x.data, .int .i64 x.sR, .int .i64 x.rows, .int .i64 x.cap, .int .i64 x.bT, .int .i64 x.qU, .int .i64 x.sG] 30)).alloc (.cells #[.int .i64 0, .int .i64 0, .string ⟨#[]⟩, .int .i64 0, .int .i64 0, .int .i64 0, .slice none 0 0, .slice none 0 0, .slice none 0 0] 67)) from ((Chg.refl [] w).alloc _).alloc _))
 have HC0 := hid (show Chg [] w ((w.alloc (.cells #[.int .i64 x.gS, .int .i64 x.column, .int .i64 x.data, .int .i64 x.sR, .int .i64 x.rows, .int .i64 x.cap, .int .i64 x.bT, .int .i64 x.qU, .int .i64 x.sG] 30)).alloc (.cells #[.int .i64 0, .int .i64 0, .string ⟨#[]⟩, .int .i64 0, .int .i64 0, .int .i64 0, .slice none 0 0, .slice none 0 0, .slice none 0 0] 67)) from ((Chg.refl [] w).alloc _).alloc _)
 have G3 := hid (show ((w.alloc (.cells #[.int .i64 x.gS, .int .i64 x.column, .int .i64 x.data, .int .i64 x.sR, .int .i64 x.rows, .int .i64 x.cap, .int .i64 x.bT, .int .i64 x.qU, .int .i64 x.sG] 30)).alloc (.cells #[.int .i64 0, .int .i64 0, .string ⟨#[]⟩, .int .i64 0, .int .i64 0, .int .i64 0, .slice none 0 0, .slice none 0 0, .slice none 0 0] 67)).heap[w.heap.size]? = some (.cells #[.int .i64 x.gS, .int .i64 x.column, .int .i64 x.data, .int .i64 x.sR, .int .i64 x.rows, .int .i64 x.cap, .int .i64 x.bT, .int .i64 x.qU, .int .i64 x.sG] 30 (0, 0)) from q0b (q0j w _) _)
 have G4 := hid (show ((w.alloc (.cells #[.int .i64 x.gS, .int .i64 x.column, .int .i64 x.data, .int .i64 x.sR, .int .i64 x.rows, .int .i64 x.cap, .int .i64 x.bT, .int .i64 x.qU, .int .i64 x.sG] 30)).alloc (.cells #[.int .i64 0, .int .i64 0, .string ⟨#[]⟩, .int .i64 0, .int .i64 0, .int .i64 0, .slice none 0 0, .slice none 0 0, .slice none 0 0] 67)).heap[w.heap.size + 1]? = some (.cells #[.int .i64 0, .int .i64 0, .string ⟨#[]⟩, .int .i64 0, .int .i64 0, .int .i64 0, .slice none 0 0, .slice none 0 0, .slice none 0 0] 67 (0, 0)) from q0e (by simp) _)
 clear h hok
 go_enter Tryz.func187, Tryz.ntmps187
 go_wp2_with fail
 refine (q4d x HOK.out _).mono ?_
 rintro e wa ⟨rfl, hc⟩
 obtain ⟨wd, hwd⟩ : ∃ n : Nat, x.wide = n := ⟨x.wide.toNat, by have := HOK.out.wide; omega⟩
 have HWD := hid (show x.wide = wd ∧ 4 ≤ wd ∧ wd ≤ 12 from ⟨hwd, by have := HOK.out.wide; omega, by have := HOK.out.wide; omega⟩)
 rw [hwd]; clear hwd
 have HSA := hid (HS0.out.ext hc); have HCA := hid (HC0.out.trans0 hc); have GA3 := hid (hc.keep0 G3.out); have GA4 := hid (hc.keep0 G4.out)
 clear hc HS0 HC0 G3 G4
 have HN1 := hid (show w.heap.size ∉ [b] ∧ w.heap.size + 1 ∉ [b] from by simp only [List.mem_singleton]; have := HL.out.1; omega)
 go_wp2_with fail
 refine (q0z b a la ca xs f t 5 [1, 1, 2, 3, 4] _ HSA.out (by omega) (by simp [q0q]) rfl (by omega) (by omega) _ rfl _ rfl).mono ?_
 rintro e wb ⟨k, rfl, hk, hs, hc⟩
 have hkk : k = 1 ∨ k = 2 ∨ k = 3 ∨ k = 4 := by simp only [List.mem_cons, List.not_mem_nil, or_false] at hk; omega
 have HSB := hid hs; have HCB := hid (show Chg [b] w wb from (HCA.out.mono (by simp)).trans hc (fun y hy => .inl hy)); have GB3 := hid (hc.keepb GA3.out HN1.out.1); have GB4 := hid (hc.keepb GA4.out HN1.out.2)
 clear hs hc hk HSA HCA GA3 GA4
 go_wp2_with fail
 refine (q1h b a la ca xs f (t + 1) 40 _ HSB.out (by omega) (by omega) (by omega)).mono ?_
 rintro e wc ⟨s, rfl, hd, hs, hc⟩
 have hs40 : 0 ≤ s ∧ s < 40 := ⟨hd.1, hd.2.1 (by omega)⟩
 have HSC := hid hs; have HCC := hid (HCB.out.trans hc (fun y hy => .inl hy)); have GC3 := hid (hc.keepb GB3.out HN1.out.1); have GC4 := hid (hc.keepb GB4.out HN1.out.2)
 clear hs hc hd HSB HCB GB3 GB4
 have hsw : IntKind.i64.wrap (1 + s) = 1 + s := IntWalk.i64_in _ (by omega)
 go_upto_region 3 with (refine q3a rfl _ _ 67 rfl rfl rfl rfl infoRc rfl rfl rfl ?_)
 clear hsw
 simp only [Act.put]
 have H0 := hid (show RecW b a la ca xs f x w wc.heap.size [] (t + 1 + 1) #[.int .i64 k, .int .i64 (1 + s), .string ⟨#[]⟩, .int .i64 0, .int .i64 0, .int .i64 0, .slice none 0 0, .slice none 0 0, .slice none 0 0] (wc.alloc (.cells #[.int .i64 k, .int .i64 (1 + s), .string ⟨#[]⟩, .int .i64 0, .int .i64 0, .int .i64 0, .slice none 0 0, .slice none 0 0, .slice none 0 0] 67)) from ⟨q0b GC3.out _, q0b GC4.out _, q0j wc _, TyN.nil _ _, HSC.out.ext ((Chg.refl [] wc).alloc _), HCC.out.alloc _, ltOf GC4.out, HL.out.1, HL.out.2⟩)
 generalize (wc.alloc (.cells #[.int .i64 k, .int .i64 (1 + s), .string ⟨#[]⟩, .int .i64 0, .int .i64 0, .int .i64 0, .slice none 0 0, .slice none 0 0, .slice none 0 0] 67)) = w0 at H0 ⊢
 generalize wc.heap.size = m at H0 ⊢
 clear HSC HCC GC3 GC4
 have c3 := cellsOf H0.out.h3; have l3 := ltOf H0.out.h3; have cm := cellsOf H0.out.hm; have lm := ltOf H0.out.hm; have fm := q0c H0.out.hm
 go_upto_block 0 with fail
 go_cut [7] from 19 to 133 (fun _ w2 => ∃ T cs, RecT T cs ∧ RecW b a la ca xs f x w m T (t + 1000) cs w2)
 case first =>
  rcases hkk with rfl | rfl | rfl | rfl
  ·go_wp2_with fail
   refine (name_any b a la ca xs f (t + 1 + 1) _ H0.out.src (by omega)).mono ?_
   rintro e w1 ⟨nm, rfl, hnm, hs, hc⟩
   clear c3 l3 cm lm fm
   have H1 := hid (H0.out.call hs hc)
   clear hs hc
   have c3 := cellsOf H1.out.h3; have l3 := ltOf H1.out.h3; have cm := cellsOf H1.out.hm; have lm := ltOf H1.out.hm; have fm := q0c H1.out.hm
   have HNM := hid hnm; clear hnm
   go_upto_region 6 with fail
   clear c3 l3 cm lm fm
   have H2 := hid (H1.out.put (cs' := #[.int .i64 1, .int .i64 (1 + s), .string nm, .int .i64 0, .int .i64 0, .int .i64 0, .slice none 0 0, .slice none 0 0, .slice none 0 0]) 2 (.string nm) rfl)
   generalize w1.setCell ⟨m, 2, none⟩ (.string nm) = w2 at H2 ⊢
   have c3 := cellsOf H2.out.h3; have l3 := ltOf H2.out.h3; have cm := cellsOf H2.out.hm; have lm := ltOf H2.out.hm; have fm := q0c H2.out.hm
   go_wp2_with fail
   refine (q1h b a la ca xs f (t + 1 + 1 + 1) wd _ H2.out.src (by omega) (by have := HWD.out; omega) (by have := HWD.out; omega)).mono ?_
   rintro e w3 ⟨v1, rfl, hd, hs, hc⟩
   clear c3 l3 cm lm fm
   have H3 := hid (H2.out.call hs hc)
   clear hs hc
   have c3 := cellsOf H3.out.h3; have l3 := ltOf H3.out.h3; have cm := cellsOf H3.out.hm; have lm := ltOf H3.out.hm; have fm := q0c H3.out.hm
   have hv1 : 0 ≤ v1 ∧ v1 < wd := ⟨hd.1, hd.2.1 (by have := HWD.out; omega)⟩; clear hd
   have hwd12 : (wd : Int) ≤ 12 := by have := HWD.out; omega
   have hw1 : IntKind.i64.wrap (1 + v1) = 1 + v1 := IntWalk.i64_in _ (by omega)
   go_wp2_with fail
   refine (q1h b a la ca xs f (t + 1 + 1 + 1 + 1) wd _ H3.out.src (by omega) (by have := HWD.out; omega) (by have := HWD.out; omega)).mono ?_
   rintro e w4 ⟨v2, rfl, hd, hs, hc⟩
   clear c3 l3 cm lm fm
   have H4 := hid (H3.out.call hs hc)
   clear hs hc
   have c3 := cellsOf H4.out.h3; have l3 := ltOf H4.out.h3; have cm := cellsOf H4.out.hm; have lm := ltOf H4.out.hm; have fm := q0c H4.out.hm
   have hv2 : 0 ≤ v2 ∧ v2 < wd := ⟨hd.1, hd.2.1 (by have := HWD.out; omega)⟩; clear hd
   have hw2 : IntKind.i64.wrap (1 + v2) = 1 + v2 := IntWalk.i64_in _ (by omega)
   go_wp2_with fail
   refine (q0z b a la ca xs f (t + 1 + 1 + 1 + 1 + 1) 3 [-1, 1 + v1, 1 + v2] _ H4.out.src (by omega) (by intro y hy; simp only [List.mem_cons, List.not_mem_nil, or_false] at hy; constructor <;> omega) rfl (by omega) (by omega) _ rfl _ rfl).mono ?_
   rintro e w5 ⟨ln, rfl, hd, hs, hc⟩
   clear c3 l3 cm lm fm
   have H5 := hid (H4.out.call hs hc)
   clear hs hc
   have c3 := cellsOf H5.out.h3; have l3 := ltOf H5.out.h3; have cm := cellsOf H5.out.hm; have lm := ltOf H5.out.hm; have fm := q0c H5.out.hm
   have hln : ln = -1 ∨ ∃ l : Nat, ln = l ∧ 1 ≤ l ∧ l ≤ 12 := by
    simp only [List.mem_cons, List.not_mem_nil, or_false] at hd
    by_cases h : ln = -1
    ·exact .inl h
    ·exact .inr ⟨ln.toNat, by omega, by omega, by omega⟩
   clear hd hw1 hw2 hv1 hv2
   go_upto_region 7 with fail
   clear c3 l3 cm lm fm
   have H6 := hid (H5.out.put (cs' := #[.int .i64 1, .int .i64 (1 + s), .string nm, .int .i64 ln, .int .i64 0, .int .i64 0, .slice none 0 0, .slice none 0 0, .slice none 0 0]) 3 (.int .i64 ln) rfl)
   generalize w5.setCell ⟨m, 3, none⟩ (.int .i64 ln) = w6 at H6 ⊢
   have c3 := cellsOf H6.out.h3; have l3 := ltOf H6.out.h3; have cm := cellsOf H6.out.hm; have lm := ltOf H6.out.hm; have fm := q0c H6.out.hm
   rcases hln with rfl | ⟨l, rfl, hl1, hl12⟩
   ·go_wp2_with fail
    clear c3 l3 cm lm fm
    go_meet
    exact ⟨_, #[.int .i64 1, .int .i64 (1 + s), .string nm, .int .i64 (-1), .int .i64 0, .int .i64 0, .slice none 0 0, .slice none 0 0, .slice none 0 0], ⟨_, _, _, _, _, _, _, _, _, _, _, _, _, _, _, rfl, ⟨by decide, by decide⟩, ⟨by omega, by omega⟩, HNM.out, ⟨by omega, by omega⟩, ⟨by decide, by decide⟩, ⟨by decide, by decide⟩, SlT.nil _ _, by decide, SlT.nil _ _, SlT.nil _ _, by decide⟩, H6.out.mono (t' := t + 1000) (by omega)⟩
   ·have hpos : (0 : Int) < l := by omega
    go_wp2_with fail
    refine (q2z b a la ca xs f (t + 1 + 1 + 1 + 1 + 1 + 1) 2 _ H6.out.src (by omega) (by omega) (by omega)).mono ?_
    rintro e w7 ⟨q, rfl, hs, hc⟩
    clear c3 l3 cm lm fm
    have H7 := hid (H6.out.call hs hc)
    clear hs hc
    have c3 := cellsOf H7.out.h3; have l3 := ltOf H7.out.h3; have cm := cellsOf H7.out.hm; have lm := ltOf H7.out.hm; have fm := q0c H7.out.hm
    cases q
    ·go_wp2_with fail
     refine (q6y b a la ca xs f (t + 1 + 1 + 1 + 1 + 1 + 1 + 1) l _ H7.out.src (by omega) (by omega)).mono ?_
     rintro e w8 ⟨A7, C7, rfl, hty, hs, hc⟩
     clear c3 l3 cm lm fm
     obtain ⟨T8, hv8, hty⟩ := hty
     have H8 := hid (H7.out.rows hty hs hc); have HV8 := hid (SlT.sub hv8 (SubT.left [] _))
     clear hs hc hty hv8
     have c3 := cellsOf H8.out.h3; have l3 := ltOf H8.out.h3; have cm := cellsOf H8.out.hm; have lm := ltOf H8.out.hm; have fm := q0c H8.out.hm
     go_wp2_with fail
     clear c3 l3 cm lm fm
     have H9 := hid (H8.out.put (cs' := #[.int .i64 1, .int .i64 (1 + s), .string nm, .int .i64 l, .int .i64 0, .int .i64 0, .slice none 0 0, .slice A7 l C7, .slice none 0 0]) 7 (.slice A7 l C7) rfl)
     generalize w8.setCell ⟨m, 7, none⟩ (.slice A7 l C7) = w9 at H9 ⊢
     have c3 := cellsOf H9.out.h3; have l3 := ltOf H9.out.h3; have cm := cellsOf H9.out.hm; have lm := ltOf H9.out.hm; have fm := q0c H9.out.hm
     clear c3 l3 cm lm fm
     go_meet
     exact ⟨_, #[.int .i64 1, .int .i64 (1 + s), .string nm, .int .i64 l, .int .i64 0, .int .i64 0, .slice none 0 0, .slice A7 l C7, .slice none 0 0], ⟨_, _, _, _, _, _, _, _, _, _, _, _, _, _, _, rfl, ⟨by decide, by decide⟩, ⟨by omega, by omega⟩, HNM.out, ⟨by omega, by omega⟩, ⟨by decide, by decide⟩, ⟨by decide, by decide⟩, SlT.nil _ _, by decide, HV8.out, SlT.nil _ _, by decide⟩, H9.out.mono (t' := t + 1000) (by omega)⟩
    ·go_wp2_with fail
     refine (q1h b a la ca xs f (t + 1 + 1 + 1 + 1 + 1 + 1 + 1) x.rows _ H7.out.src (by omega) (by have := HOK.out.rows; omega) (by have := HOK.out.rows; omega)).mono ?_
     rintro e w10 ⟨v8, rfl, hd, hs, hc⟩
     clear c3 l3 cm lm fm
     have H10 := hid (H7.out.call hs hc)
     clear hs hc
     have c3 := cellsOf H10.out.h3; have l3 := ltOf H10.out.h3; have cm := cellsOf H10.out.hm; have lm := ltOf H10.out.hm; have fm := q0c H10.out.hm
     have hv8 : 0 ≤ v8 ∧ v8 ≤ 6 := ⟨hd.1, by have := hd.2.1 (HOK.out.rows.1); have := HOK.out.rows; omega⟩; clear hd
     have K6 := hid (H10.out.put (cs' := #[.int .i64 1, .int .i64 (1 + s), .string nm, .int .i64 l, .int .i64 0, .int .i64 0, .slice (some ⟨w10.heap.size, 0, none⟩) 1 1, .slice none 0 0, .slice none 0 0]) 6 (.slice (some ⟨w10.heap.size, 0, none⟩) 1 1) rfl)
     have hone := one_it K6.out.ty.well v8 ⟨by omega, by omega⟩
     rw [show (w10.setCell ⟨m, 6, none⟩ (.slice (some ⟨w10.heap.size, 0, none⟩) 1 1)).heap.size = w10.heap.size by simp] at hone
     have HV6 := hid hone.1; have K7 := hid (K6.out.step hone.2)
     clear hone
     go_wp2_with fail
     clear c3 l3 cm lm fm
     go_meet
     exact ⟨_, #[.int .i64 1, .int .i64 (1 + s), .string nm, .int .i64 l, .int .i64 0, .int .i64 0, .slice (some ⟨w10.heap.size, 0, none⟩) 1 1, .slice none 0 0, .slice none 0 0], ⟨_, _, _, _, _, _, _, _, _, _, _, _, _, _, _, rfl, ⟨by decide, by decide⟩, ⟨by omega, by omega⟩, HNM.out, ⟨by omega, by omega⟩, ⟨by decide, by decide⟩, ⟨by decide, by decide⟩, HV6.out, by decide, SlT.nil _ _, SlT.nil _ _, by decide⟩, K7.out.mono (t' := t + 1000) (by omega)⟩
  ·go_wp2_with fail
   refine (q1h b a la ca xs f (t + 1 + 1) x.gS _ H0.out.src (by omega) (by have := HOK.out.gS; omega) (by have := HOK.out.gS; omega)).mono ?_
   rintro e w11 ⟨vg, rfl, hd, hs, hc⟩
   clear c3 l3 cm lm fm
   have H11 := hid (H0.out.call hs hc)
   clear hs hc
   have c3 := cellsOf H11.out.h3; have l3 := ltOf H11.out.h3; have cm := cellsOf H11.out.hm; have lm := ltOf H11.out.hm; have fm := q0c H11.out.hm
   have hvg : 0 ≤ vg ∧ vg ≤ 6 := ⟨hd.1, by have := hd.2.1 (HOK.out.gS.1); have := HOK.out.gS; omega⟩; clear hd
   go_upto_region 13 with fail
   clear c3 l3 cm lm fm
   have H12 := hid (H11.out.put (cs' := #[.int .i64 2, .int .i64 (1 + s), .string ⟨#[]⟩, .int .i64 0, .int .i64 vg, .int .i64 0, .slice none 0 0, .slice none 0 0, .slice none 0 0]) 4 (.int .i64 vg) rfl)
   generalize w11.setCell ⟨m, 4, none⟩ (.int .i64 vg) = w12 at H12 ⊢
   have c3 := cellsOf H12.out.h3; have l3 := ltOf H12.out.h3; have cm := cellsOf H12.out.hm; have lm := ltOf H12.out.hm; have fm := q0c H12.out.hm
   go_wp2_with fail
   refine (q1h b a la ca xs f (t + 1 + 1 + 1) x.rows _ H12.out.src (by omega) (by have := HOK.out.rows; omega) (by have := HOK.out.rows; omega)).mono ?_
   rintro e w13 ⟨vr, rfl, hd, hs, hc⟩
   clear c3 l3 cm lm fm
   have H13 := hid (H12.out.call hs hc)
   clear hs hc
   have c3 := cellsOf H13.out.h3; have l3 := ltOf H13.out.h3; have cm := cellsOf H13.out.hm; have lm := ltOf H13.out.hm; have fm := q0c H13.out.hm
   have hvr : 0 ≤ vr ∧ vr ≤ 6 := ⟨hd.1, by have := hd.2.1 (HOK.out.rows.1); have := HOK.out.rows; omega⟩; clear hd
   go_upto_region 14 with fail
   clear c3 l3 cm lm fm
   have H14 := hid (H13.out.put (cs' := #[.int .i64 2, .int .i64 (1 + s), .string ⟨#[]⟩, .int .i64 0, .int .i64 vg, .int .i64 vr, .slice none 0 0, .slice none 0 0, .slice none 0 0]) 5 (.int .i64 vr) rfl)
   generalize w13.setCell ⟨m, 5, none⟩ (.int .i64 vr) = w14 at H14 ⊢
   have c3 := cellsOf H14.out.h3; have l3 := ltOf H14.out.h3; have cm := cellsOf H14.out.hm; have lm := ltOf H14.out.hm; have fm := q0c H14.out.hm
   go_wp2_with fail
   refine (q6y b a la ca xs f (t + 1 + 1 + 1 + 1) wd _ H14.out.src (by have := HWD.out; omega) (by omega)).mono ?_
   rintro e w15 ⟨A7, C7, rfl, hty, hs, hc⟩
   clear c3 l3 cm lm fm
   obtain ⟨T15, hv15, hty⟩ := hty
   have H15 := hid (H14.out.rows hty hs hc); have HV15 := hid (SlT.sub hv15 (SubT.left [] _))
   clear hs hc hty hv15
   have c3 := cellsOf H15.out.h3; have l3 := ltOf H15.out.h3; have cm := cellsOf H15.out.hm; have lm := ltOf H15.out.hm; have fm := q0c H15.out.hm
   go_upto_region 15 with fail
   clear c3 l3 cm lm fm
   have H16 := hid (H15.out.put (cs' := #[.int .i64 2, .int .i64 (1 + s), .string ⟨#[]⟩, .int .i64 0, .int .i64 vg, .int .i64 vr, .slice none 0 0, .slice A7 wd C7, .slice none 0 0]) 7 (.slice A7 wd C7) rfl)
   generalize w15.setCell ⟨m, 7, none⟩ (.slice A7 wd C7) = w16 at H16 ⊢
   have c3 := cellsOf H16.out.h3; have l3 := ltOf H16.out.h3; have cm := cellsOf H16.out.hm; have lm := ltOf H16.out.hm; have fm := q0c H16.out.hm
   go_wp2_with fail
   refine (q6y b a la ca xs f (t + 1 + 1 + 1 + 1 + 200) wd _ H16.out.src (by have := HWD.out; omega) (by omega)).mono ?_
   rintro e w17 ⟨A8, C8, rfl, hty, hs, hc⟩
   clear c3 l3 cm lm fm
   obtain ⟨T17, hv17, hty⟩ := hty
   have H17 := hid (H16.out.rows hty hs hc); have HV17 := hid (SlT.sub hv17 (SubT.left (T15 ++ []) _))
   clear hs hc hty hv17
   have c3 := cellsOf H17.out.h3; have l3 := ltOf H17.out.h3; have cm := cellsOf H17.out.hm; have lm := ltOf H17.out.hm; have fm := q0c H17.out.hm
   go_wp2_with fail
   clear c3 l3 cm lm fm
   have H18 := hid (H17.out.put (cs' := #[.int .i64 2, .int .i64 (1 + s), .string ⟨#[]⟩, .int .i64 0, .int .i64 vg, .int .i64 vr, .slice none 0 0, .slice A7 wd C7, .slice A8 wd C8]) 8 (.slice A8 wd C8) rfl)
   generalize w17.setCell ⟨m, 8, none⟩ (.slice A8 wd C8) = w18 at H18 ⊢
   have c3 := cellsOf H18.out.h3; have l3 := ltOf H18.out.h3; have cm := cellsOf H18.out.hm; have lm := ltOf H18.out.hm; have fm := q0c H18.out.hm
   clear c3 l3 cm lm fm
   go_meet
   exact ⟨_, #[.int .i64 2, .int .i64 (1 + s), .string ⟨#[]⟩, .int .i64 0, .int .i64 vg, .int .i64 vr, .slice none 0 0, .slice A7 wd C7, .slice A8 wd C8], ⟨_, _, _, _, _, _, _, _, _, _, _, _, _, _, _, rfl, ⟨by decide, by decide⟩, ⟨by omega, by omega⟩, by decide, ⟨by decide, by decide⟩, ⟨by omega, by omega⟩, ⟨by omega, by omega⟩, SlT.nil _ _, by decide, (HV15.out.sub (SubT.right _ _)), HV17.out, by have := HWD.out; omega⟩, H18.out.mono (t' := t + 1000) (by omega)⟩
  ·go_wp2_with fail
   refine (q1a x HOK.out _).mono ?_
   rintro e w19 ⟨rfl, hc⟩
   clear c3 l3 cm lm fm
   have H19 := hid (H0.out.ext hc)
   clear hc
   have c3 := cellsOf H19.out.h3; have l3 := ltOf H19.out.h3; have cm := cellsOf H19.out.hm; have lm := ltOf H19.out.hm; have fm := q0c H19.out.hm
   go_wp2_with fail
   refine (q1h b a la ca xs f (t + 1 + 1) x.all _ H19.out.src (by omega) (by have := HOK.out.all; omega) (by have := HOK.out.all; omega)).mono ?_
   rintro e w20 ⟨vg, rfl, hd, hs, hc⟩
   clear c3 l3 cm lm fm
   have H20 := hid (H19.out.call hs hc)
   clear hs hc
   have c3 := cellsOf H20.out.h3; have l3 := ltOf H20.out.h3; have cm := cellsOf H20.out.hm; have lm := ltOf H20.out.hm; have fm := q0c H20.out.hm
   have hvg : 0 ≤ vg ∧ vg < x.all := ⟨hd.1, hd.2.1 (HOK.out.all.1)⟩; clear hd
   have hvg6 : 0 ≤ vg ∧ vg ≤ 6 := by have := HOK.out.all; omega
   go_wp2_with fail
   clear c3 l3 cm lm fm
   have H21 := hid (H20.out.put (cs' := #[.int .i64 3, .int .i64 (1 + s), .string ⟨#[]⟩, .int .i64 0, .int .i64 vg, .int .i64 0, .slice none 0 0, .slice none 0 0, .slice none 0 0]) 4 (.int .i64 vg) rfl)
   generalize w20.setCell ⟨m, 4, none⟩ (.int .i64 vg) = w21 at H21 ⊢
   have c3 := cellsOf H21.out.h3; have l3 := ltOf H21.out.h3; have cm := cellsOf H21.out.hm; have lm := ltOf H21.out.hm; have fm := q0c H21.out.hm
   clear c3 l3 cm lm fm
   go_meet
   exact ⟨_, #[.int .i64 3, .int .i64 (1 + s), .string ⟨#[]⟩, .int .i64 0, .int .i64 vg, .int .i64 0, .slice none 0 0, .slice none 0 0, .slice none 0 0], ⟨_, _, _, _, _, _, _, _, _, _, _, _, _, _, _, rfl, ⟨by decide, by decide⟩, ⟨by omega, by omega⟩, by decide, ⟨by decide, by decide⟩, ⟨by omega, by omega⟩, ⟨by decide, by decide⟩, SlT.nil _ _, by decide, SlT.nil _ _, SlT.nil _ _, by decide⟩, H21.out.mono (t' := t + 1000) (by omega)⟩
  ·go_wp2_with fail
   refine (q1a x HOK.out _).mono ?_
   rintro e w22 ⟨rfl, hc⟩
   clear c3 l3 cm lm fm
   have H22 := hid (H0.out.ext hc)
   clear hc
   have c3 := cellsOf H22.out.h3; have l3 := ltOf H22.out.h3; have cm := cellsOf H22.out.hm; have lm := ltOf H22.out.hm; have fm := q0c H22.out.hm
   go_wp2_with fail
   refine (q1h b a la ca xs f (t + 1 + 1) x.all _ H22.out.src (by omega) (by have := HOK.out.all; omega) (by have := HOK.out.all; omega)).mono ?_
   rintro e w23 ⟨vg, rfl, hd, hs, hc⟩
   clear c3 l3 cm lm fm
   have H23 := hid (H22.out.call hs hc)
   clear hs hc
   have c3 := cellsOf H23.out.h3; have l3 := ltOf H23.out.h3; have cm := cellsOf H23.out.hm; have lm := ltOf H23.out.hm; have fm := q0c H23.out.hm
   have hvg : 0 ≤ vg ∧ vg < x.all := ⟨hd.1, hd.2.1 (HOK.out.all.1)⟩; clear hd
   have hvg6 : 0 ≤ vg ∧ vg ≤ 6 := by have := HOK.out.all; omega
   go_upto_region 20 with fail
   clear c3 l3 cm lm fm
   have H24 := hid (H23.out.put (cs' := #[.int .i64 4, .int .i64 (1 + s), .string ⟨#[]⟩, .int .i64 0, .int .i64 vg, .int .i64 0, .slice none 0 0, .slice none 0 0, .slice none 0 0]) 4 (.int .i64 vg) rfl)
   generalize w23.setCell ⟨m, 4, none⟩ (.int .i64 vg) = w24 at H24 ⊢
   have c3 := cellsOf H24.out.h3; have l3 := ltOf H24.out.h3; have cm := cellsOf H24.out.hm; have lm := ltOf H24.out.hm; have fm := q0c H24.out.hm
   go_wp2_with fail
   refine (q1h b a la ca xs f (t + 1 + 1 + 1) x.rows _ H24.out.src (by omega) (by have := HOK.out.rows; omega) (by have := HOK.out.rows; omega)).mono ?_
   rintro e w25 ⟨vr, rfl, hd, hs, hc⟩
   clear c3 l3 cm lm fm
   have H25 := hid (H24.out.call hs hc)
   clear hs hc
   have c3 := cellsOf H25.out.h3; have l3 := ltOf H25.out.h3; have cm := cellsOf H25.out.hm; have lm := ltOf H25.out.hm; have fm := q0c H25.out.hm
   have hvr : 0 ≤ vr ∧ vr ≤ 6 := ⟨hd.1, by have := hd.2.1 (HOK.out.rows.1); have := HOK.out.rows; omega⟩; clear hd
   go_upto_region 21 with fail
   clear c3 l3 cm lm fm
   have H26 := hid (H25.out.put (cs' := #[.int .i64 4, .int .i64 (1 + s), .string ⟨#[]⟩, .int .i64 0, .int .i64 vg, .int .i64 vr, .slice none 0 0, .slice none 0 0, .slice none 0 0]) 5 (.int .i64 vr) rfl)
   generalize w25.setCell ⟨m, 5, none⟩ (.int .i64 vr) = w26 at H26 ⊢
   have c3 := cellsOf H26.out.h3; have l3 := ltOf H26.out.h3; have cm := cellsOf H26.out.hm; have lm := ltOf H26.out.hm; have fm := q0c H26.out.hm
   clear hvg
   obtain ⟨na, hna⟩ : ∃ n : Nat, x.all = n := ⟨x.all.toNat, by have := HOK.out.all; omega⟩
   have hna6 : na ≤ 6 := by have := HOK.out.all; omega
   have HNA := hid hna
   go_wp2_with fail
   refine (q1a x HOK.out _).mono ?_
   rintro e w27 ⟨rfl, hc⟩
   clear c3 l3 cm lm fm
   have H27 := hid (H26.out.ext hc)
   clear hc
   have c3 := cellsOf H27.out.h3; have l3 := ltOf H27.out.h3; have cm := cellsOf H27.out.hm; have lm := ltOf H27.out.hm; have fm := q0c H27.out.hm
   rw [hna]
   have hmk : ∀ w : World, (Instr.makeSlice 62 (.int .i64 na) (.int .i64 na)).run Tryz.prog w = .ok (.slice (some ⟨w.heap.size, 0, none⟩) na na) (w.alloc (.cells (zrow (.int .u8 0) na) 5)) := fun w => q7s na (by omega) w
   clear hna
   have K8 := hid (H27.out.put (cs' := #[.int .i64 4, .int .i64 (1 + s), .string ⟨#[]⟩, .int .i64 0, .int .i64 vg, .int .i64 vr, .slice none 0 0, .slice none 0 0, .slice (some ⟨w27.heap.size, 0, none⟩) na na]) 8 (.slice (some ⟨w27.heap.size, 0, none⟩) na na) rfl)
   have hz := zero_bt K8.out.ty.well na (by omega)
   rw [show (w27.setCell ⟨m, 8, none⟩ (.slice (some ⟨w27.heap.size, 0, none⟩) na na)).heap.size = w27.heap.size by simp] at hz
   have HV8 := hid hz.1; have K9 := hid (K8.out.step hz.2)
   clear hz
   go_upto_region 22 with fail
   clear c3 l3 cm lm fm
   generalize (w27.setCell ⟨m, 8, none⟩ (.slice (some ⟨w27.heap.size, 0, none⟩) na na)).alloc (.cells (zrow (.int .u8 0) na) 5) = w9 at K9 ⊢
   generalize w27.heap.size = b8 at K9 HV8 ⊢
   clear hmk K8
   have c3 := cellsOf K9.out.h3; have l3 := ltOf K9.out.h3; have cm := cellsOf K9.out.hm; have lm := ltOf K9.out.hm; have fm := q0c K9.out.hm
   go_wp2_with fail
   clear c3 l3 cm lm fm
   go_loopw [7] (fun vi wr => ∃ (j : Nat) (p6 : Option Addr) (l6 c6 : Nat) (T : List TRow) (Wr : World), Wr = wr ∧ j ≤ na ∧ vi = .int .i64 j ∧ l6 ≤ j ∧ SlT T .it (.slice p6 l6 c6) ∧ SlT T .bt (.slice (some ⟨b8, 0, none⟩) na na) ∧ RecW b a la ca xs f x w m T (t + 500 + 10 * j) #[.int .i64 4, .int .i64 (1 + s), .string ⟨#[]⟩, .int .i64 0, .int .i64 vg, .int .i64 vr, .slice p6 l6 c6, .slice none 0 0, .slice (some ⟨b8, 0, none⟩) na na] wr) (fun vi _ => na - (intOf vi).toNat)
   case atStart => exact ⟨0, none, 0, 0, _, _, rfl, by omega, rfl, by omega, SlT.nil _ _, HV8.out, K9.out.mono (t' := t + 500 + 10 * ((0 : Nat) : Int)) (by omega)⟩
   case round =>
    clear K9 HV8
    obtain ⟨j, p6, l6, c6, T, wr, rfl, hj, rfl, hl6, hv6, hv8, hr⟩ := hrel
    have V6 := hid hv6; have V8 := hid hv8; have R0 := hid hr
    clear hv6 hv8 hr
    have c3 := cellsOf R0.out.h3; have l3 := ltOf R0.out.h3; have cm := cellsOf R0.out.hm; have lm := ltOf R0.out.hm; have fm := q0c R0.out.hm
    go_wp2_with fail
    refine (q1a x HOK.out _).mono ?_
    rintro e w28 ⟨rfl, hc⟩
    clear c3 l3 cm lm fm
    have H28 := hid (R0.out.ext hc)
    clear hc
    have c3 := cellsOf H28.out.h3; have l3 := ltOf H28.out.h3; have cm := cellsOf H28.out.hm; have lm := ltOf H28.out.hm; have fm := q0c H28.out.hm
    rw [HNA.out]
    by_cases hlt : j < na
    ·by_cases hkg : (j : Int) = vg
     ·have hkb : ((j : Int) == vg) = true := by simpa using hkg
      go_wp2_with fail
      clear c3 l3 cm lm fm
      go_roundw
      case rel => exact ⟨j + 1, p6, l6, c6, _, _, rfl, by omega, by go_num, by omega, V6.out, V8.out, H28.out.mono (by omega)⟩
      case measure => simp [intOf]; omega
     ·have hkb : ((j : Int) == vg) = false := by simpa using hkg
      go_wp2_with fail
      refine (q2z b a la ca xs f (t + 500 + 10 * j) 3 _ H28.out.src (by omega) (by omega) (by omega)).mono ?_
      rintro e w29 ⟨q, rfl, hs, hc⟩
      clear c3 l3 cm lm fm
      have H29 := hid (H28.out.call hs hc)
      clear hs hc
      have c3 := cellsOf H29.out.h3; have l3 := ltOf H29.out.h3; have cm := cellsOf H29.out.hm; have lm := ltOf H29.out.hm; have fm := q0c H29.out.hm
      cases q
      ·obtain ⟨b8q, off8, cs8, e8, -, -, hfz8, hlt8, r8, hr8, hrk8, hrb8, q8, hq8, ho8⟩ := SlT.at H29.out.ty.well V8.out hlt
       obtain ⟨rfl, rfl⟩ : b8 = b8q ∧ off8 = 0 := by simpa [eq_comm] using e8
       have HR8 := hid (show ∃ r ∈ T, r.k = .bt ∧ r.b = b8 ∧ ∃ p, p < r.m ∧ j = p from ⟨r8, hr8, hrk8, hrb8, q8, hq8, by simpa [Kd.n] using ho8⟩)
       clear e8 hfz8 hlt8 hr8 hrk8 hrb8 hq8 ho8
       go_upto_region 26 with fail
       clear c3 l3 cm lm fm
       obtain ⟨CC, HCI, HCO⟩ := q0l (fun w' => Know m #[.int .i64 4, .int .i64 (1 + s), .string ⟨#[]⟩, .int .i64 0, .int .i64 vg, .int .i64 vr, .slice p6 l6 c6, .slice none 0 0, .slice (some ⟨b8, 0, none⟩) na na] w')
       refine q1m [8] CC (by kernel_rfl) (HCI.out _ (Know.of (q0a H29.out.hm))) (fun hcl hS => ?_)
       refine ggT 0 hcl hS ?_; clear hcl hS; intro hcl hS
       refine ggL 1 hcl hS HCO ?_; clear hcl hS; intro hcl hS
       refine ggT 2 hcl hS ?_; clear hcl hS; intro hcl hS
       refine ggT 3 hcl hS ?_; clear hcl hS; intro hcl hS
       refine ggC 4 hcl rfl (by kernel_rfl) (fun K hK => ?_)
       go_simp
       go_at_call 131
       refine (q1h b a la ca xs f (t + 500 + 10 * j + 1) 255 _ (H29.out.src.ext (Chg.refl [] w29).drew) (by omega) (by omega) (by omega)).mono ?_; rintro e wn ⟨vn, rfl, -, hs, hc⟩; have R2 := hid ((H29.out.ext (Chg.refl [] w29).drew).call hs hc); clear hs hc; have F2 := hid R2.out.hm; have lb8 := R2.out.ty.well.lt8 HR8.out; obtain ⟨ub, cb8⟩ := R2.out.ty.well.ce8 HR8.out; have fb8 := R2.out.ty.well.fr8 HR8.out
       go_wp2_with fail
       refine hK.out _ _ (fun _ => HCI.out _ (Know.of F2.out)) ?_
       clear hK K hcl hS
       intro hcl hS
       try simp only [Act.put, pA, pB, pC]
       refine ggT 5 hcl hS ?_; clear hcl hS; intro hcl hS
       refine ggT 6 hcl hS ?_; clear hcl hS; intro hcl hS
       refine ggT 7 hcl hS ?_; clear hcl hS; intro hcl hS
       refine ggC 8 hcl rfl (by kernel_rfl) (fun K hK => ?_)
       go_simp
       refine hK.out _ _ (Till.done (m := 8) (by simp) (by rfl)) ?_
       clear hK K hcl hS
       intro hcl hS
       try simp only [Act.put, pA, pB, pC]
       refine q3h (by kernel_rfl) ?_ _
       clear cb8 fb8 lb8 F2
       have R3 := hid (R2.out.step (put_bt R2.out.ty.well HR8.out (u8_cell (1 + IntKind.u8.wrap vn))))
       generalize wn.setCell ⟨b8, j, none⟩ (.int .u8 (IntKind.u8.wrap (1 + IntKind.u8.wrap vn))) = wx at R3 ⊢
       clear R2 HR8
       have c3 := cellsOf R3.out.h3; have l3 := ltOf R3.out.h3; have cm := cellsOf R3.out.hm; have lm := ltOf R3.out.hm; have fm := q0c R3.out.hm
       go_wp2_with fail
       refine (q2z b a la ca xs f ((t + 500 + 10 * j + 1 + 1)) 2 _ R3.out.src (by omega) (by omega) (by omega)).mono ?_
       rintro e w31 ⟨q, rfl, hs, hc⟩
       clear c3 l3 cm lm fm
       have H31 := hid (R3.out.call hs hc)
       clear hs hc
       have c3 := cellsOf H31.out.h3; have l3 := ltOf H31.out.h3; have cm := cellsOf H31.out.hm; have lm := ltOf H31.out.hm; have fm := q0c H31.out.hm
       cases q
       ·go_wp2_with fail
        clear c3 l3 cm lm fm
        go_roundw
        case rel => exact ⟨j + 1, p6, l6, c6, _, _, rfl, by omega, by go_num, by omega, V6.out, V8.out, H31.out.mono (by omega)⟩
        case measure => simp [intOf]; omega
       ·have R4 := hid (H31.out.ext ((Chg.refl [] w31).alloc (.cells #[.int .i64 j] 2)))
        go_wp2_with (at_builtin; refine q6s rfl _ _ 25 rfl R4.out.ty.well (k := .it) Tryz.underlying25 KI (by omega) rfl V6.out (cs := [.int .i64 j]) ⟨j, rfl, by constructor <;> omega⟩ (by show l6 + 1 ≤ 64; omega) ⟨w31.heap.size, 0, none⟩ 1 rfl (q1i w31 #[.int .i64 j] 2) ?_; intro a' c' w4 T4 h41 h42 h43 h44 h45; have K4 := hid (R4.out.step ⟨h41, h42, h44, h45⟩); have V64 := hid h43; have V84 := hid (V8.out.sub h42); clear h41 h42 h43 h44 h45 c3 l3 cm lm fm; have cm := cellsOf K4.out.hm; have lm := ltOf K4.out.hm; have fm := q0c K4.out.hm)
        have K5 := hid (K4.out.put (cs' := #[.int .i64 4, .int .i64 (1 + s), .string ⟨#[]⟩, .int .i64 0, .int .i64 vg, .int .i64 vr, .slice a' (l6 + 1) c', .slice none 0 0, .slice (some ⟨b8, 0, none⟩) na na]) 6 (.slice a' (l6 + 1) c') rfl)
        go_roundw
        case rel => exact ⟨j + 1, a', l6 + 1, c', _, _, rfl, by omega, by go_num, by omega, V64.out, V84.out, K5.out.mono (by omega)⟩
        case measure => simp [intOf]; omega
      ·go_wp2_with fail
       clear c3 l3 cm lm fm
       go_roundw
       case rel => exact ⟨j + 1, p6, l6, c6, _, _, rfl, by omega, by go_num, by omega, V6.out, V8.out, H29.out.mono (by omega)⟩
       case measure => simp [intOf]; omega
    ·go_wp2_with fail
     refine (q6y b a la ca xs f (t + 500 + 10 * j) wd _ H28.out.src (by have := HWD.out; omega) (by omega)).mono ?_
     rintro e w32 ⟨A7, C7, rfl, hty, hs, hc⟩
     clear c3 l3 cm lm fm
     obtain ⟨T32, hv32, hty⟩ := hty
     have H32 := hid (H28.out.rows hty hs hc); have HV32 := hid (SlT.sub hv32 (SubT.left T _))
     clear hs hc hty hv32
     have c3 := cellsOf H32.out.h3; have l3 := ltOf H32.out.h3; have cm := cellsOf H32.out.hm; have lm := ltOf H32.out.hm; have fm := q0c H32.out.hm
     go_wp2_with fail
     clear c3 l3 cm lm fm
     have H33 := hid (H32.out.put (cs' := #[.int .i64 4, .int .i64 (1 + s), .string ⟨#[]⟩, .int .i64 0, .int .i64 vg, .int .i64 vr, .slice p6 l6 c6, .slice A7 wd C7, .slice (some ⟨b8, 0, none⟩) na na]) 7 (.slice A7 wd C7) rfl)
     generalize w32.setCell ⟨m, 7, none⟩ (.slice A7 wd C7) = w33 at H33 ⊢
     have c3 := cellsOf H33.out.h3; have l3 := ltOf H33.out.h3; have cm := cellsOf H33.out.hm; have lm := ltOf H33.out.hm; have fm := q0c H33.out.hm
     clear c3 l3 cm lm fm
     go_meet
     exact ⟨_, #[.int .i64 4, .int .i64 (1 + s), .string ⟨#[]⟩, .int .i64 0, .int .i64 vg, .int .i64 vr, .slice p6 l6 c6, .slice A7 wd C7, .slice (some ⟨b8, 0, none⟩) na na], ⟨_, _, _, _, _, _, _, _, _, _, _, _, _, _, _, rfl, ⟨by decide, by decide⟩, ⟨by omega, by omega⟩, by decide, ⟨by decide, by decide⟩, ⟨by omega, by omega⟩, ⟨by omega, by omega⟩, (V6.out.sub (SubT.right _ _)), by omega, HV32.out, (V8.out.sub (SubT.right _ _)), by omega⟩, H33.out.mono (t' := t + 1000) (by omega)⟩
 case rest =>
 revert wc; intro wz hcut
 obtain ⟨T, cs, ⟨k, s, nm, ln, g, r, p6, l6, c6, p7, l7, c7, p8, l8, c8, rfl, b1, b2, b3, b4, b5, b6, v6, b7, v7, v8, b8⟩, hr⟩ := hcut
 have H0 := hid hr
 have HB := hid (And.intro b1.ok (And.intro b2.ok (And.intro b3 (And.intro b5.ok b6.ok))))
 have V6 := hid v6; have V7 := hid v7; have V8 := hid v8
 clear hr b1 b2 b3 b5 b6 v6 v7 v8 HWD HN1 l3 lm fm hs40 hkk
 have c3 := cellsOf H0.out.h3; have l3 := ltOf H0.out.h3; have cm := cellsOf H0.out.hm; have lm := ltOf H0.out.hm; have fm := q0c H0.out.hm
 go_wp2_with fail
 refine (q2z b a la ca xs f (t + 1000) 20 _ H0.out.src (by omega) (by omega) (by omega)).mono ?_
 rintro e w34 ⟨q, rfl, hs, hc⟩
 clear c3 l3 cm lm fm
 have H34 := hid (H0.out.call hs hc)
 clear hs hc
 have c3 := cellsOf H34.out.h3; have l3 := ltOf H34.out.h3; have cm := cellsOf H34.out.hm; have lm := ltOf H34.out.hm; have fm := q0c H34.out.hm
 go_upto_if 135 with fail
 go_cut [] from 136 to 200 (fun w2 => ∃ T cs, ElT T .rc cs.toList ∧ cs.size = 9 ∧ RecW b a la ca xs f x w m T (t + 2000) cs w2)
 case first =>
  cases q
  ·go_wp2_with fail
   clear c3 l3 cm lm fm
   go_meet
   exact ⟨_, #[.int .i64 k, .int .i64 s, .string nm, .int .i64 ln, .int .i64 g, .int .i64 r, .slice p6 l6 c6, .slice p7 l7 c7, .slice p8 l8 c8], ⟨_, _, _, _, _, _, _, _, _, rfl, ⟨HB.out.1, HB.out.2.1, ⟨by omega, by omega⟩, HB.out.2.2.2.1, HB.out.2.2.2.2⟩, HB.out.2.2.1, V6.out, V7.out, V8.out⟩, rfl, H34.out.mono (t' := t + 2000) (by omega)⟩
  ·go_wp2_with fail
   refine (q1h b a la ca xs f (t + 1000 + 1) 8 _ H34.out.src (by omega) (by omega) (by omega)).mono ?_
   rintro e w35 ⟨v, rfl, hd, hs, hc⟩
   clear c3 l3 cm lm fm
   have H35 := hid (H34.out.call hs hc)
   clear hs hc
   have c3 := cellsOf H35.out.h3; have l3 := ltOf H35.out.h3; have cm := cellsOf H35.out.hm; have lm := ltOf H35.out.hm; have fm := q0c H35.out.hm
   have hv : v = 0 ∨ v = 1 ∨ v = 2 ∨ v = 3 ∨ v = 4 ∨ v = 5 ∨ v = 6 ∨ v = 7 := by have := hd.1; have := hd.2.1 (by omega); omega
   clear hd
   rcases hv with rfl | rfl | rfl | rfl | rfl | rfl | rfl | rfl
   ·go_wp2_with fail
    refine (q0z b a la ca xs f (t + 1000 + 1 + 1) 6 [0, 5, 1, 2, 3, 4] _ H35.out.src (by omega) (by intro y hy; simp only [List.mem_cons, List.not_mem_nil, or_false] at hy; have hrw := HOK.out.rows; have hga := HOK.out.all; have hgg := HOK.out.gS; constructor <;> omega) rfl (by omega) (by omega) _ rfl _ rfl).mono ?_
    rintro e w36 ⟨vp, rfl, hd, hs, hc⟩
    clear c3 l3 cm lm fm
    have H36 := hid (H35.out.call hs hc)
    clear hs hc
    have c3 := cellsOf H36.out.h3; have l3 := ltOf H36.out.h3; have cm := cellsOf H36.out.hm; have lm := ltOf H36.out.hm; have fm := q0c H36.out.hm
    have hp : q0q vp := by
     simp only [List.mem_cons, List.not_mem_nil, or_false] at hd
     have hrw := HOK.out.rows; have hga := HOK.out.all; have hgg := HOK.out.gS
     constructor <;> omega
    clear hd
    go_wp2_with fail
    clear c3 l3 cm lm fm
    have H37 := hid (H36.out.put (cs' := #[.int .i64 vp, .int .i64 s, .string nm, .int .i64 ln, .int .i64 g, .int .i64 r, .slice p6 l6 c6, .slice p7 l7 c7, .slice p8 l8 c8]) 0 (.int .i64 vp) rfl)
    generalize w36.setCell ⟨m, 0, none⟩ (.int .i64 vp) = w37 at H37 ⊢
    have c3 := cellsOf H37.out.h3; have l3 := ltOf H37.out.h3; have cm := cellsOf H37.out.hm; have lm := ltOf H37.out.hm; have fm := q0c H37.out.hm
    clear c3 l3 cm lm fm
    go_meet
    exact ⟨_, #[.int .i64 vp, .int .i64 s, .string nm, .int .i64 ln, .int .i64 g, .int .i64 r, .slice p6 l6 c6, .slice p7 l7 c7, .slice p8 l8 c8], ⟨_, _, _, _, _, _, _, _, _, rfl, ⟨hp, HB.out.2.1, ⟨by omega, by omega⟩, HB.out.2.2.2.1, HB.out.2.2.2.2⟩, HB.out.2.2.1, V6.out, V7.out, V8.out⟩, rfl, H37.out.mono (t' := t + 2000) (by omega)⟩
   ·go_wp2_with fail
    refine (q0z b a la ca xs f (t + 1000 + 1 + 1) 3 [0, 1000000000, 1000000001] _ H35.out.src (by omega) (by intro y hy; simp only [List.mem_cons, List.not_mem_nil, or_false] at hy; have hrw := HOK.out.rows; have hga := HOK.out.all; have hgg := HOK.out.gS; constructor <;> omega) rfl (by omega) (by omega) _ rfl _ rfl).mono ?_
    rintro e w38 ⟨vp, rfl, hd, hs, hc⟩
    clear c3 l3 cm lm fm
    have H38 := hid (H35.out.call hs hc)
    clear hs hc
    have c3 := cellsOf H38.out.h3; have l3 := ltOf H38.out.h3; have cm := cellsOf H38.out.hm; have lm := ltOf H38.out.hm; have fm := q0c H38.out.hm
    have hp : q0q vp := by
     simp only [List.mem_cons, List.not_mem_nil, or_false] at hd
     have hrw := HOK.out.rows; have hga := HOK.out.all; have hgg := HOK.out.gS
     constructor <;> omega
    clear hd
    go_wp2_with fail
    clear c3 l3 cm lm fm
    have H39 := hid (H38.out.put (cs' := #[.int .i64 k, .int .i64 vp, .string nm, .int .i64 ln, .int .i64 g, .int .i64 r, .slice p6 l6 c6, .slice p7 l7 c7, .slice p8 l8 c8]) 1 (.int .i64 vp) rfl)
    generalize w38.setCell ⟨m, 1, none⟩ (.int .i64 vp) = w39 at H39 ⊢
    have c3 := cellsOf H39.out.h3; have l3 := ltOf H39.out.h3; have cm := cellsOf H39.out.hm; have lm := ltOf H39.out.hm; have fm := q0c H39.out.hm
    clear c3 l3 cm lm fm
    go_meet
    exact ⟨_, #[.int .i64 k, .int .i64 vp, .string nm, .int .i64 ln, .int .i64 g, .int .i64 r, .slice p6 l6 c6, .slice p7 l7 c7, .slice p8 l8 c8], ⟨_, _, _, _, _, _, _, _, _, rfl, ⟨HB.out.1, hp, ⟨by omega, by omega⟩, HB.out.2.2.2.1, HB.out.2.2.2.2⟩, HB.out.2.2.1, V6.out, V7.out, V8.out⟩, rfl, H39.out.mono (t' := t + 2000) (by omega)⟩
   ·go_wp2_with fail
    refine (bentName_any b a la ca xs f (t + 1000 + 1 + 1) _ H35.out.src (by omega)).mono ?_
    rintro e w40 ⟨nm2, rfl, hnm, hs, hc⟩
    clear c3 l3 cm lm fm
    have H40 := hid (H35.out.call hs hc)
    clear hs hc
    have c3 := cellsOf H40.out.h3; have l3 := ltOf H40.out.h3; have cm := cellsOf H40.out.hm; have lm := ltOf H40.out.hm; have fm := q0c H40.out.hm
    have HNM := hid hnm; clear hnm
    go_wp2_with fail
    clear c3 l3 cm lm fm
    have H41 := hid (H40.out.put (cs' := #[.int .i64 k, .int .i64 s, .string nm2, .int .i64 ln, .int .i64 g, .int .i64 r, .slice p6 l6 c6, .slice p7 l7 c7, .slice p8 l8 c8]) 2 (.string nm2) rfl)
    generalize w40.setCell ⟨m, 2, none⟩ (.string nm2) = w41 at H41 ⊢
    have c3 := cellsOf H41.out.h3; have l3 := ltOf H41.out.h3; have cm := cellsOf H41.out.hm; have lm := ltOf H41.out.hm; have fm := q0c H41.out.hm
    clear c3 l3 cm lm fm
    go_meet
    exact ⟨_, #[.int .i64 k, .int .i64 s, .string nm2, .int .i64 ln, .int .i64 g, .int .i64 r, .slice p6 l6 c6, .slice p7 l7 c7, .slice p8 l8 c8], ⟨_, _, _, _, _, _, _, _, _, rfl, ⟨HB.out.1, HB.out.2.1, ⟨by omega, by omega⟩, HB.out.2.2.2.1, HB.out.2.2.2.2⟩, HNM.out, V6.out, V7.out, V8.out⟩, rfl, H41.out.mono (t' := t + 2000) (by omega)⟩
   ·have hw1 : IntKind.i64.wrap (ln + 1) = ln + 1 := IntWalk.i64_in _ (by omega)
    go_wp2_with fail
    refine (q0z b a la ca xs f (t + 1000 + 1 + 1) 4 [0, -2, 1000, ln + 1] _ H35.out.src (by omega) (by intro y hy; simp only [List.mem_cons, List.not_mem_nil, or_false] at hy; have hrw := HOK.out.rows; have hga := HOK.out.all; have hgg := HOK.out.gS; constructor <;> omega) rfl (by omega) (by omega) _ rfl _ rfl).mono ?_
    rintro e w42 ⟨vp, rfl, hd, hs, hc⟩
    clear c3 l3 cm lm fm
    have H42 := hid (H35.out.call hs hc)
    clear hs hc
    have c3 := cellsOf H42.out.h3; have l3 := ltOf H42.out.h3; have cm := cellsOf H42.out.hm; have lm := ltOf H42.out.hm; have fm := q0c H42.out.hm
    have hp : q0q vp := by
     simp only [List.mem_cons, List.not_mem_nil, or_false] at hd
     have hrw := HOK.out.rows; have hga := HOK.out.all; have hgg := HOK.out.gS
     constructor <;> omega
    clear hd
    go_wp2_with fail
    clear c3 l3 cm lm fm
    have H43 := hid (H42.out.put (cs' := #[.int .i64 k, .int .i64 s, .string nm, .int .i64 vp, .int .i64 g, .int .i64 r, .slice p6 l6 c6, .slice p7 l7 c7, .slice p8 l8 c8]) 3 (.int .i64 vp) rfl)
    generalize w42.setCell ⟨m, 3, none⟩ (.int .i64 vp) = w43 at H43 ⊢
    have c3 := cellsOf H43.out.h3; have l3 := ltOf H43.out.h3; have cm := cellsOf H43.out.hm; have lm := ltOf H43.out.hm; have fm := q0c H43.out.hm
    clear c3 l3 cm lm fm
    go_meet
    exact ⟨_, #[.int .i64 k, .int .i64 s, .string nm, .int .i64 vp, .int .i64 g, .int .i64 r, .slice p6 l6 c6, .slice p7 l7 c7, .slice p8 l8 c8], ⟨_, _, _, _, _, _, _, _, _, rfl, ⟨HB.out.1, HB.out.2.1, hp, HB.out.2.2.2.1, HB.out.2.2.2.2⟩, HB.out.2.2.1, V6.out, V7.out, V8.out⟩, rfl, H43.out.mono (t' := t + 2000) (by omega)⟩
   ·go_upto_region 41 with fail
    clear c3 l3 cm lm fm
    obtain ⟨CC, HCI, HCO⟩ := q0l (fun w' => Know w.heap.size #[.int .i64 x.gS, .int .i64 x.column, .int .i64 x.data, .int .i64 x.sR, .int .i64 x.rows, .int .i64 x.cap, .int .i64 x.bT, .int .i64 x.qU, .int .i64 x.sG] w')
    refine q1m [8] CC (by kernel_rfl) (HCI.out _ (Know.of (q0a H35.out.h3))) (fun hcl hS => ?_)
    refine ggT 0 hcl hS ?_; clear hcl hS; intro hcl hS
    refine ggT 1 hcl hS ?_; clear hcl hS; intro hcl hS
    refine ggL 2 hcl hS HCO ?_; clear hcl hS; intro hcl hS
    refine ggL 3 hcl hS HCO ?_; clear hcl hS; intro hcl hS
    refine ggC 4 hcl rfl (by kernel_rfl) (fun K hK => ?_)
    go_simp
    go_at_call 100
    refine (q1a x HOK.out _).mono ?_; rintro e wn ⟨rfl, hc⟩; have R2 := hid ((H35.out.ext (Chg.refl [] w35).drew).ext hc); clear hc
    go_wp2_with fail
    refine hK.out _ _ (fun _ => HCI.out _ (Know.of R2.out.h3)) ?_
    clear hK K hcl hS
    intro hcl hS
    try simp only [Act.put, pA, pB, pC]
    refine ggC 5 hcl rfl (by kernel_rfl) (fun K hK => ?_)
    go_simp
    refine hK.out _ _ (fun _ => HCI.out _ (Know.of (R2.out.ext ((Chg.refl [] wn).alloc _)).h3)) ?_
    clear hK K hcl hS
    intro hcl hS
    try simp only [Act.put, pA, pB, pC]
    refine ggC 6 hcl rfl (by kernel_rfl) (fun K hK => ?_)
    go_simp
    go_at_call 130
    refine (q0z b a la ca xs f (t + 1000 + 1 + 1) 3 [-1, x.gS, x.all] _ R2.out.src (by omega) (by intro y hy; simp only [List.mem_cons, List.not_mem_nil, or_false] at hy; have hga := HOK.out.all; have hgg := HOK.out.gS; constructor <;> omega) rfl (by omega) (by omega) _ rfl _ rfl).mono ?_; rintro e wp ⟨vp, rfl, hd, hs, hc⟩; have R3 := hid (R2.out.call hs hc); have hp : q0q vp := (by simp only [List.mem_cons, List.not_mem_nil, or_false] at hd; have hga := HOK.out.all; have hgg := HOK.out.gS; constructor <;> omega); clear hs hc hd; have F3 := hid R3.out.hm; have cm := cellsOf F3.out; have lm := ltOf F3.out; have fm := q0c F3.out
    go_wp2_with fail
    refine hK.out _ _ (fun _ => HCI.out _ (Know.of R3.out.h3)) ?_
    clear hK K hcl hS
    intro hcl hS
    try simp only [Act.put, pA, pB, pC]
    refine ggT 7 hcl hS ?_; clear hcl hS; intro hcl hS
    refine ggC 8 hcl rfl (by kernel_rfl) (fun K hK => ?_)
    go_simp
    refine hK.out _ _ (Till.done (m := 8) (by simp) (by rfl)) ?_
    clear hK K hcl hS
    intro hcl hS
    try simp only [Act.put, pA, pB, pC]
    refine q3h (by kernel_rfl) ?_ _
    have R4 := hid (R3.out.put (cs' := #[.int .i64 k, .int .i64 s, .string nm, .int .i64 ln, .int .i64 vp, .int .i64 r, .slice p6 l6 c6, .slice p7 l7 c7, .slice p8 l8 c8]) 4 (.int .i64 vp) rfl)
    clear cm lm fm
    go_wp2_with fail
    go_meet
    exact ⟨_, #[.int .i64 k, .int .i64 s, .string nm, .int .i64 ln, .int .i64 vp, .int .i64 r, .slice p6 l6 c6, .slice p7 l7 c7, .slice p8 l8 c8], ⟨_, _, _, _, _, _, _, _, _, rfl, ⟨HB.out.1, HB.out.2.1, ⟨by omega, by omega⟩, hp, HB.out.2.2.2.2⟩, HB.out.2.2.1, V6.out, V7.out, V8.out⟩, rfl, R4.out.mono (t' := t + 2000) (by omega)⟩
   ·go_wp2_with fail
    refine (q0z b a la ca xs f (t + 1000 + 1 + 1) 2 [-1, x.rows] _ H35.out.src (by omega) (by intro y hy; simp only [List.mem_cons, List.not_mem_nil, or_false] at hy; have hrw := HOK.out.rows; have hga := HOK.out.all; have hgg := HOK.out.gS; constructor <;> omega) rfl (by omega) (by omega) _ rfl _ rfl).mono ?_
    rintro e w44 ⟨vp, rfl, hd, hs, hc⟩
    clear c3 l3 cm lm fm
    have H44 := hid (H35.out.call hs hc)
    clear hs hc
    have c3 := cellsOf H44.out.h3; have l3 := ltOf H44.out.h3; have cm := cellsOf H44.out.hm; have lm := ltOf H44.out.hm; have fm := q0c H44.out.hm
    have hp : q0q vp := by
     simp only [List.mem_cons, List.not_mem_nil, or_false] at hd
     have hrw := HOK.out.rows; have hga := HOK.out.all; have hgg := HOK.out.gS
     constructor <;> omega
    clear hd
    go_wp2_with fail
    clear c3 l3 cm lm fm
    have H45 := hid (H44.out.put (cs' := #[.int .i64 k, .int .i64 s, .string nm, .int .i64 ln, .int .i64 g, .int .i64 vp, .slice p6 l6 c6, .slice p7 l7 c7, .slice p8 l8 c8]) 5 (.int .i64 vp) rfl)
    generalize w44.setCell ⟨m, 5, none⟩ (.int .i64 vp) = w45 at H45 ⊢
    have c3 := cellsOf H45.out.h3; have l3 := ltOf H45.out.h3; have cm := cellsOf H45.out.hm; have lm := ltOf H45.out.hm; have fm := q0c H45.out.hm
    clear c3 l3 cm lm fm
    go_meet
    exact ⟨_, #[.int .i64 k, .int .i64 s, .string nm, .int .i64 ln, .int .i64 g, .int .i64 vp, .slice p6 l6 c6, .slice p7 l7 c7, .slice p8 l8 c8], ⟨_, _, _, _, _, _, _, _, _, rfl, ⟨HB.out.1, HB.out.2.1, ⟨by omega, by omega⟩, HB.out.2.2.2.1, hp⟩, HB.out.2.2.1, V6.out, V7.out, V8.out⟩, rfl, H45.out.mono (t' := t + 2000) (by omega)⟩
   ·go_upto_region 45 with fail
    clear c3 l3 cm lm fm
    obtain ⟨CC, HCI, HCO⟩ := q0l (fun w' => Know w.heap.size #[.int .i64 x.gS, .int .i64 x.column, .int .i64 x.data, .int .i64 x.sR, .int .i64 x.rows, .int .i64 x.cap, .int .i64 x.bT, .int .i64 x.qU, .int .i64 x.sG] w' ∧ Know m #[.int .i64 k, .int .i64 s, .string nm, .int .i64 ln, .int .i64 g, .int .i64 r, .slice p6 l6 c6, .slice p7 l7 c7, .slice p8 l8 c8] w')
    refine q1m [8] CC (by kernel_rfl) (HCI.out _ ⟨(Know.of (q0a H35.out.h3)), (Know.of (q0a H35.out.hm))⟩) (fun hcl hS => ?_)
    refine ggT 0 hcl hS ?_; clear hcl hS; intro hcl hS
    refine ggL 1 hcl hS HCO ?_; clear hcl hS; intro hcl hS
    refine ggT 2 hcl hS ?_; clear hcl hS; intro hcl hS
    refine ggT 3 hcl hS ?_; clear hcl hS; intro hcl hS
    refine ggL 4 hcl hS HCO ?_; clear hcl hS; intro hcl hS
    refine ggC 5 hcl rfl (by kernel_rfl) (fun K hK => ?_)
    go_simp
    refine hK.out _ _ (fun _ => HCI.out _ ⟨(Know.of (H35.out.ext (((Chg.refl [] w35).drew).alloc _)).h3), (Know.of (H35.out.ext (((Chg.refl [] w35).drew).alloc _)).hm)⟩) ?_
    clear hK K hcl hS
    intro hcl hS
    try simp only [Act.put, pA, pB, pC]
    refine ggC 6 hcl rfl (by kernel_rfl) (fun K hK => ?_)
    go_simp
    go_at_call 130
    refine (q0z b a la ca xs f (t + 1000 + 1 + 1) 3 [0, -1, x.rows] _ (H35.out.src.ext ((Chg.refl [] w35).drew)) (by omega) (by intro y hy; simp only [List.mem_cons, List.not_mem_nil, or_false] at hy; have hrw := HOK.out.rows; constructor <;> omega) rfl (by omega) (by omega) _ rfl _ rfl).mono ?_; rintro e wp ⟨vp, rfl, hd, hs, hc⟩; have R3 := hid ((H35.out.ext ((Chg.refl [] w35).drew)).call hs hc); have hp : q0q vp := (by simp only [List.mem_cons, List.not_mem_nil, or_false] at hd; have hrw := HOK.out.rows; constructor <;> omega); clear hs hc hd
    go_wp2_with fail
    refine hK.out _ _ (fun _ => HCI.out _ ⟨(Know.of R3.out.h3), (Know.of R3.out.hm)⟩) ?_
    clear hK K hcl hS
    intro hcl hS
    try simp only [Act.put, pA, pB, pC]
    refine ggC 7 hcl rfl (by kernel_rfl) (fun K hK => ?_)
    go_simp
    refine hK.out _ _ (fun _ => HCI.out _ ⟨(Know.of (R3.out.ext ((Chg.refl [] wp).alloc (.cells #[.int .i64 vp] 2))).h3), (Know.of (R3.out.ext ((Chg.refl [] wp).alloc (.cells #[.int .i64 vp] 2))).hm)⟩) ?_
    clear hK K hcl hS
    intro hcl hS
    try simp only [Act.put, pA, pB, pC]
    refine ggC 8 hcl rfl (by kernel_rfl) (fun K hK => ?_)
    refine q4t rfl _ _ 25 rfl (R3.out.ext ((Chg.refl [] wp).alloc (.cells #[.int .i64 vp] 2))).ty.well (k := .it) Tryz.underlying25 KI (by omega) rfl V6.out (cs := [.int .i64 vp]) ⟨vp, rfl, hp⟩ (by show l6 + 1 ≤ 64; omega) ⟨wp.heap.size, 0, none⟩ 1 rfl (q1i wp #[.int .i64 vp] 2) ?_
    intro a' c' w4 T4 h41 h42 h43 h44 h45
    have R4 := hid ((R3.out.ext ((Chg.refl [] wp).alloc (.cells #[.int .i64 vp] 2))).step ⟨h41, h42, h44, h45⟩); have V64 := hid h43; have V74 := hid (V7.out.sub h42); have V84 := hid (V8.out.sub h42); have cm := cellsOf R4.out.hm; have lm := ltOf R4.out.hm; have fm := q0c R4.out.hm
    clear h41 h42 h43 h44 h45
    refine hK.out _ _ (Till.done (m := 8) (by simp) (by rfl)) ?_
    clear hK K hcl hS
    intro hcl hS
    try simp only [Act.put, pA, pB, pC]
    refine ggT 9 hcl hS ?_; clear hcl hS; intro hcl hS
    refine ggC 10 hcl rfl (by kernel_rfl) (fun K hK => ?_)
    go_simp
    refine hK.out _ _ (Till.done (m := 8) (by simp) (by rfl)) ?_
    clear hK K hcl hS
    intro hcl hS
    try simp only [Act.put, pA, pB, pC]
    refine q3h (by kernel_rfl) ?_ _
    have R5 := hid (R4.out.put (cs' := #[.int .i64 k, .int .i64 s, .string nm, .int .i64 ln, .int .i64 g, .int .i64 r, .slice a' (l6 + 1) c', .slice p7 l7 c7, .slice p8 l8 c8]) 6 (.slice a' (l6 + 1) c') rfl)
    clear cm lm fm
    go_wp2_with fail
    go_meet
    exact ⟨_, #[.int .i64 k, .int .i64 s, .string nm, .int .i64 ln, .int .i64 g, .int .i64 r, .slice a' (l6 + 1) c', .slice p7 l7 c7, .slice p8 l8 c8], ⟨_, _, _, _, _, _, _, _, _, rfl, ⟨HB.out.1, HB.out.2.1, ⟨by omega, by omega⟩, HB.out.2.2.2.1, HB.out.2.2.2.2⟩, HB.out.2.2.1, V64.out, V74.out, V84.out⟩, rfl, R5.out.mono (t' := t + 2000) (by omega)⟩
   ·have R4 := hid (H35.out.ext ((Chg.refl [] w35).alloc (.cells #[.int .u8 1] 5)))
    go_wp2_with (at_builtin; refine q6s rfl _ _ 62 rfl R4.out.ty.well (k := .bt) Tryz.underlying62 KU (by omega) rfl V8.out (cs := [.int .u8 1]) ⟨1, rfl⟩ (by show l8 + 1 ≤ 64; omega) ⟨w35.heap.size, 0, none⟩ 1 rfl (q1i w35 #[.int .u8 1] 5) ?_; intro a' c' w4 T4 h41 h42 h43 h44 h45; have K4 := hid (R4.out.step ⟨h41, h42, h44, h45⟩); have V84 := hid h43; have V64 := hid (V6.out.sub h42); have V74 := hid (V7.out.sub h42); clear h41 h42 h43 h44 h45 c3 l3 cm lm fm; have cm := cellsOf K4.out.hm; have lm := ltOf K4.out.hm; have fm := q0c K4.out.hm)
    have K5 := hid (K4.out.put (cs' := #[.int .i64 k, .int .i64 s, .string nm, .int .i64 ln, .int .i64 g, .int .i64 r, .slice p6 l6 c6, .slice p7 l7 c7, .slice a' (l8 + 1) c']) 8 (.slice a' (l8 + 1) c') rfl)
    go_meet
    exact ⟨_, #[.int .i64 k, .int .i64 s, .string nm, .int .i64 ln, .int .i64 g, .int .i64 r, .slice p6 l6 c6, .slice p7 l7 c7, .slice a' (l8 + 1) c'], ⟨_, _, _, _, _, _, _, _, _, rfl, ⟨HB.out.1, HB.out.2.1, ⟨by omega, by omega⟩, HB.out.2.2.2.1, HB.out.2.2.2.2⟩, HB.out.2.2.1, V64.out, V74.out, V84.out⟩, rfl, K5.out.mono (t' := t + 2000) (by omega)⟩
 case rest =>
 revert wc; intro w9 hcut
 obtain ⟨T9, cs, hel, hsz, hr⟩ := hcut
 have HE := hid hel; have HSZ := hid hsz; have R := hid hr
 have HONE := hid (List.all_eq_true.2 hel.one)
 clear hel hsz hr
 go_wp2_with (first | (refine q0k rfl _ 67 rfl rfl infoRc Tryz.underlying67 R.out.hm HSZ.out ?_) | (refine q0p rfl _ _ 67 rfl rfl rfl infoRc R.out.h4 HSZ.out rfl HONE.out ?_; intro w10 hb hc; have HB := hid hb; have HC := hid hc; clear hb hc))
 refine bodyPost_ret (v := .agg cs) (q0m _ 67 rfl rfl infoRc Tryz.underlying67 HB.out HSZ.out) rfl ⟨cs, rfl, ⟨T9, HE.out, (R.out.ty.chg HC.out (fun y hy => by rw [List.mem_singleton] at hy; have := R.out.lm; omega)).mono (by have := R.out.lm; omega)⟩, ((R.out.src.chg HC.out (by rw [List.mem_singleton]; have := R.out.lb; omega) (fun y hy => by rw [List.mem_singleton]; have := R.out.lf y hy; omega))).mono (by omega), R.out.chg.trans HC.out (fun y hy => .inr (by rw [List.mem_singleton] at hy; omega))⟩
end Go.Proofs.YtphmpimgbmedbaaGreat
namespace Go.Proofs.YtphmpimgbmedbaaGreat
open Go.RowKit
open Go.Lib (hid)
section
variable {T : List TRow} {w : World}
def PlT (T : List TRow) (k : Kd) (b o : Nat) : Prop := ∃ r ∈ T, r.k = k ∧ r.b = b ∧ ∃ p, p < r.m ∧ o = p * k.n
theorem PlT.lt {k : Kd} {b o : Nat} (h : PlT T k b o) (hW : Well T w) : b < w.heap.size := by
 obtain ⟨r, hr, -, rfl, -⟩ := h
 exact hW.lt hr
theorem PlT.fr {k : Kd} {b o : Nat} (h : PlT T k b o) (hW : Well T w) : ∀ j, w.frozen? ⟨b, j, none⟩ = false := by
 obtain ⟨r, hr, -, rfl, -⟩ := h
 obtain ⟨cur, h1, -⟩ := hW.row r hr
 exact q0c h1
theorem PlT.sub {T' : List TRow} {k : Kd} {b o : Nat} (h : PlT T k b o) (hs : SubT T T') : PlT T' k b o := by
 obtain ⟨r, hr, hk, rfl, p, hp, rfl⟩ := h
 obtain ⟨r', hr', e1, e2, e3, e4⟩ := hs r hr
 exact ⟨r', hr', e2.trans hk, e1, p, by omega, rfl⟩
theorem PlT.wk {k : Kd} {b o : Nat} (h : PlT T k b o) : PlT (wkT T) k.wk b o := by
 obtain ⟨r, hr, rfl, rfl, p, hp, rfl⟩ := h
 exact ⟨_, List.mem_map.2 ⟨r, hr, rfl⟩, rfl, rfl, p, hp, by rw [r.k.wk_n]⟩
theorem PlT.nin {k : Kd} {b o : Nat} (h : PlT T k b o) {S : List Nat} (hS : ∀ y ∈ S, y ∉ T.map (·.b)) : b ∉ S := fun hm => by
 obtain ⟨r, hr, -, rfl, -⟩ := h
 exact hS _ hm (List.mem_map.2 ⟨r, hr, rfl⟩)
theorem SlT.ds_at (h : Well T w) {D R l c : Nat} {a : Option Addr} (hv : SlT T (.ds D R) (.slice a l c)) {i : Nat} (hi : i < l) :
  ∃ b off p2 l2 c2, a = some ⟨b, off, none⟩ ∧ w.cell? ⟨b, off + i, none⟩ = some (.slice p2 l2 c2) ∧ SlT T (.dr R) (.slice p2 l2 c2) ∧ D ≤ l2 ∧ (D = 0 ∨ l2 ≤ 8) ∧ PlT T (.ds D R) b (off + i) := by
 obtain ⟨b, off, cs, ha, he, hc, -, -, r, hr, hk, rfl, p, hp, ho⟩ := hv.at h hi
 obtain ⟨p2, l2, c2, rfl, h1, h2, h3⟩ := he
 refine ⟨r.b, off, p2, l2, c2, ha, ?_, h1, h2, h3, r, hr, hk, rfl, p, hp, ?_⟩
 ·have := hc 0 _ rfl; simpa [Kd.n] using this
 ·simpa [Kd.n] using ho
theorem SlT.dr_at (h : Well T w) {R l c : Nat} {a : Option Addr} (hv : SlT T (.dr R) (.slice a l c)) {i : Nat} (hi : i < l) :
  ∃ b off q p3 l3 c3, a = some ⟨b, off, none⟩ ∧ w.cell? ⟨b, off + i * 2, none⟩ = some (.bool q) ∧ w.cell? ⟨b, off + i * 2 + 1, none⟩ = some (.slice p3 l3 c3) ∧ SlT T .bk (.slice p3 l3 c3) ∧ R ≤ l3 ∧ PlT T (.dr R) b (off + i * 2) := by
 obtain ⟨b, off, cs, ha, he, hc, -, -, r, hr, hk, rfl, p, hp, ho⟩ := hv.at h hi
 obtain ⟨q, p3, l3, c3, rfl, h1, h2⟩ := he
 refine ⟨r.b, off, q, p3, l3, c3, ha, ?_, ?_, h1, h2, r, hr, hk, rfl, p, hp, ho⟩
 ·have := hc 0 _ rfl; simpa [Kd.n] using this
 ·have := hc 1 _ rfl; simpa [Kd.n] using this
theorem SlT.bk_at (h : Well T w) {l c : Nat} {a : Option Addr} (hv : SlT T .bk (.slice a l c)) {i : Nat} (hi : i < l) :
  ∃ b off s p3 l3 c3, a = some ⟨b, off, none⟩ ∧ w.cell? ⟨b, off + i * 2, none⟩ = some (.int .i64 s) ∧ w.cell? ⟨b, off + i * 2 + 1, none⟩ = some (.slice p3 l3 c3) ∧ PlT T .bk b (off + i * 2) := by
 obtain ⟨b, off, cs, ha, he, hc, -, -, r, hr, hk, rfl, p, hp, ho⟩ := hv.at h hi
 obtain ⟨s, v, rfl, h1, p3, l3, c3, rfl, h2⟩ := he
 refine ⟨r.b, off, s, p3, l3, c3, ha, ?_, ?_, r, hr, hk, rfl, p, hp, ho⟩
 ·have := hc 0 _ rfl; simpa [Kd.n] using this
 ·have := hc 1 _ rfl; simpa [Kd.n] using this
theorem put_two (h : Well T w) {k : Kd} (hn : k.n = 2) {b o : Nat} (hp : PlT T k b o) {u v : Value} (he : ElT T k [u, v]) : TyStep T w T ((w.setCell ⟨b, o, none⟩ u).setCell ⟨b, o + 1, none⟩ v) := by
 obtain ⟨r, hr, rfl, rfl, p, hpm, rfl⟩ := hp
 exact (TyStep.refl h).put1 hr hpm he
theorem chunk_set {l : List Value} {n p j : Nat} {v : Value} (hj : j < n) (i : Nat) : ((l.set (p * n + j) v).drop (i * n)).take n = if i = p then ((l.drop (p * n)).take n).set j v else (l.drop (i * n)).take n := by
 rw [List.drop_set]
 by_cases e : i = p
 ·subst e
  rw [if_pos rfl, if_neg (by omega), List.take_set, show i * n + j - i * n = j by omega]
 ·rw [if_neg e]
  rcases Nat.lt_or_gt_of_ne e with h | h
  ·have : i * n + n ≤ p * n := by
    have := Nat.mul_le_mul_right n (show i + 1 ≤ p by omega)
    rwa [Nat.add_mul, Nat.one_mul] at this
   rw [if_neg (by omega), List.take_set_of_le (by omega)]
  ·have : p * n + n ≤ i * n := by
    have := Nat.mul_le_mul_right n (show p + 1 ≤ i by omega)
    rwa [Nat.add_mul, Nat.one_mul] at this
   rw [if_pos (by omega)]
theorem q8h (h : Well T w) {k : Kd} {b o : Nat} (hp : PlT T k b o) {j : Nat} (hj : j < k.n) {v : Value} (he : ∀ cs, ElT T k cs → ElT T k (cs.set j v)) : TyStep T w T (w.setCell ⟨b, o + j, none⟩ v) := by
 obtain ⟨r, hr, rfl, rfl, p, hpm, rfl⟩ := hp
 obtain ⟨cur, h1, h2, h3, h4⟩ := h.row r hr
 have hc : Chg [r.b] w (w.setCell ⟨r.b, p * r.k.n + j, none⟩ v) := (Chg.refl [r.b] w).setCell _ _ (.inl (by simp))
 have hW := h.put hr hc (q0i h1 rfl) (by simpa using h2) (fun i hi => by
  rw [Array.toList_setIfInBounds, chunk_set hj]
  split
  ·exact he _ (h4 p hpm)
  ·exact h4 i hi)
 exact ⟨hW, SubT.refl T, hc.mono (fun x hx => .inl (by rw [List.mem_singleton] at hx; rw [hx]; exact List.mem_map.2 ⟨r, hr, rfl⟩)), fun q hq => .inl (List.mem_map.2 ⟨q, hq, rfl⟩)⟩
theorem SlT.len {k : Kd} {a : Option Addr} {l c : Nat} (h : SlT T k (.slice a l c)) : l ≤ k.max := by
 obtain ⟨_, _, _, e, h1, -⟩ := h
 cases e
 exact h1
theorem put_ds (h : Well T w) {D R b o : Nat} (hp : PlT T (.ds D R) b o) {p2 : Option Addr} {l2 c2 : Nat} (h1 : SlT T (.dr R) (.slice p2 l2 c2)) (h2 : D ≤ l2) (h3 : D = 0 ∨ l2 ≤ 8) : TyStep T w T (w.setCell ⟨b, o, none⟩ (.slice p2 l2 c2)) :=
 q8h (j := 0) h hp (by simp [Kd.n]) (fun cs ⟨_, _, _, e, _⟩ => by subst e; exact ⟨p2, l2, c2, rfl, h1, h2, h3⟩)
theorem put_wiped (h : Well T w) {R b o : Nat} (hp : PlT T (.dr R) b o) : TyStep T w T (w.setCell ⟨b, o, none⟩ (.bool true)) :=
 q8h (j := 0) h hp (by simp [Kd.n]) (fun cs ⟨_, a, l, c, e, h1⟩ => by subst e; exact ⟨true, a, l, c, rfl, h1⟩)
theorem put_stamp (h : Well T w) {b o : Nat} (hp : PlT T .bk b o) {s : Int} (hs : q0q s) : TyStep T w T (w.setCell ⟨b, o, none⟩ (.int .i64 s)) :=
 q8h (j := 0) h hp (by simp [Kd.n]) (fun cs ⟨_, v, e, _, h1⟩ => by subst e; exact ⟨s, v, rfl, hs, h1⟩)
theorem put_bytes (h : Well T w) {b o : Nat} (hp : PlT T .bk b o) {v : Value} (hv : SlT T .bt v) : TyStep T w T (w.setCell ⟨b, o + 1, none⟩ v) :=
 q8h (j := 1) h hp (by simp [Kd.n]) (fun cs ⟨s, _, e, h0, _⟩ => by subst e; exact ⟨s, v, rfl, h0, hv⟩)
theorem SlT.drop1 {k : Kd} {b off l c : Nat} (hv : SlT T k (.slice (some ⟨b, off, none⟩) l c)) (hl : 1 ≤ l) : SlT T k (.slice (some ⟨b, off + k.n, none⟩) (l - 1) (c - 1)) := by
 obtain ⟨a0, l0, c0, e, h1, h2, h3, h4⟩ := hv
 cases e
 rcases h4 with ⟨h, -⟩ | ⟨r, hr, hk, j, ea, h5, h6⟩
 ·cases h
 ·cases ea
  refine ⟨_, _, _, rfl, by omega, by omega, by omega, .inr ⟨r, hr, hk, j + 1, by rw [Nat.add_mul, Nat.one_mul], by omega, by omega⟩⟩
end
theorem SlT.none0 {T : List TRow} {k : Kd} {a : Option Addr} {l c : Nat} (hv : SlT T k (.slice a l c)) : SlT T k (.slice a 0 0) := by
 obtain ⟨a0, l0, c0, e, h1, h2, h3, h4⟩ := hv
 cases e
 rcases h4 with ⟨rfl, -⟩ | ⟨r, hr, hk, j, ea, h5, h6⟩
 ·exact SlT.nil _ _
 ·exact ⟨_, _, _, rfl, Nat.zero_le _, Nat.le_refl _, Nat.zero_le _, .inr ⟨r, hr, hk, j, ea, by omega, by omega⟩⟩
theorem Well.tapes {T : List TRow} {w : World} (h : Well T w) {tb : Nat} {q0 q1 : Bool} {v0 v1 : Value} (ht : w.heap[tb]? = some (.cells #[.bool q0, v0, .bool q1, v1] 69 (0, 0))) (hn : tb ∉ T.map (·.b)) (h0 : SlT T .rc v0) (h1 : SlT T .rc v1) :
  Well (⟨tb, .tp, 2, 2⟩ :: T) w ∧ SubT T (⟨tb, .tp, 2, 2⟩ :: T) := by
 have hs := SubT.cons T ⟨tb, .tp, 2, 2⟩
 refine ⟨⟨?_, fun r hr => ?_⟩, hs⟩
 ·rw [List.map_cons, List.nodup_cons]; exact ⟨hn, h.nd⟩
 ·rcases List.mem_cons.1 hr with rfl | hr
  ·refine ⟨_, ht, rfl, Nat.le_refl _, fun i hi => ?_⟩
   have hi : i < 2 := hi
   have hi2 : i = 0 ∨ i = 1 := by omega
   rcases hi2 with rfl | rfl
   ·exact ⟨q0, v0, rfl, h0.sub hs⟩
   ·exact ⟨q1, v1, rfl, h1.sub hs⟩
  ·obtain ⟨cur, e1, e2, e3, e4⟩ := h.row r hr
   exact ⟨cur, e1, e2, e3, fun i hi => (e4 i hi).sub hs⟩
structure WdW (b : Nat) (a : Option Addr) (la ca : Nat) (xs : List UInt8) (f : List Nat) (w0 : World) (m tb : Nat) (T : List TRow) (t : Int) (cs ts : Array Value) (w : World) : Prop where
 h2 : w.heap[w0.heap.size]? = some (.cells #[.int .i64 0, .int .i64 0, .int .i64 0, .int .i64 0, .int .i64 0, .int .i64 0, .int .i64 0, .int .i64 0, .int .i64 0, .slice none 0 0, .slice none 0 0, .slice none 0 0, .int .i64 0, .int .i64 0, .bool false] 34 (0, 0))
 hm : w.heap[m]? = some (.cells cs 34 (0, 0))
 ht : w.heap[tb]? = some (.cells ts 69 (0, 0))
 ty : TyN (w0.heap.size + 1) T w
 nm : m ∉ T.map (·.b)
 nt : tb ∉ T.map (·.b)
 src : SrcB b a la ca xs f t w
 chg : Chg [b] w0 w
 lm : w0.heap.size < m
 lt : w0.heap.size < tb
 ne : m ≠ tb
 lb : b < w0.heap.size
 lf : ∀ y ∈ f, y < w0.heap.size
section
variable {b : Nat} {a : Option Addr} {la ca : Nat} {xs : List UInt8} {f : List Nat} {w0 : World} {m tb : Nat} {T T' : List TRow} {t t' : Int} {cs cs' ts ts' : Array Value} {w w' : World}
theorem WdW.nrow (h : WdW b a la ca xs f w0 m tb T t cs ts w) {y : Nat} (hy : y ≤ w0.heap.size) : y ∉ T.map (·.b) := h.ty.notIn (by omega)
theorem WdW.call (h : WdW b a la ca xs f w0 m tb T t cs ts w) (hs : SrcB b a la ca xs f t' w') (hc : Chg [b] w w') : WdW b a la ca xs f w0 m tb T t' cs ts w' := by
 have h1 := h.lb; have h2 := h.lm; have h3 := h.lt
 exact ⟨hc.keepb h.h2 (by simp; omega), hc.keepb h.hm (by simp; omega), hc.keepb h.ht (by simp; omega), h.ty.chg hc (fun y hy => by rw [List.mem_singleton] at hy; omega), h.nm, h.nt, hs, h.chg.trans hc (fun y hy => .inl hy), h.lm, h.lt, h.ne, h.lb, h.lf⟩
theorem WdW.ext (h : WdW b a la ca xs f w0 m tb T t cs ts w) (hc : Chg [] w w') : WdW b a la ca xs f w0 m tb T t cs ts w' :=
 ⟨hc.keep0 h.h2, hc.keep0 h.hm, hc.keep0 h.ht, h.ty.ext hc, h.nm, h.nt, h.src.ext hc, h.chg.trans0 hc, h.lm, h.lt, h.ne, h.lb, h.lf⟩
theorem WdW.ckeep (h : WdW b a la ca xs f w0 m tb T t cs ts w) {k : Kd} {b0 o0 j : Nat} {v : Value} (p : PlT T k b0 o0) (hc : Chg [b] w w') (hv : w.cell? ⟨b0, j, none⟩ = some v) : w'.cell? ⟨b0, j, none⟩ = some v :=
 q9b hc hv (p.lt h.ty.well) (p.nin (fun y hy => by rw [List.mem_singleton] at hy; rw [hy]; exact h.nrow (Nat.le_of_lt h.lb)))
theorem Well.notSize {T : List TRow} {w : World} (h : Well T w) : w.heap.size ∉ T.map (·.b) := fun hm => by
 obtain ⟨q, hq, e⟩ := List.mem_map.1 hm
 have e : q.b = w.heap.size := e
 have := h.lt hq
 omega
theorem not_app {T T' : List TRow} {y n : Nat} {w' : World} (h : y ∉ T.map (·.b)) (h1 : TyN n T' w') (hy : y < n) : y ∉ (T' ++ T).map (·.b) := by
 rw [List.map_append, List.mem_append]
 rintro (h2 | h2)
 ·exact h1.notIn hy h2
 ·exact h h2
theorem q8i {w w' : World} {T T' : List TRow} {y : Nat} (h : y ∉ T.map (·.b)) (k : TyStep T w T' w') (hy : y < w.heap.size) : y ∉ T'.map (·.b) := fun hm => by
 obtain ⟨q, hq, e⟩ := List.mem_map.1 hm
 have e : q.b = y := e
 rcases k.new q hq with h1 | h1
 ·exact h (e ▸ h1)
 ·omega
theorem WdW.rows (h : WdW b a la ca xs f w0 m tb T t cs ts w) (h1 : TyN w.heap.size T' w') (hs : SrcB b a la ca xs f t' w') (hc : Chg [b] w w') : WdW b a la ca xs f w0 m tb (T' ++ T) t' cs ts w' := by
 have k := h.call hs hc
 have h2 := h.lb; have h3 := h.lm
 exact ⟨k.h2, k.hm, k.ht, h.ty.app hc (fun y hy => by rw [List.mem_singleton] at hy; omega) h1 (ltOf h.h2), not_app h.nm h1 (ltOf h.hm), not_app h.nt h1 (ltOf h.ht), k.src, k.chg, k.lm, k.lt, k.ne, k.lb, k.lf⟩
theorem WdW.step (h : WdW b a la ca xs f w0 m tb T t cs ts w) (k : TyStep T w T' w') : WdW b a la ca xs f w0 m tb T' t cs ts w' := by
 have h2 := h.lb
 exact ⟨k.chg.keepb h.h2 (h.nrow (Nat.le_refl _)), k.chg.keepb h.hm h.nm, k.chg.keepb h.ht h.nt, h.ty.step k (ltOf h.h2), q8i h.nm k (ltOf h.hm), q8i h.nt k (ltOf h.ht), h.src.chg k.chg (h.nrow (by omega)) (fun y hy => h.nrow (by have := h.lf y hy; omega)),
  h.chg.trans k.chg (fun y hy => .inr (by
   obtain ⟨q, hq, e⟩ := List.mem_map.1 hy
   have e : q.b = y := e
   have := h.ty.new q hq
   omega)), h.lm, h.lt, h.ne, h.lb, h.lf⟩
theorem TyN.set {n : Nat} (h : TyN n T w) {m i : Nat} {v : Value} (hm : m ∉ T.map (·.b)) : TyN n T (w.setCell ⟨m, i, none⟩ v) :=
 ⟨h.well.chg (S := [m]) ((Chg.refl [m] w).setCell _ _ (.inl (by simp))) (fun r hr hr2 => hm (by rw [List.mem_singleton] at hr2; rw [← hr2]; exact List.mem_map.2 ⟨r, hr, rfl⟩)), h.new⟩
theorem WdW.put (h : WdW b a la ca xs f w0 m tb T t cs ts w) (i : Nat) (v : Value) (e : cs.setIfInBounds i v = cs') : WdW b a la ca xs f w0 m tb T t cs' ts (w.setCell ⟨m, i, none⟩ v) := by
 have h1 := h.lb; have h2 := h.lm; have h3 := h.ne
 have hc : Chg [m] w (w.setCell ⟨m, i, none⟩ v) := (Chg.refl [m] w).setCell _ _ (.inl (by simp))
 exact ⟨hc.keepb h.h2 (by simp; omega), q0i h.hm e, hc.keepb h.ht (by simp; omega), h.ty.set h.nm, h.nm, h.nt, h.src.chg hc (by simp; omega) (fun y hy => by have := h.lf y hy; simp; omega), h.chg.setCell _ _ (.inr (by show w0.heap.size ≤ m; omega)), h.lm, h.lt, h.ne, h.lb, h.lf⟩
theorem WdW.putT (h : WdW b a la ca xs f w0 m tb T t cs ts w) (i : Nat) (v : Value) (e : ts.setIfInBounds i v = ts') : WdW b a la ca xs f w0 m tb T t cs ts' (w.setCell ⟨tb, i, none⟩ v) := by
 have h1 := h.lb; have h2 := h.lt; have h3 := h.ne
 have hc : Chg [tb] w (w.setCell ⟨tb, i, none⟩ v) := (Chg.refl [tb] w).setCell _ _ (.inl (by simp))
 exact ⟨hc.keepb h.h2 (by simp; omega), hc.keepb h.hm (by simp; omega), q0i h.ht e, h.ty.set h.nt, h.nm, h.nt, h.src.chg hc (by simp; omega) (fun y hy => by have := h.lf y hy; simp; omega), h.chg.setCell _ _ (.inr (by show w0.heap.size ≤ tb; omega)), h.lm, h.lt, h.ne, h.lb, h.lf⟩
theorem WdW.mono (h : WdW b a la ca xs f w0 m tb T t cs ts w) (ht : t ≤ t') : WdW b a la ca xs f w0 m tb T t' cs ts w := ⟨h.h2, h.hm, h.ht, h.ty, h.nm, h.nt, h.src.mono ht, h.chg, h.lm, h.lt, h.ne, h.lb, h.lf⟩
theorem WdW.weak (h : WdW b a la ca xs f w0 m tb T t cs ts w) : WdW b a la ca xs f w0 m tb (wkT T) t cs ts w :=
 ⟨h.h2, h.hm, h.ht, ⟨h.ty.well.wk, fun q hq => by obtain ⟨r, hr, rfl⟩ := List.mem_map.1 hq; exact h.ty.new r hr⟩, by rw [wkT_b]; exact h.nm, by rw [wkT_b]; exact h.nt, h.src, h.chg, h.lm, h.lt, h.ne, h.lb, h.lf⟩
end
end Go.Proofs.YtphmpimgbmedbaaGreat
namespace Go.Proofs.YtphmpimgbmedbaaGreat
open Go.RowKit
open Go.Lib (hid)

noncomputable def Wld.up (x : Wld) : Int := if x.fault = 0 then (if x.down = true then 9 else 0) else x.fault
def Wld.isGroup (x : Wld) (g : Int) : Prop := 0 ≤ g ∧ g ≤ x.sH.all - 1
def Wld.isDrive (x : Wld) (d : Int) : Prop := 0 ≤ d ∧ d ≤ x.sH.drives - 1
def Wld.isRow (x : Wld) (r : Int) : Prop := 0 ≤ r ∧ r ≤ x.sH.rows - 1
noncomputable def onR (x : Wld) (g : Int) : WRes :=
 if x.up ≠ 0 then ⟨x.up, zWld⟩ else if pb (x.isGroup g) = false then ⟨3, zWld⟩ else if pb (g ∈ x.on) = true then ⟨0, x⟩ else if (x.on.length : Int) = x.sH.cap then ⟨7, zWld⟩ else ⟨0, { x with on := x.on ++ [g] }⟩
noncomputable def offR (x : Wld) (g : Int) : WRes :=
 if x.up ≠ 0 then ⟨x.up, zWld⟩ else if pb (x.isGroup g) = false then ⟨3, zWld⟩ else if pb (g ∈ x.on) = false then ⟨8, zWld⟩ else ⟨0, { x with on := x.on.filter (fun y => y != g) }⟩
def q6c : Blk := ⟨0, []⟩
def Wld.drive (x : Wld) (g d : Int) : Drv := (x.gS.getD g.toNat []).getD d.toNat ⟨false, []⟩
noncomputable def q3v (x : Wld) (g d r : Int) : BRes :=
 if x.up ≠ 0 then ⟨x.up, q6c⟩ else if pb (x.isGroup g ∧ x.isDrive d ∧ x.isRow r) = false then ⟨3, q6c⟩ else if pb (g ∈ x.on) = false then ⟨8, q6c⟩ else
  if (x.drive g d).wiped = true then ⟨12, q6c⟩ else ⟨0, (x.drive g d).blocks.getD r.toNat q6c⟩
def Wld.cut (x : Wld) : Wld := { x with down := true, on := [] }
def Wld.setDrive (x : Wld) (g d : Int) (y : Drv) : Wld := { x with gS := x.gS.set g.toNat ((x.gS.getD g.toNat []).set d.toNat y) }
def Wld.tape (x : Wld) (t : Int) : Tap := x.tapes.getD t.toNat ⟨false, []⟩
def Wld.raw (x : Wld) (f : Wld → Wld) : WRes := if x.stop ≠ -1 ∧ x.stop ≤ x.wT then ⟨9, x.cut⟩ else ⟨0, { f x with wT := x.wT + 1 }⟩
def Wld.setBlock (x : Wld) (g d r : Int) (b : Blk) : Wld := x.setDrive g d { x.drive g d with blocks := (x.drive g d).blocks.set r.toNat b }
noncomputable def q1q (x : Wld) (g d r : Int) (b : Blk) : WRes :=
 if x.up ≠ 0 then ⟨x.up, zWld⟩ else if pb (x.isGroup g ∧ x.isDrive d ∧ x.isRow r) = false then ⟨3, zWld⟩ else if pb b.ok = false then ⟨1, zWld⟩ else if pb (g ∈ x.on) = false then ⟨8, zWld⟩ else
  x.raw (fun x => x.setBlock g d r b)
/-! ### how much there is of it -/
theorem rows_ok {x : Wld} (h : x.fault = 0) : x.sH.ok := by
 refine Classical.byContradiction (fun hn => ?_)
 unfold Wld.fault at h
 rw [q0g hn] at h
 simp at h
theorem q3n {x : Wld} (h : x.fault = 0) : x.sH.ok ∧ (x.built ∧ x.onOk ∧ x.tapes.length = 2) ∧ x.tapF = 0 ∧ x.nums := by
 unfold Wld.fault at h
 by_cases h1 : x.sH.ok
 ·rw [if_pos (q0h h1)] at h
  by_cases h2 : x.built ∧ x.onOk ∧ x.tapes.length = 2
  ·rw [if_pos (q0h h2)] at h
   by_cases h3 : x.tapF = 0
   ·rw [if_pos h3] at h
    by_cases h4 : x.nums
    ·exact ⟨h1, h2, h3, h4⟩
    ·rw [q0g h4] at h; simp at h
   ·rw [if_neg h3] at h; exact absurd h h3
  ·rw [q0g h2] at h; simp at h
 ·rw [q0g h1] at h; simp at h
theorem fault_of {x : Wld} (h1 : x.sH.ok) (h2 : x.built ∧ x.onOk ∧ x.tapes.length = 2) (h3 : x.tapF = 0) (h4 : x.nums) : x.fault = 0 := by
 unfold Wld.fault
 rw [if_pos (q0h h1), if_pos (q0h h2), if_pos h3, if_pos (q0h h4)]
theorem up_zero {x : Wld} (h : x.up = 0) : x.fault = 0 ∧ x.down = false := by
 unfold Wld.up at h
 by_cases h1 : x.fault = 0
 ·rw [if_pos h1] at h
  cases hd : x.down
  ·exact ⟨h1, rfl⟩
  ·rw [if_pos hd] at h; omega
 ·rw [if_neg h1] at h; exact absurd h h1
theorem up_of {x : Wld} (h : x.fault = 0) (hd : x.down = false) : x.up = 0 := by
 unfold Wld.up; rw [if_pos h, if_neg (by rw [hd]; simp)]
theorem apart_push {m g : Int} {xs : List Int} (h : q3c m xs) (hg : 0 ≤ g ∧ g ≤ m) (hn : g ∉ xs) : q3c m (xs ++ [g]) := by
 intro i x hx
 by_cases hi : i < xs.length
 ·rw [List.getElem?_append_left hi] at hx
  rw [List.take_append_of_le_length (by omega)]
  exact h i x hx
 ·have hil : i = xs.length := by
   have := (List.getElem?_eq_some_iff.1 hx).1
   rw [List.length_append, List.length_singleton] at this; omega
  subst hil
  rw [List.getElem?_append_right (Nat.le_refl _), Nat.sub_self] at hx
  obtain rfl : g = x := by simpa using hx
  rw [List.take_append_of_le_length (Nat.le_refl _), List.take_length]
  exact ⟨hg, hn⟩
theorem apart_iff (m : Int) : ∀ (xs : List Int), q3c m xs ↔ (∀ x ∈ xs, 0 ≤ x ∧ x ≤ m) ∧ xs.Nodup := by
 intro xs
 constructor
 ·intro h
  refine ⟨fun x hx => ?_, ?_⟩
  ·obtain ⟨i, hi, rfl⟩ := List.getElem_of_mem hx
   exact (h i _ (List.getElem?_eq_getElem hi)).1
  ·rw [List.Nodup, List.pairwise_iff_getElem]
   intro i j hi hj hij e
   refine (h j _ (List.getElem?_eq_getElem hj)).2 ?_
   rw [← e]
   exact List.mem_iff_getElem.2 ⟨i, by rw [List.length_take]; omega, by rw [List.getElem_take]⟩
 ·rintro ⟨h1, h2⟩ i x hx
  obtain ⟨hi, rfl⟩ := List.getElem?_eq_some_iff.1 hx
  refine ⟨h1 _ (List.getElem_mem hi), fun hm => ?_⟩
  obtain ⟨j, hj, e⟩ := List.mem_iff_getElem.1 hm
  rw [List.length_take] at hj
  rw [List.getElem_take] at e
  rw [List.Nodup, List.pairwise_iff_getElem] at h2
  exact h2 j i (by omega) hi (by omega) e
theorem apart_filter {m : Int} {xs : List Int} (p : Int → Bool) (h : q3c m xs) : q3c m (xs.filter p) := by
 rw [apart_iff] at h ⊢
 exact ⟨fun x hx => h.1 x (List.mem_filter.1 hx).1, h.2.filter _⟩
theorem onR_zero {x : Wld} {g : Int} (h : (onR x g).code = 0) : ∃ on', (onR x g).world = { x with on := on' } ∧ x.fault = 0 ∧ x.down = false ∧ x.isGroup g ∧ g ∈ on' ∧ (on'.length : Int) ≤ x.sH.cap ∧ q3c (x.sH.all - 1) on' := by
 unfold onR at h ⊢
 by_cases h1 : x.up ≠ 0
 ·rw [if_pos h1] at h; exact absurd h h1
 have hu : x.up = 0 := Classical.byContradiction fun hn => h1 hn
 obtain ⟨hf, hd⟩ := up_zero hu
 obtain ⟨-, ⟨-, ⟨ha, hc, -⟩, -⟩, -⟩ := q3n hf
 rw [if_neg h1] at h ⊢
 by_cases h2 : x.isGroup g
 ·rw [if_neg (by rw [q0h h2]; simp)] at h ⊢
  by_cases h3 : g ∈ x.on
  ·rw [if_pos (q0h h3)]; exact ⟨x.on, rfl, hf, hd, h2, h3, hc, ha⟩
  ·rw [if_neg (by rw [q0g h3]; simp)] at h ⊢
   by_cases h4 : (x.on.length : Int) = x.sH.cap
   ·rw [if_pos h4] at h; exact absurd h (by decide)
   ·rw [if_neg h4]; exact ⟨_, rfl, hf, hd, h2, by simp, by rw [List.length_append, List.length_singleton]; omega, apart_push ha h2 h3⟩
 ·rw [if_pos (q0g h2)] at h; exact absurd h (by decide)
theorem on_fault {x : Wld} {on' : List Int} (hf : x.fault = 0) (hd : x.down = false) (ha : q3c (x.sH.all - 1) on') (hc : (on'.length : Int) ≤ x.sH.cap) : ({ x with on := on' } : Wld).fault = 0 := by
 obtain ⟨h1, ⟨h2, -, h3⟩, h4, h5⟩ := q3n hf
 exact fault_of h1 ⟨h2, ⟨ha, hc, .inr hd⟩, h3⟩ h4 h5
theorem tot_on {x : Wld} (on' : List Int) : q1u ({ x with on := on' } : Wld) = q1u x - q3z x.on + on'.length := by
 unfold q1u
 simp only [q3z]
 omega
theorem switches {x : Wld} {g : Int} (h : (onR x g).code = 0) : (onR x g).world.fault = 0 ∧ ((onR x g).world.on.length : Int) ≤ x.sH.cap ∧ g ∈ (onR x g).world.on ∧ q1u (onR x g).world ≤ q1u x + 6 ∧
  (offR (onR x g).world g).code = 0 ∧ q1u (offR (onR x g).world g).world ≤ q1u x + 6 ∧ (q3v (offR (onR x g).world g).world g 0 0).code = 8 ∧ (q1q (offR (onR x g).world g).world g 0 0 ⟨1, [0, 0, 0, 0]⟩).code = 8 ∧ (offR (offR (onR x g).world g).world g).code = 8 := by
 obtain ⟨on', e, hf, hd, hg, hm, hc, ha⟩ := onR_zero h
 rw [e]
 have hok := (q3n hf).1
 have hy := on_fault hf hd ha hc
 have hcap : x.sH.cap ≤ 6 := hok.2.2.2.2.2.1.2
 have hnn := q2f x.on
 have e2 : offR ({ x with on := on' } : Wld) g = ⟨0, { x with on := on'.filter (fun y => y != g) }⟩ := by
  unfold offR
  rw [if_neg (by rw [up_of hy hd]; simp), if_neg (by rw [q0h (P := Wld.isGroup ({ x with on := on' } : Wld) g) hg]; simp), if_neg (by rw [q0h hm]; simp)]
 rw [e2]
 have hl : (on'.filter (fun y => y != g)).length ≤ on'.length := List.length_filter_le _ _
 have hz := on_fault (on' := on'.filter (fun y => y != g)) hf hd (apart_filter _ ha) (by omega)
 have hu := up_of hz hd
 have hgn : g ∉ on'.filter (fun y => y != g) := fun hm => by simpa using (List.mem_filter.1 hm).2
 have hdr : (0 : Int) ≤ x.sH.drives - 1 := by have := hok.drives; omega
 have hrw : (0 : Int) ≤ x.sH.rows - 1 := by have := hok.rows; omega
 have hp : Wld.isGroup ({ x with on := on'.filter (fun y => y != g) } : Wld) g ∧ Wld.isDrive ({ x with on := on'.filter (fun y => y != g) } : Wld) 0 ∧ Wld.isRow ({ x with on := on'.filter (fun y => y != g) } : Wld) 0 := ⟨hg, ⟨Int.le_refl _, hdr⟩, ⟨Int.le_refl _, hrw⟩⟩
 refine ⟨hy, hc, hm, by rw [tot_on]; omega, rfl, by rw [tot_on]; omega, ?_, ?_, ?_⟩
 ·unfold q3v
  rw [if_neg (by rw [hu]; simp), if_neg (by rw [q0h hp]; simp), if_pos (q0g hgn)]
 ·unfold q1q
  rw [if_neg (by rw [hu]; simp), if_neg (by rw [q0h hp]; simp), if_neg (by rw [q0h (show Blk.ok ⟨1, [0, 0, 0, 0]⟩ from ⟨⟨by decide, by decide⟩, rfl⟩)]; simp), if_pos (q0g hgn)]
 ·unfold offR
  rw [if_neg (by rw [hu]; simp), if_neg (by rw [q0h hp.1]; simp), if_pos (q0g hgn)]
theorem z0k {α : Type} {xs : List α} {i : Nat} (d : α) (h : i < xs.length) : xs.getD i d ∈ xs ∧ xs[i]? = some (xs.getD i d) := by
 rw [List.getD_eq_getElem?_getD, List.getElem?_eq_getElem h]; exact ⟨List.getElem_mem h, rfl⟩
theorem place {x : Wld} (hf : x.fault = 0) {g d r : Int} (h1 : x.isGroup g) (h2 : x.isDrive d) (h3 : x.isRow r) :
  g.toNat < x.gS.length ∧ x.gS.getD g.toNat [] ∈ x.gS ∧ d.toNat < (x.gS.getD g.toNat []).length ∧ x.drive g d ∈ x.gS.getD g.toNat [] ∧ r.toNat < (x.drive g d).blocks.length ∧ (x.drive g d).blocks.getD r.toNat q6c ∈ (x.drive g d).blocks ∧ GrpOk x.sH (x.gS.getD g.toNat []) ∧ (x.drive g d).okAt x.sH := by
 obtain ⟨-, ⟨⟨hb1, hb2⟩, -⟩, -⟩ := q3n hf
 have l1 : g.toNat < x.gS.length := by obtain ⟨a, b⟩ := h1; omega
 have m1 := (z0k (xs := x.gS) [] l1).1
 have k1 := hb2 _ m1
 have l2 : d.toNat < (x.gS.getD g.toNat []).length := by obtain ⟨a, b⟩ := h2; have := k1.1; omega
 have m2 := (z0k (xs := x.gS.getD g.toNat []) ⟨false, []⟩ l2).1
 have k2 := k1.2 _ m2
 have l3 : r.toNat < (x.drive g d).blocks.length := by obtain ⟨a, b⟩ := h3; have : ((x.drive g d).blocks.length : Int) = x.sH.rows := k2.1; omega
 exact ⟨l1, m1, l2, m2, l3, (z0k q6c l3).1, k1, k2⟩
theorem readR_at {y : Wld} {g d r : Int} (hu : y.up = 0) (h1 : y.isGroup g) (h2 : y.isDrive d) (h3 : y.isRow r) (h5 : g ∈ y.on) :
  q3v y g d r = if (y.drive g d).wiped = true then ⟨12, q6c⟩ else ⟨0, (y.drive g d).blocks.getD r.toNat q6c⟩ := by
 unfold q3v
 rw [if_neg (by rw [hu]; simp), if_neg (by rw [q0h (And.intro h1 (And.intro h2 h3))]; simp), if_neg (by rw [q0h h5]; simp)]
theorem z0a {α : Type} (xs : List α) (i : Nat) (v d : α) (h : i < xs.length) : (xs.set i v).getD i d = v := by
 rw [List.getD_eq_getElem?_getD, List.getElem?_set_self h]; rfl
theorem q5c {α : Type} (f : α → Int) : ∀ (xs : List α) (i : Nat) (y d : α), i < xs.length → f y = f (xs.getD i d) → sumI f (xs.set i y) = sumI f xs
 | x :: xs, 0, y, d, _, h => by
  have : f y = f x := h
  show f y + sumI f xs = f x + sumI f xs
  rw [this]
 | x :: xs, i + 1, y, d, hi, h => by
  show f x + sumI f (xs.set i y) = f x + sumI f xs
  rw [q5c f xs i y d (by simpa using hi) h]
theorem q9j {x : Wld} {g d r : Int} {b : Blk} (h : (q1q x g d r b).code = 0 ∨ (q1q x g d r b).code = 9) (hf : x.fault = 0) (hd : x.down = false) :
  x.isGroup g ∧ x.isDrive d ∧ x.isRow r ∧ b.ok ∧ g ∈ x.on ∧ q1q x g d r b = x.raw (fun x => x.setBlock g d r b) := by
 unfold q1q at h ⊢
 rw [if_neg (by rw [up_of hf hd]; simp)] at h ⊢
 by_cases h1 : x.isGroup g ∧ x.isDrive d ∧ x.isRow r
 ·rw [if_neg (by rw [q0h h1]; simp)] at h ⊢
  by_cases h2 : b.ok
  ·rw [if_neg (by rw [q0h h2]; simp)] at h ⊢
   by_cases h3 : g ∈ x.on
   ·rw [if_neg (by rw [q0h h3]; simp)] at h ⊢
    exact ⟨h1.1, h1.2.1, h1.2.2, h2, h3, rfl⟩
   ·rw [if_pos (q0g h3)] at h; exact absurd h (by decide)
  ·rw [if_pos (q0g h2)] at h; exact absurd h (by decide)
 ·rw [if_pos (q0g h1)] at h; exact absurd h (by decide)
theorem writes_down {x : Wld} {g d r : Int} {b : Blk} (h : (q1q x g d r b).code = 9) (hf : x.fault = 0) (hd : x.down = false) : (q1q x g d r b).world = x.cut ∧ 0 ≤ x.stop ∧ x.isGroup g ∧ x.isDrive d ∧ x.isRow r := by
 obtain ⟨h1, h2, h3, h4, h5, e⟩ := q9j (.inr h) hf hd
 rw [e] at h ⊢
 unfold Wld.raw at h ⊢
 by_cases hs : x.stop ≠ -1 ∧ x.stop ≤ x.wT
 ·rw [if_pos hs]
  obtain ⟨-, -, -, -, hst, -⟩ := q3n hf
  exact ⟨rfl, by omega, h1, h2, h3⟩
 ·rw [if_neg hs] at h
  have h : (0 : Int) = 9 := h
  omega
theorem writes_done {x : Wld} {g d r : Int} {b : Blk} (h : (q1q x g d r b).code = 0) (hf : x.fault = 0) (hd : x.down = false) (hw : x.wT ≠ 1000000000) :
  (q1q x g d r b).world.wT = x.wT + 1 ∧ x.isGroup g ∧ x.isDrive d ∧ x.isRow r ∧ q1u (q1q x g d r b).world = q1u x ∧
  (if (x.drive g d).wiped = true then (q3v (q1q x g d r b).world g d r).code = 12 else q3v (q1q x g d r b).world g d r = ⟨0, b⟩) := by
 obtain ⟨h1, h2, h3, h4, h5, e⟩ := q9j (.inl h) hf hd
 rw [e] at h ⊢
 unfold Wld.raw at h ⊢
 by_cases hs : x.stop ≠ -1 ∧ x.stop ≤ x.wT
 ·rw [if_pos hs] at h
  have h : (9 : Int) = 0 := h
  omega
 rw [if_neg hs]
 obtain ⟨l1, m1, l2, m2, l3, m3, k1, k2⟩ := place hf h1 h2 h3
 obtain ⟨q1, ⟨⟨q2, q3⟩, q4, q5⟩, q6, ⟨q7, q8⟩, q9⟩ := q3n hf
 have hbl : b.bytes.length = 4 := h4.2
 have hol : ((x.drive g d).blocks.getD r.toNat q6c).bytes.length = 4 := (k2.2 _ m3).2
 have hdk : Drv.okAt x.sH { x.drive g d with blocks := (x.drive g d).blocks.set r.toNat b } := ⟨by rw [List.length_set]; exact k2.1, fun y hy => by
  rcases List.mem_or_eq_of_mem_set hy with hy | rfl
  ·exact k2.2 y hy
  ·exact h4⟩
 have hgk : GrpOk x.sH ((x.gS.getD g.toNat []).set d.toNat { x.drive g d with blocks := (x.drive g d).blocks.set r.toNat b }) := ⟨by rw [List.length_set]; exact k1.1, fun y hy => by
  rcases List.mem_or_eq_of_mem_set hy with hy | rfl
  ·exact k1.2 y hy
  ·exact hdk⟩
 have hy : Wld.fault { x.setBlock g d r b with wT := x.wT + 1 } = 0 := by
  refine fault_of q1 ⟨⟨by show (((x.gS.set _ _).length : Nat) : Int) = _; rw [List.length_set]; exact q2, fun y hy => ?_⟩, q4, q5⟩ q6 ⟨⟨by show (0 : Int) ≤ x.wT + 1; omega, by show x.wT + 1 ≤ (1000000000 : Int); omega⟩, q9⟩
  rcases List.mem_or_eq_of_mem_set hy with hy | rfl
  ·exact q3 y hy
  ·exact hgk
 have hdv : Wld.drive { x.setBlock g d r b with wT := x.wT + 1 } g d = { x.drive g d with blocks := (x.drive g d).blocks.set r.toNat b } := by
  show ((x.gS.set g.toNat _).getD g.toNat []).getD d.toNat _ = _
  rw [z0a _ _ _ _ l1, z0a _ _ _ _ l2]
 refine ⟨rfl, h1, h2, h3, ?_, ?_⟩
 ·show totL (totL q2h) (x.gS.set g.toNat _) + q3z x.on + totL q4n x.tapes = totL (totL q2h) x.gS + q3z x.on + totL q4n x.tapes
  have e1 : q2h { x.drive g d with blocks := (x.drive g d).blocks.set r.toNat b } = q2h (x.drive g d) := by
   show totL q2s _ = totL q2s _
   unfold totL
   rw [List.length_set, q5c q2s _ _ b q6c l3 (by show ((b.bytes.length : Nat) : Int) = (((x.drive g d).blocks.getD r.toNat q6c).bytes.length : Nat); rw [hbl, hol])]
  have e2 : totL q2h ((x.gS.getD g.toNat []).set d.toNat { x.drive g d with blocks := (x.drive g d).blocks.set r.toNat b }) = totL q2h (x.gS.getD g.toNat []) := by
   unfold totL
   rw [List.length_set, q5c q2h _ _ _ ⟨false, []⟩ l2 e1]
  have e3 : totL (totL q2h) (x.gS.set g.toNat ((x.gS.getD g.toNat []).set d.toNat { x.drive g d with blocks := (x.drive g d).blocks.set r.toNat b })) = totL (totL q2h) x.gS := by
   show (((x.gS.set g.toNat ((x.gS.getD g.toNat []).set d.toNat { x.drive g d with blocks := (x.drive g d).blocks.set r.toNat b })).length : Nat) : Int) + sumI (totL q2h) (x.gS.set g.toNat ((x.gS.getD g.toNat []).set d.toNat { x.drive g d with blocks := (x.drive g d).blocks.set r.toNat b })) = x.gS.length + sumI (totL q2h) x.gS
   rw [List.length_set, q5c (totL q2h) _ _ _ [] l1 e2]
  rw [e3]
 ·have hu : Wld.up { x.setBlock g d r b with wT := x.wT + 1 } = 0 := up_of hy hd
  rw [readR_at hu h1 h2 h3 h5, hdv]
  by_cases hwp : (x.drive g d).wiped = true
  ·rw [if_pos hwp, if_pos hwp]
  ·rw [if_neg hwp, if_neg hwp, z0a _ _ _ _ l3]
def IdxOf {α : Type} (q : α → Bool) (xs : List α) (r : Int) : Prop := (r = -1 ∧ xs.any q = false) ∨ ∃ j : Nat, r = j ∧ (∃ x, xs[j]? = some x ∧ q x = true) ∧ ∀ (i : Nat) x, i < j → xs[i]? = some x → q x = false
theorem IdxOf.ge {α : Type} {q : α → Bool} {xs : List α} {r : Int} (h : IdxOf q xs r) : decide (0 ≤ r) = xs.any q := by
 rcases h with ⟨rfl, h⟩ | ⟨j, rfl, ⟨x, hx, hq⟩, _⟩
 ·rw [h]; rfl
 ·rw [List.any_eq_true.2 ⟨x, List.mem_of_getElem? hx, hq⟩]; exact decide_eq_true (Int.natCast_nonneg j)
def q7u (k : Nat) (caps : Array Value) (q : Blk → Bool) (xs : List Blk) (w : World) : Prop :=
 ∀ (x : Blk) (a1 : Option Addr) (l1 c1 : Nat) (f : List Nat) (w1 : World), x ∈ xs → Chg [] w w1 → blkL.rep w1 [.int .i64 x.sM, .slice a1 l1 c1] x f → Calls Tryz.prog k (#[.agg #[.int .i64 x.sM, .slice a1 l1 c1]] ++ caps) w1 fun e w' => e = .returned (.bool (q x)) ∧ Chg [] w1 w'
theorem idxBlock_any (k : Nat) (caps : Array Value) (q : Blk → Bool) (a : Option Addr) (la ca : Nat) (xs : List Blk) (f : List Nat) (w : World) (ha : blkL.sl w a la ca xs f) (hcf : ∀ (args : Array Value) (w : World), (callFunc k args).run Tryz.prog w = .ok (.enter k args) w) (hq : q7u k caps q xs w) :
  Calls Tryz.prog 256 #[.slice a la ca, .func (.func k) #[] caps] w fun e w' => ∃ r : Int, e = .returned (.int .i64 r) ∧ Hid (IdxOf q xs r) ∧ Chg [] w w' := by
 have hla := blkL.sl_max ha
 have HA := hid ha
 have HL := hid ha.1
 have HQ := hid hq
 clear ha hq
 go_enter Tryz.func256, Tryz.ntmps256
 go_wp2
 go_loopw [5, 8] (fun _ i wr => ∃ (j : Nat) (Wr : World), Wr = wr ∧ j ≤ la ∧ i = .int .i64 j ∧ Hid (∀ (i : Nat) x, i < j → xs[i]? = some x → q x = false) ∧ Chg [] w wr) (fun _ i _ => la - (intOf i).toNat)
 case atStart => exact ⟨0, _, rfl, by omega, rfl, fun j x hj => by omega, Chg.refl _ _⟩
 case round =>
  obtain ⟨j, wr, rfl, hj, rfl, HK, hc⟩ := hrel
  have HC := hid hc
  by_cases hlt : j < la
  ·obtain ⟨x, b, off, a1, l1, c1, fx, HX, rfl, hc0, hc1, HXS⟩ := q3s (blkL.sl_ext HA.out hc) hlt
   have HT := hid (HQ.out x a1 l1 c1 fx wr (List.mem_of_getElem? HX.out.1) HC.out HXS.out)
   clear hc
   cases hqx : q x
   ·rw [hqx] at HT
    have HK2 := hid (show ∀ (i : Nat) y, i < j + 1 → xs[i]? = some y → q y = false from fun i y hi hy => by
     by_cases e : i = j
     ·subst e; rw [Option.some.inj (hy.symm.trans HX.out.1)]; exact hqx
     ·exact HK.out i y (by omega) hy)
    clear hqx
    go_wp2_with fail
    refine HT.out.mono ?_
    rintro e w1 ⟨rfl, hc1⟩
    have HC1 := hid (HC.out.trans0 hc1)
    clear hc1
    go_wp2_with fail
    go_roundw
    case rel => exact ⟨j + 1, _, rfl, by omega, by go_num, HK2, HC1.out⟩
    case measure => simp [intOf]; omega
   ·rw [hqx] at HT
    have HR := hid (show IdxOf q xs (j : Int) from .inr ⟨j, rfl, ⟨x, HX.out.1, hqx⟩, HK.out⟩)
    clear hqx
    go_wp2_with fail
    refine HT.out.mono ?_
    rintro e w1 ⟨rfl, hc1⟩
    have HC1 := hid (HC.out.trans0 hc1)
    clear hc1
    go_wp2_with fail
    go_ret
    exact ⟨_, rfl, HR, HC1.out⟩
  ·obtain rfl : j = la := by omega
   have HR := hid (show IdxOf q xs (-1) from .inl ⟨rfl, by
    rw [List.any_eq_false]
    intro x hx h1
    obtain ⟨i, hi, rfl⟩ := List.getElem_of_mem hx
    have h2 := HK.out i _ (by have := HL.out; omega) (List.getElem?_eq_getElem hi)
    rw [h2] at h1; cases h1⟩)
   clear hc
   go_wp2
   go_ret
   exact ⟨_, rfl, HR, HC.out⟩
theorem q7h (k : Nat) (caps : Array Value) (q : Blk → Bool) (a : Option Addr) (la ca : Nat) (xs : List Blk) (f : List Nat) (w : World) (ha : blkL.sl w a la ca xs f) (hcf : ∀ (args : Array Value) (w : World), (callFunc k args).run Tryz.prog w = .ok (.enter k args) w) (hq : q7u k caps q xs w) :
  Calls Tryz.prog 218 #[.slice a la ca, .func (.func k) #[] caps] w fun e w' => e = .returned (.bool (xs.any q)) ∧ Chg [] w w' := by
 have HI := hid (idxBlock_any k caps q a la ca xs f w ha hcf hq)
 clear ha hq hcf
 go_enter Tryz.func218, Tryz.ntmps218
 go_wp2_with fail
 refine HI.out.mono ?_
 rintro e w1 ⟨r, rfl, HR, hc1⟩
 have HC1 := hid hc1
 have HD := hid HR.out.ge
 clear hc1
 go_wp2_with fail
 go_ret
 refine ⟨?_, HC1.out⟩
 rw [← HD.out]
 rfl
def q7n (k : Nat) (caps : Array Value) (q : Tap → Bool) (xs : List Tap) (w : World) : Prop :=
 ∀ (x : Tap) (a1 : Option Addr) (l1 c1 : Nat) (f : List Nat) (w1 : World), x ∈ xs → Chg [] w w1 → tapL.rep w1 [.bool x.wiped, .slice a1 l1 c1] x f → Calls Tryz.prog k (#[.agg #[.bool x.wiped, .slice a1 l1 c1]] ++ caps) w1 fun e w' => e = .returned (.bool (q x)) ∧ Chg [] w1 w'
theorem idxTape_any (k : Nat) (caps : Array Value) (q : Tap → Bool) (a : Option Addr) (la ca : Nat) (xs : List Tap) (f : List Nat) (w : World) (ha : tapL.sl w a la ca xs f) (hcf : ∀ (args : Array Value) (w : World), (callFunc k args).run Tryz.prog w = .ok (.enter k args) w) (hq : q7n k caps q xs w) :
  Calls Tryz.prog 257 #[.slice a la ca, .func (.func k) #[] caps] w fun e w' => ∃ r : Int, e = .returned (.int .i64 r) ∧ Hid (IdxOf q xs r) ∧ Chg [] w w' := by
 have hla := tapL.sl_max ha
 have HA := hid ha
 have HL := hid ha.1
 have HQ := hid hq
 clear ha hq
 go_enter Tryz.func257, Tryz.ntmps257
 go_wp2
 go_loopw [5, 8] (fun _ i wr => ∃ (j : Nat) (Wr : World), Wr = wr ∧ j ≤ la ∧ i = .int .i64 j ∧ Hid (∀ (i : Nat) x, i < j → xs[i]? = some x → q x = false) ∧ Chg [] w wr) (fun _ i _ => la - (intOf i).toNat)
 case atStart => exact ⟨0, _, rfl, by omega, rfl, fun j x hj => by omega, Chg.refl _ _⟩
 case round =>
  obtain ⟨j, wr, rfl, hj, rfl, HK, hc⟩ := hrel
  have HC := hid hc
  by_cases hlt : j < la
  ·obtain ⟨x, b, off, a1, l1, c1, fx, HX, rfl, hc0, hc1, HXS⟩ := q2o (tapL.sl_ext HA.out hc) hlt
   have HT := hid (HQ.out x a1 l1 c1 fx wr (List.mem_of_getElem? HX.out.1) HC.out HXS.out)
   clear hc
   cases hqx : q x
   ·rw [hqx] at HT
    have HK2 := hid (show ∀ (i : Nat) y, i < j + 1 → xs[i]? = some y → q y = false from fun i y hi hy => by
     by_cases e : i = j
     ·subst e; rw [Option.some.inj (hy.symm.trans HX.out.1)]; exact hqx
     ·exact HK.out i y (by omega) hy)
    clear hqx
    go_wp2_with fail
    refine HT.out.mono ?_
    rintro e w1 ⟨rfl, hc1⟩
    have HC1 := hid (HC.out.trans0 hc1)
    clear hc1
    go_wp2_with fail
    go_roundw
    case rel => exact ⟨j + 1, _, rfl, by omega, by go_num, HK2, HC1.out⟩
    case measure => simp [intOf]; omega
   ·rw [hqx] at HT
    have HR := hid (show IdxOf q xs (j : Int) from .inr ⟨j, rfl, ⟨x, HX.out.1, hqx⟩, HK.out⟩)
    clear hqx
    go_wp2_with fail
    refine HT.out.mono ?_
    rintro e w1 ⟨rfl, hc1⟩
    have HC1 := hid (HC.out.trans0 hc1)
    clear hc1
    go_wp2_with fail
    go_ret
    exact ⟨_, rfl, HR, HC1.out⟩
  ·obtain rfl : j = la := by omega
   have HR := hid (show IdxOf q xs (-1) from .inl ⟨rfl, by
    rw [List.any_eq_false]
    intro x hx h1
    obtain ⟨i, hi, rfl⟩ := List.getElem_of_mem hx
    have h2 := HK.out i _ (by have := HL.out; omega) (List.getElem?_eq_getElem hi)
    rw [h2] at h1; cases h1⟩)
   clear hc
   go_wp2
   go_ret
   exact ⟨_, rfl, HR, HC.out⟩
theorem q4r (k : Nat) (caps : Array Value) (q : Tap → Bool) (a : Option Addr) (la ca : Nat) (xs : List Tap) (f : List Nat) (w : World) (ha : tapL.sl w a la ca xs f) (hcf : ∀ (args : Array Value) (w : World), (callFunc k args).run Tryz.prog w = .ok (.enter k args) w) (hq : q7n k caps q xs w) :
  Calls Tryz.prog 220 #[.slice a la ca, .func (.func k) #[] caps] w fun e w' => e = .returned (.bool (xs.any q)) ∧ Chg [] w w' := by
 have HI := hid (idxTape_any k caps q a la ca xs f w ha hcf hq)
 clear ha hq hcf
 go_enter Tryz.func220, Tryz.ntmps220
 go_wp2_with fail
 refine HI.out.mono ?_
 rintro e w1 ⟨r, rfl, HR, hc1⟩
 have HC1 := hid hc1
 have HD := hid HR.out.ge
 clear hc1
 go_wp2_with fail
 go_ret
 refine ⟨?_, HC1.out⟩
 rw [← HD.out]
 rfl
end Go.Proofs.YtphmpimgbmedbaaGreat
