/- Several texts in one. -/
import Derived.Test.YtphmpimgbmedbaaGreatQal
import Derived.Deep.DeepCutAuto
import Derived.Deep.CutRange
import Derived.Deep.CutBlock
set_option maxRecDepth 100000
set_option maxHeartbeats 8000000
namespace Go.Proofs.YtphmpimgbmedbaaGreat
open Go.RowKit
open Go.Lib (hid)
theorem l5Rec_ty (b : Nat) (a : Option Addr) (la ca : Nat) (xs : List UInt8) (f : List Nat) (t : Int) (x : Shp) (hok : x.ok) (w : World) (h : SrcB b a la ca xs f t w) (ht : t ≤ 1070000000) :
  Calls Tryz.prog 187 #[.pointer (some ⟨b, 0, none⟩), .agg #[.int .i64 x.gS, .int .i64 x.cM, .int .i64 x.data, .int .i64 x.spare, .int .i64 x.rows, .int .i64 x.cap, .int .i64 x.bT, .int .i64 x.qU, .int .i64 x.sG]] w fun e w' => ∃ cs : Array Value, e = .returned (.agg cs) ∧ (∃ T, ElT T .rc cs.toList ∧ TyN w.heap.size T w') ∧ SrcB b a la ca xs f (t + 4000) w' ∧ Chg [b] w w' := by
 obtain ⟨KI, _⟩ := kindI
 obtain ⟨KU, _⟩ := kindB
 have HOK := hid hok
 have HL := hid (And.intro h.lt (fun y (hy : y ∈ f) => q0p.sl_lt h.2.1 y hy))
 have HS0 := hid (h.ext (show Chg [] w ((w.alloc (.cells #[.int .i64 x.gS, .int .i64 x.cM, .int .i64 x.data, .int .i64 x.spare, .int .i64 x.rows, .int .i64 x.cap, .int .i64 x.bT, .int .i64 x.qU, .int .i64 x.sG] 30)).alloc (.cells #[.int .i64 0, .int .i64 0, .string ⟨#[]⟩, .int .i64 0, .int .i64 0, .int .i64 0, .slice none 0 0, .slice none 0 0, .slice none 0 0] 67)) from ((Chg.refl [] w).alloc _).alloc _))
 have HC0 := hid (show Chg [] w ((w.alloc (.cells #[.int .i64 x.gS, .int .i64 x.cM, .int .i64 x.data, .int .i64 x.spare, .int .i64 x.rows, .int .i64 x.cap, .int .i64 x.bT, .int .i64 x.qU, .int .i64 x.sG] 30)).alloc (.cells #[.int .i64 0, .int .i64 0, .string ⟨#[]⟩, .int .i64 0, .int .i64 0, .int .i64 0, .slice none 0 0, .slice none 0 0, .slice none 0 0] 67)) from ((Chg.refl [] w).alloc _).alloc _)
 have G3 := hid (show ((w.alloc (.cells #[.int .i64 x.gS, .int .i64 x.cM, .int .i64 x.data, .int .i64 x.spare, .int .i64 x.rows, .int .i64 x.cap, .int .i64 x.bT, .int .i64 x.qU, .int .i64 x.sG] 30)).alloc (.cells #[.int .i64 0, .int .i64 0, .string ⟨#[]⟩, .int .i64 0, .int .i64 0, .int .i64 0, .slice none 0 0, .slice none 0 0, .slice none 0 0] 67)).heap[w.heap.size]? = some (.cells #[.int .i64 x.gS, .int .i64 x.cM, .int .i64 x.data, .int .i64 x.spare, .int .i64 x.rows, .int .i64 x.cap, .int .i64 x.bT, .int .i64 x.qU, .int .i64 x.sG] 30 (0, 0)) from q0b (q0o w _) _)
 have G4 := hid (show ((w.alloc (.cells #[.int .i64 x.gS, .int .i64 x.cM, .int .i64 x.data, .int .i64 x.spare, .int .i64 x.rows, .int .i64 x.cap, .int .i64 x.bT, .int .i64 x.qU, .int .i64 x.sG] 30)).alloc (.cells #[.int .i64 0, .int .i64 0, .string ⟨#[]⟩, .int .i64 0, .int .i64 0, .int .i64 0, .slice none 0 0, .slice none 0 0, .slice none 0 0] 67)).heap[w.heap.size + 1]? = some (.cells #[.int .i64 0, .int .i64 0, .string ⟨#[]⟩, .int .i64 0, .int .i64 0, .int .i64 0, .slice none 0 0, .slice none 0 0, .slice none 0 0] 67 (0, 0)) from q0e (by simp) _)
 clear h hok
 go_enter Tryz.func187, Tryz.ntmps187
 go_wp2_with fail
 refine (q3n x HOK.out _).mono ?_
 rintro e wa ⟨rfl, hc⟩
 obtain ⟨wd, hwd⟩ : ∃ n : Nat, x.wide = n := ⟨x.wide.toNat, by have := HOK.out.wide; omega⟩
 have HWD := hid (show x.wide = wd ∧ 4 ≤ wd ∧ wd ≤ 12 from ⟨hwd, by have := HOK.out.wide; omega, by have := HOK.out.wide; omega⟩)
 rw [hwd]; clear hwd
 have HSA := hid (HS0.out.ext hc); have HCA := hid (HC0.out.trans0 hc); have GA3 := hid (hc.keep0 G3.out); have GA4 := hid (hc.keep0 G4.out)
 clear hc HS0 HC0 G3 G4
 have HN1 := hid (show w.heap.size ∉ [b] ∧ w.heap.size + 1 ∉ [b] from by simp only [List.mem_singleton]; have := HL.out.1; omega)
 go_wp2_with fail
 refine (q0x b a la ca xs f t 5 [1, 1, 2, 3, 4] _ HSA.out (by omega) (by simp [q0u]) rfl (by omega) (by omega) _ rfl _ rfl).mono ?_
 rintro e wb ⟨k, rfl, hk, hs, hc⟩
 have hkk : k = 1 ∨ k = 2 ∨ k = 3 ∨ k = 4 := by simp only [List.mem_cons, List.not_mem_nil, or_false] at hk; omega
 have HSB := hid hs; have HCB := hid (show Chg [b] w wb from (HCA.out.mono (by simp)).trans hc (fun y hy => .inl hy)); have GB3 := hid (hc.keepb GA3.out HN1.out.1); have GB4 := hid (hc.keepb GA4.out HN1.out.2)
 clear hs hc hk HSA HCA GA3 GA4
 go_wp2_with fail
 refine (q1g b a la ca xs f (t + 1) 40 _ HSB.out (by omega) (by omega) (by omega)).mono ?_
 rintro e wc ⟨s, rfl, hd, hs, hc⟩
 have hs40 : 0 ≤ s ∧ s < 40 := ⟨hd.1, hd.2.1 (by omega)⟩
 have HSC := hid hs; have HCC := hid (HCB.out.trans hc (fun y hy => .inl hy)); have GC3 := hid (hc.keepb GB3.out HN1.out.1); have GC4 := hid (hc.keepb GB4.out HN1.out.2)
 clear hs hc hd HSB HCB GB3 GB4
 have hsw : IntKind.i64.wrap (1 + s) = 1 + s := IntWalk.i64_in _ (by omega)
 go_upto_region 3 with (refine q2l rfl _ _ 67 rfl rfl rfl rfl q1l rfl rfl rfl ?_)
 clear hsw
 simp only [Act.put]
 have H0 := hid (show RecW b a la ca xs f x w wc.heap.size [] (t + 1 + 1) #[.int .i64 k, .int .i64 (1 + s), .string ⟨#[]⟩, .int .i64 0, .int .i64 0, .int .i64 0, .slice none 0 0, .slice none 0 0, .slice none 0 0] (wc.alloc (.cells #[.int .i64 k, .int .i64 (1 + s), .string ⟨#[]⟩, .int .i64 0, .int .i64 0, .int .i64 0, .slice none 0 0, .slice none 0 0, .slice none 0 0] 67)) from ⟨q0b GC3.out _, q0b GC4.out _, q0o wc _, TyN.nil _ _, HSC.out.ext ((Chg.refl [] wc).alloc _), HCC.out.alloc _, ltOf GC4.out, HL.out.1, HL.out.2⟩)
 generalize (wc.alloc (.cells #[.int .i64 k, .int .i64 (1 + s), .string ⟨#[]⟩, .int .i64 0, .int .i64 0, .int .i64 0, .slice none 0 0, .slice none 0 0, .slice none 0 0] 67)) = w0 at H0 ⊢
 generalize wc.heap.size = m at H0 ⊢
 clear HSC HCC GC3 GC4
 have c3 := cellsOf H0.out.h3; have l3 := ltOf H0.out.h3; have cm := cellsOf H0.out.hm; have lm := ltOf H0.out.hm; have fm := q0c H0.out.hm
 go_upto_block 0 with fail
 go_cut [7] from 19 to 133 (fun _ w2 => ∃ T cs, RecT T cs ∧ RecW b a la ca xs f x w m T (t + 1000) cs w2)
 case first =>
  rcases hkk with rfl | rfl | rfl | rfl
  ·go_wp2_with fail
   refine (name_any b a la ca xs f (t + 1 + 1) _ H0.out.src (by omega)).mono ?_
   rintro e w1 ⟨nm, rfl, hnm, hs, hc⟩
   clear c3 l3 cm lm fm
   have H1 := hid (H0.out.call hs hc)
   clear hs hc
   have c3 := cellsOf H1.out.h3; have l3 := ltOf H1.out.h3; have cm := cellsOf H1.out.hm; have lm := ltOf H1.out.hm; have fm := q0c H1.out.hm
   have HNM := hid hnm; clear hnm
   go_upto_region 6 with fail
   clear c3 l3 cm lm fm
   have H2 := hid (H1.out.put (cs' := #[.int .i64 1, .int .i64 (1 + s), .string nm, .int .i64 0, .int .i64 0, .int .i64 0, .slice none 0 0, .slice none 0 0, .slice none 0 0]) 2 (.string nm) rfl)
   generalize w1.setCell ⟨m, 2, none⟩ (.string nm) = w2 at H2 ⊢
   have c3 := cellsOf H2.out.h3; have l3 := ltOf H2.out.h3; have cm := cellsOf H2.out.hm; have lm := ltOf H2.out.hm; have fm := q0c H2.out.hm
   go_wp2_with fail
   refine (q1g b a la ca xs f (t + 1 + 1 + 1) wd _ H2.out.src (by omega) (by have := HWD.out; omega) (by have := HWD.out; omega)).mono ?_
   rintro e w3 ⟨v1, rfl, hd, hs, hc⟩
   clear c3 l3 cm lm fm
   have H3 := hid (H2.out.call hs hc)
   clear hs hc
   have c3 := cellsOf H3.out.h3; have l3 := ltOf H3.out.h3; have cm := cellsOf H3.out.hm; have lm := ltOf H3.out.hm; have fm := q0c H3.out.hm
   have hv1 : 0 ≤ v1 ∧ v1 < wd := ⟨hd.1, hd.2.1 (by have := HWD.out; omega)⟩; clear hd
   have hwd12 : (wd : Int) ≤ 12 := by have := HWD.out; omega
   have hw1 : IntKind.i64.wrap (1 + v1) = 1 + v1 := IntWalk.i64_in _ (by omega)
   go_wp2_with fail
   refine (q1g b a la ca xs f (t + 1 + 1 + 1 + 1) wd _ H3.out.src (by omega) (by have := HWD.out; omega) (by have := HWD.out; omega)).mono ?_
   rintro e w4 ⟨v2, rfl, hd, hs, hc⟩
   clear c3 l3 cm lm fm
   have H4 := hid (H3.out.call hs hc)
   clear hs hc
   have c3 := cellsOf H4.out.h3; have l3 := ltOf H4.out.h3; have cm := cellsOf H4.out.hm; have lm := ltOf H4.out.hm; have fm := q0c H4.out.hm
   have hv2 : 0 ≤ v2 ∧ v2 < wd := ⟨hd.1, hd.2.1 (by have := HWD.out; omega)⟩; clear hd
   have hw2 : IntKind.i64.wrap (1 + v2) = 1 + v2 := IntWalk.i64_in _ (by omega)
   go_wp2_with fail
   refine (q0x b a la ca xs f (t + 1 + 1 + 1 + 1 + 1) 3 [-1, 1 + v1, 1 + v2] _ H4.out.src (by omega) (by intro y hy; simp only [List.mem_cons, List.not_mem_nil, or_false] at hy; constructor <;> omega) rfl (by omega) (by omega) _ rfl _ rfl).mono ?_
   rintro e w5 ⟨ln, rfl, hd, hs, hc⟩
   clear c3 l3 cm lm fm
   have H5 := hid (H4.out.call hs hc)
   clear hs hc
   have c3 := cellsOf H5.out.h3; have l3 := ltOf H5.out.h3; have cm := cellsOf H5.out.hm; have lm := ltOf H5.out.hm; have fm := q0c H5.out.hm
   have hln : ln = -1 ∨ ∃ l : Nat, ln = l ∧ 1 ≤ l ∧ l ≤ 12 := by
    simp only [List.mem_cons, List.not_mem_nil, or_false] at hd
    by_cases h : ln = -1
    ·exact .inl h
    ·exact .inr ⟨ln.toNat, by omega, by omega, by omega⟩
   clear hd hw1 hw2 hv1 hv2
   go_upto_region 7 with fail
   clear c3 l3 cm lm fm
   have H6 := hid (H5.out.put (cs' := #[.int .i64 1, .int .i64 (1 + s), .string nm, .int .i64 ln, .int .i64 0, .int .i64 0, .slice none 0 0, .slice none 0 0, .slice none 0 0]) 3 (.int .i64 ln) rfl)
   generalize w5.setCell ⟨m, 3, none⟩ (.int .i64 ln) = w6 at H6 ⊢
   have c3 := cellsOf H6.out.h3; have l3 := ltOf H6.out.h3; have cm := cellsOf H6.out.hm; have lm := ltOf H6.out.hm; have fm := q0c H6.out.hm
   rcases hln with rfl | ⟨l, rfl, hl1, hl12⟩
   ·go_wp2_with fail
    clear c3 l3 cm lm fm
    go_meet
    exact ⟨_, #[.int .i64 1, .int .i64 (1 + s), .string nm, .int .i64 (-1), .int .i64 0, .int .i64 0, .slice none 0 0, .slice none 0 0, .slice none 0 0], ⟨_, _, _, _, _, _, _, _, _, _, _, _, _, _, _, rfl, ⟨by decide, by decide⟩, ⟨by omega, by omega⟩, HNM.out, ⟨by omega, by omega⟩, ⟨by decide, by decide⟩, ⟨by decide, by decide⟩, SlT.nil _ _, by decide, SlT.nil _ _, SlT.nil _ _, by decide⟩, H6.out.mono (t' := t + 1000) (by omega)⟩
   ·have hpos : (0 : Int) < l := by omega
    go_wp2_with fail
    refine (q1u b a la ca xs f (t + 1 + 1 + 1 + 1 + 1 + 1) 2 _ H6.out.src (by omega) (by omega) (by omega)).mono ?_
    rintro e w7 ⟨q, rfl, hs, hc⟩
    clear c3 l3 cm lm fm
    have H7 := hid (H6.out.call hs hc)
    clear hs hc
    have c3 := cellsOf H7.out.h3; have l3 := ltOf H7.out.h3; have cm := cellsOf H7.out.hm; have lm := ltOf H7.out.hm; have fm := q0c H7.out.hm
    cases q
    ·go_wp2_with fail
     refine (q5y b a la ca xs f (t + 1 + 1 + 1 + 1 + 1 + 1 + 1) l _ H7.out.src (by omega) (by omega)).mono ?_
     rintro e w8 ⟨A7, C7, rfl, hty, hs, hc⟩
     clear c3 l3 cm lm fm
     obtain ⟨T8, hv8, hty⟩ := hty
     have H8 := hid (H7.out.rows hty hs hc); have HV8 := hid (SlT.sub hv8 (SubT.left [] _))
     clear hs hc hty hv8
     have c3 := cellsOf H8.out.h3; have l3 := ltOf H8.out.h3; have cm := cellsOf H8.out.hm; have lm := ltOf H8.out.hm; have fm := q0c H8.out.hm
     go_wp2_with fail
     clear c3 l3 cm lm fm
     have H9 := hid (H8.out.put (cs' := #[.int .i64 1, .int .i64 (1 + s), .string nm, .int .i64 l, .int .i64 0, .int .i64 0, .slice none 0 0, .slice A7 l C7, .slice none 0 0]) 7 (.slice A7 l C7) rfl)
     generalize w8.setCell ⟨m, 7, none⟩ (.slice A7 l C7) = w9 at H9 ⊢
     have c3 := cellsOf H9.out.h3; have l3 := ltOf H9.out.h3; have cm := cellsOf H9.out.hm; have lm := ltOf H9.out.hm; have fm := q0c H9.out.hm
     clear c3 l3 cm lm fm
     go_meet
     exact ⟨_, #[.int .i64 1, .int .i64 (1 + s), .string nm, .int .i64 l, .int .i64 0, .int .i64 0, .slice none 0 0, .slice A7 l C7, .slice none 0 0], ⟨_, _, _, _, _, _, _, _, _, _, _, _, _, _, _, rfl, ⟨by decide, by decide⟩, ⟨by omega, by omega⟩, HNM.out, ⟨by omega, by omega⟩, ⟨by decide, by decide⟩, ⟨by decide, by decide⟩, SlT.nil _ _, by decide, HV8.out, SlT.nil _ _, by decide⟩, H9.out.mono (t' := t + 1000) (by omega)⟩
    ·go_wp2_with fail
     refine (q1g b a la ca xs f (t + 1 + 1 + 1 + 1 + 1 + 1 + 1) x.rows _ H7.out.src (by omega) (by have := HOK.out.rows; omega) (by have := HOK.out.rows; omega)).mono ?_
     rintro e w10 ⟨v8, rfl, hd, hs, hc⟩
     clear c3 l3 cm lm fm
     have H10 := hid (H7.out.call hs hc)
     clear hs hc
     have c3 := cellsOf H10.out.h3; have l3 := ltOf H10.out.h3; have cm := cellsOf H10.out.hm; have lm := ltOf H10.out.hm; have fm := q0c H10.out.hm
     have hv8 : 0 ≤ v8 ∧ v8 ≤ 6 := ⟨hd.1, by have := hd.2.1 (HOK.out.rows.1); have := HOK.out.rows; omega⟩; clear hd
     have K6 := hid (H10.out.put (cs' := #[.int .i64 1, .int .i64 (1 + s), .string nm, .int .i64 l, .int .i64 0, .int .i64 0, .slice (some ⟨w10.heap.size, 0, none⟩) 1 1, .slice none 0 0, .slice none 0 0]) 6 (.slice (some ⟨w10.heap.size, 0, none⟩) 1 1) rfl)
     have hone := one_it K6.out.ty.well v8 ⟨by omega, by omega⟩
     rw [show (w10.setCell ⟨m, 6, none⟩ (.slice (some ⟨w10.heap.size, 0, none⟩) 1 1)).heap.size = w10.heap.size by simp] at hone
     have HV6 := hid hone.1; have K7 := hid (K6.out.step hone.2)
     clear hone
     go_wp2_with fail
     clear c3 l3 cm lm fm
     go_meet
     exact ⟨_, #[.int .i64 1, .int .i64 (1 + s), .string nm, .int .i64 l, .int .i64 0, .int .i64 0, .slice (some ⟨w10.heap.size, 0, none⟩) 1 1, .slice none 0 0, .slice none 0 0], ⟨_, _, _, _, _, _, _, _, _, _, _, _, _, _, _, rfl, ⟨by decide, by decide⟩, ⟨by omega, by omega⟩, HNM.out, ⟨by omega, by omega⟩, ⟨by decide, by decide⟩, ⟨by decide, by decide⟩, HV6.out, by decide, SlT.nil _ _, SlT.nil _ _, by decide⟩, K7.out.mono (t' := t + 1000) (by omega)⟩
  ·go_wp2_with fail
   refine (q1g b a la ca xs f (t + 1 + 1) x.gS _ H0.out.src (by omega) (by have := HOK.out.gS; omega) (by have := HOK.out.gS; omega)).mono ?_
   rintro e w11 ⟨vg, rfl, hd, hs, hc⟩
   clear c3 l3 cm lm fm
   have H11 := hid (H0.out.call hs hc)
   clear hs hc
   have c3 := cellsOf H11.out.h3; have l3 := ltOf H11.out.h3; have cm := cellsOf H11.out.hm; have lm := ltOf H11.out.hm; have fm := q0c H11.out.hm
   have hvg : 0 ≤ vg ∧ vg ≤ 6 := ⟨hd.1, by have := hd.2.1 (HOK.out.gS.1); have := HOK.out.gS; omega⟩; clear hd
   go_upto_region 13 with fail
   clear c3 l3 cm lm fm
   have H12 := hid (H11.out.put (cs' := #[.int .i64 2, .int .i64 (1 + s), .string ⟨#[]⟩, .int .i64 0, .int .i64 vg, .int .i64 0, .slice none 0 0, .slice none 0 0, .slice none 0 0]) 4 (.int .i64 vg) rfl)
   generalize w11.setCell ⟨m, 4, none⟩ (.int .i64 vg) = w12 at H12 ⊢
   have c3 := cellsOf H12.out.h3; have l3 := ltOf H12.out.h3; have cm := cellsOf H12.out.hm; have lm := ltOf H12.out.hm; have fm := q0c H12.out.hm
   go_wp2_with fail
   refine (q1g b a la ca xs f (t + 1 + 1 + 1) x.rows _ H12.out.src (by omega) (by have := HOK.out.rows; omega) (by have := HOK.out.rows; omega)).mono ?_
   rintro e w13 ⟨vr, rfl, hd, hs, hc⟩
   clear c3 l3 cm lm fm
   have H13 := hid (H12.out.call hs hc)
   clear hs hc
   have c3 := cellsOf H13.out.h3; have l3 := ltOf H13.out.h3; have cm := cellsOf H13.out.hm; have lm := ltOf H13.out.hm; have fm := q0c H13.out.hm
   have hvr : 0 ≤ vr ∧ vr ≤ 6 := ⟨hd.1, by have := hd.2.1 (HOK.out.rows.1); have := HOK.out.rows; omega⟩; clear hd
   go_upto_region 14 with fail
   clear c3 l3 cm lm fm
   have H14 := hid (H13.out.put (cs' := #[.int .i64 2, .int .i64 (1 + s), .string ⟨#[]⟩, .int .i64 0, .int .i64 vg, .int .i64 vr, .slice none 0 0, .slice none 0 0, .slice none 0 0]) 5 (.int .i64 vr) rfl)
   generalize w13.setCell ⟨m, 5, none⟩ (.int .i64 vr) = w14 at H14 ⊢
   have c3 := cellsOf H14.out.h3; have l3 := ltOf H14.out.h3; have cm := cellsOf H14.out.hm; have lm := ltOf H14.out.hm; have fm := q0c H14.out.hm
   go_wp2_with fail
   refine (q5y b a la ca xs f (t + 1 + 1 + 1 + 1) wd _ H14.out.src (by have := HWD.out; omega) (by omega)).mono ?_
   rintro e w15 ⟨A7, C7, rfl, hty, hs, hc⟩
   clear c3 l3 cm lm fm
   obtain ⟨T15, hv15, hty⟩ := hty
   have H15 := hid (H14.out.rows hty hs hc); have HV15 := hid (SlT.sub hv15 (SubT.left [] _))
   clear hs hc hty hv15
   have c3 := cellsOf H15.out.h3; have l3 := ltOf H15.out.h3; have cm := cellsOf H15.out.hm; have lm := ltOf H15.out.hm; have fm := q0c H15.out.hm
   go_upto_region 15 with fail
   clear c3 l3 cm lm fm
   have H16 := hid (H15.out.put (cs' := #[.int .i64 2, .int .i64 (1 + s), .string ⟨#[]⟩, .int .i64 0, .int .i64 vg, .int .i64 vr, .slice none 0 0, .slice A7 wd C7, .slice none 0 0]) 7 (.slice A7 wd C7) rfl)
   generalize w15.setCell ⟨m, 7, none⟩ (.slice A7 wd C7) = w16 at H16 ⊢
   have c3 := cellsOf H16.out.h3; have l3 := ltOf H16.out.h3; have cm := cellsOf H16.out.hm; have lm := ltOf H16.out.hm; have fm := q0c H16.out.hm
   go_wp2_with fail
   refine (q5y b a la ca xs f (t + 1 + 1 + 1 + 1 + 200) wd _ H16.out.src (by have := HWD.out; omega) (by omega)).mono ?_
   rintro e w17 ⟨A8, C8, rfl, hty, hs, hc⟩
   clear c3 l3 cm lm fm
   obtain ⟨T17, hv17, hty⟩ := hty
   have H17 := hid (H16.out.rows hty hs hc); have HV17 := hid (SlT.sub hv17 (SubT.left (T15 ++ []) _))
   clear hs hc hty hv17
   have c3 := cellsOf H17.out.h3; have l3 := ltOf H17.out.h3; have cm := cellsOf H17.out.hm; have lm := ltOf H17.out.hm; have fm := q0c H17.out.hm
   go_wp2_with fail
   clear c3 l3 cm lm fm
   have H18 := hid (H17.out.put (cs' := #[.int .i64 2, .int .i64 (1 + s), .string ⟨#[]⟩, .int .i64 0, .int .i64 vg, .int .i64 vr, .slice none 0 0, .slice A7 wd C7, .slice A8 wd C8]) 8 (.slice A8 wd C8) rfl)
   generalize w17.setCell ⟨m, 8, none⟩ (.slice A8 wd C8) = w18 at H18 ⊢
   have c3 := cellsOf H18.out.h3; have l3 := ltOf H18.out.h3; have cm := cellsOf H18.out.hm; have lm := ltOf H18.out.hm; have fm := q0c H18.out.hm
   clear c3 l3 cm lm fm
   go_meet
   exact ⟨_, #[.int .i64 2, .int .i64 (1 + s), .string ⟨#[]⟩, .int .i64 0, .int .i64 vg, .int .i64 vr, .slice none 0 0, .slice A7 wd C7, .slice A8 wd C8], ⟨_, _, _, _, _, _, _, _, _, _, _, _, _, _, _, rfl, ⟨by decide, by decide⟩, ⟨by omega, by omega⟩, by decide, ⟨by decide, by decide⟩, ⟨by omega, by omega⟩, ⟨by omega, by omega⟩, SlT.nil _ _, by decide, (HV15.out.sub (SubT.right _ _)), HV17.out, by have := HWD.out; omega⟩, H18.out.mono (t' := t + 1000) (by omega)⟩
  ·go_wp2_with fail
   refine (q0r x HOK.out _).mono ?_
   rintro e w19 ⟨rfl, hc⟩
   clear c3 l3 cm lm fm
   have H19 := hid (H0.out.ext hc)
   clear hc
   have c3 := cellsOf H19.out.h3; have l3 := ltOf H19.out.h3; have cm := cellsOf H19.out.hm; have lm := ltOf H19.out.hm; have fm := q0c H19.out.hm
   go_wp2_with fail
   refine (q1g b a la ca xs f (t + 1 + 1) x.all _ H19.out.src (by omega) (by have := HOK.out.all; omega) (by have := HOK.out.all; omega)).mono ?_
   rintro e w20 ⟨vg, rfl, hd, hs, hc⟩
   clear c3 l3 cm lm fm
   have H20 := hid (H19.out.call hs hc)
   clear hs hc
   have c3 := cellsOf H20.out.h3; have l3 := ltOf H20.out.h3; have cm := cellsOf H20.out.hm; have lm := ltOf H20.out.hm; have fm := q0c H20.out.hm
   have hvg : 0 ≤ vg ∧ vg < x.all := ⟨hd.1, hd.2.1 (HOK.out.all.1)⟩; clear hd
   have hvg6 : 0 ≤ vg ∧ vg ≤ 6 := by have := HOK.out.all; omega
   go_wp2_with fail
   clear c3 l3 cm lm fm
   have H21 := hid (H20.out.put (cs' := #[.int .i64 3, .int .i64 (1 + s), .string ⟨#[]⟩, .int .i64 0, .int .i64 vg, .int .i64 0, .slice none 0 0, .slice none 0 0, .slice none 0 0]) 4 (.int .i64 vg) rfl)
   generalize w20.setCell ⟨m, 4, none⟩ (.int .i64 vg) = w21 at H21 ⊢
   have c3 := cellsOf H21.out.h3; have l3 := ltOf H21.out.h3; have cm := cellsOf H21.out.hm; have lm := ltOf H21.out.hm; have fm := q0c H21.out.hm
   clear c3 l3 cm lm fm
   go_meet
   exact ⟨_, #[.int .i64 3, .int .i64 (1 + s), .string ⟨#[]⟩, .int .i64 0, .int .i64 vg, .int .i64 0, .slice none 0 0, .slice none 0 0, .slice none 0 0], ⟨_, _, _, _, _, _, _, _, _, _, _, _, _, _, _, rfl, ⟨by decide, by decide⟩, ⟨by omega, by omega⟩, by decide, ⟨by decide, by decide⟩, ⟨by omega, by omega⟩, ⟨by decide, by decide⟩, SlT.nil _ _, by decide, SlT.nil _ _, SlT.nil _ _, by decide⟩, H21.out.mono (t' := t + 1000) (by omega)⟩
  ·go_wp2_with fail
   refine (q0r x HOK.out _).mono ?_
   rintro e w22 ⟨rfl, hc⟩
   clear c3 l3 cm lm fm
   have H22 := hid (H0.out.ext hc)
   clear hc
   have c3 := cellsOf H22.out.h3; have l3 := ltOf H22.out.h3; have cm := cellsOf H22.out.hm; have lm := ltOf H22.out.hm; have fm := q0c H22.out.hm
   go_wp2_with fail
   refine (q1g b a la ca xs f (t + 1 + 1) x.all _ H22.out.src (by omega) (by have := HOK.out.all; omega) (by have := HOK.out.all; omega)).mono ?_
   rintro e w23 ⟨vg, rfl, hd, hs, hc⟩
   clear c3 l3 cm lm fm
   have H23 := hid (H22.out.call hs hc)
   clear hs hc
   have c3 := cellsOf H23.out.h3; have l3 := ltOf H23.out.h3; have cm := cellsOf H23.out.hm; have lm := ltOf H23.out.hm; have fm := q0c H23.out.hm
   have hvg : 0 ≤ vg ∧ vg < x.all := ⟨hd.1, hd.2.1 (HOK.out.all.1)⟩; clear hd
   have hvg6 : 0 ≤ vg ∧ vg ≤ 6 := by have := HOK.out.all; omega
   go_upto_region 20 with fail
   clear c3 l3 cm lm fm
   have H24 := hid (H23.out.put (cs' := #[.int .i64 4, .int .i64 (1 + s), .string ⟨#[]⟩, .int .i64 0, .int .i64 vg, .int .i64 0, .slice none 0 0, .slice none 0 0, .slice none 0 0]) 4 (.int .i64 vg) rfl)
   generalize w23.setCell ⟨m, 4, none⟩ (.int .i64 vg) = w24 at H24 ⊢
   have c3 := cellsOf H24.out.h3; have l3 := ltOf H24.out.h3; have cm := cellsOf H24.out.hm; have lm := ltOf H24.out.hm; have fm := q0c H24.out.hm
   go_wp2_with fail
   refine (q1g b a la ca xs f (t + 1 + 1 + 1) x.rows _ H24.out.src (by omega) (by have := HOK.out.rows; omega) (by have := HOK.out.rows; omega)).mono ?_
   rintro e w25 ⟨vr, rfl, hd, hs, hc⟩
   clear c3 l3 cm lm fm
   have H25 := hid (H24.out.call hs hc)
   clear hs hc
   have c3 := cellsOf H25.out.h3; have l3 := ltOf H25.out.h3; have cm := cellsOf H25.out.hm; have lm := ltOf H25.out.hm; have fm := q0c H25.out.hm
   have hvr : 0 ≤ vr ∧ vr ≤ 6 := ⟨hd.1, by have := hd.2.1 (HOK.out.rows.1); have := HOK.out.rows; omega⟩; clear hd
   go_upto_region 21 with fail
   clear c3 l3 cm lm fm
   have H26 := hid (H25.out.put (cs' := #[.int .i64 4, .int .i64 (1 + s), .string ⟨#[]⟩, .int .i64 0, .int .i64 vg, .int .i64 vr, .slice none 0 0, .slice none 0 0, .slice none 0 0]) 5 (.int .i64 vr) rfl)
   generalize w25.setCell ⟨m, 5, none⟩ (.int .i64 vr) = w26 at H26 ⊢
   have c3 := cellsOf H26.out.h3; have l3 := ltOf H26.out.h3; have cm := cellsOf H26.out.hm; have lm := ltOf H26.out.hm; have fm := q0c H26.out.hm
   clear hvg
   obtain ⟨na, hna⟩ : ∃ n : Nat, x.all = n := ⟨x.all.toNat, by have := HOK.out.all; omega⟩
   have hna6 : na ≤ 6 := by have := HOK.out.all; omega
   have HNA := hid hna
   go_wp2_with fail
   refine (q0r x HOK.out _).mono ?_
   rintro e w27 ⟨rfl, hc⟩
   clear c3 l3 cm lm fm
   have H27 := hid (H26.out.ext hc)
   clear hc
   have c3 := cellsOf H27.out.h3; have l3 := ltOf H27.out.h3; have cm := cellsOf H27.out.hm; have lm := ltOf H27.out.hm; have fm := q0c H27.out.hm
   rw [hna]
   have hmk : ∀ w : World, (Instr.makeSlice 62 (.int .i64 na) (.int .i64 na)).run Tryz.prog w = .ok (.slice (some ⟨w.heap.size, 0, none⟩) na na) (w.alloc (.cells (zrow (.int .u8 0) na) 5)) := fun w => q8d na (by omega) w
   clear hna
   have K8 := hid (H27.out.put (cs' := #[.int .i64 4, .int .i64 (1 + s), .string ⟨#[]⟩, .int .i64 0, .int .i64 vg, .int .i64 vr, .slice none 0 0, .slice none 0 0, .slice (some ⟨w27.heap.size, 0, none⟩) na na]) 8 (.slice (some ⟨w27.heap.size, 0, none⟩) na na) rfl)
   have hz := zero_bt K8.out.ty.well na (by omega)
   rw [show (w27.setCell ⟨m, 8, none⟩ (.slice (some ⟨w27.heap.size, 0, none⟩) na na)).heap.size = w27.heap.size by simp] at hz
   have HV8 := hid hz.1; have K9 := hid (K8.out.step hz.2)
   clear hz
   go_upto_region 22 with fail
   clear c3 l3 cm lm fm
   generalize (w27.setCell ⟨m, 8, none⟩ (.slice (some ⟨w27.heap.size, 0, none⟩) na na)).alloc (.cells (zrow (.int .u8 0) na) 5) = w9 at K9 ⊢
   generalize w27.heap.size = b8 at K9 HV8 ⊢
   clear hmk K8
   have c3 := cellsOf K9.out.h3; have l3 := ltOf K9.out.h3; have cm := cellsOf K9.out.hm; have lm := ltOf K9.out.hm; have fm := q0c K9.out.hm
   go_wp2_with fail
   clear c3 l3 cm lm fm
   go_loopw [7] (fun vi wr => ∃ (j : Nat) (p6 : Option Addr) (l6 c6 : Nat) (T : List TRow) (Wr : World), Wr = wr ∧ j ≤ na ∧ vi = .int .i64 j ∧ l6 ≤ j ∧ SlT T .it (.slice p6 l6 c6) ∧ SlT T .bt (.slice (some ⟨b8, 0, none⟩) na na) ∧ RecW b a la ca xs f x w m T (t + 500 + 10 * j) #[.int .i64 4, .int .i64 (1 + s), .string ⟨#[]⟩, .int .i64 0, .int .i64 vg, .int .i64 vr, .slice p6 l6 c6, .slice none 0 0, .slice (some ⟨b8, 0, none⟩) na na] wr) (fun vi _ => na - (intOf vi).toNat)
   case atStart => exact ⟨0, none, 0, 0, _, _, rfl, by omega, rfl, by omega, SlT.nil _ _, HV8.out, K9.out.mono (t' := t + 500 + 10 * ((0 : Nat) : Int)) (by omega)⟩
   case round =>
    clear K9 HV8
    obtain ⟨j, p6, l6, c6, T, wr, rfl, hj, rfl, hl6, hv6, hv8, hr⟩ := hrel
    have V6 := hid hv6; have V8 := hid hv8; have R0 := hid hr
    clear hv6 hv8 hr
    have c3 := cellsOf R0.out.h3; have l3 := ltOf R0.out.h3; have cm := cellsOf R0.out.hm; have lm := ltOf R0.out.hm; have fm := q0c R0.out.hm
    go_wp2_with fail
    refine (q0r x HOK.out _).mono ?_
    rintro e w28 ⟨rfl, hc⟩
    clear c3 l3 cm lm fm
    have H28 := hid (R0.out.ext hc)
    clear hc
    have c3 := cellsOf H28.out.h3; have l3 := ltOf H28.out.h3; have cm := cellsOf H28.out.hm; have lm := ltOf H28.out.hm; have fm := q0c H28.out.hm
    rw [HNA.out]
    by_cases hlt : j < na
    ·by_cases hkg : (j : Int) = vg
     ·have hkb : ((j : Int) == vg) = true := by simpa using hkg
      go_wp2_with fail
      clear c3 l3 cm lm fm
      go_roundw
      case rel => exact ⟨j + 1, p6, l6, c6, _, _, rfl, by omega, by go_num, by omega, V6.out, V8.out, H28.out.mono (by omega)⟩
      case measure => simp [intOf]; omega
     ·have hkb : ((j : Int) == vg) = false := by simpa using hkg
      go_wp2_with fail
      refine (q1u b a la ca xs f (t + 500 + 10 * j) 3 _ H28.out.src (by omega) (by omega) (by omega)).mono ?_
      rintro e w29 ⟨q, rfl, hs, hc⟩
      clear c3 l3 cm lm fm
      have H29 := hid (H28.out.call hs hc)
      clear hs hc
      have c3 := cellsOf H29.out.h3; have l3 := ltOf H29.out.h3; have cm := cellsOf H29.out.hm; have lm := ltOf H29.out.hm; have fm := q0c H29.out.hm
      cases q
      ·obtain ⟨b8q, off8, cs8, e8, -, -, hfz8, hlt8, r8, hr8, hrk8, hrb8, q8, hq8, ho8⟩ := SlT.at H29.out.ty.well V8.out hlt
       obtain ⟨rfl, rfl⟩ : b8 = b8q ∧ off8 = 0 := by simpa [eq_comm] using e8
       have HR8 := hid (show ∃ r ∈ T, r.k = .bt ∧ r.b = b8 ∧ ∃ p, p < r.m ∧ j = p from ⟨r8, hr8, hrk8, hrb8, q8, hq8, by simpa [Kd.n] using ho8⟩)
       clear e8 hfz8 hlt8 hr8 hrk8 hrb8 hq8 ho8
       go_upto_region 26 with fail
       clear c3 l3 cm lm fm
       obtain ⟨CC, HCI, HCO⟩ := q0j (fun w' => Know m #[.int .i64 4, .int .i64 (1 + s), .string ⟨#[]⟩, .int .i64 0, .int .i64 vg, .int .i64 vr, .slice p6 l6 c6, .slice none 0 0, .slice (some ⟨b8, 0, none⟩) na na] w')
       refine q1j [8] CC (by kernel_rfl) (HCI.out _ (Know.of (q0a H29.out.hm))) (fun hcl hS => ?_)
       refine ggT 0 hcl hS ?_; clear hcl hS; intro hcl hS
       refine ggL 1 hcl hS HCO ?_; clear hcl hS; intro hcl hS
       refine ggT 2 hcl hS ?_; clear hcl hS; intro hcl hS
       refine ggT 3 hcl hS ?_; clear hcl hS; intro hcl hS
       refine ggC 4 hcl rfl (by kernel_rfl) (fun K hK => ?_)
       go_simp
       go_at_call 131
       refine (q1g b a la ca xs f (t + 500 + 10 * j + 1) 255 _ (H29.out.src.ext (Chg.refl [] w29).drew) (by omega) (by omega) (by omega)).mono ?_; rintro e wn ⟨vn, rfl, -, hs, hc⟩; have R2 := hid ((H29.out.ext (Chg.refl [] w29).drew).call hs hc); clear hs hc; have F2 := hid R2.out.hm; have lb8 := R2.out.ty.well.lt8 HR8.out; obtain ⟨ub, cb8⟩ := R2.out.ty.well.ce8 HR8.out; have fb8 := R2.out.ty.well.fr8 HR8.out
       go_wp2_with fail
       refine hK.out _ _ (fun _ => HCI.out _ (Know.of F2.out)) ?_
       clear hK K hcl hS
       intro hcl hS
       try simp only [Act.put, pA, pB, pC]
       refine ggT 5 hcl hS ?_; clear hcl hS; intro hcl hS
       refine ggT 6 hcl hS ?_; clear hcl hS; intro hcl hS
       refine ggT 7 hcl hS ?_; clear hcl hS; intro hcl hS
       refine ggC 8 hcl rfl (by kernel_rfl) (fun K hK => ?_)
       go_simp
       refine hK.out _ _ (Till.done (m := 8) (by simp) (by rfl)) ?_
       clear hK K hcl hS
       intro hcl hS
       try simp only [Act.put, pA, pB, pC]
       refine q3i (by kernel_rfl) ?_ _
       clear cb8 fb8 lb8 F2
       have R3 := hid (R2.out.step (put_bt R2.out.ty.well HR8.out (u8_cell (1 + IntKind.u8.wrap vn))))
       generalize wn.setCell ⟨b8, j, none⟩ (.int .u8 (IntKind.u8.wrap (1 + IntKind.u8.wrap vn))) = wx at R3 ⊢
       clear R2 HR8
       have c3 := cellsOf R3.out.h3; have l3 := ltOf R3.out.h3; have cm := cellsOf R3.out.hm; have lm := ltOf R3.out.hm; have fm := q0c R3.out.hm
       go_wp2_with fail
       refine (q1u b a la ca xs f ((t + 500 + 10 * j + 1 + 1)) 2 _ R3.out.src (by omega) (by omega) (by omega)).mono ?_
       rintro e w31 ⟨q, rfl, hs, hc⟩
       clear c3 l3 cm lm fm
       have H31 := hid (R3.out.call hs hc)
       clear hs hc
       have c3 := cellsOf H31.out.h3; have l3 := ltOf H31.out.h3; have cm := cellsOf H31.out.hm; have lm := ltOf H31.out.hm; have fm := q0c H31.out.hm
       cases q
       ·go_wp2_with fail
        clear c3 l3 cm lm fm
        go_roundw
        case rel => exact ⟨j + 1, p6, l6, c6, _, _, rfl, by omega, by go_num, by omega, V6.out, V8.out, H31.out.mono (by omega)⟩
        case measure => simp [intOf]; omega
       ·have R4 := hid (H31.out.ext ((Chg.refl [] w31).alloc (.cells #[.int .i64 j] 2)))
        go_wp2_with (at_builtin; refine q5p rfl _ _ 25 rfl R4.out.ty.well (k := .it) Tryz.underlying25 KI (by omega) rfl V6.out (cs := [.int .i64 j]) ⟨j, rfl, by constructor <;> omega⟩ (by show l6 + 1 ≤ 64; omega) ⟨w31.heap.size, 0, none⟩ 1 rfl (q1n w31 #[.int .i64 j] 2) ?_; intro a' c' w4 T4 h41 h42 h43 h44 h45; have K4 := hid (R4.out.step ⟨h41, h42, h44, h45⟩); have V64 := hid h43; have V84 := hid (V8.out.sub h42); clear h41 h42 h43 h44 h45 c3 l3 cm lm fm; have cm := cellsOf K4.out.hm; have lm := ltOf K4.out.hm; have fm := q0c K4.out.hm)
        have K5 := hid (K4.out.put (cs' := #[.int .i64 4, .int .i64 (1 + s), .string ⟨#[]⟩, .int .i64 0, .int .i64 vg, .int .i64 vr, .slice a' (l6 + 1) c', .slice none 0 0, .slice (some ⟨b8, 0, none⟩) na na]) 6 (.slice a' (l6 + 1) c') rfl)
        go_roundw
        case rel => exact ⟨j + 1, a', l6 + 1, c', _, _, rfl, by omega, by go_num, by omega, V64.out, V84.out, K5.out.mono (by omega)⟩
        case measure => simp [intOf]; omega
      ·go_wp2_with fail
       clear c3 l3 cm lm fm
       go_roundw
       case rel => exact ⟨j + 1, p6, l6, c6, _, _, rfl, by omega, by go_num, by omega, V6.out, V8.out, H29.out.mono (by omega)⟩
       case measure => simp [intOf]; omega
    ·go_wp2_with fail
     refine (q5y b a la ca xs f (t + 500 + 10 * j) wd _ H28.out.src (by have := HWD.out; omega) (by omega)).mono ?_
     rintro e w32 ⟨A7, C7, rfl, hty, hs, hc⟩
     clear c3 l3 cm lm fm
     obtain ⟨T32, hv32, hty⟩ := hty
     have H32 := hid (H28.out.rows hty hs hc); have HV32 := hid (SlT.sub hv32 (SubT.left T _))
     clear hs hc hty hv32
     have c3 := cellsOf H32.out.h3; have l3 := ltOf H32.out.h3; have cm := cellsOf H32.out.hm; have lm := ltOf H32.out.hm; have fm := q0c H32.out.hm
     go_wp2_with fail
     clear c3 l3 cm lm fm
     have H33 := hid (H32.out.put (cs' := #[.int .i64 4, .int .i64 (1 + s), .string ⟨#[]⟩, .int .i64 0, .int .i64 vg, .int .i64 vr, .slice p6 l6 c6, .slice A7 wd C7, .slice (some ⟨b8, 0, none⟩) na na]) 7 (.slice A7 wd C7) rfl)
     generalize w32.setCell ⟨m, 7, none⟩ (.slice A7 wd C7) = w33 at H33 ⊢
     have c3 := cellsOf H33.out.h3; have l3 := ltOf H33.out.h3; have cm := cellsOf H33.out.hm; have lm := ltOf H33.out.hm; have fm := q0c H33.out.hm
     clear c3 l3 cm lm fm
     go_meet
     exact ⟨_, #[.int .i64 4, .int .i64 (1 + s), .string ⟨#[]⟩, .int .i64 0, .int .i64 vg, .int .i64 vr, .slice p6 l6 c6, .slice A7 wd C7, .slice (some ⟨b8, 0, none⟩) na na], ⟨_, _, _, _, _, _, _, _, _, _, _, _, _, _, _, rfl, ⟨by decide, by decide⟩, ⟨by omega, by omega⟩, by decide, ⟨by decide, by decide⟩, ⟨by omega, by omega⟩, ⟨by omega, by omega⟩, (V6.out.sub (SubT.right _ _)), by omega, HV32.out, (V8.out.sub (SubT.right _ _)), by omega⟩, H33.out.mono (t' := t + 1000) (by omega)⟩
 case rest =>
 revert wc; intro wz hcut
 obtain ⟨T, cs, ⟨k, s, nm, ln, g, r, p6, l6, c6, p7, l7, c7, p8, l8, c8, rfl, b1, b2, b3, b4, b5, b6, v6, b7, v7, v8, b8⟩, hr⟩ := hcut
 have H0 := hid hr
 have HB := hid (And.intro b1.ok (And.intro b2.ok (And.intro b3 (And.intro b5.ok b6.ok))))
 have V6 := hid v6; have V7 := hid v7; have V8 := hid v8
 clear hr b1 b2 b3 b5 b6 v6 v7 v8 HWD HN1 l3 lm fm hs40 hkk
 have c3 := cellsOf H0.out.h3; have l3 := ltOf H0.out.h3; have cm := cellsOf H0.out.hm; have lm := ltOf H0.out.hm; have fm := q0c H0.out.hm
 go_wp2_with fail
 refine (q1u b a la ca xs f (t + 1000) 20 _ H0.out.src (by omega) (by omega) (by omega)).mono ?_
 rintro e w34 ⟨q, rfl, hs, hc⟩
 clear c3 l3 cm lm fm
 have H34 := hid (H0.out.call hs hc)
 clear hs hc
 have c3 := cellsOf H34.out.h3; have l3 := ltOf H34.out.h3; have cm := cellsOf H34.out.hm; have lm := ltOf H34.out.hm; have fm := q0c H34.out.hm
 go_upto_if 135 with fail
 go_cut [] from 136 to 200 (fun w2 => ∃ T cs, ElT T .rc cs.toList ∧ cs.size = 9 ∧ RecW b a la ca xs f x w m T (t + 2000) cs w2)
 case first =>
  cases q
  ·go_wp2_with fail
   clear c3 l3 cm lm fm
   go_meet
   exact ⟨_, #[.int .i64 k, .int .i64 s, .string nm, .int .i64 ln, .int .i64 g, .int .i64 r, .slice p6 l6 c6, .slice p7 l7 c7, .slice p8 l8 c8], ⟨_, _, _, _, _, _, _, _, _, rfl, ⟨HB.out.1, HB.out.2.1, ⟨by omega, by omega⟩, HB.out.2.2.2.1, HB.out.2.2.2.2⟩, HB.out.2.2.1, V6.out, V7.out, V8.out⟩, rfl, H34.out.mono (t' := t + 2000) (by omega)⟩
  ·go_wp2_with fail
   refine (q1g b a la ca xs f (t + 1000 + 1) 8 _ H34.out.src (by omega) (by omega) (by omega)).mono ?_
   rintro e w35 ⟨v, rfl, hd, hs, hc⟩
   clear c3 l3 cm lm fm
   have H35 := hid (H34.out.call hs hc)
   clear hs hc
   have c3 := cellsOf H35.out.h3; have l3 := ltOf H35.out.h3; have cm := cellsOf H35.out.hm; have lm := ltOf H35.out.hm; have fm := q0c H35.out.hm
   have hv : v = 0 ∨ v = 1 ∨ v = 2 ∨ v = 3 ∨ v = 4 ∨ v = 5 ∨ v = 6 ∨ v = 7 := by have := hd.1; have := hd.2.1 (by omega); omega
   clear hd
   rcases hv with rfl | rfl | rfl | rfl | rfl | rfl | rfl | rfl
   ·go_wp2_with fail
    refine (q0x b a la ca xs f (t + 1000 + 1 + 1) 6 [0, 5, 1, 2, 3, 4] _ H35.out.src (by omega) (by intro y hy; simp only [List.mem_cons, List.not_mem_nil, or_false] at hy; have hrw := HOK.out.rows; have hga := HOK.out.all; have hgg := HOK.out.gS; constructor <;> omega) rfl (by omega) (by omega) _ rfl _ rfl).mono ?_
    rintro e w36 ⟨vp, rfl, hd, hs, hc⟩
    clear c3 l3 cm lm fm
    have H36 := hid (H35.out.call hs hc)
    clear hs hc
    have c3 := cellsOf H36.out.h3; have l3 := ltOf H36.out.h3; have cm := cellsOf H36.out.hm; have lm := ltOf H36.out.hm; have fm := q0c H36.out.hm
    have hp : q0u vp := by
     simp only [List.mem_cons, List.not_mem_nil, or_false] at hd
     have hrw := HOK.out.rows; have hga := HOK.out.all; have hgg := HOK.out.gS
     constructor <;> omega
    clear hd
    go_wp2_with fail
    clear c3 l3 cm lm fm
    have H37 := hid (H36.out.put (cs' := #[.int .i64 vp, .int .i64 s, .string nm, .int .i64 ln, .int .i64 g, .int .i64 r, .slice p6 l6 c6, .slice p7 l7 c7, .slice p8 l8 c8]) 0 (.int .i64 vp) rfl)
    generalize w36.setCell ⟨m, 0, none⟩ (.int .i64 vp) = w37 at H37 ⊢
    have c3 := cellsOf H37.out.h3; have l3 := ltOf H37.out.h3; have cm := cellsOf H37.out.hm; have lm := ltOf H37.out.hm; have fm := q0c H37.out.hm
    clear c3 l3 cm lm fm
    go_meet
    exact ⟨_, #[.int .i64 vp, .int .i64 s, .string nm, .int .i64 ln, .int .i64 g, .int .i64 r, .slice p6 l6 c6, .slice p7 l7 c7, .slice p8 l8 c8], ⟨_, _, _, _, _, _, _, _, _, rfl, ⟨hp, HB.out.2.1, ⟨by omega, by omega⟩, HB.out.2.2.2.1, HB.out.2.2.2.2⟩, HB.out.2.2.1, V6.out, V7.out, V8.out⟩, rfl, H37.out.mono (t' := t + 2000) (by omega)⟩
   ·go_wp2_with fail
    refine (q0x b a la ca xs f (t + 1000 + 1 + 1) 3 [0, 1000000000, 1000000001] _ H35.out.src (by omega) (by intro y hy; simp only [List.mem_cons, List.not_mem_nil, or_false] at hy; have hrw := HOK.out.rows; have hga := HOK.out.all; have hgg := HOK.out.gS; constructor <;> omega) rfl (by omega) (by omega) _ rfl _ rfl).mono ?_
    rintro e w38 ⟨vp, rfl, hd, hs, hc⟩
    clear c3 l3 cm lm fm
    have H38 := hid (H35.out.call hs hc)
    clear hs hc
    have c3 := cellsOf H38.out.h3; have l3 := ltOf H38.out.h3; have cm := cellsOf H38.out.hm; have lm := ltOf H38.out.hm; have fm := q0c H38.out.hm
    have hp : q0u vp := by
     simp only [List.mem_cons, List.not_mem_nil, or_false] at hd
     have hrw := HOK.out.rows; have hga := HOK.out.all; have hgg := HOK.out.gS
     constructor <;> omega
    clear hd
    go_wp2_with fail
    clear c3 l3 cm lm fm
    have H39 := hid (H38.out.put (cs' := #[.int .i64 k, .int .i64 vp, .string nm, .int .i64 ln, .int .i64 g, .int .i64 r, .slice p6 l6 c6, .slice p7 l7 c7, .slice p8 l8 c8]) 1 (.int .i64 vp) rfl)
    generalize w38.setCell ⟨m, 1, none⟩ (.int .i64 vp) = w39 at H39 ⊢
    have c3 := cellsOf H39.out.h3; have l3 := ltOf H39.out.h3; have cm := cellsOf H39.out.hm; have lm := ltOf H39.out.hm; have fm := q0c H39.out.hm
    clear c3 l3 cm lm fm
    go_meet
    exact ⟨_, #[.int .i64 k, .int .i64 vp, .string nm, .int .i64 ln, .int .i64 g, .int .i64 r, .slice p6 l6 c6, .slice p7 l7 c7, .slice p8 l8 c8], ⟨_, _, _, _, _, _, _, _, _, rfl, ⟨HB.out.1, hp, ⟨by omega, by omega⟩, HB.out.2.2.2.1, HB.out.2.2.2.2⟩, HB.out.2.2.1, V6.out, V7.out, V8.out⟩, rfl, H39.out.mono (t' := t + 2000) (by omega)⟩
   ·go_wp2_with fail
    refine (bentName_any b a la ca xs f (t + 1000 + 1 + 1) _ H35.out.src (by omega)).mono ?_
    rintro e w40 ⟨nm2, rfl, hnm, hs, hc⟩
    clear c3 l3 cm lm fm
    have H40 := hid (H35.out.call hs hc)
    clear hs hc
    have c3 := cellsOf H40.out.h3; have l3 := ltOf H40.out.h3; have cm := cellsOf H40.out.hm; have lm := ltOf H40.out.hm; have fm := q0c H40.out.hm
    have HNM := hid hnm; clear hnm
    go_wp2_with fail
    clear c3 l3 cm lm fm
    have H41 := hid (H40.out.put (cs' := #[.int .i64 k, .int .i64 s, .string nm2, .int .i64 ln, .int .i64 g, .int .i64 r, .slice p6 l6 c6, .slice p7 l7 c7, .slice p8 l8 c8]) 2 (.string nm2) rfl)
    generalize w40.setCell ⟨m, 2, none⟩ (.string nm2) = w41 at H41 ⊢
    have c3 := cellsOf H41.out.h3; have l3 := ltOf H41.out.h3; have cm := cellsOf H41.out.hm; have lm := ltOf H41.out.hm; have fm := q0c H41.out.hm
    clear c3 l3 cm lm fm
    go_meet
    exact ⟨_, #[.int .i64 k, .int .i64 s, .string nm2, .int .i64 ln, .int .i64 g, .int .i64 r, .slice p6 l6 c6, .slice p7 l7 c7, .slice p8 l8 c8], ⟨_, _, _, _, _, _, _, _, _, rfl, ⟨HB.out.1, HB.out.2.1, ⟨by omega, by omega⟩, HB.out.2.2.2.1, HB.out.2.2.2.2⟩, HNM.out, V6.out, V7.out, V8.out⟩, rfl, H41.out.mono (t' := t + 2000) (by omega)⟩
   ·have hw1 : IntKind.i64.wrap (ln + 1) = ln + 1 := IntWalk.i64_in _ (by omega)
    go_wp2_with fail
    refine (q0x b a la ca xs f (t + 1000 + 1 + 1) 4 [0, -2, 1000, ln + 1] _ H35.out.src (by omega) (by intro y hy; simp only [List.mem_cons, List.not_mem_nil, or_false] at hy; have hrw := HOK.out.rows; have hga := HOK.out.all; have hgg := HOK.out.gS; constructor <;> omega) rfl (by omega) (by omega) _ rfl _ rfl).mono ?_
    rintro e w42 ⟨vp, rfl, hd, hs, hc⟩
    clear c3 l3 cm lm fm
    have H42 := hid (H35.out.call hs hc)
    clear hs hc
    have c3 := cellsOf H42.out.h3; have l3 := ltOf H42.out.h3; have cm := cellsOf H42.out.hm; have lm := ltOf H42.out.hm; have fm := q0c H42.out.hm
    have hp : q0u vp := by
     simp only [List.mem_cons, List.not_mem_nil, or_false] at hd
     have hrw := HOK.out.rows; have hga := HOK.out.all; have hgg := HOK.out.gS
     constructor <;> omega
    clear hd
    go_wp2_with fail
    clear c3 l3 cm lm fm
    have H43 := hid (H42.out.put (cs' := #[.int .i64 k, .int .i64 s, .string nm, .int .i64 vp, .int .i64 g, .int .i64 r, .slice p6 l6 c6, .slice p7 l7 c7, .slice p8 l8 c8]) 3 (.int .i64 vp) rfl)
    generalize w42.setCell ⟨m, 3, none⟩ (.int .i64 vp) = w43 at H43 ⊢
    have c3 := cellsOf H43.out.h3; have l3 := ltOf H43.out.h3; have cm := cellsOf H43.out.hm; have lm := ltOf H43.out.hm; have fm := q0c H43.out.hm
    clear c3 l3 cm lm fm
    go_meet
    exact ⟨_, #[.int .i64 k, .int .i64 s, .string nm, .int .i64 vp, .int .i64 g, .int .i64 r, .slice p6 l6 c6, .slice p7 l7 c7, .slice p8 l8 c8], ⟨_, _, _, _, _, _, _, _, _, rfl, ⟨HB.out.1, HB.out.2.1, hp, HB.out.2.2.2.1, HB.out.2.2.2.2⟩, HB.out.2.2.1, V6.out, V7.out, V8.out⟩, rfl, H43.out.mono (t' := t + 2000) (by omega)⟩
   ·go_upto_region 41 with fail
    clear c3 l3 cm lm fm
    obtain ⟨CC, HCI, HCO⟩ := q0j (fun w' => Know w.heap.size #[.int .i64 x.gS, .int .i64 x.cM, .int .i64 x.data, .int .i64 x.spare, .int .i64 x.rows, .int .i64 x.cap, .int .i64 x.bT, .int .i64 x.qU, .int .i64 x.sG] w')
    refine q1j [8] CC (by kernel_rfl) (HCI.out _ (Know.of (q0a H35.out.h3))) (fun hcl hS => ?_)
    refine ggT 0 hcl hS ?_; clear hcl hS; intro hcl hS
    refine ggT 1 hcl hS ?_; clear hcl hS; intro hcl hS
    refine ggL 2 hcl hS HCO ?_; clear hcl hS; intro hcl hS
    refine ggL 3 hcl hS HCO ?_; clear hcl hS; intro hcl hS
    refine ggC 4 hcl rfl (by kernel_rfl) (fun K hK => ?_)
    go_simp
    go_at_call 100
    refine (q0r x HOK.out _).mono ?_; rintro e wn ⟨rfl, hc⟩; have R2 := hid ((H35.out.ext (Chg.refl [] w35).drew).ext hc); clear hc
    go_wp2_with fail
    refine hK.out _ _ (fun _ => HCI.out _ (Know.of R2.out.h3)) ?_
    clear hK K hcl hS
    intro hcl hS
    try simp only [Act.put, pA, pB, pC]
    refine ggC 5 hcl rfl (by kernel_rfl) (fun K hK => ?_)
    go_simp
    refine hK.out _ _ (fun _ => HCI.out _ (Know.of (R2.out.ext ((Chg.refl [] wn).alloc _)).h3)) ?_
    clear hK K hcl hS
    intro hcl hS
    try simp only [Act.put, pA, pB, pC]
    refine ggC 6 hcl rfl (by kernel_rfl) (fun K hK => ?_)
    go_simp
    go_at_call 130
    refine (q0x b a la ca xs f (t + 1000 + 1 + 1) 3 [-1, x.gS, x.all] _ R2.out.src (by omega) (by intro y hy; simp only [List.mem_cons, List.not_mem_nil, or_false] at hy; have hga := HOK.out.all; have hgg := HOK.out.gS; constructor <;> omega) rfl (by omega) (by omega) _ rfl _ rfl).mono ?_; rintro e wp ⟨vp, rfl, hd, hs, hc⟩; have R3 := hid (R2.out.call hs hc); have hp : q0u vp := (by simp only [List.mem_cons, List.not_mem_nil, or_false] at hd; have hga := HOK.out.all; have hgg := HOK.out.gS; constructor <;> omega); clear hs hc hd; have F3 := hid R3.out.hm; have cm := cellsOf F3.out; have lm := ltOf F3.out; have fm := q0c F3.out
    go_wp2_with fail
    refine hK.out _ _ (fun _ => HCI.out _ (Know.of R3.out.h3)) ?_
    clear hK K hcl hS
    intro hcl hS
    try simp only [Act.put, pA, pB, pC]
    refine ggT 7 hcl hS ?_; clear hcl hS; intro hcl hS
    refine ggC 8 hcl rfl (by kernel_rfl) (fun K hK => ?_)
    go_simp
    refine hK.out _ _ (Till.done (m := 8) (by simp) (by rfl)) ?_
    clear hK K hcl hS
    intro hcl hS
    try simp only [Act.put, pA, pB, pC]
    refine q3i (by kernel_rfl) ?_ _
    have R4 := hid (R3.out.put (cs' := #[.int .i64 k, .int .i64 s, .string nm, .int .i64 ln, .int .i64 vp, .int .i64 r, .slice p6 l6 c6, .slice p7 l7 c7, .slice p8 l8 c8]) 4 (.int .i64 vp) rfl)
    clear cm lm fm
    go_wp2_with fail
    go_meet
    exact ⟨_, #[.int .i64 k, .int .i64 s, .string nm, .int .i64 ln, .int .i64 vp, .int .i64 r, .slice p6 l6 c6, .slice p7 l7 c7, .slice p8 l8 c8], ⟨_, _, _, _, _, _, _, _, _, rfl, ⟨HB.out.1, HB.out.2.1, ⟨by omega, by omega⟩, hp, HB.out.2.2.2.2⟩, HB.out.2.2.1, V6.out, V7.out, V8.out⟩, rfl, R4.out.mono (t' := t + 2000) (by omega)⟩
   ·go_wp2_with fail
    refine (q0x b a la ca xs f (t + 1000 + 1 + 1) 2 [-1, x.rows] _ H35.out.src (by omega) (by intro y hy; simp only [List.mem_cons, List.not_mem_nil, or_false] at hy; have hrw := HOK.out.rows; have hga := HOK.out.all; have hgg := HOK.out.gS; constructor <;> omega) rfl (by omega) (by omega) _ rfl _ rfl).mono ?_
    rintro e w44 ⟨vp, rfl, hd, hs, hc⟩
    clear c3 l3 cm lm fm
    have H44 := hid (H35.out.call hs hc)
    clear hs hc
    have c3 := cellsOf H44.out.h3; have l3 := ltOf H44.out.h3; have cm := cellsOf H44.out.hm; have lm := ltOf H44.out.hm; have fm := q0c H44.out.hm
    have hp : q0u vp := by
     simp only [List.mem_cons, List.not_mem_nil, or_false] at hd
     have hrw := HOK.out.rows; have hga := HOK.out.all; have hgg := HOK.out.gS
     constructor <;> omega
    clear hd
    go_wp2_with fail
    clear c3 l3 cm lm fm
    have H45 := hid (H44.out.put (cs' := #[.int .i64 k, .int .i64 s, .string nm, .int .i64 ln, .int .i64 g, .int .i64 vp, .slice p6 l6 c6, .slice p7 l7 c7, .slice p8 l8 c8]) 5 (.int .i64 vp) rfl)
    generalize w44.setCell ⟨m, 5, none⟩ (.int .i64 vp) = w45 at H45 ⊢
    have c3 := cellsOf H45.out.h3; have l3 := ltOf H45.out.h3; have cm := cellsOf H45.out.hm; have lm := ltOf H45.out.hm; have fm := q0c H45.out.hm
    clear c3 l3 cm lm fm
    go_meet
    exact ⟨_, #[.int .i64 k, .int .i64 s, .string nm, .int .i64 ln, .int .i64 g, .int .i64 vp, .slice p6 l6 c6, .slice p7 l7 c7, .slice p8 l8 c8], ⟨_, _, _, _, _, _, _, _, _, rfl, ⟨HB.out.1, HB.out.2.1, ⟨by omega, by omega⟩, HB.out.2.2.2.1, hp⟩, HB.out.2.2.1, V6.out, V7.out, V8.out⟩, rfl, H45.out.mono (t' := t + 2000) (by omega)⟩
   ·go_upto_region 45 with fail
    clear c3 l3 cm lm fm
    obtain ⟨CC, HCI, HCO⟩ := q0j (fun w' => Know w.heap.size #[.int .i64 x.gS, .int .i64 x.cM, .int .i64 x.data, .int .i64 x.spare, .int .i64 x.rows, .int .i64 x.cap, .int .i64 x.bT, .int .i64 x.qU, .int .i64 x.sG] w' ∧ Know m #[.int .i64 k, .int .i64 s, .string nm, .int .i64 ln, .int .i64 g, .int .i64 r, .slice p6 l6 c6, .slice p7 l7 c7, .slice p8 l8 c8] w')
    refine q1j [8] CC (by kernel_rfl) (HCI.out _ ⟨(Know.of (q0a H35.out.h3)), (Know.of (q0a H35.out.hm))⟩) (fun hcl hS => ?_)
    refine ggT 0 hcl hS ?_; clear hcl hS; intro hcl hS
    refine ggL 1 hcl hS HCO ?_; clear hcl hS; intro hcl hS
    refine ggT 2 hcl hS ?_; clear hcl hS; intro hcl hS
    refine ggT 3 hcl hS ?_; clear hcl hS; intro hcl hS
    refine ggL 4 hcl hS HCO ?_; clear hcl hS; intro hcl hS
    refine ggC 5 hcl rfl (by kernel_rfl) (fun K hK => ?_)
    go_simp
    refine hK.out _ _ (fun _ => HCI.out _ ⟨(Know.of (H35.out.ext (((Chg.refl [] w35).drew).alloc _)).h3), (Know.of (H35.out.ext (((Chg.refl [] w35).drew).alloc _)).hm)⟩) ?_
    clear hK K hcl hS
    intro hcl hS
    try simp only [Act.put, pA, pB, pC]
    refine ggC 6 hcl rfl (by kernel_rfl) (fun K hK => ?_)
    go_simp
    go_at_call 130
    refine (q0x b a la ca xs f (t + 1000 + 1 + 1) 3 [0, -1, x.rows] _ (H35.out.src.ext ((Chg.refl [] w35).drew)) (by omega) (by intro y hy; simp only [List.mem_cons, List.not_mem_nil, or_false] at hy; have hrw := HOK.out.rows; constructor <;> omega) rfl (by omega) (by omega) _ rfl _ rfl).mono ?_; rintro e wp ⟨vp, rfl, hd, hs, hc⟩; have R3 := hid ((H35.out.ext ((Chg.refl [] w35).drew)).call hs hc); have hp : q0u vp := (by simp only [List.mem_cons, List.not_mem_nil, or_false] at hd; have hrw := HOK.out.rows; constructor <;> omega); clear hs hc hd
    go_wp2_with fail
    refine hK.out _ _ (fun _ => HCI.out _ ⟨(Know.of R3.out.h3), (Know.of R3.out.hm)⟩) ?_
    clear hK K hcl hS
    intro hcl hS
    try simp only [Act.put, pA, pB, pC]
    refine ggC 7 hcl rfl (by kernel_rfl) (fun K hK => ?_)
    go_simp
    refine hK.out _ _ (fun _ => HCI.out _ ⟨(Know.of (R3.out.ext ((Chg.refl [] wp).alloc (.cells #[.int .i64 vp] 2))).h3), (Know.of (R3.out.ext ((Chg.refl [] wp).alloc (.cells #[.int .i64 vp] 2))).hm)⟩) ?_
    clear hK K hcl hS
    intro hcl hS
    try simp only [Act.put, pA, pB, pC]
    refine ggC 8 hcl rfl (by kernel_rfl) (fun K hK => ?_)
    refine q4b rfl _ _ 25 rfl (R3.out.ext ((Chg.refl [] wp).alloc (.cells #[.int .i64 vp] 2))).ty.well (k := .it) Tryz.underlying25 KI (by omega) rfl V6.out (cs := [.int .i64 vp]) ⟨vp, rfl, hp⟩ (by show l6 + 1 ≤ 64; omega) ⟨wp.heap.size, 0, none⟩ 1 rfl (q1n wp #[.int .i64 vp] 2) ?_
    intro a' c' w4 T4 h41 h42 h43 h44 h45
    have R4 := hid ((R3.out.ext ((Chg.refl [] wp).alloc (.cells #[.int .i64 vp] 2))).step ⟨h41, h42, h44, h45⟩); have V64 := hid h43; have V74 := hid (V7.out.sub h42); have V84 := hid (V8.out.sub h42); have cm := cellsOf R4.out.hm; have lm := ltOf R4.out.hm; have fm := q0c R4.out.hm
    clear h41 h42 h43 h44 h45
    refine hK.out _ _ (Till.done (m := 8) (by simp) (by rfl)) ?_
    clear hK K hcl hS
    intro hcl hS
    try simp only [Act.put, pA, pB, pC]
    refine ggT 9 hcl hS ?_; clear hcl hS; intro hcl hS
    refine ggC 10 hcl rfl (by kernel_rfl) (fun K hK => ?_)
    go_simp
    refine hK.out _ _ (Till.done (m := 8) (by simp) (by rfl)) ?_
    clear hK K hcl hS
    intro hcl hS
    try simp only [Act.put, pA, pB, pC]
    refine q3i (by kernel_rfl) ?_ _
    have R5 := hid (R4.out.put (cs' := #[.int .i64 k, .int .i64 s, .string nm, .int .i64 ln, .int .i64 g, .int .i64 r, .slice a' (l6 + 1) c', .slice p7 l7 c7, .slice p8 l8 c8]) 6 (.slice a' (l6 + 1) c') rfl)
    clear cm lm fm
    go_wp2_with fail
    go_meet
    exact ⟨_, #[.int .i64 k, .int .i64 s, .string nm, .int .i64 ln, .int .i64 g, .int .i64 r, .slice a' (l6 + 1) c', .slice p7 l7 c7, .slice p8 l8 c8], ⟨_, _, _, _, _, _, _, _, _, rfl, ⟨HB.out.1, HB.out.2.1, ⟨by omega, by omega⟩, HB.out.2.2.2.1, HB.out.2.2.2.2⟩, HB.out.2.2.1, V64.out, V74.out, V84.out⟩, rfl, R5.out.mono (t' := t + 2000) (by omega)⟩
   ·have R4 := hid (H35.out.ext ((Chg.refl [] w35).alloc (.cells #[.int .u8 1] 5)))
    go_wp2_with (at_builtin; refine q5p rfl _ _ 62 rfl R4.out.ty.well (k := .bt) Tryz.underlying62 KU (by omega) rfl V8.out (cs := [.int .u8 1]) ⟨1, rfl⟩ (by show l8 + 1 ≤ 64; omega) ⟨w35.heap.size, 0, none⟩ 1 rfl (q1n w35 #[.int .u8 1] 5) ?_; intro a' c' w4 T4 h41 h42 h43 h44 h45; have K4 := hid (R4.out.step ⟨h41, h42, h44, h45⟩); have V84 := hid h43; have V64 := hid (V6.out.sub h42); have V74 := hid (V7.out.sub h42); clear h41 h42 h43 h44 h45 c3 l3 cm lm fm; have cm := cellsOf K4.out.hm; have lm := ltOf K4.out.hm; have fm := q0c K4.out.hm)
    have K5 := hid (K4.out.put (cs' := #[.int .i64 k, .int .i64 s, .string nm, .int .i64 ln, .int .i64 g, .int .i64 r, .slice p6 l6 c6, .slice p7 l7 c7, .slice a' (l8 + 1) c']) 8 (.slice a' (l8 + 1) c') rfl)
    go_meet
    exact ⟨_, #[.int .i64 k, .int .i64 s, .string nm, .int .i64 ln, .int .i64 g, .int .i64 r, .slice p6 l6 c6, .slice p7 l7 c7, .slice a' (l8 + 1) c'], ⟨_, _, _, _, _, _, _, _, _, rfl, ⟨HB.out.1, HB.out.2.1, ⟨by omega, by omega⟩, HB.out.2.2.2.1, HB.out.2.2.2.2⟩, HB.out.2.2.1, V64.out, V74.out, V84.out⟩, rfl, K5.out.mono (t' := t + 2000) (by omega)⟩
 case rest =>
 revert wc; intro w9 hcut
 obtain ⟨T9, cs, hel, hsz, hr⟩ := hcut
 have HE := hid hel; have HSZ := hid hsz; have R := hid hr
 have HONE := hid (List.all_eq_true.2 hel.one)
 clear hel hsz hr
 go_wp2_with (first | (refine q1c rfl _ 67 rfl rfl q1l Tryz.underlying67 R.out.hm HSZ.out ?_) | (refine q0z rfl _ _ 67 rfl rfl rfl q1l R.out.h4 HSZ.out rfl HONE.out ?_; intro w10 hb hc; have HB := hid hb; have HC := hid hc; clear hb hc))
 refine bodyPost_ret (v := .agg cs) (q0t _ 67 rfl rfl q1l Tryz.underlying67 HB.out HSZ.out) rfl ⟨cs, rfl, ⟨T9, HE.out, (R.out.ty.chg HC.out (fun y hy => by rw [List.mem_singleton] at hy; have := R.out.lm; omega)).mono (by have := R.out.lm; omega)⟩, ((R.out.src.chg HC.out (by rw [List.mem_singleton]; have := R.out.lb; omega) (fun y hy => by rw [List.mem_singleton]; have := R.out.lf y hy; omega))).mono (by omega), R.out.chg.trans HC.out (fun y hy => .inr (by rw [List.mem_singleton] at hy; omega))⟩
end Go.Proofs.YtphmpimgbmedbaaGreat
