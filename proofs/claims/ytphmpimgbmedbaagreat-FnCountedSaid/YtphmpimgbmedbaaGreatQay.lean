/- Several texts in one. -/
import Derived.Test.YtphmpimgbmedbaaGreatQap
import Derived.Test.YtphmpimgbmedbaaGreatQaq
import Derived.Test.YtphmpimgbmedbaaGreatQaj
import Derived.Test.YtphmpimgbmedbaaGreatQax
import Derived.Deep.DeepCutAuto
import Derived.Deep.CutRange
import Derived.Deep.CutBlock
set_option maxRecDepth 100000
set_option maxHeartbeats 8000000
namespace Go.Proofs.YtphmpimgbmedbaaGreat
open Go.RowKit
open Go.Lib (hid)
theorem some_tyK (b : Nat) (a : Option Addr) (la ca : Nat) (xs : List UInt8) (f : List Nat) (t k : Int) (n : Nat) (hk : k = n) (w : World) (h : SrcB b a la ca xs f t w) (hn2 : n ≤ 64) (ht : t ≤ 1073740000) :
  Calls Tryz.prog 132 #[.pointer (some ⟨b, 0, none⟩), .int .i64 k] w fun e w' => ∃ (A : Option Addr) (C : Nat), e = .returned (.slice A n C) ∧ (∃ T, SlT T .bt (.slice A n C) ∧ TyN w.heap.size T w') ∧ SrcB b a la ca xs f (t + 200) w' ∧ Chg [b] w w' := by
 subst hk
 exact q5y b a la ca xs f t n w h hn2 ht
theorem field_world {u0 u1 u2 u3 u4 u5 u6 u7 u8 u9 u10 u11 u12 u13 u14 u15 : Value} (w : World) : (Instr.field 36 (.agg #[u0, u1, u2, u3, u4, u5, u6, u7, u8, u9, u10, u11, u12, u13, u14, u15]) 1).run Tryz.prog w = .ok (.agg #[u1, u2, u3, u4, u5, u6, u7, u8, u9, u10, u11, u12, u13, u14, u15]) w := by kernel_rfl
theorem zero_rc {T : List TRow} {w : World} (h : Well T w) : SlT (⟨w.heap.size, .rc, 201, 201⟩ :: T) .rc (.slice (some ⟨w.heap.size, 0, none⟩) 201 201) ∧ TyStep T w (⟨w.heap.size, .rc, 201, 201⟩ :: T) (w.alloc (.cells (zrow (.agg #[.int .i64 0, .int .i64 0, .string ⟨#[]⟩, .int .i64 0, .int .i64 0, .int .i64 0, .slice none 0 0, .slice none 0 0, .slice none 0 0]) (201 * 9)) 67)) := by
 have hz : (Value.agg #[.int .i64 0, .int .i64 0, .string ⟨#[]⟩, .int .i64 0, .int .i64 0, .int .i64 0, .slice none 0 0, .slice none 0 0, .slice none 0 0]).cells = #[.int .i64 0, .int .i64 0, .string ⟨#[]⟩, .int .i64 0, .int .i64 0, .int .i64 0, .slice none 0 0, .slice none 0 0, .slice none 0 0] := by simp [Value.cells]
 have hs : (zrow (.agg #[.int .i64 0, .int .i64 0, .string ⟨#[]⟩, .int .i64 0, .int .i64 0, .int .i64 0, .slice none 0 0, .slice none 0 0, .slice none 0 0]) (201 * 9)).size = 201 * 9 := by unfold zrow madeCells; simp
 refine ⟨⟨_, _, _, rfl, by decide, Nat.le_refl _, by simp [maxLen], .inr ⟨_, List.mem_cons_self, rfl, 0, by rw [Nat.zero_mul], by simp, by simp⟩⟩, (TyStep.refl h).push .rc 201 201 _ (Nat.le_refl _) hs (fun i hi => ?_)⟩
 have hl : ((zrow (.agg #[.int .i64 0, .int .i64 0, .string ⟨#[]⟩, .int .i64 0, .int .i64 0, .int .i64 0, .slice none 0 0, .slice none 0 0, .slice none 0 0]) (201 * 9)).toList.drop (i * 9)).take 9 = #[.int .i64 0, .int .i64 0, .string ⟨#[]⟩, .int .i64 0, .int .i64 0, .int .i64 0, .slice none 0 0, .slice none 0 0, .slice none 0 0].toList := by
  apply List.ext_getElem?
  intro j
  by_cases hj : j < 9
  ·rw [List.getElem?_take_of_lt hj, List.getElem?_drop, Array.getElem?_toList]
   unfold zrow madeCells
   rw [hz, Array.getElem?_map, Array.getElem?_range, if_pos (by omega)]
   have h9 : (i * 9 + j) % 9 = j := by omega
   have hj9 : j = 0 ∨ j = 1 ∨ j = 2 ∨ j = 3 ∨ j = 4 ∨ j = 5 ∨ j = 6 ∨ j = 7 ∨ j = 8 := by omega
   show some (_[(i * 9 + j) % 9]!) = _
   rw [h9]
   rcases hj9 with rfl | rfl | rfl | rfl | rfl | rfl | rfl | rfl | rfl <;> rfl
  ·rw [List.getElem?_eq_none (by rw [List.length_take]; omega), List.getElem?_eq_none (by simp; omega)]
 show ElT T .rc _
 rw [show Kd.n .rc = 9 from rfl, hl]
 exact ⟨0, 0, ⟨#[]⟩, 0, 0, 0, _, _, _, rfl, ⟨i64z, i64z, i64z, i64z, i64z⟩, by decide, SlT.nil _ _, SlT.nil _ _, SlT.nil _ _⟩
def ShpI (s : Shp) : Prop := q0u s.gS ∧ q0u s.cM ∧ q0u s.data ∧ q0u s.spare ∧ q0u s.rows ∧ q0u s.cap ∧ q0u s.bT ∧ q0u s.qU ∧ q0u s.sG
theorem ShpI.small {s : Shp} (h : s.small) : ShpI s := by
 unfold Shp.small at h
 refine ⟨?_, ?_, ?_, ?_, ?_, ?_, ?_, ?_, ?_⟩ <;> constructor <;> omega
def WdO (tb : Nat) (T : List TRow) (cs ts : Array Value) : Prop := ∃ (s : Shp) (pg : Option Addr) (G cg D R : Nat) (po : Option Addr) (lo co nt : Nat) (wr st : Int) (dn q0 q1 : Bool) (pa : Option Addr) (l1 c1 : Nat) (pb : Option Addr) (l2 c2 : Nat),
 cs = #[.int .i64 s.gS, .int .i64 s.cM, .int .i64 s.data, .int .i64 s.spare, .int .i64 s.rows, .int .i64 s.cap, .int .i64 s.bT, .int .i64 s.qU, .int .i64 s.sG, .slice pg G cg, .slice po lo co, .slice (some ⟨tb, 0, none⟩) nt 2, .int .i64 wr, .int .i64 st, .bool dn] ∧ ts = #[.bool q0, .slice pa l1 c1, .bool q1, .slice pb l2 c2] ∧ ShpI s ∧ SlT T (.ds D R) (.slice pg G cg) ∧ SlT T .it (.slice po lo co) ∧ (nt = 1 ∨ nt = 2) ∧ (q0u wr ∧ wr ≠ 1000000000) ∧ q0u st ∧ SlT T .rc (.slice pa l1 c1) ∧ SlT T .rc (.slice pb l2 c2) ∧ l1 ≤ 205 ∧ l2 ≤ 205
theorem l5Drawn_ty (b : Nat) (a : Option Addr) (la ca : Nat) (xs : List UInt8) (f : List Nat) (t : Int) (w : World) (h : SrcB b a la ca xs f t w) (ht : t ≤ 1000000000) :
  Calls Tryz.prog 128 #[.pointer (some ⟨b, 0, none⟩)] w fun e w' => ∃ cs : Array Value, e = .returned (.agg cs) ∧ (∃ (T : List TRow) (tb : Nat) (ts : Array Value), WdO tb T cs ts ∧ w'.heap[tb]? = some (.cells ts 69 (0, 0)) ∧ tb ∉ T.map (·.b) ∧ w.heap.size ≤ tb ∧ TyN w.heap.size T w') ∧ SrcB b a la ca xs f (t + 30000) w' ∧ Chg [b] w w' := by
 obtain ⟨KI, _⟩ := kindI
 obtain ⟨KR, _⟩ := q7j
 obtain ⟨KD, _⟩ := kindDrive
 have HL := hid (And.intro h.lt (fun y (hy : y ∈ f) => q0p.sl_lt h.2.1 y hy))
 have HN1 := hid (show w.heap.size ∉ [b] from by rw [List.mem_singleton]; have := h.lt; omega)
 have HS0 := hid (h.ext ((Chg.refl [] w).alloc (.cells #[.int .i64 0, .int .i64 0, .int .i64 0, .int .i64 0, .int .i64 0, .int .i64 0, .int .i64 0, .int .i64 0, .int .i64 0, .slice none 0 0, .slice none 0 0, .slice none 0 0, .int .i64 0, .int .i64 0, .bool false] 34)))
 have HC0 := hid ((Chg.refl [b] w).alloc (.cells #[.int .i64 0, .int .i64 0, .int .i64 0, .int .i64 0, .int .i64 0, .int .i64 0, .int .i64 0, .int .i64 0, .int .i64 0, .slice none 0 0, .slice none 0 0, .slice none 0 0, .int .i64 0, .int .i64 0, .bool false] 34))
 have G2 := hid (q0o w (.cells #[.int .i64 0, .int .i64 0, .int .i64 0, .int .i64 0, .int .i64 0, .int .i64 0, .int .i64 0, .int .i64 0, .int .i64 0, .slice none 0 0, .slice none 0 0, .slice none 0 0, .int .i64 0, .int .i64 0, .bool false] 34))
 clear h
 go_enter Tryz.func128, Tryz.ntmps128
 go_wp2_with fail
 refine (shape_any b a la ca xs f t _ HS0.out (by omega)).mono ?_
 rintro e wa ⟨x, rfl, ⟨hok, -, -⟩, hs, hc⟩
 have HOK := hid hok; have HSA := hid hs; have HCA := hid (HC0.out.trans hc (fun y hy => .inl hy)); have GA2 := hid (hc.keepb G2.out HN1.out)
 clear hok hs hc HS0 HC0 G2
 try simp only [Shp.cells]
 go_wp2_with fail
 refine (newWorld_ty x HOK.out _).mono ?_
 rintro e wb ⟨G, pg, cg, tb, rfl, hG, ⟨T0, hv, hty, hnt⟩, htb, hlt, hc⟩
 obtain ⟨nd, hnd⟩ : ∃ n : Nat, x.drives = n := ⟨x.drives.toNat, by have := HOK.out.drives; omega⟩
 obtain ⟨nr, hnr⟩ : ∃ n : Nat, x.rows = n := ⟨x.rows.toNat, by have := HOK.out.rows; omega⟩
 rw [show x.drives.toNat = nd by omega, show x.rows.toNat = nr by omega] at hv
 have hG1 : 1 ≤ G ∧ G ≤ 6 := by have := HOK.out.all; omega
 have hd1 : 1 ≤ nd ∧ nd ≤ 5 := by have := HOK.out.drives; omega
 have hr1 : 1 ≤ nr ∧ nr ≤ 6 := by have := HOK.out.rows; omega
 have HG := hid hG; have HNR := hid hnr
 clear hG hnd hnr
 obtain ⟨gb, goff, -, -, -, rfl, -⟩ := hv.ds_at hty.well (show 0 < G by omega)
 have HV0 := hid hv
 have hsa : w.heap.size + 1 ≤ wa.heap.size := ltOf GA2.out
 have GB2 := hc.keep0 GA2.out
 have lb := ltOf htb
 have hfd := @field_world
 go_upto_region 2 with (refine q2l rfl _ _ 34 rfl rfl rfl rfl q1x rfl rfl rfl ?_)
 try simp only [Act.put]
 have H0 := hid (show WdW b a la ca xs f w wb.heap.size tb T0 (t + 9) #[.int .i64 x.gS, .int .i64 x.cM, .int .i64 x.data, .int .i64 x.spare, .int .i64 x.rows, .int .i64 x.cap, .int .i64 x.bT, .int .i64 x.qU, .int .i64 x.sG, .slice (some ⟨gb, goff, none⟩) G cg, .slice none 0 0, .slice (some ⟨tb, 0, none⟩) 2 2, .int .i64 0, .int .i64 (-1), .bool false] #[.bool false, .slice none 0 0, .bool false, .slice none 0 0] (wb.alloc (.cells #[.int .i64 x.gS, .int .i64 x.cM, .int .i64 x.data, .int .i64 x.spare, .int .i64 x.rows, .int .i64 x.cap, .int .i64 x.bT, .int .i64 x.qU, .int .i64 x.sG, .slice (some ⟨gb, goff, none⟩) G cg, .slice none 0 0, .slice (some ⟨tb, 0, none⟩) 2 2, .int .i64 0, .int .i64 (-1), .bool false] 34)) from ⟨q0b GB2 _, q0o wb _, q0b htb _, (hty.ext ((Chg.refl [] wb).alloc _)).mono hsa, (fun hm => by obtain ⟨q, hq, e⟩ := List.mem_map.1 hm; have e : q.b = wb.heap.size := e; have := hty.well.lt hq; omega), hnt, (HSA.out.ext hc).ext ((Chg.refl [] wb).alloc _), (HCA.out.trans0 hc).alloc _, ltOf GB2, by omega, by omega, HL.out.1, HL.out.2⟩)
 generalize wb.alloc (.cells #[.int .i64 x.gS, .int .i64 x.cM, .int .i64 x.data, .int .i64 x.spare, .int .i64 x.rows, .int .i64 x.cap, .int .i64 x.bT, .int .i64 x.qU, .int .i64 x.sG, .slice (some ⟨gb, goff, none⟩) G cg, .slice none 0 0, .slice (some ⟨tb, 0, none⟩) 2 2, .int .i64 0, .int .i64 (-1), .bool false] 34) = w0 at H0 ⊢
 generalize wb.heap.size = m at H0 ⊢
 clear hfd hv hty hnt htb hlt hc GB2 lb HSA HCA GA2 hsa
 have cm := cellsOf H0.out.hm; have lm := ltOf H0.out.hm; have fm := q0c H0.out.hm; have ct := cellsOf H0.out.ht; have lt := ltOf H0.out.ht; have ft := q0c H0.out.ht
 go_wp2_with fail
 refine (q1g b a la ca xs f (t + 9) 12 _ H0.out.src (by omega) (by omega) (by omega)).mono ?_
 rintro e w1 ⟨v, rfl, hd, hs, hc⟩
 clear cm lm fm ct lt ft
 have H1 := hid (H0.out.call hs hc)
 clear hs
 have C1 := hid hc; clear hc
 have cm := cellsOf H1.out.hm; have lm := ltOf H1.out.hm; have fm := q0c H1.out.hm; have ct := cellsOf H1.out.ht; have lt := ltOf H1.out.ht; have ft := q0c H1.out.ht
 obtain ⟨k0, rfl⟩ := Int.eq_ofNat_of_zero_le hd.1
 have hk0 : k0 ≤ 12 := by have := hd.2.1 (by omega); omega
 clear hd
 go_wp2_with fail
 clear cm lm fm ct lt ft
 go_loopw [4] (fun v4 wr => ∃ (k : Nat) (T : List TRow) (Wr : World), Wr = wr ∧ k ≤ k0 ∧ v4 = .int .i64 ((k0 : Int) - k) ∧ SlT T (.ds nd nr) (.slice (some ⟨gb, goff, none⟩) G cg) ∧ WdW b a la ca xs f w m tb T (t + 100 + 300 * k) #[.int .i64 x.gS, .int .i64 x.cM, .int .i64 x.data, .int .i64 x.spare, .int .i64 x.rows, .int .i64 x.cap, .int .i64 x.bT, .int .i64 x.qU, .int .i64 x.sG, .slice (some ⟨gb, goff, none⟩) G cg, .slice none 0 0, .slice (some ⟨tb, 0, none⟩) 2 2, .int .i64 0, .int .i64 (-1), .bool false] #[.bool false, .slice none 0 0, .bool false, .slice none 0 0] wr) (fun v4 _ => (intOf v4).toNat)
 case atStart => exact ⟨0, _, _, rfl, by omega, by simp, HV0.out, H1.out.mono (t' := t + 100 + 300 * ((0 : Nat) : Int)) (by omega)⟩
 case round =>
  obtain ⟨k, T, wr, rfl, hk, rfl, hv, hr⟩ := hrel
  have V0 := hid hv; have R0 := hid hr
  clear hv hr
  by_cases hlt : 0 < (k0 : Int) - (k : Int)
  ·have cm := cellsOf R0.out.hm; have lm := ltOf R0.out.hm; have fm := q0c R0.out.hm; have ct := cellsOf R0.out.ht; have lt := ltOf R0.out.ht; have ft := q0c R0.out.ht
   go_wp2_with fail
   refine (q1g b a la ca xs f (t + 100 + 300 * k) G _ R0.out.src (by omega) (by omega) (by omega)).mono ?_
   rintro e w2 ⟨v, rfl, hd, hs, hc⟩
   clear cm lm fm ct lt ft
   have H2 := hid (R0.out.call hs hc)
   clear hs
   have C2 := hid hc; clear hc
   have cm := cellsOf H2.out.hm; have lm := ltOf H2.out.hm; have fm := q0c H2.out.hm; have ct := cellsOf H2.out.ht; have lt := ltOf H2.out.ht; have ft := q0c H2.out.ht
   obtain ⟨gi, rfl⟩ := Int.eq_ofNat_of_zero_le hd.1
   have hgi : gi < G := by have := hd.2.1 (by omega); omega
   clear hd
   obtain ⟨gb2, goff2, p2, l2, c2, ha2, hc2, hv2, hl2, -, hp2⟩ := V0.out.ds_at H2.out.ty.well hgi
   obtain ⟨rfl, rfl⟩ : gb = gb2 ∧ goff = goff2 := by simpa using ha2
   obtain ⟨b2, off2, -, -, -, -, rfl, -⟩ := hv2.dr_at H2.out.ty.well (show 0 < l2 by omega)
   have V2 := hid hv2; have P2 := hid hp2
   have hl16 : l2 ≤ 16 := hv2.len
   clear ha2 hv2 hp2
   go_wp2_with fail
   refine (q1g b a la ca xs f (t + 100 + 300 * k + 1) l2 _ H2.out.src (by omega) (by omega) (by omega)).mono ?_
   rintro e w3 ⟨v, rfl, hd, hs, hc⟩
   clear cm lm fm ct lt ft
   have H3 := hid (H2.out.call hs hc)
   clear hs
   have C3 := hid hc; clear hc
   have cm := cellsOf H3.out.hm; have lm := ltOf H3.out.hm; have fm := q0c H3.out.hm; have ct := cellsOf H3.out.ht; have lt := ltOf H3.out.ht; have ft := q0c H3.out.ht
   have hc2 := H2.out.ckeep P2.out C3.out hc2
   obtain ⟨di, rfl⟩ := Int.eq_ofNat_of_zero_le hd.1
   have hdi : di < l2 := by have := hd.2.1 (by omega); omega
   clear hd
   obtain ⟨b3q, off3q, q3, p3, l3, c3, ha3, -, hc3, hv3, hl3, hp3⟩ := V2.out.dr_at H3.out.ty.well hdi
   obtain ⟨rfl, rfl⟩ : b2 = b3q ∧ off2 = off3q := by simpa using ha3
   obtain ⟨b3, off3, -, -, -, -, rfl, -⟩ := hv3.bk_at H3.out.ty.well (show 0 < l3 by omega)
   have V3 := hid hv3; have P3 := hid hp3
   clear ha3 hv3 hp3
   go_upto_region 7 with fail
   clear cm lm fm ct lt ft
   obtain ⟨CC, HCI, HCO⟩ := q0j (fun w' => Know m #[.int .i64 x.gS, .int .i64 x.cM, .int .i64 x.data, .int .i64 x.spare, .int .i64 x.rows, .int .i64 x.cap, .int .i64 x.bT, .int .i64 x.qU, .int .i64 x.sG, .slice (some ⟨gb, goff, none⟩) G cg, .slice none 0 0, .slice (some ⟨tb, 0, none⟩) 2 2, .int .i64 0, .int .i64 (-1), .bool false] w' ∧ w'.cell? ⟨gb, goff + gi, none⟩ = some (.slice (some ⟨b2, off2, none⟩) l2 c2) ∧ w'.cell? ⟨b2, off2 + di * 2 + 1, none⟩ = some (.slice (some ⟨b3, off3, none⟩) l3 c3))
   refine q1j [20] CC (by kernel_rfl) (HCI.out _ ⟨(Know.of (q0a H3.out.hm)), hc2, hc3⟩) (fun hcl hS => ?_)
   refine ggT 0 hcl hS ?_; clear hcl hS; intro hcl hS
   refine ggL 1 hcl hS HCO ?_; clear hcl hS; intro hcl hS
   refine ggT 2 hcl hS ?_; clear hcl hS; intro hcl hS
   refine ggT 3 hcl hS ?_; clear hcl hS; intro hcl hS
   refine ggL 4 hcl hS HCO ?_; clear hcl hS; intro hcl hS
   refine ggT 5 hcl hS ?_; clear hcl hS; intro hcl hS
   refine ggT 6 hcl hS ?_; clear hcl hS; intro hcl hS
   refine ggT 7 hcl hS ?_; clear hcl hS; intro hcl hS
   refine ggL 8 hcl hS HCO ?_; clear hcl hS; intro hcl hS
   refine ggT 9 hcl hS ?_; clear hcl hS; intro hcl hS
   refine ggT 10 hcl hS ?_; clear hcl hS; intro hcl hS
   refine ggT 11 hcl hS ?_; clear hcl hS; intro hcl hS
   refine ggL 12 hcl hS HCO ?_; clear hcl hS; intro hcl hS
   refine ggT 14 hcl hS ?_; clear hcl hS; intro hcl hS
   refine ggT 16 hcl hS ?_; clear hcl hS; intro hcl hS
   refine ggC 13 hcl rfl (by kernel_rfl) (fun K hK => ?_)
   go_simp
   go_at_call 131
   refine (q1g b a la ca xs f (t + 100 + 300 * k + 1 + 1) x.rows _ (H3.out.ext (Chg.refl [] w3).drew).src (by omega) (by have := HOK.out.rows; omega) (by have := HOK.out.rows; omega)).mono ?_; rintro e wn ⟨v, rfl, hd, hs, hc⟩; obtain ⟨ri, rfl⟩ := Int.eq_ofNat_of_zero_le hd.1; have hri : ri < l3 := (by have := hd.2.1 HOK.out.rows.1; have := HNR.out; omega); have R1 := hid ((H3.out.ext (Chg.refl [] w3).drew).call hs hc); have ha1 := (H3.out.ext (Chg.refl [] w3).drew).ckeep P2.out hc hc2; have hb1 := (H3.out.ext (Chg.refl [] w3).drew).ckeep P3.out hc hc3; clear hs hc hd
   go_wp2_with fail
   refine hK.out _ _ (fun _ => HCI.out _ ⟨(Know.of R1.out.hm), ha1, hb1⟩) ?_
   clear hK K hcl hS
   intro hcl hS
   try simp only [Act.put, pA, pB, pC]
   refine ggC 15 hcl rfl (by kernel_rfl) (fun K hK => ?_)
   go_simp
   go_at_call 131
   refine (q1g b a la ca xs f (t + 100 + 300 * k + 1 + 1 + 1) 30 _ R1.out.src (by omega) (by omega) (by omega)).mono ?_; rintro e wo ⟨sv, rfl, hd, hs, hc⟩; have hsv : q0u sv := (by have := hd.1; have := hd.2.1 (by omega); constructor <;> omega); have R2 := hid (R1.out.call hs hc); have ha2 := R1.out.ckeep P2.out hc ha1; have hb2 := R1.out.ckeep P3.out hc hb1; clear hs hc hd ha1 hb1
   go_wp2_with fail
   refine hK.out _ _ (fun _ => HCI.out _ ⟨(Know.of R2.out.hm), ha2, hb2⟩) ?_
   clear hK K hcl hS
   intro hcl hS
   try simp only [Act.put, pA, pB, pC]
   refine ggC 17 hcl rfl (by kernel_rfl) (fun K hK => ?_)
   go_simp
   go_at_call 132
   refine (some_tyK b a la ca xs f (t + 100 + 300 * k + 1 + 1 + 1 + 1) 4 4 rfl _ R2.out.src (by omega) (by omega)).mono ?_; rintro e wp ⟨A4, C4, rfl, ⟨T4, hv4, hty⟩, hs, hc⟩; have R3 := hid (R2.out.rows hty hs hc); have ha3 := R2.out.ckeep P2.out hc ha2; have hb3 := R2.out.ckeep P3.out hc hb2; have U4 := hid (SlT.sub hv4 (SubT.left T T4)); have V4 := hid (V0.out.sub (SubT.right T T4)); obtain ⟨b3q, off3q, s9, p9, l9, c9, e9, k1, k2, hp9⟩ := (V3.out.sub (SubT.right T T4)).bk_at R3.out.ty.well hri; obtain ⟨rfl, rfl⟩ : b3 = b3q ∧ off3 = off3q := (by simpa using e9); have P9 := hid hp9; have lp9 := hp9.lt R3.out.ty.well; have fp9 := hp9.fr R3.out.ty.well; clear hs hc hty hv4 ha2 hb2 e9 hp9
   go_wp2_with fail
   refine hK.out _ _ (fun _ => HCI.out _ ⟨(Know.of R3.out.hm), ha3, hb3⟩) ?_
   clear hK K hcl hS
   intro hcl hS
   try simp only [Act.put, pA, pB, pC]
   refine ggT 18 hcl hS ?_; clear hcl hS; intro hcl hS
   refine ggT 19 hcl hS ?_; clear hcl hS; intro hcl hS
   refine ggC 20 hcl rfl (by kernel_rfl) (fun K hK => ?_)
   go_simp
   refine hK.out _ _ (Till.done (m := 20) (by simp) (by rfl)) ?_
   clear hK K hcl hS
   intro hcl hS
   try simp only [Act.put, pA, pB, pC]
   refine q3i (by kernel_rfl) ?_ _
   have R4 := hid (R3.out.step (put_two R3.out.ty.well rfl P9.out ⟨sv, _, rfl, hsv, U4.out⟩))
   clear ha3 hb3 k1 k2 lp9 fp9
   go_wp2_with fail
   go_roundw
   case rel => exact ⟨k + 1, _, _, rfl, by omega, by go_num, V4.out, R4.out.mono (t' := t + 100 + 300 * ((k + 1 : Nat) : Int)) (by omega)⟩
   case measure => simp [intOf]; omega
  ·have R1 := hid (R0.out.mono (t' := t + 4000) (by omega))
   clear R0 hk
   have cm := cellsOf R1.out.hm; have lm := ltOf R1.out.hm; have fm := q0c R1.out.hm; have ct := cellsOf R1.out.ht; have lt := ltOf R1.out.ht; have ft := q0c R1.out.ht
   go_wp2_with fail
   refine (q1g b a la ca xs f (t + 4000) 4 _ R1.out.src (by omega) (by omega) (by omega)).mono ?_
   rintro e w4 ⟨v, rfl, hd, hs, hc⟩
   clear cm lm fm ct lt ft
   have H4 := hid (R1.out.call hs hc)
   clear hs
   have C4 := hid hc; clear hc
   have cm := cellsOf H4.out.hm; have lm := ltOf H4.out.hm; have fm := q0c H4.out.hm; have ct := cellsOf H4.out.ht; have lt := ltOf H4.out.ht; have ft := q0c H4.out.ht
   obtain ⟨k1, rfl⟩ := Int.eq_ofNat_of_zero_le hd.1
   have hk1 : k1 ≤ 3 := by have := hd.2.1 (by omega); omega
   clear hd
   go_wp2_with fail
   clear cm lm fm ct lt ft
   go_loopw [7] (fun v7 wr => ∃ (k : Nat) (T : List TRow) (pa : Option Addr) (na ca1 : Nat) (pb : Option Addr) (nb cb1 : Nat) (Wr : World), Wr = wr ∧ k ≤ k1 ∧ v7 = .int .i64 ((k1 : Int) - k) ∧ SlT T (.ds nd nr) (.slice (some ⟨gb, goff, none⟩) G cg) ∧ SlT T .rc (.slice pa na ca1) ∧ SlT T .rc (.slice pb nb cb1) ∧ na ≤ k ∧ nb ≤ k ∧ WdW b a la ca xs f w m tb T (t + 4100 + 4100 * k) #[.int .i64 x.gS, .int .i64 x.cM, .int .i64 x.data, .int .i64 x.spare, .int .i64 x.rows, .int .i64 x.cap, .int .i64 x.bT, .int .i64 x.qU, .int .i64 x.sG, .slice (some ⟨gb, goff, none⟩) G cg, .slice none 0 0, .slice (some ⟨tb, 0, none⟩) 2 2, .int .i64 0, .int .i64 (-1), .bool false] #[.bool false, .slice pa na ca1, .bool false, .slice pb nb cb1] wr) (fun v7 _ => (intOf v7).toNat)
   case atStart => exact ⟨0, _, none, 0, 0, none, 0, 0, _, rfl, by omega, by simp, V0.out, SlT.nil _ _, SlT.nil _ _, Nat.le_refl _, Nat.le_refl _, H4.out.mono (t' := t + 4100 + 4100 * ((0 : Nat) : Int)) (by omega)⟩
   case round =>
    obtain ⟨k, T, pa, na, ca1, pb, nb, cb1, wr, rfl, hk, rfl, hv, hva, hvb, hna, hnb, hr⟩ := hrel
    have V0 := hid hv; have VA := hid hva; have VB := hid hvb; have R0 := hid hr
    clear hv hva hvb hr
    by_cases hlt : 0 < (k1 : Int) - (k : Int)
    ·have cm := cellsOf R0.out.hm; have lm := ltOf R0.out.hm; have fm := q0c R0.out.hm; have ct := cellsOf R0.out.ht; have lt := ltOf R0.out.ht; have ft := q0c R0.out.ht
     go_wp2_with fail
     refine (l5Rec_ty b a la ca xs f (t + 4100 + 4100 * k) x HOK.out _ R0.out.src (by omega)).mono ?_
     rintro e wq ⟨cs, rfl, ⟨T1, hel, hty⟩, hs, hc⟩
     clear cm lm fm ct lt ft
     have R1 := hid (R0.out.rows hty hs hc)
     obtain ⟨x0, x1, nm, x3, x4, x5, v6, v7, v8, ecs, oo, hnm, s6, s7, s8⟩ := hel.sub (SubT.left T T1)
     obtain rfl := Array.toList_inj.1 (ecs.trans (List.toList_toArray).symm)
     obtain ⟨a6, l6, c6, rfl, -⟩ := id s6; obtain ⟨a7, l7, c7, rfl, -⟩ := id s7; obtain ⟨a8, l8, c8, rfl, -⟩ := id s8
     have HEL := hid (show ElT (T1 ++ T) .rc [.int .i64 x0, .int .i64 x1, .string nm, .int .i64 x3, .int .i64 x4, .int .i64 x5, .slice a6 l6 c6, .slice a7 l7 c7, .slice a8 l8 c8] from ⟨x0, x1, nm, x3, x4, x5, _, _, _, rfl, oo, hnm, s6, s7, s8⟩)
     clear hs hc hty oo hnm s6 s7 s8 ecs hel
     have V5 := hid (V0.out.sub (SubT.right T T1))
     have V6 := hid (VA.out.sub (SubT.right T T1))
     have V7 := hid (VB.out.sub (SubT.right T T1))
     have cm := cellsOf R1.out.hm; have lm := ltOf R1.out.hm; have fm := q0c R1.out.hm; have ct := cellsOf R1.out.ht; have lt := ltOf R1.out.ht; have ft := q0c R1.out.ht
     go_upto_region 12 with (refine q2l rfl _ _ 67 rfl rfl rfl rfl q1l rfl rfl rfl ?_)
     try simp only [Act.put]
     clear cm lm fm ct lt ft
     have R2 := hid (R1.out.ext ((Chg.refl [] wq).alloc (.cells #[.int .i64 x0, .int .i64 x1, .string nm, .int .i64 x3, .int .i64 x4, .int .i64 x5, .slice a6 l6 c6, .slice a7 l7 c7, .slice a8 l8 c8] 67))); have B2 := hid (q0o wq (.cells #[.int .i64 x0, .int .i64 x1, .string nm, .int .i64 x3, .int .i64 x4, .int .i64 x5, .slice a6 l6 c6, .slice a7 l7 c7, .slice a8 l8 c8] 67)); have NB2 := hid R1.out.ty.well.notSize; have NE2 := hid (show wq.heap.size ≠ tb from by have := ltOf R1.out.ht; omega)
     generalize wq.alloc (.cells #[.int .i64 x0, .int .i64 x1, .string nm, .int .i64 x3, .int .i64 x4, .int .i64 x5, .slice a6 l6 c6, .slice a7 l7 c7, .slice a8 l8 c8] 67) = wq2 at R2 B2 ⊢
     generalize wq.heap.size = rb at B2 NB2 NE2 ⊢
     obtain ⟨rr, fr, hrep, -⟩ := dec_rec R2.out.ty.well HEL.out
     have cm := cellsOf R2.out.hm; have lm := ltOf R2.out.hm; have fm := q0c R2.out.hm; have ct := cellsOf R2.out.ht; have lt := ltOf R2.out.ht; have ft := q0c R2.out.ht
     have cr := cellsOf B2.out; have lr := ltOf B2.out
     go_wp2_with fail
     refine (q5x x rr #[.int .i64 x0, .int .i64 x1, .string nm, .int .i64 x3, .int .i64 x4, .int .i64 x5, .slice a6 l6 c6, .slice a7 l7 c7, .slice a8 l8 c8] fr _ hrep).mono ?_
     rintro e w3 ⟨rfl, hc⟩
     clear cm lm fm ct lt ft
     have R3 := hid (R2.out.ext hc); have B3 := hid (hc.keep0 B2.out)
     clear hc cr lr hrep R1 R2 B2
     generalize recVF x rr = q
     by_cases hq : q = 0
     ·subst hq
      have cm := cellsOf R3.out.hm; have lm := ltOf R3.out.hm; have fm := q0c R3.out.hm; have ct := cellsOf R3.out.ht; have lt := ltOf R3.out.ht; have ft := q0c R3.out.ht
      go_upto_region 13 with fail
      clear cm lm fm ct lt ft
      obtain ⟨CC, HCI, HCO⟩ := q0j (fun w' => Know m #[.int .i64 x.gS, .int .i64 x.cM, .int .i64 x.data, .int .i64 x.spare, .int .i64 x.rows, .int .i64 x.cap, .int .i64 x.bT, .int .i64 x.qU, .int .i64 x.sG, .slice (some ⟨gb, goff, none⟩) G cg, .slice none 0 0, .slice (some ⟨tb, 0, none⟩) 2 2, .int .i64 0, .int .i64 (-1), .bool false] w' ∧ Know tb #[.bool false, .slice pa na ca1, .bool false, .slice pb nb cb1] w' ∧ Know rb #[.int .i64 x0, .int .i64 x1, .string nm, .int .i64 x3, .int .i64 x4, .int .i64 x5, .slice a6 l6 c6, .slice a7 l7 c7, .slice a8 l8 c8] w')
      refine q1j [12] CC (by kernel_rfl) (HCI.out _ ⟨(Know.of (q0a R3.out.hm)), (Know.of (q0a R3.out.ht)), (Know.of (q0a B3.out))⟩) (fun hcl hS => ?_)
      refine ggT 0 hcl hS ?_; clear hcl hS; intro hcl hS
      refine ggL 1 hcl hS HCO ?_; clear hcl hS; intro hcl hS
      refine ggT 2 hcl hS ?_; clear hcl hS; intro hcl hS
      refine ggL 3 hcl hS HCO ?_; clear hcl hS; intro hcl hS
      refine ggT 4 hcl hS ?_; clear hcl hS; intro hcl hS
      refine ggT 5 hcl hS ?_; clear hcl hS; intro hcl hS
      refine ggL 6 hcl hS HCO ?_; clear hcl hS; intro hcl hS
      refine ggL 7 hcl hS HCO ?_; clear hcl hS; intro hcl hS
      refine ggC 8 hcl rfl (by kernel_rfl) (fun K hK => ?_)
      go_simp
      refine hK.out _ _ (fun _ => HCI.out _ ⟨(Know.of (R3.out.ext (((Chg.refl [] w3).drew).alloc (.cells #[.int .i64 x0, .int .i64 x1, .string nm, .int .i64 x3, .int .i64 x4, .int .i64 x5, .slice a6 l6 c6, .slice a7 l7 c7, .slice a8 l8 c8] 67))).hm), (Know.of (R3.out.ext (((Chg.refl [] w3).drew).alloc (.cells #[.int .i64 x0, .int .i64 x1, .string nm, .int .i64 x3, .int .i64 x4, .int .i64 x5, .slice a6 l6 c6, .slice a7 l7 c7, .slice a8 l8 c8] 67))).ht), (Know.of (q0b (q0a B3.out) (.cells #[.int .i64 x0, .int .i64 x1, .string nm, .int .i64 x3, .int .i64 x4, .int .i64 x5, .slice a6 l6 c6, .slice a7 l7 c7, .slice a8 l8 c8] 67)))⟩) ?_
      clear hK K hcl hS
      intro hcl hS
      try simp only [Act.put, pA, pB, pC]
      refine ggC 9 hcl rfl (by kernel_rfl) (fun K hK => ?_)
      refine q4b rfl _ _ 44 rfl (R3.out.ext (((Chg.refl [] w3).drew).alloc (.cells #[.int .i64 x0, .int .i64 x1, .string nm, .int .i64 x3, .int .i64 x4, .int .i64 x5, .slice a6 l6 c6, .slice a7 l7 c7, .slice a8 l8 c8] 67))).ty.well (k := .rc) Tryz.underlying44 KR (by omega) rfl V6.out (cs := [.int .i64 x0, .int .i64 x1, .string nm, .int .i64 x3, .int .i64 x4, .int .i64 x5, .slice a6 l6 c6, .slice a7 l7 c7, .slice a8 l8 c8]) HEL.out (by show na + 1 ≤ 300; omega) ⟨w3.heap.size, 0, none⟩ 1 rfl (q1n w3.drew #[.int .i64 x0, .int .i64 x1, .string nm, .int .i64 x3, .int .i64 x4, .int .i64 x5, .slice a6 l6 c6, .slice a7 l7 c7, .slice a8 l8 c8] 67) ?_
      intro pA8 cA8 w4 T4 h41 h42 h43 h44 h45
      have R8 := hid ((R3.out.ext (((Chg.refl [] w3).drew).alloc (.cells #[.int .i64 x0, .int .i64 x1, .string nm, .int .i64 x3, .int .i64 x4, .int .i64 x5, .slice a6 l6 c6, .slice a7 l7 c7, .slice a8 l8 c8] 67))).step ⟨h41, h42, h44, h45⟩); have X8 := hid h43; have B8 := hid (h44.keepb (q0b (q0a B3.out) (.cells #[.int .i64 x0, .int .i64 x1, .string nm, .int .i64 x3, .int .i64 x4, .int .i64 x5, .slice a6 l6 c6, .slice a7 l7 c7, .slice a8 l8 c8] 67)) NB2.out); have NB8 := hid (q3x NB2.out (show TyStep _ (w3.drew.alloc (.cells #[.int .i64 x0, .int .i64 x1, .string nm, .int .i64 x3, .int .i64 x4, .int .i64 x5, .slice a6 l6 c6, .slice a7 l7 c7, .slice a8 l8 c8] 67)) T4 w4 from ⟨h41, h42, h44, h45⟩) (ltOf (q0b (q0a B3.out) (.cells #[.int .i64 x0, .int .i64 x1, .string nm, .int .i64 x3, .int .i64 x4, .int .i64 x5, .slice a6 l6 c6, .slice a7 l7 c7, .slice a8 l8 c8] 67)))); have SB8 := hid h42; have cm := cellsOf R8.out.hm; have lm := ltOf R8.out.hm; have fm := q0c R8.out.hm; have ct := cellsOf R8.out.ht; have lt := ltOf R8.out.ht; have ft := q0c R8.out.ht
      clear h41 h42 h43 h44 h45
      refine hK.out _ _ (fun _ => HCI.out _ ⟨(Know.of R8.out.hm), (Know.of R8.out.ht), (Know.of B8.out)⟩) ?_
      clear hK K hcl hS
      intro hcl hS
      try simp only [Act.put, pA, pB, pC]
      refine ggT 10 hcl hS ?_; clear hcl hS; intro hcl hS
      refine ggT 11 hcl hS ?_; clear hcl hS; intro hcl hS
      refine ggC 12 hcl rfl (by kernel_rfl) (fun K hK => ?_)
      go_simp
      refine hK.out _ _ (Till.done (m := 12) (by simp) (by rfl)) ?_
      clear hK K hcl hS
      intro hcl hS
      try simp only [Act.put, pA, pB, pC]
      refine q3i (by kernel_rfl) ?_ _
      clear cm lm fm ct lt ft
      have V9 := hid (V5.out.sub SB8.out)
      have V10 := hid (V7.out.sub SB8.out)
      have E8 := hid (HEL.out.sub SB8.out)
      have Q8 := hid (R8.out.putT (ts' := #[.bool false, .slice pA8 (na + 1) cA8, .bool false, .slice pb nb cb1]) 1 (.slice pA8 (na + 1) cA8) rfl); have B8q := hid (q0q B8.out ⟨tb, 1, none⟩ (.slice pA8 (na + 1) cA8) NE2.out)
      go_upto_region 14 with fail
      generalize w4.setCell ⟨tb, 1, none⟩ (.slice pA8 (na + 1) cA8) = w5 at Q8 B8q ⊢
      obtain ⟨CC, HCI, HCO⟩ := q0j (fun w' => Know m #[.int .i64 x.gS, .int .i64 x.cM, .int .i64 x.data, .int .i64 x.spare, .int .i64 x.rows, .int .i64 x.cap, .int .i64 x.bT, .int .i64 x.qU, .int .i64 x.sG, .slice (some ⟨gb, goff, none⟩) G cg, .slice none 0 0, .slice (some ⟨tb, 0, none⟩) 2 2, .int .i64 0, .int .i64 (-1), .bool false] w' ∧ Know tb #[.bool false, .slice pA8 (na + 1) cA8, .bool false, .slice pb nb cb1] w' ∧ Know rb #[.int .i64 x0, .int .i64 x1, .string nm, .int .i64 x3, .int .i64 x4, .int .i64 x5, .slice a6 l6 c6, .slice a7 l7 c7, .slice a8 l8 c8] w')
      refine q1j [12] CC (by kernel_rfl) (HCI.out _ ⟨(Know.of (q0a Q8.out.hm)), (Know.of (q0a Q8.out.ht)), (Know.of (q0a B8q.out))⟩) (fun hcl hS => ?_)
      refine ggT 0 hcl hS ?_; clear hcl hS; intro hcl hS
      refine ggL 1 hcl hS HCO ?_; clear hcl hS; intro hcl hS
      refine ggT 2 hcl hS ?_; clear hcl hS; intro hcl hS
      refine ggL 3 hcl hS HCO ?_; clear hcl hS; intro hcl hS
      refine ggT 4 hcl hS ?_; clear hcl hS; intro hcl hS
      refine ggT 5 hcl hS ?_; clear hcl hS; intro hcl hS
      refine ggL 6 hcl hS HCO ?_; clear hcl hS; intro hcl hS
      refine ggL 7 hcl hS HCO ?_; clear hcl hS; intro hcl hS
      refine ggC 8 hcl rfl (by kernel_rfl) (fun K hK => ?_)
      go_simp
      refine hK.out _ _ (fun _ => HCI.out _ ⟨(Know.of (Q8.out.ext (((Chg.refl [] w5).drew).alloc (.cells #[.int .i64 x0, .int .i64 x1, .string nm, .int .i64 x3, .int .i64 x4, .int .i64 x5, .slice a6 l6 c6, .slice a7 l7 c7, .slice a8 l8 c8] 67))).hm), (Know.of (Q8.out.ext (((Chg.refl [] w5).drew).alloc (.cells #[.int .i64 x0, .int .i64 x1, .string nm, .int .i64 x3, .int .i64 x4, .int .i64 x5, .slice a6 l6 c6, .slice a7 l7 c7, .slice a8 l8 c8] 67))).ht), (Know.of (q0b (q0a B8q.out) (.cells #[.int .i64 x0, .int .i64 x1, .string nm, .int .i64 x3, .int .i64 x4, .int .i64 x5, .slice a6 l6 c6, .slice a7 l7 c7, .slice a8 l8 c8] 67)))⟩) ?_
      clear hK K hcl hS
      intro hcl hS
      try simp only [Act.put, pA, pB, pC]
      refine ggC 9 hcl rfl (by kernel_rfl) (fun K hK => ?_)
      refine q4b rfl _ _ 44 rfl (Q8.out.ext (((Chg.refl [] w5).drew).alloc (.cells #[.int .i64 x0, .int .i64 x1, .string nm, .int .i64 x3, .int .i64 x4, .int .i64 x5, .slice a6 l6 c6, .slice a7 l7 c7, .slice a8 l8 c8] 67))).ty.well (k := .rc) Tryz.underlying44 KR (by omega) rfl V10.out (cs := [.int .i64 x0, .int .i64 x1, .string nm, .int .i64 x3, .int .i64 x4, .int .i64 x5, .slice a6 l6 c6, .slice a7 l7 c7, .slice a8 l8 c8]) E8.out (by show nb + 1 ≤ 300; omega) ⟨w5.heap.size, 0, none⟩ 1 rfl (q1n w5.drew #[.int .i64 x0, .int .i64 x1, .string nm, .int .i64 x3, .int .i64 x4, .int .i64 x5, .slice a6 l6 c6, .slice a7 l7 c7, .slice a8 l8 c8] 67) ?_
      intro pA11 cA11 w4 T4 h41 h42 h43 h44 h45
      have R11 := hid ((Q8.out.ext (((Chg.refl [] w5).drew).alloc (.cells #[.int .i64 x0, .int .i64 x1, .string nm, .int .i64 x3, .int .i64 x4, .int .i64 x5, .slice a6 l6 c6, .slice a7 l7 c7, .slice a8 l8 c8] 67))).step ⟨h41, h42, h44, h45⟩); have X11 := hid h43; have B11 := hid (h44.keepb (q0b (q0a B8q.out) (.cells #[.int .i64 x0, .int .i64 x1, .string nm, .int .i64 x3, .int .i64 x4, .int .i64 x5, .slice a6 l6 c6, .slice a7 l7 c7, .slice a8 l8 c8] 67)) NB8.out); have NB11 := hid (q3x NB8.out (show TyStep _ (w5.drew.alloc (.cells #[.int .i64 x0, .int .i64 x1, .string nm, .int .i64 x3, .int .i64 x4, .int .i64 x5, .slice a6 l6 c6, .slice a7 l7 c7, .slice a8 l8 c8] 67)) T4 w4 from ⟨h41, h42, h44, h45⟩) (ltOf (q0b (q0a B8q.out) (.cells #[.int .i64 x0, .int .i64 x1, .string nm, .int .i64 x3, .int .i64 x4, .int .i64 x5, .slice a6 l6 c6, .slice a7 l7 c7, .slice a8 l8 c8] 67)))); have SB11 := hid h42; have cm := cellsOf R11.out.hm; have lm := ltOf R11.out.hm; have fm := q0c R11.out.hm; have ct := cellsOf R11.out.ht; have lt := ltOf R11.out.ht; have ft := q0c R11.out.ht
      clear h41 h42 h43 h44 h45
      refine hK.out _ _ (fun _ => HCI.out _ ⟨(Know.of R11.out.hm), (Know.of R11.out.ht), (Know.of B11.out)⟩) ?_
      clear hK K hcl hS
      intro hcl hS
      try simp only [Act.put, pA, pB, pC]
      refine ggT 10 hcl hS ?_; clear hcl hS; intro hcl hS
      refine ggT 11 hcl hS ?_; clear hcl hS; intro hcl hS
      refine ggC 12 hcl rfl (by kernel_rfl) (fun K hK => ?_)
      go_simp
      refine hK.out _ _ (Till.done (m := 12) (by simp) (by rfl)) ?_
      clear hK K hcl hS
      intro hcl hS
      try simp only [Act.put, pA, pB, pC]
      refine q3i (by kernel_rfl) ?_ _
      clear cm lm fm ct lt ft
      have V12 := hid (V9.out.sub SB11.out)
      have V13 := hid (X8.out.sub SB11.out)
      have E11 := hid (E8.out.sub SB11.out)
      have Q11 := hid (R11.out.putT (ts' := #[.bool false, .slice pA8 (na + 1) cA8, .bool false, .slice pA11 (nb + 1) cA11]) 3 (.slice pA11 (nb + 1) cA11) rfl); have B11q := hid (q0q B11.out ⟨tb, 3, none⟩ (.slice pA11 (nb + 1) cA11) NE2.out)
      go_wp2_with fail
      go_roundw
      case rel => exact ⟨k + 1, _, pA8, na + 1, cA8, pA11, nb + 1, cA11, _, rfl, by omega, by go_num, V12.out, V13.out, X11.out, by omega, by omega, Q11.out.mono (t' := t + 4100 + 4100 * ((k + 1 : Nat) : Int)) (by omega)⟩
      case measure => simp [intOf]; omega
     ·have hqb : (q == 0) = false := by simpa using hq
      have cm := cellsOf R3.out.hm; have lm := ltOf R3.out.hm; have fm := q0c R3.out.hm; have ct := cellsOf R3.out.ht; have lt := ltOf R3.out.ht; have ft := q0c R3.out.ht
      go_wp2_with fail
      go_roundw
      case rel => exact ⟨k + 1, _, pa, na, ca1, pb, nb, cb1, _, rfl, by omega, by go_num, V5.out, V6.out, V7.out, by omega, by omega, R3.out.mono (t' := t + 4100 + 4100 * ((k + 1 : Nat) : Int)) (by omega)⟩
      case measure => simp [intOf]; omega
    ·have R1 := hid (R0.out.mono (t' := t + 17000) (by omega))
     have hna3 : na ≤ 3 := by omega
     have hnb3 : nb ≤ 3 := by omega
     clear R0 hk
     have cm := cellsOf R1.out.hm; have lm := ltOf R1.out.hm; have fm := q0c R1.out.hm; have ct := cellsOf R1.out.ht; have lt := ltOf R1.out.ht; have ft := q0c R1.out.ht
     go_wp2_with fail
     clear cm lm fm ct lt ft
     clear hlt
     go_loopw [9] (fun v9 wr => ∃ (k : Nat) (T : List TRow) (po : Option Addr) (lo co : Nat) (Wr : World), Wr = wr ∧ k ≤ G ∧ v9 = .int .i64 k ∧ SlT T (.ds nd nr) (.slice (some ⟨gb, goff, none⟩) G cg) ∧ SlT T .rc (.slice pa na ca1) ∧ SlT T .rc (.slice pb nb cb1) ∧ SlT T .it (.slice po lo co) ∧ lo ≤ k ∧ WdW b a la ca xs f w m tb T (t + 17000 + 10 * k) #[.int .i64 x.gS, .int .i64 x.cM, .int .i64 x.data, .int .i64 x.spare, .int .i64 x.rows, .int .i64 x.cap, .int .i64 x.bT, .int .i64 x.qU, .int .i64 x.sG, .slice (some ⟨gb, goff, none⟩) G cg, .slice po lo co, .slice (some ⟨tb, 0, none⟩) 2 2, .int .i64 0, .int .i64 (-1), .bool false] #[.bool false, .slice pa na ca1, .bool false, .slice pb nb cb1] wr) (fun v9 _ => G - (intOf v9).toNat)
     case atStart => exact ⟨0, _, none, 0, 0, _, rfl, by omega, rfl, V0.out, VA.out, VB.out, SlT.nil _ _, Nat.le_refl _, R1.out.mono (t' := t + 17000 + 10 * ((0 : Nat) : Int)) (by omega)⟩
     case round =>
      clear V0 VA VB R1
      obtain ⟨k, T, po, lo, co, wr, rfl, hk, rfl, hv, hva, hvb, hvo, hlo, hr⟩ := hrel
      have V0 := hid hv; have VA := hid hva; have VB := hid hvb; have VO := hid hvo; have R0 := hid hr
      clear hv hva hvb hvo hr
      have cm := cellsOf R0.out.hm; have lm := ltOf R0.out.hm; have fm := q0c R0.out.hm; have ct := cellsOf R0.out.ht; have lt := ltOf R0.out.ht; have ft := q0c R0.out.ht
      go_wp2_with fail
      refine (q0r x HOK.out _).mono ?_
      rintro e w14 ⟨rfl, hc⟩
      clear cm lm fm ct lt ft
      have H14 := hid (R0.out.ext hc)
      clear hc
      have cm := cellsOf H14.out.hm; have lm := ltOf H14.out.hm; have fm := q0c H14.out.hm; have ct := cellsOf H14.out.ht; have lt := ltOf H14.out.ht; have ft := q0c H14.out.ht
      rw [HG.out]
      by_cases hlt : k < G
      ·by_cases hcap : (lo : Int) < x.cap
       ·go_wp2_with fail
        refine (q1u b a la ca xs f (t + 17000 + 10 * k) 2 _ H14.out.src (by omega) (by omega) (by omega)).mono ?_
        rintro e w15 ⟨q, rfl, hs, hc⟩
        clear cm lm fm ct lt ft
        have H15 := hid (H14.out.call hs hc)
        clear hs
        have C15 := hid hc; clear hc
        have cm := cellsOf H15.out.hm; have lm := ltOf H15.out.hm; have fm := q0c H15.out.hm; have ct := cellsOf H15.out.ht; have lt := ltOf H15.out.ht; have ft := q0c H15.out.ht
        cases q
        ·go_wp2_with fail
         clear cm lm fm ct lt ft
         go_roundw
         case rel => exact ⟨k + 1, _, po, lo, co, _, rfl, by omega, by go_num, V0.out, VA.out, VB.out, VO.out, by omega, H15.out.mono (t' := t + 17000 + 10 * ((k + 1 : Nat) : Int)) (by omega)⟩
         case measure => simp [intOf]; omega
        ·have R4 := hid (H15.out.ext ((Chg.refl [] w15).alloc (.cells #[.int .i64 k] 2)))
         go_wp2_with (at_builtin; refine q5p rfl _ _ 25 rfl R4.out.ty.well (k := .it) Tryz.underlying25 KI (by omega) rfl VO.out (cs := [.int .i64 k]) ⟨k, rfl, by constructor <;> omega⟩ (by show lo + 1 ≤ 64; omega) ⟨w15.heap.size, 0, none⟩ 1 rfl (q1n w15 #[.int .i64 k] 2) ?_; intro pO cO w4 T4 h41 h42 h43 h44 h45; have K4 := hid (R4.out.step ⟨h41, h42, h44, h45⟩); have VO4 := hid h43; have SB4 := hid h42; clear h41 h42 h43 h44 h45 cm lm fm ct lt ft; have cm := cellsOf K4.out.hm; have lm := ltOf K4.out.hm; have fm := q0c K4.out.hm; have ct := cellsOf K4.out.ht; have lt := ltOf K4.out.ht; have ft := q0c K4.out.ht)
         have V16 := hid (V0.out.sub SB4.out)
         have V17 := hid (VA.out.sub SB4.out)
         have V18 := hid (VB.out.sub SB4.out)
         have K5 := hid (K4.out.put (cs' := #[.int .i64 x.gS, .int .i64 x.cM, .int .i64 x.data, .int .i64 x.spare, .int .i64 x.rows, .int .i64 x.cap, .int .i64 x.bT, .int .i64 x.qU, .int .i64 x.sG, .slice (some ⟨gb, goff, none⟩) G cg, .slice pO (lo + 1) cO, .slice (some ⟨tb, 0, none⟩) 2 2, .int .i64 0, .int .i64 (-1), .bool false]) 10 (.slice pO (lo + 1) cO) rfl)
         go_roundw
         case rel => exact ⟨k + 1, _, pO, lo + 1, cO, _, rfl, by omega, by go_num, V16.out, V17.out, V18.out, VO4.out, by omega, K5.out.mono (t' := t + 17000 + 10 * ((k + 1 : Nat) : Int)) (by omega)⟩
         case measure => simp [intOf]; omega
       ·go_wp2_with fail
        clear cm lm fm ct lt ft
        go_roundw
        case rel => exact ⟨k + 1, _, po, lo, co, _, rfl, by omega, by go_num, V0.out, VA.out, VB.out, VO.out, by omega, H14.out.mono (t' := t + 17000 + 10 * ((k + 1 : Nat) : Int)) (by omega)⟩
        case measure => simp [intOf]; omega
      ·go_wp2_with fail
       refine (q1g b a la ca xs f (t + 17000 + 10 * k) 5 _ H14.out.src (by omega) (by omega) (by omega)).mono ?_
       rintro e w19 ⟨wv, rfl, hd, hs, hc⟩
       clear cm lm fm ct lt ft
       have H19 := hid (H14.out.call hs hc)
       clear hs
       have C19 := hid hc; clear hc
       have cm := cellsOf H19.out.hm; have lm := ltOf H19.out.hm; have fm := q0c H19.out.hm; have ct := cellsOf H19.out.ht; have lt := ltOf H19.out.ht; have ft := q0c H19.out.ht
       have hwv : 0 ≤ wv ∧ wv < 5 := ⟨hd.1, hd.2.1 (by omega)⟩
       clear hd
       go_upto_region 21 with fail
       clear cm lm fm ct lt ft
       have H20 := hid (H19.out.put (cs' := #[.int .i64 x.gS, .int .i64 x.cM, .int .i64 x.data, .int .i64 x.spare, .int .i64 x.rows, .int .i64 x.cap, .int .i64 x.bT, .int .i64 x.qU, .int .i64 x.sG, .slice (some ⟨gb, goff, none⟩) G cg, .slice po lo co, .slice (some ⟨tb, 0, none⟩) 2 2, .int .i64 wv, .int .i64 (-1), .bool false]) 12 (.int .i64 wv) rfl)
       generalize w19.setCell ⟨m, 12, none⟩ (.int .i64 wv) = w20 at H20 ⊢
       have cm := cellsOf H20.out.hm; have lm := ltOf H20.out.hm; have fm := q0c H20.out.hm; have ct := cellsOf H20.out.ht; have lt := ltOf H20.out.ht; have ft := q0c H20.out.ht
       have hw1 : IntKind.i64.wrap (wv + 1) = wv + 1 := IntWalk.i64_in _ (by omega)
       clear hlt
       go_wp2_with fail
       refine (q0x b a la ca xs f (t + 17000 + 10 * k + 1) 6 [-1, -1, -1, wv, wv + 1, 0] _ H20.out.src (by omega) (by intro y hy; simp only [List.mem_cons, List.not_mem_nil, or_false] at hy; constructor <;> omega) rfl (by omega) (by omega) _ rfl _ rfl).mono ?_
       rintro e w21 ⟨st, rfl, hd, hs, hc⟩
       clear cm lm fm ct lt ft
       have H21 := hid (H20.out.call hs hc)
       clear hs
       have C21 := hid hc; clear hc
       have cm := cellsOf H21.out.hm; have lm := ltOf H21.out.hm; have fm := q0c H21.out.hm; have ct := cellsOf H21.out.ht; have lt := ltOf H21.out.ht; have ft := q0c H21.out.ht
       have hst : q0u st := by simp only [List.mem_cons, List.not_mem_nil, or_false] at hd; constructor <;> omega
       have HST := hid hst; have HWV := hid hwv
       clear hd hst hwv hw1
       go_upto_region 22 with fail
       clear cm lm fm ct lt ft
       have H22 := hid (H21.out.put (cs' := #[.int .i64 x.gS, .int .i64 x.cM, .int .i64 x.data, .int .i64 x.spare, .int .i64 x.rows, .int .i64 x.cap, .int .i64 x.bT, .int .i64 x.qU, .int .i64 x.sG, .slice (some ⟨gb, goff, none⟩) G cg, .slice po lo co, .slice (some ⟨tb, 0, none⟩) 2 2, .int .i64 wv, .int .i64 st, .bool false]) 13 (.int .i64 st) rfl)
       generalize w21.setCell ⟨m, 13, none⟩ (.int .i64 st) = w22 at H22 ⊢
       have cm := cellsOf H22.out.hm; have lm := ltOf H22.out.hm; have fm := q0c H22.out.hm; have ct := cellsOf H22.out.ht; have lt := ltOf H22.out.ht; have ft := q0c H22.out.ht
       go_wp2_with fail
       refine (q1u b a la ca xs f (t + 17000 + 10 * k + 1 + 1) 6 _ H22.out.src (by omega) (by omega) (by omega)).mono ?_
       rintro e w23 ⟨q, rfl, hs, hc⟩
       clear cm lm fm ct lt ft
       have H23 := hid (H22.out.call hs hc)
       clear hs
       have C23 := hid hc; clear hc
       have cm := cellsOf H23.out.hm; have lm := ltOf H23.out.hm; have fm := q0c H23.out.hm; have ct := cellsOf H23.out.ht; have lt := ltOf H23.out.ht; have ft := q0c H23.out.ht
       go_upto_if 130 with fail
       go_cut [10] from 131 to 151 (fun _ w2 => ∃ T, SlT T (.ds nd nr) (.slice (some ⟨gb, goff, none⟩) G cg) ∧ SlT T .rc (.slice pa na ca1) ∧ SlT T .rc (.slice pb nb cb1) ∧ SlT T .it (.slice po lo co) ∧ WdW b a la ca xs f w m tb T (t + 18000) #[.int .i64 x.gS, .int .i64 x.cM, .int .i64 x.data, .int .i64 x.spare, .int .i64 x.rows, .int .i64 x.cap, .int .i64 x.bT, .int .i64 x.qU, .int .i64 x.sG, .slice (some ⟨gb, goff, none⟩) G cg, .slice po lo co, .slice (some ⟨tb, 0, none⟩) 2 2, .int .i64 wv, .int .i64 st, .bool false] #[.bool false, .slice pa na ca1, .bool false, .slice pb nb cb1] w2)
       case first =>
        cases q
        ·go_wp2_with fail
         clear cm lm fm ct lt ft
         go_meet
         exact ⟨_, V0.out, VA.out, VB.out, VO.out, H23.out.mono (t' := t + 18000) (by omega)⟩
        ·go_wp2_with fail
         refine (q1g b a la ca xs f (t + 17000 + 10 * k + 1 + 1 + 1) G _ H23.out.src (by omega) (by omega) (by omega)).mono ?_
         rintro e w24 ⟨v, rfl, hd, hs, hc⟩
         clear cm lm fm ct lt ft
         have H24 := hid (H23.out.call hs hc)
         clear hs
         have C24 := hid hc; clear hc
         have cm := cellsOf H24.out.hm; have lm := ltOf H24.out.hm; have fm := q0c H24.out.hm; have ct := cellsOf H24.out.ht; have lt := ltOf H24.out.ht; have ft := q0c H24.out.ht
         obtain ⟨gi, rfl⟩ := Int.eq_ofNat_of_zero_le hd.1
         have hgi : gi < G := by have := hd.2.1 (by omega); omega
         clear hd
         obtain ⟨gb2, goff2, p2, l2, c2, ha2, hc2, hv2, hl2, -, hp2⟩ := V0.out.ds_at H24.out.ty.well hgi
         obtain ⟨rfl, rfl⟩ : gb = gb2 ∧ goff = goff2 := by simpa using ha2
         have hl20 : 0 < l2 := by omega
         obtain ⟨b2, off2, q3, p3, l3, c3, rfl, hq3, hc3, hv3, hl3, hp3⟩ := hv2.dr_at H24.out.ty.well hl20
         rw [Nat.zero_mul, Nat.add_zero] at hq3 hc3 hp3
         have P2 := hid hp2; have P3 := hid hp3; have V2 := hid hv2; have V3 := hid hv3
         clear ha2 hv2 hp2 hp3 hv3
         go_upto_region 24 with fail
         clear cm lm fm ct lt ft
         clear hq3 hc3
         obtain ⟨CC, HCI, HCO⟩ := q0j (fun w' => Know m #[.int .i64 x.gS, .int .i64 x.cM, .int .i64 x.data, .int .i64 x.spare, .int .i64 x.rows, .int .i64 x.cap, .int .i64 x.bT, .int .i64 x.qU, .int .i64 x.sG, .slice (some ⟨gb, goff, none⟩) G cg, .slice po lo co, .slice (some ⟨tb, 0, none⟩) 2 2, .int .i64 wv, .int .i64 st, .bool false] w' ∧ w'.cell? ⟨gb, goff + gi, none⟩ = some (.slice (some ⟨b2, off2, none⟩) l2 c2))
         refine q1j [9] CC (by kernel_rfl) (HCI.out _ ⟨(Know.of (q0a H24.out.hm)), hc2⟩) (fun hcl hS => ?_)
         refine ggT 0 hcl hS ?_; clear hcl hS; intro hcl hS
         refine ggL 1 hcl hS HCO ?_; clear hcl hS; intro hcl hS
         refine ggT 2 hcl hS ?_; clear hcl hS; intro hcl hS
         refine ggT 3 hcl hS ?_; clear hcl hS; intro hcl hS
         refine ggL 4 hcl hS HCO ?_; clear hcl hS; intro hcl hS
         refine ggT 5 hcl hS ?_; clear hcl hS; intro hcl hS
         refine ggL 6 hcl hS HCO ?_; clear hcl hS; intro hcl hS
         refine ggC 7 hcl rfl (by kernel_rfl) (fun K hK => ?_)
         go_simp
         go_at_call 208
         refine (q8g x nr _ (TyN.nil 0 _).well HNR.out (by omega)).mono ?_; rintro e wn ⟨p5, c5, rfl, T5, hv5, ht5⟩; have hcf : Chg [b] w24.drew wn := ht5.chg.mono (by simp); have F1 := hid ((H24.out.ext (Chg.refl [] w24).drew).rows ht5.tyN ((H24.out.ext (Chg.refl [] w24).drew).src.ext ht5.chg) hcf); have ha1 := (H24.out.ext (Chg.refl [] w24).drew).ckeep P2.out hcf hc2; have P5 := hid (P3.out.sub (SubT.right _ T5)); have V5 := hid (SlT.sub hv5 (SubT.left T T5)); have SB5 := hid (SubT.right T T5); obtain ⟨gb7, goff7, p7, l7, c7, ha7, hc7, hv7, -⟩ := (V0.out.sub SB5.out).ds_at F1.out.ty.well hgi; obtain ⟨rfl, rfl⟩ : gb = gb7 ∧ goff = goff7 := (by simpa using ha7); obtain ⟨rfl, rfl, rfl⟩ : p7 = some ⟨b2, off2, none⟩ ∧ l7 = l2 ∧ c7 = c2 := (by rw [ha1] at hc7; simpa [eq_comm] using hc7); obtain ⟨b8, off8, q8, p8, l8, c8, e8, k1, k2, -⟩ := hv7.dr_at F1.out.ty.well hl20; obtain ⟨rfl, rfl⟩ : b2 = b8 ∧ off2 = off8 := (by simpa using e8); rw [Nat.zero_mul, Nat.add_zero] at k1 k2; have lp9 := P5.out.lt F1.out.ty.well; have fp9 := P5.out.fr F1.out.ty.well; clear hv5 ht5 hcf ha7 hc7 hv7 e8
         go_wp2_with fail
         refine hK.out _ _ (fun _ => HCI.out _ ⟨(Know.of F1.out.hm), ha1⟩) ?_
         clear hK K hcl hS
         intro hcl hS
         try simp only [Act.put, pA, pB, pC]
         refine ggT 8 hcl hS ?_; clear hcl hS; intro hcl hS
         refine ggC 9 hcl rfl (by kernel_rfl) (fun K hK => ?_)
         go_simp
         refine hK.out _ _ (Till.done (m := 9) (by simp) (by rfl)) ?_
         clear hK K hcl hS
         intro hcl hS
         try simp only [Act.put, pA, pB, pC]
         refine q3i (by kernel_rfl) ?_ _
         have F2 := hid (F1.out.step (put_two F1.out.ty.well rfl P5.out ⟨false, p5, nr, c5, rfl, V5.out, Nat.le_refl _⟩))
         have V27 := hid (V0.out.sub SB5.out)
         have V28 := hid (VA.out.sub SB5.out)
         have V29 := hid (VB.out.sub SB5.out)
         have V30 := hid (VO.out.sub SB5.out)
         go_upto_region 25 with fail
         generalize (wn.setCell ⟨b2, off2, none⟩ (.bool false)).setCell ⟨b2, off2 + 1, none⟩ (.slice p5 nr c5) = wz at F2 ⊢
         clear F1 P5 V5 SB5 V2 V3 P2 P3 hc2 k1 k2 lp9 fp9 hl2 hl3 hl20
         obtain ⟨gb2, goff2, p2, l2, c2, ha2, hc2, hv2, hl2, -, hp2⟩ := V27.out.ds_at F2.out.ty.well hgi
         obtain ⟨rfl, rfl⟩ : gb = gb2 ∧ goff = goff2 := by simpa using ha2
         have hl20 : 0 < l2 := by omega
         obtain ⟨b2, off2, q3, p3, l3, c3, rfl, hq3, hc3, hv3, hl3, hp3⟩ := hv2.dr_at F2.out.ty.well hl20
         rw [Nat.zero_mul, Nat.add_zero] at hq3 hc3 hp3
         have P2 := hid hp2; have P3 := hid hp3; have V2 := hid hv2; have V3 := hid hv3
         clear ha2 hv2 hp2 hp3 hv3
         have cm := cellsOf F2.out.hm; have lm := ltOf F2.out.hm; have fm := q0c F2.out.hm; have ct := cellsOf F2.out.ht; have lt := ltOf F2.out.ht; have ft := q0c F2.out.ht
         have lp9 := P3.out.lt F2.out.ty.well; have fp9 := P3.out.fr F2.out.ty.well; have lp8 := P2.out.lt F2.out.ty.well
         go_wp2_with fail
         have F3 := hid (F2.out.step (put_wiped F2.out.ty.well P3.out))
         clear cm lm fm ct lt ft
         go_meet
         exact ⟨_, V27.out, V28.out, V29.out, V30.out, F3.out.mono (t' := t + 18000) (by omega)⟩
       case rest =>
       revert wc; intro wc2 hcut
       obtain ⟨T2, hv, hva, hvb, hvo, hr⟩ := hcut
       clear V0 VA VB VO
       have V0 := hid hv; have VA := hid hva; have VB := hid hvb; have VO := hid hvo; have R0 := hid hr
       clear hv hva hvb hvo hr
       try clear cm lm fm ct lt ft
       have cm := cellsOf R0.out.hm; have lm := ltOf R0.out.hm; have fm := q0c R0.out.hm; have ct := cellsOf R0.out.ht; have lt := ltOf R0.out.ht; have ft := q0c R0.out.ht
       go_wp2_with fail
       refine (q1u b a la ca xs f (t + 18000) 10 _ R0.out.src (by omega) (by omega) (by omega)).mono ?_
       rintro e w32 ⟨q, rfl, hs, hc⟩
       clear cm lm fm ct lt ft
       have H32 := hid (R0.out.call hs hc)
       clear hs
       have C32 := hid hc; clear hc
       have cm := cellsOf H32.out.hm; have lm := ltOf H32.out.hm; have fm := q0c H32.out.hm; have ct := cellsOf H32.out.ht; have lt := ltOf H32.out.ht; have ft := q0c H32.out.ht
       go_upto_if 153 with fail
       go_cut [] from 154 to 155 (fun w2 => ∃ T po2 lo2 co2 dn, SlT T (.ds nd nr) (.slice (some ⟨gb, goff, none⟩) G cg) ∧ SlT T .rc (.slice pa na ca1) ∧ SlT T .rc (.slice pb nb cb1) ∧ SlT T .it (.slice po2 lo2 co2) ∧ lo2 ≤ 10 ∧ WdW b a la ca xs f w m tb T (t + 18100) #[.int .i64 x.gS, .int .i64 x.cM, .int .i64 x.data, .int .i64 x.spare, .int .i64 x.rows, .int .i64 x.cap, .int .i64 x.bT, .int .i64 x.qU, .int .i64 x.sG, .slice (some ⟨gb, goff, none⟩) G cg, .slice po2 lo2 co2, .slice (some ⟨tb, 0, none⟩) 2 2, .int .i64 wv, .int .i64 st, .bool dn] #[.bool false, .slice pa na ca1, .bool false, .slice pb nb cb1] w2)
       case first =>
        cases q
        ·go_wp2_with fail
         clear cm lm fm ct lt ft
         go_meet
         exact ⟨_, po, lo, co, false, V0.out, VA.out, VB.out, VO.out, by omega, H32.out.mono (t' := t + 18100) (by omega)⟩
        ·go_upto_region 28 with fail
         clear cm lm fm ct lt ft
         have H33 := hid (H32.out.put (cs' := #[.int .i64 x.gS, .int .i64 x.cM, .int .i64 x.data, .int .i64 x.spare, .int .i64 x.rows, .int .i64 x.cap, .int .i64 x.bT, .int .i64 x.qU, .int .i64 x.sG, .slice (some ⟨gb, goff, none⟩) G cg, .slice po lo co, .slice (some ⟨tb, 0, none⟩) 2 2, .int .i64 wv, .int .i64 st, .bool true]) 14 (.bool true) rfl)
         generalize w32.setCell ⟨m, 14, none⟩ (.bool true) = w33 at H33 ⊢
         have cm := cellsOf H33.out.hm; have lm := ltOf H33.out.hm; have fm := q0c H33.out.hm; have ct := cellsOf H33.out.ht; have lt := ltOf H33.out.ht; have ft := q0c H33.out.ht
         go_wp2_with fail
         clear cm lm fm ct lt ft
         have H34 := hid (H33.out.put (cs' := #[.int .i64 x.gS, .int .i64 x.cM, .int .i64 x.data, .int .i64 x.spare, .int .i64 x.rows, .int .i64 x.cap, .int .i64 x.bT, .int .i64 x.qU, .int .i64 x.sG, .slice (some ⟨gb, goff, none⟩) G cg, .slice none 0 0, .slice (some ⟨tb, 0, none⟩) 2 2, .int .i64 wv, .int .i64 st, .bool true]) 10 (.slice none 0 0) rfl)
         generalize w33.setCell ⟨m, 10, none⟩ (.slice none 0 0) = w34 at H34 ⊢
         have cm := cellsOf H34.out.hm; have lm := ltOf H34.out.hm; have fm := q0c H34.out.hm; have ct := cellsOf H34.out.ht; have lt := ltOf H34.out.ht; have ft := q0c H34.out.ht
         clear cm lm fm ct lt ft
         go_meet
         exact ⟨_, none, 0, 0, true, V0.out, VA.out, VB.out, SlT.nil _ _, by omega, H34.out.mono (t' := t + 18100) (by omega)⟩
       case rest =>
       revert wc; intro wc3 hcut
       obtain ⟨T3, po2, lo2, co2, dn, hv, hva, hvb, hvo, hlo2, hr⟩ := hcut
       clear V0 VA VB VO R0
       have V0 := hid hv; have VA := hid hva; have VB := hid hvb; have VO := hid hvo; have R0 := hid hr
       clear hv hva hvb hvo hr
       try clear cm lm fm ct lt ft
       have cm := cellsOf R0.out.hm; have lm := ltOf R0.out.hm; have fm := q0c R0.out.hm; have ct := cellsOf R0.out.ht; have lt := ltOf R0.out.ht; have ft := q0c R0.out.ht
       go_wp2_with fail
       refine (q1g b a la ca xs f (t + 18100) 40 _ R0.out.src (by omega) (by omega) (by omega)).mono ?_
       rintro e w35 ⟨v, rfl, hd, hs, hc⟩
       clear cm lm fm ct lt ft
       have H35 := hid (R0.out.call hs hc)
       clear hs
       have C35 := hid hc; clear hc
       have cm := cellsOf H35.out.hm; have lm := ltOf H35.out.hm; have fm := q0c H35.out.hm; have ct := cellsOf H35.out.ht; have lt := ltOf H35.out.ht; have ft := q0c H35.out.ht
       have hv : v = 0 ∨ v = 1 ∨ v = 2 ∨ v = 3 ∨ v = 4 ∨ v = 5 ∨ v = 6 ∨ v = 7 ∨ v = 8 ∨ v = 9 ∨ v = 10 ∨ v = 11 ∨ v = 12 ∨ 13 ≤ v := by have := hd.1; omega
       clear hd
       go_upto_block 6 with fail
       go_cut [] from 158 to 270 (fun w2 => ∃ T cs ts, WdO tb T cs ts ∧ cs.size = 15 ∧ WdW b a la ca xs f w m tb T (t + 29000) cs ts w2)
       case first =>
        clear hv
        go_upto_if 158 with fail
        by_cases hv0 : v = 0
        ·subst hv0
         by_cases hcg : cg = 1
         ·have hG1 : G = 1 := by have := (show G ≤ cg from by obtain ⟨_, _, _, e, _, h, -⟩ := V0.out; cases e; exact h); omega
          subst hcg
          go_wp2_with fail
          clear cm lm fm ct lt ft
          have H36 := hid (H35.out.put (cs' := #[.int .i64 x.gS, .int .i64 x.cM, .int .i64 x.data, .int .i64 x.spare, .int .i64 x.rows, .int .i64 x.cap, .int .i64 x.bT, .int .i64 x.qU, .int .i64 x.sG, .slice (some ⟨gb, goff, none⟩) 0 0, .slice po2 lo2 co2, .slice (some ⟨tb, 0, none⟩) 2 2, .int .i64 wv, .int .i64 st, .bool dn]) 9 (.slice (some ⟨gb, goff, none⟩) 0 0) rfl)
          generalize w35.setCell ⟨m, 9, none⟩ (.slice (some ⟨gb, goff, none⟩) 0 0) = w36 at H36 ⊢
          have cm := cellsOf H36.out.hm; have lm := ltOf H36.out.hm; have fm := q0c H36.out.hm; have ct := cellsOf H36.out.ht; have lt := ltOf H36.out.ht; have ft := q0c H36.out.ht
          clear cm lm fm ct lt ft
          go_meet
          exact ⟨_, #[.int .i64 x.gS, .int .i64 x.cM, .int .i64 x.data, .int .i64 x.spare, .int .i64 x.rows, .int .i64 x.cap, .int .i64 x.bT, .int .i64 x.qU, .int .i64 x.sG, .slice (some ⟨gb, goff, none⟩) 0 0, .slice po2 lo2 co2, .slice (some ⟨tb, 0, none⟩) 2 2, .int .i64 wv, .int .i64 st, .bool dn], #[.bool false, .slice pa na ca1, .bool false, .slice pb nb cb1], ⟨x, _, _, _, _, _, _, _, _, _, _, _, _, _, _, _, _, _, _, _, _, rfl, rfl, ShpI.small (Shp.small_of_ok HOK.out), V0.out.none0, VO.out, .inr rfl, ⟨⟨by have := HWV.out; omega, by have := HWV.out; omega⟩, by have := HWV.out; omega⟩, HST.out, VA.out, VB.out, by omega, by omega⟩, rfl, H36.out.mono (t' := t + 29000) (by omega)⟩
         ·go_wp2_with fail
          clear cm lm fm ct lt ft
          have H37 := hid (H35.out.put (cs' := #[.int .i64 x.gS, .int .i64 x.cM, .int .i64 x.data, .int .i64 x.spare, .int .i64 x.rows, .int .i64 x.cap, .int .i64 x.bT, .int .i64 x.qU, .int .i64 x.sG, .slice (some ⟨gb, goff + 1, none⟩) (G - 1) (cg - 1), .slice po2 lo2 co2, .slice (some ⟨tb, 0, none⟩) 2 2, .int .i64 wv, .int .i64 st, .bool dn]) 9 (.slice (some ⟨gb, goff + 1, none⟩) (G - 1) (cg - 1)) rfl)
          generalize w35.setCell ⟨m, 9, none⟩ (.slice (some ⟨gb, goff + 1, none⟩) (G - 1) (cg - 1)) = w37 at H37 ⊢
          have cm := cellsOf H37.out.hm; have lm := ltOf H37.out.hm; have fm := q0c H37.out.hm; have ct := cellsOf H37.out.ht; have lt := ltOf H37.out.ht; have ft := q0c H37.out.ht
          clear cm lm fm ct lt ft
          go_meet
          exact ⟨_, #[.int .i64 x.gS, .int .i64 x.cM, .int .i64 x.data, .int .i64 x.spare, .int .i64 x.rows, .int .i64 x.cap, .int .i64 x.bT, .int .i64 x.qU, .int .i64 x.sG, .slice (some ⟨gb, goff + 1, none⟩) (G - 1) (cg - 1), .slice po2 lo2 co2, .slice (some ⟨tb, 0, none⟩) 2 2, .int .i64 wv, .int .i64 st, .bool dn], #[.bool false, .slice pa na ca1, .bool false, .slice pb nb cb1], ⟨x, _, _, _, _, _, _, _, _, _, _, _, _, _, _, _, _, _, _, _, _, rfl, rfl, ShpI.small (Shp.small_of_ok HOK.out), (V0.out.drop1 (by omega)), VO.out, .inr rfl, ⟨⟨by have := HWV.out; omega, by have := HWV.out; omega⟩, by have := HWV.out; omega⟩, HST.out, VA.out, VB.out, by omega, by omega⟩, rfl, H37.out.mono (t' := t + 29000) (by omega)⟩
        have hb0 : (v == 0) = false := by simpa using hv0
        clear hv0
        go_upto_if 164 with fail
        by_cases hv1 : v = 1
        ·subst hv1
         have hG0 : 0 < G := by omega
         obtain ⟨gb2, goff2, p2, l2, c2, ha2, hc2, hv2, hl2, hl8, hp2⟩ := V0.out.ds_at H35.out.ty.well hG0
         obtain ⟨rfl, rfl⟩ : gb = gb2 ∧ goff = goff2 := by simpa using ha2
         have hl20 : 0 < l2 := by omega
         have hl16 : l2 ≤ 8 := by omega
         obtain ⟨b2, off2, q3, p3, l3, c3, rfl, hq3, hc3, hv3, hl3, hp3⟩ := hv2.dr_at H35.out.ty.well hl20
         have hl30 : 0 < l3 := by omega
         obtain ⟨b4, off4, s4, p4, l4, c4, rfl, hq4, hc4, hp4⟩ := hv3.bk_at H35.out.ty.well hl30
         rw [Nat.add_zero] at hc2 hp2
         rw [Nat.zero_mul, Nat.add_zero] at hq3 hc3 hp3 hq4 hc4 hp4
         have P2 := hid hp2; have P3 := hid hp3; have P4 := hid hp4; have V2 := hid hv2; have V3 := hid hv3
         clear ha2 hv2 hp2 hp3 hv3 hp4 hl8
         clear hq3 hc3 hq4 hc4 V3 P4
         have P2w := hid P2.out.wk; have P3w := hid P3.out.wk; have V2w := hid V2.out.wk
         clear P2 P3 V2
         clear cm lm fm ct lt ft
         have W38 := hid H35.out.weak
         have V39 := hid V0.out.wk
         have V40 := hid VA.out.wk
         have V41 := hid VB.out.wk
         have V42 := hid VO.out.wk
         have cm := cellsOf W38.out.hm; have lm := ltOf W38.out.hm; have fm := q0c W38.out.hm; have ct := cellsOf W38.out.ht; have lt := ltOf W38.out.ht; have ft := q0c W38.out.ht
         go_upto_region 33 with fail
         clear cm lm fm ct lt ft
         have hgb : gb ≠ b2 := fun e => by
          obtain ⟨r1, h1, k1, rfl, -⟩ := P2w.out
          obtain ⟨r2, h2, k2, e2, -⟩ := P3w.out
          have := W38.out.ty.well.uniq h1 h2 (e2.trans e.symm)
          subst this
          rw [k1] at k2
          cases k2
         have HGB := hid hgb; clear hgb
         obtain ⟨CC, HCI, HCO⟩ := q0j (fun w' => Know m #[.int .i64 x.gS, .int .i64 x.cM, .int .i64 x.data, .int .i64 x.spare, .int .i64 x.rows, .int .i64 x.cap, .int .i64 x.bT, .int .i64 x.qU, .int .i64 x.sG, .slice (some ⟨gb, goff, none⟩) G cg, .slice po2 lo2 co2, .slice (some ⟨tb, 0, none⟩) 2 2, .int .i64 wv, .int .i64 st, .bool dn] w' ∧ w'.cell? ⟨gb, goff, none⟩ = some (.slice (some ⟨b2, off2, none⟩) l2 c2))
         refine q1j [10] CC (by kernel_rfl) (HCI.out _ ⟨(Know.of (q0a W38.out.hm)), hc2⟩) (fun hcl hS => ?_)
         refine ggT 0 hcl hS ?_; clear hcl hS; intro hcl hS
         refine ggL 1 hcl hS HCO ?_; clear hcl hS; intro hcl hS
         refine ggT 2 hcl hS ?_; clear hcl hS; intro hcl hS
         refine ggL 3 hcl hS HCO ?_; clear hcl hS; intro hcl hS
         refine ggT 4 hcl hS ?_; clear hcl hS; intro hcl hS
         refine ggL 5 hcl hS HCO ?_; clear hcl hS; intro hcl hS
         refine ggT 6 hcl hS ?_; clear hcl hS; intro hcl hS
         refine ggC 7 hcl rfl (by kernel_rfl) (fun K hK => ?_)
         go_simp
         refine hK.out _ _ (fun _ => HCI.out _ ⟨(Know.of (W38.out.ext (((Chg.refl [] w35).drew).alloc (.cells #[.bool false, .slice none 0 0] 82))).hm), (q0h (((Chg.refl [] w35).drew).alloc (.cells #[.bool false, .slice none 0 0] 82)) hc2 (P2w.out.lt W38.out.ty.well))⟩) ?_
         clear hK K hcl hS
         intro hcl hS
         try simp only [Act.put, pA, pB, pC]
         refine ggC 8 hcl rfl (by kernel_rfl) (fun K hK => ?_)
         refine step_tapp2 rfl _ _ 83 rfl (W38.out.ext (((Chg.refl [] w35).drew).alloc (.cells #[.bool false, .slice none 0 0] 82))).ty.well (k := .dr 0) Tryz.underlying83 KD (by omega) rfl V2w.out (cs := [.bool false, .slice none 0 0]) ⟨false, none, 0, 0, rfl, SlT.nil _ _, Nat.le_refl _⟩ (by show l2 + 1 ≤ 16; omega) ⟨w35.heap.size, 0, none⟩ 1 rfl (q1n w35.drew #[.bool false, .slice none 0 0] 82) ?_
         intro pD cD w4 T4 h41 h42 h43 h44 h45 h46
         have K4 := hid ((W38.out.ext (((Chg.refl [] w35).drew).alloc (.cells #[.bool false, .slice none 0 0] 82))).step ⟨h41, h42, h44, h45⟩); have VD4 := hid h43; have SB4 := hid h42; have hc4 := q7q h46 (q0h (((Chg.refl [] w35).drew).alloc (.cells #[.bool false, .slice none 0 0] 82)) hc2 (P2w.out.lt W38.out.ty.well)) (P2w.out.lt (W38.out.ext (((Chg.refl [] w35).drew).alloc (.cells #[.bool false, .slice none 0 0] 82))).ty.well) (by show gb ∉ [b2]; rw [List.mem_singleton]; exact HGB.out); have P4 := hid (P2w.out.sub h42); have lp9 := P4.out.lt K4.out.ty.well; have fp9 := P4.out.fr K4.out.ty.well
         clear h41 h42 h43 h44 h45 h46
         refine hK.out _ _ (fun _ => HCI.out _ ⟨(Know.of K4.out.hm), hc4⟩) ?_
         clear hK K hcl hS
         intro hcl hS
         try simp only [Act.put, pA, pB, pC]
         refine ggT 9 hcl hS ?_; clear hcl hS; intro hcl hS
         refine ggC 10 hcl rfl (by kernel_rfl) (fun K hK => ?_)
         go_simp
         refine hK.out _ _ (Till.done (m := 10) (by simp) (by rfl)) ?_
         clear hK K hcl hS
         intro hcl hS
         try simp only [Act.put, pA, pB, pC]
         refine q3i (by kernel_rfl) ?_ _
         have K5 := hid (K4.out.step (put_ds K4.out.ty.well P4.out VD4.out (Nat.zero_le _) (.inl rfl)))
         have V43 := hid (V39.out.sub SB4.out)
         have V44 := hid (V40.out.sub SB4.out)
         have V45 := hid (V41.out.sub SB4.out)
         have V46 := hid (V42.out.sub SB4.out)
         go_wp2_with fail
         go_meet
         exact ⟨_, #[.int .i64 x.gS, .int .i64 x.cM, .int .i64 x.data, .int .i64 x.spare, .int .i64 x.rows, .int .i64 x.cap, .int .i64 x.bT, .int .i64 x.qU, .int .i64 x.sG, .slice (some ⟨gb, goff, none⟩) G cg, .slice po2 lo2 co2, .slice (some ⟨tb, 0, none⟩) 2 2, .int .i64 wv, .int .i64 st, .bool dn], #[.bool false, .slice pa na ca1, .bool false, .slice pb nb cb1], ⟨x, _, _, _, _, _, _, _, _, _, _, _, _, _, _, _, _, _, _, _, _, rfl, rfl, ShpI.small (Shp.small_of_ok HOK.out), V43.out, V46.out, .inr rfl, ⟨⟨by have := HWV.out; omega, by have := HWV.out; omega⟩, by have := HWV.out; omega⟩, HST.out, V44.out, V45.out, by omega, by omega⟩, rfl, K5.out.mono (t' := t + 29000) (by omega)⟩
        have hb1 : (v == 1) = false := by simpa using hv1
        clear hv1
        go_upto_if 176 with fail
        by_cases hv2 : v = 2
        ·subst hv2
         have hG0 : 0 < G := by omega
         obtain ⟨gb2, goff2, p2, l2, c2, ha2, hc2, hv2, hl2, hl8, hp2⟩ := V0.out.ds_at H35.out.ty.well hG0
         obtain ⟨rfl, rfl⟩ : gb = gb2 ∧ goff = goff2 := by simpa using ha2
         have hl20 : 0 < l2 := by omega
         have hl16 : l2 ≤ 8 := by omega
         obtain ⟨b2, off2, q3, p3, l3, c3, rfl, hq3, hc3, hv3, hl3, hp3⟩ := hv2.dr_at H35.out.ty.well hl20
         have hl30 : 0 < l3 := by omega
         obtain ⟨b4, off4, s4, p4, l4, c4, rfl, hq4, hc4, hp4⟩ := hv3.bk_at H35.out.ty.well hl30
         rw [Nat.add_zero] at hc2 hp2
         rw [Nat.zero_mul, Nat.add_zero] at hq3 hc3 hp3 hq4 hc4 hp4
         have P2 := hid hp2; have P3 := hid hp3; have P4 := hid hp4; have V2 := hid hv2; have V3 := hid hv3
         clear ha2 hv2 hp2 hp3 hv3 hp4 hl8
         clear hq3
         go_upto_region 35 with fail
         clear cm lm fm ct lt ft
         obtain ⟨CC, HCI, HCO⟩ := q0j (fun w' => Know m #[.int .i64 x.gS, .int .i64 x.cM, .int .i64 x.data, .int .i64 x.spare, .int .i64 x.rows, .int .i64 x.cap, .int .i64 x.bT, .int .i64 x.qU, .int .i64 x.sG, .slice (some ⟨gb, goff, none⟩) G cg, .slice po2 lo2 co2, .slice (some ⟨tb, 0, none⟩) 2 2, .int .i64 wv, .int .i64 st, .bool dn] w' ∧ w'.cell? ⟨gb, goff, none⟩ = some (.slice (some ⟨b2, off2, none⟩) l2 c2) ∧ w'.cell? ⟨b2, off2 + 1, none⟩ = some (.slice (some ⟨b4, off4, none⟩) l3 c3))
         refine q1j [11] CC (by kernel_rfl) (HCI.out _ ⟨(Know.of (q0a H35.out.hm)), hc2, hc3⟩) (fun hcl hS => ?_)
         refine ggT 0 hcl hS ?_; clear hcl hS; intro hcl hS
         refine ggL 1 hcl hS HCO ?_; clear hcl hS; intro hcl hS
         refine ggT 2 hcl hS ?_; clear hcl hS; intro hcl hS
         refine ggL 3 hcl hS HCO ?_; clear hcl hS; intro hcl hS
         refine ggT 4 hcl hS ?_; clear hcl hS; intro hcl hS
         refine ggT 5 hcl hS ?_; clear hcl hS; intro hcl hS
         refine ggL 6 hcl hS HCO ?_; clear hcl hS; intro hcl hS
         refine ggT 7 hcl hS ?_; clear hcl hS; intro hcl hS
         refine ggC 8 hcl rfl (by kernel_rfl) (fun K hK => ?_)
         go_simp
         go_at_call 132
         refine (some_tyK b a la ca xs f (t + 18100 + 1) 5 5 rfl _ (H35.out.ext (Chg.refl [] w35).drew).src (by omega) (by omega)).mono ?_; rintro e wp ⟨A5, C5, rfl, ⟨T5, hv5, hty⟩, hs, hc⟩; have R3 := hid ((H35.out.ext (Chg.refl [] w35).drew).rows hty hs hc); have ha3 := (H35.out.ext (Chg.refl [] w35).drew).ckeep P2.out hc hc2; have hb3 := (H35.out.ext (Chg.refl [] w35).drew).ckeep P3.out hc hc3; have k1 := (H35.out.ext (Chg.refl [] w35).drew).ckeep P4.out hc hc4; have U5 := hid (SlT.sub hv5 (SubT.left T3 T5)); have SB5 := hid (SubT.right T3 T5); have P9 := hid (P4.out.sub SB5.out); have lp9 := P9.out.lt R3.out.ty.well; have fp9 := P9.out.fr R3.out.ty.well; clear hs hc hty hv5
         go_wp2_with fail
         refine hK.out _ _ (fun _ => HCI.out _ ⟨(Know.of R3.out.hm), ha3, hb3⟩) ?_
         clear hK K hcl hS
         intro hcl hS
         try simp only [Act.put, pA, pB, pC]
         refine ggT 9 hcl hS ?_; clear hcl hS; intro hcl hS
         refine ggT 10 hcl hS ?_; clear hcl hS; intro hcl hS
         refine ggC 11 hcl rfl (by kernel_rfl) (fun K hK => ?_)
         go_simp
         refine hK.out _ _ (Till.done (m := 11) (by simp) (by rfl)) ?_
         clear hK K hcl hS
         intro hcl hS
         try simp only [Act.put, pA, pB, pC]
         refine q3i (by kernel_rfl) ?_ _
         have R4 := hid (R3.out.step (put_bytes R3.out.ty.well P9.out U5.out))
         have V47 := hid (V0.out.sub SB5.out)
         have V48 := hid (VA.out.sub SB5.out)
         have V49 := hid (VB.out.sub SB5.out)
         have V50 := hid (VO.out.sub SB5.out)
         go_wp2_with fail
         go_meet
         exact ⟨_, #[.int .i64 x.gS, .int .i64 x.cM, .int .i64 x.data, .int .i64 x.spare, .int .i64 x.rows, .int .i64 x.cap, .int .i64 x.bT, .int .i64 x.qU, .int .i64 x.sG, .slice (some ⟨gb, goff, none⟩) G cg, .slice po2 lo2 co2, .slice (some ⟨tb, 0, none⟩) 2 2, .int .i64 wv, .int .i64 st, .bool dn], #[.bool false, .slice pa na ca1, .bool false, .slice pb nb cb1], ⟨x, _, _, _, _, _, _, _, _, _, _, _, _, _, _, _, _, _, _, _, _, rfl, rfl, ShpI.small (Shp.small_of_ok HOK.out), V47.out, V50.out, .inr rfl, ⟨⟨by have := HWV.out; omega, by have := HWV.out; omega⟩, by have := HWV.out; omega⟩, HST.out, V48.out, V49.out, by omega, by omega⟩, rfl, R4.out.mono (t' := t + 29000) (by omega)⟩
        have hb2 : (v == 2) = false := by simpa using hv2
        clear hv2
        go_upto_if 189 with fail
        by_cases hv3 : v = 3
        ·subst hv3
         have hG0 : 0 < G := by omega
         obtain ⟨gb2, goff2, p2, l2, c2, ha2, hc2, hv2, hl2, hl8, hp2⟩ := V0.out.ds_at H35.out.ty.well hG0
         obtain ⟨rfl, rfl⟩ : gb = gb2 ∧ goff = goff2 := by simpa using ha2
         have hl20 : 0 < l2 := by omega
         have hl16 : l2 ≤ 8 := by omega
         obtain ⟨b2, off2, q3, p3, l3, c3, rfl, hq3, hc3, hv3, hl3, hp3⟩ := hv2.dr_at H35.out.ty.well hl20
         have hl30 : 0 < l3 := by omega
         obtain ⟨b4, off4, s4, p4, l4, c4, rfl, hq4, hc4, hp4⟩ := hv3.bk_at H35.out.ty.well hl30
         rw [Nat.add_zero] at hc2 hp2
         rw [Nat.zero_mul, Nat.add_zero] at hq3 hc3 hp3 hq4 hc4 hp4
         have P2 := hid hp2; have P3 := hid hp3; have P4 := hid hp4; have V2 := hid hv2; have V3 := hid hv3
         clear ha2 hv2 hp2 hp3 hv3 hp4 hl8
         clear hq3
         go_upto_region 37 with fail
         clear cm lm fm ct lt ft
         obtain ⟨CC, HCI, HCO⟩ := q0j (fun w' => Know m #[.int .i64 x.gS, .int .i64 x.cM, .int .i64 x.data, .int .i64 x.spare, .int .i64 x.rows, .int .i64 x.cap, .int .i64 x.bT, .int .i64 x.qU, .int .i64 x.sG, .slice (some ⟨gb, goff, none⟩) G cg, .slice po2 lo2 co2, .slice (some ⟨tb, 0, none⟩) 2 2, .int .i64 wv, .int .i64 st, .bool dn] w' ∧ w'.cell? ⟨gb, goff, none⟩ = some (.slice (some ⟨b2, off2, none⟩) l2 c2) ∧ w'.cell? ⟨b2, off2 + 1, none⟩ = some (.slice (some ⟨b4, off4, none⟩) l3 c3))
         refine q1j [12] CC (by kernel_rfl) (HCI.out _ ⟨(Know.of (q0a H35.out.hm)), hc2, hc3⟩) (fun hcl hS => ?_)
         refine ggT 0 hcl hS ?_; clear hcl hS; intro hcl hS
         refine ggL 1 hcl hS HCO ?_; clear hcl hS; intro hcl hS
         refine ggT 2 hcl hS ?_; clear hcl hS; intro hcl hS
         refine ggL 3 hcl hS HCO ?_; clear hcl hS; intro hcl hS
         refine ggT 4 hcl hS ?_; clear hcl hS; intro hcl hS
         refine ggT 5 hcl hS ?_; clear hcl hS; intro hcl hS
         refine ggL 6 hcl hS HCO ?_; clear hcl hS; intro hcl hS
         refine ggT 7 hcl hS ?_; clear hcl hS; intro hcl hS
         refine ggC 8 hcl rfl (by kernel_rfl) (fun K hK => ?_)
         go_simp
         refine hK.out _ _ (fun _ => HCI.out _ ⟨(Know.of (H35.out.ext (((Chg.refl [] w35).drew).alloc (.cells #[.int .i64 (-1), .int .i64 1000000000, .int .i64 1000000001] 2))).hm), (H35.out.ckeep P2.out (((Chg.refl [b] w35).drew).alloc (.cells #[.int .i64 (-1), .int .i64 1000000000, .int .i64 1000000001] 2)) hc2), (H35.out.ckeep P3.out (((Chg.refl [b] w35).drew).alloc (.cells #[.int .i64 (-1), .int .i64 1000000000, .int .i64 1000000001] 2)) hc3)⟩) ?_
         clear hK K hcl hS
         intro hcl hS
         try simp only [Act.put, pA, pB, pC]
         refine ggC 9 hcl rfl (by kernel_rfl) (fun K hK => ?_)
         go_simp
         go_at_call 130
         refine (q0x b a la ca xs f (t + 18100 + 1) 3 [-1, 1000000000, 1000000001] _ (H35.out.src.ext ((Chg.refl [] w35).drew)) (by omega) (by simp [q0u]) rfl (by omega) (by omega) _ rfl _ rfl).mono ?_; rintro e wp ⟨vp, rfl, hd, hs, hc⟩; have hcc : Chg [b] w35 wp := ((Chg.refl [b] w35).drew).trans hc (fun y hy => .inl hy); have R3 := hid (H35.out.call hs hcc); have hp : q0u vp := (by simp only [List.mem_cons, List.not_mem_nil, or_false] at hd; constructor <;> omega); have ha3 := H35.out.ckeep P2.out hcc hc2; have hb3 := H35.out.ckeep P3.out hcc hc3; have k1 := H35.out.ckeep P4.out hcc hq4; have lp9 := P4.out.lt R3.out.ty.well; have fp9 := P4.out.fr R3.out.ty.well; clear hs hc hcc hd
         go_wp2_with fail
         refine hK.out _ _ (fun _ => HCI.out _ ⟨(Know.of R3.out.hm), ha3, hb3⟩) ?_
         clear hK K hcl hS
         intro hcl hS
         try simp only [Act.put, pA, pB, pC]
         refine ggT 10 hcl hS ?_; clear hcl hS; intro hcl hS
         refine ggT 11 hcl hS ?_; clear hcl hS; intro hcl hS
         refine ggC 12 hcl rfl (by kernel_rfl) (fun K hK => ?_)
         go_simp
         refine hK.out _ _ (Till.done (m := 12) (by simp) (by rfl)) ?_
         clear hK K hcl hS
         intro hcl hS
         try simp only [Act.put, pA, pB, pC]
         refine q3i (by kernel_rfl) ?_ _
         have R4 := hid (R3.out.step (put_stamp R3.out.ty.well P4.out hp))
         go_wp2_with fail
         go_meet
         exact ⟨_, #[.int .i64 x.gS, .int .i64 x.cM, .int .i64 x.data, .int .i64 x.spare, .int .i64 x.rows, .int .i64 x.cap, .int .i64 x.bT, .int .i64 x.qU, .int .i64 x.sG, .slice (some ⟨gb, goff, none⟩) G cg, .slice po2 lo2 co2, .slice (some ⟨tb, 0, none⟩) 2 2, .int .i64 wv, .int .i64 st, .bool dn], #[.bool false, .slice pa na ca1, .bool false, .slice pb nb cb1], ⟨x, _, _, _, _, _, _, _, _, _, _, _, _, _, _, _, _, _, _, _, _, rfl, rfl, ShpI.small (Shp.small_of_ok HOK.out), V0.out, VO.out, .inr rfl, ⟨⟨by have := HWV.out; omega, by have := HWV.out; omega⟩, by have := HWV.out; omega⟩, HST.out, VA.out, VB.out, by omega, by omega⟩, rfl, R4.out.mono (t' := t + 29000) (by omega)⟩
        have hb3 : (v == 3) = false := by simpa using hv3
        clear hv3
        go_upto_if 203 with fail
        by_cases hv4 : v = 4
        ·subst hv4
         have hG0 : 0 < G := by omega
         obtain ⟨gb2, goff2, p2, l2, c2, ha2, hc2, hv2, hl2, hl8, hp2⟩ := V0.out.ds_at H35.out.ty.well hG0
         obtain ⟨rfl, rfl⟩ : gb = gb2 ∧ goff = goff2 := by simpa using ha2
         have hl20 : 0 < l2 := by omega
         have hl16 : l2 ≤ 8 := by omega
         obtain ⟨b2, off2, q3, p3, l3, c3, rfl, hq3, hc3, hv3, hl3, hp3⟩ := hv2.dr_at H35.out.ty.well hl20
         have hl30 : 0 < l3 := by omega
         obtain ⟨b4, off4, s4, p4, l4, c4, rfl, hq4, hc4, hp4⟩ := hv3.bk_at H35.out.ty.well hl30
         rw [Nat.add_zero] at hc2 hp2
         rw [Nat.zero_mul, Nat.add_zero] at hq3 hc3 hp3 hq4 hc4 hp4
         have P2 := hid hp2; have P3 := hid hp3; have P4 := hid hp4; have V2 := hid hv2; have V3 := hid hv3
         clear ha2 hv2 hp2 hp3 hv3 hp4 hl8
         clear hq4 hc4 V3 P4
         have P2w := hid P2.out.wk; have P3w := hid P3.out.wk; have V2w := hid V2.out.wk
         clear P2 P3 V2
         clear cm lm fm ct lt ft
         have W51 := hid H35.out.weak
         have V52 := hid V0.out.wk
         have V53 := hid VA.out.wk
         have V54 := hid VB.out.wk
         have V55 := hid VO.out.wk
         have cm := cellsOf W51.out.hm; have lm := ltOf W51.out.hm; have fm := q0c W51.out.hm; have ct := cellsOf W51.out.ht; have lt := ltOf W51.out.ht; have ft := q0c W51.out.ht
         have lp9 := P3w.out.lt W51.out.ty.well; have fp9 := P3w.out.fr W51.out.ty.well; have lp8 := P2w.out.lt W51.out.ty.well
         go_wp2_with fail
         have K5 := hid (W51.out.step (put_two W51.out.ty.well rfl P3w.out ⟨true, none, 0, 0, rfl, SlT.nil _ _, Nat.le_refl _⟩))
         clear cm lm fm ct lt ft
         go_meet
         exact ⟨_, #[.int .i64 x.gS, .int .i64 x.cM, .int .i64 x.data, .int .i64 x.spare, .int .i64 x.rows, .int .i64 x.cap, .int .i64 x.bT, .int .i64 x.qU, .int .i64 x.sG, .slice (some ⟨gb, goff, none⟩) G cg, .slice po2 lo2 co2, .slice (some ⟨tb, 0, none⟩) 2 2, .int .i64 wv, .int .i64 st, .bool dn], #[.bool false, .slice pa na ca1, .bool false, .slice pb nb cb1], ⟨x, _, _, _, _, _, _, _, _, _, _, _, _, _, _, _, _, _, _, _, _, rfl, rfl, ShpI.small (Shp.small_of_ok HOK.out), V52.out, V55.out, .inr rfl, ⟨⟨by have := HWV.out; omega, by have := HWV.out; omega⟩, by have := HWV.out; omega⟩, HST.out, V53.out, V54.out, by omega, by omega⟩, rfl, K5.out.mono (t' := t + 29000) (by omega)⟩
        have hb4 : (v == 4) = false := by simpa using hv4
        clear hv4
        go_upto_if 211 with fail
        by_cases hv5 : v = 5
        ·subst hv5
         go_upto_region 41 with fail
         clear cm lm fm ct lt ft
         obtain ⟨CC, HCI, HCO⟩ := q0j (fun w' => Know m #[.int .i64 x.gS, .int .i64 x.cM, .int .i64 x.data, .int .i64 x.spare, .int .i64 x.rows, .int .i64 x.cap, .int .i64 x.bT, .int .i64 x.qU, .int .i64 x.sG, .slice (some ⟨gb, goff, none⟩) G cg, .slice po2 lo2 co2, .slice (some ⟨tb, 0, none⟩) 2 2, .int .i64 wv, .int .i64 st, .bool dn] w')
         refine q1j [6] CC (by kernel_rfl) (HCI.out _ (Know.of (q0a H35.out.hm))) (fun hcl hS => ?_)
         refine ggT 0 hcl hS ?_; clear hcl hS; intro hcl hS
         refine ggL 1 hcl hS HCO ?_; clear hcl hS; intro hcl hS
         refine ggT 2 hcl hS ?_; clear hcl hS; intro hcl hS
         refine ggC 3 hcl rfl (by kernel_rfl) (fun K hK => ?_)
         go_simp
         refine hK.out _ _ (fun _ => HCI.out _ (Know.of (H35.out.ext (((Chg.refl [] w35).drew).alloc (.cells #[.int .i64 0, .int .i64 (-1), .int .i64 9] 2))).hm)) ?_
         clear hK K hcl hS
         intro hcl hS
         try simp only [Act.put, pA, pB, pC]
         refine ggC 4 hcl rfl (by kernel_rfl) (fun K hK => ?_)
         go_simp
         go_at_call 130
         refine (q0x b a la ca xs f (t + 18100 + 1) 3 [0, -1, 9] _ (H35.out.src.ext ((Chg.refl [] w35).drew)) (by omega) (by simp [q0u]) rfl (by omega) (by omega) _ rfl _ rfl).mono ?_; rintro e wp ⟨vp, rfl, hd, hs, hc⟩; have R3 := hid ((H35.out.ext ((Chg.refl [] w35).drew)).call hs hc); have hp : q0u vp := (by simp only [List.mem_cons, List.not_mem_nil, or_false] at hd; constructor <;> omega); clear hs hc hd
         go_wp2_with fail
         refine hK.out _ _ (fun _ => HCI.out _ (Know.of R3.out.hm)) ?_
         clear hK K hcl hS
         intro hcl hS
         try simp only [Act.put, pA, pB, pC]
         refine ggC 5 hcl rfl (by kernel_rfl) (fun K hK => ?_)
         go_simp
         refine hK.out _ _ (fun _ => HCI.out _ (Know.of (R3.out.ext ((Chg.refl [] wp).alloc (.cells #[.int .i64 vp] 2))).hm)) ?_
         clear hK K hcl hS
         intro hcl hS
         try simp only [Act.put, pA, pB, pC]
         refine ggC 6 hcl rfl (by kernel_rfl) (fun K hK => ?_)
         refine q4b rfl _ _ 25 rfl (R3.out.ext ((Chg.refl [] wp).alloc (.cells #[.int .i64 vp] 2))).ty.well (k := .it) Tryz.underlying25 KI (by omega) rfl VO.out (cs := [.int .i64 vp]) ⟨vp, rfl, hp⟩ (by show lo2 + 1 ≤ 64; omega) ⟨wp.heap.size, 0, none⟩ 1 rfl (q1n wp #[.int .i64 vp] 2) ?_
         intro pO cO w4 T4 h41 h42 h43 h44 h45
         have R4 := hid ((R3.out.ext ((Chg.refl [] wp).alloc (.cells #[.int .i64 vp] 2))).step ⟨h41, h42, h44, h45⟩); have VO4 := hid h43; have SB4 := hid h42; have cm := cellsOf R4.out.hm; have lm := ltOf R4.out.hm; have fm := q0c R4.out.hm; have ct := cellsOf R4.out.ht; have lt := ltOf R4.out.ht; have ft := q0c R4.out.ht
         clear h41 h42 h43 h44 h45
         refine hK.out _ _ (Till.done (m := 6) (by simp) (by rfl)) ?_
         clear hK K hcl hS
         intro hcl hS
         try simp only [Act.put, pA, pB, pC]
         refine ggT 7 hcl hS ?_; clear hcl hS; intro hcl hS
         refine ggC 8 hcl rfl (by kernel_rfl) (fun K hK => ?_)
         go_simp
         refine hK.out _ _ (Till.done (m := 6) (by simp) (by rfl)) ?_
         clear hK K hcl hS
         intro hcl hS
         try simp only [Act.put, pA, pB, pC]
         refine q3i (by kernel_rfl) ?_ _
         clear cm lm fm ct lt ft
         have V56 := hid (V0.out.sub SB4.out)
         have V57 := hid (VA.out.sub SB4.out)
         have V58 := hid (VB.out.sub SB4.out)
         have R5 := hid (R4.out.put (cs' := #[.int .i64 x.gS, .int .i64 x.cM, .int .i64 x.data, .int .i64 x.spare, .int .i64 x.rows, .int .i64 x.cap, .int .i64 x.bT, .int .i64 x.qU, .int .i64 x.sG, .slice (some ⟨gb, goff, none⟩) G cg, .slice pO (lo2 + 1) cO, .slice (some ⟨tb, 0, none⟩) 2 2, .int .i64 wv, .int .i64 st, .bool dn]) 10 (.slice pO (lo2 + 1) cO) rfl)
         go_wp2_with fail
         go_meet
         exact ⟨_, #[.int .i64 x.gS, .int .i64 x.cM, .int .i64 x.data, .int .i64 x.spare, .int .i64 x.rows, .int .i64 x.cap, .int .i64 x.bT, .int .i64 x.qU, .int .i64 x.sG, .slice (some ⟨gb, goff, none⟩) G cg, .slice pO (lo2 + 1) cO, .slice (some ⟨tb, 0, none⟩) 2 2, .int .i64 wv, .int .i64 st, .bool dn], #[.bool false, .slice pa na ca1, .bool false, .slice pb nb cb1], ⟨x, _, _, _, _, _, _, _, _, _, _, _, _, _, _, _, _, _, _, _, _, rfl, rfl, ShpI.small (Shp.small_of_ok HOK.out), V56.out, VO4.out, .inr rfl, ⟨⟨by have := HWV.out; omega, by have := HWV.out; omega⟩, by have := HWV.out; omega⟩, HST.out, V57.out, V58.out, by omega, by omega⟩, rfl, R5.out.mono (t' := t + 29000) (by omega)⟩
        have hb5 : (v == 5) = false := by simpa using hv5
        clear hv5
        go_upto_if 221 with fail
        by_cases hv6 : v = 6
        ·subst hv6
         go_wp2_with fail
         clear cm lm fm ct lt ft
         have H59 := hid (H35.out.put (cs' := #[.int .i64 x.gS, .int .i64 x.cM, .int .i64 x.data, .int .i64 x.spare, .int .i64 x.rows, .int .i64 x.cap, .int .i64 x.bT, .int .i64 x.qU, .int .i64 x.sG, .slice (some ⟨gb, goff, none⟩) G cg, .slice po2 lo2 co2, .slice (some ⟨tb, 0, none⟩) 1 2, .int .i64 wv, .int .i64 st, .bool dn]) 11 (.slice (some ⟨tb, 0, none⟩) 1 2) rfl)
         generalize w35.setCell ⟨m, 11, none⟩ (.slice (some ⟨tb, 0, none⟩) 1 2) = w59 at H59 ⊢
         have cm := cellsOf H59.out.hm; have lm := ltOf H59.out.hm; have fm := q0c H59.out.hm; have ct := cellsOf H59.out.ht; have lt := ltOf H59.out.ht; have ft := q0c H59.out.ht
         clear cm lm fm ct lt ft
         go_meet
         exact ⟨_, #[.int .i64 x.gS, .int .i64 x.cM, .int .i64 x.data, .int .i64 x.spare, .int .i64 x.rows, .int .i64 x.cap, .int .i64 x.bT, .int .i64 x.qU, .int .i64 x.sG, .slice (some ⟨gb, goff, none⟩) G cg, .slice po2 lo2 co2, .slice (some ⟨tb, 0, none⟩) 1 2, .int .i64 wv, .int .i64 st, .bool dn], #[.bool false, .slice pa na ca1, .bool false, .slice pb nb cb1], ⟨x, _, _, _, _, _, _, _, _, _, _, _, _, _, _, _, _, _, _, _, _, rfl, rfl, ShpI.small (Shp.small_of_ok HOK.out), V0.out, VO.out, .inl rfl, ⟨⟨by have := HWV.out; omega, by have := HWV.out; omega⟩, by have := HWV.out; omega⟩, HST.out, VA.out, VB.out, by omega, by omega⟩, rfl, H59.out.mono (t' := t + 29000) (by omega)⟩
        have hb6 : (v == 6) = false := by simpa using hv6
        clear hv6
        go_upto_if 227 with fail
        by_cases hv7 : v = 7
        ·subst hv7
         go_upto_region 45 with fail
         clear cm lm fm ct lt ft
         obtain ⟨CC, HCI, HCO⟩ := q0j (fun w' => Know m #[.int .i64 x.gS, .int .i64 x.cM, .int .i64 x.data, .int .i64 x.spare, .int .i64 x.rows, .int .i64 x.cap, .int .i64 x.bT, .int .i64 x.qU, .int .i64 x.sG, .slice (some ⟨gb, goff, none⟩) G cg, .slice po2 lo2 co2, .slice (some ⟨tb, 0, none⟩) 2 2, .int .i64 wv, .int .i64 st, .bool dn] w' ∧ Know tb #[.bool false, .slice pa na ca1, .bool false, .slice pb nb cb1] w')
         refine q1j [12] CC (by kernel_rfl) (HCI.out _ ⟨(Know.of (q0a H35.out.hm)), (Know.of (q0a H35.out.ht))⟩) (fun hcl hS => ?_)
         refine ggT 0 hcl hS ?_; clear hcl hS; intro hcl hS
         refine ggL 1 hcl hS HCO ?_; clear hcl hS; intro hcl hS
         refine ggT 2 hcl hS ?_; clear hcl hS; intro hcl hS
         refine ggL 3 hcl hS HCO ?_; clear hcl hS; intro hcl hS
         refine ggT 4 hcl hS ?_; clear hcl hS; intro hcl hS
         refine ggT 5 hcl hS ?_; clear hcl hS; intro hcl hS
         refine ggL 6 hcl hS HCO ?_; clear hcl hS; intro hcl hS
         refine ggT 7 hcl hS ?_; clear hcl hS; intro hcl hS
         refine ggC 8 hcl rfl (by kernel_rfl) (fun K hK => ?_)
         go_simp
         refine hK.out _ _ (fun _ => HCI.out _ ⟨(Know.of (H35.out.ext (((Chg.refl [] w35).drew).alloc (.cells #[.int .i64 0, .int .i64 0, .string ⟨#[]⟩, .int .i64 0, .int .i64 0, .int .i64 0, .slice none 0 0, .slice none 0 0, .slice none 0 0] 67))).hm), (Know.of (H35.out.ext (((Chg.refl [] w35).drew).alloc (.cells #[.int .i64 0, .int .i64 0, .string ⟨#[]⟩, .int .i64 0, .int .i64 0, .int .i64 0, .slice none 0 0, .slice none 0 0, .slice none 0 0] 67))).ht)⟩) ?_
         clear hK K hcl hS
         intro hcl hS
         try simp only [Act.put, pA, pB, pC]
         refine ggC 9 hcl rfl (by kernel_rfl) (fun K hK => ?_)
         refine q4b rfl _ _ 44 rfl (H35.out.ext (((Chg.refl [] w35).drew).alloc (.cells #[.int .i64 0, .int .i64 0, .string ⟨#[]⟩, .int .i64 0, .int .i64 0, .int .i64 0, .slice none 0 0, .slice none 0 0, .slice none 0 0] 67))).ty.well (k := .rc) Tryz.underlying44 KR (by omega) rfl VB.out (cs := [.int .i64 0, .int .i64 0, .string ⟨#[]⟩, .int .i64 0, .int .i64 0, .int .i64 0, .slice none 0 0, .slice none 0 0, .slice none 0 0]) ⟨0, 0, ⟨#[]⟩, 0, 0, 0, _, _, _, rfl, ⟨i64z, i64z, i64z, i64z, i64z⟩, by decide, SlT.nil _ _, SlT.nil _ _, SlT.nil _ _⟩ (by show nb + 1 ≤ 300; omega) ⟨w35.heap.size, 0, none⟩ 1 rfl (q1n w35.drew #[.int .i64 0, .int .i64 0, .string ⟨#[]⟩, .int .i64 0, .int .i64 0, .int .i64 0, .slice none 0 0, .slice none 0 0, .slice none 0 0] 67) ?_
         intro pB cB w4 T4 h41 h42 h43 h44 h45
         have R4 := hid ((H35.out.ext (((Chg.refl [] w35).drew).alloc (.cells #[.int .i64 0, .int .i64 0, .string ⟨#[]⟩, .int .i64 0, .int .i64 0, .int .i64 0, .slice none 0 0, .slice none 0 0, .slice none 0 0] 67))).step ⟨h41, h42, h44, h45⟩); have VB4 := hid h43; have SB4 := hid h42; have cm := cellsOf R4.out.hm; have lm := ltOf R4.out.hm; have fm := q0c R4.out.hm; have ct := cellsOf R4.out.ht; have lt := ltOf R4.out.ht; have ft := q0c R4.out.ht
         clear h41 h42 h43 h44 h45
         refine hK.out _ _ (fun _ => HCI.out _ ⟨(Know.of R4.out.hm), (Know.of R4.out.ht)⟩) ?_
         clear hK K hcl hS
         intro hcl hS
         try simp only [Act.put, pA, pB, pC]
         refine ggT 10 hcl hS ?_; clear hcl hS; intro hcl hS
         refine ggT 11 hcl hS ?_; clear hcl hS; intro hcl hS
         refine ggC 12 hcl rfl (by kernel_rfl) (fun K hK => ?_)
         go_simp
         refine hK.out _ _ (Till.done (m := 12) (by simp) (by rfl)) ?_
         clear hK K hcl hS
         intro hcl hS
         try simp only [Act.put, pA, pB, pC]
         refine q3i (by kernel_rfl) ?_ _
         clear cm lm fm ct lt ft
         have V60 := hid (V0.out.sub SB4.out)
         have V61 := hid (VA.out.sub SB4.out)
         have V62 := hid (VO.out.sub SB4.out)
         have R5 := hid (R4.out.putT (ts' := #[.bool false, .slice pa na ca1, .bool false, .slice pB (nb + 1) cB]) 3 (.slice pB (nb + 1) cB) rfl)
         go_wp2_with fail
         go_meet
         exact ⟨_, #[.int .i64 x.gS, .int .i64 x.cM, .int .i64 x.data, .int .i64 x.spare, .int .i64 x.rows, .int .i64 x.cap, .int .i64 x.bT, .int .i64 x.qU, .int .i64 x.sG, .slice (some ⟨gb, goff, none⟩) G cg, .slice po2 lo2 co2, .slice (some ⟨tb, 0, none⟩) 2 2, .int .i64 wv, .int .i64 st, .bool dn], #[.bool false, .slice pa na ca1, .bool false, .slice pB (nb + 1) cB], ⟨x, _, _, _, _, _, _, _, _, _, _, _, _, _, _, _, _, _, _, _, _, rfl, rfl, ShpI.small (Shp.small_of_ok HOK.out), V60.out, V62.out, .inr rfl, ⟨⟨by have := HWV.out; omega, by have := HWV.out; omega⟩, by have := HWV.out; omega⟩, HST.out, V61.out, VB4.out, by omega, by omega⟩, rfl, R5.out.mono (t' := t + 29000) (by omega)⟩
        have hb7 : (v == 7) = false := by simpa using hv7
        clear hv7
        go_upto_if 241 with fail
        by_cases hv8 : v = 8
        ·subst hv8
         go_wp2_with fail
         clear cm lm fm ct lt ft
         have H63 := hid (H35.out.putT (ts' := #[.bool true, .slice pa na ca1, .bool false, .slice pb nb cb1]) 0 (.bool true) rfl)
         generalize w35.setCell ⟨tb, 0, none⟩ (.bool true) = w63 at H63 ⊢
         have cm := cellsOf H63.out.hm; have lm := ltOf H63.out.hm; have fm := q0c H63.out.hm; have ct := cellsOf H63.out.ht; have lt := ltOf H63.out.ht; have ft := q0c H63.out.ht
         clear cm lm fm ct lt ft
         go_meet
         exact ⟨_, #[.int .i64 x.gS, .int .i64 x.cM, .int .i64 x.data, .int .i64 x.spare, .int .i64 x.rows, .int .i64 x.cap, .int .i64 x.bT, .int .i64 x.qU, .int .i64 x.sG, .slice (some ⟨gb, goff, none⟩) G cg, .slice po2 lo2 co2, .slice (some ⟨tb, 0, none⟩) 2 2, .int .i64 wv, .int .i64 st, .bool dn], #[.bool true, .slice pa na ca1, .bool false, .slice pb nb cb1], ⟨x, _, _, _, _, _, _, _, _, _, _, _, _, _, _, _, _, _, _, _, _, rfl, rfl, ShpI.small (Shp.small_of_ok HOK.out), V0.out, VO.out, .inr rfl, ⟨⟨by have := HWV.out; omega, by have := HWV.out; omega⟩, by have := HWV.out; omega⟩, HST.out, VA.out, VB.out, by omega, by omega⟩, rfl, H63.out.mono (t' := t + 29000) (by omega)⟩
        have hb8 : (v == 8) = false := by simpa using hv8
        clear hv8
        go_upto_if 247 with fail
        by_cases hv9 : v = 9
        ·subst hv9
         go_wp2_with fail
         refine (q0x b a la ca xs f (t + 18100 + 1) 2 [-1, 1000000001] _ H35.out.src (by omega) (by simp [q0u]) rfl (by omega) (by omega) _ rfl _ rfl).mono ?_
         rintro e w64 ⟨vp, rfl, hd, hs, hc⟩
         clear cm lm fm ct lt ft
         have H64 := hid (H35.out.call hs hc)
         clear hs
         have C64 := hid hc; clear hc
         have cm := cellsOf H64.out.hm; have lm := ltOf H64.out.hm; have fm := q0c H64.out.hm; have ct := cellsOf H64.out.ht; have lt := ltOf H64.out.ht; have ft := q0c H64.out.ht
         have hp : q0u vp ∧ vp ≠ 1000000000 := by
          simp only [List.mem_cons, List.not_mem_nil, or_false] at hd
          refine ⟨⟨?_, ?_⟩, ?_⟩ <;> omega
         clear hd
         go_wp2_with fail
         clear cm lm fm ct lt ft
         have H65 := hid (H64.out.put (cs' := #[.int .i64 x.gS, .int .i64 x.cM, .int .i64 x.data, .int .i64 x.spare, .int .i64 x.rows, .int .i64 x.cap, .int .i64 x.bT, .int .i64 x.qU, .int .i64 x.sG, .slice (some ⟨gb, goff, none⟩) G cg, .slice po2 lo2 co2, .slice (some ⟨tb, 0, none⟩) 2 2, .int .i64 vp, .int .i64 st, .bool dn]) 12 (.int .i64 vp) rfl)
         generalize w64.setCell ⟨m, 12, none⟩ (.int .i64 vp) = w65 at H65 ⊢
         have cm := cellsOf H65.out.hm; have lm := ltOf H65.out.hm; have fm := q0c H65.out.hm; have ct := cellsOf H65.out.ht; have lt := ltOf H65.out.ht; have ft := q0c H65.out.ht
         clear cm lm fm ct lt ft
         go_meet
         exact ⟨_, #[.int .i64 x.gS, .int .i64 x.cM, .int .i64 x.data, .int .i64 x.spare, .int .i64 x.rows, .int .i64 x.cap, .int .i64 x.bT, .int .i64 x.qU, .int .i64 x.sG, .slice (some ⟨gb, goff, none⟩) G cg, .slice po2 lo2 co2, .slice (some ⟨tb, 0, none⟩) 2 2, .int .i64 vp, .int .i64 st, .bool dn], #[.bool false, .slice pa na ca1, .bool false, .slice pb nb cb1], ⟨x, _, _, _, _, _, _, _, _, _, _, _, _, _, _, _, _, _, _, _, _, rfl, rfl, ShpI.small (Shp.small_of_ok HOK.out), V0.out, VO.out, .inr rfl, hp, HST.out, VA.out, VB.out, by omega, by omega⟩, rfl, H65.out.mono (t' := t + 29000) (by omega)⟩
        have hb9 : (v == 9) = false := by simpa using hv9
        clear hv9
        go_upto_if 253 with fail
        by_cases hv10 : v = 10
        ·subst hv10
         go_wp2_with fail
         refine (q0x b a la ca xs f (t + 18100 + 1) 2 [-2, 1000000001] _ H35.out.src (by omega) (by simp [q0u]) rfl (by omega) (by omega) _ rfl _ rfl).mono ?_
         rintro e w66 ⟨vp, rfl, hd, hs, hc⟩
         clear cm lm fm ct lt ft
         have H66 := hid (H35.out.call hs hc)
         clear hs
         have C66 := hid hc; clear hc
         have cm := cellsOf H66.out.hm; have lm := ltOf H66.out.hm; have fm := q0c H66.out.hm; have ct := cellsOf H66.out.ht; have lt := ltOf H66.out.ht; have ft := q0c H66.out.ht
         have hp : q0u vp ∧ vp ≠ 1000000000 := by
          simp only [List.mem_cons, List.not_mem_nil, or_false] at hd
          refine ⟨⟨?_, ?_⟩, ?_⟩ <;> omega
         clear hd
         go_wp2_with fail
         clear cm lm fm ct lt ft
         have H67 := hid (H66.out.put (cs' := #[.int .i64 x.gS, .int .i64 x.cM, .int .i64 x.data, .int .i64 x.spare, .int .i64 x.rows, .int .i64 x.cap, .int .i64 x.bT, .int .i64 x.qU, .int .i64 x.sG, .slice (some ⟨gb, goff, none⟩) G cg, .slice po2 lo2 co2, .slice (some ⟨tb, 0, none⟩) 2 2, .int .i64 wv, .int .i64 vp, .bool dn]) 13 (.int .i64 vp) rfl)
         generalize w66.setCell ⟨m, 13, none⟩ (.int .i64 vp) = w67 at H67 ⊢
         have cm := cellsOf H67.out.hm; have lm := ltOf H67.out.hm; have fm := q0c H67.out.hm; have ct := cellsOf H67.out.ht; have lt := ltOf H67.out.ht; have ft := q0c H67.out.ht
         clear cm lm fm ct lt ft
         go_meet
         exact ⟨_, #[.int .i64 x.gS, .int .i64 x.cM, .int .i64 x.data, .int .i64 x.spare, .int .i64 x.rows, .int .i64 x.cap, .int .i64 x.bT, .int .i64 x.qU, .int .i64 x.sG, .slice (some ⟨gb, goff, none⟩) G cg, .slice po2 lo2 co2, .slice (some ⟨tb, 0, none⟩) 2 2, .int .i64 wv, .int .i64 vp, .bool dn], #[.bool false, .slice pa na ca1, .bool false, .slice pb nb cb1], ⟨x, _, _, _, _, _, _, _, _, _, _, _, _, _, _, _, _, _, _, _, _, rfl, rfl, ShpI.small (Shp.small_of_ok HOK.out), V0.out, VO.out, .inr rfl, ⟨⟨by have := HWV.out; omega, by have := HWV.out; omega⟩, by have := HWV.out; omega⟩, hp.1, VA.out, VB.out, by omega, by omega⟩, rfl, H67.out.mono (t' := t + 29000) (by omega)⟩
        have hb10 : (v == 10) = false := by simpa using hv10
        clear hv10
        go_upto_if 259 with fail
        by_cases hv11 : v = 11
        ·subst hv11
         have hmk : ∀ w : World, (Instr.makeSlice 44 (.int .i64 201) (.int .i64 201)).run Tryz.prog w = .ok (.slice (some ⟨w.heap.size, 0, none⟩) 201 201) (w.alloc (.cells (zrow (.agg #[.int .i64 0, .int .i64 0, .string ⟨#[]⟩, .int .i64 0, .int .i64 0, .int .i64 0, .slice none 0 0, .slice none 0 0, .slice none 0 0]) (201 * 9)) 67)) := fun w => makeRec 201 (by omega) w
         go_upto_region 53 with fail
         clear cm lm fm ct lt ft
         have hz := zero_rc H35.out.ty.well
         have VZ := hid hz.1; have R4 := hid ((H35.out.step hz.2).ext ((Chg.refl [] _).drew)); have SB4 := hid hz.2.sub
         clear hz
         obtain ⟨CC, HCI, HCO⟩ := q0j (fun w' => Know m #[.int .i64 x.gS, .int .i64 x.cM, .int .i64 x.data, .int .i64 x.spare, .int .i64 x.rows, .int .i64 x.cap, .int .i64 x.bT, .int .i64 x.qU, .int .i64 x.sG, .slice (some ⟨gb, goff, none⟩) G cg, .slice po2 lo2 co2, .slice (some ⟨tb, 0, none⟩) 2 2, .int .i64 wv, .int .i64 st, .bool dn] w')
         refine q1j [5] CC (by kernel_rfl) (HCI.out _ (Know.of (q0a H35.out.hm))) (fun hcl hS => ?_)
         refine ggT 0 hcl hS ?_; clear hcl hS; intro hcl hS
         refine ggL 1 hcl hS HCO ?_; clear hcl hS; intro hcl hS
         refine ggC 2 hcl rfl (by kernel_rfl) (fun K hK => ?_)
         go_simp
         try rw [hmk]
         try go_simp
         have cm := cellsOf R4.out.hm; have lm := ltOf R4.out.hm; have fm := q0c R4.out.hm; have ct := cellsOf R4.out.ht; have lt := ltOf R4.out.ht; have ft := q0c R4.out.ht
         refine hK.out _ _ (fun _ => HCI.out _ (Know.of R4.out.hm)) ?_
         clear hK K hcl hS
         intro hcl hS
         try simp only [Act.put, pA, pB, pC]
         refine ggT 3 hcl hS ?_; clear hcl hS; intro hcl hS
         refine ggT 4 hcl hS ?_; clear hcl hS; intro hcl hS
         refine ggC 5 hcl rfl (by kernel_rfl) (fun K hK => ?_)
         go_simp
         refine hK.out _ _ (Till.done (m := 5) (by simp) (by rfl)) ?_
         clear hK K hcl hS
         intro hcl hS
         try simp only [Act.put, pA, pB, pC]
         refine q3i (by kernel_rfl) ?_ _
         clear cm lm fm ct lt ft
         have V68 := hid (V0.out.sub SB4.out)
         have V69 := hid (VB.out.sub SB4.out)
         have V70 := hid (VO.out.sub SB4.out)
         have R5 := hid (R4.out.putT (ts' := #[.bool false, .slice (some ⟨w35.heap.size, 0, none⟩) 201 201, .bool false, .slice pb nb cb1]) 1 (.slice (some ⟨w35.heap.size, 0, none⟩) 201 201) rfl)
         go_wp2_with fail
         go_meet
         exact ⟨_, #[.int .i64 x.gS, .int .i64 x.cM, .int .i64 x.data, .int .i64 x.spare, .int .i64 x.rows, .int .i64 x.cap, .int .i64 x.bT, .int .i64 x.qU, .int .i64 x.sG, .slice (some ⟨gb, goff, none⟩) G cg, .slice po2 lo2 co2, .slice (some ⟨tb, 0, none⟩) 2 2, .int .i64 wv, .int .i64 st, .bool dn], #[.bool false, .slice (some ⟨w35.heap.size, 0, none⟩) 201 201, .bool false, .slice pb nb cb1], ⟨x, _, _, _, _, _, _, _, _, _, _, _, _, _, _, _, _, _, _, _, _, rfl, rfl, ShpI.small (Shp.small_of_ok HOK.out), V68.out, V70.out, .inr rfl, ⟨⟨by have := HWV.out; omega, by have := HWV.out; omega⟩, by have := HWV.out; omega⟩, HST.out, VZ.out, V69.out, by omega, by omega⟩, rfl, R5.out.mono (t' := t + 29000) (by omega)⟩
        have hb11 : (v == 11) = false := by simpa using hv11
        clear hv11
        go_upto_if 266 with fail
        by_cases hv12 : v = 12
        ·subst hv12
         go_wp2_with fail
         refine (bent_any b a la ca xs f (t + 18100 + 1) _ H35.out.src (by omega)).mono ?_
         rintro e wp ⟨y, rfl, hsm, hs, hc⟩
         clear cm lm fm ct lt ft
         have R3 := hid (H35.out.call hs hc); have HSM := hid hsm
         clear hs hc hsm
         try simp only [Shp.cells]
         have cm := cellsOf R3.out.hm; have lm := ltOf R3.out.hm; have fm := q0c R3.out.hm; have ct := cellsOf R3.out.ht; have lt := ltOf R3.out.ht; have ft := q0c R3.out.ht
         go_wp2_with fail
         clear cm lm fm ct lt ft
         have Y72 := hid (R3.out.put (cs' := #[.int .i64 y.gS, .int .i64 x.cM, .int .i64 x.data, .int .i64 x.spare, .int .i64 x.rows, .int .i64 x.cap, .int .i64 x.bT, .int .i64 x.qU, .int .i64 x.sG, .slice (some ⟨gb, goff, none⟩) G cg, .slice po2 lo2 co2, .slice (some ⟨tb, 0, none⟩) 2 2, .int .i64 wv, .int .i64 st, .bool dn]) 0 (.int .i64 y.gS) rfl)
         have Y73 := hid (Y72.out.put (cs' := #[.int .i64 y.gS, .int .i64 y.cM, .int .i64 x.data, .int .i64 x.spare, .int .i64 x.rows, .int .i64 x.cap, .int .i64 x.bT, .int .i64 x.qU, .int .i64 x.sG, .slice (some ⟨gb, goff, none⟩) G cg, .slice po2 lo2 co2, .slice (some ⟨tb, 0, none⟩) 2 2, .int .i64 wv, .int .i64 st, .bool dn]) 1 (.int .i64 y.cM) rfl)
         have Y74 := hid (Y73.out.put (cs' := #[.int .i64 y.gS, .int .i64 y.cM, .int .i64 y.data, .int .i64 x.spare, .int .i64 x.rows, .int .i64 x.cap, .int .i64 x.bT, .int .i64 x.qU, .int .i64 x.sG, .slice (some ⟨gb, goff, none⟩) G cg, .slice po2 lo2 co2, .slice (some ⟨tb, 0, none⟩) 2 2, .int .i64 wv, .int .i64 st, .bool dn]) 2 (.int .i64 y.data) rfl)
         have Y75 := hid (Y74.out.put (cs' := #[.int .i64 y.gS, .int .i64 y.cM, .int .i64 y.data, .int .i64 y.spare, .int .i64 x.rows, .int .i64 x.cap, .int .i64 x.bT, .int .i64 x.qU, .int .i64 x.sG, .slice (some ⟨gb, goff, none⟩) G cg, .slice po2 lo2 co2, .slice (some ⟨tb, 0, none⟩) 2 2, .int .i64 wv, .int .i64 st, .bool dn]) 3 (.int .i64 y.spare) rfl)
         have Y76 := hid (Y75.out.put (cs' := #[.int .i64 y.gS, .int .i64 y.cM, .int .i64 y.data, .int .i64 y.spare, .int .i64 y.rows, .int .i64 x.cap, .int .i64 x.bT, .int .i64 x.qU, .int .i64 x.sG, .slice (some ⟨gb, goff, none⟩) G cg, .slice po2 lo2 co2, .slice (some ⟨tb, 0, none⟩) 2 2, .int .i64 wv, .int .i64 st, .bool dn]) 4 (.int .i64 y.rows) rfl)
         have Y77 := hid (Y76.out.put (cs' := #[.int .i64 y.gS, .int .i64 y.cM, .int .i64 y.data, .int .i64 y.spare, .int .i64 y.rows, .int .i64 y.cap, .int .i64 x.bT, .int .i64 x.qU, .int .i64 x.sG, .slice (some ⟨gb, goff, none⟩) G cg, .slice po2 lo2 co2, .slice (some ⟨tb, 0, none⟩) 2 2, .int .i64 wv, .int .i64 st, .bool dn]) 5 (.int .i64 y.cap) rfl)
         have Y78 := hid (Y77.out.put (cs' := #[.int .i64 y.gS, .int .i64 y.cM, .int .i64 y.data, .int .i64 y.spare, .int .i64 y.rows, .int .i64 y.cap, .int .i64 y.bT, .int .i64 x.qU, .int .i64 x.sG, .slice (some ⟨gb, goff, none⟩) G cg, .slice po2 lo2 co2, .slice (some ⟨tb, 0, none⟩) 2 2, .int .i64 wv, .int .i64 st, .bool dn]) 6 (.int .i64 y.bT) rfl)
         have Y79 := hid (Y78.out.put (cs' := #[.int .i64 y.gS, .int .i64 y.cM, .int .i64 y.data, .int .i64 y.spare, .int .i64 y.rows, .int .i64 y.cap, .int .i64 y.bT, .int .i64 y.qU, .int .i64 x.sG, .slice (some ⟨gb, goff, none⟩) G cg, .slice po2 lo2 co2, .slice (some ⟨tb, 0, none⟩) 2 2, .int .i64 wv, .int .i64 st, .bool dn]) 7 (.int .i64 y.qU) rfl)
         have Y80 := hid (Y79.out.put (cs' := #[.int .i64 y.gS, .int .i64 y.cM, .int .i64 y.data, .int .i64 y.spare, .int .i64 y.rows, .int .i64 y.cap, .int .i64 y.bT, .int .i64 y.qU, .int .i64 y.sG, .slice (some ⟨gb, goff, none⟩) G cg, .slice po2 lo2 co2, .slice (some ⟨tb, 0, none⟩) 2 2, .int .i64 wv, .int .i64 st, .bool dn]) 8 (.int .i64 y.sG) rfl)
         go_meet
         exact ⟨_, #[.int .i64 y.gS, .int .i64 y.cM, .int .i64 y.data, .int .i64 y.spare, .int .i64 y.rows, .int .i64 y.cap, .int .i64 y.bT, .int .i64 y.qU, .int .i64 y.sG, .slice (some ⟨gb, goff, none⟩) G cg, .slice po2 lo2 co2, .slice (some ⟨tb, 0, none⟩) 2 2, .int .i64 wv, .int .i64 st, .bool dn], #[.bool false, .slice pa na ca1, .bool false, .slice pb nb cb1], ⟨y, _, _, _, _, _, _, _, _, _, _, _, _, _, _, _, _, _, _, _, _, rfl, rfl, ShpI.small HSM.out, V0.out, VO.out, .inr rfl, ⟨⟨by have := HWV.out; omega, by have := HWV.out; omega⟩, by have := HWV.out; omega⟩, HST.out, VA.out, VB.out, by omega, by omega⟩, rfl, Y80.out.mono (t' := t + 29000) (by omega)⟩
        have hb12 : (v == 12) = false := by simpa using hv12
        clear hv12
        go_wp2_with fail
        clear cm lm fm ct lt ft
        go_meet
        exact ⟨_, #[.int .i64 x.gS, .int .i64 x.cM, .int .i64 x.data, .int .i64 x.spare, .int .i64 x.rows, .int .i64 x.cap, .int .i64 x.bT, .int .i64 x.qU, .int .i64 x.sG, .slice (some ⟨gb, goff, none⟩) G cg, .slice po2 lo2 co2, .slice (some ⟨tb, 0, none⟩) 2 2, .int .i64 wv, .int .i64 st, .bool dn], #[.bool false, .slice pa na ca1, .bool false, .slice pb nb cb1], ⟨x, _, _, _, _, _, _, _, _, _, _, _, _, _, _, _, _, _, _, _, _, rfl, rfl, ShpI.small (Shp.small_of_ok HOK.out), V0.out, VO.out, .inr rfl, ⟨⟨by have := HWV.out; omega, by have := HWV.out; omega⟩, by have := HWV.out; omega⟩, HST.out, VA.out, VB.out, by omega, by omega⟩, rfl, H35.out.mono (t' := t + 29000) (by omega)⟩
       case rest =>
       revert wc; intro w9 hcut
       obtain ⟨T9, cs, ts, hwo, hsz, hr⟩ := hcut
       have HONE := hid (show cs.toList.all Value.oneCell' = true from by obtain ⟨_, _, _, _, _, _, _, _, _, _, _, _, _, _, _, _, _, _, _, _, _, rfl, -⟩ := hwo; rfl)
       have HWO := hid hwo; have HSZ := hid hsz; have R := hid hr
       clear hwo hsz hr
       go_wp2_with (first | (refine q1c rfl _ 34 rfl rfl q1x Tryz.underlying34 R.out.hm HSZ.out ?_) | (refine q0z rfl _ _ 34 rfl rfl rfl q1x R.out.h2 HSZ.out rfl HONE.out ?_; intro w10 hb hc; have HB := hid hb; have HC := hid hc; clear hb hc))
       refine bodyPost_ret (v := .agg cs) (q0t _ 34 rfl rfl q1x Tryz.underlying34 HB.out HSZ.out) rfl ⟨cs, rfl, ⟨T9, tb, ts, HWO.out, HC.out.keepb R.out.ht (by rw [List.mem_singleton]; have := R.out.lt; omega), R.out.nt, Nat.le_of_lt R.out.lt, (R.out.ty.chg HC.out (fun y hy => by rw [List.mem_singleton] at hy; omega)).mono (Nat.le_succ _)⟩, ((R.out.src.chg HC.out (by rw [List.mem_singleton]; have := R.out.lb; omega) (fun y hy => by rw [List.mem_singleton]; have := R.out.lf y hy; omega))).mono (by omega), R.out.chg.trans HC.out (fun y hy => .inr (by rw [List.mem_singleton] at hy; omega))⟩
end Go.Proofs.YtphmpimgbmedbaaGreat
