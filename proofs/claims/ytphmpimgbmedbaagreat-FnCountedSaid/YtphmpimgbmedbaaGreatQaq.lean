/- Several texts in one. -/
import Derived.Test.YtphmpimgbmedbaaGreatQal
import Derived.Deep.DeepCutAuto
import Derived.Test.YtphmpimgbmedbaaGreatQae
import Derived.Test.YtphmpimgbmedbaaGreatQak
import Derived.Test.YtphmpimgbmedbaaGreatQac
import Derived.Test.YtphmpimgbmedbaaGreatQaa
import Derived.Test.YtphmpimgbmedbaaGreatQaj
set_option maxRecDepth 100000
set_option maxHeartbeats 8000000
namespace Go.Proofs.YtphmpimgbmedbaaGreat
open Go.RowKit
open Go.Lib (hid)
theorem tape_zero : zrow (.agg #[.bool false, .slice none 0 0]) 4 = #[.bool false, .slice none 0 0, .bool false, .slice none 0 0] := by
 have h : (Value.agg #[.bool false, .slice none 0 0]).cells = #[.bool false, .slice none 0 0] := by simp [Value.cells]
 unfold zrow madeCells
 rw [h]
 apply Array.ext (by simp)
 intro i hi _
 have hi : i < 4 := by simpa using hi
 have : i = 0 ∨ i = 1 ∨ i = 2 ∨ i = 3 := by omega
 rcases this with rfl | rfl | rfl | rfl <;> simp
theorem newWorld_ty (x : Shp) (hok : x.ok) (w : World) :
  Calls Tryz.prog 206 #[.agg #[.int .i64 x.gS, .int .i64 x.cM, .int .i64 x.data, .int .i64 x.spare, .int .i64 x.rows, .int .i64 x.cap, .int .i64 x.bT, .int .i64 x.qU, .int .i64 x.sG]] w fun e w' => ∃ (na : Nat) (p : Option Addr) (c b : Nat), e = .returned (.agg #[.int .i64 0, .int .i64 x.gS, .int .i64 x.cM, .int .i64 x.data, .int .i64 x.spare, .int .i64 x.rows, .int .i64 x.cap, .int .i64 x.bT, .int .i64 x.qU, .int .i64 x.sG, .slice p na c, .slice none 0 0, .slice (some ⟨b, 0, none⟩) 2 2, .int .i64 0, .int .i64 (-1), .bool false]) ∧ x.all = na ∧ (∃ T, SlT T (.ds x.drives.toNat x.rows.toNat) (.slice p na c) ∧ TyN w.heap.size T w' ∧ b ∉ T.map (·.b)) ∧ w'.heap[b]? = some (.cells #[.bool false, .slice none 0 0, .bool false, .slice none 0 0] 69 (0, 0)) ∧ w.heap.size ≤ b ∧ Chg [] w w' := by
 obtain ⟨KD, _⟩ := kindDrive
 obtain ⟨KS, _⟩ := kindDS
 have hmk : ∀ w : World, (Instr.makeSlice 32 (.int .i64 2) (.int .i64 2)).run Tryz.prog w = .ok (.slice (some ⟨w.heap.size, 0, none⟩) 2 2) (w.alloc (.cells #[.bool false, .slice none 0 0, .bool false, .slice none 0 0] 69)) := fun w => by rw [← tape_zero]; exact makeTape 2 (by omega) w
 have G0 := hid (show Chg [] w ((w.alloc (.cells #[.int .i64 x.gS, .int .i64 x.cM, .int .i64 x.data, .int .i64 x.spare, .int .i64 x.rows, .int .i64 x.cap, .int .i64 x.bT, .int .i64 x.qU, .int .i64 x.sG] 30)).alloc (.cells #[.int .i64 0, .int .i64 0, .int .i64 0, .int .i64 0, .int .i64 0, .int .i64 0, .int .i64 0, .int .i64 0, .int .i64 0, .int .i64 0, .slice none 0 0, .slice none 0 0, .slice none 0 0, .int .i64 0, .int .i64 0, .bool false] 36)) from ((Chg.refl [] w).alloc _).alloc _)
 have B1 := hid (show ((w.alloc (.cells #[.int .i64 x.gS, .int .i64 x.cM, .int .i64 x.data, .int .i64 x.spare, .int .i64 x.rows, .int .i64 x.cap, .int .i64 x.bT, .int .i64 x.qU, .int .i64 x.sG] 30)).alloc (.cells #[.int .i64 0, .int .i64 0, .int .i64 0, .int .i64 0, .int .i64 0, .int .i64 0, .int .i64 0, .int .i64 0, .int .i64 0, .int .i64 0, .slice none 0 0, .slice none 0 0, .slice none 0 0, .int .i64 0, .int .i64 0, .bool false] 36)).heap[w.heap.size]? = some (.cells #[.int .i64 x.gS, .int .i64 x.cM, .int .i64 x.data, .int .i64 x.spare, .int .i64 x.rows, .int .i64 x.cap, .int .i64 x.bT, .int .i64 x.qU, .int .i64 x.sG] 30 (0, 0)) from q0b (q0o w _) _)
 have B2 := hid (show ((w.alloc (.cells #[.int .i64 x.gS, .int .i64 x.cM, .int .i64 x.data, .int .i64 x.spare, .int .i64 x.rows, .int .i64 x.cap, .int .i64 x.bT, .int .i64 x.qU, .int .i64 x.sG] 30)).alloc (.cells #[.int .i64 0, .int .i64 0, .int .i64 0, .int .i64 0, .int .i64 0, .int .i64 0, .int .i64 0, .int .i64 0, .int .i64 0, .int .i64 0, .slice none 0 0, .slice none 0 0, .slice none 0 0, .int .i64 0, .int .i64 0, .bool false] 36)).heap[w.heap.size + 1]? = some (.cells #[.int .i64 0, .int .i64 0, .int .i64 0, .int .i64 0, .int .i64 0, .int .i64 0, .int .i64 0, .int .i64 0, .int .i64 0, .int .i64 0, .slice none 0 0, .slice none 0 0, .slice none 0 0, .int .i64 0, .int .i64 0, .bool false] 36 (0, 0)) from q0e (by simp) _)
 have hf0 : x.fault = 0 := by unfold Shp.fault; rw [if_pos hok]
 have HF0 := hid hf0; clear hf0
 have HOK := hid hok; clear hok
 obtain ⟨na, hna⟩ : ∃ n : Nat, x.all = n := ⟨x.all.toNat, by have := HOK.out.all; omega⟩
 obtain ⟨nd, hnd⟩ : ∃ n : Nat, x.drives = n := ⟨x.drives.toNat, by have := HOK.out.drives; omega⟩
 obtain ⟨nr, hnr⟩ : ∃ n : Nat, x.rows = n := ⟨x.rows.toNat, by have := HOK.out.rows; omega⟩
 have ba : na ≤ 6 := by have := HOK.out.all; omega
 have bd : nd ≤ 5 := by have := HOK.out.drives; omega
 have br : nr ≤ 6 := by have := HOK.out.rows; omega
 rw [show x.drives.toNat = nd by omega, show x.rows.toNat = nr by omega]
 have HA := hid hna; have HD := hid hnd; have HR0 := hid hnr
 clear hna hnd hnr
 go_enter Tryz.func206, Tryz.ntmps206
 go_wp2_with fail
 refine (q0n x _).mono ?_
 rintro e w1 ⟨rfl, hc⟩
 rw [HF0.out]
 obtain ⟨e1, n1, A1⟩ := bk0 hc B1.out; obtain ⟨e2, n2, A2⟩ := bk0 hc B2.out
 have fz2 := q0c A2.out
 have G1 := hid (G0.out.trans0 hc)
 clear hc G0 B1 B2
 go_wp2_with fail
 go_cut [4] (fun s4 w2 => ∃ m b, s4 = .pointer (some ⟨m, 0, none⟩) ∧ w1.heap.size ≤ m ∧ w1.heap.size ≤ b ∧ m ≠ b ∧ w2.heap[m]? = some (.cells #[.int .i64 x.gS, .int .i64 x.cM, .int .i64 x.data, .int .i64 x.spare, .int .i64 x.rows, .int .i64 x.cap, .int .i64 x.bT, .int .i64 x.qU, .int .i64 x.sG, .slice none 0 0, .slice none 0 0, .slice (some ⟨b, 0, none⟩) 2 2, .int .i64 0, .int .i64 (-1), .bool false] 34 (0, 0)) ∧ w2.heap.size = w1.heap.size + 2 ∧ w2.heap[b]? = some (.cells #[.bool false, .slice none 0 0, .bool false, .slice none 0 0] 69 (0, 0)) ∧ Chg [] w1 w2)
 case first =>
  go_region
  all_goals
   go_wp2_with fail
   go_meet
   first
   | exact ⟨w1.heap.size + 1, w1.heap.size, rfl, by omega, by omega, by omega, q0a (q0e (by simp) _), by simp, q0a (q0b (q0o w1 _) _), (((Chg.refl [] _).alloc _).alloc _).drew⟩
   | exact ⟨w1.heap.size, w1.heap.size + 1, rfl, by omega, by omega, by omega, q0a (q0b (q0o w1 _) _), by simp, q0a (q0e (by simp) _), (((Chg.refl [] _).alloc _).alloc _).drew⟩
 case rest =>
 revert wc; intro w2 hcut
 obtain ⟨m, b, rfl, hm, hbb, hmb, hw, hsz, htp, hc⟩ := hcut
 have HW := hid hw; have HT := hid htp
 have HNB := hid (And.intro hm (And.intro hbb hmb))
 have A1' := hid (hc.keep0 A1.out); have A2' := hid (hc.keep0 A2.out)
 have lm : m < w2.heap.size := ltOf hw
 have lb : b < w2.heap.size := ltOf htp
 have hmw : w.heap.size + 1 < m := by omega
 have G2 := hid (G1.out.trans0 hc)
 have nR1 : w.heap.size + 1 < w1.heap.size := n2
 clear e1 n1 e2 n2 fz2 A1 A2 hc htp hm hbb hmb hw hsz
 obtain ⟨c1, n1, -⟩ := bk (Chg.refl [] w2) A1'.out (by simp)
 have HSM := hid (show ∀ y, y ∈ [m] → y < w2.heap.size from fun y hy => by rw [List.mem_singleton] at hy; omega)
 have HNm := hid (show w.heap.size ∉ [m] ∧ w.heap.size + 1 ∉ [m] ∧ b ∉ [m] from by simp only [List.mem_singleton]; have := HNB.out; omega)
 go_wp2_with fail
 go_loopw [5] (fun vi wr => ∃ (k : Nat) (pv : Option Addr) (cv : Nat) (T : List TRow) (Wr : World), Wr = wr ∧ k ≤ na ∧ vi = .int .i64 k ∧ SlT T (.ds nd nr) (.slice pv k cv) ∧ TyN w2.heap.size T wr ∧ wr.heap[m]? = some (.cells #[.int .i64 x.gS, .int .i64 x.cM, .int .i64 x.data, .int .i64 x.spare, .int .i64 x.rows, .int .i64 x.cap, .int .i64 x.bT, .int .i64 x.qU, .int .i64 x.sG, .slice pv k cv, .slice none 0 0, .slice (some ⟨b, 0, none⟩) 2 2, .int .i64 0, .int .i64 (-1), .bool false] 34 (0, 0)) ∧ Chg [m] w2 wr) (fun vi _ => na - (intOf vi).toNat)
 case atStart => exact ⟨0, none, 0, [], _, rfl, by omega, rfl, SlT.nil _ _, TyN.nil _ _, HW.out, Chg.refl _ _⟩
 case round =>
  clear c1 n1
  obtain ⟨k, pv, cv, T, wr, rfl, hk, rfl, hv, hty, hb3, hc⟩ := hrel
  have D1 := hid (hc.keepb A1'.out HNm.out.1); have D2 := hid (hc.keepb A2'.out HNm.out.2.1); have D3 := hid hb3
  have c1 := cellsOf D1.out; have n1 := ltOf D1.out
  have HV := hid hv; have HTY := hid hty; have HC := hid hc
  clear hv hty hc hb3
  go_wp2_with fail
  refine (q0r x HOK.out _).mono ?_
  rintro e wa ⟨rfl, hca⟩
  rw [HA.out]
  have HCA := hid hca
  clear c1 n1; obtain ⟨c1, n1, E0⟩ := bk hca D1.out (by simp)
  have HTA := hid (HTY.out.ext hca)
  have HWA := hid (HC.out.trans0 hca)
  have E3A := hid (hca.keep0 D3.out)
  clear hca
  by_cases hlt : k < na
  ·have hwa : w2.heap.size ≤ wa.heap.size := HWA.out.size
   have HP := hid ((HTA.out.well.push (.dr nr) 0 0 #[] (Nat.le_refl _) rfl (fun i hi => absurd hi (Nat.not_lt_zero _))))
   go_wp2_with fail
   go_loopw [6, 7] (fun vo vi wi => ∃ (j : Nat) (pj : Option Addr) (cj : Nat) (T2 : List TRow) (Wi : World), Wi = wi ∧ j ≤ nd ∧ vi = .int .i64 j ∧ vo = .slice pj j cj ∧ SlT T2 (.ds nd nr) (.slice pv k cv) ∧ SlT T2 (.dr nr) (.slice pj j cj) ∧ TyN w2.heap.size T2 wi ∧ wi.heap[m]? = some (.cells #[.int .i64 x.gS, .int .i64 x.cM, .int .i64 x.data, .int .i64 x.spare, .int .i64 x.rows, .int .i64 x.cap, .int .i64 x.bT, .int .i64 x.qU, .int .i64 x.sG, .slice pv k cv, .slice none 0 0, .slice (some ⟨b, 0, none⟩) 2 2, .int .i64 0, .int .i64 (-1), .bool false] 34 (0, 0)) ∧ Chg [m] w2 wi) (fun _ vi _ => nd - (intOf vi).toNat)
   case atStart =>
    exact ⟨0, _, _, _, _, rfl, by omega, rfl, rfl, HV.out.sub HP.out.2, ⟨_, 0, 0, rfl, Nat.zero_le _, Nat.le_refl _, Nat.zero_le _, .inr ⟨_, List.mem_cons_self, rfl, 0, by rw [Nat.zero_mul], Nat.le_refl _, Nat.le_refl _⟩⟩, ⟨HP.out.1, fun q hq => by
     rcases List.mem_cons.1 hq with rfl | hq
     ·exact hwa
     ·exact HTA.out.new q hq⟩, q0b E3A.out _, HWA.out.alloc _⟩
   case round =>
    clear c1 n1
    obtain ⟨j, pj, cj, T2, wi, rfl, hj, rfl, rfl, hv2, hvj, hty2, hb3, hc⟩ := hrel
    have E1 := hid (hc.keepb A1'.out HNm.out.1); have E3 := hid hb3
    have c1 := cellsOf E1.out; have n1 := ltOf E1.out
    have HV2 := hid hv2; have HVJ := hid hvj; have HTY2 := hid hty2; have HC2 := hid hc
    clear hv2 hvj hty2 hc hb3
    go_wp2_with fail
    refine (q4x x HOK.out _).mono ?_
    rintro e wb ⟨rfl, hcb⟩
    rw [HD.out]
    have HTB := hid (HTY2.out.ext hcb); have HCB := hid (HC2.out.trans0 hcb)
    clear c1 n1; obtain ⟨c1, n1, E5⟩ := bk hcb E1.out (by simp)
    have E6 := hid (hcb.keep0 E3.out)
    have hwb : w2.heap.size ≤ wb.heap.size := HCB.out.size
    clear E3 hcb
    by_cases hlj : j < nd
    ·go_wp2_with fail
     refine (q8g x nr _ HTB.out.well HR0.out (by omega)).mono ?_
     rintro e wd ⟨p3, c3, rfl, T3, hv3, ht3⟩
     have HV3 := hid hv3; have HT3 := hid (HTB.out.step ht3 hwb); have HS3 := hid ht3.sub
     have HC3 := hid (HCB.out.trans ht3.chg (fun y hy => .inr (by obtain ⟨q, hq, e⟩ := List.mem_map.1 hy; have e : q.b = y := e; rw [← e]; exact HTB.out.new q hq)))
     have E7 := hid (ht3.chg.keepb E6.out (HTB.out.notIn lm))
     have hwd : w2.heap.size ≤ wd.heap.size := HC3.out.size
     clear hv3 ht3
     go_wp2_with (at_builtin; refine q5p rfl _ _ 83 rfl (HT3.out.well.ext ((Chg.refl [] wd).alloc (.cells #[.bool false, .slice p3 nr c3] 82))) (k := .dr nr) Tryz.underlying83 KD (by omega) rfl (HVJ.out.sub HS3.out) (cs := [.bool false, .slice p3 nr c3]) ⟨false, p3, nr, c3, rfl, HV3.out, Nat.le_refl _⟩ (by show j + 1 ≤ 16; omega) ⟨wd.heap.size, 0, none⟩ 1 rfl (q1n wd #[.bool false, .slice p3 nr c3] 82) ?_; intro a' c' w4 T4 h41 h42 h43 h44 h45; have H4 := hid (show TyStep T3 (wd.alloc (.cells #[.bool false, .slice p3 nr c3] 82)) T4 w4 from ⟨h41, h42, h44, h45⟩); have HV4 := hid h43; clear h41 h42 h43 h44 h45)
     have HT4 := hid ((HT3.out.ext ((Chg.refl [] wd).alloc (.cells #[.bool false, .slice p3 nr c3] 82))).step H4.out (by simp; omega))
     have HC4 := hid ((HC3.out.alloc (.cells #[.bool false, .slice p3 nr c3] 82)).trans H4.out.chg (fun y hy => .inr (by obtain ⟨q, hq, e⟩ := List.mem_map.1 hy; have e : q.b = y := e; rw [← e]; exact HT3.out.new q hq)))
     have E8 := hid (H4.out.chg.keepb (q0b E7.out (.cells #[.bool false, .slice p3 nr c3] 82)) (HT3.out.notIn lm))
     go_roundw
     case rel => exact ⟨j + 1, a', c', T4, _, rfl, by omega, by go_num, rfl, HV2.out.sub (HS3.out.trans H4.out.sub), HV4.out, HT4.out, E8.out, HC4.out⟩
     case measure => simp [intOf]; omega
    ·obtain rfl : j = nd := by omega
     have e3 := cellsOf E6.out; have n3' := ltOf E6.out
     go_wp2_with (at_builtin; refine q5p rfl _ _ 31 rfl (HTB.out.well.ext ((Chg.refl [] wb).alloc (.cells #[.slice pj j cj] 83))) (k := .ds j nr) Tryz.underlying31 KS (by omega) rfl HV2.out (cs := [.slice pj j cj]) ⟨pj, j, cj, rfl, HVJ.out, Nat.le_refl _, .inr (by omega)⟩ (by show k + 1 ≤ 8; omega) ⟨wb.heap.size, 0, none⟩ 1 rfl (q1n wb #[.slice pj j cj] 83) ?_; intro a' c' w4 T4 h41 h42 h43 h44 h45; have H4 := hid (show TyStep T2 (wb.alloc (.cells #[.slice pj j cj] 83)) T4 w4 from ⟨h41, h42, h44, h45⟩); have HV4 := hid h43; have E8 := hid (h44.keepb (q0b E6.out (.cells #[.slice pj j cj] 83)) (HTB.out.notIn lm)); have e4 := cellsOf E8.out; have n4 := ltOf E8.out; have z4 := q0c E8.out; clear h41 h42 h43 h44 h45)
     have HT4 := hid (((HTB.out.ext ((Chg.refl [] wb).alloc (.cells #[.slice pj j cj] 83))).step H4.out (by simp; omega)).chg ((Chg.refl [m] w4).setCell ⟨m, 9, none⟩ (.slice a' (k + 1) c') (.inl (by simp))) HSM.out)
     have HC4 := hid (((HCB.out.alloc (.cells #[.slice pj j cj] 83)).trans H4.out.chg (fun y hy => .inr (by obtain ⟨q, hq, e⟩ := List.mem_map.1 hy; have e : q.b = y := e; rw [← e]; exact HTB.out.new q hq))).setCell ⟨m, 9, none⟩ (.slice a' (k + 1) c') (.inl (by simp)))
     have E9 := hid (show (w4.setCell ⟨m, 9, none⟩ (.slice a' (k + 1) c')).heap[m]? = some (.cells #[.int .i64 x.gS, .int .i64 x.cM, .int .i64 x.data, .int .i64 x.spare, .int .i64 x.rows, .int .i64 x.cap, .int .i64 x.bT, .int .i64 x.qU, .int .i64 x.sG, .slice a' (k + 1) c', .slice none 0 0, .slice (some ⟨b, 0, none⟩) 2 2, .int .i64 0, .int .i64 (-1), .bool false] 34 (0, 0)) from q0m (cur := #[.int .i64 x.gS, .int .i64 x.cM, .int .i64 x.data, .int .i64 x.spare, .int .i64 x.rows, .int .i64 x.cap, .int .i64 x.bT, .int .i64 x.qU, .int .i64 x.sG, .slice pv k cv, .slice none 0 0, .slice (some ⟨b, 0, none⟩) 2 2, .int .i64 0, .int .i64 (-1), .bool false]) E8.out rfl)
     go_roundw
     case rel => exact ⟨k + 1, a', c', T4, _, rfl, by omega, by go_num, HV4.out, HT4.out, E9.out, HC4.out⟩
     case measure => simp [intOf]; omega
  ·obtain rfl : k = na := by omega
   have Q2 := hid (HCA.out.keep0 D2.out)
   have e3 := cellsOf E3A.out; have m3 := ltOf E3A.out; have e2 := cellsOf Q2.out; have m2 := ltOf Q2.out; have fz2 := q0c Q2.out
   have hg2 : w.heap.size ≤ w2.heap.size := G2.out.size
   have HTP := hid (HWA.out.keepb HT.out HNm.out.2.2)
   have hch := G2.out.trans HWA.out (fun y hy => .inr (by rw [List.mem_singleton] at hy; omega))
   have HCH := hid hch
   have HBN := hid (HTA.out.notIn lb)
   clear hch
   go_wp2_with (refine q0z rfl _ _ 36 rfl rfl rfl infoWR Q2.out rfl rfl rfl ?_; intro w9 hb9 hc9; have HB9 := hid hb9; have HC9 := hid hc9; clear hb9 hc9)
   refine bodyPost_ret (v := .agg #[.int .i64 0, .int .i64 x.gS, .int .i64 x.cM, .int .i64 x.data, .int .i64 x.spare, .int .i64 x.rows, .int .i64 x.cap, .int .i64 x.bT, .int .i64 x.qU, .int .i64 x.sG, .slice pv k cv, .slice none 0 0, .slice (some ⟨b, 0, none⟩) 2 2, .int .i64 0, .int .i64 (-1), .bool false]) (q0t _ _ Tryz.results206 rfl infoWR Tryz.underlying36 HB9.out rfl) rfl ⟨k, pv, cv, b, rfl, HA.out, ⟨T, HV.out, ((HTA.out.chg HC9.out (fun y hy => by rw [List.mem_singleton] at hy; omega)).mono hg2), HBN.out⟩, HC9.out.keepb HTP.out (by rw [List.mem_singleton]; have := HNB.out; omega), by have := HNB.out; omega, HCH.out.trans HC9.out (fun y hy => .inr (by rw [List.mem_singleton] at hy; omega))⟩
end Go.Proofs.YtphmpimgbmedbaaGreat
namespace Go.Proofs.YtphmpimgbmedbaaGreat
open Go.RowKit
open Go.Lib (hid)
section
variable {T : List TRow} {w : World}
def PlT (T : List TRow) (k : Kd) (b o : Nat) : Prop := ∃ r ∈ T, r.k = k ∧ r.b = b ∧ ∃ p, p < r.m ∧ o = p * k.n
theorem PlT.lt {k : Kd} {b o : Nat} (h : PlT T k b o) (hW : Well T w) : b < w.heap.size := by
 obtain ⟨r, hr, -, rfl, -⟩ := h
 exact hW.lt hr
theorem PlT.fr {k : Kd} {b o : Nat} (h : PlT T k b o) (hW : Well T w) : ∀ j, w.frozen? ⟨b, j, none⟩ = false := by
 obtain ⟨r, hr, -, rfl, -⟩ := h
 obtain ⟨cur, h1, -⟩ := hW.row r hr
 exact q0c h1
theorem PlT.sub {T' : List TRow} {k : Kd} {b o : Nat} (h : PlT T k b o) (hs : SubT T T') : PlT T' k b o := by
 obtain ⟨r, hr, hk, rfl, p, hp, rfl⟩ := h
 obtain ⟨r', hr', e1, e2, e3, e4⟩ := hs r hr
 exact ⟨r', hr', e2.trans hk, e1, p, by omega, rfl⟩
theorem PlT.wk {k : Kd} {b o : Nat} (h : PlT T k b o) : PlT (wkT T) k.wk b o := by
 obtain ⟨r, hr, rfl, rfl, p, hp, rfl⟩ := h
 exact ⟨_, List.mem_map.2 ⟨r, hr, rfl⟩, rfl, rfl, p, hp, by rw [r.k.wk_n]⟩
theorem PlT.nin {k : Kd} {b o : Nat} (h : PlT T k b o) {S : List Nat} (hS : ∀ y ∈ S, y ∉ T.map (·.b)) : b ∉ S := fun hm => by
 obtain ⟨r, hr, -, rfl, -⟩ := h
 exact hS _ hm (List.mem_map.2 ⟨r, hr, rfl⟩)
theorem SlT.ds_at (h : Well T w) {D R l c : Nat} {a : Option Addr} (hv : SlT T (.ds D R) (.slice a l c)) {i : Nat} (hi : i < l) :
  ∃ b off p2 l2 c2, a = some ⟨b, off, none⟩ ∧ w.cell? ⟨b, off + i, none⟩ = some (.slice p2 l2 c2) ∧ SlT T (.dr R) (.slice p2 l2 c2) ∧ D ≤ l2 ∧ (D = 0 ∨ l2 ≤ 8) ∧ PlT T (.ds D R) b (off + i) := by
 obtain ⟨b, off, cs, ha, he, hc, -, -, r, hr, hk, rfl, p, hp, ho⟩ := hv.at h hi
 obtain ⟨p2, l2, c2, rfl, h1, h2, h3⟩ := he
 refine ⟨r.b, off, p2, l2, c2, ha, ?_, h1, h2, h3, r, hr, hk, rfl, p, hp, ?_⟩
 ·have := hc 0 _ rfl; simpa [Kd.n] using this
 ·simpa [Kd.n] using ho
theorem SlT.dr_at (h : Well T w) {R l c : Nat} {a : Option Addr} (hv : SlT T (.dr R) (.slice a l c)) {i : Nat} (hi : i < l) :
  ∃ b off q p3 l3 c3, a = some ⟨b, off, none⟩ ∧ w.cell? ⟨b, off + i * 2, none⟩ = some (.bool q) ∧ w.cell? ⟨b, off + i * 2 + 1, none⟩ = some (.slice p3 l3 c3) ∧ SlT T .bk (.slice p3 l3 c3) ∧ R ≤ l3 ∧ PlT T (.dr R) b (off + i * 2) := by
 obtain ⟨b, off, cs, ha, he, hc, -, -, r, hr, hk, rfl, p, hp, ho⟩ := hv.at h hi
 obtain ⟨q, p3, l3, c3, rfl, h1, h2⟩ := he
 refine ⟨r.b, off, q, p3, l3, c3, ha, ?_, ?_, h1, h2, r, hr, hk, rfl, p, hp, ho⟩
 ·have := hc 0 _ rfl; simpa [Kd.n] using this
 ·have := hc 1 _ rfl; simpa [Kd.n] using this
theorem SlT.bk_at (h : Well T w) {l c : Nat} {a : Option Addr} (hv : SlT T .bk (.slice a l c)) {i : Nat} (hi : i < l) :
  ∃ b off s p3 l3 c3, a = some ⟨b, off, none⟩ ∧ w.cell? ⟨b, off + i * 2, none⟩ = some (.int .i64 s) ∧ w.cell? ⟨b, off + i * 2 + 1, none⟩ = some (.slice p3 l3 c3) ∧ PlT T .bk b (off + i * 2) := by
 obtain ⟨b, off, cs, ha, he, hc, -, -, r, hr, hk, rfl, p, hp, ho⟩ := hv.at h hi
 obtain ⟨s, v, rfl, h1, p3, l3, c3, rfl, h2⟩ := he
 refine ⟨r.b, off, s, p3, l3, c3, ha, ?_, ?_, r, hr, hk, rfl, p, hp, ho⟩
 ·have := hc 0 _ rfl; simpa [Kd.n] using this
 ·have := hc 1 _ rfl; simpa [Kd.n] using this
theorem put_two (h : Well T w) {k : Kd} (hn : k.n = 2) {b o : Nat} (hp : PlT T k b o) {u v : Value} (he : ElT T k [u, v]) : TyStep T w T ((w.setCell ⟨b, o, none⟩ u).setCell ⟨b, o + 1, none⟩ v) := by
 obtain ⟨r, hr, rfl, rfl, p, hpm, rfl⟩ := hp
 exact (TyStep.refl h).put1 hr hpm he
theorem chunk_set {l : List Value} {n p j : Nat} {v : Value} (hj : j < n) (i : Nat) : ((l.set (p * n + j) v).drop (i * n)).take n = if i = p then ((l.drop (p * n)).take n).set j v else (l.drop (i * n)).take n := by
 rw [List.drop_set]
 by_cases e : i = p
 ·subst e
  rw [if_pos rfl, if_neg (by omega), List.take_set, show i * n + j - i * n = j by omega]
 ·rw [if_neg e]
  rcases Nat.lt_or_gt_of_ne e with h | h
  ·have : i * n + n ≤ p * n := by
    have := Nat.mul_le_mul_right n (show i + 1 ≤ p by omega)
    rwa [Nat.add_mul, Nat.one_mul] at this
   rw [if_neg (by omega), List.take_set_of_le (by omega)]
  ·have : p * n + n ≤ i * n := by
    have := Nat.mul_le_mul_right n (show p + 1 ≤ i by omega)
    rwa [Nat.add_mul, Nat.one_mul] at this
   rw [if_pos (by omega)]
theorem q6v (h : Well T w) {k : Kd} {b o : Nat} (hp : PlT T k b o) {j : Nat} (hj : j < k.n) {v : Value} (he : ∀ cs, ElT T k cs → ElT T k (cs.set j v)) : TyStep T w T (w.setCell ⟨b, o + j, none⟩ v) := by
 obtain ⟨r, hr, rfl, rfl, p, hpm, rfl⟩ := hp
 obtain ⟨cur, h1, h2, h3, h4⟩ := h.row r hr
 have hc : Chg [r.b] w (w.setCell ⟨r.b, p * r.k.n + j, none⟩ v) := (Chg.refl [r.b] w).setCell _ _ (.inl (by simp))
 have hW := h.put hr hc (q0m h1 rfl) (by simpa using h2) (fun i hi => by
  rw [Array.toList_setIfInBounds, chunk_set hj]
  split
  ·exact he _ (h4 p hpm)
  ·exact h4 i hi)
 exact ⟨hW, SubT.refl T, hc.mono (fun x hx => .inl (by rw [List.mem_singleton] at hx; rw [hx]; exact List.mem_map.2 ⟨r, hr, rfl⟩)), fun q hq => .inl (List.mem_map.2 ⟨q, hq, rfl⟩)⟩
theorem SlT.len {k : Kd} {a : Option Addr} {l c : Nat} (h : SlT T k (.slice a l c)) : l ≤ k.max := by
 obtain ⟨_, _, _, e, h1, -⟩ := h
 cases e
 exact h1
theorem put_ds (h : Well T w) {D R b o : Nat} (hp : PlT T (.ds D R) b o) {p2 : Option Addr} {l2 c2 : Nat} (h1 : SlT T (.dr R) (.slice p2 l2 c2)) (h2 : D ≤ l2) (h3 : D = 0 ∨ l2 ≤ 8) : TyStep T w T (w.setCell ⟨b, o, none⟩ (.slice p2 l2 c2)) :=
 q6v (j := 0) h hp (by simp [Kd.n]) (fun cs ⟨_, _, _, e, _⟩ => by subst e; exact ⟨p2, l2, c2, rfl, h1, h2, h3⟩)
theorem put_wiped (h : Well T w) {R b o : Nat} (hp : PlT T (.dr R) b o) : TyStep T w T (w.setCell ⟨b, o, none⟩ (.bool true)) :=
 q6v (j := 0) h hp (by simp [Kd.n]) (fun cs ⟨_, a, l, c, e, h1⟩ => by subst e; exact ⟨true, a, l, c, rfl, h1⟩)
theorem put_stamp (h : Well T w) {b o : Nat} (hp : PlT T .bk b o) {s : Int} (hs : q0u s) : TyStep T w T (w.setCell ⟨b, o, none⟩ (.int .i64 s)) :=
 q6v (j := 0) h hp (by simp [Kd.n]) (fun cs ⟨_, v, e, _, h1⟩ => by subst e; exact ⟨s, v, rfl, hs, h1⟩)
theorem put_bytes (h : Well T w) {b o : Nat} (hp : PlT T .bk b o) {v : Value} (hv : SlT T .bt v) : TyStep T w T (w.setCell ⟨b, o + 1, none⟩ v) :=
 q6v (j := 1) h hp (by simp [Kd.n]) (fun cs ⟨s, _, e, h0, _⟩ => by subst e; exact ⟨s, v, rfl, h0, hv⟩)
theorem SlT.drop1 {k : Kd} {b off l c : Nat} (hv : SlT T k (.slice (some ⟨b, off, none⟩) l c)) (hl : 1 ≤ l) : SlT T k (.slice (some ⟨b, off + k.n, none⟩) (l - 1) (c - 1)) := by
 obtain ⟨a0, l0, c0, e, h1, h2, h3, h4⟩ := hv
 cases e
 rcases h4 with ⟨h, -⟩ | ⟨r, hr, hk, j, ea, h5, h6⟩
 ·cases h
 ·cases ea
  refine ⟨_, _, _, rfl, by omega, by omega, by omega, .inr ⟨r, hr, hk, j + 1, by rw [Nat.add_mul, Nat.one_mul], by omega, by omega⟩⟩
end
theorem SlT.none0 {T : List TRow} {k : Kd} {a : Option Addr} {l c : Nat} (hv : SlT T k (.slice a l c)) : SlT T k (.slice a 0 0) := by
 obtain ⟨a0, l0, c0, e, h1, h2, h3, h4⟩ := hv
 cases e
 rcases h4 with ⟨rfl, -⟩ | ⟨r, hr, hk, j, ea, h5, h6⟩
 ·exact SlT.nil _ _
 ·exact ⟨_, _, _, rfl, Nat.zero_le _, Nat.le_refl _, Nat.zero_le _, .inr ⟨r, hr, hk, j, ea, by omega, by omega⟩⟩
theorem Well.tapes {T : List TRow} {w : World} (h : Well T w) {tb : Nat} {q0 q1 : Bool} {v0 v1 : Value} (ht : w.heap[tb]? = some (.cells #[.bool q0, v0, .bool q1, v1] 69 (0, 0))) (hn : tb ∉ T.map (·.b)) (h0 : SlT T .rc v0) (h1 : SlT T .rc v1) :
  Well (⟨tb, .tp, 2, 2⟩ :: T) w ∧ SubT T (⟨tb, .tp, 2, 2⟩ :: T) := by
 have hs := SubT.cons T ⟨tb, .tp, 2, 2⟩
 refine ⟨⟨?_, fun r hr => ?_⟩, hs⟩
 ·rw [List.map_cons, List.nodup_cons]; exact ⟨hn, h.nd⟩
 ·rcases List.mem_cons.1 hr with rfl | hr
  ·refine ⟨_, ht, rfl, Nat.le_refl _, fun i hi => ?_⟩
   have hi : i < 2 := hi
   have hi2 : i = 0 ∨ i = 1 := by omega
   rcases hi2 with rfl | rfl
   ·exact ⟨q0, v0, rfl, h0.sub hs⟩
   ·exact ⟨q1, v1, rfl, h1.sub hs⟩
  ·obtain ⟨cur, e1, e2, e3, e4⟩ := h.row r hr
   exact ⟨cur, e1, e2, e3, fun i hi => (e4 i hi).sub hs⟩
structure WdW (b : Nat) (a : Option Addr) (la ca : Nat) (xs : List UInt8) (f : List Nat) (w0 : World) (m tb : Nat) (T : List TRow) (t : Int) (cs ts : Array Value) (w : World) : Prop where
 h2 : w.heap[w0.heap.size]? = some (.cells #[.int .i64 0, .int .i64 0, .int .i64 0, .int .i64 0, .int .i64 0, .int .i64 0, .int .i64 0, .int .i64 0, .int .i64 0, .slice none 0 0, .slice none 0 0, .slice none 0 0, .int .i64 0, .int .i64 0, .bool false] 34 (0, 0))
 hm : w.heap[m]? = some (.cells cs 34 (0, 0))
 ht : w.heap[tb]? = some (.cells ts 69 (0, 0))
 ty : TyN (w0.heap.size + 1) T w
 nm : m ∉ T.map (·.b)
 nt : tb ∉ T.map (·.b)
 src : SrcB b a la ca xs f t w
 chg : Chg [b] w0 w
 lm : w0.heap.size < m
 lt : w0.heap.size < tb
 ne : m ≠ tb
 lb : b < w0.heap.size
 lf : ∀ y ∈ f, y < w0.heap.size
section
variable {b : Nat} {a : Option Addr} {la ca : Nat} {xs : List UInt8} {f : List Nat} {w0 : World} {m tb : Nat} {T T' : List TRow} {t t' : Int} {cs cs' ts ts' : Array Value} {w w' : World}
theorem WdW.nrow (h : WdW b a la ca xs f w0 m tb T t cs ts w) {y : Nat} (hy : y ≤ w0.heap.size) : y ∉ T.map (·.b) := h.ty.notIn (by omega)
theorem WdW.call (h : WdW b a la ca xs f w0 m tb T t cs ts w) (hs : SrcB b a la ca xs f t' w') (hc : Chg [b] w w') : WdW b a la ca xs f w0 m tb T t' cs ts w' := by
 have h1 := h.lb; have h2 := h.lm; have h3 := h.lt
 exact ⟨hc.keepb h.h2 (by simp; omega), hc.keepb h.hm (by simp; omega), hc.keepb h.ht (by simp; omega), h.ty.chg hc (fun y hy => by rw [List.mem_singleton] at hy; omega), h.nm, h.nt, hs, h.chg.trans hc (fun y hy => .inl hy), h.lm, h.lt, h.ne, h.lb, h.lf⟩
theorem WdW.ext (h : WdW b a la ca xs f w0 m tb T t cs ts w) (hc : Chg [] w w') : WdW b a la ca xs f w0 m tb T t cs ts w' :=
 ⟨hc.keep0 h.h2, hc.keep0 h.hm, hc.keep0 h.ht, h.ty.ext hc, h.nm, h.nt, h.src.ext hc, h.chg.trans0 hc, h.lm, h.lt, h.ne, h.lb, h.lf⟩
theorem WdW.ckeep (h : WdW b a la ca xs f w0 m tb T t cs ts w) {k : Kd} {b0 o0 j : Nat} {v : Value} (p : PlT T k b0 o0) (hc : Chg [b] w w') (hv : w.cell? ⟨b0, j, none⟩ = some v) : w'.cell? ⟨b0, j, none⟩ = some v :=
 q7q hc hv (p.lt h.ty.well) (p.nin (fun y hy => by rw [List.mem_singleton] at hy; rw [hy]; exact h.nrow (Nat.le_of_lt h.lb)))
theorem Well.notSize {T : List TRow} {w : World} (h : Well T w) : w.heap.size ∉ T.map (·.b) := fun hm => by
 obtain ⟨q, hq, e⟩ := List.mem_map.1 hm
 have e : q.b = w.heap.size := e
 have := h.lt hq
 omega
theorem not_app {T T' : List TRow} {y n : Nat} {w' : World} (h : y ∉ T.map (·.b)) (h1 : TyN n T' w') (hy : y < n) : y ∉ (T' ++ T).map (·.b) := by
 rw [List.map_append, List.mem_append]
 rintro (h2 | h2)
 ·exact h1.notIn hy h2
 ·exact h h2
theorem q3x {w w' : World} {T T' : List TRow} {y : Nat} (h : y ∉ T.map (·.b)) (k : TyStep T w T' w') (hy : y < w.heap.size) : y ∉ T'.map (·.b) := fun hm => by
 obtain ⟨q, hq, e⟩ := List.mem_map.1 hm
 have e : q.b = y := e
 rcases k.new q hq with h1 | h1
 ·exact h (e ▸ h1)
 ·omega
theorem WdW.rows (h : WdW b a la ca xs f w0 m tb T t cs ts w) (h1 : TyN w.heap.size T' w') (hs : SrcB b a la ca xs f t' w') (hc : Chg [b] w w') : WdW b a la ca xs f w0 m tb (T' ++ T) t' cs ts w' := by
 have k := h.call hs hc
 have h2 := h.lb; have h3 := h.lm
 exact ⟨k.h2, k.hm, k.ht, h.ty.app hc (fun y hy => by rw [List.mem_singleton] at hy; omega) h1 (ltOf h.h2), not_app h.nm h1 (ltOf h.hm), not_app h.nt h1 (ltOf h.ht), k.src, k.chg, k.lm, k.lt, k.ne, k.lb, k.lf⟩
theorem WdW.step (h : WdW b a la ca xs f w0 m tb T t cs ts w) (k : TyStep T w T' w') : WdW b a la ca xs f w0 m tb T' t cs ts w' := by
 have h2 := h.lb
 exact ⟨k.chg.keepb h.h2 (h.nrow (Nat.le_refl _)), k.chg.keepb h.hm h.nm, k.chg.keepb h.ht h.nt, h.ty.step k (ltOf h.h2), q3x h.nm k (ltOf h.hm), q3x h.nt k (ltOf h.ht), h.src.chg k.chg (h.nrow (by omega)) (fun y hy => h.nrow (by have := h.lf y hy; omega)),
  h.chg.trans k.chg (fun y hy => .inr (by
   obtain ⟨q, hq, e⟩ := List.mem_map.1 hy
   have e : q.b = y := e
   have := h.ty.new q hq
   omega)), h.lm, h.lt, h.ne, h.lb, h.lf⟩
theorem TyN.set {n : Nat} (h : TyN n T w) {m i : Nat} {v : Value} (hm : m ∉ T.map (·.b)) : TyN n T (w.setCell ⟨m, i, none⟩ v) :=
 ⟨h.well.chg (S := [m]) ((Chg.refl [m] w).setCell _ _ (.inl (by simp))) (fun r hr hr2 => hm (by rw [List.mem_singleton] at hr2; rw [← hr2]; exact List.mem_map.2 ⟨r, hr, rfl⟩)), h.new⟩
theorem WdW.put (h : WdW b a la ca xs f w0 m tb T t cs ts w) (i : Nat) (v : Value) (e : cs.setIfInBounds i v = cs') : WdW b a la ca xs f w0 m tb T t cs' ts (w.setCell ⟨m, i, none⟩ v) := by
 have h1 := h.lb; have h2 := h.lm; have h3 := h.ne
 have hc : Chg [m] w (w.setCell ⟨m, i, none⟩ v) := (Chg.refl [m] w).setCell _ _ (.inl (by simp))
 exact ⟨hc.keepb h.h2 (by simp; omega), q0m h.hm e, hc.keepb h.ht (by simp; omega), h.ty.set h.nm, h.nm, h.nt, h.src.chg hc (by simp; omega) (fun y hy => by have := h.lf y hy; simp; omega), h.chg.setCell _ _ (.inr (by show w0.heap.size ≤ m; omega)), h.lm, h.lt, h.ne, h.lb, h.lf⟩
theorem WdW.putT (h : WdW b a la ca xs f w0 m tb T t cs ts w) (i : Nat) (v : Value) (e : ts.setIfInBounds i v = ts') : WdW b a la ca xs f w0 m tb T t cs ts' (w.setCell ⟨tb, i, none⟩ v) := by
 have h1 := h.lb; have h2 := h.lt; have h3 := h.ne
 have hc : Chg [tb] w (w.setCell ⟨tb, i, none⟩ v) := (Chg.refl [tb] w).setCell _ _ (.inl (by simp))
 exact ⟨hc.keepb h.h2 (by simp; omega), hc.keepb h.hm (by simp; omega), q0m h.ht e, h.ty.set h.nt, h.nm, h.nt, h.src.chg hc (by simp; omega) (fun y hy => by have := h.lf y hy; simp; omega), h.chg.setCell _ _ (.inr (by show w0.heap.size ≤ tb; omega)), h.lm, h.lt, h.ne, h.lb, h.lf⟩
theorem WdW.mono (h : WdW b a la ca xs f w0 m tb T t cs ts w) (ht : t ≤ t') : WdW b a la ca xs f w0 m tb T t' cs ts w := ⟨h.h2, h.hm, h.ht, h.ty, h.nm, h.nt, h.src.mono ht, h.chg, h.lm, h.lt, h.ne, h.lb, h.lf⟩
theorem WdW.weak (h : WdW b a la ca xs f w0 m tb T t cs ts w) : WdW b a la ca xs f w0 m tb (wkT T) t cs ts w :=
 ⟨h.h2, h.hm, h.ht, ⟨h.ty.well.wk, fun q hq => by obtain ⟨r, hr, rfl⟩ := List.mem_map.1 hq; exact h.ty.new r hr⟩, by rw [wkT_b]; exact h.nm, by rw [wkT_b]; exact h.nt, h.src, h.chg, h.lm, h.lt, h.ne, h.lb, h.lf⟩
end
end Go.Proofs.YtphmpimgbmedbaaGreat
namespace Go.Proofs.YtphmpimgbmedbaaGreat
open Go.RowKit
open Go.Lib (hid)
section
variable {P : Program} {ops : Array Oper} {Q : Exit → Act → World → Prop} {md : Region.Mode} {S : World → Prop} {fuel : Nat} {listed : Array Bool} {a : Act} {w : World}
end
end Go.Proofs.YtphmpimgbmedbaaGreat
namespace Go.Proofs.YtphmpimgbmedbaaGreat
open Go.RowKit
open Go.Lib (hid)
noncomputable def Wld.up (x : Wld) : Int := if x.fault = 0 then (if x.down = true then 9 else 0) else x.fault
def Wld.isGroup (x : Wld) (g : Int) : Prop := 0 ≤ g ∧ g ≤ x.sH.all - 1
def Wld.isDrive (x : Wld) (d : Int) : Prop := 0 ≤ d ∧ d ≤ x.sH.drives - 1
def Wld.isRow (x : Wld) (r : Int) : Prop := 0 ≤ r ∧ r ≤ x.sH.rows - 1
noncomputable def onR (x : Wld) (g : Int) : WRes :=
 if x.up ≠ 0 then ⟨x.up, zWld⟩ else if pb (x.isGroup g) = false then ⟨3, zWld⟩ else if pb (g ∈ x.on) = true then ⟨0, x⟩ else if (x.on.length : Int) = x.sH.cap then ⟨7, zWld⟩ else ⟨0, { x with on := x.on ++ [g] }⟩
noncomputable def offR (x : Wld) (g : Int) : WRes :=
 if x.up ≠ 0 then ⟨x.up, zWld⟩ else if pb (x.isGroup g) = false then ⟨3, zWld⟩ else if pb (g ∈ x.on) = false then ⟨8, zWld⟩ else ⟨0, { x with on := x.on.filter (fun y => y != g) }⟩
def zBlk0 : Blk := ⟨0, []⟩
def Wld.drive (x : Wld) (g d : Int) : Drv := (x.gS.getD g.toNat []).getD d.toNat ⟨false, []⟩
noncomputable def readR (x : Wld) (g d r : Int) : BRes :=
 if x.up ≠ 0 then ⟨x.up, zBlk0⟩ else if pb (x.isGroup g ∧ x.isDrive d ∧ x.isRow r) = false then ⟨3, zBlk0⟩ else if pb (g ∈ x.on) = false then ⟨8, zBlk0⟩ else
  if (x.drive g d).wiped = true then ⟨12, zBlk0⟩ else ⟨0, (x.drive g d).blocks.getD r.toNat zBlk0⟩
def Wld.cut (x : Wld) : Wld := { x with down := true, on := [] }
def Wld.setDrive (x : Wld) (g d : Int) (y : Drv) : Wld := { x with gS := x.gS.set g.toNat ((x.gS.getD g.toNat []).set d.toNat y) }
def Wld.tape (x : Wld) (t : Int) : Tap := x.tapes.getD t.toNat ⟨false, []⟩
def Wld.raw (x : Wld) (f : Wld → Wld) : WRes := if x.stop ≠ -1 ∧ x.stop ≤ x.wT then ⟨9, x.cut⟩ else ⟨0, { f x with wT := x.wT + 1 }⟩
def Wld.setBlock (x : Wld) (g d r : Int) (b : Blk) : Wld := x.setDrive g d { x.drive g d with blocks := (x.drive g d).blocks.set r.toNat b }
noncomputable def writeR (x : Wld) (g d r : Int) (b : Blk) : WRes :=
 if x.up ≠ 0 then ⟨x.up, zWld⟩ else if pb (x.isGroup g ∧ x.isDrive d ∧ x.isRow r) = false then ⟨3, zWld⟩ else if pb b.ok = false then ⟨1, zWld⟩ else if pb (g ∈ x.on) = false then ⟨8, zWld⟩ else
  x.raw (fun x => x.setBlock g d r b)
/-! ### how much there is of it -/
theorem q3b {x : Wld} (h : x.fault = 0) : x.sH.ok ∧ (x.built ∧ x.onOk ∧ x.tapes.length = 2) ∧ x.tapF = 0 ∧ x.nums := by
 unfold Wld.fault at h
 by_cases h1 : x.sH.ok
 ·rw [if_pos (q0g h1)] at h
  by_cases h2 : x.built ∧ x.onOk ∧ x.tapes.length = 2
  ·rw [if_pos (q0g h2)] at h
   by_cases h3 : x.tapF = 0
   ·rw [if_pos h3] at h
    by_cases h4 : x.nums
    ·exact ⟨h1, h2, h3, h4⟩
    ·rw [q0f h4] at h; simp at h
   ·rw [if_neg h3] at h; exact absurd h h3
  ·rw [q0f h2] at h; simp at h
 ·rw [q0f h1] at h; simp at h
theorem fault_of {x : Wld} (h1 : x.sH.ok) (h2 : x.built ∧ x.onOk ∧ x.tapes.length = 2) (h3 : x.tapF = 0) (h4 : x.nums) : x.fault = 0 := by
 unfold Wld.fault
 rw [if_pos (q0g h1), if_pos (q0g h2), if_pos h3, if_pos (q0g h4)]
theorem up_zero {x : Wld} (h : x.up = 0) : x.fault = 0 ∧ x.down = false := by
 unfold Wld.up at h
 by_cases h1 : x.fault = 0
 ·rw [if_pos h1] at h
  cases hd : x.down
  ·exact ⟨h1, rfl⟩
  ·rw [if_pos hd] at h; omega
 ·rw [if_neg h1] at h; exact absurd h h1
theorem up_of {x : Wld} (h : x.fault = 0) (hd : x.down = false) : x.up = 0 := by
 unfold Wld.up; rw [if_pos h, if_neg (by rw [hd]; simp)]
theorem apart_push {m g : Int} {xs : List Int} (h : q2o m xs) (hg : 0 ≤ g ∧ g ≤ m) (hn : g ∉ xs) : q2o m (xs ++ [g]) := by
 intro i x hx
 by_cases hi : i < xs.length
 ·rw [List.getElem?_append_left hi] at hx
  rw [List.take_append_of_le_length (by omega)]
  exact h i x hx
 ·have hil : i = xs.length := by
   have := (List.getElem?_eq_some_iff.1 hx).1
   rw [List.length_append, List.length_singleton] at this; omega
  subst hil
  rw [List.getElem?_append_right (Nat.le_refl _), Nat.sub_self] at hx
  obtain rfl : g = x := by simpa using hx
  rw [List.take_append_of_le_length (Nat.le_refl _), List.take_length]
  exact ⟨hg, hn⟩
theorem apart_iff (m : Int) : ∀ (xs : List Int), q2o m xs ↔ (∀ x ∈ xs, 0 ≤ x ∧ x ≤ m) ∧ xs.Nodup := by
 intro xs
 constructor
 ·intro h
  refine ⟨fun x hx => ?_, ?_⟩
  ·obtain ⟨i, hi, rfl⟩ := List.getElem_of_mem hx
   exact (h i _ (List.getElem?_eq_getElem hi)).1
  ·rw [List.Nodup, List.pairwise_iff_getElem]
   intro i j hi hj hij e
   refine (h j _ (List.getElem?_eq_getElem hj)).2 ?_
   rw [← e]
   exact List.mem_iff_getElem.2 ⟨i, by rw [List.length_take]; omega, by rw [List.getElem_take]⟩
 ·rintro ⟨h1, h2⟩ i x hx
  obtain ⟨hi, rfl⟩ := List.getElem?_eq_some_iff.1 hx
  refine ⟨h1 _ (List.getElem_mem hi), fun hm => ?_⟩
  obtain ⟨j, hj, e⟩ := List.mem_iff_getElem.1 hm
  rw [List.length_take] at hj
  rw [List.getElem_take] at e
  rw [List.Nodup, List.pairwise_iff_getElem] at h2
  exact h2 j i (by omega) hi (by omega) e
theorem apart_filter {m : Int} {xs : List Int} (p : Int → Bool) (h : q2o m xs) : q2o m (xs.filter p) := by
 rw [apart_iff] at h ⊢
 exact ⟨fun x hx => h.1 x (List.mem_filter.1 hx).1, h.2.filter _⟩
theorem onR_zero {x : Wld} {g : Int} (h : (onR x g).code = 0) : ∃ on', (onR x g).world = { x with on := on' } ∧ x.fault = 0 ∧ x.down = false ∧ x.isGroup g ∧ g ∈ on' ∧ (on'.length : Int) ≤ x.sH.cap ∧ q2o (x.sH.all - 1) on' := by
 unfold onR at h ⊢
 by_cases h1 : x.up ≠ 0
 ·rw [if_pos h1] at h; exact absurd h h1
 have hu : x.up = 0 := Classical.byContradiction fun hn => h1 hn
 obtain ⟨hf, hd⟩ := up_zero hu
 obtain ⟨-, ⟨-, ⟨ha, hc, -⟩, -⟩, -⟩ := q3b hf
 rw [if_neg h1] at h ⊢
 by_cases h2 : x.isGroup g
 ·rw [if_neg (by rw [q0g h2]; simp)] at h ⊢
  by_cases h3 : g ∈ x.on
  ·rw [if_pos (q0g h3)]; exact ⟨x.on, rfl, hf, hd, h2, h3, hc, ha⟩
  ·rw [if_neg (by rw [q0f h3]; simp)] at h ⊢
   by_cases h4 : (x.on.length : Int) = x.sH.cap
   ·rw [if_pos h4] at h; exact absurd h (by decide)
   ·rw [if_neg h4]; exact ⟨_, rfl, hf, hd, h2, by simp, by rw [List.length_append, List.length_singleton]; omega, apart_push ha h2 h3⟩
 ·rw [if_pos (q0f h2)] at h; exact absurd h (by decide)
theorem on_fault {x : Wld} {on' : List Int} (hf : x.fault = 0) (hd : x.down = false) (ha : q2o (x.sH.all - 1) on') (hc : (on'.length : Int) ≤ x.sH.cap) : ({ x with on := on' } : Wld).fault = 0 := by
 obtain ⟨h1, ⟨h2, -, h3⟩, h4, h5⟩ := q3b hf
 exact fault_of h1 ⟨h2, ⟨ha, hc, .inr hd⟩, h3⟩ h4 h5
theorem tot_on {x : Wld} (on' : List Int) : q2t ({ x with on := on' } : Wld) = q2t x - q5u x.on + on'.length := by
 unfold q2t
 simp only [q5u]
 omega
theorem switches {x : Wld} {g : Int} (h : (onR x g).code = 0) : (onR x g).world.fault = 0 ∧ ((onR x g).world.on.length : Int) ≤ x.sH.cap ∧ g ∈ (onR x g).world.on ∧ q2t (onR x g).world ≤ q2t x + 6 ∧
  (offR (onR x g).world g).code = 0 ∧ q2t (offR (onR x g).world g).world ≤ q2t x + 6 ∧ (readR (offR (onR x g).world g).world g 0 0).code = 8 ∧ (writeR (offR (onR x g).world g).world g 0 0 ⟨1, [0, 0, 0, 0]⟩).code = 8 ∧ (offR (offR (onR x g).world g).world g).code = 8 := by
 obtain ⟨on', e, hf, hd, hg, hm, hc, ha⟩ := onR_zero h
 rw [e]
 have hok := (q3b hf).1
 have hy := on_fault hf hd ha hc
 have hcap : x.sH.cap ≤ 6 := hok.2.2.2.2.2.1.2
 have hnn := q3g x.on
 have e2 : offR ({ x with on := on' } : Wld) g = ⟨0, { x with on := on'.filter (fun y => y != g) }⟩ := by
  unfold offR
  rw [if_neg (by rw [up_of hy hd]; simp), if_neg (by rw [q0g (P := Wld.isGroup ({ x with on := on' } : Wld) g) hg]; simp), if_neg (by rw [q0g hm]; simp)]
 rw [e2]
 have hl : (on'.filter (fun y => y != g)).length ≤ on'.length := List.length_filter_le _ _
 have hz := on_fault (on' := on'.filter (fun y => y != g)) hf hd (apart_filter _ ha) (by omega)
 have hu := up_of hz hd
 have hgn : g ∉ on'.filter (fun y => y != g) := fun hm => by simpa using (List.mem_filter.1 hm).2
 have hdr : (0 : Int) ≤ x.sH.drives - 1 := by have := hok.drives; omega
 have hrw : (0 : Int) ≤ x.sH.rows - 1 := by have := hok.rows; omega
 have hp : Wld.isGroup ({ x with on := on'.filter (fun y => y != g) } : Wld) g ∧ Wld.isDrive ({ x with on := on'.filter (fun y => y != g) } : Wld) 0 ∧ Wld.isRow ({ x with on := on'.filter (fun y => y != g) } : Wld) 0 := ⟨hg, ⟨Int.le_refl _, hdr⟩, ⟨Int.le_refl _, hrw⟩⟩
 refine ⟨hy, hc, hm, by rw [tot_on]; omega, rfl, by rw [tot_on]; omega, ?_, ?_, ?_⟩
 ·unfold readR
  rw [if_neg (by rw [hu]; simp), if_neg (by rw [q0g hp]; simp), if_pos (q0f hgn)]
 ·unfold writeR
  rw [if_neg (by rw [hu]; simp), if_neg (by rw [q0g hp]; simp), if_neg (by rw [q0g (show Blk.ok ⟨1, [0, 0, 0, 0]⟩ from ⟨⟨by decide, by decide⟩, rfl⟩)]; simp), if_pos (q0f hgn)]
 ·unfold offR
  rw [if_neg (by rw [hu]; simp), if_neg (by rw [q0g hp.1]; simp), if_pos (q0f hgn)]
theorem q9f {α : Type} {xs : List α} {i : Nat} (d : α) (h : i < xs.length) : xs.getD i d ∈ xs ∧ xs[i]? = some (xs.getD i d) := by
 rw [List.getD_eq_getElem?_getD, List.getElem?_eq_getElem h]; exact ⟨List.getElem_mem h, rfl⟩
theorem place {x : Wld} (hf : x.fault = 0) {g d r : Int} (h1 : x.isGroup g) (h2 : x.isDrive d) (h3 : x.isRow r) :
  g.toNat < x.gS.length ∧ x.gS.getD g.toNat [] ∈ x.gS ∧ d.toNat < (x.gS.getD g.toNat []).length ∧ x.drive g d ∈ x.gS.getD g.toNat [] ∧ r.toNat < (x.drive g d).blocks.length ∧ (x.drive g d).blocks.getD r.toNat zBlk0 ∈ (x.drive g d).blocks ∧ GrpOk x.sH (x.gS.getD g.toNat []) ∧ (x.drive g d).okAt x.sH := by
 obtain ⟨-, ⟨⟨hb1, hb2⟩, -⟩, -⟩ := q3b hf
 have l1 : g.toNat < x.gS.length := by obtain ⟨a, b⟩ := h1; omega
 have m1 := (q9f (xs := x.gS) [] l1).1
 have k1 := hb2 _ m1
 have l2 : d.toNat < (x.gS.getD g.toNat []).length := by obtain ⟨a, b⟩ := h2; have := k1.1; omega
 have m2 := (q9f (xs := x.gS.getD g.toNat []) ⟨false, []⟩ l2).1
 have k2 := k1.2 _ m2
 have l3 : r.toNat < (x.drive g d).blocks.length := by obtain ⟨a, b⟩ := h3; have : ((x.drive g d).blocks.length : Int) = x.sH.rows := k2.1; omega
 exact ⟨l1, m1, l2, m2, l3, (q9f zBlk0 l3).1, k1, k2⟩
theorem Well.app_addr {P : Program} {T : List TRow} {w : World} (h : Well T w) {k : Kd} {bytes : Nat} (t ty : TypeId) (ht : P.underlying t = some (.slice k.E)) (K : Kind P k.E k.n bytes) (hbt : 1000 * bytes ≤ 140737488355328) {a : Option Addr} {l c : Nat} (hv : SlT T k (.slice a l c)) {cs : List Value} (he : ElT T k cs) (hl : l + 1 ≤ k.max)
  (ad : Addr) (cn : Nat) (hnews : ∀ j u, cs[j]? = some u → w.cell? (ad.add j) = some u) {a' : Option Addr} {c' : Nat} {w' : World} (hrun : (Builtin.append_ #[t, t] ty #[.slice a l c, .slice (some ad) 1 cn]).run P w = .ok (.slice a' (l + 1) c') w') : a' = a ∨ a' = some ⟨w.heap.size, 0, none⟩ := by
 have hkm : k.max ≤ 450 := by cases k <;> simp [Kd.max]
 have hcl := he.len
 have hl1 : cs.length = 1 * K.i.size := by rw [K.size, hcl, Nat.one_mul]
 have hb1 : (l + 1) * K.i.bytes ≤ 140737488355328 := by rw [K.byt]; exact Nat.le_trans (Nat.mul_le_mul_right _ (by omega)) hbt
 have hmax : l + 1 ≤ maxLen := by simp only [maxLen]; omega
 obtain ⟨a0, l0, c0, e, h1, h2, h3, h4⟩ := hv
 cases e
 rcases h4 with ⟨rfl, rfl⟩ | ⟨r, hr, rfl, j, rfl, h5, h6⟩
 ·obtain rfl : l = 0 := by omega
  have hr := run_append_nil (P := P) w t ty k.E K.i K.z ht K.info K.zero ad 1 cn cs hl1 hnews (by omega) (by omega) (by omega)
  rw [hr] at hrun
  simp only [Result.ok.injEq, Value.slice.injEq] at hrun
  exact .inr hrun.1.1.symm
 ·obtain ⟨cur, g1, g2, g3, g4⟩ := h.row r hr
  by_cases hroom : l + 1 ≤ c
  ·have hsz : (j + l) * r.k.n + r.k.n ≤ cur.size := by
    have := Nat.mul_le_mul_right r.k.n (show j + l + 1 ≤ r.z by omega)
    rw [Nat.add_mul, Nat.one_mul] at this
    omega
   have hoff : j * r.k.n + l * K.i.size = (j + l) * r.k.n := by rw [K.size, Nat.add_mul]
   have hr1 := run_append_room_cells (P := P) (w := w) t ty r.k.E K.i ht K.info r.b (j * r.k.n) l c ad 1 cn cs hl1 hnews he.one hroom (fun q hq => by
    rw [hoff, cellsOf g1, Array.getElem?_eq_getElem (by omega)]; rfl) (fun q _ => q0c g1 _)
   rw [hr1] at hrun
   simp only [Result.ok.injEq, Value.slice.injEq] at hrun
   exact .inl hrun.1.1.symm
  ·have hlc : l = c := by omega
   have hsz : (j + l) * r.k.n ≤ cur.size := by
    rw [g2]; exact Nat.mul_le_mul_right _ (by omega)
   rw [Nat.add_mul] at hsz
   have hol : ((cur.toList.drop (j * r.k.n)).take (l * r.k.n)).length = l * r.k.n := by rw [List.length_take, List.length_drop, Array.length_toList]; omega
   have holds : ∀ q u, ((cur.toList.drop (j * r.k.n)).take (l * r.k.n))[q]? = some u → w.cell? ((⟨r.b, j * r.k.n, none⟩ : Addr).add q) = some u := by
    intro q u hu
    rw [Addr.add_lit, cellsOf g1]
    rw [List.getElem?_take] at hu
    split at hu
    ·rw [List.getElem?_drop, Array.getElem?_toList] at hu; exact hu
    ·cases hu
   have hr1 := run_append_grow (P := P) w t ty r.k.E K.i K.z ht K.info K.zero ⟨r.b, j * r.k.n, none⟩ l c _ (by rw [K.size]; exact hol) holds ad 1 cn cs hl1 hnews (by omega) (by omega) (growslice_fits (by omega) hb1)
   rw [hr1] at hrun
   simp only [Result.ok.injEq, Value.slice.injEq] at hrun
   exact .inr hrun.1.1.symm
theorem q5o {P : Program} {T : List TRow} {w : World} {ops : Array Oper} {rest : List Oper} {o : Oper} {ac : Act} {Q : Exit → Act → World → Prop} (hgd : o.guard = none) (s x : Operand) (t : TypeId)
  (hop : o.op = .call { callee := .builtin .append, args := #[s, x], argTypes := #[t, t] }) (h : Well T w) {k : Kd} {bytes : Nat} (ht : P.underlying t = some (.slice k.E)) (K : Kind P k.E k.n bytes) (hbt : 1000 * bytes ≤ 140737488355328) {a : Option Addr} {l c : Nat} (hs : ac.eval s = .slice a l c) (hv : SlT T k (.slice a l c)) {cs : List Value} (he : ElT T k cs) (hl : l + 1 ≤ k.max)
  (ad : Addr) (cn : Nat) (hx : ac.eval x = .slice (some ad) 1 cn) (hnews : ∀ j u, cs[j]? = some u → w.cell? (ad.add j) = some u)
  (hk : ∀ a' c' w' T', TyStep T w T' w' → SlT T' k (.slice a' (l + 1) c') → (a' = a ∨ a' = some ⟨w.heap.size, 0, none⟩) → wpList P ops Q rest (ac.put o.dst (.slice a' (l + 1) c')) w') : wpList P ops Q (o :: rest) ac w := by
 refine wpList_plain hgd fun _ hK => ?_
 obtain ⟨a', c', w', T', hr, h1, h2, h3, h4, h5, -⟩ := h.append t o.type ht K hbt hv he hl ad cn hnews
 have ha := h.app_addr t o.type ht K hbt hv he hl ad cn hnews hr
 unfold Oper.wp execOp
 simp only [hop, resolve, invoke, builtin, Sem.run_bind, Sem.run_pure, Result.andThen_ok, List.map_toArray, List.map_cons, List.map_nil, hs, hx, hr]
 exact hK _ _ (hk a' c' w' T' ⟨h1, h2, h4, h5⟩ h3 ha)
theorem q8b {P : Program} {T : List TRow} {w : World} {ops : Array Oper} {o : Oper} {ac : Act} {Kc : Act → World → Prop} {Q : Exit → Act → World → Prop} {R : Prop} (hgd : o.guard = none) (s x : Operand) (t : TypeId)
  (hop : o.op = .call { callee := .builtin .append, args := #[s, x], argTypes := #[t, t] }) (h : Well T w) {k : Kd} {bytes : Nat} (ht : P.underlying t = some (.slice k.E)) (K : Kind P k.E k.n bytes) (hbt : 1000 * bytes ≤ 140737488355328) {a : Option Addr} {l c : Nat} (hs : ac.eval s = .slice a l c) (hv : SlT T k (.slice a l c)) {cs : List Value} (he : ElT T k cs) (hl : l + 1 ≤ k.max)
  (ad : Addr) (cn : Nat) (hx : ac.eval x = .slice (some ad) 1 cn) (hnews : ∀ j u, cs[j]? = some u → w.cell? (ad.add j) = some u)
  (hk : ∀ a' c' w' T', TyStep T w T' w' → SlT T' k (.slice a' (l + 1) c') → (a' = a ∨ a' = some ⟨w.heap.size, 0, none⟩) → Chg (ofA a) w w' → Kc (ac.put o.dst (.slice a' (l + 1) c')) w') :
  if Region.wanted o (yielded ops ac.tmps) = true then Oper.wp P o ac w Kc Q else R := by
 have hw : Region.wanted o (yielded ops ac.tmps) = true := by simp [Region.wanted, hgd]
 rw [if_pos hw]
 obtain ⟨a', c', w', T', hr, h1, h2, h3, h4, h5, h6⟩ := h.append t o.type ht K hbt hv he hl ad cn hnews
 have ha := h.app_addr t o.type ht K hbt hv he hl ad cn hnews hr
 unfold Oper.wp execOp
 simp only [hop, resolve, invoke, builtin, Sem.run_bind, Sem.run_pure, Result.andThen_ok, List.map_toArray, List.map_cons, List.map_nil, hs, hx, hr]
 exact hk a' c' w' T' ⟨h1, h2, h4, h5⟩ h3 ha h6
theorem SlT.low {T : List TRow} {w : World} {k : Kd} {a : Option Addr} {l c : Nat} (hv : SlT T k (.slice a l c)) (h : Well T w) : ∀ y ∈ ofA a, y < w.heap.size := by
 obtain ⟨a0, l0, c0, e, -, -, -, h4⟩ := hv
 cases e
 rcases h4 with ⟨rfl, -⟩ | ⟨r, hr, -, j, rfl, -, -⟩
 ·intro y hy; cases hy
 ·intro y hy
  rw [show y = r.b from List.mem_singleton.1 hy]
  exact h.lt hr
theorem app_eb {T : List TRow} {w : World} {k : Kd} {eb eo l c nb : Nat} {a' : Option Addr} (h : Well T w) (hv : SlT T k (.slice (some ⟨eb, eo, none⟩) l c)) (hn : nb ≤ eb) (ha : a' = some ⟨eb, eo, none⟩ ∨ a' = some ⟨w.heap.size, 0, none⟩) : ∃ e2 o2, a' = some ⟨e2, o2, none⟩ ∧ nb ≤ e2 := by
 have hlt := hv.low h eb (List.mem_singleton.2 rfl)
 rcases ha with rfl | rfl
 ·exact ⟨_, _, rfl, hn⟩
 ·exact ⟨_, _, rfl, by omega⟩
theorem q1k.chg {w w' : World} {S : List Nat} {b k n : Nat} {cs : List Value} (h : q1k w b k n cs) (hc : Chg S w w') (hb : b < w.heap.size) (hS : b ∉ S) : q1k w' b k n cs := ⟨h.1, fun j v hv => q7q hc (h.2.1 j v hv) hb hS, h.2.2⟩

theorem q3o : Ordr q2x := by
 refine ⟨fun x => ?_, fun x y z h k => ?_, fun x y z h k => ?_⟩ <;> simp only [q2x, decide_eq_true_eq, decide_eq_false_iff_not] at * <;> omega
noncomputable def dedF : List Rec → List Rec → List Rec
 | acc, [] => acc
 | acc, r :: rs => dedF (if acc.any (fun y => q2m y r) then acc else acc ++ [r]) rs
noncomputable def dedS (acc : List Rec) (r : Rec) : List Rec := if acc.any (fun y => q2m y r) then acc else acc ++ [r]
theorem q6y : ∀ (rs qs acc : List Rec), dedF acc (rs ++ qs) = dedF (dedF acc rs) qs
 | [], _, _ => rfl
 | _ :: rs, qs, _ => q6y rs qs _
theorem dedF_next {acc : List Rec} {rs : List Rec} {k : Nat} {r : Rec} (h : rs[k]? = some r) : dedF acc (rs.take (k + 1)) = dedS (dedF acc (rs.take k)) r := by
 rw [q2b h, q6y]; rfl
theorem dedS_len (acc : List Rec) (r : Rec) : (dedS acc r).length ≤ acc.length + 1 := by
 unfold dedS; split
 ·omega
 ·simp
theorem q6e : ∀ (rs acc : List Rec), (dedF acc rs).length ≤ acc.length + rs.length
 | [], _ => Nat.le_refl _
 | r :: rs, acc => by
  have h1 := q6e rs (dedS acc r)
  have h2 := dedS_len acc r
  show (dedF (dedS acc r) rs).length ≤ _
  rw [List.length_cons]; omega
theorem dedF_mem : ∀ (rs acc : List Rec) (x : Rec), x ∈ dedF acc rs → x ∈ acc ∨ x ∈ rs
 | [], _, _, h => .inl h
 | r :: rs, acc, x, h => by
  have h1 := dedF_mem rs (dedS acc r) x h
  rcases h1 with h1 | h1
  ·unfold dedS at h1
   split at h1
   ·exact .inl h1
   ·rcases List.mem_append.1 h1 with h2 | h2
    ·exact .inl h2
    ·rw [List.mem_singleton] at h2; exact .inr (by rw [h2]; simp)
  ·exact .inr (List.mem_cons_of_mem _ h1)
def insB (r : Rec) : List Rec → List Rec
 | [] => [r]
 | y :: ys => if q2x r y then r :: y :: ys else y :: insB r ys
theorem insB_form (r : Rec) : ∀ {out : List Rec}, Srt q2x out → ∃ k, insB r out = out.take k ++ (r :: out.drop k) ∧ (∀ x ∈ out.drop k, q2x r x = true) ∧ (∀ x ∈ out.take k, q2x r x = false)
 | [], _ => ⟨0, rfl, by simp, by simp⟩
 | y :: ys, hs => by
  unfold insB
  cases h : q2x r y
  ·obtain ⟨k, e, h1, h2⟩ := insB_form r (List.Pairwise.of_cons hs)
   refine ⟨k + 1, by simp [e], by simpa using h1, fun x hx => ?_⟩
   rw [List.take_succ_cons] at hx
   rcases List.mem_cons.1 hx with rfl | hx
   ·exact h
   ·exact h2 x hx
  ·refine ⟨0, by simp, fun x hx => ?_, by simp⟩
   rw [List.drop_zero] at hx
   rcases List.mem_cons.1 hx with rfl | hx
   ·exact h
   ·exact q3o.lt_le h (List.rel_of_pairwise_cons hs hx)
def isort (l : List Rec) : List Rec := l.foldl (fun o r => insB r o) []
theorem q4k (l : List Rec) : Srt q2x (isort l) ∧ Stab q2x l (isort l) := by
 unfold isort
 have h : ∀ (l o z : List Rec), Srt q2x o → Stab q2x z o → Srt q2x (l.foldl (fun o r => insB r o) o) ∧ Stab q2x (z ++ l) (l.foldl (fun o r => insB r o) o) := by
  intro l
  induction l with
  | nil => intro o z h1 h2; rw [List.append_nil]; exact ⟨h1, h2⟩
  | cons r rs ih =>
   intro o z h1 h2
   obtain ⟨k, e, k1, k2⟩ := insB_form r h1
   have h3 := ins_srt q3o h1 k1 k2
   have h4 := (h2.app (Stab.refl [r])).trans (q9d q3o k1)
   have h5 := ih (insB r o) (z ++ [r]) (by rw [e]; exact h3) (by rw [e]; exact h4)
   rw [List.append_assoc] at h5
   exact h5
 have := h l [] [] List.Pairwise.nil (Stab.refl _)
 simpa using this
noncomputable def cntL (ts : List Tap) : List Rec := isort (dedF [] (ts.flatMap (·.recs)))
theorem cnt_uniq {rs ys : List Rec} (h : Srt q2x ys) (k : Stab q2x (dedF [] rs) ys) : ys = isort (dedF [] rs) :=
 Stab.uniq q3o h (q4k _).1 k (q4k _).2
theorem filter_map' {α β : Type} (f : α → β) (p : β → Bool) : ∀ l : List α, (l.map f).filter p = (l.filter (fun a => p (f a))).map f
 | [] => rfl
 | a :: l => by
  rw [List.map_cons, List.filter_cons, List.filter_cons, filter_map' f p l]
  split <;> rfl
theorem srt_fst {qs : List RP} (h : Srt ltP qs) : Srt q2x (qs.map (·.1)) := List.pairwise_map.2 h
theorem stab_fst {ps qs : List RP} (h : Stab ltP ps qs) : Stab q2x (ps.map (·.1)) (qs.map (·.1)) := by
 refine ⟨by rw [List.length_map, List.length_map]; exact h.1, fun x => ?_⟩
 rw [filter_map', filter_map']
 have := h.2 (x, [])
 exact congrArg (List.map (·.1)) this
theorem cntL_len (ts : List Tap) : (cntL ts).length ≤ (ts.flatMap (·.recs)).length := by
 have h1 := (q4k (dedF [] (ts.flatMap (·.recs)))).2.1
 have h2 := q6e (ts.flatMap (·.recs)) []
 unfold cntL
 rw [h1]; simpa using h2
theorem cntL_mem {ts : List Tap} {x : Rec} (h : x ∈ cntL ts) : ∃ t ∈ ts, x ∈ t.recs := by
 have h1 := ((q4k (dedF [] (ts.flatMap (·.recs)))).2.mem q3o).1 h
 rcases dedF_mem _ _ _ h1 with h2 | h2
 ·cases h2
 ·exact List.mem_flatMap.1 h2
def Shr (n0 : Nat) (w : World) (v : Value) (xs : List Rec) : Prop := ∃ g fps, recL.os 67 w v xs (some g) fps ∧ n0 ≤ g ∧ ∀ y ∈ fps, y < n0
theorem Shr.ext {n0 : Nat} {w w' : World} {v : Value} {xs : List Rec} (h : Shr n0 w v xs) (hc : Chg [] w w') : Shr n0 w' v xs := by
 obtain ⟨g, fps, h1, h2, h3⟩ := h
 exact ⟨g, fps, recL.os_ext h1 hc, h2, h3⟩
theorem Shr.made {n0 : Nat} {w : World} (h : n0 ≤ w.heap.size) : Shr n0 (w.alloc (.cells #[] 67)) (.slice (some ⟨w.heap.size, 0, none⟩) 0 0) [] :=
 ⟨w.heap.size, [], recL.os_made 67 w #[] 0 (by simp [maxLen]) (by simp), h, by simp⟩
theorem Shr.sl {n0 : Nat} {w : World} {v : Value} {xs : List Rec} (h : Shr n0 w v xs) : ∃ g cap fps, v = .slice (some ⟨g, 0, none⟩) xs.length cap ∧ recL.sl w (some ⟨g, 0, none⟩) xs.length cap xs (g :: fps) ∧ q3z w g ∧ n0 ≤ g ∧ ∀ y ∈ fps, y < n0 := by
 obtain ⟨g, fps, h1, h2, h3⟩ := h
 have hlo := recL.os_loose h1 g rfl
 obtain ⟨a, cap, rfl, hs⟩ := recL.os_sl h1
 rcases h1 with ⟨e, -, e2, -⟩ | ⟨g', cap', cur, e, e2, hrest⟩
 ·cases e2
 ·obtain rfl : g = g' := Option.some.inj e2
  cases e
  exact ⟨g, cap, fps, rfl, hs, hlo, h2, h3⟩
theorem Shr.row {n0 : Nat} {w : World} {v : Value} {xs : List Rec} (h : Shr n0 w v xs) : ∃ g cap ps, v = .slice (some ⟨g, 0, none⟩) xs.length cap ∧ q0y recL w g 0 ps ∧ ps.map (·.1) = xs ∧ n0 ≤ g ∧ xs.length ≤ cap ∧ cap ≤ maxLen ∧ ∀ p ∈ ps, ∀ y ∈ p.2, y < n0 := by
 obtain ⟨g, cap, fps, rfl, hs, hlo, h2, h3⟩ := h.sl
 have hc := hs.2.1; have hm := hs.2.2.1
 obtain ⟨ps, hr, e1, e2⟩ := Lay.sl_row hs hlo ⟨fps, rfl, fun hm => by have := h3 g hm; omega⟩
 refine ⟨g, cap, ps, rfl, hr, e1, h2, hc, hm, fun p hp y hy => h3 y ?_⟩
 rw [(List.cons.inj e2).2]
 exact List.mem_flatMap.2 ⟨p, hp, hy⟩
def sgn (x y : Int) : Int := if x < y then -1 else if y < x then 1 else 0
theorem isNaN_any (x : Int) (w : World) : Calls Tryz.prog 238 #[.int .i64 x] w fun e w' => e = .returned (.bool false) ∧ w = w' := by
 have h : ((x : Int) != x) = false := by simp
 go_enter Tryz.func238, Tryz.ntmps238
 go_wp2
 go_ret
 exact ⟨rfl, rfl⟩
theorem q5l (x y : Int) (w : World) : Calls Tryz.prog 172 #[.int .i64 x, .int .i64 y] w fun e w' => e = .returned (.int .i64 (sgn x y)) ∧ w = w' := by
 have N1 := hid (isNaN_any x w); have N2 := hid (isNaN_any y w)
 by_cases h1 : x < y
 ·have HR := hid (show sgn x y = -1 from if_pos h1)
  go_enter Tryz.func172, Tryz.ntmps172
  go_wp2_with fail
  refine N1.out.mono ?_; rintro e w' ⟨rfl, rfl⟩
  go_wp2_with fail
  refine N2.out.mono ?_; rintro e w' ⟨rfl, rfl⟩
  go_wp2_with fail
  go_ret
  exact ⟨q0i HR.out.symm, rfl⟩
 ·by_cases h2 : y < x
  ·have HR := hid (show sgn x y = 1 by unfold sgn; rw [if_neg h1, if_pos h2])
   go_enter Tryz.func172, Tryz.ntmps172
   go_wp2_with fail
   refine N1.out.mono ?_; rintro e w' ⟨rfl, rfl⟩
   go_wp2_with fail
   refine N2.out.mono ?_; rintro e w' ⟨rfl, rfl⟩
   go_wp2_with fail
   go_ret
   exact ⟨q0i HR.out.symm, rfl⟩
  ·have HR := hid (show sgn x y = 0 by unfold sgn; rw [if_neg h1, if_neg h2])
   go_enter Tryz.func172, Tryz.ntmps172
   go_wp2_with fail
   refine N1.out.mono ?_; rintro e w' ⟨rfl, rfl⟩
   go_wp2_with fail
   refine N2.out.mono ?_; rintro e w' ⟨rfl, rfl⟩
   go_wp2_with fail
   go_ret
   exact ⟨q0i HR.out.symm, rfl⟩
def orL : List Int → Int
 | [] => 0
 | x :: xs => if x ≠ 0 then x else orL xs
theorem q8y : ∀ {xs : List Int} {k : Nat}, (∀ y ∈ xs.take k, y = 0) → orL xs = orL (xs.drop k)
 | _, 0, _ => rfl
 | [], k + 1, _ => rfl
 | x :: xs, k + 1, h => by
  have hx : x = 0 := h x (by simp)
  show (if x ≠ 0 then x else orL xs) = orL (xs.drop k)
  rw [if_neg (by simp [hx]), q8y (k := k) (fun y hy => h y (by rw [List.take_succ_cons]; exact List.mem_cons_of_mem _ hy))]
theorem or_any (a : Option Addr) (l c : Nat) (xs : List Int) (f : List Nat) (w : World) (ha : intL.sl w a l c xs f) : Calls Tryz.prog 171 #[.slice a l c] w fun e w' => e = .returned (.int .i64 (orL xs)) ∧ w = w' := by
 have hm := intL.sl_max ha
 have HL := hid ha.1
 have HA := hid ha
 clear ha
 go_enter Tryz.func171, Tryz.ntmps171
 go_wp2_with fail
 go_loop [8] (fun i => ∃ k : Nat, k ≤ l ∧ i = .int .i64 k ∧ Hid (∀ y ∈ xs.take k, y = 0)) (fun i => l - (intOf i).toNat)
 case atStart => exact ⟨0, by omega, rfl, by intro y hy; simp at hy⟩
 case round =>
  obtain ⟨k, hk, rfl, HK⟩ := hrel
  by_cases hlt : k < l
  ·obtain ⟨y, b, off, HX, rfl, hcx, hok⟩ := q2y HA.out hlt
   by_cases h : y = 0
   ·have hne : (y != 0) = false := by simp [h]
    have HN := hid (show ∀ z ∈ xs.take (k + 1), z = 0 by
     intro z hz
     rw [q2b HX.out.1] at hz
     rcases List.mem_append.1 hz with h1 | h1
     ·exact HK.out z h1
     ·rw [List.mem_singleton] at h1; rw [h1]; exact h)
    clear h
    go_wp2_with fail
    go_round
    case rel => exact ⟨k + 1, by omega, by go_num, HN⟩
    case measure => simp [intOf]; omega
   ·have hne : (y != 0) = true := by simp [h]
    have HR := hid (show orL xs = y by
     rw [q8y HK.out, List.drop_eq_getElem_cons (List.getElem?_eq_some_iff.1 HX.out.1).1]
     show (if xs[k] ≠ 0 then xs[k] else _) = y
     rw [(List.getElem?_eq_some_iff.1 HX.out.1).2, if_pos h])
    clear h
    go_wp2_with fail
    go_ret
    exact ⟨q0i HR.out.symm, rfl⟩
  ·have HR := hid (show orL xs = 0 by rw [q8y HK.out, List.drop_eq_nil_of_le (by have := HL.out; omega)]; rfl)
   go_wp2_with fail
   go_ret
   exact ⟨q0i HR.out.symm, rfl⟩
theorem or3_lt (x y : Rec) : decide (orL [sgn x.seq y.seq, sgn x.kind y.kind, sgn x.group y.group] < 0) = q2x x y := by
 unfold q2x
 apply decide_eq_decide.2
 have h : ∀ a b : Int, (sgn a b < 0 ↔ a < b) ∧ (sgn a b = 0 ↔ a = b) := fun a b => by
  unfold sgn
  by_cases q : a < b
  ·rw [if_pos q]; omega
  ·rw [if_neg q]
   by_cases q2 : b < a
   ·rw [if_pos q2]; omega
   ·rw [if_neg q2]; omega
 show (if sgn x.seq y.seq ≠ 0 then sgn x.seq y.seq else if sgn x.kind y.kind ≠ 0 then sgn x.kind y.kind else if sgn x.group y.group ≠ 0 then sgn x.group y.group else 0) < 0 ↔ _
 have h1 := h x.seq y.seq; have h2 := h x.kind y.kind; have h3 := h x.group y.group
 split
 ·omega
 ·split
  ·omega
  ·split <;> omega
theorem sgn_ok (x y : Int) : q0u (sgn x y) := by
 unfold sgn
 by_cases q : x < y
 ·rw [if_pos q]; constructor <;> omega
 ·rw [if_neg q]
  by_cases q2 : y < x
  ·rw [if_pos q2]; constructor <;> omega
  ·rw [if_neg q2]; constructor <;> omega
theorem int3_sl (w : World) (E : TypeId) (x y z : Int) (hx : q0u x) (hy : q0u y) (hz : q0u z) (bn : Nat) (hbn : bn = w.heap.size) : intL.sl (w.alloc (.cells #[.int .i64 x, .int .i64 y, .int .i64 z] E)) (some ⟨bn, 0, none⟩) 3 3 [x, y, z] [bn] := by
 subst hbn
 exact
 ⟨rfl, Nat.le_refl _, by simp [maxLen], (fun h => by cases h), .inr ⟨w.heap.size, 0, _, E, (0, 0), [], rfl, q0o w _, intL.all_append (xs := [x]) (ys := [y, z]) (c1 := [.int .i64 x]) (f1 := []) (f2 := []) (q9c hx) (intL.all_append (xs := [y]) (ys := [z]) (c1 := [.int .i64 y]) (f1 := []) (f2 := []) (q9c hy) (q9c hz)), rfl⟩⟩
theorem cmp_ok : CmpOK := by
 intro w cx cy x y fx fy hx hy
 obtain ⟨a6, l6, c6, f6, a7, l7, c7, f7, a8, l8, c8, f8, rfl, -⟩ := q0v.1 hx
 obtain ⟨b6, m6, d6, g6, b7, m7, d7, g7, b8, m8, d8, g8, rfl, -⟩ := q0v.1 hy
 have HOR := hid (or3_lt x y)
 have HS1 := hid (sgn_ok x.seq y.seq); have HS2 := hid (sgn_ok x.kind y.kind); have HS3 := hid (sgn_ok x.group y.group)
 have C1 := hid (q5l x.seq y.seq); have C2 := hid (q5l x.kind y.kind); have C3 := hid (q5l x.group y.group)
 clear hx hy
 have G0 := hid ((((Chg.refl [] w).alloc (.cells #[.int .i64 x.kind, .int .i64 x.seq, .string x.name, .int .i64 x.length, .int .i64 x.group, .int .i64 x.row, .slice a6 l6 c6, .slice a7 l7 c7, .slice a8 l8 c8] 67)).alloc (.cells #[.int .i64 y.kind, .int .i64 y.seq, .string y.name, .int .i64 y.length, .int .i64 y.group, .int .i64 y.row, .slice b6 m6 d6, .slice b7 m7 d7, .slice b8 m8 d8] 67)).drew)
 have B0 := hid (q0a (q0b (q0o w (.cells #[.int .i64 x.kind, .int .i64 x.seq, .string x.name, .int .i64 x.length, .int .i64 x.group, .int .i64 x.row, .slice a6 l6 c6, .slice a7 l7 c7, .slice a8 l8 c8] 67)) (.cells #[.int .i64 y.kind, .int .i64 y.seq, .string y.name, .int .i64 y.length, .int .i64 y.group, .int .i64 y.row, .slice b6 m6 d6, .slice b7 m7 d7, .slice b8 m8 d8] 67)))
 have B1 := hid (show ((w.alloc (.cells #[.int .i64 x.kind, .int .i64 x.seq, .string x.name, .int .i64 x.length, .int .i64 x.group, .int .i64 x.row, .slice a6 l6 c6, .slice a7 l7 c7, .slice a8 l8 c8] 67)).alloc (.cells #[.int .i64 y.kind, .int .i64 y.seq, .string y.name, .int .i64 y.length, .int .i64 y.group, .int .i64 y.row, .slice b6 m6 d6, .slice b7 m7 d7, .slice b8 m8 d8] 67)).drew.heap[w.heap.size + 1]? = some (.cells #[.int .i64 y.kind, .int .i64 y.seq, .string y.name, .int .i64 y.length, .int .i64 y.group, .int .i64 y.row, .slice b6 m6 d6, .slice b7 m7 d7, .slice b8 m8 d8] 67 (0, 0)) from q0a (q0e (by simp) _))
 go_enter Tryz.func170, Tryz.ntmps170
 go_wp2_with fail
 obtain ⟨SS1, HSI1, HSO1⟩ := q0j (fun w' => Know w.heap.size #[.int .i64 x.kind, .int .i64 x.seq, .string x.name, .int .i64 x.length, .int .i64 x.group, .int .i64 x.row, .slice a6 l6 c6, .slice a7 l7 c7, .slice a8 l8 c8] w' ∧ Know (w.heap.size + 1) #[.int .i64 y.kind, .int .i64 y.seq, .string y.name, .int .i64 y.length, .int .i64 y.group, .int .i64 y.row, .slice b6 m6 d6, .slice b7 m7 d7, .slice b8 m8 d8] w')
 have hS0 := HSI1.out _ ⟨(Know.of B0.out), (Know.of B1.out)⟩
 refine q0k SS1 (by kernel_rfl) hS0 ?_
 refine rgT 0 hS0 ?_
 refine rgL 1 hS0 HSO1 ?_
 refine rgT 2 hS0 ?_
 refine rgL 3 hS0 HSO1 ?_
 refine rgT 5 hS0 ?_
 refine rgL 6 hS0 HSO1 ?_
 refine rgT 7 hS0 ?_
 refine rgL 8 hS0 HSO1 ?_
 refine rgT 10 hS0 ?_
 refine rgL 11 hS0 HSO1 ?_
 refine rgT 12 hS0 ?_
 refine rgL 13 hS0 HSO1 ?_
 refine q0d 4 rfl (by kernel_rfl) (fun K hK => ?_)
 go_simp
 go_at_call 172
 refine (C1.out _).mono ?_; rintro e w' ⟨rfl, rfl⟩
 go_wp2_with fail
 refine hK.out _ _ (HSI1.out _ ⟨(Know.of B0.out), (Know.of B1.out)⟩) (fun hS1 => ?_)
 clear hK K
 try simp only [Act.put, pA, pB, pC]
 refine q0d 9 rfl (by kernel_rfl) (fun K hK => ?_)
 go_simp
 go_at_call 172
 refine (C2.out _).mono ?_; rintro e w' ⟨rfl, rfl⟩
 go_wp2_with fail
 refine hK.out _ _ (HSI1.out _ ⟨(Know.of B0.out), (Know.of B1.out)⟩) (fun hS2 => ?_)
 clear hK K
 try simp only [Act.put, pA, pB, pC]
 refine q0d 14 rfl (by kernel_rfl) (fun K hK => ?_)
 go_simp
 go_at_call 172
 refine (C3.out _).mono ?_; rintro e w' ⟨rfl, rfl⟩
 go_wp2_with fail
 refine hK.out _ _ (HSI1.out _ ⟨(Know.of B0.out), (Know.of B1.out)⟩) (fun hS3 => ?_)
 clear hK K
 try simp only [Act.put, pA, pB, pC]
 refine q0d 15 rfl (by kernel_rfl) (fun K hK => ?_)
 go_simp
 have H3 := hid (int3_sl ((w.alloc (.cells #[.int .i64 x.kind, .int .i64 x.seq, .string x.name, .int .i64 x.length, .int .i64 x.group, .int .i64 x.row, .slice a6 l6 c6, .slice a7 l7 c7, .slice a8 l8 c8] 67)).alloc (.cells #[.int .i64 y.kind, .int .i64 y.seq, .string y.name, .int .i64 y.length, .int .i64 y.group, .int .i64 y.row, .slice b6 m6 d6, .slice b7 m7 d7, .slice b8 m8 d8] 67)).drew 3 _ _ _ HS1.out HS2.out HS3.out (w.heap.size + 1 + 1) (by simp [World.drew])); have HC3 := hid (G0.out.alloc (.cells #[.int .i64 (sgn x.seq y.seq), .int .i64 (sgn x.kind y.kind), .int .i64 (sgn x.group y.group)] 3))
 go_wp2_with fail
 refine hK.out _ _ (HSI1.out _ ⟨(Know.of (q0b B0.out _)), (Know.of (q0b B1.out _))⟩) (fun hS4 => ?_)
 clear hK K
 try simp only [Act.put, pA, pB, pC]
 refine q0d 16 rfl (by kernel_rfl) (fun K hK => ?_)
 go_simp
 go_at_call 171
 refine (or_any _ _ _ _ _ _ H3.out).mono ?_; rintro e w' ⟨rfl, rfl⟩
 go_wp2_with fail
 refine hK.out _ _ (HSI1.out _ ⟨(Know.of (q0b B0.out _)), (Know.of (q0b B1.out _))⟩) (fun hS5 => ?_)
 clear hK K
 try simp only [Act.put, pA, pB, pC]
 refine rgT 17 hS5 ?_
 refine wpAnyH_done (by kernel_rfl) ?_ _
 go_wp2_with fail
 go_ret
 exact ⟨_, rfl, HOR.out, HC3.out⟩
theorem q8w {w : World} {a : Option Addr} {len cap : Nat} {xs : List Rec} {fp : List Nat} (h : recL.sl w a len cap xs fp) {i : Nat} (hi : i < len) :
  ∃ (x : Rec) (b off : Nat) (c : List Value) (f : List Nat), Hid (xs[i]? = some x ∧ b ∈ fp ∧ (∀ y ∈ f, y ∈ fp)) ∧ a = some ⟨b, off, none⟩ ∧ Hid (q1k w b (off + i * 9) 9 c) ∧ Hid (recL.rep w c x f) := by
 obtain ⟨x, b, off, c, f, hx, ha, hb, hc, hr, hf⟩ := recL.sl_at h hi
 refine ⟨x, b, off, c, f, ⟨hx, hb, hf⟩, ha, ⟨recL.len hr, fun j v hv => ?_, Lay.all_one (L := recL) (recL.all_single hr)⟩, hr⟩
 have := hc j (by have := (List.getElem?_eq_some_iff.1 hv).1; have := recL.len hr; omega)
 rw [← hv]; exact this
theorem has1_any (x r : Rec) (B : Nat) {a6 a7 a8 b6 b7 b8 : Option Addr} {l6 c6 l7 c7 l8 c8 m6 d6 m7 d7 m8 d8 : Nat} (fx fr : List Nat) (E : TypeId) (w : World) (hB : w.heap[B]? = some (.cells #[.int .i64 r.kind, .int .i64 r.seq, .string r.name, .int .i64 r.length, .int .i64 r.group, .int .i64 r.row, .slice b6 m6 d6, .slice b7 m7 d7, .slice b8 m8 d8] E (0, 0))) (hx : recL.rep w (#[.int .i64 x.kind, .int .i64 x.seq, .string x.name, .int .i64 x.length, .int .i64 x.group, .int .i64 x.row, .slice a6 l6 c6, .slice a7 l7 c7, .slice a8 l8 c8] : Array Value).toList x fx) (hr : recL.rep w (#[.int .i64 r.kind, .int .i64 r.seq, .string r.name, .int .i64 r.length, .int .i64 r.group, .int .i64 r.row, .slice b6 m6 d6, .slice b7 m7 d7, .slice b8 m8 d8] : Array Value).toList r fr) :
  Calls Tryz.prog 236 #[.agg #[.int .i64 x.kind, .int .i64 x.seq, .string x.name, .int .i64 x.length, .int .i64 x.group, .int .i64 x.row, .slice a6 l6 c6, .slice a7 l7 c7, .slice a8 l8 c8], .pointer (some ⟨B, 0, none⟩)] w fun e w' => e = .returned (.bool (q2m x r)) ∧ Chg [] w w' := by
 have hS := q4w x r #[.int .i64 x.kind, .int .i64 x.seq, .string x.name, .int .i64 x.length, .int .i64 x.group, .int .i64 x.row, .slice a6 l6 c6, .slice a7 l7 c7, .slice a8 l8 c8] #[.int .i64 r.kind, .int .i64 r.seq, .string r.name, .int .i64 r.length, .int .i64 r.group, .int .i64 r.row, .slice b6 m6 d6, .slice b7 m7 d7, .slice b8 m8 d8] fx fr (w.alloc (.cells #[.int .i64 x.kind, .int .i64 x.seq, .string x.name, .int .i64 x.length, .int .i64 x.group, .int .i64 x.row, .slice a6 l6 c6, .slice a7 l7 c7, .slice a8 l8 c8] 67)) (recL.ext hx ((Chg.refl [] w).alloc _)) (recL.ext hr ((Chg.refl [] w).alloc _))
 rw [← sameV_pb] at hS
 have HS := hid hS
 have cB := cellsOf hB; have lB := ltOf hB
 have G0 := hid ((Chg.refl [] w).alloc (.cells #[.int .i64 x.kind, .int .i64 x.seq, .string x.name, .int .i64 x.length, .int .i64 x.group, .int .i64 x.row, .slice a6 l6 c6, .slice a7 l7 c7, .slice a8 l8 c8] 67))
 clear hS hx hr hB
 go_enter Tryz.func236, Tryz.ntmps236
 go_wp2_with fail
 refine HS.out.mono ?_
 rintro e w' ⟨rfl, hc⟩
 have HC := hid (G0.out.trans0 hc)
 clear hc
 go_wp2_with fail
 go_ret
 exact ⟨rfl, HC.out⟩
theorem cf_has1 : ∀ (args : Array Value) (w : World), (callFunc 236 args).run Tryz.prog w = .ok (.enter 236 args) w := fun _ _ => by go_simp
theorem has_any (a : Option Addr) (la ca : Nat) (xs : List Rec) (f : List Nat) (r : Rec) (cy : Array Value) (fr : List Nat) (w : World) (ha : recL.sl w a la ca xs f) (hy : recL.rep w cy.toList r fr) :
  Calls Tryz.prog 168 #[.slice a la ca, .agg cy] w fun e w' => e = .returned (.bool (xs.any (fun x => q2m x r))) ∧ Chg [] w w' := by
 obtain ⟨b6, m6, d6, g6, b7, m7, d7, g7, b8, m8, d8, g8, ey, -⟩ := q0v.1 hy
 obtain rfl := Array.toList_inj.1 (ey.trans (List.toList_toArray).symm)
 have hB := q0o w (.cells #[.int .i64 r.kind, .int .i64 r.seq, .string r.name, .int .i64 r.length, .int .i64 r.group, .int .i64 r.row, .slice b6 m6 d6, .slice b7 m7 d7, .slice b8 m8 d8] 67)
 have g0 : Chg [] w (w.alloc (.cells #[.int .i64 r.kind, .int .i64 r.seq, .string r.name, .int .i64 r.length, .int .i64 r.group, .int .i64 r.row, .slice b6 m6 d6, .slice b7 m7 d7, .slice b8 m8 d8] 67)) := (Chg.refl [] w).alloc _
 have HCT := hid (contRec_any 236 #[.pointer (some ⟨w.heap.size, 0, none⟩)] (fun x => q2m x r) a la ca xs f (w.alloc (.cells #[.int .i64 r.kind, .int .i64 r.seq, .string r.name, .int .i64 r.length, .int .i64 r.group, .int .i64 r.row, .slice b6 m6 d6, .slice b7 m7 d7, .slice b8 m8 d8] 67)) (recL.sl_ext ha g0) cf_has1 (fun x a6 l6 c6 a7 l7 c7 a8 l8 c8 fx w1 _ h2 h3 => has1_any x r w.heap.size fx fr 67 w1 (h2.keep0 hB) h3 (recL.ext hy (g0.trans0 h2))))
 have G0 := hid g0
 clear ha hy ey hB g0
 go_enter Tryz.func168, Tryz.ntmps168
 go_wp2_with fail
 refine HCT.out.mono ?_
 rintro e w' ⟨rfl, hc⟩
 have HC := hid (G0.out.trans0 hc)
 clear hc
 go_wp2_with fail
 go_ret
 exact ⟨rfl, HC.out⟩
end Go.Proofs.YtphmpimgbmedbaaGreat
