
/- A new world: the specification. -/
import Derived.Test.YtnnhopcjlnnchaaNwa
import Derived.Test.YtnnhopcjlnnchaaSto
import Derived.Deep.DeepCutAuto
namespace Go.Proofs.Ytnnhopcjlnnchaa
open Go.RowKit

set_option maxRecDepth 100000 in
set_option maxHeartbeats 8000000 in
theorem spec_NewWorld (x : Shp) (w : World) :
    Calls Try.prog 5 #[.agg #[.int .i64 x.groups, .int .i64 x.column, .int .i64 x.data, .int .i64 x.spare, .int .i64 x.rows, .int .i64 x.cap, .int .i64 x.batch, .int .i64 x.queue, .int .i64 x.stage]] w (NewAgg wrsL (newR x) w) := by
  obtain ⟨KD, _⟩ := kindDrive
  obtain ⟨KS, _⟩ := kindDS
  have hmk : ∀ w : World, (Instr.makeSlice 27 (.int .i64 2) (.int .i64 2)).run Try.prog w = .ok (.slice (some ⟨w.heap.size, 0, none⟩) 2 2) (w.alloc (.cells (zrow (.agg #[.bool false, .slice none 0 0]) 4) 62)) := fun w => makeTape 2 (by omega) w
  have G0 := Lib.hid (show Chg [] w ((w.alloc (.cells #[.int .i64 x.groups, .int .i64 x.column, .int .i64 x.data, .int .i64 x.spare, .int .i64 x.rows, .int .i64 x.cap, .int .i64 x.batch, .int .i64 x.queue, .int .i64 x.stage] 24)).alloc (.cells #[.int .i64 0, .int .i64 0, .int .i64 0, .int .i64 0, .int .i64 0, .int .i64 0, .int .i64 0, .int .i64 0, .int .i64 0, .int .i64 0, .slice none 0 0, .slice none 0 0, .slice none 0 0, .int .i64 0, .int .i64 0, .bool false] 31)) from ((Chg.refl [] w).alloc _).alloc _)
  have B1 := Lib.hid (show ((w.alloc (.cells #[.int .i64 x.groups, .int .i64 x.column, .int .i64 x.data, .int .i64 x.spare, .int .i64 x.rows, .int .i64 x.cap, .int .i64 x.batch, .int .i64 x.queue, .int .i64 x.stage] 24)).alloc (.cells #[.int .i64 0, .int .i64 0, .int .i64 0, .int .i64 0, .int .i64 0, .int .i64 0, .int .i64 0, .int .i64 0, .int .i64 0, .int .i64 0, .slice none 0 0, .slice none 0 0, .slice none 0 0, .int .i64 0, .int .i64 0, .bool false] 31)).heap[w.heap.size]? = some (.cells #[.int .i64 x.groups, .int .i64 x.column, .int .i64 x.data, .int .i64 x.spare, .int .i64 x.rows, .int .i64 x.cap, .int .i64 x.batch, .int .i64 x.queue, .int .i64 x.stage] 24 (0, 0)) from keep_alloc (new_alloc w _) _)
  have B2 := Lib.hid (show ((w.alloc (.cells #[.int .i64 x.groups, .int .i64 x.column, .int .i64 x.data, .int .i64 x.spare, .int .i64 x.rows, .int .i64 x.cap, .int .i64 x.batch, .int .i64 x.queue, .int .i64 x.stage] 24)).alloc (.cells #[.int .i64 0, .int .i64 0, .int .i64 0, .int .i64 0, .int .i64 0, .int .i64 0, .int .i64 0, .int .i64 0, .int .i64 0, .int .i64 0, .slice none 0 0, .slice none 0 0, .slice none 0 0, .int .i64 0, .int .i64 0, .bool false] 31)).heap[w.heap.size + 1]? = some (.cells #[.int .i64 0, .int .i64 0, .int .i64 0, .int .i64 0, .int .i64 0, .int .i64 0, .int .i64 0, .int .i64 0, .int .i64 0, .int .i64 0, .slice none 0 0, .slice none 0 0, .slice none 0 0, .int .i64 0, .int .i64 0, .bool false] 31 (0, 0)) from new_at (by simp) _)
  obtain ⟨q, hq⟩ : ∃ q, q = x.fault := ⟨_, rfl⟩
  have HQ := Lib.hid hq; clear hq
  go_enter Try.func5, Try.ntmps5
  go_wp2_with fail
  refine (spec_shapeC x _).mono ?_
  rintro e w1 ⟨rfl, hc⟩
  rw [← HQ.out]
  obtain ⟨e1, n1, A1⟩ := bk hc B1.out (by simp); obtain ⟨e2, n2, A2⟩ := bk hc B2.out (by simp)
  have fz2 := freeOf A2.out
  have G1 := Lib.hid (G0.out.trans0 hc)
  clear hc G0 B1 B2
  by_cases hq0 : q = 0
  · subst hq0
    have HF := Lib.hid HQ.out.symm
    have hok := Shp.ok_of HF.out
    obtain ⟨na, hna⟩ : ∃ n : Nat, x.all = n := ⟨x.all.toNat, by have := hok.all; omega⟩
    obtain ⟨nd, hnd⟩ : ∃ n : Nat, x.drives = n := ⟨x.drives.toNat, by have := hok.drives; omega⟩
    obtain ⟨nr, hnr⟩ : ∃ n : Nat, x.rows = n := ⟨x.rows.toNat, by have := hok.rows; omega⟩
    have ba : na ≤ 6 := by have := hok.all; omega
    have bd : nd ≤ 5 := by have := hok.drives; omega
    have br : nr ≤ 6 := by have := hok.rows; omega
    have HA := Lib.hid hna; have HD := Lib.hid hnd; have HR0 := Lib.hid hnr; have HOK := Lib.hid hok
    have HX := Lib.hid (show newR x = ⟨0, ⟨x, List.replicate na (List.replicate nd (freshDrv nr)), [], [⟨false, []⟩, ⟨false, []⟩], 0, -1, false⟩⟩ by rw [newR_ok HF.out]; unfold newWld; rw [hna, hnd, hnr]; rfl)
    have HT0 := Lib.hid (fun w : World => tapL.sl_zrow (z := .agg #[.bool false, .slice none 0 0]) w 62 2 (by omega) (zTap_rep _))
    have HT1 := Lib.hid (fun (w : World) (n : Nat) (h : n = w.heap.size) => (by subst h; exact HT0.out w : tapL.sl (w.alloc (.cells (zrow (.agg #[.bool false, .slice none 0 0]) 4) 62)) (some ⟨n, 0, none⟩) 2 2 [⟨false, []⟩, ⟨false, []⟩] [n]))
    have HF1 := Lib.hid (fun (w : World) (n : Nat) (h : n = w.heap.size) => (by subst h; exact fresh_new w _ _ : Fresh n (w.alloc (.cells (zrow (.agg #[.bool false, .slice none 0 0]) 4) 62)) [n]))
    clear hok hna hnd hnr
    go_wp2_with fail
    go_cut [4] (fun s4 w2 => ∃ m b, s4 = .pointer (some ⟨m, 0, none⟩) ∧ w1.heap.size ≤ m ∧ w1.heap.size ≤ b ∧ m ≠ b ∧ w2.heap[m]? = some (.cells #[.int .i64 x.groups, .int .i64 x.column, .int .i64 x.data, .int .i64 x.spare, .int .i64 x.rows, .int .i64 x.cap, .int .i64 x.batch, .int .i64 x.queue, .int .i64 x.stage, .slice none 0 0, .slice none 0 0, .slice (some ⟨b, 0, none⟩) 2 2, .int .i64 0, .int .i64 (-1), .bool false] 29 (0, 0)) ∧ w2.heap.size = w1.heap.size + 2 ∧ tapL.sl w2 (some ⟨b, 0, none⟩) 2 2 [⟨false, []⟩, ⟨false, []⟩] [b] ∧ Fresh w.heap.size w2 [b] ∧ Chg [] w1 w2)
    case first =>
      go_region
      all_goals
        go_wp2_with fail
        go_meet
        first
        | exact ⟨w1.heap.size + 1, w1.heap.size, rfl, by omega, by omega, by omega, keep_drew (new_at (by simp) _), by simp, tapL.sl_ext (HT0.out w1) (((Chg.refl [] _).alloc _).drew), ((fresh_new w1 _ _).mono G1.out.size).chg (((Chg.refl [] _).alloc _).drew), (((Chg.refl [] _).alloc _).alloc _).drew⟩
        | exact ⟨w1.heap.size, w1.heap.size + 1, rfl, by omega, by omega, by omega, keep_drew (keep_alloc (new_alloc w1 _) _), by simp, tapL.sl_ext (HT1.out (w1.alloc (.cells #[.int .i64 x.groups, .int .i64 x.column, .int .i64 x.data, .int .i64 x.spare, .int .i64 x.rows, .int .i64 x.cap, .int .i64 x.batch, .int .i64 x.queue, .int .i64 x.stage, .slice none 0 0, .slice none 0 0, .slice (some ⟨w1.heap.size + 1, 0, none⟩) 2 2, .int .i64 0, .int .i64 (-1), .bool false] 29)) (w1.heap.size + 1) (by simp)) ((Chg.refl [] _).drew), ((HF1.out (w1.alloc (.cells #[.int .i64 x.groups, .int .i64 x.column, .int .i64 x.data, .int .i64 x.spare, .int .i64 x.rows, .int .i64 x.cap, .int .i64 x.batch, .int .i64 x.queue, .int .i64 x.stage, .slice none 0 0, .slice none 0 0, .slice (some ⟨w1.heap.size + 1, 0, none⟩) 2 2, .int .i64 0, .int .i64 (-1), .bool false] 29)) (w1.heap.size + 1) (by simp)).mono (by have := G1.out.size; omega)).chg ((Chg.refl [] _).drew), (((Chg.refl [] _).alloc _).alloc _).drew⟩
    case rest =>
    revert wc; intro w2 hcut
    obtain ⟨m, b, rfl, hm, hbb, hmb, hw, hsz, htp, htf, hc⟩ := hcut
    have HW := Lib.hid hw; have HT := Lib.hid (And.intro htp htf)
    have HNB := Lib.hid (And.intro hm (And.intro hbb hmb))
    have A1' := Lib.hid (hc.keep0 A1.out); have A2' := Lib.hid (hc.keep0 A2.out)
    have lm : m < w2.heap.size := ltOf hw
    have hmw : w.heap.size + 1 < m := by omega
    have G2 := Lib.hid (G1.out.trans0 hc)
    have nR1 : w.heap.size + 1 < w1.heap.size := n2
    clear e1 n1 e2 n2 fz2 A1 A2 hc htp htf hm hbb hmb hw hsz
    obtain ⟨c1, n1, -⟩ := bk (Chg.refl [] w2) A1'.out (by simp)
    go_wp2_with fail
    go_loopw [5] (fun vi wr => ∃ (k : Nat) (v : Value) (Wr : World), Wr = wr ∧ k ≤ na ∧ vi = .int .i64 k ∧ GrowC drvL.slice 47 w2.heap.size wr v (List.replicate k (List.replicate nd (freshDrv nr))) ∧ wr.heap[m]? = some (.cells #[.int .i64 x.groups, .int .i64 x.column, .int .i64 x.data, .int .i64 x.spare, .int .i64 x.rows, .int .i64 x.cap, .int .i64 x.batch, .int .i64 x.queue, .int .i64 x.stage, v, .slice none 0 0, .slice (some ⟨b, 0, none⟩) 2 2, .int .i64 0, .int .i64 (-1), .bool false] 29 (0, 0)) ∧ Chg [m] w2 wr) (fun vi _ => na - (intOf vi).toNat)
    case atStart => exact ⟨0, .slice none 0 0, _, rfl, by omega, rfl, GrowC.nil (Nat.le_refl _), HW.out, Chg.refl _ _⟩
    case round =>
      clear c1 n1
      obtain ⟨k, v, wr, rfl, hk, rfl, hg, hb3, hc⟩ := hrel
      have D1 := Lib.hid (hc.keepb A1'.out (by simp; omega)); have D2 := Lib.hid (hc.keepb A2'.out (by simp; omega)); have D3 := Lib.hid hb3
      have c1 := cellsOf D1.out; have n1 := ltOf D1.out
      have HG := Lib.hid hg; have HC := Lib.hid hc
      clear hg hc hb3
      go_wp2_with fail
      refine (l5All_any x HOK.out _).mono ?_
      rintro e wa ⟨rfl, hca⟩
      rw [HA.out]
      have HCA := Lib.hid hca
      clear c1 n1; obtain ⟨c1, n1, E0⟩ := bk hca D1.out (by simp)
      clear hca
      by_cases hlt : k < na
      · go_wp2_with fail
        go_loopw [6, 7] (fun vo vi wi => ∃ (j : Nat) (Wi : World), Wi = wi ∧ j ≤ nd ∧ vi = .int .i64 j ∧ Grow drvL 50 wr wi vo (List.replicate j (freshDrv nr))) (fun _ vi _ => nd - (intOf vi).toNat)
        case atStart => exact ⟨0, _, rfl, by omega, rfl, Grow.made HCA.out⟩
        case round =>
          clear c1 n1
          obtain ⟨j, wi, rfl, hj, rfl, hgi⟩ := hrel
          have E1 := Lib.hid (hgi.chg.keep0 D1.out); have E3 := Lib.hid (hgi.chg.keep0 D3.out)
          have c1 := cellsOf E1.out; have n1 := ltOf E1.out
          have HGI := Lib.hid hgi
          clear hgi
          go_wp2_with fail
          refine (l5Drives_any x HOK.out _).mono ?_
          rintro e wb ⟨rfl, hcb⟩
          rw [HD.out]
          have HCB := Lib.hid hcb
          clear c1 n1; obtain ⟨c1, n1, E5⟩ := bk hcb E1.out (by simp)
          have E6 := Lib.hid (hcb.keep0 E3.out)
          clear E3; have E3 := E6
          clear hcb
          by_cases hlj : j < nd
          · have HLL : RowKit.Hid ((List.replicate j (freshDrv nr)).length + [freshDrv nr].length ≤ maxLen ∧ ((List.replicate j (freshDrv nr)).length + [freshDrv nr].length) * 32 ≤ 140737488355328) := by
              refine ⟨?_, ?_⟩ <;> simp only [List.length_replicate, List.length_cons, List.length_nil, maxLen] <;> omega
            go_wp2_with fail
            refine (l5Fresh_any x nr _ HR0.out (by omega)).mono ?_
            rintro e wd ⟨cs, g3, rfl, hs, hf, hcd⟩
            obtain ⟨p3, m3, d3, _, ex, -⟩ := drvL_iff.1 hs; obtain rfl := Array.toList_inj.1 (ex.trans (List.toList_toArray).symm)
            have HN1 := Lib.hid (And.intro hs (And.intro (hf.mono (C := wi.heap.size) HCB.out.size) (HCB.out.trans0 hcd)))
            clear hs hf hcd ex
            go_wp2_with (at_builtin; refine drvL.wpList_grow rfl _ _ 47 rfl Try.underlying47 KD rfl HGI.out (HN1.out.2.2.alloc (.cells #[.bool (freshDrv nr).wiped, .slice p3 m3 d3] 50)) ⟨wd.heap.size, 0, none⟩ 1 1 [.bool (freshDrv nr).wiped, .slice p3 m3 d3] (ys := [freshDrv nr]) (f := g3) rfl rfl (new_cells wd #[.bool (freshDrv nr).wiped, .slice p3 m3 d3] 50) (drvL.all_single (drvL.ext HN1.out.1 ((Chg.refl [] wd).alloc _))) (HN1.out.2.1.chg ((Chg.refl [] wd).alloc (.cells #[.bool (freshDrv nr).wiped, .slice p3 m3 d3] 50))) HLL.out.1 HLL.out.2 ?_; intro v' w' hg'; rw [rep_next] at hg'; have HG2 := Lib.hid hg'; clear hg')
            go_roundw
            case rel => exact ⟨j + 1, _, rfl, by omega, by go_num, HG2.out⟩
            case measure => simp [intOf]; omega
          · obtain rfl : j = nd := by omega
            obtain ⟨p9, c9, f9, h1, hs9, hf9, hc9⟩ := HGI.out.sl
            subst h1
            rw [List.length_replicate] at hs9 ⊢
            have HN9 := Lib.hid (And.intro hs9 (And.intro hf9 hc9))
            clear HN9; have HN9 := Lib.hid (And.intro (drvL.sl_ext hs9 HCB.out) (And.intro (hf9.chg HCB.out) (hc9.trans0 HCB.out)))
            have e3 := cellsOf E3.out; have n3' := ltOf E3.out
            have HLL : RowKit.Hid ((List.replicate k (List.replicate j (freshDrv nr))).length + [List.replicate j (freshDrv nr)].length ≤ maxLen ∧ ((List.replicate k (List.replicate j (freshDrv nr))).length + [List.replicate j (freshDrv nr)].length) * 24 ≤ 140737488355328) := by
              refine ⟨?_, ?_⟩ <;> simp only [List.length_replicate, List.length_cons, List.length_nil, maxLen] <;> omega
            clear hs9 hf9 hc9
            go_wp2_with (at_builtin; refine GrowB.wpList rfl _ _ 25 rfl Try.underlying25 KS rfl (HG.out.b.ext (HN9.out.2.2.alloc (.cells #[.slice p9 j c9] 47))) ⟨wb.heap.size, 0, none⟩ 1 1 [.slice p9 j c9] (ys := [List.replicate j (freshDrv nr)]) (f := f9) rfl rfl (new_cells wb #[.slice p9 j c9] 47) (drvL.slice.all_single ⟨p9, j, c9, rfl, drvL.sl_ext HN9.out.1 ((Chg.refl [] wb).alloc _)⟩) (HN9.out.2.1.chg ((Chg.refl [] wb).alloc (.cells #[.slice p9 j c9] 47))) HLL.out.1 HLL.out.2 ?_; intro v' w3 hg' hup; rw [rep_next] at hg'; obtain ⟨pv, lv, cv, rfl⟩ : ∃ a l c, v' = Value.slice a l c := (by obtain ⟨a, c, f, h, -⟩ := hg'.sl; exact ⟨a, _, c, h⟩); have HG2 := Lib.hid hg'; have HU := Lib.hid hup; have E4 := Lib.hid ((hup.low m lm).trans (keep_alloc E3.out _)); have e4 := cellsOf E4.out; have n4 := ltOf E4.out; have z4 := freeOf E4.out; clear hg' hup)
            have r1 := HG2.out.chg ((Chg.refl [m] w3).setCell ⟨m, 9, none⟩ (.slice pv lv cv) (.inl (by simp))) (by simp; omega)
            have r3 : (w3.setCell ⟨m, 9, none⟩ (.slice pv lv cv)).heap[m]? = some (.cells #[.int .i64 x.groups, .int .i64 x.column, .int .i64 x.data, .int .i64 x.spare, .int .i64 x.rows, .int .i64 x.cap, .int .i64 x.batch, .int .i64 x.queue, .int .i64 x.stage, .slice pv lv cv, .slice none 0 0, .slice (some ⟨b, 0, none⟩) 2 2, .int .i64 0, .int .i64 (-1), .bool false] 29 (0, 0)) := heap_set_lit (cur := #[.int .i64 x.groups, .int .i64 x.column, .int .i64 x.data, .int .i64 x.spare, .int .i64 x.rows, .int .i64 x.cap, .int .i64 x.batch, .int .i64 x.queue, .int .i64 x.stage, v, .slice none 0 0, .slice (some ⟨b, 0, none⟩) 2 2, .int .i64 0, .int .i64 (-1), .bool false]) E4.out rfl
            have r4 := (HU.out.chg (HC.out.trans0 (HN9.out.2.2.alloc (.cells #[.slice p9 j c9] 47))) (Nat.le_refl _)).setCell ⟨m, 9, none⟩ (.slice pv lv cv) (.inl (by simp))
            have HR := Lib.hid (And.intro r1 (And.intro r3 r4))
            clear r1 r3 r4
            go_roundw
            case rel => exact ⟨k + 1, .slice pv lv cv, _, rfl, by omega, by go_num, HR.out.1, HR.out.2.1, HR.out.2.2⟩
            case measure => simp [intOf]; omega
      · obtain rfl : k = na := by omega
        obtain ⟨p10, d10, g10, rfl, hs, hf⟩ := HG.out.sl
        rw [List.length_replicate] at hs D3
        have Q2 := Lib.hid (HCA.out.keep0 D2.out); have Q3 := Lib.hid (HCA.out.keep0 D3.out); have QC := Lib.hid (HC.out.trans0 HCA.out)
        have QH := Lib.hid (And.intro (drvL.slice.sl_ext hs HCA.out) (hf.chg HCA.out)); clear hs hf; obtain ⟨hs, hf⟩ := QH.out
        have e3 := cellsOf Q3.out; have m3 := ltOf Q3.out; have e2 := cellsOf Q2.out; have m2 := ltOf Q2.out; have fz2 := freeOf Q2.out
        have g0 : w.heap.size + 2 ≤ w2.heap.size := Nat.le_trans (ltOf A2'.out) (Nat.le_refl _)
        have n10 := fun T (hT : ∀ b ∈ T, b < w2.heap.size) => hf.nots T hT
        have tb := HNB.out
        have K12 := tapL.sl_chg HT.out.1 QC.out (by simp; omega)
        have FT := HT.out.2.chg QC.out
        have blt : b < w2.heap.size := (HT.out.2.2 b (by simp)).2.lt
        have FF : Fresh w.heap.size wa (g10 ++ ([] ++ ([b] ++ []))) := by
          have h := FT.append hf (by simpa using blt) (by omega)
          have p : ([b] ++ g10).Perm (g10 ++ ([] ++ ([b] ++ []))) := by simpa using List.perm_append_comm (l₁ := [b]) (l₂ := g10)
          exact ⟨p.nodup_iff.1 h.1, fun y hy => h.2 y (p.mem_iff.2 hy)⟩
        have hch : Chg [] w wa := G2.out.trans QC.out (fun y hy => .inr (by rw [List.mem_singleton] at hy; omega))
        obtain ⟨⟨g1, g2⟩, ⟨g3, g4⟩, ⟨g5, g6⟩, ⟨g7, g8⟩, ⟨g9, g11⟩, ⟨g12, g13⟩, ⟨g14, g15⟩, ⟨g16, g17⟩, g18, g19⟩ := HOK.out
        have oo1 : i64ok x.groups := by constructor <;> omega
        have oo2 : i64ok x.column := by constructor <;> omega
        have oo3 : i64ok x.data := by constructor <;> omega
        have oo4 : i64ok x.spare := by constructor <;> omega
        have oo5 : i64ok x.rows := by constructor <;> omega
        have oo6 : i64ok x.cap := by constructor <;> omega
        have oo7 : i64ok x.batch := by constructor <;> omega
        have oo8 : i64ok x.queue := by constructor <;> omega
        have oo9 : i64ok x.stage := by constructor <;> omega
        have hrep : wldL.rep wa [.int .i64 x.groups, .int .i64 x.column, .int .i64 x.data, .int .i64 x.spare, .int .i64 x.rows, .int .i64 x.cap, .int .i64 x.batch, .int .i64 x.queue, .int .i64 x.stage, .slice p10 k d10, .slice none 0 0, .slice (some ⟨b, 0, none⟩) 2 2, .int .i64 0, .int .i64 (-1), .bool false] ⟨x, List.replicate k (List.replicate nd (freshDrv nr)), [], [⟨false, []⟩, ⟨false, []⟩], 0, -1, false⟩ (g10 ++ ([] ++ ([b] ++ []))) := wldL_iff.2 ⟨p10, k, d10, g10, none, 0, 0, [], some ⟨b, 0, none⟩, 2, 2, [b], rfl, oo1, oo2, oo3, oo4, oo5, oo6, oo7, oo8, oo9, hs, nil_sl0 _ _, K12, i64z, ⟨by show (-9223372036854775808 : Int) ≤ -1; omega, by show (-1 : Int) ≤ 9223372036854775807; omega⟩, rfl⟩
        have hrn : w.heap.size + 1 ∉ g10 ++ ([] ++ ([b] ++ [])) := by
          simp only [List.mem_append, List.mem_singleton, List.not_mem_nil, false_or, or_false]
          rintro (h | h)
          · have := (hf.2 _ h).1; omega
          · omega
        have HE := Lib.hid (And.intro hrep (And.intro FF (And.intro hch hrn)))
        clear hs hf g0 n10 K12 FT FF hch g1 g2 g3 g4 g5 g6 g7 g8 g9 g11 g12 g13 g14 g15 g16 g17 g18 g19 blt hrep hrn oo1 oo2 oo3 oo4 oo5 oo6 oo7 oo8 oo9
        go_wp2_with (refine store_wide rfl _ _ 31 rfl rfl rfl infoWR Q2.out rfl rfl rfl ?_; intro w9 hb9 hc9; have HB9 := Lib.hid hb9; have HC9 := Lib.hid hc9; clear hb9 hc9)
        refine bodyPost_ret (v := .agg #[.int .i64 0, .int .i64 x.groups, .int .i64 x.column, .int .i64 x.data, .int .i64 x.spare, .int .i64 x.rows, .int .i64 x.cap, .int .i64 x.batch, .int .i64 x.queue, .int .i64 x.stage, .slice p10 k d10, .slice none 0 0, .slice (some ⟨b, 0, none⟩) 2 2, .int .i64 0, .int .i64 (-1), .bool false]) (results_wide _ _ Try.results5 rfl infoWR Try.underlying31 HB9.out rfl) rfl (fin9 0 i64z _ HX.out HE.out.1 rfl HE.out.2.1 HE.out.2.2.1 HC9.out HE.out.2.2.2 (by omega))
  · have hb : ((q : Int) != 0) = true := by simpa using hq0
    have hqk : i64ok q := by have := HQ.out; have := Shp.fault_or x; unfold i64ok; omega
    have hbm : newR x = ⟨q, zWld⟩ := by rw [newR_bad (by rw [← HQ.out]; exact hq0), ← HQ.out]
    go_wp2_with (refine store_wide rfl _ _ 31 rfl rfl rfl infoWR A2.out rfl rfl rfl ?_; intro w9 hb9 hc9; have HB9 := Lib.hid hb9; have HC9 := Lib.hid hc9; clear hb9 hc9)
    refine bodyPost_ret (v := .agg #[.int .i64 q, .int .i64 0, .int .i64 0, .int .i64 0, .int .i64 0, .int .i64 0, .int .i64 0, .int .i64 0, .int .i64 0, .int .i64 0, .slice none 0 0, .slice none 0 0, .slice none 0 0, .int .i64 0, .int .i64 0, .bool false]) (results_wide _ _ Try.results5 rfl infoWR Try.underlying31 HB9.out rfl) rfl (bad9 q hqk _ hbm G1.out HC9.out (by omega))
end Go.Proofs.Ytnnhopcjlnnchaa
