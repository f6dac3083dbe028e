/- Several texts in one. -/
import Derived.Test.YtphmpimgbmedbaaGreatGaq
import Derived.Test.YtphmpimgbmedbaaGreatGau
import Derived.Test.YtphmpimgbmedbaaGreatGao
import Derived.Test.YtphmpimgbmedbaaGreatGam
import Derived.Test.YtphmpimgbmedbaaGreatGat
/- slices.Clone at records: a row of one's own. -/
namespace Go.Proofs.YtphmpimgbmedbaaGreat
open Go.RowKit
open Go.Lib (hid)
theorem shr_new {w W w' : World} {v' : Value} {xs : List Rec} {fps : List Nat} {h' : Option Nat} (hq : ∀ y ∈ fps, y < w.heap.size) (hW : Chg [] w W) (ho : recL.os 67 w' v' xs h' fps) (hh : h' = some w.heap.size ∨ h' = some W.heap.size) (hc : Chg (some w.heap.size).toList W w') : Rwd w.heap.size w' v' xs ∧ Chg [] w w' := by
 have hg : ∃ g, h' = some g ∧ w.heap.size ≤ g := by
  rcases hh with rfl | rfl
  ·exact ⟨_, rfl, Nat.le_refl _⟩
  ·exact ⟨_, rfl, hW.size⟩
 obtain ⟨g, rfl, hg⟩ := hg
 refine ⟨?_, hW.trans hc (fun y hy => .inr (by simp at hy; omega))⟩
 exact (show Shr w.heap.size w' v' xs from ⟨g, fps, ho, hg, hq⟩).row
set_option maxHeartbeats 400000 in
theorem cloneRow_any (ad : Addr) (la ca : Nat) (xs : List Rec) (f : List Nat) (w : World) (ha : recL.sl w (some ad) la ca xs f) (hz : la * 128 ≤ 140737488355327) :
  Calls Tryz.prog 180 #[.slice (some ad) la ca] w fun e w' => ∃ v, e = .returned v ∧ Rwd w.heap.size w' v xs ∧ Chg [] w w' := by
 obtain ⟨K, _⟩ := kindRec
 have hn := fun w => Lib.run_eql_slice_nil (P := Tryz.prog) w 44 67 (some ad) la ca 0 0 Tryz.underlying44
 obtain ⟨news, fps, hnews, hall, hsub⟩ := recL.sl_cells (recL.sl_ext ha ((Chg.refl [] w).alloc (.cells #[] 67)))
 have HF := hid (show ∀ y ∈ fps, y < w.heap.size from fun y hy => recL.sl_lt ha y (hsub y hy))
 have HA := hid ha
 have HW := hid (And.intro hnews hall)
 have HL : Hid (([] : List Rec).length + xs.length ≤ maxLen ∧ (([] : List Rec).length + xs.length) * 128 ≤ 140737488355328 ∧ w.heap.size ∉ fps) := by
  have h1 := ha.1; have h2 := recL.sl_max ha
  refine ⟨?_, ?_, fun hb => ?_⟩
  ·simp only [List.length_nil, maxLen]; omega
  ·simp only [List.length_nil, Nat.zero_add]; omega
  ·have := HF.out _ hb; omega
 clear ha hnews hall hsub hz
 go_enter Tryz.func180, Tryz.ntmps180
 go_wp2_with (refine recL.wpList_append rfl _ _ 44 rfl Tryz.underlying44 K rfl (recL.os_made 67 w #[] 0 (by simp [maxLen]) rfl) ad la ca news rfl HA.out.1 HW.out.1 HW.out.2 (fun g hg => by cases hg; exact HL.out.2.2) HL.out.1 HL.out.2.1 ?_; intro v' w' h' ho' hh' hc'; have hN := hid (And.intro ho' (And.intro hh' hc')); clear ho' hh' hc')
 go_ret
 obtain ⟨ho, hh, hc⟩ := hN.out
 have h5 := shr_new (W := w.alloc (.cells #[] 67)) (by simpa using HF.out) ((Chg.refl [] w).alloc _) ho hh hc
 exact ⟨_, rfl, by simpa using h5.1, h5.2⟩
end Go.Proofs.YtphmpimgbmedbaaGreat
/- What is done, and what is still to be done: the program. -/
namespace Go.Proofs.YtphmpimgbmedbaaGreat
open Go.RowKit
open Go.Lib (hid)
set_option maxRecDepth 100000 in
set_option maxHeartbeats 2000000 in
theorem done1_any (x : Rec) (s g : Int) (B1 B2 : Nat) {a6 a7 a8 : Option Addr} {l6 c6 l7 c7 l8 c8 : Nat} (w : World) (h1 : w.heap[B1]? = some (.cells #[.int .i64 s] 2 (0, 0))) (h2 : w.heap[B2]? = some (.cells #[.int .i64 g] 2 (0, 0))) :
  Calls Tryz.prog 240 #[.agg #[.int .i64 x.kind, .int .i64 x.seq, .string x.name, .int .i64 x.length, .int .i64 x.group, .int .i64 x.row, .slice a6 l6 c6, .slice a7 l7 c7, .slice a8 l8 c8], .pointer (some ⟨B1, 0, none⟩), .pointer (some ⟨B2, 0, none⟩)] w fun e w' => e = .returned (.bool (pb (x.kind = 3 ∧ x.seq = s ∧ x.group = g))) ∧ Chg [] w w' := by
 have c1 := cellsOf h1; have l1 := ltOf h1; have c2 := cellsOf h2; have l2 := ltOf h2
 have G0 := hid ((Chg.refl [] w).alloc (.cells #[.int .i64 x.kind, .int .i64 x.seq, .string x.name, .int .i64 x.length, .int .i64 x.group, .int .i64 x.row, .slice a6 l6 c6, .slice a7 l7 c7, .slice a8 l8 c8] 67))
 clear h1 h2
 by_cases h3 : x.kind = 3
 ·have hb3 : (x.kind == 3) = true := by simp [h3]
  by_cases h4 : x.seq = s
  ·have hb4 : (x.seq == s) = true := by simp [h4]
   by_cases h5 : x.group = g
   ·have hb5 : (x.group == g) = true := by simp [h5]
    have HR := hid (show pb (x.kind = 3 ∧ x.seq = s ∧ x.group = g) = true from pb_true ⟨h3, h4, h5⟩)
    clear h3 h4 h5
    rw [HR.out]
    go_enter Tryz.func240, Tryz.ntmps240
    go_wp2_with fail
    go_ret
    exact ⟨rfl, G0.out⟩
   ·have hb5 : (x.group == g) = false := by simp [h5]
    have HR := hid (show pb (x.kind = 3 ∧ x.seq = s ∧ x.group = g) = false from pb_false (fun h => h5 h.2.2))
    clear h3 h4 h5
    rw [HR.out]
    go_enter Tryz.func240, Tryz.ntmps240
    go_wp2_with fail
    go_ret
    exact ⟨rfl, G0.out⟩
  ·have hb4 : (x.seq == s) = false := by simp [h4]
   have HR := hid (show pb (x.kind = 3 ∧ x.seq = s ∧ x.group = g) = false from pb_false (fun h => h4 h.2.1))
   clear h3 h4
   rw [HR.out]
   go_enter Tryz.func240, Tryz.ntmps240
   go_wp2_with fail
   go_ret
   exact ⟨rfl, G0.out⟩
 ·have hb3 : (x.kind == 3) = false := by simp [h3]
  have HR := hid (show pb (x.kind = 3 ∧ x.seq = s ∧ x.group = g) = false from pb_false (fun h => h3 h.1))
  clear h3
  rw [HR.out]
  go_enter Tryz.func240, Tryz.ntmps240
  go_wp2_with fail
  go_ret
  exact ⟨rfl, G0.out⟩
theorem cf_done1 : ∀ (args : Array Value) (w : World), (callFunc 240 args).run Tryz.prog w = .ok (.enter 240 args) w := fun _ _ => by go_simp
set_option maxHeartbeats 1000000 in
theorem isDone_any (a : Option Addr) (la ca : Nat) (xs : List Rec) (f : List Nat) (s g : Int) (w : World) (ha : recL.sl w a la ca xs f) :
  Calls Tryz.prog 182 #[.slice a la ca, .int .i64 s, .int .i64 g] w fun e w' => e = .returned (.bool (donB xs s g)) ∧ Chg [] w w' := by
 have hb1 : ((w.alloc (.cells #[.int .i64 s] 2)).alloc (.cells #[.int .i64 g] 2)).heap[w.heap.size]? = some (.cells #[.int .i64 s] 2 (0, 0)) := keep_alloc (new_alloc w _) _
 have hb2 : ((w.alloc (.cells #[.int .i64 s] 2)).alloc (.cells #[.int .i64 g] 2)).heap[w.heap.size + 1]? = some (.cells #[.int .i64 g] 2 (0, 0)) := new_at (by simp) _
 have g0 : Chg [] w ((w.alloc (.cells #[.int .i64 s] 2)).alloc (.cells #[.int .i64 g] 2)) := ((Chg.refl [] w).alloc _).alloc _
 have HCT := hid (contRec_any 240 #[.pointer (some ⟨w.heap.size, 0, none⟩), .pointer (some ⟨w.heap.size + 1, 0, none⟩)] (fun x => pb (x.kind = 3 ∧ x.seq = s ∧ x.group = g)) a la ca xs f _ (recL.sl_ext ha g0) cf_done1 (fun x a6 l6 c6 a7 l7 c7 a8 l8 c8 fx w1 _ h2 _ => done1_any x s g _ _ w1 (h2.keep0 hb1) (h2.keep0 hb2)))
 have G0 := hid g0
 clear ha hb1 hb2 g0
 go_enter Tryz.func182, Tryz.ntmps182
 go_wp2_with fail
 refine HCT.out.mono ?_
 rintro e w' ⟨rfl, hc⟩
 have HC := hid (G0.out.trans0 hc)
 clear hc
 go_wp2_with fail
 go_ret
 exact ⟨rfl, HC.out⟩
theorem isDataM_any (s : Shp) (hs : s.ok) (n : Int) (w : World) :
  Calls Tryz.prog 111 #[.agg #[.int .i64 s.groups, .int .i64 s.column, .int .i64 s.data, .int .i64 s.spare, .int .i64 s.rows, .int .i64 s.cap, .int .i64 s.batch, .int .i64 s.queue, .int .i64 s.stage], .int .i64 n] w fun e w' => e = .returned (.bool (inB n 0 (s.groups - 1))) ∧ Chg [] w w' := isData_any s hs n w
theorem isGrpM_any (s : Shp) (hs : s.ok) (n : Int) (w : World) :
  Calls Tryz.prog 102 #[.agg #[.int .i64 s.groups, .int .i64 s.column, .int .i64 s.data, .int .i64 s.spare, .int .i64 s.rows, .int .i64 s.cap, .int .i64 s.batch, .int .i64 s.queue, .int .i64 s.stage], .int .i64 n] w fun e w' => e = .returned (.bool (inB n 0 (s.groups + s.column - 1))) ∧ Chg [] w w' := isGroup_any s hs n w
set_option maxRecDepth 100000 in
set_option maxHeartbeats 4000000 in
theorem und1_a (s : Shp) (_hok : s.ok) (x : Rec) (xs : List Rec) (g : Int) (B1 B2 B3 m : Nat) {u9 u10 u12 u13 u14 : Value} {a a6 a7 a8 a12 : Option Addr} {l c l12 c12 l6 c6 l7 c7 l8 c8 : Nat} (f : List Nat) (w : World)
  (h1 : w.heap[B1]? = some (.cells #[.pointer (some ⟨m, 0, none⟩)] 97 (0, 0))) (h2 : w.heap[B2]? = some (.cells #[.int .i64 g] 2 (0, 0))) (h3 : w.heap[B3]? = some (.cells #[.slice a l c] 44 (0, 0))) (hm : w.heap[m]? = some (.cells #[.int .i64 s.groups, .int .i64 s.column, .int .i64 s.data, .int .i64 s.spare, .int .i64 s.rows, .int .i64 s.cap, .int .i64 s.batch, .int .i64 s.queue, .int .i64 s.stage, u9, u10, .slice a12 l12 c12, u12, u13, u14] 34 (0, 0))) (hs : recL.sl w a l c xs f) (_hg : 0 ≤ g) (hk : ¬ x.kind = 2) :
  Calls Tryz.prog 181 #[.agg #[.int .i64 x.kind, .int .i64 x.seq, .string x.name, .int .i64 x.length, .int .i64 x.group, .int .i64 x.row, .slice a6 l6 c6, .slice a7 l7 c7, .slice a8 l8 c8], .pointer (some ⟨B1, 0, none⟩), .pointer (some ⟨B2, 0, none⟩), .pointer (some ⟨B3, 0, none⟩)] w fun e w' => e = .returned (.bool (!undP s.groups g xs x)) ∧ Chg [] w w' := by
 have g0 : Chg [] w (w.alloc (.cells #[.int .i64 x.kind, .int .i64 x.seq, .string x.name, .int .i64 x.length, .int .i64 x.group, .int .i64 x.row, .slice a6 l6 c6, .slice a7 l7 c7, .slice a8 l8 c8] 67)).drew := ((Chg.refl [] w).alloc _).drew
 have H1 := hid (g0.keep0 h1); have H2 := hid (g0.keep0 h2); have H3 := hid (g0.keep0 h3); have HM := hid (g0.keep0 hm)
 have HB := hid (keep_drew (new_alloc w (.cells #[.int .i64 x.kind, .int .i64 x.seq, .string x.name, .int .i64 x.length, .int .i64 x.group, .int .i64 x.row, .slice a6 l6 c6, .slice a7 l7 c7, .slice a8 l8 c8] 67)))
 have HS := hid (recL.sl_ext hs g0); have G0 := hid g0
 clear g0 h1 h2 h3 hm hs
 have hbk : (x.kind != 2) = true := by simpa using hk
 have HR := hid (show undP s.groups g xs x = false by unfold undP; rw [pb_false (fun h => hk h.1)]; rfl)
 clear hk
 go_enter Tryz.func181, Tryz.ntmps181
 go_wp2_with fail
 obtain ⟨SS1, HSI1, HSO1⟩ := rg_cond (fun w' => Know w.heap.size #[.int .i64 x.kind, .int .i64 x.seq, .string x.name, .int .i64 x.length, .int .i64 x.group, .int .i64 x.row, .slice a6 l6 c6, .slice a7 l7 c7, .slice a8 l8 c8] w' ∧ Know B1 #[.pointer (some ⟨m, 0, none⟩)] w' ∧ Know B2 #[.int .i64 g] w' ∧ Know B3 #[.slice a l c] w' ∧ Know m #[.int .i64 s.groups, .int .i64 s.column, .int .i64 s.data, .int .i64 s.spare, .int .i64 s.rows, .int .i64 s.cap, .int .i64 s.batch, .int .i64 s.queue, .int .i64 s.stage, u9, u10, .slice a12 l12 c12, u12, u13, u14] w')
 have hS0 := HSI1.out _ ⟨(Know.of HB.out), (Know.of H1.out), (Know.of H2.out), (Know.of H3.out), (Know.of HM.out)⟩
 refine rg_start SS1 (by kernel_rfl) hS0 ?_
 refine rgT 0 hS0 ?_
 refine rgL 1 hS0 HSO1 ?_
 refine rgT 2 hS0 ?_
 refine rgT 3 hS0 ?_
 refine rgS 4 hS0 ?_
 refine rgS 5 hS0 ?_
 refine rgS 6 hS0 ?_
 refine rgS 7 hS0 ?_
 refine rgS 8 hS0 ?_
 refine rgS 9 hS0 ?_
 refine rgS 10 hS0 ?_
 refine rgS 11 hS0 ?_
 refine rgS 12 hS0 ?_
 refine rgS 13 hS0 ?_
 refine rgS 14 hS0 ?_
 refine rgS 15 hS0 ?_
 refine rgT 16 hS0 ?_
 refine rgT 17 hS0 ?_
 refine rgS 18 hS0 ?_
 refine rgS 19 hS0 ?_
 refine rgS 20 hS0 ?_
 refine rgS 21 hS0 ?_
 refine rgS 22 hS0 ?_
 refine rgT 23 hS0 ?_
 refine rgT 24 hS0 ?_
 refine wpAnyH_done (by kernel_rfl) ?_ _
 go_wp2_with fail
 go_ret
 exact ⟨by rw [HR.out]; rfl, G0.out⟩
set_option maxRecDepth 100000 in
set_option maxHeartbeats 4000000 in
theorem und1_b (s : Shp) (hok : s.ok) (x : Rec) (xs : List Rec) (g : Int) (B1 B2 B3 m : Nat) {u9 u10 u12 u13 u14 : Value} {a a6 a7 a8 a12 : Option Addr} {l c l12 c12 l6 c6 l7 c7 l8 c8 : Nat} (f : List Nat) (w : World)
  (h1 : w.heap[B1]? = some (.cells #[.pointer (some ⟨m, 0, none⟩)] 97 (0, 0))) (h2 : w.heap[B2]? = some (.cells #[.int .i64 g] 2 (0, 0))) (h3 : w.heap[B3]? = some (.cells #[.slice a l c] 44 (0, 0))) (hm : w.heap[m]? = some (.cells #[.int .i64 s.groups, .int .i64 s.column, .int .i64 s.data, .int .i64 s.spare, .int .i64 s.rows, .int .i64 s.cap, .int .i64 s.batch, .int .i64 s.queue, .int .i64 s.stage, u9, u10, .slice a12 l12 c12, u12, u13, u14] 34 (0, 0))) (hs : recL.sl w a l c xs f) (hg : 0 ≤ g) (hk : x.kind = 2) (hgs : g < s.groups) (hxg : ¬ x.group = g) :
  Calls Tryz.prog 181 #[.agg #[.int .i64 x.kind, .int .i64 x.seq, .string x.name, .int .i64 x.length, .int .i64 x.group, .int .i64 x.row, .slice a6 l6 c6, .slice a7 l7 c7, .slice a8 l8 c8], .pointer (some ⟨B1, 0, none⟩), .pointer (some ⟨B2, 0, none⟩), .pointer (some ⟨B3, 0, none⟩)] w fun e w' => e = .returned (.bool (!undP s.groups g xs x)) ∧ Chg [] w w' := by
 have g0 : Chg [] w (w.alloc (.cells #[.int .i64 x.kind, .int .i64 x.seq, .string x.name, .int .i64 x.length, .int .i64 x.group, .int .i64 x.row, .slice a6 l6 c6, .slice a7 l7 c7, .slice a8 l8 c8] 67)).drew := ((Chg.refl [] w).alloc _).drew
 have H1 := hid (g0.keep0 h1); have H2 := hid (g0.keep0 h2); have H3 := hid (g0.keep0 h3); have HM := hid (g0.keep0 hm)
 have HB := hid (keep_drew (new_alloc w (.cells #[.int .i64 x.kind, .int .i64 x.seq, .string x.name, .int .i64 x.length, .int .i64 x.group, .int .i64 x.row, .slice a6 l6 c6, .slice a7 l7 c7, .slice a8 l8 c8] 67)))
 have HS := hid (recL.sl_ext hs g0); have G0 := hid g0
 clear g0 h1 h2 h3 hm hs
 have hbk : (x.kind != 2) = false := by simp [hk]
 have hbg : (x.group != g) = true := by simpa using hxg
 have HR := hid (show undP s.groups g xs x = false by unfold undP; rw [pb_false (fun h => h.2.elim (fun h => by omega) hxg)]; rfl)
 have HI := hid (show inB g 0 (s.groups - 1) = true by simp [inB]; omega)
 clear hk hg hgs hxg
 go_enter Tryz.func181, Tryz.ntmps181
 go_wp2_with fail
 obtain ⟨SS1, HSI1, HSO1⟩ := rg_cond (fun w' => Know w.heap.size #[.int .i64 x.kind, .int .i64 x.seq, .string x.name, .int .i64 x.length, .int .i64 x.group, .int .i64 x.row, .slice a6 l6 c6, .slice a7 l7 c7, .slice a8 l8 c8] w' ∧ Know B1 #[.pointer (some ⟨m, 0, none⟩)] w' ∧ Know B2 #[.int .i64 g] w' ∧ Know B3 #[.slice a l c] w' ∧ Know m #[.int .i64 s.groups, .int .i64 s.column, .int .i64 s.data, .int .i64 s.spare, .int .i64 s.rows, .int .i64 s.cap, .int .i64 s.batch, .int .i64 s.queue, .int .i64 s.stage, u9, u10, .slice a12 l12 c12, u12, u13, u14] w')
 have hS0 := HSI1.out _ ⟨(Know.of HB.out), (Know.of H1.out), (Know.of H2.out), (Know.of H3.out), (Know.of HM.out)⟩
 refine rg_start SS1 (by kernel_rfl) hS0 ?_
 refine rgT 0 hS0 ?_
 refine rgL 1 hS0 HSO1 ?_
 refine rgT 2 hS0 ?_
 refine rgT 3 hS0 ?_
 refine rgL 4 hS0 HSO1 ?_
 refine rgT 5 hS0 ?_
 refine rgT 6 hS0 ?_
 refine rgL 7 hS0 HSO1 ?_
 refine rgL 8 hS0 HSO1 ?_
 refine rg_call 9 rfl (by kernel_rfl) (fun K hK => ?_)
 go_simp
 go_at_call 111
 refine (isDataM_any s hok g _).mono ?_; rintro e w5 ⟨rfl, hc2⟩; have HC1 := hid hc2; clear hc2
 rw [HI.out]
 go_wp2_with fail
 refine hK.out _ _ (HSI1.out _ ⟨(Know.of (HC1.out.keep0 HB.out)), (Know.of (HC1.out.keep0 H1.out)), (Know.of (HC1.out.keep0 H2.out)), (Know.of (HC1.out.keep0 H3.out)), (Know.of (HC1.out.keep0 HM.out))⟩) (fun hS1 => ?_)
 clear hK K
 try simp only [Act.put, List.setIfInBounds_toArray, List.set_cons_zero, List.set_cons_succ]
 refine rgT 10 hS1 ?_
 refine rgT 11 hS1 ?_
 refine rgL 12 hS1 HSO1 ?_
 refine rgL 13 hS1 HSO1 ?_
 refine rgT 14 hS1 ?_
 refine rgT 15 hS1 ?_
 refine rgT 16 hS1 ?_
 refine rgT 17 hS1 ?_
 refine rgS 18 hS1 ?_
 refine rgS 19 hS1 ?_
 refine rgS 20 hS1 ?_
 refine rgS 21 hS1 ?_
 refine rgS 22 hS1 ?_
 refine rgT 23 hS1 ?_
 refine rgT 24 hS1 ?_
 refine wpAnyH_done (by kernel_rfl) ?_ _
 go_wp2_with fail
 go_ret
 exact ⟨by rw [HR.out]; rfl, G0.out.trans0 HC1.out⟩
set_option maxRecDepth 100000 in
set_option maxHeartbeats 4000000 in
theorem und1_c (s : Shp) (hok : s.ok) (x : Rec) (xs : List Rec) (g : Int) (B1 B2 B3 m : Nat) {u9 u10 u12 u13 u14 : Value} {a a6 a7 a8 a12 : Option Addr} {l c l12 c12 l6 c6 l7 c7 l8 c8 : Nat} (f : List Nat) (w : World)
  (h1 : w.heap[B1]? = some (.cells #[.pointer (some ⟨m, 0, none⟩)] 97 (0, 0))) (h2 : w.heap[B2]? = some (.cells #[.int .i64 g] 2 (0, 0))) (h3 : w.heap[B3]? = some (.cells #[.slice a l c] 44 (0, 0))) (hm : w.heap[m]? = some (.cells #[.int .i64 s.groups, .int .i64 s.column, .int .i64 s.data, .int .i64 s.spare, .int .i64 s.rows, .int .i64 s.cap, .int .i64 s.batch, .int .i64 s.queue, .int .i64 s.stage, u9, u10, .slice a12 l12 c12, u12, u13, u14] 34 (0, 0))) (hs : recL.sl w a l c xs f) (hg : 0 ≤ g) (hk : x.kind = 2) (hgs : g < s.groups) (hxg : x.group = g) :
  Calls Tryz.prog 181 #[.agg #[.int .i64 x.kind, .int .i64 x.seq, .string x.name, .int .i64 x.length, .int .i64 x.group, .int .i64 x.row, .slice a6 l6 c6, .slice a7 l7 c7, .slice a8 l8 c8], .pointer (some ⟨B1, 0, none⟩), .pointer (some ⟨B2, 0, none⟩), .pointer (some ⟨B3, 0, none⟩)] w fun e w' => e = .returned (.bool (!undP s.groups g xs x)) ∧ Chg [] w w' := by
 have g0 : Chg [] w (w.alloc (.cells #[.int .i64 x.kind, .int .i64 x.seq, .string x.name, .int .i64 x.length, .int .i64 x.group, .int .i64 x.row, .slice a6 l6 c6, .slice a7 l7 c7, .slice a8 l8 c8] 67)).drew := ((Chg.refl [] w).alloc _).drew
 have H1 := hid (g0.keep0 h1); have H2 := hid (g0.keep0 h2); have H3 := hid (g0.keep0 h3); have HM := hid (g0.keep0 hm)
 have HB := hid (keep_drew (new_alloc w (.cells #[.int .i64 x.kind, .int .i64 x.seq, .string x.name, .int .i64 x.length, .int .i64 x.group, .int .i64 x.row, .slice a6 l6 c6, .slice a7 l7 c7, .slice a8 l8 c8] 67)))
 have HS := hid (recL.sl_ext hs g0); have G0 := hid g0
 clear g0 h1 h2 h3 hm hs
 have hbk : (x.kind != 2) = false := by simp [hk]
 have hbg : (x.group != g) = false := by simp [hxg]
 obtain ⟨d, hd⟩ : ∃ d, d = donB xs x.seq g := ⟨_, rfl⟩
 have HDN := hid hd.symm; clear hd
 have HR := hid (show undP s.groups g xs x = !d by unfold undP; rw [pb_true ⟨hk, .inr hxg⟩, HDN.out]; rfl)
 have HI := hid (show inB g 0 (s.groups - 1) = true by simp [inB]; omega)
 clear hk hg hgs hxg
 go_enter Tryz.func181, Tryz.ntmps181
 go_wp2_with fail
 obtain ⟨SS1, HSI1, HSO1⟩ := rg_cond (fun w' => Know w.heap.size #[.int .i64 x.kind, .int .i64 x.seq, .string x.name, .int .i64 x.length, .int .i64 x.group, .int .i64 x.row, .slice a6 l6 c6, .slice a7 l7 c7, .slice a8 l8 c8] w' ∧ Know B1 #[.pointer (some ⟨m, 0, none⟩)] w' ∧ Know B2 #[.int .i64 g] w' ∧ Know B3 #[.slice a l c] w' ∧ Know m #[.int .i64 s.groups, .int .i64 s.column, .int .i64 s.data, .int .i64 s.spare, .int .i64 s.rows, .int .i64 s.cap, .int .i64 s.batch, .int .i64 s.queue, .int .i64 s.stage, u9, u10, .slice a12 l12 c12, u12, u13, u14] w')
 have hS0 := HSI1.out _ ⟨(Know.of HB.out), (Know.of H1.out), (Know.of H2.out), (Know.of H3.out), (Know.of HM.out)⟩
 refine rg_start SS1 (by kernel_rfl) hS0 ?_
 refine rgT 0 hS0 ?_
 refine rgL 1 hS0 HSO1 ?_
 refine rgT 2 hS0 ?_
 refine rgT 3 hS0 ?_
 refine rgL 4 hS0 HSO1 ?_
 refine rgT 5 hS0 ?_
 refine rgT 6 hS0 ?_
 refine rgL 7 hS0 HSO1 ?_
 refine rgL 8 hS0 HSO1 ?_
 refine rg_call 9 rfl (by kernel_rfl) (fun K hK => ?_)
 go_simp
 go_at_call 111
 refine (isDataM_any s hok g _).mono ?_; rintro e w5 ⟨rfl, hc2⟩; have HC1 := hid hc2; clear hc2
 rw [HI.out]
 go_wp2_with fail
 refine hK.out _ _ (HSI1.out _ ⟨(Know.of (HC1.out.keep0 HB.out)), (Know.of (HC1.out.keep0 H1.out)), (Know.of (HC1.out.keep0 H2.out)), (Know.of (HC1.out.keep0 H3.out)), (Know.of (HC1.out.keep0 HM.out))⟩) (fun hS1 => ?_)
 clear hK K
 try simp only [Act.put, List.setIfInBounds_toArray, List.set_cons_zero, List.set_cons_succ]
 refine rgT 10 hS1 ?_
 refine rgT 11 hS1 ?_
 refine rgL 12 hS1 HSO1 ?_
 refine rgL 13 hS1 HSO1 ?_
 refine rgT 14 hS1 ?_
 refine rgT 15 hS1 ?_
 refine rgT 16 hS1 ?_
 refine rgT 17 hS1 ?_
 refine rgL 18 hS1 HSO1 ?_
 refine rgT 19 hS1 ?_
 refine rgL 20 hS1 HSO1 ?_
 refine rgL 21 hS1 HSO1 ?_
 refine rg_call 22 rfl (by kernel_rfl) (fun K hK => ?_)
 go_simp
 go_at_call 182
 refine (isDone_any a l c xs f x.seq g _ (recL.sl_ext HS.out HC1.out)).mono ?_; rintro e w6 ⟨rfl, hc2⟩; have HC2 := hid (HC1.out.trans0 hc2); clear hc2
 rw [HDN.out]
 go_wp2_with fail
 refine hK.out _ _ (HSI1.out _ ⟨(Know.of (HC2.out.keep0 HB.out)), (Know.of (HC2.out.keep0 H1.out)), (Know.of (HC2.out.keep0 H2.out)), (Know.of (HC2.out.keep0 H3.out)), (Know.of (HC2.out.keep0 HM.out))⟩) (fun hS2 => ?_)
 clear hK K
 try simp only [Act.put, List.setIfInBounds_toArray, List.set_cons_zero, List.set_cons_succ]
 refine rgT 23 hS2 ?_
 refine rgT 24 hS2 ?_
 refine wpAnyH_done (by kernel_rfl) ?_ _
 go_wp2_with fail
 go_ret
 exact ⟨by rw [HR.out]; simp, G0.out.trans0 HC2.out⟩
set_option maxRecDepth 100000 in
set_option maxHeartbeats 4000000 in
theorem und1_d (s : Shp) (hok : s.ok) (x : Rec) (xs : List Rec) (g : Int) (B1 B2 B3 m : Nat) {u9 u10 u12 u13 u14 : Value} {a a6 a7 a8 a12 : Option Addr} {l c l12 c12 l6 c6 l7 c7 l8 c8 : Nat} (f : List Nat) (w : World)
  (h1 : w.heap[B1]? = some (.cells #[.pointer (some ⟨m, 0, none⟩)] 97 (0, 0))) (h2 : w.heap[B2]? = some (.cells #[.int .i64 g] 2 (0, 0))) (h3 : w.heap[B3]? = some (.cells #[.slice a l c] 44 (0, 0))) (hm : w.heap[m]? = some (.cells #[.int .i64 s.groups, .int .i64 s.column, .int .i64 s.data, .int .i64 s.spare, .int .i64 s.rows, .int .i64 s.cap, .int .i64 s.batch, .int .i64 s.queue, .int .i64 s.stage, u9, u10, .slice a12 l12 c12, u12, u13, u14] 34 (0, 0))) (hs : recL.sl w a l c xs f) (_hg : 0 ≤ g) (hk : x.kind = 2) (hgs : s.groups ≤ g) :
  Calls Tryz.prog 181 #[.agg #[.int .i64 x.kind, .int .i64 x.seq, .string x.name, .int .i64 x.length, .int .i64 x.group, .int .i64 x.row, .slice a6 l6 c6, .slice a7 l7 c7, .slice a8 l8 c8], .pointer (some ⟨B1, 0, none⟩), .pointer (some ⟨B2, 0, none⟩), .pointer (some ⟨B3, 0, none⟩)] w fun e w' => e = .returned (.bool (!undP s.groups g xs x)) ∧ Chg [] w w' := by
 have g0 : Chg [] w (w.alloc (.cells #[.int .i64 x.kind, .int .i64 x.seq, .string x.name, .int .i64 x.length, .int .i64 x.group, .int .i64 x.row, .slice a6 l6 c6, .slice a7 l7 c7, .slice a8 l8 c8] 67)).drew := ((Chg.refl [] w).alloc _).drew
 have H1 := hid (g0.keep0 h1); have H2 := hid (g0.keep0 h2); have H3 := hid (g0.keep0 h3); have HM := hid (g0.keep0 hm)
 have HB := hid (keep_drew (new_alloc w (.cells #[.int .i64 x.kind, .int .i64 x.seq, .string x.name, .int .i64 x.length, .int .i64 x.group, .int .i64 x.row, .slice a6 l6 c6, .slice a7 l7 c7, .slice a8 l8 c8] 67)))
 have HS := hid (recL.sl_ext hs g0); have G0 := hid g0
 clear g0 h1 h2 h3 hm hs
 have hbk : (x.kind != 2) = false := by simp [hk]
 obtain ⟨d, hd⟩ : ∃ d, d = donB xs x.seq g := ⟨_, rfl⟩
 have HDN := hid hd.symm; clear hd
 have HR := hid (show undP s.groups g xs x = !d by unfold undP; rw [pb_true ⟨hk, .inl hgs⟩, HDN.out]; rfl)
 have HI := hid (show inB g 0 (s.groups - 1) = false by unfold inB; simp; omega)
 clear hk hgs
 go_enter Tryz.func181, Tryz.ntmps181
 go_wp2_with fail
 obtain ⟨SS1, HSI1, HSO1⟩ := rg_cond (fun w' => Know w.heap.size #[.int .i64 x.kind, .int .i64 x.seq, .string x.name, .int .i64 x.length, .int .i64 x.group, .int .i64 x.row, .slice a6 l6 c6, .slice a7 l7 c7, .slice a8 l8 c8] w' ∧ Know B1 #[.pointer (some ⟨m, 0, none⟩)] w' ∧ Know B2 #[.int .i64 g] w' ∧ Know B3 #[.slice a l c] w' ∧ Know m #[.int .i64 s.groups, .int .i64 s.column, .int .i64 s.data, .int .i64 s.spare, .int .i64 s.rows, .int .i64 s.cap, .int .i64 s.batch, .int .i64 s.queue, .int .i64 s.stage, u9, u10, .slice a12 l12 c12, u12, u13, u14] w')
 have hS0 := HSI1.out _ ⟨(Know.of HB.out), (Know.of H1.out), (Know.of H2.out), (Know.of H3.out), (Know.of HM.out)⟩
 refine rg_start SS1 (by kernel_rfl) hS0 ?_
 refine rgT 0 hS0 ?_
 refine rgL 1 hS0 HSO1 ?_
 refine rgT 2 hS0 ?_
 refine rgT 3 hS0 ?_
 refine rgL 4 hS0 HSO1 ?_
 refine rgT 5 hS0 ?_
 refine rgT 6 hS0 ?_
 refine rgL 7 hS0 HSO1 ?_
 refine rgL 8 hS0 HSO1 ?_
 refine rg_call 9 rfl (by kernel_rfl) (fun K hK => ?_)
 go_simp
 go_at_call 111
 refine (isDataM_any s hok g _).mono ?_; rintro e w5 ⟨rfl, hc2⟩; have HC1 := hid hc2; clear hc2
 rw [HI.out]
 go_wp2_with fail
 refine hK.out _ _ (HSI1.out _ ⟨(Know.of (HC1.out.keep0 HB.out)), (Know.of (HC1.out.keep0 H1.out)), (Know.of (HC1.out.keep0 H2.out)), (Know.of (HC1.out.keep0 H3.out)), (Know.of (HC1.out.keep0 HM.out))⟩) (fun hS1 => ?_)
 clear hK K
 try simp only [Act.put, List.setIfInBounds_toArray, List.set_cons_zero, List.set_cons_succ]
 refine rgT 10 hS1 ?_
 refine rgS 11 hS1 ?_
 refine rgS 12 hS1 ?_
 refine rgS 13 hS1 ?_
 refine rgS 14 hS1 ?_
 refine rgT 15 hS1 ?_
 refine rgT 16 hS1 ?_
 refine rgT 17 hS1 ?_
 refine rgL 18 hS1 HSO1 ?_
 refine rgT 19 hS1 ?_
 refine rgL 20 hS1 HSO1 ?_
 refine rgL 21 hS1 HSO1 ?_
 refine rg_call 22 rfl (by kernel_rfl) (fun K hK => ?_)
 go_simp
 go_at_call 182
 refine (isDone_any a l c xs f x.seq g _ (recL.sl_ext HS.out HC1.out)).mono ?_; rintro e w6 ⟨rfl, hc2⟩; have HC2 := hid (HC1.out.trans0 hc2); clear hc2
 rw [HDN.out]
 go_wp2_with fail
 refine hK.out _ _ (HSI1.out _ ⟨(Know.of (HC2.out.keep0 HB.out)), (Know.of (HC2.out.keep0 H1.out)), (Know.of (HC2.out.keep0 H2.out)), (Know.of (HC2.out.keep0 H3.out)), (Know.of (HC2.out.keep0 HM.out))⟩) (fun hS2 => ?_)
 clear hK K
 try simp only [Act.put, List.setIfInBounds_toArray, List.set_cons_zero, List.set_cons_succ]
 refine rgT 23 hS2 ?_
 refine rgT 24 hS2 ?_
 refine wpAnyH_done (by kernel_rfl) ?_ _
 go_wp2_with fail
 go_ret
 exact ⟨by rw [HR.out]; simp, G0.out.trans0 HC2.out⟩
set_option maxRecDepth 100000 in
set_option maxHeartbeats 4000000 in
theorem und1_any (s : Shp) (hok : s.ok) (x : Rec) (xs : List Rec) (g : Int) (B1 B2 B3 m : Nat) {u9 u10 u12 u13 u14 : Value} {a a6 a7 a8 a12 : Option Addr} {l c l12 c12 l6 c6 l7 c7 l8 c8 : Nat} (f : List Nat) (w : World)
  (h1 : w.heap[B1]? = some (.cells #[.pointer (some ⟨m, 0, none⟩)] 97 (0, 0))) (h2 : w.heap[B2]? = some (.cells #[.int .i64 g] 2 (0, 0))) (h3 : w.heap[B3]? = some (.cells #[.slice a l c] 44 (0, 0))) (hm : w.heap[m]? = some (.cells #[.int .i64 s.groups, .int .i64 s.column, .int .i64 s.data, .int .i64 s.spare, .int .i64 s.rows, .int .i64 s.cap, .int .i64 s.batch, .int .i64 s.queue, .int .i64 s.stage, u9, u10, .slice a12 l12 c12, u12, u13, u14] 34 (0, 0))) (hs : recL.sl w a l c xs f) (hg : 0 ≤ g) :
  Calls Tryz.prog 181 #[.agg #[.int .i64 x.kind, .int .i64 x.seq, .string x.name, .int .i64 x.length, .int .i64 x.group, .int .i64 x.row, .slice a6 l6 c6, .slice a7 l7 c7, .slice a8 l8 c8], .pointer (some ⟨B1, 0, none⟩), .pointer (some ⟨B2, 0, none⟩), .pointer (some ⟨B3, 0, none⟩)] w fun e w' => e = .returned (.bool (!undP s.groups g xs x)) ∧ Chg [] w w' := by
 by_cases hk : x.kind = 2
 ·by_cases hgs : g < s.groups
  ·by_cases hxg : x.group = g
   ·exact und1_c s hok x xs g B1 B2 B3 m f w h1 h2 h3 hm hs hg hk hgs hxg
   ·exact und1_b s hok x xs g B1 B2 B3 m f w h1 h2 h3 hm hs hg hk hgs hxg
  ·exact und1_d s hok x xs g B1 B2 B3 m f w h1 h2 h3 hm hs hg hk (by omega)
 ·exact und1_a s hok x xs g B1 B2 B3 m f w h1 h2 h3 hm hs hg hk
theorem cf_und1 : ∀ (args : Array Value) (w : World), (callFunc 181 args).run Tryz.prog w = .ok (.enter 181 args) w := fun _ _ => by go_simp
set_option maxRecDepth 100000 in
set_option maxHeartbeats 2000000 in
theorem undone_any (m : Nat) (s : Shp) (hok : s.ok) {u9 u10 u12 u13 u14 : Value} (a12 : Option Addr) (l12 c12 : Nat) (f12 : List Nat) (ts : List Tap) (g : Int) (w : World) (h : w.heap[m]? = some (.cells #[.int .i64 s.groups, .int .i64 s.column, .int .i64 s.data, .int .i64 s.spare, .int .i64 s.rows, .int .i64 s.cap, .int .i64 s.batch, .int .i64 s.queue, .int .i64 s.stage, u9, u10, .slice a12 l12 c12, u12, u13, u14] 34 (0, 0))) (h12 : tapL.sl w a12 l12 c12 ts f12) (hz : (ts.flatMap (·.recs)).length ≤ 400) (hg : 0 ≤ g) :
  Calls Tryz.prog 103 #[.pointer (some ⟨m, 0, none⟩), .int .i64 g] w (SlR (undL s.groups g (cntL ts)) w) := by
 obtain ⟨W, hW⟩ : ∃ W, W = (w.alloc (.cells #[.pointer (some ⟨m, 0, none⟩)] 97)).alloc (.cells #[.int .i64 g] 2) := ⟨_, rfl⟩
 have g0 : Chg [] w W := by rw [hW]; exact ((Chg.refl [] w).alloc _).alloc _
 have hb1 : W.heap[w.heap.size]? = some (.cells #[.pointer (some ⟨m, 0, none⟩)] 97 (0, 0)) := by rw [hW]; exact keep_alloc (new_alloc w _) _
 have hb2 : W.heap[w.heap.size + 1]? = some (.cells #[.int .i64 g] 2 (0, 0)) := by rw [hW]; exact new_at (by simp) _
 have HN := hid (counted_any m a12 l12 c12 f12 ts W (g0.keep0 h) (tapL.sl_ext h12 g0) (by omega))
 have HL := hid (Nat.le_trans (cntL_len ts) hz)
 have G0 := hid g0; have HB1 := hid hb1; have HB2 := hid hb2; have HM := hid (g0.keep0 h)
 have c1' := cellsOf hb1; have n1' := ltOf hb1
 clear h h12 hz hb1 hb2 g0
 go_enter Tryz.func103, Tryz.ntmps103
 go_wp2_with fail
 rw [← hW]
 clear hW
 go_wp2_with fail
 refine HN.out.mono ?_
 rintro e w1 ⟨g0, n, cap, qs, rfl, hrow, hqm, hn, hg0, hnc, hcm, hfp, hc⟩
 have hsl := hrow.sl hn hnc hcm
 rw [hqm] at hsl
 have hln : n ≤ 400 := by have h1 := HL.out; rw [← hqm, List.length_map] at h1; omega
 obtain ⟨W3, hW3⟩ : ∃ W3, W3 = w1.alloc (.cells #[.slice (some ⟨g0, 0, none⟩) n cap] 44) := ⟨_, rfl⟩
 have g3 : Chg [] w1 W3 := by rw [hW3]; exact (Chg.refl [] w1).alloc _
 have hb3 : W3.heap[w1.heap.size]? = some (.cells #[.slice (some ⟨g0, 0, none⟩) n cap] 44 (0, 0)) := by rw [hW3]; exact new_alloc w1 _
 have c3' := cellsOf hb3; have n3' := ltOf hb3
 have HC3 := hid (hc.trans0 g3); have HB3 := hid hb3; have HSL := hid (recL.sl_ext hsl g3)
 have HCL := hid (cloneRow_any ⟨g0, 0, none⟩ n cap (cntL ts) _ W3 (recL.sl_ext hsl g3) (by omega))
 clear hrow hqm hn hg0 hnc hcm hfp hc hsl g3 hb3 HN HL hln
 go_wp2_with fail
 rw [← hW3]
 clear hW3
 go_wp2_with fail
 refine HCL.out.mono ?_
 rintro e w4 ⟨v, rfl, ⟨g2, cap2, ps, rfl, hrow2, hpm, hg2, hn2, hcm2, hfp2⟩, hc4⟩
 have hpl : (cntL ts).length = ps.length := by rw [← hpm, List.length_map]
 have HC4 := hid (HC3.out.trans0 hc4); have HG2 := hid (show W.heap.size ≤ g2 from Nat.le_trans HC3.out.size hg2)
 have HK := hid (show ∀ w5, Chg [] W3 w5 → ∀ (x : Rec) (a6 : Option Addr) (l6 c6 : Nat) (a7 : Option Addr) (l7 c7 : Nat) (a8 : Option Addr) (l8 c8 : Nat), Calls Tryz.prog 181 #[.agg #[.int .i64 x.kind, .int .i64 x.seq, .string x.name, .int .i64 x.length, .int .i64 x.group, .int .i64 x.row, .slice a6 l6 c6, .slice a7 l7 c7, .slice a8 l8 c8], .pointer (some ⟨w.heap.size, 0, none⟩), .pointer (some ⟨w.heap.size + 1, 0, none⟩), .pointer (some ⟨w1.heap.size, 0, none⟩)] w5 fun e w' => e = .returned (.bool (!undP s.groups g (cntL ts) x)) ∧ Chg [] w5 w' from
  fun w5 hc x a6 l6 c6 a7 l7 c7 a8 l8 c8 => und1_any s hok x (cntL ts) g _ _ _ m _ w5 ((HC3.out.trans0 hc).keep0 HB1.out) ((HC3.out.trans0 hc).keep0 HB2.out) (hc.keep0 HB3.out) ((HC3.out.trans0 hc).keep0 HM.out) (recL.sl_ext HSL.out hc) hg)
 have HD := hid (delR_any 181 #[.pointer (some ⟨w.heap.size, 0, none⟩), .pointer (some ⟨w.heap.size + 1, 0, none⟩), .pointer (some ⟨w1.heap.size, 0, none⟩)] (fun r => !undP s.groups g (cntL ts) r) g2 0 (cntL ts).length cap2 ps w4 hrow2 hpl hn2 hcm2 cf_und1 (fun w5 hc5 x a6 l6 c6 a7 l7 c7 a8 l8 c8 fx w6 _ hc6 _ => HK.out w6 ((hc4.trans hc5 (fun y hy => .inr (by rw [List.mem_singleton] at hy; omega))).trans0 hc6) x a6 l6 c6 a7 l7 c7 a8 l8 c8))
 have HF := hid (And.intro hpm (And.intro (by rw [← hpl]; exact hn2 : ps.length ≤ cap2) (And.intro hcm2 hfp2)))
 have HG3 := hid hg2
 obtain ⟨lx, hlx⟩ : ∃ lx, lx = (cntL ts).length := ⟨_, rfl⟩
 rw [← hlx] at HD ⊢
 clear hrow2 hpm hg2 hn2 hcm2 hfp2 hc4 HK HCL hpl hlx
 go_wp2_with fail
 refine HD.out.mono ?_
 rintro e w5 hD
 obtain ⟨v, rfl, hr, hc⟩ := del_rwd (q := fun r => !undP s.groups g (cntL ts) r) hD HF.out.1 (n0 := W3.heap.size) HG3.out HF.out.2.1 HF.out.2.2.1 HF.out.2.2.2
 have e1 : (cntL ts).filter (fun r => !!undP s.groups g (cntL ts) r) = undL s.groups g (cntL ts) := by unfold undL; congr 1; funext r; simp
 rw [e1] at hr
 have HR := hid (And.intro hr (G0.out.trans (HC4.out.trans hc (fun y hy => .inr (by have := HG2.out; rw [List.mem_singleton] at hy; omega))) (by simp)))
 clear hD hr hc e1
 go_wp2_with fail
 go_ret
 exact SlR.of rfl HR.out.1 HR.out.2
end Go.Proofs.YtphmpimgbmedbaaGreat
/- What is done, and what is still to be done: the specification. -/
namespace Go.Proofs.YtphmpimgbmedbaaGreat
open Go.RowKit
open Go.Lib (hid)
set_option maxRecDepth 100000 in
set_option maxHeartbeats 4000000 in
theorem l6Done_any (a : Option Addr) (l c : Nat) (xs : List Rec) (f : List Nat) (s g : Int) (w : World) (ha : recL.sl w a l c xs f) :
  Calls Tryz.prog 178 #[.slice a l c, .int .i64 s, .int .i64 g] w fun e w' => e = .returned (.bool (donB xs s g)) ∧ w = w' := by
 have hla := recL.sl_max ha
 have HA := hid ha; have HL := hid ha.1
 clear ha
 go_enter Tryz.func178, Tryz.ntmps178
 go_wp2_with fail
 go_loopw [7] (fun vi wr => ∃ (k : Nat) (Wr : World), Wr = wr ∧ k ≤ l ∧ vi = .int .i64 k ∧ Hid (∀ x ∈ xs.take k, pb (x.kind = 3 ∧ x.seq = s ∧ x.group = g) = false) ∧ Hid (w = wr)) (fun vi _ => l - (intOf vi).toNat)
 case atStart => exact ⟨0, _, rfl, by omega, rfl, hid (show ∀ x ∈ xs.take 0, pb (x.kind = 3 ∧ x.seq = s ∧ x.group = g) = false from fun x hx => by simp at hx), hid rfl⟩
 case round =>
  obtain ⟨k, wr, rfl, hk, rfl, HK, HW⟩ := hrel
  by_cases hlt : k < l
  ·obtain ⟨r, b2, off2, a6, l6, c6, a7, l7, c7, a8, l8, c8, fq, HR, rfl, hq0, hq1, hq2, hq3, hq4, hq5, hq6, hq7, hq8, HXS⟩ := rec_at (show recL.sl wr a l c xs f from HW.out ▸ HA.out) hlt
   have HR0 := hid HR.out.1
   clear HR HXS
   by_cases h3 : r.kind = 3
   ·have hb3 : (r.kind == 3) = true := by simp [h3]
    by_cases h4 : r.seq = s
    ·have hb4 : (r.seq == s) = true := by simp [h4]
     by_cases h5 : r.group = g
     ·have hb5 : (r.group == g) = true := by simp [h5]
      have HR := hid (show donB xs s g = true from List.any_eq_true.2 ⟨r, List.mem_of_getElem? HR0.out, pb_true ⟨h3, h4, h5⟩⟩)
      clear h3 h4 h5
      go_wp2_with fail
      go_ret
      exact ⟨by rw [HR.out]; rfl, HW.out⟩
     ·have hb5 : (r.group == g) = false := by simp [h5]
      have HK2 := hid (show ∀ x ∈ xs.take (k + 1), pb (x.kind = 3 ∧ x.seq = s ∧ x.group = g) = false from fun x hx => by
       rw [take_next HR0.out] at hx
       rcases List.mem_append.1 hx with hx | hx
       ·exact HK.out x hx
       ·rw [List.mem_singleton] at hx; rw [hx]; exact pb_false (fun h => h5 h.2.2))
      clear h3 h4 h5
      go_wp2_with fail
      go_roundw
      case rel => exact ⟨k + 1, _, rfl, by omega, by go_num, HK2, HW⟩
      case measure => simp [intOf]; omega
    ·have hb4 : (r.seq == s) = false := by simp [h4]
     have HK2 := hid (show ∀ x ∈ xs.take (k + 1), pb (x.kind = 3 ∧ x.seq = s ∧ x.group = g) = false from fun x hx => by
      rw [take_next HR0.out] at hx
      rcases List.mem_append.1 hx with hx | hx
      ·exact HK.out x hx
      ·rw [List.mem_singleton] at hx; rw [hx]; exact pb_false (fun h => h4 h.2.1))
     clear h3 h4
     go_wp2_with fail
     go_roundw
     case rel => exact ⟨k + 1, _, rfl, by omega, by go_num, HK2, HW⟩
     case measure => simp [intOf]; omega
   ·have hb3 : (r.kind == 3) = false := by simp [h3]
    have HK2 := hid (show ∀ x ∈ xs.take (k + 1), pb (x.kind = 3 ∧ x.seq = s ∧ x.group = g) = false from fun x hx => by
     rw [take_next HR0.out] at hx
     rcases List.mem_append.1 hx with hx | hx
     ·exact HK.out x hx
     ·rw [List.mem_singleton] at hx; rw [hx]; exact pb_false (fun h => h3 h.1))
    clear h3
    go_wp2_with fail
    go_roundw
    case rel => exact ⟨k + 1, _, rfl, by omega, by go_num, HK2, HW⟩
    case measure => simp [intOf]; omega
  ·have HR := hid (show donB xs s g = false from List.any_eq_false.2 (fun x hx => by
    rw [HK.out x (by rw [List.take_of_length_le (by have := HL.out; omega)]; exact hx)]; simp))
   go_wp2_with fail
   go_ret
   exact ⟨by rw [HR.out]; rfl, HW.out⟩
set_option maxRecDepth 100000 in
set_option maxHeartbeats 8000000 in
theorem l6Undone_any (s : Shp) (a : Option Addr) (l c : Nat) (xs : List Rec) (f : List Nat) (g : Int) (w : World) (ha : recL.sl w a l c xs f) (hl : xs.length ≤ 400) :
  Calls Tryz.prog 101 #[.agg #[.int .i64 s.groups, .int .i64 s.column, .int .i64 s.data, .int .i64 s.spare, .int .i64 s.rows, .int .i64 s.cap, .int .i64 s.batch, .int .i64 s.queue, .int .i64 s.stage], .slice a l c, .int .i64 g] w (SlR (undL s.groups g xs) w) := by
 obtain ⟨KR, _⟩ := kindRec
 have HBS := hid (new_alloc w (.cells #[.int .i64 s.groups, .int .i64 s.column, .int .i64 s.data, .int .i64 s.spare, .int .i64 s.rows, .int .i64 s.cap, .int .i64 s.batch, .int .i64 s.queue, .int .i64 s.stage] 30))
 have g0 : Chg [] w (w.alloc (.cells #[.int .i64 s.groups, .int .i64 s.column, .int .i64 s.data, .int .i64 s.spare, .int .i64 s.rows, .int .i64 s.cap, .int .i64 s.batch, .int .i64 s.queue, .int .i64 s.stage] 30)) := (Chg.refl [] w).alloc _
 have HSH0 := hid (ShF.made2 (n0 := (w.alloc (.cells #[.int .i64 s.groups, .int .i64 s.column, .int .i64 s.data, .int .i64 s.spare, .int .i64 s.rows, .int .i64 s.cap, .int .i64 s.batch, .int .i64 s.queue, .int .i64 s.stage] 30)).heap.size) (n := w.heap.size + 1) (f := f) (w := (w.alloc (.cells #[.int .i64 s.groups, .int .i64 s.column, .int .i64 s.data, .int .i64 s.spare, .int .i64 s.rows, .int .i64 s.cap, .int .i64 s.batch, .int .i64 s.queue, .int .i64 s.stage] 30))) (by simp) (by simp) (fun hm => by have := recL.sl_lt ha _ hm; omega))
 have HS0 := hid (recL.sl_ext ha (g0.alloc (.cells #[] 67))); have G0 := hid g0
 have hll : l ≤ 400 := by have := ha.1; omega
 have HL := hid ha.1
 clear ha g0 hl
 go_enter Tryz.func101, Tryz.ntmps101
 go_wp2_with fail
 go_loopw [7, 8] (fun vo vi wr => ∃ (k : Nat) (Wr : World), Wr = wr ∧ k ≤ l ∧ vi = .int .i64 k ∧ ShF (w.alloc (.cells #[.int .i64 s.groups, .int .i64 s.column, .int .i64 s.data, .int .i64 s.spare, .int .i64 s.rows, .int .i64 s.cap, .int .i64 s.batch, .int .i64 s.queue, .int .i64 s.stage] 30)).heap.size f wr vo ((xs.take k).filter (undP s.groups g xs)) ∧ recL.sl wr a l c xs f ∧ Chg [] (w.alloc (.cells #[.int .i64 s.groups, .int .i64 s.column, .int .i64 s.data, .int .i64 s.spare, .int .i64 s.rows, .int .i64 s.cap, .int .i64 s.batch, .int .i64 s.queue, .int .i64 s.stage] 30)) wr) (fun _ vi _ => l - (intOf vi).toNat)
 case atStart => exact ⟨0, _, rfl, by omega, rfl, HSH0.out, HS0.out, (Chg.refl [] _).alloc _⟩
 case round =>
  obtain ⟨k, wr, rfl, hk, rfl, hsh, hs, hc⟩ := hrel
  have hbs := hc.keep0 HBS.out
  have cS := cellsOf hbs; have nS := ltOf hbs
  clear hbs
  by_cases hlt : k < l
  ·obtain ⟨r, b2, off2, cy, fq, HR, rfl, HCE, HXS⟩ := rec_at2 hs hlt
   obtain ⟨a6, l6, c6, f6, a7, l7, c7, f7, a8, l8, c8, f8, hcy, -⟩ := recL_iff.1 HXS.out
   subst hcy
   obtain ⟨g0, fps, ho, hg, hgf, hfp⟩ := hsh
   obtain ⟨a9, c9, rfl⟩ := recL.os_len ho
   have HXL := hid (show xs[k]? = some r from HR.out.1)
   have HG := hid hg; have HGF := hid hgf; have HFP := hid hfp
   have HFQ := hid (fun y (hy : y ∈ fq) => HR.out.2.2 y hy)
   have HGQ := hid (show ∀ g', some g0 = some g' → g' ∉ fq from fun g' e hm => by cases e; exact hgf (HR.out.2.2 g0 hm))
   have hlen : ((xs.take k).filter (undP s.groups g xs)).length ≤ 1000000 := by
    have h1 := List.length_filter_le (undP s.groups g xs) (xs.take k)
    rw [List.length_take] at h1; omega
   obtain ⟨ys, hys⟩ : ∃ ys, ys = (xs.take k).filter (undP s.groups g xs) := ⟨_, rfl⟩
   rw [← hys] at ho hlen ⊢
   have HYS := hid hys
   obtain ⟨lx, hlx⟩ : ∃ lx, lx = ys.length := ⟨_, rfl⟩
   have HLL := hid (show ys.length + [r].length ≤ maxLen ∧ (ys.length + [r].length) * 128 ≤ 140737488355328 by simp only [List.length_singleton, maxLen]; omega)
   rw [← hlx] at ho ⊢
   have g1 : Chg [] wr (wr.alloc (.cells #[.int .i64 r.kind, .int .i64 r.seq, .string r.name, .int .i64 r.length, .int .i64 r.group, .int .i64 r.row, .slice a6 l6 c6, .slice a7 l7 c7, .slice a8 l8 c8] 67)) := (Chg.refl [] wr).alloc _
   have HOS := hid (recL.os_ext ho g1); have HSB := hid (recL.sl_ext hs g1); have HXSB := hid (recL.ext HXS.out g1); have HCB := hid (hc.trans0 g1)
   clear HXS
   have HXS := HXSB
   clear hs hc ho hg hgf hfp HR hlen hys hlx g1 HXSB
   by_cases hk2 : r.kind = 2
   ·have hbk : (r.kind == 2) = true := by simp [hk2]
    by_cases hgs : s.groups ≤ g
    ·have hbs : decide (g ≥ s.groups) = true := by simpa using hgs
     cases hdn : donB xs r.seq g
     ·have HDN := hid hdn
      have hun : undP s.groups g xs r = true := by unfold undP; rw [pb_true ⟨hk2, .inl hgs⟩, hdn]; rfl
      have HNX := hid (show (xs.take (k + 1)).filter (undP s.groups g xs) = ys ++ [r] by rw [filt_yes HXL.out hun, HYS.out])
      clear hun hk2 hdn
      go_wp2_with ((refine load_rowL rfl _ 67 rfl rfl infoRc Tryz.underlying67 HCE.out.2.1 HCE.out.1 ?_))
      refine (l6Done_any (some ⟨b2, off2, none⟩) l c xs f r.seq g (wr.alloc (.cells #[.int .i64 r.kind, .int .i64 r.seq, .string r.name, .int .i64 r.length, .int .i64 r.group, .int .i64 r.row, .slice a6 l6 c6, .slice a7 l7 c7, .slice a8 l8 c8] 67)) HSB.out).mono ?_
      rintro e w' ⟨rfl, rfl⟩
      rw [HDN.out]
      go_wp2_with (first | (at_builtin; refine recL.wpList_append rfl _ _ 44 rfl Tryz.underlying44 KR rfl (recL.os_ext HOS.out ((Chg.refl [] (wr.alloc (.cells #[.int .i64 r.kind, .int .i64 r.seq, .string r.name, .int .i64 r.length, .int .i64 r.group, .int .i64 r.row, .slice a6 l6 c6, .slice a7 l7 c7, .slice a8 l8 c8] 67))).alloc (.cells #[.int .i64 r.kind, .int .i64 r.seq, .string r.name, .int .i64 r.length, .int .i64 r.group, .int .i64 r.row, .slice a6 l6 c6, .slice a7 l7 c7, .slice a8 l8 c8] 67))) ⟨wr.heap.size + 1, 0, none⟩ 1 1 [.int .i64 r.kind, .int .i64 r.seq, .string r.name, .int .i64 r.length, .int .i64 r.group, .int .i64 r.row, .slice a6 l6 c6, .slice a7 l7 c7, .slice a8 l8 c8] (ys := [r]) (f := fq) rfl rfl (cells_news (b := wr.heap.size + 1) (new_at (by simp) _)) (recL.all_single (recL.ext HXS.out ((Chg.refl [] (wr.alloc (.cells #[.int .i64 r.kind, .int .i64 r.seq, .string r.name, .int .i64 r.length, .int .i64 r.group, .int .i64 r.row, .slice a6 l6 c6, .slice a7 l7 c7, .slice a8 l8 c8] 67))).alloc _))) HGQ.out HLL.out.1 HLL.out.2 ?_; intro v' w4 h' ho' hh' hc'; have HSH4 := hid (ShF.step HG.out HGF.out HFP.out HFQ.out (recL.sl_ext HSB.out ((Chg.refl [] (wr.alloc (.cells #[.int .i64 r.kind, .int .i64 r.seq, .string r.name, .int .i64 r.length, .int .i64 r.group, .int .i64 r.row, .slice a6 l6 c6, .slice a7 l7 c7, .slice a8 l8 c8] 67))).alloc (.cells #[.int .i64 r.kind, .int .i64 r.seq, .string r.name, .int .i64 r.length, .int .i64 r.group, .int .i64 r.row, .slice a6 l6 c6, .slice a7 l7 c7, .slice a8 l8 c8] 67))) (HCB.out.alloc (.cells #[.int .i64 r.kind, .int .i64 r.seq, .string r.name, .int .i64 r.length, .int .i64 r.group, .int .i64 r.row, .slice a6 l6 c6, .slice a7 l7 c7, .slice a8 l8 c8] 67)) ho' hh' hc'); clear ho' hh' hc') | (refine load_rowL rfl _ 67 rfl rfl infoRc Tryz.underlying67 HCE.out.2.1 HCE.out.1 ?_))
      rw [← HNX.out] at HSH4
      go_roundw
      case rel => exact ⟨k + 1, _, rfl, by omega, by go_num, HSH4.out.1, HSH4.out.2.1, HSH4.out.2.2⟩
      case measure => simp [intOf]; omega
     ·have HDN := hid hdn
      have hun : undP s.groups g xs r = false := by unfold undP; rw [pb_true ⟨hk2, .inl hgs⟩, hdn]; rfl
      have HNX := hid (show (xs.take (k + 1)).filter (undP s.groups g xs) = ys by rw [filt_no HXL.out hun, HYS.out])
      clear hun hk2 hdn
      go_wp2_with ((refine load_rowL rfl _ 67 rfl rfl infoRc Tryz.underlying67 HCE.out.2.1 HCE.out.1 ?_))
      refine (l6Done_any (some ⟨b2, off2, none⟩) l c xs f r.seq g (wr.alloc (.cells #[.int .i64 r.kind, .int .i64 r.seq, .string r.name, .int .i64 r.length, .int .i64 r.group, .int .i64 r.row, .slice a6 l6 c6, .slice a7 l7 c7, .slice a8 l8 c8] 67)) HSB.out).mono ?_
      rintro e w' ⟨rfl, rfl⟩
      rw [HDN.out]
      go_wp2_with ((refine load_rowL rfl _ 67 rfl rfl infoRc Tryz.underlying67 HCE.out.2.1 HCE.out.1 ?_))
      go_roundw
      case rel => exact ⟨k + 1, _, rfl, by omega, by go_num, by rw [HNX.out]; exact ⟨g0, fps, HOS.out, HG.out, HGF.out, HFP.out⟩, HSB.out, HCB.out⟩
      case measure => simp [intOf]; omega
    ·have hbs : decide (g ≥ s.groups) = false := by simpa using hgs
     by_cases hxg : r.group = g
     ·have hbg : (r.group == g) = true := by simp [hxg]
      cases hdn : donB xs r.seq g
      ·have HDN := hid hdn
       have hun : undP s.groups g xs r = true := by unfold undP; rw [pb_true ⟨hk2, .inr hxg⟩, hdn]; rfl
       have HNX := hid (show (xs.take (k + 1)).filter (undP s.groups g xs) = ys ++ [r] by rw [filt_yes HXL.out hun, HYS.out])
       clear hun hk2 hxg hdn
       go_wp2_with ((refine load_rowL rfl _ 67 rfl rfl infoRc Tryz.underlying67 HCE.out.2.1 HCE.out.1 ?_))
       refine (l6Done_any (some ⟨b2, off2, none⟩) l c xs f r.seq g (wr.alloc (.cells #[.int .i64 r.kind, .int .i64 r.seq, .string r.name, .int .i64 r.length, .int .i64 r.group, .int .i64 r.row, .slice a6 l6 c6, .slice a7 l7 c7, .slice a8 l8 c8] 67)) HSB.out).mono ?_
       rintro e w' ⟨rfl, rfl⟩
       rw [HDN.out]
       go_wp2_with (first | (at_builtin; refine recL.wpList_append rfl _ _ 44 rfl Tryz.underlying44 KR rfl (recL.os_ext HOS.out ((Chg.refl [] (wr.alloc (.cells #[.int .i64 r.kind, .int .i64 r.seq, .string r.name, .int .i64 r.length, .int .i64 r.group, .int .i64 r.row, .slice a6 l6 c6, .slice a7 l7 c7, .slice a8 l8 c8] 67))).alloc (.cells #[.int .i64 r.kind, .int .i64 r.seq, .string r.name, .int .i64 r.length, .int .i64 r.group, .int .i64 r.row, .slice a6 l6 c6, .slice a7 l7 c7, .slice a8 l8 c8] 67))) ⟨wr.heap.size + 1, 0, none⟩ 1 1 [.int .i64 r.kind, .int .i64 r.seq, .string r.name, .int .i64 r.length, .int .i64 r.group, .int .i64 r.row, .slice a6 l6 c6, .slice a7 l7 c7, .slice a8 l8 c8] (ys := [r]) (f := fq) rfl rfl (cells_news (b := wr.heap.size + 1) (new_at (by simp) _)) (recL.all_single (recL.ext HXS.out ((Chg.refl [] (wr.alloc (.cells #[.int .i64 r.kind, .int .i64 r.seq, .string r.name, .int .i64 r.length, .int .i64 r.group, .int .i64 r.row, .slice a6 l6 c6, .slice a7 l7 c7, .slice a8 l8 c8] 67))).alloc _))) HGQ.out HLL.out.1 HLL.out.2 ?_; intro v' w4 h' ho' hh' hc'; have HSH4 := hid (ShF.step HG.out HGF.out HFP.out HFQ.out (recL.sl_ext HSB.out ((Chg.refl [] (wr.alloc (.cells #[.int .i64 r.kind, .int .i64 r.seq, .string r.name, .int .i64 r.length, .int .i64 r.group, .int .i64 r.row, .slice a6 l6 c6, .slice a7 l7 c7, .slice a8 l8 c8] 67))).alloc (.cells #[.int .i64 r.kind, .int .i64 r.seq, .string r.name, .int .i64 r.length, .int .i64 r.group, .int .i64 r.row, .slice a6 l6 c6, .slice a7 l7 c7, .slice a8 l8 c8] 67))) (HCB.out.alloc (.cells #[.int .i64 r.kind, .int .i64 r.seq, .string r.name, .int .i64 r.length, .int .i64 r.group, .int .i64 r.row, .slice a6 l6 c6, .slice a7 l7 c7, .slice a8 l8 c8] 67)) ho' hh' hc'); clear ho' hh' hc') | (refine load_rowL rfl _ 67 rfl rfl infoRc Tryz.underlying67 HCE.out.2.1 HCE.out.1 ?_))
       rw [← HNX.out] at HSH4
       go_roundw
       case rel => exact ⟨k + 1, _, rfl, by omega, by go_num, HSH4.out.1, HSH4.out.2.1, HSH4.out.2.2⟩
       case measure => simp [intOf]; omega
      ·have HDN := hid hdn
       have hun : undP s.groups g xs r = false := by unfold undP; rw [pb_true ⟨hk2, .inr hxg⟩, hdn]; rfl
       have HNX := hid (show (xs.take (k + 1)).filter (undP s.groups g xs) = ys by rw [filt_no HXL.out hun, HYS.out])
       clear hun hk2 hxg hdn
       go_wp2_with ((refine load_rowL rfl _ 67 rfl rfl infoRc Tryz.underlying67 HCE.out.2.1 HCE.out.1 ?_))
       refine (l6Done_any (some ⟨b2, off2, none⟩) l c xs f r.seq g (wr.alloc (.cells #[.int .i64 r.kind, .int .i64 r.seq, .string r.name, .int .i64 r.length, .int .i64 r.group, .int .i64 r.row, .slice a6 l6 c6, .slice a7 l7 c7, .slice a8 l8 c8] 67)) HSB.out).mono ?_
       rintro e w' ⟨rfl, rfl⟩
       rw [HDN.out]
       go_wp2_with ((refine load_rowL rfl _ 67 rfl rfl infoRc Tryz.underlying67 HCE.out.2.1 HCE.out.1 ?_))
       go_roundw
       case rel => exact ⟨k + 1, _, rfl, by omega, by go_num, by rw [HNX.out]; exact ⟨g0, fps, HOS.out, HG.out, HGF.out, HFP.out⟩, HSB.out, HCB.out⟩
       case measure => simp [intOf]; omega
     ·have hbg : (r.group == g) = false := by simp [hxg]
      have hun : undP s.groups g xs r = false := by unfold undP; rw [pb_false (fun h => h.2.elim hgs hxg)]; rfl
      have HNX := hid (show (xs.take (k + 1)).filter (undP s.groups g xs) = ys by rw [filt_no HXL.out hun, HYS.out])
      clear hun hk2 hxg
      go_wp2_with ((refine load_rowL rfl _ 67 rfl rfl infoRc Tryz.underlying67 HCE.out.2.1 HCE.out.1 ?_))
      go_roundw
      case rel => exact ⟨k + 1, _, rfl, by omega, by go_num, by rw [HNX.out]; exact ⟨g0, fps, HOS.out, HG.out, HGF.out, HFP.out⟩, HSB.out, HCB.out⟩
      case measure => simp [intOf]; omega
   ·have hbk : (r.kind == 2) = false := by simp [hk2]
    have hun : undP s.groups g xs r = false := by unfold undP; rw [pb_false (fun h => hk2 h.1)]; rfl
    have HNX := hid (show (xs.take (k + 1)).filter (undP s.groups g xs) = ys by rw [filt_no HXL.out hun, HYS.out])
    clear hun hk2
    go_wp2_with ((refine load_rowL rfl _ 67 rfl rfl infoRc Tryz.underlying67 HCE.out.2.1 HCE.out.1 ?_))
    go_roundw
    case rel => exact ⟨k + 1, _, rfl, by omega, by go_num, by rw [HNX.out]; exact ⟨g0, fps, HOS.out, HG.out, HGF.out, HFP.out⟩, HSB.out, HCB.out⟩
    case measure => simp [intOf]; omega
  ·obtain rfl : k = l := by omega
   rw [List.take_of_length_le (by have := HL.out; omega)] at hsh
   have HE := hid (hsh.slr (G0.out.trans0 hc))
   clear hsh hs hc
   go_wp2_with fail
   go_ret
   exact HE.out
end Go.Proofs.YtphmpimgbmedbaaGreat
/- UndoneAt: both sides. -/
namespace Go.Proofs.YtphmpimgbmedbaaGreat
open Go.RowKit
open Go.Lib (hid)
theorem l5AllM_any (s : Shp) (hs : s.ok) (w : World) :
  Calls Tryz.prog 100 #[.agg #[.int .i64 s.groups, .int .i64 s.column, .int .i64 s.data, .int .i64 s.spare, .int .i64 s.rows, .int .i64 s.cap, .int .i64 s.batch, .int .i64 s.queue, .int .i64 s.stage]] w fun e w' => e = .returned (.int .i64 (s.groups + s.column)) ∧ Chg [] w w' := l5All_any s hs w
set_option maxRecDepth 100000 in
set_option maxHeartbeats 8000000 in
theorem impl_UndoneAt (x : Wld) (cx : Array Value) (fx : List Nat) (g : Int) (w : World) (hx : wldL.rep w cx.toList x fx) (hz : totWld x ≤ 1048576) (_og : i64ok g) :
  Calls Tryz.prog 32 #[.agg cx, .int .i64 g] w (NewAgg rrsL (undR x g) w) := by
 obtain ⟨a10, l10, c10, _, a11, l11, c11, f11, a12, l12, c12, _, ex, -, -, -, -, -, -, -, -, -, h10, h11, h12, oo13, oo14, -⟩ := wldL_iff.1 hx
 obtain rfl := Array.toList_inj.1 (ex.trans (List.toList_toArray).symm)
 have HW := hid hx; have HZ := hid hz; have H10 := hid h10; have H11 := hid h11; have H12 := hid h12; have HOO := hid (And.intro oo13 oo14)
 have hl11 : l11 ≤ 1048576 := by have h := h11.1; have q10 := totL_nonneg (totL_nonneg totDrv_nonneg) x.groups; have q12 := totL_nonneg totTap_nonneg x.tapes; unfold totWld totIs at hz; omega
 clear hx ex hz h10 h11 h12 oo13 oo14
 have G0 := hid (show Chg [] w ((w.alloc (.cells #[.int .i64 x.shape.groups, .int .i64 x.shape.column, .int .i64 x.shape.data, .int .i64 x.shape.spare, .int .i64 x.shape.rows, .int .i64 x.shape.cap, .int .i64 x.shape.batch, .int .i64 x.shape.queue, .int .i64 x.shape.stage, .slice a10 l10 c10, .slice a11 l11 c11, .slice a12 l12 c12, .int .i64 x.writes, .int .i64 x.stop, .bool x.down] 34)).alloc (.cells #[.int .i64 0, .slice none 0 0] 46)) from (Chg.alloc (Chg.alloc (Chg.refl [] w) _) _))
 have B0 := hid (show ((w.alloc (.cells #[.int .i64 x.shape.groups, .int .i64 x.shape.column, .int .i64 x.shape.data, .int .i64 x.shape.spare, .int .i64 x.shape.rows, .int .i64 x.shape.cap, .int .i64 x.shape.batch, .int .i64 x.shape.queue, .int .i64 x.shape.stage, .slice a10 l10 c10, .slice a11 l11 c11, .slice a12 l12 c12, .int .i64 x.writes, .int .i64 x.stop, .bool x.down] 34)).alloc (.cells #[.int .i64 0, .slice none 0 0] 46)).heap[w.heap.size]? = some (.cells #[.int .i64 x.shape.groups, .int .i64 x.shape.column, .int .i64 x.shape.data, .int .i64 x.shape.spare, .int .i64 x.shape.rows, .int .i64 x.shape.cap, .int .i64 x.shape.batch, .int .i64 x.shape.queue, .int .i64 x.shape.stage, .slice a10 l10 c10, .slice a11 l11 c11, .slice a12 l12 c12, .int .i64 x.writes, .int .i64 x.stop, .bool x.down] 34 (0, 0)) from keep_alloc (new_alloc w _) _)
 have B1 := hid (show ((w.alloc (.cells #[.int .i64 x.shape.groups, .int .i64 x.shape.column, .int .i64 x.shape.data, .int .i64 x.shape.spare, .int .i64 x.shape.rows, .int .i64 x.shape.cap, .int .i64 x.shape.batch, .int .i64 x.shape.queue, .int .i64 x.shape.stage, .slice a10 l10 c10, .slice a11 l11 c11, .slice a12 l12 c12, .int .i64 x.writes, .int .i64 x.stop, .bool x.down] 34)).alloc (.cells #[.int .i64 0, .slice none 0 0] 46)).heap[w.heap.size + 1]? = some (.cells #[.int .i64 0, .slice none 0 0] 46 (0, 0)) from new_at (by simp) _)
 go_enter Tryz.func32, Tryz.ntmps32
 obtain ⟨q, hq⟩ : ∃ q, q = x.fault := ⟨_, rfl⟩
 have HQ := hid hq; clear hq
 go_wp2_with (first | (refine load_wide rfl _ 34 rfl rfl infoWd Tryz.underlying34 B0.out rfl ?_))
 refine (impl_WorldFault x #[.int .i64 x.shape.groups, .int .i64 x.shape.column, .int .i64 x.shape.data, .int .i64 x.shape.spare, .int .i64 x.shape.rows, .int .i64 x.shape.cap, .int .i64 x.shape.batch, .int .i64 x.shape.queue, .int .i64 x.shape.stage, .slice a10 l10 c10, .slice a11 l11 c11, .slice a12 l12 c12, .int .i64 x.writes, .int .i64 x.stop, .bool x.down] fx _ (wldL.ext HW.out G0.out)).mono ?_
 rintro e w1 ⟨rfl, hc⟩
 rw [← HQ.out]
 obtain ⟨c0, n0, A0_1⟩ := bk hc B0.out (by simp)
 obtain ⟨c1, n1, A1_1⟩ := bk hc B1.out (by simp)
 have G1 := hid (G0.out.trans0 hc)
 have fz := freeOf A1_1.out
 clear hc
 have hqk : i64ok q := by rw [HQ.out]; exact fault_i64 x
 by_cases hq0 : q = 0
 ·subst hq0
  have hf0 : x.fault = 0 := HQ.out.symm
  have hok := fault_ok0 hf0; have hak := hok.all; have hg4 := hok.groups
  simp only [Shp.all] at hak
  by_cases hin : 0 ≤ g ∧ g ≤ x.shape.groups + x.shape.column - 1
  ·have HI := hid (show inB g 0 (x.shape.groups + x.shape.column - 1) = true by simp [inB, hin.1, hin.2])
   go_wp2_with (first | (refine load_wide rfl _ 34 rfl rfl infoWd Tryz.underlying34 A0_1.out rfl ?_))
   refine (isGrpM_any x.shape hok g _).mono ?_
   rintro e w2 ⟨rfl, hc⟩
   rw [HI.out]
   clear c0 n0
   obtain ⟨c0, n0, A0_2⟩ := bk hc A0_1.out (by simp)
   clear c1 n1
   obtain ⟨c1, n1, A1_2⟩ := bk hc A1_1.out (by simp)
   have G2 := hid (G1.out.trans0 hc)
   clear fz; have fz := freeOf A1_2.out
   clear hc
   have HR := hid (undR_ok hf0 hin)
   have HN := hid (undone_any w.heap.size x.shape hok a12 l12 c12 _ x.tapes g w2 A0_2.out (tapL.sl_ext H12.out G2.out) (by have := fault_flat hf0; omega) hin.1)
   go_wp2_with (first | (refine load_wide rfl _ 34 rfl rfl infoWd Tryz.underlying34 A0_2.out rfl ?_))
   refine (HN.out).mono ?_
   rintro e w3 ⟨a, l, c, f, rfl, hs, hc⟩
   have HS0 := hid hs; clear hs
   clear c0 n0
   obtain ⟨c0, n0, A0_3⟩ := bk hc A0_2.out (by simp)
   clear c1 n1
   obtain ⟨c1, n1, A1_3⟩ := bk hc A1_2.out (by simp)
   have G3 := hid (G2.out.trans0 hc)
   clear fz; have fz := freeOf A1_3.out
   clear hc
   have nR0 := n1
   go_wp2_with (first | (refine load_wide rfl _ 34 rfl rfl infoWd Tryz.underlying34 A0_3.out rfl ?_))
   refine (cloneRecs_any a l c _ f w3 HS0.out (totF _ x HZ.out)).mono ?_
   rintro e w4 ⟨pa, pc, pf, rfl, hs, hf, hc⟩
   have HS := hid hs; have HFR := hid (hf.mono (C := w.heap.size) G3.out.size)
   have HLO := hid (fun y hy => (hf.2 y hy).1)
   clear hs hf
   clear c0 n0
   obtain ⟨c0, n0, A0_4⟩ := bk hc A0_3.out (by simp)
   clear c1 n1
   obtain ⟨c1, n1, A1_4⟩ := bk hc A1_3.out (by simp)
   have G4 := hid (G3.out.trans0 hc)
   clear fz; have fz := freeOf A1_4.out
   clear hc
   have HNF := hid (fun hy => absurd (HLO.out _ hy) (by omega) : w.heap.size + 1 ∉ pf)
   go_wp2_with (first | (refine store_wide rfl _ _ 46 rfl rfl rfl infoRR A1_4.out rfl rfl rfl ?_; intro w9 hb9 hc9; have HB9 := hid hb9; have HC9 := hid hc9; clear hb9 hc9))
   refine bodyPost_ret (v := .agg #[.int .i64 0, .slice pa (undL x.shape.groups g (cntL x.tapes)).length pc]) (results_wide _ _ Tryz.results32 rfl infoRR Tryz.underlying46 HB9.out rfl) rfl (finR9 (undR x g) (HR.out) HS.out HFR.out G4.out HC9.out HNF.out (by omega))
  ·have HI := hid (show inB g 0 (x.shape.groups + x.shape.column - 1) = false by unfold inB; simp; omega)
   go_wp2_with (first | (refine load_wide rfl _ 34 rfl rfl infoWd Tryz.underlying34 A0_1.out rfl ?_))
   refine (isGrpM_any x.shape hok g _).mono ?_
   rintro e w2 ⟨rfl, hc⟩
   rw [HI.out]
   clear c0 n0
   obtain ⟨c0, n0, A0_2⟩ := bk hc A0_1.out (by simp)
   clear c1 n1
   obtain ⟨c1, n1, A1_2⟩ := bk hc A1_1.out (by simp)
   have G2 := hid (G1.out.trans0 hc)
   clear fz; have fz := freeOf A1_2.out
   clear hc
   go_wp2_with (first | (refine store_wide rfl _ _ 46 rfl rfl rfl infoRR A1_2.out rfl rfl rfl ?_; intro w9 hb9 hc9; have HB9 := hid hb9; have HC9 := hid hc9; clear hb9 hc9))
   refine bodyPost_ret (v := .agg #[.int .i64 (3), .slice none 0 0]) (results_wide _ _ Tryz.results32 rfl infoRR Tryz.underlying46 HB9.out rfl) rfl (badR9 (3) (⟨by omega, by omega⟩) (undR x g) (undR_rng hf0 hin) G2.out HC9.out (by omega))
 ·have hb : ((q : Int) != 0) = true := by simpa using hq0
  go_wp2_with (first | (refine store_wide rfl _ _ 46 rfl rfl rfl infoRR A1_1.out rfl rfl rfl ?_; intro w9 hb9 hc9; have HB9 := hid hb9; have HC9 := hid hc9; clear hb9 hc9))
  refine bodyPost_ret (v := .agg #[.int .i64 (q), .slice none 0 0]) (results_wide _ _ Tryz.results32 rfl infoRR Tryz.underlying46 HB9.out rfl) rfl (badR9 (q) (hqk) (undR x g) (by rw [undR_bad (by rw [← HQ.out]; exact hq0), ← HQ.out]) G1.out HC9.out (by omega))
set_option maxRecDepth 100000 in
set_option maxHeartbeats 8000000 in
theorem spec_UndoneAt (x : Wld) (cx : Array Value) (fx : List Nat) (g : Int) (w : World) (hx : wldL.rep w cx.toList x fx) (hz : totWld x ≤ 1048576) (_og : i64ok g) :
  Calls Tryz.prog 31 #[.agg cx, .int .i64 g] w (NewAgg rrsL (undR x g) w) := by
 obtain ⟨a10, l10, c10, _, a11, l11, c11, f11, a12, l12, c12, _, ex, -, -, -, -, -, -, -, -, -, h10, h11, h12, oo13, oo14, -⟩ := wldL_iff.1 hx
 obtain rfl := Array.toList_inj.1 (ex.trans (List.toList_toArray).symm)
 have HW := hid hx; have HZ := hid hz; have H10 := hid h10; have H11 := hid h11; have H12 := hid h12; have HOO := hid (And.intro oo13 oo14)
 have hl11 : l11 ≤ 1048576 := by have h := h11.1; have q10 := totL_nonneg (totL_nonneg totDrv_nonneg) x.groups; have q12 := totL_nonneg totTap_nonneg x.tapes; unfold totWld totIs at hz; omega
 clear hx ex hz h10 h11 h12 oo13 oo14
 have G0 := hid (show Chg [] w ((w.alloc (.cells #[.int .i64 x.shape.groups, .int .i64 x.shape.column, .int .i64 x.shape.data, .int .i64 x.shape.spare, .int .i64 x.shape.rows, .int .i64 x.shape.cap, .int .i64 x.shape.batch, .int .i64 x.shape.queue, .int .i64 x.shape.stage, .slice a10 l10 c10, .slice a11 l11 c11, .slice a12 l12 c12, .int .i64 x.writes, .int .i64 x.stop, .bool x.down] 34)).alloc (.cells #[.int .i64 0, .slice none 0 0] 46)) from (Chg.alloc (Chg.alloc (Chg.refl [] w) _) _))
 have B0 := hid (show ((w.alloc (.cells #[.int .i64 x.shape.groups, .int .i64 x.shape.column, .int .i64 x.shape.data, .int .i64 x.shape.spare, .int .i64 x.shape.rows, .int .i64 x.shape.cap, .int .i64 x.shape.batch, .int .i64 x.shape.queue, .int .i64 x.shape.stage, .slice a10 l10 c10, .slice a11 l11 c11, .slice a12 l12 c12, .int .i64 x.writes, .int .i64 x.stop, .bool x.down] 34)).alloc (.cells #[.int .i64 0, .slice none 0 0] 46)).heap[w.heap.size]? = some (.cells #[.int .i64 x.shape.groups, .int .i64 x.shape.column, .int .i64 x.shape.data, .int .i64 x.shape.spare, .int .i64 x.shape.rows, .int .i64 x.shape.cap, .int .i64 x.shape.batch, .int .i64 x.shape.queue, .int .i64 x.shape.stage, .slice a10 l10 c10, .slice a11 l11 c11, .slice a12 l12 c12, .int .i64 x.writes, .int .i64 x.stop, .bool x.down] 34 (0, 0)) from keep_alloc (new_alloc w _) _)
 have B1 := hid (show ((w.alloc (.cells #[.int .i64 x.shape.groups, .int .i64 x.shape.column, .int .i64 x.shape.data, .int .i64 x.shape.spare, .int .i64 x.shape.rows, .int .i64 x.shape.cap, .int .i64 x.shape.batch, .int .i64 x.shape.queue, .int .i64 x.shape.stage, .slice a10 l10 c10, .slice a11 l11 c11, .slice a12 l12 c12, .int .i64 x.writes, .int .i64 x.stop, .bool x.down] 34)).alloc (.cells #[.int .i64 0, .slice none 0 0] 46)).heap[w.heap.size + 1]? = some (.cells #[.int .i64 0, .slice none 0 0] 46 (0, 0)) from new_at (by simp) _)
 go_enter Tryz.func31, Tryz.ntmps31
 obtain ⟨q, hq⟩ : ∃ q, q = x.fault := ⟨_, rfl⟩
 have HQ := hid hq; clear hq
 go_wp2_with (first | (refine load_wide rfl _ 34 rfl rfl infoWd Tryz.underlying34 B0.out rfl ?_))
 refine (spec_WorldFault x #[.int .i64 x.shape.groups, .int .i64 x.shape.column, .int .i64 x.shape.data, .int .i64 x.shape.spare, .int .i64 x.shape.rows, .int .i64 x.shape.cap, .int .i64 x.shape.batch, .int .i64 x.shape.queue, .int .i64 x.shape.stage, .slice a10 l10 c10, .slice a11 l11 c11, .slice a12 l12 c12, .int .i64 x.writes, .int .i64 x.stop, .bool x.down] fx _ (wldL.ext HW.out G0.out)).mono ?_
 rintro e w1 ⟨rfl, hc⟩
 rw [← HQ.out]
 obtain ⟨c0, n0, A0_1⟩ := bk hc B0.out (by simp)
 obtain ⟨c1, n1, A1_1⟩ := bk hc B1.out (by simp)
 have G1 := hid (G0.out.trans0 hc)
 have fz := freeOf A1_1.out
 clear hc
 have hqk : i64ok q := by rw [HQ.out]; exact fault_i64 x
 by_cases hq0 : q = 0
 ·subst hq0
  have hf0 : x.fault = 0 := HQ.out.symm
  have hok := fault_ok0 hf0; have hak := hok.all; have hg4 := hok.groups
  simp only [Shp.all] at hak
  by_cases hin : 0 ≤ g ∧ g ≤ x.shape.groups + x.shape.column - 1
  ·have HI := hid (show inB g 0 (x.shape.groups + x.shape.column - 1) = true by simp [inB, hin.1, hin.2])
   go_wp2_with (first | (refine load_wide rfl _ 34 rfl rfl infoWd Tryz.underlying34 A0_1.out rfl ?_))
   refine (l5AllM_any x.shape hok _).mono ?_
   rintro e w2 ⟨rfl, hc⟩
   clear c0 n0
   obtain ⟨c0, n0, A0_2⟩ := bk hc A0_1.out (by simp)
   clear c1 n1
   obtain ⟨c1, n1, A1_2⟩ := bk hc A1_1.out (by simp)
   have G2 := hid (G1.out.trans0 hc)
   clear fz; have fz := freeOf A1_2.out
   clear hc
   go_wp2_with (first | (refine load_wide rfl _ 34 rfl rfl infoWd Tryz.underlying34 A0_2.out rfl ?_))
   refine (l1In_any g 0 (x.shape.groups + x.shape.column - 1) _).mono ?_
   rintro e w' ⟨rfl, rfl⟩
   rw [HI.out]
   have HR := hid (undR_ok hf0 hin)
   go_wp2_with fail
   obtain ⟨SS, HSI, HSO⟩ := rg_cond (fun w' => Know w.heap.size #[.int .i64 x.shape.groups, .int .i64 x.shape.column, .int .i64 x.shape.data, .int .i64 x.shape.spare, .int .i64 x.shape.rows, .int .i64 x.shape.cap, .int .i64 x.shape.batch, .int .i64 x.shape.queue, .int .i64 x.shape.stage, .slice a10 l10 c10, .slice a11 l11 c11, .slice a12 l12 c12, .int .i64 x.writes, .int .i64 x.stop, .bool x.down] w')
   have hS0 := HSI.out _ (Know.of (keep_drew A0_2.out))
   refine rg_start SS (by kernel_rfl) hS0 ?_
   obtain ⟨w3, hwd⟩ : ∃ wd, wd = w2.drew := ⟨_, rfl⟩
   rw [← hwd] at hS0 ⊢
   have hc : Chg [] w2 w3 := by rw [hwd]; exact (Chg.refl [] w2).drew
   clear hwd
   clear c0 n0
   obtain ⟨c0, n0, A0_3⟩ := bk hc A0_2.out (by simp)
   clear c1 n1
   obtain ⟨c1, n1, A1_3⟩ := bk hc A1_2.out (by simp)
   have G3 := hid (G2.out.trans0 hc)
   clear fz; have fz := freeOf A1_3.out
   clear hc
   refine rgT 0 hS0 ?_
   refine rgL 1 hS0 HSO ?_
   refine rgT 3 hS0 ?_
   obtain rfl : l12 = 2 := by have h1 := H12.out.1; have h2 := (fault_recs hf0).1; omega
   have HN0 := hid (l6Counted_any w.heap.size a12 c12 _ x.tapes w3 A0_3.out (tapL.sl_ext H12.out G3.out) (by have := fault_flat hf0; omega))
   refine rg_call 2 rfl (by kernel_rfl) (fun K hK => ?_)
   go_simp
   go_at_call 92
   refine HN0.out.mono ?_
   rintro e w4 ⟨v, rfl, hr, hc⟩
   obtain ⟨a0, l0, cc0, f0, rfl, hs, -⟩ := hr.sl
   have HS1 := hid hs; clear hs hr
   clear c0 n0
   obtain ⟨c0, n0, A0_4⟩ := bk hc A0_3.out (by simp)
   clear c1 n1
   obtain ⟨c1, n1, A1_4⟩ := bk hc A1_3.out (by simp)
   have G4 := hid (G3.out.trans0 hc)
   clear fz; have fz := freeOf A1_4.out
   clear hc
   go_wp2_with fail
   refine hK.out _ _ (HSI.out _ (Know.of A0_4.out)) (fun hS1 => ?_)
   clear hK K
   try simp only [Act.put, List.setIfInBounds_toArray, List.set_cons_zero, List.set_cons_succ]
   have HN1 := hid (l6Undone_any x.shape a0 l0 cc0 _ f0 g w4 HS1.out (by have := cntL_400 hf0; omega))
   refine rg_call 4 rfl (by kernel_rfl) (fun K hK => ?_)
   go_simp
   go_at_call 101
   refine HN1.out.mono ?_
   rintro e w5 ⟨a, l, c, f, rfl, hs, hc⟩
   have HS0 := hid hs; clear hs
   clear c0 n0
   obtain ⟨c0, n0, A0_5⟩ := bk hc A0_4.out (by simp)
   clear c1 n1
   obtain ⟨c1, n1, A1_5⟩ := bk hc A1_4.out (by simp)
   have G5 := hid (G4.out.trans0 hc)
   clear fz; have fz := freeOf A1_5.out
   clear hc
   go_wp2_with fail
   refine hK.out _ _ (HSI.out _ (Know.of A0_5.out)) (fun hS2 => ?_)
   clear hK K
   try simp only [Act.put, List.setIfInBounds_toArray, List.set_cons_zero, List.set_cons_succ]
   have nR0 := n1
   have HN2 := hid (l5CopyRecs_any a l c _ f w5 HS0.out (totF _ x HZ.out))
   refine rg_call 5 rfl (by kernel_rfl) (fun K hK => ?_)
   go_simp
   go_at_call 91
   refine HN2.out.mono ?_
   rintro e w6 ⟨pa, pc, pf, rfl, hs, hf, hc⟩
   have HS := hid hs; have HFR := hid (hf.mono (C := w.heap.size) G5.out.size)
   have HLO := hid (fun y hy => (hf.2 y hy).1)
   clear hs hf
   clear c0 n0
   obtain ⟨c0, n0, A0_6⟩ := bk hc A0_5.out (by simp)
   clear c1 n1
   obtain ⟨c1, n1, A1_6⟩ := bk hc A1_5.out (by simp)
   have G6 := hid (G5.out.trans0 hc)
   clear fz; have fz := freeOf A1_6.out
   clear hc
   have HNF := hid (fun hy => absurd (HLO.out _ hy) (by omega) : w.heap.size + 1 ∉ pf)
   go_wp2_with fail
   refine hK.out _ _ (HSI.out _ (Know.of A0_6.out)) (fun hS3 => ?_)
   clear hK K
   try simp only [Act.put, List.setIfInBounds_toArray, List.set_cons_zero, List.set_cons_succ]
   refine rgT 6 hS3 ?_
   refine rg_call 7 rfl (by kernel_rfl) (fun K hK => ?_)
   refine store_step rfl _ _ 46 rfl rfl rfl infoRR A1_6.out rfl rfl rfl ?_
   intro w9 hb9 hc9
   have HB9 := hid hb9; have HC9 := hid hc9
   have HK9 := hid (hc9.keepb A0_6.out (by simp))
   clear hb9 hc9
   refine hK.out _ _ (HSI.out _ (Know.of HK9.out)) (fun hS4 => ?_)
   clear hK K
   try simp only [Act.put, List.setIfInBounds_toArray, List.set_cons_zero, List.set_cons_succ]
   refine wpAnyH_done (by kernel_rfl) ?_ _
   go_wp2_with fail
   refine bodyPost_ret (v := .agg #[.int .i64 0, .slice pa (undL x.shape.groups g (cntL x.tapes)).length pc]) (results_wide _ _ Tryz.results31 rfl infoRR Tryz.underlying46 HB9.out rfl) rfl (finR9 (undR x g) (HR.out) HS.out HFR.out G6.out HC9.out HNF.out (by omega))
  ·have HI := hid (show inB g 0 (x.shape.groups + x.shape.column - 1) = false by unfold inB; simp; omega)
   go_wp2_with (first | (refine load_wide rfl _ 34 rfl rfl infoWd Tryz.underlying34 A0_1.out rfl ?_))
   refine (l5AllM_any x.shape hok _).mono ?_
   rintro e w2 ⟨rfl, hc⟩
   clear c0 n0
   obtain ⟨c0, n0, A0_2⟩ := bk hc A0_1.out (by simp)
   clear c1 n1
   obtain ⟨c1, n1, A1_2⟩ := bk hc A1_1.out (by simp)
   have G2 := hid (G1.out.trans0 hc)
   clear fz; have fz := freeOf A1_2.out
   clear hc
   go_wp2_with (first | (refine load_wide rfl _ 34 rfl rfl infoWd Tryz.underlying34 A0_2.out rfl ?_))
   refine (l1In_any g 0 (x.shape.groups + x.shape.column - 1) _).mono ?_
   rintro e w' ⟨rfl, rfl⟩
   rw [HI.out]
   go_wp2_with (first | (refine store_wide rfl _ _ 46 rfl rfl rfl infoRR A1_2.out rfl rfl rfl ?_; intro w9 hb9 hc9; have HB9 := hid hb9; have HC9 := hid hc9; clear hb9 hc9))
   refine bodyPost_ret (v := .agg #[.int .i64 (3), .slice none 0 0]) (results_wide _ _ Tryz.results31 rfl infoRR Tryz.underlying46 HB9.out rfl) rfl (badR9 (3) (⟨by omega, by omega⟩) (undR x g) (undR_rng hf0 hin) G2.out HC9.out (by omega))
 ·have hb : ((q : Int) != 0) = true := by simpa using hq0
  go_wp2_with (first | (refine store_wide rfl _ _ 46 rfl rfl rfl infoRR A1_1.out rfl rfl rfl ?_; intro w9 hb9 hc9; have HB9 := hid hb9; have HC9 := hid hc9; clear hb9 hc9))
  refine bodyPost_ret (v := .agg #[.int .i64 (q), .slice none 0 0]) (results_wide _ _ Tryz.results31 rfl infoRR Tryz.underlying46 HB9.out rfl) rfl (badR9 (q) (hqk) (undR x g) (by rw [undR_bad (by rw [← HQ.out]; exact hq0), ← HQ.out]) G1.out HC9.out (by omega))
end Go.Proofs.YtphmpimgbmedbaaGreat
