/- Several texts in one. -/
import Derived.Test.YtphmpimgbmedbaaGreatVar
import Derived.Test.YtphmpimgbmedbaaGreatVam
import Derived.Laws.CopyRow
import Derived.Laws.Cells
import Derived.Test.YtphmpimgbmedbaaGreatVap
import Derived.Test.YtphmpimgbmedbaaGreatVao
import Derived.Test.YtphmpimgbmedbaaGreatVaq
import Derived.Test.YtphmpimgbmedbaaGreatVae
import Derived.Test.YtphmpimgbmedbaaGreatVac
import Derived.Test.YtphmpimgbmedbaaGreatVaa
import Derived.Test.YtphmpimgbmedbaaGreatVaf
import Derived.Laws.IdiomCopy
import Derived.Test.YtphmpimgbmedbaaGreatVab
namespace Go.Proofs.YtphmpimgbmedbaaGreat
open Go.RowKit
open Go.Lib (hid)
set_option maxRecDepth 100000 in
set_option maxHeartbeats 8000000 in
theorem l5Copy_any (x : Wld) (cx : Array Value) (fx : List Nat) (w : World) (hx : wldL.rep w cx.toList x fx) (hz : totWld x ≤ 1048576) :
  Calls Tryz.prog 71 #[.agg cx] w (NewAgg wldL x w) := by
 obtain ⟨KD, _⟩ := kindDrive
 obtain ⟨KS, _⟩ := kindDS
 obtain ⟨KT, _⟩ := kindTape
 obtain ⟨KB, _⟩ := kindBlock
 obtain ⟨KI, _⟩ := kindI
 obtain ⟨a10, l10, c10, f10, a11, l11, c11, f11, a12, l12, c12, f12, ex, o1, o2, o3, o4, o5, o6, o7, o8, o9, h10, h11, h12, o13, o14, -⟩ := wldL_iff.1 hx
 obtain rfl := Array.toList_inj.1 (ex.trans (List.toList_toArray).symm)
 have q10 := totL_nonneg (totL_nonneg totDrv_nonneg) x.groups; have q11 := totIs_nonneg x.on; have q12 := totL_nonneg totTap_nonneg x.tapes
 unfold totWld at hz
 have z10 : totL (totL totDrv) x.groups ≤ 1048576 := by omega
 have z12 : totL totTap x.tapes ≤ 1048576 := by omega
 have hl10 : l10 ≤ 1048576 := by have := totL_len (totL_nonneg totDrv_nonneg) x.groups; rw [h10.1]; omega
 have hl11 : l11 ≤ 1048576 := by rw [h11.1]; unfold totIs at hz q11; omega
 have hl12 : l12 ≤ 1048576 := by have := totL_len totTap_nonneg x.tapes; rw [h12.1]; omega
 have L10 := hid h10.1; have L11 := hid h11.1; have L12 := hid h12.1
 have H10 := hid h10; have H11 := hid h11; have H12 := hid h12
 have HO := hid (And.intro o1 (And.intro o2 (And.intro o3 (And.intro o4 (And.intro o5 (And.intro o6 (And.intro o7 (And.intro o8 (And.intro o9 (And.intro o13 o14))))))))))
 have Z10 := hid (fun g hg => Int.le_trans (totL_mem (totL_nonneg totDrv_nonneg) hg) z10 : ∀ g ∈ x.groups, totL totDrv g ≤ 1048576)
 have Z12 := hid (fun t ht => Int.le_trans (totL_mem totTap_nonneg ht) z12 : ∀ t ∈ x.tapes, totTap t ≤ 1048576)
 clear hx ex hz q10 q11 q12 z10 z12 h10 h11 h12 o1 o2 o3 o4 o5 o6 o7 o8 o9 o13 o14
 have G0 := hid (show Chg [] w (((w.alloc (.cells #[.int .i64 x.shape.groups, .int .i64 x.shape.column, .int .i64 x.shape.data, .int .i64 x.shape.spare, .int .i64 x.shape.rows, .int .i64 x.shape.cap, .int .i64 x.shape.batch, .int .i64 x.shape.queue, .int .i64 x.shape.stage, .slice a10 l10 c10, .slice a11 l11 c11, .slice a12 l12 c12, .int .i64 x.writes, .int .i64 x.stop, .bool x.down] 34)).alloc (.cells #[.int .i64 0, .int .i64 0, .int .i64 0, .int .i64 0, .int .i64 0, .int .i64 0, .int .i64 0, .int .i64 0, .int .i64 0, .slice none 0 0, .slice none 0 0, .slice none 0 0, .int .i64 0, .int .i64 0, .bool false] 34)).alloc (.cells #[.int .i64 x.shape.groups, .int .i64 x.shape.column, .int .i64 x.shape.data, .int .i64 x.shape.spare, .int .i64 x.shape.rows, .int .i64 x.shape.cap, .int .i64 x.shape.batch, .int .i64 x.shape.queue, .int .i64 x.shape.stage, .slice none 0 0, .slice a11 l11 c11, .slice a12 l12 c12, .int .i64 x.writes, .int .i64 x.stop, .bool x.down] 34)) from ((((Chg.refl [] w).alloc _).alloc _).alloc _))
 have B1 := hid (show (((w.alloc (.cells #[.int .i64 x.shape.groups, .int .i64 x.shape.column, .int .i64 x.shape.data, .int .i64 x.shape.spare, .int .i64 x.shape.rows, .int .i64 x.shape.cap, .int .i64 x.shape.batch, .int .i64 x.shape.queue, .int .i64 x.shape.stage, .slice a10 l10 c10, .slice a11 l11 c11, .slice a12 l12 c12, .int .i64 x.writes, .int .i64 x.stop, .bool x.down] 34)).alloc (.cells #[.int .i64 0, .int .i64 0, .int .i64 0, .int .i64 0, .int .i64 0, .int .i64 0, .int .i64 0, .int .i64 0, .int .i64 0, .slice none 0 0, .slice none 0 0, .slice none 0 0, .int .i64 0, .int .i64 0, .bool false] 34)).alloc (.cells #[.int .i64 x.shape.groups, .int .i64 x.shape.column, .int .i64 x.shape.data, .int .i64 x.shape.spare, .int .i64 x.shape.rows, .int .i64 x.shape.cap, .int .i64 x.shape.batch, .int .i64 x.shape.queue, .int .i64 x.shape.stage, .slice none 0 0, .slice a11 l11 c11, .slice a12 l12 c12, .int .i64 x.writes, .int .i64 x.stop, .bool x.down] 34)).heap[w.heap.size]? = some (.cells #[.int .i64 x.shape.groups, .int .i64 x.shape.column, .int .i64 x.shape.data, .int .i64 x.shape.spare, .int .i64 x.shape.rows, .int .i64 x.shape.cap, .int .i64 x.shape.batch, .int .i64 x.shape.queue, .int .i64 x.shape.stage, .slice a10 l10 c10, .slice a11 l11 c11, .slice a12 l12 c12, .int .i64 x.writes, .int .i64 x.stop, .bool x.down] 34 (0, 0)) from keep_alloc (keep_alloc (new_alloc w _) _) _)
 have B2 := hid (show (((w.alloc (.cells #[.int .i64 x.shape.groups, .int .i64 x.shape.column, .int .i64 x.shape.data, .int .i64 x.shape.spare, .int .i64 x.shape.rows, .int .i64 x.shape.cap, .int .i64 x.shape.batch, .int .i64 x.shape.queue, .int .i64 x.shape.stage, .slice a10 l10 c10, .slice a11 l11 c11, .slice a12 l12 c12, .int .i64 x.writes, .int .i64 x.stop, .bool x.down] 34)).alloc (.cells #[.int .i64 0, .int .i64 0, .int .i64 0, .int .i64 0, .int .i64 0, .int .i64 0, .int .i64 0, .int .i64 0, .int .i64 0, .slice none 0 0, .slice none 0 0, .slice none 0 0, .int .i64 0, .int .i64 0, .bool false] 34)).alloc (.cells #[.int .i64 x.shape.groups, .int .i64 x.shape.column, .int .i64 x.shape.data, .int .i64 x.shape.spare, .int .i64 x.shape.rows, .int .i64 x.shape.cap, .int .i64 x.shape.batch, .int .i64 x.shape.queue, .int .i64 x.shape.stage, .slice none 0 0, .slice a11 l11 c11, .slice a12 l12 c12, .int .i64 x.writes, .int .i64 x.stop, .bool x.down] 34)).heap[w.heap.size + 1]? = some (.cells #[.int .i64 0, .int .i64 0, .int .i64 0, .int .i64 0, .int .i64 0, .int .i64 0, .int .i64 0, .int .i64 0, .int .i64 0, .slice none 0 0, .slice none 0 0, .slice none 0 0, .int .i64 0, .int .i64 0, .bool false] 34 (0, 0)) from keep_alloc (new_at (by simp) _) _)
 have B3 := hid (show (((w.alloc (.cells #[.int .i64 x.shape.groups, .int .i64 x.shape.column, .int .i64 x.shape.data, .int .i64 x.shape.spare, .int .i64 x.shape.rows, .int .i64 x.shape.cap, .int .i64 x.shape.batch, .int .i64 x.shape.queue, .int .i64 x.shape.stage, .slice a10 l10 c10, .slice a11 l11 c11, .slice a12 l12 c12, .int .i64 x.writes, .int .i64 x.stop, .bool x.down] 34)).alloc (.cells #[.int .i64 0, .int .i64 0, .int .i64 0, .int .i64 0, .int .i64 0, .int .i64 0, .int .i64 0, .int .i64 0, .int .i64 0, .slice none 0 0, .slice none 0 0, .slice none 0 0, .int .i64 0, .int .i64 0, .bool false] 34)).alloc (.cells #[.int .i64 x.shape.groups, .int .i64 x.shape.column, .int .i64 x.shape.data, .int .i64 x.shape.spare, .int .i64 x.shape.rows, .int .i64 x.shape.cap, .int .i64 x.shape.batch, .int .i64 x.shape.queue, .int .i64 x.shape.stage, .slice none 0 0, .slice a11 l11 c11, .slice a12 l12 c12, .int .i64 x.writes, .int .i64 x.stop, .bool x.down] 34)).heap[w.heap.size + 2]? = some (.cells #[.int .i64 x.shape.groups, .int .i64 x.shape.column, .int .i64 x.shape.data, .int .i64 x.shape.spare, .int .i64 x.shape.rows, .int .i64 x.shape.cap, .int .i64 x.shape.batch, .int .i64 x.shape.queue, .int .i64 x.shape.stage, .slice none 0 0, .slice a11 l11 c11, .slice a12 l12 c12, .int .i64 x.writes, .int .i64 x.stop, .bool x.down] 34 (0, 0)) from new_at (by simp) _)
 have S0 := hid (show w.heap.size + 3 ≤ (((w.alloc (.cells #[.int .i64 x.shape.groups, .int .i64 x.shape.column, .int .i64 x.shape.data, .int .i64 x.shape.spare, .int .i64 x.shape.rows, .int .i64 x.shape.cap, .int .i64 x.shape.batch, .int .i64 x.shape.queue, .int .i64 x.shape.stage, .slice a10 l10 c10, .slice a11 l11 c11, .slice a12 l12 c12, .int .i64 x.writes, .int .i64 x.stop, .bool x.down] 34)).alloc (.cells #[.int .i64 0, .int .i64 0, .int .i64 0, .int .i64 0, .int .i64 0, .int .i64 0, .int .i64 0, .int .i64 0, .int .i64 0, .slice none 0 0, .slice none 0 0, .slice none 0 0, .int .i64 0, .int .i64 0, .bool false] 34)).alloc (.cells #[.int .i64 x.shape.groups, .int .i64 x.shape.column, .int .i64 x.shape.data, .int .i64 x.shape.spare, .int .i64 x.shape.rows, .int .i64 x.shape.cap, .int .i64 x.shape.batch, .int .i64 x.shape.queue, .int .i64 x.shape.stage, .slice none 0 0, .slice a11 l11 c11, .slice a12 l12 c12, .int .i64 x.writes, .int .i64 x.stop, .bool x.down] 34)).heap.size from ltOf B3.out)
 go_enter Tryz.func71, Tryz.ntmps71
 go_wp2_with fail
 go_loopw [4] (fun vi wr => ∃ (k : Nat) (v : Value) (Wr : World), Wr = wr ∧ k ≤ l10 ∧ vi = .int .i64 k ∧ GrowC drvL.slice 83 (w.heap.size + 3) wr v (x.groups.take k) ∧ wr.heap[w.heap.size]? = some (.cells #[.int .i64 x.shape.groups, .int .i64 x.shape.column, .int .i64 x.shape.data, .int .i64 x.shape.spare, .int .i64 x.shape.rows, .int .i64 x.shape.cap, .int .i64 x.shape.batch, .int .i64 x.shape.queue, .int .i64 x.shape.stage, .slice a10 l10 c10, .slice a11 l11 c11, .slice a12 l12 c12, .int .i64 x.writes, .int .i64 x.stop, .bool x.down] 34 (0, 0)) ∧ wr.heap[w.heap.size + 1]? = some (.cells #[.int .i64 0, .int .i64 0, .int .i64 0, .int .i64 0, .int .i64 0, .int .i64 0, .int .i64 0, .int .i64 0, .int .i64 0, .slice none 0 0, .slice none 0 0, .slice none 0 0, .int .i64 0, .int .i64 0, .bool false] 34 (0, 0)) ∧ wr.heap[w.heap.size + 2]? = some (.cells #[.int .i64 x.shape.groups, .int .i64 x.shape.column, .int .i64 x.shape.data, .int .i64 x.shape.spare, .int .i64 x.shape.rows, .int .i64 x.shape.cap, .int .i64 x.shape.batch, .int .i64 x.shape.queue, .int .i64 x.shape.stage, v, .slice a11 l11 c11, .slice a12 l12 c12, .int .i64 x.writes, .int .i64 x.stop, .bool x.down] 34 (0, 0)) ∧ Chg [] w wr) (fun vi _ => l10 - (intOf vi).toNat)
 case atStart => exact ⟨0, .slice none 0 0, _, rfl, by omega, rfl, by rw [List.take_zero]; exact GrowC.nil S0.out, B1.out, B2.out, B3.out, G0.out⟩
 case round =>
  clear G0 B1 B2 B3 S0
  obtain ⟨k, v, wr, rfl, hk, rfl, hg, hb1, hb2, hb3, hc⟩ := hrel
  have D1 := hid hb1; have D2 := hid hb2; have D3 := hid hb3
  have c1 := cellsOf hb1; have n1 := ltOf hb1; have n3 := ltOf hb3
  by_cases hlt : k < l10
  ·obtain ⟨g, b, off, ag, lg, cg, fg, HX, rfl, hcx, HXS⟩ := slc_at (drvL.slice.sl_ext H10.out hc) hlt
   have HG := hid hg; have HC := hid hc
   have HXI := hid HX.out.1
   have HXZ := hid (Z10.out g (List.mem_of_getElem? HX.out.1))
   have hbl : b < wr.heap.size := Nat.lt_of_lt_of_le (Lay.sl_lt _ H10.out b HX.out.2.1) hc.size
   have HCX := hid hcx
   have hlg : lg ≤ 1048576 := by have := totL_len totDrv_nonneg g; have := HXZ.out; rw [HXS.out.1]; omega
   have LG := hid HXS.out.1
   clear hg hc HX hb1 hb2 hb3
   go_wp2_with fail
   go_loopw [5, 6] (fun vo vi wi => ∃ (j : Nat) (Wi : World), Wi = wi ∧ j ≤ lg ∧ vi = .int .i64 j ∧ Grow drvL 82 wr wi vo (g.take j)) (fun _ vi _ => lg - (intOf vi).toNat)
   case atStart => exact ⟨0, _, rfl, by omega, rfl, by rw [List.take_zero]; exact Grow.made (Chg.refl _ _)⟩
   case round =>
    clear hcx c1
    obtain ⟨j, wi, rfl, hj, rfl, hgi⟩ := hrel
    have E1 := hid (hgi.chg.keep0 D1.out); have E3 := hid (hgi.chg.keep0 D3.out)
    have c1 := cellsOf E1.out; have n1' := ltOf E1.out
    have hcx := cellKeep hgi.chg HCX.out hbl
    have hbl' : b < wi.heap.size := Nat.lt_of_lt_of_le hbl hgi.chg.size
    by_cases hlj : j < lg
    ·obtain ⟨y, b2, off2, a2, l2, c2, f2, HY, rfl, hy0, hy1, HYS⟩ := drive_at (drvL.sl_ext HXS.out hgi.chg) hlj
     have HGI := hid hgi
     have HYI := hid HY.out.1
     have HYZ := hid (Int.le_trans (totL_mem totDrv_nonneg (List.mem_of_getElem? HY.out.1)) HXZ.out)
     have hbl2 : b2 < wi.heap.size := Lay.sl_lt _ (drvL.sl_ext HXS.out hgi.chg) b2 HY.out.2.1
     obtain ⟨_, _, _, _, exd, hyb, -⟩ := drvL_iff.1 HYS.out
     obtain ⟨q1, q2, q3⟩ := Value.slice.inj (List.cons.inj (List.cons.inj exd).2).1
     subst q1 q2 q3
     have HYB := hid hyb
     have LY := hid hyb.1
     have hl2 : l2 ≤ 1048576 := by have := totL_len totBlk_nonneg y.blocks; have h2 : totL totBlk y.blocks ≤ 1048576 := HYZ.out; rw [hyb.1]; omega
     have HY0 := hid hy0; have HY1 := hid hy1; have HCX2 := hid hcx
     clear hgi HY exd hyb HYS
     go_wp2_with fail
     go_loopw [8] (fun vq wt => ∃ (i : Nat) (v3 : Value) (Wt : World), Wt = wt ∧ i ≤ l2 ∧ vq = .int .i64 i ∧ GrowC blkL 76 (wi.heap.size + 1) wt v3 (y.blocks.take i) ∧ wt.heap[wi.heap.size]? = some (.cells #[.bool y.wiped, v3] 82 (0, 0)) ∧ Chg [] wi wt) (fun vq _ => l2 - (intOf vq).toNat)
     case atStart => exact ⟨0, .slice none 0 0, _, rfl, by omega, rfl, by rw [List.take_zero]; exact GrowC.nil (by simp), new_alloc wi _, (Chg.refl [] wi).alloc _⟩
     case round =>
      clear hcx c1 hy0 hy1
      obtain ⟨i, v3, wt, rfl, hi, rfl, hgt, hbt, hct⟩ := hrel
      have F1 := hid (hct.keep0 E1.out); have F3 := hid (hct.keep0 E3.out)
      have c1 := cellsOf F1.out; have n1'' := ltOf F1.out
      have hcx := cellKeep hct HCX2.out hbl'
      have hy1 := cellKeep hct HY1.out hbl2
      have hbw : b < wt.heap.size := Nat.lt_of_lt_of_le hbl' hct.size
      have hbw2 : b2 < wt.heap.size := Nat.lt_of_lt_of_le hbl2 hct.size
      have ct := cellsOf hbt; have nt := ltOf hbt
      by_cases hlb : i < l2
      ·obtain ⟨z, b3, off3, a3, l3, c3, f3, HZ3, rfl, hz0, hz1, HZS⟩ := block_at (blkL.sl_ext HYB.out hct) hlb
       have HBT := hid hbt
       have HZI := hid HZ3.out.1
       have hbw3 : b3 < wt.heap.size := Lay.sl_lt _ (blkL.sl_ext HYB.out hct) b3 HZ3.out.2.1
       have HZZ := hid (Int.le_trans (totL_mem totBlk_nonneg (List.mem_of_getElem? HZ3.out.1)) (show totL totBlk y.blocks ≤ 1048576 from HYZ.out))
       have HGT := hid hgt; have HCT := hid hct
       have K1 := hid hcx; have K2 := hid hy1; have K3 := hid hz0; have K4 := hid hz1
       have HLL : Hid ((y.blocks.take i).length + [z].length ≤ maxLen ∧ ((y.blocks.take i).length + [z].length) * 32 ≤ 140737488355328) := by
        refine ⟨?_, ?_⟩ <;> simp only [List.length_take, List.length_cons, List.length_nil, maxLen] <;> omega
       have HNX := hid (take_next HZI.out)
       clear hgt hct hbt HZ3
       go_wp2_with fail
       obtain ⟨CC, HCI, HCO⟩ := rg_cond (fun w' => Know w.heap.size #[.int .i64 x.shape.groups, .int .i64 x.shape.column, .int .i64 x.shape.data, .int .i64 x.shape.spare, .int .i64 x.shape.rows, .int .i64 x.shape.cap, .int .i64 x.shape.batch, .int .i64 x.shape.queue, .int .i64 x.shape.stage, .slice (some ⟨b, off, none⟩) l10 c10, .slice a11 l11 c11, .slice a12 l12 c12, .int .i64 x.writes, .int .i64 x.stop, .bool x.down] w' ∧ Know wi.heap.size #[.bool y.wiped, v3] w' ∧ w'.cell? ⟨b, off + k, none⟩ = some (.slice (some ⟨b2, off2, none⟩) lg cg) ∧ w'.cell? ⟨b2, off2 + j * 2 + 1, none⟩ = some (.slice (some ⟨b3, off3, none⟩) l2 c2) ∧ w'.cell? ⟨b3, off3 + i * 2, none⟩ = some (.int .i64 z.stamp) ∧ w'.cell? ⟨b3, off3 + i * 2 + 1, none⟩ = some (.slice a3 l3 c3))
       refine gg_start [16] CC (by kernel_rfl) (HCI.out _ ⟨(Know.of (keep_drew F1.out)), (Know.of (keep_drew HBT.out)), K1.out, K2.out, K3.out, K4.out⟩) (fun hcl hS => ?_)
       refine ggT 0 hcl hS ?_; clear hcl hS; intro hcl hS
       refine ggL 1 hcl hS HCO ?_; clear hcl hS; intro hcl hS
       refine ggT 2 hcl hS ?_; clear hcl hS; intro hcl hS
       refine ggL 3 hcl hS HCO ?_; clear hcl hS; intro hcl hS
       refine ggT 4 hcl hS ?_; clear hcl hS; intro hcl hS
       refine ggT 5 hcl hS ?_; clear hcl hS; intro hcl hS
       refine ggL 6 hcl hS HCO ?_; clear hcl hS; intro hcl hS
       refine ggT 7 hcl hS ?_; clear hcl hS; intro hcl hS
       refine ggT 8 hcl hS ?_; clear hcl hS; intro hcl hS
       refine ggT 9 hcl hS ?_; clear hcl hS; intro hcl hS
       refine ggL 10 hcl hS HCO ?_; clear hcl hS; intro hcl hS
       refine ggT 11 hcl hS ?_; clear hcl hS; intro hcl hS
       refine ggT 12 hcl hS ?_; clear hcl hS; intro hcl hS
       refine ggL 13 hcl hS HCO ?_; clear hcl hS; intro hcl hS
       refine ggC 14 hcl rfl (by kernel_rfl) (fun K hK => ?_)
       go_simp
       go_at_call 140
       refine (l5CopyBlock_any z #[.int .i64 z.stamp, .slice a3 l3 c3] f3 _ (blkL.ext HZS.out ((Chg.refl [] wt).drew)) HZZ.out).mono ?_; rintro e w3 ⟨cs, g3, rfl, hs, hf, hc⟩
       obtain ⟨p3, m3, d3, _, ex, -⟩ := blkL_iff.1 hs; obtain rfl := Array.toList_inj.1 (ex.trans (List.toList_toArray).symm)
       have HN1 := hid (And.intro hs (And.intro (hf.mono (C := wt.heap.size) (Nat.le_refl _)) (((Chg.refl [] wt).drew).trans0 hc))); obtain ⟨-, -, F4⟩ := bk hc (keep_drew F1.out) (by simp); obtain ⟨-, -, F5⟩ := bk hc (keep_drew HBT.out) (by simp); have k1 := hid (cellKeep HN1.out.2.2 K1.out hbw); have k2 := hid (cellKeep HN1.out.2.2 K2.out hbw2); have k3 := hid (cellKeep HN1.out.2.2 K3.out hbw3); have k4 := hid (cellKeep HN1.out.2.2 K4.out hbw3); have ql := HN1.out.2.2.size; clear hs hf hc ex
       go_wp2_with fail
       refine hK.out _ _ (fun _ => HCI.out _ ⟨(Know.of F4.out), (Know.of F5.out), k1.out, k2.out, k3.out, k4.out⟩) ?_
       clear hK K hcl hS
       intro hcl hS
       try simp only [Act.put, pA, pB, pC]
       refine ggC 15 hcl rfl (by kernel_rfl) (fun K hK => ?_)
       go_simp
       refine hK.out _ _ (fun _ => HCI.out _ ⟨(Know.of (keep_alloc F4.out _)), (Know.of (keep_alloc F5.out _)), (cellKeep ((Chg.refl [] w3).alloc _) k1.out (by omega)), (cellKeep ((Chg.refl [] w3).alloc _) k2.out (by omega)), (cellKeep ((Chg.refl [] w3).alloc _) k3.out (by omega)), (cellKeep ((Chg.refl [] w3).alloc _) k4.out (by omega))⟩) ?_
       clear hK K hcl hS
       intro hcl hS
       try simp only [Act.put, pA, pB, pC]
       refine ggC 16 hcl rfl (by kernel_rfl) (fun K hK => ?_)
       refine GrowB.step rfl _ _ 80 rfl Tryz.underlying80 KB rfl (HGT.out.b.ext (HN1.out.2.2.alloc (.cells #[.int .i64 z.stamp, .slice p3 m3 d3] 76))) ⟨w3.heap.size, 0, none⟩ 1 1 [.int .i64 z.stamp, .slice p3 m3 d3] (ys := [z]) (f := g3) rfl rfl (new_cells w3 #[.int .i64 z.stamp, .slice p3 m3 d3] 76) (blkL.all_single (blkL.ext HN1.out.1 ((Chg.refl [] w3).alloc _))) (HN1.out.2.1.chg ((Chg.refl [] w3).alloc _)) HLL.out.1 HLL.out.2 ?_
       intro v' w4 hg' hup
       rw [← HNX.out] at hg'
       obtain ⟨pv, lv, cv, rfl⟩ : ∃ a l c, v' = Value.slice a l c := by obtain ⟨a, c, f, h, -⟩ := hg'.sl; exact ⟨a, _, c, h⟩
       have HG2 := hid hg'; have HU := hid hup
       have F6 := hid ((hup.low wi.heap.size (by omega)).trans (keep_alloc F5.out _)); have k6 := cellsOf F6.out; have n6 := ltOf F6.out; have z6 := freeOf F6.out; clear hg' hup
       refine hK.out _ _ (Till.done (m := 16) (by simp) (by rfl)) ?_
       clear hK K hcl hS
       intro hcl hS
       try simp only [Act.put, pA, pB, pC]
       refine ggT 17 hcl hS ?_; clear hcl hS; intro hcl hS
       refine ggC 18 hcl rfl (by kernel_rfl) (fun K hK => ?_)
       go_simp
       refine hK.out _ _ (Till.done (m := 16) (by simp) (by rfl)) ?_
       clear hK K hcl hS
       intro hcl hS
       try simp only [Act.put, pA, pB, pC]
       refine ggEnd (by kernel_rfl) ?_ _
       have r1 := HG2.out.chg ((Chg.refl [wi.heap.size] w4).setCell ⟨wi.heap.size, 1, none⟩ (.slice pv lv cv) (.inl (by simp))) (by simp)
       have r3 : (w4.setCell ⟨wi.heap.size, 1, none⟩ (.slice pv lv cv)).heap[wi.heap.size]? = some (.cells #[.bool y.wiped, .slice pv lv cv] 82 (0, 0)) := heap_set_lit (cur := #[.bool y.wiped, v3]) F6.out rfl
       have r4 := (HU.out.chg ((HCT.out.trans0 HN1.out.2.2).alloc (.cells #[.int .i64 z.stamp, .slice p3 m3 d3] 76)) (by omega)).setCell ⟨wi.heap.size, 1, none⟩ (.slice pv lv cv) (.inr (by simp))
       have HR := hid (And.intro r1 (And.intro r3 r4))
       clear r1 r3 r4
       go_wp2_with fail
       go_roundw
       case rel => exact ⟨i + 1, .slice pv lv cv, _, rfl, by omega, by go_num, HR.out.1, HR.out.2.1, HR.out.2.2⟩
       case measure => simp [intOf]; omega
      ·obtain rfl : i = l2 := by omega
       rw [List.take_of_length_le (by have := LY.out; omega)] at hgt
       obtain ⟨p3, d3, g3, rfl, hs, hf⟩ := hgt.sl
       rw [← LY.out] at hs hbt ct
       have HLL : Hid ((g.take j).length + [y].length ≤ maxLen ∧ ((g.take j).length + [y].length) * 32 ≤ 140737488355328) := by
        refine ⟨?_, ?_⟩ <;> simp only [List.length_take, List.length_cons, List.length_nil, maxLen] <;> omega
       have HNX := hid (take_next HYI.out)
       have HN1 := hid (And.intro hs (And.intro (hf.mono (C := wi.heap.size) (by omega)) hct))
       clear hs hf hct hbt hgt
       go_wp2_with (at_builtin; refine drvL.wpList_grow rfl _ _ 83 rfl Tryz.underlying83 KD rfl HGI.out (HN1.out.2.2.alloc (.cells #[.bool y.wiped, .slice p3 i d3] 82)) ⟨wt.heap.size, 0, none⟩ 1 1 [.bool y.wiped, .slice p3 i d3] (ys := [y]) (f := g3) rfl rfl (new_cells wt #[.bool y.wiped, .slice p3 i d3] 82) (drvL.all_single (drvL_iff.2 ⟨p3, i, d3, g3, rfl, blkL.sl_ext HN1.out.1 ((Chg.refl [] wt).alloc _), by simp⟩)) (HN1.out.2.1.chg ((Chg.refl [] wt).alloc (.cells #[.bool y.wiped, .slice p3 i d3] 82))) HLL.out.1 HLL.out.2 ?_; intro v' w' hg'; rw [← HNX.out] at hg'; have HG2 := hid hg'; clear hg')
       go_roundw
       case rel => exact ⟨j + 1, _, rfl, by omega, by go_num, HG2.out⟩
       case measure => simp [intOf]; omega
    ·obtain rfl : j = lg := by omega
     rw [List.take_of_length_le (by have := LG.out; omega)] at hgi
     obtain ⟨p9, c9, f9, h1, hs9, hf9, hc9⟩ := hgi.sl
     subst h1
     have HN9 := hid (And.intro hs9 (And.intro hf9 hc9))
     rw [← LG.out] at HN9 ⊢
     have E2 := hid (hc9.keep0 D2.out)
     have e3 := cellsOf E3.out; have n3' := ltOf E3.out
     have HLL : Hid ((x.groups.take k).length + [g].length ≤ maxLen ∧ ((x.groups.take k).length + [g].length) * 24 ≤ 140737488355328) := by
      refine ⟨?_, ?_⟩ <;> simp only [List.length_take, List.length_cons, List.length_nil, maxLen] <;> omega
     have HNX := hid (take_next HXI.out)
     clear hs9 hf9 hc9 hgi
     go_wp2_with (at_builtin; refine GrowB.wpList rfl _ _ 31 rfl Tryz.underlying31 KS rfl (HG.out.b.ext (HN9.out.2.2.alloc (.cells #[.slice p9 j c9] 83))) ⟨wi.heap.size, 0, none⟩ 1 1 [.slice p9 j c9] (ys := [g]) (f := f9) rfl rfl (new_cells wi #[.slice p9 j c9] 83) (drvL.slice.all_single ⟨p9, j, c9, rfl, drvL.sl_ext HN9.out.1 ((Chg.refl [] wi).alloc _)⟩) (HN9.out.2.1.chg ((Chg.refl [] wi).alloc (.cells #[.slice p9 j c9] 83))) HLL.out.1 HLL.out.2 ?_; intro v' w3 hg' hup; rw [← HNX.out] at hg'; obtain ⟨pv, lv, cv, rfl⟩ : ∃ a l c, v' = Value.slice a l c := (by obtain ⟨a, c, f, h, -⟩ := hg'.sl; exact ⟨a, _, c, h⟩); have HG2 := hid hg'; have HU := hid hup; have E4 := hid ((hup.low (w.heap.size + 2) (by omega)).trans (keep_alloc E3.out _)); have e4 := cellsOf E4.out; have n4 := ltOf E4.out; have z4 := freeOf E4.out; have E5 := hid ((hup.low w.heap.size (by omega)).trans (keep_alloc E1.out _)); have E6 := hid ((hup.low (w.heap.size + 1) (by omega)).trans (keep_alloc E2.out _)); clear hg' hup)
     have r1 := HG2.out.chg ((Chg.refl [w.heap.size + 2] w3).setCell ⟨w.heap.size + 2, 9, none⟩ (.slice pv lv cv) (.inl (by simp))) (by simp)
     have r2 := keep_set E5.out ⟨w.heap.size + 2, 9, none⟩ (.slice pv lv cv) (by simp)
     have r3 := keep_set E6.out ⟨w.heap.size + 2, 9, none⟩ (.slice pv lv cv) (by simp)
     have r4 : (w3.setCell ⟨w.heap.size + 2, 9, none⟩ (.slice pv lv cv)).heap[w.heap.size + 2]? = some (.cells #[.int .i64 x.shape.groups, .int .i64 x.shape.column, .int .i64 x.shape.data, .int .i64 x.shape.spare, .int .i64 x.shape.rows, .int .i64 x.shape.cap, .int .i64 x.shape.batch, .int .i64 x.shape.queue, .int .i64 x.shape.stage, .slice pv lv cv, .slice a11 l11 c11, .slice a12 l12 c12, .int .i64 x.writes, .int .i64 x.stop, .bool x.down] 34 (0, 0)) := heap_set_lit (cur := #[.int .i64 x.shape.groups, .int .i64 x.shape.column, .int .i64 x.shape.data, .int .i64 x.shape.spare, .int .i64 x.shape.rows, .int .i64 x.shape.cap, .int .i64 x.shape.batch, .int .i64 x.shape.queue, .int .i64 x.shape.stage, v, .slice a11 l11 c11, .slice a12 l12 c12, .int .i64 x.writes, .int .i64 x.stop, .bool x.down]) E4.out rfl
     have r5 := (HU.out.chg (HC.out.trans0 (HN9.out.2.2.alloc (.cells #[.slice p9 j c9] 83))) (by omega)).setCell ⟨w.heap.size + 2, 9, none⟩ (.slice pv lv cv) (.inr (by simp))
     have HR := hid (And.intro r1 (And.intro r2 (And.intro r3 (And.intro r4 r5))))
     clear r1 r2 r3 r4 r5
     go_roundw
     case rel => exact ⟨k + 1, .slice pv lv cv, _, rfl, by omega, by go_num, HR.out.1, HR.out.2.1, HR.out.2.2.1, HR.out.2.2.2.1, HR.out.2.2.2.2⟩
     case measure => simp [intOf]; omega
  ·obtain rfl : k = l10 := by omega
   rw [List.take_of_length_le (by have := L10.out; omega)] at hg
   obtain ⟨p10, d10, g10, rfl, hs, hf⟩ := hg.sl
   rw [← L10.out] at hs D3
   have HGR := hid (And.intro hs (And.intro hf hc))
   have s0 : w.heap.size + 3 ≤ wr.heap.size := ltOf D3.out
   have HLN : Hid (([] : List Int).length + x.on.length ≤ maxLen ∧ (([] : List Int).length + x.on.length) * 8 ≤ 140737488355328) := by
    have := L11.out
    refine ⟨?_, ?_⟩ <;> simp only [List.length_nil, maxLen] <;> omega
   clear hg hs hf hb1 hb2 hb3 hc c1 n1 n3
   have c1 := cellsOf D1.out; have n1 := ltOf D1.out
   go_wp2_with (at_builtin; refine intL.wpList_growS int_flat rfl _ _ 25 rfl Tryz.underlying25 KI rfl (Grow.made (Chg.refl [] wr)) (Chg.refl [] _) rfl (intL.sl_ext H11.out (HGR.out.2.2.alloc _)) HLN.out.1 HLN.out.2 ?_; intro v' w1 hg'; obtain ⟨p11, d11, g11, rfl, hs, hf, hc⟩ := hg'.sl; rw [List.nil_append, ← L11.out] at hs ⊢; clear c1 n1; obtain ⟨c1, n1, A1⟩ := bk0 hc D1.out; obtain ⟨c2, n2, A2⟩ := bk0 hc D2.out; obtain ⟨c3, n3, A3⟩ := bk0 hc D3.out; have fz := freeOf A3.out; have HON := hid (And.intro hs (And.intro hf hc)); clear hs hf hc hg')
   go_loopw [9] (fun vi wt => ∃ (i : Nat) (v : Value) (Wt : World), Wt = wt ∧ i ≤ l12 ∧ vi = .int .i64 i ∧ GrowC tapL 69 w1.heap.size wt v (x.tapes.take i) ∧ wt.heap[w.heap.size + 2]? = some (.cells #[.int .i64 x.shape.groups, .int .i64 x.shape.column, .int .i64 x.shape.data, .int .i64 x.shape.spare, .int .i64 x.shape.rows, .int .i64 x.shape.cap, .int .i64 x.shape.batch, .int .i64 x.shape.queue, .int .i64 x.shape.stage, .slice p10 k d10, .slice p11 l11 d11, v, .int .i64 x.writes, .int .i64 x.stop, .bool x.down] 34 (0, 0)) ∧ Chg [w.heap.size + 2] w1 wt) (fun vi _ => l12 - (intOf vi).toNat)
   case atStart => exact ⟨0, .slice none 0 0, _, rfl, by omega, rfl, by rw [List.take_zero]; exact GrowC.nil (by simp), heap_set_lit (cur := #[.int .i64 x.shape.groups, .int .i64 x.shape.column, .int .i64 x.shape.data, .int .i64 x.shape.spare, .int .i64 x.shape.rows, .int .i64 x.shape.cap, .int .i64 x.shape.batch, .int .i64 x.shape.queue, .int .i64 x.shape.stage, .slice p10 k d10, .slice p11 l11 d11, .slice a12 l12 c12, .int .i64 x.writes, .int .i64 x.stop, .bool x.down]) (heap_set_lit (cur := #[.int .i64 x.shape.groups, .int .i64 x.shape.column, .int .i64 x.shape.data, .int .i64 x.shape.spare, .int .i64 x.shape.rows, .int .i64 x.shape.cap, .int .i64 x.shape.batch, .int .i64 x.shape.queue, .int .i64 x.shape.stage, .slice p10 k d10, .slice a11 l11 c11, .slice a12 l12 c12, .int .i64 x.writes, .int .i64 x.stop, .bool x.down]) A3.out rfl) rfl, ((Chg.refl _ _).setCell _ _ (.inl (by simp))).setCell _ _ (.inl (by simp))⟩
   case round =>
    clear c1 n1 c2 n2 c3 n3 fz
    obtain ⟨i, v, wt, rfl, hi, rfl, hg, hb3, hc⟩ := hrel
    have hcw : Chg [] w w1 := HGR.out.2.2.trans0 HON.out.2.2
    have hcw2 : Chg [] w wt := hcw.trans hc (by simp)
    have E1 := hid (hc.keepb A1.out (by simp)); have E2 := hid (hc.keepb A2.out (by simp)); have E3 := hid hb3
    have m3 : w.heap.size + 2 < w1.heap.size := ltOf A3.out
    have c1 := cellsOf E1.out; have n1 := ltOf E1.out
    by_cases hlt : i < l12
    ·obtain ⟨y, b, off, a2, l2, c2, f2, HY, rfl, hy0, hy1, HYS⟩ := tape_at (tapL.sl_ext H12.out hcw2) hlt
     have HG := hid hg; have HC := hid hc
     have HYI := hid HY.out.1
     have hbw : b < wt.heap.size := Lay.sl_lt _ (tapL.sl_ext H12.out hcw2) b HY.out.2.1
     obtain ⟨_, _, _, _, exb, hby, -⟩ := tapL_iff.1 HYS.out
     obtain ⟨q1, q2, q3⟩ := Value.slice.inj (List.cons.inj (List.cons.inj exb).2).1
     subst q1 q2 q3
     have HYZ := hid (Z12.out y (List.mem_of_getElem? HYI.out) : totL totRec y.recs ≤ 1048576)
     have HBY := hid hby
     have LB := hid hby.1.symm
     have K1 := hid hy0; have K2 := hid hy1
     have HLL : Hid ((x.tapes.take i).length + [y].length ≤ maxLen ∧ ((x.tapes.take i).length + [y].length) * 32 ≤ 140737488355328) := by
      refine ⟨?_, ?_⟩ <;> simp only [List.length_take, List.length_cons, List.length_nil, maxLen] <;> omega
     have HNX := hid (take_next HYI.out)
     have HCW := hid hcw
     clear hg hb3 hc HY exb hby HYS hcw2 hcw
     go_wp2_with fail
     obtain ⟨CC, HCI, HCO⟩ := rg_cond (fun w' => Know w.heap.size #[.int .i64 x.shape.groups, .int .i64 x.shape.column, .int .i64 x.shape.data, .int .i64 x.shape.spare, .int .i64 x.shape.rows, .int .i64 x.shape.cap, .int .i64 x.shape.batch, .int .i64 x.shape.queue, .int .i64 x.shape.stage, .slice a10 k c10, .slice a11 l11 c11, .slice (some ⟨b, off, none⟩) l12 c12, .int .i64 x.writes, .int .i64 x.stop, .bool x.down] w' ∧ Know (w.heap.size + 2) #[.int .i64 x.shape.groups, .int .i64 x.shape.column, .int .i64 x.shape.data, .int .i64 x.shape.spare, .int .i64 x.shape.rows, .int .i64 x.shape.cap, .int .i64 x.shape.batch, .int .i64 x.shape.queue, .int .i64 x.shape.stage, .slice p10 k d10, .slice p11 l11 d11, v, .int .i64 x.writes, .int .i64 x.stop, .bool x.down] w' ∧ w'.cell? ⟨b, off + i * 2, none⟩ = some (.bool y.wiped) ∧ w'.cell? ⟨b, off + i * 2 + 1, none⟩ = some (.slice a2 l2 c2))
     refine gg_start [17] CC (by kernel_rfl) (HCI.out _ ⟨(Know.of (keep_drew E1.out)), (Know.of (keep_drew E3.out)), K1.out, K2.out⟩) (fun hcl hS => ?_)
     refine ggT 0 hcl hS ?_; clear hcl hS; intro hcl hS
     refine ggL 1 hcl hS HCO ?_; clear hcl hS; intro hcl hS
     refine ggT 2 hcl hS ?_; clear hcl hS; intro hcl hS
     refine ggL 3 hcl hS HCO ?_; clear hcl hS; intro hcl hS
     refine ggT 4 hcl hS ?_; clear hcl hS; intro hcl hS
     refine ggT 5 hcl hS ?_; clear hcl hS; intro hcl hS
     refine ggT 6 hcl hS ?_; clear hcl hS; intro hcl hS
     refine ggL 7 hcl hS HCO ?_; clear hcl hS; intro hcl hS
     refine ggT 8 hcl hS ?_; clear hcl hS; intro hcl hS
     refine ggL 9 hcl hS HCO ?_; clear hcl hS; intro hcl hS
     refine ggT 10 hcl hS ?_; clear hcl hS; intro hcl hS
     refine ggT 11 hcl hS ?_; clear hcl hS; intro hcl hS
     refine ggT 12 hcl hS ?_; clear hcl hS; intro hcl hS
     refine ggL 13 hcl hS HCO ?_; clear hcl hS; intro hcl hS
     refine ggC 14 hcl rfl (by kernel_rfl) (fun K hK => ?_)
     go_simp
     go_at_call 91
     refine (l5CopyRecs_any a2 l2 c2 y.recs _ _ (recL.sl_ext HBY.out ((Chg.refl [] wt).drew)) HYZ.out).mono ?_; rintro e w4 ⟨p2, d2, g2, rfl, hs, hf, hc⟩
     rw [LB.out] at hs ⊢; have HN1 := hid (And.intro hs (And.intro (hf.mono (C := wt.heap.size) (Nat.le_refl _)) (((Chg.refl [] wt).drew).trans0 hc))); obtain ⟨-, -, F3⟩ := bk hc (keep_drew E1.out) (by simp); obtain ⟨-, -, F4⟩ := bk hc (keep_drew E3.out) (by simp); have k1 := hid (cellKeep HN1.out.2.2 K1.out hbw); have k2 := hid (cellKeep HN1.out.2.2 K2.out hbw); have ql := HN1.out.2.2.size; clear hs hf hc
     go_wp2_with fail
     refine hK.out _ _ (fun _ => HCI.out _ ⟨(Know.of F3.out), (Know.of F4.out), k1.out, k2.out⟩) ?_
     clear hK K hcl hS
     intro hcl hS
     try simp only [Act.put, pA, pB, pC]
     refine ggT 15 hcl hS ?_; clear hcl hS; intro hcl hS
     refine ggC 16 hcl rfl (by kernel_rfl) (fun K hK => ?_)
     go_simp
     refine hK.out _ _ (fun _ => HCI.out _ ⟨(Know.of (keep_alloc F3.out _)), (Know.of (keep_alloc F4.out _)), (cellKeep ((Chg.refl [] w4).alloc _) k1.out (by omega)), (cellKeep ((Chg.refl [] w4).alloc _) k2.out (by omega))⟩) ?_
     clear hK K hcl hS
     intro hcl hS
     try simp only [Act.put, pA, pB, pC]
     refine ggC 17 hcl rfl (by kernel_rfl) (fun K hK => ?_)
     refine GrowB.step rfl _ _ 32 rfl Tryz.underlying32 KT rfl (HG.out.b.ext (HN1.out.2.2.alloc (.cells #[.bool y.wiped, .slice p2 l2 d2] 69))) ⟨w4.heap.size, 0, none⟩ 1 1 [.bool y.wiped, .slice p2 l2 d2] (ys := [y]) (f := g2) rfl rfl (new_cells w4 #[.bool y.wiped, .slice p2 l2 d2] 69) (tapL.all_single (tapL_iff.2 ⟨p2, l2, d2, g2, rfl, recL.sl_ext HN1.out.1 ((Chg.refl [] w4).alloc _), by simp⟩)) (HN1.out.2.1.chg ((Chg.refl [] w4).alloc _)) HLL.out.1 HLL.out.2 ?_
     intro v' w5 hg' hup
     rw [← HNX.out] at hg'
     obtain ⟨pv, lv, cv, rfl⟩ : ∃ a l c, v' = Value.slice a l c := by obtain ⟨a, c, f, h, -⟩ := hg'.sl; exact ⟨a, _, c, h⟩
     have HG2 := hid hg'; have HU := hid hup
     have F5 := hid ((hup.low (w.heap.size + 2) m3).trans (keep_alloc F4.out _)); have k5 := cellsOf F5.out; have n5 := ltOf F5.out; have z5 := freeOf F5.out; clear hg' hup
     refine hK.out _ _ (Till.done (m := 17) (by simp) (by rfl)) ?_
     clear hK K hcl hS
     intro hcl hS
     try simp only [Act.put, pA, pB, pC]
     refine ggT 18 hcl hS ?_; clear hcl hS; intro hcl hS
     refine ggC 19 hcl rfl (by kernel_rfl) (fun K hK => ?_)
     go_simp
     refine hK.out _ _ (Till.done (m := 17) (by simp) (by rfl)) ?_
     clear hK K hcl hS
     intro hcl hS
     try simp only [Act.put, pA, pB, pC]
     refine ggEnd (by kernel_rfl) ?_ _
     have r1 := HG2.out.chg ((Chg.refl [w.heap.size + 2] w5).setCell ⟨w.heap.size + 2, 11, none⟩ (.slice pv lv cv) (.inl (by simp))) (by simp; omega)
     have r3 : (w5.setCell ⟨w.heap.size + 2, 11, none⟩ (.slice pv lv cv)).heap[w.heap.size + 2]? = some (.cells #[.int .i64 x.shape.groups, .int .i64 x.shape.column, .int .i64 x.shape.data, .int .i64 x.shape.spare, .int .i64 x.shape.rows, .int .i64 x.shape.cap, .int .i64 x.shape.batch, .int .i64 x.shape.queue, .int .i64 x.shape.stage, .slice p10 k d10, .slice p11 l11 d11, .slice pv lv cv, .int .i64 x.writes, .int .i64 x.stop, .bool x.down] 34 (0, 0)) := heap_set_lit (cur := #[.int .i64 x.shape.groups, .int .i64 x.shape.column, .int .i64 x.shape.data, .int .i64 x.shape.spare, .int .i64 x.shape.rows, .int .i64 x.shape.cap, .int .i64 x.shape.batch, .int .i64 x.shape.queue, .int .i64 x.shape.stage, .slice p10 k d10, .slice p11 l11 d11, v, .int .i64 x.writes, .int .i64 x.stop, .bool x.down]) F5.out rfl
     have r4 := (HU.out.chg (HC.out.trans0 (HN1.out.2.2.alloc (.cells #[.bool y.wiped, .slice p2 l2 d2] 69))) (Nat.le_refl _)).setCell ⟨w.heap.size + 2, 11, none⟩ (.slice pv lv cv) (.inl (by simp))
     have HR := hid (And.intro r1 (And.intro r3 r4))
     clear r1 r3 r4
     go_wp2_with fail
     go_roundw
     case rel => exact ⟨i + 1, .slice pv lv cv, _, rfl, by omega, by go_num, HR.out.1, HR.out.2.1, HR.out.2.2⟩
     case measure => simp [intOf]; omega
    ·obtain rfl : i = l12 := by omega
     rw [List.take_of_length_le (by have := L12.out; omega)] at hg
     obtain ⟨p12, d12, g12, rfl, hs, hf⟩ := hg.sl
     rw [← L12.out] at hs E3
     have e3 := cellsOf E3.out; have m3' := ltOf E3.out; have e2 := cellsOf E2.out; have m2 := ltOf E2.out; have fz2 := freeOf E2.out
     have hq := row15_back (.int .i64 x.shape.groups) (.int .i64 x.shape.column) (.int .i64 x.shape.data) (.int .i64 x.shape.spare) (.int .i64 x.shape.rows) (.int .i64 x.shape.cap) (.int .i64 x.shape.batch) (.int .i64 x.shape.queue) (.int .i64 x.shape.stage) (.slice p10 k d10) (.slice p11 l11 d11) (.slice p12 i d12) (.int .i64 x.writes) (.int .i64 x.stop) (.bool x.down) E2.out
     have cS : Chg [w.heap.size + 1] wt (((((((((((((((wt.setCell ⟨w.heap.size + 1, 0, none⟩ (.int .i64 x.shape.groups)).setCell ⟨w.heap.size + 1, 1, none⟩ (.int .i64 x.shape.column)).setCell ⟨w.heap.size + 1, 2, none⟩ (.int .i64 x.shape.data)).setCell ⟨w.heap.size + 1, 3, none⟩ (.int .i64 x.shape.spare)).setCell ⟨w.heap.size + 1, 4, none⟩ (.int .i64 x.shape.rows)).setCell ⟨w.heap.size + 1, 5, none⟩ (.int .i64 x.shape.cap)).setCell ⟨w.heap.size + 1, 6, none⟩ (.int .i64 x.shape.batch)).setCell ⟨w.heap.size + 1, 7, none⟩ (.int .i64 x.shape.queue)).setCell ⟨w.heap.size + 1, 8, none⟩ (.int .i64 x.shape.stage)).setCell ⟨w.heap.size + 1, 9, none⟩ (.slice p10 k d10)).setCell ⟨w.heap.size + 1, 10, none⟩ (.slice p11 l11 d11)).setCell ⟨w.heap.size + 1, 11, none⟩ (.slice p12 i d12)).setCell ⟨w.heap.size + 1, 12, none⟩ (.int .i64 x.writes)).setCell ⟨w.heap.size + 1, 13, none⟩ (.int .i64 x.stop)).setCell ⟨w.heap.size + 1, 14, none⟩ (.bool x.down)) := chg15 (.int .i64 x.shape.groups) (.int .i64 x.shape.column) (.int .i64 x.shape.data) (.int .i64 x.shape.spare) (.int .i64 x.shape.rows) (.int .i64 x.shape.cap) (.int .i64 x.shape.batch) (.int .i64 x.shape.queue) (.int .i64 x.shape.stage) (.slice p10 k d10) (.slice p11 l11 d11) (.slice p12 i d12) (.int .i64 x.writes) (.int .i64 x.stop) (.bool x.down) (Chg.refl _ wt) (.inl (by simp))
     have s1 := HON.out.2.2.size
     have n10 := fun T (hT : ∀ b ∈ T, b < w.heap.size + 3) => HGR.out.2.1.nots T hT
     have n11 := fun T (hT : ∀ b ∈ T, b < wr.heap.size) => HON.out.2.1.nots T hT
     have K10 := drvL.slice.sl_chg (drvL.slice.sl_chg (drvL.slice.sl_ext HGR.out.1 HON.out.2.2) hc (n10 _ (by simp))) cS (n10 _ (by simp))
     have K11 := intL.sl_chg (intL.sl_chg HON.out.1 hc (n11 _ (by simp; omega))) cS (n11 _ (by simp; omega))
     have K12 := tapL.sl_chg hs cS (hf.nots _ (by simp; omega))
     have FF : Fresh w.heap.size (((((((((((((((wt.setCell ⟨w.heap.size + 1, 0, none⟩ (.int .i64 x.shape.groups)).setCell ⟨w.heap.size + 1, 1, none⟩ (.int .i64 x.shape.column)).setCell ⟨w.heap.size + 1, 2, none⟩ (.int .i64 x.shape.data)).setCell ⟨w.heap.size + 1, 3, none⟩ (.int .i64 x.shape.spare)).setCell ⟨w.heap.size + 1, 4, none⟩ (.int .i64 x.shape.rows)).setCell ⟨w.heap.size + 1, 5, none⟩ (.int .i64 x.shape.cap)).setCell ⟨w.heap.size + 1, 6, none⟩ (.int .i64 x.shape.batch)).setCell ⟨w.heap.size + 1, 7, none⟩ (.int .i64 x.shape.queue)).setCell ⟨w.heap.size + 1, 8, none⟩ (.int .i64 x.shape.stage)).setCell ⟨w.heap.size + 1, 9, none⟩ (.slice p10 k d10)).setCell ⟨w.heap.size + 1, 10, none⟩ (.slice p11 l11 d11)).setCell ⟨w.heap.size + 1, 11, none⟩ (.slice p12 i d12)).setCell ⟨w.heap.size + 1, 12, none⟩ (.int .i64 x.writes)).setCell ⟨w.heap.size + 1, 13, none⟩ (.int .i64 x.stop)).setCell ⟨w.heap.size + 1, 14, none⟩ (.bool x.down)) (g10 ++ (g11 ++ (g12 ++ []))) := by
      rw [List.append_nil]
      exact ((((HGR.out.2.1.chg HON.out.2.2).chg hc).chg cS).append (((HON.out.2.1.chg hc).chg cS).append (hf.chg cS) HON.out.2.1.lts s1) HGR.out.2.1.lts s0).mono (by omega)
     have hch : Chg [] w _ := hcw2.trans cS (fun y hy => .inr (by rw [List.mem_singleton] at hy; omega))
     obtain ⟨o1, o2, o3, o4, o5, o6, o7, o8, o9, o13, o14⟩ := HO.out
     have HN := hid (show NewAgg wldL x w (.returned (.agg #[.int .i64 x.shape.groups, .int .i64 x.shape.column, .int .i64 x.shape.data, .int .i64 x.shape.spare, .int .i64 x.shape.rows, .int .i64 x.shape.cap, .int .i64 x.shape.batch, .int .i64 x.shape.queue, .int .i64 x.shape.stage, .slice p10 k d10, .slice p11 l11 d11, .slice p12 i d12, .int .i64 x.writes, .int .i64 x.stop, .bool x.down])) _ from ⟨_, _, rfl, wldL_iff.2 ⟨p10, k, d10, g10, p11, l11, d11, g11, p12, i, d12, g12, rfl, o1, o2, o3, o4, o5, o6, o7, o8, o9, K10, K11, K12, o13, o14, rfl⟩, FF, hch⟩)
     have HQC := hid (cellsOf hq)
     clear hs hf hb3 hc hg hq cS s1 n11 n10 K10 K11 K12 FF hch hcw hcw2 o1 o2 o3 o4 o5 o6 o7 o8 o9 o13 o14
     go_wp2_with fail
     have hqc := HQC.out
     refine bodyPost_ret (v := .agg #[.int .i64 x.shape.groups, .int .i64 x.shape.column, .int .i64 x.shape.data, .int .i64 x.shape.spare, .int .i64 x.shape.rows, .int .i64 x.shape.cap, .int .i64 x.shape.batch, .int .i64 x.shape.queue, .int .i64 x.shape.stage, .slice p10 k d10, .slice p11 l11 d11, .slice p12 i d12, .int .i64 x.writes, .int .i64 x.stop, .bool x.down]) (by simp [results, Tryz.results71, go_sem, hqc]) rfl HN.out
theorem Chg.setRowAt {S : List Nat} {a w : World} {b : Nat} (cs : Array Value) (h : Chg S a w) (hb : b ∈ S ∨ a.heap.size ≤ b) : Chg S a (w.setRow b cs) :=
 ⟨h.os, h.tape, h.output, by simp only [World.setRow, Array.size_modify]; exact h.size, fun k hk hS => by rw [setRow_other _ _ _ _ (hb.elim (fun hb e => hS (by rw [e]; exact hb)) (fun hb => by omega))]; exact h.block k hk hS, fun k hk => by
  obtain ⟨c, E, h1⟩ := h.loose k hk
  by_cases e : k = b
  ·subst e; exact ⟨_, E, setRow_heap w k c _ E _ h1⟩
  ·exact ⟨c, E, by rw [setRow_other _ _ _ _ e]; exact h1⟩⟩
theorem store_wp' {P : Program} {o : Oper} {a : Act} {Kc : Act → World → Prop} {Q : Exit → Act → World → Prop} {w : World} {b : Nat} {cs vs : Array Value} {E : TypeId} {n : Nat} (p v : Operand) (t : TypeId)
  (hop : o.op = .store t p v) (hp : a.eval p = .pointer (some ⟨b, 0, none⟩)) (hv : a.eval v = .agg vs) (hi : (P.info? t).map (fun i => i.size) = some n) (h : w.heap[b]? = some (.cells cs E (0, 0)))
  (hn : vs.size = n) (hs : cs.size = n) (hone : vs.toList.all Value.oneCell' = true)
  (hk : Kc (a.put o.dst undef) (w.setRow b vs)) : o.wp P a w Kc Q := by
 obtain ⟨i, hi1, hi2⟩ := Option.map_eq_some_iff.1 hi
 have hst := run_storeCells_at (P := P) b 0 E vs.toList 0 cs w h (by simp; omega) (fun v hv => List.all_eq_true.1 hone v hv)
 have e : (cs.toList.take (0 + 0) ++ vs.toList ++ cs.toList.drop (0 + 0 + vs.toList.length)).toArray = vs := by
  have : cs.toList.drop (0 + 0 + vs.toList.length) = [] := List.drop_eq_nil_of_le (by simp; omega)
  rw [this]; simp
 rw [e] at hst
 have hsz : vs.size = i.size := by omega
 unfold Oper.wp execOp
 simp only [hop, hp, hv, Instr.storeAt, Instr.sureAddr, storeVar, Value.cells, sizeOf, typeInfo, Sem.run_bind, Sem.run_pure, Result.andThen_ok]
 have hp0 : (program : Sem Program).run P w = .ok P w := rfl
 simp only [hp0, Result.andThen_ok, hi1, Sem.run_pure, ← hsz, ne_eq, not_true, if_false, hst]
 exact hk
theorem store_wp {P : Program} {o : Oper} {a : Act} {Kc : Act → World → Prop} {Q : Exit → Act → World → Prop} {w : World} {b : Nat} {cs vs : Array Value} {E : TypeId} {n : Nat} (p v : Operand) (t : TypeId)
  (hop : o.op = .store t p v) (hp : a.eval p = .pointer (some ⟨b, 0, none⟩)) (hv : a.eval v = .agg vs) (hi : (P.info? t).map (fun i => i.size) = some n) (h : w.heap[b]? = some (.cells cs E (0, 0)))
  (hn : vs.size = n) (hs : cs.size = n) (hone : vs.toList.all Value.oneCell' = true)
  (hk : ∀ w', w'.heap[b]? = some (.cells vs E (0, 0)) → Chg [b] w w' → Kc (a.put o.dst undef) w') : o.wp P a w Kc Q :=
 store_wp' p v t hop hp hv hi h hn hs hone (hk _ (setRow_heap w b cs vs E (0, 0) h) ((Chg.refl _ w).setRowAt vs (.inl (by simp))))
theorem store_wide {P : Program} {ops : Array Oper} {rest : List Oper} {o : Oper} {a : Act} {Q : Exit → Act → World → Prop} {w : World} {b : Nat} {cs vs : Array Value} {E : TypeId} {n : Nat} (hgd : o.guard = none) (p v : Operand) (t : TypeId)
  (hop : o.op = .store t p v) (hp : a.eval p = .pointer (some ⟨b, 0, none⟩)) (hv : a.eval v = .agg vs) (hi : (P.info? t).map (fun i => i.size) = some n) (h : w.heap[b]? = some (.cells cs E (0, 0)))
  (hn : vs.size = n) (hs : cs.size = n) (hone : vs.toList.all Value.oneCell' = true)
  (hk : ∀ w', w'.heap[b]? = some (.cells vs E (0, 0)) → Chg [b] w w' → wpList P ops Q rest (a.put o.dst undef) w') : wpList P ops Q (o :: rest) a w :=
 wpList_plain hgd fun _ hK => store_wp p v t hop hp hv hi h hn hs hone fun w' h1 h2 => hK _ _ (hk w' h1 h2)
theorem alloc_setRow (w : World) (cs vs : Array Value) (E : TypeId) : (w.alloc (.cells cs E)).setRow w.heap.size vs = w.alloc (.cells vs E) := by
 unfold World.setRow World.alloc
 congr 1
 apply Array.ext_getElem?
 intro k
 rw [Array.getElem?_modify]
 by_cases h : w.heap.size = k
 ·subst h; simp
 ·rw [if_neg h, Array.getElem?_push, Array.getElem?_push, if_neg (fun e => h e.symm), if_neg (fun e => h e.symm)]
theorem store_new {P : Program} {ops : Array Oper} {rest : List Oper} {o : Oper} {a : Act} {Q : Exit → Act → World → Prop} {w : World} {b : Nat} {cs vs : Array Value} {E : TypeId} {n : Nat} (hgd : o.guard = none) (p v : Operand) (t : TypeId)
  (hop : o.op = .store t p v) (hp : a.eval p = .pointer (some ⟨b, 0, none⟩)) (hv : a.eval v = .agg vs) (hb : b = w.heap.size) (hi : (P.info? t).map (fun i => i.size) = some n)
  (hn : vs.size = n) (hs : cs.size = n) (hone : vs.toList.all Value.oneCell' = true)
  (hk : wpList P ops Q rest (a.put o.dst undef) (w.alloc (.cells vs E))) : wpList P ops Q (o :: rest) a (w.alloc (.cells cs E)) := by
 subst hb
 exact wpList_plain hgd fun _ hK => store_wp' p v t hop hp hv hi (new_alloc w _) hn hs hone (by rw [alloc_setRow]; exact hK _ _ hk)
theorem load_wp {P : Program} {o : Oper} {a : Act} {Kc : Act → World → Prop} {Q : Exit → Act → World → Prop} {w : World} {b : Nat} {cs : Array Value} {E : TypeId} {fr : Nat × Nat} {n : Nat} {fs : Array Field} (p : Operand) (t : TypeId)
  (hop : o.op = .load t p) (hp : a.eval p = .pointer (some ⟨b, 0, none⟩)) (hi : (P.info? t).map (fun i => i.size) = some n) (hu : P.underlying t = some (.struct fs)) (h : w.heap[b]? = some (.cells cs E fr))
  (hs : cs.size = n) (hk : Kc (a.put o.dst (.agg cs)) w) : o.wp P a w Kc Q := by
 obtain ⟨i, hi1, hi2⟩ := Option.map_eq_some_iff.1 hi
 have hld := run_loadCells_list (P := P) (w := w) ⟨b, 0, none⟩ cs.toList (fun j v hv => by
  have := cell_of_row w b j cs E fr h
  rw [Addr.add_lit, Nat.zero_add, this]; simpa using hv)
 have hsz : cs.toList.length = i.size := by simp; omega
 rw [hsz] at hld
 unfold Oper.wp execOp
 have hp0 : (program : Sem Program).run P w = .ok P w := rfl
 simp only [hop, hp, Instr.loadAt, Instr.sureAddr, loadVar, isAgg, run_underlying hu, sizeOf, typeInfo, Sem.run_bind, Sem.run_pure, Result.andThen_ok, hp0, hi1, if_true, hld]
 rw [Array.toArray_toList]
 exact hk
theorem load_wide {P : Program} {ops : Array Oper} {rest : List Oper} {o : Oper} {a : Act} {Q : Exit → Act → World → Prop} {w : World} {b : Nat} {cs : Array Value} {E : TypeId} {fr : Nat × Nat} {n : Nat} {fs : Array Field} (hgd : o.guard = none) (p : Operand) (t : TypeId)
  (hop : o.op = .load t p) (hp : a.eval p = .pointer (some ⟨b, 0, none⟩)) (hi : (P.info? t).map (fun i => i.size) = some n) (hu : P.underlying t = some (.struct fs)) (h : w.heap[b]? = some (.cells cs E fr))
  (hs : cs.size = n) (hk : wpList P ops Q rest (a.put o.dst (.agg cs)) w) : wpList P ops Q (o :: rest) a w :=
 wpList_plain hgd fun _ hK => load_wp p t hop hp hi hu h hs (hK _ _ hk)
theorem results_wide {P : Program} {fn : Func} {tmps : Array Value} {w : World} {b : Nat} {cs : Array Value} {E : TypeId} {fr : Nat × Nat} {n : Nat} {fs : Array Field} (s : Tmp) (t : TypeId) (hr : fn.results = #[.cell s t])
  (hp : tmps.getD s undef = .pointer (some ⟨b, 0, none⟩)) (hi : (P.info? t).map (fun i => i.size) = some n) (hu : P.underlying t = some (.struct fs)) (h : w.heap[b]? = some (.cells cs E fr)) (hs : cs.size = n) :
  (results fn tmps).run P w = .ok (.agg cs) w := by
 obtain ⟨i, hi1, hi2⟩ := Option.map_eq_some_iff.1 hi
 have hld := run_loadCells_list (P := P) (w := w) ⟨b, 0, none⟩ cs.toList (fun j v hv => by
  have := cell_of_row w b j cs E fr h
  rw [Addr.add_lit, Nat.zero_add, this]; simpa using hv)
 have hsz : cs.toList.length = i.size := by simp; omega
 rw [hsz, Array.toArray_toList] at hld
 have hp0 : (program : Sem Program).run P w = .ok P w := rfl
 have hl : (loadVar t ⟨b, 0, none⟩).run P w = .ok (.agg cs) w := by
  simp only [loadVar, isAgg, run_underlying hu, sizeOf, typeInfo, Sem.run_bind, Sem.run_pure, Result.andThen_ok, hp0, hi1, if_true, hld]
 have hp2 : tmps[s]?.getD undef = .pointer (some ⟨b, 0, none⟩) := by simpa using hp
 simp [results, hr, hp2, asAddr, hl]
theorem infoWd : (Tryz.prog.info? 34).map (fun i => i.size) = some 15 := by kernel_rfl
theorem wrs_z (w : World) (q : Int) (h : i64ok q) : wrsL.rep w (#[.int .i64 q, .int .i64 0, .int .i64 0, .int .i64 0, .int .i64 0, .int .i64 0, .int .i64 0, .int .i64 0, .int .i64 0, .int .i64 0, .slice none 0 0, .slice none 0 0, .slice none 0 0, .int .i64 0, .int .i64 0, .bool false] : Array Value).toList ⟨q, zWld⟩ [] :=
 wrsL_iff.2 ⟨_, rfl, h, wldL_iff.2 ⟨none, 0, 0, [], none, 0, 0, [], none, 0, 0, [], rfl, i64z, i64z, i64z, i64z, i64z, i64z, i64z, i64z, i64z, nil_sl0 _ _, nil_sl0 _ _, nil_sl0 _ _, i64z, i64z, rfl⟩⟩
theorem bad9 {w w1 w9 : World} {b : Nat} (q : Int) (hq : i64ok q) (r : WRes) (hr : r = ⟨q, zWld⟩) (hc : Chg [] w w1) (hc9 : Chg [b] w1 w9) (hb : w.heap.size ≤ b) :
  NewAgg wrsL r w (.returned (.agg #[.int .i64 q, .int .i64 0, .int .i64 0, .int .i64 0, .int .i64 0, .int .i64 0, .int .i64 0, .int .i64 0, .int .i64 0, .int .i64 0, .slice none 0 0, .slice none 0 0, .slice none 0 0, .int .i64 0, .int .i64 0, .bool false])) w9 :=
 ⟨_, [], rfl, by rw [hr]; exact wrs_z _ q hq, Fresh.nil _ _, hc.trans hc9 (fun y hy => .inr (by rw [List.mem_singleton] at hy; omega))⟩
theorem fin9 {w w1 w9 : World} {b : Nat} {y : Wld} {f : List Nat} {cs : Array Value} {c : List Value} (q : Int) (hq : i64ok q) (r : WRes) (hrr : r = ⟨q, y⟩) (hr : wldL.rep w1 c y f) (hcs : cs.toList = .int .i64 q :: c) (hf : Fresh w.heap.size w1 f) (hc : Chg [] w w1) (hc9 : Chg [b] w1 w9) (hn : b ∉ f) (hb : w.heap.size ≤ b) :
  NewAgg wrsL r w (.returned (.agg cs)) w9 :=
 ⟨_, f, rfl, by rw [hrr, hcs]; exact wrsL_iff.2 ⟨_, rfl, hq, wldL.chg hr hc9 (fun y hy hm => hn (by rw [List.mem_singleton] at hm; exact hm ▸ hy))⟩, hf.chg hc9, hc.trans hc9 (fun y hy => .inr (by rw [List.mem_singleton] at hy; omega))⟩
theorem infoWR : (Tryz.prog.info? 36).map (fun i => i.size) = some 16 := by kernel_rfl
theorem Fresh.sub {B : Nat} {w : World} {f g : List Nat} (h : Fresh B w f) (hs : g.Sublist f) : Fresh B w g := ⟨hs.nodup h.1, fun b hb => h.2 b (hs.subset hb)⟩
theorem up_i64 (x : Wld) : i64ok x.up := by
 have := fault_sml x
 unfold Wld.up i64ok
 repeat' split
 all_goals omega
theorem cut_any (m : Nat) {u0 u1 u2 u3 u4 u5 u6 u7 u8 u9 u10 u11 u12 u13 u14 : Value} (w : World) (h : w.heap[m]? = some (.cells #[u0, u1, u2, u3, u4, u5, u6, u7, u8, u9, u10, u11, u12, u13, u14] 34 (0, 0))) :
  Calls Tryz.prog 230 #[.pointer (some ⟨m, 0, none⟩)] w fun e w' => e = .returned (.tuple #[]) ∧ w'.heap[m]? = some (.cells #[u0, u1, u2, u3, u4, u5, u6, u7, u8, u9, .slice none 0 0, u11, u12, u13, .bool true] 34 (0, 0)) ∧ Chg [m] w w' := by
 have cm := cellsOf h; have nm := ltOf h; have fm := freeOf h
 have HM := hid h
 clear h
 go_enter Tryz.func230, Tryz.ntmps230
 go_wp2_with fail
 refine bodyPost_end (v := .tuple #[]) (by simp [results, Tryz.results230, go_sem]) rfl ?_
 exact ⟨rfl, heap_set_lit (heap_set_lit HM.out rfl) rfl, ((Chg.refl _ w).setCell _ _ (.inl (by simp))).setCell _ _ (.inl (by simp))⟩
set_option maxRecDepth 100000 in
set_option maxHeartbeats 2000000 in
theorem upFault_any (x : Wld) (cx : Array Value) (fx : List Nat) (w : World) (hx : wldL.rep w cx.toList x fx) :
  Calls Tryz.prog 78 #[.agg cx] w fun e w' => e = .returned (.int .i64 x.up) ∧ Chg [] w w' := by
 obtain ⟨a10, l10, c10, _, a11, l11, c11, _, a12, l12, c12, _, ex, -⟩ := wldL_iff.1 hx
 obtain rfl := Array.toList_inj.1 (ex.trans (List.toList_toArray).symm)
 have HW := hid hx
 obtain ⟨q, hq⟩ : ∃ q, q = x.fault := ⟨_, rfl⟩
 have HQ := hid hq
 have G0 := hid (show Chg [] w (w.alloc (.cells #[.int .i64 x.shape.groups, .int .i64 x.shape.column, .int .i64 x.shape.data, .int .i64 x.shape.spare, .int .i64 x.shape.rows, .int .i64 x.shape.cap, .int .i64 x.shape.batch, .int .i64 x.shape.queue, .int .i64 x.shape.stage, .slice a10 l10 c10, .slice a11 l11 c11, .slice a12 l12 c12, .int .i64 x.writes, .int .i64 x.stop, .bool x.down] 34)) from (Chg.refl [] w).alloc _)
 have B0 := hid (new_alloc w (.cells #[.int .i64 x.shape.groups, .int .i64 x.shape.column, .int .i64 x.shape.data, .int .i64 x.shape.spare, .int .i64 x.shape.rows, .int .i64 x.shape.cap, .int .i64 x.shape.batch, .int .i64 x.shape.queue, .int .i64 x.shape.stage, .slice a10 l10 c10, .slice a11 l11 c11, .slice a12 l12 c12, .int .i64 x.writes, .int .i64 x.stop, .bool x.down] 34))
 clear hx ex hq
 go_enter Tryz.func78, Tryz.ntmps78
 go_wp2_with fail
 refine (impl_WorldFault x _ fx _ (wldL.ext HW.out G0.out)).mono ?_
 rintro e w1 ⟨rfl, hc⟩
 rw [← HQ.out]
 obtain ⟨c0, n0, A0⟩ := bk0 hc B0.out
 have HC := hid (G0.out.trans0 hc)
 clear hc G0 B0
 by_cases hq0 : q = 0
 ·subst hq0
  cases hd : x.down
  ·have HU : x.up = 0 := by unfold Wld.up; rw [if_pos HQ.out.symm, if_neg (by rw [hd]; simp)]
   simp only [hd] at c0
   go_wp2_with fail
   go_ret
   exact ⟨by rw [HU]; rfl, HC.out⟩
  ·have HU : x.up = 9 := by unfold Wld.up; rw [if_pos HQ.out.symm, if_pos hd]
   simp only [hd] at c0
   go_wp2_with fail
   go_ret
   exact ⟨by rw [HU]; rfl, HC.out⟩
 ·have hb : ((q : Int) != 0) = true := by simpa using hq0
  have HU : x.up = q := by unfold Wld.up; rw [if_neg (by rw [← HQ.out]; exact hq0), HQ.out]
  go_wp2_with fail
  go_ret
  exact ⟨by rw [HU]; rfl, HC.out⟩
set_option maxRecDepth 100000 in
set_option maxHeartbeats 2000000 in
theorem l5Asked_any (x : Wld) (cx : Array Value) (fx : List Nat) (w : World) (hx : wldL.rep w cx.toList x fx) :
  Calls Tryz.prog 69 #[.agg cx] w fun e w' => e = .returned (.int .i64 x.up) ∧ Chg [] w w' := by
 obtain ⟨a10, l10, c10, _, a11, l11, c11, _, a12, l12, c12, _, ex, -⟩ := wldL_iff.1 hx
 obtain rfl := Array.toList_inj.1 (ex.trans (List.toList_toArray).symm)
 have HW := hid hx
 obtain ⟨q, hq⟩ : ∃ q, q = x.fault := ⟨_, rfl⟩
 have HQ := hid hq
 have G0 := hid (show Chg [] w (w.alloc (.cells #[.int .i64 x.shape.groups, .int .i64 x.shape.column, .int .i64 x.shape.data, .int .i64 x.shape.spare, .int .i64 x.shape.rows, .int .i64 x.shape.cap, .int .i64 x.shape.batch, .int .i64 x.shape.queue, .int .i64 x.shape.stage, .slice a10 l10 c10, .slice a11 l11 c11, .slice a12 l12 c12, .int .i64 x.writes, .int .i64 x.stop, .bool x.down] 34)) from (Chg.refl [] w).alloc _)
 have B0 := hid (new_alloc w (.cells #[.int .i64 x.shape.groups, .int .i64 x.shape.column, .int .i64 x.shape.data, .int .i64 x.shape.spare, .int .i64 x.shape.rows, .int .i64 x.shape.cap, .int .i64 x.shape.batch, .int .i64 x.shape.queue, .int .i64 x.shape.stage, .slice a10 l10 c10, .slice a11 l11 c11, .slice a12 l12 c12, .int .i64 x.writes, .int .i64 x.stop, .bool x.down] 34))
 clear hx ex hq
 go_enter Tryz.func69, Tryz.ntmps69
 go_wp2_with fail
 refine (spec_WorldFault x _ fx _ (wldL.ext HW.out G0.out)).mono ?_
 rintro e w1 ⟨rfl, hc⟩
 rw [← HQ.out]
 obtain ⟨c0, n0, A0⟩ := bk0 hc B0.out
 have HC := hid (G0.out.trans0 hc)
 clear hc G0 B0
 by_cases hq0 : q = 0
 ·subst hq0
  cases hd : x.down
  ·have HU : x.up = 0 := by unfold Wld.up; rw [if_pos HQ.out.symm, if_neg (by rw [hd]; simp)]
   simp only [hd] at c0
   go_wp2_with fail
   go_ret
   exact ⟨by rw [HU]; rfl, HC.out⟩
  ·have HU : x.up = 9 := by unfold Wld.up; rw [if_pos HQ.out.symm, if_pos hd]
   simp only [hd] at c0
   go_wp2_with fail
   go_ret
   exact ⟨by rw [HU]; rfl, HC.out⟩
 ·have hb : ((q : Int) != 0) = true := by simpa using hq0
  have HU : x.up = q := by unfold Wld.up; rw [if_neg (by rw [← HQ.out]; exact hq0), HQ.out]
  go_wp2_with fail
  go_ret
  exact ⟨by rw [HU]; rfl, HC.out⟩
theorem Lay.all_modN {α : Type} (L : Lay α) {w : World} {x : α} : ∀ {xs : List α} {i : Nat} {cs : List Value} {fps : List Nat}, L.all w cs xs fps → xs[i]? = some x →
  ∃ c f f1 f2, fps = f1 ++ f ++ f2 ∧ (∀ j, j < L.n → cs[i * L.n + j]? = c[j]?) ∧ L.rep w c x f ∧
   ∀ w' x' f', L.rep w' c x' f' → (∀ y, (y ∈ f1 ∨ y ∈ f2) → w'.heap[y]? = w.heap[y]?) → L.all w' cs (xs.set i x') (f1 ++ f' ++ f2) := by
 intro xs
 induction xs with
 | nil => intro i cs fps _ hx; simp at hx
 | cons y ys ih =>
  intro i cs fps h hx
  obtain ⟨c1, c2, f1, f2, rfl, rfl, h1, h2⟩ := h
  have hl := L.len h1
  cases i with
  | zero =>
   simp at hx
   subst hx
   refine ⟨c1, f1, [], f2, by simp, fun j hj => by rw [Nat.zero_mul, Nat.zero_add, List.getElem?_append_left (by omega)], h1, fun w' x' f' hr hk => ⟨c1, c2, f', f2, rfl, by simp, hr, L.all_keep h2 (fun y hy => hk y (.inr hy))⟩⟩
  | succ i =>
   obtain ⟨c, f, g1, g2, rfl, hc, hr, hm⟩ := ih h2 (by simpa using hx)
   refine ⟨c, f, f1 ++ g1, g2, by simp, fun j hj => ?_, hr, fun w' x' f' hr' hk => ⟨c1, c2, f1, _, rfl, by simp, L.keep h1 (fun y hy => hk y (.inl (by simp [hy]))), hm w' x' f' hr' (fun y hy => hk y (by rcases hy with hy | hy; exact .inl (by simp [hy]); exact .inr hy))⟩⟩
   have e : (i + 1) * L.n + j = c1.length + (i * L.n + j) := by rw [Nat.add_mul, Nat.one_mul, hl]; omega
   rw [e, List.getElem?_append_right (by omega), Nat.add_sub_cancel_left, hc j hj]
theorem Lay.sl_modN {α : Type} (L : Lay α) {w : World} {b off len cap : Nat} {xs : List α} {fp : List Nat} (h : L.sl w (some ⟨b, off, none⟩) len cap xs fp) (nd : fp.Nodup) {i : Nat} (hi : i < len) :
  ∃ x c f, xs[i]? = some x ∧ b ∈ fp ∧ (∀ j, j < L.n → w.cell? ⟨b, off + i * L.n + j, none⟩ = c[j]?) ∧ L.rep w c x f ∧ (∀ y ∈ f, y ∈ fp) ∧ f.Nodup ∧ b ∉ f ∧
   ∀ w' x' f', L.rep w' c x' f' → f'.Nodup → (∀ y ∈ f', y ∈ f ∨ y ∉ fp) → (∀ y ∈ fp, y ∉ f → w'.heap[y]? = w.heap[y]?) →
    ∃ fp', L.sl w' (some ⟨b, off, none⟩) len cap (xs.set i x') fp' ∧ fp'.Nodup ∧ ∀ y ∈ fp', (y ∈ fp ∧ y ∉ f) ∨ y ∈ f' := by
 obtain ⟨h1, h2, h3, h4, ⟨rfl, rfl⟩ | ⟨b', off', cur, E, fr, fps, ha, hb, hall, rfl⟩⟩ := h
 ·simp at h1; omega
 ·simp only [Option.some.injEq, Addr.mk.injEq, and_true] at ha
  obtain ⟨rfl, rfl⟩ := ha
  have hx : xs[i]? = some (xs[i]'(by omega)) := List.getElem?_eq_getElem _
  obtain ⟨c, f, f1, f2, rfl, hc, hr, hm⟩ := L.all_modN hall hx
  have nd1 := List.nodup_cons.1 nd
  have nd2 := List.nodup_append.1 nd1.2
  have nd3 := List.nodup_append.1 nd2.1
  have hf1 : ∀ y ∈ f1, y ∉ f := fun y hy hyf => nd3.2.2 y hy y hyf rfl
  have hf2 : ∀ y ∈ f2, y ∉ f := fun y hy hyf => nd2.2.2 y (by simp [hyf]) y hy rfl
  have hbf : b ∉ f := fun hbf => nd1.1 (by simp [hbf])
  refine ⟨_, c, f, hx, by simp, fun j hj => ?_, hr, fun y hy => by simp [hy], nd3.2.1, hbf, fun w' x' f' hr' ndf hd hk => ⟨b :: (f1 ++ f' ++ f2), ⟨by simpa using h1, h2, h3, h4, .inr ⟨b, off, cur, E, fr, _, rfl, ?_, hm w' x' f' hr' ?_, rfl⟩⟩, ?_, ?_⟩⟩
  ·rw [cell_of_row w b _ cur E fr hb, ← hc j hj, List.getElem?_take_of_lt, List.getElem?_drop]
   ·simp [Nat.add_assoc]
   ·calc i * L.n + j < i * L.n + L.n := by omega
     _ = (i + 1) * L.n := by rw [Nat.add_mul, Nat.one_mul]
     _ ≤ len * L.n := Nat.mul_le_mul_right _ (by omega)
  ·rw [hk b (by simp) hbf]; exact hb
  ·intro y hy
   refine hk y (by rcases hy with hy | hy <;> simp [hy]) (fun hyf => ?_)
   rcases hy with hy | hy
   ·exact hf1 y hy hyf
   ·exact hf2 y hy hyf
  ·have d1 : ∀ y ∈ f', y ∉ f1 := fun y hy h1 => by
    rcases hd y hy with h | h
    ·exact hf1 y h1 h
    ·exact h (by simp [h1])
   have d2 : ∀ y ∈ f', y ∉ f2 := fun y hy h1 => by
    rcases hd y hy with h | h
    ·exact hf2 y h1 h
    ·exact h (by simp [h1])
   have db : b ∉ f' := fun hy => by
    rcases hd b hy with h | h
    ·exact hbf h
    ·exact h (by simp)
   refine List.nodup_cons.2 ⟨fun hm => ?_, List.nodup_append.2 ⟨List.nodup_append.2 ⟨nd3.1, ndf, fun y hy z hz e => d1 z hz (e ▸ hy)⟩, nd2.2.1, fun y hy z hz e => ?_⟩⟩
   ·rw [List.mem_append, List.mem_append] at hm
    rcases hm with (hm | hm) | hm
    ·exact nd1.1 (by simp [hm])
    ·exact db hm
    ·exact nd1.1 (by simp [hm])
   ·subst e
    rcases List.mem_append.1 hy with hy | hy
    ·exact nd2.2.2 y (by simp [hy]) y hz rfl
    ·exact d2 y hy hz
  ·intro y hy
   simp only [List.mem_cons, List.mem_append] at hy
   rcases hy with rfl | (hy | hy) | hy
   ·exact .inl ⟨by simp, hbf⟩
   ·exact .inl ⟨by simp [hy], hf1 y hy⟩
   ·exact .inr hy
   ·exact .inl ⟨by simp [hy], hf2 y hy⟩
theorem Fresh.swap3 {B : Nat} {w : World} {a b c c' : List Nat} (h : Fresh B w (a ++ (b ++ (c ++ [])))) (nd : c'.Nodup) (hc : ∀ y ∈ c', y ∈ c ∨ (y ∉ a ++ (b ++ (c ++ [])) ∧ B ≤ y ∧ Loose w y)) : Fresh B w (a ++ (b ++ (c' ++ []))) := by
 obtain ⟨h1, h2⟩ := h
 rw [List.append_nil] at h1 h2 hc ⊢
 obtain ⟨na, nbc, dabc⟩ := List.nodup_append.1 h1
 obtain ⟨nb, nc, dbc⟩ := List.nodup_append.1 nbc
 refine ⟨List.nodup_append.2 ⟨na, List.nodup_append.2 ⟨nb, nd, fun y hy z hz e => ?_⟩, fun y hy z hz e => ?_⟩, fun y hy => ?_⟩
 ·subst e
  rcases hc y hz with h | ⟨h, -⟩
  ·exact dbc y hy y h rfl
  ·exact h (by simp [hy])
 ·subst e
  rcases List.mem_append.1 hz with hz | hz
  ·exact dabc y hy y (by simp [hz]) rfl
  ·rcases hc y hz with h | ⟨h, -⟩
   ·exact dabc y hy y (by simp [h]) rfl
   ·exact h (by simp [hy])
 ·rcases List.mem_append.1 hy with hy | hy
  ·exact h2 y (by simp [hy])
  ·rcases List.mem_append.1 hy with hy | hy
   ·exact h2 y (by simp [hy])
   ·rcases hc y hy with h | ⟨_, h, h'⟩
    ·exact h2 y (by simp [h])
    ·exact ⟨h, h'⟩

set_option maxHeartbeats 2000000 in
theorem raw_fail (m : Nat) (F : Value) {u0 u1 u2 u3 u4 u5 u6 u7 u8 u9 u10 u11 u14 : Value} {wr st : Int} (w : World) (h : w.heap[m]? = some (.cells #[u0, u1, u2, u3, u4, u5, u6, u7, u8, u9, u10, u11, .int .i64 wr, .int .i64 st, u14] 34 (0, 0))) (h1 : st ≠ -1) (h2 : st ≤ wr) :
  Calls Tryz.prog 156 #[.pointer (some ⟨m, 0, none⟩), F] w fun e w' => e = .returned (.bool false) ∧ w'.heap[m]? = some (.cells #[u0, u1, u2, u3, u4, u5, u6, u7, u8, u9, .slice none 0 0, u11, .int .i64 wr, .int .i64 st, .bool true] 34 (0, 0)) ∧ Chg [m] w w' := by
 have hne : ((st : Int) != -1) = true := by simpa using h1
 have HM := hid h
 clear h
 go_enter Tryz.func156, Tryz.ntmps156
 go_wp2_with fail
 obtain ⟨SS1, HSI1, HSO1⟩ := rg_cond (fun w' => Know m #[u0, u1, u2, u3, u4, u5, u6, u7, u8, u9, u10, u11, .int .i64 wr, .int .i64 st, u14] w')
 have hS0 := HSI1.out _ (Know.of (keep_drew HM.out))
 refine rg_start SS1 (by kernel_rfl) hS0 ?_
 refine rgT 0 hS0 ?_
 refine rgT 1 hS0 ?_
 refine rgT 2 hS0 ?_
 refine rgL 3 hS0 HSO1 ?_
 refine rgT 4 hS0 ?_
 refine rgT 5 hS0 ?_
 refine rgT 6 hS0 ?_
 refine rgT 7 hS0 ?_
 refine rgT 8 hS0 ?_
 refine rgL 9 hS0 HSO1 ?_
 refine rgT 10 hS0 ?_
 refine rgT 11 hS0 ?_
 refine rgT 12 hS0 ?_
 refine rgL 13 hS0 HSO1 ?_
 refine rgT 14 hS0 ?_
 refine rgT 15 hS0 ?_
 refine wpAnyH_done (by kernel_rfl) ?_ _
 go_wp2_with fail
 refine (cut_any m _ (keep_drew HM.out)).mono ?_
 rintro e w' ⟨rfl, hm, hc⟩
 have HN := hid (And.intro hm hc)
 clear hm hc
 go_wp2_with fail
 go_ret
 exact ⟨rfl, HN.out.1, ((Chg.refl [m] w).drew).trans HN.out.2 (fun y hy => .inl hy)⟩
theorem Lay.all_putO {α : Type} (L : Lay α) {w : World} {x : α} : ∀ {xs : List α} {i : Nat} {cs : List Value} {fps : List Nat}, L.all w cs xs fps → xs[i]? = some x →
  ∃ f f1 f2, fps = f1 ++ f ++ f2 ∧ (∃ c, L.rep w c x f ∧ ∀ j, j < L.n → cs[i * L.n + j]? = c[j]?) ∧
   ∀ w' c' x' f', L.rep w' c' x' f' → (∀ y, (y ∈ f1 ∨ y ∈ f2) → w'.heap[y]? = w.heap[y]?) → L.all w' (cs.take (i * L.n) ++ (c' ++ cs.drop (i * L.n + L.n))) (xs.set i x') (f1 ++ f' ++ f2) := by
 intro xs
 induction xs with
 | nil => intro i cs fps _ hx; simp at hx
 | cons y ys ih =>
  intro i cs fps h hx
  obtain ⟨c1, c2, f1, f2, rfl, rfl, h1, h2⟩ := h
  have hl := L.len h1
  cases i with
  | zero =>
   simp at hx
   subst hx
   refine ⟨f1, [], f2, by simp, ⟨c1, h1, fun j hj => by rw [Nat.zero_mul, Nat.zero_add, List.getElem?_append_left (by omega)]⟩, fun w' c' x' f' hr hk => ⟨c', c2, f', f2, ?_, by simp, hr, L.all_keep h2 (fun y hy => hk y (.inr hy))⟩⟩
   rw [Nat.zero_mul, List.take_zero, List.nil_append, Nat.zero_add, ← hl, List.drop_left]
  | succ i =>
   obtain ⟨f, g1, g2, rfl, ⟨c, hr, hc⟩, hm⟩ := ih h2 (by simpa using hx)
   have e0 : (i + 1) * L.n = c1.length + i * L.n := by rw [Nat.add_mul, Nat.one_mul, hl]; omega
   refine ⟨f, f1 ++ g1, g2, by simp, ⟨c, hr, fun j hj => ?_⟩, fun w' c' x' f' hr' hk => ⟨c1, c2.take (i * L.n) ++ (c' ++ c2.drop (i * L.n + L.n)), f1, g1 ++ f' ++ g2, ?_, by simp, L.keep h1 (fun y hy => hk y (.inl (by simp [hy]))), hm w' c' x' f' hr' (fun y hy => hk y (by rcases hy with hy | hy; exact .inl (by simp [hy]); exact .inr hy))⟩⟩
   ·have e : (i + 1) * L.n + j = c1.length + (i * L.n + j) := by omega
    rw [e, List.getElem?_append_right (by omega), Nat.add_sub_cancel_left, hc j hj]
   ·have e2 : c1.length + i * L.n + L.n = c1.length + (i * L.n + L.n) := by omega
    rw [e0, List.take_append, List.take_of_length_le (Nat.le_add_right _ _), Nat.add_sub_cancel_left, e2, List.drop_append, List.drop_eq_nil_of_le (Nat.le_add_right _ _), Nat.add_sub_cancel_left]
    simp
theorem row_put {cur : Array Value} {off i n len : Nat} {vs : List Value} (hvl : vs.length = n) (hle : i * n + n ≤ len * n) (hsz : off + (i * n + n) ≤ cur.size) :
  ((cur.toList.take (off + i * n) ++ (vs ++ cur.toList.drop (off + i * n + vs.length))).drop off).take (len * n) = ((cur.toList.drop off).take (len * n)).take (i * n) ++ (vs ++ ((cur.toList.drop off).take (len * n)).drop (i * n + n)) := by
 have hlen : cur.toList.length = cur.size := by simp
 rw [hvl]
 rw [List.drop_append_of_le_length (by rw [List.length_take]; omega), List.drop_take, show off + i * n - off = i * n by omega]
 rw [List.take_append, List.take_take, List.take_take, List.length_take, List.length_drop]
 rw [show min (len * n) (i * n) = i * n by omega, show min (i * n) (len * n) = i * n by omega]
 congr 1
 rw [show min (i * n) (cur.toList.length - off) = i * n by omega]
 rw [List.take_append, hvl, List.take_of_length_le (show vs.length ≤ len * n - i * n by omega)]
 congr 1
 rw [List.drop_take, List.drop_drop, show off + i * n + n = off + (i * n + n) by omega]
 congr 1
 omega
theorem Lay.sl_putO {α : Type} (L : Lay α) {w : World} {b off len cap : Nat} {xs : List α} {fp : List Nat} (h : L.sl w (some ⟨b, off, none⟩) len cap xs fp) (nd : fp.Nodup) {i : Nat} (hi : i < len) :
  ∃ x f c, xs[i]? = some x ∧ b ∈ fp ∧ (∀ j, j < L.n → w.cell? ⟨b, off + i * L.n + j, none⟩ = c[j]?) ∧ L.rep w c x f ∧ (∀ y ∈ f, y ∈ fp) ∧ f.Nodup ∧ b ∉ f ∧
   ∀ w7 c' x' f', w7.heap[b]? = w.heap[b]? → L.rep w7 c' x' f' → f'.Nodup → (∀ y ∈ f', y ∈ f ∨ y ∉ fp) → (∀ y ∈ fp, y ∉ f → w7.heap[y]? = w.heap[y]?) →
    ∃ fp', L.sl (w7.setCells b (off + i * L.n) c') (some ⟨b, off, none⟩) len cap (xs.set i x') fp' ∧ fp'.Nodup ∧ ∀ y ∈ fp', (y ∈ fp ∧ y ∉ f) ∨ y ∈ f' := by
 obtain ⟨x, c, f, hx, hb, hc, hr, hf, hfn, hbf, -⟩ := L.sl_modN h nd hi
 obtain ⟨h1, h2, h3, h4, ⟨rfl, rfl⟩ | ⟨b', off', cur, E, fr, fps, ha, hb', hall, rfl⟩⟩ := h
 ·simp at h1; omega
 ·simp only [Option.some.injEq, Addr.mk.injEq, and_true] at ha
  obtain ⟨rfl, rfl⟩ := ha
  obtain ⟨f0, f1, f2, rfl, ⟨c0, hr0, hc0⟩, hm⟩ := L.all_putO hall hx
  have nd1 := List.nodup_cons.1 nd
  have nd2 := List.nodup_append.1 nd1.2
  have nd3 := List.nodup_append.1 nd2.1
  have hal := L.all_len hall
  rw [List.length_take, List.length_drop] at hal
  have hle : (i + 1) * L.n ≤ len * L.n := Nat.mul_le_mul_right _ (by omega)
  rw [Nat.add_mul, Nat.one_mul] at hle
  have hsz : off + (i * L.n + L.n) ≤ cur.size := by
   have := L.pos
   have e : cur.toList.length = cur.size := by simp
   rw [h1] at hle
   omega
  have hcell : ∀ j, j < L.n → w.cell? ⟨b, off + i * L.n + j, none⟩ = c0[j]? := fun j hj => by
   rw [cell_of_row w b _ cur E fr hb', ← hc0 j hj, List.getElem?_take_of_lt, List.getElem?_drop]
   ·simp [Nat.add_assoc]
   ·omega
  have hf1 : ∀ y ∈ f1, y ∉ f0 := fun y hy hyf => nd3.2.2 y hy y hyf rfl
  have hf2 : ∀ y ∈ f2, y ∉ f0 := fun y hy hyf => nd2.2.2 y (by simp [hyf]) y hy rfl
  have hbf0 : b ∉ f0 := fun hbf => nd1.1 (by simp [hbf])
  refine ⟨x, f0, c0, hx, by simp, hcell, hr0, fun y hy => by simp [hy], nd3.2.1, hbf0, fun w7 c' x' f' hb7 hr' ndf hd hk => ?_⟩
  have hvl := L.len hr'
  have db : b ∉ f' := fun hy => by
   rcases hd b hy with h | h
   ·exact hbf0 h
   ·exact h (by simp)
  have d1 : ∀ y ∈ f', y ∉ f1 := fun y hy h1 => by
   rcases hd y hy with h | h
   ·exact hf1 y h1 h
   ·exact h (by simp [h1])
  have d2 : ∀ y ∈ f', y ∉ f2 := fun y hy h1 => by
   rcases hd y hy with h | h
   ·exact hf2 y h1 h
   ·exact h (by simp [h1])
  have hfar : ∀ y, y ≠ b → (w7.setCells b (off + i * L.n) c').heap[y]? = w7.heap[y]? := fun y hy => setCells_far hy c' (off + i * L.n) w7
  have hr2 := L.keep hr' (fun y hy => hfar y (fun e => db (e ▸ hy)))
  have hall' := hm _ c' x' f' hr2 (fun y hy => by
   rw [hfar y (fun e => nd1.1 (by subst e; rcases hy with hy | hy <;> simp [hy]))]
   refine hk y (by rcases hy with hy | hy <;> simp [hy]) (fun hyf => ?_)
   rcases hy with hy | hy
   ·exact hf1 y hy hyf
   ·exact hf2 y hy hyf)
  refine ⟨b :: (f1 ++ f' ++ f2), ⟨by simpa using h1, h2, h3, h4, .inr ⟨b, off, _, E, fr, _, rfl, setCells_heap c' _ w7 cur (by rw [hb7]; exact hb'), ?_, rfl⟩⟩, ?_, ?_⟩
  ·rw [setRow_toList c' _ cur (by omega), row_put hvl hle hsz]
   exact hall'
  ·refine List.nodup_cons.2 ⟨fun hm => ?_, List.nodup_append.2 ⟨List.nodup_append.2 ⟨nd3.1, ndf, fun y hy z hz e => d1 z hz (e ▸ hy)⟩, nd2.2.1, fun y hy z hz e => ?_⟩⟩
   ·rw [List.mem_append, List.mem_append] at hm
    rcases hm with (hm | hm) | hm
    ·exact nd1.1 (by simp [hm])
    ·exact db hm
    ·exact nd1.1 (by simp [hm])
   ·subst e
    rcases List.mem_append.1 hy with hy | hy
    ·exact nd2.2.2 y (by simp [hy]) y hz rfl
    ·exact d2 y hy hz
  ·intro y hy
   simp only [List.mem_cons, List.mem_append] at hy
   rcases hy with rfl | (hy | hy) | hy
   ·exact .inl ⟨by simp, hbf0⟩
   ·exact .inl ⟨by simp [hy], hf1 y hy⟩
   ·exact .inr hy
   ·exact .inl ⟨by simp [hy], hf2 y hy⟩
end Go.Proofs.YtphmpimgbmedbaaGreat
namespace Go.Proofs.YtphmpimgbmedbaaGreat
open Go.RowKit
open Go.Lib (hid)
theorem load_row {P : Program} {o : Oper} {a : Act} {Kc : Act → World → Prop} {Q : Exit → Act → World → Prop} {w : World} {b k n : Nat} {cs : List Value} {fs : Array Field} (p : Operand) (t : TypeId)
  (hop : o.op = .load t p) (hp : a.eval p = .pointer (some ⟨b, k, none⟩)) (hi : (P.info? t).map (fun i => i.size) = some n) (hu : P.underlying t = some (.struct fs)) (h : ∀ j v, cs[j]? = some v → w.cell? ⟨b, k + j, none⟩ = some v)
  (hs : cs.length = n) (hk : Kc (a.put o.dst (.agg cs.toArray)) w) : o.wp P a w Kc Q := by
 obtain ⟨i, hi1, hi2⟩ := Option.map_eq_some_iff.1 hi
 have hld := run_loadCells_list (P := P) (w := w) ⟨b, k, none⟩ cs (fun j v hv => by rw [Addr.add_lit]; exact h j v hv)
 have hsz : cs.length = i.size := by omega
 rw [hsz] at hld
 unfold Oper.wp execOp
 have hp0 : (program : Sem Program).run P w = .ok P w := rfl
 simp only [hop, hp, Instr.loadAt, Instr.sureAddr, loadVar, isAgg, run_underlying hu, sizeOf, typeInfo, Sem.run_bind, Sem.run_pure, Result.andThen_ok, hp0, hi1, if_true, hld]
 exact hk
theorem load_rowL {P : Program} {ops : Array Oper} {rest : List Oper} {o : Oper} {a : Act} {Q : Exit → Act → World → Prop} {w : World} {b k n : Nat} {cs : List Value} {fs : Array Field} (hgd : o.guard = none) (p : Operand) (t : TypeId)
  (hop : o.op = .load t p) (hp : a.eval p = .pointer (some ⟨b, k, none⟩)) (hi : (P.info? t).map (fun i => i.size) = some n) (hu : P.underlying t = some (.struct fs)) (h : ∀ j v, cs[j]? = some v → w.cell? ⟨b, k + j, none⟩ = some v)
  (hs : cs.length = n) (hk : wpList P ops Q rest (a.put o.dst (.agg cs.toArray)) w) : wpList P ops Q (o :: rest) a w :=
 wpList_plain hgd fun _ hK => load_row p t hop hp hi hu h hs (hK _ _ hk)
theorem store_row {P : Program} {o : Oper} {a : Act} {Kc : Act → World → Prop} {Q : Exit → Act → World → Prop} {w : World} {b k n : Nat} {cs : List Value} (p v : Operand) (t : TypeId)
  (hop : o.op = .store t p v) (hp : a.eval p = .pointer (some ⟨b, k, none⟩)) (hv : a.eval v = .agg cs.toArray) (hi : (P.info? t).map (fun i => i.size) = some n)
  (hc : ∀ j, j < n → (w.cell? ⟨b, k + j, none⟩).isSome = true) (hf : ∀ j, w.frozen? ⟨b, j, none⟩ = false) (hs : cs.length = n) (hone : ∀ u ∈ cs, u.oneCell' = true)
  (hk : Kc (a.put o.dst undef) (w.setCells b k cs)) : o.wp P a w Kc Q := by
 obtain ⟨i, hi1, hi2⟩ := Option.map_eq_some_iff.1 hi
 have hst := run_storeCells_cells (P := P) b k cs 0 w (fun j hj => by rw [Nat.add_zero]; exact hc j (by omega)) (fun j _ => hf _) hone
 rw [Nat.add_zero] at hst
 have hsz : cs.toArray.size = i.size := by simp; omega
 unfold Oper.wp execOp
 simp only [hop, hp, hv, Instr.storeAt, Instr.sureAddr, storeVar, Value.cells, sizeOf, typeInfo, Sem.run_bind, Sem.run_pure, Result.andThen_ok]
 have hp0 : (program : Sem Program).run P w = .ok P w := rfl
 simp only [hp0, Result.andThen_ok, hi1, Sem.run_pure, ← hsz, ne_eq, not_true, if_false, hst]
 exact hk
theorem store_rowL {P : Program} {ops : Array Oper} {rest : List Oper} {o : Oper} {a : Act} {Q : Exit → Act → World → Prop} {w : World} {b k n : Nat} {cs : List Value} (hgd : o.guard = none) (p v : Operand) (t : TypeId)
  (hop : o.op = .store t p v) (hp : a.eval p = .pointer (some ⟨b, k, none⟩)) (hv : a.eval v = .agg cs.toArray) (hi : (P.info? t).map (fun i => i.size) = some n)
  (hc : ∀ j, j < n → (w.cell? ⟨b, k + j, none⟩).isSome = true) (hf : ∀ j, w.frozen? ⟨b, j, none⟩ = false) (hs : cs.length = n) (hone : ∀ u ∈ cs, u.oneCell' = true)
  (hk : wpList P ops Q rest (a.put o.dst undef) (w.setCells b k cs)) : wpList P ops Q (o :: rest) a w :=
 wpList_plain hgd fun _ hK => store_row p v t hop hp hv hi hc hf hs hone (hK _ _ hk)
section
variable {α : Type} {L : Lay α} {w w' : World} {b off : Nat} {ps : List (α × List Nat)}
def Celled (w : World) (b k n : Nat) (cs : List Value) : Prop := cs.length = n ∧ (∀ j v, cs[j]? = some v → w.cell? ⟨b, k + j, none⟩ = some v) ∧ ∀ u ∈ cs, u.oneCell' = true
theorem RowAt.look (h : RowAt L w b off ps) {i : Nat} {p : α × List Nat} (hp : ps[i]? = some p) : ∃ c, L.rep w c p.1 p.2 ∧ b ∉ p.2 ∧ Celled w b (off + i * L.n) L.n c := by
 have hi := (List.getElem?_eq_some_iff.1 hp).1
 obtain ⟨q, c, hq, hr, hb, hc⟩ := h.at hi
 rw [hp] at hq
 obtain rfl := Option.some.inj hq
 refine ⟨c, hr, hb, L.len hr, fun j v hv => ?_, ?_⟩
 ·rw [hc j (by have := (List.getElem?_eq_some_iff.1 hv).1; have := L.len hr; omega)]; exact hv
 ·intro u hu
  exact Lay.all_one (L := L) (L.all_single hr) u hu
theorem RowAt.isSome (h : RowAt L w b off ps) {i : Nat} (hi : i < ps.length) : ∀ j, j < L.n → (w.cell? ⟨b, off + i * L.n + j, none⟩).isSome = true := fun j hj => by
 obtain ⟨c, hr, -, h1, h2, -⟩ := h.look (List.getElem?_eq_getElem hi)
 rw [h2 j c[j] (List.getElem?_eq_getElem (by omega))]; rfl
theorem Celled.far {k n : Nat} {cs vs : List Value} (h : Celled w b k n cs) (b2 k2 : Nat) (hd : b ≠ b2) : Celled (w.setCells b2 k2 vs) b k n cs :=
 ⟨h.1, fun j v hv => by rw [World.cell?_of_block (setCells_far hd vs k2 w)]; exact h.2.1 j v hv, h.2.2⟩
theorem RowAt.swap (h : RowAt L w b off ps) {i j : Nat} {p q : α × List Nat} (hi : ps[i]? = some p) (hj : ps[j]? = some q) {cp cq : List Value} (rp : L.rep w cp p.1 p.2) (rq : L.rep w cq q.1 q.2) (bp : b ∉ p.2) (bq : b ∉ q.2) :
  RowAt L (w.setCells b (off + i * L.n) cq) b off (ps.set i q) ∧ RowAt L ((w.setCells b (off + i * L.n) cq).setCells b (off + j * L.n) cp) b off ((ps.set i q).set j p) := by
 have h1 := h.put (i := i) (List.getElem?_eq_some_iff.1 hi).1 rq bq
 refine ⟨h1, h1.put (i := j) (by rw [List.length_set]; exact (List.getElem?_eq_some_iff.1 hj).1) (L.keep rp (fun y hy => setCells_far (fun (e : y = b) => bp (e ▸ hy)) _ _ _)) bp⟩
end
end Go.Proofs.YtphmpimgbmedbaaGreat
namespace Go.Proofs.YtphmpimgbmedbaaGreat
open Go.RowKit
open Go.Lib (hid)
theorem infoRc : (Tryz.prog.info? 67).map (fun i => i.size) = some 9 := by kernel_rfl
abbrev RP := Rec × List Nat
section
variable {w w' : World} {b off : Nat} {ps : List RP}
theorem rec_look (h : RowAt recL w b off ps) {i : Nat} {p : RP} (hp : ps[i]? = some p) : ∃ c : List Value, recL.rep w c p.1 p.2 ∧ b ∉ p.2 ∧ Celled w b (off + i * 9) 9 c := h.look hp
theorem rec_some (h : RowAt recL w b off ps) {i : Nat} (hi : i < ps.length) : ∀ j, j < 9 → (w.cell? ⟨b, off + i * 9 + j, none⟩).isSome = true := h.isSome hi
end
theorem Celled.ext {w w' : World} {b k n : Nat} {cs : List Value} (h : Celled w b k n cs) (hc : Chg [] w w') (hb : b < w.heap.size) : Celled w' b k n cs := ⟨h.1, fun j v hv => (hc.facts.1 b _ hb).trans (h.2.1 j v hv), h.2.2⟩
end Go.Proofs.YtphmpimgbmedbaaGreat
namespace Go.Proofs.YtphmpimgbmedbaaGreat
open Go.RowKit
open Go.Lib (hid)
theorem filter_map' {α β : Type} (f : α → β) (p : β → Bool) : ∀ l : List α, (l.map f).filter p = (l.filter (fun a => p (f a))).map f
 | [] => rfl
 | a :: l => by
  rw [List.map_cons, List.filter_cons, List.filter_cons, filter_map' f p l]
  split <;> rfl
def Shr (n0 : Nat) (w : World) (v : Value) (xs : List Rec) : Prop := ∃ g fps, recL.os 67 w v xs (some g) fps ∧ n0 ≤ g ∧ ∀ y ∈ fps, y < n0
theorem Shr.ext {n0 : Nat} {w w' : World} {v : Value} {xs : List Rec} (h : Shr n0 w v xs) (hc : Chg [] w w') : Shr n0 w' v xs := by
 obtain ⟨g, fps, h1, h2, h3⟩ := h
 exact ⟨g, fps, recL.os_ext h1 hc, h2, h3⟩
theorem Shr.made {n0 : Nat} {w : World} (h : n0 ≤ w.heap.size) : Shr n0 (w.alloc (.cells #[] 67)) (.slice (some ⟨w.heap.size, 0, none⟩) 0 0) [] :=
 ⟨w.heap.size, [], recL.os_made 67 w #[] 0 (by simp [maxLen]) (by simp), h, by simp⟩
theorem Shr.sl {n0 : Nat} {w : World} {v : Value} {xs : List Rec} (h : Shr n0 w v xs) : ∃ g cap fps, v = .slice (some ⟨g, 0, none⟩) xs.length cap ∧ recL.sl w (some ⟨g, 0, none⟩) xs.length cap xs (g :: fps) ∧ Loose w g ∧ n0 ≤ g ∧ ∀ y ∈ fps, y < n0 := by
 obtain ⟨g, fps, h1, h2, h3⟩ := h
 have hlo := recL.os_loose h1 g rfl
 obtain ⟨a, cap, rfl, hs⟩ := recL.os_sl h1
 rcases h1 with ⟨e, -, e2, -⟩ | ⟨g', cap', cur, e, e2, hrest⟩
 ·cases e2
 ·obtain rfl : g = g' := Option.some.inj e2
  cases e
  exact ⟨g, cap, fps, rfl, hs, hlo, h2, h3⟩
theorem Shr.row {n0 : Nat} {w : World} {v : Value} {xs : List Rec} (h : Shr n0 w v xs) : ∃ g cap ps, v = .slice (some ⟨g, 0, none⟩) xs.length cap ∧ RowAt recL w g 0 ps ∧ ps.map (·.1) = xs ∧ n0 ≤ g ∧ xs.length ≤ cap ∧ cap ≤ maxLen ∧ ∀ p ∈ ps, ∀ y ∈ p.2, y < n0 := by
 obtain ⟨g, cap, fps, rfl, hs, hlo, h2, h3⟩ := h.sl
 have hc := hs.2.1; have hm := hs.2.2.1
 obtain ⟨ps, hr, e1, e2⟩ := Lay.sl_row hs hlo ⟨fps, rfl, fun hm => by have := h3 g hm; omega⟩
 refine ⟨g, cap, ps, rfl, hr, e1, h2, hc, hm, fun p hp y hy => h3 y ?_⟩
 rw [(List.cons.inj e2).2]
 exact List.mem_flatMap.2 ⟨p, hp, hy⟩
end Go.Proofs.YtphmpimgbmedbaaGreat
