
/- Blank blocks and drives, a new world: both sides. -/
import Derived.Test.YtnnhopcjlnnchaaBla
import Derived.Test.YtnnhopcjlnnchaaCpd
import Derived.Test.YtnnhopcjlnnchaaShape
import Derived.Test.YtnnhopcjlnnchaaRfb
import Derived.Test.YtnnhopcjlnnchaaWhS
import Derived.Test.YtnnhopcjlnnchaaRgg
namespace Go.Proofs.Ytnnhopcjlnnchaa
open Go.RowKit

theorem newR_bad {x : Shp} (h : ¬ x.fault = 0) : newR x = ⟨x.fault, zWld⟩ := if_neg h
theorem newR_ok {x : Shp} (h : x.fault = 0) : newR x = ⟨0, newWld x⟩ := if_pos h
theorem rep_next {α : Type} (n : Nat) (x : α) : List.replicate n x ++ [x] = List.replicate (n + 1) x := (List.replicate_succ' ..).symm

set_option maxRecDepth 100000 in
set_option maxHeartbeats 2000000 in
theorem blank_any (n : Nat) (w : World) (hn : n ≤ 1000) :
    Calls Try.prog 23 #[.int .i64 n] w (NewSl blkL (List.replicate n bblk) w) := by
  have hmk := makeBlock n (by omega)
  have hmb : ∀ w : World, (Instr.makeSlice 64 (.int .i64 4) (.int .i64 4)).run Try.prog w = .ok (.slice (some ⟨w.heap.size, 0, none⟩) 4 4) (w.alloc (.cells (zrow (.int .u8 0) 4) 5)) := fun w => make_bytes 4 (by omega) w
  go_enter Try.func23, Try.ntmps23
  go_wp2_with fail
  go_loopw [9] (fun vk wr => ∃ (k : Nat) (Wr : World), Wr = wr ∧ k ≤ n ∧ vk = .int .i64 k ∧ BlankTo w wr w.heap.size n k) (fun vk _ => n - (intOf vk).toNat)
  case atStart => exact ⟨0, _, rfl, by omega, rfl, BlankTo.start n (blkL.sl_zrow (z := .agg #[.int .i64 0, .slice none 0 0]) w 77 n (by omega) (zBlk_rep _))⟩
  case round =>
    obtain ⟨k, wr, rfl, hk, rfl, hg⟩ := hrel
    by_cases hlt : k < n
    · obtain ⟨⟨v1, hb1⟩, hb2, hb3⟩ := hg.cells hlt
      have HG := Lib.hid hg; clear hg
      go_wp2_with fail
      go_roundw
      case rel => exact ⟨k + 1, _, rfl, by omega, by go_num, by have h := HG.out.next hlt ((Chg.refl _ _).alloc _) (byte_zrow wr 5 4 (by omega)) (fresh_new _ _ _); rw [World.setCell_alloc_past _ _ _ _ hb2] at h; exact h⟩
      case measure => simp [intOf]; omega
    · obtain rfl : k = n := by omega
      have HN := Lib.hid (hg.last (by unfold maxLen; omega)); clear hg
      go_wp2_with fail
      go_ret
      have hl : (List.replicate k bblk).length = k := by simp
      exact HN.out

theorem blank_x {x : Shp} {n : Nat} (h : x.rows = n) (hn : n ≤ 1000) (w : World) : Calls Try.prog 23 #[.int .i64 x.rows] w (NewSl blkL (List.replicate n bblk) w) := by
  rw [h]; exact blank_any n w hn

set_option maxRecDepth 100000 in
set_option maxHeartbeats 2000000 in
theorem l5Blank_any (w : World) : Calls Try.prog 46 #[] w (NewAgg blkL bblk w) := by
  have hmb : ∀ w : World, (Instr.makeSlice 64 (.int .i64 4) (.int .i64 4)).run Try.prog w = .ok (.slice (some ⟨w.heap.size, 0, none⟩) 4 4) (w.alloc (.cells (zrow (.int .u8 0) 4) 5)) := fun w => make_bytes 4 (by omega) w
  go_enter Try.func46, Try.ntmps46
  go_wp2_with fail
  have hsl := byte_zrow (w.alloc (.cells #[.int .i64 0, .slice (some ⟨w.heap.size + 1, 0, none⟩) 4 4] 77)) 5 4 (by omega)
  have hsz : (w.alloc (.cells #[.int .i64 0, .slice (some ⟨w.heap.size + 1, 0, none⟩) 4 4] 77)).heap.size = w.heap.size + 1 := by simp
  have hb := (fresh_new (w.alloc (.cells #[.int .i64 0, .slice (some ⟨w.heap.size + 1, 0, none⟩) 4 4] 77)) (zrow (.int .u8 0) 4) 5)
  rw [hsz] at hb hsl
  refine bodyPost_ret (v := .agg #[.int .i64 0, .slice (some ⟨w.heap.size + 1, 0, none⟩) 4 4]) (by simp [results, Try.results46, go_sem]) rfl ⟨_, _, rfl, blkL_iff.2 ⟨_, _, _, _, rfl, i64z, hsl, rfl⟩, ?_, ?_⟩
  · exact hb.mono (by omega)
  · exact ((Chg.refl [] w).alloc _).alloc _

set_option maxRecDepth 100000 in
set_option maxHeartbeats 4000000 in
theorem l5Fresh_any (x : Shp) (n : Nat) (w : World) (hx : x.rows = n) (hn : n ≤ 1000) :
    Calls Try.prog 19 #[.agg #[.int .i64 x.groups, .int .i64 x.column, .int .i64 x.data, .int .i64 x.spare, .int .i64 x.rows, .int .i64 x.cap, .int .i64 x.batch, .int .i64 x.queue, .int .i64 x.stage]] w (NewAgg drvL (freshDrv n) w) := by
  obtain ⟨KB, _⟩ := kindBlock
  have HX := Lib.hid hx
  clear hx
  have G0 := Lib.hid (show Chg [] w (((w.alloc (.cells #[.int .i64 x.groups, .int .i64 x.column, .int .i64 x.data, .int .i64 x.spare, .int .i64 x.rows, .int .i64 x.cap, .int .i64 x.batch, .int .i64 x.queue, .int .i64 x.stage] 24)).alloc (.cells #[.bool false, .slice none 0 0] 50)).alloc (.cells #[.bool false, .slice none 0 0] 50)) from (((Chg.refl [] w).alloc _).alloc _).alloc _)
  have B0 := Lib.hid (show (((w.alloc (.cells #[.int .i64 x.groups, .int .i64 x.column, .int .i64 x.data, .int .i64 x.spare, .int .i64 x.rows, .int .i64 x.cap, .int .i64 x.batch, .int .i64 x.queue, .int .i64 x.stage] 24)).alloc (.cells #[.bool false, .slice none 0 0] 50)).alloc (.cells #[.bool false, .slice none 0 0] 50)).heap[w.heap.size]? = some (.cells #[.int .i64 x.groups, .int .i64 x.column, .int .i64 x.data, .int .i64 x.spare, .int .i64 x.rows, .int .i64 x.cap, .int .i64 x.batch, .int .i64 x.queue, .int .i64 x.stage] 24 (0, 0)) from keep_alloc (keep_alloc (new_alloc w _) _) _)
  have B1 := Lib.hid (show (((w.alloc (.cells #[.int .i64 x.groups, .int .i64 x.column, .int .i64 x.data, .int .i64 x.spare, .int .i64 x.rows, .int .i64 x.cap, .int .i64 x.batch, .int .i64 x.queue, .int .i64 x.stage] 24)).alloc (.cells #[.bool false, .slice none 0 0] 50)).alloc (.cells #[.bool false, .slice none 0 0] 50)).heap[w.heap.size + 1]? = some (.cells #[.bool false, .slice none 0 0] 50 (0, 0)) from keep_alloc (new_at (by simp) _) _)
  have B2 := Lib.hid (show (((w.alloc (.cells #[.int .i64 x.groups, .int .i64 x.column, .int .i64 x.data, .int .i64 x.spare, .int .i64 x.rows, .int .i64 x.cap, .int .i64 x.batch, .int .i64 x.queue, .int .i64 x.stage] 24)).alloc (.cells #[.bool false, .slice none 0 0] 50)).alloc (.cells #[.bool false, .slice none 0 0] 50)).heap[w.heap.size + 2]? = some (.cells #[.bool false, .slice none 0 0] 50 (0, 0)) from new_at (by simp) _)
  go_enter Try.func19, Try.ntmps19
  go_wp2_with fail
  go_loopw [4] (fun vi wr => ∃ (k : Nat) (v : Value) (Wr : World), Wr = wr ∧ k ≤ n ∧ vi = .int .i64 k ∧ GrowC blkL 77 (w.heap.size + 3) wr v (List.replicate k bblk) ∧ wr.heap[w.heap.size]? = some (.cells #[.int .i64 x.groups, .int .i64 x.column, .int .i64 x.data, .int .i64 x.spare, .int .i64 x.rows, .int .i64 x.cap, .int .i64 x.batch, .int .i64 x.queue, .int .i64 x.stage] 24 (0, 0)) ∧ wr.heap[w.heap.size + 1]? = some (.cells #[.bool false, .slice none 0 0] 50 (0, 0)) ∧ wr.heap[w.heap.size + 2]? = some (.cells #[.bool false, v] 50 (0, 0)) ∧ Chg [] w wr) (fun vi _ => n - (intOf vi).toNat)
  case atStart => exact ⟨0, .slice none 0 0, _, rfl, by omega, rfl, GrowC.nil (by simp), B0.out, B1.out, B2.out, G0.out⟩
  case round =>
    clear G0 B0 B1 B2
    obtain ⟨k, v, wr, rfl, hk, rfl, hg, hb0, hb1, hb2, hc⟩ := hrel
    have c0 := cellsOf hb0; have n0 := ltOf hb0
    have B0 := Lib.hid hb0; have B1 := Lib.hid hb1; have B2 := Lib.hid hb2
    by_cases hlt : k < n
    · have hle : ((k : Int) < x.rows) := by have := HX.out; omega
      have HG := Lib.hid hg; have HC := Lib.hid hc
      have lw : w.heap.size + 2 < wr.heap.size := ltOf hb2
      have HLL : RowKit.Hid ((List.replicate k bblk).length + [bblk].length ≤ maxLen ∧ ((List.replicate k bblk).length + [bblk].length) * 32 ≤ 140737488355328) := by
        refine ⟨?_, ?_⟩ <;> simp only [List.length_replicate, List.length_cons, List.length_nil, maxLen] <;> omega
      clear hg hc hb0 hb1 hb2
      go_wp2_with fail
      obtain ⟨CC, HCI, HCO⟩ := rg_cond (fun w' => Know (w.heap.size + 2) #[.bool false, v] w')
      refine gg_start [4] CC (by kernel_rfl) (HCI.out _ (Know.of (keep_drew B2.out))) (fun hcl hS => ?_)
      refine ggT 0 hcl hS ?_; clear hcl hS; intro hcl hS
      refine ggL 1 hcl hS HCO ?_; clear hcl hS; intro hcl hS
      refine ggC 2 hcl rfl (by kernel_rfl) (fun K hK => ?_)
      go_simp
      go_at_call 46
      refine (l5Blank_any _).mono ?_; rintro e w3 ⟨cs, g3, rfl, hs, hf, hc⟩
      obtain ⟨p3, m3, d3, _, ex, -⟩ := blkL_iff.1 hs; obtain rfl := Array.toList_inj.1 (ex.trans (List.toList_toArray).symm)
      have HN1 := Lib.hid (And.intro hs (And.intro (hf.mono (C := wr.heap.size) (Nat.le_refl _)) (((Chg.refl [] wr).drew).trans0 hc))); obtain ⟨-, -, F2⟩ := bk hc (keep_drew B2.out) (by simp); clear hs hf hc ex
      go_wp2_with fail
      refine hK.out _ _ (fun _ => HCI.out _ (Know.of F2.out)) ?_
      clear hK K hcl hS
      intro hcl hS
      try simp only [Act.put, List.setIfInBounds_toArray, List.set_cons_zero, List.set_cons_succ]
      refine ggC 3 hcl rfl (by kernel_rfl) (fun K hK => ?_)
      go_simp
      refine hK.out _ _ (fun _ => HCI.out _ (Know.of (keep_alloc F2.out _))) ?_
      clear hK K hcl hS
      intro hcl hS
      try simp only [Act.put, List.setIfInBounds_toArray, List.set_cons_zero, List.set_cons_succ]
      refine ggC 4 hcl rfl (by kernel_rfl) (fun K hK => ?_)
      refine GrowB.step rfl _ _ 48 rfl Try.underlying48 KB rfl (HG.out.b.ext (HN1.out.2.2.alloc (.cells #[.int .i64 bblk.stamp, .slice p3 m3 d3] 77))) ⟨w3.heap.size, 0, none⟩ 1 1 [.int .i64 bblk.stamp, .slice p3 m3 d3] (ys := [bblk]) (f := g3) rfl rfl (new_cells w3 #[.int .i64 bblk.stamp, .slice p3 m3 d3] 77) (blkL.all_single (blkL.ext HN1.out.1 ((Chg.refl [] w3).alloc _))) (HN1.out.2.1.chg ((Chg.refl [] w3).alloc _)) HLL.out.1 HLL.out.2 ?_
      intro v' w4 hg' hup
      rw [rep_next] at hg'
      obtain ⟨pv, lv, cv, rfl⟩ : ∃ a l c, v' = Value.slice a l c := by obtain ⟨a, c, f, h, -⟩ := hg'.sl; exact ⟨a, _, c, h⟩
      have HG2 := Lib.hid hg'; have HU := Lib.hid hup
      have F6 := Lib.hid ((hup.low (w.heap.size + 2) (by omega)).trans (keep_alloc F2.out _)); have k6 := cellsOf F6.out; have n6 := ltOf F6.out; have z6 := freeOf F6.out
      have Q0 := Lib.hid ((hup.low w.heap.size (by omega)).trans (keep_alloc (HN1.out.2.2.keep0 B0.out) _)); have Q1 := Lib.hid ((hup.low (w.heap.size + 1) (by omega)).trans (keep_alloc (HN1.out.2.2.keep0 B1.out) _)); clear hg' hup
      refine hK.out _ _ (Till.done (m := 4) (by simp) (by rfl)) ?_
      clear hK K hcl hS
      intro hcl hS
      try simp only [Act.put, List.setIfInBounds_toArray, List.set_cons_zero, List.set_cons_succ]
      refine ggT 5 hcl hS ?_; clear hcl hS; intro hcl hS
      refine ggC 6 hcl rfl (by kernel_rfl) (fun K hK => ?_)
      go_simp
      refine hK.out _ _ (Till.done (m := 4) (by simp) (by rfl)) ?_
      clear hK K hcl hS
      intro hcl hS
      try simp only [Act.put, List.setIfInBounds_toArray, List.set_cons_zero, List.set_cons_succ]
      refine ggEnd (by kernel_rfl) ?_ _
      have r1 := HG2.out.chg ((Chg.refl [w.heap.size + 2] w4).setCell ⟨w.heap.size + 2, 1, none⟩ (.slice pv lv cv) (.inl (by simp))) (by simp)
      have r2 := keep_set Q0.out ⟨w.heap.size + 2, 1, none⟩ (.slice pv lv cv) (by simp)
      have r3 := keep_set Q1.out ⟨w.heap.size + 2, 1, none⟩ (.slice pv lv cv) (by simp)
      have r4 : (w4.setCell ⟨w.heap.size + 2, 1, none⟩ (.slice pv lv cv)).heap[w.heap.size + 2]? = some (.cells #[.bool false, .slice pv lv cv] 50 (0, 0)) := heap_set_lit (cur := #[.bool false, v]) F6.out rfl
      have r5 := (HU.out.chg ((HC.out.trans0 HN1.out.2.2).alloc (.cells #[.int .i64 bblk.stamp, .slice p3 m3 d3] 77)) (by omega)).setCell ⟨w.heap.size + 2, 1, none⟩ (.slice pv lv cv) (.inr (by simp))
      have HR := Lib.hid (And.intro r1 (And.intro r2 (And.intro r3 (And.intro r4 r5))))
      clear r1 r2 r3 r4 r5
      go_wp2_with fail
      go_roundw
      case rel => exact ⟨k + 1, .slice pv lv cv, _, rfl, by omega, by go_num, HR.out.1, HR.out.2.1, HR.out.2.2.1, HR.out.2.2.2.1, HR.out.2.2.2.2⟩
      case measure => simp [intOf]; omega
    · obtain rfl : k = n := by omega
      have hle : ¬ ((k : Int) < x.rows) := by have := HX.out; omega
      obtain ⟨p1, d1, g1, rfl, hs, hf⟩ := hg.sl
      rw [List.length_replicate] at hs hb2 B2
      have cb2 := cellsOf hb2; have lb2 := ltOf hb2
      have hlb1 := ltOf hb1; have fz := freeOf hb1; have cb1 := cellsOf hb1
      have hq := row2_back (.bool false) (.slice p1 k d1) hb1
      have hqc := cellsOf hq
      have cS : Chg [w.heap.size + 1] wr ((wr.setCell ⟨w.heap.size + 1, 0, none⟩ (.bool false)).setCell ⟨w.heap.size + 1, 1, none⟩ (.slice p1 k d1)) := ((Chg.refl _ wr).setCell _ _ (.inl (by simp))).setCell _ _ (.inl (by simp))
      have hns : ∀ y ∈ g1, y ∉ [w.heap.size + 1] := fun y hy hm => by have := (hf.2 y hy).1; rw [List.mem_singleton] at hm; omega
      have K1 := blkL.sl_chg hs cS hns
      have F1 := (hf.mono (C := w.heap.size) (by omega)).chg cS
      have hch := hc.trans cS (fun y hy => .inr (by rw [List.mem_singleton] at hy; omega))
      have HN := Lib.hid (show NewAgg drvL (freshDrv k) w (.returned (.agg #[.bool false, .slice p1 k d1])) _ from ⟨_, _, rfl, drvL_iff.2 ⟨p1, k, d1, g1, rfl, K1, rfl⟩, F1, hch⟩)
      have HQC := Lib.hid hqc
      clear hs hf hb1 hb2 hc hg hq hqc cS hns K1 F1 hch
      go_wp2_with fail
      have hqc := HQC.out
      refine bodyPost_ret (v := .agg #[.bool false, .slice p1 k d1]) (by simp [results, Try.results19, go_sem, hqc]) rfl HN.out
end Go.Proofs.Ytnnhopcjlnnchaa
