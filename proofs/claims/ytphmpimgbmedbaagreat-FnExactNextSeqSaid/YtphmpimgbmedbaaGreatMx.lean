/- Several texts in one. -/
import Derived.Test.YtphmpimgbmedbaaGreatRfgM
import Derived.Test.YtphmpimgbmedbaaGreatRfhM
import Derived.Test.YtphmpimgbmedbaaGreatRffM
import Derived.BigRegion
/- The faults of a record: the reference. -/
namespace Go.Proofs.YtphmpimgbmedbaaGreat
open Go.RowKit


theorem spec_rec (s : Shp) (hs : s.ok) (x : Rec) (cx : Array Value) (fx : List Nat) (w : World) (hx : recL.rep w cx.toList x fx) :
    Calls Tryz.prog 119 #[.agg s.cells, .agg cx] w fun e w' => e = .returned (.int .i64 (recV s x)) ∧ Chg [] w w' := by
  by_cases h : (1 ≤ x.kind ∧ x.kind ≤ 4) ∧ (1 ≤ x.seq ∧ x.seq ≤ 1000000000)
  · have h2 : x.kind = 1 ∨ x.kind = 2 ∨ x.kind = 3 ∨ x.kind = 4 := by omega
    rcases h2 with h2 | h2 | h2 | h2
    · exact spec_rec1 s hs x cx fx w hx h2 h.2
    · exact spec_rec2 s hs x cx fx w hx h2 h.2
    · exact spec_rec3 s hs x cx fx w hx h2 h.2
    · exact spec_rec4 s hs x cx fx w hx h2 h.2
  · exact spec_rec0 s hs x cx fx w hx h

end Go.Proofs.YtphmpimgbmedbaaGreat

/- The record with just the fields that its kind names. -/
namespace Go.Proofs.YtphmpimgbmedbaaGreat
open Go.RowKit

def bareV (x : Rec) : Rec :=
  if x.kind = 1 then ⟨x.kind, x.seq, x.name, x.length, 0, 0, x.rows, x.data, []⟩
  else if x.kind = 2 then ⟨x.kind, x.seq, ⟨#[]⟩, 0, x.group, x.row, [], x.data, x.delta⟩
  else if x.kind = 3 then ⟨x.kind, x.seq, ⟨#[]⟩, 0, x.group, 0, [], [], []⟩
  else ⟨x.kind, x.seq, ⟨#[]⟩, 0, x.group, x.row, x.rows, x.data, x.delta⟩


set_option maxRecDepth 100000 in
set_option maxHeartbeats 2000000 in
theorem bare1 (x : Rec) (cx : Array Value) (fx : List Nat) (w : World) (hx : recL.rep w cx.toList x fx) (hk0 : x.kind = 1) :
    Calls Tryz.prog 261 #[.agg cx] w fun e w' => ∃ cs fp, e = .returned (.agg cs) ∧ recL.rep w' cs.toList (bareV x) fp ∧ Chg [] w w' := by
  obtain ⟨a6, l6, c6, f6, a7, l7, c7, f7, a8, l8, c8, f8, ex, o0, o1, on, o3, o4, o5, h6, h7, h8, -⟩ := recL_iff.1 hx
  clear hx
  obtain rfl := Array.toList_inj.1 (ex.trans (List.toList_toArray).symm)
  clear ex
  have HO := Lib.hid (And.intro o0 (And.intro o1 (And.intro on (And.intro o3 (And.intro o4 o5)))))
  have H6 := Lib.hid h6; have H7 := Lib.hid h7; have H8 := Lib.hid h8
  have HK := Lib.hid hk0
  have kd1 : (x.kind == 1) = true := by simp; omega
  have kd2 : (x.kind == 2) = false := by simp; omega
  have kd3 : (x.kind == 3) = false := by simp; omega
  have kd4 : (x.kind == 4) = false := by simp; omega
  clear h6 h7 h8 o0 o1 on o3 o4 o5 hk0
  go_enter Tryz.func261, Tryz.ntmps261
  go_wp2_with fail
  go_region
  go_wp2_with fail
  have hb : bareV x = (⟨x.kind, x.seq, x.name, x.length, 0, 0, x.rows, x.data, []⟩ : Rec) := by unfold bareV; have hk := HK.out; rw [if_pos hk]
  have hq : (((w.alloc (.cells #[.int .i64 x.kind, .int .i64 x.seq, .string x.name, .int .i64 x.length, .int .i64 x.group, .int .i64 x.row, .slice a6 l6 c6, .slice a7 l7 c7, .slice a8 l8 c8] 67)).alloc (.cells #[.int .i64 x.kind, .int .i64 x.seq, .string x.name, .int .i64 x.length, .int .i64 0, .int .i64 0, .slice a6 l6 c6, .slice a7 l7 c7, .slice none 0 0] 67)).alloc (.cells #[.int .i64 x.kind, .int .i64 x.seq, .string x.name, .int .i64 x.length, .int .i64 0, .int .i64 0, .slice a6 l6 c6, .slice a7 l7 c7, .slice none 0 0] 67)).drew.heap[w.heap.size + 1]? = some (.cells #[.int .i64 x.kind, .int .i64 x.seq, .string x.name, .int .i64 x.length, .int .i64 0, .int .i64 0, .slice a6 l6 c6, .slice a7 l7 c7, .slice none 0 0] 67) := (by refine keep_drew ?_; refine keep_alloc ?_ _; exact new_at (by simp) _)
  have hqc := cellsOf hq
  have hch : Chg [] w (((w.alloc (.cells #[.int .i64 x.kind, .int .i64 x.seq, .string x.name, .int .i64 x.length, .int .i64 x.group, .int .i64 x.row, .slice a6 l6 c6, .slice a7 l7 c7, .slice a8 l8 c8] 67)).alloc (.cells #[.int .i64 x.kind, .int .i64 x.seq, .string x.name, .int .i64 x.length, .int .i64 0, .int .i64 0, .slice a6 l6 c6, .slice a7 l7 c7, .slice none 0 0] 67)).alloc (.cells #[.int .i64 x.kind, .int .i64 x.seq, .string x.name, .int .i64 x.length, .int .i64 0, .int .i64 0, .slice a6 l6 c6, .slice a7 l7 c7, .slice none 0 0] 67)).drew := ((((Chg.refl [] w).alloc _).alloc _).alloc _).drew
  rw [hb]
  refine bodyPost_ret (v := .agg #[.int .i64 x.kind, .int .i64 x.seq, .string x.name, .int .i64 x.length, .int .i64 0, .int .i64 0, .slice a6 l6 c6, .slice a7 l7 c7, .slice none 0 0]) (by simp [results, Tryz.results261, go_sem, hqc]) rfl ⟨_, _, rfl, recL_iff.2 ⟨a6, l6, c6, f6, a7, l7, c7, f7, none, 0, 0, [], rfl, HO.out.1, HO.out.2.1, HO.out.2.2.1, HO.out.2.2.2.1, i64_0, i64_0, intL.sl_ext H6.out hch, byteL.sl_ext H7.out hch, nil_sl _ _, rfl⟩, hch⟩


set_option maxRecDepth 100000 in
set_option maxHeartbeats 2000000 in
theorem bare2 (x : Rec) (cx : Array Value) (fx : List Nat) (w : World) (hx : recL.rep w cx.toList x fx) (hk0 : x.kind = 2) :
    Calls Tryz.prog 261 #[.agg cx] w fun e w' => ∃ cs fp, e = .returned (.agg cs) ∧ recL.rep w' cs.toList (bareV x) fp ∧ Chg [] w w' := by
  obtain ⟨a6, l6, c6, f6, a7, l7, c7, f7, a8, l8, c8, f8, ex, o0, o1, on, o3, o4, o5, h6, h7, h8, -⟩ := recL_iff.1 hx
  clear hx
  obtain rfl := Array.toList_inj.1 (ex.trans (List.toList_toArray).symm)
  clear ex
  have HO := Lib.hid (And.intro o0 (And.intro o1 (And.intro on (And.intro o3 (And.intro o4 o5)))))
  have H6 := Lib.hid h6; have H7 := Lib.hid h7; have H8 := Lib.hid h8
  have HK := Lib.hid hk0
  have kd1 : (x.kind == 1) = false := by simp; omega
  have kd2 : (x.kind == 2) = true := by simp; omega
  have kd3 : (x.kind == 3) = false := by simp; omega
  have kd4 : (x.kind == 4) = false := by simp; omega
  clear h6 h7 h8 o0 o1 on o3 o4 o5 hk0
  go_enter Tryz.func261, Tryz.ntmps261
  go_wp2_with fail
  go_region
  go_wp2_with fail
  have hb : bareV x = (⟨x.kind, x.seq, ⟨#[]⟩, 0, x.group, x.row, [], x.data, x.delta⟩ : Rec) := by unfold bareV; have hk := HK.out; rw [if_neg (by omega), if_pos hk]
  have hq : (((w.alloc (.cells #[.int .i64 x.kind, .int .i64 x.seq, .string x.name, .int .i64 x.length, .int .i64 x.group, .int .i64 x.row, .slice a6 l6 c6, .slice a7 l7 c7, .slice a8 l8 c8] 67)).alloc (.cells #[.int .i64 x.kind, .int .i64 x.seq, .string ⟨#[]⟩, .int .i64 0, .int .i64 x.group, .int .i64 x.row, .slice none 0 0, .slice a7 l7 c7, .slice a8 l8 c8] 67)).alloc (.cells #[.int .i64 x.kind, .int .i64 x.seq, .string ⟨#[]⟩, .int .i64 0, .int .i64 x.group, .int .i64 x.row, .slice none 0 0, .slice a7 l7 c7, .slice a8 l8 c8] 67)).drew.heap[w.heap.size + 1]? = some (.cells #[.int .i64 x.kind, .int .i64 x.seq, .string ⟨#[]⟩, .int .i64 0, .int .i64 x.group, .int .i64 x.row, .slice none 0 0, .slice a7 l7 c7, .slice a8 l8 c8] 67) := (by refine keep_drew ?_; refine keep_alloc ?_ _; exact new_at (by simp) _)
  have hqc := cellsOf hq
  have hch : Chg [] w (((w.alloc (.cells #[.int .i64 x.kind, .int .i64 x.seq, .string x.name, .int .i64 x.length, .int .i64 x.group, .int .i64 x.row, .slice a6 l6 c6, .slice a7 l7 c7, .slice a8 l8 c8] 67)).alloc (.cells #[.int .i64 x.kind, .int .i64 x.seq, .string ⟨#[]⟩, .int .i64 0, .int .i64 x.group, .int .i64 x.row, .slice none 0 0, .slice a7 l7 c7, .slice a8 l8 c8] 67)).alloc (.cells #[.int .i64 x.kind, .int .i64 x.seq, .string ⟨#[]⟩, .int .i64 0, .int .i64 x.group, .int .i64 x.row, .slice none 0 0, .slice a7 l7 c7, .slice a8 l8 c8] 67)).drew := ((((Chg.refl [] w).alloc _).alloc _).alloc _).drew
  rw [hb]
  refine bodyPost_ret (v := .agg #[.int .i64 x.kind, .int .i64 x.seq, .string ⟨#[]⟩, .int .i64 0, .int .i64 x.group, .int .i64 x.row, .slice none 0 0, .slice a7 l7 c7, .slice a8 l8 c8]) (by simp [results, Tryz.results261, go_sem, hqc]) rfl ⟨_, _, rfl, recL_iff.2 ⟨none, 0, 0, [], a7, l7, c7, f7, a8, l8, c8, f8, rfl, HO.out.1, HO.out.2.1, max_0, i64_0, HO.out.2.2.2.2.1, HO.out.2.2.2.2.2, nil_sl _ _, byteL.sl_ext H7.out hch, byteL.sl_ext H8.out hch, rfl⟩, hch⟩


set_option maxRecDepth 100000 in
set_option maxHeartbeats 2000000 in
theorem bare3 (x : Rec) (cx : Array Value) (fx : List Nat) (w : World) (hx : recL.rep w cx.toList x fx) (hk0 : x.kind = 3) :
    Calls Tryz.prog 261 #[.agg cx] w fun e w' => ∃ cs fp, e = .returned (.agg cs) ∧ recL.rep w' cs.toList (bareV x) fp ∧ Chg [] w w' := by
  obtain ⟨a6, l6, c6, f6, a7, l7, c7, f7, a8, l8, c8, f8, ex, o0, o1, on, o3, o4, o5, h6, h7, h8, -⟩ := recL_iff.1 hx
  clear hx
  obtain rfl := Array.toList_inj.1 (ex.trans (List.toList_toArray).symm)
  clear ex
  have HO := Lib.hid (And.intro o0 (And.intro o1 (And.intro on (And.intro o3 (And.intro o4 o5)))))
  have H6 := Lib.hid h6; have H7 := Lib.hid h7; have H8 := Lib.hid h8
  have HK := Lib.hid hk0
  have kd1 : (x.kind == 1) = false := by simp; omega
  have kd2 : (x.kind == 2) = false := by simp; omega
  have kd3 : (x.kind == 3) = true := by simp; omega
  have kd4 : (x.kind == 4) = false := by simp; omega
  clear h6 h7 h8 o0 o1 on o3 o4 o5 hk0
  go_enter Tryz.func261, Tryz.ntmps261
  go_wp2_with fail
  have hb : bareV x = (⟨x.kind, x.seq, ⟨#[]⟩, 0, x.group, 0, [], [], []⟩ : Rec) := by unfold bareV; have hk := HK.out; rw [if_neg (by omega), if_neg (by omega), if_pos hk]
  have hq : (((w.alloc (.cells #[.int .i64 x.kind, .int .i64 x.seq, .string x.name, .int .i64 x.length, .int .i64 x.group, .int .i64 x.row, .slice a6 l6 c6, .slice a7 l7 c7, .slice a8 l8 c8] 67)).alloc (.cells #[.int .i64 x.kind, .int .i64 x.seq, .string ⟨#[]⟩, .int .i64 0, .int .i64 x.group, .int .i64 0, .slice none 0 0, .slice none 0 0, .slice none 0 0] 67)).alloc (.cells #[.int .i64 x.kind, .int .i64 x.seq, .string ⟨#[]⟩, .int .i64 0, .int .i64 x.group, .int .i64 0, .slice none 0 0, .slice none 0 0, .slice none 0 0] 67)).heap[w.heap.size + 1]? = some (.cells #[.int .i64 x.kind, .int .i64 x.seq, .string ⟨#[]⟩, .int .i64 0, .int .i64 x.group, .int .i64 0, .slice none 0 0, .slice none 0 0, .slice none 0 0] 67) := (by refine keep_alloc ?_ _; exact new_at (by simp) _)
  have hqc := cellsOf hq
  have hch : Chg [] w (((w.alloc (.cells #[.int .i64 x.kind, .int .i64 x.seq, .string x.name, .int .i64 x.length, .int .i64 x.group, .int .i64 x.row, .slice a6 l6 c6, .slice a7 l7 c7, .slice a8 l8 c8] 67)).alloc (.cells #[.int .i64 x.kind, .int .i64 x.seq, .string ⟨#[]⟩, .int .i64 0, .int .i64 x.group, .int .i64 0, .slice none 0 0, .slice none 0 0, .slice none 0 0] 67)).alloc (.cells #[.int .i64 x.kind, .int .i64 x.seq, .string ⟨#[]⟩, .int .i64 0, .int .i64 x.group, .int .i64 0, .slice none 0 0, .slice none 0 0, .slice none 0 0] 67)) := (((Chg.refl [] w).alloc _).alloc _).alloc _
  rw [hb]
  refine bodyPost_ret (v := .agg #[.int .i64 x.kind, .int .i64 x.seq, .string ⟨#[]⟩, .int .i64 0, .int .i64 x.group, .int .i64 0, .slice none 0 0, .slice none 0 0, .slice none 0 0]) (by simp [results, Tryz.results261, go_sem, hqc]) rfl ⟨_, _, rfl, recL_iff.2 ⟨none, 0, 0, [], none, 0, 0, [], none, 0, 0, [], rfl, HO.out.1, HO.out.2.1, max_0, i64_0, HO.out.2.2.2.2.1, i64_0, nil_sl _ _, nil_sl _ _, nil_sl _ _, rfl⟩, hch⟩


set_option maxRecDepth 100000 in
set_option maxHeartbeats 2000000 in
theorem bare4 (x : Rec) (cx : Array Value) (fx : List Nat) (w : World) (hx : recL.rep w cx.toList x fx) (hk0 : x.kind = 4) :
    Calls Tryz.prog 261 #[.agg cx] w fun e w' => ∃ cs fp, e = .returned (.agg cs) ∧ recL.rep w' cs.toList (bareV x) fp ∧ Chg [] w w' := by
  obtain ⟨a6, l6, c6, f6, a7, l7, c7, f7, a8, l8, c8, f8, ex, o0, o1, on, o3, o4, o5, h6, h7, h8, -⟩ := recL_iff.1 hx
  clear hx
  obtain rfl := Array.toList_inj.1 (ex.trans (List.toList_toArray).symm)
  clear ex
  have HO := Lib.hid (And.intro o0 (And.intro o1 (And.intro on (And.intro o3 (And.intro o4 o5)))))
  have H6 := Lib.hid h6; have H7 := Lib.hid h7; have H8 := Lib.hid h8
  have HK := Lib.hid hk0
  have kd1 : (x.kind == 1) = false := by simp; omega
  have kd2 : (x.kind == 2) = false := by simp; omega
  have kd3 : (x.kind == 3) = false := by simp; omega
  have kd4 : (x.kind == 4) = true := by simp; omega
  clear h6 h7 h8 o0 o1 on o3 o4 o5 hk0
  go_enter Tryz.func261, Tryz.ntmps261
  go_wp2_with fail
  go_region
  go_wp2_with fail
  have hb : bareV x = (⟨x.kind, x.seq, ⟨#[]⟩, 0, x.group, x.row, x.rows, x.data, x.delta⟩ : Rec) := by unfold bareV; have hk := HK.out; rw [if_neg (by omega), if_neg (by omega), if_neg (by omega)]
  have hq : (((w.alloc (.cells #[.int .i64 x.kind, .int .i64 x.seq, .string x.name, .int .i64 x.length, .int .i64 x.group, .int .i64 x.row, .slice a6 l6 c6, .slice a7 l7 c7, .slice a8 l8 c8] 67)).alloc (.cells #[.int .i64 x.kind, .int .i64 x.seq, .string ⟨#[]⟩, .int .i64 0, .int .i64 x.group, .int .i64 x.row, .slice a6 l6 c6, .slice a7 l7 c7, .slice a8 l8 c8] 67)).alloc (.cells #[.int .i64 x.kind, .int .i64 x.seq, .string ⟨#[]⟩, .int .i64 0, .int .i64 x.group, .int .i64 x.row, .slice a6 l6 c6, .slice a7 l7 c7, .slice a8 l8 c8] 67)).drew.heap[w.heap.size + 1]? = some (.cells #[.int .i64 x.kind, .int .i64 x.seq, .string ⟨#[]⟩, .int .i64 0, .int .i64 x.group, .int .i64 x.row, .slice a6 l6 c6, .slice a7 l7 c7, .slice a8 l8 c8] 67) := (by refine keep_drew ?_; refine keep_alloc ?_ _; exact new_at (by simp) _)
  have hqc := cellsOf hq
  have hch : Chg [] w (((w.alloc (.cells #[.int .i64 x.kind, .int .i64 x.seq, .string x.name, .int .i64 x.length, .int .i64 x.group, .int .i64 x.row, .slice a6 l6 c6, .slice a7 l7 c7, .slice a8 l8 c8] 67)).alloc (.cells #[.int .i64 x.kind, .int .i64 x.seq, .string ⟨#[]⟩, .int .i64 0, .int .i64 x.group, .int .i64 x.row, .slice a6 l6 c6, .slice a7 l7 c7, .slice a8 l8 c8] 67)).alloc (.cells #[.int .i64 x.kind, .int .i64 x.seq, .string ⟨#[]⟩, .int .i64 0, .int .i64 x.group, .int .i64 x.row, .slice a6 l6 c6, .slice a7 l7 c7, .slice a8 l8 c8] 67)).drew := ((((Chg.refl [] w).alloc _).alloc _).alloc _).drew
  rw [hb]
  refine bodyPost_ret (v := .agg #[.int .i64 x.kind, .int .i64 x.seq, .string ⟨#[]⟩, .int .i64 0, .int .i64 x.group, .int .i64 x.row, .slice a6 l6 c6, .slice a7 l7 c7, .slice a8 l8 c8]) (by simp [results, Tryz.results261, go_sem, hqc]) rfl ⟨_, _, rfl, recL_iff.2 ⟨a6, l6, c6, f6, a7, l7, c7, f7, a8, l8, c8, f8, rfl, HO.out.1, HO.out.2.1, max_0, i64_0, HO.out.2.2.2.2.1, HO.out.2.2.2.2.2, intL.sl_ext H6.out hch, byteL.sl_ext H7.out hch, byteL.sl_ext H8.out hch, rfl⟩, hch⟩


theorem bare_any (x : Rec) (cx : Array Value) (fx : List Nat) (w : World) (hx : recL.rep w cx.toList x fx) (hk : 1 ≤ x.kind ∧ x.kind ≤ 4) :
    Calls Tryz.prog 261 #[.agg cx] w fun e w' => ∃ cs fp, e = .returned (.agg cs) ∧ recL.rep w' cs.toList (bareV x) fp ∧ Chg [] w w' := by
  have h2 : x.kind = 1 ∨ x.kind = 2 ∨ x.kind = 3 ∨ x.kind = 4 := by omega
  rcases h2 with h2 | h2 | h2 | h2
  · exact bare1 x cx fx w hx h2
  · exact bare2 x cx fx w hx h2
  · exact bare3 x cx fx w hx h2
  · exact bare4 x cx fx w hx h2
theorem bare_same (x : Rec) : (x = bareV x) ↔ (if x.kind = 1 then RestI x else if x.kind = 2 then RestM x else if x.kind = 3 then RestD x else RestS x) := by
  obtain ⟨k, s, n, l, g, r, R, D, E⟩ := x
  unfold bareV RestI RestM RestD RestS
  simp only
  by_cases h1 : k = 1
  · rw [if_pos h1, if_pos h1]; simp
  · rw [if_neg h1, if_neg h1]
    by_cases h2 : k = 2
    · rw [if_pos h2, if_pos h2]; simp
    · rw [if_neg h2, if_neg h2]
      by_cases h3 : k = 3
      · rw [if_pos h3, if_pos h3]; simp
      · rw [if_neg h3, if_neg h3]; simp

end Go.Proofs.YtphmpimgbmedbaaGreat
