
/- The faults of a record at every shape, both sides. -/
import Derived.Test.YtlnclkjmlpipgaaRfk
namespace Go.Proofs.Ytlnclkjmlpipgaa
open Go.RowKit


set_option maxRecDepth 100000 in
set_option maxHeartbeats 1000000 in
theorem spec_RecFault (s : Shp) (x : Rec) (cx : Array Value) (fx : List Nat) (w : World) (hx : recL.rep w cx.toList x fx) :
    Calls Try.prog 62 #[.agg s.cells, .agg cx] w fun e w' => e = .returned (.int .i64 (recVF s x)) ∧ Chg [] w w' := by
  by_cases hf : s.fault = 0
  · rw [show recVF s x = recV s x from if_pos hf]
    exact spec_rec s (Shp.ok_of hf) x cx fx w hx
  have HX := Lib.hid hx
  obtain ⟨a6, l6, c6, f6, a7, l7, c7, f7, a8, l8, c8, f8, ex, -⟩ := recL_iff.1 hx
  clear hx
  obtain rfl := Array.toList_inj.1 (ex.trans (List.toList_toArray).symm)
  clear ex
  have HR := Lib.hid (show recVF s x = s.fault from if_neg hf)
  have e1 : (s.fault != 0) = true := by simp; exact hf
  clear hf
  show Calls _ _ #[.agg #[.int .i64 s.groups, .int .i64 s.column, .int .i64 s.data, .int .i64 s.spare, .int .i64 s.rows, .int .i64 s.cap, .int .i64 s.batch, .int .i64 s.queue, .int .i64 s.stage], .agg _] _ _
  have HC : RowKit.Hid (Chg [] w w) := Chg.refl _ _
  go_enter Try.func62, Try.ntmps62
  go_wp2_with fail
  refine (spec_shapeC s _).mono ?_
  rintro e w1 ⟨rfl, hc⟩
  have h := hc.keepb (b := w.heap.size) (o := .cells #[.int .i64 s.groups, .int .i64 s.column, .int .i64 s.data, .int .i64 s.spare, .int .i64 s.rows, .int .i64 s.cap, .int .i64 s.batch, .int .i64 s.queue, .int .i64 s.stage] 46) (by refine keep_alloc ?_ _; exact new_at (by simp) _) (by simp); have cS := cellsOf h; have lS := ltOf h; have HBS := Lib.hid h; clear h
  have h := hc.keepb (b := w.heap.size + 1) (o := .cells #[.int .i64 x.kind, .int .i64 x.seq, .string x.name, .int .i64 x.length, .int .i64 x.group, .int .i64 x.row, .slice a6 l6 c6, .slice a7 l7 c7, .slice a8 l8 c8] 37) (by exact new_at (by simp) _) (by simp); have cR := cellsOf h; have lR := ltOf h; have HBR := Lib.hid h; clear h
  have h := Chg.trans0 (Chg.alloc (Chg.alloc HC.out (.cells #[.int .i64 s.groups, .int .i64 s.column, .int .i64 s.data, .int .i64 s.spare, .int .i64 s.rows, .int .i64 s.cap, .int .i64 s.batch, .int .i64 s.queue, .int .i64 s.stage] 46)) (.cells #[.int .i64 x.kind, .int .i64 x.seq, .string x.name, .int .i64 x.length, .int .i64 x.group, .int .i64 x.row, .slice a6 l6 c6, .slice a7 l7 c7, .slice a8 l8 c8] 37)) hc; clear HC; have HC := Lib.hid h; clear h
  clear hc
  go_wp2_with fail
  go_ret
  exact ⟨ret_int HR.out.symm, HC.out⟩


set_option maxRecDepth 100000 in
set_option maxHeartbeats 1000000 in
theorem impl_RecFault (s : Shp) (x : Rec) (cx : Array Value) (fx : List Nat) (w : World) (hx : recL.rep w cx.toList x fx) :
    Calls Try.prog 63 #[.agg s.cells, .agg cx] w fun e w' => e = .returned (.int .i64 (recVF s x)) ∧ Chg [] w w' := by
  have HX := Lib.hid hx
  obtain ⟨a6, l6, c6, f6, a7, l7, c7, f7, a8, l8, c8, f8, ex, -⟩ := recL_iff.1 hx
  clear hx
  obtain rfl := Array.toList_inj.1 (ex.trans (List.toList_toArray).symm)
  clear ex
  by_cases hf : s.fault = 0
  rotate_left
  · have HR := Lib.hid (show recVF s x = s.fault from if_neg hf)
    have e1 : (s.fault != 0) = true := by simp; exact hf
    clear hf
    show Calls _ _ #[.agg #[.int .i64 s.groups, .int .i64 s.column, .int .i64 s.data, .int .i64 s.spare, .int .i64 s.rows, .int .i64 s.cap, .int .i64 s.batch, .int .i64 s.queue, .int .i64 s.stage], .agg _] _ _
    have HC : RowKit.Hid (Chg [] w w) := Chg.refl _ _
    go_enter Try.func63, Try.ntmps63
    go_wp2_with fail
    refine (impl_shapeC s _).mono ?_
    rintro e w1 ⟨rfl, hc⟩
    have h := hc.keepb (b := w.heap.size) (o := .cells #[.int .i64 s.groups, .int .i64 s.column, .int .i64 s.data, .int .i64 s.spare, .int .i64 s.rows, .int .i64 s.cap, .int .i64 s.batch, .int .i64 s.queue, .int .i64 s.stage] 46) (by refine keep_alloc ?_ _; exact new_at (by simp) _) (by simp); have cS := cellsOf h; have lS := ltOf h; have HBS := Lib.hid h; clear h
    have h := hc.keepb (b := w.heap.size + 1) (o := .cells #[.int .i64 x.kind, .int .i64 x.seq, .string x.name, .int .i64 x.length, .int .i64 x.group, .int .i64 x.row, .slice a6 l6 c6, .slice a7 l7 c7, .slice a8 l8 c8] 37) (by exact new_at (by simp) _) (by simp); have cR := cellsOf h; have lR := ltOf h; have HBR := Lib.hid h; clear h
    have h := Chg.trans0 (Chg.alloc (Chg.alloc HC.out (.cells #[.int .i64 s.groups, .int .i64 s.column, .int .i64 s.data, .int .i64 s.spare, .int .i64 s.rows, .int .i64 s.cap, .int .i64 s.batch, .int .i64 s.queue, .int .i64 s.stage] 46)) (.cells #[.int .i64 x.kind, .int .i64 x.seq, .string x.name, .int .i64 x.length, .int .i64 x.group, .int .i64 x.row, .slice a6 l6 c6, .slice a7 l7 c7, .slice a8 l8 c8] 37)) hc; clear HC; have HC := Lib.hid h; clear h
    clear hc
    go_wp2_with fail
    go_ret
    exact ⟨ret_int HR.out.symm, HC.out⟩
  have HR := Lib.hid (show recVF s x = recV s x from if_pos hf)
  have HF0 := Lib.hid hf
  have HS := Lib.hid (Shp.ok_of hf)
  clear hf
  show Calls _ _ #[.agg #[.int .i64 s.groups, .int .i64 s.column, .int .i64 s.data, .int .i64 s.spare, .int .i64 s.rows, .int .i64 s.cap, .int .i64 s.batch, .int .i64 s.queue, .int .i64 s.stage], .agg _] _ _
  have HC : RowKit.Hid (Chg [] w w) := Chg.refl _ _
  go_enter Try.func63, Try.ntmps63
  go_wp2_with fail
  refine (impl_shapeC s _).mono ?_
  rintro e w1 ⟨rfl, hc⟩
  rw [HF0.out]
  have h := hc.keepb (b := w.heap.size) (o := .cells #[.int .i64 s.groups, .int .i64 s.column, .int .i64 s.data, .int .i64 s.spare, .int .i64 s.rows, .int .i64 s.cap, .int .i64 s.batch, .int .i64 s.queue, .int .i64 s.stage] 46) (by refine keep_alloc ?_ _; exact new_at (by simp) _) (by simp); have cS := cellsOf h; have lS := ltOf h; have HBS := Lib.hid h; clear h
  have h := hc.keepb (b := w.heap.size + 1) (o := .cells #[.int .i64 x.kind, .int .i64 x.seq, .string x.name, .int .i64 x.length, .int .i64 x.group, .int .i64 x.row, .slice a6 l6 c6, .slice a7 l7 c7, .slice a8 l8 c8] 37) (by exact new_at (by simp) _) (by simp); have cR := cellsOf h; have lR := ltOf h; have HBR := Lib.hid h; clear h
  have h := Chg.trans0 (Chg.alloc (Chg.alloc HC.out (.cells #[.int .i64 s.groups, .int .i64 s.column, .int .i64 s.data, .int .i64 s.spare, .int .i64 s.rows, .int .i64 s.cap, .int .i64 s.batch, .int .i64 s.queue, .int .i64 s.stage] 46)) (.cells #[.int .i64 x.kind, .int .i64 x.seq, .string x.name, .int .i64 x.length, .int .i64 x.group, .int .i64 x.row, .slice a6 l6 c6, .slice a7 l7 c7, .slice a8 l8 c8] 37)) hc; clear HC; have HC := Lib.hid h; clear h
  clear hc
  go_wp2_with fail
  refine (impl_rec s HS.out x #[.int .i64 x.kind, .int .i64 x.seq, .string x.name, .int .i64 x.length, .int .i64 x.group, .int .i64 x.row, .slice a6 l6 c6, .slice a7 l7 c7, .slice a8 l8 c8] fx _ (Lay.ext recL HX.out HC.out)).mono ?_
  rintro e w2 ⟨rfl, hc⟩
  have h := hc.keepb (b := w.heap.size) (o := .cells #[.int .i64 s.groups, .int .i64 s.column, .int .i64 s.data, .int .i64 s.spare, .int .i64 s.rows, .int .i64 s.cap, .int .i64 s.batch, .int .i64 s.queue, .int .i64 s.stage] 46) (by exact HBS.out) (by simp); clear HBS cS lS; have cS := cellsOf h; have lS := ltOf h; have HBS := Lib.hid h; clear h
  have h := hc.keepb (b := w.heap.size + 1) (o := .cells #[.int .i64 x.kind, .int .i64 x.seq, .string x.name, .int .i64 x.length, .int .i64 x.group, .int .i64 x.row, .slice a6 l6 c6, .slice a7 l7 c7, .slice a8 l8 c8] 37) (by exact HBR.out) (by simp); clear HBR cR lR; have cR := cellsOf h; have lR := ltOf h; have HBR := Lib.hid h; clear h
  have h := Chg.trans0 HC.out hc; clear HC; have HC := Lib.hid h; clear h
  clear hc
  go_wp2_with fail
  go_ret
  exact ⟨ret_int HR.out.symm, HC.out⟩

end Go.Proofs.Ytlnclkjmlpipgaa
