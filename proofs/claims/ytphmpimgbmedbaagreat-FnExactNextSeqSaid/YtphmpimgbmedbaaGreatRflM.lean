import Derived.Test.YtphmpimgbmedbaaGreatRfkM
/- The faults of a record at every shape, both sides. -/
namespace Go.Proofs.YtphmpimgbmedbaaGreat
open Go.RowKit


set_option maxRecDepth 100000 in
set_option maxHeartbeats 1000000 in
theorem spec_RecFault (s : Shp) (x : Rec) (cx : Array Value) (fx : List Nat) (w : World) (hx : recL.rep w cx.toList x fx) :
    Calls Tryz.prog 119 #[.agg s.cells, .agg cx] w fun e w' => e = .returned (.int .i64 (recVF s x)) ∧ Chg [] w w' := by
  by_cases hf : s.fault = 0
  · rw [show recVF s x = recV s x from if_pos hf]
    exact spec_rec s (Shp.ok_of hf) x cx fx w hx
  have HX := Lib.hid hx
  obtain ⟨a6, l6, c6, f6, a7, l7, c7, f7, a8, l8, c8, f8, ex, -⟩ := recL_iff.1 hx
  clear hx
  obtain rfl := Array.toList_inj.1 (ex.trans (List.toList_toArray).symm)
  clear ex
  have HR := Lib.hid (show recVF s x = s.fault from if_neg hf)
  have e1 : (s.fault != 0) = true := by simp; exact hf
  clear hf
  show Calls _ _ #[.agg #[.int .i64 s.groups, .int .i64 s.column, .int .i64 s.data, .int .i64 s.spare, .int .i64 s.rows, .int .i64 s.cap, .int .i64 s.batch, .int .i64 s.queue, .int .i64 s.stage], .agg _] _ _
  have HC : RowKit.Hid (Chg [] w w) := Chg.refl _ _
  go_enter Tryz.func119, Tryz.ntmps119
  go_wp2_with fail
  refine (spec_shapeC s _).mono ?_
  rintro e w1 ⟨rfl, hc⟩
  obtain ⟨cS, lS, HBS⟩ := bk hc (b := w.heap.size) (keep_alloc (new_at (by simp) _) _) (by simp)
  obtain ⟨cR, lR, HBR⟩ := bk hc (b := w.heap.size + 1) (new_at (by simp) _) (by simp)
  have h := Chg.trans0 (Chg.alloc (Chg.alloc HC.out _) _) hc; clear HC; have HC := Lib.hid h; clear h
  clear hc
  go_wp2_with fail
  go_ret
  exact ⟨ret_int HR.out.symm, HC.out⟩


end Go.Proofs.YtphmpimgbmedbaaGreat
