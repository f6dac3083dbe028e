import Derived.Test.YtphmpimgbmedbaaGreatRows
import Derived.Test.YtphmpimgbmedbaaGreatMd
/- The walks of ShapeFault and RoomOf, of the program and of the reference, and of the copying of a shape. -/
namespace Go.Proofs.YtphmpimgbmedbaaGreat
open Go.RowKit

def Shp.cells (s : Shp) : Array Value := #[.int .i64 s.groups, .int .i64 s.column, .int .i64 s.data, .int .i64 s.spare, .int .i64 s.rows, .int .i64 s.cap, .int .i64 s.batch, .int .i64 s.queue, .int .i64 s.stage]

def inB (n a b : Int) : Bool := decide (a ≤ n) && decide (n ≤ b)
theorem inB_true {n a b : Int} (h : inB n a b = true) : a ≤ n ∧ n ≤ b := by simpa [inB] using h
theorem inB_false {n a b : Int} (h : inB n a b = false) : ¬ (a ≤ n ∧ n ≤ b) := by
  intro ⟨h1, h2⟩; simp [inB, h1, h2] at h
theorem inB_eq {n a b : Int} (h1 : a ≤ n) (h2 : n ≤ b) : inB n a b = true := by simp [inB, h1, h2]
theorem inB_neq {n a b : Int} (h : ¬ (a ≤ n ∧ n ≤ b)) : inB n a b = false := by
  cases e : inB n a b
  · rfl
  · exact absurd (inB_true e) h

def Shp.ok (s : Shp) : Prop := (1 ≤ s.groups ∧ s.groups ≤ 4) ∧ (0 ≤ s.column ∧ s.column ≤ 2) ∧ (1 ≤ s.data ∧ s.data ≤ 3) ∧ (0 ≤ s.spare ∧ s.spare ≤ 2) ∧ (1 ≤ s.rows ∧ s.rows ≤ 6) ∧ (1 ≤ s.cap ∧ s.cap ≤ 6) ∧ (1 ≤ s.batch ∧ s.batch ≤ 4) ∧ (1 ≤ s.queue ∧ s.queue ≤ 6) ∧ (0 ≤ s.stage ∧ s.stage ≤ 400)
instance (s : Shp) : Decidable s.ok := by unfold Shp.ok; infer_instance
def Shp.fault (s : Shp) : Int := if s.ok then 0 else 3

theorem Shp.fault_of {s : Shp} (h1 : inB s.groups 1 4 = true) (h2 : inB s.column 0 2 = true) (h3 : inB s.data 1 3 = true) (h4 : inB s.spare 0 2 = true) (h5 : inB s.rows 1 6 = true)
    (h6 : inB s.cap 1 6 = true) (h7 : inB s.batch 1 4 = true) (h8 : inB s.queue 1 6 = true) (h9 : inB s.stage 0 400 = true) : (0 : Int) = s.fault := by
  rw [Shp.fault, if_pos ⟨inB_true h1, inB_true h2, inB_true h3, inB_true h4, inB_true h5, inB_true h6, inB_true h7, inB_true h8, inB_true h9⟩]
theorem Shp.fault_no {s : Shp} (h : inB s.groups 1 4 = false ∨ inB s.column 0 2 = false ∨ inB s.data 1 3 = false ∨ inB s.spare 0 2 = false ∨ inB s.rows 1 6 = false
    ∨ inB s.cap 1 6 = false ∨ inB s.batch 1 4 = false ∨ inB s.queue 1 6 = false ∨ inB s.stage 0 400 = false) : (3 : Int) = s.fault := by
  rw [Shp.fault, if_neg]
  rintro ⟨g1, g2, g3, g4, g5, g6, g7, g8, g9⟩
  rcases h with h | h | h | h | h | h | h | h | h <;> exact absurd (by assumption) (inB_false h)
theorem Shp.fault_or (s : Shp) : s.fault = 0 ∨ s.fault = 3 := by unfold Shp.fault; split <;> simp
theorem Shp.ok_of {s : Shp} (h : s.fault = 0) : s.ok := by
  unfold Shp.fault at h; split at h
  · assumption
  · cases h

set_option maxHeartbeats 400000 in
theorem inside_any (n a b : Int) (w : World) :
    Calls Tryz.prog 147 #[.int .i64 n, .int .i64 a, .int .i64 b] w fun e w' => e = .returned (.bool (inB n a b)) ∧ w = w' := by
  by_cases h : a ≤ n
  · have H := Lib.hid (show decide (n ≤ b) = inB n a b by simp [inB, h])
    go_enter Tryz.func147, Tryz.ntmps147
    go_wp2
    go_ret
    exact ⟨ret_bool H.out, rfl⟩
  · have H := Lib.hid (show false = inB n a b by simp [inB, h])
    go_enter Tryz.func147, Tryz.ntmps147
    go_wp2
    go_ret
    exact ⟨ret_bool H.out, rfl⟩

set_option maxHeartbeats 400000 in
theorem l1In_any (n a b : Int) (w : World) :
    Calls Tryz.prog 70 #[.int .i64 n, .int .i64 a, .int .i64 b] w fun e w' => e = .returned (.bool (inB n a b)) ∧ w = w' := by
  by_cases h : a ≤ n
  · have H := Lib.hid (show decide (n ≤ b) = inB n a b by simp [inB, h])
    go_enter Tryz.func70, Tryz.ntmps70
    go_wp2
    go_ret
    exact ⟨ret_bool H.out, rfl⟩
  · have H := Lib.hid (show false = inB n a b by simp [inB, h])
    go_enter Tryz.func70, Tryz.ntmps70
    go_wp2
    go_ret
    exact ⟨ret_bool H.out, rfl⟩

set_option maxHeartbeats 1000000 in
theorem impl_shape (s : Shp) (w : World) :
    Calls Tryz.prog 124 #[.agg s.cells] w fun e w' => e = .returned (.int .i64 s.fault) ∧ w.alloc (.cells s.cells 30) = w' := by
  have HY := Lib.hid (@Shp.fault_of s)
  have HN := Lib.hid (@Shp.fault_no s)
  generalize s.fault = F at HY HN ⊢
  obtain ⟨g, c, d, p, r, q, b, u, t⟩ := s
  simp only [Shp.cells] at HY HN ⊢
  go_enter Tryz.func124, Tryz.ntmps124
  go_wp2_with (go_at_call 147; refine (inside_any _ _ _ _).mono ?_; rintro e w' ⟨rfl, rfl⟩)
  all_goals go_ret
  all_goals refine ⟨?_, rfl⟩
  all_goals simp only [Bool.not_eq_true, Bool.not_eq_true', Bool.not_eq_false'] at *
  all_goals first
    | exact ret_int (HY.out ‹_› ‹_› ‹_› ‹_› ‹_› ‹_› ‹_› ‹_› ‹_›)
    | exact ret_int (HN.out (by simp [*]))

set_option maxHeartbeats 400000 in
theorem l3Shape_any (a b : Int) (w : World) :
    Calls Tryz.prog 189 #[.int .i64 a, .int .i64 b] w fun e w' => e = .returned (.bool (inB a 1 4 && inB b 0 2)) ∧ w = w' := by
  go_enter Tryz.func189, Tryz.ntmps189
  go_wp2_with (go_at_call 70; refine (l1In_any _ _ _ _).mono ?_; rintro e w' ⟨rfl, rfl⟩)
  all_goals go_ret
  all_goals refine ⟨?_, rfl⟩
  all_goals simp only [Bool.not_eq_true] at *
  all_goals exact ret_bool (by simp [*])

set_option maxHeartbeats 400000 in
theorem l2Shape_any (a b : Int) (w : World) :
    Calls Tryz.prog 190 #[.int .i64 a, .int .i64 b] w fun e w' => e = .returned (.bool (inB a 1 3 && inB b 0 2)) ∧ w = w' := by
  go_enter Tryz.func190, Tryz.ntmps190
  go_wp2_with (go_at_call 70; refine (l1In_any _ _ _ _).mono ?_; rintro e w' ⟨rfl, rfl⟩)
  all_goals go_ret
  all_goals refine ⟨?_, rfl⟩
  all_goals simp only [Bool.not_eq_true] at *
  all_goals exact ret_bool (by simp [*])

def inBs (a p q b r s : Int) : Bool := inB a p q && inB b r s
theorem inBs_true {a p q b r s : Int} (h : inBs a p q b r s = true) : inB a p q = true ∧ inB b r s = true := by simpa [inBs] using h
theorem inBs_false {a p q b r s : Int} (h : inBs a p q b r s = false) : inB a p q = false ∨ inB b r s = false := by
  cases e : inB a p q <;> simp [inBs, e] at h ⊢
  exact h

theorem Shp.fault_ofs {s : Shp} (h1 : inBs s.groups 1 4 s.column 0 2 = true) (h3 : inBs s.data 1 3 s.spare 0 2 = true) (h5 : inB s.rows 1 6 = true)
    (h6 : inB s.cap 1 6 = true) (h7 : inB s.batch 1 4 = true) (h8 : inB s.queue 1 6 = true) (h9 : inB s.stage 0 400 = true) : (0 : Int) = s.fault :=
  Shp.fault_of (inBs_true h1).1 (inBs_true h1).2 (inBs_true h3).1 (inBs_true h3).2 h5 h6 h7 h8 h9
theorem Shp.fault_nos {s : Shp} (h : inBs s.groups 1 4 s.column 0 2 = false ∨ inBs s.data 1 3 s.spare 0 2 = false ∨ inB s.rows 1 6 = false
    ∨ inB s.cap 1 6 = false ∨ inB s.batch 1 4 = false ∨ inB s.queue 1 6 = false ∨ inB s.stage 0 400 = false) : (3 : Int) = s.fault := by
  rcases h with h | h | h | h | h | h | h
  · rcases inBs_false h with h | h <;> exact Shp.fault_no (by simp [h])
  · rcases inBs_false h with h | h <;> exact Shp.fault_no (by simp [h])
  all_goals exact Shp.fault_no (by simp [h])

theorem l3Shape_s (a b : Int) (w : World) :
    Calls Tryz.prog 189 #[.int .i64 a, .int .i64 b] w fun e w' => e = .returned (.bool (inBs a 1 4 b 0 2)) ∧ w = w' := l3Shape_any a b w
theorem l2Shape_s (a b : Int) (w : World) :
    Calls Tryz.prog 190 #[.int .i64 a, .int .i64 b] w fun e w' => e = .returned (.bool (inBs a 1 3 b 0 2)) ∧ w = w' := l2Shape_any a b w

set_option maxHeartbeats 1000000 in
theorem spec_shape (s : Shp) (w : World) :
    Calls Tryz.prog 116 #[.agg s.cells] w fun e w' => e = .returned (.int .i64 s.fault) ∧ w.alloc (.cells s.cells 30) = w' := by
  have HY := Lib.hid (@Shp.fault_ofs s)
  have HN := Lib.hid (@Shp.fault_nos s)
  generalize s.fault = F at HY HN ⊢
  obtain ⟨g, c, d, p, r, q, b, u, t⟩ := s
  simp only [Shp.cells] at HY HN ⊢
  go_enter Tryz.func116, Tryz.ntmps116
  go_wp2_with (first | (go_at_call 70; refine (l1In_any _ _ _ _).mono ?_; rintro e w' ⟨rfl, rfl⟩) | (go_at_call 189; refine (l3Shape_s _ _ _).mono ?_; rintro e w' ⟨rfl, rfl⟩) | (go_at_call 190; refine (l2Shape_s _ _ _).mono ?_; rintro e w' ⟨rfl, rfl⟩))
  all_goals go_ret
  all_goals refine ⟨?_, rfl⟩
  all_goals simp only [Bool.not_eq_true, Bool.not_eq_true', Bool.not_eq_false'] at *
  all_goals first
    | exact ret_int (HY.out (by simp [*]) (by simp [*]) (by simp [*]) (by simp [*]) (by simp [*]) (by simp [*]) (by simp [*]))
    | exact ret_int (HN.out (by simp [*]))

set_option maxHeartbeats 400000 in
theorem toShape_any (s : Shp) (w : World) :
    Calls Tryz.prog 74 #[.agg s.cells] w fun e w' => e = .returned (.agg s.cells) ∧ Chg [] w w' := by
  obtain ⟨g, c, d, p, r, q, b, u, t⟩ := s
  simp only [Shp.cells]
  go_enter Tryz.func74, Tryz.ntmps74
  go_wp2
  go_returns
  exact ⟨rfl, by repeat (first | exact Chg.refl _ _ | refine Chg.alloc ?_ _ | refine Chg.drew ?_)⟩








theorem impl_shapeC (s : Shp) (w : World) :
    Calls Tryz.prog 124 #[.agg s.cells] w fun e w' => e = .returned (.int .i64 s.fault) ∧ Chg [] w w' :=
  (impl_shape s w).mono fun _ _ ⟨h1, h2⟩ => ⟨h1, h2 ▸ (Chg.refl [] w).alloc _⟩
theorem spec_shapeC (s : Shp) (w : World) :
    Calls Tryz.prog 116 #[.agg s.cells] w fun e w' => e = .returned (.int .i64 s.fault) ∧ Chg [] w w' :=
  (spec_shape s w).mono fun _ _ ⟨h1, h2⟩ => ⟨h1, h2 ▸ (Chg.refl [] w).alloc _⟩
end Go.Proofs.YtphmpimgbmedbaaGreat
