/- Several texts in one. -/
import Derived.Test.YtphmpimgbmedbaaGreatGaa
import Derived.Deep.RegionHeld
import Derived.Test.YtphmpimgbmedbaaGreatRows
import Derived.Test.YtphmpimgbmedbaaGreatGab
import Derived.Deep.QuietTactic
import Derived.BigQuiet
import Derived.IntWalk
import Derived.Deep.RegionLaw
import Derived.Laws.BytesArg
/- A region that draws its order, walked by hand: what may be taken first is taken, what is not wanted is passed by, a call by its contract. No function of the program in sight. -/
namespace Go.Proofs.YtphmpimgbmedbaaGreat
open Go.RowKit
open Go.Lib (hid)
def Know (b : Nat) (cs : Array Value) (w : World) : Prop := ∀ j, w.cell? ⟨b, j, none⟩ = cs[j]?
theorem Know.of {w : World} {b : Nat} {cs : Array Value} {E : TypeId} {fr : Nat × Nat} (hb : w.heap[b]? = some (.cells cs E fr)) : Know b cs w := fun j => cell_of_row w b j cs E fr hb
theorem cellKeep {w w' : World} (hc : Chg [] w w') {b o : Nat} {v : Value} (h : w.cell? ⟨b, o, none⟩ = some v) (hb : b < w.heap.size) : w'.cell? ⟨b, o, none⟩ = some v := (hc.facts.1 b o hb).trans h
section
variable {P : Program} {ops : Array Oper} {Q : Exit → Act → World → Prop} {md : Region.Mode} {S : World → Prop} {fuel : Nat} {listed : Array Bool} {a : Act} {w : World}
theorem rg_start {id : Nat} (S : World → Prop) (hm : P.follows .mixedOrders = true) (hS : S w.drew) (h : wpAnyH P .any ops Q S ops.size (Array.replicate ops.size false) a w.drew) : (Code.region id ops true).wp P Q a w :=
 wp_region_held_drew hm hS (fun _ => h)
theorem get_toList {i : Nat} {oi : Oper} (h : ops.toList[i]? = some oi) : ops[i]? = some oi := by simpa using h
theorem rg_take (i : Nat) {oi : Oper} {v : Value} (hi : ops.toList[i]? = some oi) (hc : (Region.noSelect ops && Region.free md ops listed i && (Region.ready md ops listed).contains i) = true)
  (hQ : ∀ c a w, Q (.panic c) (a.put oi.dst v) w → Q (.panic c) a w) (hS : S w) (hw : Region.wanted oi (yielded ops a.tmps) = true) (hy : ∀ w, S w → (execOp a.eval oi).run P w = .ok (.value v) w)
  (h : wpAnyH P md ops Q S fuel (listed.setIfInBounds i true) (a.put oi.dst v) w) : wpAnyH P md ops Q S (fuel + 1) listed a w := by
 simp only [Bool.and_eq_true] at hc
 exact wpAnyH_take (get_toList hi) hc.1.1 hc.1.2 hc.2 hQ (.inl ⟨hw, hy⟩) hS h
theorem rg_skip (i : Nat) {oi : Oper} (hi : ops.toList[i]? = some oi) (hc : (Region.noSelect ops && Region.free md ops listed i && (Region.ready md ops listed).contains i) = true)
  (hQ : ∀ c a w, Q (.panic c) (a.put oi.dst undef) w → Q (.panic c) a w) (hS : S w) (hw : Region.wanted oi (yielded ops a.tmps) = false)
  (h : wpAnyH P md ops Q S fuel (listed.setIfInBounds i true) (a.put oi.dst undef) w) : wpAnyH P md ops Q S (fuel + 1) listed a w := by
 simp only [Bool.and_eq_true] at hc
 exact wpAnyH_take (get_toList hi) hc.1.1 hc.1.2 hc.2 hQ (.inr ⟨hw, rfl⟩) hS h
theorem rg_call (i : Nat) {oi : Oper} (hi : ops.toList[i]? = some oi) (hr : Region.ready md ops listed = [i])
  (h : ∀ K' : Act → World → Prop, Shut (∀ a w, S w → (S w → wpAnyH P md ops Q S fuel (listed.setIfInBounds i true) a w) → K' a w) → if Region.wanted oi (yielded ops a.tmps) = true then Oper.wp P oi a w K' Q else K' (a.put oi.dst undef) w) :
  wpAnyH P md ops Q S (fuel + 1) listed a w :=
 wpAnyH_ready hr (by simp) (AllReadyH.cons (get_toList hi) h AllReadyH.nil)
theorem rgT (i : Nat) {oi : Oper} {v : Value} {a' : Act} (hS : S w) (h : wpAnyH P md ops Q S fuel (listed.setIfInBounds i true) a' w) (hi : ops.toList[i]? = some oi := by rfl)
  (hc : (Region.noSelect ops && Region.free md ops listed i && (Region.ready md ops listed).contains i) = true := by kernel_rfl)
  (hQ : ∀ c a w, Q (.panic c) (a.put oi.dst v) w → Q (.panic c) a w := by exact fun _ _ _ h => h) (hw : Region.wanted oi (yielded ops a.tmps) = true := by rfl)
  (hy : ∀ w : World, (execOp a.eval oi).run P w = .ok (.value v) w := by intro w; go_simp; (try with_reducible rfl))
  (ha : a.put oi.dst v = a' := by (try simp only [Act.put, List.setIfInBounds_toArray, List.set_cons_zero, List.set_cons_succ]); (try rfl)) : wpAnyH P md ops Q S (fuel + 1) listed a w :=
 rg_take i hi hc hQ hS hw (fun w _ => hy w) (ha ▸ h)
theorem rgL (i : Nat) {S' : World → Prop} {oi : Oper} {v : Value} {a' : Act} (hS : S w) (hSO : Hid (∀ w, S w → S' w)) (h : wpAnyH P md ops Q S fuel (listed.setIfInBounds i true) a' w) (hi : ops.toList[i]? = some oi := by rfl)
  (hc : (Region.noSelect ops && Region.free md ops listed i && (Region.ready md ops listed).contains i) = true := by kernel_rfl)
  (hQ : ∀ c a w, Q (.panic c) (a.put oi.dst v) w → Q (.panic c) a w := by exact fun _ _ _ h => h) (hw : Region.wanted oi (yielded ops a.tmps) = true := by rfl)
  (hy : ∀ w : World, S' w → (execOp a.eval oi).run P w = .ok (.value v) w := by intro w hSw; (try unfold Know at hSw); go_simp; (try with_reducible rfl))
  (ha : a.put oi.dst v = a' := by (try simp only [Act.put, List.setIfInBounds_toArray, List.set_cons_zero, List.set_cons_succ]); (try rfl)) : wpAnyH P md ops Q S (fuel + 1) listed a w :=
 rg_take i hi hc hQ hS hw (fun w h => hy w (hSO.out w h)) (ha ▸ h)
theorem rgS (i : Nat) {oi : Oper} {a' : Act} (hS : S w) (h : wpAnyH P md ops Q S fuel (listed.setIfInBounds i true) a' w) (hi : ops.toList[i]? = some oi := by rfl)
  (hc : (Region.noSelect ops && Region.free md ops listed i && (Region.ready md ops listed).contains i) = true := by kernel_rfl)
  (hQ : ∀ c a w, Q (.panic c) (a.put oi.dst undef) w → Q (.panic c) a w := by exact fun _ _ _ h => h) (hw : Region.wanted oi (yielded ops a.tmps) = false := by rfl)
  (ha : a.put oi.dst undef = a' := by (try simp only [Act.put, List.setIfInBounds_toArray, List.set_cons_zero, List.set_cons_succ]); (try rfl)) : wpAnyH P md ops Q S (fuel + 1) listed a w :=
 rg_skip i hi hc hQ hS hw (ha ▸ h)
theorem rg_cond (S : World → Prop) : ∃ S1 : World → Prop, Hid (∀ w, S w → S1 w) ∧ Hid (∀ w, S1 w → S w) := ⟨S, fun _ h => h, fun _ h => h⟩
/-! short words for what is kept behind a call -/
theorem bk {S : List Nat} {w w' : World} {b : Nat} {cs : Array Value} {E : TypeId} (hc : Chg S w w') (h : w.heap[b]? = some (.cells cs E (0, 0))) (hS : b ∉ S) : (∀ j, w'.cell? ⟨b, j, none⟩ = cs[j]?) ∧ b < w'.heap.size ∧ Hid (w'.heap[b]? = some (.cells cs E (0, 0))) :=
 ⟨cellsOf (hc.keepb h hS), ltOf (hc.keepb h hS), hc.keepb h hS⟩
theorem hct {a b c : World} (h : Hid (Chg [] a b)) (hc : Chg [] b c) : Hid (Chg [] a c) := h.out.trans0 hc
theorem hsl {α : Type} {L : Lay α} {w w' : World} {a : Option Addr} {len cap : Nat} {xs : List α} {fp : List Nat} (h : Hid (L.sl w a len cap xs fp)) (hc : Chg [] w w') : Hid (L.sl w' a len cap xs fp) := L.sl_ext h.out hc
theorem hre {α : Type} {L : Lay α} {w w' : World} {cs : List Value} {x : α} {fp : List Nat} (h : Hid (L.rep w cs x fp)) (hc : Chg [] w w') : Hid (L.rep w' cs x fp) := L.ext h.out hc
end
end Go.Proofs.YtphmpimgbmedbaaGreat
/- The walks of ShapeFault and RoomOf, of the program and of the reference, and of the copying of a shape. -/
namespace Go.Proofs.YtphmpimgbmedbaaGreat
open Go.RowKit
open Go.Lib (hid)
def Shp.cells (s : Shp) : Array Value := #[.int .i64 s.groups, .int .i64 s.column, .int .i64 s.data, .int .i64 s.spare, .int .i64 s.rows, .int .i64 s.cap, .int .i64 s.batch, .int .i64 s.queue, .int .i64 s.stage]
def inB (n a b : Int) : Bool := decide (a ≤ n) && decide (n ≤ b)
theorem inB_true {n a b : Int} (h : inB n a b = true) : a ≤ n ∧ n ≤ b := by simpa [inB] using h
theorem inB_false {n a b : Int} (h : inB n a b = false) : ¬ (a ≤ n ∧ n ≤ b) := by
 intro ⟨h1, h2⟩; simp [inB, h1, h2] at h
theorem inB_eq {n a b : Int} (h1 : a ≤ n) (h2 : n ≤ b) : inB n a b = true := by simp [inB, h1, h2]
theorem inB_neq {n a b : Int} (h : ¬ (a ≤ n ∧ n ≤ b)) : inB n a b = false := by
 cases e : inB n a b
 ·rfl
 ·exact absurd (inB_true e) h
def Shp.ok (s : Shp) : Prop := (1 ≤ s.groups ∧ s.groups ≤ 4) ∧ (0 ≤ s.column ∧ s.column ≤ 2) ∧ (1 ≤ s.data ∧ s.data ≤ 3) ∧ (0 ≤ s.spare ∧ s.spare ≤ 2) ∧ (1 ≤ s.rows ∧ s.rows ≤ 6) ∧ (1 ≤ s.cap ∧ s.cap ≤ 6) ∧ (1 ≤ s.batch ∧ s.batch ≤ 4) ∧ (1 ≤ s.queue ∧ s.queue ≤ 6) ∧ (0 ≤ s.stage ∧ s.stage ≤ 400)
instance (s : Shp) : Decidable s.ok := by unfold Shp.ok; infer_instance
def Shp.fault (s : Shp) : Int := if s.ok then 0 else 3
theorem Shp.fault_of {s : Shp} (h1 : inB s.groups 1 4 = true) (h2 : inB s.column 0 2 = true) (h3 : inB s.data 1 3 = true) (h4 : inB s.spare 0 2 = true) (h5 : inB s.rows 1 6 = true)
  (h6 : inB s.cap 1 6 = true) (h7 : inB s.batch 1 4 = true) (h8 : inB s.queue 1 6 = true) (h9 : inB s.stage 0 400 = true) : (0 : Int) = s.fault := by
 rw [Shp.fault, if_pos ⟨inB_true h1, inB_true h2, inB_true h3, inB_true h4, inB_true h5, inB_true h6, inB_true h7, inB_true h8, inB_true h9⟩]
theorem Shp.fault_no {s : Shp} (h : inB s.groups 1 4 = false ∨ inB s.column 0 2 = false ∨ inB s.data 1 3 = false ∨ inB s.spare 0 2 = false ∨ inB s.rows 1 6 = false
  ∨ inB s.cap 1 6 = false ∨ inB s.batch 1 4 = false ∨ inB s.queue 1 6 = false ∨ inB s.stage 0 400 = false) : (3 : Int) = s.fault := by
 rw [Shp.fault, if_neg]
 rintro ⟨g1, g2, g3, g4, g5, g6, g7, g8, g9⟩
 rcases h with h | h | h | h | h | h | h | h | h <;> exact absurd (by assumption) (inB_false h)
set_option maxHeartbeats 400000 in
theorem inside_any (n a b : Int) (w : World) :
  Calls Tryz.prog 147 #[.int .i64 n, .int .i64 a, .int .i64 b] w fun e w' => e = .returned (.bool (inB n a b)) ∧ w = w' := by
 by_cases h : a ≤ n
 ·have H := hid (show decide (n ≤ b) = inB n a b by simp [inB, h])
  go_enter Tryz.func147, Tryz.ntmps147
  go_wp2
  go_ret
  exact ⟨ret_bool H.out, rfl⟩
 ·have H := hid (show false = inB n a b by simp [inB, h])
  go_enter Tryz.func147, Tryz.ntmps147
  go_wp2
  go_ret
  exact ⟨ret_bool H.out, rfl⟩
set_option maxHeartbeats 400000 in
theorem l1In_any (n a b : Int) (w : World) :
  Calls Tryz.prog 70 #[.int .i64 n, .int .i64 a, .int .i64 b] w fun e w' => e = .returned (.bool (inB n a b)) ∧ w = w' := by
 by_cases h : a ≤ n
 ·have H := hid (show decide (n ≤ b) = inB n a b by simp [inB, h])
  go_enter Tryz.func70, Tryz.ntmps70
  go_wp2
  go_ret
  exact ⟨ret_bool H.out, rfl⟩
 ·have H := hid (show false = inB n a b by simp [inB, h])
  go_enter Tryz.func70, Tryz.ntmps70
  go_wp2
  go_ret
  exact ⟨ret_bool H.out, rfl⟩
set_option maxHeartbeats 1000000 in
theorem impl_shape (s : Shp) (w : World) :
  Calls Tryz.prog 124 #[.agg s.cells] w fun e w' => e = .returned (.int .i64 s.fault) ∧ w.alloc (.cells s.cells 30) = w' := by
 have HY := hid (@Shp.fault_of s)
 have HN := hid (@Shp.fault_no s)
 generalize s.fault = F at HY HN ⊢
 obtain ⟨g, c, d, p, r, q, b, u, t⟩ := s
 simp only [Shp.cells] at HY HN ⊢
 go_enter Tryz.func124, Tryz.ntmps124
 go_wp2_with (go_at_call 147; refine (inside_any _ _ _ _).mono ?_; rintro e w' ⟨rfl, rfl⟩)
 all_goals go_ret
 all_goals refine ⟨?_, rfl⟩
 all_goals simp only [Bool.not_eq_true, Bool.not_eq_true', Bool.not_eq_false'] at *
 all_goals first
  | exact ret_int (HY.out ‹_› ‹_› ‹_› ‹_› ‹_› ‹_› ‹_› ‹_› ‹_›)
  | exact ret_int (HN.out (by simp [*]))
set_option maxHeartbeats 400000 in
theorem l3Shape_any (a b : Int) (w : World) :
  Calls Tryz.prog 189 #[.int .i64 a, .int .i64 b] w fun e w' => e = .returned (.bool (inB a 1 4 && inB b 0 2)) ∧ w = w' := by
 go_enter Tryz.func189, Tryz.ntmps189
 go_wp2_with (go_at_call 70; refine (l1In_any _ _ _ _).mono ?_; rintro e w' ⟨rfl, rfl⟩)
 all_goals go_ret
 all_goals refine ⟨?_, rfl⟩
 all_goals simp only [Bool.not_eq_true] at *
 all_goals exact ret_bool (by simp [*])
set_option maxHeartbeats 400000 in
theorem l2Shape_any (a b : Int) (w : World) :
  Calls Tryz.prog 190 #[.int .i64 a, .int .i64 b] w fun e w' => e = .returned (.bool (inB a 1 3 && inB b 0 2)) ∧ w = w' := by
 go_enter Tryz.func190, Tryz.ntmps190
 go_wp2_with (go_at_call 70; refine (l1In_any _ _ _ _).mono ?_; rintro e w' ⟨rfl, rfl⟩)
 all_goals go_ret
 all_goals refine ⟨?_, rfl⟩
 all_goals simp only [Bool.not_eq_true] at *
 all_goals exact ret_bool (by simp [*])
def inBs (a p q b r s : Int) : Bool := inB a p q && inB b r s
theorem inBs_true {a p q b r s : Int} (h : inBs a p q b r s = true) : inB a p q = true ∧ inB b r s = true := by simpa [inBs] using h
theorem inBs_false {a p q b r s : Int} (h : inBs a p q b r s = false) : inB a p q = false ∨ inB b r s = false := by
 cases e : inB a p q <;> simp [inBs, e] at h ⊢
 exact h
theorem Shp.fault_ofs {s : Shp} (h1 : inBs s.groups 1 4 s.column 0 2 = true) (h3 : inBs s.data 1 3 s.spare 0 2 = true) (h5 : inB s.rows 1 6 = true)
  (h6 : inB s.cap 1 6 = true) (h7 : inB s.batch 1 4 = true) (h8 : inB s.queue 1 6 = true) (h9 : inB s.stage 0 400 = true) : (0 : Int) = s.fault :=
 Shp.fault_of (inBs_true h1).1 (inBs_true h1).2 (inBs_true h3).1 (inBs_true h3).2 h5 h6 h7 h8 h9
theorem Shp.fault_nos {s : Shp} (h : inBs s.groups 1 4 s.column 0 2 = false ∨ inBs s.data 1 3 s.spare 0 2 = false ∨ inB s.rows 1 6 = false
  ∨ inB s.cap 1 6 = false ∨ inB s.batch 1 4 = false ∨ inB s.queue 1 6 = false ∨ inB s.stage 0 400 = false) : (3 : Int) = s.fault := by
 rcases h with h | h | h | h | h | h | h
 ·rcases inBs_false h with h | h <;> exact Shp.fault_no (by simp [h])
 ·rcases inBs_false h with h | h <;> exact Shp.fault_no (by simp [h])
 all_goals exact Shp.fault_no (by simp [h])
theorem l3Shape_s (a b : Int) (w : World) :
  Calls Tryz.prog 189 #[.int .i64 a, .int .i64 b] w fun e w' => e = .returned (.bool (inBs a 1 4 b 0 2)) ∧ w = w' := l3Shape_any a b w
theorem l2Shape_s (a b : Int) (w : World) :
  Calls Tryz.prog 190 #[.int .i64 a, .int .i64 b] w fun e w' => e = .returned (.bool (inBs a 1 3 b 0 2)) ∧ w = w' := l2Shape_any a b w
set_option maxHeartbeats 1000000 in
theorem spec_shape (s : Shp) (w : World) :
  Calls Tryz.prog 116 #[.agg s.cells] w fun e w' => e = .returned (.int .i64 s.fault) ∧ w.alloc (.cells s.cells 30) = w' := by
 have HY := hid (@Shp.fault_ofs s)
 have HN := hid (@Shp.fault_nos s)
 generalize s.fault = F at HY HN ⊢
 obtain ⟨g, c, d, p, r, q, b, u, t⟩ := s
 simp only [Shp.cells] at HY HN ⊢
 go_enter Tryz.func116, Tryz.ntmps116
 go_wp2_with (first | (go_at_call 70; refine (l1In_any _ _ _ _).mono ?_; rintro e w' ⟨rfl, rfl⟩) | (go_at_call 189; refine (l3Shape_s _ _ _).mono ?_; rintro e w' ⟨rfl, rfl⟩) | (go_at_call 190; refine (l2Shape_s _ _ _).mono ?_; rintro e w' ⟨rfl, rfl⟩))
 all_goals go_ret
 all_goals refine ⟨?_, rfl⟩
 all_goals simp only [Bool.not_eq_true, Bool.not_eq_true', Bool.not_eq_false'] at *
 all_goals first
  | exact ret_int (HY.out (by simp [*]) (by simp [*]) (by simp [*]) (by simp [*]) (by simp [*]) (by simp [*]) (by simp [*]))
  | exact ret_int (HN.out (by simp [*]))
set_option maxHeartbeats 400000 in
theorem toShape_any (s : Shp) (w : World) :
  Calls Tryz.prog 74 #[.agg s.cells] w fun e w' => e = .returned (.agg s.cells) ∧ Chg [] w w' := by
 obtain ⟨g, c, d, p, r, q, b, u, t⟩ := s
 simp only [Shp.cells]
 go_enter Tryz.func74, Tryz.ntmps74
 go_wp2
 go_returns
 exact ⟨rfl, by repeat (first | exact Chg.refl _ _ | refine Chg.alloc ?_ _ | refine Chg.drew ?_)⟩
theorem impl_shapeC (s : Shp) (w : World) :
  Calls Tryz.prog 124 #[.agg s.cells] w fun e w' => e = .returned (.int .i64 s.fault) ∧ Chg [] w w' :=
 (impl_shape s w).mono fun _ _ ⟨h1, h2⟩ => ⟨h1, h2 ▸ (Chg.refl [] w).alloc _⟩
theorem spec_shapeC (s : Shp) (w : World) :
  Calls Tryz.prog 116 #[.agg s.cells] w fun e w' => e = .returned (.int .i64 s.fault) ∧ Chg [] w w' :=
 (spec_shape s w).mono fun _ _ ⟨h1, h2⟩ => ⟨h1, h2 ▸ (Chg.refl [] w).alloc _⟩
end Go.Proofs.YtphmpimgbmedbaaGreat
/- Small looks at lists and shapes: has, apart, rises, sizes, the numbers of a shape. -/
namespace Go.Proofs.YtphmpimgbmedbaaGreat
open Go.RowKit
open Go.Lib (hid)
noncomputable def pb (P : Prop) : Bool := @decide P (Classical.propDecidable P)
theorem pb_true {P : Prop} (h : P) : pb P = true := by unfold pb; exact @decide_eq_true P (Classical.propDecidable P) h
theorem pb_false {P : Prop} (h : ¬ P) : pb P = false := by unfold pb; exact @decide_eq_false P (Classical.propDecidable P) h
theorem pb_iff {P Q : Prop} (h : P ↔ Q) : pb P = pb Q := by rw [propext h]
theorem of_pb {P : Prop} (h : pb P = true) : P := by unfold pb at h; exact @of_decide_eq_true P (Classical.propDecidable P) h
theorem not_pb {P : Prop} (h : pb P = false) : ¬ P := fun hp => by rw [pb_true hp] at h; cases h
theorem quiet_same {P : Program} {f : FuncId} {args : Array Value} {w : World} {n : Nat} {v : Value} (h : Calls P f args (w.drewN n) fun e w' => e = .returned v ∧ w.drewN n = w') :
  Calls P f args (w.drewN n) fun e w'' => e = .returned v ∧ ∃ m, w'' = w.drewN m := h.mono fun _ _ ⟨he, hm⟩ => ⟨he, n, hm.symm⟩
def Apart (m : Int) (xs : List Int) : Prop := ∀ i x, xs[i]? = some x → (0 ≤ x ∧ x ≤ m) ∧ x ∉ xs.take i
def ApartTo (m : Int) (xs : List Int) (k : Nat) : Prop := ∀ i x, i < k → xs[i]? = some x → (0 ≤ x ∧ x ≤ m) ∧ x ∉ xs.take i
theorem ApartTo.zero (m : Int) (xs : List Int) : ApartTo m xs 0 := fun i x h => by omega
theorem ApartTo.next {m : Int} {xs : List Int} {k : Nat} {x : Int} (h : ApartTo m xs k) (hx : xs[k]? = some x) (h1 : 0 ≤ x ∧ x ≤ m) (h2 : x ∉ xs.take k) : ApartTo m xs (k + 1) := fun i y hi hy => by
 by_cases e : i = k
 ·subst e; rw [hx] at hy; cases hy; exact ⟨h1, h2⟩
 ·exact h i y (by omega) hy
theorem ApartTo.all {m : Int} {xs : List Int} {k : Nat} (h : ApartTo m xs k) (hk : xs.length ≤ k) : Apart m xs := fun i x hx => h i x (by have := (List.getElem?_eq_some_iff.1 hx).1; omega) hx
def Rises (m : Int) (xs : List Int) : Prop := ∀ i x, xs[i]? = some x → (0 ≤ x ∧ x ≤ m) ∧ ∀ y, 0 < i → xs[i - 1]? = some y → y < x
def RisesTo (m : Int) (xs : List Int) (k : Nat) : Prop := ∀ i x, i < k → xs[i]? = some x → (0 ≤ x ∧ x ≤ m) ∧ ∀ y, 0 < i → xs[i - 1]? = some y → y < x
theorem RisesTo.zero (m : Int) (xs : List Int) : RisesTo m xs 0 := fun i x h => by omega
theorem RisesTo.next {m : Int} {xs : List Int} {k : Nat} {x : Int} (h : RisesTo m xs k) (hx : xs[k]? = some x) (h1 : 0 ≤ x ∧ x ≤ m) (h2 : ∀ y, 0 < k → xs[k - 1]? = some y → y < x) : RisesTo m xs (k + 1) := fun i y hi hy => by
 by_cases e : i = k
 ·subst e; rw [hx] at hy; cases hy; exact ⟨h1, h2⟩
 ·exact h i y (by omega) hy
theorem RisesTo.all {m : Int} {xs : List Int} {k : Nat} (h : RisesTo m xs k) (hk : xs.length ≤ k) : Rises m xs := fun i x hx => h i x (by have := (List.getElem?_eq_some_iff.1 hx).1; omega) hx
theorem not_mem_take {xs : List Int} {k : Nat} {x v : Int} (h : ∀ y ∈ xs.take k, y ≠ v) (hx : xs[k]? = some x) (hv : x ≠ v) : ∀ y ∈ xs.take (k + 1), y ≠ v := by
 intro y hy
 rw [take_next hx] at hy
 rcases List.mem_append.1 hy with h1 | h1
 ·exact h y h1
 ·simp at h1; rw [h1]; exact hv
theorem not_mem_all {xs : List Int} {k : Nat} {v : Int} (h : ∀ y ∈ xs.take k, y ≠ v) (hk : xs.length ≤ k) : v ∉ xs := by
 rw [List.take_of_length_le hk] at h
 exact fun hv => h v hv rfl
set_option maxRecDepth 100000 in
set_option maxHeartbeats 400000 in
theorem l1Has_any (a : Option Addr) (la ca : Nat) (xs : List Int) (f : List Nat) (v : Int) (w : World) (ha : intL.sl w a la ca xs f) :
  Calls Tryz.prog 139 #[.slice a la ca, .int .i64 v] w fun e w' => e = .returned (.bool (pb (v ∈ xs))) ∧ w = w' := by
 have hm := intL.sl_max ha
 have HL := hid ha.1
 have HA := hid ha
 clear ha
 have HT := hid (fun h => pb_true h : v ∈ xs → pb (v ∈ xs) = true)
 have HF := hid (fun h => pb_false h : ¬ v ∈ xs → pb (v ∈ xs) = false)
 generalize pb (v ∈ xs) = r at HT HF ⊢
 go_enter Tryz.func139, Tryz.ntmps139
 go_wp2
 go_loop [5] (fun i => ∃ k : Nat, k ≤ la ∧ i = .int .i64 k ∧ Hid (∀ y ∈ xs.take k, y ≠ v)) (fun i => la - (intOf i).toNat)
 case atStart => exact ⟨0, by omega, rfl, by intro y hy; simp at hy⟩
 case round =>
  obtain ⟨k, hk, rfl, HK⟩ := hrel
  by_cases hlt : k < la
  ·obtain ⟨x, b, o, HX, rfl, hcx, hok⟩ := int_at HA.out hlt
   by_cases hxv : x = v
   ·subst hxv
    have hr : r = true := HT.out (List.mem_of_getElem? HX.out.1)
    have HR := hid hr
    clear hr
    go_wp2
    go_ret
    exact ⟨ret_bool HR.out.symm, rfl⟩
   ·have hne : (x == v) = false := by simp [hxv]
    have HN := hid (not_mem_take HK.out HX.out.1 hxv)
    clear hxv
    go_wp2
    go_round
    case rel => exact ⟨k + 1, by omega, by go_num, HN⟩
    case measure => simp [intOf]; omega
  ·have HR := hid (HF.out (not_mem_all HK.out (by have := HL.out; omega)))
   go_wp2
   go_ret
   exact ⟨ret_bool HR.out.symm, rfl⟩
set_option maxRecDepth 100000 in
set_option maxHeartbeats 400000 in
theorem indexI_any (a : Option Addr) (la ca : Nat) (xs : List Int) (f : List Nat) (v : Int) (w : World) (ha : intL.sl w a la ca xs f) :
  Calls Tryz.prog 255 #[.slice a la ca, .int .i64 v] w fun e w' => ∃ j : Int, e = .returned (.int .i64 j) ∧ (v ∈ xs → 0 ≤ j) ∧ (¬ v ∈ xs → j = -1) ∧ w = w' := by
 have hm := intL.sl_max ha
 have HL := hid ha.1
 have HA := hid ha
 clear ha
 go_enter Tryz.func255, Tryz.ntmps255
 go_wp2
 go_loop [5, 8] (fun u i => ∃ k : Nat, k ≤ la ∧ i = .int .i64 k ∧ Hid (∀ y ∈ xs.take k, y ≠ v)) (fun _ i => la - (intOf i).toNat)
 case atStart => exact ⟨0, by omega, rfl, by intro y hy; simp at hy⟩
 case round =>
  obtain ⟨k, hk, rfl, HK⟩ := hrel
  by_cases hlt : k < la
  ·obtain ⟨x, b, o, HX, rfl, hcx, hok⟩ := int_at HA.out hlt
   by_cases hxv : x = v
   ·subst hxv
    have HR := hid (List.mem_of_getElem? HX.out.1)
    have hxx : (x == x) = true := by simp
    go_wp2
    go_ret
    exact ⟨(k : Int), rfl, fun _ => by omega, fun h => absurd HR.out h, rfl⟩
   ·have hne : (v == x) = false := by simp [Ne.symm hxv]
    have HN := hid (not_mem_take HK.out HX.out.1 hxv)
    clear hxv
    go_wp2
    go_round
    case rel => exact ⟨k + 1, by omega, by go_num, HN⟩
    case measure => simp [intOf]; omega
  ·have HR := hid (not_mem_all HK.out (by have := HL.out; omega))
   go_wp2
   go_ret
   exact ⟨-1, rfl, fun h => absurd h HR.out, fun _ => rfl, rfl⟩
set_option maxHeartbeats 400000 in
theorem containsI_any (a : Option Addr) (la ca : Nat) (xs : List Int) (f : List Nat) (v : Int) (w : World) (ha : intL.sl w a la ca xs f) :
  Calls Tryz.prog 213 #[.slice a la ca, .int .i64 v] w fun e w' => e = .returned (.bool (pb (v ∈ xs))) ∧ w = w' := by
 have HI := hid (indexI_any a la ca xs f v w ha)
 clear ha
 go_enter Tryz.func213, Tryz.ntmps213
 go_wp2_with fail
 refine HI.out.mono ?_
 rintro e w' ⟨j, rfl, h1, h2, rfl⟩
 by_cases h : v ∈ xs
 ·have HR := hid (pb_true h)
  have hj := h1 h
  clear h h1 h2
  go_wp2_with fail
  go_ret
  exact ⟨ret_bool HR.out.symm, rfl⟩
 ·have HR := hid (pb_false h)
  have hj := h2 h
  clear h h1 h2
  subst hj
  go_wp2_with fail
  go_ret
  exact ⟨ret_bool (by rw [HR.out]), rfl⟩
theorem take_slice {w : World} {a : Option Addr} {la ca : Nat} {xs : List Int} {f : List Nat} (h : intL.sl w a la ca xs f) {k : Nat} (hk : k ≤ la) (c : Nat) (hc : k ≤ c) (hc2 : c ≤ ca) : ∃ g, intL.sl w a k c (xs.take k) g := by
 obtain ⟨h1, h2, h3, h4, ⟨rfl, rfl⟩ | ⟨b, off, cur, E, fr, fps, ha, hb, hall, rfl⟩⟩ := h
 ·refine ⟨[], by simp at h1; simp; omega, hc, by omega, fun h => by have := h4 h; omega, .inl ⟨by simp, rfl⟩⟩
 ·have e := List.take_append_drop k xs
  rw [← e] at hall
  obtain ⟨f1, f2, rfl, k1, k2⟩ := intL.all_split hall
  have hl : (xs.take k).length = k := by rw [List.length_take]; omega
  refine ⟨b :: f1, hl.symm, hc, by omega, (fun h => by rw [ha] at h; cases h), .inr ⟨b, off, cur, E, fr, f1, ha, hb, ?_, rfl⟩⟩
  rw [hl, List.take_take] at k1
  have e2 : min (k * intL.n) (la * intL.n) = k * intL.n := by have := Nat.mul_le_mul_right intL.n hk; omega
  rw [e2] at k1
  exact k1
set_option maxRecDepth 100000 in
set_option maxHeartbeats 1000000 in
theorem l5Apart_any (a : Option Addr) (la ca : Nat) (xs : List Int) (f : List Nat) (m : Int) (w : World) (ha : intL.sl w a la ca xs f) :
  Calls Tryz.prog 118 #[.slice a la ca, .int .i64 m] w fun e w' => e = .returned (.bool (pb (Apart m xs))) ∧ Chg [] w w' := by
 have hm := intL.sl_max ha
 have hca := ha.2.1
 have HL := hid ha.1
 have HA := hid ha
 clear ha
 have HT := hid (fun h => pb_true h : Apart m xs → pb (Apart m xs) = true)
 have HF := hid (fun h => pb_false h : ¬ Apart m xs → pb (Apart m xs) = false)
 generalize pb (Apart m xs) = r at HT HF ⊢
 go_enter Tryz.func118, Tryz.ntmps118
 go_wp2
 go_loopw [5] (fun i wr => ∃ k : Nat, k ≤ la ∧ i = .int .i64 k ∧ Hid (ApartTo m xs k) ∧ Hid (Chg [] w wr)) (fun i _ => la - (intOf i).toNat)
 case atStart => exact ⟨0, by omega, rfl, ApartTo.zero m xs, Chg.refl _ _⟩
 case round =>
  obtain ⟨k, hk, rfl, HK, HC⟩ := hrel
  by_cases hlt : k < la
  ·have hs := intL.sl_ext HA.out HC.out
   obtain ⟨x, b, o, HX, rfl, hcx, hok⟩ := int_at hs hlt
   obtain ⟨g, hg⟩ := take_slice hs (k := k) (by omega) ca (by omega) (by omega)
   have HB := hid (fun n => l1Has_any (some ⟨b, o, none⟩) k ca (xs.take k) g x (wr.drewN n) (intL.sl_keep hg (fun _ _ => rfl)))
   have HS := hid hs
   have hk0 : (0 : Int) ≤ (k : Int) := by omega
   have hk1 : (k : Int) < (la : Int) := by omega
   have hk2 : (k : Int) ≤ (ca : Int) := by omega
   clear hs hg
   have HI := hid (fun n => l1In_any x 0 m (wr.drewN n))
   by_cases h1 : 0 ≤ x ∧ x ≤ m
   ·rw [inB_eq h1.1 h1.2] at HI
    by_cases h2 : x ∈ xs.take k
    ·have HR := hid (HF.out (fun h => ((h k x HX.out.1).2) h2))
     rw [pb_true h2] at HB
     clear h1 h2
     go_wp2_with fail
     go_quiet (first | (go_at_call 70; exact quiet_same (HI.out _)) | (go_at_call 139; exact quiet_same (HB.out _)))
     go_wp2_with fail
     go_ret
     exact ⟨ret_bool HR.out.symm, HC.out.drewN _⟩
    ·have HN := hid (HK.out.next HX.out.1 h1 h2)
     rw [pb_false h2] at HB
     clear h1 h2
     go_wp2_with fail
     go_quiet (first | (go_at_call 70; exact quiet_same (HI.out _)) | (go_at_call 139; exact quiet_same (HB.out _)))
     go_wp2_with fail
     go_roundw
     case rel => exact ⟨k + 1, by omega, by go_num, HN, HC.out.drewN _⟩
     case measure => simp [intOf]; omega
   ·rw [inB_neq h1] at HI
    have HR := hid (HF.out (fun h => h1 (h k x HX.out.1).1))
    clear h1
    go_wp2_with fail
    go_quiet (first | (go_at_call 70; exact quiet_same (HI.out _)))
    go_wp2_with fail
    go_ret
    exact ⟨ret_bool HR.out.symm, HC.out.drewN _⟩
  ·have HR := hid (HT.out (HK.out.all (by have := HL.out; omega)))
   go_wp2
   go_ret
   exact ⟨ret_bool HR.out.symm, HC.out⟩
set_option maxRecDepth 100000 in
set_option maxHeartbeats 1000000 in
theorem l2Rise_any (a : Option Addr) (la ca : Nat) (xs : List Int) (f : List Nat) (m : Int) (w : World) (ha : intL.sl w a la ca xs f) (_ : -1000 ≤ m) (_ : m ≤ 1000) :
  Calls Tryz.prog 195 #[.slice a la ca, .int .i64 m] w fun e w' => e = .returned (.bool (pb (Rises (m) xs))) ∧ Chg [] w w' := by
 have hm := intL.sl_max ha
 have HL := hid ha.1
 have HA := hid ha
 clear ha
 have HT := hid (fun h => pb_true h : Rises (m) xs → pb (Rises (m) xs) = true)
 have HF := hid (fun h => pb_false h : ¬ Rises (m) xs → pb (Rises (m) xs) = false)
 generalize pb (Rises (m) xs) = r at HT HF ⊢
 go_enter Tryz.func195, Tryz.ntmps195
 go_wp2
 go_loopw [5] (fun i wr => ∃ k : Nat, k ≤ la ∧ i = .int .i64 k ∧ Hid (RisesTo (m) xs k) ∧ Hid (Chg [] w wr)) (fun i _ => la - (intOf i).toNat)
 case atStart => exact ⟨0, by omega, rfl, RisesTo.zero _ xs, Chg.refl _ _⟩
 case round =>
  obtain ⟨k, hk, rfl, HK, HC⟩ := hrel
  by_cases hlt : k < la
  ·have hs := intL.sl_ext HA.out HC.out
   obtain ⟨x, b, o, HX, rfl, hcx, hok⟩ := int_at hs hlt
   have HS := hid hs
   clear hs
   have hk0 : (0 : Int) ≤ (k : Int) := by omega
   have hk1 : (k : Int) < (la : Int) := by omega
   by_cases h1 : 0 ≤ x ∧ x ≤ m
   ·have hin := inB_eq h1.1 h1.2
    obtain ⟨g1, g2⟩ := h1
    have d1 : decide (x < 0) = false := decide_eq_false (by omega)
    have d2 : decide (m < x) = false := decide_eq_false (by omega)
    by_cases h0 : k = 0
    ·have HN := hid (HK.out.next HX.out.1 ⟨g1, g2⟩ (fun y h => by omega))
     have hd : decide ((0 : Int) < (k : Int)) = false := decide_eq_false (by omega)
     have hd2 : decide (0 < k) = false := decide_eq_false (by omega)
     have h00 : ¬ 0 < k := by omega
     have h01 : ¬ (0 : Int) < (k : Int) := by omega
     clear h0
     go_wp2_with fail
     go_quiet (fail)
     go_wp2_with fail
     go_roundw
     case rel => exact ⟨k + 1, by omega, by go_num, HN, by first | exact HC.out | exact HC.out.drewN _⟩
     case measure => simp [intOf]; omega
    ·obtain ⟨y, b', o', HY, e', hcy, hoky⟩ := int_at HS.out (i := k - 1) (by omega)
     simp only [Option.some.injEq, Addr.mk.injEq, and_true] at e'
     obtain ⟨rfl, rfl⟩ := e'
     obtain ⟨j, rfl⟩ : ∃ j, k = j + 1 := ⟨k - 1, by omega⟩
     simp only [Nat.add_sub_cancel] at hcy HY
     have e1 : IntKind.i64.wrap (((j + 1 : Nat) : Int) - 1) = (j : Int) := by rw [show ((j + 1 : Nat) : Int) - 1 = (j : Int) by omega]; exact IntWalk.i64_in _ (by omega)
     have e2 : ((j + 1 : Nat) : Int) - 1 = (j : Int) := by omega
     have hj1 : (j : Int) < (la : Int) := by omega
     have hj0 : (0 : Int) ≤ (j : Int) := by omega
     have hd : decide ((0 : Int) < ((j + 1 : Nat) : Int)) = true := decide_eq_true (by omega)
     by_cases h2 : y < x
     ·have HN := hid (HK.out.next HX.out.1 ⟨g1, g2⟩ (fun z _ hz => by have hz2 := HY.out.1; simp only [Nat.add_sub_cancel] at hz; rw [hz] at hz2; cases hz2; exact h2))
      have h3 : decide (x ≤ y) = false := decide_eq_false (by omega)
      go_wp2_with fail
      go_quiet (fail)
      go_wp2_with fail
      go_roundw
      case rel => exact ⟨j + 1 + 1, by omega, by go_num, HN, by first | exact HC.out | exact HC.out.drewN _⟩
      case measure => simp [intOf]; omega
     ·have HR := hid (HF.out (fun h => h2 ((h (j + 1) x HX.out.1).2 y (by omega) (by simpa using HY.out.1))))
      have h3 : decide (x ≤ y) = true := decide_eq_true (by omega)
      go_wp2_with fail
      go_quiet (fail)
      go_wp2_with fail
      go_ret
      exact ⟨ret_bool HR.out.symm, by first | exact HC.out | exact HC.out.drewN _⟩
   ·have hin := inB_neq h1
    have HR := hid (HF.out (fun h => h1 (h k x HX.out.1).1))
    rcases Decidable.em (x < 0) with h3 | h3
    ·have d1 : decide (x < 0) = true := decide_eq_true h3
     clear h1 hin
     go_wp2_with fail
     go_quiet (fail)
     go_wp2_with fail
     go_ret
     exact ⟨ret_bool HR.out.symm, HC.out.drewN _⟩
    ·have h4 : m < x := by omega
     have d1 : decide (x < 0) = false := decide_eq_false h3
     have d2 : decide (m < x) = true := decide_eq_true h4
     clear h1 hin
     go_wp2_with fail
     go_quiet (fail)
     go_wp2_with fail
     go_ret
     exact ⟨ret_bool HR.out.symm, HC.out.drewN _⟩
  ·have HR := hid (HT.out (HK.out.all (by have := HL.out; omega)))
   go_wp2
   go_ret
   exact ⟨ret_bool HR.out.symm, HC.out⟩
set_option maxRecDepth 100000 in
set_option maxHeartbeats 1000000 in
theorem risesIn_any (a : Option Addr) (la ca : Nat) (xs : List Int) (f : List Nat) (m : Int) (w : World) (ha : intL.sl w a la ca xs f) (_ : -1000 ≤ m) (_ : m ≤ 1000) :
  Calls Tryz.prog 284 #[.slice a la ca, .int .i64 m] w fun e w' => e = .returned (.bool (pb (Rises (m - 1) xs))) ∧ Chg [] w w' := by
 have hm := intL.sl_max ha
 have HL := hid ha.1
 have HA := hid ha
 clear ha
 have HT := hid (fun h => pb_true h : Rises (m - 1) xs → pb (Rises (m - 1) xs) = true)
 have HF := hid (fun h => pb_false h : ¬ Rises (m - 1) xs → pb (Rises (m - 1) xs) = false)
 generalize pb (Rises (m - 1) xs) = r at HT HF ⊢
 go_enter Tryz.func284, Tryz.ntmps284
 go_wp2
 go_loopw [5, 6, 9] (fun u v i wr => ∃ k : Nat, k ≤ la ∧ i = .int .i64 k ∧ Hid (RisesTo (m - 1) xs k) ∧ Hid (Chg [] w wr)) (fun u v i _ => la - (intOf i).toNat)
 case atStart => exact ⟨0, by omega, rfl, RisesTo.zero _ xs, Chg.refl _ _⟩
 case round =>
  obtain ⟨k, hk, rfl, HK, HC⟩ := hrel
  by_cases hlt : k < la
  ·have hs := intL.sl_ext HA.out HC.out
   obtain ⟨x, b, o, HX, rfl, hcx, hok⟩ := int_at hs hlt
   have HS := hid hs
   clear hs
   have hk0 : (0 : Int) ≤ (k : Int) := by omega
   have hk1 : (k : Int) < (la : Int) := by omega
   by_cases h1 : 0 ≤ x ∧ x ≤ m - 1
   ·have hin := inB_eq h1.1 h1.2
    obtain ⟨g1, g2⟩ := h1
    have d1 : decide (x < 0) = false := decide_eq_false (by omega)
    have d2 : decide (m - 1 < x) = false := decide_eq_false (by omega)
    by_cases h0 : k = 0
    ·have HN := hid (HK.out.next HX.out.1 ⟨g1, g2⟩ (fun y h => by omega))
     have hd : decide ((0 : Int) < (k : Int)) = false := decide_eq_false (by omega)
     have hd2 : decide (0 < k) = false := decide_eq_false (by omega)
     have h00 : ¬ 0 < k := by omega
     have h01 : ¬ (0 : Int) < (k : Int) := by omega
     clear h0
     go_wp2_with fail
     refine (inside_any x 0 (m - 1) _).mono ?_; rintro e w' ⟨rfl, rfl⟩
     rw [hin]
     go_wp2_with fail
     go_roundw
     case rel => exact ⟨k + 1, by omega, by go_num, HN, by first | exact HC.out | exact HC.out.drewN _⟩
     case measure => simp [intOf]; omega
    ·obtain ⟨y, b', o', HY, e', hcy, hoky⟩ := int_at HS.out (i := k - 1) (by omega)
     simp only [Option.some.injEq, Addr.mk.injEq, and_true] at e'
     obtain ⟨rfl, rfl⟩ := e'
     obtain ⟨j, rfl⟩ : ∃ j, k = j + 1 := ⟨k - 1, by omega⟩
     simp only [Nat.add_sub_cancel] at hcy HY
     have e1 : IntKind.i64.wrap (((j + 1 : Nat) : Int) - 1) = (j : Int) := by rw [show ((j + 1 : Nat) : Int) - 1 = (j : Int) by omega]; exact IntWalk.i64_in _ (by omega)
     have e2 : ((j + 1 : Nat) : Int) - 1 = (j : Int) := by omega
     have hj1 : (j : Int) < (la : Int) := by omega
     have hj0 : (0 : Int) ≤ (j : Int) := by omega
     have hd : decide ((0 : Int) < ((j + 1 : Nat) : Int)) = true := decide_eq_true (by omega)
     by_cases h2 : y < x
     ·have HN := hid (HK.out.next HX.out.1 ⟨g1, g2⟩ (fun z _ hz => by have hz2 := HY.out.1; simp only [Nat.add_sub_cancel] at hz; rw [hz] at hz2; cases hz2; exact h2))
      have h3 : decide (x ≤ y) = false := decide_eq_false (by omega)
      go_wp2_with fail
      refine (inside_any x 0 (m - 1) _).mono ?_; rintro e w' ⟨rfl, rfl⟩
      rw [hin]
      go_wp2_with fail
      go_roundw
      case rel => exact ⟨j + 1 + 1, by omega, by go_num, HN, by first | exact HC.out | exact HC.out.drewN _⟩
      case measure => simp [intOf]; omega
     ·have HR := hid (HF.out (fun h => h2 ((h (j + 1) x HX.out.1).2 y (by omega) (by simpa using HY.out.1))))
      have h3 : decide (x ≤ y) = true := decide_eq_true (by omega)
      go_wp2_with fail
      refine (inside_any x 0 (m - 1) _).mono ?_; rintro e w' ⟨rfl, rfl⟩
      rw [hin]
      go_wp2_with fail
      go_ret
      exact ⟨ret_bool HR.out.symm, by first | exact HC.out | exact HC.out.drewN _⟩
   ·have hin := inB_neq h1
    have HR := hid (HF.out (fun h => h1 (h k x HX.out.1).1))
    clear h1
    go_wp2_with fail
    refine (inside_any x 0 (m - 1) _).mono ?_; rintro e w' ⟨rfl, rfl⟩
    rw [hin]
    go_wp2_with fail
    go_ret
    exact ⟨ret_bool HR.out.symm, HC.out⟩
  ·have HR := hid (HT.out (HK.out.all (by have := HL.out; omega)))
   go_wp2
   go_ret
   exact ⟨ret_bool HR.out.symm, HC.out⟩
end Go.Proofs.YtphmpimgbmedbaaGreat
/- The walks of the two NameFault: both tell 0 at a name and 5 else. -/
namespace Go.Proofs.YtphmpimgbmedbaaGreat
open Go.RowKit
open Go.Lib (hid)
def Good (k : Nat) (c : Int) : Prop := (97 ≤ c ∧ c ≤ 122) ∨ (k ≠ 0 ∧ 48 ≤ c ∧ c ≤ 57)
def NameOk (s : ByteArray) : Prop := (1 ≤ s.size ∧ s.size ≤ 8) ∧ ∀ (k : Nat) (h : k < s.size), Good k (s[k].toNat : Int)
open Classical in
noncomputable def nameFault (s : ByteArray) : Int := if NameOk s then 0 else 5
theorem name_bad {s : ByteArray} {k : Nat} (h : k < s.size) (hb : ¬ Good k (s[k].toNat : Int)) : (5 : Int) = nameFault s := by
  rw [nameFault, if_neg (fun hn => hb (hn.2 k h))]
theorem name_len {s : ByteArray} (h : ¬ (1 ≤ s.size ∧ s.size ≤ 8)) : (5 : Int) = nameFault s := by
  rw [nameFault, if_neg (fun hn => h hn.1)]
theorem name_good {s : ByteArray} (h : 1 ≤ s.size ∧ s.size ≤ 8) (hg : ∀ (k : Nat) (h : k < s.size), Good k (s[k].toNat : Int)) : (0 : Int) = nameFault s := by
  rw [nameFault, if_pos ⟨h, hg⟩]
def GoodTo (s : ByteArray) (k : Nat) : Prop := ∀ (j : Nat) (h : j < s.size), j < k → Good j (s[j].toNat : Int)
theorem goodTo_next {s : ByteArray} {k : Nat} (h : GoodTo s k) (hk : k < s.size) (hg : Good k (s[k].toNat : Int)) : GoodTo s (k + 1) := by
  intro j hj hjk
  by_cases e : j = k
  · subst e; exact hg
  · exact h j hj (by omega)
theorem goodTo_all {s : ByteArray} {k : Nat} (h : GoodTo s k) (hk : s.size ≤ k) : ∀ (k : Nat) (h : k < s.size), Good k (s[k].toNat : Int) := fun j hj => h j hj (by omega)
set_option maxHeartbeats 1000000 in
theorem impl_name (s : ByteArray) (hs : s.size ≤ maxLen) (w : World) :
    Calls Tryz.prog 125 #[.string s] w fun e w' => e = .returned (.int .i64 (nameFault s)) ∧ w = w' := by
  unfold maxLen at hs
  go_enter Tryz.func125, Tryz.ntmps125
  go_wp2
  go_loop [3, 4, 7] (fun _ _ i => ∃ k : Nat, k ≤ s.size ∧ GoodTo s k ∧ i = .int .i64 k) (fun _ _ i => s.size - (intOf i).toNat)
  case atStart => exact ⟨0, by omega, fun j _ h => by omega, rfl⟩
  case round =>
    obtain ⟨k, hk, hg, rfl⟩ := hrel
    by_cases hlt : k < s.size
    · have HB : Hid (¬ Good k (s[k].toNat : Int) → (5 : Int) = nameFault s) := fun hb => name_bad hlt hb
      have HG : Hid (Good k (s[k].toNat : Int) → GoodTo s (k + 1)) := fun h => goodTo_next hg hlt h
      clear hg
      have hc : (s[k].toNat : Int) < 48 ∨ (48 ≤ (s[k].toNat : Int) ∧ (s[k].toNat : Int) ≤ 57) ∨ (57 < (s[k].toNat : Int) ∧ (s[k].toNat : Int) < 97) ∨ (97 ≤ (s[k].toNat : Int) ∧ (s[k].toNat : Int) ≤ 122) ∨ 122 < (s[k].toNat : Int) := by omega
      by_cases h0 : k = 0
      · subst h0
        rcases hc with hc | ⟨hc, hc2⟩ | ⟨hc, hc2⟩ | ⟨hc, hc2⟩ | hc
        all_goals
          go_wp2
          all_goals first
            | (go_round
               case rel => exact ⟨1, by omega, HG.out (by unfold Good; omega), rfl⟩
               case measure => simp [intOf]; omega)
            | (go_ret; exact ⟨ret_int (HB.out (by unfold Good; omega)), rfl⟩)
            | (exfalso; simp_all; done)
            | (exfalso; simp_all; omega)
      · have hk0 : (((k : Nat) : Int) == 0) = false := by rw [beq_eq_false_iff_ne]; omega
        rcases hc with hc | ⟨hc, hc2⟩ | ⟨hc, hc2⟩ | ⟨hc, hc2⟩ | hc
        all_goals
          go_wp2
          all_goals first
            | (go_round
               case rel => exact ⟨k + 1, by omega, HG.out (by unfold Good; omega), by go_num⟩
               case measure => simp [intOf]; omega)
            | (go_ret; exact ⟨ret_int (HB.out (by unfold Good; omega)), rfl⟩)
            | (exfalso; simp_all; done)
            | (exfalso; simp_all; omega)
    · have ha := goodTo_all hg (by omega)
      by_cases hl : 1 ≤ s.size ∧ s.size ≤ 8
      · have H := hid (name_good hl ha)
        obtain ⟨hl1, hl2⟩ := hl
        clear ha hg
        have a1 : (1 : Int) ≤ (s.size : Int) := by omega
        have a2 : (s.size : Int) ≤ 8 := by omega
        go_wp2
        go_ret
        exact ⟨ret_int H.out, rfl⟩
      · have H := hid (name_len hl)
        clear ha hg
        by_cases a1 : (1 : Int) ≤ (s.size : Int)
        · have a2 : (8 : Int) < (s.size : Int) := by omega
          have d1 : decide ((s.size : Int) ≤ 8) = false := by simp; omega
          clear hl
          go_wp2
          go_ret
          exact ⟨ret_int H.out, rfl⟩
        · clear hl
          go_wp2
          go_ret
          exact ⟨ret_int H.out, rfl⟩
set_option maxHeartbeats 1000000 in
theorem spec_name (s : ByteArray) (hs : s.size ≤ maxLen) (w : World) :
    Calls Tryz.prog 192 #[.string s] w fun e w' => e = .returned (.int .i64 (nameFault s)) ∧ w = w' := by
  unfold maxLen at hs
  by_cases hl : 1 ≤ s.size ∧ s.size ≤ 8
  · have hlt : 0 < s.size := by omega
    have a1 : (1 : Int) ≤ (s.size : Int) := by omega
    have a2 : (s.size : Int) ≤ 8 := by omega
    have hc : (s[0].toNat : Int) < 97 ∨ 122 < (s[0].toNat : Int) ∨ (97 ≤ (s[0].toNat : Int) ∧ (s[0].toNat : Int) ≤ 122) := by omega
    rcases hc with hc | hc | ⟨hc1, hc2⟩
    · have H := hid (name_bad hlt (by unfold Good; omega))
      clear hl
      go_enter Tryz.func192, Tryz.ntmps192
      go_wp2
      go_ret
      exact ⟨ret_int H.out, rfl⟩
    · have H := hid (name_bad hlt (by unfold Good; omega))
      clear hl
      go_enter Tryz.func192, Tryz.ntmps192
      go_wp2
      go_ret
      exact ⟨ret_int H.out, rfl⟩
    · have hl' := hid hl
      have hc' : Hid (97 ≤ (s[0].toNat : Int) ∧ (s[0].toNat : Int) ≤ 122) := ⟨hc1, hc2⟩
      clear hl
      go_enter Tryz.func192, Tryz.ntmps192
      go_wp2
      clear hc1 hc2
      go_loop [3] (fun i => ∃ k : Nat, k ≤ s.size ∧ GoodTo s k ∧ i = .int .i64 k) (fun i => s.size - (intOf i).toNat)
      case atStart => exact ⟨0, by omega, fun j _ h => by omega, rfl⟩
      case round =>
        obtain ⟨k, hk, hg, rfl⟩ := hrel
        by_cases hlt : k < s.size
        · have HB : Hid (¬ Good k (s[k].toNat : Int) → (5 : Int) = nameFault s) := fun hb => name_bad hlt hb
          have HG : Hid (Good k (s[k].toNat : Int) → GoodTo s (k + 1)) := fun h => goodTo_next hg hlt h
          clear hg
          have hc : (s[k].toNat : Int) < 48 ∨ (48 ≤ (s[k].toNat : Int) ∧ (s[k].toNat : Int) ≤ 57) ∨ (57 < (s[k].toNat : Int) ∧ (s[k].toNat : Int) < 97) ∨ (97 ≤ (s[k].toNat : Int) ∧ (s[k].toNat : Int) ≤ 122) ∨ 122 < (s[k].toNat : Int) := by omega
          by_cases h0 : k = 0
          · subst h0
            obtain ⟨hc1, hc2⟩ := hc'.out
            have hgood : GoodTo s 1 := HG.out (by unfold Good; omega)
            clear hc
            go_wp2
            go_round
            case rel => exact ⟨1, by omega, hgood, rfl⟩
            case measure => simp [intOf]; omega
          · rcases hc with hc | ⟨hc, hc2⟩ | ⟨hc, hc2⟩ | ⟨hc, hc2⟩ | hc
            all_goals
              go_wp2
              all_goals first
                | (go_round
                   case rel => exact ⟨k + 1, by omega, HG.out (by unfold Good; omega), by go_num⟩
                   case measure => simp [intOf]; omega)
                | (go_ret; exact ⟨ret_int (HB.out (by unfold Good; omega)), rfl⟩)
                | (exfalso; simp_all; done)
                | (exfalso; simp_all; omega)
        · have H := hid (name_good hl'.out (goodTo_all hg (by omega)))
          clear hg
          go_wp2
          go_ret
          exact ⟨ret_int H.out, rfl⟩
  · have H := hid (name_len hl)
    by_cases a1 : (1 : Int) ≤ (s.size : Int)
    · have a2 : (8 : Int) < (s.size : Int) := by omega
      clear hl
      go_enter Tryz.func192, Tryz.ntmps192
      go_wp2
      go_ret
      exact ⟨ret_int H.out, rfl⟩
    · clear hl
      go_enter Tryz.func192, Tryz.ntmps192
      go_wp2
      go_ret
      exact ⟨ret_int H.out, rfl⟩
end Go.Proofs.YtphmpimgbmedbaaGreat
/- The walks of the functions that reckon a number: quotients, the bytes of the codes, FactorOf, PartsFor, HomeOf. -/
namespace Go.Proofs.YtphmpimgbmedbaaGreat
open Go.RowKit
open Go.Lib (hid)
/-! ### FactorOf -/
/-! ### PartsFor -/
def partsV (d n : Int) : Int × Int := if n < 1 then (0, 6) else if 12 * d < n then (0, 2) else ((n + 4 * d - 1) / (4 * d), 0)
def Shp.parts (s : Shp) (n : Int) : Int × Int := if s.ok then ((partsV s.data n).2, (partsV s.data n).1) else (3, 0)
set_option maxHeartbeats 1000000 in
theorem parts_any (s : Shp) (n : Int) (hd : 1 ≤ s.data) (hd2 : s.data ≤ 3) (hn : i64ok n) (w : World) :
  Calls Tryz.prog 283 #[.agg s.cells, .int .i64 n] w fun e w' => e = .returned (.tuple #[.int .i64 (partsV s.data n).1, .int .i64 (partsV s.data n).2]) ∧ Chg [] w w' := by
 obtain ⟨hn1, hn2⟩ := hn
 obtain ⟨g, c, d, p, r', q, b, u, t⟩ := s
 simp only at hd hd2 ⊢
 have h : d = 1 ∨ d = 2 ∨ d = 3 := by omega
 clear hd hd2
 rcases h with rfl | rfl | rfl
 ·simp only [Shp.cells]
  by_cases h1 : n < 1
  ·have HR := hid (show partsV 1 n = (0, 6) by rw [partsV, if_pos h1])
   generalize partsV 1 n = r at HR ⊢
   go_enter Tryz.func283, Tryz.ntmps283
   go_wp2
   go_ret2
   exact ⟨by rw [HR.out]; rfl, by repeat (first | exact Chg.refl _ _ | refine Chg.alloc ?_ _ | refine Chg.drewN ?_ _ | refine Chg.drew ?_)⟩
  ·by_cases h2 : 12 < n
   ·have HR := hid (show partsV 1 n = (0, 2) by rw [partsV, if_neg h1, if_pos (by omega)])
    generalize partsV 1 n = r at HR ⊢
    go_enter Tryz.func283, Tryz.ntmps283
    go_wp2
    go_ret2
    exact ⟨by rw [HR.out]; rfl, by repeat (first | exact Chg.refl _ _ | refine Chg.alloc ?_ _ | refine Chg.drewN ?_ _ | refine Chg.drew ?_)⟩
   ·have HR := hid (show partsV 1 n = ((n - 1) / 4 + 1, 0) by rw [partsV, if_neg h1, if_neg (by omega)]; exact Prod.ext (by show _ / _ = _; omega) rfl)
    generalize partsV 1 n = r at HR ⊢
    go_enter Tryz.func283, Tryz.ntmps283
    go_wp2
    go_ret2
    exact ⟨by rw [HR.out]; rfl, by repeat (first | exact Chg.refl _ _ | refine Chg.alloc ?_ _ | refine Chg.drewN ?_ _ | refine Chg.drew ?_)⟩
 ·simp only [Shp.cells]
  by_cases h1 : n < 1
  ·have HR := hid (show partsV 2 n = (0, 6) by rw [partsV, if_pos h1])
   generalize partsV 2 n = r at HR ⊢
   go_enter Tryz.func283, Tryz.ntmps283
   go_wp2
   go_ret2
   exact ⟨by rw [HR.out]; rfl, by repeat (first | exact Chg.refl _ _ | refine Chg.alloc ?_ _ | refine Chg.drewN ?_ _ | refine Chg.drew ?_)⟩
  ·by_cases h2 : 24 < n
   ·have HR := hid (show partsV 2 n = (0, 2) by rw [partsV, if_neg h1, if_pos (by omega)])
    generalize partsV 2 n = r at HR ⊢
    go_enter Tryz.func283, Tryz.ntmps283
    go_wp2
    go_ret2
    exact ⟨by rw [HR.out]; rfl, by repeat (first | exact Chg.refl _ _ | refine Chg.alloc ?_ _ | refine Chg.drewN ?_ _ | refine Chg.drew ?_)⟩
   ·have HR := hid (show partsV 2 n = ((n - 1) / 8 + 1, 0) by rw [partsV, if_neg h1, if_neg (by omega)]; exact Prod.ext (by show _ / _ = _; omega) rfl)
    generalize partsV 2 n = r at HR ⊢
    go_enter Tryz.func283, Tryz.ntmps283
    go_wp2
    go_ret2
    exact ⟨by rw [HR.out]; rfl, by repeat (first | exact Chg.refl _ _ | refine Chg.alloc ?_ _ | refine Chg.drewN ?_ _ | refine Chg.drew ?_)⟩
 ·simp only [Shp.cells]
  by_cases h1 : n < 1
  ·have HR := hid (show partsV 3 n = (0, 6) by rw [partsV, if_pos h1])
   generalize partsV 3 n = r at HR ⊢
   go_enter Tryz.func283, Tryz.ntmps283
   go_wp2
   go_ret2
   exact ⟨by rw [HR.out]; rfl, by repeat (first | exact Chg.refl _ _ | refine Chg.alloc ?_ _ | refine Chg.drewN ?_ _ | refine Chg.drew ?_)⟩
  ·by_cases h2 : 36 < n
   ·have HR := hid (show partsV 3 n = (0, 2) by rw [partsV, if_neg h1, if_pos (by omega)])
    generalize partsV 3 n = r at HR ⊢
    go_enter Tryz.func283, Tryz.ntmps283
    go_wp2
    go_ret2
    exact ⟨by rw [HR.out]; rfl, by repeat (first | exact Chg.refl _ _ | refine Chg.alloc ?_ _ | refine Chg.drewN ?_ _ | refine Chg.drew ?_)⟩
   ·have HR := hid (show partsV 3 n = ((n - 1) / 12 + 1, 0) by rw [partsV, if_neg h1, if_neg (by omega)]; exact Prod.ext (by show _ / _ = _; omega) rfl)
    generalize partsV 3 n = r at HR ⊢
    go_enter Tryz.func283, Tryz.ntmps283
    go_wp2
    go_ret2
    exact ⟨by rw [HR.out]; rfl, by repeat (first | exact Chg.refl _ _ | refine Chg.alloc ?_ _ | refine Chg.drewN ?_ _ | refine Chg.drew ?_)⟩
set_option maxHeartbeats 1000000 in
theorem l4Long_any (s : Shp) (n : Int) (hd : 1 ≤ s.data) (hd2 : s.data ≤ 3) (hn : i64ok n) (w : World) :
  Calls Tryz.prog 248 #[.agg s.cells, .int .i64 n] w fun e w' => e = .returned (.int .i64 (partsV s.data n).2) ∧ Chg [] w w' := by
 obtain ⟨hn1, hn2⟩ := hn
 obtain ⟨g, c, d, p, r', q, b, u, t⟩ := s
 simp only at hd hd2 ⊢
 have h : d = 1 ∨ d = 2 ∨ d = 3 := by omega
 clear hd hd2
 rcases h with rfl | rfl | rfl
 ·simp only [Shp.cells]
  by_cases h1 : n < 1
  ·have HR := hid (show partsV 1 n = (0, 6) by rw [partsV, if_pos h1])
   generalize partsV 1 n = r at HR ⊢
   go_enter Tryz.func248, Tryz.ntmps248
   go_wp2
   go_ret
   exact ⟨by rw [HR.out]; rfl, by repeat (first | exact Chg.refl _ _ | refine Chg.alloc ?_ _ | refine Chg.drewN ?_ _ | refine Chg.drew ?_)⟩
  ·by_cases h2 : 12 < n
   ·have HR := hid (show partsV 1 n = (0, 2) by rw [partsV, if_neg h1, if_pos (by omega)])
    generalize partsV 1 n = r at HR ⊢
    go_enter Tryz.func248, Tryz.ntmps248
    go_wp2
    go_ret
    exact ⟨by rw [HR.out]; rfl, by repeat (first | exact Chg.refl _ _ | refine Chg.alloc ?_ _ | refine Chg.drewN ?_ _ | refine Chg.drew ?_)⟩
   ·have HR := hid (show partsV 1 n = ((n - 1) / 4 + 1, 0) by rw [partsV, if_neg h1, if_neg (by omega)]; exact Prod.ext (by show _ / _ = _; omega) rfl)
    generalize partsV 1 n = r at HR ⊢
    go_enter Tryz.func248, Tryz.ntmps248
    go_wp2
    go_ret
    exact ⟨by rw [HR.out]; rfl, by repeat (first | exact Chg.refl _ _ | refine Chg.alloc ?_ _ | refine Chg.drewN ?_ _ | refine Chg.drew ?_)⟩
 ·simp only [Shp.cells]
  by_cases h1 : n < 1
  ·have HR := hid (show partsV 2 n = (0, 6) by rw [partsV, if_pos h1])
   generalize partsV 2 n = r at HR ⊢
   go_enter Tryz.func248, Tryz.ntmps248
   go_wp2
   go_ret
   exact ⟨by rw [HR.out]; rfl, by repeat (first | exact Chg.refl _ _ | refine Chg.alloc ?_ _ | refine Chg.drewN ?_ _ | refine Chg.drew ?_)⟩
  ·by_cases h2 : 24 < n
   ·have HR := hid (show partsV 2 n = (0, 2) by rw [partsV, if_neg h1, if_pos (by omega)])
    generalize partsV 2 n = r at HR ⊢
    go_enter Tryz.func248, Tryz.ntmps248
    go_wp2
    go_ret
    exact ⟨by rw [HR.out]; rfl, by repeat (first | exact Chg.refl _ _ | refine Chg.alloc ?_ _ | refine Chg.drewN ?_ _ | refine Chg.drew ?_)⟩
   ·have HR := hid (show partsV 2 n = ((n - 1) / 8 + 1, 0) by rw [partsV, if_neg h1, if_neg (by omega)]; exact Prod.ext (by show _ / _ = _; omega) rfl)
    generalize partsV 2 n = r at HR ⊢
    go_enter Tryz.func248, Tryz.ntmps248
    go_wp2
    go_ret
    exact ⟨by rw [HR.out]; rfl, by repeat (first | exact Chg.refl _ _ | refine Chg.alloc ?_ _ | refine Chg.drewN ?_ _ | refine Chg.drew ?_)⟩
 ·simp only [Shp.cells]
  by_cases h1 : n < 1
  ·have HR := hid (show partsV 3 n = (0, 6) by rw [partsV, if_pos h1])
   generalize partsV 3 n = r at HR ⊢
   go_enter Tryz.func248, Tryz.ntmps248
   go_wp2
   go_ret
   exact ⟨by rw [HR.out]; rfl, by repeat (first | exact Chg.refl _ _ | refine Chg.alloc ?_ _ | refine Chg.drewN ?_ _ | refine Chg.drew ?_)⟩
  ·by_cases h2 : 36 < n
   ·have HR := hid (show partsV 3 n = (0, 2) by rw [partsV, if_neg h1, if_pos (by omega)])
    generalize partsV 3 n = r at HR ⊢
    go_enter Tryz.func248, Tryz.ntmps248
    go_wp2
    go_ret
    exact ⟨by rw [HR.out]; rfl, by repeat (first | exact Chg.refl _ _ | refine Chg.alloc ?_ _ | refine Chg.drewN ?_ _ | refine Chg.drew ?_)⟩
   ·have HR := hid (show partsV 3 n = ((n - 1) / 12 + 1, 0) by rw [partsV, if_neg h1, if_neg (by omega)]; exact Prod.ext (by show _ / _ = _; omega) rfl)
    generalize partsV 3 n = r at HR ⊢
    go_enter Tryz.func248, Tryz.ntmps248
    go_wp2
    go_ret
    exact ⟨by rw [HR.out]; rfl, by repeat (first | exact Chg.refl _ _ | refine Chg.alloc ?_ _ | refine Chg.drewN ?_ _ | refine Chg.drew ?_)⟩
set_option maxHeartbeats 400000 in
theorem l4Wide_any (s : Shp) (hd : 1 ≤ s.data) (hd2 : s.data ≤ 3) (w : World) :
  Calls Tryz.prog 194 #[.agg s.cells] w fun e w' => e = .returned (.int .i64 (s.data * 4)) ∧ w.alloc (.cells s.cells 30) = w' := by
 obtain ⟨g, c, d, p, r', q, b, u, t⟩ := s
 simp only [Shp.cells] at *
 go_enter Tryz.func194, Tryz.ntmps194
 go_wp2
 go_ret
 exact ⟨rfl, rfl⟩
theorem parts_wrap (n k : Int) (hn : 0 ≤ n) (hn2 : n ≤ 1000000000) (hk : 1 ≤ k) (hk2 : k ≤ 12) : IntKind.i64.wrap ((IntKind.i64.wrap (IntKind.i64.wrap (n + k) - 1)).tdiv k) = (n + k - 1) / k := by
 rw [IntWalk.i64_in (n + k) ⟨by omega, by omega⟩, IntWalk.i64_in (n + k - 1) ⟨by omega, by omega⟩, Int.tdiv_eq_ediv_of_nonneg (by omega)]
 have h1 : 0 ≤ (n + k - 1) / k := Int.ediv_nonneg (by omega) (by omega)
 have h2 : (n + k - 1) / k ≤ n + k - 1 := Int.ediv_le_self _ (by omega)
 exact IntWalk.i64_in _ ⟨by omega, by omega⟩
set_option maxRecDepth 100000 in
set_option maxHeartbeats 1000000 in
theorem l4Parts_any (s : Shp) (n : Int) (hd : 1 ≤ s.data) (hd2 : s.data ≤ 3) (hn : 0 ≤ n) (hn2 : n ≤ 1000000000) (w : World) :
  Calls Tryz.prog 249 #[.agg s.cells, .int .i64 n] w fun e w' => e = .returned (.int .i64 ((n + 4 * s.data - 1) / (4 * s.data))) ∧ Chg [] w w' := by
 have HW := hid (l4Wide_any s hd hd2)
 obtain ⟨g, c, d, p, r', q, b, u, t⟩ := s
 simp only [Shp.cells] at *
 have h : d = 1 ∨ d = 2 ∨ d = 3 := by omega
 clear hd hd2
 rcases h with rfl | rfl | rfl
 all_goals
  go_enter Tryz.func249, Tryz.ntmps249
  go_wp2_with fail
  go_region_law (go_simp; go_at_call 194; refine (HW.out _).mono ?_; rintro e w' ⟨rfl, rfl⟩)
  all_goals (go_wp2; go_ret)
  all_goals refine ⟨ret_int ?_, by repeat (first | exact Chg.refl _ _ | refine Chg.alloc ?_ _ | refine Chg.drewN ?_ _ | refine Chg.drew ?_)⟩
  all_goals (first | rw [parts_wrap n 4 (by omega) (by omega) (by omega) (by omega)] | rw [parts_wrap n 8 (by omega) (by omega) (by omega) (by omega)] | rw [parts_wrap n 12 (by omega) (by omega) (by omega) (by omega)])
  all_goals rfl
theorem partsV_cases (d n : Int) (h : 1 ≤ d) (h2 : d ≤ 3) : partsV d n = (0, 6) ∨ partsV d n = (0, 2) ∨ (partsV d n = ((n + 4 * d - 1) / (4 * d), 0) ∧ 1 ≤ n ∧ n ≤ 36) := by
 unfold partsV; split
 ·exact .inl rfl
 ·split
  ·exact .inr (.inl rfl)
  ·exact .inr (.inr ⟨rfl, by omega, by omega⟩)
/-! ### HomeOf -/
end Go.Proofs.YtphmpimgbmedbaaGreat
/- The walks that compare lists and records. -/
namespace Go.Proofs.YtphmpimgbmedbaaGreat
open Go.RowKit
open Go.Lib (hid)
theorem take_ne {α : Type} {xs ys : List α} {k : Nat} {x y : α} (hx : xs[k]? = some x) (hy : ys[k]? = some y) (h : x ≠ y) : xs ≠ ys := fun e => by
 subst e; exact h (Option.some.inj (hx.symm.trans hy))
noncomputable def sameV {α : Type} (x y : α) : Bool := @decide (x = y) (Classical.propDecidable _)
theorem sameV_true {α : Type} {x y : α} (h : x = y) : sameV x y = true := by unfold sameV; simp [h]
theorem sameV_false {α : Type} {x y : α} (h : x ≠ y) : sameV x y = false := by unfold sameV; simp [h]
set_option maxRecDepth 100000 in
set_option maxHeartbeats 1000000 in
theorem l6Nums_any (a b : Option Addr) (la ca lb cb : Nat) (xs ys : List Int) (f g : List Nat) (w : World) (ha : intL.sl w a la ca xs f) (hb : intL.sl w b lb cb ys g) :
  Calls Tryz.prog 269 #[.slice a la ca, .slice b lb cb] w fun e w' => e = .returned (.bool (sameV xs ys)) ∧ Chg [] w w' := by
 have hma := intL.sl_max ha
 have hmb := intL.sl_max hb
 have HLA := hid ha.1
 have HLB := hid hb.1
 have HA := hid ha
 have HB := hid hb
 clear ha hb
 by_cases hl : la = lb
 ·subst hl
  have hne : ((la : Int) != (la : Int)) = false := by simp
  go_enter Tryz.func269, Tryz.ntmps269
  go_wp2
  go_loopw [5] (fun i wr => ∃ k : Nat, k ≤ la ∧ i = .int .i64 k ∧ Chg [] w wr ∧ Hid (xs.take k = ys.take k)) (fun i _ => la - (intOf i).toNat)
  case atStart => exact ⟨0, by omega, rfl, Chg.refl _ _, rfl⟩
  case round =>
   obtain ⟨k, hk, rfl, hc, HT⟩ := hrel
   by_cases hlt : k < la
   ·obtain ⟨x, b1, o1, HX, rfl, hcx, _⟩ := int_at (intL.sl_ext HA.out hc) hlt
    obtain ⟨y, b2, o2, HY, rfl, hcy, _⟩ := int_at (intL.sl_ext HB.out hc) hlt
    by_cases heq : x = y
    ·have HT2 := hid (show xs.take (k + 1) = ys.take (k + 1) by rw [take_next HX.out.1, take_next HY.out.1, HT.out, heq])
     subst heq
     have hxx : (x != x) = false := by simp
     have HC := hid hc
     clear hc
     go_wp2_with fail
     go_region
     all_goals (try go_wp2)
     all_goals
      go_roundw
      case rel => exact ⟨k + 1, by omega, by go_num, HC.out.drew, HT2⟩
      case measure => simp [intOf]; omega
    ·have HF := hid (sameV_false (take_ne HX.out.1 HY.out.1 heq))
     have hxx : (x != y) = true := by rw [bne_iff_ne]; exact heq
     have HC := hid hc
     clear hc heq
     go_wp2_with fail
     go_region
     all_goals (try go_wp2)
     all_goals
      go_ret
      exact ⟨by rw [HF.out]; rfl, HC.out.drew⟩
   ·have hkl : k = la := by omega
    subst hkl
    have HF := hid (sameV_true (show xs = ys by rw [← List.take_of_length_le (l := xs) (i := k) (by have := HLA.out; omega), HT.out, List.take_of_length_le (by have := HLB.out; omega)]))
    have HC := hid hc
    clear hc
    go_wp2
    go_ret
    exact ⟨by rw [HF.out]; rfl, HC.out⟩
 ·have hne : ((la : Int) != (lb : Int)) = true := by rw [bne_iff_ne]; omega
  have HF := hid (sameV_false (show xs ≠ ys from fun e => hl (by rw [HLA.out, HLB.out, e])))
  clear hl
  go_enter Tryz.func269, Tryz.ntmps269
  go_wp2
  go_ret
  exact ⟨by rw [HF.out]; rfl, Chg.refl _ _⟩
set_option maxRecDepth 100000 in
set_option maxHeartbeats 1000000 in
theorem slEq_any (a b : Option Addr) (la ca lb cb : Nat) (xs ys : List Int) (f g : List Nat) (w : World) (ha : intL.sl w a la ca xs f) (hb : intL.sl w b lb cb ys g) :
  Calls Tryz.prog 203 #[.slice a la ca, .slice b lb cb] w fun e w' => e = .returned (.bool (sameV xs ys)) ∧ Chg [] w w' := by
 have hma := intL.sl_max ha
 have hmb := intL.sl_max hb
 have HLA := hid ha.1
 have HLB := hid hb.1
 have HA := hid ha
 have HB := hid hb
 clear ha hb
 by_cases hl : la = lb
 ·subst hl
  have hne : ((la : Int) != (la : Int)) = false := by simp
  go_enter Tryz.func203, Tryz.ntmps203
  go_wp2
  go_loopw [13] (fun i wr => ∃ k : Nat, k ≤ la ∧ i = .int .i64 k ∧ Chg [] w wr ∧ Hid (xs.take k = ys.take k)) (fun i _ => la - (intOf i).toNat)
  case atStart => exact ⟨0, by omega, rfl, Chg.refl _ _, rfl⟩
  case round =>
   obtain ⟨k, hk, rfl, hc, HT⟩ := hrel
   by_cases hlt : k < la
   ·obtain ⟨x, b1, o1, HX, rfl, hcx, _⟩ := int_at (intL.sl_ext HA.out hc) hlt
    obtain ⟨y, b2, o2, HY, rfl, hcy, _⟩ := int_at (intL.sl_ext HB.out hc) hlt
    by_cases heq : x = y
    ·have HT2 := hid (show xs.take (k + 1) = ys.take (k + 1) by rw [take_next HX.out.1, take_next HY.out.1, HT.out, heq])
     subst heq
     have hxx : (x != x) = false := by simp
     have HC := hid hc
     clear hc
     go_wp2_with fail
     go_region
     all_goals (try go_wp2)
     all_goals
      go_roundw
      case rel => exact ⟨k + 1, by omega, by go_num, HC.out.drew, HT2⟩
      case measure => simp [intOf]; omega
    ·have HF := hid (sameV_false (take_ne HX.out.1 HY.out.1 heq))
     have hxx : (x != y) = true := by rw [bne_iff_ne]; exact heq
     have HC := hid hc
     clear hc heq
     go_wp2_with fail
     go_region
     all_goals (try go_wp2)
     all_goals
      go_ret
      exact ⟨by rw [HF.out]; rfl, HC.out.drew⟩
   ·have hkl : k = la := by omega
    subst hkl
    have HF := hid (sameV_true (show xs = ys by rw [← List.take_of_length_le (l := xs) (i := k) (by have := HLA.out; omega), HT.out, List.take_of_length_le (by have := HLB.out; omega)]))
    have HC := hid hc
    clear hc
    go_wp2
    go_ret
    exact ⟨by rw [HF.out]; rfl, HC.out⟩
 ·have hne : ((la : Int) != (lb : Int)) = true := by rw [bne_iff_ne]; omega
  have HF := hid (sameV_false (show xs ≠ ys from fun e => hl (by rw [HLA.out, HLB.out, e])))
  clear hl
  go_enter Tryz.func203, Tryz.ntmps203
  go_wp2
  go_ret
  exact ⟨by rw [HF.out]; rfl, Chg.refl _ _⟩
set_option maxRecDepth 100000 in
set_option maxHeartbeats 1000000 in
theorem l2Same_any (a b : Option Addr) (la ca lb cb : Nat) (xs ys : List UInt8) (f g : List Nat) (w : World) (ha : byteL.sl w a la ca xs f) (hb : byteL.sl w b lb cb ys g) :
  Calls Tryz.prog 270 #[.slice a la ca, .slice b lb cb] w fun e w' => e = .returned (.bool (sameV xs ys)) ∧ Chg [] w w' := by
 have hma := byteL.sl_max ha
 have hmb := byteL.sl_max hb
 have HLA := hid ha.1
 have HLB := hid hb.1
 have HA := hid ha
 have HB := hid hb
 clear ha hb
 by_cases hl : la = lb
 ·subst hl
  have hne : ((la : Int) != (la : Int)) = false := by simp
  go_enter Tryz.func270, Tryz.ntmps270
  go_wp2
  go_loopw [5] (fun i wr => ∃ k : Nat, k ≤ la ∧ i = .int .i64 k ∧ Chg [] w wr ∧ Hid (xs.take k = ys.take k)) (fun i _ => la - (intOf i).toNat)
  case atStart => exact ⟨0, by omega, rfl, Chg.refl _ _, rfl⟩
  case round =>
   obtain ⟨k, hk, rfl, hc, HT⟩ := hrel
   by_cases hlt : k < la
   ·obtain ⟨x, X, b1, o1, HX, rfl, hcx, _, _⟩ := byte_at (byteL.sl_ext HA.out hc) hlt
    obtain ⟨y, Y, b2, o2, HY, rfl, hcy, _, _⟩ := byte_at (byteL.sl_ext HB.out hc) hlt
    by_cases heq : x = y
    ·have HT2 := hid (show xs.take (k + 1) = ys.take (k + 1) by rw [take_next HX.out.1, take_next HY.out.1, HT.out, heq])
     have hXY : X = Y := by rw [HX.out.2.1, HY.out.2.1, heq]
     subst hXY
     have hxx : (X != X) = false := by simp
     have HC := hid hc
     clear hc
     go_wp2_with fail
     go_region
     all_goals (try go_wp2)
     all_goals
      go_roundw
      case rel => exact ⟨k + 1, by omega, by go_num, HC.out.drew, HT2⟩
      case measure => simp [intOf]; omega
    ·have HF := hid (sameV_false (take_ne HX.out.1 HY.out.1 heq))
     have hxx : (X != Y) = true := by rw [bne_iff_ne]; intro e; exact heq (UInt8.toNat_inj.1 (by have h1 := HX.out.2.1; have h2 := HY.out.2.1; omega))
     have HC := hid hc
     clear hc heq
     go_wp2_with fail
     go_region
     all_goals (try go_wp2)
     all_goals
      go_ret
      exact ⟨by rw [HF.out]; rfl, HC.out.drew⟩
   ·have hkl : k = la := by omega
    subst hkl
    have HF := hid (sameV_true (show xs = ys by rw [← List.take_of_length_le (l := xs) (i := k) (by have := HLA.out; omega), HT.out, List.take_of_length_le (by have := HLB.out; omega)]))
    have HC := hid hc
    clear hc
    go_wp2
    go_ret
    exact ⟨by rw [HF.out]; rfl, HC.out⟩
 ·have hne : ((la : Int) != (lb : Int)) = true := by rw [bne_iff_ne]; omega
  have HF := hid (sameV_false (show xs ≠ ys from fun e => hl (by rw [HLA.out, HLB.out, e])))
  clear hl
  go_enter Tryz.func270, Tryz.ntmps270
  go_wp2
  go_ret
  exact ⟨by rw [HF.out]; rfl, Chg.refl _ _⟩
theorem toList_inj {s t : ByteArray} (h : s.toList = t.toList) : s = t := by
 rw [ByteArray.toList_eq, ByteArray.toList_eq] at h
 exact ByteArray.ext (Array.toList_inj.1 h)
theorem sl_convert {P : Program} {w : World} {a : Option Addr} {la ca : Nat} {xs : List UInt8} {f : List Nat} (h : byteL.sl w a la ca xs f) (src e dst : TypeId)
  (hs : P.underlying src = some (.slice e)) (he : P.underlying e = some (.int .u8)) (hd : P.underlying dst = some .string) :
  (convert src dst (.slice a la ca)).run P w = .ok (.string ⟨xs.toArray⟩) w := by
 have hl := h.1
 by_cases h0 : la = 0
 ·subst h0
  obtain rfl : xs = [] := List.eq_nil_of_length_eq_zero hl.symm
  rw [run_convert_bytes_string w src dst e _ 0 ca hs he hd]
  cases a <;> simp [Conv.bytesToString, loadCells]
  all_goals rfl
 ·obtain ⟨x, X, b, o, _, rfl, _, _, _⟩ := byte_at h (i := 0) (by omega)
  have := run_convert_bytes_arg (P := P) w src e hs he b o la ca (xs.map fun x => (x.toNat : Int)) (by simp [hl]) (fun i hi => by
   obtain ⟨y, Y, b', o', HY, e', hc, _, _⟩ := byte_at h hi
   obtain ⟨rfl, rfl⟩ : b = b' ∧ o = o' := by simpa using e'
   rw [hc, HY.out.2.1, List.getD_eq_getElem?_getD, List.getElem?_map, HY.out.1]
   rfl) dst hd
  rw [this]
  congr 3
  unfold strOfNums
  congr 2
  rw [List.map_map]
  exact List.map_id'' (fun y => by simp) xs
set_option maxHeartbeats 400000 in
theorem byEq_any (a b : Option Addr) (la ca lb cb : Nat) (xs ys : List UInt8) (f g : List Nat) (w : World) (ha : byteL.sl w a la ca xs f) (hb : byteL.sl w b lb cb ys g) :
  Calls Tryz.prog 204 #[.slice a la ca, .slice b lb cb] w fun e w' => e = .returned (.bool (sameV xs ys)) ∧ Chg [] w w' := by
 have h1 := sl_convert ha 62 5 9 Tryz.underlying62 Tryz.underlying5 Tryz.underlying9
 have h2 := sl_convert hb 62 5 9 Tryz.underlying62 Tryz.underlying5 Tryz.underlying9
 obtain ⟨s, hs⟩ : ∃ s : ByteArray, (⟨xs.toArray⟩ : ByteArray) = s := ⟨_, rfl⟩
 obtain ⟨t, ht⟩ : ∃ s : ByteArray, (⟨ys.toArray⟩ : ByteArray) = s := ⟨_, rfl⟩
 have hst : s = t ↔ xs = ys := by
  rw [← hs, ← ht]
  constructor
  ·intro h; have h2 := congrArg (fun z : ByteArray => z.data.toList) h; exact h2
  ·intro h; rw [h]
 rw [hs] at h1
 rw [ht] at h2
 have HST := hid hst
 clear ha hb hs ht hst
 by_cases heq : s = t
 ·have HF := hid (sameV_true (HST.out.1 heq))
  subst heq
  go_enter Tryz.func204, Tryz.ntmps204
  go_wp2
  go_ret
  exact ⟨by rw [HF.out]; first | rfl | simp, Chg.refl _ _⟩
 ·have hbt : (s.toList == t.toList) = false := by rw [beq_eq_false_iff_ne]; exact fun h => heq (toList_inj h)
  have HF := hid (sameV_false (fun h => heq (HST.out.2 h)))
  go_enter Tryz.func204, Tryz.ntmps204
  go_wp2
  go_ret
  exact ⟨by rw [HF.out]; first | rfl | simp, Chg.refl _ _⟩
theorem new_two (w : World) (x y : Obj) : ((w.alloc x).alloc y).heap[w.heap.size + 1]? = some y := by
 have h := new_alloc (w.alloc x) y
 simpa using h
end Go.Proofs.YtphmpimgbmedbaaGreat
/- The comparison of two records. -/
namespace Go.Proofs.YtphmpimgbmedbaaGreat
open Go.RowKit
open Go.Lib (hid)
theorem toList_ne {s t : ByteArray} (h : s ≠ t) : (s.toList == t.toList) = false := by
 rw [beq_eq_false_iff_ne]; exact fun e => h (toList_inj e)
theorem sameV_rec {kx sx : Int} {nx : ByteArray} {lx gx rx : Int} {Rx Ry : List Int} {Dx Dy Ex Ey : List UInt8} : sameV (Rec.mk kx sx nx lx gx rx Rx Dx Ex) (Rec.mk kx sx nx lx gx rx Ry Dy Ey) = (sameV Rx Ry && (sameV Dx Dy && sameV Ex Ey)) := by
 by_cases h1 : Rx = Ry
 ·by_cases h2 : Dx = Dy
  ·by_cases h3 : Ex = Ey
   ·rw [sameV_true h1, sameV_true h2, sameV_true h3, sameV_true (by rw [h1, h2, h3])]; rfl
   ·rw [sameV_true h1, sameV_true h2, sameV_false h3, sameV_false (fun h => h3 (congrArg Rec.delta h))]; rfl
  ·rw [sameV_true h1, sameV_false h2, sameV_false (fun h => h2 (congrArg Rec.data h))]; rfl
 ·rw [sameV_false h1, sameV_false (fun h => h1 (congrArg Rec.rows h))]; rfl
set_option maxRecDepth 100000 in
set_option maxHeartbeats 1000000 in
theorem spec_same_k (kx : Int) (sx : Int) (nx : ByteArray) (lx : Int) (gx : Int) (rx : Int) (ky : Int) (sy : Int) (ny : ByteArray) (ly : Int) (gy : Int) (ry : Int) (a6x : Option Addr) (l6x c6x : Nat) (a7x : Option Addr) (l7x c7x : Nat) (a8x : Option Addr) (l8x c8x : Nat) (a6y : Option Addr) (l6y c6y : Nat) (a7y : Option Addr) (l7y c7y : Nat) (a8y : Option Addr) (l8y c8y : Nat) (e : kx ≠ ky) (w : World) :
  Calls Tryz.prog 234 #[.agg #[.int .i64 kx, .int .i64 sx, .string nx, .int .i64 lx, .int .i64 gx, .int .i64 rx, .slice a6x l6x c6x, .slice a7x l7x c7x, .slice a8x l8x c8x], .agg #[.int .i64 ky, .int .i64 sy, .string ny, .int .i64 ly, .int .i64 gy, .int .i64 ry, .slice a6y l6y c6y, .slice a7y l7y c7y, .slice a8y l8y c8y]] w fun e w' => e = .returned (.bool false) ∧ Chg [] w w' := by
 have t1 : (kx == ky) = false := by rw [beq_eq_false_iff_ne]; exact e
 clear e
 go_enter Tryz.func234, Tryz.ntmps234
 go_wp2_with fail
 go_ret
 exact ⟨rfl, by repeat (first | exact Chg.refl _ _ | refine Chg.alloc ?_ _)⟩
set_option maxRecDepth 100000 in
set_option maxHeartbeats 1000000 in
theorem spec_same_s (kx : Int) (sx : Int) (nx : ByteArray) (lx : Int) (gx : Int) (rx : Int) (sy : Int) (ny : ByteArray) (ly : Int) (gy : Int) (ry : Int) (a6x : Option Addr) (l6x c6x : Nat) (a7x : Option Addr) (l7x c7x : Nat) (a8x : Option Addr) (l8x c8x : Nat) (a6y : Option Addr) (l6y c6y : Nat) (a7y : Option Addr) (l7y c7y : Nat) (a8y : Option Addr) (l8y c8y : Nat) (e : sx ≠ sy) (w : World) :
  Calls Tryz.prog 234 #[.agg #[.int .i64 kx, .int .i64 sx, .string nx, .int .i64 lx, .int .i64 gx, .int .i64 rx, .slice a6x l6x c6x, .slice a7x l7x c7x, .slice a8x l8x c8x], .agg #[.int .i64 kx, .int .i64 sy, .string ny, .int .i64 ly, .int .i64 gy, .int .i64 ry, .slice a6y l6y c6y, .slice a7y l7y c7y, .slice a8y l8y c8y]] w fun e w' => e = .returned (.bool false) ∧ Chg [] w w' := by
 have t1 : (sx == sy) = false := by rw [beq_eq_false_iff_ne]; exact e
 clear e
 go_enter Tryz.func234, Tryz.ntmps234
 go_wp2_with fail
 go_ret
 exact ⟨rfl, by repeat (first | exact Chg.refl _ _ | refine Chg.alloc ?_ _)⟩
set_option maxRecDepth 100000 in
set_option maxHeartbeats 1000000 in
theorem spec_same_n (kx : Int) (sx : Int) (nx : ByteArray) (lx : Int) (gx : Int) (rx : Int) (ny : ByteArray) (ly : Int) (gy : Int) (ry : Int) (a6x : Option Addr) (l6x c6x : Nat) (a7x : Option Addr) (l7x c7x : Nat) (a8x : Option Addr) (l8x c8x : Nat) (a6y : Option Addr) (l6y c6y : Nat) (a7y : Option Addr) (l7y c7y : Nat) (a8y : Option Addr) (l8y c8y : Nat) (e : nx ≠ ny) (w : World) :
  Calls Tryz.prog 234 #[.agg #[.int .i64 kx, .int .i64 sx, .string nx, .int .i64 lx, .int .i64 gx, .int .i64 rx, .slice a6x l6x c6x, .slice a7x l7x c7x, .slice a8x l8x c8x], .agg #[.int .i64 kx, .int .i64 sx, .string ny, .int .i64 ly, .int .i64 gy, .int .i64 ry, .slice a6y l6y c6y, .slice a7y l7y c7y, .slice a8y l8y c8y]] w fun e w' => e = .returned (.bool false) ∧ Chg [] w w' := by
 have t1 : (nx.toList == ny.toList) = false := toList_ne e
 clear e
 go_enter Tryz.func234, Tryz.ntmps234
 go_wp2_with fail
 go_ret
 exact ⟨rfl, by repeat (first | exact Chg.refl _ _ | refine Chg.alloc ?_ _)⟩
set_option maxRecDepth 100000 in
set_option maxHeartbeats 1000000 in
theorem spec_same_l (kx : Int) (sx : Int) (nx : ByteArray) (lx : Int) (gx : Int) (rx : Int) (ly : Int) (gy : Int) (ry : Int) (a6x : Option Addr) (l6x c6x : Nat) (a7x : Option Addr) (l7x c7x : Nat) (a8x : Option Addr) (l8x c8x : Nat) (a6y : Option Addr) (l6y c6y : Nat) (a7y : Option Addr) (l7y c7y : Nat) (a8y : Option Addr) (l8y c8y : Nat) (e : lx ≠ ly) (w : World) :
  Calls Tryz.prog 234 #[.agg #[.int .i64 kx, .int .i64 sx, .string nx, .int .i64 lx, .int .i64 gx, .int .i64 rx, .slice a6x l6x c6x, .slice a7x l7x c7x, .slice a8x l8x c8x], .agg #[.int .i64 kx, .int .i64 sx, .string nx, .int .i64 ly, .int .i64 gy, .int .i64 ry, .slice a6y l6y c6y, .slice a7y l7y c7y, .slice a8y l8y c8y]] w fun e w' => e = .returned (.bool false) ∧ Chg [] w w' := by
 have t1 : (lx == ly) = false := by rw [beq_eq_false_iff_ne]; exact e
 clear e
 go_enter Tryz.func234, Tryz.ntmps234
 go_wp2_with fail
 go_ret
 exact ⟨rfl, by repeat (first | exact Chg.refl _ _ | refine Chg.alloc ?_ _)⟩
set_option maxRecDepth 100000 in
set_option maxHeartbeats 1000000 in
theorem spec_same_g (kx : Int) (sx : Int) (nx : ByteArray) (lx : Int) (gx : Int) (rx : Int) (gy : Int) (ry : Int) (a6x : Option Addr) (l6x c6x : Nat) (a7x : Option Addr) (l7x c7x : Nat) (a8x : Option Addr) (l8x c8x : Nat) (a6y : Option Addr) (l6y c6y : Nat) (a7y : Option Addr) (l7y c7y : Nat) (a8y : Option Addr) (l8y c8y : Nat) (e : gx ≠ gy) (w : World) :
  Calls Tryz.prog 234 #[.agg #[.int .i64 kx, .int .i64 sx, .string nx, .int .i64 lx, .int .i64 gx, .int .i64 rx, .slice a6x l6x c6x, .slice a7x l7x c7x, .slice a8x l8x c8x], .agg #[.int .i64 kx, .int .i64 sx, .string nx, .int .i64 lx, .int .i64 gy, .int .i64 ry, .slice a6y l6y c6y, .slice a7y l7y c7y, .slice a8y l8y c8y]] w fun e w' => e = .returned (.bool false) ∧ Chg [] w w' := by
 have t1 : (gx == gy) = false := by rw [beq_eq_false_iff_ne]; exact e
 clear e
 go_enter Tryz.func234, Tryz.ntmps234
 go_wp2_with fail
 go_ret
 exact ⟨rfl, by repeat (first | exact Chg.refl _ _ | refine Chg.alloc ?_ _)⟩
set_option maxRecDepth 100000 in
set_option maxHeartbeats 1000000 in
theorem spec_same_r (kx : Int) (sx : Int) (nx : ByteArray) (lx : Int) (gx : Int) (rx : Int) (ry : Int) (a6x : Option Addr) (l6x c6x : Nat) (a7x : Option Addr) (l7x c7x : Nat) (a8x : Option Addr) (l8x c8x : Nat) (a6y : Option Addr) (l6y c6y : Nat) (a7y : Option Addr) (l7y c7y : Nat) (a8y : Option Addr) (l8y c8y : Nat) (e : rx ≠ ry) (w : World) :
  Calls Tryz.prog 234 #[.agg #[.int .i64 kx, .int .i64 sx, .string nx, .int .i64 lx, .int .i64 gx, .int .i64 rx, .slice a6x l6x c6x, .slice a7x l7x c7x, .slice a8x l8x c8x], .agg #[.int .i64 kx, .int .i64 sx, .string nx, .int .i64 lx, .int .i64 gx, .int .i64 ry, .slice a6y l6y c6y, .slice a7y l7y c7y, .slice a8y l8y c8y]] w fun e w' => e = .returned (.bool false) ∧ Chg [] w w' := by
 have t1 : (rx == ry) = false := by rw [beq_eq_false_iff_ne]; exact e
 clear e
 go_enter Tryz.func234, Tryz.ntmps234
 go_wp2_with fail
 go_ret
 exact ⟨rfl, by repeat (first | exact Chg.refl _ _ | refine Chg.alloc ?_ _)⟩
set_option maxRecDepth 100000 in
set_option maxHeartbeats 2000000 in
theorem spec_same_lists (kx : Int) (sx : Int) (nx : ByteArray) (lx : Int) (gx : Int) (rx : Int) (a6x : Option Addr) (l6x c6x : Nat) (a7x : Option Addr) (l7x c7x : Nat) (a8x : Option Addr) (l8x c8x : Nat) (a6y : Option Addr) (l6y c6y : Nat) (a7y : Option Addr) (l7y c7y : Nat) (a8y : Option Addr) (l8y c8y : Nat) (Rx Ry : List Int) (Dx Dy Ex Ey : List UInt8) (f6x f7x f8x f6y f7y f8y : List Nat) (w : World) (h6x : intL.sl w a6x l6x c6x Rx f6x) (h7x : byteL.sl w a7x l7x c7x Dx f7x) (h8x : byteL.sl w a8x l8x c8x Ex f8x) (h6y : intL.sl w a6y l6y c6y Ry f6y) (h7y : byteL.sl w a7y l7y c7y Dy f7y) (h8y : byteL.sl w a8y l8y c8y Ey f8y) :
  Calls Tryz.prog 234 #[.agg #[.int .i64 kx, .int .i64 sx, .string nx, .int .i64 lx, .int .i64 gx, .int .i64 rx, .slice a6x l6x c6x, .slice a7x l7x c7x, .slice a8x l8x c8x], .agg #[.int .i64 kx, .int .i64 sx, .string nx, .int .i64 lx, .int .i64 gx, .int .i64 rx, .slice a6y l6y c6y, .slice a7y l7y c7y, .slice a8y l8y c8y]] w fun e w' => e = .returned (.bool (sameV Rx Ry && (sameV Dx Dy && sameV Ex Ey))) ∧ Chg [] w w' := by
 have hc0 := ((Chg.refl [] w).alloc (.cells #[.int .i64 kx, .int .i64 sx, .string nx, .int .i64 lx, .int .i64 gx, .int .i64 rx, .slice a6x l6x c6x, .slice a7x l7x c7x, .slice a8x l8x c8x] 67)).alloc (.cells #[.int .i64 kx, .int .i64 sx, .string nx, .int .i64 lx, .int .i64 gx, .int .i64 rx, .slice a6y l6y c6y, .slice a7y l7y c7y, .slice a8y l8y c8y] 67)
 have HC0 := hid hc0
 have H7x := hid h7x; have H8x := hid h8x; have H7y := hid h7y; have H8y := hid h8y
 have HI := hid (l6Nums_any a6x a6y l6x c6x l6y c6y Rx Ry f6x f6y _ (intL.sl_ext h6x hc0) (intL.sl_ext h6y hc0))
 clear hc0 h6x h7x h8x h6y h7y h8y
 have tn : (nx.toList == nx.toList) = true := by simp
 cases h6 : sameV Rx Ry
 ·rw [h6] at HI
  clear h6
  go_enter Tryz.func234, Tryz.ntmps234
  go_wp2_with fail
  refine HI.out.mono ?_
  rintro e w1 ⟨rfl, hc⟩
  have HC1 := hid (HC0.out.trans0 hc)
  clear hc
  go_wp2_with fail
  go_ret
  exact ⟨rfl, HC1.out⟩
 ·rw [h6] at HI
  clear h6
  generalize hv7 : sameV Dx Dy = v7
  generalize hv8 : sameV Ex Ey = v8
  have V7 := hid hv7
  have V8 := hid hv8
  clear hv7 hv8
  have HK := hid (fun w1 (hc : Chg [] ((w.alloc (.cells #[.int .i64 kx, .int .i64 sx, .string nx, .int .i64 lx, .int .i64 gx, .int .i64 rx, .slice a6x l6x c6x, .slice a7x l7x c7x, .slice a8x l8x c8x] 67)).alloc (.cells #[.int .i64 kx, .int .i64 sx, .string nx, .int .i64 lx, .int .i64 gx, .int .i64 rx, .slice a6y l6y c6y, .slice a7y l7y c7y, .slice a8y l8y c8y] 67)) w1) => And.intro (hc.keep0 (keep_alloc (new_alloc w (.cells #[.int .i64 kx, .int .i64 sx, .string nx, .int .i64 lx, .int .i64 gx, .int .i64 rx, .slice a6x l6x c6x, .slice a7x l7x c7x, .slice a8x l8x c8x] 67)) (.cells #[.int .i64 kx, .int .i64 sx, .string nx, .int .i64 lx, .int .i64 gx, .int .i64 rx, .slice a6y l6y c6y, .slice a7y l7y c7y, .slice a8y l8y c8y] 67))) (hc.keep0 (new_two w (.cells #[.int .i64 kx, .int .i64 sx, .string nx, .int .i64 lx, .int .i64 gx, .int .i64 rx, .slice a6x l6x c6x, .slice a7x l7x c7x, .slice a8x l8x c8x] 67) (.cells #[.int .i64 kx, .int .i64 sx, .string nx, .int .i64 lx, .int .i64 gx, .int .i64 rx, .slice a6y l6y c6y, .slice a7y l7y c7y, .slice a8y l8y c8y] 67))))
  go_enter Tryz.func234, Tryz.ntmps234
  go_wp2_with fail
  refine HI.out.mono ?_
  rintro e w1 ⟨rfl, hc⟩
  have HC1 := hid (HC0.out.trans0 hc)
  obtain ⟨hB2, hB3⟩ := HK.out w1 hc
  have c2 := cellsOf hB2; have l2 := ltOf hB2; have P2 := hid hB2
  have c3 := cellsOf hB3; have l3 := ltOf hB3; have P3 := hid hB3
  clear hB2 hB3 hc HK HI
  go_wp2_with fail
  refine (l2Same_any a7x a7y l7x c7x l7y c7y Dx Dy f7x f7y _ (byteL.sl_ext H7x.out HC1.out) (byteL.sl_ext H7y.out HC1.out)).mono ?_
  rintro e w2 ⟨rfl, hc⟩
  rw [V7.out]
  have HC2 := hid (HC1.out.trans0 hc)
  have hB2 := hc.keep0 P2.out; have hB3 := hc.keep0 P3.out
  clear c2 l2 c3 l3 P2 P3
  have c2 := cellsOf hB2; have l2 := ltOf hB2; have P2 := hid hB2
  have c3 := cellsOf hB3; have l3 := ltOf hB3; have P3 := hid hB3
  clear hB2 hB3 hc
  cases v7
  ·go_wp2_with fail
   go_ret
   exact ⟨rfl, HC2.out⟩
  ·go_wp2_with fail
   refine (l2Same_any a8x a8y l8x c8x l8y c8y Ex Ey f8x f8y _ (byteL.sl_ext H8x.out HC2.out) (byteL.sl_ext H8y.out HC2.out)).mono ?_
   rintro e w3 ⟨rfl, hc⟩
   rw [V8.out]
   have HC3 := hid (HC2.out.trans0 hc)
   clear hc
   go_wp2_with fail
   go_ret
   exact ⟨by simp, HC3.out⟩
set_option maxHeartbeats 400000 in
theorem spec_same_any (x y : Rec) (cx cy : Array Value) (fx fy : List Nat) (w : World) (hx : recL.rep w cx.toList x fx) (hy : recL.rep w cy.toList y fy) :
  Calls Tryz.prog 234 #[.agg cx, .agg cy] w fun e w' => e = .returned (.bool (sameV x y)) ∧ Chg [] w w' := by
 obtain ⟨a6x, l6x, c6x, f6x, a7x, l7x, c7x, f7x, a8x, l8x, c8x, f8x, ex, -, -, -, -, -, -, h6x, h7x, h8x, -⟩ := recL_iff.1 hx
 obtain ⟨a6y, l6y, c6y, f6y, a7y, l7y, c7y, f7y, a8y, l8y, c8y, f8y, ey, -, -, -, -, -, -, h6y, h7y, h8y, -⟩ := recL_iff.1 hy
 obtain ⟨kx, sx, nx, lx, gx, rx, Rx, Dx, Ex⟩ := x
 obtain ⟨ky, sy, ny, ly, gy, ry, Ry, Dy, Ey⟩ := y
 simp only at ex ey h6x h7x h8x h6y h7y h8y
 obtain rfl : cx = #[.int .i64 kx, .int .i64 sx, .string nx, .int .i64 lx, .int .i64 gx, .int .i64 rx, .slice a6x l6x c6x, .slice a7x l7x c7x, .slice a8x l8x c8x] := Array.toList_inj.1 ex
 obtain rfl : cy = #[.int .i64 ky, .int .i64 sy, .string ny, .int .i64 ly, .int .i64 gy, .int .i64 ry, .slice a6y l6y c6y, .slice a7y l7y c7y, .slice a8y l8y c8y] := Array.toList_inj.1 ey
 clear ex ey hx hy
 by_cases e : kx = ky
 ·subst e
  by_cases e : sx = sy
  ·subst e
   by_cases e : nx = ny
   ·subst e
    by_cases e : lx = ly
    ·subst e
     by_cases e : gx = gy
     ·subst e
      by_cases e : rx = ry
      ·subst e
       rw [show sameV (Rec.mk kx sx nx lx gx rx Rx Dx Ex) (Rec.mk kx sx nx lx gx rx Ry Dy Ey) = (sameV Rx Ry && (sameV Dx Dy && sameV Ex Ey)) from sameV_rec]
       exact spec_same_lists _ _ _ _ _ _ _ _ _ _ _ _ _ _ _ _ _ _ _ _ _ _ _ _ Rx Ry Dx Dy Ex Ey _ _ _ _ _ _ w h6x h7x h8x h6y h7y h8y
      ·rw [sameV_false (show Rec.mk kx sx nx lx gx rx Rx Dx Ex ≠ Rec.mk kx sx nx lx gx ry Ry Dy Ey from fun h => e (congrArg Rec.row h))]
       exact spec_same_r _ _ _ _ _ _ _ _ _ _ _ _ _ _ _ _ _ _ _ _ _ _ _ _ _ e w
     ·rw [sameV_false (show Rec.mk kx sx nx lx gx rx Rx Dx Ex ≠ Rec.mk kx sx nx lx gy ry Ry Dy Ey from fun h => e (congrArg Rec.group h))]
      exact spec_same_g _ _ _ _ _ _ _ _ _ _ _ _ _ _ _ _ _ _ _ _ _ _ _ _ _ _ e w
    ·rw [sameV_false (show Rec.mk kx sx nx lx gx rx Rx Dx Ex ≠ Rec.mk kx sx nx ly gy ry Ry Dy Ey from fun h => e (congrArg Rec.length h))]
     exact spec_same_l _ _ _ _ _ _ _ _ _ _ _ _ _ _ _ _ _ _ _ _ _ _ _ _ _ _ _ e w
   ·rw [sameV_false (show Rec.mk kx sx nx lx gx rx Rx Dx Ex ≠ Rec.mk kx sx ny ly gy ry Ry Dy Ey from fun h => e (congrArg Rec.name h))]
    exact spec_same_n _ _ _ _ _ _ _ _ _ _ _ _ _ _ _ _ _ _ _ _ _ _ _ _ _ _ _ _ e w
  ·rw [sameV_false (show Rec.mk kx sx nx lx gx rx Rx Dx Ex ≠ Rec.mk kx sy ny ly gy ry Ry Dy Ey from fun h => e (congrArg Rec.seq h))]
   exact spec_same_s _ _ _ _ _ _ _ _ _ _ _ _ _ _ _ _ _ _ _ _ _ _ _ _ _ _ _ _ _ e w
 ·rw [sameV_false (show Rec.mk kx sx nx lx gx rx Rx Dx Ex ≠ Rec.mk ky sy ny ly gy ry Ry Dy Ey from fun h => e (congrArg Rec.kind h))]
  exact spec_same_k _ _ _ _ _ _ _ _ _ _ _ _ _ _ _ _ _ _ _ _ _ _ _ _ _ _ _ _ _ _ e w
set_option maxRecDepth 100000 in
set_option maxHeartbeats 1000000 in
theorem sameRec_k (kx : Int) (sx : Int) (nx : ByteArray) (lx : Int) (gx : Int) (rx : Int) (ky : Int) (sy : Int) (ny : ByteArray) (ly : Int) (gy : Int) (ry : Int) (a6x : Option Addr) (l6x c6x : Nat) (a7x : Option Addr) (l7x c7x : Nat) (a8x : Option Addr) (l8x c8x : Nat) (a6y : Option Addr) (l6y c6y : Nat) (a7y : Option Addr) (l7y c7y : Nat) (a8y : Option Addr) (l8y c8y : Nat) (e : kx ≠ ky) (w : World) :
  Calls Tryz.prog 123 #[.agg #[.int .i64 kx, .int .i64 sx, .string nx, .int .i64 lx, .int .i64 gx, .int .i64 rx, .slice a6x l6x c6x, .slice a7x l7x c7x, .slice a8x l8x c8x], .agg #[.int .i64 ky, .int .i64 sy, .string ny, .int .i64 ly, .int .i64 gy, .int .i64 ry, .slice a6y l6y c6y, .slice a7y l7y c7y, .slice a8y l8y c8y]] w fun e w' => e = .returned (.bool false) ∧ Chg [] w w' := by
 have t1 : (kx == ky) = false := by rw [beq_eq_false_iff_ne]; exact e
 clear e
 go_enter Tryz.func123, Tryz.ntmps123
 go_wp2_with fail
 go_ret
 exact ⟨rfl, by repeat (first | exact Chg.refl _ _ | refine Chg.alloc ?_ _)⟩
set_option maxRecDepth 100000 in
set_option maxHeartbeats 1000000 in
theorem sameRec_s (kx : Int) (sx : Int) (nx : ByteArray) (lx : Int) (gx : Int) (rx : Int) (sy : Int) (ny : ByteArray) (ly : Int) (gy : Int) (ry : Int) (a6x : Option Addr) (l6x c6x : Nat) (a7x : Option Addr) (l7x c7x : Nat) (a8x : Option Addr) (l8x c8x : Nat) (a6y : Option Addr) (l6y c6y : Nat) (a7y : Option Addr) (l7y c7y : Nat) (a8y : Option Addr) (l8y c8y : Nat) (e : sx ≠ sy) (w : World) :
  Calls Tryz.prog 123 #[.agg #[.int .i64 kx, .int .i64 sx, .string nx, .int .i64 lx, .int .i64 gx, .int .i64 rx, .slice a6x l6x c6x, .slice a7x l7x c7x, .slice a8x l8x c8x], .agg #[.int .i64 kx, .int .i64 sy, .string ny, .int .i64 ly, .int .i64 gy, .int .i64 ry, .slice a6y l6y c6y, .slice a7y l7y c7y, .slice a8y l8y c8y]] w fun e w' => e = .returned (.bool false) ∧ Chg [] w w' := by
 have t1 : (sx == sy) = false := by rw [beq_eq_false_iff_ne]; exact e
 clear e
 go_enter Tryz.func123, Tryz.ntmps123
 go_wp2_with fail
 go_ret
 exact ⟨rfl, by repeat (first | exact Chg.refl _ _ | refine Chg.alloc ?_ _)⟩
set_option maxRecDepth 100000 in
set_option maxHeartbeats 1000000 in
theorem sameRec_n (kx : Int) (sx : Int) (nx : ByteArray) (lx : Int) (gx : Int) (rx : Int) (ny : ByteArray) (ly : Int) (gy : Int) (ry : Int) (a6x : Option Addr) (l6x c6x : Nat) (a7x : Option Addr) (l7x c7x : Nat) (a8x : Option Addr) (l8x c8x : Nat) (a6y : Option Addr) (l6y c6y : Nat) (a7y : Option Addr) (l7y c7y : Nat) (a8y : Option Addr) (l8y c8y : Nat) (e : nx ≠ ny) (w : World) :
  Calls Tryz.prog 123 #[.agg #[.int .i64 kx, .int .i64 sx, .string nx, .int .i64 lx, .int .i64 gx, .int .i64 rx, .slice a6x l6x c6x, .slice a7x l7x c7x, .slice a8x l8x c8x], .agg #[.int .i64 kx, .int .i64 sx, .string ny, .int .i64 ly, .int .i64 gy, .int .i64 ry, .slice a6y l6y c6y, .slice a7y l7y c7y, .slice a8y l8y c8y]] w fun e w' => e = .returned (.bool false) ∧ Chg [] w w' := by
 have t1 : (nx.toList == ny.toList) = false := toList_ne e
 clear e
 go_enter Tryz.func123, Tryz.ntmps123
 go_wp2_with fail
 go_ret
 exact ⟨rfl, by repeat (first | exact Chg.refl _ _ | refine Chg.alloc ?_ _)⟩
set_option maxRecDepth 100000 in
set_option maxHeartbeats 1000000 in
theorem sameRec_l (kx : Int) (sx : Int) (nx : ByteArray) (lx : Int) (gx : Int) (rx : Int) (ly : Int) (gy : Int) (ry : Int) (a6x : Option Addr) (l6x c6x : Nat) (a7x : Option Addr) (l7x c7x : Nat) (a8x : Option Addr) (l8x c8x : Nat) (a6y : Option Addr) (l6y c6y : Nat) (a7y : Option Addr) (l7y c7y : Nat) (a8y : Option Addr) (l8y c8y : Nat) (e : lx ≠ ly) (w : World) :
  Calls Tryz.prog 123 #[.agg #[.int .i64 kx, .int .i64 sx, .string nx, .int .i64 lx, .int .i64 gx, .int .i64 rx, .slice a6x l6x c6x, .slice a7x l7x c7x, .slice a8x l8x c8x], .agg #[.int .i64 kx, .int .i64 sx, .string nx, .int .i64 ly, .int .i64 gy, .int .i64 ry, .slice a6y l6y c6y, .slice a7y l7y c7y, .slice a8y l8y c8y]] w fun e w' => e = .returned (.bool false) ∧ Chg [] w w' := by
 have t1 : (lx == ly) = false := by rw [beq_eq_false_iff_ne]; exact e
 clear e
 go_enter Tryz.func123, Tryz.ntmps123
 go_wp2_with fail
 go_ret
 exact ⟨rfl, by repeat (first | exact Chg.refl _ _ | refine Chg.alloc ?_ _)⟩
set_option maxRecDepth 100000 in
set_option maxHeartbeats 1000000 in
theorem sameRec_g (kx : Int) (sx : Int) (nx : ByteArray) (lx : Int) (gx : Int) (rx : Int) (gy : Int) (ry : Int) (a6x : Option Addr) (l6x c6x : Nat) (a7x : Option Addr) (l7x c7x : Nat) (a8x : Option Addr) (l8x c8x : Nat) (a6y : Option Addr) (l6y c6y : Nat) (a7y : Option Addr) (l7y c7y : Nat) (a8y : Option Addr) (l8y c8y : Nat) (e : gx ≠ gy) (w : World) :
  Calls Tryz.prog 123 #[.agg #[.int .i64 kx, .int .i64 sx, .string nx, .int .i64 lx, .int .i64 gx, .int .i64 rx, .slice a6x l6x c6x, .slice a7x l7x c7x, .slice a8x l8x c8x], .agg #[.int .i64 kx, .int .i64 sx, .string nx, .int .i64 lx, .int .i64 gy, .int .i64 ry, .slice a6y l6y c6y, .slice a7y l7y c7y, .slice a8y l8y c8y]] w fun e w' => e = .returned (.bool false) ∧ Chg [] w w' := by
 have t1 : (gx == gy) = false := by rw [beq_eq_false_iff_ne]; exact e
 clear e
 go_enter Tryz.func123, Tryz.ntmps123
 go_wp2_with fail
 go_ret
 exact ⟨rfl, by repeat (first | exact Chg.refl _ _ | refine Chg.alloc ?_ _)⟩
set_option maxRecDepth 100000 in
set_option maxHeartbeats 1000000 in
theorem sameRec_r (kx : Int) (sx : Int) (nx : ByteArray) (lx : Int) (gx : Int) (rx : Int) (ry : Int) (a6x : Option Addr) (l6x c6x : Nat) (a7x : Option Addr) (l7x c7x : Nat) (a8x : Option Addr) (l8x c8x : Nat) (a6y : Option Addr) (l6y c6y : Nat) (a7y : Option Addr) (l7y c7y : Nat) (a8y : Option Addr) (l8y c8y : Nat) (e : rx ≠ ry) (w : World) :
  Calls Tryz.prog 123 #[.agg #[.int .i64 kx, .int .i64 sx, .string nx, .int .i64 lx, .int .i64 gx, .int .i64 rx, .slice a6x l6x c6x, .slice a7x l7x c7x, .slice a8x l8x c8x], .agg #[.int .i64 kx, .int .i64 sx, .string nx, .int .i64 lx, .int .i64 gx, .int .i64 ry, .slice a6y l6y c6y, .slice a7y l7y c7y, .slice a8y l8y c8y]] w fun e w' => e = .returned (.bool false) ∧ Chg [] w w' := by
 have t1 : (rx == ry) = false := by rw [beq_eq_false_iff_ne]; exact e
 clear e
 go_enter Tryz.func123, Tryz.ntmps123
 go_wp2_with fail
 go_ret
 exact ⟨rfl, by repeat (first | exact Chg.refl _ _ | refine Chg.alloc ?_ _)⟩
set_option maxRecDepth 100000 in
set_option maxHeartbeats 2000000 in
theorem sameRec_lists (kx : Int) (sx : Int) (nx : ByteArray) (lx : Int) (gx : Int) (rx : Int) (a6x : Option Addr) (l6x c6x : Nat) (a7x : Option Addr) (l7x c7x : Nat) (a8x : Option Addr) (l8x c8x : Nat) (a6y : Option Addr) (l6y c6y : Nat) (a7y : Option Addr) (l7y c7y : Nat) (a8y : Option Addr) (l8y c8y : Nat) (Rx Ry : List Int) (Dx Dy Ex Ey : List UInt8) (f6x f7x f8x f6y f7y f8y : List Nat) (w : World) (h6x : intL.sl w a6x l6x c6x Rx f6x) (h7x : byteL.sl w a7x l7x c7x Dx f7x) (h8x : byteL.sl w a8x l8x c8x Ex f8x) (h6y : intL.sl w a6y l6y c6y Ry f6y) (h7y : byteL.sl w a7y l7y c7y Dy f7y) (h8y : byteL.sl w a8y l8y c8y Ey f8y) :
  Calls Tryz.prog 123 #[.agg #[.int .i64 kx, .int .i64 sx, .string nx, .int .i64 lx, .int .i64 gx, .int .i64 rx, .slice a6x l6x c6x, .slice a7x l7x c7x, .slice a8x l8x c8x], .agg #[.int .i64 kx, .int .i64 sx, .string nx, .int .i64 lx, .int .i64 gx, .int .i64 rx, .slice a6y l6y c6y, .slice a7y l7y c7y, .slice a8y l8y c8y]] w fun e w' => e = .returned (.bool (sameV Rx Ry && (sameV Dx Dy && sameV Ex Ey))) ∧ Chg [] w w' := by
 have hc0 := ((Chg.refl [] w).alloc (.cells #[.int .i64 kx, .int .i64 sx, .string nx, .int .i64 lx, .int .i64 gx, .int .i64 rx, .slice a6x l6x c6x, .slice a7x l7x c7x, .slice a8x l8x c8x] 67)).alloc (.cells #[.int .i64 kx, .int .i64 sx, .string nx, .int .i64 lx, .int .i64 gx, .int .i64 rx, .slice a6y l6y c6y, .slice a7y l7y c7y, .slice a8y l8y c8y] 67)
 have HC0 := hid hc0
 have H7x := hid h7x; have H8x := hid h8x; have H7y := hid h7y; have H8y := hid h8y
 have HI := hid (slEq_any a6x a6y l6x c6x l6y c6y Rx Ry f6x f6y _ (intL.sl_ext h6x hc0) (intL.sl_ext h6y hc0))
 clear hc0 h6x h7x h8x h6y h7y h8y
 have tn : (nx.toList == nx.toList) = true := by simp
 cases h6 : sameV Rx Ry
 ·rw [h6] at HI
  clear h6
  go_enter Tryz.func123, Tryz.ntmps123
  go_wp2_with fail
  refine HI.out.mono ?_
  rintro e w1 ⟨rfl, hc⟩
  have HC1 := hid (HC0.out.trans0 hc)
  clear hc
  go_wp2_with fail
  go_ret
  exact ⟨rfl, HC1.out⟩
 ·rw [h6] at HI
  clear h6
  generalize hv7 : sameV Dx Dy = v7
  generalize hv8 : sameV Ex Ey = v8
  have V7 := hid hv7
  have V8 := hid hv8
  clear hv7 hv8
  have HK := hid (fun w1 (hc : Chg [] ((w.alloc (.cells #[.int .i64 kx, .int .i64 sx, .string nx, .int .i64 lx, .int .i64 gx, .int .i64 rx, .slice a6x l6x c6x, .slice a7x l7x c7x, .slice a8x l8x c8x] 67)).alloc (.cells #[.int .i64 kx, .int .i64 sx, .string nx, .int .i64 lx, .int .i64 gx, .int .i64 rx, .slice a6y l6y c6y, .slice a7y l7y c7y, .slice a8y l8y c8y] 67)) w1) => And.intro (hc.keep0 (keep_alloc (new_alloc w (.cells #[.int .i64 kx, .int .i64 sx, .string nx, .int .i64 lx, .int .i64 gx, .int .i64 rx, .slice a6x l6x c6x, .slice a7x l7x c7x, .slice a8x l8x c8x] 67)) (.cells #[.int .i64 kx, .int .i64 sx, .string nx, .int .i64 lx, .int .i64 gx, .int .i64 rx, .slice a6y l6y c6y, .slice a7y l7y c7y, .slice a8y l8y c8y] 67))) (hc.keep0 (new_two w (.cells #[.int .i64 kx, .int .i64 sx, .string nx, .int .i64 lx, .int .i64 gx, .int .i64 rx, .slice a6x l6x c6x, .slice a7x l7x c7x, .slice a8x l8x c8x] 67) (.cells #[.int .i64 kx, .int .i64 sx, .string nx, .int .i64 lx, .int .i64 gx, .int .i64 rx, .slice a6y l6y c6y, .slice a7y l7y c7y, .slice a8y l8y c8y] 67))))
  go_enter Tryz.func123, Tryz.ntmps123
  go_wp2_with fail
  refine HI.out.mono ?_
  rintro e w1 ⟨rfl, hc⟩
  have HC1 := hid (HC0.out.trans0 hc)
  obtain ⟨hB2, hB3⟩ := HK.out w1 hc
  have c2 := cellsOf hB2; have l2 := ltOf hB2; have P2 := hid hB2
  have c3 := cellsOf hB3; have l3 := ltOf hB3; have P3 := hid hB3
  clear hB2 hB3 hc HK HI
  go_wp2_with fail
  refine (byEq_any a7x a7y l7x c7x l7y c7y Dx Dy f7x f7y _ (byteL.sl_ext H7x.out HC1.out) (byteL.sl_ext H7y.out HC1.out)).mono ?_
  rintro e w2 ⟨rfl, hc⟩
  rw [V7.out]
  have HC2 := hid (HC1.out.trans0 hc)
  have hB2 := hc.keep0 P2.out; have hB3 := hc.keep0 P3.out
  clear c2 l2 c3 l3 P2 P3
  have c2 := cellsOf hB2; have l2 := ltOf hB2; have P2 := hid hB2
  have c3 := cellsOf hB3; have l3 := ltOf hB3; have P3 := hid hB3
  clear hB2 hB3 hc
  cases v7
  ·go_wp2_with fail
   go_ret
   exact ⟨rfl, HC2.out⟩
  ·go_wp2_with fail
   refine (byEq_any a8x a8y l8x c8x l8y c8y Ex Ey f8x f8y _ (byteL.sl_ext H8x.out HC2.out) (byteL.sl_ext H8y.out HC2.out)).mono ?_
   rintro e w3 ⟨rfl, hc⟩
   rw [V8.out]
   have HC3 := hid (HC2.out.trans0 hc)
   clear hc
   go_wp2_with fail
   go_ret
   exact ⟨by simp, HC3.out⟩
set_option maxHeartbeats 400000 in
theorem sameRec_any (x y : Rec) (cx cy : Array Value) (fx fy : List Nat) (w : World) (hx : recL.rep w cx.toList x fx) (hy : recL.rep w cy.toList y fy) :
  Calls Tryz.prog 123 #[.agg cx, .agg cy] w fun e w' => e = .returned (.bool (sameV x y)) ∧ Chg [] w w' := by
 obtain ⟨a6x, l6x, c6x, f6x, a7x, l7x, c7x, f7x, a8x, l8x, c8x, f8x, ex, -, -, -, -, -, -, h6x, h7x, h8x, -⟩ := recL_iff.1 hx
 obtain ⟨a6y, l6y, c6y, f6y, a7y, l7y, c7y, f7y, a8y, l8y, c8y, f8y, ey, -, -, -, -, -, -, h6y, h7y, h8y, -⟩ := recL_iff.1 hy
 obtain ⟨kx, sx, nx, lx, gx, rx, Rx, Dx, Ex⟩ := x
 obtain ⟨ky, sy, ny, ly, gy, ry, Ry, Dy, Ey⟩ := y
 simp only at ex ey h6x h7x h8x h6y h7y h8y
 obtain rfl : cx = #[.int .i64 kx, .int .i64 sx, .string nx, .int .i64 lx, .int .i64 gx, .int .i64 rx, .slice a6x l6x c6x, .slice a7x l7x c7x, .slice a8x l8x c8x] := Array.toList_inj.1 ex
 obtain rfl : cy = #[.int .i64 ky, .int .i64 sy, .string ny, .int .i64 ly, .int .i64 gy, .int .i64 ry, .slice a6y l6y c6y, .slice a7y l7y c7y, .slice a8y l8y c8y] := Array.toList_inj.1 ey
 clear ex ey hx hy
 by_cases e : kx = ky
 ·subst e
  by_cases e : sx = sy
  ·subst e
   by_cases e : nx = ny
   ·subst e
    by_cases e : lx = ly
    ·subst e
     by_cases e : gx = gy
     ·subst e
      by_cases e : rx = ry
      ·subst e
       rw [show sameV (Rec.mk kx sx nx lx gx rx Rx Dx Ex) (Rec.mk kx sx nx lx gx rx Ry Dy Ey) = (sameV Rx Ry && (sameV Dx Dy && sameV Ex Ey)) from sameV_rec]
       exact sameRec_lists _ _ _ _ _ _ _ _ _ _ _ _ _ _ _ _ _ _ _ _ _ _ _ _ Rx Ry Dx Dy Ex Ey _ _ _ _ _ _ w h6x h7x h8x h6y h7y h8y
      ·rw [sameV_false (show Rec.mk kx sx nx lx gx rx Rx Dx Ex ≠ Rec.mk kx sx nx lx gx ry Ry Dy Ey from fun h => e (congrArg Rec.row h))]
       exact sameRec_r _ _ _ _ _ _ _ _ _ _ _ _ _ _ _ _ _ _ _ _ _ _ _ _ _ e w
     ·rw [sameV_false (show Rec.mk kx sx nx lx gx rx Rx Dx Ex ≠ Rec.mk kx sx nx lx gy ry Ry Dy Ey from fun h => e (congrArg Rec.group h))]
      exact sameRec_g _ _ _ _ _ _ _ _ _ _ _ _ _ _ _ _ _ _ _ _ _ _ _ _ _ _ e w
    ·rw [sameV_false (show Rec.mk kx sx nx lx gx rx Rx Dx Ex ≠ Rec.mk kx sx nx ly gy ry Ry Dy Ey from fun h => e (congrArg Rec.length h))]
     exact sameRec_l _ _ _ _ _ _ _ _ _ _ _ _ _ _ _ _ _ _ _ _ _ _ _ _ _ _ _ e w
   ·rw [sameV_false (show Rec.mk kx sx nx lx gx rx Rx Dx Ex ≠ Rec.mk kx sx ny ly gy ry Ry Dy Ey from fun h => e (congrArg Rec.name h))]
    exact sameRec_n _ _ _ _ _ _ _ _ _ _ _ _ _ _ _ _ _ _ _ _ _ _ _ _ _ _ _ _ e w
  ·rw [sameV_false (show Rec.mk kx sx nx lx gx rx Rx Dx Ex ≠ Rec.mk kx sy ny ly gy ry Ry Dy Ey from fun h => e (congrArg Rec.seq h))]
   exact sameRec_s _ _ _ _ _ _ _ _ _ _ _ _ _ _ _ _ _ _ _ _ _ _ _ _ _ _ _ _ _ e w
 ·rw [sameV_false (show Rec.mk kx sx nx lx gx rx Rx Dx Ex ≠ Rec.mk ky sy ny ly gy ry Ry Dy Ey from fun h => e (congrArg Rec.kind h))]
  exact sameRec_k _ _ _ _ _ _ _ _ _ _ _ _ _ _ _ _ _ _ _ _ _ _ _ _ _ _ _ _ _ _ e w
end Go.Proofs.YtphmpimgbmedbaaGreat
