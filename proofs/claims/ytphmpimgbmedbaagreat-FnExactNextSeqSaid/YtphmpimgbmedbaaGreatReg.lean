
/- A region that draws its order, walked by hand: what may be taken first is taken, what is not wanted is passed by, a call by its contract. No function of the program in sight. -/
import Derived.Test.YtphmpimgbmedbaaGreatRep
import Derived.Deep.RegionHeld
namespace Go.Proofs.YtphmpimgbmedbaaGreat
open Go.RowKit

/-- what is known of a block's cells -/
def Know (b : Nat) (cs : Array Value) (w : World) : Prop := ∀ j, w.cell? ⟨b, j, none⟩ = cs[j]?
theorem Know.of {w : World} {b : Nat} {cs : Array Value} {E : TypeId} {fr : Nat × Nat} (hb : w.heap[b]? = some (.cells cs E fr)) : Know b cs w := fun j => cell_of_row w b j cs E fr hb
theorem cellKeep {w w' : World} (hc : Chg [] w w') {b o : Nat} {v : Value} (h : w.cell? ⟨b, o, none⟩ = some v) (hb : b < w.heap.size) : w'.cell? ⟨b, o, none⟩ = some v := (hc.facts.1 b o hb).trans h

section
variable {P : Program} {ops : Array Oper} {Q : Exit → Act → World → Prop} {md : Region.Mode} {S : World → Prop} {fuel : Nat} {listed : Array Bool} {a : Act} {w : World}
theorem rg_start {id : Nat} (S : World → Prop) (hm : P.follows .mixedOrders = true) (hS : S w.drew) (h : wpAnyH P .any ops Q S ops.size (Array.replicate ops.size false) a w.drew) : (Code.region id ops true).wp P Q a w :=
  wp_region_held_drew hm hS (fun _ => h)
theorem get_toList {i : Nat} {oi : Oper} (h : ops.toList[i]? = some oi) : ops[i]? = some oi := by simpa using h
theorem rg_take (i : Nat) {oi : Oper} {v : Value} (hi : ops.toList[i]? = some oi) (hc : (Region.noSelect ops && Region.free md ops listed i && (Region.ready md ops listed).contains i) = true)
    (hQ : ∀ c a w, Q (.panic c) (a.put oi.dst v) w → Q (.panic c) a w) (hS : S w) (hw : Region.wanted oi (yielded ops a.tmps) = true) (hy : ∀ w, S w → (execOp a.eval oi).run P w = .ok (.value v) w)
    (h : wpAnyH P md ops Q S fuel (listed.setIfInBounds i true) (a.put oi.dst v) w) : wpAnyH P md ops Q S (fuel + 1) listed a w := by
  simp only [Bool.and_eq_true] at hc
  exact wpAnyH_take (get_toList hi) hc.1.1 hc.1.2 hc.2 hQ (.inl ⟨hw, hy⟩) hS h
theorem rg_skip (i : Nat) {oi : Oper} (hi : ops.toList[i]? = some oi) (hc : (Region.noSelect ops && Region.free md ops listed i && (Region.ready md ops listed).contains i) = true)
    (hQ : ∀ c a w, Q (.panic c) (a.put oi.dst undef) w → Q (.panic c) a w) (hS : S w) (hw : Region.wanted oi (yielded ops a.tmps) = false)
    (h : wpAnyH P md ops Q S fuel (listed.setIfInBounds i true) (a.put oi.dst undef) w) : wpAnyH P md ops Q S (fuel + 1) listed a w := by
  simp only [Bool.and_eq_true] at hc
  exact wpAnyH_take (get_toList hi) hc.1.1 hc.1.2 hc.2 hQ (.inr ⟨hw, rfl⟩) hS h
theorem rg_call (i : Nat) {oi : Oper} (hi : ops.toList[i]? = some oi) (hr : Region.ready md ops listed = [i])
    (h : ∀ K' : Act → World → Prop, Shut (∀ a w, S w → (S w → wpAnyH P md ops Q S fuel (listed.setIfInBounds i true) a w) → K' a w) → if Region.wanted oi (yielded ops a.tmps) = true then Oper.wp P oi a w K' Q else K' (a.put oi.dst undef) w) :
    wpAnyH P md ops Q S (fuel + 1) listed a w :=
  wpAnyH_ready hr (by simp) (AllReadyH.cons (get_toList hi) h AllReadyH.nil)
/-- one operation taken; what it comes to is worked out -/
theorem rgT (i : Nat) {oi : Oper} {v : Value} {a' : Act} (hS : S w) (h : wpAnyH P md ops Q S fuel (listed.setIfInBounds i true) a' w) (hi : ops.toList[i]? = some oi := by rfl)
    (hc : (Region.noSelect ops && Region.free md ops listed i && (Region.ready md ops listed).contains i) = true := by kernel_rfl)
    (hQ : ∀ c a w, Q (.panic c) (a.put oi.dst v) w → Q (.panic c) a w := by exact fun _ _ _ h => h) (hw : Region.wanted oi (yielded ops a.tmps) = true := by rfl)
    (hy : ∀ w : World, (execOp a.eval oi).run P w = .ok (.value v) w := by intro w; go_simp; (try with_reducible rfl))
    (ha : a.put oi.dst v = a' := by (try simp only [Act.put, List.setIfInBounds_toArray, List.set_cons_zero, List.set_cons_succ]); (try rfl)) : wpAnyH P md ops Q S (fuel + 1) listed a w :=
  rg_take i hi hc hQ hS hw (fun w _ => hy w) (ha ▸ h)
/-- a load, out of what S says -/
theorem rgL (i : Nat) {S' : World → Prop} {oi : Oper} {v : Value} {a' : Act} (hS : S w) (hSO : RowKit.Hid (∀ w, S w → S' w)) (h : wpAnyH P md ops Q S fuel (listed.setIfInBounds i true) a' w) (hi : ops.toList[i]? = some oi := by rfl)
    (hc : (Region.noSelect ops && Region.free md ops listed i && (Region.ready md ops listed).contains i) = true := by kernel_rfl)
    (hQ : ∀ c a w, Q (.panic c) (a.put oi.dst v) w → Q (.panic c) a w := by exact fun _ _ _ h => h) (hw : Region.wanted oi (yielded ops a.tmps) = true := by rfl)
    (hy : ∀ w : World, S' w → (execOp a.eval oi).run P w = .ok (.value v) w := by intro w hSw; (try unfold Know at hSw); go_simp; (try with_reducible rfl))
    (ha : a.put oi.dst v = a' := by (try simp only [Act.put, List.setIfInBounds_toArray, List.set_cons_zero, List.set_cons_succ]); (try rfl)) : wpAnyH P md ops Q S (fuel + 1) listed a w :=
  rg_take i hi hc hQ hS hw (fun w h => hy w (hSO.out w h)) (ha ▸ h)
/-- an operation that is not wanted -/
theorem rgS (i : Nat) {oi : Oper} {a' : Act} (hS : S w) (h : wpAnyH P md ops Q S fuel (listed.setIfInBounds i true) a' w) (hi : ops.toList[i]? = some oi := by rfl)
    (hc : (Region.noSelect ops && Region.free md ops listed i && (Region.ready md ops listed).contains i) = true := by kernel_rfl)
    (hQ : ∀ c a w, Q (.panic c) (a.put oi.dst undef) w → Q (.panic c) a w := by exact fun _ _ _ h => h) (hw : Region.wanted oi (yielded ops a.tmps) = false := by rfl)
    (ha : a.put oi.dst undef = a' := by (try simp only [Act.put, List.setIfInBounds_toArray, List.set_cons_zero, List.set_cons_succ]); (try rfl)) : wpAnyH P md ops Q S (fuel + 1) listed a w :=
  rg_skip i hi hc hQ hS hw (ha ▸ h)
/-- a condition under a name -/
theorem rg_cond (S : World → Prop) : ∃ S1 : World → Prop, RowKit.Hid (∀ w, S w → S1 w) ∧ RowKit.Hid (∀ w, S1 w → S w) := ⟨S, fun _ h => h, fun _ h => h⟩
/-! short words for what is kept behind a call -/
theorem bk {S : List Nat} {w w' : World} {b : Nat} {cs : Array Value} {E : TypeId} (hc : Chg S w w') (h : w.heap[b]? = some (.cells cs E (0, 0))) (hS : b ∉ S) : (∀ j, w'.cell? ⟨b, j, none⟩ = cs[j]?) ∧ b < w'.heap.size ∧ RowKit.Hid (w'.heap[b]? = some (.cells cs E (0, 0))) :=
  ⟨cellsOf (hc.keepb h hS), ltOf (hc.keepb h hS), hc.keepb h hS⟩
theorem hct {a b c : World} (h : RowKit.Hid (Chg [] a b)) (hc : Chg [] b c) : RowKit.Hid (Chg [] a c) := h.out.trans0 hc
theorem hsl {α : Type} {L : Lay α} {w w' : World} {a : Option Addr} {len cap : Nat} {xs : List α} {fp : List Nat} (h : RowKit.Hid (L.sl w a len cap xs fp)) (hc : Chg [] w w') : RowKit.Hid (L.sl w' a len cap xs fp) := L.sl_ext h.out hc
theorem hre {α : Type} {L : Lay α} {w w' : World} {cs : List Value} {x : α} {fp : List Nat} (h : RowKit.Hid (L.rep w cs x fp)) (hc : Chg [] w w') : RowKit.Hid (L.rep w' cs x fp) := L.ext h.out hc
end
end Go.Proofs.YtphmpimgbmedbaaGreat
