
/- The walks that compare lists and records. -/
import Derived.Test.YtjnclggpaekdfaaRows
import Derived.Test.YtjnclggpaekdfaaHelp
import Derived.Test.YtjnclggpaekdfaaData
import Derived.Laws.BytesArg
import Derived.Deep.RegionLaw
namespace Go.Proofs.Ytjnclggpaekdfaa
open Go.RowKit

theorem take_ne {α : Type} {xs ys : List α} {k : Nat} {x y : α} (hx : xs[k]? = some x) (hy : ys[k]? = some y) (h : x ≠ y) : xs ≠ ys := fun e => by
  subst e; exact h (Option.some.inj (hx.symm.trans hy))
noncomputable def sameV {α : Type} (x y : α) : Bool := @decide (x = y) (Classical.propDecidable _)
theorem sameV_true {α : Type} {x y : α} (h : x = y) : sameV x y = true := by unfold sameV; simp [h]
theorem sameV_false {α : Type} {x y : α} (h : x ≠ y) : sameV x y = false := by unfold sameV; simp [h]








theorem toList_inj {s t : ByteArray} (h : s.toList = t.toList) : s = t := by
  rw [ByteArray.toList_eq, ByteArray.toList_eq] at h
  exact ByteArray.ext (Array.toList_inj.1 h)
/-- string(b) of a list of bytes -/
theorem sl_convert {P : Program} {w : World} {a : Option Addr} {la ca : Nat} {xs : List UInt8} {f : List Nat} (h : byteL.sl w a la ca xs f) (src e dst : TypeId)
    (hs : P.underlying src = some (.slice e)) (he : P.underlying e = some (.int .u8)) (hd : P.underlying dst = some .string) :
    (convert src dst (.slice a la ca)).run P w = .ok (.string ⟨xs.toArray⟩) w := by
  have hl := h.1
  by_cases h0 : la = 0
  · subst h0
    obtain rfl : xs = [] := List.eq_nil_of_length_eq_zero hl.symm
    rw [run_convert_bytes_string w src dst e _ 0 ca hs he hd]
    cases a <;> simp [Conv.bytesToString, loadCells]
    all_goals rfl
  · obtain ⟨x, X, b, o, _, rfl, _, _, _⟩ := byte_at h (i := 0) (by omega)
    have := run_convert_bytes_arg (P := P) w src e hs he b o la ca (xs.map fun x => (x.toNat : Int)) (by simp [hl]) (fun i hi => by
      obtain ⟨y, Y, b', o', HY, e', hc, _, _⟩ := byte_at h hi
      obtain ⟨rfl, rfl⟩ : b = b' ∧ o = o' := by simpa using e'
      rw [hc, HY.out.2.1, List.getD_eq_getElem?_getD, List.getElem?_map, HY.out.1]
      rfl) dst hd
    rw [this]
    congr 3
    unfold strOfNums
    congr 2
    rw [List.map_map]
    exact List.map_id'' (fun y => by simp) xs


set_option maxHeartbeats 400000 in
theorem byEq_any (a b : Option Addr) (la ca lb cb : Nat) (xs ys : List UInt8) (f g : List Nat) (w : World) (ha : byteL.sl w a la ca xs f) (hb : byteL.sl w b lb cb ys g) :
    Calls Try.prog 72 #[.slice a la ca, .slice b lb cb] w fun e w' => e = .returned (.bool (sameV xs ys)) ∧ Chg [] w w' := by
  have h1 := sl_convert ha 22 5 9 Try.underlying22 Try.underlying5 Try.underlying9
  have h2 := sl_convert hb 22 5 9 Try.underlying22 Try.underlying5 Try.underlying9
  obtain ⟨s, hs⟩ : ∃ s : ByteArray, (⟨xs.toArray⟩ : ByteArray) = s := ⟨_, rfl⟩
  obtain ⟨t, ht⟩ : ∃ s : ByteArray, (⟨ys.toArray⟩ : ByteArray) = s := ⟨_, rfl⟩
  have hst : s = t ↔ xs = ys := by
    rw [← hs, ← ht]
    constructor
    · intro h; have h2 := congrArg (fun z : ByteArray => z.data.toList) h; exact h2
    · intro h; rw [h]
  rw [hs] at h1
  rw [ht] at h2
  have HST := Lib.hid hst
  clear ha hb hs ht hst
  by_cases heq : s = t
  · have HF := Lib.hid (sameV_true (HST.out.1 heq))
    subst heq
    go_enter Try.func72, Try.ntmps72
    go_wp2
    go_ret
    exact ⟨by rw [HF.out]; first | rfl | simp, Chg.refl _ _⟩
  · have hbt : (s.toList == t.toList) = false := by rw [beq_eq_false_iff_ne]; exact fun h => heq (toList_inj h)
    have HF := Lib.hid (sameV_false (fun h => heq (HST.out.2 h)))
    go_enter Try.func72, Try.ntmps72
    go_wp2
    go_ret
    exact ⟨by rw [HF.out]; first | rfl | simp, Chg.refl _ _⟩

theorem new_two (w : World) (x y : Obj) : ((w.alloc x).alloc y).heap[w.heap.size + 1]? = some y := by
  have h := new_alloc (w.alloc x) y
  simpa using h


end Go.Proofs.Ytjnclggpaekdfaa
