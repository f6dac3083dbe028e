
/- The walks that compare lists and records. -/
import Derived.Test.YtcejdmggacjnoaaRows
import Derived.Test.YtcejdmggacjnoaaHelp
import Derived.Test.YtcejdmggacjnoaaData
import Derived.Laws.BytesArg
import Derived.Deep.RegionLaw
namespace Go.Proofs.Ytcejdmggacjnoaa
open Go.RowKit

theorem take_ne {α : Type} {xs ys : List α} {k : Nat} {x y : α} (hx : xs[k]? = some x) (hy : ys[k]? = some y) (h : x ≠ y) : xs ≠ ys := fun e => by
  subst e; exact h (Option.some.inj (hx.symm.trans hy))
noncomputable def sameV {α : Type} (x y : α) : Bool := @decide (x = y) (Classical.propDecidable _)
theorem sameV_true {α : Type} {x y : α} (h : x = y) : sameV x y = true := by unfold sameV; simp [h]
theorem sameV_false {α : Type} {x y : α} (h : x ≠ y) : sameV x y = false := by unfold sameV; simp [h]








theorem toList_inj {s t : ByteArray} (h : s.toList = t.toList) : s = t := by
  rw [ByteArray.toList_eq, ByteArray.toList_eq] at h
  exact ByteArray.ext (Array.toList_inj.1 h)
/-- string(b) of a list of bytes -/
theorem sl_convert {P : Program} {w : World} {a : Option Addr} {la ca : Nat} {xs : List UInt8} {f : List Nat} (h : byteL.sl w a la ca xs f) (src e dst : TypeId)
    (hs : P.underlying src = some (.slice e)) (he : P.underlying e = some (.int .u8)) (hd : P.underlying dst = some .string) :
    (convert src dst (.slice a la ca)).run P w = .ok (.string ⟨xs.toArray⟩) w := by
  have hl := h.1
  by_cases h0 : la = 0
  · subst h0
    obtain rfl : xs = [] := List.eq_nil_of_length_eq_zero hl.symm
    rw [run_convert_bytes_string w src dst e _ 0 ca hs he hd]
    cases a <;> simp [Conv.bytesToString, loadCells]
    all_goals rfl
  · obtain ⟨x, X, b, o, _, rfl, _, _, _⟩ := byte_at h (i := 0) (by omega)
    have := run_convert_bytes_arg (P := P) w src e hs he b o la ca (xs.map fun x => (x.toNat : Int)) (by simp [hl]) (fun i hi => by
      obtain ⟨y, Y, b', o', HY, e', hc, _, _⟩ := byte_at h hi
      obtain ⟨rfl, rfl⟩ : b = b' ∧ o = o' := by simpa using e'
      rw [hc, HY.out.2.1, List.getD_eq_getElem?_getD, List.getElem?_map, HY.out.1]
      rfl) dst hd
    rw [this]
    congr 3
    unfold strOfNums
    congr 2
    rw [List.map_map]
    exact List.map_id'' (fun y => by simp) xs



theorem new_two (w : World) (x y : Obj) : ((w.alloc x).alloc y).heap[w.heap.size + 1]? = some y := by
  have h := new_alloc (w.alloc x) y
  simpa using h


end Go.Proofs.Ytcejdmggacjnoaa
