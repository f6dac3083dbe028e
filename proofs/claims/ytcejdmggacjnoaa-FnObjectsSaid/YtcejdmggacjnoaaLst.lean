
/- The walks of the byte lists: sums, scaled lists, of the reference and of the program. -/
import Derived.Test.YtcejdmggacjnoaaRows
import Derived.Test.YtcejdmggacjnoaaApp
import Derived.Test.YtcejdmggacjnoaaMul
import Derived.Deep.RegionLaw
namespace Go.Proofs.Ytcejdmggacjnoaa
open Go.RowKit

def addL (xs ys : List UInt8) : List UInt8 := xs.zipWith (· ^^^ ·) ys
def scaleL (xs : List UInt8) (c : UInt8) : List UInt8 := xs.map (Fld.mul · c)

theorem addL_next {xs ys : List UInt8} {k : Nat} {x y : UInt8} (hx : xs[k]? = some x) (hy : ys[k]? = some y) : addL (xs.take (k + 1)) (ys.take (k + 1)) = addL (xs.take k) (ys.take k) ++ [x ^^^ y] := by
  rw [take_next hx, take_next hy]
  have h1 := (List.getElem?_eq_some_iff.1 hx).1
  have h2 := (List.getElem?_eq_some_iff.1 hy).1
  unfold addL
  rw [List.zipWith_append (by simp; omega)]
  rfl

theorem addL_len (xs ys : List UInt8) (k : Nat) : (addL (xs.take k) ys).length ≤ k := by
  unfold addL; rw [List.length_zipWith]; exact Nat.le_trans (Nat.min_le_left _ _) (List.length_take_le _ _)
theorem addL_take : ∀ (xs ys : List UInt8), addL xs (ys.take xs.length) = addL xs ys := by
  intro xs
  induction xs with
  | nil => intro ys; simp [addL]
  | cons x xs ih =>
    intro ys
    cases ys with
    | nil => simp [addL]
    | cons y ys => have := ih ys; simp [addL] at this ⊢; exact this
theorem addL_length {xs ys : List UInt8} (h : xs.length ≤ ys.length) : (addL xs ys).length = xs.length := by
  unfold addL; rw [List.length_zipWith]; omega

theorem infoB : (Try.prog.info? 5).map (fun i => (i.zero, i.size, i.bytes)) = some (some (.int .u8 0), 1, 1) := by kernel_rfl
theorem kindB : ∃ K : Kind Try.prog 5 byteL.n 1, K.z = .int .u8 0 := by
  obtain ⟨i0, hi, hz0, hz1, hz2⟩ := info_parts infoB
  exact ⟨⟨i0, .int .u8 0, hi, hz0, hz1, hz2, rfl⟩, rfl⟩
/-- make([]byte, n) -/
theorem make_bytes (n : Nat) (hn : n ≤ 140737488355327) (w : World) :
    (Instr.makeSlice 24 (.int .i64 (n : Int)) (.int .i64 (n : Int))).run Try.prog w = .ok (.slice (some ⟨w.heap.size, 0, none⟩) n n) (w.alloc (.cells (zrow (.int .u8 0) n) 5)) := by
  obtain ⟨K, hK⟩ := kindB
  rw [← hK]
  have := make_row Try.underlying24 K n (by omega) (by omega) w
  rw [show n * byteL.n = n from Nat.mul_one n] at this
  exact this


theorem scaleL_next {xs : List UInt8} {k : Nat} {x c : UInt8} (hx : xs[k]? = some x) : scaleL (xs.take (k + 1)) c = scaleL (xs.take k) c ++ [Fld.mul x c] := by
  rw [take_next hx]; simp [scaleL]
theorem scaleL_len (xs : List UInt8) (c : UInt8) (k : Nat) : (scaleL (xs.take k) c).length ≤ k := by
  unfold scaleL; rw [List.length_map]; exact List.length_take_le _ _
theorem scaleL_length (xs : List UInt8) (c : UInt8) : (scaleL xs c).length = xs.length := by simp [scaleL]

/-- the first k places summed -/
def mixL (outs xs : List UInt8) (c : UInt8) (k : Nat) : List UInt8 := addL (outs.take k) (scaleL (xs.take k) c) ++ outs.drop k

theorem addL_len_eq {xs ys : List UInt8} (h : xs.length = ys.length) : (addL xs ys).length = xs.length := by unfold addL; rw [List.length_zipWith]; omega
theorem mixL_zero (outs xs : List UInt8) (c : UInt8) : mixL outs xs c 0 = outs := by simp [mixL, addL]
theorem mixL_all {outs xs : List UInt8} {c : UInt8} {n : Nat} (h : n = outs.length) (h2 : n = xs.length) : mixL outs xs c n = addL outs (scaleL xs c) := by
  unfold mixL
  rw [List.take_of_length_le (by omega), List.take_of_length_le (by omega), List.drop_of_length_le (by omega), List.append_nil]
theorem mixL_at {outs xs : List UInt8} {c : UInt8} {k : Nat} (hx : k < xs.length) (ho : k < outs.length) : (mixL outs xs c k)[k]? = outs[k]? := by
  unfold mixL
  have hl : (addL (outs.take k) (scaleL (xs.take k) c)).length = k := by rw [addL_len_eq (by simp [scaleL]; omega)]; simp; omega
  rw [List.getElem?_append_right (by omega), hl, List.getElem?_drop]
  simp
theorem mixL_next {outs xs : List UInt8} {c o x : UInt8} {k : Nat} (hx : xs[k]? = some x) (ho : outs[k]? = some o) : (mixL outs xs c k).set k (o ^^^ Fld.mul x c) = mixL outs xs c (k + 1) := by
  have hxl := (List.getElem?_eq_some_iff.1 hx).1
  have hol := (List.getElem?_eq_some_iff.1 ho).1
  have he := (List.getElem?_eq_some_iff.1 ho).2
  have hl : (addL (outs.take k) (scaleL (xs.take k) c)).length = k := by rw [addL_len_eq (by simp [scaleL]; omega)]; simp; omega
  unfold mixL
  rw [List.set_append_right _ _ (by omega), hl, Nat.sub_self, List.drop_eq_getElem_cons hol, List.set_cons_zero, take_next ho, scaleL_next hx]
  have : addL (outs.take k ++ [o]) (scaleL (xs.take k) c ++ [Fld.mul x c]) = addL (outs.take k) (scaleL (xs.take k) c) ++ [o ^^^ Fld.mul x c] := by
    unfold addL
    rw [List.zipWith_append (by simp [scaleL]; omega)]
    rfl
  rw [this]
  simp

theorem addL_zero (n : Nat) (xs : List UInt8) (h : n = xs.length) : addL (List.replicate n 0) xs = xs := by
  subst h
  induction xs with
  | nil => rfl
  | cons x xs ih => simp [addL, List.replicate_succ] at ih ⊢; exact ih

end Go.Proofs.Ytcejdmggacjnoaa
