
/- The parity lists of a column, of the program and of the reference. -/
import Derived.Test.YtcejdmggacjnoaaEnc
import Derived.Test.YtcejdmggacjnoaaGrw
namespace Go.Proofs.Ytcejdmggacjnoaa
open Go.RowKit

/-- the first so many parity lists -/
def parL (xs : List (List UInt8)) (n0 : Nat) (c : Nat) : List (List UInt8) := (List.range c).map (fun j : Nat => mixTo xs (genL xs.length (xs.length + j) 8) n0 xs.length)
theorem parL_length (xs : List (List UInt8)) (n0 c : Nat) : (parL xs n0 c).length = c := by simp [parL]
theorem parL_next (xs : List (List UInt8)) (n0 c : Nat) : parL xs n0 (c + 1) = parL xs n0 c ++ [mixTo xs (genL xs.length (xs.length + c) 8) n0 xs.length] := by
  unfold parL; rw [List.range_succ, List.map_append]; rfl

end Go.Proofs.Ytcejdmggacjnoaa
