
/- The program's and the reference's SolveG. -/
import Derived.Test.YtjnclggpaekdfaaSol
import Derived.Test.YtjnclggpaekdfaaSls
import Derived.Test.YtjnclggpaekdfaaIdx
import Derived.Test.YtjnclggpaekdfaaStB
namespace Go.Proofs.Ytjnclggpaekdfaa
open Go.RowKit

def solveRes (rows : List (List UInt8)) (right : List UInt8) : Int × List UInt8 :=
  if 16 < rows.length then (2, []) else if rows.length = 0 ∨ right.length ≠ rows.length then (1, []) else if rows.any (fun r => decide (r.length ≠ rows.length)) = true then (1, [])
  else if (solV rows right).isSome = true then (0, (solV rows right).getD []) else (4, [])
theorem solV_len {rows : List (List UInt8)} {right : List UInt8} {n : Nat} (h : Wide n rows) (hr : right.length = rows.length) : ((solV rows right).getD []).length ≤ rows.length := by
  unfold solV
  split
  · simp
  · show (List.map _ (solved rows right).1).length ≤ _
    rw [List.length_map]
    unfold solved
    have := (gauss_inv (augm_wide (right := right) h) rows.length).1
    rw [augm_length hr] at this
    omega
theorem solveRes_len (rows : List (List UInt8)) (right : List UInt8) : (solveRes rows right).2.length ≤ 16 := by
  unfold solveRes
  split
  · simp
  · rename_i h1
    split
    · simp
    · rename_i h2
      split
      · simp
      · rename_i h3
        split
        · have hw : Wide rows.length rows := fun x hx => by
            by_cases e : x.length = rows.length
            · exact e
            · exact absurd (List.any_eq_true.2 ⟨x, hx, by simpa using e⟩) h3
          have hr : right.length = rows.length := by
            by_cases e : right.length = rows.length
            · exact e
            · exact absurd (.inr e) h2
          have := solV_len (right := right) hw hr
          show ((solV rows right).getD []).length ≤ 16
          omega
        · simp
end Go.Proofs.Ytjnclggpaekdfaa
