
/- The comparison of two records. -/
import Derived.Test.YtcejdmggacjnoaaRows
import Derived.Test.YtcejdmggacjnoaaSam
namespace Go.Proofs.Ytcejdmggacjnoaa
open Go.RowKit

theorem toList_ne {s t : ByteArray} (h : s ≠ t) : (s.toList == t.toList) = false := by
  rw [beq_eq_false_iff_ne]; exact fun e => h (toList_inj e)


theorem sameV_rec {kx sx : Int} {nx : ByteArray} {lx gx rx : Int} {Rx Ry : List Int} {Dx Dy Ex Ey : List UInt8} : sameV (Rec.mk kx sx nx lx gx rx Rx Dx Ex) (Rec.mk kx sx nx lx gx rx Ry Dy Ey) = (sameV Rx Ry && (sameV Dx Dy && sameV Ex Ey)) := by
  by_cases h1 : Rx = Ry
  · by_cases h2 : Dx = Dy
    · by_cases h3 : Ex = Ey
      · rw [sameV_true h1, sameV_true h2, sameV_true h3, sameV_true (by rw [h1, h2, h3])]; rfl
      · rw [sameV_true h1, sameV_true h2, sameV_false h3, sameV_false (fun h => h3 (congrArg Rec.delta h))]; rfl
    · rw [sameV_true h1, sameV_false h2, sameV_false (fun h => h2 (congrArg Rec.data h))]; rfl
  · rw [sameV_false h1, sameV_false (fun h => h1 (congrArg Rec.rows h))]; rfl


































end Go.Proofs.Ytcejdmggacjnoaa
