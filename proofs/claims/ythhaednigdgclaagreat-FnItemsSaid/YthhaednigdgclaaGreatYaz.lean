/- Several texts in one. -/
import Derived.Test.YthhaednigdgclaaGreatYay
open Go.Value renaming int → I, slice → Aa, string → Ab, bool → Ac
open Go.IntKind renaming i64 → J
open Go.Obj renaming cells → Ad
set_option maxRecDepth 100000
set_option maxHeartbeats 8000000
namespace Go.Proofs.YthhaednigdgclaaGreat
open Go.RowKit
open Go.Lib (hid)
theorem z1f (s : ByteArray) : 0 ≤ q0z s ∧ q0z s ≤ 99 := by
 unfold q0z
 repeat' split
 all_goals omega
theorem itemV_sml (s : Shp) (x : Rec) : 0 ≤ q3x s x ∧ q3x s x ≤ 99 := by
 have := z1f x.nM;unfold q3x
 repeat' split
 all_goals omega
theorem recV_sml (s : Shp) (x : Rec) : 0 ≤ recV s x ∧ recV s x ≤ 99 := by
 have := itemV_sml s x;unfold recV
 repeat' split
 all_goals omega
theorem recsF_sml (s : Shp) : ∀ xs : List Rec, 0 ≤ q3i s xs ∧ q3i s xs ≤ 99
 | [] => by unfold q3i; omega
 | x :: xs => by have := recsF_sml s xs; have := recV_sml s x; unfold q3i; split <;> omega
theorem tapsF_sml (s : Shp) : ∀ xs : List Tap, 0 ≤ q3o s xs ∧ q3o s xs ≤ 99
 | [] => by unfold q3o; omega
 | x :: xs => by have := tapsF_sml s xs; have := recsF_sml s x.rC; unfold q3o; split <;> omega
theorem fault_sml (x : Wld) : 0 ≤ x.fault ∧ x.fault ≤ 99 := by
 have := tapsF_sml x.sH x.tapes;unfold Wld.fault Wld.tapF
 repeat' split
 all_goals omega
theorem q7m (x : Wld) : q0s x.fault := by have := fault_sml x; unfold q0s; omega
end Go.Proofs.YthhaednigdgclaaGreat
