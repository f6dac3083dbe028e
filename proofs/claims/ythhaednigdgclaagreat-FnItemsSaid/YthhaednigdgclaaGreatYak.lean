/- Several texts in one. -/
import Derived.Test.YthhaednigdgclaaGreatYaj
import Derived.Test.YthhaednigdgclaaGreatYaa
open Go.Value renaming int → I, slice → Aa, string → Ab, bool → Ac
open Go.IntKind renaming i64 → J
open Go.Obj renaming cells → Ad
set_option maxRecDepth 100000
set_option maxHeartbeats 8000000
namespace Go.Proofs.YthhaednigdgclaaGreat
open Go.RowKit
open Go.Lib (hid)
def Blk.ok (b : Blk) : Prop := (0 ≤ b.sM ∧ b.sM ≤ 1000000000) ∧ b.bytes.length = 4
def Drv.okAt (s : Shp) (d : Drv) : Prop := (d.blocks.length : Int) = s.rows ∧ ∀ b ∈ d.blocks, b.ok
def GrpOk (s : Shp) (g : List Drv) : Prop := (g.length : Int) = s.drives ∧ ∀ d ∈ g, d.okAt s
def Wld.built (x : Wld) : Prop := (x.gS.length : Int) = x.sH.all ∧ ∀ g ∈ x.gS, GrpOk x.sH g
def Wld.onOk (x : Wld) : Prop := q3c (x.sH.all - 1) x.on ∧ (x.on.length : Int) ≤ x.sH.cap ∧ (x.on = [] ∨ x.dN = false)
noncomputable def q3i (s : Shp) : List Rec → Int
 | [] => 0
 | r :: rs => if recV s r = 0 then q3i s rs else recV s r
noncomputable def q3o (s : Shp) : List Tap → Int
 | [] => 0
 | t :: ts => if q3i s t.rC = 0 then q3o s ts else q3i s t.rC
noncomputable def Wld.tapF (x : Wld) : Int :=
 if pb (∃ t ∈ x.tapes, 200 < t.rC.length) = true then 2 else if q3o x.sH x.tapes = 0 then (if pb (∃ t ∈ x.tapes, t.wD = true ∧ t.rC ≠ []) = true then 1 else 0) else q3o x.sH x.tapes
def Wld.nums (x : Wld) : Prop := (0 ≤ x.wT ∧ x.wT ≤ 1000000000) ∧ (-1 ≤ x.sP ∧ x.sP ≤ 1000000000)
noncomputable def Wld.fault (x : Wld) : Int :=
 if pb x.sH.ok = true then
  if pb (x.built ∧ x.onOk ∧ x.tapes.length = 2) = true then
   if x.tapF = 0 then (if pb x.nums = true then 0 else 3) else x.tapF
  else 1
 else 3
theorem q6e {s : Shp} : ∀ {rs : List Rec} {k : Nat} {r : Rec}, (∀ (i : Nat) q, i < k → rs[i]? = some q → recV s q = 0) → rs[k]? = some r → recV s r ≠ 0 → q3i s rs = recV s r
 | [], k, r, _, h, _ => by simp at h
 | q :: qs, 0, r, _, h, hr => by simp at h; subst h; unfold q3i; rw [if_neg hr]
 | q :: qs, k + 1, r, h0, h, hr => by
  unfold q3i;rw [if_pos (h0 0 q (by omega) rfl)];exact q6e (k := k) (fun i p hi hp => h0 (i + 1) p (by omega) hp) (by simpa using h) hr
theorem q6d {s : Shp} : ∀ {rs : List Rec}, (∀ (i : Nat) q, rs[i]? = some q → recV s q = 0) → q3i s rs = 0
 | [], _ => rfl
 | q :: qs, h => by unfold q3i; rw [if_pos (h 0 q rfl)]; exact q6d (fun i p hp => h (i + 1) p hp)
theorem q6a {s : Shp} : ∀ {ts : List Tap} {k : Nat} {t : Tap}, (∀ (i : Nat) q, i < k → ts[i]? = some q → q3i s q.rC = 0) → ts[k]? = some t → q3i s t.rC ≠ 0 → q3o s ts = q3i s t.rC
 | [], k, r, _, h, _ => by simp at h
 | q :: qs, 0, r, _, h, hr => by simp at h; subst h; unfold q3o; rw [if_neg hr]
 | q :: qs, k + 1, r, h0, h, hr => by
  unfold q3o;rw [if_pos (h0 0 q (by omega) rfl)];exact q6a (k := k) (fun i p hi hp => h0 (i + 1) p (by omega) hp) (by simpa using h) hr
theorem q5z {s : Shp} : ∀ {ts : List Tap}, (∀ (i : Nat) q, ts[i]? = some q → q3i s q.rC = 0) → q3o s ts = 0
 | [], _ => rfl
 | q :: qs, h => by unfold q3o; rw [if_pos (h 0 q rfl)]; exact q5z (fun i p hp => h (i + 1) p hp)
end Go.Proofs.YthhaednigdgclaaGreat
