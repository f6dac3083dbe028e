
/- What the functions over a world hand back, in plain Lean. No function of the program in sight. -/
import Derived.Test.YtnnhopcjlnnchaaGreatWfp
import Derived.Test.YtnnhopcjlnnchaaGreatWhS
import Derived.Test.YtnnhopcjlnnchaaGreatWra
namespace Go.Proofs.YtnnhopcjlnnchaaGreat
open Go.RowKit

/-- the fault, or that power is off -/
noncomputable def Wld.up (x : Wld) : Int := if x.fault = 0 then (if x.down = true then 9 else 0) else x.fault
def Wld.isGroup (x : Wld) (g : Int) : Prop := 0 ≤ g ∧ g ≤ x.shape.all - 1
def Wld.isDrive (x : Wld) (d : Int) : Prop := 0 ≤ d ∧ d ≤ x.shape.drives - 1
def Wld.isRow (x : Wld) (r : Int) : Prop := 0 ≤ r ∧ r ≤ x.shape.rows - 1
noncomputable def onR (x : Wld) (g : Int) : WRes :=
  if x.up ≠ 0 then ⟨x.up, zWld⟩ else if pb (x.isGroup g) = false then ⟨3, zWld⟩ else if pb (g ∈ x.on) = true then ⟨0, x⟩ else if (x.on.length : Int) = x.shape.cap then ⟨7, zWld⟩ else ⟨0, { x with on := x.on ++ [g] }⟩
noncomputable def offR (x : Wld) (g : Int) : WRes :=
  if x.up ≠ 0 then ⟨x.up, zWld⟩ else if pb (x.isGroup g) = false then ⟨3, zWld⟩ else if pb (g ∈ x.on) = false then ⟨8, zWld⟩ else ⟨0, { x with on := x.on.filter (fun y => y != g) }⟩
def zBlk0 : Blk := ⟨0, []⟩
def Wld.drive (x : Wld) (g d : Int) : Drv := (x.groups.getD g.toNat []).getD d.toNat ⟨false, []⟩
noncomputable def readR (x : Wld) (g d r : Int) : BRes :=
  if x.up ≠ 0 then ⟨x.up, zBlk0⟩ else if pb (x.isGroup g ∧ x.isDrive d ∧ x.isRow r) = false then ⟨3, zBlk0⟩ else if pb (g ∈ x.on) = false then ⟨8, zBlk0⟩ else
    if (x.drive g d).wiped = true then ⟨12, zBlk0⟩ else ⟨0, (x.drive g d).blocks.getD r.toNat zBlk0⟩
/-- the world behind the end of its power -/
def Wld.cut (x : Wld) : Wld := { x with down := true, on := [] }
def Wld.setDrive (x : Wld) (g d : Int) (y : Drv) : Wld := { x with groups := x.groups.set g.toNat ((x.groups.getD g.toNat []).set d.toNat y) }
def Wld.setTape (x : Wld) (t : Int) (y : Tap) : Wld := { x with tapes := x.tapes.set t.toNat y }
def Wld.tape (x : Wld) (t : Int) : Tap := x.tapes.getD t.toNat ⟨false, []⟩
/-- a raw write: power fails, or something is done -/
def Wld.raw (x : Wld) (f : Wld → Wld) : WRes := if x.stop ≠ -1 ∧ x.stop ≤ x.writes then ⟨9, x.cut⟩ else ⟨0, { f x with writes := x.writes + 1 }⟩
def Wld.setBlock (x : Wld) (g d r : Int) (b : Blk) : Wld := x.setDrive g d { x.drive g d with blocks := (x.drive g d).blocks.set r.toNat b }
noncomputable def writeR (x : Wld) (g d r : Int) (b : Blk) : WRes :=
  if x.up ≠ 0 then ⟨x.up, zWld⟩ else if pb (x.isGroup g ∧ x.isDrive d ∧ x.isRow r) = false then ⟨3, zWld⟩ else if pb b.ok = false then ⟨1, zWld⟩ else if pb (g ∈ x.on) = false then ⟨8, zWld⟩ else
    x.raw (fun x => x.setBlock g d r b)
noncomputable def trustR (x : Wld) (g d : Int) : WRes :=
  if x.up ≠ 0 then ⟨x.up, zWld⟩ else if pb (x.isGroup g ∧ x.isDrive d) = false then ⟨3, zWld⟩ else if pb (g ∈ x.on) = false then ⟨8, zWld⟩ else
    x.raw (fun x => x.setDrive g d { x.drive g d with wiped := false })
def isTape (t : Int) : Prop := 0 ≤ t ∧ t ≤ 1
noncomputable def appendR (x : Wld) (t : Int) (r : Rec) : WRes :=
  if x.up ≠ 0 then ⟨x.up, zWld⟩ else if pb (isTape t) = false then ⟨3, zWld⟩ else if recV x.shape r ≠ 0 then ⟨recV x.shape r, zWld⟩ else if (x.tape t).recs.length = 200 then ⟨2, zWld⟩ else
    x.raw (fun x => x.setTape t ⟨false, (x.tape t).recs ++ [r]⟩)
noncomputable def strikeR (x : Wld) (t k s : Int) : WRes :=
  if x.up ≠ 0 then ⟨x.up, zWld⟩ else if pb (isTape t) = false then ⟨3, zWld⟩ else
    x.raw (fun x => x.setTape t ⟨(x.tape t).wiped, (x.tape t).recs.filter (fun r => !(r.kind == k && r.seq == s))⟩)
noncomputable def wipeDR (x : Wld) (g d : Int) : WRes :=
  if x.fault ≠ 0 then ⟨x.fault, zWld⟩ else if pb (x.isGroup g ∧ x.isDrive d) = false then ⟨3, zWld⟩ else ⟨0, x.setDrive g d ⟨true, List.replicate x.shape.rows.toNat ⟨0, [0, 0, 0, 0]⟩⟩⟩
noncomputable def wipeTR (x : Wld) (t : Int) : WRes :=
  if x.fault ≠ 0 then ⟨x.fault, zWld⟩ else if pb (isTape t) = false then ⟨3, zWld⟩ else ⟨0, x.setTape t ⟨true, []⟩⟩
noncomputable def cutR (x : Wld) : WRes := if x.fault ≠ 0 then ⟨x.fault, zWld⟩ else ⟨0, x.cut⟩
noncomputable def raiseR (x : Wld) (stop : Int) : WRes :=
  if x.fault ≠ 0 then ⟨x.fault, zWld⟩ else if pb (-1 ≤ stop ∧ stop ≤ 1000000000) = false then ⟨3, zWld⟩ else if x.down = false then ⟨1, zWld⟩ else ⟨0, { x with down := false, writes := 0, stop := stop }⟩

/-! ### how much there is of it -/
theorem cntDrive_le (x : Wld) (g d : Int) : cntDrv (x.drive g d) ≤ cntWld x + 1 := by
  have h1 := sumI_getD_le cntDrv_nonneg (x.groups.getD g.toNat []) d.toNat ⟨false, []⟩
  have h2 := sumI_getD_le cntDrvs_nonneg x.groups g.toNat []
  have h3 : cntDrv ⟨false, []⟩ = 1 := rfl
  have h4 : cntDrvs [] = 0 := rfl
  have h5 := sumI_nonneg cntTap_nonneg x.tapes
  have h6 := totIs_nonneg x.on
  unfold Wld.drive cntWld
  unfold cntDrvs at h2 h4
  unfold cntDrvs
  omega
theorem cntSetDrive_le (x : Wld) (g d : Int) (y : Drv) : cntWld (x.setDrive g d y) ≤ 2 * cntWld x + cntDrv y := by
  have h1 := sumI_set_le cntDrvs_nonneg x.groups g.toNat ((x.groups.getD g.toNat []).set d.toNat y)
  have h2 := sumI_set_le cntDrv_nonneg (x.groups.getD g.toNat []) d.toNat y
  have h3 := sumI_getD_le cntDrvs_nonneg x.groups g.toNat []
  have h4 : cntDrvs [] = 0 := rfl
  have h5 := sumI_nonneg cntTap_nonneg x.tapes
  have h6 := totIs_nonneg x.on
  have h7 := sumI_nonneg cntDrvs_nonneg x.groups
  unfold cntWld Wld.setDrive
  simp only
  unfold cntDrvs at h1 h3 h4 h7 ⊢
  omega
theorem cntTape_le (x : Wld) (t : Int) : cntTap (x.tape t) ≤ cntWld x + 1 := by
  have h1 := sumI_getD_le cntTap_nonneg x.tapes t.toNat ⟨false, []⟩
  have h3 : cntTap ⟨false, []⟩ = 1 := rfl
  have h6 := totIs_nonneg x.on
  have h7 := sumI_nonneg cntDrvs_nonneg x.groups
  unfold Wld.tape cntWld
  omega
theorem cntSetTape_le (x : Wld) (t : Int) (y : Tap) : cntWld (x.setTape t y) ≤ cntWld x + cntTap y := by
  have h1 := sumI_set_le cntTap_nonneg x.tapes t.toNat y
  unfold cntWld Wld.setTape
  simp only
  omega
theorem cntCut_le (x : Wld) : cntWld x.cut ≤ cntWld x := by
  have h6 := totIs_nonneg x.on
  unfold cntWld Wld.cut
  simp only
  have : totIs ([] : List Int) = 0 := rfl
  omega
theorem cntRaw_le {x : Wld} {f : Wld → Wld} {n : Int} (h1 : cntWld x ≤ n) (h2 : cntWld (f x) ≤ n) : cntWld (x.raw f).world ≤ n := by
  unfold Wld.raw
  split
  · exact Int.le_trans (cntCut_le x) h1
  · exact h2
theorem cntOnR (x : Wld) (g : Int) : cntWld (onR x g).world ≤ cntWld x + 1 := by
  have h := cntWld_nonneg x
  unfold onR
  split
  · rw [cntZ]; omega
  split
  · rw [cntZ]; omega
  split
  · show cntWld x ≤ _; omega
  split
  · rw [cntZ]; omega
  · show cntWld { x with on := x.on ++ [g] } ≤ _
    unfold cntWld totIs
    simp only [List.length_append, List.length_singleton]
    omega
theorem cntOffR (x : Wld) (g : Int) : cntWld (offR x g).world ≤ cntWld x := by
  have h := cntWld_nonneg x
  unfold offR
  repeat' split
  all_goals first
    | (rw [cntZ]; omega)
    | skip
  have := List.length_filter_le (fun y => y != g) x.on
  unfold cntWld
  simp only [totIs]
  omega
theorem cntWriteR (x : Wld) (g d r : Int) (b : Blk) : cntWld (writeR x g d r b).world ≤ 3 * cntWld x + cntBlk b + 2 := by
  have h := cntWld_nonneg x
  have hb := cntBlk_nonneg b
  unfold writeR
  repeat' split
  all_goals first
    | (rw [cntZ]; omega)
    | skip
  refine cntRaw_le (by omega) ?_
  have h1 := cntSetDrive_le x g d { x.drive g d with blocks := (x.drive g d).blocks.set r.toNat b }
  have h2 := cntDrive_le x g d
  have h3 := sumI_set_le cntBlk_nonneg (x.drive g d).blocks r.toNat b
  have e1 : cntDrv { x.drive g d with blocks := (x.drive g d).blocks.set r.toNat b } = 1 + sumI cntBlk ((x.drive g d).blocks.set r.toNat b) := rfl
  have e2 : cntDrv (x.drive g d) = 1 + sumI cntBlk (x.drive g d).blocks := rfl
  unfold Wld.setBlock
  omega
theorem cntTrustR (x : Wld) (g d : Int) : cntWld (trustR x g d).world ≤ 3 * cntWld x + 2 := by
  have h := cntWld_nonneg x
  unfold trustR
  repeat' split
  all_goals first
    | (rw [cntZ]; omega)
    | skip
  refine cntRaw_le (by omega) ?_
  have h1 := cntSetDrive_le x g d { x.drive g d with wiped := false }
  have h2 := cntDrive_le x g d
  have e1 : cntDrv { x.drive g d with wiped := false } = cntDrv (x.drive g d) := rfl
  omega
theorem cntAppendR (x : Wld) (t : Int) (r : Rec) : cntWld (appendR x t r).world ≤ 2 * cntWld x + cntRec r + 2 := by
  have h := cntWld_nonneg x
  have hr := cntRec_nonneg r
  unfold appendR
  repeat' split
  all_goals first
    | (rw [cntZ]; omega)
    | skip
  refine cntRaw_le (by omega) ?_
  have h1 := cntSetTape_le x t ⟨false, (x.tape t).recs ++ [r]⟩
  have h2 := cntTape_le x t
  have e1 : cntTap ⟨false, (x.tape t).recs ++ [r]⟩ = 1 + sumI cntRec ((x.tape t).recs ++ [r]) := rfl
  have e2 : cntTap (x.tape t) = 1 + sumI cntRec (x.tape t).recs := rfl
  rw [sumI_append] at e1
  have e3 : sumI cntRec [r] = cntRec r := by simp [sumI]
  omega
theorem cntStrikeR (x : Wld) (t k s : Int) : cntWld (strikeR x t k s).world ≤ 2 * cntWld x + 2 := by
  have h := cntWld_nonneg x
  unfold strikeR
  repeat' split
  all_goals first
    | (rw [cntZ]; omega)
    | skip
  refine cntRaw_le (by omega) ?_
  have h1 := cntSetTape_le x t ⟨(x.tape t).wiped, (x.tape t).recs.filter (fun r => !(r.kind == k && r.seq == s))⟩
  have h2 := cntTape_le x t
  have h3 := sumI_filter_le cntRec_nonneg (fun r : Rec => !(r.kind == k && r.seq == s)) (x.tape t).recs
  have e1 : cntTap ⟨(x.tape t).wiped, (x.tape t).recs.filter (fun r => !(r.kind == k && r.seq == s))⟩ = 1 + sumI cntRec ((x.tape t).recs.filter (fun r => !(r.kind == k && r.seq == s))) := rfl
  have e2 : cntTap (x.tape t) = 1 + sumI cntRec (x.tape t).recs := rfl
  omega
theorem cntWipeTR (x : Wld) (t : Int) : cntWld (wipeTR x t).world ≤ cntWld x + 1 := by
  have h := cntWld_nonneg x
  unfold wipeTR
  repeat' split
  all_goals first
    | (rw [cntZ]; omega)
    | skip
  exact cntSetTape_le x t ⟨true, []⟩
theorem cntCutR (x : Wld) : cntWld (cutR x).world ≤ cntWld x := by
  have h := cntWld_nonneg x
  unfold cutR
  split
  · rw [cntZ]; omega
  · exact cntCut_le x
theorem cntRaiseR (x : Wld) (s : Int) : cntWld (raiseR x s).world ≤ cntWld x := by
  have h := cntWld_nonneg x
  unfold raiseR
  repeat' split
  all_goals first
    | (rw [cntZ]; omega)
    | exact Int.le_refl _
theorem rows_ok {x : Wld} (h : x.fault = 0) : x.shape.ok := by
  refine Classical.byContradiction (fun hn => ?_)
  unfold Wld.fault at h
  rw [pb_false hn] at h
  simp at h
theorem cntWipeDR (x : Wld) (g d : Int) : cntWld (wipeDR x g d).world ≤ 2 * cntWld x + 31 := by
  have h := cntWld_nonneg x
  unfold wipeDR
  split
  · rw [cntZ]; omega
  · rename_i hf
    split
    · rw [cntZ]; omega
    · have hok := rows_ok (by simpa using hf : x.fault = 0)
      have hr : x.shape.rows.toNat ≤ 6 := by have := hok.2.2.2.2.1; omega
      have h1 := cntSetDrive_le x g d ⟨true, List.replicate x.shape.rows.toNat ⟨0, [0, 0, 0, 0]⟩⟩
      have e1 : cntDrv ⟨true, List.replicate x.shape.rows.toNat ⟨0, [0, 0, 0, 0]⟩⟩ = 1 + sumI cntBlk (List.replicate x.shape.rows.toNat ⟨0, [0, 0, 0, 0]⟩) := rfl
      rw [sumI_replicate] at e1
      have e2 : cntBlk ⟨0, [0, 0, 0, 0]⟩ = 5 := rfl
      rw [e2] at e1
      show cntWld (x.setDrive g d _) ≤ _
      omega
end Go.Proofs.YtnnhopcjlnnchaaGreat
