/- Several texts in one. -/
import Derived.Test.YtphmpimgbmedbaaGreatWhSM
import Derived.Test.YtphmpimgbmedbaaGreatRfbM
import Derived.Test.YtphmpimgbmedbaaGreatRflM
import Derived.Test.YtphmpimgbmedbaaGreatMd
/- What the functions over a world hand back: a code and a world, a new world. No function of the program in sight. -/
namespace Go.Proofs.YtphmpimgbmedbaaGreat
open Go.RowKit

/-- a code and a world -/
structure WRes where
  code : Int
  world : Wld
def zShp : Shp := ⟨0, 0, 0, 0, 0, 0, 0, 0, 0⟩
def zWld : Wld := ⟨zShp, [], [], [], 0, 0, false⟩
def wrsL : Lay WRes := (intL.pair wldL).via (fun x => (x.code, x.world))
theorem wrsL_iff {w : World} {cs : List Value} {x : WRes} {fp : List Nat} : wrsL.rep w cs x fp ↔ ∃ c, cs = .int .i64 x.code :: c ∧ i64ok x.code ∧ wldL.rep w c x.world fp := by
  constructor
  · rintro ⟨_, c, _, f, rfl, rfl, ⟨rfl, h1, rfl⟩, h2⟩
    exact ⟨c, rfl, h1, h2⟩
  · rintro ⟨c, rfl, h1, h2⟩
    exact ⟨[_], c, [], fp, rfl, rfl, ⟨rfl, h1, rfl⟩, h2⟩
structure BRes where
  code : Int
  block : Blk
def brsL : Lay BRes := (intL.pair blkL).via (fun x => (x.code, x.block))
theorem brsL_iff {w : World} {cs : List Value} {x : BRes} {fp : List Nat} : brsL.rep w cs x fp ↔ ∃ c, cs = .int .i64 x.code :: c ∧ i64ok x.code ∧ blkL.rep w c x.block fp := by
  constructor
  · rintro ⟨_, c, _, f, rfl, rfl, ⟨rfl, h1, rfl⟩, h2⟩
    exact ⟨c, rfl, h1, h2⟩
  · rintro ⟨c, rfl, h1, h2⟩
    exact ⟨[_], c, [], fp, rfl, rfl, ⟨rfl, h1, rfl⟩, h2⟩

def freshDrv (n : Nat) : Drv := ⟨false, List.replicate n ⟨0, [0, 0, 0, 0]⟩⟩
def newWld (s : Shp) : Wld := ⟨s, List.replicate s.all.toNat (List.replicate s.drives.toNat (freshDrv s.rows.toNat)), [], [⟨false, []⟩, ⟨false, []⟩], 0, -1, false⟩
def newR (s : Shp) : WRes := if s.fault = 0 then ⟨0, newWld s⟩ else ⟨s.fault, zWld⟩

/-! ### how much there is of it -/
section
variable {α : Type} {f : α → Int}
theorem sumI_set_le (hf : ∀ x, 0 ≤ f x) : ∀ (xs : List α) (i : Nat) (y : α), sumI f (xs.set i y) ≤ sumI f xs + f y
  | [], i, y => by have := hf y; simp [sumI]; omega
  | x :: xs, 0, y => by have := hf x; simp only [List.set_cons_zero, sumI]; omega
  | x :: xs, i + 1, y => by have := sumI_set_le hf xs i y; simp only [List.set_cons_succ, sumI]; omega
theorem sumI_filter_le (hf : ∀ x, 0 ≤ f x) (p : α → Bool) : ∀ (xs : List α), sumI f (xs.filter p) ≤ sumI f xs
  | [] => Int.le_refl _
  | x :: xs => by
    have := sumI_filter_le hf p xs
    have := hf x
    rw [List.filter_cons]
    split
    · simp only [sumI]; omega
    · simp only [sumI]; omega
theorem sumI_getD_le (hf : ∀ x, 0 ≤ f x) (xs : List α) (i : Nat) (d : α) : f (xs.getD i d) ≤ sumI f xs + f d := by
  have h1 := sumI_nonneg hf xs
  have h2 := hf d
  rw [List.getD_eq_getElem?_getD]
  cases h : xs[i]? with
  | none => show f d ≤ _; omega
  | some x => have := sumI_mem hf (List.mem_of_getElem? h); show f x ≤ _; omega
theorem sumI_replicate (n : Nat) (x : α) : sumI f (List.replicate n x) = n * f x := by
  induction n with
  | zero => simp [sumI]
  | succ n ih => rw [List.replicate_succ]; simp only [sumI]; rw [ih, Int.natCast_succ, Int.add_mul]; omega
end
theorem cntZ : cntWld zWld = 0 := rfl
theorem shp_fault0 {s : Shp} (h : s.fault = 0) : s.ok := by
  unfold Shp.fault at h
  split at h
  · assumption
  · omega
theorem cntNewR (s : Shp) : cntWld (newR s).world ≤ 1000 := by
  unfold newR
  split
  · rename_i h
    have hok := shp_fault0 h
    obtain ⟨⟨h1, h2⟩, ⟨h3, h4⟩, ⟨h5, h6⟩, ⟨h7, h8⟩, ⟨h9, h10⟩, _⟩ := hok
    have e1 : cntBlk ⟨0, [0, 0, 0, 0]⟩ = 5 := rfl
    have e2 : cntDrv (freshDrv s.rows.toNat) ≤ 31 := by
      have : cntDrv (freshDrv s.rows.toNat) = 1 + sumI cntBlk (List.replicate s.rows.toNat ⟨0, [0, 0, 0, 0]⟩) := rfl
      rw [sumI_replicate, e1] at this
      omega
    have e3 : cntDrvs (List.replicate s.drives.toNat (freshDrv s.rows.toNat)) ≤ 155 := by
      unfold cntDrvs
      rw [sumI_replicate]
      have hd : (s.drives.toNat : Int) ≤ 5 := by unfold Shp.drives; omega
      have := Int.mul_le_mul hd e2 (cntDrv_nonneg _) (by omega)
      omega
    have e4 : sumI cntDrvs (List.replicate s.all.toNat (List.replicate s.drives.toNat (freshDrv s.rows.toNat))) ≤ 930 := by
      rw [sumI_replicate]
      have hd : (s.all.toNat : Int) ≤ 6 := by unfold Shp.all; omega
      have := Int.mul_le_mul hd e3 (cntDrvs_nonneg _) (by omega)
      omega
    have e5 : cntWld (newWld s) = sumI cntDrvs (List.replicate s.all.toNat (List.replicate s.drives.toNat (freshDrv s.rows.toNat))) + 0 + 2 := rfl
    show cntWld (newWld s) ≤ 1000
    omega
  · rw [cntZ]; omega
end Go.Proofs.YtphmpimgbmedbaaGreat

/- What is wrong with a world, in plain Lean. No function of the program in sight. -/
namespace Go.Proofs.YtphmpimgbmedbaaGreat
open Go.RowKit

def Blk.ok (b : Blk) : Prop := (0 ≤ b.stamp ∧ b.stamp ≤ 1000000000) ∧ b.bytes.length = 4
def Drv.okAt (s : Shp) (d : Drv) : Prop := (d.blocks.length : Int) = s.rows ∧ ∀ b ∈ d.blocks, b.ok
def GrpOk (s : Shp) (g : List Drv) : Prop := (g.length : Int) = s.drives ∧ ∀ d ∈ g, d.okAt s
def Wld.built (x : Wld) : Prop := (x.groups.length : Int) = x.shape.all ∧ ∀ g ∈ x.groups, GrpOk x.shape g
def Wld.onOk (x : Wld) : Prop := Apart (x.shape.all - 1) x.on ∧ (x.on.length : Int) ≤ x.shape.cap ∧ (x.on = [] ∨ x.down = false)
/-- the first fault of records -/
noncomputable def recsF (s : Shp) : List Rec → Int
  | [] => 0
  | r :: rs => if recV s r = 0 then recsF s rs else recV s r
noncomputable def tapsF (s : Shp) : List Tap → Int
  | [] => 0
  | t :: ts => if recsF s t.recs = 0 then tapsF s ts else recsF s t.recs
noncomputable def Wld.tapF (x : Wld) : Int :=
  if pb (∃ t ∈ x.tapes, 200 < t.recs.length) = true then 2 else if tapsF x.shape x.tapes = 0 then (if pb (∃ t ∈ x.tapes, t.wiped = true ∧ t.recs ≠ []) = true then 1 else 0) else tapsF x.shape x.tapes
def Wld.nums (x : Wld) : Prop := (0 ≤ x.writes ∧ x.writes ≤ 1000000000) ∧ (-1 ≤ x.stop ∧ x.stop ≤ 1000000000)
noncomputable def Wld.fault (x : Wld) : Int :=
  if pb x.shape.ok = true then
    if pb (x.built ∧ x.onOk ∧ x.tapes.length = 2) = true then
      if x.tapF = 0 then (if pb x.nums = true then 0 else 3) else x.tapF
    else 1
  else 3
theorem recsF_step {s : Shp} : ∀ {rs : List Rec} {k : Nat} {r : Rec}, (∀ (i : Nat) q, i < k → rs[i]? = some q → recV s q = 0) → rs[k]? = some r → recV s r ≠ 0 → recsF s rs = recV s r
  | [], k, r, _, h, _ => by simp at h
  | q :: qs, 0, r, _, h, hr => by simp at h; subst h; unfold recsF; rw [if_neg hr]
  | q :: qs, k + 1, r, h0, h, hr => by
    unfold recsF
    rw [if_pos (h0 0 q (by omega) rfl)]
    exact recsF_step (k := k) (fun i p hi hp => h0 (i + 1) p (by omega) hp) (by simpa using h) hr
theorem recsF_zero {s : Shp} : ∀ {rs : List Rec}, (∀ (i : Nat) q, rs[i]? = some q → recV s q = 0) → recsF s rs = 0
  | [], _ => rfl
  | q :: qs, h => by unfold recsF; rw [if_pos (h 0 q rfl)]; exact recsF_zero (fun i p hp => h (i + 1) p hp)
theorem tapsF_step {s : Shp} : ∀ {ts : List Tap} {k : Nat} {t : Tap}, (∀ (i : Nat) q, i < k → ts[i]? = some q → recsF s q.recs = 0) → ts[k]? = some t → recsF s t.recs ≠ 0 → tapsF s ts = recsF s t.recs
  | [], k, r, _, h, _ => by simp at h
  | q :: qs, 0, r, _, h, hr => by simp at h; subst h; unfold tapsF; rw [if_neg hr]
  | q :: qs, k + 1, r, h0, h, hr => by
    unfold tapsF
    rw [if_pos (h0 0 q (by omega) rfl)]
    exact tapsF_step (k := k) (fun i p hi hp => h0 (i + 1) p (by omega) hp) (by simpa using h) hr
theorem tapsF_zero {s : Shp} : ∀ {ts : List Tap}, (∀ (i : Nat) q, ts[i]? = some q → recsF s q.recs = 0) → tapsF s ts = 0
  | [], _ => rfl
  | q :: qs, h => by unfold tapsF; rw [if_pos (h 0 q rfl)]; exact tapsF_zero (fun i p hp => h (i + 1) p hp)
end Go.Proofs.YtphmpimgbmedbaaGreat

/- What the functions over a world hand back, in plain Lean. No function of the program in sight. -/
namespace Go.Proofs.YtphmpimgbmedbaaGreat
open Go.RowKit

/-- the fault, or that power is off -/
noncomputable def Wld.up (x : Wld) : Int := if x.fault = 0 then (if x.down = true then 9 else 0) else x.fault
def Wld.isGroup (x : Wld) (g : Int) : Prop := 0 ≤ g ∧ g ≤ x.shape.all - 1
def Wld.isDrive (x : Wld) (d : Int) : Prop := 0 ≤ d ∧ d ≤ x.shape.drives - 1
def Wld.isRow (x : Wld) (r : Int) : Prop := 0 ≤ r ∧ r ≤ x.shape.rows - 1
noncomputable def onR (x : Wld) (g : Int) : WRes :=
  if x.up ≠ 0 then ⟨x.up, zWld⟩ else if pb (x.isGroup g) = false then ⟨3, zWld⟩ else if pb (g ∈ x.on) = true then ⟨0, x⟩ else if (x.on.length : Int) = x.shape.cap then ⟨7, zWld⟩ else ⟨0, { x with on := x.on ++ [g] }⟩
noncomputable def offR (x : Wld) (g : Int) : WRes :=
  if x.up ≠ 0 then ⟨x.up, zWld⟩ else if pb (x.isGroup g) = false then ⟨3, zWld⟩ else if pb (g ∈ x.on) = false then ⟨8, zWld⟩ else ⟨0, { x with on := x.on.filter (fun y => y != g) }⟩
def zBlk0 : Blk := ⟨0, []⟩
def Wld.drive (x : Wld) (g d : Int) : Drv := (x.groups.getD g.toNat []).getD d.toNat ⟨false, []⟩
noncomputable def readR (x : Wld) (g d r : Int) : BRes :=
  if x.up ≠ 0 then ⟨x.up, zBlk0⟩ else if pb (x.isGroup g ∧ x.isDrive d ∧ x.isRow r) = false then ⟨3, zBlk0⟩ else if pb (g ∈ x.on) = false then ⟨8, zBlk0⟩ else
    if (x.drive g d).wiped = true then ⟨12, zBlk0⟩ else ⟨0, (x.drive g d).blocks.getD r.toNat zBlk0⟩
/-- the world behind the end of its power -/
def Wld.cut (x : Wld) : Wld := { x with down := true, on := [] }
def Wld.setDrive (x : Wld) (g d : Int) (y : Drv) : Wld := { x with groups := x.groups.set g.toNat ((x.groups.getD g.toNat []).set d.toNat y) }
def Wld.setTape (x : Wld) (t : Int) (y : Tap) : Wld := { x with tapes := x.tapes.set t.toNat y }
def Wld.tape (x : Wld) (t : Int) : Tap := x.tapes.getD t.toNat ⟨false, []⟩
/-- a raw write: power fails, or something is done -/
def Wld.raw (x : Wld) (f : Wld → Wld) : WRes := if x.stop ≠ -1 ∧ x.stop ≤ x.writes then ⟨9, x.cut⟩ else ⟨0, { f x with writes := x.writes + 1 }⟩
def Wld.setBlock (x : Wld) (g d r : Int) (b : Blk) : Wld := x.setDrive g d { x.drive g d with blocks := (x.drive g d).blocks.set r.toNat b }
noncomputable def writeR (x : Wld) (g d r : Int) (b : Blk) : WRes :=
  if x.up ≠ 0 then ⟨x.up, zWld⟩ else if pb (x.isGroup g ∧ x.isDrive d ∧ x.isRow r) = false then ⟨3, zWld⟩ else if pb b.ok = false then ⟨1, zWld⟩ else if pb (g ∈ x.on) = false then ⟨8, zWld⟩ else
    x.raw (fun x => x.setBlock g d r b)
noncomputable def trustR (x : Wld) (g d : Int) : WRes :=
  if x.up ≠ 0 then ⟨x.up, zWld⟩ else if pb (x.isGroup g ∧ x.isDrive d) = false then ⟨3, zWld⟩ else if pb (g ∈ x.on) = false then ⟨8, zWld⟩ else
    x.raw (fun x => x.setDrive g d { x.drive g d with wiped := false })
def isTape (t : Int) : Prop := 0 ≤ t ∧ t ≤ 1
noncomputable def appendR (x : Wld) (t : Int) (r : Rec) : WRes :=
  if x.up ≠ 0 then ⟨x.up, zWld⟩ else if pb (isTape t) = false then ⟨3, zWld⟩ else if recV x.shape r ≠ 0 then ⟨recV x.shape r, zWld⟩ else if (x.tape t).recs.length = 200 then ⟨2, zWld⟩ else
    x.raw (fun x => x.setTape t ⟨false, (x.tape t).recs ++ [r]⟩)
noncomputable def strikeR (x : Wld) (t k s : Int) : WRes :=
  if x.up ≠ 0 then ⟨x.up, zWld⟩ else if pb (isTape t) = false then ⟨3, zWld⟩ else
    x.raw (fun x => x.setTape t ⟨(x.tape t).wiped, (x.tape t).recs.filter (fun r => !(r.kind == k && r.seq == s))⟩)
noncomputable def wipeDR (x : Wld) (g d : Int) : WRes :=
  if x.fault ≠ 0 then ⟨x.fault, zWld⟩ else if pb (x.isGroup g ∧ x.isDrive d) = false then ⟨3, zWld⟩ else ⟨0, x.setDrive g d ⟨true, List.replicate x.shape.rows.toNat ⟨0, [0, 0, 0, 0]⟩⟩⟩
noncomputable def wipeTR (x : Wld) (t : Int) : WRes :=
  if x.fault ≠ 0 then ⟨x.fault, zWld⟩ else if pb (isTape t) = false then ⟨3, zWld⟩ else ⟨0, x.setTape t ⟨true, []⟩⟩
noncomputable def cutR (x : Wld) : WRes := if x.fault ≠ 0 then ⟨x.fault, zWld⟩ else ⟨0, x.cut⟩
noncomputable def raiseR (x : Wld) (stop : Int) : WRes :=
  if x.fault ≠ 0 then ⟨x.fault, zWld⟩ else if pb (-1 ≤ stop ∧ stop ≤ 1000000000) = false then ⟨3, zWld⟩ else if x.down = false then ⟨1, zWld⟩ else ⟨0, { x with down := false, writes := 0, stop := stop }⟩

/-! ### how much there is of it -/
theorem cntDrive_le (x : Wld) (g d : Int) : cntDrv (x.drive g d) ≤ cntWld x + 1 := by
  have h1 := sumI_getD_le cntDrv_nonneg (x.groups.getD g.toNat []) d.toNat ⟨false, []⟩
  have h2 := sumI_getD_le cntDrvs_nonneg x.groups g.toNat []
  have h3 : cntDrv ⟨false, []⟩ = 1 := rfl
  have h4 : cntDrvs [] = 0 := rfl
  have h5 := sumI_nonneg cntTap_nonneg x.tapes
  have h6 := totIs_nonneg x.on
  unfold Wld.drive cntWld
  unfold cntDrvs at h2 h4
  unfold cntDrvs
  omega
theorem cntSetDrive_le (x : Wld) (g d : Int) (y : Drv) : cntWld (x.setDrive g d y) ≤ 2 * cntWld x + cntDrv y := by
  have h1 := sumI_set_le cntDrvs_nonneg x.groups g.toNat ((x.groups.getD g.toNat []).set d.toNat y)
  have h2 := sumI_set_le cntDrv_nonneg (x.groups.getD g.toNat []) d.toNat y
  have h3 := sumI_getD_le cntDrvs_nonneg x.groups g.toNat []
  have h4 : cntDrvs [] = 0 := rfl
  have h5 := sumI_nonneg cntTap_nonneg x.tapes
  have h6 := totIs_nonneg x.on
  have h7 := sumI_nonneg cntDrvs_nonneg x.groups
  unfold cntWld Wld.setDrive
  simp only
  unfold cntDrvs at h1 h3 h4 h7 ⊢
  omega
theorem cntTape_le (x : Wld) (t : Int) : cntTap (x.tape t) ≤ cntWld x + 1 := by
  have h1 := sumI_getD_le cntTap_nonneg x.tapes t.toNat ⟨false, []⟩
  have h3 : cntTap ⟨false, []⟩ = 1 := rfl
  have h6 := totIs_nonneg x.on
  have h7 := sumI_nonneg cntDrvs_nonneg x.groups
  unfold Wld.tape cntWld
  omega
theorem cntSetTape_le (x : Wld) (t : Int) (y : Tap) : cntWld (x.setTape t y) ≤ cntWld x + cntTap y := by
  have h1 := sumI_set_le cntTap_nonneg x.tapes t.toNat y
  unfold cntWld Wld.setTape
  simp only
  omega
theorem cntCut_le (x : Wld) : cntWld x.cut ≤ cntWld x := by
  have h6 := totIs_nonneg x.on
  unfold cntWld Wld.cut
  simp only
  have : totIs ([] : List Int) = 0 := rfl
  omega
theorem cntRaw_le {x : Wld} {f : Wld → Wld} {n : Int} (h1 : cntWld x ≤ n) (h2 : cntWld (f x) ≤ n) : cntWld (x.raw f).world ≤ n := by
  unfold Wld.raw
  split
  · exact Int.le_trans (cntCut_le x) h1
  · exact h2
theorem cntOnR (x : Wld) (g : Int) : cntWld (onR x g).world ≤ cntWld x + 1 := by
  have h := cntWld_nonneg x
  unfold onR
  split
  · rw [cntZ]; omega
  split
  · rw [cntZ]; omega
  split
  · show cntWld x ≤ _; omega
  split
  · rw [cntZ]; omega
  · show cntWld { x with on := x.on ++ [g] } ≤ _
    unfold cntWld totIs
    simp only [List.length_append, List.length_singleton]
    omega
theorem cntOffR (x : Wld) (g : Int) : cntWld (offR x g).world ≤ cntWld x := by
  have h := cntWld_nonneg x
  unfold offR
  repeat' split
  all_goals first
    | (rw [cntZ]; omega)
    | skip
  have := List.length_filter_le (fun y => y != g) x.on
  unfold cntWld
  simp only [totIs]
  omega
theorem cntWriteR (x : Wld) (g d r : Int) (b : Blk) : cntWld (writeR x g d r b).world ≤ 3 * cntWld x + cntBlk b + 2 := by
  have h := cntWld_nonneg x
  have hb := cntBlk_nonneg b
  unfold writeR
  repeat' split
  all_goals first
    | (rw [cntZ]; omega)
    | skip
  refine cntRaw_le (by omega) ?_
  have h1 := cntSetDrive_le x g d { x.drive g d with blocks := (x.drive g d).blocks.set r.toNat b }
  have h2 := cntDrive_le x g d
  have h3 := sumI_set_le cntBlk_nonneg (x.drive g d).blocks r.toNat b
  have e1 : cntDrv { x.drive g d with blocks := (x.drive g d).blocks.set r.toNat b } = 1 + sumI cntBlk ((x.drive g d).blocks.set r.toNat b) := rfl
  have e2 : cntDrv (x.drive g d) = 1 + sumI cntBlk (x.drive g d).blocks := rfl
  unfold Wld.setBlock
  omega
theorem cntTrustR (x : Wld) (g d : Int) : cntWld (trustR x g d).world ≤ 3 * cntWld x + 2 := by
  have h := cntWld_nonneg x
  unfold trustR
  repeat' split
  all_goals first
    | (rw [cntZ]; omega)
    | skip
  refine cntRaw_le (by omega) ?_
  have h1 := cntSetDrive_le x g d { x.drive g d with wiped := false }
  have h2 := cntDrive_le x g d
  have e1 : cntDrv { x.drive g d with wiped := false } = cntDrv (x.drive g d) := rfl
  omega
theorem cntAppendR (x : Wld) (t : Int) (r : Rec) : cntWld (appendR x t r).world ≤ 2 * cntWld x + cntRec r + 2 := by
  have h := cntWld_nonneg x
  have hr := cntRec_nonneg r
  unfold appendR
  repeat' split
  all_goals first
    | (rw [cntZ]; omega)
    | skip
  refine cntRaw_le (by omega) ?_
  have h1 := cntSetTape_le x t ⟨false, (x.tape t).recs ++ [r]⟩
  have h2 := cntTape_le x t
  have e1 : cntTap ⟨false, (x.tape t).recs ++ [r]⟩ = 1 + sumI cntRec ((x.tape t).recs ++ [r]) := rfl
  have e2 : cntTap (x.tape t) = 1 + sumI cntRec (x.tape t).recs := rfl
  rw [sumI_append] at e1
  have e3 : sumI cntRec [r] = cntRec r := by simp [sumI]
  omega
theorem cntStrikeR (x : Wld) (t k s : Int) : cntWld (strikeR x t k s).world ≤ 2 * cntWld x + 2 := by
  have h := cntWld_nonneg x
  unfold strikeR
  repeat' split
  all_goals first
    | (rw [cntZ]; omega)
    | skip
  refine cntRaw_le (by omega) ?_
  have h1 := cntSetTape_le x t ⟨(x.tape t).wiped, (x.tape t).recs.filter (fun r => !(r.kind == k && r.seq == s))⟩
  have h2 := cntTape_le x t
  have h3 := sumI_filter_le cntRec_nonneg (fun r : Rec => !(r.kind == k && r.seq == s)) (x.tape t).recs
  have e1 : cntTap ⟨(x.tape t).wiped, (x.tape t).recs.filter (fun r => !(r.kind == k && r.seq == s))⟩ = 1 + sumI cntRec ((x.tape t).recs.filter (fun r => !(r.kind == k && r.seq == s))) := rfl
  have e2 : cntTap (x.tape t) = 1 + sumI cntRec (x.tape t).recs := rfl
  omega
theorem cntWipeTR (x : Wld) (t : Int) : cntWld (wipeTR x t).world ≤ cntWld x + 1 := by
  have h := cntWld_nonneg x
  unfold wipeTR
  repeat' split
  all_goals first
    | (rw [cntZ]; omega)
    | skip
  exact cntSetTape_le x t ⟨true, []⟩
theorem cntCutR (x : Wld) : cntWld (cutR x).world ≤ cntWld x := by
  have h := cntWld_nonneg x
  unfold cutR
  split
  · rw [cntZ]; omega
  · exact cntCut_le x
theorem cntRaiseR (x : Wld) (s : Int) : cntWld (raiseR x s).world ≤ cntWld x := by
  have h := cntWld_nonneg x
  unfold raiseR
  repeat' split
  all_goals first
    | (rw [cntZ]; omega)
    | exact Int.le_refl _
theorem rows_ok {x : Wld} (h : x.fault = 0) : x.shape.ok := by
  refine Classical.byContradiction (fun hn => ?_)
  unfold Wld.fault at h
  rw [pb_false hn] at h
  simp at h
theorem cntWipeDR (x : Wld) (g d : Int) : cntWld (wipeDR x g d).world ≤ 2 * cntWld x + 31 := by
  have h := cntWld_nonneg x
  unfold wipeDR
  split
  · rw [cntZ]; omega
  · rename_i hf
    split
    · rw [cntZ]; omega
    · have hok := rows_ok (by simpa using hf : x.fault = 0)
      have hr : x.shape.rows.toNat ≤ 6 := by have := hok.2.2.2.2.1; omega
      have h1 := cntSetDrive_le x g d ⟨true, List.replicate x.shape.rows.toNat ⟨0, [0, 0, 0, 0]⟩⟩
      have e1 : cntDrv ⟨true, List.replicate x.shape.rows.toNat ⟨0, [0, 0, 0, 0]⟩⟩ = 1 + sumI cntBlk (List.replicate x.shape.rows.toNat ⟨0, [0, 0, 0, 0]⟩) := rfl
      rw [sumI_replicate] at e1
      have e2 : cntBlk ⟨0, [0, 0, 0, 0]⟩ = 5 := rfl
      rw [e2] at e1
      show cntWld (x.setDrive g d _) ≤ _
      omega
end Go.Proofs.YtphmpimgbmedbaaGreat
