
/- What the functions over a world hand back: a code and a world, a new world. No function of the program in sight. -/
import Derived.Test.YtcejdmggacjnoaaWhS
import Derived.Test.YtcejdmggacjnoaaRfb
namespace Go.Proofs.Ytcejdmggacjnoaa
open Go.RowKit

/-- a code and a world -/
structure WRes where
  code : Int
  world : Wld
def zShp : Shp := ⟨0, 0, 0, 0, 0, 0, 0, 0, 0⟩
def zWld : Wld := ⟨zShp, [], [], [], 0, 0, false⟩
def wrsL : Lay WRes := (intL.pair wldL).via (fun x => (x.code, x.world))
theorem wrsL_iff {w : World} {cs : List Value} {x : WRes} {fp : List Nat} : wrsL.rep w cs x fp ↔ ∃ c, cs = .int .i64 x.code :: c ∧ i64ok x.code ∧ wldL.rep w c x.world fp := by
  constructor
  · rintro ⟨_, c, _, f, rfl, rfl, ⟨rfl, h1, rfl⟩, h2⟩
    exact ⟨c, rfl, h1, h2⟩
  · rintro ⟨c, rfl, h1, h2⟩
    exact ⟨[_], c, [], fp, rfl, rfl, ⟨rfl, h1, rfl⟩, h2⟩
structure BRes where
  code : Int
  block : Blk
def brsL : Lay BRes := (intL.pair blkL).via (fun x => (x.code, x.block))
theorem brsL_iff {w : World} {cs : List Value} {x : BRes} {fp : List Nat} : brsL.rep w cs x fp ↔ ∃ c, cs = .int .i64 x.code :: c ∧ i64ok x.code ∧ blkL.rep w c x.block fp := by
  constructor
  · rintro ⟨_, c, _, f, rfl, rfl, ⟨rfl, h1, rfl⟩, h2⟩
    exact ⟨c, rfl, h1, h2⟩
  · rintro ⟨c, rfl, h1, h2⟩
    exact ⟨[_], c, [], fp, rfl, rfl, ⟨rfl, h1, rfl⟩, h2⟩

def freshDrv (n : Nat) : Drv := ⟨false, List.replicate n ⟨0, [0, 0, 0, 0]⟩⟩
def newWld (s : Shp) : Wld := ⟨s, List.replicate s.all.toNat (List.replicate s.drives.toNat (freshDrv s.rows.toNat)), [], [⟨false, []⟩, ⟨false, []⟩], 0, -1, false⟩
def newR (s : Shp) : WRes := if s.fault = 0 then ⟨0, newWld s⟩ else ⟨s.fault, zWld⟩

/-! ### how much there is of it -/
section
variable {α : Type} {f : α → Int}
theorem sumI_set_le (hf : ∀ x, 0 ≤ f x) : ∀ (xs : List α) (i : Nat) (y : α), sumI f (xs.set i y) ≤ sumI f xs + f y
  | [], i, y => by have := hf y; simp [sumI]; omega
  | x :: xs, 0, y => by have := hf x; simp only [List.set_cons_zero, sumI]; omega
  | x :: xs, i + 1, y => by have := sumI_set_le hf xs i y; simp only [List.set_cons_succ, sumI]; omega
theorem sumI_filter_le (hf : ∀ x, 0 ≤ f x) (p : α → Bool) : ∀ (xs : List α), sumI f (xs.filter p) ≤ sumI f xs
  | [] => Int.le_refl _
  | x :: xs => by
    have := sumI_filter_le hf p xs
    have := hf x
    rw [List.filter_cons]
    split
    · simp only [sumI]; omega
    · simp only [sumI]; omega
theorem sumI_getD_le (hf : ∀ x, 0 ≤ f x) (xs : List α) (i : Nat) (d : α) : f (xs.getD i d) ≤ sumI f xs + f d := by
  have h1 := sumI_nonneg hf xs
  have h2 := hf d
  rw [List.getD_eq_getElem?_getD]
  cases h : xs[i]? with
  | none => show f d ≤ _; omega
  | some x => have := sumI_mem hf (List.mem_of_getElem? h); show f x ≤ _; omega
theorem sumI_replicate (n : Nat) (x : α) : sumI f (List.replicate n x) = n * f x := by
  induction n with
  | zero => simp [sumI]
  | succ n ih => rw [List.replicate_succ]; simp only [sumI]; rw [ih, Int.natCast_succ, Int.add_mul]; omega
end
theorem cntZ : cntWld zWld = 0 := rfl
theorem shp_fault0 {s : Shp} (h : s.fault = 0) : s.ok := by
  unfold Shp.fault at h
  split at h
  · assumption
  · omega
theorem cntNewR (s : Shp) : cntWld (newR s).world ≤ 1000 := by
  unfold newR
  split
  · rename_i h
    have hok := shp_fault0 h
    obtain ⟨⟨h1, h2⟩, ⟨h3, h4⟩, ⟨h5, h6⟩, ⟨h7, h8⟩, ⟨h9, h10⟩, _⟩ := hok
    have e1 : cntBlk ⟨0, [0, 0, 0, 0]⟩ = 5 := rfl
    have e2 : cntDrv (freshDrv s.rows.toNat) ≤ 31 := by
      have : cntDrv (freshDrv s.rows.toNat) = 1 + sumI cntBlk (List.replicate s.rows.toNat ⟨0, [0, 0, 0, 0]⟩) := rfl
      rw [sumI_replicate, e1] at this
      omega
    have e3 : cntDrvs (List.replicate s.drives.toNat (freshDrv s.rows.toNat)) ≤ 155 := by
      unfold cntDrvs
      rw [sumI_replicate]
      have hd : (s.drives.toNat : Int) ≤ 5 := by unfold Shp.drives; omega
      have := Int.mul_le_mul hd e2 (cntDrv_nonneg _) (by omega)
      omega
    have e4 : sumI cntDrvs (List.replicate s.all.toNat (List.replicate s.drives.toNat (freshDrv s.rows.toNat))) ≤ 930 := by
      rw [sumI_replicate]
      have hd : (s.all.toNat : Int) ≤ 6 := by unfold Shp.all; omega
      have := Int.mul_le_mul hd e3 (cntDrvs_nonneg _) (by omega)
      omega
    have e5 : cntWld (newWld s) = sumI cntDrvs (List.replicate s.all.toNat (List.replicate s.drives.toNat (freshDrv s.rows.toNat))) + 0 + 2 := rfl
    show cntWld (newWld s) ≤ 1000
    omega
  · rw [cntZ]; omega
end Go.Proofs.Ytcejdmggacjnoaa
