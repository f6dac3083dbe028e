
/- Any so many lists of a column as there are groups tell all: shown by counting. No function of the program in sight. -/
import Derived.Test.YtjnclggpaekdfaaGth
import Derived.Test.YtjnclggpaekdfaaEnc
namespace Go.Proofs.Ytjnclggpaekdfaa
open Go.RowKit

/-- the weights of lists, as rows: a row for each group -/
def colR (n : Nat) (base : Int) (ks : List Int) : List (List UInt8) := (List.range n).map (fun i => ks.map (fun k => genAt n k base i))
theorem colR_length (n : Nat) (base : Int) (ks : List Int) : (colR n base ks).length = n := by simp [colR]
theorem colR_at {n : Nat} {base : Int} {ks : List Int} {i : Nat} (h : i < n) : (colR n base ks)[i]? = some (ks.map (fun k => genAt n k base i)) := by
  unfold colR; rw [List.getElem?_map, List.getElem?_range h]; rfl
theorem colR_wide (n : Nat) (base : Int) (ks : List Int) : Wide ks.length (colR n base ks) := by
  intro x hx
  unfold colR at hx
  obtain ⟨i, _, rfl⟩ := List.mem_map.1 hx
  simp

/-! ### the same, with inverses out of a table -/
def invT (a : UInt8) : UInt8 := Fld.tab.getD a.toNat 0
theorem invT_mul (a : UInt8) (h : a ≠ 0) : Fld.mul a (invT a) = 1 := by
  revert h; revert a
  exact Fld.u8_all (by decide +kernel)
theorem inv_eq : Fld.inv = invT := by
  funext a
  by_cases h : a = 0
  · subst h; unfold Fld.inv; rw [Fld.pw_zero 254 (by omega)]; decide +kernel
  · have h1 := invT_mul a h
    have h2 := Fld.mul_inv a h
    have h3 : Fld.mul (Fld.inv a) (Fld.mul a (invT a)) = Fld.inv a := by rw [h1, Fld.mul_one]
    rw [← Fld.mul_assoc, Fld.mul_comm (Fld.inv a) a, h2, Fld.one_mul] at h3
    exact h3.symm
def leadT (rows : List (List UInt8)) (p c : Nat) : List UInt8 := scaleL (rows.getD p []) (invT (cel rows p c))
def stepT (rows : List (List UInt8)) (rank c p : Nat) : List (List UInt8) := elimR (prep rows rank p (leadT rows p c)) rank c (leadT rows p c)
def gstepT (s : List (List UInt8) × Nat) (c : Nat) : List (List UInt8) × Nat := if fnd s.1 c s.2 < s.1.length then (stepT s.1 s.2 c (fnd s.1 c s.2), s.2 + 1) else s
def gaussT (n : Nat) (rows : List (List UInt8)) : List (List UInt8) × Nat := (List.range n).foldl gstepT (rows, 0)
theorem gaussT_eq (n : Nat) (rows : List (List UInt8)) : gauss n rows = gaussT n rows := by
  have h1 : lead = leadT := by funext rows p c; unfold lead leadT; rw [inv_eq]
  have h2 : stepAt = stepT := by funext rows a b c; unfold stepAt stepT; rw [h1]
  have h3 : gstep = gstepT := by funext s c; unfold gstep gstepT; rw [h2]
  unfold gauss gaussT; rw [h3]
def cauT8 (j i : Int) : UInt8 := invT (UInt8.ofNat (128 + j).toNat ^^^ UInt8.ofNat i.toNat)
def genT (n : Nat) (p : Int) (i : Nat) : UInt8 := if (n : Int) ≤ p then cauT8 (8 + p - n) i else if (i : Int) = p then 1 else 0
theorem genT_eq (n : Nat) (p : Int) (i : Nat) : genAt n p 8 i = genT n p i := by unfold genAt genT cau cauT8; rw [inv_eq]
def colT (n : Nat) (ks : List Int) : List (List UInt8) := (List.range n).map (fun i => ks.map (fun k => genT n k i))
theorem colT_eq (n : Nat) (ks : List Int) : colR n 8 ks = colT n ks := by
  unfold colR colT
  congr 1; funext i; congr 1; funext k; exact genT_eq n k i
def full (n : Nat) (ks : List Int) : Bool := (gaussT n (colT n ks)).2 == n
theorem full1 : ∀ a : Fin 3, full 1 [(a.val : Int)] = true := by decide +kernel
theorem full2 : ∀ a b : Fin 4, a < b → full 2 [(a.val : Int), (b.val : Int)] = true := by decide +kernel
theorem full3 : ∀ a b c : Fin 5, a < b → b < c → full 3 [(a.val : Int), (b.val : Int), (c.val : Int)] = true := by decide +kernel
theorem full4 : ∀ a b c d : Fin 6, a < b → b < c → c < d → full 4 [(a.val : Int), (b.val : Int), (c.val : Int), (d.val : Int)] = true := by decide +kernel

/-- numbers that rise, from 0 below most -/
def Ris (most : Int) (ks : List Int) : Prop := (∀ k ∈ ks, 0 ≤ k ∧ k < most) ∧ ks.Pairwise (· < ·)
theorem fin_of {m : Nat} {k : Int} (h : 0 ≤ k ∧ k < m) : ∃ a : Fin m, k = (a.val : Int) := ⟨⟨k.toNat, by omega⟩, by show k = ((k.toNat : Nat) : Int); omega⟩
theorem rises_full {n : Nat} {ks : List Int} (h1 : 1 ≤ n) (h4 : n ≤ 4) (hl : ks.length = n) {most : Int} (hm : most ≤ n + 2) (hr : Ris most ks) : (gauss n (colR n 8 ks)).2 = n := by
  have key : full n ks = true := by
    obtain ⟨hb, hp⟩ := hr
    have hb' : ∀ k ∈ ks, 0 ≤ k ∧ k < ((n + 2 : Nat) : Int) := fun k hk => ⟨(hb k hk).1, by have := (hb k hk).2; omega⟩
    match n, ks, hl with
    | 1, [a], _ =>
      obtain ⟨a, rfl⟩ := fin_of (hb' a (by simp))
      exact full1 a
    | 2, [a, b], _ =>
      obtain ⟨a, rfl⟩ := fin_of (hb' a (by simp)); obtain ⟨b, rfl⟩ := fin_of (hb' b (by simp))
      simp at hp
      exact full2 a b hp
    | 3, [a, b, c], _ =>
      obtain ⟨a, rfl⟩ := fin_of (hb' a (by simp)); obtain ⟨b, rfl⟩ := fin_of (hb' b (by simp)); obtain ⟨c, rfl⟩ := fin_of (hb' c (by simp))
      simp at hp
      exact full3 a b c hp.1.1 hp.2
    | 4, [a, b, c, d], _ =>
      obtain ⟨a, rfl⟩ := fin_of (hb' a (by simp)); obtain ⟨b, rfl⟩ := fin_of (hb' b (by simp)); obtain ⟨c, rfl⟩ := fin_of (hb' c (by simp)); obtain ⟨d, rfl⟩ := fin_of (hb' d (by simp))
      simp at hp
      exact full4 a b c d hp.1.1 hp.2.1.1 hp.2.2
    | 0, _, _ => omega
    | n + 5, _, _ => omega
  unfold full at key
  rw [gaussT_eq, colT_eq]
  simpa using key
/-- the weights by which lists that are there come to a list that is wanted -/
theorem wts_some {n : Nat} {ks : List Int} (h1 : 1 ≤ n) (h4 : n ≤ 4) (hl : ks.length = n) {most : Int} (hm : most ≤ n + 2) (hr : Ris most ks) (p : Int) :
    ∃ x, solV (colR n 8 ks) (genL n p 8) = some x ∧ x.length = n ∧ ∀ i, i < n → lin (ks.map (fun k => genAt n k 8 i)) x = genAt n p 8 i := by
  have hw : Wide (colR n 8 ks).length (colR n 8 ks) := by rw [colR_length, ← hl]; rw [hl]; exact hl ▸ colR_wide ks.length 8 ks
  have hgl : (genL n p 8).length = (colR n 8 ks).length := by rw [genL_length, colR_length]
  have hrk := solved_rank hw hgl
  rw [colR_length, rises_full h1 h4 hl hm hr] at hrk
  obtain ⟨x, hx⟩ : ∃ x, solV (colR n 8 ks) (genL n p 8) = some x := by
    unfold solV
    rw [if_neg (by rw [hrk, colR_length]; omega)]
    exact ⟨_, rfl⟩
  obtain ⟨hxl, hs⟩ := solV_sound hw hgl hx
  refine ⟨x, hx, by rw [hxl, colR_length], fun i hi => hs i _ _ (colR_at hi) ?_⟩
  unfold genL; rw [List.getElem?_map, List.getElem?_range hi]; rfl
def wtsL (n : Nat) (ks : List Int) (p : Int) : List UInt8 := (solV (colR n 8 ks) (genL n p 8)).getD []
end Go.Proofs.Ytjnclggpaekdfaa
