import Derived.Test.YtphmpimgbmedbaaGreatMd
import Derived.Test.YtphmpimgbmedbaaGreatBssM
import Derived.Test.YtphmpimgbmedbaaGreatMk
/- Measures and marks of plain data. No function of the program in sight. -/
namespace Go.Proofs.YtphmpimgbmedbaaGreat
open Go.RowKit

def sumI {α : Type} (f : α → Int) : List α → Int
  | [] => 0
  | x :: xs => f x + sumI f xs
section
variable {α : Type} {f : α → Int}
theorem sumI_nonneg (hf : ∀ x, 0 ≤ f x) : ∀ xs, 0 ≤ sumI f xs
  | [] => Int.le_refl _
  | x :: xs => by have := sumI_nonneg hf xs; have := hf x; show 0 ≤ f x + sumI f xs; omega
theorem sumI_append (xs ys : List α) : sumI f (xs ++ ys) = sumI f xs + sumI f ys := by
  induction xs with
  | nil => simp [sumI]
  | cons x xs ih => simp [sumI, ih]; omega
theorem sumI_take {xs : List α} {i : Nat} {x : α} (h : xs[i]? = some x) : sumI f (xs.take (i + 1)) = sumI f (xs.take i) + f x := by
  rw [take_next h, sumI_append]; simp [sumI]
theorem sumI_take_le (hf : ∀ x, 0 ≤ f x) (xs : List α) (i : Nat) : sumI f (xs.take i) ≤ sumI f xs := by
  have := sumI_append (f := f) (xs.take i) (xs.drop i)
  rw [List.take_append_drop] at this
  have := sumI_nonneg hf (xs.drop i)
  omega
theorem sumI_mem (hf : ∀ x, 0 ≤ f x) {xs : List α} {x : α} (h : x ∈ xs) : f x ≤ sumI f xs := by
  obtain ⟨a, b, rfl⟩ := List.append_of_mem h
  rw [sumI_append]
  have := sumI_nonneg hf a; have := sumI_nonneg hf b
  show f x ≤ sumI f a + (f x + sumI f b)
  omega
theorem sumI_at (hf : ∀ x, 0 ≤ f x) {xs : List α} {i : Nat} {x : α} (h : xs[i]? = some x) : sumI f (xs.take i) + f x ≤ sumI f xs := by
  rw [← sumI_take h]; exact sumI_take_le hf _ _
theorem sumI_mono {g : α → Int} (h : ∀ x, f x ≤ g x) : ∀ xs, sumI f xs ≤ sumI g xs
  | [] => Int.le_refl _
  | x :: xs => by have := sumI_mono h xs; have := h x; show f x + sumI f xs ≤ g x + sumI g xs; omega
theorem sumI_add {g : α → Int} : ∀ xs, sumI (fun x => f x + g x) xs = sumI f xs + sumI g xs
  | [] => rfl
  | x :: xs => by have := sumI_add (g := g) xs; show f x + g x + sumI _ xs = f x + sumI f xs + (g x + sumI g xs); omega
theorem sumI_const (c : Int) : ∀ xs : List α, sumI (fun _ => c) xs = c * xs.length
  | [] => by simp [sumI]
  | x :: xs => by have := sumI_const c xs; show c + sumI _ xs = c * ((xs.length + 1 : Nat) : Int); rw [this, Int.natCast_add, Int.mul_add]; omega
theorem sumI_mul (c : Int) : ∀ xs : List α, sumI (fun x => c * f x) xs = c * sumI f xs
  | [] => by simp [sumI]
  | x :: xs => by have := sumI_mul c xs; show c * f x + sumI _ xs = c * (f x + sumI f xs); rw [this, Int.mul_add]
def totL (f : α → Int) (xs : List α) : Int := xs.length + sumI f xs
theorem totL_nonneg (hf : ∀ x, 0 ≤ f x) (xs : List α) : 0 ≤ totL f xs := by have := sumI_nonneg hf xs; unfold totL; omega
theorem totL_mem (hf : ∀ x, 0 ≤ f x) {xs : List α} {x : α} (h : x ∈ xs) : f x ≤ totL f xs := by have := sumI_mem hf h; unfold totL; omega
theorem totL_len (hf : ∀ x, 0 ≤ f x) (xs : List α) : (xs.length : Int) ≤ totL f xs := by have := sumI_nonneg hf xs; unfold totL; omega
end

/-! ### how much there is -/
def totBs (xs : List UInt8) : Int := xs.length
def totIs (xs : List Int) : Int := xs.length
def totBlk (x : Blk) : Int := totBs x.bytes
def totDrv (x : Drv) : Int := totL totBlk x.blocks
def totRec (x : Rec) : Int := (x.name.size : Int) + totIs x.rows + totBs x.data + totBs x.delta
def totTap (x : Tap) : Int := totL totRec x.recs
def totWld (x : Wld) : Int := totL (totL totDrv) x.groups + totIs x.on + totL totTap x.tapes
theorem totBs_nonneg (x : List UInt8) : 0 ≤ totBs x := Int.natCast_nonneg _
theorem totIs_nonneg (x : List Int) : 0 ≤ totIs x := Int.natCast_nonneg _
theorem totBlk_nonneg (x : Blk) : 0 ≤ totBlk x := totBs_nonneg _
theorem totDrv_nonneg (x : Drv) : 0 ≤ totDrv x := totL_nonneg totBlk_nonneg _
theorem totRec_nonneg (x : Rec) : 0 ≤ totRec x := by have := totIs_nonneg x.rows; have := totBs_nonneg x.data; have := totBs_nonneg x.delta; unfold totRec; omega
theorem totTap_nonneg (x : Tap) : 0 ≤ totTap x := totL_nonneg totRec_nonneg _
theorem totWld_nonneg (x : Wld) : 0 ≤ totWld x := by have := totL_nonneg (totL_nonneg totDrv_nonneg) x.groups; have := totIs_nonneg x.on; have := totL_nonneg totTap_nonneg x.tapes; unfold totWld; omega

/-! ### marks -/
section
variable {α : Type} {cnt : α → Int} {mk : Int → α → α}
def markL (cnt : α → Int) (mk : Int → α → α) : List α → Int → List α
  | [], _ => []
  | x :: xs, k => mk k x :: markL cnt mk xs (k + cnt x)
theorem markL_length : ∀ (xs : List α) (k : Int), (markL cnt mk xs k).length = xs.length
  | [], _ => rfl
  | x :: xs, k => by simp [markL, markL_length xs]
theorem markL_append (xs ys : List α) : ∀ k, markL cnt mk (xs ++ ys) k = markL cnt mk xs k ++ markL cnt mk ys (k + sumI cnt xs) := by
  induction xs with
  | nil => intro k; simp [markL, sumI]
  | cons x xs ih => intro k; simp [markL, sumI, ih, Int.add_assoc]
theorem markL_next {xs : List α} {i : Nat} {x : α} (k : Int) (h : xs[i]? = some x) :
    (markL cnt mk (xs.take i) k ++ xs.drop i).set i (mk (k + sumI cnt (xs.take i)) x) = markL cnt mk (xs.take (i + 1)) k ++ xs.drop (i + 1) := by
  have hi := (List.getElem?_eq_some_iff.1 h).1
  have hl : (markL cnt mk (xs.take i) k).length = i := by rw [markL_length, List.length_take]; omega
  rw [List.set_append_right _ _ (by omega), hl, Nat.sub_self, List.drop_eq_getElem_cons hi, List.set_cons_zero, take_next h, markL_append]
  have e : xs[i] = x := (List.getElem?_eq_some_iff.1 h).2
  simp [markL]
theorem markL_old {xs : List α} {i : Nat} {x : α} {k : Int} (h : (markL cnt mk (xs.take i) k ++ xs.drop i)[i]? = some x) : xs[i]? = some x := by
  have hi : i < xs.length := by
    have := (List.getElem?_eq_some_iff.1 h).1
    rw [List.length_append, markL_length, List.length_take, List.length_drop] at this
    omega
  have hl : (markL cnt mk (xs.take i) k).length = i := by rw [markL_length, List.length_take]; omega
  rw [List.getElem?_append_right (by omega), hl, List.getElem?_drop] at h
  simpa using h
theorem markL_at {xs : List α} : ∀ {i : Nat} {y : α} {k : Int}, (markL cnt mk xs k)[i]? = some y → ∃ x, xs[i]? = some x ∧ y = mk (k + sumI cnt (xs.take i)) x := by
  induction xs with
  | nil => intro i y k h; simp [markL] at h
  | cons x xs ih =>
    intro i y k h
    cases i with
    | zero => simp [markL] at h; exact ⟨x, by simp, by simp [sumI, h]⟩
    | succ i =>
      simp only [markL, List.getElem?_cons_succ] at h
      obtain ⟨z, h1, h2⟩ := ih h
      exact ⟨z, by simpa using h1, by rw [h2]; simp [sumI, Int.add_assoc]⟩
end

/-- the letter m and the digits of a number -/
def mdigits : Nat → Nat → ByteArray → ByteArray
  | 0, _, out => out
  | n + 1, k, out => if k = 0 then out else mdigits n (k / 10) (ByteArray.mk #[(UInt8.ofNat (48 + k % 10))] ++ out)

def cntBlk (x : Blk) : Int := 1 + totBs x.bytes
def cntDrv (x : Drv) : Int := 1 + sumI cntBlk x.blocks
def cntDrvs (xs : List Drv) : Int := sumI cntDrv xs
def cntRec (x : Rec) : Int := 6 + totIs x.rows + totBs x.data + totBs x.delta
def cntTap (x : Tap) : Int := 1 + sumI cntRec x.recs
theorem cntBlk_nonneg (x : Blk) : 0 ≤ cntBlk x := by have := totBs_nonneg x.bytes; unfold cntBlk; omega
theorem cntDrv_nonneg (x : Drv) : 0 ≤ cntDrv x := by have := sumI_nonneg cntBlk_nonneg x.blocks; unfold cntDrv; omega
theorem cntDrvs_nonneg (x : List Drv) : 0 ≤ cntDrvs x := sumI_nonneg cntDrv_nonneg x
theorem cntRec_nonneg (x : Rec) : 0 ≤ cntRec x := by have := totIs_nonneg x.rows; have := totBs_nonneg x.data; have := totBs_nonneg x.delta; unfold cntRec; omega
theorem cntTap_nonneg (x : Tap) : 0 ≤ cntTap x := by have := sumI_nonneg cntRec_nonneg x.recs; unfold cntTap; omega
def cntWld (x : Wld) : Int := sumI cntDrvs x.groups + totIs x.on + sumI cntTap x.tapes
theorem cntWld_nonneg (x : Wld) : 0 ≤ cntWld x := by have := sumI_nonneg cntDrvs_nonneg x.groups; have := totIs_nonneg x.on; have := sumI_nonneg cntTap_nonneg x.tapes; unfold cntWld; omega

theorem sum_cntBlk (xs : List Blk) : sumI cntBlk xs = totL totBlk xs := by
  have h := sumI_add (f := fun _ : Blk => 1) (g := totBlk) xs
  have h2 := sumI_const (α := Blk) 1 xs
  unfold totL
  show sumI (fun x => 1 + totBlk x) xs = _
  omega
theorem cntDrv_eq (x : Drv) : cntDrv x = 1 + totDrv x := by unfold cntDrv totDrv; rw [sum_cntBlk]
theorem sum_cntDrv (xs : List Drv) : sumI cntDrv xs = totL totDrv xs := by
  have h := sumI_add (f := fun _ : Drv => 1) (g := totDrv) xs
  have h2 := sumI_const (α := Drv) 1 xs
  have h3 : sumI cntDrv xs = sumI (fun x => 1 + totDrv x) xs := by congr 1; funext x; exact cntDrv_eq x
  unfold totL
  omega
theorem sum_cntDrvs (xs : List (List Drv)) : sumI cntDrvs xs ≤ totL (totL totDrv) xs := by
  have h3 : sumI cntDrvs xs = sumI (totL totDrv) xs := by congr 1; funext x; exact sum_cntDrv x
  unfold totL at h3 ⊢
  omega
theorem sum_cntRec (xs : List Rec) : sumI cntRec xs ≤ 6 * totL totRec xs := by
  have h := sumI_add (f := fun _ : Rec => 6) (g := totRec) xs
  have h2 := sumI_const (α := Rec) 6 xs
  have h3 : sumI cntRec xs ≤ sumI (fun x => 6 + totRec x) xs := sumI_mono (fun x => by unfold cntRec totRec; omega) xs
  have h4 := sumI_nonneg totRec_nonneg xs
  unfold totL
  omega
theorem sum_cntTap (xs : List Tap) : sumI cntTap xs ≤ 6 * totL totTap xs := by
  have h := sumI_add (f := fun _ : Tap => 1) (g := fun x => 6 * totTap x) xs
  have h2 := sumI_const (α := Tap) 1 xs
  have h3 : sumI cntTap xs ≤ sumI (fun x => 1 + 6 * totTap x) xs := sumI_mono (fun x => by have := sum_cntRec x.recs; unfold cntTap totTap; omega) xs
  have h5 := sumI_mul (f := totTap) 6 xs
  unfold totL
  omega
theorem cntWld_le (x : Wld) : cntWld x ≤ 6 * totWld x := by
  have := sum_cntDrvs x.groups; have := sum_cntTap x.tapes; have := totL_nonneg (totL_nonneg totDrv_nonneg) x.groups
  have := totIs_nonneg x.on
  unfold cntWld totWld; omega

def mtext (k : Int) : ByteArray := if k ≤ 0 then ByteArray.mk #[109, 48] else ByteArray.mk #[109] ++ mdigits 20 k.toNat (ByteArray.mk #[])
def mkBlk (k : Int) (x : Blk) : Blk := ⟨k, markBL (k + 1) x.bytes.length⟩
def mkDrv (k : Int) (x : Drv) : Drv := ⟨k % 3 == 0, markL cntBlk mkBlk x.blocks (k + 1)⟩
def mkDrvs (k : Int) (xs : List Drv) : List Drv := markL cntDrv mkDrv xs k
def mkRec (k : Int) (x : Rec) : Rec := ⟨k, k + 1, mtext (k + 2), k + 3, k + 4, k + 5, markIL (k + 6) x.rows.length, markBL (k + 6 + totIs x.rows) x.data.length, markBL (k + 6 + totIs x.rows + totBs x.data) x.delta.length⟩
def mkTap (k : Int) (x : Tap) : Tap := ⟨k % 3 == 0, markL cntRec mkRec x.recs (k + 1)⟩
/-- the marks of a value: of what lies behind it, not of its own fields -/
def mvBlk (k : Int) (x : Blk) : Blk := ⟨x.stamp, markBL k x.bytes.length⟩
def mvRec (k : Int) (x : Rec) : Rec := ⟨x.kind, x.seq, x.name, x.length, x.group, x.row, markIL k x.rows.length, markBL (k + totIs x.rows) x.data.length, markBL (k + totIs x.rows + totBs x.data) x.delta.length⟩
def mvWld (k : Int) (x : Wld) : Wld := ⟨x.shape, markL cntDrvs mkDrvs x.groups k, markIL (k + sumI cntDrvs x.groups) x.on.length, markL cntTap mkTap x.tapes (k + sumI cntDrvs x.groups + totIs x.on), x.writes, x.stop, x.down⟩
def cvRec (x : Rec) : Int := totIs x.rows + totBs x.data + totBs x.delta
theorem cvRec_nonneg (x : Rec) : 0 ≤ cvRec x := by have := totIs_nonneg x.rows; have := totBs_nonneg x.data; have := totBs_nonneg x.delta; unfold cvRec; omega



end Go.Proofs.YtphmpimgbmedbaaGreat
