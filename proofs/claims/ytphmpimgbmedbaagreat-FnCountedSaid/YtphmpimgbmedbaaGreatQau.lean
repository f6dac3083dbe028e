/- Several texts in one. -/
import Derived.Test.YtphmpimgbmedbaaGreatQar
set_option maxRecDepth 100000
set_option maxHeartbeats 8000000
namespace Go.Proofs.YtphmpimgbmedbaaGreat
open Go.RowKit
open Go.Lib (hid)
theorem apart_bad {m : Int} {xs : List Int} {k : Nat} {n : Int} (hn : xs[k]? = some n) (h : ¬ ((0 ≤ n ∧ n ≤ m) ∧ n ∉ xs.take k)) : ¬ q2o m xs := fun ha => h (ha k n hn)
theorem q5d (x : Wld) (hs : x.sH.ok) (cx : Array Value) (fx : List Nat) (w : World) (hx : wldL.rep w cx.toList x fx) :
  Calls Tryz.prog 145 #[.agg cx] w fun e w' => e = .returned (.bool (pb x.onOk)) ∧ Chg [] w w' := by
 obtain ⟨a10, l10, c10, f10, a11, l11, c11, f11, a12, l12, c12, f12, ex, o1, o2, o3, o4, o5, o6, o7, o8, o9, h10, h11, h12, o13, o14, -⟩ := q1a.1 hx
 clear o1 o2 o3 o4 o5 o6 o7 o8 o9
 obtain rfl := Array.toList_inj.1 (ex.trans (List.toList_toArray).symm)
 clear ex
 have q10 := drvL.slice.sl_max h10; have q11 := intL.sl_max h11; have q12 := tapL.sl_max h12
 have H10 := hid h10; have H11 := hid h11; have H12 := hid h12
 have HX := hid hx
 have Z10 := hid h10.1; have Z11 := hid h11.1; have Z12 := hid h12.1
 clear h10 h11 h12 hx
 have hal := hs.all
 have HS := hid hs
 clear hs
 have HC : Hid (Chg [] w w) := Chg.refl _ _
 go_enter Tryz.func145, Tryz.ntmps145
 go_wp2_with fail
 go_loopw [8] (fun i wr => ∃ (k : Nat) (Wr : World), Wr = wr ∧ k ≤ l11 ∧ i = .int .i64 k ∧ Hid (q2d (x.sH.all - 1) x.on k) ∧ Chg [] w wr ∧ wr.heap[w.heap.size]? = some (.cells #[.int .i64 x.sH.gS, .int .i64 x.sH.cM, .int .i64 x.sH.data, .int .i64 x.sH.spare, .int .i64 x.sH.rows, .int .i64 x.sH.cap, .int .i64 x.sH.bT, .int .i64 x.sH.qU, .int .i64 x.sH.sG, .slice a10 l10 c10, .slice a11 l11 c11, .slice a12 l12 c12, .int .i64 x.wT, .int .i64 x.stop, .bool x.down] 34 (0, 0))) (fun i _ => l11 - (intOf i).toNat)
 case atStart => exact ⟨0, _, rfl, by omega, rfl, q2d.zero _ _, (Chg.alloc HC.out _), (by exact q0e (by simp) _)⟩
 case round =>
  clear HC
  obtain ⟨k, w1, rfl, hk, rfl, HPk, hc, hbW⟩ := hrel
  have cW := cellsOf hbW; have lW := ltOf hbW; have HBW := hid hbW; clear hbW
  have HC := hid hc; clear hc
  by_cases hlt : k < l11
  rotate_left
  ·obtain rfl : k = l11 := by omega
   have HAP := hid (HPk.out.all (by rw [Z11.out]; exact Nat.le_refl _))
   by_cases h1 : (k : Int) ≤ x.sH.cap
   rotate_left
   ·have HR := hid (show pb x.onOk = false from q0f (fun h => h1 (by rw [Z11.out]; exact h.2.1)))
    have e1 : decide ((k : Int) ≤ x.sH.cap) = false := by simpa using h1
    clear h1
    go_wp2_with fail
    obtain ⟨SS1, HSI1, HSO1⟩ := q0j (fun w' => Know (w.heap.size) #[.int .i64 x.sH.gS, .int .i64 x.sH.cM, .int .i64 x.sH.data, .int .i64 x.sH.spare, .int .i64 x.sH.rows, .int .i64 x.sH.cap, .int .i64 x.sH.bT, .int .i64 x.sH.qU, .int .i64 x.sH.sG, .slice a10 l10 c10, .slice a11 k c11, .slice a12 l12 c12, .int .i64 x.wT, .int .i64 x.stop, .bool x.down] w')
    have hS0 := HSI1.out (w1.drew) (Know.of (by refine q0a ?_; exact HBW.out))
    refine q0k SS1 (by kernel_rfl) hS0 ?_
    refine rgT 0 hS0 ?_
    refine rgL 1 hS0 HSO1 ?_
    refine rgT 3 hS0 ?_
    refine rgT 4 hS0 ?_
    refine rgL 5 hS0 HSO1 ?_
    refine q0d 2 rfl (by kernel_rfl) (fun K hK => ?_)
    go_simp
    go_at_call 143
    refine (q6j a11 k c11 _ (by omega)).mono ?_
    rintro e w2 ⟨rfl, hc⟩
    have h := bk hc (q0a HBW.out) (by simp); clear HBW cW lW; obtain ⟨cW, lW, HBW⟩ := h
    have h := Chg.trans0 (Chg.drew HC.out) hc; clear HC; have HC := hid h; clear h
    clear hc
    go_wp2_with fail
    refine hK.out _ _ (HSI1.out _ cW) (fun hS1 => ?_)
    clear hK K
    try simp only [Act.put, pA, pB, pC]
    refine rgT 6 hS1 ?_
    refine rgT 7 hS1 ?_
    refine rgS 8 hS1 ?_
    refine rgS 9 hS1 ?_
    refine rgS 10 hS1 ?_
    refine rgS 11 hS1 ?_
    refine rgS 12 hS1 ?_
    refine rgS 13 hS1 ?_
    refine rgS 14 hS1 ?_
    refine rgS 15 hS1 ?_
    refine rgS 16 hS1 ?_
    refine rgT 17 hS1 ?_
    refine rgT 18 hS1 ?_
    refine wpAnyH_done (by kernel_rfl) ?_ _
    go_wp2_with fail
    go_ret
    exact ⟨q0l HR.out.symm, HC.out⟩
   by_cases h2 : k = 0
   ·have HR := hid (show pb x.onOk = true from q0g ⟨HAP.out, by rw [← Z11.out]; exact h1, .inl (List.eq_nil_of_length_eq_zero (by rw [← Z11.out]; exact h2))⟩)
    have e1 : decide ((k : Int) ≤ x.sH.cap) = true := by simpa using h1
    have e2 : ((k : Int) == 0) = true := by simp; exact h2
    clear h1 h2
    go_wp2_with fail
    obtain ⟨SS1, HSI1, HSO1⟩ := q0j (fun w' => Know (w.heap.size) #[.int .i64 x.sH.gS, .int .i64 x.sH.cM, .int .i64 x.sH.data, .int .i64 x.sH.spare, .int .i64 x.sH.rows, .int .i64 x.sH.cap, .int .i64 x.sH.bT, .int .i64 x.sH.qU, .int .i64 x.sH.sG, .slice a10 l10 c10, .slice a11 k c11, .slice a12 l12 c12, .int .i64 x.wT, .int .i64 x.stop, .bool x.down] w')
    have hS0 := HSI1.out (w1.drew) (Know.of (by refine q0a ?_; exact HBW.out))
    refine q0k SS1 (by kernel_rfl) hS0 ?_
    refine rgT 0 hS0 ?_
    refine rgL 1 hS0 HSO1 ?_
    refine rgT 3 hS0 ?_
    refine rgT 4 hS0 ?_
    refine rgL 5 hS0 HSO1 ?_
    refine q0d 2 rfl (by kernel_rfl) (fun K hK => ?_)
    go_simp
    go_at_call 143
    refine (q6j a11 k c11 _ (by omega)).mono ?_
    rintro e w2 ⟨rfl, hc⟩
    have h := bk hc (q0a HBW.out) (by simp); clear HBW cW lW; obtain ⟨cW, lW, HBW⟩ := h
    have h := Chg.trans0 (Chg.drew HC.out) hc; clear HC; have HC := hid h; clear h
    clear hc
    go_wp2_with fail
    refine hK.out _ _ (HSI1.out _ cW) (fun hS1 => ?_)
    clear hK K
    try simp only [Act.put, pA, pB, pC]
    refine rgT 6 hS1 ?_
    refine rgT 7 hS1 ?_
    refine rgT 8 hS1 ?_
    refine rgL 9 hS1 HSO1 ?_
    refine rgT 10 hS1 ?_
    refine rgT 11 hS1 ?_
    refine rgT 12 hS1 ?_
    refine rgS 13 hS1 ?_
    refine rgS 14 hS1 ?_
    refine rgS 15 hS1 ?_
    refine rgT 16 hS1 ?_
    refine rgT 17 hS1 ?_
    refine rgT 18 hS1 ?_
    refine wpAnyH_done (by kernel_rfl) ?_ _
    go_wp2_with fail
    go_ret
    exact ⟨q0l HR.out.symm, HC.out⟩
   by_cases h3 : x.down = true
   ·have HR := hid (show pb x.onOk = false from q0f (fun h => by
     rcases h.2.2 with h4 | h4
     ·exact h2 (by rw [Z11.out, h4]; rfl)
     ·rw [h3] at h4; cases h4))
    have e1 : decide ((k : Int) ≤ x.sH.cap) = true := by simpa using h1
    have e2 : ((k : Int) == 0) = false := by simp; exact h2
    clear h1 h2
    go_wp2_with fail
    obtain ⟨SS1, HSI1, HSO1⟩ := q0j (fun w' => Know (w.heap.size) #[.int .i64 x.sH.gS, .int .i64 x.sH.cM, .int .i64 x.sH.data, .int .i64 x.sH.spare, .int .i64 x.sH.rows, .int .i64 x.sH.cap, .int .i64 x.sH.bT, .int .i64 x.sH.qU, .int .i64 x.sH.sG, .slice a10 l10 c10, .slice a11 k c11, .slice a12 l12 c12, .int .i64 x.wT, .int .i64 x.stop, .bool x.down] w')
    have hS0 := HSI1.out (w1.drew) (Know.of (by refine q0a ?_; exact HBW.out))
    refine q0k SS1 (by kernel_rfl) hS0 ?_
    refine rgT 0 hS0 ?_
    refine rgL 1 hS0 HSO1 ?_
    refine rgT 3 hS0 ?_
    refine rgT 4 hS0 ?_
    refine rgL 5 hS0 HSO1 ?_
    refine q0d 2 rfl (by kernel_rfl) (fun K hK => ?_)
    go_simp
    go_at_call 143
    refine (q6j a11 k c11 _ (by omega)).mono ?_
    rintro e w2 ⟨rfl, hc⟩
    have h := bk hc (q0a HBW.out) (by simp); clear HBW cW lW; obtain ⟨cW, lW, HBW⟩ := h
    have h := Chg.trans0 (Chg.drew HC.out) hc; clear HC; have HC := hid h; clear h
    clear hc
    go_wp2_with fail
    refine hK.out _ _ (HSI1.out _ cW) (fun hS1 => ?_)
    clear hK K
    try simp only [Act.put, pA, pB, pC]
    refine rgT 6 hS1 ?_
    refine rgT 7 hS1 ?_
    refine rgT 8 hS1 ?_
    refine rgL 9 hS1 HSO1 ?_
    refine rgT 10 hS1 ?_
    refine rgT 11 hS1 ?_
    refine rgT 12 hS1 ?_
    refine rgT 13 hS1 ?_
    refine rgL 14 hS1 HSO1 ?_
    refine rgT 15 hS1 ?_
    refine rgT 16 hS1 ?_
    refine rgT 17 hS1 ?_
    refine rgT 18 hS1 ?_
    refine wpAnyH_done (by kernel_rfl) ?_ _
    go_wp2_with fail
    go_ret
    exact ⟨q0l HR.out.symm, HC.out⟩
   have HR := hid (show pb x.onOk = true from q0g ⟨HAP.out, by rw [← Z11.out]; exact h1, .inr (by simpa using h3)⟩)
   have e1 : decide ((k : Int) ≤ x.sH.cap) = true := by simpa using h1
   have e2 : ((k : Int) == 0) = false := by simp; exact h2
   have e3 : x.down = false := by simpa using h3
   clear h1 h2 h3
   go_wp2_with fail
   obtain ⟨SS1, HSI1, HSO1⟩ := q0j (fun w' => Know (w.heap.size) #[.int .i64 x.sH.gS, .int .i64 x.sH.cM, .int .i64 x.sH.data, .int .i64 x.sH.spare, .int .i64 x.sH.rows, .int .i64 x.sH.cap, .int .i64 x.sH.bT, .int .i64 x.sH.qU, .int .i64 x.sH.sG, .slice a10 l10 c10, .slice a11 k c11, .slice a12 l12 c12, .int .i64 x.wT, .int .i64 x.stop, .bool x.down] w')
   have hS0 := HSI1.out (w1.drew) (Know.of (by refine q0a ?_; exact HBW.out))
   refine q0k SS1 (by kernel_rfl) hS0 ?_
   refine rgT 0 hS0 ?_
   refine rgL 1 hS0 HSO1 ?_
   refine rgT 3 hS0 ?_
   refine rgT 4 hS0 ?_
   refine rgL 5 hS0 HSO1 ?_
   refine q0d 2 rfl (by kernel_rfl) (fun K hK => ?_)
   go_simp
   go_at_call 143
   refine (q6j a11 k c11 _ (by omega)).mono ?_
   rintro e w2 ⟨rfl, hc⟩
   have h := bk hc (q0a HBW.out) (by simp); clear HBW cW lW; obtain ⟨cW, lW, HBW⟩ := h
   have h := Chg.trans0 (Chg.drew HC.out) hc; clear HC; have HC := hid h; clear h
   clear hc
   go_wp2_with fail
   refine hK.out _ _ (HSI1.out _ cW) (fun hS1 => ?_)
   clear hK K
   try simp only [Act.put, pA, pB, pC]
   refine rgT 6 hS1 ?_
   refine rgT 7 hS1 ?_
   refine rgT 8 hS1 ?_
   refine rgL 9 hS1 HSO1 ?_
   refine rgT 10 hS1 ?_
   refine rgT 11 hS1 ?_
   refine rgT 12 hS1 ?_
   refine rgT 13 hS1 ?_
   refine rgL 14 hS1 HSO1 ?_
   refine rgT 15 hS1 ?_
   refine rgT 16 hS1 ?_
   refine rgT 17 hS1 ?_
   refine rgT 18 hS1 ?_
   refine wpAnyH_done (by kernel_rfl) ?_ _
   go_wp2_with fail
   go_ret
   exact ⟨q0l HR.out.symm, HC.out⟩
  obtain ⟨n, b, off, HN, rfl, hcn, -⟩ := q2y (intL.sl_ext H11.out HC.out) hlt
  have HNI := hid HN.out.1
  have hlb : b < w1.heap.size := Lay.sl_lt _ (intL.sl_ext H11.out HC.out) _ HN.out.2.2
  have hkc : k ≤ c11 := by have := H11.out.2.1; omega
  clear HN
  by_cases h1 : 0 ≤ n ∧ n ≤ x.sH.all - 1
  rotate_left
  ·have HR := hid (show pb x.onOk = false from q0f (fun h => apart_bad HNI.out (fun h2 => h1 h2.1) h.1))
   have hi1 := q1t h1
   clear h1
   go_wp2_with fail
   refine (q1w x.sH HS.out n _).mono ?_
   rintro e w2 ⟨rfl, hc⟩
   rw [hi1]
   have h := bk0 hc HBW.out; clear HBW cW lW; obtain ⟨cW, lW, HBW⟩ := h
   replace HC := hct HC hc
   clear hc
   go_wp2_with fail
   go_ret
   exact ⟨q0l HR.out.symm, HC.out⟩
  have hi1 := q1m h1.1 h1.2
  have HI1 := hid h1
  clear h1
  obtain ⟨v, hv⟩ : ∃ v, v = pb (n ∈ x.on.take k) := ⟨_, rfl⟩
  have HV := hid hv.symm
  cases v
  ·clear hv
   have HP2 := hid (HPk.out.next HNI.out HI1.out (not_pb HV.out))
   go_wp2_with fail
   refine (q1w x.sH HS.out n _).mono ?_
   rintro e w2 ⟨rfl, hc⟩
   rw [hi1]
   have h := bk0 hc HBW.out; clear HBW cW lW; obtain ⟨cW, lW, HBW⟩ := h
   replace HC := hct HC hc
   clear hc
   obtain ⟨gt, hgt⟩ := q5b (intL.sl_ext H11.out HC.out) (show k ≤ l11 by omega) c11 hkc (Nat.le_refl _)
   have HGT := hid hgt
   clear hgt
   go_wp2_with fail
   refine (q5k (some ⟨b, off, none⟩) k c11 (x.on.take k) gt n _ HGT.out).mono ?_
   rintro e w3 ⟨rfl, hc⟩
   rw [HV.out]
   have h := bk0 hc HBW.out; clear HBW cW lW; obtain ⟨cW, lW, HBW⟩ := h
   replace HC := hct HC hc
   clear hc
   go_wp2_with fail
   go_roundw
   case rel => exact ⟨k + 1, _, rfl, by omega, by go_num, HP2, HC.out, HBW.out⟩
   case measure => simp [intOf]; omega
  ·clear hv
   have HR := hid (show pb x.onOk = false from q0f (fun h => apart_bad HNI.out (fun h2 => h2.2 (of_pb HV.out)) h.1))
   go_wp2_with fail
   refine (q1w x.sH HS.out n _).mono ?_
   rintro e w2 ⟨rfl, hc⟩
   rw [hi1]
   have h := bk0 hc HBW.out; clear HBW cW lW; obtain ⟨cW, lW, HBW⟩ := h
   replace HC := hct HC hc
   clear hc
   obtain ⟨gt, hgt⟩ := q5b (intL.sl_ext H11.out HC.out) (show k ≤ l11 by omega) c11 hkc (Nat.le_refl _)
   have HGT := hid hgt
   clear hgt
   go_wp2_with fail
   refine (q5k (some ⟨b, off, none⟩) k c11 (x.on.take k) gt n _ HGT.out).mono ?_
   rintro e w3 ⟨rfl, hc⟩
   rw [HV.out]
   have h := bk0 hc HBW.out; clear HBW cW lW; obtain ⟨cW, lW, HBW⟩ := h
   replace HC := hct HC hc
   clear hc
   go_wp2_with fail
   go_ret
   exact ⟨q0l HR.out.symm, HC.out⟩
theorem q6q (xs : List Tap) (w : World) : q6h 221 #[] (fun t => decide (200 < t.recs.length)) xs w := by
 intro x a1 l1 c1 f w1 _ _ hx
 obtain ⟨_, _, _, _, ex, h1, -⟩ := q1r.1 hx
 obtain ⟨e1, e2, e3⟩ := Value.slice.inj (List.cons.inj (List.cons.inj ex).2).1
 subst e1 e2 e3
 have HL := hid h1.1
 clear hx h1 ex
 show Calls _ _ #[.agg #[.bool x.wiped, .slice a1 l1 c1]] _ _
 have HR := hid (show decide ((200 : Int) < (l1 : Int)) = decide (200 < x.recs.length) by rw [← HL.out]; rw [Bool.eq_iff_iff]; simp; omega)
 go_enter Tryz.func221, Tryz.ntmps221
 go_wp2_with fail
 go_ret
 exact ⟨q0l HR.out, (Chg.refl [] w1).alloc _⟩
theorem q5q (xs : List Tap) (w : World) : q6h 223 #[] (fun t => t.wiped && decide (0 < t.recs.length)) xs w := by
 intro x a1 l1 c1 f w1 _ _ hx
 obtain ⟨_, _, _, _, ex, h1, -⟩ := q1r.1 hx
 obtain ⟨e1, e2, e3⟩ := Value.slice.inj (List.cons.inj (List.cons.inj ex).2).1
 subst e1 e2 e3
 have HL := hid h1.1
 clear hx h1 ex
 show Calls _ _ #[.agg #[.bool x.wiped, .slice a1 l1 c1]] _ _
 have HR := hid (show decide (0 < l1) = decide (0 < x.recs.length) by rw [← HL.out])
 cases hwp : x.wiped
 ·have HW := hid (show false = (x.wiped && decide (0 < x.recs.length)) by rw [hwp]; rfl)
  clear hwp
  go_enter Tryz.func223, Tryz.ntmps223
  go_wp2_with fail
  go_ret
  exact ⟨q0l HW.out, (Chg.refl [] w1).alloc _⟩
 ·have HW := hid (show decide (0 < l1) = (x.wiped && decide (0 < x.recs.length)) by rw [hwp, Bool.true_and]; exact HR.out)
  clear hwp
  go_enter Tryz.func223, Tryz.ntmps223
  go_wp2_with fail
  go_ret
  exact ⟨q0l HW.out, (Chg.refl [] w1).alloc _⟩
theorem any_many {ts : List Tap} : ts.any (fun t => decide (200 < t.recs.length)) = pb (∃ t ∈ ts, 200 < t.recs.length) := by
 by_cases h : ∃ t ∈ ts, 200 < t.recs.length
 ·rw [q0g h, List.any_eq_true]; obtain ⟨t, ht, h⟩ := h; exact ⟨t, ht, by simpa using h⟩
 ·rw [q0f h, List.any_eq_false]; intro t ht h2; exact h ⟨t, ht, by simpa using h2⟩
theorem any_wiped {ts : List Tap} : ts.any (fun t => t.wiped && decide (0 < t.recs.length)) = pb (∃ t ∈ ts, t.wiped = true ∧ t.recs ≠ []) := by
 by_cases h : ∃ t ∈ ts, t.wiped = true ∧ t.recs ≠ []
 ·rw [q0g h, List.any_eq_true]; obtain ⟨t, ht, h1, h2⟩ := h; exact ⟨t, ht, by rw [h1]; simpa using List.length_pos_iff.2 h2⟩
 ·rw [q0f h, List.any_eq_false]; intro t ht h2; simp at h2; exact h ⟨t, ht, h2.1, List.length_pos_iff.1 h2.2⟩
theorem q3d (x : Wld) (hs : x.sH.ok) (cx : Array Value) (fx : List Nat) (w : World) (hx : wldL.rep w cx.toList x fx) :
  Calls Tryz.prog 146 #[.agg cx] w fun e w' => e = .returned (.int .i64 x.tapF) ∧ Chg [] w w' := by
 obtain ⟨a10, l10, c10, f10, a11, l11, c11, f11, a12, l12, c12, f12, ex, o1, o2, o3, o4, o5, o6, o7, o8, o9, h10, h11, h12, o13, o14, -⟩ := q1a.1 hx
 clear o1 o2 o3 o4 o5 o6 o7 o8 o9
 obtain rfl := Array.toList_inj.1 (ex.trans (List.toList_toArray).symm)
 clear ex
 have q10 := drvL.slice.sl_max h10; have q11 := intL.sl_max h11; have q12 := tapL.sl_max h12
 have H10 := hid h10; have H11 := hid h11; have H12 := hid h12
 have HX := hid hx
 have Z10 := hid h10.1; have Z11 := hid h11.1; have Z12 := hid h12.1
 clear h10 h11 h12 hx
 have HS := hid hs
 clear hs
 obtain ⟨v, hv⟩ : ∃ v, v = pb (∃ t ∈ x.tapes, 200 < t.recs.length) := ⟨_, rfl⟩
 have HV := hid hv.symm
 have HC : Hid (Chg [] w w) := Chg.refl _ _
 cases v
 ·have HT := hid (show x.tapF = if q2v x.sH x.tapes = 0 then (if pb (∃ t ∈ x.tapes, t.wiped = true ∧ t.recs ≠ []) = true then 1 else 0) else q2v x.sH x.tapes by unfold Wld.tapF; rw [HV.out]; rfl)
  clear hv
  go_enter Tryz.func146, Tryz.ntmps146
  go_wp2_with fail
  refine (q3y 221 #[] (fun t => decide (200 < t.recs.length)) a12 l12 c12 x.tapes f12 _ (tapL.sl_ext H12.out (Chg.alloc HC.out _)) (fun args w => rfl) (q6q _ _)).mono ?_
  rintro e w1 ⟨rfl, hc⟩
  rw [any_many, HV.out]
  obtain ⟨cW, lW, HBW⟩ := bk hc (b := w.heap.size) (q0e (by simp) _) (by simp)
  have h := Chg.trans0 (Chg.alloc HC.out _) hc; clear HC; have HC := hid h; clear h
  clear hc
  go_wp2_with fail
  go_loopw [14] (fun i wr => ∃ (k : Nat) (Wr : World), Wr = wr ∧ k ≤ l12 ∧ i = .int .i64 k ∧ Hid (∀ (j : Nat) t, j < k → x.tapes[j]? = some t → q2r x.sH t.recs = 0) ∧ Chg [] w wr ∧ wr.heap[w.heap.size]? = some (.cells #[.int .i64 x.sH.gS, .int .i64 x.sH.cM, .int .i64 x.sH.data, .int .i64 x.sH.spare, .int .i64 x.sH.rows, .int .i64 x.sH.cap, .int .i64 x.sH.bT, .int .i64 x.sH.qU, .int .i64 x.sH.sG, .slice a10 l10 c10, .slice a11 l11 c11, .slice a12 l12 c12, .int .i64 x.wT, .int .i64 x.stop, .bool x.down] 34 (0, 0))) (fun i _ => l12 - (intOf i).toNat)
  case atStart => exact ⟨0, _, rfl, by omega, rfl, hid (fun j y hj => by omega), HC.out, HBW.out⟩
  case round =>
   clear HBW cW lW
   clear HC
   obtain ⟨k, w2, rfl, hk, rfl, HPk, hc, hbW⟩ := hrel
   have cW := cellsOf hbW; have lW := ltOf hbW; have HBW := hid hbW; clear hbW
   have HC := hid hc; clear hc
   by_cases hlt : k < l12
   rotate_left
   ·obtain rfl : k = l12 := by omega
    have HTF := hid (show q2v x.sH x.tapes = 0 from q4a (fun i q hq => HPk.out i q (by rw [Z12.out]; exact (List.getElem?_eq_some_iff.1 hq).1) hq))
    obtain ⟨u, hu⟩ : ∃ u, u = pb (∃ t ∈ x.tapes, t.wiped = true ∧ t.recs ≠ []) := ⟨_, rfl⟩
    have HU := hid hu.symm
    cases u
    ·have HR := hid (show x.tapF = 0 by rw [HT.out, if_pos HTF.out, HU.out]; rfl)
     clear hu
     go_wp2_with fail
     refine (q3y 223 #[] (fun t => t.wiped && decide (0 < t.recs.length)) a12 k c12 x.tapes f12 _ (tapL.sl_ext H12.out HC.out) (fun args w => rfl) (q5q _ _)).mono ?_
     rintro e w3 ⟨rfl, hc⟩
     rw [any_wiped, HU.out]
     have h := bk0 hc HBW.out; clear HBW cW lW; obtain ⟨cW, lW, HBW⟩ := h
     replace HC := hct HC hc
     clear hc
     go_wp2_with fail
     go_ret
     exact ⟨q0i HR.out.symm, HC.out⟩
    ·have HR := hid (show x.tapF = 1 by rw [HT.out, if_pos HTF.out, HU.out]; rfl)
     clear hu
     go_wp2_with fail
     refine (q3y 223 #[] (fun t => t.wiped && decide (0 < t.recs.length)) a12 k c12 x.tapes f12 _ (tapL.sl_ext H12.out HC.out) (fun args w => rfl) (q5q _ _)).mono ?_
     rintro e w3 ⟨rfl, hc⟩
     rw [any_wiped, HU.out]
     have h := bk0 hc HBW.out; clear HBW cW lW; obtain ⟨cW, lW, HBW⟩ := h
     replace HC := hct HC hc
     clear hc
     go_wp2_with fail
     go_ret
     exact ⟨q0i HR.out.symm, HC.out⟩
   obtain ⟨t, b, off, a1, l1, c1, ft, HTA, rfl, hct0, hct1, HTS⟩ := q2q (tapL.sl_ext H12.out HC.out) hlt
   obtain ⟨_, _, _, fb, exb, hbl, -⟩ := q1r.1 HTS.out
   obtain ⟨e1', e2', e3'⟩ := Value.slice.inj (List.cons.inj (List.cons.inj exb).2).1
   subst e1' e2' e3'
   have hmb := recL.sl_max hbl
   have ZB := hid hbl.1
   have HBL := hid hbl
   have HTI := hid HTA.out.1
   clear exb hbl HTA HTS
   go_wp2_with fail
   go_loopw [21] (fun i wr => ∃ (m : Nat) (Wr : World), Wr = wr ∧ m ≤ l1 ∧ i = .int .i64 m ∧ Hid (∀ (j : Nat) q, j < m → t.recs[j]? = some q → recV x.sH q = 0) ∧ Chg [] w wr ∧ wr.heap[w.heap.size]? = some (.cells #[.int .i64 x.sH.gS, .int .i64 x.sH.cM, .int .i64 x.sH.data, .int .i64 x.sH.spare, .int .i64 x.sH.rows, .int .i64 x.sH.cap, .int .i64 x.sH.bT, .int .i64 x.sH.qU, .int .i64 x.sH.sG, .slice a10 l10 c10, .slice a11 l11 c11, .slice (some ⟨b, off, none⟩) l12 c12, .int .i64 x.wT, .int .i64 x.stop, .bool x.down] 34 (0, 0)) ∧ wr.heap[w2.heap.size]? = some (.cells #[.bool t.wiped, .slice a1 l1 c1] 69 (0, 0)) ∧ recL.sl wr a1 l1 c1 t.recs fb) (fun i _ => l1 - (intOf i).toNat)
   case atStart => exact ⟨0, _, rfl, by omega, rfl, hid (fun j y hj => by omega), (Chg.alloc HC.out _), (by refine q0b ?_ _; exact HBW.out), (by exact q0e (by simp) _), (Lay.sl_ext recL HBL.out (Chg.alloc (Chg.refl [] w2) _))⟩
   case round =>
    clear HBW cW lW
    clear HC
    obtain ⟨m, w3, rfl, hm, rfl, HPm, hc, hbW, hbT, hfBL⟩ := hrel
    clear HBL; have HBL := hid hfBL; clear hfBL
    have cW := cellsOf hbW; have lW := ltOf hbW; have HBW := hid hbW; clear hbW
    have cT := cellsOf hbT; have lT := ltOf hbT; have HBT := hid hbT; clear hbT
    have HC := hid hc; clear hc
    by_cases hlt2 : m < l1
    rotate_left
    ·obtain rfl : m = l1 := by omega
     have HRF := hid (show q2r x.sH t.recs = 0 from q4c (fun i q hq => HPm.out i q (by rw [ZB.out]; exact (List.getElem?_eq_some_iff.1 hq).1) hq))
     have HP2 := hid (show ∀ (j : Nat) z, j < k + 1 → x.tapes[j]? = some z → q2r x.sH z.recs = 0 from fun j z hj hz => by
      by_cases e : j = k
      ·subst e; rw [Option.some.inj (hz.symm.trans HTI.out)]; exact HRF.out
      ·exact HPk.out j z (by omega) hz)
     go_wp2_with fail
     go_roundw
     case rel => exact ⟨k + 1, _, rfl, by omega, by go_num, HP2, HC.out, HBW.out⟩
     case measure => simp [intOf]; omega
    obtain ⟨q, br, or, a6, l6, c6, a7, l7, c7, a8, l8, c8, fq, HQA, rfl, hq0, hq1, hq2, hq3, hq4, hq5, hq6, hq7, hq8, HQS⟩ := q7e HBL.out hlt2
    have HQI := hid HQA.out.1
    have HQ := hid HQS.out
    clear HQA HQS
    obtain ⟨u, hu⟩ : ∃ u, u = recV x.sH q := ⟨_, rfl⟩
    have HU := hid hu.symm
    by_cases h0 : u = 0
    ·subst h0
     have HP2 := hid (show ∀ (j : Nat) z, j < m + 1 → t.recs[j]? = some z → recV x.sH z = 0 from fun j z hj hz => by
      by_cases e : j = m
      ·subst e; rw [Option.some.inj (hz.symm.trans HQI.out)]; exact HU.out
      ·exact HPm.out j z (by omega) hz)
     clear hu
     go_wp2_with fail
     refine (impl_rec x.sH HS.out q #[.int .i64 q.kind, .int .i64 q.seq, .string q.name, .int .i64 q.length, .int .i64 q.group, .int .i64 q.row, .slice a6 l6 c6, .slice a7 l7 c7, .slice a8 l8 c8] fq _ (Lay.ext recL HQ.out (Chg.alloc (Chg.refl [] w3) _))).mono ?_
     rintro e w4 ⟨rfl, hc⟩
     rw [HU.out]
     have h := (Lay.sl_ext recL (Lay.sl_ext recL HBL.out (Chg.alloc (Chg.refl [] w3) _)) hc); clear HBL; have HBL := hid h; clear h
     have h := (Lay.ext recL (Lay.ext recL HQ.out (Chg.alloc (Chg.refl [] w3) _)) hc); clear HQ; have HQ := hid h; clear h
     have h := bk hc (q0b HBW.out _) (by simp); clear HBW cW lW; obtain ⟨cW, lW, HBW⟩ := h
     have h := bk hc (q0b HBT.out _) (by simp); clear HBT cT lT; obtain ⟨cT, lT, HBT⟩ := h
     obtain ⟨cR, lR, HBR⟩ := bk hc (b := w3.heap.size) (q0e (by simp) _) (by simp)
     have h := Chg.trans0 (Chg.alloc HC.out _) hc; clear HC; have HC := hid h; clear h
     clear hc
     go_wp2_with fail
     go_roundw
     case rel => exact ⟨m + 1, _, rfl, by omega, by go_num, HP2, HC.out, HBW.out, HBT.out, HBL.out⟩
     case measure => simp [intOf]; omega
    ·have HR := hid (show x.tapF = u by
      have h1 : q2r x.sH t.recs = u := by rw [q5c (k := m) HPm.out HQI.out (by rw [HU.out]; exact h0), HU.out]
      have h2 : q2v x.sH x.tapes = u := by rw [q5a (k := k) HPk.out HTI.out (by rw [h1]; exact h0), h1]
      rw [HT.out, h2, if_neg h0])
     have eu : (u != 0) = true := by simp; exact h0
     clear hu h0
     go_wp2_with fail
     refine (impl_rec x.sH HS.out q #[.int .i64 q.kind, .int .i64 q.seq, .string q.name, .int .i64 q.length, .int .i64 q.group, .int .i64 q.row, .slice a6 l6 c6, .slice a7 l7 c7, .slice a8 l8 c8] fq _ (Lay.ext recL HQ.out (Chg.alloc (Chg.refl [] w3) _))).mono ?_
     rintro e w4 ⟨rfl, hc⟩
     rw [HU.out]
     have h := (Lay.sl_ext recL (Lay.sl_ext recL HBL.out (Chg.alloc (Chg.refl [] w3) _)) hc); clear HBL; have HBL := hid h; clear h
     have h := (Lay.ext recL (Lay.ext recL HQ.out (Chg.alloc (Chg.refl [] w3) _)) hc); clear HQ; have HQ := hid h; clear h
     have h := bk hc (q0b HBW.out _) (by simp); clear HBW cW lW; obtain ⟨cW, lW, HBW⟩ := h
     have h := bk hc (q0b HBT.out _) (by simp); clear HBT cT lT; obtain ⟨cT, lT, HBT⟩ := h
     obtain ⟨cR, lR, HBR⟩ := bk hc (b := w3.heap.size) (q0e (by simp) _) (by simp)
     have h := Chg.trans0 (Chg.alloc HC.out _) hc; clear HC; have HC := hid h; clear h
     clear hc
     go_wp2_with fail
     go_ret
     exact ⟨q0i HR.out.symm, HC.out⟩
 ·have HR := hid (show x.tapF = 2 by unfold Wld.tapF; rw [HV.out]; rfl)
  clear hv
  go_enter Tryz.func146, Tryz.ntmps146
  go_wp2_with fail
  refine (q3y 221 #[] (fun t => decide (200 < t.recs.length)) a12 l12 c12 x.tapes f12 _ (tapL.sl_ext H12.out (Chg.alloc HC.out _)) (fun args w => rfl) (q6q _ _)).mono ?_
  rintro e w1 ⟨rfl, hc⟩
  rw [any_many, HV.out]
  obtain ⟨cW, lW, HBW⟩ := bk hc (b := w.heap.size) (q0e (by simp) _) (by simp)
  have h := Chg.trans0 (Chg.alloc HC.out _) hc; clear HC; have HC := hid h; clear h
  clear hc
  go_wp2_with fail
  go_ret
  exact ⟨q0i HR.out.symm, HC.out⟩
theorem impl_wf0 (x : Wld) (cx : Array Value) (fx : List Nat) (w : World) (hx : wldL.rep w cx.toList x fx)  (h1 : ¬ (x.sH.ok)) :
  Calls Tryz.prog 64 #[.agg cx] w fun e w' => e = .returned (.int .i64 x.fault) ∧ Chg [] w w' := by
 obtain ⟨a10, l10, c10, f10, a11, l11, c11, f11, a12, l12, c12, f12, ex, o1, o2, o3, o4, o5, o6, o7, o8, o9, h10, h11, h12, o13, o14, -⟩ := q1a.1 hx
 clear o1 o2 o3 o4 o5 o6 o7 o8 o9
 obtain rfl := Array.toList_inj.1 (ex.trans (List.toList_toArray).symm)
 clear ex
 have q10 := drvL.slice.sl_max h10; have q11 := intL.sl_max h11; have q12 := tapL.sl_max h12
 have H10 := hid h10; have H11 := hid h11; have H12 := hid h12
 have HX := hid hx
 have Z10 := hid h10.1; have Z11 := hid h11.1; have Z12 := hid h12.1
 clear h10 h11 h12 hx
 have HF := hid (show x.sH.fault = 3 from if_neg h1)
 have HR := hid (show x.fault = 3 by unfold Wld.fault; rw [q0f h1]; rfl)
 clear h1
 have HC : Hid (Chg [] w w) := Chg.refl _ _
 go_enter Tryz.func64, Tryz.ntmps64
 go_wp2_with fail
 refine (q2i x.sH _).mono ?_
 rintro e w1 ⟨rfl, hc⟩
 rw [HF.out]
 obtain ⟨cW, lW, HBW⟩ := bk hc (b := w.heap.size) (q0e (by simp) _) (by simp)
 have h := Chg.trans0 (Chg.alloc HC.out _) hc; clear HC; have HC := hid h; clear h
 clear hc
 go_wp2_with fail
 go_ret
 exact ⟨q0i HR.out.symm, HC.out⟩
theorem impl_wf1 (x : Wld) (cx : Array Value) (fx : List Nat) (w : World) (hx : wldL.rep w cx.toList x fx) (h1 : x.sH.ok) (h2 : ¬ (x.built)) :
  Calls Tryz.prog 64 #[.agg cx] w fun e w' => e = .returned (.int .i64 x.fault) ∧ Chg [] w w' := by
 obtain ⟨a10, l10, c10, f10, a11, l11, c11, f11, a12, l12, c12, f12, ex, o1, o2, o3, o4, o5, o6, o7, o8, o9, h10, h11, h12, o13, o14, -⟩ := q1a.1 hx
 clear o1 o2 o3 o4 o5 o6 o7 o8 o9
 obtain rfl := Array.toList_inj.1 (ex.trans (List.toList_toArray).symm)
 clear ex
 have q10 := drvL.slice.sl_max h10; have q11 := intL.sl_max h11; have q12 := tapL.sl_max h12
 have H10 := hid h10; have H11 := hid h11; have H12 := hid h12
 have HX := hid hx
 have Z10 := hid h10.1; have Z11 := hid h11.1; have Z12 := hid h12.1
 clear h10 h11 h12 hx
 have HF := hid (show x.sH.fault = 0 from if_pos h1)
 have HPS := hid (q0g h1)
 have HS := hid h1
 have HB := hid (q0f h2)
 have HR := hid (show x.fault = 1 by unfold Wld.fault; rw [HPS.out, q0f (fun h => h2 h.1)]; rfl)
 clear h1 h2
 have HC : Hid (Chg [] w w) := Chg.refl _ _
 go_enter Tryz.func64, Tryz.ntmps64
 go_wp2_with fail
 refine (q2i x.sH _).mono ?_
 rintro e w1 ⟨rfl, hc⟩
 rw [HF.out]
 obtain ⟨cW, lW, HBW⟩ := bk hc (b := w.heap.size) (q0e (by simp) _) (by simp)
 have h := Chg.trans0 (Chg.alloc HC.out _) hc; clear HC; have HC := hid h; clear h
 clear hc
 go_wp2_with fail
 refine (q2j x HS.out #[.int .i64 x.sH.gS, .int .i64 x.sH.cM, .int .i64 x.sH.data, .int .i64 x.sH.spare, .int .i64 x.sH.rows, .int .i64 x.sH.cap, .int .i64 x.sH.bT, .int .i64 x.sH.qU, .int .i64 x.sH.sG, .slice a10 l10 c10, .slice a11 l11 c11, .slice a12 l12 c12, .int .i64 x.wT, .int .i64 x.stop, .bool x.down] fx _ (Lay.ext wldL HX.out HC.out)).mono ?_
 rintro e w2 ⟨rfl, hc⟩
 rw [HB.out]
 have h := bk0 hc HBW.out; clear HBW cW lW; obtain ⟨cW, lW, HBW⟩ := h
 replace HC := hct HC hc
 clear hc
 go_wp2_with fail
 go_ret
 exact ⟨q0i HR.out.symm, HC.out⟩
theorem impl_wf2 (x : Wld) (cx : Array Value) (fx : List Nat) (w : World) (hx : wldL.rep w cx.toList x fx) (h1 : x.sH.ok) (h2 : x.built) (h3 : ¬ (x.onOk)) :
  Calls Tryz.prog 64 #[.agg cx] w fun e w' => e = .returned (.int .i64 x.fault) ∧ Chg [] w w' := by
 obtain ⟨a10, l10, c10, f10, a11, l11, c11, f11, a12, l12, c12, f12, ex, o1, o2, o3, o4, o5, o6, o7, o8, o9, h10, h11, h12, o13, o14, -⟩ := q1a.1 hx
 clear o1 o2 o3 o4 o5 o6 o7 o8 o9
 obtain rfl := Array.toList_inj.1 (ex.trans (List.toList_toArray).symm)
 clear ex
 have q10 := drvL.slice.sl_max h10; have q11 := intL.sl_max h11; have q12 := tapL.sl_max h12
 have H10 := hid h10; have H11 := hid h11; have H12 := hid h12
 have HX := hid hx
 have Z10 := hid h10.1; have Z11 := hid h11.1; have Z12 := hid h12.1
 clear h10 h11 h12 hx
 have HF := hid (show x.sH.fault = 0 from if_pos h1)
 have HPS := hid (q0g h1)
 have HS := hid h1
 have HB := hid (q0g h2)
 have HB2 := hid h2
 have HO := hid (q0f h3)
 have HR := hid (show x.fault = 1 by unfold Wld.fault; rw [HPS.out, q0f (fun h => h3 h.2.1)]; rfl)
 clear h1 h2 h3
 have HC : Hid (Chg [] w w) := Chg.refl _ _
 go_enter Tryz.func64, Tryz.ntmps64
 go_wp2_with fail
 refine (q2i x.sH _).mono ?_
 rintro e w1 ⟨rfl, hc⟩
 rw [HF.out]
 obtain ⟨cW, lW, HBW⟩ := bk hc (b := w.heap.size) (q0e (by simp) _) (by simp)
 have h := Chg.trans0 (Chg.alloc HC.out _) hc; clear HC; have HC := hid h; clear h
 clear hc
 go_wp2_with fail
 refine (q2j x HS.out #[.int .i64 x.sH.gS, .int .i64 x.sH.cM, .int .i64 x.sH.data, .int .i64 x.sH.spare, .int .i64 x.sH.rows, .int .i64 x.sH.cap, .int .i64 x.sH.bT, .int .i64 x.sH.qU, .int .i64 x.sH.sG, .slice a10 l10 c10, .slice a11 l11 c11, .slice a12 l12 c12, .int .i64 x.wT, .int .i64 x.stop, .bool x.down] fx _ (Lay.ext wldL HX.out HC.out)).mono ?_
 rintro e w2 ⟨rfl, hc⟩
 rw [HB.out]
 have h := bk0 hc HBW.out; clear HBW cW lW; obtain ⟨cW, lW, HBW⟩ := h
 replace HC := hct HC hc
 clear hc
 go_wp2_with fail
 refine (q5d x HS.out #[.int .i64 x.sH.gS, .int .i64 x.sH.cM, .int .i64 x.sH.data, .int .i64 x.sH.spare, .int .i64 x.sH.rows, .int .i64 x.sH.cap, .int .i64 x.sH.bT, .int .i64 x.sH.qU, .int .i64 x.sH.sG, .slice a10 l10 c10, .slice a11 l11 c11, .slice a12 l12 c12, .int .i64 x.wT, .int .i64 x.stop, .bool x.down] fx _ (Lay.ext wldL HX.out HC.out)).mono ?_
 rintro e w3 ⟨rfl, hc⟩
 rw [HO.out]
 have h := bk0 hc HBW.out; clear HBW cW lW; obtain ⟨cW, lW, HBW⟩ := h
 replace HC := hct HC hc
 clear hc
 go_wp2_with fail
 go_ret
 exact ⟨q0i HR.out.symm, HC.out⟩
theorem impl_wf3 (x : Wld) (cx : Array Value) (fx : List Nat) (w : World) (hx : wldL.rep w cx.toList x fx) (h1 : x.sH.ok) (h2 : x.built) (h3 : x.onOk) (h4 : ¬ (x.tapes.length = 2)) :
  Calls Tryz.prog 64 #[.agg cx] w fun e w' => e = .returned (.int .i64 x.fault) ∧ Chg [] w w' := by
 obtain ⟨a10, l10, c10, f10, a11, l11, c11, f11, a12, l12, c12, f12, ex, o1, o2, o3, o4, o5, o6, o7, o8, o9, h10, h11, h12, o13, o14, -⟩ := q1a.1 hx
 clear o1 o2 o3 o4 o5 o6 o7 o8 o9
 obtain rfl := Array.toList_inj.1 (ex.trans (List.toList_toArray).symm)
 clear ex
 have q10 := drvL.slice.sl_max h10; have q11 := intL.sl_max h11; have q12 := tapL.sl_max h12
 have H10 := hid h10; have H11 := hid h11; have H12 := hid h12
 have HX := hid hx
 have Z10 := hid h10.1; have Z11 := hid h11.1; have Z12 := hid h12.1
 clear h10 h11 h12 hx
 have HF := hid (show x.sH.fault = 0 from if_pos h1)
 have HPS := hid (q0g h1)
 have HS := hid h1
 have HB := hid (q0g h2)
 have HB2 := hid h2
 have HO := hid (q0g h3)
 have HO2 := hid h3
 have e4 : ((l12 : Int) != 2) = true := by have := Z12.out; simp; omega
 have HR := hid (show x.fault = 1 by unfold Wld.fault; rw [HPS.out, q0f (fun h => h4 h.2.2)]; rfl)
 clear h1 h2 h3 h4
 have HC : Hid (Chg [] w w) := Chg.refl _ _
 go_enter Tryz.func64, Tryz.ntmps64
 go_wp2_with fail
 refine (q2i x.sH _).mono ?_
 rintro e w1 ⟨rfl, hc⟩
 rw [HF.out]
 obtain ⟨cW, lW, HBW⟩ := bk hc (b := w.heap.size) (q0e (by simp) _) (by simp)
 have h := Chg.trans0 (Chg.alloc HC.out _) hc; clear HC; have HC := hid h; clear h
 clear hc
 go_wp2_with fail
 refine (q2j x HS.out #[.int .i64 x.sH.gS, .int .i64 x.sH.cM, .int .i64 x.sH.data, .int .i64 x.sH.spare, .int .i64 x.sH.rows, .int .i64 x.sH.cap, .int .i64 x.sH.bT, .int .i64 x.sH.qU, .int .i64 x.sH.sG, .slice a10 l10 c10, .slice a11 l11 c11, .slice a12 l12 c12, .int .i64 x.wT, .int .i64 x.stop, .bool x.down] fx _ (Lay.ext wldL HX.out HC.out)).mono ?_
 rintro e w2 ⟨rfl, hc⟩
 rw [HB.out]
 have h := bk0 hc HBW.out; clear HBW cW lW; obtain ⟨cW, lW, HBW⟩ := h
 replace HC := hct HC hc
 clear hc
 go_wp2_with fail
 refine (q5d x HS.out #[.int .i64 x.sH.gS, .int .i64 x.sH.cM, .int .i64 x.sH.data, .int .i64 x.sH.spare, .int .i64 x.sH.rows, .int .i64 x.sH.cap, .int .i64 x.sH.bT, .int .i64 x.sH.qU, .int .i64 x.sH.sG, .slice a10 l10 c10, .slice a11 l11 c11, .slice a12 l12 c12, .int .i64 x.wT, .int .i64 x.stop, .bool x.down] fx _ (Lay.ext wldL HX.out HC.out)).mono ?_
 rintro e w3 ⟨rfl, hc⟩
 rw [HO.out]
 have h := bk0 hc HBW.out; clear HBW cW lW; obtain ⟨cW, lW, HBW⟩ := h
 replace HC := hct HC hc
 clear hc
 go_wp2_with fail
 go_ret
 exact ⟨q0i HR.out.symm, HC.out⟩
theorem impl_wf4 (x : Wld) (cx : Array Value) (fx : List Nat) (w : World) (hx : wldL.rep w cx.toList x fx) (h1 : x.sH.ok) (h2 : x.built) (h3 : x.onOk) (h4 : x.tapes.length = 2) (h5 : ¬ (x.tapF = 0)) :
  Calls Tryz.prog 64 #[.agg cx] w fun e w' => e = .returned (.int .i64 x.fault) ∧ Chg [] w w' := by
 obtain ⟨a10, l10, c10, f10, a11, l11, c11, f11, a12, l12, c12, f12, ex, o1, o2, o3, o4, o5, o6, o7, o8, o9, h10, h11, h12, o13, o14, -⟩ := q1a.1 hx
 clear o1 o2 o3 o4 o5 o6 o7 o8 o9
 obtain rfl := Array.toList_inj.1 (ex.trans (List.toList_toArray).symm)
 clear ex
 have q10 := drvL.slice.sl_max h10; have q11 := intL.sl_max h11; have q12 := tapL.sl_max h12
 have H10 := hid h10; have H11 := hid h11; have H12 := hid h12
 have HX := hid hx
 have Z10 := hid h10.1; have Z11 := hid h11.1; have Z12 := hid h12.1
 clear h10 h11 h12 hx
 have HF := hid (show x.sH.fault = 0 from if_pos h1)
 have HPS := hid (q0g h1)
 have HS := hid h1
 have HB := hid (q0g h2)
 have HB2 := hid h2
 have HO := hid (q0g h3)
 have HO2 := hid h3
 have e4 : ((l12 : Int) != 2) = false := by have := Z12.out; simp; omega
 have HT := hid (show x.fault = if x.tapF = 0 then (if pb x.nums = true then 0 else 3) else x.tapF by unfold Wld.fault; rw [HPS.out, q0g ⟨HB2.out, HO2.out, h4⟩]; rfl)
 obtain ⟨u, hu⟩ : ∃ u, u = x.tapF := ⟨_, rfl⟩
 have HU := hid hu.symm
 have e5 : (u != 0) = true := by rw [hu]; simp; exact h5
 have HR := hid (show x.fault = u by rw [HT.out, ← hu, if_neg (by rw [hu]; exact h5)])
 clear hu
 clear h1 h2 h3 h4 h5
 have HC : Hid (Chg [] w w) := Chg.refl _ _
 go_enter Tryz.func64, Tryz.ntmps64
 go_wp2_with fail
 refine (q2i x.sH _).mono ?_
 rintro e w1 ⟨rfl, hc⟩
 rw [HF.out]
 obtain ⟨cW, lW, HBW⟩ := bk hc (b := w.heap.size) (q0e (by simp) _) (by simp)
 have h := Chg.trans0 (Chg.alloc HC.out _) hc; clear HC; have HC := hid h; clear h
 clear hc
 go_wp2_with fail
 refine (q2j x HS.out #[.int .i64 x.sH.gS, .int .i64 x.sH.cM, .int .i64 x.sH.data, .int .i64 x.sH.spare, .int .i64 x.sH.rows, .int .i64 x.sH.cap, .int .i64 x.sH.bT, .int .i64 x.sH.qU, .int .i64 x.sH.sG, .slice a10 l10 c10, .slice a11 l11 c11, .slice a12 l12 c12, .int .i64 x.wT, .int .i64 x.stop, .bool x.down] fx _ (Lay.ext wldL HX.out HC.out)).mono ?_
 rintro e w2 ⟨rfl, hc⟩
 rw [HB.out]
 have h := bk0 hc HBW.out; clear HBW cW lW; obtain ⟨cW, lW, HBW⟩ := h
 replace HC := hct HC hc
 clear hc
 go_wp2_with fail
 refine (q5d x HS.out #[.int .i64 x.sH.gS, .int .i64 x.sH.cM, .int .i64 x.sH.data, .int .i64 x.sH.spare, .int .i64 x.sH.rows, .int .i64 x.sH.cap, .int .i64 x.sH.bT, .int .i64 x.sH.qU, .int .i64 x.sH.sG, .slice a10 l10 c10, .slice a11 l11 c11, .slice a12 l12 c12, .int .i64 x.wT, .int .i64 x.stop, .bool x.down] fx _ (Lay.ext wldL HX.out HC.out)).mono ?_
 rintro e w3 ⟨rfl, hc⟩
 rw [HO.out]
 have h := bk0 hc HBW.out; clear HBW cW lW; obtain ⟨cW, lW, HBW⟩ := h
 replace HC := hct HC hc
 clear hc
 go_wp2_with fail
 refine (q3d x HS.out #[.int .i64 x.sH.gS, .int .i64 x.sH.cM, .int .i64 x.sH.data, .int .i64 x.sH.spare, .int .i64 x.sH.rows, .int .i64 x.sH.cap, .int .i64 x.sH.bT, .int .i64 x.sH.qU, .int .i64 x.sH.sG, .slice a10 l10 c10, .slice a11 l11 c11, .slice a12 l12 c12, .int .i64 x.wT, .int .i64 x.stop, .bool x.down] fx _ (Lay.ext wldL HX.out HC.out)).mono ?_
 rintro e w4 ⟨rfl, hc⟩
 rw [HU.out]
 have h := bk0 hc HBW.out; clear HBW cW lW; obtain ⟨cW, lW, HBW⟩ := h
 replace HC := hct HC hc
 clear hc
 go_wp2_with fail
 go_ret
 exact ⟨q0i HR.out.symm, HC.out⟩
theorem impl_wf5 (x : Wld) (cx : Array Value) (fx : List Nat) (w : World) (hx : wldL.rep w cx.toList x fx) (h1 : x.sH.ok) (h2 : x.built) (h3 : x.onOk) (h4 : x.tapes.length = 2) (h5 : x.tapF = 0) (h6 : ¬ (0 ≤ x.wT ∧ x.wT ≤ 1000000000)) :
  Calls Tryz.prog 64 #[.agg cx] w fun e w' => e = .returned (.int .i64 x.fault) ∧ Chg [] w w' := by
 obtain ⟨a10, l10, c10, f10, a11, l11, c11, f11, a12, l12, c12, f12, ex, o1, o2, o3, o4, o5, o6, o7, o8, o9, h10, h11, h12, o13, o14, -⟩ := q1a.1 hx
 clear o1 o2 o3 o4 o5 o6 o7 o8 o9
 obtain rfl := Array.toList_inj.1 (ex.trans (List.toList_toArray).symm)
 clear ex
 have q10 := drvL.slice.sl_max h10; have q11 := intL.sl_max h11; have q12 := tapL.sl_max h12
 have H10 := hid h10; have H11 := hid h11; have H12 := hid h12
 have HX := hid hx
 have Z10 := hid h10.1; have Z11 := hid h11.1; have Z12 := hid h12.1
 clear h10 h11 h12 hx
 have HF := hid (show x.sH.fault = 0 from if_pos h1)
 have HPS := hid (q0g h1)
 have HS := hid h1
 have HB := hid (q0g h2)
 have HB2 := hid h2
 have HO := hid (q0g h3)
 have HO2 := hid h3
 have e4 : ((l12 : Int) != 2) = false := by have := Z12.out; simp; omega
 have HT := hid (show x.fault = if x.tapF = 0 then (if pb x.nums = true then 0 else 3) else x.tapF by unfold Wld.fault; rw [HPS.out, q0g ⟨HB2.out, HO2.out, h4⟩]; rfl)
 have HU := hid h5
 have HN := hid (show x.fault = if pb x.nums = true then 0 else 3 by rw [HT.out, if_pos h5])
 have hi6 := q1t h6
 have HR := hid (show x.fault = 3 by rw [HN.out, q0f (fun h => h6 h.1)]; rfl)
 clear h1 h2 h3 h4 h5 h6
 have HC : Hid (Chg [] w w) := Chg.refl _ _
 go_enter Tryz.func64, Tryz.ntmps64
 go_wp2_with fail
 refine (q2i x.sH _).mono ?_
 rintro e w1 ⟨rfl, hc⟩
 rw [HF.out]
 obtain ⟨cW, lW, HBW⟩ := bk hc (b := w.heap.size) (q0e (by simp) _) (by simp)
 have h := Chg.trans0 (Chg.alloc HC.out _) hc; clear HC; have HC := hid h; clear h
 clear hc
 go_wp2_with fail
 refine (q2j x HS.out #[.int .i64 x.sH.gS, .int .i64 x.sH.cM, .int .i64 x.sH.data, .int .i64 x.sH.spare, .int .i64 x.sH.rows, .int .i64 x.sH.cap, .int .i64 x.sH.bT, .int .i64 x.sH.qU, .int .i64 x.sH.sG, .slice a10 l10 c10, .slice a11 l11 c11, .slice a12 l12 c12, .int .i64 x.wT, .int .i64 x.stop, .bool x.down] fx _ (Lay.ext wldL HX.out HC.out)).mono ?_
 rintro e w2 ⟨rfl, hc⟩
 rw [HB.out]
 have h := bk0 hc HBW.out; clear HBW cW lW; obtain ⟨cW, lW, HBW⟩ := h
 replace HC := hct HC hc
 clear hc
 go_wp2_with fail
 refine (q5d x HS.out #[.int .i64 x.sH.gS, .int .i64 x.sH.cM, .int .i64 x.sH.data, .int .i64 x.sH.spare, .int .i64 x.sH.rows, .int .i64 x.sH.cap, .int .i64 x.sH.bT, .int .i64 x.sH.qU, .int .i64 x.sH.sG, .slice a10 l10 c10, .slice a11 l11 c11, .slice a12 l12 c12, .int .i64 x.wT, .int .i64 x.stop, .bool x.down] fx _ (Lay.ext wldL HX.out HC.out)).mono ?_
 rintro e w3 ⟨rfl, hc⟩
 rw [HO.out]
 have h := bk0 hc HBW.out; clear HBW cW lW; obtain ⟨cW, lW, HBW⟩ := h
 replace HC := hct HC hc
 clear hc
 go_wp2_with fail
 refine (q3d x HS.out #[.int .i64 x.sH.gS, .int .i64 x.sH.cM, .int .i64 x.sH.data, .int .i64 x.sH.spare, .int .i64 x.sH.rows, .int .i64 x.sH.cap, .int .i64 x.sH.bT, .int .i64 x.sH.qU, .int .i64 x.sH.sG, .slice a10 l10 c10, .slice a11 l11 c11, .slice a12 l12 c12, .int .i64 x.wT, .int .i64 x.stop, .bool x.down] fx _ (Lay.ext wldL HX.out HC.out)).mono ?_
 rintro e w4 ⟨rfl, hc⟩
 rw [HU.out]
 have h := bk0 hc HBW.out; clear HBW cW lW; obtain ⟨cW, lW, HBW⟩ := h
 replace HC := hct HC hc
 clear hc
 go_wp2_with fail
 refine (q1d x.wT 0 1000000000 _).mono ?_
 rintro e w5 ⟨rfl, hc⟩
 rw [hi6]
 have h := bk0 hc HBW.out; clear HBW cW lW; obtain ⟨cW, lW, HBW⟩ := h
 replace HC := hct HC hc
 clear hc
 go_wp2_with fail
 go_ret
 exact ⟨q0i HR.out.symm, HC.out⟩
theorem impl_wf6 (x : Wld) (cx : Array Value) (fx : List Nat) (w : World) (hx : wldL.rep w cx.toList x fx) (h1 : x.sH.ok) (h2 : x.built) (h3 : x.onOk) (h4 : x.tapes.length = 2) (h5 : x.tapF = 0) (h6 : 0 ≤ x.wT ∧ x.wT ≤ 1000000000) (h7 : ¬ (-1 ≤ x.stop ∧ x.stop ≤ 1000000000)) :
  Calls Tryz.prog 64 #[.agg cx] w fun e w' => e = .returned (.int .i64 x.fault) ∧ Chg [] w w' := by
 obtain ⟨a10, l10, c10, f10, a11, l11, c11, f11, a12, l12, c12, f12, ex, o1, o2, o3, o4, o5, o6, o7, o8, o9, h10, h11, h12, o13, o14, -⟩ := q1a.1 hx
 clear o1 o2 o3 o4 o5 o6 o7 o8 o9
 obtain rfl := Array.toList_inj.1 (ex.trans (List.toList_toArray).symm)
 clear ex
 have q10 := drvL.slice.sl_max h10; have q11 := intL.sl_max h11; have q12 := tapL.sl_max h12
 have H10 := hid h10; have H11 := hid h11; have H12 := hid h12
 have HX := hid hx
 have Z10 := hid h10.1; have Z11 := hid h11.1; have Z12 := hid h12.1
 clear h10 h11 h12 hx
 have HF := hid (show x.sH.fault = 0 from if_pos h1)
 have HPS := hid (q0g h1)
 have HS := hid h1
 have HB := hid (q0g h2)
 have HB2 := hid h2
 have HO := hid (q0g h3)
 have HO2 := hid h3
 have e4 : ((l12 : Int) != 2) = false := by have := Z12.out; simp; omega
 have HT := hid (show x.fault = if x.tapF = 0 then (if pb x.nums = true then 0 else 3) else x.tapF by unfold Wld.fault; rw [HPS.out, q0g ⟨HB2.out, HO2.out, h4⟩]; rfl)
 have HU := hid h5
 have HN := hid (show x.fault = if pb x.nums = true then 0 else 3 by rw [HT.out, if_pos h5])
 have hi6 := q1m h6.1 h6.2
 have HI6 := hid h6
 have hi7 := q1t h7
 have HR := hid (show x.fault = 3 by rw [HN.out, q0f (fun h => h7 h.2)]; rfl)
 clear h1 h2 h3 h4 h5 h6 h7
 have HC : Hid (Chg [] w w) := Chg.refl _ _
 go_enter Tryz.func64, Tryz.ntmps64
 go_wp2_with fail
 refine (q2i x.sH _).mono ?_
 rintro e w1 ⟨rfl, hc⟩
 rw [HF.out]
 obtain ⟨cW, lW, HBW⟩ := bk hc (b := w.heap.size) (q0e (by simp) _) (by simp)
 have h := Chg.trans0 (Chg.alloc HC.out _) hc; clear HC; have HC := hid h; clear h
 clear hc
 go_wp2_with fail
 refine (q2j x HS.out #[.int .i64 x.sH.gS, .int .i64 x.sH.cM, .int .i64 x.sH.data, .int .i64 x.sH.spare, .int .i64 x.sH.rows, .int .i64 x.sH.cap, .int .i64 x.sH.bT, .int .i64 x.sH.qU, .int .i64 x.sH.sG, .slice a10 l10 c10, .slice a11 l11 c11, .slice a12 l12 c12, .int .i64 x.wT, .int .i64 x.stop, .bool x.down] fx _ (Lay.ext wldL HX.out HC.out)).mono ?_
 rintro e w2 ⟨rfl, hc⟩
 rw [HB.out]
 have h := bk0 hc HBW.out; clear HBW cW lW; obtain ⟨cW, lW, HBW⟩ := h
 replace HC := hct HC hc
 clear hc
 go_wp2_with fail
 refine (q5d x HS.out #[.int .i64 x.sH.gS, .int .i64 x.sH.cM, .int .i64 x.sH.data, .int .i64 x.sH.spare, .int .i64 x.sH.rows, .int .i64 x.sH.cap, .int .i64 x.sH.bT, .int .i64 x.sH.qU, .int .i64 x.sH.sG, .slice a10 l10 c10, .slice a11 l11 c11, .slice a12 l12 c12, .int .i64 x.wT, .int .i64 x.stop, .bool x.down] fx _ (Lay.ext wldL HX.out HC.out)).mono ?_
 rintro e w3 ⟨rfl, hc⟩
 rw [HO.out]
 have h := bk0 hc HBW.out; clear HBW cW lW; obtain ⟨cW, lW, HBW⟩ := h
 replace HC := hct HC hc
 clear hc
 go_wp2_with fail
 refine (q3d x HS.out #[.int .i64 x.sH.gS, .int .i64 x.sH.cM, .int .i64 x.sH.data, .int .i64 x.sH.spare, .int .i64 x.sH.rows, .int .i64 x.sH.cap, .int .i64 x.sH.bT, .int .i64 x.sH.qU, .int .i64 x.sH.sG, .slice a10 l10 c10, .slice a11 l11 c11, .slice a12 l12 c12, .int .i64 x.wT, .int .i64 x.stop, .bool x.down] fx _ (Lay.ext wldL HX.out HC.out)).mono ?_
 rintro e w4 ⟨rfl, hc⟩
 rw [HU.out]
 have h := bk0 hc HBW.out; clear HBW cW lW; obtain ⟨cW, lW, HBW⟩ := h
 replace HC := hct HC hc
 clear hc
 go_wp2_with fail
 refine (q1d x.wT 0 1000000000 _).mono ?_
 rintro e w5 ⟨rfl, hc⟩
 rw [hi6]
 have h := bk0 hc HBW.out; clear HBW cW lW; obtain ⟨cW, lW, HBW⟩ := h
 replace HC := hct HC hc
 clear hc
 go_wp2_with fail
 refine (q1d x.stop (-1) 1000000000 _).mono ?_
 rintro e w6 ⟨rfl, hc⟩
 rw [hi7]
 have h := bk0 hc HBW.out; clear HBW cW lW; obtain ⟨cW, lW, HBW⟩ := h
 replace HC := hct HC hc
 clear hc
 go_wp2_with fail
 go_ret
 exact ⟨q0i HR.out.symm, HC.out⟩
theorem impl_wf7 (x : Wld) (cx : Array Value) (fx : List Nat) (w : World) (hx : wldL.rep w cx.toList x fx) (h1 : x.sH.ok) (h2 : x.built) (h3 : x.onOk) (h4 : x.tapes.length = 2) (h5 : x.tapF = 0) (h6 : 0 ≤ x.wT ∧ x.wT ≤ 1000000000) (h7 : -1 ≤ x.stop ∧ x.stop ≤ 1000000000) :
  Calls Tryz.prog 64 #[.agg cx] w fun e w' => e = .returned (.int .i64 x.fault) ∧ Chg [] w w' := by
 obtain ⟨a10, l10, c10, f10, a11, l11, c11, f11, a12, l12, c12, f12, ex, o1, o2, o3, o4, o5, o6, o7, o8, o9, h10, h11, h12, o13, o14, -⟩ := q1a.1 hx
 clear o1 o2 o3 o4 o5 o6 o7 o8 o9
 obtain rfl := Array.toList_inj.1 (ex.trans (List.toList_toArray).symm)
 clear ex
 have q10 := drvL.slice.sl_max h10; have q11 := intL.sl_max h11; have q12 := tapL.sl_max h12
 have H10 := hid h10; have H11 := hid h11; have H12 := hid h12
 have HX := hid hx
 have Z10 := hid h10.1; have Z11 := hid h11.1; have Z12 := hid h12.1
 clear h10 h11 h12 hx
 have HF := hid (show x.sH.fault = 0 from if_pos h1)
 have HPS := hid (q0g h1)
 have HS := hid h1
 have HB := hid (q0g h2)
 have HB2 := hid h2
 have HO := hid (q0g h3)
 have HO2 := hid h3
 have e4 : ((l12 : Int) != 2) = false := by have := Z12.out; simp; omega
 have HT := hid (show x.fault = if x.tapF = 0 then (if pb x.nums = true then 0 else 3) else x.tapF by unfold Wld.fault; rw [HPS.out, q0g ⟨HB2.out, HO2.out, h4⟩]; rfl)
 have HU := hid h5
 have HN := hid (show x.fault = if pb x.nums = true then 0 else 3 by rw [HT.out, if_pos h5])
 have hi6 := q1m h6.1 h6.2
 have HI6 := hid h6
 have hi7 := q1m h7.1 h7.2
 have HR := hid (show x.fault = 0 by rw [HN.out, q0g ⟨HI6.out, h7⟩]; rfl)
 clear h1 h2 h3 h4 h5 h6 h7
 have HC : Hid (Chg [] w w) := Chg.refl _ _
 go_enter Tryz.func64, Tryz.ntmps64
 go_wp2_with fail
 refine (q2i x.sH _).mono ?_
 rintro e w1 ⟨rfl, hc⟩
 rw [HF.out]
 obtain ⟨cW, lW, HBW⟩ := bk hc (b := w.heap.size) (q0e (by simp) _) (by simp)
 have h := Chg.trans0 (Chg.alloc HC.out _) hc; clear HC; have HC := hid h; clear h
 clear hc
 go_wp2_with fail
 refine (q2j x HS.out #[.int .i64 x.sH.gS, .int .i64 x.sH.cM, .int .i64 x.sH.data, .int .i64 x.sH.spare, .int .i64 x.sH.rows, .int .i64 x.sH.cap, .int .i64 x.sH.bT, .int .i64 x.sH.qU, .int .i64 x.sH.sG, .slice a10 l10 c10, .slice a11 l11 c11, .slice a12 l12 c12, .int .i64 x.wT, .int .i64 x.stop, .bool x.down] fx _ (Lay.ext wldL HX.out HC.out)).mono ?_
 rintro e w2 ⟨rfl, hc⟩
 rw [HB.out]
 have h := bk0 hc HBW.out; clear HBW cW lW; obtain ⟨cW, lW, HBW⟩ := h
 replace HC := hct HC hc
 clear hc
 go_wp2_with fail
 refine (q5d x HS.out #[.int .i64 x.sH.gS, .int .i64 x.sH.cM, .int .i64 x.sH.data, .int .i64 x.sH.spare, .int .i64 x.sH.rows, .int .i64 x.sH.cap, .int .i64 x.sH.bT, .int .i64 x.sH.qU, .int .i64 x.sH.sG, .slice a10 l10 c10, .slice a11 l11 c11, .slice a12 l12 c12, .int .i64 x.wT, .int .i64 x.stop, .bool x.down] fx _ (Lay.ext wldL HX.out HC.out)).mono ?_
 rintro e w3 ⟨rfl, hc⟩
 rw [HO.out]
 have h := bk0 hc HBW.out; clear HBW cW lW; obtain ⟨cW, lW, HBW⟩ := h
 replace HC := hct HC hc
 clear hc
 go_wp2_with fail
 refine (q3d x HS.out #[.int .i64 x.sH.gS, .int .i64 x.sH.cM, .int .i64 x.sH.data, .int .i64 x.sH.spare, .int .i64 x.sH.rows, .int .i64 x.sH.cap, .int .i64 x.sH.bT, .int .i64 x.sH.qU, .int .i64 x.sH.sG, .slice a10 l10 c10, .slice a11 l11 c11, .slice a12 l12 c12, .int .i64 x.wT, .int .i64 x.stop, .bool x.down] fx _ (Lay.ext wldL HX.out HC.out)).mono ?_
 rintro e w4 ⟨rfl, hc⟩
 rw [HU.out]
 have h := bk0 hc HBW.out; clear HBW cW lW; obtain ⟨cW, lW, HBW⟩ := h
 replace HC := hct HC hc
 clear hc
 go_wp2_with fail
 refine (q1d x.wT 0 1000000000 _).mono ?_
 rintro e w5 ⟨rfl, hc⟩
 rw [hi6]
 have h := bk0 hc HBW.out; clear HBW cW lW; obtain ⟨cW, lW, HBW⟩ := h
 replace HC := hct HC hc
 clear hc
 go_wp2_with fail
 refine (q1d x.stop (-1) 1000000000 _).mono ?_
 rintro e w6 ⟨rfl, hc⟩
 rw [hi7]
 have h := bk0 hc HBW.out; clear HBW cW lW; obtain ⟨cW, lW, HBW⟩ := h
 replace HC := hct HC hc
 clear hc
 go_wp2_with fail
 go_ret
 exact ⟨q0i HR.out.symm, HC.out⟩
theorem q4y (x : Wld) (cx : Array Value) (fx : List Nat) (w : World) (hx : wldL.rep w cx.toList x fx) :
  Calls Tryz.prog 64 #[.agg cx] w fun e w' => e = .returned (.int .i64 x.fault) ∧ Chg [] w w' := by
 by_cases h1 : x.sH.ok
 rotate_left
 ·exact impl_wf0 x cx fx w hx h1
 by_cases h2 : x.built
 rotate_left
 ·exact impl_wf1 x cx fx w hx h1 h2
 by_cases h3 : x.onOk
 rotate_left
 ·exact impl_wf2 x cx fx w hx h1 h2 h3
 by_cases h4 : x.tapes.length = 2
 rotate_left
 ·exact impl_wf3 x cx fx w hx h1 h2 h3 h4
 by_cases h5 : x.tapF = 0
 rotate_left
 ·exact impl_wf4 x cx fx w hx h1 h2 h3 h4 h5
 by_cases h6 : 0 ≤ x.wT ∧ x.wT ≤ 1000000000
 rotate_left
 ·exact impl_wf5 x cx fx w hx h1 h2 h3 h4 h5 h6
 by_cases h7 : -1 ≤ x.stop ∧ x.stop ≤ 1000000000
 rotate_left
 ·exact impl_wf6 x cx fx w hx h1 h2 h3 h4 h5 h6 h7
 exact impl_wf7 x cx fx w hx h1 h2 h3 h4 h5 h6 h7
end Go.Proofs.YtphmpimgbmedbaaGreat
