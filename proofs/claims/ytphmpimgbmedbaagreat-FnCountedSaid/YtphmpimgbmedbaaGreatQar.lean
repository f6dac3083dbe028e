/- Several texts in one. -/
import Derived.Test.YtphmpimgbmedbaaGreatRows
import Derived.Test.YtphmpimgbmedbaaGreatQaq
import Derived.Test.YtphmpimgbmedbaaGreatQaj
import Derived.Test.YtphmpimgbmedbaaGreatQae
set_option maxRecDepth 100000
set_option maxHeartbeats 8000000
namespace Go.Proofs.YtphmpimgbmedbaaGreat
open Go.RowKit
open Go.Lib (hid)
theorem ck {a b : World} {bl o : Nat} {v : Value} (hc : Hid (Chg [] a b)) (h : Hid (a.cell? ⟨bl, o, none⟩ = some v)) (hl : Hid (bl < a.heap.size)) : b.cell? ⟨bl, o, none⟩ = some v ∧ bl < b.heap.size :=
 ⟨q0h hc.out h.out hl.out, Nat.lt_of_lt_of_le hl.out hc.out.size⟩
theorem q3s (a : Option Addr) (la ca : Nat) (xs : List Int) (f : List Nat) (m : Int) (w : World) (ha : intL.sl w a la ca xs f) :
  Calls Tryz.prog 118 #[.slice a la ca, .int .i64 m] w fun e w' => e = .returned (.bool (pb (q2o m xs))) ∧ Chg [] w w' := q7h a la ca xs f m w ha
theorem q1v (x : Wld) (hs : x.sH.ok) (cx : Array Value) (fx : List Nat) (w : World) (hx : wldL.rep w cx.toList x fx) :
  Calls Tryz.prog 117 #[.agg cx] w fun e w' => e = .returned (.bool (pb x.built)) ∧ Chg [] w w' := by
 obtain ⟨a10, l10, c10, f10, a11, l11, c11, f11, a12, l12, c12, f12, ex, o1, o2, o3, o4, o5, o6, o7, o8, o9, h10, h11, h12, o13, o14, -⟩ := q1a.1 hx
 clear o1 o2 o3 o4 o5 o6 o7 o8 o9
 obtain rfl := Array.toList_inj.1 (ex.trans (List.toList_toArray).symm)
 clear ex
 have q10 := drvL.slice.sl_max h10; have q11 := intL.sl_max h11; have q12 := tapL.sl_max h12
 have H10 := hid h10; have H11 := hid h11; have H12 := hid h12
 have HX := hid hx
 have Z10 := hid h10.1; have Z11 := hid h11.1; have Z12 := hid h12.1
 clear h10 h11 h12 hx
 have hal := hs.all; have hdr := hs.drives; have hrw := hs.rows
 have HS := hid hs
 clear hs
 have HC : Hid (Chg [] w w) := Chg.refl _ _
 by_cases h1 : (l10 : Int) = x.sH.all
 rotate_left
 ·have HR := hid (show pb x.built = false from q0f (fun h => h1 (by rw [Z10.out]; exact h.1)))
  have e1 : ((l10 : Int) != x.sH.all) = true := by simp; exact h1
  clear h1
  go_enter Tryz.func117, Tryz.ntmps117
  go_wp2_with fail
  obtain ⟨SS1, HSI1, HSO1⟩ := q0j (fun w' => Know (w.heap.size) #[.int .i64 x.sH.gS, .int .i64 x.sH.cM, .int .i64 x.sH.data, .int .i64 x.sH.spare, .int .i64 x.sH.rows, .int .i64 x.sH.cap, .int .i64 x.sH.bT, .int .i64 x.sH.qU, .int .i64 x.sH.sG, .slice a10 l10 c10, .slice a11 l11 c11, .slice a12 l12 c12, .int .i64 x.wT, .int .i64 x.stop, .bool x.down] w' ∧ Know (w.heap.size + 1) #[.int .i64 x.sH.gS, .int .i64 x.sH.cM, .int .i64 x.sH.data, .int .i64 x.sH.spare, .int .i64 x.sH.rows, .int .i64 x.sH.cap, .int .i64 x.sH.bT, .int .i64 x.sH.qU, .int .i64 x.sH.sG] w')
  have hS0 := HSI1.out (((w.alloc (.cells #[.int .i64 x.sH.gS, .int .i64 x.sH.cM, .int .i64 x.sH.data, .int .i64 x.sH.spare, .int .i64 x.sH.rows, .int .i64 x.sH.cap, .int .i64 x.sH.bT, .int .i64 x.sH.qU, .int .i64 x.sH.sG, .slice a10 l10 c10, .slice a11 l11 c11, .slice a12 l12 c12, .int .i64 x.wT, .int .i64 x.stop, .bool x.down] 34)).alloc (.cells #[.int .i64 x.sH.gS, .int .i64 x.sH.cM, .int .i64 x.sH.data, .int .i64 x.sH.spare, .int .i64 x.sH.rows, .int .i64 x.sH.cap, .int .i64 x.sH.bT, .int .i64 x.sH.qU, .int .i64 x.sH.sG] 30)).drew) ⟨(Know.of (by refine q0a ?_; refine q0b ?_ _; exact q0e (by simp) _)), (Know.of (by refine q0a ?_; exact q0e (by simp) _))⟩
  refine q0k SS1 (by kernel_rfl) hS0 ?_
  refine rgT 0 hS0 ?_
  refine rgL 1 hS0 HSO1 ?_
  refine rgT 2 hS0 ?_
  refine rgL 3 hS0 HSO1 ?_
  refine q0d 4 rfl (by kernel_rfl) (fun K hK => ?_)
  go_simp
  go_at_call 100
  refine (q0r x.sH HS.out _).mono ?_
  rintro e w1 ⟨rfl, hc⟩
  obtain ⟨cW, lW, HBW⟩ := bk hc (b := w.heap.size) (q0a (q0b (q0e (by simp) _) _)) (by simp)
  obtain ⟨cS, lS, HBS⟩ := bk hc (b := w.heap.size + 1) (q0a (q0e (by simp) _)) (by simp)
  have h := Chg.trans0 (Chg.drew (Chg.alloc (Chg.alloc HC.out _) _)) hc; clear HC; have HC := hid h; clear h
  clear hc
  go_wp2_with fail
  refine hK.out _ _ (HSI1.out _ ⟨cW, cS⟩) (fun hS1 => ?_)
  clear hK K
  try simp only [Act.put, pA, pB, pC]
  refine rgT 5 hS1 ?_
  refine wpAnyH_done (by kernel_rfl) ?_ _
  go_wp2_with fail
  go_ret
  exact ⟨q0l HR.out.symm, HC.out⟩
 obtain ⟨_, bg, og, _, _, _, _, _, rfl, _, _⟩ := slc_at H10.out (show 0 < l10 by omega)
 have e1 : ((l10 : Int) != x.sH.all) = false := by simp; exact h1
 have HL1 := hid h1
 clear h1
 go_enter Tryz.func117, Tryz.ntmps117
 go_wp2_with fail
 obtain ⟨SS1, HSI1, HSO1⟩ := q0j (fun w' => Know (w.heap.size) #[.int .i64 x.sH.gS, .int .i64 x.sH.cM, .int .i64 x.sH.data, .int .i64 x.sH.spare, .int .i64 x.sH.rows, .int .i64 x.sH.cap, .int .i64 x.sH.bT, .int .i64 x.sH.qU, .int .i64 x.sH.sG, .slice (some ⟨bg, og, none⟩) l10 c10, .slice a11 l11 c11, .slice a12 l12 c12, .int .i64 x.wT, .int .i64 x.stop, .bool x.down] w' ∧ Know (w.heap.size + 1) #[.int .i64 x.sH.gS, .int .i64 x.sH.cM, .int .i64 x.sH.data, .int .i64 x.sH.spare, .int .i64 x.sH.rows, .int .i64 x.sH.cap, .int .i64 x.sH.bT, .int .i64 x.sH.qU, .int .i64 x.sH.sG] w')
 have hS0 := HSI1.out (((w.alloc (.cells #[.int .i64 x.sH.gS, .int .i64 x.sH.cM, .int .i64 x.sH.data, .int .i64 x.sH.spare, .int .i64 x.sH.rows, .int .i64 x.sH.cap, .int .i64 x.sH.bT, .int .i64 x.sH.qU, .int .i64 x.sH.sG, .slice (some ⟨bg, og, none⟩) l10 c10, .slice a11 l11 c11, .slice a12 l12 c12, .int .i64 x.wT, .int .i64 x.stop, .bool x.down] 34)).alloc (.cells #[.int .i64 x.sH.gS, .int .i64 x.sH.cM, .int .i64 x.sH.data, .int .i64 x.sH.spare, .int .i64 x.sH.rows, .int .i64 x.sH.cap, .int .i64 x.sH.bT, .int .i64 x.sH.qU, .int .i64 x.sH.sG] 30)).drew) ⟨(Know.of (by refine q0a ?_; refine q0b ?_ _; exact q0e (by simp) _)), (Know.of (by refine q0a ?_; exact q0e (by simp) _))⟩
 refine q0k SS1 (by kernel_rfl) hS0 ?_
 refine rgT 0 hS0 ?_
 refine rgL 1 hS0 HSO1 ?_
 refine rgT 2 hS0 ?_
 refine rgL 3 hS0 HSO1 ?_
 refine q0d 4 rfl (by kernel_rfl) (fun K hK => ?_)
 go_simp
 go_at_call 100
 refine (q0r x.sH HS.out _).mono ?_
 rintro e w1 ⟨rfl, hc⟩
 obtain ⟨cW, lW, HBW⟩ := bk hc (b := w.heap.size) (q0a (q0b (q0e (by simp) _) _)) (by simp)
 obtain ⟨cS, lS, HBS⟩ := bk hc (b := w.heap.size + 1) (q0a (q0e (by simp) _)) (by simp)
 have h := Chg.trans0 (Chg.drew (Chg.alloc (Chg.alloc HC.out _) _)) hc; clear HC; have HC := hid h; clear h
 clear hc
 go_wp2_with fail
 refine hK.out _ _ (HSI1.out _ ⟨cW, cS⟩) (fun hS1 => ?_)
 clear hK K
 try simp only [Act.put, pA, pB, pC]
 refine rgT 5 hS1 ?_
 refine wpAnyH_done (by kernel_rfl) ?_ _
 go_wp2_with fail
 go_loopw [4] (fun i wr => ∃ (k : Nat) (Wr : World), Wr = wr ∧ k ≤ l10 ∧ i = .int .i64 k ∧ Hid (∀ (j : Nat) y, j < k → x.gS[j]? = some y → GrpOk x.sH y) ∧ Chg [] w wr ∧ wr.heap[w.heap.size]? = some (.cells #[.int .i64 x.sH.gS, .int .i64 x.sH.cM, .int .i64 x.sH.data, .int .i64 x.sH.spare, .int .i64 x.sH.rows, .int .i64 x.sH.cap, .int .i64 x.sH.bT, .int .i64 x.sH.qU, .int .i64 x.sH.sG, .slice (some ⟨bg, og, none⟩) l10 c10, .slice a11 l11 c11, .slice a12 l12 c12, .int .i64 x.wT, .int .i64 x.stop, .bool x.down] 34 (0, 0)) ∧ wr.heap[w.heap.size + 1]? = some (.cells #[.int .i64 x.sH.gS, .int .i64 x.sH.cM, .int .i64 x.sH.data, .int .i64 x.sH.spare, .int .i64 x.sH.rows, .int .i64 x.sH.cap, .int .i64 x.sH.bT, .int .i64 x.sH.qU, .int .i64 x.sH.sG] 30 (0, 0))) (fun i _ => l10 - (intOf i).toNat)
 case atStart => exact ⟨0, _, rfl, by omega, rfl, hid (fun j y hj => by omega), HC.out, HBW.out, HBS.out⟩
 case round =>
  clear HBW cW lW HBS cS lS
  clear HC
  obtain ⟨k, w2, rfl, hk, rfl, HPk, hc, hbW, hbS⟩ := hrel
  have cW := cellsOf hbW; have lW := ltOf hbW; have HBW := hid hbW; clear hbW
  have cS := cellsOf hbS; have lS := ltOf hbS; have HBS := hid hbS; clear hbS
  have HC := hid hc; clear hc
  by_cases hlt : k < l10
  rotate_left
  ·obtain rfl : k = l10 := by omega
   have HR := hid (show pb x.built = true from q0g ⟨by rw [← Z10.out]; exact HL1.out, fun y hy => by
    obtain ⟨j, hj, rfl⟩ := List.getElem_of_mem hy
    exact HPk.out j _ (by have := Z10.out; omega) (List.getElem?_eq_getElem hj)⟩)
   go_wp2_with fail
   go_ret
   exact ⟨q0l HR.out.symm, HC.out⟩
  obtain ⟨y, b', o', A, ly, C, fy, HY, e', hcy, HYS⟩ := slc_at H10.out hlt
  obtain ⟨rfl, rfl⟩ : bg = b' ∧ og = o' := by simpa using e'
  have hmy := drvL.sl_max HYS.out
  have ZY := hid HYS.out.1
  have HYI := hid HY.out.1
  clear e'
  have HKg := hid (show w.cell? ⟨bg, og + k, none⟩ = some (.slice A ly C) from hcy); have HLg := hid (show bg < w.heap.size from Lay.sl_lt _ H10.out _ HY.out.2.1)
  obtain ⟨kg, jg⟩ := ck HC HKg HLg
  clear hcy HY
  by_cases h2 : (ly : Int) = x.sH.drives
  rotate_left
  ·have HR := hid (show pb x.built = false from q0f (fun h => h2 (by rw [ZY.out]; exact (h.2 y (List.mem_of_getElem? HYI.out)).1)))
   have e2 : ((ly : Int) != x.sH.drives) = true := by simp; exact h2
   clear h2
   go_wp2_with fail
   obtain ⟨SS2, HSI2, HSO2⟩ := q0j (fun w' => Know (w.heap.size) #[.int .i64 x.sH.gS, .int .i64 x.sH.cM, .int .i64 x.sH.data, .int .i64 x.sH.spare, .int .i64 x.sH.rows, .int .i64 x.sH.cap, .int .i64 x.sH.bT, .int .i64 x.sH.qU, .int .i64 x.sH.sG, .slice (some ⟨bg, og, none⟩) l10 c10, .slice a11 l11 c11, .slice a12 l12 c12, .int .i64 x.wT, .int .i64 x.stop, .bool x.down] w' ∧ Know (w.heap.size + 1) #[.int .i64 x.sH.gS, .int .i64 x.sH.cM, .int .i64 x.sH.data, .int .i64 x.sH.spare, .int .i64 x.sH.rows, .int .i64 x.sH.cap, .int .i64 x.sH.bT, .int .i64 x.sH.qU, .int .i64 x.sH.sG] w' ∧ w'.cell? ⟨bg, og + k, none⟩ = some (.slice A ly C))
   have hS0 := HSI2.out (w2.drew) ⟨(Know.of (by refine q0a ?_; exact HBW.out)), (Know.of (by refine q0a ?_; exact HBS.out)), (q0h (Chg.drew HC.out) HKg.out HLg.out)⟩
   refine q0k SS2 (by kernel_rfl) hS0 ?_
   refine rgT 0 hS0 ?_
   refine rgL 1 hS0 HSO2 ?_
   refine rgT 2 hS0 ?_
   refine rgT 3 hS0 ?_
   refine rgL 4 hS0 HSO2 ?_
   refine rgT 5 hS0 ?_
   refine rgL 6 hS0 HSO2 ?_
   refine q0d 7 rfl (by kernel_rfl) (fun K hK => ?_)
   go_simp
   go_at_call 191
   refine (q4x x.sH HS.out _).mono ?_
   rintro e w3 ⟨rfl, hc⟩
   have h := bk hc (q0a HBW.out) (by simp); clear HBW cW lW; obtain ⟨cW, lW, HBW⟩ := h
   have h := bk hc (q0a HBS.out) (by simp); clear HBS cS lS; obtain ⟨cS, lS, HBS⟩ := h
   have h := Chg.trans0 (Chg.drew HC.out) hc; clear HC; have HC := hid h; clear h
   clear hc
   clear kg jg; obtain ⟨kg, jg⟩ := ck HC HKg HLg
   go_wp2_with fail
   refine hK.out _ _ (HSI2.out _ ⟨cW, cS, (q0h HC.out HKg.out HLg.out)⟩) (fun hS1 => ?_)
   clear hK K
   try simp only [Act.put, pA, pB, pC]
   refine rgT 8 hS1 ?_
   refine wpAnyH_done (by kernel_rfl) ?_ _
   go_wp2_with fail
   go_ret
   exact ⟨q0l HR.out.symm, HC.out⟩
  obtain ⟨_, bd, od, _, _, _, _, _, rfl, _, _, _⟩ := q9g HYS.out (show 0 < ly by omega)
  have e2 : ((ly : Int) != x.sH.drives) = false := by simp; exact h2
  have HL2 := hid h2
  clear h2
  go_wp2_with fail
  obtain ⟨SS2, HSI2, HSO2⟩ := q0j (fun w' => Know (w.heap.size) #[.int .i64 x.sH.gS, .int .i64 x.sH.cM, .int .i64 x.sH.data, .int .i64 x.sH.spare, .int .i64 x.sH.rows, .int .i64 x.sH.cap, .int .i64 x.sH.bT, .int .i64 x.sH.qU, .int .i64 x.sH.sG, .slice (some ⟨bg, og, none⟩) l10 c10, .slice a11 l11 c11, .slice a12 l12 c12, .int .i64 x.wT, .int .i64 x.stop, .bool x.down] w' ∧ Know (w.heap.size + 1) #[.int .i64 x.sH.gS, .int .i64 x.sH.cM, .int .i64 x.sH.data, .int .i64 x.sH.spare, .int .i64 x.sH.rows, .int .i64 x.sH.cap, .int .i64 x.sH.bT, .int .i64 x.sH.qU, .int .i64 x.sH.sG] w' ∧ w'.cell? ⟨bg, og + k, none⟩ = some (.slice (some ⟨bd, od, none⟩) ly C))
  have hS0 := HSI2.out (w2.drew) ⟨(Know.of (by refine q0a ?_; exact HBW.out)), (Know.of (by refine q0a ?_; exact HBS.out)), (q0h (Chg.drew HC.out) HKg.out HLg.out)⟩
  refine q0k SS2 (by kernel_rfl) hS0 ?_
  refine rgT 0 hS0 ?_
  refine rgL 1 hS0 HSO2 ?_
  refine rgT 2 hS0 ?_
  refine rgT 3 hS0 ?_
  refine rgL 4 hS0 HSO2 ?_
  refine rgT 5 hS0 ?_
  refine rgL 6 hS0 HSO2 ?_
  refine q0d 7 rfl (by kernel_rfl) (fun K hK => ?_)
  go_simp
  go_at_call 191
  refine (q4x x.sH HS.out _).mono ?_
  rintro e w3 ⟨rfl, hc⟩
  have h := bk hc (q0a HBW.out) (by simp); clear HBW cW lW; obtain ⟨cW, lW, HBW⟩ := h
  have h := bk hc (q0a HBS.out) (by simp); clear HBS cS lS; obtain ⟨cS, lS, HBS⟩ := h
  have h := Chg.trans0 (Chg.drew HC.out) hc; clear HC; have HC := hid h; clear h
  clear hc
  clear kg jg; obtain ⟨kg, jg⟩ := ck HC HKg HLg
  go_wp2_with fail
  refine hK.out _ _ (HSI2.out _ ⟨cW, cS, (q0h HC.out HKg.out HLg.out)⟩) (fun hS1 => ?_)
  clear hK K
  try simp only [Act.put, pA, pB, pC]
  refine rgT 8 hS1 ?_
  refine wpAnyH_done (by kernel_rfl) ?_ _
  go_wp2_with fail
  go_loopw [5] (fun i wr => ∃ (m : Nat) (Wr : World), Wr = wr ∧ m ≤ ly ∧ i = .int .i64 m ∧ Hid (∀ (j : Nat) d, j < m → y[j]? = some d → d.okAt x.sH) ∧ Chg [] w wr ∧ wr.heap[w.heap.size]? = some (.cells #[.int .i64 x.sH.gS, .int .i64 x.sH.cM, .int .i64 x.sH.data, .int .i64 x.sH.spare, .int .i64 x.sH.rows, .int .i64 x.sH.cap, .int .i64 x.sH.bT, .int .i64 x.sH.qU, .int .i64 x.sH.sG, .slice (some ⟨bg, og, none⟩) l10 c10, .slice a11 l11 c11, .slice a12 l12 c12, .int .i64 x.wT, .int .i64 x.stop, .bool x.down] 34 (0, 0)) ∧ wr.heap[w.heap.size + 1]? = some (.cells #[.int .i64 x.sH.gS, .int .i64 x.sH.cM, .int .i64 x.sH.data, .int .i64 x.sH.spare, .int .i64 x.sH.rows, .int .i64 x.sH.cap, .int .i64 x.sH.bT, .int .i64 x.sH.qU, .int .i64 x.sH.sG] 30 (0, 0))) (fun i _ => ly - (intOf i).toNat)
  case atStart => exact ⟨0, _, rfl, by omega, rfl, hid (fun j y hj => by omega), HC.out, HBW.out, HBS.out⟩
  case round =>
   clear kg jg
   clear HBW cW lW HBS cS lS
   clear HC
   obtain ⟨m, w4, rfl, hm, rfl, HPm, hc, hbW, hbS⟩ := hrel
   have cW := cellsOf hbW; have lW := ltOf hbW; have HBW := hid hbW; clear hbW
   have cS := cellsOf hbS; have lS := ltOf hbS; have HBS := hid hbS; clear hbS
   have HC := hid hc; clear hc
   obtain ⟨kg, jg⟩ := ck HC HKg HLg
   by_cases hlt2 : m < ly
   rotate_left
   ·obtain rfl : m = ly := by omega
    have HP2 := hid (show ∀ (j : Nat) z, j < k + 1 → x.gS[j]? = some z → GrpOk x.sH z from fun j z hj hz => by
     by_cases e : j = k
     ·subst e
      rw [Option.some.inj (hz.symm.trans HYI.out)]
      exact ⟨by rw [← ZY.out]; exact HL2.out, fun d hd => by
       obtain ⟨i, hi, rfl⟩ := List.getElem_of_mem hd
       exact HPm.out i _ (by have := ZY.out; omega) (List.getElem?_eq_getElem hi)⟩
     ·exact HPk.out j z (by omega) hz)
    go_wp2_with fail
    go_roundw
    case rel => exact ⟨k + 1, _, rfl, by omega, by go_num, HP2, HC.out, HBW.out, HBS.out⟩
    case measure => simp [intOf]; omega
   obtain ⟨d, b2, o2, a1, l1, c1, fd, HD, e2', hcd0, hcd1, HDS⟩ := q9g HYS.out hlt2
   obtain ⟨rfl, rfl⟩ : bd = b2 ∧ od = o2 := by simpa using e2'
   obtain ⟨_, _, _, fb, exb, hbl, -⟩ := q6x.1 HDS.out
   obtain ⟨q1, q2, q3⟩ := Value.slice.inj (List.cons.inj (List.cons.inj exb).2).1
   subst q1 q2 q3
   have hmb := blkL.sl_max hbl
   have ZB := hid hbl.1
   have HBL := hid hbl
   have HDI := hid HD.out.1
   clear e2' hcd0
   have HKd := hid (show w.cell? ⟨bd, od + m * 2 + 1, none⟩ = some (.slice a1 l1 c1) from hcd1); have HLd := hid (show bd < w.heap.size from Lay.sl_lt _ HYS.out _ HD.out.2.1)
   obtain ⟨kd, jd⟩ := ck HC HKd HLd
   clear hcd1 exb hbl HD HDS
   by_cases h3 : (l1 : Int) = x.sH.rows
   rotate_left
   ·have HR := hid (show pb x.built = false from q0f (fun h => h3 (by rw [ZB.out]; exact ((h.2 y (List.mem_of_getElem? HYI.out)).2 d (List.mem_of_getElem? HDI.out)).1)))
    have e3 : ((l1 : Int) != x.sH.rows) = true := by simp; exact h3
    clear h3
    go_wp2_with fail
    go_ret
    exact ⟨q0l HR.out.symm, HC.out⟩
   obtain ⟨_, bb, ob, _, _, _, _, _, rfl, _, _, _⟩ := q9m HBL.out (show 0 < l1 by omega)
   have e3 : ((l1 : Int) != x.sH.rows) = false := by simp; exact h3
   have HL3 := hid h3
   clear h3
   go_wp2_with fail
   go_loopw [7] (fun i wr => ∃ (p : Nat) (Wr : World), Wr = wr ∧ p ≤ l1 ∧ i = .int .i64 p ∧ Hid (∀ (j : Nat) b, j < p → d.blocks[j]? = some b → b.ok) ∧ Chg [] w wr ∧ wr.heap[w.heap.size]? = some (.cells #[.int .i64 x.sH.gS, .int .i64 x.sH.cM, .int .i64 x.sH.data, .int .i64 x.sH.spare, .int .i64 x.sH.rows, .int .i64 x.sH.cap, .int .i64 x.sH.bT, .int .i64 x.sH.qU, .int .i64 x.sH.sG, .slice (some ⟨bg, og, none⟩) l10 c10, .slice a11 l11 c11, .slice a12 l12 c12, .int .i64 x.wT, .int .i64 x.stop, .bool x.down] 34 (0, 0)) ∧ wr.heap[w.heap.size + 1]? = some (.cells #[.int .i64 x.sH.gS, .int .i64 x.sH.cM, .int .i64 x.sH.data, .int .i64 x.sH.spare, .int .i64 x.sH.rows, .int .i64 x.sH.cap, .int .i64 x.sH.bT, .int .i64 x.sH.qU, .int .i64 x.sH.sG] 30 (0, 0))) (fun i _ => l1 - (intOf i).toNat)
   case atStart => exact ⟨0, _, rfl, by omega, rfl, hid (fun j y hj => by omega), HC.out, HBW.out, HBS.out⟩
   case round =>
    clear kg jg kd jd
    clear HBW cW lW HBS cS lS
    clear HC
    obtain ⟨p, w5, rfl, hp, rfl, HPp, hc, hbW, hbS⟩ := hrel
    have cW := cellsOf hbW; have lW := ltOf hbW; have HBW := hid hbW; clear hbW
    have cS := cellsOf hbS; have lS := ltOf hbS; have HBS := hid hbS; clear hbS
    have HC := hid hc; clear hc
    obtain ⟨kg, jg⟩ := ck HC HKg HLg
    obtain ⟨kd, jd⟩ := ck HC HKd HLd
    by_cases hlt3 : p < l1
    rotate_left
    ·obtain rfl : p = l1 := by omega
     have HP3 := hid (show ∀ (j : Nat) z, j < m + 1 → y[j]? = some z → z.okAt x.sH from fun j z hj hz => by
      by_cases e : j = m
      ·subst e
       rw [Option.some.inj (hz.symm.trans HDI.out)]
       exact ⟨by rw [← ZB.out]; exact HL3.out, fun d hd => by
        obtain ⟨i, hi, rfl⟩ := List.getElem_of_mem hd
        exact HPp.out i _ (by have := ZB.out; omega) (List.getElem?_eq_getElem hi)⟩
      ·exact HPm.out j z (by omega) hz)
     go_wp2_with fail
     go_roundw
     case rel => exact ⟨m + 1, _, rfl, by omega, by go_num, HP3, HC.out, HBW.out, HBS.out⟩
     case measure => simp [intOf]; omega
    obtain ⟨z, b3, o3, a2, l2, c2, f2, HZ, e3', hb0, hb1, HBS⟩ := q9m HBL.out hlt3
    obtain ⟨rfl, rfl⟩ : bb = b3 ∧ ob = o3 := by simpa using e3'
    obtain ⟨_, _, _, _, exz, -, hbz, -⟩ := q4m.1 HBS.out
    obtain ⟨q1, q2, q3⟩ := Value.slice.inj (List.cons.inj (List.cons.inj exz).2).1
    subst q1 q2 q3
    have hmz := q0p.sl_max hbz
    have ZZ := hid hbz.1
    have HZI := hid HZ.out.1
    clear e3'
    have HKs := hid (show w.cell? ⟨bb, ob + p * 2, none⟩ = some (.int .i64 z.sM) from hb0); have HLs := hid (show bb < w.heap.size from Lay.sl_lt _ HBL.out _ HZ.out.2.1)
    obtain ⟨ks, js⟩ := ck HC HKs HLs
    have HKq := hid (show w.cell? ⟨bb, ob + p * 2 + 1, none⟩ = some (.slice a2 l2 c2) from hb1); have HLq := hid (show bb < w.heap.size from Lay.sl_lt _ HBL.out _ HZ.out.2.1)
    obtain ⟨kq, jq⟩ := ck HC HKq HLq
    clear hb0 hb1 exz hbz HZ HBS
    by_cases h4 : 0 ≤ z.sM ∧ z.sM ≤ 1000000000
    rotate_left
    ·have HR := hid (show pb x.built = false from q0f (fun h => (fun hk => h4 hk.1) (((h.2 y (List.mem_of_getElem? HYI.out)).2 d (List.mem_of_getElem? HDI.out)).2 z (List.mem_of_getElem? HZI.out))))
     have hi4 := q1t h4
     clear h4
     go_wp2_with fail
     refine (q0w z.sM 0 1000000000 _).mono ?_
     rintro e w6 ⟨rfl, hc⟩
     rw [hi4]
     have h := bk0 hc HBW.out; clear HBW cW lW; obtain ⟨cW, lW, HBW⟩ := h
     have h := bk0 hc HBS.out; clear HBS cS lS; obtain ⟨cS, lS, HBS⟩ := h
     replace HC := hct HC hc
     clear hc
     clear kg jg; obtain ⟨kg, jg⟩ := ck HC HKg HLg
     clear kd jd; obtain ⟨kd, jd⟩ := ck HC HKd HLd
     clear ks js; obtain ⟨ks, js⟩ := ck HC HKs HLs
     clear kq jq; obtain ⟨kq, jq⟩ := ck HC HKq HLq
     go_wp2_with fail
     go_ret
     exact ⟨q0l HR.out.symm, HC.out⟩
    have hi4 := q1m h4.1 h4.2
    have HI4 := hid h4
    clear h4
    by_cases h5 : l2 = 4
    rotate_left
    ·have HR := hid (show pb x.built = false from q0f (fun h => (fun hk => h5 (by rw [ZZ.out]; exact hk.2)) (((h.2 y (List.mem_of_getElem? HYI.out)).2 d (List.mem_of_getElem? HDI.out)).2 z (List.mem_of_getElem? HZI.out))))
     have e5 : ((l2 : Int) != 4) = true := by simp; omega
     clear h5
     go_wp2_with fail
     refine (q0w z.sM 0 1000000000 _).mono ?_
     rintro e w6 ⟨rfl, hc⟩
     rw [hi4]
     have h := bk0 hc HBW.out; clear HBW cW lW; obtain ⟨cW, lW, HBW⟩ := h
     have h := bk0 hc HBS.out; clear HBS cS lS; obtain ⟨cS, lS, HBS⟩ := h
     replace HC := hct HC hc
     clear hc
     clear kg jg; obtain ⟨kg, jg⟩ := ck HC HKg HLg
     clear kd jd; obtain ⟨kd, jd⟩ := ck HC HKd HLd
     clear ks js; obtain ⟨ks, js⟩ := ck HC HKs HLs
     clear kq jq; obtain ⟨kq, jq⟩ := ck HC HKq HLq
     go_wp2_with fail
     go_ret
     exact ⟨q0l HR.out.symm, HC.out⟩
    have e5 : ((l2 : Int) != 4) = false := by simp; omega
    have HP4 := hid (show ∀ (j : Nat) b, j < p + 1 → d.blocks[j]? = some b → b.ok from fun j b hj hb => by
     by_cases e : j = p
     ·subst e; rw [Option.some.inj (hb.symm.trans HZI.out)]; exact ⟨HI4.out, by rw [← ZZ.out]; exact h5⟩
     ·exact HPp.out j b (by omega) hb)
    clear h5
    go_wp2_with fail
    refine (q0w z.sM 0 1000000000 _).mono ?_
    rintro e w6 ⟨rfl, hc⟩
    rw [hi4]
    have h := bk0 hc HBW.out; clear HBW cW lW; obtain ⟨cW, lW, HBW⟩ := h
    have h := bk0 hc HBS.out; clear HBS cS lS; obtain ⟨cS, lS, HBS⟩ := h
    replace HC := hct HC hc
    clear hc
    clear kg jg; obtain ⟨kg, jg⟩ := ck HC HKg HLg
    clear kd jd; obtain ⟨kd, jd⟩ := ck HC HKd HLd
    clear ks js; obtain ⟨ks, js⟩ := ck HC HKs HLs
    clear kq jq; obtain ⟨kq, jq⟩ := ck HC HKq HLq
    go_wp2_with fail
    go_roundw
    case rel => exact ⟨p + 1, _, rfl, by omega, by go_num, HP4, HC.out, HBW.out, HBS.out⟩
    case measure => simp [intOf]; omega
theorem szD_any (a : Option Addr) (la ca : Nat) (w : World) :
  Calls Tryz.prog 216 #[.slice a la ca] w fun e w' => e = .returned (.int .i64 (la : Int)) ∧ Chg [] w w' := by
 go_enter Tryz.func216, Tryz.ntmps216
 go_wp2
 go_ret
 exact ⟨rfl, Chg.refl _ _⟩
theorem szDS_any (a : Option Addr) (la ca : Nat) (w : World) :
  Calls Tryz.prog 215 #[.slice a la ca] w fun e w' => e = .returned (.int .i64 (la : Int)) ∧ Chg [] w w' := by
 go_enter Tryz.func215, Tryz.ntmps215
 go_wp2
 go_ret
 exact ⟨rfl, Chg.refl _ _⟩
theorem szK_any (a : Option Addr) (la ca : Nat) (w : World) :
  Calls Tryz.prog 217 #[.slice a la ca] w fun e w' => e = .returned (.int .i64 (la : Int)) ∧ Chg [] w w' := by
 go_enter Tryz.func217, Tryz.ntmps217
 go_wp2
 go_ret
 exact ⟨rfl, Chg.refl _ _⟩
theorem blockOK_any (x : Blk) (a1 : Option Addr) (l1 c1 : Nat) (f : List Nat) (w : World) (hx : blkL.rep w [.int .i64 x.sM, .slice a1 l1 c1] x f) :
  Calls Tryz.prog 135 #[.agg #[.int .i64 x.sM, .slice a1 l1 c1]] w fun e w' => e = .returned (.bool (pb x.ok)) ∧ Chg [] w w' := by
 obtain ⟨_, _, _, _, ex, -, h1, -⟩ := q4m.1 hx
 obtain ⟨e1, e2, e3⟩ := Value.slice.inj (List.cons.inj (List.cons.inj ex).2).1
 subst e1 e2 e3
 have HL := hid h1.1
 clear hx h1 ex
 by_cases h0 : 0 ≤ x.sM ∧ x.sM ≤ 1000000000
 ·have h := q1m h0.1 h0.2
  by_cases hl : l1 = 4
  ·have HR := hid (show pb x.ok = true from q0g ⟨h0, by rw [← HL.out, hl]⟩)
   have he : ((l1 : Int) == 4) = true := by simp; omega
   clear h0 hl
   go_enter Tryz.func135, Tryz.ntmps135
   go_wp2_with fail
   refine (q2a x.sM 0 1000000000 _).mono ?_; rintro e w' ⟨rfl, rfl⟩
   rw [h]
   go_wp2_with fail
   go_ret
   exact ⟨q0l HR.out.symm, (Chg.refl [] w).alloc _⟩
  ·have HR := hid (show pb x.ok = false from q0f (fun hk => hl (by rw [HL.out]; exact hk.2)))
   have he : ((l1 : Int) == 4) = false := by simp; omega
   clear h0 hl
   go_enter Tryz.func135, Tryz.ntmps135
   go_wp2_with fail
   refine (q2a x.sM 0 1000000000 _).mono ?_; rintro e w' ⟨rfl, rfl⟩
   rw [h]
   go_wp2_with fail
   go_ret
   exact ⟨q0l HR.out.symm, (Chg.refl [] w).alloc _⟩
 ·have h := q1t h0
  have HR := hid (show pb x.ok = false from q0f (fun hk => h0 hk.1))
  clear h0
  go_enter Tryz.func135, Tryz.ntmps135
  go_wp2_with fail
  refine (q2a x.sM 0 1000000000 _).mono ?_; rintro e w' ⟨rfl, rfl⟩
  rw [h]
  go_wp2_with fail
  go_ret
  exact ⟨q0l HR.out.symm, (Chg.refl [] w).alloc _⟩
theorem q6r (xs : List Blk) (w : World) : q6l 219 #[] (fun b => !pb b.ok) xs w := by
 intro x a1 l1 c1 f w1 _ _ hx
 show Calls _ _ #[.agg #[.int .i64 x.sM, .slice a1 l1 c1]] _ _
 have HX := hid (fun (w : World) (h : Chg [] w1 w) => blockOK_any x a1 l1 c1 f w (blkL.ext hx h))
 clear hx
 go_enter Tryz.func219, Tryz.ntmps219
 go_wp2_with fail
 refine (HX.out _ ((Chg.refl [] w1).alloc _)).mono ?_
 rintro e w2 ⟨rfl, hc⟩
 have HC := hid (((Chg.refl [] w1).alloc _).trans0 hc); clear hc
 go_wp2_with fail
 go_ret
 exact ⟨rfl, HC.out⟩
theorem any_bad {xs : List Blk} : xs.any (fun b => !pb b.ok) = !pb (∀ b ∈ xs, b.ok) := by
 by_cases h : ∀ b ∈ xs, b.ok
 ·rw [q0g h, Bool.not_true, List.any_eq_false]
  intro b hb; rw [q0g (h b hb)]; simp
 ·rw [q0f h, Bool.not_false, List.any_eq_true]
  refine Classical.byContradiction (fun hn => h (fun b hb => Classical.byContradiction (fun hk => hn ⟨b, hb, by rw [q0f hk]; rfl⟩)))
theorem q2j (x : Wld) (hs : x.sH.ok) (cx : Array Value) (fx : List Nat) (w : World) (hx : wldL.rep w cx.toList x fx) :
  Calls Tryz.prog 144 #[.agg cx] w fun e w' => e = .returned (.bool (pb x.built)) ∧ Chg [] w w' := by
 obtain ⟨a10, l10, c10, f10, a11, l11, c11, f11, a12, l12, c12, f12, ex, o1, o2, o3, o4, o5, o6, o7, o8, o9, h10, h11, h12, o13, o14, -⟩ := q1a.1 hx
 clear o1 o2 o3 o4 o5 o6 o7 o8 o9
 obtain rfl := Array.toList_inj.1 (ex.trans (List.toList_toArray).symm)
 clear ex
 have q10 := drvL.slice.sl_max h10; have q11 := intL.sl_max h11; have q12 := tapL.sl_max h12
 have H10 := hid h10; have H11 := hid h11; have H12 := hid h12
 have HX := hid hx
 have Z10 := hid h10.1; have Z11 := hid h11.1; have Z12 := hid h12.1
 clear h10 h11 h12 hx
 have hal := hs.all; have hdr := hs.drives; have hrw := hs.rows
 have HS := hid hs
 clear hs
 by_cases h1 : (l10 : Int) = x.sH.all
 rotate_left
 ·have HR := hid (show pb x.built = false from q0f (fun h => h1 (by rw [Z10.out]; exact h.1)))
  have e1 : ((l10 : Int) != x.sH.all) = true := by simp; exact h1
  clear h1
  have HC : Hid (Chg [] w w) := Chg.refl _ _
  go_enter Tryz.func144, Tryz.ntmps144
  go_wp2_with fail
  obtain ⟨SS1, HSI1, HSO1⟩ := q0j (fun w' => Know (w.heap.size) #[.int .i64 x.sH.gS, .int .i64 x.sH.cM, .int .i64 x.sH.data, .int .i64 x.sH.spare, .int .i64 x.sH.rows, .int .i64 x.sH.cap, .int .i64 x.sH.bT, .int .i64 x.sH.qU, .int .i64 x.sH.sG, .slice a10 l10 c10, .slice a11 l11 c11, .slice a12 l12 c12, .int .i64 x.wT, .int .i64 x.stop, .bool x.down] w' ∧ Know (w.heap.size + 1) #[.int .i64 x.sH.gS, .int .i64 x.sH.cM, .int .i64 x.sH.data, .int .i64 x.sH.spare, .int .i64 x.sH.rows, .int .i64 x.sH.cap, .int .i64 x.sH.bT, .int .i64 x.sH.qU, .int .i64 x.sH.sG] w')
  have hS0 := HSI1.out (((w.alloc (.cells #[.int .i64 x.sH.gS, .int .i64 x.sH.cM, .int .i64 x.sH.data, .int .i64 x.sH.spare, .int .i64 x.sH.rows, .int .i64 x.sH.cap, .int .i64 x.sH.bT, .int .i64 x.sH.qU, .int .i64 x.sH.sG, .slice a10 l10 c10, .slice a11 l11 c11, .slice a12 l12 c12, .int .i64 x.wT, .int .i64 x.stop, .bool x.down] 34)).alloc (.cells #[.int .i64 x.sH.gS, .int .i64 x.sH.cM, .int .i64 x.sH.data, .int .i64 x.sH.spare, .int .i64 x.sH.rows, .int .i64 x.sH.cap, .int .i64 x.sH.bT, .int .i64 x.sH.qU, .int .i64 x.sH.sG] 30)).drew) ⟨(Know.of (by refine q0a ?_; refine q0b ?_ _; exact q0e (by simp) _)), (Know.of (by refine q0a ?_; exact q0e (by simp) _))⟩
  refine q0k SS1 (by kernel_rfl) hS0 ?_
  refine rgT 0 hS0 ?_
  refine rgL 1 hS0 HSO1 ?_
  refine rgL 3 hS0 HSO1 ?_
  refine q0d 2 rfl (by kernel_rfl) (fun K hK => ?_)
  go_simp
  go_at_call 215
  refine (szDS_any _ l10 c10 _).mono ?_
  rintro e w1 ⟨rfl, hc⟩
  obtain ⟨cW, lW, HBW⟩ := bk hc (b := w.heap.size) (q0a (q0b (q0e (by simp) _) _)) (by simp)
  obtain ⟨cS, lS, HBS⟩ := bk hc (b := w.heap.size + 1) (q0a (q0e (by simp) _)) (by simp)
  have h := Chg.trans0 (Chg.drew (Chg.alloc (Chg.alloc HC.out _) _)) hc; clear HC; have HC := hid h; clear h
  clear hc
  go_wp2_with fail
  refine hK.out _ _ (HSI1.out _ ⟨cW, cS⟩) (fun hS1 => ?_)
  clear hK K
  try simp only [Act.put, pA, pB, pC]
  refine q0d 4 rfl (by kernel_rfl) (fun K hK => ?_)
  go_simp
  go_at_call 179
  refine (q3t x.sH HS.out _).mono ?_
  rintro e w2 ⟨rfl, hc⟩
  have h := bk0 hc HBW.out; clear HBW cW lW; obtain ⟨cW, lW, HBW⟩ := h
  have h := bk0 hc HBS.out; clear HBS cS lS; obtain ⟨cS, lS, HBS⟩ := h
  replace HC := hct HC hc
  clear hc
  go_wp2_with fail
  refine hK.out _ _ (HSI1.out _ ⟨cW, cS⟩) (fun hS2 => ?_)
  clear hK K
  try simp only [Act.put, pA, pB, pC]
  refine rgT 5 hS2 ?_
  refine wpAnyH_done (by kernel_rfl) ?_ _
  go_wp2_with fail
  go_ret
  exact ⟨q0l HR.out.symm, HC.out⟩
 obtain ⟨_, bg, og, _, _, _, _, _, rfl, _, _⟩ := slc_at H10.out (show 0 < l10 by omega)
 have e1 : ((l10 : Int) != x.sH.all) = false := by simp; exact h1
 have HL1 := hid h1
 clear h1
 have HC : Hid (Chg [] w w) := Chg.refl _ _
 go_enter Tryz.func144, Tryz.ntmps144
 go_wp2_with fail
 obtain ⟨SS1, HSI1, HSO1⟩ := q0j (fun w' => Know (w.heap.size) #[.int .i64 x.sH.gS, .int .i64 x.sH.cM, .int .i64 x.sH.data, .int .i64 x.sH.spare, .int .i64 x.sH.rows, .int .i64 x.sH.cap, .int .i64 x.sH.bT, .int .i64 x.sH.qU, .int .i64 x.sH.sG, .slice (some ⟨bg, og, none⟩) l10 c10, .slice a11 l11 c11, .slice a12 l12 c12, .int .i64 x.wT, .int .i64 x.stop, .bool x.down] w' ∧ Know (w.heap.size + 1) #[.int .i64 x.sH.gS, .int .i64 x.sH.cM, .int .i64 x.sH.data, .int .i64 x.sH.spare, .int .i64 x.sH.rows, .int .i64 x.sH.cap, .int .i64 x.sH.bT, .int .i64 x.sH.qU, .int .i64 x.sH.sG] w')
 have hS0 := HSI1.out (((w.alloc (.cells #[.int .i64 x.sH.gS, .int .i64 x.sH.cM, .int .i64 x.sH.data, .int .i64 x.sH.spare, .int .i64 x.sH.rows, .int .i64 x.sH.cap, .int .i64 x.sH.bT, .int .i64 x.sH.qU, .int .i64 x.sH.sG, .slice (some ⟨bg, og, none⟩) l10 c10, .slice a11 l11 c11, .slice a12 l12 c12, .int .i64 x.wT, .int .i64 x.stop, .bool x.down] 34)).alloc (.cells #[.int .i64 x.sH.gS, .int .i64 x.sH.cM, .int .i64 x.sH.data, .int .i64 x.sH.spare, .int .i64 x.sH.rows, .int .i64 x.sH.cap, .int .i64 x.sH.bT, .int .i64 x.sH.qU, .int .i64 x.sH.sG] 30)).drew) ⟨(Know.of (by refine q0a ?_; refine q0b ?_ _; exact q0e (by simp) _)), (Know.of (by refine q0a ?_; exact q0e (by simp) _))⟩
 refine q0k SS1 (by kernel_rfl) hS0 ?_
 refine rgT 0 hS0 ?_
 refine rgL 1 hS0 HSO1 ?_
 refine rgL 3 hS0 HSO1 ?_
 refine q0d 2 rfl (by kernel_rfl) (fun K hK => ?_)
 go_simp
 go_at_call 215
 refine (szDS_any _ l10 c10 _).mono ?_
 rintro e w1 ⟨rfl, hc⟩
 obtain ⟨cW, lW, HBW⟩ := bk hc (b := w.heap.size) (q0a (q0b (q0e (by simp) _) _)) (by simp)
 obtain ⟨cS, lS, HBS⟩ := bk hc (b := w.heap.size + 1) (q0a (q0e (by simp) _)) (by simp)
 have h := Chg.trans0 (Chg.drew (Chg.alloc (Chg.alloc HC.out _) _)) hc; clear HC; have HC := hid h; clear h
 clear hc
 go_wp2_with fail
 refine hK.out _ _ (HSI1.out _ ⟨cW, cS⟩) (fun hS1 => ?_)
 clear hK K
 try simp only [Act.put, pA, pB, pC]
 refine q0d 4 rfl (by kernel_rfl) (fun K hK => ?_)
 go_simp
 go_at_call 179
 refine (q3t x.sH HS.out _).mono ?_
 rintro e w2 ⟨rfl, hc⟩
 have h := bk0 hc HBW.out; clear HBW cW lW; obtain ⟨cW, lW, HBW⟩ := h
 have h := bk0 hc HBS.out; clear HBS cS lS; obtain ⟨cS, lS, HBS⟩ := h
 replace HC := hct HC hc
 clear hc
 go_wp2_with fail
 refine hK.out _ _ (HSI1.out _ ⟨cW, cS⟩) (fun hS2 => ?_)
 clear hK K
 try simp only [Act.put, pA, pB, pC]
 refine rgT 5 hS2 ?_
 refine wpAnyH_done (by kernel_rfl) ?_ _
 go_wp2_with fail
 go_loopw [19] (fun i wr => ∃ (k : Nat) (Wr : World), Wr = wr ∧ k ≤ l10 ∧ i = .int .i64 k ∧ Hid (∀ (j : Nat) y, j < k → x.gS[j]? = some y → GrpOk x.sH y) ∧ Chg [] w wr ∧ wr.heap[w.heap.size]? = some (.cells #[.int .i64 x.sH.gS, .int .i64 x.sH.cM, .int .i64 x.sH.data, .int .i64 x.sH.spare, .int .i64 x.sH.rows, .int .i64 x.sH.cap, .int .i64 x.sH.bT, .int .i64 x.sH.qU, .int .i64 x.sH.sG, .slice (some ⟨bg, og, none⟩) l10 c10, .slice a11 l11 c11, .slice a12 l12 c12, .int .i64 x.wT, .int .i64 x.stop, .bool x.down] 34 (0, 0)) ∧ wr.heap[w.heap.size + 1]? = some (.cells #[.int .i64 x.sH.gS, .int .i64 x.sH.cM, .int .i64 x.sH.data, .int .i64 x.sH.spare, .int .i64 x.sH.rows, .int .i64 x.sH.cap, .int .i64 x.sH.bT, .int .i64 x.sH.qU, .int .i64 x.sH.sG] 30 (0, 0))) (fun i _ => l10 - (intOf i).toNat)
 case atStart => exact ⟨0, _, rfl, by omega, rfl, hid (fun j y hj => by omega), HC.out, HBW.out, HBS.out⟩
 case round =>
  clear HBW cW lW HBS cS lS
  clear HC
  obtain ⟨k, w3, rfl, hk, rfl, HPk, hc, hbW, hbS⟩ := hrel
  have cW := cellsOf hbW; have lW := ltOf hbW; have HBW := hid hbW; clear hbW
  have cS := cellsOf hbS; have lS := ltOf hbS; have HBS := hid hbS; clear hbS
  have HC := hid hc; clear hc
  by_cases hlt : k < l10
  rotate_left
  ·obtain rfl : k = l10 := by omega
   have HR := hid (show pb x.built = true from q0g ⟨by rw [← Z10.out]; exact HL1.out, fun y hy => by
    obtain ⟨j, hj, rfl⟩ := List.getElem_of_mem hy
    exact HPk.out j _ (by have := Z10.out; omega) (List.getElem?_eq_getElem hj)⟩)
   go_wp2_with fail
   go_ret
   exact ⟨q0l HR.out.symm, HC.out⟩
  obtain ⟨y, b', o', A, ly, C, fy, HY, e', hcy, HYS⟩ := slc_at (drvL.slice.sl_ext H10.out HC.out) hlt
  obtain ⟨rfl, rfl⟩ : bg = b' ∧ og = o' := by simpa using e'
  have hmy := drvL.sl_max HYS.out
  have ZY := hid HYS.out.1
  have HYI := hid HY.out.1
  clear e' HY
  by_cases h2 : (ly : Int) = x.sH.drives
  rotate_left
  ·have HR := hid (show pb x.built = false from q0f (fun h => h2 (by rw [ZY.out]; exact (h.2 y (List.mem_of_getElem? HYI.out)).1)))
   have e2 : ((ly : Int) != x.sH.drives) = true := by simp; exact h2
   clear h2
   go_wp2_with fail
   obtain ⟨SS2, HSI2, HSO2⟩ := q0j (fun w' => Know (w.heap.size + 1) #[.int .i64 x.sH.gS, .int .i64 x.sH.cM, .int .i64 x.sH.data, .int .i64 x.sH.spare, .int .i64 x.sH.rows, .int .i64 x.sH.cap, .int .i64 x.sH.bT, .int .i64 x.sH.qU, .int .i64 x.sH.sG] w')
   have hS0 := HSI2.out (w3.drew) (Know.of (by refine q0a ?_; exact HBS.out))
   refine q0k SS2 (by kernel_rfl) hS0 ?_
   refine rgT 0 hS0 ?_
   refine rgL 2 hS0 HSO2 ?_
   refine q0d 1 rfl (by kernel_rfl) (fun K hK => ?_)
   go_simp
   go_at_call 216
   refine (szD_any A ly C _).mono ?_
   rintro e w4 ⟨rfl, hc⟩
   have h := bk hc (q0a HBW.out) (by simp); clear HBW cW lW; obtain ⟨cW, lW, HBW⟩ := h
   have h := bk hc (q0a HBS.out) (by simp); clear HBS cS lS; obtain ⟨cS, lS, HBS⟩ := h
   have h := Chg.trans0 (Chg.drew HC.out) hc; clear HC; have HC := hid h; clear h
   clear hc
   go_wp2_with fail
   refine hK.out _ _ (HSI2.out _ cS) (fun hS1 => ?_)
   clear hK K
   try simp only [Act.put, pA, pB, pC]
   refine q0d 3 rfl (by kernel_rfl) (fun K hK => ?_)
   go_simp
   go_at_call 212
   refine (q8o x.sH HS.out _).mono ?_
   rintro e w5 ⟨rfl, hc⟩
   have h := bk0 hc HBW.out; clear HBW cW lW; obtain ⟨cW, lW, HBW⟩ := h
   have h := bk0 hc HBS.out; clear HBS cS lS; obtain ⟨cS, lS, HBS⟩ := h
   replace HC := hct HC hc
   clear hc
   go_wp2_with fail
   refine hK.out _ _ (HSI2.out _ cS) (fun hS2 => ?_)
   clear hK K
   try simp only [Act.put, pA, pB, pC]
   refine rgT 4 hS2 ?_
   refine wpAnyH_done (by kernel_rfl) ?_ _
   go_wp2_with fail
   go_ret
   exact ⟨q0l HR.out.symm, HC.out⟩
  have e2 : ((ly : Int) != x.sH.drives) = false := by simp; exact h2
  have HL2 := hid h2
  have HYB := HYS
  clear h2 HYS
  go_wp2_with fail
  obtain ⟨SS2, HSI2, HSO2⟩ := q0j (fun w' => Know (w.heap.size + 1) #[.int .i64 x.sH.gS, .int .i64 x.sH.cM, .int .i64 x.sH.data, .int .i64 x.sH.spare, .int .i64 x.sH.rows, .int .i64 x.sH.cap, .int .i64 x.sH.bT, .int .i64 x.sH.qU, .int .i64 x.sH.sG] w')
  have hS0 := HSI2.out (w3.drew) (Know.of (by refine q0a ?_; exact HBS.out))
  refine q0k SS2 (by kernel_rfl) hS0 ?_
  refine rgT 0 hS0 ?_
  refine rgL 2 hS0 HSO2 ?_
  refine q0d 1 rfl (by kernel_rfl) (fun K hK => ?_)
  go_simp
  go_at_call 216
  refine (szD_any A ly C _).mono ?_
  rintro e w4 ⟨rfl, hc⟩
  have h := (Lay.sl_ext drvL (Lay.sl_ext drvL HYB.out (Chg.drew (Chg.refl [] w3))) hc); clear HYB; have HYB := hid h; clear h
  have h := bk hc (q0a HBW.out) (by simp); clear HBW cW lW; obtain ⟨cW, lW, HBW⟩ := h
  have h := bk hc (q0a HBS.out) (by simp); clear HBS cS lS; obtain ⟨cS, lS, HBS⟩ := h
  have h := Chg.trans0 (Chg.drew HC.out) hc; clear HC; have HC := hid h; clear h
  clear hc
  go_wp2_with fail
  refine hK.out _ _ (HSI2.out _ cS) (fun hS1 => ?_)
  clear hK K
  try simp only [Act.put, pA, pB, pC]
  refine q0d 3 rfl (by kernel_rfl) (fun K hK => ?_)
  go_simp
  go_at_call 212
  refine (q8o x.sH HS.out _).mono ?_
  rintro e w5 ⟨rfl, hc⟩
  replace HYB := hsl HYB hc
  have h := bk0 hc HBW.out; clear HBW cW lW; obtain ⟨cW, lW, HBW⟩ := h
  have h := bk0 hc HBS.out; clear HBS cS lS; obtain ⟨cS, lS, HBS⟩ := h
  replace HC := hct HC hc
  clear hc
  go_wp2_with fail
  refine hK.out _ _ (HSI2.out _ cS) (fun hS2 => ?_)
  clear hK K
  try simp only [Act.put, pA, pB, pC]
  refine rgT 4 hS2 ?_
  refine wpAnyH_done (by kernel_rfl) ?_ _
  go_wp2_with fail
  go_loopw [30] (fun i wr => ∃ (m : Nat) (Wr : World), Wr = wr ∧ m ≤ ly ∧ i = .int .i64 m ∧ Hid (∀ (j : Nat) d, j < m → y[j]? = some d → d.okAt x.sH) ∧ Chg [] w wr ∧ wr.heap[w.heap.size]? = some (.cells #[.int .i64 x.sH.gS, .int .i64 x.sH.cM, .int .i64 x.sH.data, .int .i64 x.sH.spare, .int .i64 x.sH.rows, .int .i64 x.sH.cap, .int .i64 x.sH.bT, .int .i64 x.sH.qU, .int .i64 x.sH.sG, .slice (some ⟨bg, og, none⟩) l10 c10, .slice a11 l11 c11, .slice a12 l12 c12, .int .i64 x.wT, .int .i64 x.stop, .bool x.down] 34 (0, 0)) ∧ wr.heap[w.heap.size + 1]? = some (.cells #[.int .i64 x.sH.gS, .int .i64 x.sH.cM, .int .i64 x.sH.data, .int .i64 x.sH.spare, .int .i64 x.sH.rows, .int .i64 x.sH.cap, .int .i64 x.sH.bT, .int .i64 x.sH.qU, .int .i64 x.sH.sG] 30 (0, 0)) ∧ drvL.sl wr A ly C y fy) (fun i _ => ly - (intOf i).toNat)
  case atStart => exact ⟨0, _, rfl, by omega, rfl, hid (fun j y hj => by omega), HC.out, HBW.out, HBS.out, HYB.out⟩
  case round =>
   clear HBW cW lW HBS cS lS
   clear HC
   obtain ⟨m, w6, rfl, hm, rfl, HPm, hc, hbW, hbS, hfYB⟩ := hrel
   clear HYB; have HYB := hid hfYB; clear hfYB
   have cW := cellsOf hbW; have lW := ltOf hbW; have HBW := hid hbW; clear hbW
   have cS := cellsOf hbS; have lS := ltOf hbS; have HBS := hid hbS; clear hbS
   have HC := hid hc; clear hc
   by_cases hlt2 : m < ly
   rotate_left
   ·obtain rfl : m = ly := by omega
    have HP2 := hid (show ∀ (j : Nat) z, j < k + 1 → x.gS[j]? = some z → GrpOk x.sH z from fun j z hj hz => by
     by_cases e : j = k
     ·subst e
      rw [Option.some.inj (hz.symm.trans HYI.out)]
      exact ⟨by rw [← ZY.out]; exact HL2.out, fun d hd => by
       obtain ⟨i, hi, rfl⟩ := List.getElem_of_mem hd
       exact HPm.out i _ (by have := ZY.out; omega) (List.getElem?_eq_getElem hi)⟩
     ·exact HPk.out j z (by omega) hz)
    go_wp2_with fail
    go_roundw
    case rel => exact ⟨k + 1, _, rfl, by omega, by go_num, HP2, HC.out, HBW.out, HBS.out⟩
    case measure => simp [intOf]; omega
   obtain ⟨d, bd, od, a1, l1, c1, fd, HD, rfl, hcd0, hcd1, HDS⟩ := q9g HYB.out hlt2
   obtain ⟨_, _, _, fb, exb, hbl, -⟩ := q6x.1 HDS.out
   obtain ⟨e1', e2', e3'⟩ := Value.slice.inj (List.cons.inj (List.cons.inj exb).2).1
   subst e1' e2' e3'
   have hmb := blkL.sl_max hbl
   have ZB := hid hbl.1
   have HBL := hid hbl
   have HDI := hid HD.out.1
   clear exb hbl HD HDS
   by_cases h3 : (l1 : Int) = x.sH.rows
   rotate_left
   ·have HR := hid (show pb x.built = false from q0f (fun h => h3 (by rw [ZB.out]; exact ((h.2 y (List.mem_of_getElem? HYI.out)).2 d (List.mem_of_getElem? HDI.out)).1)))
    have e3 : ((l1 : Int) != x.sH.rows) = true := by simp; exact h3
    clear h3
    go_wp2_with fail
    obtain ⟨SS3, HSI3, HSO3⟩ := q0j (fun w' => Know (w.heap.size + 1) #[.int .i64 x.sH.gS, .int .i64 x.sH.cM, .int .i64 x.sH.data, .int .i64 x.sH.spare, .int .i64 x.sH.rows, .int .i64 x.sH.cap, .int .i64 x.sH.bT, .int .i64 x.sH.qU, .int .i64 x.sH.sG] w' ∧ Know (w6.heap.size) #[.bool d.wiped, .slice a1 l1 c1] w')
    have hS0 := HSI3.out ((w6.alloc (.cells #[.bool d.wiped, .slice a1 l1 c1] 82)).drew) ⟨(Know.of (by refine q0a ?_; refine q0b ?_ _; exact HBS.out)), (Know.of (by refine q0a ?_; exact q0e (by simp) _))⟩
    refine q0k SS3 (by kernel_rfl) hS0 ?_
    refine rgT 0 hS0 ?_
    refine rgL 1 hS0 HSO3 ?_
    refine rgT 3 hS0 ?_
    refine rgL 4 hS0 HSO3 ?_
    refine q0d 2 rfl (by kernel_rfl) (fun K hK => ?_)
    go_simp
    go_at_call 217
    refine (szK_any a1 l1 c1 _).mono ?_
    rintro e w7 ⟨rfl, hc⟩
    have h := (Lay.sl_ext drvL (Lay.sl_ext drvL HYB.out (Chg.drew (Chg.alloc (Chg.refl [] w6) _))) hc); clear HYB; have HYB := hid h; clear h
    have h := (Lay.sl_ext blkL (Lay.sl_ext blkL HBL.out (Chg.drew (Chg.alloc (Chg.refl [] w6) _))) hc); clear HBL; have HBL := hid h; clear h
    have h := bk hc (q0a (q0b HBW.out _)) (by simp); clear HBW cW lW; obtain ⟨cW, lW, HBW⟩ := h
    have h := bk hc (q0a (q0b HBS.out _)) (by simp); clear HBS cS lS; obtain ⟨cS, lS, HBS⟩ := h
    obtain ⟨cD, lD, HBD⟩ := bk hc (b := w6.heap.size) (q0a (q0e (by simp) _)) (by simp)
    have h := Chg.trans0 (Chg.drew (Chg.alloc HC.out _)) hc; clear HC; have HC := hid h; clear h
    clear hc
    go_wp2_with fail
    refine hK.out _ _ (HSI3.out _ ⟨cS, cD⟩) (fun hS1 => ?_)
    clear hK K
    try simp only [Act.put, pA, pB, pC]
    refine rgT 5 hS1 ?_
    refine rgT 6 hS1 ?_
    refine rgS 7 hS1 ?_
    refine rgS 8 hS1 ?_
    refine rgS 9 hS1 ?_
    refine rgT 10 hS1 ?_
    refine wpAnyH_done (by kernel_rfl) ?_ _
    go_wp2_with fail
    go_ret
    exact ⟨q0l HR.out.symm, HC.out⟩
   have e3 : ((l1 : Int) != x.sH.rows) = false := by simp; exact h3
   have HL3 := hid h3
   clear h3
   obtain ⟨v, hv⟩ : ∃ v, v = pb (∀ b ∈ d.blocks, b.ok) := ⟨_, rfl⟩
   have HV := hid hv.symm
   cases v
   ·have HR := hid (show pb x.built = false from q0f (fun h => not_pb HV.out ((h.2 y (List.mem_of_getElem? HYI.out)).2 d (List.mem_of_getElem? HDI.out)).2))
    clear hv
    go_wp2_with fail
    obtain ⟨SS3, HSI3, HSO3⟩ := q0j (fun w' => Know (w.heap.size + 1) #[.int .i64 x.sH.gS, .int .i64 x.sH.cM, .int .i64 x.sH.data, .int .i64 x.sH.spare, .int .i64 x.sH.rows, .int .i64 x.sH.cap, .int .i64 x.sH.bT, .int .i64 x.sH.qU, .int .i64 x.sH.sG] w' ∧ Know (w6.heap.size) #[.bool d.wiped, .slice a1 l1 c1] w')
    have hS0 := HSI3.out ((w6.alloc (.cells #[.bool d.wiped, .slice a1 l1 c1] 82)).drew) ⟨(Know.of (by refine q0a ?_; refine q0b ?_ _; exact HBS.out)), (Know.of (by refine q0a ?_; exact q0e (by simp) _))⟩
    refine q0k SS3 (by kernel_rfl) hS0 ?_
    refine rgT 0 hS0 ?_
    refine rgL 1 hS0 HSO3 ?_
    refine rgT 3 hS0 ?_
    refine rgL 4 hS0 HSO3 ?_
    refine q0d 2 rfl (by kernel_rfl) (fun K hK => ?_)
    go_simp
    go_at_call 217
    refine (szK_any a1 l1 c1 _).mono ?_
    rintro e w7 ⟨rfl, hc⟩
    have h := (Lay.sl_ext drvL (Lay.sl_ext drvL HYB.out (Chg.drew (Chg.alloc (Chg.refl [] w6) _))) hc); clear HYB; have HYB := hid h; clear h
    have h := (Lay.sl_ext blkL (Lay.sl_ext blkL HBL.out (Chg.drew (Chg.alloc (Chg.refl [] w6) _))) hc); clear HBL; have HBL := hid h; clear h
    have h := bk hc (q0a (q0b HBW.out _)) (by simp); clear HBW cW lW; obtain ⟨cW, lW, HBW⟩ := h
    have h := bk hc (q0a (q0b HBS.out _)) (by simp); clear HBS cS lS; obtain ⟨cS, lS, HBS⟩ := h
    obtain ⟨cD, lD, HBD⟩ := bk hc (b := w6.heap.size) (q0a (q0e (by simp) _)) (by simp)
    have h := Chg.trans0 (Chg.drew (Chg.alloc HC.out _)) hc; clear HC; have HC := hid h; clear h
    clear hc
    go_wp2_with fail
    refine hK.out _ _ (HSI3.out _ ⟨cS, cD⟩) (fun hS1 => ?_)
    clear hK K
    try simp only [Act.put, pA, pB, pC]
    refine rgT 5 hS1 ?_
    refine rgT 6 hS1 ?_
    refine rgT 7 hS1 ?_
    refine rgL 8 hS1 HSO3 ?_
    refine q0d 9 rfl (by kernel_rfl) (fun K hK => ?_)
    go_simp
    go_at_call 218
    refine (q6f 219 #[] (fun b => !pb b.ok) a1 l1 c1 d.blocks fb _ HBL.out (fun args w => rfl) (q6r _ _)).mono ?_
    rintro e w8 ⟨rfl, hc⟩
    rw [any_bad, HV.out]
    replace HYB := hsl HYB hc
    replace HBL := hsl HBL hc
    have h := bk0 hc HBW.out; clear HBW cW lW; obtain ⟨cW, lW, HBW⟩ := h
    have h := bk0 hc HBS.out; clear HBS cS lS; obtain ⟨cS, lS, HBS⟩ := h
    have h := bk0 hc HBD.out; clear HBD cD lD; obtain ⟨cD, lD, HBD⟩ := h
    replace HC := hct HC hc
    clear hc
    go_wp2_with fail
    refine hK.out _ _ (HSI3.out _ ⟨cS, cD⟩) (fun hS2 => ?_)
    clear hK K
    try simp only [Act.put, pA, pB, pC]
    refine rgT 10 hS2 ?_
    refine wpAnyH_done (by kernel_rfl) ?_ _
    go_wp2_with fail
    go_ret
    exact ⟨q0l HR.out.symm, HC.out⟩
   ·have HP2 := hid (show ∀ (j : Nat) z, j < m + 1 → y[j]? = some z → z.okAt x.sH from fun j z hj hz => by
     by_cases e : j = m
     ·subst e; rw [Option.some.inj (hz.symm.trans HDI.out)]; exact ⟨by rw [← ZB.out]; exact HL3.out, of_pb HV.out⟩
     ·exact HPm.out j z (by omega) hz)
    clear hv
    go_wp2_with fail
    obtain ⟨SS3, HSI3, HSO3⟩ := q0j (fun w' => Know (w.heap.size + 1) #[.int .i64 x.sH.gS, .int .i64 x.sH.cM, .int .i64 x.sH.data, .int .i64 x.sH.spare, .int .i64 x.sH.rows, .int .i64 x.sH.cap, .int .i64 x.sH.bT, .int .i64 x.sH.qU, .int .i64 x.sH.sG] w' ∧ Know (w6.heap.size) #[.bool d.wiped, .slice a1 l1 c1] w')
    have hS0 := HSI3.out ((w6.alloc (.cells #[.bool d.wiped, .slice a1 l1 c1] 82)).drew) ⟨(Know.of (by refine q0a ?_; refine q0b ?_ _; exact HBS.out)), (Know.of (by refine q0a ?_; exact q0e (by simp) _))⟩
    refine q0k SS3 (by kernel_rfl) hS0 ?_
    refine rgT 0 hS0 ?_
    refine rgL 1 hS0 HSO3 ?_
    refine rgT 3 hS0 ?_
    refine rgL 4 hS0 HSO3 ?_
    refine q0d 2 rfl (by kernel_rfl) (fun K hK => ?_)
    go_simp
    go_at_call 217
    refine (szK_any a1 l1 c1 _).mono ?_
    rintro e w7 ⟨rfl, hc⟩
    have h := (Lay.sl_ext drvL (Lay.sl_ext drvL HYB.out (Chg.drew (Chg.alloc (Chg.refl [] w6) _))) hc); clear HYB; have HYB := hid h; clear h
    have h := (Lay.sl_ext blkL (Lay.sl_ext blkL HBL.out (Chg.drew (Chg.alloc (Chg.refl [] w6) _))) hc); clear HBL; have HBL := hid h; clear h
    have h := bk hc (q0a (q0b HBW.out _)) (by simp); clear HBW cW lW; obtain ⟨cW, lW, HBW⟩ := h
    have h := bk hc (q0a (q0b HBS.out _)) (by simp); clear HBS cS lS; obtain ⟨cS, lS, HBS⟩ := h
    obtain ⟨cD, lD, HBD⟩ := bk hc (b := w6.heap.size) (q0a (q0e (by simp) _)) (by simp)
    have h := Chg.trans0 (Chg.drew (Chg.alloc HC.out _)) hc; clear HC; have HC := hid h; clear h
    clear hc
    go_wp2_with fail
    refine hK.out _ _ (HSI3.out _ ⟨cS, cD⟩) (fun hS1 => ?_)
    clear hK K
    try simp only [Act.put, pA, pB, pC]
    refine rgT 5 hS1 ?_
    refine rgT 6 hS1 ?_
    refine rgT 7 hS1 ?_
    refine rgL 8 hS1 HSO3 ?_
    refine q0d 9 rfl (by kernel_rfl) (fun K hK => ?_)
    go_simp
    go_at_call 218
    refine (q6f 219 #[] (fun b => !pb b.ok) a1 l1 c1 d.blocks fb _ HBL.out (fun args w => rfl) (q6r _ _)).mono ?_
    rintro e w8 ⟨rfl, hc⟩
    rw [any_bad, HV.out]
    replace HYB := hsl HYB hc
    replace HBL := hsl HBL hc
    have h := bk0 hc HBW.out; clear HBW cW lW; obtain ⟨cW, lW, HBW⟩ := h
    have h := bk0 hc HBS.out; clear HBS cS lS; obtain ⟨cS, lS, HBS⟩ := h
    have h := bk0 hc HBD.out; clear HBD cD lD; obtain ⟨cD, lD, HBD⟩ := h
    replace HC := hct HC hc
    clear hc
    go_wp2_with fail
    refine hK.out _ _ (HSI3.out _ ⟨cS, cD⟩) (fun hS2 => ?_)
    clear hK K
    try simp only [Act.put, pA, pB, pC]
    refine rgT 10 hS2 ?_
    refine wpAnyH_done (by kernel_rfl) ?_ _
    go_wp2_with fail
    go_roundw
    case rel => exact ⟨m + 1, _, rfl, by omega, by go_num, HP2, HC.out, HBW.out, HBS.out, HYB.out⟩
    case measure => simp [intOf]; omega
end Go.Proofs.YtphmpimgbmedbaaGreat
