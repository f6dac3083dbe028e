import Derived.Test.YtphmpimgbmedbaaGreatRows
import Derived.Test.YtphmpimgbmedbaaGreatMw
import Derived.Test.YtphmpimgbmedbaaGreatRflM
/- What is wrong with a world: the reference. -/
namespace Go.Proofs.YtphmpimgbmedbaaGreat
open Go.RowKit

theorem ck {a b : World} {bl o : Nat} {v : Value} (hc : RowKit.Hid (Chg [] a b)) (h : RowKit.Hid (a.cell? ⟨bl, o, none⟩ = some v)) (hl : RowKit.Hid (bl < a.heap.size)) : b.cell? ⟨bl, o, none⟩ = some v ∧ bl < b.heap.size :=
  ⟨cellKeep hc.out h.out hl.out, Nat.lt_of_lt_of_le hl.out hc.out.size⟩
theorem apart_c (a : Option Addr) (la ca : Nat) (xs : List Int) (f : List Nat) (m : Int) (w : World) (ha : intL.sl w a la ca xs f) :
    Calls Tryz.prog 118 #[.slice a la ca, .int .i64 m] w fun e w' => e = .returned (.bool (pb (Apart m xs))) ∧ Chg [] w w' := l5Apart_any a la ca xs f m w ha


set_option maxRecDepth 100000 in
set_option maxHeartbeats 4000000 in
theorem l5Built_any (x : Wld) (hs : x.shape.ok) (cx : Array Value) (fx : List Nat) (w : World) (hx : wldL.rep w cx.toList x fx) :
    Calls Tryz.prog 117 #[.agg cx] w fun e w' => e = .returned (.bool (pb x.built)) ∧ Chg [] w w' := by
  obtain ⟨a10, l10, c10, f10, a11, l11, c11, f11, a12, l12, c12, f12, ex, o1, o2, o3, o4, o5, o6, o7, o8, o9, h10, h11, h12, o13, o14, -⟩ := wldL_iff.1 hx
  clear o1 o2 o3 o4 o5 o6 o7 o8 o9
  obtain rfl := Array.toList_inj.1 (ex.trans (List.toList_toArray).symm)
  clear ex
  have q10 := drvL.slice.sl_max h10; have q11 := intL.sl_max h11; have q12 := tapL.sl_max h12
  have H10 := Lib.hid h10; have H11 := Lib.hid h11; have H12 := Lib.hid h12
  have HX := Lib.hid hx
  have Z10 := Lib.hid h10.1; have Z11 := Lib.hid h11.1; have Z12 := Lib.hid h12.1
  clear h10 h11 h12 hx

  have hal := hs.all; have hdr := hs.drives; have hrw := hs.rows
  have HS := Lib.hid hs
  clear hs
  have HC : RowKit.Hid (Chg [] w w) := Chg.refl _ _
  by_cases h1 : (l10 : Int) = x.shape.all
  rotate_left
  · have HR := Lib.hid (show pb x.built = false from pb_false (fun h => h1 (by rw [Z10.out]; exact h.1)))
    have e1 : ((l10 : Int) != x.shape.all) = true := by simp; exact h1
    clear h1
    go_enter Tryz.func117, Tryz.ntmps117
    go_wp2_with fail
    obtain ⟨SS1, HSI1, HSO1⟩ := rg_cond (fun w' => Know (w.heap.size) #[.int .i64 x.shape.groups, .int .i64 x.shape.column, .int .i64 x.shape.data, .int .i64 x.shape.spare, .int .i64 x.shape.rows, .int .i64 x.shape.cap, .int .i64 x.shape.batch, .int .i64 x.shape.queue, .int .i64 x.shape.stage, .slice a10 l10 c10, .slice a11 l11 c11, .slice a12 l12 c12, .int .i64 x.writes, .int .i64 x.stop, .bool x.down] w' ∧ Know (w.heap.size + 1) #[.int .i64 x.shape.groups, .int .i64 x.shape.column, .int .i64 x.shape.data, .int .i64 x.shape.spare, .int .i64 x.shape.rows, .int .i64 x.shape.cap, .int .i64 x.shape.batch, .int .i64 x.shape.queue, .int .i64 x.shape.stage] w')
    have hS0 := HSI1.out (((w.alloc (.cells #[.int .i64 x.shape.groups, .int .i64 x.shape.column, .int .i64 x.shape.data, .int .i64 x.shape.spare, .int .i64 x.shape.rows, .int .i64 x.shape.cap, .int .i64 x.shape.batch, .int .i64 x.shape.queue, .int .i64 x.shape.stage, .slice a10 l10 c10, .slice a11 l11 c11, .slice a12 l12 c12, .int .i64 x.writes, .int .i64 x.stop, .bool x.down] 34)).alloc (.cells #[.int .i64 x.shape.groups, .int .i64 x.shape.column, .int .i64 x.shape.data, .int .i64 x.shape.spare, .int .i64 x.shape.rows, .int .i64 x.shape.cap, .int .i64 x.shape.batch, .int .i64 x.shape.queue, .int .i64 x.shape.stage] 30)).drew) ⟨(Know.of (by refine keep_drew ?_; refine keep_alloc ?_ _; exact new_at (by simp) _)), (Know.of (by refine keep_drew ?_; exact new_at (by simp) _))⟩
    refine rg_start SS1 (by kernel_rfl) hS0 ?_
    refine rgT 0 hS0 ?_
    refine rgL 1 hS0 HSO1 ?_
    refine rgT 2 hS0 ?_
    refine rgL 3 hS0 HSO1 ?_
    refine rg_call 4 rfl (by kernel_rfl) (fun K hK => ?_)
    go_simp
    go_at_call 100
    refine (l5All_any x.shape HS.out _).mono ?_
    rintro e w1 ⟨rfl, hc⟩
    obtain ⟨cW, lW, HBW⟩ := bk hc (b := w.heap.size) (keep_drew (keep_alloc (new_at (by simp) _) _)) (by simp)
    obtain ⟨cS, lS, HBS⟩ := bk hc (b := w.heap.size + 1) (keep_drew (new_at (by simp) _)) (by simp)
    have h := Chg.trans0 (Chg.drew (Chg.alloc (Chg.alloc HC.out _) _)) hc; clear HC; have HC := Lib.hid h; clear h
    clear hc
    go_wp2_with fail
    refine hK.out _ _ (HSI1.out _ ⟨cW, cS⟩) (fun hS1 => ?_)
    clear hK K
    try simp only [Act.put, List.setIfInBounds_toArray, List.set_cons_zero, List.set_cons_succ]
    refine rgT 5 hS1 ?_
    refine wpAnyH_done (by kernel_rfl) ?_ _
    go_wp2_with fail
    go_ret
    exact ⟨ret_bool HR.out.symm, HC.out⟩
  obtain ⟨_, bg, og, _, _, _, _, _, rfl, _, _⟩ := slc_at H10.out (show 0 < l10 by omega)
  have e1 : ((l10 : Int) != x.shape.all) = false := by simp; exact h1
  have HL1 := Lib.hid h1
  clear h1
  go_enter Tryz.func117, Tryz.ntmps117
  go_wp2_with fail
  obtain ⟨SS1, HSI1, HSO1⟩ := rg_cond (fun w' => Know (w.heap.size) #[.int .i64 x.shape.groups, .int .i64 x.shape.column, .int .i64 x.shape.data, .int .i64 x.shape.spare, .int .i64 x.shape.rows, .int .i64 x.shape.cap, .int .i64 x.shape.batch, .int .i64 x.shape.queue, .int .i64 x.shape.stage, .slice (some ⟨bg, og, none⟩) l10 c10, .slice a11 l11 c11, .slice a12 l12 c12, .int .i64 x.writes, .int .i64 x.stop, .bool x.down] w' ∧ Know (w.heap.size + 1) #[.int .i64 x.shape.groups, .int .i64 x.shape.column, .int .i64 x.shape.data, .int .i64 x.shape.spare, .int .i64 x.shape.rows, .int .i64 x.shape.cap, .int .i64 x.shape.batch, .int .i64 x.shape.queue, .int .i64 x.shape.stage] w')
  have hS0 := HSI1.out (((w.alloc (.cells #[.int .i64 x.shape.groups, .int .i64 x.shape.column, .int .i64 x.shape.data, .int .i64 x.shape.spare, .int .i64 x.shape.rows, .int .i64 x.shape.cap, .int .i64 x.shape.batch, .int .i64 x.shape.queue, .int .i64 x.shape.stage, .slice (some ⟨bg, og, none⟩) l10 c10, .slice a11 l11 c11, .slice a12 l12 c12, .int .i64 x.writes, .int .i64 x.stop, .bool x.down] 34)).alloc (.cells #[.int .i64 x.shape.groups, .int .i64 x.shape.column, .int .i64 x.shape.data, .int .i64 x.shape.spare, .int .i64 x.shape.rows, .int .i64 x.shape.cap, .int .i64 x.shape.batch, .int .i64 x.shape.queue, .int .i64 x.shape.stage] 30)).drew) ⟨(Know.of (by refine keep_drew ?_; refine keep_alloc ?_ _; exact new_at (by simp) _)), (Know.of (by refine keep_drew ?_; exact new_at (by simp) _))⟩
  refine rg_start SS1 (by kernel_rfl) hS0 ?_
  refine rgT 0 hS0 ?_
  refine rgL 1 hS0 HSO1 ?_
  refine rgT 2 hS0 ?_
  refine rgL 3 hS0 HSO1 ?_
  refine rg_call 4 rfl (by kernel_rfl) (fun K hK => ?_)
  go_simp
  go_at_call 100
  refine (l5All_any x.shape HS.out _).mono ?_
  rintro e w1 ⟨rfl, hc⟩
  obtain ⟨cW, lW, HBW⟩ := bk hc (b := w.heap.size) (keep_drew (keep_alloc (new_at (by simp) _) _)) (by simp)
  obtain ⟨cS, lS, HBS⟩ := bk hc (b := w.heap.size + 1) (keep_drew (new_at (by simp) _)) (by simp)
  have h := Chg.trans0 (Chg.drew (Chg.alloc (Chg.alloc HC.out _) _)) hc; clear HC; have HC := Lib.hid h; clear h
  clear hc
  go_wp2_with fail
  refine hK.out _ _ (HSI1.out _ ⟨cW, cS⟩) (fun hS1 => ?_)
  clear hK K
  try simp only [Act.put, List.setIfInBounds_toArray, List.set_cons_zero, List.set_cons_succ]
  refine rgT 5 hS1 ?_
  refine wpAnyH_done (by kernel_rfl) ?_ _
  go_wp2_with fail
  go_loopw [4] (fun i wr => ∃ (k : Nat) (Wr : World), Wr = wr ∧ k ≤ l10 ∧ i = .int .i64 k ∧ RowKit.Hid (∀ (j : Nat) y, j < k → x.groups[j]? = some y → GrpOk x.shape y) ∧ Chg [] w wr ∧ wr.heap[w.heap.size]? = some (.cells #[.int .i64 x.shape.groups, .int .i64 x.shape.column, .int .i64 x.shape.data, .int .i64 x.shape.spare, .int .i64 x.shape.rows, .int .i64 x.shape.cap, .int .i64 x.shape.batch, .int .i64 x.shape.queue, .int .i64 x.shape.stage, .slice (some ⟨bg, og, none⟩) l10 c10, .slice a11 l11 c11, .slice a12 l12 c12, .int .i64 x.writes, .int .i64 x.stop, .bool x.down] 34 (0, 0)) ∧ wr.heap[w.heap.size + 1]? = some (.cells #[.int .i64 x.shape.groups, .int .i64 x.shape.column, .int .i64 x.shape.data, .int .i64 x.shape.spare, .int .i64 x.shape.rows, .int .i64 x.shape.cap, .int .i64 x.shape.batch, .int .i64 x.shape.queue, .int .i64 x.shape.stage] 30 (0, 0))) (fun i _ => l10 - (intOf i).toNat)
  case atStart => exact ⟨0, _, rfl, by omega, rfl, Lib.hid (fun j y hj => by omega), HC.out, HBW.out, HBS.out⟩
  case round =>
    clear HBW cW lW HBS cS lS
    clear HC
    obtain ⟨k, w2, rfl, hk, rfl, HPk, hc, hbW, hbS⟩ := hrel
    have cW := cellsOf hbW; have lW := ltOf hbW; have HBW := Lib.hid hbW; clear hbW
    have cS := cellsOf hbS; have lS := ltOf hbS; have HBS := Lib.hid hbS; clear hbS
    have HC := Lib.hid hc; clear hc
    by_cases hlt : k < l10
    rotate_left
    · obtain rfl : k = l10 := by omega
      have HR := Lib.hid (show pb x.built = true from pb_true ⟨by rw [← Z10.out]; exact HL1.out, fun y hy => by
        obtain ⟨j, hj, rfl⟩ := List.getElem_of_mem hy
        exact HPk.out j _ (by have := Z10.out; omega) (List.getElem?_eq_getElem hj)⟩)
      go_wp2_with fail
      go_ret
      exact ⟨ret_bool HR.out.symm, HC.out⟩
    obtain ⟨y, b', o', A, ly, C, fy, HY, e', hcy, HYS⟩ := slc_at H10.out hlt
    obtain ⟨rfl, rfl⟩ : bg = b' ∧ og = o' := by simpa using e'
    have hmy := drvL.sl_max HYS.out
    have ZY := Lib.hid HYS.out.1
    have HYI := Lib.hid HY.out.1
    clear e'
    have HKg := Lib.hid (show w.cell? ⟨bg, og + k, none⟩ = some (.slice A ly C) from hcy); have HLg := Lib.hid (show bg < w.heap.size from Lay.sl_lt _ H10.out _ HY.out.2.1)
    obtain ⟨kg, jg⟩ := ck HC HKg HLg
    clear hcy HY
    by_cases h2 : (ly : Int) = x.shape.drives
    rotate_left
    · have HR := Lib.hid (show pb x.built = false from pb_false (fun h => h2 (by rw [ZY.out]; exact (h.2 y (List.mem_of_getElem? HYI.out)).1)))
      have e2 : ((ly : Int) != x.shape.drives) = true := by simp; exact h2
      clear h2
      go_wp2_with fail
      obtain ⟨SS2, HSI2, HSO2⟩ := rg_cond (fun w' => Know (w.heap.size) #[.int .i64 x.shape.groups, .int .i64 x.shape.column, .int .i64 x.shape.data, .int .i64 x.shape.spare, .int .i64 x.shape.rows, .int .i64 x.shape.cap, .int .i64 x.shape.batch, .int .i64 x.shape.queue, .int .i64 x.shape.stage, .slice (some ⟨bg, og, none⟩) l10 c10, .slice a11 l11 c11, .slice a12 l12 c12, .int .i64 x.writes, .int .i64 x.stop, .bool x.down] w' ∧ Know (w.heap.size + 1) #[.int .i64 x.shape.groups, .int .i64 x.shape.column, .int .i64 x.shape.data, .int .i64 x.shape.spare, .int .i64 x.shape.rows, .int .i64 x.shape.cap, .int .i64 x.shape.batch, .int .i64 x.shape.queue, .int .i64 x.shape.stage] w' ∧ w'.cell? ⟨bg, og + k, none⟩ = some (.slice A ly C))
      have hS0 := HSI2.out (w2.drew) ⟨(Know.of (by refine keep_drew ?_; exact HBW.out)), (Know.of (by refine keep_drew ?_; exact HBS.out)), (cellKeep (Chg.drew HC.out) HKg.out HLg.out)⟩
      refine rg_start SS2 (by kernel_rfl) hS0 ?_
      refine rgT 0 hS0 ?_
      refine rgL 1 hS0 HSO2 ?_
      refine rgT 2 hS0 ?_
      refine rgT 3 hS0 ?_
      refine rgL 4 hS0 HSO2 ?_
      refine rgT 5 hS0 ?_
      refine rgL 6 hS0 HSO2 ?_
      refine rg_call 7 rfl (by kernel_rfl) (fun K hK => ?_)
      go_simp
      go_at_call 191
      refine (l5Drives_any x.shape HS.out _).mono ?_
      rintro e w3 ⟨rfl, hc⟩
      have h := bk hc (keep_drew HBW.out) (by simp); clear HBW cW lW; obtain ⟨cW, lW, HBW⟩ := h
      have h := bk hc (keep_drew HBS.out) (by simp); clear HBS cS lS; obtain ⟨cS, lS, HBS⟩ := h
      have h := Chg.trans0 (Chg.drew HC.out) hc; clear HC; have HC := Lib.hid h; clear h
      clear hc
      clear kg jg; obtain ⟨kg, jg⟩ := ck HC HKg HLg
      go_wp2_with fail
      refine hK.out _ _ (HSI2.out _ ⟨cW, cS, (cellKeep HC.out HKg.out HLg.out)⟩) (fun hS1 => ?_)
      clear hK K
      try simp only [Act.put, List.setIfInBounds_toArray, List.set_cons_zero, List.set_cons_succ]
      refine rgT 8 hS1 ?_
      refine wpAnyH_done (by kernel_rfl) ?_ _
      go_wp2_with fail
      go_ret
      exact ⟨ret_bool HR.out.symm, HC.out⟩
    obtain ⟨_, bd, od, _, _, _, _, _, rfl, _, _, _⟩ := drive_at HYS.out (show 0 < ly by omega)
    have e2 : ((ly : Int) != x.shape.drives) = false := by simp; exact h2
    have HL2 := Lib.hid h2
    clear h2
    go_wp2_with fail
    obtain ⟨SS2, HSI2, HSO2⟩ := rg_cond (fun w' => Know (w.heap.size) #[.int .i64 x.shape.groups, .int .i64 x.shape.column, .int .i64 x.shape.data, .int .i64 x.shape.spare, .int .i64 x.shape.rows, .int .i64 x.shape.cap, .int .i64 x.shape.batch, .int .i64 x.shape.queue, .int .i64 x.shape.stage, .slice (some ⟨bg, og, none⟩) l10 c10, .slice a11 l11 c11, .slice a12 l12 c12, .int .i64 x.writes, .int .i64 x.stop, .bool x.down] w' ∧ Know (w.heap.size + 1) #[.int .i64 x.shape.groups, .int .i64 x.shape.column, .int .i64 x.shape.data, .int .i64 x.shape.spare, .int .i64 x.shape.rows, .int .i64 x.shape.cap, .int .i64 x.shape.batch, .int .i64 x.shape.queue, .int .i64 x.shape.stage] w' ∧ w'.cell? ⟨bg, og + k, none⟩ = some (.slice (some ⟨bd, od, none⟩) ly C))
    have hS0 := HSI2.out (w2.drew) ⟨(Know.of (by refine keep_drew ?_; exact HBW.out)), (Know.of (by refine keep_drew ?_; exact HBS.out)), (cellKeep (Chg.drew HC.out) HKg.out HLg.out)⟩
    refine rg_start SS2 (by kernel_rfl) hS0 ?_
    refine rgT 0 hS0 ?_
    refine rgL 1 hS0 HSO2 ?_
    refine rgT 2 hS0 ?_
    refine rgT 3 hS0 ?_
    refine rgL 4 hS0 HSO2 ?_
    refine rgT 5 hS0 ?_
    refine rgL 6 hS0 HSO2 ?_
    refine rg_call 7 rfl (by kernel_rfl) (fun K hK => ?_)
    go_simp
    go_at_call 191
    refine (l5Drives_any x.shape HS.out _).mono ?_
    rintro e w3 ⟨rfl, hc⟩
    have h := bk hc (keep_drew HBW.out) (by simp); clear HBW cW lW; obtain ⟨cW, lW, HBW⟩ := h
    have h := bk hc (keep_drew HBS.out) (by simp); clear HBS cS lS; obtain ⟨cS, lS, HBS⟩ := h
    have h := Chg.trans0 (Chg.drew HC.out) hc; clear HC; have HC := Lib.hid h; clear h
    clear hc
    clear kg jg; obtain ⟨kg, jg⟩ := ck HC HKg HLg
    go_wp2_with fail
    refine hK.out _ _ (HSI2.out _ ⟨cW, cS, (cellKeep HC.out HKg.out HLg.out)⟩) (fun hS1 => ?_)
    clear hK K
    try simp only [Act.put, List.setIfInBounds_toArray, List.set_cons_zero, List.set_cons_succ]
    refine rgT 8 hS1 ?_
    refine wpAnyH_done (by kernel_rfl) ?_ _
    go_wp2_with fail
    go_loopw [5] (fun i wr => ∃ (m : Nat) (Wr : World), Wr = wr ∧ m ≤ ly ∧ i = .int .i64 m ∧ RowKit.Hid (∀ (j : Nat) d, j < m → y[j]? = some d → d.okAt x.shape) ∧ Chg [] w wr ∧ wr.heap[w.heap.size]? = some (.cells #[.int .i64 x.shape.groups, .int .i64 x.shape.column, .int .i64 x.shape.data, .int .i64 x.shape.spare, .int .i64 x.shape.rows, .int .i64 x.shape.cap, .int .i64 x.shape.batch, .int .i64 x.shape.queue, .int .i64 x.shape.stage, .slice (some ⟨bg, og, none⟩) l10 c10, .slice a11 l11 c11, .slice a12 l12 c12, .int .i64 x.writes, .int .i64 x.stop, .bool x.down] 34 (0, 0)) ∧ wr.heap[w.heap.size + 1]? = some (.cells #[.int .i64 x.shape.groups, .int .i64 x.shape.column, .int .i64 x.shape.data, .int .i64 x.shape.spare, .int .i64 x.shape.rows, .int .i64 x.shape.cap, .int .i64 x.shape.batch, .int .i64 x.shape.queue, .int .i64 x.shape.stage] 30 (0, 0))) (fun i _ => ly - (intOf i).toNat)
    case atStart => exact ⟨0, _, rfl, by omega, rfl, Lib.hid (fun j y hj => by omega), HC.out, HBW.out, HBS.out⟩
    case round =>
      clear kg jg
      clear HBW cW lW HBS cS lS
      clear HC
      obtain ⟨m, w4, rfl, hm, rfl, HPm, hc, hbW, hbS⟩ := hrel
      have cW := cellsOf hbW; have lW := ltOf hbW; have HBW := Lib.hid hbW; clear hbW
      have cS := cellsOf hbS; have lS := ltOf hbS; have HBS := Lib.hid hbS; clear hbS
      have HC := Lib.hid hc; clear hc
      obtain ⟨kg, jg⟩ := ck HC HKg HLg
      by_cases hlt2 : m < ly
      rotate_left
      · obtain rfl : m = ly := by omega
        have HP2 := Lib.hid (show ∀ (j : Nat) z, j < k + 1 → x.groups[j]? = some z → GrpOk x.shape z from fun j z hj hz => by
          by_cases e : j = k
          · subst e
            rw [Option.some.inj (hz.symm.trans HYI.out)]
            exact ⟨by rw [← ZY.out]; exact HL2.out, fun d hd => by
              obtain ⟨i, hi, rfl⟩ := List.getElem_of_mem hd
              exact HPm.out i _ (by have := ZY.out; omega) (List.getElem?_eq_getElem hi)⟩
          · exact HPk.out j z (by omega) hz)
        go_wp2_with fail
        go_roundw
        case rel => exact ⟨k + 1, _, rfl, by omega, by go_num, HP2, HC.out, HBW.out, HBS.out⟩
        case measure => simp [intOf]; omega
      obtain ⟨d, b2, o2, a1, l1, c1, fd, HD, e2', hcd0, hcd1, HDS⟩ := drive_at HYS.out hlt2
      obtain ⟨rfl, rfl⟩ : bd = b2 ∧ od = o2 := by simpa using e2'
      obtain ⟨_, _, _, fb, exb, hbl, -⟩ := drvL_iff.1 HDS.out
      obtain ⟨q1, q2, q3⟩ := Value.slice.inj (List.cons.inj (List.cons.inj exb).2).1
      subst q1 q2 q3
      have hmb := blkL.sl_max hbl
      have ZB := Lib.hid hbl.1
      have HBL := Lib.hid hbl
      have HDI := Lib.hid HD.out.1
      clear e2' hcd0
      have HKd := Lib.hid (show w.cell? ⟨bd, od + m * 2 + 1, none⟩ = some (.slice a1 l1 c1) from hcd1); have HLd := Lib.hid (show bd < w.heap.size from Lay.sl_lt _ HYS.out _ HD.out.2.1)
      obtain ⟨kd, jd⟩ := ck HC HKd HLd
      clear hcd1 exb hbl HD HDS
      by_cases h3 : (l1 : Int) = x.shape.rows
      rotate_left
      · have HR := Lib.hid (show pb x.built = false from pb_false (fun h => h3 (by rw [ZB.out]; exact ((h.2 y (List.mem_of_getElem? HYI.out)).2 d (List.mem_of_getElem? HDI.out)).1)))
        have e3 : ((l1 : Int) != x.shape.rows) = true := by simp; exact h3
        clear h3
        go_wp2_with fail
        go_ret
        exact ⟨ret_bool HR.out.symm, HC.out⟩
      obtain ⟨_, bb, ob, _, _, _, _, _, rfl, _, _, _⟩ := block_at HBL.out (show 0 < l1 by omega)
      have e3 : ((l1 : Int) != x.shape.rows) = false := by simp; exact h3
      have HL3 := Lib.hid h3
      clear h3
      go_wp2_with fail
      go_loopw [7] (fun i wr => ∃ (p : Nat) (Wr : World), Wr = wr ∧ p ≤ l1 ∧ i = .int .i64 p ∧ RowKit.Hid (∀ (j : Nat) b, j < p → d.blocks[j]? = some b → b.ok) ∧ Chg [] w wr ∧ wr.heap[w.heap.size]? = some (.cells #[.int .i64 x.shape.groups, .int .i64 x.shape.column, .int .i64 x.shape.data, .int .i64 x.shape.spare, .int .i64 x.shape.rows, .int .i64 x.shape.cap, .int .i64 x.shape.batch, .int .i64 x.shape.queue, .int .i64 x.shape.stage, .slice (some ⟨bg, og, none⟩) l10 c10, .slice a11 l11 c11, .slice a12 l12 c12, .int .i64 x.writes, .int .i64 x.stop, .bool x.down] 34 (0, 0)) ∧ wr.heap[w.heap.size + 1]? = some (.cells #[.int .i64 x.shape.groups, .int .i64 x.shape.column, .int .i64 x.shape.data, .int .i64 x.shape.spare, .int .i64 x.shape.rows, .int .i64 x.shape.cap, .int .i64 x.shape.batch, .int .i64 x.shape.queue, .int .i64 x.shape.stage] 30 (0, 0))) (fun i _ => l1 - (intOf i).toNat)
      case atStart => exact ⟨0, _, rfl, by omega, rfl, Lib.hid (fun j y hj => by omega), HC.out, HBW.out, HBS.out⟩
      case round =>
        clear kg jg kd jd
        clear HBW cW lW HBS cS lS
        clear HC
        obtain ⟨p, w5, rfl, hp, rfl, HPp, hc, hbW, hbS⟩ := hrel
        have cW := cellsOf hbW; have lW := ltOf hbW; have HBW := Lib.hid hbW; clear hbW
        have cS := cellsOf hbS; have lS := ltOf hbS; have HBS := Lib.hid hbS; clear hbS
        have HC := Lib.hid hc; clear hc
        obtain ⟨kg, jg⟩ := ck HC HKg HLg
        obtain ⟨kd, jd⟩ := ck HC HKd HLd
        by_cases hlt3 : p < l1
        rotate_left
        · obtain rfl : p = l1 := by omega
          have HP3 := Lib.hid (show ∀ (j : Nat) z, j < m + 1 → y[j]? = some z → z.okAt x.shape from fun j z hj hz => by
            by_cases e : j = m
            · subst e
              rw [Option.some.inj (hz.symm.trans HDI.out)]
              exact ⟨by rw [← ZB.out]; exact HL3.out, fun d hd => by
                obtain ⟨i, hi, rfl⟩ := List.getElem_of_mem hd
                exact HPp.out i _ (by have := ZB.out; omega) (List.getElem?_eq_getElem hi)⟩
            · exact HPm.out j z (by omega) hz)
          go_wp2_with fail
          go_roundw
          case rel => exact ⟨m + 1, _, rfl, by omega, by go_num, HP3, HC.out, HBW.out, HBS.out⟩
          case measure => simp [intOf]; omega
        obtain ⟨z, b3, o3, a2, l2, c2, f2, HZ, e3', hb0, hb1, HBS⟩ := block_at HBL.out hlt3
        obtain ⟨rfl, rfl⟩ : bb = b3 ∧ ob = o3 := by simpa using e3'
        obtain ⟨_, _, _, _, exz, -, hbz, -⟩ := blkL_iff.1 HBS.out
        obtain ⟨q1, q2, q3⟩ := Value.slice.inj (List.cons.inj (List.cons.inj exz).2).1
        subst q1 q2 q3
        have hmz := byteL.sl_max hbz
        have ZZ := Lib.hid hbz.1
        have HZI := Lib.hid HZ.out.1
        clear e3'
        have HKs := Lib.hid (show w.cell? ⟨bb, ob + p * 2, none⟩ = some (.int .i64 z.stamp) from hb0); have HLs := Lib.hid (show bb < w.heap.size from Lay.sl_lt _ HBL.out _ HZ.out.2.1)
        obtain ⟨ks, js⟩ := ck HC HKs HLs
        have HKq := Lib.hid (show w.cell? ⟨bb, ob + p * 2 + 1, none⟩ = some (.slice a2 l2 c2) from hb1); have HLq := Lib.hid (show bb < w.heap.size from Lay.sl_lt _ HBL.out _ HZ.out.2.1)
        obtain ⟨kq, jq⟩ := ck HC HKq HLq
        clear hb0 hb1 exz hbz HZ HBS
        by_cases h4 : 0 ≤ z.stamp ∧ z.stamp ≤ 1000000000
        rotate_left
        · have HR := Lib.hid (show pb x.built = false from pb_false (fun h => (fun hk => h4 hk.1) (((h.2 y (List.mem_of_getElem? HYI.out)).2 d (List.mem_of_getElem? HDI.out)).2 z (List.mem_of_getElem? HZI.out))))
          have hi4 := inB_neq h4
          clear h4
          go_wp2_with fail
          refine (l1In_c z.stamp 0 1000000000 _).mono ?_
          rintro e w6 ⟨rfl, hc⟩
          rw [hi4]
          have h := bk hc HBW.out (by simp); clear HBW cW lW; obtain ⟨cW, lW, HBW⟩ := h
          have h := bk hc HBS.out (by simp); clear HBS cS lS; obtain ⟨cS, lS, HBS⟩ := h
          replace HC := hct HC hc
          clear hc
          clear kg jg; obtain ⟨kg, jg⟩ := ck HC HKg HLg
          clear kd jd; obtain ⟨kd, jd⟩ := ck HC HKd HLd
          clear ks js; obtain ⟨ks, js⟩ := ck HC HKs HLs
          clear kq jq; obtain ⟨kq, jq⟩ := ck HC HKq HLq
          go_wp2_with fail
          go_ret
          exact ⟨ret_bool HR.out.symm, HC.out⟩
        have hi4 := inB_eq h4.1 h4.2
        have HI4 := Lib.hid h4
        clear h4
        by_cases h5 : l2 = 4
        rotate_left
        · have HR := Lib.hid (show pb x.built = false from pb_false (fun h => (fun hk => h5 (by rw [ZZ.out]; exact hk.2)) (((h.2 y (List.mem_of_getElem? HYI.out)).2 d (List.mem_of_getElem? HDI.out)).2 z (List.mem_of_getElem? HZI.out))))
          have e5 : ((l2 : Int) != 4) = true := by simp; omega
          clear h5
          go_wp2_with fail
          refine (l1In_c z.stamp 0 1000000000 _).mono ?_
          rintro e w6 ⟨rfl, hc⟩
          rw [hi4]
          have h := bk hc HBW.out (by simp); clear HBW cW lW; obtain ⟨cW, lW, HBW⟩ := h
          have h := bk hc HBS.out (by simp); clear HBS cS lS; obtain ⟨cS, lS, HBS⟩ := h
          replace HC := hct HC hc
          clear hc
          clear kg jg; obtain ⟨kg, jg⟩ := ck HC HKg HLg
          clear kd jd; obtain ⟨kd, jd⟩ := ck HC HKd HLd
          clear ks js; obtain ⟨ks, js⟩ := ck HC HKs HLs
          clear kq jq; obtain ⟨kq, jq⟩ := ck HC HKq HLq
          go_wp2_with fail
          go_ret
          exact ⟨ret_bool HR.out.symm, HC.out⟩
        have e5 : ((l2 : Int) != 4) = false := by simp; omega
        have HP4 := Lib.hid (show ∀ (j : Nat) b, j < p + 1 → d.blocks[j]? = some b → b.ok from fun j b hj hb => by
          by_cases e : j = p
          · subst e; rw [Option.some.inj (hb.symm.trans HZI.out)]; exact ⟨HI4.out, by rw [← ZZ.out]; exact h5⟩
          · exact HPp.out j b (by omega) hb)
        clear h5
        go_wp2_with fail
        refine (l1In_c z.stamp 0 1000000000 _).mono ?_
        rintro e w6 ⟨rfl, hc⟩
        rw [hi4]
        have h := bk hc HBW.out (by simp); clear HBW cW lW; obtain ⟨cW, lW, HBW⟩ := h
        have h := bk hc HBS.out (by simp); clear HBS cS lS; obtain ⟨cS, lS, HBS⟩ := h
        replace HC := hct HC hc
        clear hc
        clear kg jg; obtain ⟨kg, jg⟩ := ck HC HKg HLg
        clear kd jd; obtain ⟨kd, jd⟩ := ck HC HKd HLd
        clear ks js; obtain ⟨ks, js⟩ := ck HC HKs HLs
        clear kq jq; obtain ⟨kq, jq⟩ := ck HC HKq HLq
        go_wp2_with fail
        go_roundw
        case rel => exact ⟨p + 1, _, rfl, by omega, by go_num, HP4, HC.out, HBW.out, HBS.out⟩
        case measure => simp [intOf]; omega

end Go.Proofs.YtphmpimgbmedbaaGreat
