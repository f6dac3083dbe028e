/- Several texts in one. -/
import Derived.Test.YtphmpimgbmedbaaGreatQay
namespace Go.Proofs.YtphmpimgbmedbaaGreat
open Go.RowKit
open Go.Lib (hid)
set_option maxRecDepth 100000 in
set_option maxHeartbeats 8000000 in
theorem l6Spent_any (s : Shp) (hok : s.ok) (a : Option Addr) (l c : Nat) (xs : List Rec) (f : List Nat) (w : World) (ha : recL.sl w a l c xs f) (hl : xs.length ≤ 400) (hkd : ∀ r ∈ xs, 1 ≤ r.kind ∧ r.kind ≤ 4) :
  Calls Tryz.prog 106 #[.agg #[.int .i64 s.groups, .int .i64 s.column, .int .i64 s.data, .int .i64 s.spare, .int .i64 s.rows, .int .i64 s.cap, .int .i64 s.batch, .int .i64 s.queue, .int .i64 s.stage], .slice a l c] w (SlR (spnL s.groups s.column.toNat xs) w) := by
 obtain ⟨KR, _⟩ := kindRec
 have HBS := hid (new_alloc w (.cells #[.int .i64 s.groups, .int .i64 s.column, .int .i64 s.data, .int .i64 s.spare, .int .i64 s.rows, .int .i64 s.cap, .int .i64 s.batch, .int .i64 s.queue, .int .i64 s.stage] 30))
 have g0 : Chg [] w (w.alloc (.cells #[.int .i64 s.groups, .int .i64 s.column, .int .i64 s.data, .int .i64 s.spare, .int .i64 s.rows, .int .i64 s.cap, .int .i64 s.batch, .int .i64 s.queue, .int .i64 s.stage] 30)) := (Chg.refl [] w).alloc _
 have HSH0 := hid (ShF.made2 (n0 := (w.alloc (.cells #[.int .i64 s.groups, .int .i64 s.column, .int .i64 s.data, .int .i64 s.spare, .int .i64 s.rows, .int .i64 s.cap, .int .i64 s.batch, .int .i64 s.queue, .int .i64 s.stage] 30)).heap.size) (n := w.heap.size + 1) (f := f) (w := (w.alloc (.cells #[.int .i64 s.groups, .int .i64 s.column, .int .i64 s.data, .int .i64 s.spare, .int .i64 s.rows, .int .i64 s.cap, .int .i64 s.batch, .int .i64 s.queue, .int .i64 s.stage] 30))) (by simp) (by simp) (fun hm => by have := recL.sl_lt ha _ hm; omega))
 have HS0 := hid (recL.sl_ext ha (g0.alloc (.cells #[] 67))); have G0 := hid g0
 have hll : l ≤ 400 := by have := ha.1; omega
 have HL := hid ha.1; have HKD := hid hkd
 clear ha g0 hl hkd
 go_enter Tryz.func106, Tryz.ntmps106
 go_wp2_with fail
 go_loopw [5, 6] (fun vo vi wr => ∃ (k : Nat) (Wr : World), Wr = wr ∧ k ≤ l ∧ vi = .int .i64 k ∧ ShF (w.alloc (.cells #[.int .i64 s.groups, .int .i64 s.column, .int .i64 s.data, .int .i64 s.spare, .int .i64 s.rows, .int .i64 s.cap, .int .i64 s.batch, .int .i64 s.queue, .int .i64 s.stage] 30)).heap.size f wr vo ((xs.take k).filter (fun r => spO xs (spA s.groups s.column.toNat xs) r l)) ∧ recL.sl wr a l c xs f ∧ Chg [] (w.alloc (.cells #[.int .i64 s.groups, .int .i64 s.column, .int .i64 s.data, .int .i64 s.spare, .int .i64 s.rows, .int .i64 s.cap, .int .i64 s.batch, .int .i64 s.queue, .int .i64 s.stage] 30)) wr) (fun _ vi _ => l - (intOf vi).toNat)
 case atStart => exact ⟨0, _, rfl, by omega, rfl, HSH0.out, HS0.out, (Chg.refl [] _).alloc _⟩
 case round =>
  obtain ⟨k, wr, rfl, hk, rfl, hsh, hs, hc⟩ := hrel
  have hbs := hc.keep0 HBS.out
  have cS := cellsOf hbs; have nS := ltOf hbs
  clear hbs
  by_cases hlt : k < l
  ·obtain ⟨r, b2, off2, cy, fq, HR, rfl, HCE, HXS⟩ := rec_at2 hs hlt
   obtain ⟨a6, l6, c6, f6, a7, l7, c7, f7, a8, l8, c8, f8, hcy, -⟩ := recL_iff.1 HXS.out
   subst hcy
   obtain ⟨g0, fps, ho, hg, hgf, hfp⟩ := hsh
   obtain ⟨a9, c9, rfl⟩ := recL.os_len ho
   have HXL := hid (show xs[k]? = some r from HR.out.1)
   have HG := hid hg; have HGF := hid hgf; have HFP := hid hfp
   have HFQ := hid (fun y (hy : y ∈ fq) => HR.out.2.2 y hy)
   have HGQ := hid (show ∀ g', some g0 = some g' → g' ∉ fq from fun g' e hm => by cases e; exact hgf (HR.out.2.2 g0 hm))
   have hlen : ((xs.take k).filter (fun r => spO xs (spA s.groups s.column.toNat xs) r l)).length ≤ 1000000 := by
    have h1 := List.length_filter_le (fun r => spO xs (spA s.groups s.column.toNat xs) r l) (xs.take k)
    rw [List.length_take] at h1; omega
   obtain ⟨ys, hys⟩ : ∃ ys, ys = (xs.take k).filter (fun r => spO xs (spA s.groups s.column.toNat xs) r l) := ⟨_, rfl⟩
   rw [← hys] at ho hlen ⊢
   have HYS := hid hys
   obtain ⟨lx, hlx⟩ : ∃ lx, lx = ys.length := ⟨_, rfl⟩
   have HLL := hid (show ys.length + [r].length ≤ maxLen ∧ (ys.length + [r].length) * 128 ≤ 140737488355328 by simp only [List.length_singleton, maxLen]; omega)
   rw [← hlx] at ho ⊢
   have hb2 := recL.sl_lt hs _ HR.out.2.1
   obtain ⟨WD, hWD⟩ : ∃ WD, WD = wr.drew := ⟨_, rfl⟩
   have gD : Chg [] wr WD := by rw [hWD]; exact (Chg.refl [] wr).drew
   have HK1 := hid (cellKeep gD (HCE.out.2.1 1 _ rfl) hb2); have HBL := hid (Nat.lt_of_lt_of_le hb2 gD.size); have HBL0 := hid hb2
   have HTL := hid (l6Top_any (some ⟨b2, off2, none⟩) l c xs f WD (recL.sl_ext hs gD) (by have := HL.out; omega))
   obtain ⟨o0, ho0⟩ : ∃ o0, o0 = spO xs (spA s.groups s.column.toNat xs) r 0 := ⟨_, rfl⟩
   have hdec : decide (r.seq < topL xs) = o0 := by rw [ho0]; exact (pb_dec _).symm
   have HO0 := hid ho0; have HGD := hid gD
   have HS00 := hid hs; have HO00 := hid ho; have HC00 := hid hc
   clear hs hc ho hg hgf hfp HR hlen hys hlx gD ho0 hb2 cS nS
   go_wp2_with fail
   obtain ⟨SS, HSI, HSO⟩ := rg_cond (fun w' => w'.cell? ⟨b2, off2 + k * 9 + 1, none⟩ = some (.int .i64 r.seq))
   have hS0 := HSI.out wr.drew (by rw [← hWD]; exact HK1.out)
   refine rg_start SS (by kernel_rfl) hS0 ?_
   rw [← hWD] at hS0 ⊢
   clear hWD
   refine rgT 0 hS0 ?_
   refine rgT 1 hS0 ?_
   refine rgT 2 hS0 ?_
   refine rgT 3 hS0 ?_
   refine rgL 4 hS0 HSO ?_
   refine rgT 5 hS0 ?_
   refine rg_call 6 rfl (by kernel_rfl) (fun K hK => ?_)
   go_simp
   go_at_call 104
   refine HTL.out.mono ?_
   rintro e w3 ⟨rfl, hc3⟩
   have HC3 := hid hc3; clear hc3
   go_wp2_with fail
   refine hK.out _ _ (HSI.out _ (cellKeep HC3.out HK1.out HBL.out)) (fun hS1 => ?_)
   clear hK K
   try simp only [Act.put, pA, pB, pC]
   refine rgT 7 hS1 ?_
   refine rgT 8 hS1 ?_
   refine wpAnyH_done (by kernel_rfl) ?_ _
   skip
   have HG3 := hid (HGD.out.trans0 HC3.out)
   have HCD := hid (HC00.out.trans0 HG3.out); have HSD := hid (recL.sl_ext HS00.out HG3.out); have HOSD := hid (recL.os_ext HO00.out HG3.out); have HXSD := hid (recL.ext HXS.out HG3.out)
   clear HXS
   go_wp2_with fail
   go_loopw [7, 8] (fun v7 v8 wq => ∃ (j : Nat) (Wq : World), Wq = wq ∧ j ≤ l ∧ v8 = .int .i64 j ∧ v7 = .bool (spO xs (spA s.groups s.column.toNat xs) r j) ∧ Chg [] w3 wq) (fun _ v8 _ => l - (intOf v8).toNat)
   case atStart => exact ⟨0, _, rfl, by omega, rfl, by rw [HO0.out], Chg.refl _ _⟩
   case round =>
    obtain ⟨j, wq, rfl, hj, rfl, rfl, hcj⟩ := hrel
    obtain ⟨ov, hov⟩ : ∃ ov, ov = spO xs (spA s.groups s.column.toNat xs) r j := ⟨_, rfl⟩
    rw [← hov]
    by_cases hlt3 : j < l
    ·cases ov
     ·have HCQ := hid (HCD.out.trans0 hcj); have HSQ := hid (recL.sl_ext HSD.out hcj); have HOSQ := hid (recL.os_ext HOSD.out hcj); have HXS2 := hid (recL.ext HXSD.out hcj)
      have HXS := HXS2; have HOS := HOSQ
      have HOV := hid (spO_down hov.symm l hj)
      clear hov hcj
      have HNX := hid (show (xs.take (k + 1)).filter (fun r => spO xs (spA s.groups s.column.toNat xs) r l) = ys by rw [filt_no HXL.out (show spO xs (spA s.groups s.column.toNat xs) r l = false from HOV.out), HYS.out])
      go_wp2_with fail
      go_roundw
      case rel => exact ⟨k + 1, _, rfl, by omega, rfl, by rw [HNX.out]; exact ⟨g0, fps, HOSQ.out, HG.out, HGF.out, HFP.out⟩, HSQ.out, HCQ.out⟩
      case measure => simp [intOf]; omega
     ·have HOI := hid hov.symm
      have HCJ := hid hcj
      obtain ⟨x, b4, off4, cx, fx, HX, ha4, HCX, HZX⟩ := rec_at2 (recL.sl_ext HSD.out hcj) hlt3
      obtain ⟨rfl, rfl⟩ : b2 = b4 ∧ off2 = off4 := by simpa using ha4
      obtain ⟨p6, n6, e6, y6, p7, n7, e7, y7, p8, n8, e8, y8, hcx, -⟩ := recL_iff.1 HZX.out
      subst hcx
      have HXI := hid (show xs[j]? = some x from HX.out.1)
      have gq : Chg [] wq wq.drew := (Chg.refl [] wq).drew
      have hbq : b2 < wq.heap.size := Nat.lt_of_lt_of_le HBL0.out (HG3.out.trans0 hcj).size
      have hcr := (HCE.out.ext HG3.out HBL0.out).ext hcj (Nat.lt_of_lt_of_le HBL0.out HG3.out.size)
      have HCC := hid (show wq.drew.cell? ⟨b2, off2 + j * 9, none⟩ = some (.int .i64 x.kind) ∧ wq.drew.cell? ⟨b2, off2 + j * 9 + 1, none⟩ = some (.int .i64 x.seq) ∧ wq.drew.cell? ⟨b2, off2 + k * 9, none⟩ = some (.int .i64 r.kind) ∧ wq.drew.cell? ⟨b2, off2 + k * 9 + 1, none⟩ = some (.int .i64 r.seq) from
       ⟨cellKeep gq (by have h := HCX.out.2.1 0 _ rfl; simpa using h) hbq, cellKeep gq (HCX.out.2.1 1 _ rfl) hbq, cellKeep gq (by have h := hcr.2.1 0 _ rfl; simpa using h) hbq, cellKeep gq (hcr.2.1 1 _ rfl) hbq⟩)
      have HSPN := hid (isSpent_any s hok (some ⟨b2, off2, none⟩) l c xs f j x wq.drew (recL.sl_ext HSD.out (hcj.trans0 gq)) HX.out.1 (HKD.out x (List.mem_of_getElem? HX.out.1)))
      have hbs := (HCD.out.trans0 (hcj.trans0 gq)).keep0 HBS.out
      have cS := cellsOf hbs; have nS := ltOf hbs
      have HGB := hid (show (spA s.groups s.column.toNat xs).getD j false = spB s.groups s.column.toNat xs j x by rw [List.getD_eq_getElem?_getD, spA_at HXI.out]; rfl)
      clear hov hcj HX HZX ha4 gq hbq hcr hbs
      by_cases hk1 : x.kind = r.kind
      ·have b1 : (x.kind == r.kind) = true := by simp [hk1]
       by_cases hs1 : x.seq = r.seq
       ·have b2' : (x.seq == r.seq) = true := by simp [hs1]
        have HO1 := hid (show spO xs (spA s.groups s.column.toNat xs) r (j + 1) = spB s.groups s.column.toNat xs j x by rw [spO_next HXI.out, HOI.out, HGB.out, pb_true (P := x.kind = r.kind ∧ x.seq = r.seq) ⟨hk1, hs1⟩]; simp)
        clear hk1 hs1
        go_wp2_with fail
        obtain ⟨SS, HSI, HSO⟩ := rg_cond (fun w' => w'.cell? ⟨b2, off2 + j * 9, none⟩ = some (.int .i64 x.kind) ∧ w'.cell? ⟨b2, off2 + j * 9 + 1, none⟩ = some (.int .i64 x.seq) ∧ w'.cell? ⟨b2, off2 + k * 9, none⟩ = some (.int .i64 r.kind) ∧ w'.cell? ⟨b2, off2 + k * 9 + 1, none⟩ = some (.int .i64 r.seq))
        have hS0 := HSI.out _ HCC.out
        refine rg_start SS (by kernel_rfl) hS0 ?_
        refine rgT 0 hS0 ?_
        refine rgT 1 hS0 ?_
        refine rgT 2 hS0 ?_
        refine rgT 3 hS0 ?_
        refine rgL 4 hS0 HSO ?_
        refine rgT 5 hS0 ?_
        refine rgT 6 hS0 ?_
        refine rgT 7 hS0 ?_
        refine rgT 8 hS0 ?_
        refine rgL 9 hS0 HSO ?_
        refine rgT 10 hS0 ?_
        refine rgT 11 hS0 ?_
        refine rgT 12 hS0 ?_
        refine rgT 13 hS0 ?_
        refine rgT 14 hS0 ?_
        refine rgT 15 hS0 ?_
        refine rgL 16 hS0 HSO ?_
        refine rgT 17 hS0 ?_
        refine rgT 18 hS0 ?_
        refine rgT 19 hS0 ?_
        refine rgT 20 hS0 ?_
        refine rgL 21 hS0 HSO ?_
        refine rgT 22 hS0 ?_
        refine rgT 23 hS0 ?_
        refine wpAnyH_done (by kernel_rfl) ?_ _
        skip
        go_wp2_with fail
        refine HSPN.out.mono ?_
        rintro e w5 ⟨rfl, hc5⟩
        have HC5 := hid ((HCJ.out.drew).trans0 hc5); clear hc5
        go_wp2_with fail
        go_roundw
        case rel => exact ⟨j + 1, _, rfl, by omega, rfl, by rw [HO1.out], HC5.out⟩
        case measure => simp [intOf]; omega
       ·have b2' : (x.seq == r.seq) = false := by simpa using hs1
        have HO1 := hid (show spO xs (spA s.groups s.column.toNat xs) r (j + 1) = true by rw [spO_next HXI.out, HOI.out, pb_false (P := x.kind = r.kind ∧ x.seq = r.seq) (fun h => hs1 h.2)]; simp)
        clear hk1 hs1
        go_wp2_with fail
        obtain ⟨SS, HSI, HSO⟩ := rg_cond (fun w' => w'.cell? ⟨b2, off2 + j * 9, none⟩ = some (.int .i64 x.kind) ∧ w'.cell? ⟨b2, off2 + j * 9 + 1, none⟩ = some (.int .i64 x.seq) ∧ w'.cell? ⟨b2, off2 + k * 9, none⟩ = some (.int .i64 r.kind) ∧ w'.cell? ⟨b2, off2 + k * 9 + 1, none⟩ = some (.int .i64 r.seq))
        have hS0 := HSI.out _ HCC.out
        refine rg_start SS (by kernel_rfl) hS0 ?_
        refine rgT 0 hS0 ?_
        refine rgT 1 hS0 ?_
        refine rgT 2 hS0 ?_
        refine rgT 3 hS0 ?_
        refine rgL 4 hS0 HSO ?_
        refine rgT 5 hS0 ?_
        refine rgT 6 hS0 ?_
        refine rgT 7 hS0 ?_
        refine rgT 8 hS0 ?_
        refine rgL 9 hS0 HSO ?_
        refine rgT 10 hS0 ?_
        refine rgT 11 hS0 ?_
        refine rgT 12 hS0 ?_
        refine rgT 13 hS0 ?_
        refine rgT 14 hS0 ?_
        refine rgT 15 hS0 ?_
        refine rgL 16 hS0 HSO ?_
        refine rgT 17 hS0 ?_
        refine rgT 18 hS0 ?_
        refine rgT 19 hS0 ?_
        refine rgT 20 hS0 ?_
        refine rgL 21 hS0 HSO ?_
        refine rgT 22 hS0 ?_
        refine rgT 23 hS0 ?_
        refine wpAnyH_done (by kernel_rfl) ?_ _
        skip
        go_wp2_with fail
        go_roundw
        case rel => exact ⟨j + 1, _, rfl, by omega, rfl, by rw [HO1.out], HCJ.out.drew⟩
        case measure => simp [intOf]; omega
      ·have b1 : (x.kind == r.kind) = false := by simpa using hk1
       have HO1 := hid (show spO xs (spA s.groups s.column.toNat xs) r (j + 1) = true by rw [spO_next HXI.out, HOI.out, pb_false (P := x.kind = r.kind ∧ x.seq = r.seq) (fun h => hk1 h.1)]; simp)
       clear hk1
       go_wp2_with fail
       obtain ⟨SS, HSI, HSO⟩ := rg_cond (fun w' => w'.cell? ⟨b2, off2 + j * 9, none⟩ = some (.int .i64 x.kind) ∧ w'.cell? ⟨b2, off2 + j * 9 + 1, none⟩ = some (.int .i64 x.seq) ∧ w'.cell? ⟨b2, off2 + k * 9, none⟩ = some (.int .i64 r.kind) ∧ w'.cell? ⟨b2, off2 + k * 9 + 1, none⟩ = some (.int .i64 r.seq))
       have hS0 := HSI.out _ HCC.out
       refine rg_start SS (by kernel_rfl) hS0 ?_
       refine rgT 0 hS0 ?_
       refine rgT 1 hS0 ?_
       refine rgT 2 hS0 ?_
       refine rgT 3 hS0 ?_
       refine rgL 4 hS0 HSO ?_
       refine rgT 5 hS0 ?_
       refine rgT 6 hS0 ?_
       refine rgT 7 hS0 ?_
       refine rgT 8 hS0 ?_
       refine rgL 9 hS0 HSO ?_
       refine rgT 10 hS0 ?_
       refine rgT 11 hS0 ?_
       refine rgS 12 hS0 ?_
       refine rgS 13 hS0 ?_
       refine rgS 14 hS0 ?_
       refine rgS 15 hS0 ?_
       refine rgS 16 hS0 ?_
       refine rgS 17 hS0 ?_
       refine rgS 18 hS0 ?_
       refine rgS 19 hS0 ?_
       refine rgS 20 hS0 ?_
       refine rgS 21 hS0 ?_
       refine rgS 22 hS0 ?_
       refine rgT 23 hS0 ?_
       refine wpAnyH_done (by kernel_rfl) ?_ _
       skip
       go_wp2_with fail
       go_roundw
       case rel => exact ⟨j + 1, _, rfl, by omega, rfl, by rw [HO1.out], HCJ.out.drew⟩
       case measure => simp [intOf]; omega
    ·have HCQ := hid (HCD.out.trans0 hcj); have HSQ := hid (recL.sl_ext HSD.out hcj); have HOSQ := hid (recL.os_ext HOSD.out hcj); have HXS2 := hid (recL.ext HXSD.out hcj)
     have HXS := HXS2; have HOS := HOSQ
     have HOV := hid (show spO xs (spA s.groups s.column.toNat xs) r l = ov by rw [hov, show j = l by omega])
     clear hov
     cases ov
     ·clear hcj
      have HNX := hid (show (xs.take (k + 1)).filter (fun r => spO xs (spA s.groups s.column.toNat xs) r l) = ys by rw [filt_no HXL.out (show spO xs (spA s.groups s.column.toNat xs) r l = false from HOV.out), HYS.out])
      go_wp2_with fail
      go_roundw
      case rel => exact ⟨k + 1, _, rfl, by omega, rfl, by rw [HNX.out]; exact ⟨g0, fps, HOSQ.out, HG.out, HGF.out, HFP.out⟩, HSQ.out, HCQ.out⟩
      case measure => simp [intOf]; omega
     ·skip
      have HNX := hid (show (xs.take (k + 1)).filter (fun r => spO xs (spA s.groups s.column.toNat xs) r l) = ys ++ [r] by rw [filt_yes HXL.out (show spO xs (spA s.groups s.column.toNat xs) r l = true from HOV.out), HYS.out])
      have HCX := hid (show Celled wq b2 (off2 + k * 9) 9 [.int .i64 r.kind, .int .i64 r.seq, .string r.name, .int .i64 r.length, .int .i64 r.group, .int .i64 r.row, .slice a6 l6 c6, .slice a7 l7 c7, .slice a8 l8 c8] from (HCE.out.ext HG3.out HBL0.out).ext hcj (Nat.lt_of_lt_of_le HBL0.out HG3.out.size))
      clear hcj
      go_wp2_with (first | (at_builtin; refine recL.wpList_append rfl _ _ 44 rfl Tryz.underlying44 KR rfl (recL.os_ext HOS.out ((Chg.refl [] wq).alloc (.cells #[.int .i64 r.kind, .int .i64 r.seq, .string r.name, .int .i64 r.length, .int .i64 r.group, .int .i64 r.row, .slice a6 l6 c6, .slice a7 l7 c7, .slice a8 l8 c8] 67))) ⟨wq.heap.size, 0, none⟩ 1 1 [.int .i64 r.kind, .int .i64 r.seq, .string r.name, .int .i64 r.length, .int .i64 r.group, .int .i64 r.row, .slice a6 l6 c6, .slice a7 l7 c7, .slice a8 l8 c8] (ys := [r]) (f := fq) rfl rfl (new_cells wq #[.int .i64 r.kind, .int .i64 r.seq, .string r.name, .int .i64 r.length, .int .i64 r.group, .int .i64 r.row, .slice a6 l6 c6, .slice a7 l7 c7, .slice a8 l8 c8] 67) (recL.all_single (recL.ext HXS.out ((Chg.refl [] wq).alloc _))) HGQ.out HLL.out.1 HLL.out.2 ?_; intro v' w4 h' ho' hh' hc'; have HSH4 := hid (ShF.step HG.out HGF.out HFP.out HFQ.out (recL.sl_ext HSQ.out ((Chg.refl [] wq).alloc (.cells #[.int .i64 r.kind, .int .i64 r.seq, .string r.name, .int .i64 r.length, .int .i64 r.group, .int .i64 r.row, .slice a6 l6 c6, .slice a7 l7 c7, .slice a8 l8 c8] 67))) (HCQ.out.alloc (.cells #[.int .i64 r.kind, .int .i64 r.seq, .string r.name, .int .i64 r.length, .int .i64 r.group, .int .i64 r.row, .slice a6 l6 c6, .slice a7 l7 c7, .slice a8 l8 c8] 67)) ho' hh' hc'); clear ho' hh' hc') | (refine load_rowL rfl _ 67 rfl rfl infoRc Tryz.underlying67 HCX.out.2.1 HCX.out.1 ?_))
      rw [← HNX.out] at HSH4
      go_roundw
      case rel => exact ⟨k + 1, _, rfl, by omega, rfl, HSH4.out.1, HSH4.out.2.1, HSH4.out.2.2⟩
      case measure => simp [intOf]; omega
  ·obtain rfl : k = l := by omega
   rw [List.take_of_length_le (by have := HL.out; omega)] at hsh
   have HE := hid (hsh.slr (G0.out.trans0 hc))
   clear hsh hs hc
   go_wp2_with fail
   go_ret
   have h9 := HE.out
   rw [HL.out] at h9
   exact h9
set_option maxRecDepth 100000 in
set_option maxHeartbeats 8000000 in
theorem impl_SpentRecs (x : Wld) (cx : Array Value) (fx : List Nat) (w : World) (hx : wldL.rep w cx.toList x fx) (hz : totWld x ≤ 1048576) :
  Calls Tryz.prog 37 #[.agg cx] w (NewAgg rrsL (spnR x) w) := by
 obtain ⟨a10, l10, c10, _, a11, l11, c11, f11, a12, l12, c12, _, ex, -, -, -, -, -, -, -, -, -, h10, h11, h12, oo13, oo14, -⟩ := wldL_iff.1 hx
 obtain rfl := Array.toList_inj.1 (ex.trans (List.toList_toArray).symm)
 have HW := hid hx; have HZ := hid hz; have H10 := hid h10; have H11 := hid h11; have H12 := hid h12; have HOO := hid (And.intro oo13 oo14)
 have hl11 : l11 ≤ 1048576 := by have h := h11.1; have q10 := totL_nonneg (totL_nonneg totDrv_nonneg) x.groups; have q12 := totL_nonneg totTap_nonneg x.tapes; unfold totWld totIs at hz; omega
 clear hx ex hz h10 h11 h12 oo13 oo14
 have G0 := hid (show Chg [] w ((w.alloc (.cells #[.int .i64 x.shape.groups, .int .i64 x.shape.column, .int .i64 x.shape.data, .int .i64 x.shape.spare, .int .i64 x.shape.rows, .int .i64 x.shape.cap, .int .i64 x.shape.batch, .int .i64 x.shape.queue, .int .i64 x.shape.stage, .slice a10 l10 c10, .slice a11 l11 c11, .slice a12 l12 c12, .int .i64 x.writes, .int .i64 x.stop, .bool x.down] 34)).alloc (.cells #[.int .i64 0, .slice none 0 0] 46)) from (Chg.alloc (Chg.alloc (Chg.refl [] w) _) _))
 have B0 := hid (show ((w.alloc (.cells #[.int .i64 x.shape.groups, .int .i64 x.shape.column, .int .i64 x.shape.data, .int .i64 x.shape.spare, .int .i64 x.shape.rows, .int .i64 x.shape.cap, .int .i64 x.shape.batch, .int .i64 x.shape.queue, .int .i64 x.shape.stage, .slice a10 l10 c10, .slice a11 l11 c11, .slice a12 l12 c12, .int .i64 x.writes, .int .i64 x.stop, .bool x.down] 34)).alloc (.cells #[.int .i64 0, .slice none 0 0] 46)).heap[w.heap.size]? = some (.cells #[.int .i64 x.shape.groups, .int .i64 x.shape.column, .int .i64 x.shape.data, .int .i64 x.shape.spare, .int .i64 x.shape.rows, .int .i64 x.shape.cap, .int .i64 x.shape.batch, .int .i64 x.shape.queue, .int .i64 x.shape.stage, .slice a10 l10 c10, .slice a11 l11 c11, .slice a12 l12 c12, .int .i64 x.writes, .int .i64 x.stop, .bool x.down] 34 (0, 0)) from keep_alloc (new_alloc w _) _)
 have B1 := hid (show ((w.alloc (.cells #[.int .i64 x.shape.groups, .int .i64 x.shape.column, .int .i64 x.shape.data, .int .i64 x.shape.spare, .int .i64 x.shape.rows, .int .i64 x.shape.cap, .int .i64 x.shape.batch, .int .i64 x.shape.queue, .int .i64 x.shape.stage, .slice a10 l10 c10, .slice a11 l11 c11, .slice a12 l12 c12, .int .i64 x.writes, .int .i64 x.stop, .bool x.down] 34)).alloc (.cells #[.int .i64 0, .slice none 0 0] 46)).heap[w.heap.size + 1]? = some (.cells #[.int .i64 0, .slice none 0 0] 46 (0, 0)) from new_at (by simp) _)
 go_enter Tryz.func37, Tryz.ntmps37
 obtain ⟨q, hq⟩ : ∃ q, q = x.fault := ⟨_, rfl⟩
 have HQ := hid hq; clear hq
 go_wp2_with (first | (refine load_wide rfl _ 34 rfl rfl infoWd Tryz.underlying34 B0.out rfl ?_))
 refine (impl_WorldFault x #[.int .i64 x.shape.groups, .int .i64 x.shape.column, .int .i64 x.shape.data, .int .i64 x.shape.spare, .int .i64 x.shape.rows, .int .i64 x.shape.cap, .int .i64 x.shape.batch, .int .i64 x.shape.queue, .int .i64 x.shape.stage, .slice a10 l10 c10, .slice a11 l11 c11, .slice a12 l12 c12, .int .i64 x.writes, .int .i64 x.stop, .bool x.down] fx _ (wldL.ext HW.out G0.out)).mono ?_
 rintro e w1 ⟨rfl, hc⟩
 rw [← HQ.out]
 obtain ⟨c0, n0, A0_1⟩ := bk0 hc B0.out
 obtain ⟨c1, n1, A1_1⟩ := bk0 hc B1.out
 have G1 := hid (G0.out.trans0 hc)
 have fz := freeOf A1_1.out
 clear hc
 have hqk : i64ok q := by rw [HQ.out]; exact fault_i64 x
 by_cases hq0 : q = 0
 ·subst hq0
  have hf0 : x.fault = 0 := HQ.out.symm
  have hok := fault_ok0 hf0; have HR := hid (spnR_ok hf0)
  have HN := hid (spentRecs_any w.heap.size x.shape hok a12 l12 c12 _ x.tapes w1 A0_1.out (tapL.sl_ext H12.out G1.out) (by have := fault_flat hf0; omega))
  go_wp2_with (first | (refine load_wide rfl _ 34 rfl rfl infoWd Tryz.underlying34 A0_1.out rfl ?_))
  refine (HN.out).mono ?_
  rintro e w2 ⟨a, l, c, f, rfl, hs, hc⟩
  have HS0 := hid hs; clear hs
  clear c0 n0
  obtain ⟨c0, n0, A0_2⟩ := bk0 hc A0_1.out
  clear c1 n1
  obtain ⟨c1, n1, A1_2⟩ := bk0 hc A1_1.out
  have G2 := hid (G1.out.trans0 hc)
  clear fz; have fz := freeOf A1_2.out
  clear hc
  have nR0 := n1
  go_wp2_with (first | (refine load_wide rfl _ 34 rfl rfl infoWd Tryz.underlying34 A0_2.out rfl ?_))
  refine (cloneRecs_any a l c _ f w2 HS0.out (totF _ x HZ.out)).mono ?_
  rintro e w3 ⟨pa, pc, pf, rfl, hs, hf, hc⟩
  have HS := hid hs; have HFR := hid (hf.mono (C := w.heap.size) G2.out.size)
  have HLO := hid (fun y hy => (hf.2 y hy).1)
  clear hs hf
  clear c0 n0
  obtain ⟨c0, n0, A0_3⟩ := bk0 hc A0_2.out
  clear c1 n1
  obtain ⟨c1, n1, A1_3⟩ := bk0 hc A1_2.out
  have G3 := hid (G2.out.trans0 hc)
  clear fz; have fz := freeOf A1_3.out
  clear hc
  have HNF := hid (fun hy => absurd (HLO.out _ hy) (by omega) : w.heap.size + 1 ∉ pf)
  go_wp2_with (first | (refine store_wide rfl _ _ 46 rfl rfl rfl infoRR A1_3.out rfl rfl rfl ?_; intro w9 hb9 hc9; have HB9 := hid hb9; have HC9 := hid hc9; clear hb9 hc9))
  refine bodyPost_ret (v := .agg #[.int .i64 0, .slice pa (spnL x.shape.groups x.shape.column.toNat (cntL x.tapes)).length pc]) (results_wide _ _ Tryz.results37 rfl infoRR Tryz.underlying46 HB9.out rfl) rfl (finR9 (spnR x) (HR.out) HS.out HFR.out G3.out HC9.out HNF.out (by omega))
 ·have hb : ((q : Int) != 0) = true := by simpa using hq0
  go_wp2_with (first | (refine store_wide rfl _ _ 46 rfl rfl rfl infoRR A1_1.out rfl rfl rfl ?_; intro w9 hb9 hc9; have HB9 := hid hb9; have HC9 := hid hc9; clear hb9 hc9))
  refine bodyPost_ret (v := .agg #[.int .i64 (q), .slice none 0 0]) (results_wide _ _ Tryz.results37 rfl infoRR Tryz.underlying46 HB9.out rfl) rfl (badR9 (q) (hqk) (spnR x) (by rw [spnR_bad (by rw [← HQ.out]; exact hq0), ← HQ.out]) G1.out HC9.out (by omega))
set_option maxRecDepth 100000 in
set_option maxHeartbeats 8000000 in
theorem spec_SpentRecs (x : Wld) (cx : Array Value) (fx : List Nat) (w : World) (hx : wldL.rep w cx.toList x fx) (hz : totWld x ≤ 1048576) :
  Calls Tryz.prog 36 #[.agg cx] w (NewAgg rrsL (spnR x) w) := by
 obtain ⟨a10, l10, c10, _, a11, l11, c11, f11, a12, l12, c12, _, ex, -, -, -, -, -, -, -, -, -, h10, h11, h12, oo13, oo14, -⟩ := wldL_iff.1 hx
 obtain rfl := Array.toList_inj.1 (ex.trans (List.toList_toArray).symm)
 have HW := hid hx; have HZ := hid hz; have H10 := hid h10; have H11 := hid h11; have H12 := hid h12; have HOO := hid (And.intro oo13 oo14)
 have hl11 : l11 ≤ 1048576 := by have h := h11.1; have q10 := totL_nonneg (totL_nonneg totDrv_nonneg) x.groups; have q12 := totL_nonneg totTap_nonneg x.tapes; unfold totWld totIs at hz; omega
 clear hx ex hz h10 h11 h12 oo13 oo14
 have G0 := hid (show Chg [] w ((w.alloc (.cells #[.int .i64 x.shape.groups, .int .i64 x.shape.column, .int .i64 x.shape.data, .int .i64 x.shape.spare, .int .i64 x.shape.rows, .int .i64 x.shape.cap, .int .i64 x.shape.batch, .int .i64 x.shape.queue, .int .i64 x.shape.stage, .slice a10 l10 c10, .slice a11 l11 c11, .slice a12 l12 c12, .int .i64 x.writes, .int .i64 x.stop, .bool x.down] 34)).alloc (.cells #[.int .i64 0, .slice none 0 0] 46)) from (Chg.alloc (Chg.alloc (Chg.refl [] w) _) _))
 have B0 := hid (show ((w.alloc (.cells #[.int .i64 x.shape.groups, .int .i64 x.shape.column, .int .i64 x.shape.data, .int .i64 x.shape.spare, .int .i64 x.shape.rows, .int .i64 x.shape.cap, .int .i64 x.shape.batch, .int .i64 x.shape.queue, .int .i64 x.shape.stage, .slice a10 l10 c10, .slice a11 l11 c11, .slice a12 l12 c12, .int .i64 x.writes, .int .i64 x.stop, .bool x.down] 34)).alloc (.cells #[.int .i64 0, .slice none 0 0] 46)).heap[w.heap.size]? = some (.cells #[.int .i64 x.shape.groups, .int .i64 x.shape.column, .int .i64 x.shape.data, .int .i64 x.shape.spare, .int .i64 x.shape.rows, .int .i64 x.shape.cap, .int .i64 x.shape.batch, .int .i64 x.shape.queue, .int .i64 x.shape.stage, .slice a10 l10 c10, .slice a11 l11 c11, .slice a12 l12 c12, .int .i64 x.writes, .int .i64 x.stop, .bool x.down] 34 (0, 0)) from keep_alloc (new_alloc w _) _)
 have B1 := hid (show ((w.alloc (.cells #[.int .i64 x.shape.groups, .int .i64 x.shape.column, .int .i64 x.shape.data, .int .i64 x.shape.spare, .int .i64 x.shape.rows, .int .i64 x.shape.cap, .int .i64 x.shape.batch, .int .i64 x.shape.queue, .int .i64 x.shape.stage, .slice a10 l10 c10, .slice a11 l11 c11, .slice a12 l12 c12, .int .i64 x.writes, .int .i64 x.stop, .bool x.down] 34)).alloc (.cells #[.int .i64 0, .slice none 0 0] 46)).heap[w.heap.size + 1]? = some (.cells #[.int .i64 0, .slice none 0 0] 46 (0, 0)) from new_at (by simp) _)
 go_enter Tryz.func36, Tryz.ntmps36
 obtain ⟨q, hq⟩ : ∃ q, q = x.fault := ⟨_, rfl⟩
 have HQ := hid hq; clear hq
 go_wp2_with (first | (refine load_wide rfl _ 34 rfl rfl infoWd Tryz.underlying34 B0.out rfl ?_))
 refine (spec_WorldFault x #[.int .i64 x.shape.groups, .int .i64 x.shape.column, .int .i64 x.shape.data, .int .i64 x.shape.spare, .int .i64 x.shape.rows, .int .i64 x.shape.cap, .int .i64 x.shape.batch, .int .i64 x.shape.queue, .int .i64 x.shape.stage, .slice a10 l10 c10, .slice a11 l11 c11, .slice a12 l12 c12, .int .i64 x.writes, .int .i64 x.stop, .bool x.down] fx _ (wldL.ext HW.out G0.out)).mono ?_
 rintro e w1 ⟨rfl, hc⟩
 rw [← HQ.out]
 obtain ⟨c0, n0, A0_1⟩ := bk0 hc B0.out
 obtain ⟨c1, n1, A1_1⟩ := bk0 hc B1.out
 have G1 := hid (G0.out.trans0 hc)
 have fz := freeOf A1_1.out
 clear hc
 have hqk : i64ok q := by rw [HQ.out]; exact fault_i64 x
 by_cases hq0 : q = 0
 ·subst hq0
  have hf0 : x.fault = 0 := HQ.out.symm
  have hok := fault_ok0 hf0; have HR := hid (spnR_ok hf0)
  go_wp2_with fail
  obtain ⟨SS, HSI, HSO⟩ := rg_cond (fun w' => Know w.heap.size #[.int .i64 x.shape.groups, .int .i64 x.shape.column, .int .i64 x.shape.data, .int .i64 x.shape.spare, .int .i64 x.shape.rows, .int .i64 x.shape.cap, .int .i64 x.shape.batch, .int .i64 x.shape.queue, .int .i64 x.shape.stage, .slice a10 l10 c10, .slice a11 l11 c11, .slice a12 l12 c12, .int .i64 x.writes, .int .i64 x.stop, .bool x.down] w')
  have hS0 := HSI.out _ (Know.of (keep_drew A0_1.out))
  refine rg_start SS (by kernel_rfl) hS0 ?_
  obtain ⟨w2, hwd⟩ : ∃ wd, wd = w1.drew := ⟨_, rfl⟩
  rw [← hwd] at hS0 ⊢
  have hc : Chg [] w1 w2 := by rw [hwd]; exact (Chg.refl [] w1).drew
  clear hwd
  clear c0 n0
  obtain ⟨c0, n0, A0_2⟩ := bk0 hc A0_1.out
  clear c1 n1
  obtain ⟨c1, n1, A1_2⟩ := bk0 hc A1_1.out
  have G2 := hid (G1.out.trans0 hc)
  clear fz; have fz := freeOf A1_2.out
  clear hc
  refine rgT 0 hS0 ?_
  refine rgL 1 hS0 HSO ?_
  obtain rfl : l12 = 2 := by have h1 := H12.out.1; have h2 := (fault_recs hf0).1; omega
  have HN0 := hid (l6Counted_any w.heap.size a12 c12 _ x.tapes w2 A0_2.out (tapL.sl_ext H12.out G2.out) (by have := fault_flat hf0; omega))
  refine rg_call 2 rfl (by kernel_rfl) (fun K hK => ?_)
  go_simp
  go_at_call 92
  refine HN0.out.mono ?_
  rintro e w3 ⟨v, rfl, hr, hc⟩
  obtain ⟨a0, l0, cc0, f0, rfl, hs, -⟩ := hr.sl
  have HS1 := hid hs; clear hs hr
  clear c0 n0
  obtain ⟨c0, n0, A0_3⟩ := bk0 hc A0_2.out
  clear c1 n1
  obtain ⟨c1, n1, A1_3⟩ := bk0 hc A1_2.out
  have G3 := hid (G2.out.trans0 hc)
  clear fz; have fz := freeOf A1_3.out
  clear hc
  go_wp2_with fail
  refine hK.out _ _ (HSI.out _ (Know.of A0_3.out)) (fun hS1 => ?_)
  clear hK K
  try simp only [Act.put, pA, pB, pC]
  have HN1 := hid (l6Spent_any x.shape hok a0 l0 cc0 _ f0 w3 HS1.out (by have := cntL_400 hf0; omega) (cntL_kind hf0))
  refine rg_call 3 rfl (by kernel_rfl) (fun K hK => ?_)
  go_simp
  go_at_call 106
  refine HN1.out.mono ?_
  rintro e w4 ⟨a, l, c, f, rfl, hs, hc⟩
  have HS0 := hid hs; clear hs
  clear c0 n0
  obtain ⟨c0, n0, A0_4⟩ := bk0 hc A0_3.out
  clear c1 n1
  obtain ⟨c1, n1, A1_4⟩ := bk0 hc A1_3.out
  have G4 := hid (G3.out.trans0 hc)
  clear fz; have fz := freeOf A1_4.out
  clear hc
  go_wp2_with fail
  refine hK.out _ _ (HSI.out _ (Know.of A0_4.out)) (fun hS2 => ?_)
  clear hK K
  try simp only [Act.put, pA, pB, pC]
  have nR0 := n1
  have HN2 := hid (l5CopyRecs_any a l c _ f w4 HS0.out (totF _ x HZ.out))
  refine rg_call 4 rfl (by kernel_rfl) (fun K hK => ?_)
  go_simp
  go_at_call 91
  refine HN2.out.mono ?_
  rintro e w5 ⟨pa, pc, pf, rfl, hs, hf, hc⟩
  have HS := hid hs; have HFR := hid (hf.mono (C := w.heap.size) G4.out.size)
  have HLO := hid (fun y hy => (hf.2 y hy).1)
  clear hs hf
  clear c0 n0
  obtain ⟨c0, n0, A0_5⟩ := bk0 hc A0_4.out
  clear c1 n1
  obtain ⟨c1, n1, A1_5⟩ := bk0 hc A1_4.out
  have G5 := hid (G4.out.trans0 hc)
  clear fz; have fz := freeOf A1_5.out
  clear hc
  have HNF := hid (fun hy => absurd (HLO.out _ hy) (by omega) : w.heap.size + 1 ∉ pf)
  go_wp2_with fail
  refine hK.out _ _ (HSI.out _ (Know.of A0_5.out)) (fun hS3 => ?_)
  clear hK K
  try simp only [Act.put, pA, pB, pC]
  refine rgT 5 hS3 ?_
  refine rg_call 6 rfl (by kernel_rfl) (fun K hK => ?_)
  refine store_step rfl _ _ 46 rfl rfl rfl infoRR A1_5.out rfl rfl rfl ?_
  intro w9 hb9 hc9
  have HB9 := hid hb9; have HC9 := hid hc9
  have HK9 := hid (hc9.keepb A0_5.out (by simp))
  clear hb9 hc9
  refine hK.out _ _ (HSI.out _ (Know.of HK9.out)) (fun hS4 => ?_)
  clear hK K
  try simp only [Act.put]
  refine wpAnyH_done (by kernel_rfl) ?_ _
  go_wp2_with fail
  refine bodyPost_ret (v := .agg #[.int .i64 0, .slice pa (spnL x.shape.groups x.shape.column.toNat (cntL x.tapes)).length pc]) (results_wide _ _ Tryz.results36 rfl infoRR Tryz.underlying46 HB9.out rfl) rfl (finR9 (spnR x) (HR.out) HS.out HFR.out G5.out HC9.out HNF.out (by omega))
 ·have hb : ((q : Int) != 0) = true := by simpa using hq0
  go_wp2_with (first | (refine store_wide rfl _ _ 46 rfl rfl rfl infoRR A1_1.out rfl rfl rfl ?_; intro w9 hb9 hc9; have HB9 := hid hb9; have HC9 := hid hc9; clear hb9 hc9))
  refine bodyPost_ret (v := .agg #[.int .i64 (q), .slice none 0 0]) (results_wide _ _ Tryz.results36 rfl infoRR Tryz.underlying46 HB9.out rfl) rfl (badR9 (q) (hqk) (spnR x) (by rw [spnR_bad (by rw [← HQ.out]; exact hq0), ← HQ.out]) G1.out HC9.out (by omega))
end Go.Proofs.YtphmpimgbmedbaaGreat
