import Derived.Test.YtphmpimgbmedbaaGreatRfbM
import Derived.Test.YtphmpimgbmedbaaGreatReg
/- Is the record of an item right; are the weights of a share right: the reference. -/
namespace Go.Proofs.YtphmpimgbmedbaaGreat
open Go.RowKit

theorem zfacts {l : Nat} (h : l = 0) : ((l : Int) == 0) = true ∧ ¬ (0 : Int) < (l : Int) ∧ ¬ 0 < l ∧ decide ((0 : Int) < (l : Int)) = false ∧ decide (0 < l) = false := by subst h; decide
def partsN (s : Shp) (n : Int) : Int := (n + 4 * s.data - 1) / (4 * s.data)
/-- the record of an object is right -/
def ItemOk (s : Shp) (x : Rec) : Prop := if x.length = -1 then x.data = [] ∧ x.rows = [] else
  (partsV s.data x.length).2 = 0 ∧ (if x.data = [] then (x.rows.length : Int) = partsN s x.length ∧ Apart (s.rows - 1) x.rows else (x.data.length : Int) = x.length ∧ x.rows = [])
theorem parts0 {s : Shp} {n : Int} (hd : 1 ≤ s.data ∧ s.data ≤ 3) (h : (partsV s.data n).2 = 0) : 1 ≤ n ∧ n ≤ 36 ∧ (partsV s.data n).1 = partsN s n := by
  rcases partsV_cases s.data n hd.1 hd.2 with h1 | h1 | h1
  · rw [h1] at h; cases h
  · rw [h1] at h; cases h
  · exact ⟨h1.2.1, h1.2.2, by rw [h1.1]; rfl⟩
theorem ItemOk.del {s : Shp} {x : Rec} (h : x.length = -1) : ItemOk s x ↔ x.data = [] ∧ x.rows = [] := by unfold ItemOk; rw [if_pos h]
theorem ItemOk.long {s : Shp} {x : Rec} (h : ¬ x.length = -1) (h2 : ¬ (partsV s.data x.length).2 = 0) : ¬ ItemOk s x := by unfold ItemOk; rw [if_neg h]; exact fun h3 => h2 h3.1
theorem ItemOk.data {s : Shp} {x : Rec} (h : ¬ x.length = -1) (h2 : (partsV s.data x.length).2 = 0) (h3 : ¬ x.data = []) : ItemOk s x ↔ (x.data.length : Int) = x.length ∧ x.rows = [] := by
  unfold ItemOk; rw [if_neg h, if_neg h3]; exact ⟨fun h => h.2, fun h => ⟨h2, h⟩⟩
theorem ItemOk.row {s : Shp} {x : Rec} (h : ¬ x.length = -1) (h2 : (partsV s.data x.length).2 = 0) (h3 : x.data = []) : ItemOk s x ↔ (x.rows.length : Int) = partsN s x.length ∧ Apart (s.rows - 1) x.rows := by
  unfold ItemOk; rw [if_neg h, if_pos h3]; exact ⟨fun h => h.2, fun h => ⟨h2, h⟩⟩


set_option maxRecDepth 100000 in
set_option maxHeartbeats 4000000 in
theorem l5Item_any (s : Shp) (hs : s.ok) (x : Rec) (cx : Array Value) (fx : List Nat) (w : World) (hx : recL.rep w cx.toList x fx) :
    Calls Tryz.prog 193 #[.agg s.cells, .agg cx] w fun e w' => e = .returned (.bool (pb (ItemOk s x))) ∧ Chg [] w w' := by
  have HX := Lib.hid hx
  obtain ⟨a6, l6, c6, f6, a7, l7, c7, f7, a8, l8, c8, f8, ex, o0, o1, on, o3, o4, o5, h6, h7, h8, -⟩ := recL_iff.1 hx
  have HO := Lib.hid (And.intro o0 o1)
  clear hx o0 o1
  obtain rfl := Array.toList_inj.1 (ex.trans (List.toList_toArray).symm)
  clear ex
  have q6 := intL.sl_max h6; have q7 := byteL.sl_max h7; have q8 := byteL.sl_max h8
  have Z6 := Lib.hid h6.1; have Z7 := Lib.hid h7.1; have Z8 := Lib.hid h8.1
  have H6 := Lib.hid h6; have H7 := Lib.hid h7; have H8 := Lib.hid h8
  clear h6 h7 h8
  have hd := hs.data; have hr := hs.rows; have hg := hs.groups; have hal := hs.all
  have HS := Lib.hid hs
  clear hs
  have e50 : IntKind.i64.wrap (s.rows - 1) = s.rows - 1 := IntWalk.i64_in _ (by omega)
  have e51 : IntKind.i64.wrap (s.groups - 1) = s.groups - 1 := IntWalk.i64_in _ (by omega)
  have e52 : IntKind.i64.wrap (s.all - 1) = s.all - 1 := IntWalk.i64_in _ (by omega)
  show Calls _ _ #[.agg #[.int .i64 s.groups, .int .i64 s.column, .int .i64 s.data, .int .i64 s.spare, .int .i64 s.rows, .int .i64 s.cap, .int .i64 s.batch, .int .i64 s.queue, .int .i64 s.stage], .agg _] _ _
  have HT := Lib.hid (fun h => pb_true h : ItemOk s x → pb (ItemOk s x) = true)
  have HF := Lib.hid (fun h => pb_false h : ¬ ItemOk s x → pb (ItemOk s x) = false)
  have HE := Lib.hid (fun Q h => pb_iff h : ∀ Q, (ItemOk s x ↔ Q) → pb (ItemOk s x) = pb Q)
  generalize pb (ItemOk s x) = r at HT HF HE ⊢
  obtain ⟨p2, hp2⟩ : ∃ p, p = (partsV s.data x.length).2 := ⟨_, rfl⟩
  obtain ⟨pn, hpn⟩ : ∃ p, p = partsN s x.length := ⟨_, rfl⟩
  have HP := Lib.hid hp2; have HN := Lib.hid hpn
  clear hp2 hpn
  by_cases hA : x.length = -1
  · by_cases hB : l7 = 0
    · by_cases hD : l6 = 0
      · have HC : RowKit.Hid (Chg [] w w) := Chg.refl _ _
        have HR := Lib.hid (HT.out ((ItemOk.del hA).2 ⟨len0 Z7.out hB, len0 Z6.out hD⟩))
        have eA : (x.length == -1) = true := by simp; exact hA
        obtain ⟨za, zb, zc, zd, ze⟩ := zfacts hB; obtain ⟨ya, yb, yc, yd, ye⟩ := zfacts hD; clear hB hD hA
        go_enter Tryz.func193, Tryz.ntmps193
        go_wp2_with fail
        go_ret
        exact ⟨ret_bool HR.out.symm, (Chg.alloc (Chg.alloc HC.out _) _)⟩
      · have HC : RowKit.Hid (Chg [] w w) := Chg.refl _ _
        have HR := Lib.hid (HF.out (fun h => len1 Z6.out hD ((ItemOk.del hA).1 h).2))
        have e1 : ((l6 : Int) == 0) = false := by simp; exact hD
        have eA : (x.length == -1) = true := by simp; exact hA
        obtain ⟨za, zb, zc, zd, ze⟩ := zfacts hB; clear hB hD hA
        go_enter Tryz.func193, Tryz.ntmps193
        go_wp2_with fail
        go_ret
        exact ⟨ret_bool HR.out.symm, (Chg.alloc (Chg.alloc HC.out _) _)⟩
    · have HC : RowKit.Hid (Chg [] w w) := Chg.refl _ _
      have HR := Lib.hid (HF.out (fun h => len1 Z7.out hB ((ItemOk.del hA).1 h).1))
      have e1 : ((l7 : Int) == 0) = false := by simp; exact hB
      have eA : (x.length == -1) = true := by simp; exact hA
      clear hB hA
      go_enter Tryz.func193, Tryz.ntmps193
      go_wp2_with fail
      go_ret
      exact ⟨ret_bool HR.out.symm, (Chg.alloc (Chg.alloc HC.out _) _)⟩
  have eA : (x.length == -1) = false := by simp; exact hA
  by_cases hP : p2 = 0
  rotate_left
  · have HC : RowKit.Hid (Chg [] w w) := Chg.refl _ _
    have HR := Lib.hid (HF.out (ItemOk.long hA (by rw [← HP.out]; exact hP)))
    have e1 : (p2 != 0) = true := by simp; exact hP
    clear hA hP
    go_enter Tryz.func193, Tryz.ntmps193
    go_wp2_with fail
    refine (l4Long_any s x.length hd.1 hd.2 o3 _).mono ?_
    rintro e w1 ⟨rfl, hc⟩
    rw [← HP.out]
    obtain ⟨cS, lS, HBS⟩ := bk hc (b := w.heap.size) (keep_alloc (new_at (by simp) _) _) (by simp)
    obtain ⟨cR, lR, HBR⟩ := bk hc (b := w.heap.size + 1) (new_at (by simp) _) (by simp)
    have h := Chg.trans0 (Chg.alloc (Chg.alloc HC.out _) _) hc; clear HC; have HC := Lib.hid h; clear h
    clear hc
    go_wp2_with fail
    go_ret
    exact ⟨ret_bool HR.out.symm, HC.out⟩
  subst hP
  have hb := parts0 hd HP.out.symm
  have hb1 := hb.1; have hb2 := hb.2.1
  clear hb
  by_cases hB : l7 = 0
  · by_cases hD : (l6 : Int) = pn
    · have HC : RowKit.Hid (Chg [] w w) := Chg.refl _ _
      have HR := Lib.hid ((HE.out _ ((ItemOk.row hA HP.out.symm (len0 Z7.out hB)).trans ⟨fun h => h.2, fun h => ⟨by rw [← Z6.out, ← HN.out]; exact hD, h⟩⟩)))
      obtain ⟨ra, hra⟩ : ∃ v, v = pb (Apart (s.rows - 1) x.rows) := ⟨_, rfl⟩
      rw [← hra] at HR
      have HA := Lib.hid hra
      have e1 : ((l6 : Int) == pn) = true := by simp; exact hD
      obtain ⟨za, zb, zc, zd, ze⟩ := zfacts hB; clear hB hA hD hra
      go_enter Tryz.func193, Tryz.ntmps193
      go_wp2_with fail
      refine (l4Long_any s x.length hd.1 hd.2 o3 _).mono ?_
      rintro e w1 ⟨rfl, hc⟩
      rw [← HP.out]
      obtain ⟨cS, lS, HBS⟩ := bk hc (b := w.heap.size) (keep_alloc (new_at (by simp) _) _) (by simp)
      obtain ⟨cR, lR, HBR⟩ := bk hc (b := w.heap.size + 1) (new_at (by simp) _) (by simp)
      have h := Chg.trans0 (Chg.alloc (Chg.alloc HC.out _) _) hc; clear HC; have HC := Lib.hid h; clear h
      clear hc
      go_wp2_with fail
      obtain ⟨SS1, HSI1, HSO1⟩ := rg_cond (fun w' => Know (w.heap.size) #[.int .i64 s.groups, .int .i64 s.column, .int .i64 s.data, .int .i64 s.spare, .int .i64 s.rows, .int .i64 s.cap, .int .i64 s.batch, .int .i64 s.queue, .int .i64 s.stage] w' ∧ Know (w.heap.size + 1) #[.int .i64 x.kind, .int .i64 x.seq, .string x.name, .int .i64 x.length, .int .i64 x.group, .int .i64 x.row, .slice a6 l6 c6, .slice a7 l7 c7, .slice a8 l8 c8] w')
      have hS0 := HSI1.out (w1.drew) ⟨(Know.of (by refine keep_drew ?_; exact HBS.out)), (Know.of (by refine keep_drew ?_; exact HBR.out))⟩
      refine rg_start SS1 (by kernel_rfl) hS0 ?_
      refine rgT 0 hS0 ?_
      refine rgL 1 hS0 HSO1 ?_
      refine rgT 2 hS0 ?_
      refine rgL 3 hS0 HSO1 ?_
      refine rgT 4 hS0 ?_
      refine rgL 5 hS0 HSO1 ?_
      refine rg_call 6 rfl (by kernel_rfl) (fun K hK => ?_)
      go_simp
      go_at_call 249
      refine (l4Parts_any s x.length hd.1 hd.2 (by omega) (by omega) _).mono ?_
      rintro e w2 ⟨rfl, hc⟩
      rw [show (x.length + 4 * s.data - 1) / (4 * s.data) = pn from HN.out.symm]
      have h := bk hc (keep_drew HBS.out) (by simp); clear HBS cS lS; obtain ⟨cS, lS, HBS⟩ := h
      have h := bk hc (keep_drew HBR.out) (by simp); clear HBR cR lR; obtain ⟨cR, lR, HBR⟩ := h
      have h := Chg.trans0 (Chg.drew HC.out) hc; clear HC; have HC := Lib.hid h; clear h
      clear hc
      go_wp2_with fail
      refine hK.out _ _ (HSI1.out _ ⟨cS, cR⟩) (fun hS1 => ?_)
      clear hK K
      try simp only [Act.put, List.setIfInBounds_toArray, List.set_cons_zero, List.set_cons_succ]
      refine rgT 7 hS1 ?_
      refine rgT 8 hS1 ?_
      refine rgT 9 hS1 ?_
      refine rgL 10 hS1 HSO1 ?_
      refine rgT 11 hS1 ?_
      refine rgL 12 hS1 HSO1 ?_
      refine rgT 13 hS1 ?_
      refine rg_call 14 rfl (by kernel_rfl) (fun K hK => ?_)
      go_simp
      go_at_call 118
      refine (l5Apart_any a6 l6 c6 x.rows f6 (s.rows - 1) _ (Lay.sl_ext intL H6.out HC.out)).mono ?_
      rintro e w3 ⟨rfl, hc⟩
      rw [← HA.out]
      have h := bk hc HBS.out (by simp); clear HBS cS lS; obtain ⟨cS, lS, HBS⟩ := h
      have h := bk hc HBR.out (by simp); clear HBR cR lR; obtain ⟨cR, lR, HBR⟩ := h
      replace HC := hct HC hc
      clear hc
      go_wp2_with fail
      refine hK.out _ _ (HSI1.out _ ⟨cS, cR⟩) (fun hS2 => ?_)
      clear hK K
      try simp only [Act.put, List.setIfInBounds_toArray, List.set_cons_zero, List.set_cons_succ]
      refine rgT 15 hS2 ?_
      refine rgT 16 hS2 ?_
      refine wpAnyH_done (by kernel_rfl) ?_ _
      go_wp2_with fail
      go_ret
      exact ⟨ret_bool HR.out.symm, HC.out⟩
    · have HC : RowKit.Hid (Chg [] w w) := Chg.refl _ _
      have HR := Lib.hid (HF.out (fun h => hD (by rw [Z6.out, HN.out]; exact ((ItemOk.row hA HP.out.symm (len0 Z7.out hB)).1 h).1)))
      have e1 : ((l6 : Int) == pn) = false := by simp; exact hD
      obtain ⟨za, zb, zc, zd, ze⟩ := zfacts hB; clear hB hA hD
      go_enter Tryz.func193, Tryz.ntmps193
      go_wp2_with fail
      refine (l4Long_any s x.length hd.1 hd.2 o3 _).mono ?_
      rintro e w1 ⟨rfl, hc⟩
      rw [← HP.out]
      obtain ⟨cS, lS, HBS⟩ := bk hc (b := w.heap.size) (keep_alloc (new_at (by simp) _) _) (by simp)
      obtain ⟨cR, lR, HBR⟩ := bk hc (b := w.heap.size + 1) (new_at (by simp) _) (by simp)
      have h := Chg.trans0 (Chg.alloc (Chg.alloc HC.out _) _) hc; clear HC; have HC := Lib.hid h; clear h
      clear hc
      go_wp2_with fail
      obtain ⟨SS1, HSI1, HSO1⟩ := rg_cond (fun w' => Know (w.heap.size) #[.int .i64 s.groups, .int .i64 s.column, .int .i64 s.data, .int .i64 s.spare, .int .i64 s.rows, .int .i64 s.cap, .int .i64 s.batch, .int .i64 s.queue, .int .i64 s.stage] w' ∧ Know (w.heap.size + 1) #[.int .i64 x.kind, .int .i64 x.seq, .string x.name, .int .i64 x.length, .int .i64 x.group, .int .i64 x.row, .slice a6 l6 c6, .slice a7 l7 c7, .slice a8 l8 c8] w')
      have hS0 := HSI1.out (w1.drew) ⟨(Know.of (by refine keep_drew ?_; exact HBS.out)), (Know.of (by refine keep_drew ?_; exact HBR.out))⟩
      refine rg_start SS1 (by kernel_rfl) hS0 ?_
      refine rgT 0 hS0 ?_
      refine rgL 1 hS0 HSO1 ?_
      refine rgT 2 hS0 ?_
      refine rgL 3 hS0 HSO1 ?_
      refine rgT 4 hS0 ?_
      refine rgL 5 hS0 HSO1 ?_
      refine rg_call 6 rfl (by kernel_rfl) (fun K hK => ?_)
      go_simp
      go_at_call 249
      refine (l4Parts_any s x.length hd.1 hd.2 (by omega) (by omega) _).mono ?_
      rintro e w2 ⟨rfl, hc⟩
      rw [show (x.length + 4 * s.data - 1) / (4 * s.data) = pn from HN.out.symm]
      have h := bk hc (keep_drew HBS.out) (by simp); clear HBS cS lS; obtain ⟨cS, lS, HBS⟩ := h
      have h := bk hc (keep_drew HBR.out) (by simp); clear HBR cR lR; obtain ⟨cR, lR, HBR⟩ := h
      have h := Chg.trans0 (Chg.drew HC.out) hc; clear HC; have HC := Lib.hid h; clear h
      clear hc
      go_wp2_with fail
      refine hK.out _ _ (HSI1.out _ ⟨cS, cR⟩) (fun hS1 => ?_)
      clear hK K
      try simp only [Act.put, List.setIfInBounds_toArray, List.set_cons_zero, List.set_cons_succ]
      refine rgT 7 hS1 ?_
      refine rgT 8 hS1 ?_
      refine rgS 9 hS1 ?_
      refine rgS 10 hS1 ?_
      refine rgS 11 hS1 ?_
      refine rgS 12 hS1 ?_
      refine rgS 13 hS1 ?_
      refine rgS 14 hS1 ?_
      refine rgT 15 hS1 ?_
      refine rgT 16 hS1 ?_
      refine wpAnyH_done (by kernel_rfl) ?_ _
      go_wp2_with fail
      go_ret
      exact ⟨ret_bool HR.out.symm, HC.out⟩
  have hB0 : (0 : Int) < (l7 : Int) := by omega
  by_cases hD : (l7 : Int) = x.length
  · by_cases hE : l6 = 0
    · have HC : RowKit.Hid (Chg [] w w) := Chg.refl _ _
      have HR := Lib.hid (HT.out ((ItemOk.data hA HP.out.symm (len1 Z7.out hB)).2 ⟨by rw [← Z7.out]; exact hD, len0 Z6.out hE⟩))
      have e1 : ((l7 : Int) == x.length) = true := by simp; exact hD
      obtain ⟨za, zb, zc, zd, ze⟩ := zfacts hE; clear hE hA hB
      go_enter Tryz.func193, Tryz.ntmps193
      go_wp2_with fail
      refine (l4Long_any s x.length hd.1 hd.2 o3 _).mono ?_
      rintro e w1 ⟨rfl, hc⟩
      rw [← HP.out]
      obtain ⟨cS, lS, HBS⟩ := bk hc (b := w.heap.size) (keep_alloc (new_at (by simp) _) _) (by simp)
      obtain ⟨cR, lR, HBR⟩ := bk hc (b := w.heap.size + 1) (new_at (by simp) _) (by simp)
      have h := Chg.trans0 (Chg.alloc (Chg.alloc HC.out _) _) hc; clear HC; have HC := Lib.hid h; clear h
      clear hc
      go_wp2_with fail
      go_ret
      exact ⟨ret_bool HR.out.symm, HC.out⟩
    · have HC : RowKit.Hid (Chg [] w w) := Chg.refl _ _
      have HR := Lib.hid (HF.out (fun h => len1 Z6.out hE ((ItemOk.data hA HP.out.symm (len1 Z7.out hB)).1 h).2))
      have e1 : ((l7 : Int) == x.length) = true := by simp; exact hD
      have e2 : ((l6 : Int) == 0) = false := by simp; exact hE
      clear hE hA hB
      go_enter Tryz.func193, Tryz.ntmps193
      go_wp2_with fail
      refine (l4Long_any s x.length hd.1 hd.2 o3 _).mono ?_
      rintro e w1 ⟨rfl, hc⟩
      rw [← HP.out]
      obtain ⟨cS, lS, HBS⟩ := bk hc (b := w.heap.size) (keep_alloc (new_at (by simp) _) _) (by simp)
      obtain ⟨cR, lR, HBR⟩ := bk hc (b := w.heap.size + 1) (new_at (by simp) _) (by simp)
      have h := Chg.trans0 (Chg.alloc (Chg.alloc HC.out _) _) hc; clear HC; have HC := Lib.hid h; clear h
      clear hc
      go_wp2_with fail
      go_ret
      exact ⟨ret_bool HR.out.symm, HC.out⟩
  · have HC : RowKit.Hid (Chg [] w w) := Chg.refl _ _
    have HR := Lib.hid (HF.out (fun h => hD (by rw [Z7.out]; exact ((ItemOk.data hA HP.out.symm (len1 Z7.out hB)).1 h).1)))
    have e1 : ((l7 : Int) == x.length) = false := by simp; exact hD
    clear hD hA hB
    go_enter Tryz.func193, Tryz.ntmps193
    go_wp2_with fail
    refine (l4Long_any s x.length hd.1 hd.2 o3 _).mono ?_
    rintro e w1 ⟨rfl, hc⟩
    rw [← HP.out]
    obtain ⟨cS, lS, HBS⟩ := bk hc (b := w.heap.size) (keep_alloc (new_at (by simp) _) _) (by simp)
    obtain ⟨cR, lR, HBR⟩ := bk hc (b := w.heap.size + 1) (new_at (by simp) _) (by simp)
    have h := Chg.trans0 (Chg.alloc (Chg.alloc HC.out _) _) hc; clear HC; have HC := Lib.hid h; clear h
    clear hc
    go_wp2_with fail
    go_ret
    exact ⟨ret_bool HR.out.symm, HC.out⟩


def WeightsOk (s : Shp) (x : Rec) : Prop := (x.delta.length : Int) = s.all ∧ x.delta[x.group.toNat]? = some 0 ∧ ∀ k ∈ x.rows, ¬ x.delta[k.toNat]? = some 0
theorem Rises.mem {m : Int} {xs : List Int} (h : Rises m xs) {x : Int} (hx : x ∈ xs) : 0 ≤ x ∧ x ≤ m := by
  obtain ⟨i, hi⟩ := List.getElem?_of_mem hx
  exact (h i x hi).1
theorem byte0 {z : UInt8} {Z : Int} (h : Z = z.toNat) : (z = 0 → (Z == 0) = true ∧ (Z != 0) = false) ∧ (¬ z = 0 → (Z == 0) = false ∧ (Z != 0) = true) := by
  subst h
  refine ⟨fun h => by subst h; simp, fun h => ?_⟩
  have h1 : z.toNat ≠ 0 := fun h0 => h (UInt8.toNat_inj.1 (by rw [h0]; rfl))
  have : (z.toNat : Int) ≠ 0 := by omega
  exact ⟨by simpa using h1, by simpa using h1⟩


set_option maxRecDepth 100000 in
set_option maxHeartbeats 4000000 in
theorem l5Weights_any (s : Shp) (hs : s.ok) (x : Rec) (cx : Array Value) (fx : List Nat) (w : World) (hx : recL.rep w cx.toList x fx) (hgr : 0 ≤ x.group ∧ x.group ≤ s.all - 1) (hri : Rises (s.all - 1) x.rows) :
    Calls Tryz.prog 196 #[.agg s.cells, .agg cx] w fun e w' => e = .returned (.bool (pb (WeightsOk s x))) ∧ Chg [] w w' := by
  have HX := Lib.hid hx
  obtain ⟨a6, l6, c6, f6, a7, l7, c7, f7, a8, l8, c8, f8, ex, o0, o1, on, o3, o4, o5, h6, h7, h8, -⟩ := recL_iff.1 hx
  have HO := Lib.hid (And.intro o0 o1)
  clear hx o0 o1
  obtain rfl := Array.toList_inj.1 (ex.trans (List.toList_toArray).symm)
  clear ex
  have q6 := intL.sl_max h6; have q7 := byteL.sl_max h7; have q8 := byteL.sl_max h8
  have Z6 := Lib.hid h6.1; have Z7 := Lib.hid h7.1; have Z8 := Lib.hid h8.1
  have H6 := Lib.hid h6; have H7 := Lib.hid h7; have H8 := Lib.hid h8
  clear h6 h7 h8
  have hd := hs.data; have hr := hs.rows; have hg := hs.groups; have hal := hs.all
  have HS := Lib.hid hs
  clear hs
  have e50 : IntKind.i64.wrap (s.rows - 1) = s.rows - 1 := IntWalk.i64_in _ (by omega)
  have e51 : IntKind.i64.wrap (s.groups - 1) = s.groups - 1 := IntWalk.i64_in _ (by omega)
  have e52 : IntKind.i64.wrap (s.all - 1) = s.all - 1 := IntWalk.i64_in _ (by omega)
  show Calls _ _ #[.agg #[.int .i64 s.groups, .int .i64 s.column, .int .i64 s.data, .int .i64 s.spare, .int .i64 s.rows, .int .i64 s.cap, .int .i64 s.batch, .int .i64 s.queue, .int .i64 s.stage], .agg _] _ _
  have HT := Lib.hid (fun h => pb_true h : WeightsOk s x → pb (WeightsOk s x) = true)
  have HF := Lib.hid (fun h => pb_false h : ¬ WeightsOk s x → pb (WeightsOk s x) = false)
  have HE := Lib.hid (fun Q h => pb_iff h : ∀ Q, (WeightsOk s x ↔ Q) → pb (WeightsOk s x) = pb Q)
  generalize pb (WeightsOk s x) = r at HT HF HE ⊢
  have HRI := Lib.hid hri
  clear hri
  obtain ⟨hg1, hg2⟩ := hgr
  by_cases hA : (l8 : Int) = s.all
  rotate_left
  · have HC : RowKit.Hid (Chg [] w w) := Chg.refl _ _
    have HR := Lib.hid (HF.out (fun h => hA (by rw [Z8.out]; exact h.1)))
    have e1 : ((l8 : Int) != s.all) = true := by simp; exact hA
    clear hA
    go_enter Tryz.func196, Tryz.ntmps196
    go_wp2_with fail
    obtain ⟨SS1, HSI1, HSO1⟩ := rg_cond (fun w' => Know (w.heap.size) #[.int .i64 s.groups, .int .i64 s.column, .int .i64 s.data, .int .i64 s.spare, .int .i64 s.rows, .int .i64 s.cap, .int .i64 s.batch, .int .i64 s.queue, .int .i64 s.stage] w' ∧ Know (w.heap.size + 1) #[.int .i64 x.kind, .int .i64 x.seq, .string x.name, .int .i64 x.length, .int .i64 x.group, .int .i64 x.row, .slice a6 l6 c6, .slice a7 l7 c7, .slice a8 l8 c8] w')
    have hS0 := HSI1.out (((w.alloc (.cells #[.int .i64 s.groups, .int .i64 s.column, .int .i64 s.data, .int .i64 s.spare, .int .i64 s.rows, .int .i64 s.cap, .int .i64 s.batch, .int .i64 s.queue, .int .i64 s.stage] 30)).alloc (.cells #[.int .i64 x.kind, .int .i64 x.seq, .string x.name, .int .i64 x.length, .int .i64 x.group, .int .i64 x.row, .slice a6 l6 c6, .slice a7 l7 c7, .slice a8 l8 c8] 67)).drew) ⟨(Know.of (by refine keep_drew ?_; refine keep_alloc ?_ _; exact new_at (by simp) _)), (Know.of (by refine keep_drew ?_; exact new_at (by simp) _))⟩
    refine rg_start SS1 (by kernel_rfl) hS0 ?_
    refine rgT 0 hS0 ?_
    refine rgL 1 hS0 HSO1 ?_
    refine rgT 2 hS0 ?_
    refine rgL 3 hS0 HSO1 ?_
    refine rg_call 4 rfl (by kernel_rfl) (fun K hK => ?_)
    go_simp
    go_at_call 100
    refine (l5All_any s HS.out _).mono ?_
    rintro e w1 ⟨rfl, hc⟩
    obtain ⟨cS, lS, HBS⟩ := bk hc (b := w.heap.size) (keep_drew (keep_alloc (new_at (by simp) _) _)) (by simp)
    obtain ⟨cR, lR, HBR⟩ := bk hc (b := w.heap.size + 1) (keep_drew (new_at (by simp) _)) (by simp)
    have h := Chg.trans0 (Chg.drew (Chg.alloc (Chg.alloc HC.out _) _)) hc; clear HC; have HC := Lib.hid h; clear h
    clear hc
    go_wp2_with fail
    refine hK.out _ _ (HSI1.out _ ⟨cS, cR⟩) (fun hS1 => ?_)
    clear hK K
    try simp only [Act.put, List.setIfInBounds_toArray, List.set_cons_zero, List.set_cons_succ]
    refine rgT 5 hS1 ?_
    refine rgT 6 hS1 ?_
    refine rgS 7 hS1 ?_
    refine rgS 8 hS1 ?_
    refine rgS 9 hS1 ?_
    refine rgS 10 hS1 ?_
    refine rgS 11 hS1 ?_
    refine rgS 12 hS1 ?_
    refine rgS 13 hS1 ?_
    refine rgT 14 hS1 ?_
    refine wpAnyH_done (by kernel_rfl) ?_ _
    go_wp2_with fail
    go_ret
    exact ⟨ret_bool HR.out.symm, HC.out⟩
  have e1 : ((l8 : Int) != s.all) = false := by simp; exact hA
  have HAA := Lib.hid hA
  have hgl : x.group.toNat < l8 := by omega
  have hgl2 : x.group < (l8 : Int) := by omega
  obtain ⟨z, Z, b, o, HXB, hA8, hcz, hz0, hz1⟩ := byte_at H8.out hgl
  have HD := Lib.hid (show x.delta[x.group.toNat]? = some z from HXB.out.1)
  subst hA8
  have hb0 := byte0 HXB.out.2.1
  have HCZ := Lib.hid hcz
  clear hcz
  by_cases hZ : z = 0
  rotate_left
  · have HC : RowKit.Hid (Chg [] w w) := Chg.refl _ _
    have HR := Lib.hid (HF.out (fun h => hZ (by have h2 := h.2.1; rw [HD.out] at h2; exact Option.some.inj h2)))
    have e2 := (hb0.2 hZ).2
    clear hb0 hA hZ
    go_enter Tryz.func196, Tryz.ntmps196
    go_wp2_with fail
    obtain ⟨SS1, HSI1, HSO1⟩ := rg_cond (fun w' => Know (w.heap.size) #[.int .i64 s.groups, .int .i64 s.column, .int .i64 s.data, .int .i64 s.spare, .int .i64 s.rows, .int .i64 s.cap, .int .i64 s.batch, .int .i64 s.queue, .int .i64 s.stage] w' ∧ Know (w.heap.size + 1) #[.int .i64 x.kind, .int .i64 x.seq, .string x.name, .int .i64 x.length, .int .i64 x.group, .int .i64 x.row, .slice a6 l6 c6, .slice a7 l7 c7, .slice (some ⟨b, o, none⟩) l8 c8] w' ∧ w'.cell? ⟨b, o + x.group.toNat, none⟩ = some (.int .u8 Z))
    have hS0 := HSI1.out (((w.alloc (.cells #[.int .i64 s.groups, .int .i64 s.column, .int .i64 s.data, .int .i64 s.spare, .int .i64 s.rows, .int .i64 s.cap, .int .i64 s.batch, .int .i64 s.queue, .int .i64 s.stage] 30)).alloc (.cells #[.int .i64 x.kind, .int .i64 x.seq, .string x.name, .int .i64 x.length, .int .i64 x.group, .int .i64 x.row, .slice a6 l6 c6, .slice a7 l7 c7, .slice (some ⟨b, o, none⟩) l8 c8] 67)).drew) ⟨(Know.of (by refine keep_drew ?_; refine keep_alloc ?_ _; exact new_at (by simp) _)), (Know.of (by refine keep_drew ?_; exact new_at (by simp) _)), (cellKeep (Chg.drew (Chg.alloc (Chg.alloc HC.out _) _)) HCZ.out (Lay.sl_lt _ H8.out _ HXB.out.2.2))⟩
    refine rg_start SS1 (by kernel_rfl) hS0 ?_
    refine rgT 0 hS0 ?_
    refine rgL 1 hS0 HSO1 ?_
    refine rgT 2 hS0 ?_
    refine rgL 3 hS0 HSO1 ?_
    refine rg_call 4 rfl (by kernel_rfl) (fun K hK => ?_)
    go_simp
    go_at_call 100
    refine (l5All_any s HS.out _).mono ?_
    rintro e w1 ⟨rfl, hc⟩
    obtain ⟨cS, lS, HBS⟩ := bk hc (b := w.heap.size) (keep_drew (keep_alloc (new_at (by simp) _) _)) (by simp)
    obtain ⟨cR, lR, HBR⟩ := bk hc (b := w.heap.size + 1) (keep_drew (new_at (by simp) _)) (by simp)
    have h := Chg.trans0 (Chg.drew (Chg.alloc (Chg.alloc HC.out _) _)) hc; clear HC; have HC := Lib.hid h; clear h
    clear hc
    go_wp2_with fail
    refine hK.out _ _ (HSI1.out _ ⟨cS, cR, (cellKeep HC.out HCZ.out (Lay.sl_lt _ H8.out _ HXB.out.2.2))⟩) (fun hS1 => ?_)
    clear hK K
    try simp only [Act.put, List.setIfInBounds_toArray, List.set_cons_zero, List.set_cons_succ]
    refine rgT 5 hS1 ?_
    refine rgT 6 hS1 ?_
    refine rgT 7 hS1 ?_
    refine rgL 8 hS1 HSO1 ?_
    refine rgT 9 hS1 ?_
    refine rgL 10 hS1 HSO1 ?_
    refine rgT 11 hS1 ?_
    refine rgL 12 hS1 HSO1 ?_
    refine rgT 13 hS1 ?_
    refine rgT 14 hS1 ?_
    refine wpAnyH_done (by kernel_rfl) ?_ _
    go_wp2_with fail
    go_ret
    exact ⟨ret_bool HR.out.symm, HC.out⟩
  have HC : RowKit.Hid (Chg [] w w) := Chg.refl _ _
  have e2 := (hb0.1 hZ).2
  subst hZ
  clear hb0 hA
  go_enter Tryz.func196, Tryz.ntmps196
  go_wp2_with fail
  obtain ⟨SS1, HSI1, HSO1⟩ := rg_cond (fun w' => Know (w.heap.size) #[.int .i64 s.groups, .int .i64 s.column, .int .i64 s.data, .int .i64 s.spare, .int .i64 s.rows, .int .i64 s.cap, .int .i64 s.batch, .int .i64 s.queue, .int .i64 s.stage] w' ∧ Know (w.heap.size + 1) #[.int .i64 x.kind, .int .i64 x.seq, .string x.name, .int .i64 x.length, .int .i64 x.group, .int .i64 x.row, .slice a6 l6 c6, .slice a7 l7 c7, .slice (some ⟨b, o, none⟩) l8 c8] w' ∧ w'.cell? ⟨b, o + x.group.toNat, none⟩ = some (.int .u8 Z))
  have hS0 := HSI1.out (((w.alloc (.cells #[.int .i64 s.groups, .int .i64 s.column, .int .i64 s.data, .int .i64 s.spare, .int .i64 s.rows, .int .i64 s.cap, .int .i64 s.batch, .int .i64 s.queue, .int .i64 s.stage] 30)).alloc (.cells #[.int .i64 x.kind, .int .i64 x.seq, .string x.name, .int .i64 x.length, .int .i64 x.group, .int .i64 x.row, .slice a6 l6 c6, .slice a7 l7 c7, .slice (some ⟨b, o, none⟩) l8 c8] 67)).drew) ⟨(Know.of (by refine keep_drew ?_; refine keep_alloc ?_ _; exact new_at (by simp) _)), (Know.of (by refine keep_drew ?_; exact new_at (by simp) _)), (cellKeep (Chg.drew (Chg.alloc (Chg.alloc HC.out _) _)) HCZ.out (Lay.sl_lt _ H8.out _ HXB.out.2.2))⟩
  refine rg_start SS1 (by kernel_rfl) hS0 ?_
  refine rgT 0 hS0 ?_
  refine rgL 1 hS0 HSO1 ?_
  refine rgT 2 hS0 ?_
  refine rgL 3 hS0 HSO1 ?_
  refine rg_call 4 rfl (by kernel_rfl) (fun K hK => ?_)
  go_simp
  go_at_call 100
  refine (l5All_any s HS.out _).mono ?_
  rintro e w1 ⟨rfl, hc⟩
  obtain ⟨cS, lS, HBS⟩ := bk hc (b := w.heap.size) (keep_drew (keep_alloc (new_at (by simp) _) _)) (by simp)
  obtain ⟨cR, lR, HBR⟩ := bk hc (b := w.heap.size + 1) (keep_drew (new_at (by simp) _)) (by simp)
  have h := Chg.trans0 (Chg.drew (Chg.alloc (Chg.alloc HC.out _) _)) hc; clear HC; have HC := Lib.hid h; clear h
  clear hc
  go_wp2_with fail
  refine hK.out _ _ (HSI1.out _ ⟨cS, cR, (cellKeep HC.out HCZ.out (Lay.sl_lt _ H8.out _ HXB.out.2.2))⟩) (fun hS1 => ?_)
  clear hK K
  try simp only [Act.put, List.setIfInBounds_toArray, List.set_cons_zero, List.set_cons_succ]
  refine rgT 5 hS1 ?_
  refine rgT 6 hS1 ?_
  refine rgT 7 hS1 ?_
  refine rgL 8 hS1 HSO1 ?_
  refine rgT 9 hS1 ?_
  refine rgL 10 hS1 HSO1 ?_
  refine rgT 11 hS1 ?_
  refine rgL 12 hS1 HSO1 ?_
  refine rgT 13 hS1 ?_
  refine rgT 14 hS1 ?_
  refine wpAnyH_done (by kernel_rfl) ?_ _
  go_wp2_with fail
  go_loopw [5] (fun i wr => ∃ k : Nat, k ≤ l6 ∧ i = .int .i64 k ∧ RowKit.Hid (∀ y ∈ x.rows.take k, ¬ x.delta[y.toNat]? = some 0) ∧ RowKit.Hid (Chg [] w1 wr)) (fun i _ => l6 - (intOf i).toNat)
  case atStart => exact ⟨0, by omega, rfl, by intro y hy; simp at hy, Chg.refl _ _⟩
  case round =>
    obtain ⟨k, hk, rfl, HK, HCr⟩ := hrel
    have hR := HCr.out.keep0 HBR.out
    have cR2 := cellsOf hR; have lR2 := ltOf hR
    have HCW := Lib.hid (HC.out.trans0 HCr.out)
    clear hR cR lR cS lS
    by_cases hlt : k < l6
    · obtain ⟨y, b2, o2, HY, rfl, hcy, hok⟩ := int_at (intL.sl_ext H6.out HCW.out) hlt
      have hy := HRI.out.mem (List.mem_of_getElem? HY.out.1)
      obtain ⟨j, rfl⟩ : ∃ j : Nat, y = (j : Int) := ⟨y.toNat, by omega⟩
      have hjl : j < l8 := by have := HAA.out; omega
      have hj1 : (j : Int) < (l8 : Int) := by omega
      have hk1 : (k : Int) < (l6 : Int) := by omega
      obtain ⟨u, U, b3, o3, HU, e', hcu, hu0, hu1⟩ := byte_at (byteL.sl_ext H8.out HCW.out) hjl
      simp only [Option.some.injEq, Addr.mk.injEq, and_true] at e'
      obtain ⟨rfl, rfl⟩ := e'
      have hb1 := byte0 HU.out.2.1
      by_cases hU : u = 0
      · have HR := Lib.hid (HF.out (fun h => h.2.2 _ (List.mem_of_getElem? HY.out.1) (by rw [← hU]; simpa using HU.out.1)))
        have e3 := (hb1.1 hU).1
        clear hb1 hU hy
        go_wp2_with fail
        go_quiet (fail)
        go_wp2_with fail
        go_ret
        exact ⟨ret_bool HR.out.symm, HCW.out.drewN _⟩
      · have HN := Lib.hid (show ∀ y ∈ x.rows.take (k + 1), ¬ x.delta[y.toNat]? = some 0 by
          intro y hy
          rw [take_next HY.out.1] at hy
          rcases List.mem_append.1 hy with h1 | h1
          · exact HK.out y h1
          · simp at h1; subst h1; have h2 := HU.out.1; simp only [Int.toNat_natCast]; rw [h2]; exact fun h => hU (Option.some.inj h))
        have e3 := (hb1.2 hU).1
        clear hb1 hU hy
        go_wp2_with fail
        go_quiet (fail)
        go_wp2_with fail
        go_roundw
        case rel => exact ⟨k + 1, by omega, by go_num, HN, HCr.out.drewN _⟩
        case measure => simp [intOf]; omega
    · have HR := Lib.hid (HT.out ⟨by rw [← Z8.out]; exact HAA.out, HD.out, fun y hy => HK.out y (by rw [List.take_of_length_le (by have := Z6.out; omega)]; exact hy)⟩)
      go_wp2_with fail
      go_ret
      exact ⟨ret_bool HR.out.symm, HCW.out⟩

end Go.Proofs.YtphmpimgbmedbaaGreat
