import Derived.Test.YtphmpimgbmedbaaGreatRfcM
import Derived.Test.YtphmpimgbmedbaaGreatName
/- What is wrong with the record of an item: the program. -/
namespace Go.Proofs.YtphmpimgbmedbaaGreat
open Go.RowKit

noncomputable def itemV (s : Shp) (x : Rec) : Int := if nameFault x.name = 0 then (if pb (ItemOk s x) = true then 0 else 3) else nameFault x.name
theorem pb_step {m : Int} {xs : List Int} {k : Nat} {x : Int} (hx : xs[k]? = some x) (h : ApartTo m xs k) (h1 : 0 ≤ x ∧ x ≤ m) : pb (ApartTo m xs (k + 1)) = !pb (x ∈ xs.take k) := by
  by_cases h2 : x ∈ xs.take k
  · rw [pb_true h2, pb_false (fun h3 => (h3 k x (by omega) hx).2 h2)]; rfl
  · rw [pb_false h2, pb_true (h.next hx h1 h2)]; rfl
theorem pb_out {m : Int} {xs : List Int} {k : Nat} {x : Int} (hx : xs[k]? = some x) (h1 : ¬ (0 ≤ x ∧ x ≤ m)) : pb (ApartTo m xs (k + 1)) = false := pb_false (fun h3 => h1 (h3 k x (by omega) hx).1)
theorem pb_dead {m : Int} {xs : List Int} {k : Nat} (h : ¬ ApartTo m xs k) : pb (ApartTo m xs (k + 1)) = false := pb_false (fun h3 => h (fun i x hi hx => h3 i x (by omega) hx))
theorem pb_end {m : Int} {xs : List Int} {k : Nat} (hk : xs.length ≤ k) : pb (ApartTo m xs k) = pb (Apart m xs) := pb_iff ⟨fun h => h.all hk, fun h i x _ hx => h i x hx⟩
theorem impl_nameC (s : ByteArray) (hs : s.size ≤ maxLen) (w : World) : Calls Tryz.prog 125 #[.string s] w fun e w' => e = .returned (.int .i64 (nameFault s)) ∧ Chg [] w w' :=
  (impl_name s hs w).mono fun _ _ h => ⟨h.1, h.2 ▸ Chg.refl _ _⟩
theorem spec_nameC (s : ByteArray) (hs : s.size ≤ maxLen) (w : World) : Calls Tryz.prog 192 #[.string s] w fun e w' => e = .returned (.int .i64 (nameFault s)) ∧ Chg [] w w' :=
  (spec_name s hs w).mono fun _ _ h => ⟨h.1, h.2 ▸ Chg.refl _ _⟩
theorem nn_ne {n : Int} (h : ¬ n = 0) : (n != 0) = true := by simp; exact h


theorem sizeB_c (a : Option Addr) (la ca : Nat) (w : World) (hm : la ≤ 9223372036854775807) :
    Calls Tryz.prog 185 #[.slice a la ca] w fun e w' => e = .returned (.int .i64 (la : Int)) ∧ Chg [] w w' :=
  (sizeB_any a la ca w hm).mono fun _ _ h => ⟨h.1, h.2 ▸ Chg.refl _ _⟩
theorem sizeI_c (a : Option Addr) (la ca : Nat) (w : World) (hm : la ≤ 9223372036854775807) :
    Calls Tryz.prog 143 #[.slice a la ca] w fun e w' => e = .returned (.int .i64 (la : Int)) ∧ Chg [] w w' :=
  (sizeI_any a la ca w hm).mono fun _ _ h => ⟨h.1, h.2 ▸ Chg.refl _ _⟩
theorem containsI_c (a : Option Addr) (la ca : Nat) (xs : List Int) (f : List Nat) (v : Int) (w : World) (ha : intL.sl w a la ca xs f) :
    Calls Tryz.prog 213 #[.slice a la ca, .int .i64 v] w fun e w' => e = .returned (.bool (pb (v ∈ xs))) ∧ Chg [] w w' :=
  (containsI_any a la ca xs f v w ha).mono fun _ _ h => ⟨h.1, h.2 ▸ Chg.refl _ _⟩


set_option maxRecDepth 100000 in
set_option maxHeartbeats 4000000 in
theorem itemFault_any (s : Shp) (hs : s.ok) (x : Rec) (cx : Array Value) (fx : List Nat) (w : World) (hx : recL.rep w cx.toList x fx) :
    Calls Tryz.prog 258 #[.agg s.cells, .agg cx] w fun e w' => e = .returned (.int .i64 (itemV s x)) ∧ Chg [] w w' := by
  have HX := Lib.hid hx
  obtain ⟨a6, l6, c6, f6, a7, l7, c7, f7, a8, l8, c8, f8, ex, o0, o1, on, o3, o4, o5, h6, h7, h8, -⟩ := recL_iff.1 hx
  have HO := Lib.hid (And.intro o0 o1)
  clear hx o0 o1
  obtain rfl := Array.toList_inj.1 (ex.trans (List.toList_toArray).symm)
  clear ex
  have q6 := intL.sl_max h6; have q7 := byteL.sl_max h7; have q8 := byteL.sl_max h8
  have Z6 := Lib.hid h6.1; have Z7 := Lib.hid h7.1; have Z8 := Lib.hid h8.1
  have H6 := Lib.hid h6; have H7 := Lib.hid h7; have H8 := Lib.hid h8
  clear h6 h7 h8
  have hd := hs.data; have hr := hs.rows; have hg := hs.groups; have hal := hs.all
  have HS := Lib.hid hs
  clear hs
  have e50 : IntKind.i64.wrap (s.rows - 1) = s.rows - 1 := IntWalk.i64_in _ (by omega)
  have e51 : IntKind.i64.wrap (s.groups - 1) = s.groups - 1 := IntWalk.i64_in _ (by omega)
  have e52 : IntKind.i64.wrap (s.all - 1) = s.all - 1 := IntWalk.i64_in _ (by omega)
  show Calls _ _ #[.agg #[.int .i64 s.groups, .int .i64 s.column, .int .i64 s.data, .int .i64 s.spare, .int .i64 s.rows, .int .i64 s.cap, .int .i64 s.batch, .int .i64 s.queue, .int .i64 s.stage], .agg _] _ _
  have HT := Lib.hid (fun h => pb_true h : ItemOk s x → pb (ItemOk s x) = true)
  have HF := Lib.hid (fun h => pb_false h : ¬ ItemOk s x → pb (ItemOk s x) = false)
  have HE := Lib.hid (fun Q h => pb_iff h : ∀ Q, (ItemOk s x ↔ Q) → pb (ItemOk s x) = pb Q)
  obtain ⟨nv, hnv⟩ : ∃ n, n = nameFault x.name := ⟨_, rfl⟩
  have HNV := Lib.hid hnv
  have HM := Lib.hid (show itemV s x = if nv = 0 then (if pb (ItemOk s x) = true then 0 else 3) else nv by rw [hnv]; rfl)
  clear hnv
  generalize pb (ItemOk s x) = r at HT HF HE HM ⊢
  generalize itemV s x = v at HM ⊢
  by_cases hN : nv = 0
  rotate_left
  · have HC : RowKit.Hid (Chg [] w w) := Chg.refl _ _
    have HR := Lib.hid (show v = nv by rw [HM.out, if_neg hN])
    have e1 := nn_ne hN
    clear hN
    go_enter Tryz.func258, Tryz.ntmps258
    go_wp2_with fail
    refine (impl_nameC x.name on _).mono ?_
    rintro e w1 ⟨rfl, hc⟩
    rw [← HNV.out]
    obtain ⟨cS, lS, HBS⟩ := bk hc (b := w.heap.size) (keep_alloc (new_at (by simp) _) _) (by simp)
    obtain ⟨cR, lR, HBR⟩ := bk hc (b := w.heap.size + 1) (new_at (by simp) _) (by simp)
    have h := Chg.trans0 (Chg.alloc (Chg.alloc HC.out _) _) hc; clear HC; have HC := Lib.hid h; clear h
    clear hc
    go_wp2_with fail
    go_ret
    exact ⟨ret_int HR.out.symm, HC.out⟩
  subst hN
  by_cases hA : x.length = -1
  · by_cases hB : l7 = 0
    · by_cases hD : l6 = 0
      · have HC : RowKit.Hid (Chg [] w w) := Chg.refl _ _
        have HR := Lib.hid (show v = 0 by rw [HM.out, if_pos rfl, if_pos (HT.out ((ItemOk.del hA).2 ⟨len0 Z7.out hB, len0 Z6.out hD⟩))])
        have eA : (x.length == -1) = true := by simp; exact hA
        obtain ⟨za, zb, zc, zd, ze⟩ := zfacts hB; obtain ⟨ya, yb, yc, yd, ye⟩ := zfacts hD; clear hB hD hA
        go_enter Tryz.func258, Tryz.ntmps258
        go_wp2_with fail
        refine (impl_nameC x.name on _).mono ?_
        rintro e w1 ⟨rfl, hc⟩
        rw [← HNV.out]
        obtain ⟨cS, lS, HBS⟩ := bk hc (b := w.heap.size) (keep_alloc (new_at (by simp) _) _) (by simp)
        obtain ⟨cR, lR, HBR⟩ := bk hc (b := w.heap.size + 1) (new_at (by simp) _) (by simp)
        have h := Chg.trans0 (Chg.alloc (Chg.alloc HC.out _) _) hc; clear HC; have HC := Lib.hid h; clear h
        clear hc
        go_wp2_with fail
        go_ret
        exact ⟨ret_int HR.out.symm, HC.out⟩
      · have HC : RowKit.Hid (Chg [] w w) := Chg.refl _ _
        have HR := Lib.hid (show v = 3 by rw [HM.out, if_pos rfl, if_neg (by rw [HF.out (fun h => len1 Z6.out hD ((ItemOk.del hA).1 h).2)]; simp)])
        have e1 : (0 : Int) < (l6 : Int) := by omega
        have eA : (x.length == -1) = true := by simp; exact hA
        obtain ⟨za, zb, zc, zd, ze⟩ := zfacts hB; clear hB hD hA
        go_enter Tryz.func258, Tryz.ntmps258
        go_wp2_with fail
        refine (impl_nameC x.name on _).mono ?_
        rintro e w1 ⟨rfl, hc⟩
        rw [← HNV.out]
        obtain ⟨cS, lS, HBS⟩ := bk hc (b := w.heap.size) (keep_alloc (new_at (by simp) _) _) (by simp)
        obtain ⟨cR, lR, HBR⟩ := bk hc (b := w.heap.size + 1) (new_at (by simp) _) (by simp)
        have h := Chg.trans0 (Chg.alloc (Chg.alloc HC.out _) _) hc; clear HC; have HC := Lib.hid h; clear h
        clear hc
        go_wp2_with fail
        go_ret
        exact ⟨ret_int HR.out.symm, HC.out⟩
    · have HC : RowKit.Hid (Chg [] w w) := Chg.refl _ _
      have HR := Lib.hid (show v = 3 by rw [HM.out, if_pos rfl, if_neg (by rw [HF.out (fun h => len1 Z7.out hB ((ItemOk.del hA).1 h).1)]; simp)])
      have e1 : (0 : Int) < (l7 : Int) := by omega
      have eA : (x.length == -1) = true := by simp; exact hA
      clear hB hA
      go_enter Tryz.func258, Tryz.ntmps258
      go_wp2_with fail
      refine (impl_nameC x.name on _).mono ?_
      rintro e w1 ⟨rfl, hc⟩
      rw [← HNV.out]
      obtain ⟨cS, lS, HBS⟩ := bk hc (b := w.heap.size) (keep_alloc (new_at (by simp) _) _) (by simp)
      obtain ⟨cR, lR, HBR⟩ := bk hc (b := w.heap.size + 1) (new_at (by simp) _) (by simp)
      have h := Chg.trans0 (Chg.alloc (Chg.alloc HC.out _) _) hc; clear HC; have HC := Lib.hid h; clear h
      clear hc
      go_wp2_with fail
      go_ret
      exact ⟨ret_int HR.out.symm, HC.out⟩
  have eA : (x.length == -1) = false := by simp; exact hA
  obtain ⟨p1, hp1⟩ : ∃ p, p = (partsV s.data x.length).1 := ⟨_, rfl⟩
  obtain ⟨p2, hp2⟩ : ∃ p, p = (partsV s.data x.length).2 := ⟨_, rfl⟩
  have HP := Lib.hid hp2; have HP1 := Lib.hid hp1
  clear hp2 hp1
  by_cases hP : p2 = 0
  rotate_left
  · have HC : RowKit.Hid (Chg [] w w) := Chg.refl _ _
    have HR := Lib.hid (show v = 3 by rw [HM.out, if_pos rfl, if_neg (by rw [HF.out (ItemOk.long hA (by rw [← HP.out]; exact hP))]; simp)])
    have e1 := nn_ne hP
    clear hA hP
    go_enter Tryz.func258, Tryz.ntmps258
    go_wp2_with fail
    refine (impl_nameC x.name on _).mono ?_
    rintro e w1 ⟨rfl, hc⟩
    rw [← HNV.out]
    obtain ⟨cS, lS, HBS⟩ := bk hc (b := w.heap.size) (keep_alloc (new_at (by simp) _) _) (by simp)
    obtain ⟨cR, lR, HBR⟩ := bk hc (b := w.heap.size + 1) (new_at (by simp) _) (by simp)
    have h := Chg.trans0 (Chg.alloc (Chg.alloc HC.out _) _) hc; clear HC; have HC := Lib.hid h; clear h
    clear hc
    go_wp2_with fail
    refine (parts_any s x.length hd.1 hd.2 o3 _).mono ?_
    rintro e w2 ⟨rfl, hc⟩
    rw [← HP.out, ← HP1.out]
    have h := bk hc HBS.out (by simp); clear HBS cS lS; obtain ⟨cS, lS, HBS⟩ := h
    have h := bk hc HBR.out (by simp); clear HBR cR lR; obtain ⟨cR, lR, HBR⟩ := h
    replace HC := hct HC hc
    clear hc
    go_wp2_with fail
    go_ret
    exact ⟨ret_int HR.out.symm, HC.out⟩
  subst hP
  have hb := parts0 hd HP.out.symm
  have hb1 := hb.1; have hb2 := hb.2.1
  have HN1 := Lib.hid (show p1 = partsN s x.length from HP1.out.trans hb.2.2)
  clear hb
  by_cases hB : l7 = 0
  · have eB : ((l7 : Int) == x.length) = false := by simp; omega
    by_cases hD : (l6 : Int) = p1
    rotate_left
    · have HC : RowKit.Hid (Chg [] w w) := Chg.refl _ _
      have HR := Lib.hid (show v = 3 by rw [HM.out, if_pos rfl, if_neg (by rw [HF.out (fun h => hD (by rw [Z6.out, HN1.out]; exact ((ItemOk.row hA HP.out.symm (len0 Z7.out hB)).1 h).1))]; simp)])
      have e1 : ((l6 : Int) == p1) = false := by simp; exact hD
      obtain ⟨za, zb, zc, zd, ze⟩ := zfacts hB; clear hB hA hD
      go_enter Tryz.func258, Tryz.ntmps258
      go_wp2_with fail
      refine (impl_nameC x.name on _).mono ?_
      rintro e w1 ⟨rfl, hc⟩
      rw [← HNV.out]
      obtain ⟨cS, lS, HBS⟩ := bk hc (b := w.heap.size) (keep_alloc (new_at (by simp) _) _) (by simp)
      obtain ⟨cR, lR, HBR⟩ := bk hc (b := w.heap.size + 1) (new_at (by simp) _) (by simp)
      have h := Chg.trans0 (Chg.alloc (Chg.alloc HC.out _) _) hc; clear HC; have HC := Lib.hid h; clear h
      clear hc
      go_wp2_with fail
      refine (parts_any s x.length hd.1 hd.2 o3 _).mono ?_
      rintro e w2 ⟨rfl, hc⟩
      rw [← HP.out, ← HP1.out]
      have h := bk hc HBS.out (by simp); clear HBS cS lS; obtain ⟨cS, lS, HBS⟩ := h
      have h := bk hc HBR.out (by simp); clear HBR cR lR; obtain ⟨cR, lR, HBR⟩ := h
      replace HC := hct HC hc
      clear hc
      go_wp2_with fail
      obtain ⟨SS1, HSI1, HSO1⟩ := rg_cond (fun w' => Know (w.heap.size + 1) #[.int .i64 x.kind, .int .i64 x.seq, .string x.name, .int .i64 x.length, .int .i64 x.group, .int .i64 x.row, .slice a6 l6 c6, .slice a7 l7 c7, .slice a8 l8 c8] w')
      have hS0 := HSI1.out (w2.drew) (Know.of (by refine keep_drew ?_; exact HBR.out))
      refine rg_start SS1 (by kernel_rfl) hS0 ?_
      refine rgT 0 hS0 ?_
      refine rgL 1 hS0 HSO1 ?_
      refine rgT 3 hS0 ?_
      refine rgL 4 hS0 HSO1 ?_
      refine rg_call 2 rfl (by kernel_rfl) (fun K hK => ?_)
      go_simp
      go_at_call 185
      refine (sizeB_c a7 l7 c7 _ q7).mono ?_
      rintro e w3 ⟨rfl, hc⟩
      have h := bk hc (keep_drew HBS.out) (by simp); clear HBS cS lS; obtain ⟨cS, lS, HBS⟩ := h
      have h := bk hc (keep_drew HBR.out) (by simp); clear HBR cR lR; obtain ⟨cR, lR, HBR⟩ := h
      have h := Chg.trans0 (Chg.drew HC.out) hc; clear HC; have HC := Lib.hid h; clear h
      clear hc
      go_wp2_with fail
      refine hK.out _ _ (HSI1.out _ cR) (fun hS1 => ?_)
      clear hK K
      try simp only [Act.put, List.setIfInBounds_toArray, List.set_cons_zero, List.set_cons_succ]
      refine rgT 5 hS1 ?_
      refine rgT 6 hS1 ?_
      refine rgS 7 hS1 ?_
      refine rgS 8 hS1 ?_
      refine rgS 9 hS1 ?_
      refine rgS 10 hS1 ?_
      refine rgT 11 hS1 ?_
      refine rgT 12 hS1 ?_
      refine wpAnyH_done (by kernel_rfl) ?_ _
      go_wp2_with fail
      refine (sizeI_c a6 l6 c6 _ q6).mono ?_
      rintro e w4 ⟨rfl, hc⟩
      have h := bk hc HBS.out (by simp); clear HBS cS lS; obtain ⟨cS, lS, HBS⟩ := h
      have h := bk hc HBR.out (by simp); clear HBR cR lR; obtain ⟨cR, lR, HBR⟩ := h
      replace HC := hct HC hc
      clear hc
      go_wp2_with fail
      go_loopw [9, 10, 11, 66] (fun B9 u v i wr => ∃ k : Nat, k ≤ l6 ∧ i = .int .i64 k ∧ B9 = .bool false ∧ RowKit.Hid (Chg [] w4 wr)) (fun _ _ _ i _ => l6 - (intOf i).toNat)
      case atStart => exact ⟨0, by omega, rfl, rfl, Chg.refl _ _⟩
      case round =>
        obtain ⟨k, hk, rfl, rfl, HCr⟩ := hrel
        have HCW := Lib.hid (HC.out.trans0 HCr.out)
        by_cases hlt : k < l6
        · obtain ⟨y, b, o, HY, rfl, hcy, hok⟩ := int_at (intL.sl_ext H6.out HCW.out) hlt
          go_wp2_with fail
          go_roundw
          case rel => exact ⟨k + 1, by omega, by go_num, rfl, HCr.out⟩
          case measure => simp [intOf]; omega
        · go_wp2_with fail
          go_ret
          exact ⟨ret_int HR.out.symm, HCW.out⟩
    have HV := Lib.hid (show v = if pb (Apart (s.rows - 1) x.rows) = true then 0 else 3 by
      rw [HM.out, if_pos rfl, HE.out _ ((ItemOk.row hA HP.out.symm (len0 Z7.out hB)).trans ⟨fun h => h.2, fun h => ⟨by rw [← Z6.out, ← HN1.out]; exact hD, h⟩⟩)])
    have e1 : ((l6 : Int) == p1) = true := by simp; exact hD
    obtain ⟨za, zb, zc, zd, ze⟩ := zfacts hB; clear hB hA hD
    have HC : RowKit.Hid (Chg [] w w) := Chg.refl _ _
    go_enter Tryz.func258, Tryz.ntmps258
    go_wp2_with fail
    refine (impl_nameC x.name on _).mono ?_
    rintro e w1 ⟨rfl, hc⟩
    rw [← HNV.out]
    obtain ⟨cS, lS, HBS⟩ := bk hc (b := w.heap.size) (keep_alloc (new_at (by simp) _) _) (by simp)
    obtain ⟨cR, lR, HBR⟩ := bk hc (b := w.heap.size + 1) (new_at (by simp) _) (by simp)
    have h := Chg.trans0 (Chg.alloc (Chg.alloc HC.out _) _) hc; clear HC; have HC := Lib.hid h; clear h
    clear hc
    go_wp2_with fail
    refine (parts_any s x.length hd.1 hd.2 o3 _).mono ?_
    rintro e w2 ⟨rfl, hc⟩
    rw [← HP.out, ← HP1.out]
    have h := bk hc HBS.out (by simp); clear HBS cS lS; obtain ⟨cS, lS, HBS⟩ := h
    have h := bk hc HBR.out (by simp); clear HBR cR lR; obtain ⟨cR, lR, HBR⟩ := h
    replace HC := hct HC hc
    clear hc
    go_wp2_with fail
    obtain ⟨SS1, HSI1, HSO1⟩ := rg_cond (fun w' => Know (w.heap.size + 1) #[.int .i64 x.kind, .int .i64 x.seq, .string x.name, .int .i64 x.length, .int .i64 x.group, .int .i64 x.row, .slice a6 l6 c6, .slice a7 l7 c7, .slice a8 l8 c8] w')
    have hS0 := HSI1.out (w2.drew) (Know.of (by refine keep_drew ?_; exact HBR.out))
    refine rg_start SS1 (by kernel_rfl) hS0 ?_
    refine rgT 0 hS0 ?_
    refine rgL 1 hS0 HSO1 ?_
    refine rgT 3 hS0 ?_
    refine rgL 4 hS0 HSO1 ?_
    refine rg_call 2 rfl (by kernel_rfl) (fun K hK => ?_)
    go_simp
    go_at_call 185
    refine (sizeB_c a7 l7 c7 _ q7).mono ?_
    rintro e w3 ⟨rfl, hc⟩
    have h := bk hc (keep_drew HBS.out) (by simp); clear HBS cS lS; obtain ⟨cS, lS, HBS⟩ := h
    have h := bk hc (keep_drew HBR.out) (by simp); clear HBR cR lR; obtain ⟨cR, lR, HBR⟩ := h
    have h := Chg.trans0 (Chg.drew HC.out) hc; clear HC; have HC := Lib.hid h; clear h
    clear hc
    go_wp2_with fail
    refine hK.out _ _ (HSI1.out _ cR) (fun hS1 => ?_)
    clear hK K
    try simp only [Act.put, List.setIfInBounds_toArray, List.set_cons_zero, List.set_cons_succ]
    refine rgT 5 hS1 ?_
    refine rgT 6 hS1 ?_
    refine rgS 7 hS1 ?_
    refine rgS 8 hS1 ?_
    refine rgS 9 hS1 ?_
    refine rgS 10 hS1 ?_
    refine rgT 11 hS1 ?_
    refine rgT 12 hS1 ?_
    refine wpAnyH_done (by kernel_rfl) ?_ _
    go_wp2_with fail
    refine (sizeI_c a6 l6 c6 _ q6).mono ?_
    rintro e w4 ⟨rfl, hc⟩
    have h := bk hc HBS.out (by simp); clear HBS cS lS; obtain ⟨cS, lS, HBS⟩ := h
    have h := bk hc HBR.out (by simp); clear HBR cR lR; obtain ⟨cR, lR, HBR⟩ := h
    replace HC := hct HC hc
    clear hc
    go_wp2_with fail
    go_loopw [9, 10, 11, 66] (fun B9 u v i wr => ∃ (k : Nat) (b : Bool), k ≤ l6 ∧ i = .int .i64 k ∧ B9 = .bool b ∧ RowKit.Hid (b = pb (ApartTo (s.rows - 1) x.rows k)) ∧ RowKit.Hid (Chg [] w4 wr)) (fun _ _ _ i _ => l6 - (intOf i).toNat)
    case atStart => exact ⟨0, true, by omega, rfl, rfl, (pb_true (ApartTo.zero _ _)).symm, Chg.refl _ _⟩
    case round =>
      obtain ⟨k, b9, hk, rfl, rfl, HB9, HCr⟩ := hrel
      rename_i wr
      have HCW := Lib.hid (HC.out.trans0 HCr.out)
      by_cases hlt : k < l6
      · obtain ⟨y, b, o, HY, rfl, hcy, hok⟩ := int_at (intL.sl_ext H6.out HCW.out) hlt
        cases hb9 : b9
        · rw [hb9] at HB9
          have HN := Lib.hid (pb_dead (not_pb HB9.out.symm)).symm
          clear hb9
          go_wp2_with fail
          go_roundw
          case rel => exact ⟨k + 1, false, by omega, by go_num, rfl, HN.out, HCr.out⟩
          case measure => simp [intOf]; omega
        · rw [hb9] at HB9
          have hh := HCr.out.keep0 HBS.out; clear cS lS HBS; have cS := cellsOf hh; have lS := ltOf hh; have HBS := Lib.hid hh; clear hh
          have hh := HCr.out.keep0 HBR.out; clear cR lR HBR; have cR := cellsOf hh; have lR := ltOf hh; have HBR := Lib.hid hh; clear hh
          have hka : k ≤ c6 := by have := H6.out.2.1; omega
          have hk1 : (k : Int) ≤ (c6 : Int) := by omega
          obtain ⟨gg, hgg⟩ := take_slice H6.out (k := k) (by omega) c6 hka (Nat.le_refl _)
          have HGG := Lib.hid hgg; clear hgg
          have HCO := Lib.hid HC.out
          clear HC hb9
          have HC : RowKit.Hid (Chg [] wr wr) := Chg.refl _ _
          go_wp2_with fail
          refine (isRow_any s HS.out y _).mono ?_
          rintro e w1 ⟨rfl, hc⟩
          have h := bk hc HBS.out (by simp); clear HBS cS lS; obtain ⟨cS, lS, HBS⟩ := h
          have h := bk hc HBR.out (by simp); clear HBR cR lR; obtain ⟨cR, lR, HBR⟩ := h
          replace HC := hct HC hc
          clear hc
          by_cases hin : 0 ≤ y ∧ y ≤ s.rows - 1
          · rw [inB_eq hin.1 hin.2]
            have HN := Lib.hid (pb_step HY.out.1 (of_pb HB9.out.symm) hin)
            clear hin
            go_wp2_with fail
            refine ((containsI_c (some ⟨b, o, none⟩) k c6 (x.rows.take k) gg y _ (intL.sl_ext HGG.out (HCW.out.trans0 HC.out)))).mono ?_
            rintro e w2 ⟨rfl, hc⟩
            have h := bk hc HBS.out (by simp); clear HBS cS lS; obtain ⟨cS, lS, HBS⟩ := h
            have h := bk hc HBR.out (by simp); clear HBR cR lR; obtain ⟨cR, lR, HBR⟩ := h
            replace HC := hct HC hc
            clear hc
            go_wp2_with fail
            go_roundw
            case rel => exact ⟨k + 1, _, by omega, by go_num, rfl, HN.out.symm, HCr.out.trans0 HC.out⟩
            case measure => simp [intOf]; omega
          · rw [inB_neq hin]
            have HN := Lib.hid (pb_out HY.out.1 hin)
            clear hin
            go_wp2_with fail
            go_roundw
            case rel => exact ⟨k + 1, false, by omega, by go_num, rfl, HN.out.symm, HCr.out.trans0 HC.out⟩
            case measure => simp [intOf]; omega
      · have HQ := Lib.hid (HB9.out.trans (pb_end (by have := Z6.out; omega)))
        rw [← HQ.out] at HV
        cases b9
        · have HR := Lib.hid (HV.out.trans (if_neg (by simp)))
          go_wp2_with fail
          go_ret
          exact ⟨ret_int HR.out.symm, HCW.out⟩
        · have HR := Lib.hid (HV.out.trans (if_pos rfl))
          go_wp2_with fail
          go_ret
          exact ⟨ret_int HR.out.symm, HCW.out⟩
  have eB : ((l7 : Int) == 0) = false := by simp; exact hB
  by_cases hD : (l7 : Int) = x.length
  rotate_left
  · have HC : RowKit.Hid (Chg [] w w) := Chg.refl _ _
    have HR := Lib.hid (show v = 3 by rw [HM.out, if_pos rfl, if_neg (by rw [HF.out (fun h => hD (by rw [Z7.out]; exact ((ItemOk.data hA HP.out.symm (len1 Z7.out hB)).1 h).1))]; simp)])
    have e1 : ((l7 : Int) == x.length) = false := by simp; exact hD
    clear hA hD hB
    go_enter Tryz.func258, Tryz.ntmps258
    go_wp2_with fail
    refine (impl_nameC x.name on _).mono ?_
    rintro e w1 ⟨rfl, hc⟩
    rw [← HNV.out]
    obtain ⟨cS, lS, HBS⟩ := bk hc (b := w.heap.size) (keep_alloc (new_at (by simp) _) _) (by simp)
    obtain ⟨cR, lR, HBR⟩ := bk hc (b := w.heap.size + 1) (new_at (by simp) _) (by simp)
    have h := Chg.trans0 (Chg.alloc (Chg.alloc HC.out _) _) hc; clear HC; have HC := Lib.hid h; clear h
    clear hc
    go_wp2_with fail
    refine (parts_any s x.length hd.1 hd.2 o3 _).mono ?_
    rintro e w2 ⟨rfl, hc⟩
    rw [← HP.out, ← HP1.out]
    have h := bk hc HBS.out (by simp); clear HBS cS lS; obtain ⟨cS, lS, HBS⟩ := h
    have h := bk hc HBR.out (by simp); clear HBR cR lR; obtain ⟨cR, lR, HBR⟩ := h
    replace HC := hct HC hc
    clear hc
    go_wp2_with fail
    obtain ⟨SS1, HSI1, HSO1⟩ := rg_cond (fun w' => Know (w.heap.size + 1) #[.int .i64 x.kind, .int .i64 x.seq, .string x.name, .int .i64 x.length, .int .i64 x.group, .int .i64 x.row, .slice a6 l6 c6, .slice a7 l7 c7, .slice a8 l8 c8] w')
    have hS0 := HSI1.out (w2.drew) (Know.of (by refine keep_drew ?_; exact HBR.out))
    refine rg_start SS1 (by kernel_rfl) hS0 ?_
    refine rgT 0 hS0 ?_
    refine rgL 1 hS0 HSO1 ?_
    refine rgT 3 hS0 ?_
    refine rgL 4 hS0 HSO1 ?_
    refine rg_call 2 rfl (by kernel_rfl) (fun K hK => ?_)
    go_simp
    go_at_call 185
    refine (sizeB_c a7 l7 c7 _ q7).mono ?_
    rintro e w3 ⟨rfl, hc⟩
    have h := bk hc (keep_drew HBS.out) (by simp); clear HBS cS lS; obtain ⟨cS, lS, HBS⟩ := h
    have h := bk hc (keep_drew HBR.out) (by simp); clear HBR cR lR; obtain ⟨cR, lR, HBR⟩ := h
    have h := Chg.trans0 (Chg.drew HC.out) hc; clear HC; have HC := Lib.hid h; clear h
    clear hc
    go_wp2_with fail
    refine hK.out _ _ (HSI1.out _ cR) (fun hS1 => ?_)
    clear hK K
    try simp only [Act.put, List.setIfInBounds_toArray, List.set_cons_zero, List.set_cons_succ]
    refine rgT 5 hS1 ?_
    refine rgT 6 hS1 ?_
    refine rgS 7 hS1 ?_
    refine rgS 8 hS1 ?_
    refine rgS 9 hS1 ?_
    refine rgS 10 hS1 ?_
    refine rgT 11 hS1 ?_
    refine rgT 12 hS1 ?_
    refine wpAnyH_done (by kernel_rfl) ?_ _
    go_wp2_with fail
    go_loopw [9, 10, 11, 66] (fun B9 u v i wr => ∃ k : Nat, k ≤ l6 ∧ i = .int .i64 k ∧ B9 = .bool false ∧ RowKit.Hid (Chg [] w3 wr)) (fun _ _ _ i _ => l6 - (intOf i).toNat)
    case atStart => exact ⟨0, by omega, rfl, rfl, Chg.refl _ _⟩
    case round =>
      obtain ⟨k, hk, rfl, rfl, HCr⟩ := hrel
      have HCW := Lib.hid (HC.out.trans0 HCr.out)
      by_cases hlt : k < l6
      · obtain ⟨y, b, o, HY, rfl, hcy, hok⟩ := int_at (intL.sl_ext H6.out HCW.out) hlt
        go_wp2_with fail
        go_roundw
        case rel => exact ⟨k + 1, by omega, by go_num, rfl, HCr.out⟩
        case measure => simp [intOf]; omega
      · go_wp2_with fail
        go_ret
        exact ⟨ret_int HR.out.symm, HCW.out⟩
  have e1 : ((l7 : Int) == x.length) = true := by simp; exact hD
  by_cases hE : l6 = 0
  rotate_left
  · have HC : RowKit.Hid (Chg [] w w) := Chg.refl _ _
    have HR := Lib.hid (show v = 3 by rw [HM.out, if_pos rfl, if_neg (by rw [HF.out (fun h => len1 Z6.out hE ((ItemOk.data hA HP.out.symm (len1 Z7.out hB)).1 h).2)]; simp)])
    have e2 : ((l6 : Int) == 0) = false := by simp; exact hE
    clear hA hB hE
    go_enter Tryz.func258, Tryz.ntmps258
    go_wp2_with fail
    refine (impl_nameC x.name on _).mono ?_
    rintro e w1 ⟨rfl, hc⟩
    rw [← HNV.out]
    obtain ⟨cS, lS, HBS⟩ := bk hc (b := w.heap.size) (keep_alloc (new_at (by simp) _) _) (by simp)
    obtain ⟨cR, lR, HBR⟩ := bk hc (b := w.heap.size + 1) (new_at (by simp) _) (by simp)
    have h := Chg.trans0 (Chg.alloc (Chg.alloc HC.out _) _) hc; clear HC; have HC := Lib.hid h; clear h
    clear hc
    go_wp2_with fail
    refine (parts_any s x.length hd.1 hd.2 o3 _).mono ?_
    rintro e w2 ⟨rfl, hc⟩
    rw [← HP.out, ← HP1.out]
    have h := bk hc HBS.out (by simp); clear HBS cS lS; obtain ⟨cS, lS, HBS⟩ := h
    have h := bk hc HBR.out (by simp); clear HBR cR lR; obtain ⟨cR, lR, HBR⟩ := h
    replace HC := hct HC hc
    clear hc
    go_wp2_with fail
    obtain ⟨SS1, HSI1, HSO1⟩ := rg_cond (fun w' => Know (w.heap.size + 1) #[.int .i64 x.kind, .int .i64 x.seq, .string x.name, .int .i64 x.length, .int .i64 x.group, .int .i64 x.row, .slice a6 l6 c6, .slice a7 l7 c7, .slice a8 l8 c8] w')
    have hS0 := HSI1.out (w2.drew) (Know.of (by refine keep_drew ?_; exact HBR.out))
    refine rg_start SS1 (by kernel_rfl) hS0 ?_
    refine rgT 0 hS0 ?_
    refine rgL 1 hS0 HSO1 ?_
    refine rgT 3 hS0 ?_
    refine rgL 4 hS0 HSO1 ?_
    refine rg_call 2 rfl (by kernel_rfl) (fun K hK => ?_)
    go_simp
    go_at_call 185
    refine (sizeB_c a7 l7 c7 _ q7).mono ?_
    rintro e w3 ⟨rfl, hc⟩
    have h := bk hc (keep_drew HBS.out) (by simp); clear HBS cS lS; obtain ⟨cS, lS, HBS⟩ := h
    have h := bk hc (keep_drew HBR.out) (by simp); clear HBR cR lR; obtain ⟨cR, lR, HBR⟩ := h
    have h := Chg.trans0 (Chg.drew HC.out) hc; clear HC; have HC := Lib.hid h; clear h
    clear hc
    go_wp2_with fail
    refine hK.out _ _ (HSI1.out _ cR) (fun hS1 => ?_)
    clear hK K
    try simp only [Act.put, List.setIfInBounds_toArray, List.set_cons_zero, List.set_cons_succ]
    refine rgT 5 hS1 ?_
    refine rgT 6 hS1 ?_
    refine rgT 7 hS1 ?_
    refine rgL 8 hS1 HSO1 ?_
    refine rgT 9 hS1 ?_
    refine rgT 10 hS1 ?_
    refine rgT 11 hS1 ?_
    refine rgT 12 hS1 ?_
    refine wpAnyH_done (by kernel_rfl) ?_ _
    go_wp2_with fail
    go_loopw [9, 10, 11, 66] (fun B9 u v i wr => ∃ k : Nat, k ≤ l6 ∧ i = .int .i64 k ∧ B9 = .bool false ∧ RowKit.Hid (Chg [] w3 wr)) (fun _ _ _ i _ => l6 - (intOf i).toNat)
    case atStart => exact ⟨0, by omega, rfl, rfl, Chg.refl _ _⟩
    case round =>
      obtain ⟨k, hk, rfl, rfl, HCr⟩ := hrel
      have HCW := Lib.hid (HC.out.trans0 HCr.out)
      by_cases hlt : k < l6
      · obtain ⟨y, b, o, HY, rfl, hcy, hok⟩ := int_at (intL.sl_ext H6.out HCW.out) hlt
        go_wp2_with fail
        go_roundw
        case rel => exact ⟨k + 1, by omega, by go_num, rfl, HCr.out⟩
        case measure => simp [intOf]; omega
      · go_wp2_with fail
        go_ret
        exact ⟨ret_int HR.out.symm, HCW.out⟩
  have HC : RowKit.Hid (Chg [] w w) := Chg.refl _ _
  have HR := Lib.hid (show v = 0 by rw [HM.out, if_pos rfl, if_pos (HT.out ((ItemOk.data hA HP.out.symm (len1 Z7.out hB)).2 ⟨by rw [← Z7.out]; exact hD, len0 Z6.out hE⟩))])
  obtain ⟨za, zb, zc, zd, ze⟩ := zfacts hE; clear hE hA hB
  go_enter Tryz.func258, Tryz.ntmps258
  go_wp2_with fail
  refine (impl_nameC x.name on _).mono ?_
  rintro e w1 ⟨rfl, hc⟩
  rw [← HNV.out]
  obtain ⟨cS, lS, HBS⟩ := bk hc (b := w.heap.size) (keep_alloc (new_at (by simp) _) _) (by simp)
  obtain ⟨cR, lR, HBR⟩ := bk hc (b := w.heap.size + 1) (new_at (by simp) _) (by simp)
  have h := Chg.trans0 (Chg.alloc (Chg.alloc HC.out _) _) hc; clear HC; have HC := Lib.hid h; clear h
  clear hc
  go_wp2_with fail
  refine (parts_any s x.length hd.1 hd.2 o3 _).mono ?_
  rintro e w2 ⟨rfl, hc⟩
  rw [← HP.out, ← HP1.out]
  have h := bk hc HBS.out (by simp); clear HBS cS lS; obtain ⟨cS, lS, HBS⟩ := h
  have h := bk hc HBR.out (by simp); clear HBR cR lR; obtain ⟨cR, lR, HBR⟩ := h
  replace HC := hct HC hc
  clear hc
  go_wp2_with fail
  obtain ⟨SS1, HSI1, HSO1⟩ := rg_cond (fun w' => Know (w.heap.size + 1) #[.int .i64 x.kind, .int .i64 x.seq, .string x.name, .int .i64 x.length, .int .i64 x.group, .int .i64 x.row, .slice a6 l6 c6, .slice a7 l7 c7, .slice a8 l8 c8] w')
  have hS0 := HSI1.out (w2.drew) (Know.of (by refine keep_drew ?_; exact HBR.out))
  refine rg_start SS1 (by kernel_rfl) hS0 ?_
  refine rgT 0 hS0 ?_
  refine rgL 1 hS0 HSO1 ?_
  refine rgT 3 hS0 ?_
  refine rgL 4 hS0 HSO1 ?_
  refine rg_call 2 rfl (by kernel_rfl) (fun K hK => ?_)
  go_simp
  go_at_call 185
  refine (sizeB_c a7 l7 c7 _ q7).mono ?_
  rintro e w3 ⟨rfl, hc⟩
  have h := bk hc (keep_drew HBS.out) (by simp); clear HBS cS lS; obtain ⟨cS, lS, HBS⟩ := h
  have h := bk hc (keep_drew HBR.out) (by simp); clear HBR cR lR; obtain ⟨cR, lR, HBR⟩ := h
  have h := Chg.trans0 (Chg.drew HC.out) hc; clear HC; have HC := Lib.hid h; clear h
  clear hc
  go_wp2_with fail
  refine hK.out _ _ (HSI1.out _ cR) (fun hS1 => ?_)
  clear hK K
  try simp only [Act.put, List.setIfInBounds_toArray, List.set_cons_zero, List.set_cons_succ]
  refine rgT 5 hS1 ?_
  refine rgT 6 hS1 ?_
  refine rgT 7 hS1 ?_
  refine rgL 8 hS1 HSO1 ?_
  refine rgT 9 hS1 ?_
  refine rgT 10 hS1 ?_
  refine rgT 11 hS1 ?_
  refine rgT 12 hS1 ?_
  refine wpAnyH_done (by kernel_rfl) ?_ _
  go_wp2_with fail
  go_loopw [9, 10, 11, 66] (fun B9 u v i wr => ∃ k : Nat, k ≤ l6 ∧ i = .int .i64 k ∧ B9 = .bool false ∧ RowKit.Hid (Chg [] w3 wr)) (fun _ _ _ i _ => l6 - (intOf i).toNat)
  case atStart => exact ⟨0, by omega, rfl, rfl, Chg.refl _ _⟩
  case round =>
    obtain ⟨k, hk, rfl, rfl, HCr⟩ := hrel
    have HCW := Lib.hid (HC.out.trans0 HCr.out)
    by_cases hlt : k < l6
    · obtain ⟨y, b, o, HY, rfl, hcy, hok⟩ := int_at (intL.sl_ext H6.out HCW.out) hlt
      go_wp2_with fail
      go_roundw
      case rel => exact ⟨k + 1, by omega, by go_num, rfl, HCr.out⟩
      case measure => simp [intOf]; omega
    · go_wp2_with fail
      go_ret
      exact ⟨ret_int HR.out.symm, HCW.out⟩

end Go.Proofs.YtphmpimgbmedbaaGreat
