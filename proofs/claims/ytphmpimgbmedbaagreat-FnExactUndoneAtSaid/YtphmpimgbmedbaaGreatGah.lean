/- Several texts in one. -/
import Derived.Test.YtphmpimgbmedbaaGreatGag
import Derived.Test.YtphmpimgbmedbaaGreatGad
import Derived.BigRegion
/- What is wrong with the record of an item: the program. -/
namespace Go.Proofs.YtphmpimgbmedbaaGreat
open Go.RowKit
open Go.Lib (hid)
noncomputable def itemV (s : Shp) (x : Rec) : Int := if nameFault x.name = 0 then (if pb (ItemOk s x) = true then 0 else 3) else nameFault x.name
theorem pb_step {m : Int} {xs : List Int} {k : Nat} {x : Int} (hx : xs[k]? = some x) (h : ApartTo m xs k) (h1 : 0 ≤ x ∧ x ≤ m) : pb (ApartTo m xs (k + 1)) = !pb (x ∈ xs.take k) := by
 by_cases h2 : x ∈ xs.take k
 ·rw [pb_true h2, pb_false (fun h3 => (h3 k x (by omega) hx).2 h2)]; rfl
 ·rw [pb_false h2, pb_true (h.next hx h1 h2)]; rfl
theorem pb_out {m : Int} {xs : List Int} {k : Nat} {x : Int} (hx : xs[k]? = some x) (h1 : ¬ (0 ≤ x ∧ x ≤ m)) : pb (ApartTo m xs (k + 1)) = false := pb_false (fun h3 => h1 (h3 k x (by omega) hx).1)
theorem pb_dead {m : Int} {xs : List Int} {k : Nat} (h : ¬ ApartTo m xs k) : pb (ApartTo m xs (k + 1)) = false := pb_false (fun h3 => h (fun i x hi hx => h3 i x (by omega) hx))
theorem pb_end {m : Int} {xs : List Int} {k : Nat} (hk : xs.length ≤ k) : pb (ApartTo m xs k) = pb (Apart m xs) := pb_iff ⟨fun h => h.all hk, fun h i x _ hx => h i x hx⟩
theorem impl_nameC (s : ByteArray) (hs : s.size ≤ maxLen) (w : World) : Calls Tryz.prog 125 #[.string s] w fun e w' => e = .returned (.int .i64 (nameFault s)) ∧ Chg [] w w' :=
 (impl_name s hs w).mono fun _ _ h => ⟨h.1, h.2 ▸ Chg.refl _ _⟩
theorem spec_nameC (s : ByteArray) (hs : s.size ≤ maxLen) (w : World) : Calls Tryz.prog 192 #[.string s] w fun e w' => e = .returned (.int .i64 (nameFault s)) ∧ Chg [] w w' :=
 (spec_name s hs w).mono fun _ _ h => ⟨h.1, h.2 ▸ Chg.refl _ _⟩
theorem nn_ne {n : Int} (h : ¬ n = 0) : (n != 0) = true := by simp; exact h
theorem sizeB_c (a : Option Addr) (la ca : Nat) (w : World) (hm : la ≤ 9223372036854775807) :
  Calls Tryz.prog 185 #[.slice a la ca] w fun e w' => e = .returned (.int .i64 (la : Int)) ∧ Chg [] w w' :=
 (sizeB_any a la ca w hm).mono fun _ _ h => ⟨h.1, h.2 ▸ Chg.refl _ _⟩
theorem sizeI_c (a : Option Addr) (la ca : Nat) (w : World) (hm : la ≤ 9223372036854775807) :
  Calls Tryz.prog 143 #[.slice a la ca] w fun e w' => e = .returned (.int .i64 (la : Int)) ∧ Chg [] w w' :=
 (sizeI_any a la ca w hm).mono fun _ _ h => ⟨h.1, h.2 ▸ Chg.refl _ _⟩
theorem containsI_c (a : Option Addr) (la ca : Nat) (xs : List Int) (f : List Nat) (v : Int) (w : World) (ha : intL.sl w a la ca xs f) :
  Calls Tryz.prog 213 #[.slice a la ca, .int .i64 v] w fun e w' => e = .returned (.bool (pb (v ∈ xs))) ∧ Chg [] w w' :=
 (containsI_any a la ca xs f v w ha).mono fun _ _ h => ⟨h.1, h.2 ▸ Chg.refl _ _⟩
set_option maxRecDepth 100000 in
set_option maxHeartbeats 4000000 in
theorem itemFault_any (s : Shp) (hs : s.ok) (x : Rec) (cx : Array Value) (fx : List Nat) (w : World) (hx : recL.rep w cx.toList x fx) :
  Calls Tryz.prog 258 #[.agg s.cells, .agg cx] w fun e w' => e = .returned (.int .i64 (itemV s x)) ∧ Chg [] w w' := by
 have HX := hid hx
 obtain ⟨a6, l6, c6, f6, a7, l7, c7, f7, a8, l8, c8, f8, ex, o0, o1, on, o3, o4, o5, h6, h7, h8, -⟩ := recL_iff.1 hx
 have HO := hid (And.intro o0 o1)
 clear hx o0 o1
 obtain rfl := Array.toList_inj.1 (ex.trans (List.toList_toArray).symm)
 clear ex
 have q6 := intL.sl_max h6; have q7 := byteL.sl_max h7; have q8 := byteL.sl_max h8
 have Z6 := hid h6.1; have Z7 := hid h7.1; have Z8 := hid h8.1
 have H6 := hid h6; have H7 := hid h7; have H8 := hid h8
 clear h6 h7 h8
 have hd := hs.data; have hr := hs.rows; have hg := hs.groups; have hal := hs.all
 have HS := hid hs
 clear hs
 have e50 : IntKind.i64.wrap (s.rows - 1) = s.rows - 1 := IntWalk.i64_in _ (by omega)
 have e51 : IntKind.i64.wrap (s.groups - 1) = s.groups - 1 := IntWalk.i64_in _ (by omega)
 have e52 : IntKind.i64.wrap (s.all - 1) = s.all - 1 := IntWalk.i64_in _ (by omega)
 show Calls _ _ #[.agg #[.int .i64 s.groups, .int .i64 s.column, .int .i64 s.data, .int .i64 s.spare, .int .i64 s.rows, .int .i64 s.cap, .int .i64 s.batch, .int .i64 s.queue, .int .i64 s.stage], .agg _] _ _
 have HT := hid (fun h => pb_true h : ItemOk s x → pb (ItemOk s x) = true)
 have HF := hid (fun h => pb_false h : ¬ ItemOk s x → pb (ItemOk s x) = false)
 have HE := hid (fun Q h => pb_iff h : ∀ Q, (ItemOk s x ↔ Q) → pb (ItemOk s x) = pb Q)
 obtain ⟨nv, hnv⟩ : ∃ n, n = nameFault x.name := ⟨_, rfl⟩
 have HNV := hid hnv
 have HM := hid (show itemV s x = if nv = 0 then (if pb (ItemOk s x) = true then 0 else 3) else nv by rw [hnv]; rfl)
 clear hnv
 generalize pb (ItemOk s x) = r at HT HF HE HM ⊢
 generalize itemV s x = v at HM ⊢
 by_cases hN : nv = 0
 rotate_left
 ·have HC : Hid (Chg [] w w) := Chg.refl _ _
  have HR := hid (show v = nv by rw [HM.out, if_neg hN])
  have e1 := nn_ne hN
  clear hN
  go_enter Tryz.func258, Tryz.ntmps258
  go_wp2_with fail
  refine (impl_nameC x.name on _).mono ?_
  rintro e w1 ⟨rfl, hc⟩
  rw [← HNV.out]
  obtain ⟨cS, lS, HBS⟩ := bk hc (b := w.heap.size) (keep_alloc (new_at (by simp) _) _) (by simp)
  obtain ⟨cR, lR, HBR⟩ := bk hc (b := w.heap.size + 1) (new_at (by simp) _) (by simp)
  have h := Chg.trans0 (Chg.alloc (Chg.alloc HC.out _) _) hc; clear HC; have HC := hid h; clear h
  clear hc
  go_wp2_with fail
  go_ret
  exact ⟨ret_int HR.out.symm, HC.out⟩
 subst hN
 by_cases hA : x.length = -1
 ·by_cases hB : l7 = 0
  ·by_cases hD : l6 = 0
   ·have HC : Hid (Chg [] w w) := Chg.refl _ _
    have HR := hid (show v = 0 by rw [HM.out, if_pos rfl, if_pos (HT.out ((ItemOk.del hA).2 ⟨len0 Z7.out hB, len0 Z6.out hD⟩))])
    have eA : (x.length == -1) = true := by simp; exact hA
    obtain ⟨za, zb, zc, zd, ze⟩ := zfacts hB; obtain ⟨ya, yb, yc, yd, ye⟩ := zfacts hD; clear hB hD hA
    go_enter Tryz.func258, Tryz.ntmps258
    go_wp2_with fail
    refine (impl_nameC x.name on _).mono ?_
    rintro e w1 ⟨rfl, hc⟩
    rw [← HNV.out]
    obtain ⟨cS, lS, HBS⟩ := bk hc (b := w.heap.size) (keep_alloc (new_at (by simp) _) _) (by simp)
    obtain ⟨cR, lR, HBR⟩ := bk hc (b := w.heap.size + 1) (new_at (by simp) _) (by simp)
    have h := Chg.trans0 (Chg.alloc (Chg.alloc HC.out _) _) hc; clear HC; have HC := hid h; clear h
    clear hc
    go_wp2_with fail
    go_ret
    exact ⟨ret_int HR.out.symm, HC.out⟩
   ·have HC : Hid (Chg [] w w) := Chg.refl _ _
    have HR := hid (show v = 3 by rw [HM.out, if_pos rfl, if_neg (by rw [HF.out (fun h => len1 Z6.out hD ((ItemOk.del hA).1 h).2)]; simp)])
    have e1 : (0 : Int) < (l6 : Int) := by omega
    have eA : (x.length == -1) = true := by simp; exact hA
    obtain ⟨za, zb, zc, zd, ze⟩ := zfacts hB; clear hB hD hA
    go_enter Tryz.func258, Tryz.ntmps258
    go_wp2_with fail
    refine (impl_nameC x.name on _).mono ?_
    rintro e w1 ⟨rfl, hc⟩
    rw [← HNV.out]
    obtain ⟨cS, lS, HBS⟩ := bk hc (b := w.heap.size) (keep_alloc (new_at (by simp) _) _) (by simp)
    obtain ⟨cR, lR, HBR⟩ := bk hc (b := w.heap.size + 1) (new_at (by simp) _) (by simp)
    have h := Chg.trans0 (Chg.alloc (Chg.alloc HC.out _) _) hc; clear HC; have HC := hid h; clear h
    clear hc
    go_wp2_with fail
    go_ret
    exact ⟨ret_int HR.out.symm, HC.out⟩
  ·have HC : Hid (Chg [] w w) := Chg.refl _ _
   have HR := hid (show v = 3 by rw [HM.out, if_pos rfl, if_neg (by rw [HF.out (fun h => len1 Z7.out hB ((ItemOk.del hA).1 h).1)]; simp)])
   have e1 : (0 : Int) < (l7 : Int) := by omega
   have eA : (x.length == -1) = true := by simp; exact hA
   clear hB hA
   go_enter Tryz.func258, Tryz.ntmps258
   go_wp2_with fail
   refine (impl_nameC x.name on _).mono ?_
   rintro e w1 ⟨rfl, hc⟩
   rw [← HNV.out]
   obtain ⟨cS, lS, HBS⟩ := bk hc (b := w.heap.size) (keep_alloc (new_at (by simp) _) _) (by simp)
   obtain ⟨cR, lR, HBR⟩ := bk hc (b := w.heap.size + 1) (new_at (by simp) _) (by simp)
   have h := Chg.trans0 (Chg.alloc (Chg.alloc HC.out _) _) hc; clear HC; have HC := hid h; clear h
   clear hc
   go_wp2_with fail
   go_ret
   exact ⟨ret_int HR.out.symm, HC.out⟩
 have eA : (x.length == -1) = false := by simp; exact hA
 obtain ⟨p1, hp1⟩ : ∃ p, p = (partsV s.data x.length).1 := ⟨_, rfl⟩
 obtain ⟨p2, hp2⟩ : ∃ p, p = (partsV s.data x.length).2 := ⟨_, rfl⟩
 have HP := hid hp2; have HP1 := hid hp1
 clear hp2 hp1
 by_cases hP : p2 = 0
 rotate_left
 ·have HC : Hid (Chg [] w w) := Chg.refl _ _
  have HR := hid (show v = 3 by rw [HM.out, if_pos rfl, if_neg (by rw [HF.out (ItemOk.long hA (by rw [← HP.out]; exact hP))]; simp)])
  have e1 := nn_ne hP
  clear hA hP
  go_enter Tryz.func258, Tryz.ntmps258
  go_wp2_with fail
  refine (impl_nameC x.name on _).mono ?_
  rintro e w1 ⟨rfl, hc⟩
  rw [← HNV.out]
  obtain ⟨cS, lS, HBS⟩ := bk hc (b := w.heap.size) (keep_alloc (new_at (by simp) _) _) (by simp)
  obtain ⟨cR, lR, HBR⟩ := bk hc (b := w.heap.size + 1) (new_at (by simp) _) (by simp)
  have h := Chg.trans0 (Chg.alloc (Chg.alloc HC.out _) _) hc; clear HC; have HC := hid h; clear h
  clear hc
  go_wp2_with fail
  refine (parts_any s x.length hd.1 hd.2 o3 _).mono ?_
  rintro e w2 ⟨rfl, hc⟩
  rw [← HP.out, ← HP1.out]
  have h := bk hc HBS.out (by simp); clear HBS cS lS; obtain ⟨cS, lS, HBS⟩ := h
  have h := bk hc HBR.out (by simp); clear HBR cR lR; obtain ⟨cR, lR, HBR⟩ := h
  replace HC := hct HC hc
  clear hc
  go_wp2_with fail
  go_ret
  exact ⟨ret_int HR.out.symm, HC.out⟩
 subst hP
 have hb := parts0 hd HP.out.symm
 have hb1 := hb.1; have hb2 := hb.2.1
 have HN1 := hid (show p1 = partsN s x.length from HP1.out.trans hb.2.2)
 clear hb
 by_cases hB : l7 = 0
 ·have eB : ((l7 : Int) == x.length) = false := by simp; omega
  by_cases hD : (l6 : Int) = p1
  rotate_left
  ·have HC : Hid (Chg [] w w) := Chg.refl _ _
   have HR := hid (show v = 3 by rw [HM.out, if_pos rfl, if_neg (by rw [HF.out (fun h => hD (by rw [Z6.out, HN1.out]; exact ((ItemOk.row hA HP.out.symm (len0 Z7.out hB)).1 h).1))]; simp)])
   have e1 : ((l6 : Int) == p1) = false := by simp; exact hD
   obtain ⟨za, zb, zc, zd, ze⟩ := zfacts hB; clear hB hA hD
   go_enter Tryz.func258, Tryz.ntmps258
   go_wp2_with fail
   refine (impl_nameC x.name on _).mono ?_
   rintro e w1 ⟨rfl, hc⟩
   rw [← HNV.out]
   obtain ⟨cS, lS, HBS⟩ := bk hc (b := w.heap.size) (keep_alloc (new_at (by simp) _) _) (by simp)
   obtain ⟨cR, lR, HBR⟩ := bk hc (b := w.heap.size + 1) (new_at (by simp) _) (by simp)
   have h := Chg.trans0 (Chg.alloc (Chg.alloc HC.out _) _) hc; clear HC; have HC := hid h; clear h
   clear hc
   go_wp2_with fail
   refine (parts_any s x.length hd.1 hd.2 o3 _).mono ?_
   rintro e w2 ⟨rfl, hc⟩
   rw [← HP.out, ← HP1.out]
   have h := bk hc HBS.out (by simp); clear HBS cS lS; obtain ⟨cS, lS, HBS⟩ := h
   have h := bk hc HBR.out (by simp); clear HBR cR lR; obtain ⟨cR, lR, HBR⟩ := h
   replace HC := hct HC hc
   clear hc
   go_wp2_with fail
   obtain ⟨SS1, HSI1, HSO1⟩ := rg_cond (fun w' => Know (w.heap.size + 1) #[.int .i64 x.kind, .int .i64 x.seq, .string x.name, .int .i64 x.length, .int .i64 x.group, .int .i64 x.row, .slice a6 l6 c6, .slice a7 l7 c7, .slice a8 l8 c8] w')
   have hS0 := HSI1.out (w2.drew) (Know.of (by refine keep_drew ?_; exact HBR.out))
   refine rg_start SS1 (by kernel_rfl) hS0 ?_
   refine rgT 0 hS0 ?_
   refine rgL 1 hS0 HSO1 ?_
   refine rgT 3 hS0 ?_
   refine rgL 4 hS0 HSO1 ?_
   refine rg_call 2 rfl (by kernel_rfl) (fun K hK => ?_)
   go_simp
   go_at_call 185
   refine (sizeB_c a7 l7 c7 _ q7).mono ?_
   rintro e w3 ⟨rfl, hc⟩
   have h := bk hc (keep_drew HBS.out) (by simp); clear HBS cS lS; obtain ⟨cS, lS, HBS⟩ := h
   have h := bk hc (keep_drew HBR.out) (by simp); clear HBR cR lR; obtain ⟨cR, lR, HBR⟩ := h
   have h := Chg.trans0 (Chg.drew HC.out) hc; clear HC; have HC := hid h; clear h
   clear hc
   go_wp2_with fail
   refine hK.out _ _ (HSI1.out _ cR) (fun hS1 => ?_)
   clear hK K
   try simp only [Act.put, List.setIfInBounds_toArray, List.set_cons_zero, List.set_cons_succ]
   refine rgT 5 hS1 ?_
   refine rgT 6 hS1 ?_
   refine rgS 7 hS1 ?_
   refine rgS 8 hS1 ?_
   refine rgS 9 hS1 ?_
   refine rgS 10 hS1 ?_
   refine rgT 11 hS1 ?_
   refine rgT 12 hS1 ?_
   refine wpAnyH_done (by kernel_rfl) ?_ _
   go_wp2_with fail
   refine (sizeI_c a6 l6 c6 _ q6).mono ?_
   rintro e w4 ⟨rfl, hc⟩
   have h := bk hc HBS.out (by simp); clear HBS cS lS; obtain ⟨cS, lS, HBS⟩ := h
   have h := bk hc HBR.out (by simp); clear HBR cR lR; obtain ⟨cR, lR, HBR⟩ := h
   replace HC := hct HC hc
   clear hc
   go_wp2_with fail
   go_loopw [9, 10, 11, 66] (fun B9 u v i wr => ∃ k : Nat, k ≤ l6 ∧ i = .int .i64 k ∧ B9 = .bool false ∧ Hid (Chg [] w4 wr)) (fun _ _ _ i _ => l6 - (intOf i).toNat)
   case atStart => exact ⟨0, by omega, rfl, rfl, Chg.refl _ _⟩
   case round =>
    obtain ⟨k, hk, rfl, rfl, HCr⟩ := hrel
    have HCW := hid (HC.out.trans0 HCr.out)
    by_cases hlt : k < l6
    ·obtain ⟨y, b, o, HY, rfl, hcy, hok⟩ := int_at (intL.sl_ext H6.out HCW.out) hlt
     go_wp2_with fail
     go_roundw
     case rel => exact ⟨k + 1, by omega, by go_num, rfl, HCr.out⟩
     case measure => simp [intOf]; omega
    ·go_wp2_with fail
     go_ret
     exact ⟨ret_int HR.out.symm, HCW.out⟩
  have HV := hid (show v = if pb (Apart (s.rows - 1) x.rows) = true then 0 else 3 by
   rw [HM.out, if_pos rfl, HE.out _ ((ItemOk.row hA HP.out.symm (len0 Z7.out hB)).trans ⟨fun h => h.2, fun h => ⟨by rw [← Z6.out, ← HN1.out]; exact hD, h⟩⟩)])
  have e1 : ((l6 : Int) == p1) = true := by simp; exact hD
  obtain ⟨za, zb, zc, zd, ze⟩ := zfacts hB; clear hB hA hD
  have HC : Hid (Chg [] w w) := Chg.refl _ _
  go_enter Tryz.func258, Tryz.ntmps258
  go_wp2_with fail
  refine (impl_nameC x.name on _).mono ?_
  rintro e w1 ⟨rfl, hc⟩
  rw [← HNV.out]
  obtain ⟨cS, lS, HBS⟩ := bk hc (b := w.heap.size) (keep_alloc (new_at (by simp) _) _) (by simp)
  obtain ⟨cR, lR, HBR⟩ := bk hc (b := w.heap.size + 1) (new_at (by simp) _) (by simp)
  have h := Chg.trans0 (Chg.alloc (Chg.alloc HC.out _) _) hc; clear HC; have HC := hid h; clear h
  clear hc
  go_wp2_with fail
  refine (parts_any s x.length hd.1 hd.2 o3 _).mono ?_
  rintro e w2 ⟨rfl, hc⟩
  rw [← HP.out, ← HP1.out]
  have h := bk hc HBS.out (by simp); clear HBS cS lS; obtain ⟨cS, lS, HBS⟩ := h
  have h := bk hc HBR.out (by simp); clear HBR cR lR; obtain ⟨cR, lR, HBR⟩ := h
  replace HC := hct HC hc
  clear hc
  go_wp2_with fail
  obtain ⟨SS1, HSI1, HSO1⟩ := rg_cond (fun w' => Know (w.heap.size + 1) #[.int .i64 x.kind, .int .i64 x.seq, .string x.name, .int .i64 x.length, .int .i64 x.group, .int .i64 x.row, .slice a6 l6 c6, .slice a7 l7 c7, .slice a8 l8 c8] w')
  have hS0 := HSI1.out (w2.drew) (Know.of (by refine keep_drew ?_; exact HBR.out))
  refine rg_start SS1 (by kernel_rfl) hS0 ?_
  refine rgT 0 hS0 ?_
  refine rgL 1 hS0 HSO1 ?_
  refine rgT 3 hS0 ?_
  refine rgL 4 hS0 HSO1 ?_
  refine rg_call 2 rfl (by kernel_rfl) (fun K hK => ?_)
  go_simp
  go_at_call 185
  refine (sizeB_c a7 l7 c7 _ q7).mono ?_
  rintro e w3 ⟨rfl, hc⟩
  have h := bk hc (keep_drew HBS.out) (by simp); clear HBS cS lS; obtain ⟨cS, lS, HBS⟩ := h
  have h := bk hc (keep_drew HBR.out) (by simp); clear HBR cR lR; obtain ⟨cR, lR, HBR⟩ := h
  have h := Chg.trans0 (Chg.drew HC.out) hc; clear HC; have HC := hid h; clear h
  clear hc
  go_wp2_with fail
  refine hK.out _ _ (HSI1.out _ cR) (fun hS1 => ?_)
  clear hK K
  try simp only [Act.put, List.setIfInBounds_toArray, List.set_cons_zero, List.set_cons_succ]
  refine rgT 5 hS1 ?_
  refine rgT 6 hS1 ?_
  refine rgS 7 hS1 ?_
  refine rgS 8 hS1 ?_
  refine rgS 9 hS1 ?_
  refine rgS 10 hS1 ?_
  refine rgT 11 hS1 ?_
  refine rgT 12 hS1 ?_
  refine wpAnyH_done (by kernel_rfl) ?_ _
  go_wp2_with fail
  refine (sizeI_c a6 l6 c6 _ q6).mono ?_
  rintro e w4 ⟨rfl, hc⟩
  have h := bk hc HBS.out (by simp); clear HBS cS lS; obtain ⟨cS, lS, HBS⟩ := h
  have h := bk hc HBR.out (by simp); clear HBR cR lR; obtain ⟨cR, lR, HBR⟩ := h
  replace HC := hct HC hc
  clear hc
  go_wp2_with fail
  go_loopw [9, 10, 11, 66] (fun B9 u v i wr => ∃ (k : Nat) (b : Bool), k ≤ l6 ∧ i = .int .i64 k ∧ B9 = .bool b ∧ Hid (b = pb (ApartTo (s.rows - 1) x.rows k)) ∧ Hid (Chg [] w4 wr)) (fun _ _ _ i _ => l6 - (intOf i).toNat)
  case atStart => exact ⟨0, true, by omega, rfl, rfl, (pb_true (ApartTo.zero _ _)).symm, Chg.refl _ _⟩
  case round =>
   obtain ⟨k, b9, hk, rfl, rfl, HB9, HCr⟩ := hrel
   rename_i wr
   have HCW := hid (HC.out.trans0 HCr.out)
   by_cases hlt : k < l6
   ·obtain ⟨y, b, o, HY, rfl, hcy, hok⟩ := int_at (intL.sl_ext H6.out HCW.out) hlt
    cases hb9 : b9
    ·rw [hb9] at HB9
     have HN := hid (pb_dead (not_pb HB9.out.symm)).symm
     clear hb9
     go_wp2_with fail
     go_roundw
     case rel => exact ⟨k + 1, false, by omega, by go_num, rfl, HN.out, HCr.out⟩
     case measure => simp [intOf]; omega
    ·rw [hb9] at HB9
     have hh := HCr.out.keep0 HBS.out; clear cS lS HBS; have cS := cellsOf hh; have lS := ltOf hh; have HBS := hid hh; clear hh
     have hh := HCr.out.keep0 HBR.out; clear cR lR HBR; have cR := cellsOf hh; have lR := ltOf hh; have HBR := hid hh; clear hh
     have hka : k ≤ c6 := by have := H6.out.2.1; omega
     have hk1 : (k : Int) ≤ (c6 : Int) := by omega
     obtain ⟨gg, hgg⟩ := take_slice H6.out (k := k) (by omega) c6 hka (Nat.le_refl _)
     have HGG := hid hgg; clear hgg
     have HCO := hid HC.out
     clear HC hb9
     have HC : Hid (Chg [] wr wr) := Chg.refl _ _
     go_wp2_with fail
     refine (isRow_any s HS.out y _).mono ?_
     rintro e w1 ⟨rfl, hc⟩
     have h := bk hc HBS.out (by simp); clear HBS cS lS; obtain ⟨cS, lS, HBS⟩ := h
     have h := bk hc HBR.out (by simp); clear HBR cR lR; obtain ⟨cR, lR, HBR⟩ := h
     replace HC := hct HC hc
     clear hc
     by_cases hin : 0 ≤ y ∧ y ≤ s.rows - 1
     ·rw [inB_eq hin.1 hin.2]
      have HN := hid (pb_step HY.out.1 (of_pb HB9.out.symm) hin)
      clear hin
      go_wp2_with fail
      refine ((containsI_c (some ⟨b, o, none⟩) k c6 (x.rows.take k) gg y _ (intL.sl_ext HGG.out (HCW.out.trans0 HC.out)))).mono ?_
      rintro e w2 ⟨rfl, hc⟩
      have h := bk hc HBS.out (by simp); clear HBS cS lS; obtain ⟨cS, lS, HBS⟩ := h
      have h := bk hc HBR.out (by simp); clear HBR cR lR; obtain ⟨cR, lR, HBR⟩ := h
      replace HC := hct HC hc
      clear hc
      go_wp2_with fail
      go_roundw
      case rel => exact ⟨k + 1, _, by omega, by go_num, rfl, HN.out.symm, HCr.out.trans0 HC.out⟩
      case measure => simp [intOf]; omega
     ·rw [inB_neq hin]
      have HN := hid (pb_out HY.out.1 hin)
      clear hin
      go_wp2_with fail
      go_roundw
      case rel => exact ⟨k + 1, false, by omega, by go_num, rfl, HN.out.symm, HCr.out.trans0 HC.out⟩
      case measure => simp [intOf]; omega
   ·have HQ := hid (HB9.out.trans (pb_end (by have := Z6.out; omega)))
    rw [← HQ.out] at HV
    cases b9
    ·have HR := hid (HV.out.trans (if_neg (by simp)))
     go_wp2_with fail
     go_ret
     exact ⟨ret_int HR.out.symm, HCW.out⟩
    ·have HR := hid (HV.out.trans (if_pos rfl))
     go_wp2_with fail
     go_ret
     exact ⟨ret_int HR.out.symm, HCW.out⟩
 have eB : ((l7 : Int) == 0) = false := by simp; exact hB
 by_cases hD : (l7 : Int) = x.length
 rotate_left
 ·have HC : Hid (Chg [] w w) := Chg.refl _ _
  have HR := hid (show v = 3 by rw [HM.out, if_pos rfl, if_neg (by rw [HF.out (fun h => hD (by rw [Z7.out]; exact ((ItemOk.data hA HP.out.symm (len1 Z7.out hB)).1 h).1))]; simp)])
  have e1 : ((l7 : Int) == x.length) = false := by simp; exact hD
  clear hA hD hB
  go_enter Tryz.func258, Tryz.ntmps258
  go_wp2_with fail
  refine (impl_nameC x.name on _).mono ?_
  rintro e w1 ⟨rfl, hc⟩
  rw [← HNV.out]
  obtain ⟨cS, lS, HBS⟩ := bk hc (b := w.heap.size) (keep_alloc (new_at (by simp) _) _) (by simp)
  obtain ⟨cR, lR, HBR⟩ := bk hc (b := w.heap.size + 1) (new_at (by simp) _) (by simp)
  have h := Chg.trans0 (Chg.alloc (Chg.alloc HC.out _) _) hc; clear HC; have HC := hid h; clear h
  clear hc
  go_wp2_with fail
  refine (parts_any s x.length hd.1 hd.2 o3 _).mono ?_
  rintro e w2 ⟨rfl, hc⟩
  rw [← HP.out, ← HP1.out]
  have h := bk hc HBS.out (by simp); clear HBS cS lS; obtain ⟨cS, lS, HBS⟩ := h
  have h := bk hc HBR.out (by simp); clear HBR cR lR; obtain ⟨cR, lR, HBR⟩ := h
  replace HC := hct HC hc
  clear hc
  go_wp2_with fail
  obtain ⟨SS1, HSI1, HSO1⟩ := rg_cond (fun w' => Know (w.heap.size + 1) #[.int .i64 x.kind, .int .i64 x.seq, .string x.name, .int .i64 x.length, .int .i64 x.group, .int .i64 x.row, .slice a6 l6 c6, .slice a7 l7 c7, .slice a8 l8 c8] w')
  have hS0 := HSI1.out (w2.drew) (Know.of (by refine keep_drew ?_; exact HBR.out))
  refine rg_start SS1 (by kernel_rfl) hS0 ?_
  refine rgT 0 hS0 ?_
  refine rgL 1 hS0 HSO1 ?_
  refine rgT 3 hS0 ?_
  refine rgL 4 hS0 HSO1 ?_
  refine rg_call 2 rfl (by kernel_rfl) (fun K hK => ?_)
  go_simp
  go_at_call 185
  refine (sizeB_c a7 l7 c7 _ q7).mono ?_
  rintro e w3 ⟨rfl, hc⟩
  have h := bk hc (keep_drew HBS.out) (by simp); clear HBS cS lS; obtain ⟨cS, lS, HBS⟩ := h
  have h := bk hc (keep_drew HBR.out) (by simp); clear HBR cR lR; obtain ⟨cR, lR, HBR⟩ := h
  have h := Chg.trans0 (Chg.drew HC.out) hc; clear HC; have HC := hid h; clear h
  clear hc
  go_wp2_with fail
  refine hK.out _ _ (HSI1.out _ cR) (fun hS1 => ?_)
  clear hK K
  try simp only [Act.put, List.setIfInBounds_toArray, List.set_cons_zero, List.set_cons_succ]
  refine rgT 5 hS1 ?_
  refine rgT 6 hS1 ?_
  refine rgS 7 hS1 ?_
  refine rgS 8 hS1 ?_
  refine rgS 9 hS1 ?_
  refine rgS 10 hS1 ?_
  refine rgT 11 hS1 ?_
  refine rgT 12 hS1 ?_
  refine wpAnyH_done (by kernel_rfl) ?_ _
  go_wp2_with fail
  go_loopw [9, 10, 11, 66] (fun B9 u v i wr => ∃ k : Nat, k ≤ l6 ∧ i = .int .i64 k ∧ B9 = .bool false ∧ Hid (Chg [] w3 wr)) (fun _ _ _ i _ => l6 - (intOf i).toNat)
  case atStart => exact ⟨0, by omega, rfl, rfl, Chg.refl _ _⟩
  case round =>
   obtain ⟨k, hk, rfl, rfl, HCr⟩ := hrel
   have HCW := hid (HC.out.trans0 HCr.out)
   by_cases hlt : k < l6
   ·obtain ⟨y, b, o, HY, rfl, hcy, hok⟩ := int_at (intL.sl_ext H6.out HCW.out) hlt
    go_wp2_with fail
    go_roundw
    case rel => exact ⟨k + 1, by omega, by go_num, rfl, HCr.out⟩
    case measure => simp [intOf]; omega
   ·go_wp2_with fail
    go_ret
    exact ⟨ret_int HR.out.symm, HCW.out⟩
 have e1 : ((l7 : Int) == x.length) = true := by simp; exact hD
 by_cases hE : l6 = 0
 rotate_left
 ·have HC : Hid (Chg [] w w) := Chg.refl _ _
  have HR := hid (show v = 3 by rw [HM.out, if_pos rfl, if_neg (by rw [HF.out (fun h => len1 Z6.out hE ((ItemOk.data hA HP.out.symm (len1 Z7.out hB)).1 h).2)]; simp)])
  have e2 : ((l6 : Int) == 0) = false := by simp; exact hE
  clear hA hB hE
  go_enter Tryz.func258, Tryz.ntmps258
  go_wp2_with fail
  refine (impl_nameC x.name on _).mono ?_
  rintro e w1 ⟨rfl, hc⟩
  rw [← HNV.out]
  obtain ⟨cS, lS, HBS⟩ := bk hc (b := w.heap.size) (keep_alloc (new_at (by simp) _) _) (by simp)
  obtain ⟨cR, lR, HBR⟩ := bk hc (b := w.heap.size + 1) (new_at (by simp) _) (by simp)
  have h := Chg.trans0 (Chg.alloc (Chg.alloc HC.out _) _) hc; clear HC; have HC := hid h; clear h
  clear hc
  go_wp2_with fail
  refine (parts_any s x.length hd.1 hd.2 o3 _).mono ?_
  rintro e w2 ⟨rfl, hc⟩
  rw [← HP.out, ← HP1.out]
  have h := bk hc HBS.out (by simp); clear HBS cS lS; obtain ⟨cS, lS, HBS⟩ := h
  have h := bk hc HBR.out (by simp); clear HBR cR lR; obtain ⟨cR, lR, HBR⟩ := h
  replace HC := hct HC hc
  clear hc
  go_wp2_with fail
  obtain ⟨SS1, HSI1, HSO1⟩ := rg_cond (fun w' => Know (w.heap.size + 1) #[.int .i64 x.kind, .int .i64 x.seq, .string x.name, .int .i64 x.length, .int .i64 x.group, .int .i64 x.row, .slice a6 l6 c6, .slice a7 l7 c7, .slice a8 l8 c8] w')
  have hS0 := HSI1.out (w2.drew) (Know.of (by refine keep_drew ?_; exact HBR.out))
  refine rg_start SS1 (by kernel_rfl) hS0 ?_
  refine rgT 0 hS0 ?_
  refine rgL 1 hS0 HSO1 ?_
  refine rgT 3 hS0 ?_
  refine rgL 4 hS0 HSO1 ?_
  refine rg_call 2 rfl (by kernel_rfl) (fun K hK => ?_)
  go_simp
  go_at_call 185
  refine (sizeB_c a7 l7 c7 _ q7).mono ?_
  rintro e w3 ⟨rfl, hc⟩
  have h := bk hc (keep_drew HBS.out) (by simp); clear HBS cS lS; obtain ⟨cS, lS, HBS⟩ := h
  have h := bk hc (keep_drew HBR.out) (by simp); clear HBR cR lR; obtain ⟨cR, lR, HBR⟩ := h
  have h := Chg.trans0 (Chg.drew HC.out) hc; clear HC; have HC := hid h; clear h
  clear hc
  go_wp2_with fail
  refine hK.out _ _ (HSI1.out _ cR) (fun hS1 => ?_)
  clear hK K
  try simp only [Act.put, List.setIfInBounds_toArray, List.set_cons_zero, List.set_cons_succ]
  refine rgT 5 hS1 ?_
  refine rgT 6 hS1 ?_
  refine rgT 7 hS1 ?_
  refine rgL 8 hS1 HSO1 ?_
  refine rgT 9 hS1 ?_
  refine rgT 10 hS1 ?_
  refine rgT 11 hS1 ?_
  refine rgT 12 hS1 ?_
  refine wpAnyH_done (by kernel_rfl) ?_ _
  go_wp2_with fail
  go_loopw [9, 10, 11, 66] (fun B9 u v i wr => ∃ k : Nat, k ≤ l6 ∧ i = .int .i64 k ∧ B9 = .bool false ∧ Hid (Chg [] w3 wr)) (fun _ _ _ i _ => l6 - (intOf i).toNat)
  case atStart => exact ⟨0, by omega, rfl, rfl, Chg.refl _ _⟩
  case round =>
   obtain ⟨k, hk, rfl, rfl, HCr⟩ := hrel
   have HCW := hid (HC.out.trans0 HCr.out)
   by_cases hlt : k < l6
   ·obtain ⟨y, b, o, HY, rfl, hcy, hok⟩ := int_at (intL.sl_ext H6.out HCW.out) hlt
    go_wp2_with fail
    go_roundw
    case rel => exact ⟨k + 1, by omega, by go_num, rfl, HCr.out⟩
    case measure => simp [intOf]; omega
   ·go_wp2_with fail
    go_ret
    exact ⟨ret_int HR.out.symm, HCW.out⟩
 have HC : Hid (Chg [] w w) := Chg.refl _ _
 have HR := hid (show v = 0 by rw [HM.out, if_pos rfl, if_pos (HT.out ((ItemOk.data hA HP.out.symm (len1 Z7.out hB)).2 ⟨by rw [← Z7.out]; exact hD, len0 Z6.out hE⟩))])
 obtain ⟨za, zb, zc, zd, ze⟩ := zfacts hE; clear hE hA hB
 go_enter Tryz.func258, Tryz.ntmps258
 go_wp2_with fail
 refine (impl_nameC x.name on _).mono ?_
 rintro e w1 ⟨rfl, hc⟩
 rw [← HNV.out]
 obtain ⟨cS, lS, HBS⟩ := bk hc (b := w.heap.size) (keep_alloc (new_at (by simp) _) _) (by simp)
 obtain ⟨cR, lR, HBR⟩ := bk hc (b := w.heap.size + 1) (new_at (by simp) _) (by simp)
 have h := Chg.trans0 (Chg.alloc (Chg.alloc HC.out _) _) hc; clear HC; have HC := hid h; clear h
 clear hc
 go_wp2_with fail
 refine (parts_any s x.length hd.1 hd.2 o3 _).mono ?_
 rintro e w2 ⟨rfl, hc⟩
 rw [← HP.out, ← HP1.out]
 have h := bk hc HBS.out (by simp); clear HBS cS lS; obtain ⟨cS, lS, HBS⟩ := h
 have h := bk hc HBR.out (by simp); clear HBR cR lR; obtain ⟨cR, lR, HBR⟩ := h
 replace HC := hct HC hc
 clear hc
 go_wp2_with fail
 obtain ⟨SS1, HSI1, HSO1⟩ := rg_cond (fun w' => Know (w.heap.size + 1) #[.int .i64 x.kind, .int .i64 x.seq, .string x.name, .int .i64 x.length, .int .i64 x.group, .int .i64 x.row, .slice a6 l6 c6, .slice a7 l7 c7, .slice a8 l8 c8] w')
 have hS0 := HSI1.out (w2.drew) (Know.of (by refine keep_drew ?_; exact HBR.out))
 refine rg_start SS1 (by kernel_rfl) hS0 ?_
 refine rgT 0 hS0 ?_
 refine rgL 1 hS0 HSO1 ?_
 refine rgT 3 hS0 ?_
 refine rgL 4 hS0 HSO1 ?_
 refine rg_call 2 rfl (by kernel_rfl) (fun K hK => ?_)
 go_simp
 go_at_call 185
 refine (sizeB_c a7 l7 c7 _ q7).mono ?_
 rintro e w3 ⟨rfl, hc⟩
 have h := bk hc (keep_drew HBS.out) (by simp); clear HBS cS lS; obtain ⟨cS, lS, HBS⟩ := h
 have h := bk hc (keep_drew HBR.out) (by simp); clear HBR cR lR; obtain ⟨cR, lR, HBR⟩ := h
 have h := Chg.trans0 (Chg.drew HC.out) hc; clear HC; have HC := hid h; clear h
 clear hc
 go_wp2_with fail
 refine hK.out _ _ (HSI1.out _ cR) (fun hS1 => ?_)
 clear hK K
 try simp only [Act.put, List.setIfInBounds_toArray, List.set_cons_zero, List.set_cons_succ]
 refine rgT 5 hS1 ?_
 refine rgT 6 hS1 ?_
 refine rgT 7 hS1 ?_
 refine rgL 8 hS1 HSO1 ?_
 refine rgT 9 hS1 ?_
 refine rgT 10 hS1 ?_
 refine rgT 11 hS1 ?_
 refine rgT 12 hS1 ?_
 refine wpAnyH_done (by kernel_rfl) ?_ _
 go_wp2_with fail
 go_loopw [9, 10, 11, 66] (fun B9 u v i wr => ∃ k : Nat, k ≤ l6 ∧ i = .int .i64 k ∧ B9 = .bool false ∧ Hid (Chg [] w3 wr)) (fun _ _ _ i _ => l6 - (intOf i).toNat)
 case atStart => exact ⟨0, by omega, rfl, rfl, Chg.refl _ _⟩
 case round =>
  obtain ⟨k, hk, rfl, rfl, HCr⟩ := hrel
  have HCW := hid (HC.out.trans0 HCr.out)
  by_cases hlt : k < l6
  ·obtain ⟨y, b, o, HY, rfl, hcy, hok⟩ := int_at (intL.sl_ext H6.out HCW.out) hlt
   go_wp2_with fail
   go_roundw
   case rel => exact ⟨k + 1, by omega, by go_num, rfl, HCr.out⟩
   case measure => simp [intOf]; omega
  ·go_wp2_with fail
   go_ret
   exact ⟨ret_int HR.out.symm, HCW.out⟩
end Go.Proofs.YtphmpimgbmedbaaGreat
/- What is wrong with a share: the program. -/
namespace Go.Proofs.YtphmpimgbmedbaaGreat
open Go.RowKit
open Go.Lib (hid)
def ShareOk (s : Shp) (x : Rec) : Prop := (0 ≤ x.group ∧ x.group ≤ s.all - 1) ∧ (0 ≤ x.row ∧ x.row ≤ s.rows - 1) ∧ Rises (s.all - 1) x.rows ∧ (x.data.length : Int) = s.wide ∧ WeightsOk s x
noncomputable def shareV (s : Shp) (x : Rec) : Int := if pb (ShareOk s x) = true then 0 else 3
set_option maxHeartbeats 400000 in
theorem share1_any (B : Nat) (x : Rec) (a6 a7 a8 : Option Addr) (l6 l7 l8 c6 c7 c8 : Nat) (f8 : List Nat) (y : Int) (w : World) (hB : w.heap[B]? = some (.cells #[.int .i64 x.kind, .int .i64 x.seq, .string x.name, .int .i64 x.length, .int .i64 x.group, .int .i64 x.row, .slice a6 l6 c6, .slice a7 l7 c7, .slice a8 l8 c8] 67)) (h8 : byteL.sl w a8 l8 c8 x.delta f8) (hy : 0 ≤ y ∧ y < (l8 : Int)) :
  Calls Tryz.prog 286 #[.int .i64 y, .pointer (some ⟨B, 0, none⟩)] w fun e w' => e = .returned (.bool (pb (x.delta[y.toNat]? = some 0))) ∧ w = w' := by
 obtain ⟨j, rfl⟩ : ∃ j : Nat, y = (j : Int) := ⟨y.toNat, by omega⟩
 have hj : j < l8 := by omega
 have hm := byteL.sl_max h8
 obtain ⟨z, Z, b, o, HZ, rfl, hcz, hz0, hz1⟩ := byte_at h8 hj
 have cB := cellsOf hB; have lB := ltOf hB
 have hb := byte0 HZ.out.2.1
 have HR := hid (show (Z == 0) = pb (x.delta[((j : Nat) : Int).toNat]? = some 0) by
  rw [Int.toNat_natCast, HZ.out.1]
  by_cases h : z = 0
  ·rw [(hb.1 h).1, pb_true (by rw [h])]
  ·rw [(hb.2 h).1, pb_false (fun h2 => h (Option.some.inj h2))])
 clear hB h8 hy hb
 go_enter Tryz.func286, Tryz.ntmps286
 go_wp2
 go_ret
 exact ⟨ret_bool HR.out, rfl⟩
set_option maxHeartbeats 1000000 in
theorem idxShare_any (B : Nat) (x : Rec) (a6 a7 a8 : Option Addr) (l6 l7 l8 c6 c7 c8 : Nat) (f6 f8 : List Nat) (w : World) (hB : w.heap[B]? = some (.cells #[.int .i64 x.kind, .int .i64 x.seq, .string x.name, .int .i64 x.length, .int .i64 x.group, .int .i64 x.row, .slice a6 l6 c6, .slice a7 l7 c7, .slice a8 l8 c8] 67)) (h6 : intL.sl w a6 l6 c6 x.rows f6) (h8 : byteL.sl w a8 l8 c8 x.delta f8) (hy : ∀ y ∈ x.rows, 0 ≤ y ∧ y < (l8 : Int)) :
  Calls Tryz.prog 262 #[.slice a6 l6 c6, .func (.func 286) #[] #[.pointer (some ⟨B, 0, none⟩)]] w fun e w' => ∃ r : Int, e = .returned (.int .i64 r) ∧ Hid (0 ≤ r ↔ ∃ y ∈ x.rows, x.delta[y.toNat]? = some 0) ∧ w = w' := by
 have hm := intL.sl_max h6
 have HL := hid h6.1
 have HA := hid h6
 have HC := hid (fun y hy => share1_any B x a6 a7 a8 l6 l7 l8 c6 c7 c8 f8 y w hB h8 hy)
 have HY := hid hy
 clear h6 h8 hB hy
 go_enter Tryz.func262, Tryz.ntmps262
 go_wp2
 go_loop [5, 8] (fun _ i => ∃ k : Nat, k ≤ l6 ∧ i = .int .i64 k ∧ Hid (∀ y ∈ x.rows.take k, ¬ x.delta[y.toNat]? = some 0)) (fun _ i => l6 - (intOf i).toNat)
 case atStart => exact ⟨0, by omega, rfl, by intro y hy; simp at hy⟩
 case round =>
  obtain ⟨k, hk, rfl, HK⟩ := hrel
  by_cases hlt : k < l6
  ·obtain ⟨y, b, off, HX, rfl, hcx, hok⟩ := int_at HA.out hlt
   have HCy := hid (HC.out y (HY.out y (List.mem_of_getElem? HX.out.1)))
   by_cases h : x.delta[y.toNat]? = some 0
   ·rw [pb_true h] at HCy
    have HR := hid (show 0 ≤ (k : Int) ↔ ∃ y ∈ x.rows, x.delta[y.toNat]? = some 0 from ⟨fun _ => ⟨y, List.mem_of_getElem? HX.out.1, h⟩, fun _ => by omega⟩)
    clear h
    go_wp2_with (go_at_call 286; refine HCy.out.mono ?_; rintro e w' ⟨rfl, rfl⟩)
    go_ret
    exact ⟨_, rfl, HR.out, rfl⟩
   ·rw [pb_false h] at HCy
    have HN := hid (show ∀ y ∈ x.rows.take (k + 1), ¬ x.delta[y.toNat]? = some 0 by
     intro z hz
     rw [take_next HX.out.1] at hz
     rcases List.mem_append.1 hz with h1 | h1
     ·exact HK.out z h1
     ·simp at h1; subst h1; exact h)
    clear h
    go_wp2_with (go_at_call 286; refine HCy.out.mono ?_; rintro e w' ⟨rfl, rfl⟩)
    go_round
    case rel => exact ⟨k + 1, by omega, by go_num, HN⟩
    case measure => simp [intOf]; omega
  ·have HR := hid (show 0 ≤ (-1 : Int) ↔ ∃ y ∈ x.rows, x.delta[y.toNat]? = some 0 from ⟨fun h => by omega, fun ⟨y, h1, h2⟩ => absurd h2 (HK.out y (by rw [List.take_of_length_le (by have := HL.out; omega)]; exact h1))⟩)
   go_wp2
   go_ret
   exact ⟨-1, rfl, HR.out, rfl⟩
set_option maxHeartbeats 400000 in
theorem contShare_any (B : Nat) (x : Rec) (a6 a7 a8 : Option Addr) (l6 l7 l8 c6 c7 c8 : Nat) (f6 f8 : List Nat) (w : World) (hB : w.heap[B]? = some (.cells #[.int .i64 x.kind, .int .i64 x.seq, .string x.name, .int .i64 x.length, .int .i64 x.group, .int .i64 x.row, .slice a6 l6 c6, .slice a7 l7 c7, .slice a8 l8 c8] 67)) (h6 : intL.sl w a6 l6 c6 x.rows f6) (h8 : byteL.sl w a8 l8 c8 x.delta f8) (hy : ∀ y ∈ x.rows, 0 ≤ y ∧ y < (l8 : Int)) :
  Calls Tryz.prog 285 #[.slice a6 l6 c6, .func (.func 286) #[] #[.pointer (some ⟨B, 0, none⟩)]] w fun e w' => e = .returned (.bool (pb (∃ y ∈ x.rows, x.delta[y.toNat]? = some 0))) ∧ Chg [] w w' := by
 have HI := hid (idxShare_any B x a6 a7 a8 l6 l7 l8 c6 c7 c8 f6 f8 w hB h6 h8 hy)
 clear h6 h8 hB hy
 go_enter Tryz.func285, Tryz.ntmps285
 go_wp2_with fail
 refine HI.out.mono ?_
 rintro e w' ⟨j, rfl, h1, rfl⟩
 have HR := hid (show decide (0 ≤ j) = pb (∃ y ∈ x.rows, x.delta[y.toNat]? = some 0) by
  by_cases h : ∃ y ∈ x.rows, x.delta[y.toNat]? = some 0
  ·rw [pb_true h, decide_eq_true (h1.out.2 h)]
  ·rw [pb_false h, decide_eq_false (fun h2 => h (h1.out.1 h2))])
 clear h1
 go_wp2_with fail
 go_ret
 exact ⟨ret_bool HR.out, Chg.refl _ _⟩
set_option maxRecDepth 100000 in
set_option maxHeartbeats 4000000 in
theorem shareFault_any (s : Shp) (hs : s.ok) (x : Rec) (cx : Array Value) (fx : List Nat) (w : World) (hx : recL.rep w cx.toList x fx) :
  Calls Tryz.prog 259 #[.agg s.cells, .agg cx] w fun e w' => e = .returned (.int .i64 (shareV s x)) ∧ Chg [] w w' := by
 have HX := hid hx
 obtain ⟨a6, l6, c6, f6, a7, l7, c7, f7, a8, l8, c8, f8, ex, o0, o1, on, o3, o4, o5, h6, h7, h8, -⟩ := recL_iff.1 hx
 have HO := hid (And.intro o0 o1)
 clear hx o0 o1
 obtain rfl := Array.toList_inj.1 (ex.trans (List.toList_toArray).symm)
 clear ex
 have q6 := intL.sl_max h6; have q7 := byteL.sl_max h7; have q8 := byteL.sl_max h8
 have Z6 := hid h6.1; have Z7 := hid h7.1; have Z8 := hid h8.1
 have H6 := hid h6; have H7 := hid h7; have H8 := hid h8
 clear h6 h7 h8
 have hd := hs.data; have hr := hs.rows; have hg := hs.groups; have hal := hs.all
 have HS := hid hs
 clear hs
 have e50 : IntKind.i64.wrap (s.rows - 1) = s.rows - 1 := IntWalk.i64_in _ (by omega)
 have e51 : IntKind.i64.wrap (s.groups - 1) = s.groups - 1 := IntWalk.i64_in _ (by omega)
 have e52 : IntKind.i64.wrap (s.all - 1) = s.all - 1 := IntWalk.i64_in _ (by omega)
 show Calls _ _ #[.agg #[.int .i64 s.groups, .int .i64 s.column, .int .i64 s.data, .int .i64 s.spare, .int .i64 s.rows, .int .i64 s.cap, .int .i64 s.batch, .int .i64 s.queue, .int .i64 s.stage], .agg _] _ _
 have HT := hid (fun h => pb_true h : ShareOk s x → pb (ShareOk s x) = true)
 have HF := hid (fun h => pb_false h : ¬ ShareOk s x → pb (ShareOk s x) = false)
 have HE := hid (fun Q h => pb_iff h : ∀ Q, (ShareOk s x ↔ Q) → pb (ShareOk s x) = pb Q)
 have HM := hid (show shareV s x = if pb (ShareOk s x) = true then 0 else 3 from rfl)
 generalize pb (ShareOk s x) = r at HT HF HE HM ⊢
 generalize shareV s x = v at HM ⊢
 have hmf : ∀ (fn : Fn) (first cap : Array Value) (w : World), (Instr.makeFunc fn first cap).run Tryz.prog w = .ok (.func fn first cap) w := fun _ _ _ _ => rfl
 have hwd := HS.out.wide
 by_cases h1 : 0 ≤ x.group ∧ x.group ≤ s.all - 1
 rotate_left
 ·have HC : Hid (Chg [] w w) := Chg.refl _ _
  have HR := hid (show v = 3 by rw [HM.out, if_neg (by rw [HF.out (fun h => h1 h.1)]; simp)])
  have hi1 := inB_neq h1
  clear h1
  go_enter Tryz.func259, Tryz.ntmps259
  go_wp2_with fail
  obtain ⟨SS1, HSI1, HSO1⟩ := rg_cond (fun w' => Know (w.heap.size) #[.int .i64 s.groups, .int .i64 s.column, .int .i64 s.data, .int .i64 s.spare, .int .i64 s.rows, .int .i64 s.cap, .int .i64 s.batch, .int .i64 s.queue, .int .i64 s.stage] w' ∧ Know (w.heap.size + 1) #[.int .i64 x.kind, .int .i64 x.seq, .string x.name, .int .i64 x.length, .int .i64 x.group, .int .i64 x.row, .slice a6 l6 c6, .slice a7 l7 c7, .slice a8 l8 c8] w')
  have hS0 := HSI1.out (((w.alloc (.cells #[.int .i64 s.groups, .int .i64 s.column, .int .i64 s.data, .int .i64 s.spare, .int .i64 s.rows, .int .i64 s.cap, .int .i64 s.batch, .int .i64 s.queue, .int .i64 s.stage] 30)).alloc (.cells #[.int .i64 x.kind, .int .i64 x.seq, .string x.name, .int .i64 x.length, .int .i64 x.group, .int .i64 x.row, .slice a6 l6 c6, .slice a7 l7 c7, .slice a8 l8 c8] 67)).drew) ⟨(Know.of (by refine keep_drew ?_; refine keep_alloc ?_ _; exact new_at (by simp) _)), (Know.of (by refine keep_drew ?_; exact new_at (by simp) _))⟩
  refine rg_start SS1 (by kernel_rfl) hS0 ?_
  refine rgL 0 hS0 HSO1 ?_
  refine rgT 1 hS0 ?_
  refine rgL 2 hS0 HSO1 ?_
  refine rg_call 3 rfl (by kernel_rfl) (fun K hK => ?_)
  go_simp
  go_at_call 102
  refine (isGroup_any s HS.out x.group _).mono ?_
  rintro e w1 ⟨rfl, hc⟩
  rw [hi1]
  obtain ⟨cS, lS, HBS⟩ := bk hc (b := w.heap.size) (keep_drew (keep_alloc (new_at (by simp) _) _)) (by simp)
  obtain ⟨cR, lR, HBR⟩ := bk hc (b := w.heap.size + 1) (keep_drew (new_at (by simp) _)) (by simp)
  have h := Chg.trans0 (Chg.drew (Chg.alloc (Chg.alloc HC.out _) _)) hc; clear HC; have HC := hid h; clear h
  clear hc
  go_wp2_with fail
  refine hK.out _ _ (HSI1.out _ ⟨cS, cR⟩) (fun hS1 => ?_)
  clear hK K
  try simp only [Act.put, List.setIfInBounds_toArray, List.set_cons_zero, List.set_cons_succ]
  refine rgT 4 hS1 ?_
  refine rgS 5 hS1 ?_
  refine rgS 6 hS1 ?_
  refine rgS 7 hS1 ?_
  refine rgS 8 hS1 ?_
  refine rgT 9 hS1 ?_
  refine rgT 10 hS1 ?_
  refine rgS 11 hS1 ?_
  refine rgS 12 hS1 ?_
  refine rgS 13 hS1 ?_
  refine rgS 14 hS1 ?_
  refine rgS 15 hS1 ?_
  refine rgT 16 hS1 ?_
  refine rgT 17 hS1 ?_
  refine rgS 18 hS1 ?_
  refine rgS 19 hS1 ?_
  refine rgS 20 hS1 ?_
  refine rgS 21 hS1 ?_
  refine rgS 22 hS1 ?_
  refine rgS 23 hS1 ?_
  refine rgT 24 hS1 ?_
  refine rgT 25 hS1 ?_
  refine rgS 26 hS1 ?_
  refine rgS 27 hS1 ?_
  refine rgS 28 hS1 ?_
  refine rgS 29 hS1 ?_
  refine rgS 30 hS1 ?_
  refine rgS 31 hS1 ?_
  refine rgT 32 hS1 ?_
  refine rgT 33 hS1 ?_
  refine wpAnyH_done (by kernel_rfl) ?_ _
  go_wp2_with fail
  go_ret
  exact ⟨ret_int HR.out.symm, HC.out⟩
 have hi1 := inB_eq h1.1 h1.2
 by_cases h2 : 0 ≤ x.row ∧ x.row ≤ s.rows - 1
 rotate_left
 ·have HC : Hid (Chg [] w w) := Chg.refl _ _
  have HR := hid (show v = 3 by rw [HM.out, if_neg (by rw [HF.out (fun h => h2 h.2.1)]; simp)])
  have hi2 := inB_neq h2
  clear h1 h2
  go_enter Tryz.func259, Tryz.ntmps259
  go_wp2_with fail
  obtain ⟨SS1, HSI1, HSO1⟩ := rg_cond (fun w' => Know (w.heap.size) #[.int .i64 s.groups, .int .i64 s.column, .int .i64 s.data, .int .i64 s.spare, .int .i64 s.rows, .int .i64 s.cap, .int .i64 s.batch, .int .i64 s.queue, .int .i64 s.stage] w' ∧ Know (w.heap.size + 1) #[.int .i64 x.kind, .int .i64 x.seq, .string x.name, .int .i64 x.length, .int .i64 x.group, .int .i64 x.row, .slice a6 l6 c6, .slice a7 l7 c7, .slice a8 l8 c8] w')
  have hS0 := HSI1.out (((w.alloc (.cells #[.int .i64 s.groups, .int .i64 s.column, .int .i64 s.data, .int .i64 s.spare, .int .i64 s.rows, .int .i64 s.cap, .int .i64 s.batch, .int .i64 s.queue, .int .i64 s.stage] 30)).alloc (.cells #[.int .i64 x.kind, .int .i64 x.seq, .string x.name, .int .i64 x.length, .int .i64 x.group, .int .i64 x.row, .slice a6 l6 c6, .slice a7 l7 c7, .slice a8 l8 c8] 67)).drew) ⟨(Know.of (by refine keep_drew ?_; refine keep_alloc ?_ _; exact new_at (by simp) _)), (Know.of (by refine keep_drew ?_; exact new_at (by simp) _))⟩
  refine rg_start SS1 (by kernel_rfl) hS0 ?_
  refine rgL 0 hS0 HSO1 ?_
  refine rgT 1 hS0 ?_
  refine rgL 2 hS0 HSO1 ?_
  refine rg_call 3 rfl (by kernel_rfl) (fun K hK => ?_)
  go_simp
  go_at_call 102
  refine (isGroup_any s HS.out x.group _).mono ?_
  rintro e w1 ⟨rfl, hc⟩
  rw [hi1]
  obtain ⟨cS, lS, HBS⟩ := bk hc (b := w.heap.size) (keep_drew (keep_alloc (new_at (by simp) _) _)) (by simp)
  obtain ⟨cR, lR, HBR⟩ := bk hc (b := w.heap.size + 1) (keep_drew (new_at (by simp) _)) (by simp)
  have h := Chg.trans0 (Chg.drew (Chg.alloc (Chg.alloc HC.out _) _)) hc; clear HC; have HC := hid h; clear h
  clear hc
  go_wp2_with fail
  refine hK.out _ _ (HSI1.out _ ⟨cS, cR⟩) (fun hS1 => ?_)
  clear hK K
  try simp only [Act.put, List.setIfInBounds_toArray, List.set_cons_zero, List.set_cons_succ]
  refine rgT 4 hS1 ?_
  refine rgL 5 hS1 HSO1 ?_
  refine rgT 6 hS1 ?_
  refine rgL 7 hS1 HSO1 ?_
  refine rg_call 8 rfl (by kernel_rfl) (fun K hK => ?_)
  go_simp
  go_at_call 134
  refine (isRow_any s HS.out x.row _).mono ?_
  rintro e w2 ⟨rfl, hc⟩
  rw [hi2]
  have h := bk hc HBS.out (by simp); clear HBS cS lS; obtain ⟨cS, lS, HBS⟩ := h
  have h := bk hc HBR.out (by simp); clear HBR cR lR; obtain ⟨cR, lR, HBR⟩ := h
  replace HC := hct HC hc
  clear hc
  go_wp2_with fail
  refine hK.out _ _ (HSI1.out _ ⟨cS, cR⟩) (fun hS2 => ?_)
  clear hK K
  try simp only [Act.put, List.setIfInBounds_toArray, List.set_cons_zero, List.set_cons_succ]
  refine rgT 9 hS2 ?_
  refine rgT 10 hS2 ?_
  refine rgS 11 hS2 ?_
  refine rgS 12 hS2 ?_
  refine rgS 13 hS2 ?_
  refine rgS 14 hS2 ?_
  refine rgS 15 hS2 ?_
  refine rgT 16 hS2 ?_
  refine rgT 17 hS2 ?_
  refine rgS 18 hS2 ?_
  refine rgS 19 hS2 ?_
  refine rgS 20 hS2 ?_
  refine rgS 21 hS2 ?_
  refine rgS 22 hS2 ?_
  refine rgS 23 hS2 ?_
  refine rgT 24 hS2 ?_
  refine rgT 25 hS2 ?_
  refine rgS 26 hS2 ?_
  refine rgS 27 hS2 ?_
  refine rgS 28 hS2 ?_
  refine rgS 29 hS2 ?_
  refine rgS 30 hS2 ?_
  refine rgS 31 hS2 ?_
  refine rgT 32 hS2 ?_
  refine rgT 33 hS2 ?_
  refine wpAnyH_done (by kernel_rfl) ?_ _
  go_wp2_with fail
  go_ret
  exact ⟨ret_int HR.out.symm, HC.out⟩
 have hi2 := inB_eq h2.1 h2.2
 by_cases h3 : Rises (s.all - 1) x.rows
 rotate_left
 ·have HC : Hid (Chg [] w w) := Chg.refl _ _
  have HR := hid (show v = 3 by rw [HM.out, if_neg (by rw [HF.out (fun h => h3 h.2.2.1)]; simp)])
  have HI3 := hid (pb_false h3)
  clear h1 h2 h3
  go_enter Tryz.func259, Tryz.ntmps259
  go_wp2_with fail
  obtain ⟨SS1, HSI1, HSO1⟩ := rg_cond (fun w' => Know (w.heap.size) #[.int .i64 s.groups, .int .i64 s.column, .int .i64 s.data, .int .i64 s.spare, .int .i64 s.rows, .int .i64 s.cap, .int .i64 s.batch, .int .i64 s.queue, .int .i64 s.stage] w' ∧ Know (w.heap.size + 1) #[.int .i64 x.kind, .int .i64 x.seq, .string x.name, .int .i64 x.length, .int .i64 x.group, .int .i64 x.row, .slice a6 l6 c6, .slice a7 l7 c7, .slice a8 l8 c8] w')
  have hS0 := HSI1.out (((w.alloc (.cells #[.int .i64 s.groups, .int .i64 s.column, .int .i64 s.data, .int .i64 s.spare, .int .i64 s.rows, .int .i64 s.cap, .int .i64 s.batch, .int .i64 s.queue, .int .i64 s.stage] 30)).alloc (.cells #[.int .i64 x.kind, .int .i64 x.seq, .string x.name, .int .i64 x.length, .int .i64 x.group, .int .i64 x.row, .slice a6 l6 c6, .slice a7 l7 c7, .slice a8 l8 c8] 67)).drew) ⟨(Know.of (by refine keep_drew ?_; refine keep_alloc ?_ _; exact new_at (by simp) _)), (Know.of (by refine keep_drew ?_; exact new_at (by simp) _))⟩
  refine rg_start SS1 (by kernel_rfl) hS0 ?_
  refine rgL 0 hS0 HSO1 ?_
  refine rgT 1 hS0 ?_
  refine rgL 2 hS0 HSO1 ?_
  refine rg_call 3 rfl (by kernel_rfl) (fun K hK => ?_)
  go_simp
  go_at_call 102
  refine (isGroup_any s HS.out x.group _).mono ?_
  rintro e w1 ⟨rfl, hc⟩
  rw [hi1]
  obtain ⟨cS, lS, HBS⟩ := bk hc (b := w.heap.size) (keep_drew (keep_alloc (new_at (by simp) _) _)) (by simp)
  obtain ⟨cR, lR, HBR⟩ := bk hc (b := w.heap.size + 1) (keep_drew (new_at (by simp) _)) (by simp)
  have h := Chg.trans0 (Chg.drew (Chg.alloc (Chg.alloc HC.out _) _)) hc; clear HC; have HC := hid h; clear h
  clear hc
  go_wp2_with fail
  refine hK.out _ _ (HSI1.out _ ⟨cS, cR⟩) (fun hS1 => ?_)
  clear hK K
  try simp only [Act.put, List.setIfInBounds_toArray, List.set_cons_zero, List.set_cons_succ]
  refine rgT 4 hS1 ?_
  refine rgL 5 hS1 HSO1 ?_
  refine rgT 6 hS1 ?_
  refine rgL 7 hS1 HSO1 ?_
  refine rg_call 8 rfl (by kernel_rfl) (fun K hK => ?_)
  go_simp
  go_at_call 134
  refine (isRow_any s HS.out x.row _).mono ?_
  rintro e w2 ⟨rfl, hc⟩
  rw [hi2]
  have h := bk hc HBS.out (by simp); clear HBS cS lS; obtain ⟨cS, lS, HBS⟩ := h
  have h := bk hc HBR.out (by simp); clear HBR cR lR; obtain ⟨cR, lR, HBR⟩ := h
  replace HC := hct HC hc
  clear hc
  go_wp2_with fail
  refine hK.out _ _ (HSI1.out _ ⟨cS, cR⟩) (fun hS2 => ?_)
  clear hK K
  try simp only [Act.put, List.setIfInBounds_toArray, List.set_cons_zero, List.set_cons_succ]
  refine rgT 9 hS2 ?_
  refine rgT 10 hS2 ?_
  refine rgT 11 hS2 ?_
  refine rgL 12 hS2 HSO1 ?_
  refine rgL 13 hS2 HSO1 ?_
  refine rg_call 14 rfl (by kernel_rfl) (fun K hK => ?_)
  go_simp
  go_at_call 179
  refine (all_any s HS.out _).mono ?_
  rintro e w3 ⟨rfl, hc⟩
  have h := bk hc HBS.out (by simp); clear HBS cS lS; obtain ⟨cS, lS, HBS⟩ := h
  have h := bk hc HBR.out (by simp); clear HBR cR lR; obtain ⟨cR, lR, HBR⟩ := h
  replace HC := hct HC hc
  clear hc
  go_wp2_with fail
  refine hK.out _ _ (HSI1.out _ ⟨cS, cR⟩) (fun hS3 => ?_)
  clear hK K
  try simp only [Act.put, List.setIfInBounds_toArray, List.set_cons_zero, List.set_cons_succ]
  refine rg_call 15 rfl (by kernel_rfl) (fun K hK => ?_)
  go_simp
  go_at_call 284
  refine (risesIn_any a6 l6 c6 x.rows f6 s.all _ (Lay.sl_ext intL H6.out HC.out) (by omega) (by omega)).mono ?_
  rintro e w4 ⟨rfl, hc⟩
  rw [HI3.out]
  have h := bk hc HBS.out (by simp); clear HBS cS lS; obtain ⟨cS, lS, HBS⟩ := h
  have h := bk hc HBR.out (by simp); clear HBR cR lR; obtain ⟨cR, lR, HBR⟩ := h
  replace HC := hct HC hc
  clear hc
  go_wp2_with fail
  refine hK.out _ _ (HSI1.out _ ⟨cS, cR⟩) (fun hS4 => ?_)
  clear hK K
  try simp only [Act.put, List.setIfInBounds_toArray, List.set_cons_zero, List.set_cons_succ]
  refine rgT 16 hS4 ?_
  refine rgT 17 hS4 ?_
  refine rgS 18 hS4 ?_
  refine rgS 19 hS4 ?_
  refine rgS 20 hS4 ?_
  refine rgS 21 hS4 ?_
  refine rgS 22 hS4 ?_
  refine rgS 23 hS4 ?_
  refine rgT 24 hS4 ?_
  refine rgT 25 hS4 ?_
  refine rgS 26 hS4 ?_
  refine rgS 27 hS4 ?_
  refine rgS 28 hS4 ?_
  refine rgS 29 hS4 ?_
  refine rgS 30 hS4 ?_
  refine rgS 31 hS4 ?_
  refine rgT 32 hS4 ?_
  refine rgT 33 hS4 ?_
  refine wpAnyH_done (by kernel_rfl) ?_ _
  go_wp2_with fail
  go_ret
  exact ⟨ret_int HR.out.symm, HC.out⟩
 have HI3 := hid (pb_true h3)
 by_cases h4 : (l7 : Int) = s.wide
 rotate_left
 ·have HC : Hid (Chg [] w w) := Chg.refl _ _
  have HR := hid (show v = 3 by rw [HM.out, if_neg (by rw [HF.out (fun h => h4 (by rw [Z7.out]; exact h.2.2.2.1))]; simp)])
  have e4 : ((l7 : Int) == s.wide) = false := by simp; exact h4
  clear h1 h2 h3 h4
  go_enter Tryz.func259, Tryz.ntmps259
  go_wp2_with fail
  obtain ⟨SS1, HSI1, HSO1⟩ := rg_cond (fun w' => Know (w.heap.size) #[.int .i64 s.groups, .int .i64 s.column, .int .i64 s.data, .int .i64 s.spare, .int .i64 s.rows, .int .i64 s.cap, .int .i64 s.batch, .int .i64 s.queue, .int .i64 s.stage] w' ∧ Know (w.heap.size + 1) #[.int .i64 x.kind, .int .i64 x.seq, .string x.name, .int .i64 x.length, .int .i64 x.group, .int .i64 x.row, .slice a6 l6 c6, .slice a7 l7 c7, .slice a8 l8 c8] w')
  have hS0 := HSI1.out (((w.alloc (.cells #[.int .i64 s.groups, .int .i64 s.column, .int .i64 s.data, .int .i64 s.spare, .int .i64 s.rows, .int .i64 s.cap, .int .i64 s.batch, .int .i64 s.queue, .int .i64 s.stage] 30)).alloc (.cells #[.int .i64 x.kind, .int .i64 x.seq, .string x.name, .int .i64 x.length, .int .i64 x.group, .int .i64 x.row, .slice a6 l6 c6, .slice a7 l7 c7, .slice a8 l8 c8] 67)).drew) ⟨(Know.of (by refine keep_drew ?_; refine keep_alloc ?_ _; exact new_at (by simp) _)), (Know.of (by refine keep_drew ?_; exact new_at (by simp) _))⟩
  refine rg_start SS1 (by kernel_rfl) hS0 ?_
  refine rgL 0 hS0 HSO1 ?_
  refine rgT 1 hS0 ?_
  refine rgL 2 hS0 HSO1 ?_
  refine rg_call 3 rfl (by kernel_rfl) (fun K hK => ?_)
  go_simp
  go_at_call 102
  refine (isGroup_any s HS.out x.group _).mono ?_
  rintro e w1 ⟨rfl, hc⟩
  rw [hi1]
  obtain ⟨cS, lS, HBS⟩ := bk hc (b := w.heap.size) (keep_drew (keep_alloc (new_at (by simp) _) _)) (by simp)
  obtain ⟨cR, lR, HBR⟩ := bk hc (b := w.heap.size + 1) (keep_drew (new_at (by simp) _)) (by simp)
  have h := Chg.trans0 (Chg.drew (Chg.alloc (Chg.alloc HC.out _) _)) hc; clear HC; have HC := hid h; clear h
  clear hc
  go_wp2_with fail
  refine hK.out _ _ (HSI1.out _ ⟨cS, cR⟩) (fun hS1 => ?_)
  clear hK K
  try simp only [Act.put, List.setIfInBounds_toArray, List.set_cons_zero, List.set_cons_succ]
  refine rgT 4 hS1 ?_
  refine rgL 5 hS1 HSO1 ?_
  refine rgT 6 hS1 ?_
  refine rgL 7 hS1 HSO1 ?_
  refine rg_call 8 rfl (by kernel_rfl) (fun K hK => ?_)
  go_simp
  go_at_call 134
  refine (isRow_any s HS.out x.row _).mono ?_
  rintro e w2 ⟨rfl, hc⟩
  rw [hi2]
  have h := bk hc HBS.out (by simp); clear HBS cS lS; obtain ⟨cS, lS, HBS⟩ := h
  have h := bk hc HBR.out (by simp); clear HBR cR lR; obtain ⟨cR, lR, HBR⟩ := h
  replace HC := hct HC hc
  clear hc
  go_wp2_with fail
  refine hK.out _ _ (HSI1.out _ ⟨cS, cR⟩) (fun hS2 => ?_)
  clear hK K
  try simp only [Act.put, List.setIfInBounds_toArray, List.set_cons_zero, List.set_cons_succ]
  refine rgT 9 hS2 ?_
  refine rgT 10 hS2 ?_
  refine rgT 11 hS2 ?_
  refine rgL 12 hS2 HSO1 ?_
  refine rgL 13 hS2 HSO1 ?_
  refine rg_call 14 rfl (by kernel_rfl) (fun K hK => ?_)
  go_simp
  go_at_call 179
  refine (all_any s HS.out _).mono ?_
  rintro e w3 ⟨rfl, hc⟩
  have h := bk hc HBS.out (by simp); clear HBS cS lS; obtain ⟨cS, lS, HBS⟩ := h
  have h := bk hc HBR.out (by simp); clear HBR cR lR; obtain ⟨cR, lR, HBR⟩ := h
  replace HC := hct HC hc
  clear hc
  go_wp2_with fail
  refine hK.out _ _ (HSI1.out _ ⟨cS, cR⟩) (fun hS3 => ?_)
  clear hK K
  try simp only [Act.put, List.setIfInBounds_toArray, List.set_cons_zero, List.set_cons_succ]
  refine rg_call 15 rfl (by kernel_rfl) (fun K hK => ?_)
  go_simp
  go_at_call 284
  refine (risesIn_any a6 l6 c6 x.rows f6 s.all _ (Lay.sl_ext intL H6.out HC.out) (by omega) (by omega)).mono ?_
  rintro e w4 ⟨rfl, hc⟩
  rw [HI3.out]
  have h := bk hc HBS.out (by simp); clear HBS cS lS; obtain ⟨cS, lS, HBS⟩ := h
  have h := bk hc HBR.out (by simp); clear HBR cR lR; obtain ⟨cR, lR, HBR⟩ := h
  replace HC := hct HC hc
  clear hc
  go_wp2_with fail
  refine hK.out _ _ (HSI1.out _ ⟨cS, cR⟩) (fun hS4 => ?_)
  clear hK K
  try simp only [Act.put, List.setIfInBounds_toArray, List.set_cons_zero, List.set_cons_succ]
  refine rgT 16 hS4 ?_
  refine rgT 17 hS4 ?_
  refine rgT 18 hS4 ?_
  refine rgL 19 hS4 HSO1 ?_
  refine rgL 21 hS4 HSO1 ?_
  refine rg_call 20 rfl (by kernel_rfl) (fun K hK => ?_)
  go_simp
  go_at_call 185
  refine (sizeB_c a7 l7 c7 _ q7).mono ?_
  rintro e w5 ⟨rfl, hc⟩
  have h := bk hc HBS.out (by simp); clear HBS cS lS; obtain ⟨cS, lS, HBS⟩ := h
  have h := bk hc HBR.out (by simp); clear HBR cR lR; obtain ⟨cR, lR, HBR⟩ := h
  replace HC := hct HC hc
  clear hc
  go_wp2_with fail
  refine hK.out _ _ (HSI1.out _ ⟨cS, cR⟩) (fun hS5 => ?_)
  clear hK K
  try simp only [Act.put, List.setIfInBounds_toArray, List.set_cons_zero, List.set_cons_succ]
  refine rg_call 22 rfl (by kernel_rfl) (fun K hK => ?_)
  go_simp
  go_at_call 260
  refine (rowLength_any s HS.out _).mono ?_
  rintro e w6 ⟨rfl, hc⟩
  have h := bk hc HBS.out (by simp); clear HBS cS lS; obtain ⟨cS, lS, HBS⟩ := h
  have h := bk hc HBR.out (by simp); clear HBR cR lR; obtain ⟨cR, lR, HBR⟩ := h
  replace HC := hct HC hc
  clear hc
  go_wp2_with fail
  refine hK.out _ _ (HSI1.out _ ⟨cS, cR⟩) (fun hS6 => ?_)
  clear hK K
  try simp only [Act.put, List.setIfInBounds_toArray, List.set_cons_zero, List.set_cons_succ]
  refine rgT 23 hS6 ?_
  refine rgT 24 hS6 ?_
  refine rgT 25 hS6 ?_
  refine rgS 26 hS6 ?_
  refine rgS 27 hS6 ?_
  refine rgS 28 hS6 ?_
  refine rgS 29 hS6 ?_
  refine rgS 30 hS6 ?_
  refine rgS 31 hS6 ?_
  refine rgT 32 hS6 ?_
  refine rgT 33 hS6 ?_
  refine wpAnyH_done (by kernel_rfl) ?_ _
  go_wp2_with fail
  go_ret
  exact ⟨ret_int HR.out.symm, HC.out⟩
 have e4 : ((l7 : Int) == s.wide) = true := by simp; exact h4
 by_cases h5 : (l8 : Int) = s.all
 rotate_left
 ·have HC : Hid (Chg [] w w) := Chg.refl _ _
  have HR := hid (show v = 3 by rw [HM.out, if_neg (by rw [HF.out (fun h => h5 (by rw [Z8.out]; exact h.2.2.2.2.1))]; simp)])
  have e5 : ((l8 : Int) == s.all) = false := by simp; exact h5
  clear h1 h2 h3 h4 h5
  go_enter Tryz.func259, Tryz.ntmps259
  go_wp2_with fail
  obtain ⟨SS1, HSI1, HSO1⟩ := rg_cond (fun w' => Know (w.heap.size) #[.int .i64 s.groups, .int .i64 s.column, .int .i64 s.data, .int .i64 s.spare, .int .i64 s.rows, .int .i64 s.cap, .int .i64 s.batch, .int .i64 s.queue, .int .i64 s.stage] w' ∧ Know (w.heap.size + 1) #[.int .i64 x.kind, .int .i64 x.seq, .string x.name, .int .i64 x.length, .int .i64 x.group, .int .i64 x.row, .slice a6 l6 c6, .slice a7 l7 c7, .slice a8 l8 c8] w')
  have hS0 := HSI1.out (((w.alloc (.cells #[.int .i64 s.groups, .int .i64 s.column, .int .i64 s.data, .int .i64 s.spare, .int .i64 s.rows, .int .i64 s.cap, .int .i64 s.batch, .int .i64 s.queue, .int .i64 s.stage] 30)).alloc (.cells #[.int .i64 x.kind, .int .i64 x.seq, .string x.name, .int .i64 x.length, .int .i64 x.group, .int .i64 x.row, .slice a6 l6 c6, .slice a7 l7 c7, .slice a8 l8 c8] 67)).drew) ⟨(Know.of (by refine keep_drew ?_; refine keep_alloc ?_ _; exact new_at (by simp) _)), (Know.of (by refine keep_drew ?_; exact new_at (by simp) _))⟩
  refine rg_start SS1 (by kernel_rfl) hS0 ?_
  refine rgL 0 hS0 HSO1 ?_
  refine rgT 1 hS0 ?_
  refine rgL 2 hS0 HSO1 ?_
  refine rg_call 3 rfl (by kernel_rfl) (fun K hK => ?_)
  go_simp
  go_at_call 102
  refine (isGroup_any s HS.out x.group _).mono ?_
  rintro e w1 ⟨rfl, hc⟩
  rw [hi1]
  obtain ⟨cS, lS, HBS⟩ := bk hc (b := w.heap.size) (keep_drew (keep_alloc (new_at (by simp) _) _)) (by simp)
  obtain ⟨cR, lR, HBR⟩ := bk hc (b := w.heap.size + 1) (keep_drew (new_at (by simp) _)) (by simp)
  have h := Chg.trans0 (Chg.drew (Chg.alloc (Chg.alloc HC.out _) _)) hc; clear HC; have HC := hid h; clear h
  clear hc
  go_wp2_with fail
  refine hK.out _ _ (HSI1.out _ ⟨cS, cR⟩) (fun hS1 => ?_)
  clear hK K
  try simp only [Act.put, List.setIfInBounds_toArray, List.set_cons_zero, List.set_cons_succ]
  refine rgT 4 hS1 ?_
  refine rgL 5 hS1 HSO1 ?_
  refine rgT 6 hS1 ?_
  refine rgL 7 hS1 HSO1 ?_
  refine rg_call 8 rfl (by kernel_rfl) (fun K hK => ?_)
  go_simp
  go_at_call 134
  refine (isRow_any s HS.out x.row _).mono ?_
  rintro e w2 ⟨rfl, hc⟩
  rw [hi2]
  have h := bk hc HBS.out (by simp); clear HBS cS lS; obtain ⟨cS, lS, HBS⟩ := h
  have h := bk hc HBR.out (by simp); clear HBR cR lR; obtain ⟨cR, lR, HBR⟩ := h
  replace HC := hct HC hc
  clear hc
  go_wp2_with fail
  refine hK.out _ _ (HSI1.out _ ⟨cS, cR⟩) (fun hS2 => ?_)
  clear hK K
  try simp only [Act.put, List.setIfInBounds_toArray, List.set_cons_zero, List.set_cons_succ]
  refine rgT 9 hS2 ?_
  refine rgT 10 hS2 ?_
  refine rgT 11 hS2 ?_
  refine rgL 12 hS2 HSO1 ?_
  refine rgL 13 hS2 HSO1 ?_
  refine rg_call 14 rfl (by kernel_rfl) (fun K hK => ?_)
  go_simp
  go_at_call 179
  refine (all_any s HS.out _).mono ?_
  rintro e w3 ⟨rfl, hc⟩
  have h := bk hc HBS.out (by simp); clear HBS cS lS; obtain ⟨cS, lS, HBS⟩ := h
  have h := bk hc HBR.out (by simp); clear HBR cR lR; obtain ⟨cR, lR, HBR⟩ := h
  replace HC := hct HC hc
  clear hc
  go_wp2_with fail
  refine hK.out _ _ (HSI1.out _ ⟨cS, cR⟩) (fun hS3 => ?_)
  clear hK K
  try simp only [Act.put, List.setIfInBounds_toArray, List.set_cons_zero, List.set_cons_succ]
  refine rg_call 15 rfl (by kernel_rfl) (fun K hK => ?_)
  go_simp
  go_at_call 284
  refine (risesIn_any a6 l6 c6 x.rows f6 s.all _ (Lay.sl_ext intL H6.out HC.out) (by omega) (by omega)).mono ?_
  rintro e w4 ⟨rfl, hc⟩
  rw [HI3.out]
  have h := bk hc HBS.out (by simp); clear HBS cS lS; obtain ⟨cS, lS, HBS⟩ := h
  have h := bk hc HBR.out (by simp); clear HBR cR lR; obtain ⟨cR, lR, HBR⟩ := h
  replace HC := hct HC hc
  clear hc
  go_wp2_with fail
  refine hK.out _ _ (HSI1.out _ ⟨cS, cR⟩) (fun hS4 => ?_)
  clear hK K
  try simp only [Act.put, List.setIfInBounds_toArray, List.set_cons_zero, List.set_cons_succ]
  refine rgT 16 hS4 ?_
  refine rgT 17 hS4 ?_
  refine rgT 18 hS4 ?_
  refine rgL 19 hS4 HSO1 ?_
  refine rgL 21 hS4 HSO1 ?_
  refine rg_call 20 rfl (by kernel_rfl) (fun K hK => ?_)
  go_simp
  go_at_call 185
  refine (sizeB_c a7 l7 c7 _ q7).mono ?_
  rintro e w5 ⟨rfl, hc⟩
  have h := bk hc HBS.out (by simp); clear HBS cS lS; obtain ⟨cS, lS, HBS⟩ := h
  have h := bk hc HBR.out (by simp); clear HBR cR lR; obtain ⟨cR, lR, HBR⟩ := h
  replace HC := hct HC hc
  clear hc
  go_wp2_with fail
  refine hK.out _ _ (HSI1.out _ ⟨cS, cR⟩) (fun hS5 => ?_)
  clear hK K
  try simp only [Act.put, List.setIfInBounds_toArray, List.set_cons_zero, List.set_cons_succ]
  refine rg_call 22 rfl (by kernel_rfl) (fun K hK => ?_)
  go_simp
  go_at_call 260
  refine (rowLength_any s HS.out _).mono ?_
  rintro e w6 ⟨rfl, hc⟩
  have h := bk hc HBS.out (by simp); clear HBS cS lS; obtain ⟨cS, lS, HBS⟩ := h
  have h := bk hc HBR.out (by simp); clear HBR cR lR; obtain ⟨cR, lR, HBR⟩ := h
  replace HC := hct HC hc
  clear hc
  go_wp2_with fail
  refine hK.out _ _ (HSI1.out _ ⟨cS, cR⟩) (fun hS6 => ?_)
  clear hK K
  try simp only [Act.put, List.setIfInBounds_toArray, List.set_cons_zero, List.set_cons_succ]
  refine rgT 23 hS6 ?_
  refine rgT 24 hS6 ?_
  refine rgT 25 hS6 ?_
  refine rgT 26 hS6 ?_
  refine rgL 27 hS6 HSO1 ?_
  refine rgL 29 hS6 HSO1 ?_
  refine rg_call 28 rfl (by kernel_rfl) (fun K hK => ?_)
  go_simp
  go_at_call 185
  refine (sizeB_c a8 l8 c8 _ q8).mono ?_
  rintro e w7 ⟨rfl, hc⟩
  have h := bk hc HBS.out (by simp); clear HBS cS lS; obtain ⟨cS, lS, HBS⟩ := h
  have h := bk hc HBR.out (by simp); clear HBR cR lR; obtain ⟨cR, lR, HBR⟩ := h
  replace HC := hct HC hc
  clear hc
  go_wp2_with fail
  refine hK.out _ _ (HSI1.out _ ⟨cS, cR⟩) (fun hS7 => ?_)
  clear hK K
  try simp only [Act.put, List.setIfInBounds_toArray, List.set_cons_zero, List.set_cons_succ]
  refine rg_call 30 rfl (by kernel_rfl) (fun K hK => ?_)
  go_simp
  go_at_call 179
  refine (all_any s HS.out _).mono ?_
  rintro e w8 ⟨rfl, hc⟩
  have h := bk hc HBS.out (by simp); clear HBS cS lS; obtain ⟨cS, lS, HBS⟩ := h
  have h := bk hc HBR.out (by simp); clear HBR cR lR; obtain ⟨cR, lR, HBR⟩ := h
  replace HC := hct HC hc
  clear hc
  go_wp2_with fail
  refine hK.out _ _ (HSI1.out _ ⟨cS, cR⟩) (fun hS8 => ?_)
  clear hK K
  try simp only [Act.put, List.setIfInBounds_toArray, List.set_cons_zero, List.set_cons_succ]
  refine rgT 31 hS8 ?_
  refine rgT 32 hS8 ?_
  refine rgT 33 hS8 ?_
  refine wpAnyH_done (by kernel_rfl) ?_ _
  go_wp2_with fail
  go_ret
  exact ⟨ret_int HR.out.symm, HC.out⟩
 have e5 : ((l8 : Int) == s.all) = true := by simp; exact h5
 have hgl : x.group.toNat < l8 := by omega
 have hgl2 : x.group < (l8 : Int) := by omega
 have hg0 : 0 ≤ x.group := h1.1
 obtain ⟨z, Z, b, o, HXB, hA8, hcz, hz0, hz1⟩ := byte_at H8.out hgl
 have HD := hid (show x.delta[x.group.toNat]? = some z from HXB.out.1)
 subst hA8
 have hb0 := byte0 HXB.out.2.1
 have HCZ := hid hcz
 clear hcz
 by_cases hZ : z = 0
 rotate_left
 ·have HC : Hid (Chg [] w w) := Chg.refl _ _
  have HR := hid (show v = 3 by rw [HM.out, if_neg (by rw [HF.out (fun h => hZ (by have h2 := h.2.2.2.2.2.1; rw [HD.out] at h2; exact Option.some.inj h2))]; simp)])
  have e2 := (hb0.2 hZ).2
  clear hb0 h1 h2 h3 h4 h5 hZ
  go_enter Tryz.func259, Tryz.ntmps259
  go_wp2_with fail
  obtain ⟨SS1, HSI1, HSO1⟩ := rg_cond (fun w' => Know (w.heap.size) #[.int .i64 s.groups, .int .i64 s.column, .int .i64 s.data, .int .i64 s.spare, .int .i64 s.rows, .int .i64 s.cap, .int .i64 s.batch, .int .i64 s.queue, .int .i64 s.stage] w' ∧ Know (w.heap.size + 1) #[.int .i64 x.kind, .int .i64 x.seq, .string x.name, .int .i64 x.length, .int .i64 x.group, .int .i64 x.row, .slice a6 l6 c6, .slice a7 l7 c7, .slice (some ⟨b, o, none⟩) l8 c8] w')
  have hS0 := HSI1.out (((w.alloc (.cells #[.int .i64 s.groups, .int .i64 s.column, .int .i64 s.data, .int .i64 s.spare, .int .i64 s.rows, .int .i64 s.cap, .int .i64 s.batch, .int .i64 s.queue, .int .i64 s.stage] 30)).alloc (.cells #[.int .i64 x.kind, .int .i64 x.seq, .string x.name, .int .i64 x.length, .int .i64 x.group, .int .i64 x.row, .slice a6 l6 c6, .slice a7 l7 c7, .slice (some ⟨b, o, none⟩) l8 c8] 67)).drew) ⟨(Know.of (by refine keep_drew ?_; refine keep_alloc ?_ _; exact new_at (by simp) _)), (Know.of (by refine keep_drew ?_; exact new_at (by simp) _))⟩
  refine rg_start SS1 (by kernel_rfl) hS0 ?_
  refine rgL 0 hS0 HSO1 ?_
  refine rgT 1 hS0 ?_
  refine rgL 2 hS0 HSO1 ?_
  refine rg_call 3 rfl (by kernel_rfl) (fun K hK => ?_)
  go_simp
  go_at_call 102
  refine (isGroup_any s HS.out x.group _).mono ?_
  rintro e w1 ⟨rfl, hc⟩
  rw [hi1]
  obtain ⟨cS, lS, HBS⟩ := bk hc (b := w.heap.size) (keep_drew (keep_alloc (new_at (by simp) _) _)) (by simp)
  obtain ⟨cR, lR, HBR⟩ := bk hc (b := w.heap.size + 1) (keep_drew (new_at (by simp) _)) (by simp)
  have h := Chg.trans0 (Chg.drew (Chg.alloc (Chg.alloc HC.out _) _)) hc; clear HC; have HC := hid h; clear h
  clear hc
  go_wp2_with fail
  refine hK.out _ _ (HSI1.out _ ⟨cS, cR⟩) (fun hS1 => ?_)
  clear hK K
  try simp only [Act.put, List.setIfInBounds_toArray, List.set_cons_zero, List.set_cons_succ]
  refine rgT 4 hS1 ?_
  refine rgL 5 hS1 HSO1 ?_
  refine rgT 6 hS1 ?_
  refine rgL 7 hS1 HSO1 ?_
  refine rg_call 8 rfl (by kernel_rfl) (fun K hK => ?_)
  go_simp
  go_at_call 134
  refine (isRow_any s HS.out x.row _).mono ?_
  rintro e w2 ⟨rfl, hc⟩
  rw [hi2]
  have h := bk hc HBS.out (by simp); clear HBS cS lS; obtain ⟨cS, lS, HBS⟩ := h
  have h := bk hc HBR.out (by simp); clear HBR cR lR; obtain ⟨cR, lR, HBR⟩ := h
  replace HC := hct HC hc
  clear hc
  go_wp2_with fail
  refine hK.out _ _ (HSI1.out _ ⟨cS, cR⟩) (fun hS2 => ?_)
  clear hK K
  try simp only [Act.put, List.setIfInBounds_toArray, List.set_cons_zero, List.set_cons_succ]
  refine rgT 9 hS2 ?_
  refine rgT 10 hS2 ?_
  refine rgT 11 hS2 ?_
  refine rgL 12 hS2 HSO1 ?_
  refine rgL 13 hS2 HSO1 ?_
  refine rg_call 14 rfl (by kernel_rfl) (fun K hK => ?_)
  go_simp
  go_at_call 179
  refine (all_any s HS.out _).mono ?_
  rintro e w3 ⟨rfl, hc⟩
  have h := bk hc HBS.out (by simp); clear HBS cS lS; obtain ⟨cS, lS, HBS⟩ := h
  have h := bk hc HBR.out (by simp); clear HBR cR lR; obtain ⟨cR, lR, HBR⟩ := h
  replace HC := hct HC hc
  clear hc
  go_wp2_with fail
  refine hK.out _ _ (HSI1.out _ ⟨cS, cR⟩) (fun hS3 => ?_)
  clear hK K
  try simp only [Act.put, List.setIfInBounds_toArray, List.set_cons_zero, List.set_cons_succ]
  refine rg_call 15 rfl (by kernel_rfl) (fun K hK => ?_)
  go_simp
  go_at_call 284
  refine (risesIn_any a6 l6 c6 x.rows f6 s.all _ (Lay.sl_ext intL H6.out HC.out) (by omega) (by omega)).mono ?_
  rintro e w4 ⟨rfl, hc⟩
  rw [HI3.out]
  have h := bk hc HBS.out (by simp); clear HBS cS lS; obtain ⟨cS, lS, HBS⟩ := h
  have h := bk hc HBR.out (by simp); clear HBR cR lR; obtain ⟨cR, lR, HBR⟩ := h
  replace HC := hct HC hc
  clear hc
  go_wp2_with fail
  refine hK.out _ _ (HSI1.out _ ⟨cS, cR⟩) (fun hS4 => ?_)
  clear hK K
  try simp only [Act.put, List.setIfInBounds_toArray, List.set_cons_zero, List.set_cons_succ]
  refine rgT 16 hS4 ?_
  refine rgT 17 hS4 ?_
  refine rgT 18 hS4 ?_
  refine rgL 19 hS4 HSO1 ?_
  refine rgL 21 hS4 HSO1 ?_
  refine rg_call 20 rfl (by kernel_rfl) (fun K hK => ?_)
  go_simp
  go_at_call 185
  refine (sizeB_c a7 l7 c7 _ q7).mono ?_
  rintro e w5 ⟨rfl, hc⟩
  have h := bk hc HBS.out (by simp); clear HBS cS lS; obtain ⟨cS, lS, HBS⟩ := h
  have h := bk hc HBR.out (by simp); clear HBR cR lR; obtain ⟨cR, lR, HBR⟩ := h
  replace HC := hct HC hc
  clear hc
  go_wp2_with fail
  refine hK.out _ _ (HSI1.out _ ⟨cS, cR⟩) (fun hS5 => ?_)
  clear hK K
  try simp only [Act.put, List.setIfInBounds_toArray, List.set_cons_zero, List.set_cons_succ]
  refine rg_call 22 rfl (by kernel_rfl) (fun K hK => ?_)
  go_simp
  go_at_call 260
  refine (rowLength_any s HS.out _).mono ?_
  rintro e w6 ⟨rfl, hc⟩
  have h := bk hc HBS.out (by simp); clear HBS cS lS; obtain ⟨cS, lS, HBS⟩ := h
  have h := bk hc HBR.out (by simp); clear HBR cR lR; obtain ⟨cR, lR, HBR⟩ := h
  replace HC := hct HC hc
  clear hc
  go_wp2_with fail
  refine hK.out _ _ (HSI1.out _ ⟨cS, cR⟩) (fun hS6 => ?_)
  clear hK K
  try simp only [Act.put, List.setIfInBounds_toArray, List.set_cons_zero, List.set_cons_succ]
  refine rgT 23 hS6 ?_
  refine rgT 24 hS6 ?_
  refine rgT 25 hS6 ?_
  refine rgT 26 hS6 ?_
  refine rgL 27 hS6 HSO1 ?_
  refine rgL 29 hS6 HSO1 ?_
  refine rg_call 28 rfl (by kernel_rfl) (fun K hK => ?_)
  go_simp
  go_at_call 185
  refine (sizeB_c (some ⟨b, o, none⟩) l8 c8 _ q8).mono ?_
  rintro e w7 ⟨rfl, hc⟩
  have h := bk hc HBS.out (by simp); clear HBS cS lS; obtain ⟨cS, lS, HBS⟩ := h
  have h := bk hc HBR.out (by simp); clear HBR cR lR; obtain ⟨cR, lR, HBR⟩ := h
  replace HC := hct HC hc
  clear hc
  go_wp2_with fail
  refine hK.out _ _ (HSI1.out _ ⟨cS, cR⟩) (fun hS7 => ?_)
  clear hK K
  try simp only [Act.put, List.setIfInBounds_toArray, List.set_cons_zero, List.set_cons_succ]
  refine rg_call 30 rfl (by kernel_rfl) (fun K hK => ?_)
  go_simp
  go_at_call 179
  refine (all_any s HS.out _).mono ?_
  rintro e w8 ⟨rfl, hc⟩
  have h := bk hc HBS.out (by simp); clear HBS cS lS; obtain ⟨cS, lS, HBS⟩ := h
  have h := bk hc HBR.out (by simp); clear HBR cR lR; obtain ⟨cR, lR, HBR⟩ := h
  replace HC := hct HC hc
  clear hc
  go_wp2_with fail
  refine hK.out _ _ (HSI1.out _ ⟨cS, cR⟩) (fun hS8 => ?_)
  clear hK K
  try simp only [Act.put, List.setIfInBounds_toArray, List.set_cons_zero, List.set_cons_succ]
  refine rgT 31 hS8 ?_
  refine rgT 32 hS8 ?_
  refine rgT 33 hS8 ?_
  refine wpAnyH_done (by kernel_rfl) ?_ _
  have hcz := (Chg.facts HC.out).1 b (o + x.group.toNat) (Lay.sl_lt _ H8.out _ HXB.out.2.2)
  rw [HCZ.out] at hcz
  go_wp2_with fail
  go_ret
  exact ⟨ret_int HR.out.symm, HC.out⟩
 have HC : Hid (Chg [] w w) := Chg.refl _ _
 have e2 := (hb0.1 hZ).2
 subst hZ
 have HYS := hid (show ∀ y ∈ x.rows, 0 ≤ y ∧ y < (l8 : Int) from fun y hy => by have := h3.mem hy; omega)
 have HV := hid (show v = if pb (∃ y ∈ x.rows, x.delta[y.toNat]? = some 0) = true then 3 else 0 by
  rw [HM.out, HE.out (¬ ∃ y ∈ x.rows, x.delta[y.toNat]? = some 0) ⟨fun h => fun ⟨y, h6, h7⟩ => h.2.2.2.2.2.2 y h6 h7, fun h => ⟨h1, h2, h3, by rw [← Z7.out]; exact h4, by rw [← Z8.out]; exact h5, HD.out, fun y h6 h7 => h ⟨y, h6, h7⟩⟩⟩]
  by_cases h : ∃ y ∈ x.rows, x.delta[y.toNat]? = some 0
  ·rw [pb_true h, pb_false (fun h2 => h2 h)]; rfl
  ·rw [pb_false h, pb_true h]; rfl)
 clear hb0 h1 h2 h3 h4 h5
 go_enter Tryz.func259, Tryz.ntmps259
 go_wp2_with fail
 obtain ⟨SS1, HSI1, HSO1⟩ := rg_cond (fun w' => Know (w.heap.size) #[.int .i64 s.groups, .int .i64 s.column, .int .i64 s.data, .int .i64 s.spare, .int .i64 s.rows, .int .i64 s.cap, .int .i64 s.batch, .int .i64 s.queue, .int .i64 s.stage] w' ∧ Know (w.heap.size + 1) #[.int .i64 x.kind, .int .i64 x.seq, .string x.name, .int .i64 x.length, .int .i64 x.group, .int .i64 x.row, .slice a6 l6 c6, .slice a7 l7 c7, .slice (some ⟨b, o, none⟩) l8 c8] w')
 have hS0 := HSI1.out (((w.alloc (.cells #[.int .i64 s.groups, .int .i64 s.column, .int .i64 s.data, .int .i64 s.spare, .int .i64 s.rows, .int .i64 s.cap, .int .i64 s.batch, .int .i64 s.queue, .int .i64 s.stage] 30)).alloc (.cells #[.int .i64 x.kind, .int .i64 x.seq, .string x.name, .int .i64 x.length, .int .i64 x.group, .int .i64 x.row, .slice a6 l6 c6, .slice a7 l7 c7, .slice (some ⟨b, o, none⟩) l8 c8] 67)).drew) ⟨(Know.of (by refine keep_drew ?_; refine keep_alloc ?_ _; exact new_at (by simp) _)), (Know.of (by refine keep_drew ?_; exact new_at (by simp) _))⟩
 refine rg_start SS1 (by kernel_rfl) hS0 ?_
 refine rgL 0 hS0 HSO1 ?_
 refine rgT 1 hS0 ?_
 refine rgL 2 hS0 HSO1 ?_
 refine rg_call 3 rfl (by kernel_rfl) (fun K hK => ?_)
 go_simp
 go_at_call 102
 refine (isGroup_any s HS.out x.group _).mono ?_
 rintro e w1 ⟨rfl, hc⟩
 rw [hi1]
 obtain ⟨cS, lS, HBS⟩ := bk hc (b := w.heap.size) (keep_drew (keep_alloc (new_at (by simp) _) _)) (by simp)
 obtain ⟨cR, lR, HBR⟩ := bk hc (b := w.heap.size + 1) (keep_drew (new_at (by simp) _)) (by simp)
 have h := Chg.trans0 (Chg.drew (Chg.alloc (Chg.alloc HC.out _) _)) hc; clear HC; have HC := hid h; clear h
 clear hc
 go_wp2_with fail
 refine hK.out _ _ (HSI1.out _ ⟨cS, cR⟩) (fun hS1 => ?_)
 clear hK K
 try simp only [Act.put, List.setIfInBounds_toArray, List.set_cons_zero, List.set_cons_succ]
 refine rgT 4 hS1 ?_
 refine rgL 5 hS1 HSO1 ?_
 refine rgT 6 hS1 ?_
 refine rgL 7 hS1 HSO1 ?_
 refine rg_call 8 rfl (by kernel_rfl) (fun K hK => ?_)
 go_simp
 go_at_call 134
 refine (isRow_any s HS.out x.row _).mono ?_
 rintro e w2 ⟨rfl, hc⟩
 rw [hi2]
 have h := bk hc HBS.out (by simp); clear HBS cS lS; obtain ⟨cS, lS, HBS⟩ := h
 have h := bk hc HBR.out (by simp); clear HBR cR lR; obtain ⟨cR, lR, HBR⟩ := h
 replace HC := hct HC hc
 clear hc
 go_wp2_with fail
 refine hK.out _ _ (HSI1.out _ ⟨cS, cR⟩) (fun hS2 => ?_)
 clear hK K
 try simp only [Act.put, List.setIfInBounds_toArray, List.set_cons_zero, List.set_cons_succ]
 refine rgT 9 hS2 ?_
 refine rgT 10 hS2 ?_
 refine rgT 11 hS2 ?_
 refine rgL 12 hS2 HSO1 ?_
 refine rgL 13 hS2 HSO1 ?_
 refine rg_call 14 rfl (by kernel_rfl) (fun K hK => ?_)
 go_simp
 go_at_call 179
 refine (all_any s HS.out _).mono ?_
 rintro e w3 ⟨rfl, hc⟩
 have h := bk hc HBS.out (by simp); clear HBS cS lS; obtain ⟨cS, lS, HBS⟩ := h
 have h := bk hc HBR.out (by simp); clear HBR cR lR; obtain ⟨cR, lR, HBR⟩ := h
 replace HC := hct HC hc
 clear hc
 go_wp2_with fail
 refine hK.out _ _ (HSI1.out _ ⟨cS, cR⟩) (fun hS3 => ?_)
 clear hK K
 try simp only [Act.put, List.setIfInBounds_toArray, List.set_cons_zero, List.set_cons_succ]
 refine rg_call 15 rfl (by kernel_rfl) (fun K hK => ?_)
 go_simp
 go_at_call 284
 refine (risesIn_any a6 l6 c6 x.rows f6 s.all _ (Lay.sl_ext intL H6.out HC.out) (by omega) (by omega)).mono ?_
 rintro e w4 ⟨rfl, hc⟩
 rw [HI3.out]
 have h := bk hc HBS.out (by simp); clear HBS cS lS; obtain ⟨cS, lS, HBS⟩ := h
 have h := bk hc HBR.out (by simp); clear HBR cR lR; obtain ⟨cR, lR, HBR⟩ := h
 replace HC := hct HC hc
 clear hc
 go_wp2_with fail
 refine hK.out _ _ (HSI1.out _ ⟨cS, cR⟩) (fun hS4 => ?_)
 clear hK K
 try simp only [Act.put, List.setIfInBounds_toArray, List.set_cons_zero, List.set_cons_succ]
 refine rgT 16 hS4 ?_
 refine rgT 17 hS4 ?_
 refine rgT 18 hS4 ?_
 refine rgL 19 hS4 HSO1 ?_
 refine rgL 21 hS4 HSO1 ?_
 refine rg_call 20 rfl (by kernel_rfl) (fun K hK => ?_)
 go_simp
 go_at_call 185
 refine (sizeB_c a7 l7 c7 _ q7).mono ?_
 rintro e w5 ⟨rfl, hc⟩
 have h := bk hc HBS.out (by simp); clear HBS cS lS; obtain ⟨cS, lS, HBS⟩ := h
 have h := bk hc HBR.out (by simp); clear HBR cR lR; obtain ⟨cR, lR, HBR⟩ := h
 replace HC := hct HC hc
 clear hc
 go_wp2_with fail
 refine hK.out _ _ (HSI1.out _ ⟨cS, cR⟩) (fun hS5 => ?_)
 clear hK K
 try simp only [Act.put, List.setIfInBounds_toArray, List.set_cons_zero, List.set_cons_succ]
 refine rg_call 22 rfl (by kernel_rfl) (fun K hK => ?_)
 go_simp
 go_at_call 260
 refine (rowLength_any s HS.out _).mono ?_
 rintro e w6 ⟨rfl, hc⟩
 have h := bk hc HBS.out (by simp); clear HBS cS lS; obtain ⟨cS, lS, HBS⟩ := h
 have h := bk hc HBR.out (by simp); clear HBR cR lR; obtain ⟨cR, lR, HBR⟩ := h
 replace HC := hct HC hc
 clear hc
 go_wp2_with fail
 refine hK.out _ _ (HSI1.out _ ⟨cS, cR⟩) (fun hS6 => ?_)
 clear hK K
 try simp only [Act.put, List.setIfInBounds_toArray, List.set_cons_zero, List.set_cons_succ]
 refine rgT 23 hS6 ?_
 refine rgT 24 hS6 ?_
 refine rgT 25 hS6 ?_
 refine rgT 26 hS6 ?_
 refine rgL 27 hS6 HSO1 ?_
 refine rgL 29 hS6 HSO1 ?_
 refine rg_call 28 rfl (by kernel_rfl) (fun K hK => ?_)
 go_simp
 go_at_call 185
 refine (sizeB_c (some ⟨b, o, none⟩) l8 c8 _ q8).mono ?_
 rintro e w7 ⟨rfl, hc⟩
 have h := bk hc HBS.out (by simp); clear HBS cS lS; obtain ⟨cS, lS, HBS⟩ := h
 have h := bk hc HBR.out (by simp); clear HBR cR lR; obtain ⟨cR, lR, HBR⟩ := h
 replace HC := hct HC hc
 clear hc
 go_wp2_with fail
 refine hK.out _ _ (HSI1.out _ ⟨cS, cR⟩) (fun hS7 => ?_)
 clear hK K
 try simp only [Act.put, List.setIfInBounds_toArray, List.set_cons_zero, List.set_cons_succ]
 refine rg_call 30 rfl (by kernel_rfl) (fun K hK => ?_)
 go_simp
 go_at_call 179
 refine (all_any s HS.out _).mono ?_
 rintro e w8 ⟨rfl, hc⟩
 have h := bk hc HBS.out (by simp); clear HBS cS lS; obtain ⟨cS, lS, HBS⟩ := h
 have h := bk hc HBR.out (by simp); clear HBR cR lR; obtain ⟨cR, lR, HBR⟩ := h
 replace HC := hct HC hc
 clear hc
 go_wp2_with fail
 refine hK.out _ _ (HSI1.out _ ⟨cS, cR⟩) (fun hS8 => ?_)
 clear hK K
 try simp only [Act.put, List.setIfInBounds_toArray, List.set_cons_zero, List.set_cons_succ]
 refine rgT 31 hS8 ?_
 refine rgT 32 hS8 ?_
 refine rgT 33 hS8 ?_
 refine wpAnyH_done (by kernel_rfl) ?_ _
 have hcz := (Chg.facts HC.out).1 b (o + x.group.toNat) (Lay.sl_lt _ H8.out _ HXB.out.2.2)
 rw [HCZ.out] at hcz
 go_wp2_with fail
 refine (contShare_any w.heap.size.succ x a6 a7 (some ⟨b, o, none⟩) l6 l7 l8 c6 c7 c8 f6 f8 _ HBR.out (Lay.sl_ext intL H6.out HC.out) (Lay.sl_ext byteL H8.out HC.out) HYS.out).mono ?_
 rintro e w9 ⟨rfl, hc⟩
 have h := bk hc HBS.out (by simp); clear HBS cS lS; obtain ⟨cS, lS, HBS⟩ := h
 have h := bk hc HBR.out (by simp); clear HBR cR lR; obtain ⟨cR, lR, HBR⟩ := h
 replace HC := hct HC hc
 clear hc
 cases hv : pb (∃ y ∈ x.rows, x.delta[y.toNat]? = some 0)
 ·have HR := hid (HV.out.trans (if_neg (by rw [hv]; simp)))
  clear hv
  go_wp2_with fail
  go_ret
  exact ⟨ret_int HR.out.symm, HC.out⟩
 ·have HR := hid (HV.out.trans (if_pos hv))
  clear hv
  go_wp2_with fail
  go_ret
  exact ⟨ret_int HR.out.symm, HC.out⟩
end Go.Proofs.YtphmpimgbmedbaaGreat
