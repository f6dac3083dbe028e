
/- Shares: the weights of those that are there, of the reference and of the program. -/
import Derived.Test.YtjnclggpaekdfaaWts
import Derived.Test.YtjnclggpaekdfaaSvg
import Derived.Test.YtjnclggpaekdfaaEco
namespace Go.Proofs.Ytjnclggpaekdfaa
open Go.RowKit

theorem pad_next {z : List UInt8} {k n : Nat} {x : UInt8} (hx : z[k]? = some x) (hn : k < n) : (z.take k ++ List.replicate (n - k) 0).set k x = z.take (k + 1) ++ List.replicate (n - (k + 1)) 0 := by
  have hk := (List.getElem?_eq_some_iff.1 hx).1
  obtain ⟨m, hm⟩ : ∃ m, n - k = m + 1 := ⟨n - k - 1, by omega⟩
  rw [List.set_append_right _ _ (by rw [List.length_take]; omega), List.length_take, hm, show n - (k + 1) = m by omega, show k - min k z.length = 0 by omega, List.replicate_succ, List.set_cons_zero, take_next hx, List.append_assoc]
  rfl
theorem Rises.at {m : Int} {ks : List Int} (h : Rises m ks) {k : Int} (hk : k ∈ ks) : 0 ≤ k ∧ k ≤ m := by
  obtain ⟨i, hi, rfl⟩ := List.getElem_of_mem hk
  exact (h i _ (List.getElem?_eq_getElem hi)).1
theorem Rises.lt {m : Int} {ks : List Int} (h : Rises m ks) : ∀ (d i : Nat) (x y : Int), ks[i]? = some x → ks[i + d + 1]? = some y → x < y := by
  intro d
  induction d with
  | zero => intro i x y hx hy; exact (h (i + 0 + 1) y hy).2 x (by omega) (by simpa using hx)
  | succ d ih =>
    intro i x y hx hy
    have hl := (List.getElem?_eq_some_iff.1 hy).1
    have hz : ks[i + d + 1]? = some (ks[i + d + 1]'(by omega)) := List.getElem?_eq_getElem _
    have h1 := ih i x _ hx hz
    have h2 := (h (i + (d + 1) + 1) y hy).2 _ (by omega) (by rw [show i + (d + 1) + 1 - 1 = i + d + 1 by omega]; exact hz)
    omega
theorem Rises.ris {m : Int} {ks : List Int} (h : Rises m ks) : Ris (m + 1) ks := by
  refine ⟨fun k hk => by have := h.at hk; omega, ?_⟩
  rw [List.pairwise_iff_getElem]
  intro i j hi hj hij
  exact h.lt (j - i - 1) i _ _ (List.getElem?_eq_getElem hi) (by rw [show i + (j - i - 1) + 1 = j by omega]; exact List.getElem?_eq_getElem hj)
theorem Rises.le {m : Int} {ks : List Int} (h : Rises m ks) : (ks.length : Int) ≤ m + 1 ∨ ks = [] := by
  have key : ∀ (i : Nat) x, ks[i]? = some x → (i : Int) ≤ x := by
    intro i
    induction i with
    | zero => intro x hx; exact (h 0 x hx).1.1
    | succ i ih =>
      intro x hx
      have hl := (List.getElem?_eq_some_iff.1 hx).1
      have hz : ks[i]? = some (ks[i]'(by omega)) := List.getElem?_eq_getElem _
      have h1 := ih _ hz
      have h2 := (h (i + 1) x hx).2 _ (by omega) (show ks[i + 1 - 1]? = _ from hz)
      omega
  by_cases e : ks.length = 0
  · exact .inr (List.eq_nil_of_length_eq_zero e)
  · left
    have hz : ks[ks.length - 1]? = some (ks[ks.length - 1]'(by omega)) := List.getElem?_eq_getElem _
    have h1 := key _ _ hz
    have h2 := (h _ _ hz).1.2
    omega
theorem Ris.take {m : Int} {ks : List Int} (h : Ris m ks) (n : Nat) : Ris m (ks.take n) := ⟨fun k hk => h.1 k (List.mem_of_mem_take hk), h.2.sublist (List.take_sublist _ _)⟩

noncomputable def shaRes (g c : Int) (ks : List Int) (p : Int) : Int × List UInt8 :=
  if (inB g 1 4 && inB c 0 2) = false then (3, []) else if pb (Rises (g + c - 1) ks) = false then (1, []) else if inB p 0 (g + c - 1) = false then (3, []) else if pb (p ∈ ks) = true then (7, [])
  else if (ks.length : Int) < g then (10, []) else (0, wtsL g.toNat (ks.take g.toNat) p ++ List.replicate (ks.length - g.toNat) 0)
/-- what the weights are where they are asked for -/
theorem wts_ok {n : Nat} {c : Int} {ks : List Int} {p : Int} (h1 : 1 ≤ n) (h4 : n ≤ 4) (hc : c ≤ 2) (hr : Rises ((n : Int) + c - 1) ks) (hl : n ≤ ks.length) :
    solV (colR n 8 (ks.take n)) (genL n p 8) = some (wtsL n (ks.take n) p) ∧ (wtsL n (ks.take n) p).length = n := by
  obtain ⟨x, hx, hxl, _⟩ := wts_some (p := p) h1 h4 (by rw [List.length_take]; omega : (ks.take n).length = n) (by omega : (n : Int) + c - 1 + 1 ≤ n + 2) (hr.ris.take n)
  unfold wtsL
  rw [hx]
  exact ⟨rfl, hxl⟩

set_option maxRecDepth 100000 in
set_option maxHeartbeats 1000000 in
theorem l3Share_any (a : Option Addr) (la ca : Nat) (ks : List Int) (f : List Nat) (g : Nat) (p : Int) (w : World) (ha : intL.sl w a la ca ks f) (hg : 1 ≤ g) (hg4 : g ≤ 4) (hgl : g ≤ la) (hla : la ≤ 6) (hk : RowKit.Hid (∀ k ∈ ks, 0 ≤ k ∧ k ≤ 6)) (hp : 0 ≤ p) (hp6 : p ≤ 6) (z : List UInt8) (hz : RowKit.Hid (solV (colR g 8 (ks.take g)) (genL g p 8) = some z)) (hzl : RowKit.Hid (z.length = g)) :
    Calls Try.prog 55 #[.int .i64 g, .slice a la ca, .int .i64 p] w (NewSl byteL (z ++ List.replicate (la - g) 0) w) := by
  have hmk := make_bytes la (by omega)
  obtain ⟨_, b0, o0, _, rfl, _, _⟩ := int_at ha (show 0 < la by omega)
  have HA := Lib.hid ha
  have HL := Lib.hid ha.1
  obtain ⟨ft, hft, hat⟩ := intL.sl_take ha hgl
  have HT := Lib.hid hat
  have hca := ha.2.1
  have hcm := ha.2.2.1
  simp only [maxLen] at hcm
  have HKT := Lib.hid (show ∀ k ∈ ks.take g, 0 ≤ k ∧ k ≤ 6 from fun k hm => hk.out k (List.mem_of_mem_take hm))
  clear ha hat hft
  go_enter Try.func55, Try.ntmps55
  go_wp2_with fail
  refine (l2Weights_any _ g ca (ks.take g) ft g p 8 _ (intL.sl_ext HT.out ((Chg.refl [] w).alloc _)) hg hg4 (Nat.le_refl _) HKT hp hp6 (by omega) (by omega)).mono ?_
  rintro e w1 ⟨A, C, fw, rfl, hs, hf, hc1⟩
  rw [show (ks.take g).take g = ks.take g by rw [List.take_take, Nat.min_self], hz.out, Option.getD_some] at hs ⊢
  have HZR := Lib.hid (byte_zrow w 5 la (by omega))
  have HS := Lib.hid hs
  have HC1 := Lib.hid hc1
  have HFH := Lib.hid (fun (b : Nat) (hm : b ∈ fw) => (show w.heap.size ≠ b by have := (hf.2 b hm).1; simp at this; omega))
  have HLO : RowKit.Hid (Loose w1 w.heap.size) := hc1.loose _ ⟨_, _, new_alloc w _⟩
  have HZ1 := Lib.hid (byteL.sl_ext HZR.out hc1)
  have HCW := Lib.hid (((Chg.refl [] w).alloc (.cells (zrow (.int .u8 0) la) 5)).trans0 hc1)
  clear hs hf hc1 HZR
  rw [hzl.out] at HS ⊢
  go_wp2_with fail
  go_loopw [9] (fun vi w2 => ∃ (i : Nat) (W2 : World), W2 = w2 ∧ i ≤ g ∧ vi = .int .i64 i ∧ byteL.sl w2 (some ⟨w.heap.size, 0, none⟩) la la (z.take i ++ List.replicate (la - i) 0) [w.heap.size] ∧ Loose w2 w.heap.size ∧ byteL.sl w2 A g C z fw ∧ Chg [] w w2) (fun vi _ => g - (intOf vi).toNat)
  case atStart => exact ⟨0, _, rfl, by omega, rfl, by simpa using HZ1.out, HLO.out, HS.out, HCW.out⟩
  case round =>
    obtain ⟨i, w2, rfl, hi, rfl, ho2, hlo, hs2, hc2⟩ := hrel
    by_cases hlt : i < g
    · obtain ⟨y, Y, b2, o2, HY, rfl, hcy, hy1, hy2⟩ := byte_at hs2 hlt
      obtain ⟨u, U, b3, o3, HU, e, hcu, _, _⟩ := byte_at ho2 (by omega : i < la)
      obtain ⟨rfl, rfl⟩ : w.heap.size = b3 ∧ 0 = o3 := by simpa using e
      have hst := byte_set ho2 (by simp) (by omega : i < la) y
      rw [HY.out.2.1] at hcy
      rw [Nat.zero_add] at hst hcu
      rw [pad_next HY.out.1 (by omega)] at hst
      have hfz : ∀ j, w2.frozen? ⟨w.heap.size, j, none⟩ = false := by obtain ⟨cur, E, hw⟩ := hlo; exact freeOf hw
      have HST := Lib.hid hst
      have HN := Lib.hid (And.intro hlo (And.intro hs2 hc2))
      clear ho2 hlo hs2 hc2 hst e hy1 hy2
      go_wp2_with fail
      go_roundw
      case rel => exact ⟨i + 1, _, rfl, by omega, by go_num, HST.out, HN.out.1.setCell _ _, byteL.sl_chg HN.out.2.1 ((Chg.refl [w.heap.size] _).setCell _ _ (.inl (by simp))) (fun b hb hm => HFH.out b hb (List.mem_singleton.1 hm).symm), HN.out.2.2.setCell _ _ (.inr (by simp))⟩
      case measure => simp [intOf]; omega
    · obtain rfl : i = g := by omega
      rw [List.take_of_length_le (by rw [hzl.out]; omega)] at ho2
      have HLN := Lib.hid (show (z ++ List.replicate (la - i) 0).length = la by rw [List.length_append, hzl.out, List.length_replicate]; omega)
      have HN : RowKit.Hid (NewSl byteL (z ++ List.replicate (la - i) 0) w (.returned (.slice (some ⟨w.heap.size, 0, none⟩) la la)) w2) :=
        ⟨_, _, _, by rw [HLN.out], by rw [HLN.out]; exact ho2, ⟨by simp, fun b hb => by simp at hb; subst hb; exact ⟨Nat.le_refl _, hlo⟩⟩, hc2⟩
      clear ho2 hlo hs2 hc2
      go_wp2_with fail
      go_ret
      exact HN.out

theorem colAll_any (g c : Int) (h1 : -1000 ≤ g) (h2 : g ≤ 1000) (h3 : -1000 ≤ c) (h4 : c ≤ 1000) (w : World) :
    Calls Try.prog 44 #[.agg #[.int .i64 g, .int .i64 c]] w fun e w' => e = .returned (.int .i64 (g + c)) ∧ w.alloc (.cells #[.int .i64 g, .int .i64 c] 57) = w' := by
  go_enter Try.func44, Try.ntmps44
  go_wp2
  go_ret
  exact ⟨ret_int (by go_num), rfl⟩

set_option maxRecDepth 100000 in
set_option maxHeartbeats 2000000 in
theorem spec_shareOf (a : Option Addr) (la ca : Nat) (ks : List Int) (f : List Nat) (g c p : Int) (w : World) (ha : intL.sl w a la ca ks f) :
    Calls Try.prog 16 #[.int .i64 g, .int .i64 c, .slice a la ca, .int .i64 p] w (NewRes byteL (shaRes g c ks p) w) := by
  have hla := intL.sl_max ha
  have HA := Lib.hid ha
  have HL := Lib.hid ha.1
  clear ha
  go_enter Try.func16, Try.ntmps16
  go_wp2_with fail
  refine (l3Shape_any g c _).mono ?_; rintro e w' ⟨rfl, rfl⟩
  cases h1 : (inB g 1 4 && inB c 0 2)
  · have HR := Lib.hid (show shaRes g c ks p = (3, []) by rw [shaRes, if_pos h1])
    clear h1
    go_wp2_with fail
    refine bodyPost_ret (v := .agg #[.int .i64 3, .slice none 0 0]) (by simp [results, Try.results16, go_sem]) rfl ?_
    exact NewRes.code byteL HR.out (by repeat (first | exact HC.out | exact Chg.refl _ _ | refine Chg.alloc ?_ _ | refine Chg.setCell ?_ _ _ (.inr (by simp)) | refine Chg.drew ?_))
  have HM1 := Lib.hid (show shaRes g c ks p = if pb (Rises (g + c - 1) ks) = false then (1, []) else if inB p 0 (g + c - 1) = false then (3, []) else if pb (p ∈ ks) = true then (7, [])
    else if (ks.length : Int) < g then (10, []) else (0, wtsL g.toNat (ks.take g.toNat) p ++ List.replicate (ks.length - g.toNat) 0) by rw [shaRes, if_neg (by rw [h1]; simp)])
  obtain ⟨hb1, hb2⟩ := Bool.and_eq_true_iff.1 h1
  obtain ⟨hg1, hg4⟩ := inB_true hb1
  obtain ⟨hc0, hc2⟩ := inB_true hb2
  clear h1 hb1 hb2
  go_wp2_with fail
  refine (l2Rise_any a la ca ks f (g + c - 1) _ (intL.sl_ext HA.out ((Chg.refl [] w).alloc _)) (by omega) (by omega)).mono ?_; rintro e w1 ⟨rfl, hc⟩
  have hB := hc.keep0 (new_alloc w _); have cB := cellsOf hB; have fB := freeOf hB; have lB := ltOf hB; have HB := Lib.hid hB
  have HC := Lib.hid (((Chg.refl [] w).alloc (.cells #[.int .i64 0, .slice none 0 0] 38)).trans0 hc)
  have HC0 := Lib.hid hc
  clear hc hB
  cases h2 : pb (Rises (g + c - 1) ks)
  · have HR := Lib.hid (show shaRes g c ks p = (1, []) by rw [HM1.out, if_pos h2])
    clear h2
    go_wp2_with fail
    refine bodyPost_ret (v := .agg #[.int .i64 1, .slice none 0 0]) (by simp [results, Try.results16, go_sem, cB]) rfl ?_
    exact NewRes.code byteL HR.out (by repeat (first | exact HC.out | exact Chg.refl _ _ | refine Chg.alloc ?_ _ | refine Chg.setCell ?_ _ _ (.inr (by simp)) | refine Chg.drew ?_))
  have HM2 := Lib.hid (HM1.out.trans (if_neg (by rw [h2]; simp)))
  have HRI := Lib.hid (show Rises (g + c - 1) ks from Classical.byContradiction (fun h => by rw [pb_false h] at h2; cases h2))
  clear h2 HM1
  go_wp2_with fail
  refine (l1In_any p 0 (g + c - 1) _).mono ?_; rintro e w' ⟨rfl, rfl⟩
  cases h3 : inB p 0 (g + c - 1)
  · have HR := Lib.hid (show shaRes g c ks p = (3, []) by rw [HM2.out, if_pos h3])
    clear h3
    go_wp2_with fail
    refine bodyPost_ret (v := .agg #[.int .i64 3, .slice none 0 0]) (by simp [results, Try.results16, go_sem, cB]) rfl ?_
    exact NewRes.code byteL HR.out (by repeat (first | exact HC.out | exact Chg.refl _ _ | refine Chg.alloc ?_ _ | refine Chg.setCell ?_ _ _ (.inr (by simp)) | refine Chg.drew ?_))
  have HM3 := Lib.hid (HM2.out.trans (if_neg (by rw [h3]; simp)))
  obtain ⟨hp0, hp1⟩ := inB_true h3
  clear h3 HM2
  go_wp2_with fail
  refine (l1Has_any a la ca ks f p _ (intL.sl_ext HA.out HC.out)).mono ?_; rintro e w' ⟨rfl, rfl⟩
  cases h4 : pb (p ∈ ks)
  rotate_left
  · have HR := Lib.hid (show shaRes g c ks p = (7, []) by rw [HM3.out, if_pos h4])
    clear h4
    go_wp2_with fail
    refine bodyPost_ret (v := .agg #[.int .i64 7, .slice none 0 0]) (by simp [results, Try.results16, go_sem, cB]) rfl ?_
    exact NewRes.code byteL HR.out (by repeat (first | exact HC.out | exact Chg.refl _ _ | refine Chg.alloc ?_ _ | refine Chg.setCell ?_ _ _ (.inr (by simp)) | refine Chg.drew ?_))
  have HM4 := Lib.hid (HM3.out.trans (if_neg (by rw [h4]; simp)))
  clear h4 HM3
  by_cases h5 : (la : Int) < g
  · have HR := Lib.hid (show shaRes g c ks p = (10, []) by rw [HM4.out, if_pos (by rw [← HL.out]; exact h5)])
    go_wp2_with fail
    refine bodyPost_ret (v := .agg #[.int .i64 10, .slice none 0 0]) (by simp [results, Try.results16, go_sem, cB]) rfl ?_
    exact NewRes.code byteL HR.out (by repeat (first | exact HC.out | exact Chg.refl _ _ | refine Chg.alloc ?_ _ | refine Chg.setCell ?_ _ _ (.inr (by simp)) | refine Chg.drew ?_))
  have HM5 := Lib.hid (HM4.out.trans (if_neg (by rw [← HL.out]; exact h5)))
  obtain ⟨n, rfl⟩ := Int.eq_ofNat_of_zero_le (by omega : 0 ≤ g)
  have HW := Lib.hid (wts_ok (p := p) (by omega) (by omega) hc2 HRI.out (by have := HL.out; omega))
  have hl6 : la ≤ 6 := by have := HRI.out.le; have := HL.out; rcases HRI.out.le with h | h <;> simp_all <;> omega
  have HR := Lib.hid (show shaRes n c ks p = (0, wtsL n (ks.take n) p ++ List.replicate (la - n) 0) by rw [HM5.out, HL.out]; rfl)
  clear HM4 HM5
  go_wp2_with fail
  refine (l3Share_any a la ca ks f n p _ (intL.sl_ext HA.out HC.out) (by omega) (by omega) (by omega) hl6 (Lib.hid (fun k hk => by have := HRI.out.at hk; omega)) hp0 (by omega) _ (Lib.hid HW.out.1) (Lib.hid HW.out.2)).mono ?_
  rintro e w3 ⟨a3, c3, f3, rfl, hs3, hf3, hc3⟩
  have hc4 := HC0.out.trans0 hc3
  have hB := hc3.keep0 HB.out
  clear cB fB lB
  have cB := cellsOf hB; have fB := freeOf hB; have lB := ltOf hB
  have HN := Lib.hid (fun w2 => NewRes.storeG (w2 := w2) HR.out hs3 (hf3.mono HC0.out.size) hc4)
  generalize (wtsL n (ks.take n) p ++ List.replicate (la - n) 0).length = lz at HN ⊢
  clear hs3 hf3 hc3 hB hc4
  go_wp2_with fail
  refine bodyPost_ret (v := .agg #[.int .i64 0, .slice a3 lz c3]) (by simp [results, Try.results16, go_sem, cB]) rfl ?_
  exact HN.out _ ⟨_, _, rfl⟩

set_option maxRecDepth 100000 in
set_option maxHeartbeats 2000000 in
theorem impl_shareOf (a : Option Addr) (la ca : Nat) (ks : List Int) (f : List Nat) (g c p : Int) (w : World) (ha : intL.sl w a la ca ks f) :
    Calls Try.prog 15 #[.int .i64 g, .int .i64 c, .slice a la ca, .int .i64 p] w (NewRes byteL (shaRes g c ks p) w) := by
  have hla := intL.sl_max ha
  have HA := Lib.hid ha
  have HL := Lib.hid ha.1
  clear ha
  go_enter Try.func15, Try.ntmps15
  go_wp2_with fail
  refine (colOk_any g c _).mono ?_; rintro e w' ⟨rfl, rfl⟩
  cases h1 : (inB g 1 4 && inB c 0 2)
  · have HR := Lib.hid (show shaRes g c ks p = (3, []) by rw [shaRes, if_pos h1])
    clear h1
    go_wp2_with fail
    refine bodyPost_ret (v := .agg #[.int .i64 3, .slice none 0 0]) (by simp [results, Try.results15, go_sem]) rfl ?_
    exact NewRes.code byteL HR.out (by repeat (first | exact HC.out | exact Chg.refl _ _ | refine Chg.alloc ?_ _ | refine Chg.setCell ?_ _ _ (.inr (by simp)) | refine Chg.drew ?_))
  have HM1 := Lib.hid (show shaRes g c ks p = if pb (Rises (g + c - 1) ks) = false then (1, []) else if inB p 0 (g + c - 1) = false then (3, []) else if pb (p ∈ ks) = true then (7, [])
    else if (ks.length : Int) < g then (10, []) else (0, wtsL g.toNat (ks.take g.toNat) p ++ List.replicate (ks.length - g.toNat) 0) by rw [shaRes, if_neg (by rw [h1]; simp)])
  obtain ⟨hb1, hb2⟩ := Bool.and_eq_true_iff.1 h1
  obtain ⟨hg1, hg4⟩ := inB_true hb1
  obtain ⟨hc0, hc2⟩ := inB_true hb2
  clear h1 hb1 hb2
  go_wp2_with fail
  refine (colAll_any g c (by omega) (by omega) (by omega) (by omega) _).mono ?_; rintro e w' ⟨rfl, rfl⟩
  go_wp2_with fail
  have HC3 := Lib.hid (((((Chg.refl [] w).alloc (.cells #[.int .i64 0, .slice none 0 0] 38)).alloc (.cells #[.int .i64 g, .int .i64 c] 57)).alloc (.cells #[.int .i64 g, .int .i64 c] 57)).alloc (.cells #[.int .i64 g, .int .i64 c] 57))
  refine (risesIn_any a la ca ks f (g + c) _ (intL.sl_ext HA.out HC3.out) (by omega) (by omega)).mono ?_; rintro e w1 ⟨rfl, hc⟩
  have hB := hc.keep0 (keep_alloc (keep_alloc (keep_alloc (new_alloc w _) _) _) _); have cB := cellsOf hB; have fB := freeOf hB; have lB := ltOf hB; have HB := Lib.hid hB
  have hK := hc.keep0 (b := w.heap.size + 1) (keep_alloc (keep_alloc (new_at (by simp) _) _) _); have cK := cellsOf hK; have lK := ltOf hK; have HK := Lib.hid hK
  have HC := Lib.hid (HC3.out.trans0 hc)
  clear hc hB hK HC3
  cases h2 : pb (Rises (g + c - 1) ks)
  · have HR := Lib.hid (show shaRes g c ks p = (1, []) by rw [HM1.out, if_pos h2])
    clear h2
    go_wp2_with fail
    refine bodyPost_ret (v := .agg #[.int .i64 1, .slice none 0 0]) (by simp [results, Try.results15, go_sem, cB]) rfl ?_
    exact NewRes.code byteL HR.out (by repeat (first | exact HC.out | exact Chg.refl _ _ | refine Chg.alloc ?_ _ | refine Chg.setCell ?_ _ _ (.inr (by simp)) | refine Chg.drew ?_))
  have HM2 := Lib.hid (HM1.out.trans (if_neg (by rw [h2]; simp)))
  have HRI := Lib.hid (show Rises (g + c - 1) ks from Classical.byContradiction (fun h => by rw [pb_false h] at h2; cases h2))
  clear h2 HM1
  go_wp2_with fail
  refine (colAll_any g c (by omega) (by omega) (by omega) (by omega) _).mono ?_; rintro e w' ⟨rfl, rfl⟩
  go_wp2_with fail
  refine (inside_any p 0 (g + c - 1) _).mono ?_; rintro e w' ⟨rfl, rfl⟩
  cases h3 : inB p 0 (g + c - 1)
  · have HR := Lib.hid (show shaRes g c ks p = (3, []) by rw [HM2.out, if_pos h3])
    clear h3
    go_wp2_with fail
    refine bodyPost_ret (v := .agg #[.int .i64 3, .slice none 0 0]) (by simp [results, Try.results15, go_sem, cB, lB]) rfl ?_
    exact NewRes.code byteL HR.out (by repeat (first | exact HC.out | exact Chg.refl _ _ | refine Chg.alloc ?_ _ | refine Chg.setCell ?_ _ _ (.inr (by simp)) | refine Chg.drew ?_))
  have HM3 := Lib.hid (HM2.out.trans (if_neg (by rw [h3]; simp)))
  obtain ⟨hp0, hp1⟩ := inB_true h3
  clear h3 HM2
  go_wp2_with fail
  refine (containsI_any a la ca ks f p _ (intL.sl_ext HA.out (HC.out.alloc _))).mono ?_; rintro e w' ⟨rfl, rfl⟩
  cases h4 : pb (p ∈ ks)
  rotate_left
  · have HR := Lib.hid (show shaRes g c ks p = (7, []) by rw [HM3.out, if_pos h4])
    clear h4
    go_wp2_with fail
    refine bodyPost_ret (v := .agg #[.int .i64 7, .slice none 0 0]) (by simp [results, Try.results15, go_sem, cB, lB]) rfl ?_
    exact NewRes.code byteL HR.out (by repeat (first | exact HC.out | exact Chg.refl _ _ | refine Chg.alloc ?_ _ | refine Chg.setCell ?_ _ _ (.inr (by simp)) | refine Chg.drew ?_))
  have HM4 := Lib.hid (HM3.out.trans (if_neg (by rw [h4]; simp)))
  clear h4 HM3
  go_wp2_with fail
  refine (sizeI2_any a la ca _).mono ?_; rintro e w' ⟨rfl, rfl⟩
  by_cases h5 : (la : Int) < g
  · have HR := Lib.hid (show shaRes g c ks p = (10, []) by rw [HM4.out, if_pos (by rw [← HL.out]; exact h5)])
    go_wp2_with fail
    refine bodyPost_ret (v := .agg #[.int .i64 10, .slice none 0 0]) (by simp [results, Try.results15, go_sem, cB, lB]) rfl ?_
    exact NewRes.code byteL HR.out (by repeat (first | exact HC.out | exact Chg.refl _ _ | refine Chg.alloc ?_ _ | refine Chg.setCell ?_ _ _ (.inr (by simp)) | refine Chg.drew ?_))
  have HM5 := Lib.hid (HM4.out.trans (if_neg (by rw [← HL.out]; exact h5)))
  obtain ⟨n, rfl⟩ := Int.eq_ofNat_of_zero_le (by omega : 0 ≤ g)
  have HW := Lib.hid (wts_ok (p := p) (by omega) (by omega) hc2 HRI.out (by have := HL.out; omega))
  have hl6 : la ≤ 6 := by have := HRI.out.le; have := HL.out; rcases HRI.out.le with h | h <;> simp_all <;> omega
  have HR := Lib.hid (show shaRes n c ks p = (0, wtsL n (ks.take n) p ++ List.replicate (la - n) 0) by rw [HM5.out, HL.out]; rfl)
  clear HM4 HM5
  go_wp2_with fail
  refine (share_any a la ca ks f n c p _ (intL.sl_ext HA.out (HC.out.alloc _)) (by omega) (by omega) (by omega) hl6 (Lib.hid (fun k hk => by have := HRI.out.at hk; omega)) hp0 (by omega) _ (Lib.hid HW.out.1) (Lib.hid HW.out.2)).mono ?_
  rintro e w3 ⟨a3, c3, f3, rfl, hs3, hf3, hc3⟩
  have hc4 := (HC.out.alloc _).trans0 hc3
  have hB := hc3.keep0 (keep_alloc HB.out _)
  clear cB fB lB cK lK
  have cB := cellsOf hB; have fB := freeOf hB; have lB := ltOf hB
  have hlb := ltOf HB.out
  have HN := Lib.hid (fun w2 => NewRes.storeB (w2 := w2) (B := w.heap.size) HR.out hs3 hf3 (by simp; omega) (by omega) hc4)
  generalize (wtsL n (ks.take n) p ++ List.replicate (la - n) 0).length = lz at HN ⊢
  clear hs3 hf3 hc3 hB hc4
  go_wp2_with fail
  refine bodyPost_ret (v := .agg #[.int .i64 0, .slice a3 lz c3]) (by simp [results, Try.results15, go_sem, cB]) rfl ?_
  exact HN.out _ ⟨_, _, rfl⟩

theorem shaRes_len (g c : Int) (ks : List Int) (p : Int) : (shaRes g c ks p).2.length ≤ 16 := by
  unfold shaRes
  split
  · simp
  · rename_i h1
    split
    · simp
    · rename_i h2
      split
      · simp
      · split
        · simp
        · split
          · simp
          · rename_i h5
            obtain ⟨hb1, hb2⟩ := Bool.and_eq_true_iff.1 (by simpa using h1 : (inB g 1 4 && inB c 0 2) = true)
            obtain ⟨hg1, hg4⟩ := inB_true hb1
            obtain ⟨hc0, hc2⟩ := inB_true hb2
            have hr : Rises (g + c - 1) ks := Classical.byContradiction (fun h => h2 (pb_false h))
            obtain ⟨n, rfl⟩ := Int.eq_ofNat_of_zero_le (by omega : 0 ≤ g)
            have hw := (wts_ok (p := p) (by omega) (by omega) hc2 hr (by omega)).2
            show (wtsL n (ks.take n) p ++ List.replicate (ks.length - n) 0).length ≤ 16
            rw [List.length_append, List.length_replicate, hw]
            rcases hr.le with h | h
            · omega
            · subst h; simp; omega
theorem impl_shareOf2 (a : Option Addr) (la ca : Nat) (ks : List Int) (f : List Nat) (g : Int) (_ : i64ok g) (c : Int) (_ : i64ok c) (p : Int) (_ : i64ok p) (w : World) (ha : intL.sl w a la ca ks f) :
    Calls Try.prog 15 #[.int .i64 g, .int .i64 c, .slice a la ca, .int .i64 p] w (NewRes byteL (shaRes g c ks p) w) := impl_shareOf a la ca ks f g c p w ha
theorem spec_shareOf2 (a : Option Addr) (la ca : Nat) (ks : List Int) (f : List Nat) (g : Int) (_ : i64ok g) (c : Int) (_ : i64ok c) (p : Int) (_ : i64ok p) (w : World) (ha : intL.sl w a la ca ks f) :
    Calls Try.prog 16 #[.int .i64 g, .int .i64 c, .slice a la ca, .int .i64 p] w (NewRes byteL (shaRes g c ks p) w) := spec_shareOf a la ca ks f g c p w ha
end Go.Proofs.Ytjnclggpaekdfaa
