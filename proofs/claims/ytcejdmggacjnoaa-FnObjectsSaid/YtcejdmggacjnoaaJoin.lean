
/- Lists joined: Concat, l2Join; JoinObject of the program and of the reference. -/
import Derived.Test.YtcejdmggacjnoaaReg
import Derived.Test.YtcejdmggacjnoaaIdc
import Derived.Test.YtcejdmggacjnoaaZer
import Derived.Test.YtcejdmggacjnoaaRfb
import Derived.Test.YtcejdmggacjnoaaStB
import Derived.Test.YtcejdmggacjnoaaEco
import Derived.Deep.RegionLaw
namespace Go.Proofs.Ytcejdmggacjnoaa
open Go.RowKit

theorem sumLen_flat : ∀ xs : List (List UInt8), (xs.flatten.length : Int) = sumLen xs
  | [] => rfl
  | x :: xs => by
    have := sumLen_flat xs
    rw [List.flatten_cons, List.length_append, Int.natCast_add, this]; rfl
theorem flat_next {xs : List (List UInt8)} {k : Nat} {x : List UInt8} (h : xs[k]? = some x) : (xs.take (k + 1)).flatten = (xs.take k).flatten ++ x := by
  rw [take_next h, List.flatten_append]; simp
theorem Lay.os_clear {α : Type} (L : Lay α) {E : TypeId} {w : World} {a : Option Addr} {n cap : Nat} {xs : List α} {h : Option Nat} {fps : List Nat} (ho : L.os E w (.slice a n cap) xs h fps) : L.os E w (.slice a 0 cap) [] h [] := by
  rcases ho with ⟨e, _, rfl, _⟩ | ⟨g, c, cur, e, rfl, hg, h1, h2, h3, hall, h4⟩
  · cases e; exact .inl ⟨rfl, rfl, rfl, rfl⟩
  · cases e; exact .inr ⟨g, cap, cur, rfl, rfl, hg, Nat.zero_le _, h2, h3, by simp [Lay.all], by simp⟩
theorem Grow.clear {E : TypeId} {w wr : World} {a : Option Addr} {n cap : Nat} {xs : List UInt8} (h : Grow byteL E w wr (.slice a n cap) xs) : Grow byteL E w wr (.slice a 0 cap) [] := by
  obtain ⟨hd, fps, ho, hf, hc⟩ := h
  refine ⟨hd, [], byteL.os_clear ho, ?_, hc⟩
  rw [List.append_nil]
  exact ⟨(List.nodup_append.1 hf.1).1, fun b hb => hf.2 b (List.mem_append.2 (.inl hb))⟩
theorem Lay.sl_take3 {α : Type} (L : Lay α) {w : World} {a : Option Addr} {len cap : Nat} {xs : List α} {fp : List Nat} (h : L.sl w a len cap xs fp) {n : Nat} (hn : n ≤ len) (h0 : 0 < n) {c : Nat} (hc : n ≤ c) (hcc : c ≤ cap) :
    ∃ f', f'.Sublist fp ∧ L.sl w a n c (xs.take n) f' := by
  obtain ⟨h1, h2, h3, h4, ⟨rfl, rfl⟩ | ⟨b, off, cur, E, fr, fps, rfl, hb, hall, rfl⟩⟩ := h
  · simp only [List.length_nil] at h1; omega
  · have hsp : L.all w ((cur.toList.drop off).take (len * L.n)) (xs.take n ++ xs.drop n) fps := by rw [List.take_append_drop]; exact hall
    obtain ⟨f1, f2, rfl, k1, k2⟩ := L.all_split hsp
    have hl : (xs.take n).length = n := by rw [List.length_take]; omega
    rw [hl, List.take_take, Nat.min_eq_left (Nat.mul_le_mul_right _ hn)] at k1
    exact ⟨b :: f1, List.Sublist.cons_cons _ (List.sublist_append_left _ _), hl.symm, hc, by omega, (fun h => by cases h), .inr ⟨b, off, cur, E, fr, f1, rfl, hb, k1, rfl⟩⟩
theorem Fresh.sub {B : Nat} {w : World} {f g : List Nat} (h : Fresh B w g) (hs : f.Sublist g) : Fresh B w f := ⟨h.1.sublist hs, fun b hb => h.2 b (hs.subset hb)⟩

set_option maxRecDepth 100000 in
set_option maxHeartbeats 1000000 in
theorem growB_any (n : Nat) (hn : n ≤ 1000000) (w : World) :
    Calls Try.prog 50 #[.slice none 0 0, .int .i64 n] w fun e w' => ∃ v, e = .returned v ∧ Grow byteL 5 w w' v [] := by
  obtain ⟨K, hKz⟩ := kindB
  by_cases h0 : n = 0
  · subst h0
    go_enter Try.func50, Try.ntmps50
    go_wp2
    go_ret
    exact ⟨_, rfl, Grow.nil (Chg.refl _ _)⟩
  · have HG0 := Lib.hid (Grow.nil (L := byteL) (E := 5) (Chg.refl [] w))
    have HMX : RowKit.Hid (([] : List UInt8).length + n ≤ maxLen ∧ (([] : List UInt8).length + n) * 1 ≤ 140737488355328) := by
      refine ⟨?_, ?_⟩ <;> (try simp only [maxLen]) <;> simp <;> omega
    go_enter Try.func50, Try.ntmps50
    go_wp2_with (at_builtin; refine byteL.wpList_growZ (x0 := 0) (kq := .i64) (kn := .i64) rfl _ _ 24 3 rfl Try.underlying24 Try.underlying3 K (fun _ => by rw [hKz]; exact ⟨rfl, rfl⟩) rfl HG0.out (Chg.refl [] w) n rfl HMX.out.1 HMX.out.2 ?_; intro v' w' hg'; obtain ⟨a6, c6, f6, rfl, hs6, -⟩ := hg'.sl; have hm6 := hs6.2.1; have HN := Lib.hid hg'; clear hg' hs6)
    go_ret
    exact ⟨_, rfl, HN.out.clear⟩

set_option maxRecDepth 100000 in
set_option maxHeartbeats 1000000 in
theorem concat_any (a : Option Addr) (la ca : Nat) (xs : List (List UInt8)) (f : List Nat) (w : World) (ha : byteL.slice.sl w a la ca xs f) (hz : sumLen xs ≤ 1000000) :
    Calls Try.prog 35 #[.slice a la ca] w fun e w' => ∃ v, e = .returned v ∧ Grow byteL 5 w w' v xs.flatten := by
  obtain ⟨K, _⟩ := kindB
  have hla := byteL.slice.sl_max ha
  have HA := Lib.hid ha
  have HL := Lib.hid ha.1
  clear ha
  have HSL := Lib.hid (fun k => And.intro (sumLen_nonneg (xs.take k)) (sumLen_take_le xs k))
  have HFL := Lib.hid (fun k => sumLen_flat (xs.take k))
  go_enter Try.func35, Try.ntmps35
  go_wp2
  go_loopw [3, 11] (fun vs vi wr => ∃ (k : Nat), k ≤ la ∧ vi = .int .i64 k ∧ (∃ z, z = sumLen (xs.take k) ∧ vs = .int .i64 z) ∧ w = wr) (fun _ vi _ => la - (intOf vi).toNat)
  case atStart => exact ⟨0, by omega, rfl, ⟨_, rfl, rfl⟩, rfl⟩
  case round =>
    obtain ⟨k, hk, rfl, ⟨z, hz0, rfl⟩, rfl⟩ := hrel
    have hz1 : 0 ≤ z := by rw [hz0]; exact (HSL.out k).1
    have hz2 : z ≤ 1000000 := by rw [hz0]; have := (HSL.out k).2; omega
    have HZ0 := Lib.hid hz0
    clear hz0
    by_cases hlt : k < la
    · obtain ⟨x, b, off, A, lx, C, fx, HX, rfl, hcx, HXS⟩ := slc_at HA.out hlt
      have HZN := Lib.hid (show z + (lx : Int) = sumLen (xs.take (k + 1)) by rw [sumLen_take HX.out.1, HZ0.out, HXS.out.1])
      have hz3 : z + (lx : Int) ≤ 1000000 := by rw [HZN.out]; have := (HSL.out (k + 1)).2; omega
      go_wp2_with fail
      go_roundw
      case rel => exact ⟨k + 1, by omega, by go_num, ⟨_, HZN.out, by go_num⟩, trivial⟩
      case measure => simp [intOf]; omega
    · obtain rfl : k = la := by omega
      obtain ⟨n, rfl⟩ := Int.eq_ofNat_of_zero_le hz1
      go_wp2_with fail
      refine (growB_any n (by omega) _).mono ?_
      rintro e w1 ⟨v1, rfl, hg1⟩
      have HG1 := Lib.hid hg1
      clear hg1
      go_wp2_with fail
      go_loopw [6, 27] (fun vo vi w2 => ∃ (j : Nat) (W2 : World), W2 = w2 ∧ j ≤ k ∧ vi = .int .i64 j ∧ Grow byteL 5 w w2 vo (xs.take j).flatten) (fun _ vi _ => k - (intOf vi).toNat)
      case atStart => exact ⟨0, _, rfl, by omega, rfl, by simpa using HG1.out⟩
      case round =>
        obtain ⟨j, w2, rfl, hj, rfl, hg2⟩ := hrel
        by_cases hlt2 : j < k
        · obtain ⟨x, b, off, A, lx, C, fx, HX, rfl, hcx, HXS⟩ := slc_at (byteL.slice.sl_ext HA.out hg2.chg) hlt2
          have HE := Lib.hid (flat_next HX.out.1)
          have HLL : RowKit.Hid ((xs.take j).flatten.length + x.length ≤ maxLen ∧ ((xs.take j).flatten.length + x.length) * 1 ≤ 140737488355328) := by
            have h1 := HFL.out (j + 1)
            rw [HE.out, List.length_append] at h1
            have h2 := (HSL.out (j + 1)).2
            refine ⟨?_, ?_⟩ <;> (try simp only [maxLen]) <;> omega
          have HG2 := Lib.hid hg2
          clear hg2
          go_wp2_with (at_builtin; refine byteL.wpList_growS byte_flat rfl _ _ 24 rfl Try.underlying24 K rfl HG2.out (Chg.refl [] w2) rfl HXS.out HLL.out.1 HLL.out.2 ?_; intro v' w' hg'; rw [← HE.out] at hg'; have HN := Lib.hid hg'; clear hg')
          go_roundw
          case rel => exact ⟨j + 1, _, rfl, by omega, by go_num, HN.out⟩
          case measure => simp [intOf]; omega
        · obtain rfl : j = k := by omega
          rw [List.take_of_length_le (by have := HL.out; omega)] at hg2
          have HN := Lib.hid hg2
          clear hg2
          go_wp2_with fail
          go_ret
          exact ⟨_, rfl, HN.out⟩

noncomputable def joinRes (s : Shp) (xs : List (List UInt8)) (n : Int) : Int × List UInt8 :=
  if (s.parts n).1 ≠ 0 then ((s.parts n).1, []) else if (xs.length : Int) ≠ (s.parts n).2 then (1, []) else if xs.any (fun x => decide ((x.length : Int) ≠ s.wide)) = true then (1, []) else (0, xs.flatten.take n.toNat)
theorem parts_ok {s : Shp} {n : Int} (h : (s.parts n).1 = 0) : s.ok ∧ 1 ≤ n ∧ n ≤ 36 ∧ 1 ≤ (s.parts n).2 ∧ (s.parts n).2 ≤ 3 ∧ n ≤ (s.parts n).2 * s.wide := by
  unfold Shp.parts at h ⊢
  by_cases hs : s.ok
  · rw [if_pos hs] at h ⊢
    have hd := hs.data
    refine ⟨hs, ?_⟩
    unfold Shp.wide
    generalize s.data = d at *
    unfold partsV at h ⊢
    split at h
    · simp at h
    · rename_i h1
      rw [if_neg h1]
      split at h
      · simp at h
      · rename_i h2
        rw [if_neg h2]
        show 1 ≤ n ∧ n ≤ 36 ∧ 1 ≤ (n + 4 * d - 1) / (4 * d) ∧ (n + 4 * d - 1) / (4 * d) ≤ 3 ∧ n ≤ (n + 4 * d - 1) / (4 * d) * (d * 4)
        have : d = 1 ∨ d = 2 ∨ d = 3 := by omega
        rcases this with rfl | rfl | rfl <;> omega
  · rw [if_neg hs] at h; simp at h
theorem flat_wide {m : Int} : ∀ {xs : List (List UInt8)}, (∀ x ∈ xs, (x.length : Int) = m) → (xs.flatten.length : Int) = xs.length * m
  | [], _ => by simp
  | x :: xs, h => by
    have h1 := flat_wide (xs := xs) (fun y hy => h y (by simp [hy]))
    have h2 := h x (by simp)
    rw [List.flatten_cons, List.length_append, Int.natCast_add, h1, h2, List.length_cons, Int.natCast_add, Int.add_mul]; omega
theorem join_long {s : Shp} {xs : List (List UInt8)} {n v : Int} (hs : s.ok) (hv : (xs.length : Int) = v) (hv3 : v ≤ 3) (hn : n ≤ v * s.wide) (h : ∀ x ∈ xs, (x.length : Int) = s.wide) : n ≤ xs.flatten.length ∧ sumLen xs ≤ 1000000 := by
  have h1 := flat_wide h
  have h2 := sumLen_flat xs
  have h3 := hs.wide
  rw [hv] at h1
  refine ⟨by rw [h1]; exact hn, ?_⟩
  rw [← h2, h1]
  have h4 : v * s.wide ≤ 3 * s.wide := Int.mul_le_mul_of_nonneg_right hv3 (by omega)
  omega
theorem cf_join : ∀ (args : Array Value) (w : World), (callFunc 33 args).run Try.prog w = .ok (.enter 33 args) w := fun _ _ => by go_simp
set_option maxRecDepth 100000 in
set_option maxHeartbeats 1000000 in
theorem join1_any (s : Shp) (hs : s.ok) (B lx : Nat) (A : Option Addr) (C : Nat) (hx : lx ≤ 9223372036854775807) (w : World) (hB : w.heap[B]? = some (.cells s.cells 29 (0, 0))) :
    Calls Try.prog 33 #[.slice A lx C, .pointer (some ⟨B, 0, none⟩)] w fun e w' => e = .returned (.bool (decide ((lx : Int) ≠ s.wide))) ∧ Chg [] w w' := by
  have HW := Lib.hid (rowLength_any s hs)
  have hwd := hs.wide
  generalize s.wide = m at HW hwd ⊢
  have e1 : ((lx : Int) != m) = decide ((lx : Int) ≠ m) := by
    by_cases h : (lx : Int) = m
    · rw [h]; simp
    · rw [decide_eq_true h, bne_iff_ne]; exact h
  clear hs
  obtain ⟨g, c, d, p, r', q, b, u, t⟩ := s
  simp only [Shp.cells] at HW hB
  have cB := cellsOf hB; have lB := ltOf hB
  clear hB
  go_enter Try.func33, Try.ntmps33
  go_wp2_with fail
  go_region_law (first
    | (go_simp; go_at_call 21; refine (sizeB_any _ _ _ _ hx).mono ?_; rintro e w' ⟨rfl, rfl⟩)
    | (go_simp; go_at_call 34; refine (HW.out _).mono ?_; rintro e w2 ⟨rfl, hc⟩; have HC := Lib.hid hc; clear hc))
  all_goals
    go_wp2_with fail
    go_ret
    refine ⟨ret_bool (by simp), ?_⟩
    exact (Chg.refl [] w).drew.trans0 HC.out
set_option maxRecDepth 100000 in
set_option maxHeartbeats 2000000 in
theorem impl_joinO (s : Shp) (a : Option Addr) (la ca : Nat) (xs : List (List UInt8)) (f : List Nat) (n : Int) (hn : i64ok n) (w : World) (ha : byteL.slice.sl w a la ca xs f) :
    Calls Try.prog 16 #[.agg s.cells, .slice a la ca, .int .i64 n] w (NewRes byteL (joinRes s xs n) w) := by
  have hla := byteL.slice.sl_max ha
  have HA := Lib.hid ha
  have HL := Lib.hid ha.1
  clear ha
  have HP := Lib.hid (@impl_partsFor s n hn)
  have HPO := Lib.hid (@parts_ok s n)
  have HM := Lib.hid (show joinRes s xs n = if (s.parts n).1 ≠ 0 then ((s.parts n).1, []) else if (xs.length : Int) ≠ (s.parts n).2 then (1, []) else if xs.any (fun x => decide ((x.length : Int) ≠ s.wide)) = true then (1, []) else (0, xs.flatten.take n.toNat) from rfl)
  generalize (s.parts n).1 = k at HP HPO HM
  generalize (s.parts n).2 = v at HP HPO HM
  have HJ := Lib.hid (@join1_any s)
  have HJL := Lib.hid (fun (hs : s.ok) => @join_long s xs n v hs)
  obtain ⟨m, hm⟩ : ∃ m, m = s.wide := ⟨_, rfl⟩
  rw [← hm] at HM HPO
  simp only [← hm] at HJ HJL
  clear hm
  generalize hok : s.ok = okp at HPO HJ HJL
  clear hok
  generalize hJR : joinRes s xs n = JR at HM ⊢
  clear hJR
  obtain ⟨g, c, d, p, r', q, b, u, t⟩ := s
  simp only [Shp.cells] at HP HJ ⊢
  by_cases h1 : k = 0
  · subst h1
    have HM2 := Lib.hid (HM.out.trans (if_neg (by simp)))
    obtain ⟨hok, hn1, hn2, hv1, hv2, hnv⟩ := HPO.out rfl
    have HOK := Lib.hid hok; have HNV := Lib.hid hnv
    clear HM hok hnv HPO
    obtain ⟨nn, rfl⟩ := Int.eq_ofNat_of_zero_le (by omega : 0 ≤ n)
    go_enter Try.func16, Try.ntmps16
    go_wp2_with fail
    refine (HP.out _).mono ?_; rintro e w1 ⟨rfl, hc⟩
    have hS := hc.keep0 (keep_alloc (new_alloc w _) _); have HS := Lib.hid hS
    have hB := hc.keep0 (b := w.heap.size + 1) (new_at (by simp) _); have cB := cellsOf hB; have fB := freeOf hB; have lB := ltOf hB; have HB := Lib.hid hB
    have HC := Lib.hid ((((Chg.refl [] w).alloc _).alloc _).trans0 hc)
    have hI := new_alloc w1 (.cells #[.int .i64 0, .int .i64 v] 44)
    have HI := Lib.hid (show (w1.alloc (.cells #[.int .i64 0, .int .i64 v] 44)).drew.heap[w1.heap.size]? = some (.cells #[.int .i64 0, .int .i64 v] 44 (0, 0)) from hI)
    have HC1 := Lib.hid ((HC.out.alloc (.cells #[.int .i64 0, .int .i64 v] 44)).drew)
    have HS1 := Lib.hid (keep_drew (keep_alloc hS (.cells #[.int .i64 0, .int .i64 v] 44)))
    have HB1 := Lib.hid (keep_drew (keep_alloc hB (.cells #[.int .i64 0, .int .i64 v] 44)))
    clear hc hS hB hI
    by_cases h2 : (la : Int) = v
    · have h2' : ((la : Int) != v) = false := by rw [h2]; simp
      have HLV := Lib.hid h2
      clear h2
      obtain ⟨rb, hrb⟩ : ∃ rb, rb = xs.any (fun x => decide ((x.length : Int) ≠ m)) := ⟨_, rfl⟩
      have HCT := Lib.hid (contCl_any 33 #[.pointer (some ⟨w.heap.size, 0, none⟩)] (fun x => decide ((x.length : Int) ≠ m)) a la ca xs f _ (byteL.slice.sl_ext HA.out HC1.out) cf_join (fun x A C f w2 _ h2 h3 => HJ.out HOK.out w.heap.size x.length A C (byteL.sl_max h3) w2 (h2.keep0 HS1.out)))
      rw [← hrb] at HCT
      have HRB := Lib.hid hrb
      have HM3 := Lib.hid (HM2.out.trans (if_neg (by rw [← HL.out]; intro h; exact h HLV.out)))
      rw [← hrb] at HM3
      clear hrb HM2
      go_wp2_with fail
      obtain ⟨SS1, HSI1, HSO1⟩ := rg_cond (fun w' => Know w1.heap.size #[.int .i64 0, .int .i64 v] w')
      have hS0 := HSI1.out (w1.alloc (.cells #[.int .i64 0, .int .i64 v] 44)).drew (Know.of HI.out)
      refine rg_start SS1 (by kernel_rfl) hS0 ?_
      refine rgT 0 hS0 ?_
      refine rgT 2 hS0 ?_
      refine rgL 3 hS0 HSO1 ?_
      refine rg_call 1 rfl (by kernel_rfl) (fun K hK => ?_)
      go_simp
      go_at_call 31
      refine (sizeL_any a la ca _ (by omega)).mono ?_; rintro e w' ⟨rfl, rfl⟩
      go_wp2_with fail
      refine hK.out _ _ (HSI1.out _ (Know.of HI.out)) (fun hS1 => ?_)
      clear hK K
      try simp only [Act.put, List.setIfInBounds_toArray, List.set_cons_zero, List.set_cons_succ]
      refine rgT 4 hS1 ?_
      refine rgT 5 hS1 ?_
      refine rgT 6 hS1 ?_
      refine rgT 7 hS1 ?_
      refine rg_call 8 rfl (by kernel_rfl) (fun K hK => ?_)
      go_simp
      go_at_call 32
      refine HCT.out.mono ?_; rintro e w3 ⟨rfl, hc3⟩
      have HI3 := Lib.hid (hc3.keep0 HI.out); have HB3 := Lib.hid (hc3.keep0 HB1.out); have HC3 := Lib.hid (HC1.out.trans0 hc3); clear hc3
      go_wp2_with fail
      refine hK.out _ _ (HSI1.out _ (Know.of HI3.out)) (fun hS2 => ?_)
      clear hK K
      try simp only [Act.put, List.setIfInBounds_toArray, List.set_cons_zero, List.set_cons_succ]
      refine rgT 9 hS2 ?_
      refine rgT 10 hS2 ?_
      refine wpAnyH_done (by kernel_rfl) ?_ _
      have cI3 := cellsOf HI3.out; have lI3 := ltOf HI3.out
      clear cB fB lB
      have cB := cellsOf HB3.out; have fB := freeOf HB3.out; have lB := ltOf HB3.out
      have HC := HC3
      cases rb
      · have HALL := Lib.hid (show ∀ x ∈ xs, (x.length : Int) = m from fun x hx => by
          have := List.any_eq_false.1 HRB.out.symm x hx
          simpa using this)
        have HJL2 := Lib.hid (HJL.out HOK.out (by rw [← HL.out]; exact HLV.out) hv2 HNV.out HALL.out)
        have hjl : nn ≤ xs.flatten.length := by have := HJL2.out.1; omega
        have HR := Lib.hid (show JR = (0, xs.flatten.take nn) from HM3.out.trans (if_neg (by simp)))
        clear HM3
        go_wp2_with fail
        refine (concat_any a la ca xs f _ (byteL.slice.sl_ext HA.out HC.out) HJL2.out.2).mono ?_
        rintro e w4 ⟨v4, rfl, hg4⟩
        obtain ⟨a4, c4, f4, rfl, hs4, hf4, hc4⟩ := hg4.sl
        obtain ⟨_, _, b4, o4, _, rfl, _, _, _⟩ := byte_at hs4 (show 0 < xs.flatten.length by omega)
        obtain ⟨f5, hsub, hs5⟩ := byteL.sl_take3 hs4 hjl (by omega) (Nat.le_refl _) (Nat.le_trans hjl hs4.2.1)
        have hc5 := hs4.2.1
        have hB4 := hc4.keep0 HB3.out
        clear cB fB lB cI3 lI3
        have cB := cellsOf hB4; have fB := freeOf hB4; have lB := ltOf hB4
        have HT := Lib.hid (show (xs.flatten.take nn).length = nn by rw [List.length_take]; omega)
        have hlb := ltOf HB3.out
        have HN := Lib.hid (fun w2 => NewRes.storeB (w2 := w2) (B := w.heap.size + 1) HR.out (show byteL.sl w4 (some ⟨b4, o4, none⟩) (xs.flatten.take nn).length nn (xs.flatten.take nn) f5 by rw [HT.out]; exact hs5) (hf4.sub hsub) hlb (by omega) (HC.out.trans0 hc4))
        rw [HT.out] at HN
        generalize xs.flatten.length = LF at hjl hc5 ⊢
        clear hs4 hf4 hc4 hB4 hs5 hsub hg4 HT HALL HJL2
        go_wp2_with fail
        refine bodyPost_ret (v := .agg #[.int .i64 0, .slice (some ⟨b4, o4, none⟩) nn nn]) (by simp [results, Try.results16, go_sem, cB]) rfl ?_
        exact HN.out _ ⟨_, _, rfl⟩
      · have HR := Lib.hid (HM3.out.trans (if_pos rfl))
        go_wp2_with fail
        refine bodyPost_ret (v := .agg #[.int .i64 1, .slice none 0 0]) (by simp [results, Try.results16, go_sem, cB]) rfl ?_
        exact NewRes.code byteL HR.out (by repeat (first | exact HC.out | exact Chg.refl _ _ | refine Chg.alloc ?_ _ | refine Chg.setCell ?_ _ _ (.inr (by simp)) | refine Chg.drew ?_))
    · have h2' : ((la : Int) != v) = true := by rw [bne_iff_ne]; exact h2
      have HR := Lib.hid (HM2.out.trans (if_pos (by rw [← HL.out]; exact h2)))
      clear h2 HM2
      go_wp2_with fail
      obtain ⟨SS1, HSI1, HSO1⟩ := rg_cond (fun w' => Know w1.heap.size #[.int .i64 0, .int .i64 v] w')
      have hS0 := HSI1.out (w1.alloc (.cells #[.int .i64 0, .int .i64 v] 44)).drew (Know.of HI.out)
      refine rg_start SS1 (by kernel_rfl) hS0 ?_
      refine rgT 0 hS0 ?_
      refine rgT 2 hS0 ?_
      refine rgL 3 hS0 HSO1 ?_
      refine rg_call 1 rfl (by kernel_rfl) (fun K hK => ?_)
      go_simp
      go_at_call 31
      refine (sizeL_any a la ca _ (by omega)).mono ?_; rintro e w' ⟨rfl, rfl⟩
      go_wp2_with fail
      refine hK.out _ _ (HSI1.out _ (Know.of HI.out)) (fun hS1 => ?_)
      clear hK K
      try simp only [Act.put, List.setIfInBounds_toArray, List.set_cons_zero, List.set_cons_succ]
      refine rgT 4 hS1 ?_
      refine rgT 5 hS1 ?_
      refine rgS 6 hS1 ?_
      refine rgS 7 hS1 ?_
      refine rgS 8 hS1 ?_
      refine rgT 9 hS1 ?_
      refine rgT 10 hS1 ?_
      refine wpAnyH_done (by kernel_rfl) ?_ _
      go_wp2_with fail
      refine bodyPost_ret (v := .agg #[.int .i64 1, .slice none 0 0]) (by simp [results, Try.results16, go_sem, cB, lB]) rfl ?_
      exact NewRes.code byteL HR.out (by repeat (first | exact HC.out | exact Chg.refl _ _ | refine Chg.alloc ?_ _ | refine Chg.setCell ?_ _ _ (.inr (by simp)) | refine Chg.drew ?_))
  · have h1' : (k != 0) = true := by rw [bne_iff_ne]; exact h1
    have HR := Lib.hid (HM.out.trans (if_pos h1))
    clear h1 HM HPO
    go_enter Try.func16, Try.ntmps16
    go_wp2_with fail
    refine (HP.out _).mono ?_; rintro e w1 ⟨rfl, hc⟩
    have hB := hc.keep0 (b := w.heap.size + 1) (new_at (by simp) _); have cB := cellsOf hB; have fB := freeOf hB; have lB := ltOf hB
    have HC := Lib.hid ((((Chg.refl [] w).alloc _).alloc _).trans0 hc)
    clear hc hB
    go_wp2_with fail
    refine bodyPost_ret (v := .agg #[.int .i64 k, .slice none 0 0]) (by simp [results, Try.results16, go_sem, cB, lB]) rfl ?_
    exact NewRes.code byteL HR.out (by repeat (first | exact HC.out | exact Chg.refl _ _ | refine Chg.alloc ?_ _ | refine Chg.setCell ?_ _ _ (.inr (by simp)) | refine Chg.drew ?_))

theorem joinRes_len (s : Shp) (xs : List (List UInt8)) (n : Int) : (joinRes s xs n).2.length ≤ 36 := by
  unfold joinRes
  split
  · simp
  · rename_i h1
    have h2 := (parts_ok (by simpa using h1 : (s.parts n).1 = 0)).2.2.1
    split
    · simp
    · split
      · simp
      · show (xs.flatten.take n.toNat).length ≤ 36
        rw [List.length_take]; omega
theorem impl_joinO2 (s : Shp) (a : Option Addr) (la ca : Nat) (xs : List (List UInt8)) (f : List Nat) (n : Int) (hn : i64ok n) (w : World) (ha : byteL.slice.sl w a la ca xs f) :
    Calls Try.prog 16 #[.agg s.cells, .slice a la ca, .int .i64 n] w (NewRes byteL (joinRes s xs n) w) := impl_joinO s a la ca xs f n hn w ha
end Go.Proofs.Ytcejdmggacjnoaa
