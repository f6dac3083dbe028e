
/- The draws of chapter 3: the sides of a column, the arguments of ShareOf. -/
import Derived.Test.YtjnclggpaekdfaaDr2
import Derived.Test.YtjnclggpaekdfaaGrc
namespace Go.Proofs.Ytjnclggpaekdfaa
open Go.RowKit

/-- what the sides are -/
def Sides (b : Nat) (a : Option Addr) (la ca : Nat) (xs : List UInt8) (f : List Nat) (t : Int) (w0 : World) (e : Ending) (w' : World) : Prop :=
  ∃ g c : Int, e = .returned (.tuple #[.int .i64 g, .int .i64 c]) ∧ (-1 ≤ g ∧ g ≤ 5) ∧ (-1 ≤ c ∧ c ≤ 3) ∧ SrcB b a la ca xs f (t + 3) w' ∧ Chg [b] w0 w'
set_option maxHeartbeats 1000000 in
theorem sides_any (b : Nat) (a : Option Addr) (la ca : Nat) (xs : List UInt8) (f : List Nat) (t : Int) (w : World) (h : SrcB b a la ca xs f t w) (ht : t ≤ 1073741600) :
    Calls Try.prog 27 #[.pointer (some ⟨b, 0, none⟩)] w (Sides b a la ca xs f t w) := by
  have HS := Lib.hid h
  clear h
  go_enter Try.func27, Try.ntmps27
  go_wp2_with fail
  refine (chance_any b a la ca xs f t 24 _ HS.out (by omega) (by omega) (by omega)).mono ?_
  rintro e w1 ⟨v, rfl, hs1, hc1⟩
  have HS1 := Lib.hid hs1; have HC1 := Lib.hid hc1
  clear hs1 hc1
  cases v
  · go_wp2_with fail
    refine (next_any b a la ca xs f (t + 1) 4 _ HS1.out (by omega) (by omega) (by omega)).mono ?_
    rintro e w2 ⟨v2, rfl, hd2, hs2, hc2⟩
    have HS2 := Lib.hid hs2; have HC2 := Lib.hid (HC1.out.trans hc2 (fun x hx => .inl hx))
    have hb0 := hd2.1; have hb1 := hd2.2.1 (by omega)
    clear hs2 hc2 hd2
    go_wp2_with fail
    refine (next_any b a la ca xs f (t + 1 + 1) 3 _ HS2.out (by omega) (by omega) (by omega)).mono ?_
    rintro e w3 ⟨v3, rfl, hd3, hs3, hc3⟩
    have HS3 := Lib.hid hs3; have HC3 := Lib.hid (HC2.out.trans hc3 (fun x hx => .inl hx))
    have hb2 := hd3.1; have hb3 := hd3.2.1 (by omega)
    clear hs3 hc3 hd3
    go_wp2_with fail
    go_ret2
    exact ⟨1 + v2, v3, rfl, by omega, by omega, HS3.out.mono (by omega), HC3.out⟩
  · go_wp2_with fail
    refine (pickN_any b a la ca xs f (t + 1) 4 [0, 5, 4, -1] w1 HS1.out (by omega) (by simp [i64ok]) rfl (by omega) (by omega) _ rfl _ rfl).mono ?_
    rintro e w2 ⟨v2, rfl, hd2, hs2, hc2⟩
    have HS2 := Lib.hid hs2; have HC2 := Lib.hid (HC1.out.trans hc2 (fun x hx => .inl hx))
    have hb0 : -1 ≤ v2 ∧ v2 ≤ 5 := by simp at hd2; omega
    clear hs2 hc2 hd2
    go_wp2_with fail
    refine (pickN_any b a la ca xs f (t + 1 + 1) 4 [0, 3, 2, -1] w2 HS2.out (by omega) (by simp [i64ok]) rfl (by omega) (by omega) _ rfl _ rfl).mono ?_
    rintro e w3 ⟨v3, rfl, hd3, hs3, hc3⟩
    have HS3 := Lib.hid hs3; have HC3 := Lib.hid (HC2.out.trans hc3 (fun x hx => .inl hx))
    have hb2 : -1 ≤ v3 ∧ v3 ≤ 3 := by simp at hd3; omega
    clear hs3 hc3 hd3
    go_wp2_with fail
    go_ret2
    exact ⟨v2, v3, rfl, hb0, hb2, HS3.out.mono (by omega), HC3.out⟩
set_option maxHeartbeats 400000 in
theorem l1Max_any (x y : Int) (w : World) : Calls Try.prog 46 #[.int .i64 x, .int .i64 y] w fun e w' => e = .returned (.int .i64 (if y < x then x else y)) ∧ w = w' := by
  by_cases h : y < x
  · skip
    go_enter Try.func46, Try.ntmps46
    go_wp2
    go_ret
    exact ⟨rfl, rfl⟩
  · skip
    go_enter Try.func46, Try.ntmps46
    go_wp2
    go_ret
    exact ⟨rfl, rfl⟩
/-- the arguments that are drawn for ShareOf -/
def ShareDraw (w0 : World) (e : Ending) (w' : World) : Prop :=
  ∃ (g c p : Int) (A : Option Addr) (C : Nat) (ks : List Int) (fk : List Nat), e = .returned (.tuple #[.int .i64 g, .int .i64 c, .slice A ks.length C, .int .i64 p]) ∧ (-1 ≤ g ∧ g ≤ 5) ∧ (-1 ≤ c ∧ c ≤ 3) ∧ (-1 ≤ p ∧ p ≤ 100) ∧ ks.length ≤ 100 ∧ intL.sl w' A ks.length C ks fk ∧ Chg [] w0 w'
set_option maxRecDepth 100000 in
set_option maxHeartbeats 4000000 in
theorem drawShare_any (a : Option Addr) (la ca : Nat) (xs : List UInt8) (f : List Nat) (w : World) (ha : byteL.sl w a la ca xs f) (hla : la ≤ 1048576) :
    Calls Try.prog 14 #[.slice a la ca] w (ShareDraw w) := by
  obtain ⟨KI, _⟩ := kindI
  have HA := Lib.hid ha
  clear ha
  go_enter Try.func14, Try.ntmps14
  go_wp2_with fail
  refine (source_any a la ca xs f _ HA.out hla).mono ?_
  rintro e w1 ⟨rfl, hs1, hc1⟩
  have HS1 := Lib.hid hs1; have HC1 := Lib.hid hc1
  obtain ⟨b, hb⟩ : ∃ b, b = w.heap.size := ⟨_, rfl⟩
  rw [← hb] at HS1 ⊢
  have HB := Lib.hid hb
  clear hs1 hc1 hb
  go_wp2_with fail
  refine (sides_any b a la ca xs f 0 _ HS1.out (by omega)).mono ?_
  rintro e w2 ⟨g, c, rfl, hg, hc, hs2, hc2⟩
  have HS2 := Lib.hid hs2
  have HC2 := Lib.hid (show Chg [] w w2 from HC1.out.trans hc2 (fun x hx => .inr (by rw [List.mem_singleton] at hx; have := HB.out; omega)))
  clear hs2 hc2
  go_wp2_with fail
  refine (l1Max_any 1 (g + c) _).mono ?_
  rintro e w' ⟨rfl, rfl⟩
  obtain ⟨n, hn⟩ : ∃ n, n = if g + c < 1 then 1 else g + c := ⟨_, rfl⟩
  rw [← hn]
  have hn1 : 1 ≤ n ∧ n ≤ 8 := by rw [hn]; split <;> omega
  clear hn
  go_wp2_with fail
  refine (next_any b a la ca xs f (0 + 3) n _ HS2.out (by omega) (by omega) (by omega)).mono ?_
  rintro e w3 ⟨v, rfl, hd3, hs3, hc3⟩
  have hv0 := hd3.1; have hv1 := hd3.2.1 (by omega)
  have HS3 := Lib.hid hs3
  have HC3 := Lib.hid (show Chg [] w w3 from HC2.out.trans hc3 (fun x hx => .inr (by rw [List.mem_singleton] at hx; have := HB.out; omega)))
  have hbl := hs3.lt
  have hw3 : w.heap.size ≤ w3.heap.size := HC3.out.size
  clear hs3 hc3 hd3
  go_wp2_with fail
  go_loopw [11, 12] (fun vo vi wr => ∃ (k : Nat) (ks : List Int) (Wr : World), Wr = wr ∧ (k : Int) ≤ n ∧ vi = .int .i64 k ∧ ks.length ≤ k ∧ GrowC intL 2 w3.heap.size wr vo ks ∧ SrcB b a la ca xs f (4 + 2 * k) wr ∧ Chg [] w wr ∧ w3.heap.size ≤ wr.heap.size) (fun _ vi _ => 8 - (intOf vi).toNat)
  case atStart => exact ⟨0, [], _, rfl, by omega, rfl, by simp, GrowC.made (Nat.le_refl _), (HS3.out.ext ((Chg.refl [] w3).alloc _)).mono (by omega), HC3.out.alloc _, by simp⟩
  case round =>
    obtain ⟨k, ks, wr, rfl, hk, rfl, hkl, hgr, hsr, hcr, hsz⟩ := hrel
    have HG := Lib.hid hgr; have HSR := Lib.hid hsr; have HCR := Lib.hid hcr
    have hblr := hsr.lt
    have HBS := Lib.hid (show ∀ x ∈ [b], x < w3.heap.size from fun x hx => by rw [List.mem_singleton] at hx; omega)
    have HCS := Lib.hid (fun (w5 : World) (h : Chg [b] wr w5) => (show Chg [] w w5 from HCR.out.trans h (fun x hx => .inr (by rw [List.mem_singleton] at hx; have := HB.out; omega))))
    clear hgr hsr hcr
    by_cases hlt : (k : Int) < n
    · have HLL := Lib.hid (show ks.length + [(k : Int)].length ≤ maxLen ∧ (ks.length + [(k : Int)].length) * 8 ≤ 140737488355328 by simp only [List.length_singleton, maxLen]; omega)
      have HKO := Lib.hid (show i64ok (k : Int) from by constructor <;> omega)
      by_cases hkw : (k : Int) = v
      · subst hkw
        go_wp2_with fail
        refine (chance_any b a la ca xs f (4 + 2 * k) 30 _ HSR.out (by omega) (by omega) (by omega)).mono ?_
        rintro e w5 ⟨u, rfl, hs5, hc5⟩
        have HS5 := Lib.hid hs5; have HC5 := Lib.hid (HCS.out _ hc5); have HG5 := Lib.hid (HG.out.chg hc5 HBS.out); have hz5 := Nat.le_trans hsz hc5.size
        clear hs5 hc5
        cases u
        · go_wp2_with fail
          go_roundw
          case rel => exact ⟨k + 1, ks, _, rfl, by omega, by go_num, by omega, HG5.out, HS5.out.mono (by omega), HC5.out, hz5⟩
          case measure => simp [intOf]; omega
        · go_wp2_with (at_builtin; refine GrowB.wpList (L := intL) rfl _ _ 34 rfl Try.underlying34 KI rfl (HG5.out.b.ext ((Chg.refl [] w5).alloc (.cells #[.int .i64 k] 2))) ⟨w5.heap.size, 0, none⟩ 1 1 [.int .i64 k] (ys := [(k : Int)]) (f := []) rfl rfl (new_cell w5 (.int .i64 k) 2) (intL.all_single ⟨rfl, HKO.out, rfl⟩) (Fresh.nil _ _) HLL.out.1 HLL.out.2 ?_; intro v' w6 hg' hup; have HG6 := Lib.hid hg'; have HU := Lib.hid hup; clear hg' hup)
          go_roundw
          case rel => exact ⟨k + 1, ks ++ [(k : Int)], _, rfl, by omega, by go_num, by simp; omega, HG6.out, ((HS5.out.ext ((Chg.refl [] w5).alloc (.cells #[.int .i64 k] 2))).keep (n := w3.heap.size) HU.out.low hbl (fun x hx => by have := HSR.out; have h2 := byteL.sl_lt HA.out x hx; have := HB.out; omega)).mono (by omega), HU.out.chg (HC5.out.alloc _) hw3, Nat.le_trans hz5 (Nat.le_trans (by simp) HU.out.size)⟩
          case measure => simp [intOf]; omega
      · go_wp2_with fail
        refine (chance_any b a la ca xs f (4 + 2 * k) 6 _ HSR.out (by omega) (by omega) (by omega)).mono ?_
        rintro e w5 ⟨u, rfl, hs5, hc5⟩
        have HS5 := Lib.hid hs5; have HC5 := Lib.hid (HCS.out _ hc5); have HG5 := Lib.hid (HG.out.chg hc5 HBS.out); have hz5 := Nat.le_trans hsz hc5.size
        have HCS5 := Lib.hid (fun (w7 : World) (h : Chg [b] w5 w7) => (show Chg [] w w7 from HC5.out.trans h (fun x hx => .inr (by rw [List.mem_singleton] at hx; have := HB.out; omega))))
        clear hs5 hc5
        cases u
        · go_wp2_with (at_builtin; refine GrowB.wpList (L := intL) rfl _ _ 34 rfl Try.underlying34 KI rfl (HG5.out.b.ext ((Chg.refl [] w5).alloc (.cells #[.int .i64 k] 2))) ⟨w5.heap.size, 0, none⟩ 1 1 [.int .i64 k] (ys := [(k : Int)]) (f := []) rfl rfl (new_cell w5 (.int .i64 k) 2) (intL.all_single ⟨rfl, HKO.out, rfl⟩) (Fresh.nil _ _) HLL.out.1 HLL.out.2 ?_; intro v' w6 hg' hup; have HG6 := Lib.hid hg'; have HU := Lib.hid hup; clear hg' hup)
          go_roundw
          case rel => exact ⟨k + 1, ks ++ [(k : Int)], _, rfl, by omega, by go_num, by simp; omega, HG6.out, ((HS5.out.ext ((Chg.refl [] w5).alloc (.cells #[.int .i64 k] 2))).keep (n := w3.heap.size) HU.out.low hbl (fun x hx => by have h2 := byteL.sl_lt HA.out x hx; have := HB.out; omega)).mono (by omega), HU.out.chg (HC5.out.alloc _) hw3, Nat.le_trans hz5 (Nat.le_trans (by simp) HU.out.size)⟩
          case measure => simp [intOf]; omega
        · go_wp2_with fail
          refine (chance_any b a la ca xs f (4 + 2 * k + 1) 30 _ HS5.out (by omega) (by omega) (by omega)).mono ?_
          rintro e w7 ⟨u, rfl, hs7, hc7⟩
          have HS7 := Lib.hid hs7; have HC7 := Lib.hid (HCS5.out _ hc7); have HG7 := Lib.hid (HG5.out.chg hc7 HBS.out); have hz7 := Nat.le_trans hz5 hc7.size
          clear hs7 hc7
          cases u
          · go_wp2_with fail
            go_roundw
            case rel => exact ⟨k + 1, ks, _, rfl, by omega, by go_num, by omega, HG7.out, HS7.out.mono (by omega), HC7.out, hz7⟩
            case measure => simp [intOf]; omega
          · go_wp2_with (at_builtin; refine GrowB.wpList (L := intL) rfl _ _ 34 rfl Try.underlying34 KI rfl (HG7.out.b.ext ((Chg.refl [] w7).alloc (.cells #[.int .i64 k] 2))) ⟨w7.heap.size, 0, none⟩ 1 1 [.int .i64 k] (ys := [(k : Int)]) (f := []) rfl rfl (new_cell w7 (.int .i64 k) 2) (intL.all_single ⟨rfl, HKO.out, rfl⟩) (Fresh.nil _ _) HLL.out.1 HLL.out.2 ?_; intro v' w6 hg' hup; have HG6 := Lib.hid hg'; have HU := Lib.hid hup; clear hg' hup)
            go_roundw
            case rel => exact ⟨k + 1, ks ++ [(k : Int)], _, rfl, by omega, by go_num, by simp; omega, HG6.out, ((HS7.out.ext ((Chg.refl [] w7).alloc (.cells #[.int .i64 k] 2))).keep (n := w3.heap.size) HU.out.low hbl (fun x hx => by have h2 := byteL.sl_lt HA.out x hx; have := HB.out; omega)).mono (by omega), HU.out.chg (HC7.out.alloc _) hw3, Nat.le_trans hz7 (Nat.le_trans (by simp) HU.out.size)⟩
            case measure => simp [intOf]; omega
    · have hk8 : k ≤ 8 := by omega
      have HWS := Lib.hid (show i64ok n ∧ (∀ y ∈ [v, v, v, v, v, -1, n], i64ok y) ∧ ∀ y ∈ [n, 0, -1], i64ok y by simp only [List.mem_cons, List.not_mem_nil, or_false, forall_eq_or_imp, forall_eq, i64ok]; omega)
      go_wp2_with fail
      refine (chance_any b a la ca xs f (4 + 2 * k) 20 _ HSR.out (by omega) (by omega) (by omega)).mono ?_
      rintro e w5 ⟨u, rfl, hs5, hc5⟩
      have HS5 := Lib.hid hs5; have HC5 := Lib.hid (HCS.out _ hc5); have HG5 := Lib.hid (HG.out.chg hc5 HBS.out); have hz5 := Nat.le_trans hsz hc5.size
      have HCS5 := Lib.hid (fun (w7 : World) (h : Chg [b] w5 w7) => (show Chg [] w w7 from HC5.out.trans h (fun x hx => .inr (by rw [List.mem_singleton] at hx; have := HB.out; omega))))
      clear hs5 hc5
      cases u
      · obtain ⟨A, C, fk, rfl, hsk, hfk⟩ := HG5.out.sl
        have HSK := Lib.hid hsk; have HFK := Lib.hid hfk
        obtain ⟨lk, hlk⟩ : ∃ n, n = ks.length := ⟨_, rfl⟩
        rw [← hlk] at HSK ⊢
        have HLK := Lib.hid hlk
        clear hsk hfk hlk
        go_wp2_with fail
        refine (pickN_any b a la ca xs f (4 + 2 * k + 1) 7 [v, v, v, v, v, -1, n] w5 HS5.out (by omega) HWS.out.2.1 rfl (by omega) (by omega) _ rfl _ rfl).mono ?_
        rintro e w7 ⟨p, rfl, hp, -, hc7⟩
        have hpb : -1 ≤ p ∧ p ≤ 100 := by simp at hp; omega
        have HN := Lib.hid (And.intro (intL.sl_chg HSK.out hc7 (fun y hy hm => by have := (HFK.out.2 y hy).1; rw [List.mem_singleton] at hm; omega)) (HCS5.out _ hc7))
        clear hp hc7
        go_wp2_with fail
        refine bodyPost_ret (v := .tuple #[.int .i64 g, .int .i64 c, .slice A lk C, .int .i64 p]) (by simp [results, Try.results14, go_sem]) rfl ?_
        have hl := HLK.out
        subst hl
        exact ⟨g, c, p, A, C, ks, fk, rfl, hg, hc, hpb, by omega, HN.out.1, HN.out.2⟩
      · go_wp2_with fail
        refine (pickN_any b a la ca xs f (4 + 2 * k + 1) 3 [n, 0, -1] w5 HS5.out (by omega) HWS.out.2.2 rfl (by omega) (by omega) _ rfl _ rfl).mono ?_
        rintro e w7 ⟨q, rfl, hq, hs7, hc7⟩
        have HS7 := Lib.hid hs7; have HC7 := Lib.hid (HCS5.out _ hc7); have HG7 := Lib.hid (HG5.out.chg hc7 HBS.out); have hz7 := Nat.le_trans hz5 hc7.size
        have HQO := Lib.hid (show i64ok q from HWS.out.2.2 q hq)
        have HLL := Lib.hid (show ks.length + [q].length ≤ maxLen ∧ (ks.length + [q].length) * 8 ≤ 140737488355328 by simp only [List.length_singleton, maxLen]; omega)
        clear hs7 hc7 hq
        go_wp2_with (at_builtin; refine GrowB.wpList (L := intL) rfl _ _ 34 rfl Try.underlying34 KI rfl (HG7.out.b.ext ((Chg.refl [] w7).alloc (.cells #[.int .i64 q] 2))) ⟨w7.heap.size, 0, none⟩ 1 1 [.int .i64 q] (ys := [q]) (f := []) rfl rfl (new_cell w7 (.int .i64 q) 2) (intL.all_single ⟨rfl, HQO.out, rfl⟩) (Fresh.nil _ _) HLL.out.1 HLL.out.2 ?_; intro v' w6 hg' hup; have HG6 := Lib.hid hg'; have HU := Lib.hid hup; have HS6 := Lib.hid (((HS7.out.ext ((Chg.refl [] w7).alloc (.cells #[.int .i64 q] 2))).keep (n := w3.heap.size) hup.low hbl (fun x hx => by have h2 := byteL.sl_lt HA.out x hx; have := HB.out; omega))); have HC6 := Lib.hid (hup.chg (HC7.out.alloc (.cells #[.int .i64 q] 2)) hw3); clear hg' hup)
        obtain ⟨A, C, fk, rfl, hsk, hfk⟩ := HG6.out.sl
        have HSK := Lib.hid hsk; have HFK := Lib.hid hfk
        have HCS6 := Lib.hid (fun (w9 : World) (h : Chg [b] w6 w9) => (show Chg [] w w9 from HC6.out.trans h (fun x hx => .inr (by rw [List.mem_singleton] at hx; have := HB.out; omega))))
        obtain ⟨lk, hlk⟩ : ∃ n, n = (ks ++ [q]).length := ⟨_, rfl⟩
        rw [← hlk] at HSK ⊢
        have HLK := Lib.hid hlk
        clear hsk hfk hlk
        refine (pickN_any b a la ca xs f (4 + 2 * k + 1 + 1) 7 [v, v, v, v, v, -1, n] w6 HS6.out (by omega) HWS.out.2.1 rfl (by omega) (by omega) _ rfl _ rfl).mono ?_
        rintro e w9 ⟨p, rfl, hp, -, hc9⟩
        have hpb : -1 ≤ p ∧ p ≤ 100 := by simp at hp; omega
        have HN := Lib.hid (And.intro (intL.sl_chg HSK.out hc9 (fun y hy hm => by have := (HFK.out.2 y hy).1; rw [List.mem_singleton] at hm; omega)) (HCS6.out _ hc9))
        clear hp hc9
        go_wp2_with fail
        refine bodyPost_ret (v := .tuple #[.int .i64 g, .int .i64 c, .slice A lk C, .int .i64 p]) (by simp [results, Try.results14, go_sem]) rfl ?_
        have hl := HLK.out
        subst hl
        exact ⟨g, c, p, A, C, ks ++ [q], fk, rfl, hg, hc, hpb, by simp; omega, HN.out.1, HN.out.2⟩
end Go.Proofs.Ytjnclggpaekdfaa
