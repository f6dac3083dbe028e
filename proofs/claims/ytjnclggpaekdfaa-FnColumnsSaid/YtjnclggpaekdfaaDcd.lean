
/- Lists from those that are there: the program's decode. -/
import Derived.Test.YtjnclggpaekdfaaDlf
import Derived.Test.YtjnclggpaekdfaaSha
import Derived.Test.YtjnclggpaekdfaaMds
import Derived.Test.YtjnclggpaekdfaaPar
namespace Go.Proofs.Ytjnclggpaekdfaa
open Go.RowKit

/-- two lists that a call builds side by side: numbers, and lists of bytes whose bytes lie in f -/
def Two (f : List Nat) (w wr : World) (vh vt : Value) (hs : List Int) (ts : List (List UInt8)) : Prop :=
  ∃ hh ht fpt, intL.os 2 wr vh hs hh [] ∧ byteL.slice.os 22 wr vt ts ht fpt ∧ (∀ y ∈ fpt, y ∈ f) ∧ (∀ g, hh = some g → w.heap.size ≤ g) ∧ (∀ g, ht = some g → w.heap.size ≤ g) ∧ (∀ g, hh = some g → ¬ ht = some g) ∧ Chg [] w wr
theorem Two.chg {f : List Nat} {w wr : World} {vh vt : Value} {hs : List Int} {ts : List (List UInt8)} (h : Two f w wr vh vt hs ts) : Chg [] w wr := by obtain ⟨_, _, _, _, _, _, _, _, _, h⟩ := h; exact h
theorem Two.ext {f : List Nat} {w wr w' : World} {vh vt : Value} {hs : List Int} {ts : List (List UInt8)} (h : Two f w wr vh vt hs ts) (hc : Chg [] wr w') : Two f w w' vh vt hs ts := by
  obtain ⟨hh, ht, fpt, o1, o2, s1, g1, g2, d, c⟩ := h
  exact ⟨hh, ht, fpt, intL.os_ext o1 hc, byteL.slice.os_ext o2 hc, s1, g1, g2, d, c.trans0 hc⟩
theorem Two.start {f : List Nat} {w : World} : Two f w ((w.alloc (.cells #[] 2)).alloc (.cells #[] 22)) (.slice (some ⟨w.heap.size, 0, none⟩) 0 0) (.slice (some ⟨w.heap.size + 1, 0, none⟩) 0 0) [] [] := by
  have h1 := intL.os_made 2 w #[] 0 (by simp [maxLen]) rfl
  have h2 := byteL.slice.os_made 22 (w.alloc (.cells #[] 2)) #[] 0 (by simp [maxLen]) rfl
  have e : (w.alloc (.cells #[] 2)).heap.size = w.heap.size + 1 := by simp
  rw [e] at h2
  exact ⟨some w.heap.size, some (w.heap.size + 1), [], intL.os_alloc h1 _, h2, by simp, fun g hg => by cases hg; exact Nat.le_refl _, fun g hg => by cases hg; omega, fun g hg h => by cases hg; simp at h, ((Chg.refl [] w).alloc _).alloc _⟩
theorem Two.mkH {f : List Nat} {w wr w3 w' : World} {vt v' : Value} {hs' : List Int} {ts : List (List UInt8)} {hh ht hh' : Option Nat} {fpt : List Nat} (o2 : byteL.slice.os 22 wr vt ts ht fpt) (s1 : ∀ y ∈ fpt, y ∈ f) (hlt : ∀ y ∈ f, y < w.heap.size) (g1 : ∀ g, hh = some g → w.heap.size ≤ g) (g2 : ∀ g, ht = some g → w.heap.size ≤ g) (d : ∀ g, hh = some g → ¬ ht = some g) (c : Chg [] w wr) (c3 : Chg [] wr w3)
    (ho : intL.os 2 w' v' hs' hh' []) (e : hh' = hh ∨ hh' = some w3.heap.size) (c4 : Chg hh.toList w3 w') : Two f w w' v' vt hs' ts := by
  have o2' := byteL.slice.os_ext o2 c3
  refine ⟨hh', ht, fpt, ho, byteL.slice.os_chg o2' c4 (fun g hg hm => d g (by simpa using hm) hg) (fun b hb hm => by have h1 := hlt b (s1 b hb); have h2 := g1 b (by simpa using hm); omega), s1, fun g hg => ?_, g2, fun g hg h => ?_, (c.trans0 c3).trans c4 (fun y hy => .inr (g1 y (by simpa using hy)))⟩
  · rcases e with e | e
    · exact g1 g (e ▸ hg)
    · rw [e] at hg; cases hg; exact Nat.le_trans c.size c3.size
  · rcases e with e | e
    · exact d g (e ▸ hg) h
    · rw [e] at hg; cases hg
      have := (byteL.slice.os_lt o2').1 _ h
      omega
theorem Two.mkT {f f2 : List Nat} {w wr w3 w' : World} {vh v' : Value} {hs : List Int} {ts' : List (List UInt8)} {hh ht ht' : Option Nat} {fpt : List Nat} (o1 : intL.os 2 wr vh hs hh []) (s1 : ∀ y ∈ fpt ++ f2, y ∈ f) (g1 : ∀ g, hh = some g → w.heap.size ≤ g) (g2 : ∀ g, ht = some g → w.heap.size ≤ g) (d : ∀ g, hh = some g → ¬ ht = some g) (c : Chg [] w wr) (c3 : Chg [] wr w3)
    (ho : byteL.slice.os 22 w' v' ts' ht' (fpt ++ f2)) (e : ht' = ht ∨ ht' = some w3.heap.size) (c4 : Chg ht.toList w3 w') : Two f w w' vh v' hs ts' := by
  have o1' := intL.os_ext o1 c3
  refine ⟨hh, ht', fpt ++ f2, intL.os_chg o1' c4 (fun g hg hm => d g hg (by simpa using hm)) (by simp), ho, s1, g1, fun g hg => ?_, fun g hg h => ?_, (c.trans0 c3).trans c4 (fun y hy => .inr (g2 y (by simpa using hy)))⟩
  · rcases e with e | e
    · exact g2 g (e ▸ hg)
    · rw [e] at hg; cases hg; exact Nat.le_trans c.size c3.size
  · rcases e with e | e
    · exact d g hg (e ▸ h)
    · rw [e] at h; cases h
      have := (intL.os_lt o1').1 _ hg
      omega
theorem slc_all1' {w : World} {a : Option Addr} {l c : Nat} {x : List UInt8} {f : List Nat} (h : byteL.sl w a l c x f) : byteL.slice.all w [.slice a l c] [x] f := byteL.slice.all_single ⟨a, l, c, rfl, h⟩
theorem take_full {α : Type} {l : List α} {x : α} {g : Nat} (h : (l.take g).length = g) : (l ++ [x]).take g = l.take g := by
  rw [List.length_take] at h
  rw [List.take_append_of_le_length (by omega)]
theorem take_more {α : Type} {l : List α} {x : α} {g : Nat} (h : (l.take g).length < g) : (l ++ [x]).take g = l.take g ++ [x] := by
  rw [List.length_take] at h
  rw [List.take_of_length_le (by rw [List.length_append]; simp; omega), List.take_of_length_le (by omega)]
/-- the lists of a column, told by those that are there -/
noncomputable def decL (g : Nat) (xs : List (List UInt8)) (n0 k : Nat) : List (List UInt8) := (List.range k).map (fun p : Nat => mixTo ((minL xs xs.length).take g) (wtsL g ((havL xs xs.length).take g) (p : Int)) n0 g)
theorem decL_length (g : Nat) (xs : List (List UInt8)) (n0 k : Nat) : (decL g xs n0 k).length = k := by simp [decL]
theorem decL_next (g : Nat) (xs : List (List UInt8)) (n0 k : Nat) : decL g xs n0 (k + 1) = decL g xs n0 k ++ [mixTo ((minL xs xs.length).take g) (wtsL g ((havL xs xs.length).take g) (k : Int)) n0 g] := by
  unfold decL; rw [List.range_succ, List.map_append]; rfl
/-- the weights of those that are there -/
theorem dec_wts {g : Nat} {xs : List (List UInt8)} (h1 : 1 ≤ g) (h4 : g ≤ 4) (hx : xs.length ≤ g + 2) (hl : g ≤ (havL xs xs.length).length) (p : Int) :
    ∃ z, solV (colR g 8 (((havL xs xs.length).take g).take g)) (genL g p 8) = some z ∧ z.length = g ∧ wtsL g ((havL xs xs.length).take g) p = z := by
  have hk : ((havL xs xs.length).take g).length = g := by rw [List.length_take]; omega
  obtain ⟨z, hz, hzl, -⟩ := wts_some (p := p) h1 h4 hk (by omega : (xs.length : Int) ≤ g + 2) ((havL_ris xs xs.length).take g)
  refine ⟨z, by rw [List.take_of_length_le (by omega)]; exact hz, hzl, ?_⟩
  unfold wtsL
  rw [hz]; rfl
theorem havL_bound {xs : List (List UInt8)} (hx : xs.length ≤ 6) (g : Nat) : ∀ k ∈ (havL xs xs.length).take g, 0 ≤ k ∧ k ≤ 6 := fun k hk => by
  have := (havL_ris xs xs.length).1 k (List.mem_of_mem_take hk)
  omega

set_option maxHeartbeats 400000 in
theorem sizeD_any (a : Option Addr) (la ca : Nat) (w : World) (_ : la ≤ 9223372036854775807) :
    Calls Try.prog 50 #[.slice a la ca] w fun e w' => e = .returned (.int .i64 (la : Int)) ∧ w = w' := by
  go_enter Try.func50, Try.ntmps50
  go_wp2
  go_ret
  exact ⟨rfl, rfl⟩
/-- what decode comes to: too few lists are there, or all lists are told -/
def DecPost (g c n0 : Nat) (xs : List (List UInt8)) (w : World) (e : Ending) (w' : World) : Prop :=
  ((havL xs xs.length).length < g ∧ e = .returned (.tuple #[.slice none 0 0, .bool false]) ∧ Chg [] w w') ∨
  (g ≤ (havL xs xs.length).length ∧ ∃ A C f', e = .returned (.tuple #[.slice A (g + c) C, .bool true]) ∧ byteL.slice.sl w' A (g + c) C (decL g xs n0 (g + c)) f' ∧ Fresh w.heap.size w' f' ∧ Chg [] w w')
set_option maxRecDepth 100000 in
set_option maxHeartbeats 4000000 in
theorem decode_any (a : Option Addr) (la ca g c n0 : Nat) (xs : List (List UInt8)) (f : List Nat) (w : World) (ha : byteL.slice.sl w a la ca xs f) (hg : 1 ≤ g) (hg4 : g ≤ 4) (hc2 : c ≤ 2) (hla : la = g + c) (hn : n0 ≤ 140737488355327) (hal : RowKit.Hid (∀ x ∈ minL xs xs.length, x.length = n0)) :
    Calls Try.prog 45 #[.agg #[.int .i64 g, .int .i64 c], .slice a la ca] w (DecPost g c n0 xs w) := by
  obtain ⟨KL, _⟩ := kindLL
  obtain ⟨KI, _⟩ := kindI
  have HLA := Lib.hid hla
  have hl6 : la ≤ g + 2 := by omega
  clear hla
  have HA := Lib.hid ha
  have HL := Lib.hid ha.1
  have HF := Lib.hid (byteL.slice.sl_lt ha)
  have HB0 := Lib.hid (new_alloc w (.cells #[.int .i64 g, .int .i64 c] 57))
  clear ha
  go_enter Try.func45, Try.ntmps45
  go_wp2_with fail
  go_loopw [6, 7, 8, 9, 16] (fun vh vt _ _ vi wr => ∃ (k : Nat) (Wr : World), Wr = wr ∧ k ≤ la ∧ vi = .int .i64 k ∧ Two f (w.alloc (.cells #[.int .i64 g, .int .i64 c] 57)) wr vh vt ((havL xs k).take g) ((minL xs k).take g)) (fun _ _ _ _ vi _ => la - (intOf vi).toNat)
  case atStart => exact ⟨0, _, rfl, by omega, rfl, by have h := Two.start (f := f) (w := w.alloc (.cells #[.int .i64 g, .int .i64 c] 57)); simpa [havL, minL] using h⟩
  case round =>
    obtain ⟨k, wr, rfl, hk, rfl, hT⟩ := hrel
    have HC := Lib.hid hT.chg
    have HB := Lib.hid (HC.out.keep0 HB0.out)
    have cb := cellsOf HB.out; have lb := ltOf HB.out
    obtain ⟨hh, ht, fpt, o1, o2, s1, g1, g2, d, -⟩ := hT
    obtain ⟨ah, ch, rfl⟩ := intL.os_len o1
    obtain ⟨at2, ct, rfl⟩ := byteL.slice.os_len o2
    have hhl : ((havL xs k).take g).length ≤ g := by rw [List.length_take]; omega
    obtain ⟨lh, hlh⟩ : ∃ n, n = ((havL xs k).take g).length := ⟨_, rfl⟩
    obtain ⟨lt, hlt2⟩ : ∃ n, n = ((minL xs k).take g).length := ⟨_, rfl⟩
    have htl : ((minL xs k).take g).length ≤ g := by rw [List.length_take]; omega
    rw [← hlh] at o1 hhl ⊢
    rw [← hlt2] at o2 htl ⊢
    have HLH := Lib.hid hlh; have HLT := Lib.hid hlt2
    have O1 := Lib.hid o1; have O2 := Lib.hid o2; have S1 := Lib.hid s1; have G1 := Lib.hid g1; have G2 := Lib.hid g2; have DD := Lib.hid d
    clear o1 o2 s1 g1 g2 d hlh hlt2
    by_cases hlt : k < la
    · obtain ⟨x, b, off, A, lx, C, fx, HX, rfl, hcx, HXS⟩ := slc_at (byteL.slice.sl_ext HA.out (((Chg.refl [] w).alloc _).trans0 HC.out)) hlt
      have hxm := byteL.sl_max HXS.out
      by_cases h0 : lx = 0
      · have hxl : x.length = 0 := by rw [← HXS.out.1, h0]
        subst h0
        have HT2 := Lib.hid (show Two f (w.alloc (.cells #[.int .i64 g, .int .i64 c] 57)) wr.drew (.slice ah lh ch) (.slice at2 lt ct) ((havL xs (k + 1)).take g) ((minL xs (k + 1)).take g) from by
          rw [havL_no HX.out.1 hxl, minL_no HX.out.1 hxl]
          exact ⟨hh, ht, fpt, intL.os_ext O1.out ((Chg.refl [] wr).drew), byteL.slice.os_ext O2.out ((Chg.refl [] wr).drew), S1.out, G1.out, G2.out, DD.out, HC.out.drew⟩)
        clear hxl
        go_wp2_with fail
        obtain ⟨SS1, HSI1, HSO1⟩ := rg_cond (fun w' => Know w.heap.size #[.int .i64 g, .int .i64 c] w')
        have hS0 := HSI1.out _ (Know.of (keep_drew HB.out))
        refine rg_start SS1 (by kernel_rfl) hS0 ?_
        refine rgT 0 hS0 ?_
        refine rgT 1 hS0 ?_
        refine rgT 2 hS0 ?_
        refine rgT 3 hS0 ?_
        refine rgS 4 hS0 ?_
        refine rgS 5 hS0 ?_
        refine rgS 6 hS0 ?_
        refine rgS 7 hS0 ?_
        refine rgS 8 hS0 ?_
        refine rgT 9 hS0 ?_
        refine wpAnyH_done (by kernel_rfl) ?_ _
        go_wp2_with fail
        go_roundw
        case rel => exact ⟨k + 1, _, rfl, by omega, by go_num, HT2.out⟩
        case measure => simp [intOf]; omega
      · have hb0 : 0 < lx := by omega
        have hb0' : (0 : Int) < (lx : Int) := by omega
        have hxl : ¬ x.length = 0 := by rw [← HXS.out.1]; exact h0
        by_cases hfull : lh < g
        · have hbf : (lh : Int) < (g : Int) := by omega
          have HN1 := Lib.hid (show (havL xs (k + 1)).take g = (havL xs k).take g ++ [(k : Int)] by rw [havL_yes HX.out.1 hxl]; exact take_more (by rw [← HLH.out]; exact hfull))
          have hlm : ((minL xs k).take g).length < g := by
            have h1 := havL_len xs k (by have := HL.out; omega)
            have h2 := HLH.out
            rw [List.length_take] at h2 ⊢
            omega
          have HN2 := Lib.hid (show (minL xs (k + 1)).take g = (minL xs k).take g ++ [x] by rw [minL_yes HX.out.1 hxl]; exact take_more hlm)
          have HLL := Lib.hid (show ((havL xs k).take g).length + [(k : Int)].length ≤ maxLen ∧ (((havL xs k).take g).length + [(k : Int)].length) * 8 ≤ 140737488355328 by rw [← HLH.out]; simp only [List.length_singleton, maxLen]; omega)
          have HLL2 := Lib.hid (show ((minL xs k).take g).length + [x].length ≤ maxLen ∧ (((minL xs k).take g).length + [x].length) * 24 ≤ 140737488355328 by simp only [List.length_singleton, maxLen]; omega)
          have HFX := Lib.hid (show ∀ y ∈ fx, y ∈ f from fun y hy => HX.out.2.2 y hy)
          have HKO := Lib.hid (show i64ok (k : Int) from by have := byteL.slice.sl_max HA.out; constructor <;> omega)
          clear hlm h0 hxl
          go_wp2_with fail
          obtain ⟨SS1, HSI1, HSO1⟩ := rg_cond (fun w' => Know w.heap.size #[.int .i64 g, .int .i64 c] w')
          have hS0 := HSI1.out _ (Know.of (keep_drew HB.out))
          refine rg_start SS1 (by kernel_rfl) hS0 ?_
          refine rgT 0 hS0 ?_
          refine rgT 1 hS0 ?_
          refine rgT 2 hS0 ?_
          refine rgT 3 hS0 ?_
          refine rgT 4 hS0 ?_
          refine rgT 6 hS0 ?_
          refine rgL 7 hS0 HSO1 ?_
          refine rg_call 5 rfl (by kernel_rfl) (fun K hK => ?_)
          go_simp
          go_at_call 50
          refine (sizeD_any ah lh ch _ (by omega)).mono ?_; rintro e w' ⟨rfl, rfl⟩
          go_wp2_with fail
          refine hK.out _ _ (HSI1.out _ (Know.of (keep_drew HB.out))) (fun hS1 => ?_)
          clear hK K
          try simp only [Act.put, List.setIfInBounds_toArray, List.set_cons_zero, List.set_cons_succ]
          refine rgT 8 hS1 ?_
          refine rgT 9 hS1 ?_
          refine wpAnyH_done (by kernel_rfl) ?_ _
          go_wp2_with (first
            | (at_builtin; refine intL.wpList_append rfl _ _ 34 rfl Try.underlying34 KI rfl (intL.os_ext O1.out (((Chg.refl [] wr).alloc (.cells #[.int .i64 k] 2)).drew)) ⟨wr.heap.size, 0, none⟩ 1 1 [.int .i64 k] (ys := [(k : Int)]) (f := []) rfl rfl (new_cell wr (.int .i64 k) 2) (intL.all_single ⟨rfl, HKO.out, rfl⟩) (by simp) HLL.out.1 HLL.out.2 ?_; intro v1 w1 h1 ho1 hh1 hc1; have HT1 := Lib.hid (Two.mkH O2.out S1.out (fun y hy => by have := HF.out y hy; simp; omega) G1.out G2.out DD.out HC.out (((Chg.refl [] wr).alloc (.cells #[.int .i64 k] 2)).drew) ho1 hh1 hc1); rw [← HN1.out] at HT1; have HC1 := Lib.hid HT1.out.chg; obtain ⟨hhb, htb, fpb, p1, p2, p3, p4, p5, p6, -⟩ := HT1.out; have P1 := Lib.hid p1; have P2 := Lib.hid p2; have P3 := Lib.hid p3; have P4 := Lib.hid p4; have P5 := Lib.hid p5; have P6 := Lib.hid p6; clear p1 p2 p3 p4 p5 p6 ho1 hh1 hc1)
            | (at_builtin; refine byteL.slice.wpList_append rfl _ _ 24 rfl Try.underlying24 KL rfl (byteL.slice.os_ext P2.out ((Chg.refl [] w1).alloc (.cells #[.slice A lx C] 22))) ⟨w1.heap.size, 0, none⟩ 1 1 [.slice A lx C] (ys := [x]) (f := fx) rfl rfl (new_cell w1 (.slice A lx C) 22) (slc_all1' (byteL.sl_ext (byteL.sl_keep HXS.out (fun y hy => by rw [HC1.out.block y (by have := HF.out y (HFX.out y hy); simp; omega) (by simp), HC.out.block y (by have := HF.out y (HFX.out y hy); simp; omega) (by simp)])) ((Chg.refl [] w1).alloc _))) (fun q hq hm => by have h1 := P5.out q hq; have h2 := HF.out q (HFX.out q hm); simp at h1; omega) HLL2.out.1 HLL2.out.2 ?_; intro v2 w2 h2 ho2 hh2 hc2; have HT2 := Lib.hid (Two.mkT (f := f) P1.out (fun y hy => by rcases List.mem_append.1 hy with h | h; exact P3.out y h; exact HFX.out y h) P4.out P5.out P6.out HC1.out ((Chg.refl [] w1).alloc (.cells #[.slice A lx C] 22)) ho2 hh2 hc2); rw [← HN2.out] at HT2; clear ho2 hh2 hc2))
          go_roundw
          case rel => exact ⟨k + 1, _, rfl, by omega, by go_num, HT2.out⟩
          case measure => simp [intOf]; omega
        · have hbf : ¬ (lh : Int) < (g : Int) := by omega
          have hlg : ((havL xs k).take g).length = g := by have := HLH.out; omega
          have hlm : ((minL xs k).take g).length = g := by
            have h1 := havL_len xs k (by have := HL.out; omega)
            rw [List.length_take] at hlg ⊢
            omega
          have HT2 := Lib.hid (show Two f (w.alloc (.cells #[.int .i64 g, .int .i64 c] 57)) wr.drew (.slice ah lh ch) (.slice at2 lt ct) ((havL xs (k + 1)).take g) ((minL xs (k + 1)).take g) from by
            rw [havL_yes HX.out.1 hxl, minL_yes HX.out.1 hxl, take_full hlg, take_full hlm]
            exact ⟨hh, ht, fpt, intL.os_ext O1.out ((Chg.refl [] wr).drew), byteL.slice.os_ext O2.out ((Chg.refl [] wr).drew), S1.out, G1.out, G2.out, DD.out, HC.out.drew⟩)
          clear hxl h0 hlg hlm
          go_wp2_with fail
          obtain ⟨SS1, HSI1, HSO1⟩ := rg_cond (fun w' => Know w.heap.size #[.int .i64 g, .int .i64 c] w')
          have hS0 := HSI1.out _ (Know.of (keep_drew HB.out))
          refine rg_start SS1 (by kernel_rfl) hS0 ?_
          refine rgT 0 hS0 ?_
          refine rgT 1 hS0 ?_
          refine rgT 2 hS0 ?_
          refine rgT 3 hS0 ?_
          refine rgT 4 hS0 ?_
          refine rgT 6 hS0 ?_
          refine rgL 7 hS0 HSO1 ?_
          refine rg_call 5 rfl (by kernel_rfl) (fun K hK => ?_)
          go_simp
          go_at_call 50
          refine (sizeD_any ah lh ch _ (by omega)).mono ?_; rintro e w' ⟨rfl, rfl⟩
          go_wp2_with fail
          refine hK.out _ _ (HSI1.out _ (Know.of (keep_drew HB.out))) (fun hS1 => ?_)
          clear hK K
          try simp only [Act.put, List.setIfInBounds_toArray, List.set_cons_zero, List.set_cons_succ]
          refine rgT 8 hS1 ?_
          refine rgT 9 hS1 ?_
          refine wpAnyH_done (by kernel_rfl) ?_ _
          go_wp2_with fail
          go_roundw
          case rel => exact ⟨k + 1, _, rfl, by omega, by go_num, HT2.out⟩
          case measure => simp [intOf]; omega
    · obtain rfl : k = la := by omega
      have hkx : k = xs.length := HL.out
      by_cases hless : lh < g
      · have hbl : (lh : Int) < (g : Int) := by omega
        have hcond : (havL xs xs.length).length < g := by have h := HLH.out; rw [List.length_take, hkx] at h; omega
        have HKX := Lib.hid hkx; have HCN := Lib.hid hcond
        clear hkx hcond
        go_wp2_with fail
        obtain ⟨SS1, HSI1, HSO1⟩ := rg_cond (fun w' => Know w.heap.size #[.int .i64 g, .int .i64 c] w')
        have hS0 := HSI1.out _ (Know.of (keep_drew HB.out))
        refine rg_start SS1 (by kernel_rfl) hS0 ?_
        refine rgT 0 hS0 ?_
        refine rgT 2 hS0 ?_
        refine rgL 3 hS0 HSO1 ?_
        refine rg_call 1 rfl (by kernel_rfl) (fun K hK => ?_)
        go_simp
        go_at_call 50
        refine (sizeD_any ah lh ch _ (by omega)).mono ?_; rintro e w' ⟨rfl, rfl⟩
        go_wp2_with fail
        refine hK.out _ _ (HSI1.out _ (Know.of (keep_drew HB.out))) (fun hS1 => ?_)
        clear hK K
        try simp only [Act.put, List.setIfInBounds_toArray, List.set_cons_zero, List.set_cons_succ]
        refine rgT 4 hS1 ?_
        refine wpAnyH_done (by kernel_rfl) ?_ _
        go_wp2_with fail
        go_ret2
        exact .inl ⟨HCN.out, rfl, ((Chg.refl [] w).alloc _).trans0 HC.out.drew⟩
      · have hbl : ¬ (lh : Int) < (g : Int) := by omega
        have hcond : g ≤ (havL xs xs.length).length := by have h := HLH.out; rw [List.length_take, hkx] at h; omega
        obtain rfl : lh = g := by omega
        have HTL := Lib.hid (show lt = lh by have h := HLT.out; rw [List.length_take, ← havL_len xs k (by omega), hkx] at h; omega)
        obtain ⟨_, cap2, e9, hs1⟩ := intL.os_sl O1.out
        obtain ⟨rfl, hl9, rfl⟩ := Value.slice.inj e9
        obtain ⟨_, cap3, e8, hs2⟩ := byteL.slice.os_sl O2.out
        obtain ⟨rfl, hl8, rfl⟩ := Value.slice.inj e8
        rw [← HLH.out] at hs1
        rw [← HLT.out, HTL.out] at hs2
        rw [HTL.out]
        rw [hkx] at hs1 hs2
        have HS1 := Lib.hid hs1; have HS2 := Lib.hid hs2
        have HKX := Lib.hid hkx; have HCD := Lib.hid hcond
        have HX6 := Lib.hid (show xs.length ≤ lh + 2 by have := HLA.out; omega)
        have HBD := Lib.hid (havL_bound (xs := xs) (by have := HLA.out; omega) lh)
        have HAL := Lib.hid (show ∀ x ∈ (minL xs xs.length).take lh, x.length = n0 from fun x hx => hal.out x (List.mem_of_mem_take hx))
        have HCW := Lib.hid (show Chg [] w wr.drew from ((Chg.refl [] w).alloc _).trans0 HC.out.drew)
        clear hs1 hs2 hkx hcond e8 e9 hl8 hl9
        go_wp2_with fail
        obtain ⟨SS1, HSI1, HSO1⟩ := rg_cond (fun w' => Know w.heap.size #[.int .i64 lh, .int .i64 c] w')
        have hS0 := HSI1.out _ (Know.of (keep_drew HB.out))
        refine rg_start SS1 (by kernel_rfl) hS0 ?_
        refine rgT 0 hS0 ?_
        refine rgT 2 hS0 ?_
        refine rgL 3 hS0 HSO1 ?_
        refine rg_call 1 rfl (by kernel_rfl) (fun K hK => ?_)
        go_simp
        go_at_call 50
        refine (sizeD_any ah lh ch _ (by omega)).mono ?_; rintro e w' ⟨rfl, rfl⟩
        go_wp2_with fail
        refine hK.out _ _ (HSI1.out _ (Know.of (keep_drew HB.out))) (fun hS1 => ?_)
        clear hK K
        try simp only [Act.put, List.setIfInBounds_toArray, List.set_cons_zero, List.set_cons_succ]
        refine rgT 4 hS1 ?_
        refine wpAnyH_done (by kernel_rfl) ?_ _
        go_wp2_with fail
        refine (colAll_any lh c (by omega) (by omega) (by omega) (by omega) _).mono ?_
        rintro e w5 ⟨rfl, rfl⟩
        go_wp2_with fail
        go_loopw [10, 11, 48] (fun vo _ vi wq => ∃ (p : Nat) (Wq : World), Wq = wq ∧ p ≤ lh + c ∧ vi = .int .i64 p ∧ Grow byteL.slice 22 wr.drew wq vo (decL lh xs n0 p)) (fun _ _ vi _ => lh + c - (intOf vi).toNat)
        case atStart => exact ⟨0, _, rfl, by omega, rfl, (Grow.made (Chg.refl [] _)).ext (by first | exact (Chg.refl [] _).alloc _ | exact ((Chg.refl [] _).alloc _).drew)⟩
        case round =>
          obtain ⟨p, wq, rfl, hp, rfl, hgr⟩ := hrel
          have HG := Lib.hid hgr
          have cbq := cellsOf (hgr.chg.keep0 (keep_drew HB.out)); have lbq := ltOf (hgr.chg.keep0 (keep_drew HB.out))
          clear hgr
          by_cases hpl : p < lh + c
          · obtain ⟨z, hz, hzl, hw⟩ := dec_wts hg hg4 HX6.out HCD.out (p : Int)
            have HZ := Lib.hid hz; have HZL := Lib.hid hzl; have HWZ := Lib.hid hw
            clear hz hzl hw
            go_wp2_with fail
            refine (share_any ah lh ch ((havL xs xs.length).take lh) _ lh c p _ (intL.sl_ext HS1.out (((Chg.refl [] wr).drew).trans0 HG.out.chg)) hg hg4 (Nat.le_refl _) (by omega) HBD (by omega) (by omega) z HZ HZL).mono ?_
            rintro e w6 ⟨A6, C6, f6, rfl, hs6, hf6, hc6⟩
            rw [Nat.sub_self, List.replicate_zero, List.append_nil, HZL.out] at hs6 ⊢
            have HS6 := Lib.hid hs6; have HC6 := Lib.hid hc6
            clear hs6 hf6 hc6
            go_wp2_with fail
            refine (mixed_any at2 A6 lh ct C6 n0 ((minL xs xs.length).take lh) z _ f6 _ (byteL.slice.sl_ext HS2.out (((Chg.refl [] wr).drew).trans0 (HG.out.chg.trans0 HC6.out))) HS6.out (by omega) hn HAL).mono ?_
            rintro e w7 ⟨A7, C7, f7, rfl, hs7, hf7, hc7⟩
            have HE := Lib.hid (show decL lh xs n0 (p + 1) = decL lh xs n0 p ++ [mixTo ((minL xs xs.length).take lh) z n0 lh] by rw [decL_next, HWZ.out])
            obtain ⟨y, hy⟩ : ∃ y, y = mixTo ((minL xs xs.length).take lh) z n0 lh := ⟨_, rfl⟩
            rw [← hy] at hs7 ⊢
            rw [← hy] at HE
            have HS7 := Lib.hid hs7; have HF7 := Lib.hid (hf7.mono (C := wq.heap.size) HC6.out.size); have HC7 := Lib.hid (HC6.out.trans0 hc7)
            have HLL : RowKit.Hid ((decL lh xs n0 p).length + [y].length ≤ maxLen ∧ ((decL lh xs n0 p).length + [y].length) * 24 ≤ 140737488355328) := by
              rw [decL_length]; refine ⟨?_, ?_⟩ <;> simp only [List.length_cons, List.length_nil, maxLen] <;> omega
            clear hs7 hf7 hc7 hy
            go_wp2_with (refine byteL.slice.wpList_grow rfl _ _ 24 rfl Try.underlying24 KL rfl HG.out (HC7.out.alloc _) ⟨w7.heap.size, 0, none⟩ 1 1 [.slice A7 y.length C7] (ys := [y]) (f := f7) rfl rfl (new_cell _ _ _) (slc_all1 (byteL.sl_ext HS7.out ((Chg.refl [] w7).alloc _))) (HF7.out.chg ((Chg.refl [] w7).alloc _)) HLL.out.1 HLL.out.2 ?_; intro v' w' hg'; rw [← HE.out] at hg'; have HN := Lib.hid hg'; clear hg')
            go_roundw
            case rel => exact ⟨p + 1, _, rfl, by omega, by go_num, HN.out⟩
            case measure => simp [intOf]; omega
          · obtain rfl : p = lh + c := by omega
            obtain ⟨A9, C9, f9, rfl, hs9, hf9, hc9⟩ := HG.out.sl
            rw [decL_length] at hs9 ⊢
            have HN := Lib.hid (And.intro hs9 (And.intro (hf9.mono (C := w.heap.size) HCW.out.size) (HCW.out.trans0 hc9)))
            clear hs9 hf9 hc9
            go_wp2_with fail
            go_ret2
            exact .inr ⟨HCD.out, A9, C9, f9, rfl, HN.out.1, HN.out.2.1, HN.out.2.2⟩
end Go.Proofs.Ytjnclggpaekdfaa
