
/- The draws, by a source of which so much has been read at most: numbers, bytes, rows. -/
import Derived.Test.YtlnclkjmlpipgaaDrw
import Derived.Test.YtlnclkjmlpipgaaGrc
import Derived.Test.YtlnclkjmlpipgaaMix
import Derived.Deep.RegionLaw
import Derived.Deep.DeepCutAuto
namespace Go.Proofs.Ytlnclkjmlpipgaa
open Go.RowKit

/-- a source at b, of which t numbers have been read at most -/
def SrcB (b : Nat) (a : Option Addr) (la ca : Nat) (xs : List UInt8) (f : List Nat) (t : Int) (w : World) : Prop :=
  (∃ t', 0 ≤ t' ∧ t' ≤ t ∧ w.heap[b]? = some (.cells #[.slice a la ca, .int .i64 t'] 119 (0, 0))) ∧ byteL.sl w a la ca xs f ∧ b ∉ f ∧ la ≤ 1048576
section
variable {b : Nat} {a : Option Addr} {la ca : Nat} {xs : List UInt8} {f : List Nat} {t : Int} {w w' : World}
theorem SrcB.lt (h : SrcB b a la ca xs f t w) : b < w.heap.size := by obtain ⟨⟨_, _, _, h⟩, _⟩ := h; exact ltOf h
theorem SrcB.ext (h : SrcB b a la ca xs f t w) (hc : Chg [] w w') : SrcB b a la ca xs f t w' := by
  obtain ⟨⟨t', h1, h2, h3⟩, h4, h5, h6⟩ := h
  exact ⟨⟨t', h1, h2, hc.keep0 h3⟩, byteL.sl_ext h4 hc, h5, h6⟩
theorem SrcB.chg {S : List Nat} (h : SrcB b a la ca xs f t w) (hc : Chg S w w') (hb : b ∉ S) (hf : ∀ x ∈ f, x ∉ S) : SrcB b a la ca xs f t w' := by
  obtain ⟨⟨t', h1, h2, h3⟩, h4, h5, h6⟩ := h
  exact ⟨⟨t', h1, h2, hc.keepb h3 hb⟩, byteL.sl_chg h4 hc hf, h5, h6⟩
theorem SrcB.keep {n : Nat} (h : SrcB b a la ca xs f t w) (hk : ∀ k, k < n → w'.heap[k]? = w.heap[k]?) (hb : b < n) (hf : ∀ x ∈ f, x < n) : SrcB b a la ca xs f t w' := by
  obtain ⟨⟨t', h1, h2, h3⟩, h4, h5, h6⟩ := h
  exact ⟨⟨t', h1, h2, (hk b hb).trans h3⟩, byteL.sl_keep h4 (fun x hx => hk x (hf x hx)), h5, h6⟩
theorem SrcB.mono {t2 : Int} (h : SrcB b a la ca xs f t w) (ht : t ≤ t2) : SrcB b a la ca xs f t2 w := by
  obtain ⟨⟨t', h1, h2, h3⟩, h4⟩ := h
  exact ⟨⟨t', h1, by omega, h3⟩, h4⟩
theorem SrcB.self (h : SrcB b a la ca xs f t w) (hc : Chg [b] w w') : byteL.sl w' a la ca xs f := byteL.sl_chg h.2.1 hc (fun x hx hm => h.2.2.1 (by rw [List.mem_singleton] at hm; exact hm ▸ hx))
end
theorem next_any (b : Nat) (a : Option Addr) (la ca : Nat) (xs : List UInt8) (f : List Nat) (t n : Int) (w : World) (h : SrcB b a la ca xs f t w) (ht : t ≤ 1073741700) (hn : -1099511627776 ≤ n) (hn2 : n ≤ 1099511627776) :
    Calls Try.prog 124 #[.pointer (some ⟨b, 0, none⟩), .int .i64 n] w fun e w' => ∃ v, e = .returned (.int .i64 v) ∧ Drawn n v ∧ SrcB b a la ca xs f (t + 1) w' ∧ Chg [b] w w' := by
  obtain ⟨⟨t', h1, h2, h3⟩, h4, h5, h6⟩ := h
  refine (l1Next_any b a la ca xs f t' n w h3 h4 h5 h6 h1 (by omega) hn hn2).mono ?_
  rintro e w' ⟨v, rfl, hd, hb, hc⟩
  exact ⟨v, rfl, hd, ⟨⟨t' + 1, by omega, by omega, hb⟩, byteL.sl_chg h4 hc (fun x hx hm => h5 (by rw [List.mem_singleton] at hm; exact hm ▸ hx)), h5, h6⟩, hc⟩
theorem pick_any (b : Nat) (a : Option Addr) (la ca : Nat) (xs : List UInt8) (f : List Nat) (t : Int) (pa : Option Addr) (pl pc : Nat) (ys : List Int) (g : List Nat) (w : World) (h : SrcB b a la ca xs f t w) (ht : t ≤ 1073741700) (hp : intL.sl w pa pl pc ys g) (hbg : b ∉ g) (hpl : 1 ≤ pl) (hpl2 : pl ≤ 1000) :
    Calls Try.prog 104 #[.pointer (some ⟨b, 0, none⟩), .slice pa pl pc] w fun e w' => ∃ v, e = .returned (.int .i64 v) ∧ v ∈ ys ∧ SrcB b a la ca xs f (t + 1) w' ∧ Chg [b] w w' := by
  obtain ⟨⟨t', h1, h2, h3⟩, h4, h5, h6⟩ := h
  refine (l1Pick_any b a la ca xs f t' pa pl pc ys g w h3 h4 h5 h6 h1 (by omega) hp hbg hpl hpl2).mono ?_
  rintro e w' ⟨v, rfl, hd, hb, hc⟩
  exact ⟨v, rfl, hd, ⟨⟨t' + 1, by omega, by omega, hb⟩, byteL.sl_chg h4 hc (fun x hx hm => h5 (by rw [List.mem_singleton] at hm; exact hm ▸ hx)), h5, h6⟩, hc⟩
/-- a number out of a row that is laid for it -/
theorem pickN_any (b : Nat) (a : Option Addr) (la ca : Nat) (xs : List UInt8) (f : List Nat) (t : Int) (pl : Nat) (ys : List Int) (w : World) (h : SrcB b a la ca xs f t w) (ht : t ≤ 1073741700) (hy : ∀ y ∈ ys, i64ok y) (hl : pl = ys.length) (hpl : 1 ≤ pl) (hpl2 : pl ≤ 1000) (cs : Array Value) (hcs : cs = (ys.map (Value.int IntKind.i64)).toArray) (bn : Nat) (hbn : bn = w.heap.size) :
    Calls Try.prog 104 #[.pointer (some ⟨b, 0, none⟩), .slice (some ⟨bn, 0, none⟩) pl pl] (w.alloc (.cells cs 2)) fun e w' => ∃ v, e = .returned (.int .i64 v) ∧ v ∈ ys ∧ SrcB b a la ca xs f (t + 1) w' ∧ Chg [b] w w' := by
  subst hcs hl hbn
  refine (pick_any b a la ca xs f t _ ys.length ys.length ys [w.heap.size] _ (h.ext ((Chg.refl [] w).alloc _)) ht (int_rowS (new_alloc w _) hy (by omega)) (by have := h.lt; simp; omega) hpl hpl2).mono ?_
  rintro e w' ⟨v, rfl, hv, hs, hc⟩
  exact ⟨v, rfl, hv, hs, ((Chg.refl [b] w).alloc _).trans hc (fun x hx => .inl hx)⟩
theorem byte_any (b : Nat) (a : Option Addr) (la ca : Nat) (xs : List UInt8) (f : List Nat) (t : Int) (w : World) (h : SrcB b a la ca xs f t w) (ht : t ≤ 1073741700) :
    Calls Try.prog 65 #[.pointer (some ⟨b, 0, none⟩)] w fun e w' => ∃ x : UInt8, e = .returned (.int .u8 x.toNat) ∧ SrcB b a la ca xs f (t + 3) w' ∧ Chg [b] w w' := by
  obtain ⟨⟨t', h1, h2, h3⟩, h4, h5, h6⟩ := h
  refine (l1Byte_any b a la ca xs f t' w h3 h4 h5 h6 h1 (by omega)).mono ?_
  rintro e w' ⟨v, rfl, hb, hc⟩
  exact ⟨v, rfl, ⟨⟨t' + 3, by omega, by omega, hb⟩, byteL.sl_chg h4 hc (fun x hx hm => h5 (by rw [List.mem_singleton] at hm; exact hm ▸ hx)), h5, h6⟩, hc⟩
theorem source_any (a : Option Addr) (la ca : Nat) (xs : List UInt8) (f : List Nat) (w : World) (ha : byteL.sl w a la ca xs f) (hla : la ≤ 1048576) :
    Calls Try.prog 64 #[.slice a la ca] w fun e w' => e = .returned (.pointer (some ⟨w.heap.size, 0, none⟩)) ∧ SrcB w.heap.size a la ca xs f 0 w' ∧ Chg [] w w' := by
  refine (l1Source_any a la ca w).mono ?_
  rintro e w' ⟨rfl, hb, hc⟩
  exact ⟨rfl, ⟨⟨0, by omega, by omega, hb⟩, byteL.sl_ext ha hc, fun hm => Nat.lt_irrefl _ (byteL.sl_lt ha _ hm), hla⟩, hc⟩
set_option maxHeartbeats 400000 in
theorem chance_any (b : Nat) (a : Option Addr) (la ca : Nat) (xs : List UInt8) (f : List Nat) (t n : Int) (w : World) (h : SrcB b a la ca xs f t w) (ht : t ≤ 1073741700) (hn : -1099511627776 ≤ n) (hn2 : n ≤ 1099511627776) :
    Calls Try.prog 143 #[.pointer (some ⟨b, 0, none⟩), .int .i64 n] w fun e w' => ∃ v, e = .returned (.bool v) ∧ SrcB b a la ca xs f (t + 1) w' ∧ Chg [b] w w' := by
  have HN := Lib.hid (next_any b a la ca xs f t n w h ht hn hn2)
  clear h
  go_enter Try.func143, Try.ntmps143
  go_wp2_with fail
  refine HN.out.mono ?_
  rintro e w1 ⟨v, rfl, -, hs, hc⟩
  have HS := Lib.hid (And.intro hs hc)
  clear hs hc
  go_wp2_with fail
  go_ret
  exact ⟨_, rfl, HS.out⟩
set_option maxRecDepth 100000 in
set_option maxHeartbeats 1000000 in
theorem some_any (b : Nat) (a : Option Addr) (la ca : Nat) (xs : List UInt8) (f : List Nat) (t n : Int) (w : World) (h : SrcB b a la ca xs f t w) (hn : -1000000 ≤ n) (hn2 : n ≤ 1000000) (ht : t + 3 * n ≤ 1073741000) (ht2 : t ≤ 1073741000) :
    Calls Try.prog 86 #[.pointer (some ⟨b, 0, none⟩), .int .i64 n] w fun e w' => ∃ (A : Option Addr) (C : Nat) (g : List Nat) (ys : List UInt8), e = .returned (.slice A ys.length C) ∧ ys.length = n.toNat ∧ byteL.sl w' A ys.length C ys g ∧ Fresh w.heap.size w' g ∧ SrcB b a la ca xs f (t + 3 * n.toNat) w' ∧ Chg [b] w w' := by
  obtain ⟨K, _⟩ := kindB
  have HH := Lib.hid h
  have hlb := h.lt
  have HFB := Lib.hid (fun x hx => byteL.sl_lt h.2.1 x hx : ∀ x ∈ f, x < w.heap.size)
  clear h
  obtain ⟨m, hm⟩ : ∃ m, m = n.toNat := ⟨_, rfl⟩
  rw [← hm]
  have HM := Lib.hid hm
  have hnm : n ≤ (m : Int) := by omega
  have hmt : t + 3 * (m : Int) ≤ 1073741000 := by omega
  clear hm
  go_enter Try.func86, Try.ntmps86
  go_wp2_with fail
  go_loopw [1, 5] (fun vn vo wr => ∃ (k : Nat) (ys : List UInt8) (Wr : World), Wr = wr ∧ k ≤ m ∧ vn = .int .i64 (n - k) ∧ ys.length = k ∧ GrowC byteL 5 w.heap.size wr vo ys ∧ SrcB b a la ca xs f (t + 3 * k) wr ∧ Chg [b] w wr) (fun vn _ _ => (intOf vn).toNat)
  case atStart => exact ⟨0, [], _, rfl, by omega, by simp, rfl, GrowC.made (Nat.le_refl _), by simpa using HH.out.ext ((Chg.refl [] w).alloc _), (Chg.refl [b] w).alloc _⟩
  case round =>
    obtain ⟨k, ys, wr, rfl, hk, rfl, hl, hg, hs, hc⟩ := hrel
    by_cases hlt : 0 < n - (k : Int)
    · have HL := Lib.hid hl
      have HG := Lib.hid hg; have HS := Lib.hid hs; have HC := Lib.hid hc
      clear hl hg hs hc
      go_wp2_with fail
      refine (byte_any b a la ca xs f (t + 3 * k) _ HS.out (by omega)).mono ?_
      rintro e w1 ⟨y, rfl, hs1, hc1⟩
      have hg1 := HG.out.chg hc1 (fun x hx => by rw [List.mem_singleton] at hx; rw [hx]; exact hlb)
      have HG1 := Lib.hid hg1
      have HS1 := Lib.hid hs1
      have HC1 := Lib.hid (HC.out.trans hc1 (fun x hx => .inl hx))
      have HSZ := Lib.hid hg1.1
      have HLL : RowKit.Hid (ys.length + [y].length ≤ maxLen ∧ (ys.length + [y].length) * 1 ≤ 140737488355328) := by
        have := HL.out
        refine ⟨?_, ?_⟩ <;> simp only [List.length_cons, List.length_nil, maxLen] <;> omega
      clear hs1 hc1 hg1
      go_wp2_with (refine byteL.wpList_grow rfl _ _ 22 rfl Try.underlying22 K rfl HG1.out.to ((Chg.refl [] w1).alloc _) ⟨w1.heap.size, 0, none⟩ 1 1 [.int .u8 ((y.toNat : Nat) : Int)] (ys := [y]) (f := []) rfl rfl (new_cell _ _ _) (byte_all1 rfl) (Fresh.nil _ _) HLL.out.1 HLL.out.2 ?_; intro v' w' hg'; have HN := Lib.hid (GrowC.next HSZ.out hg' HC1.out (Nat.le_refl _)); have HQ := Lib.hid (HS1.out.keep (GrowC.low HSZ.out hg') hlb HFB.out); clear hg')
      go_roundw
      case rel => exact ⟨k + 1, ys ++ [y], _, rfl, by have := HM.out; omega, by go_num, by simp [HL.out], HN.out.1, HQ.out.mono (by omega), HN.out.2⟩
      case measure => simp [intOf]; omega
    · obtain ⟨A, C, g, rfl, hsl, hf⟩ := hg.sl
      have HN := Lib.hid (And.intro hl (And.intro hsl (And.intro hf (And.intro hs hc))))
      clear hg hsl hf hs hc
      obtain rfl : k = m := by have := HM.out; omega
      generalize hyl : ys.length = yl at HN ⊢
      have HYL := Lib.hid hyl
      clear hyl
      go_wp2_with fail
      go_ret
      exact ⟨A, C, g, ys, by rw [HYL.out]; rfl, by rw [HYL.out]; have := HN.out.1; have := HYL.out; omega, by rw [HYL.out]; exact HN.out.2.1, HN.out.2.2.1, HN.out.2.2.2.1, HN.out.2.2.2.2⟩

/-! ### rows -/
/-- rows in memory of their own, all of it from n on and ahead of Bd -/
def RowsF (n Bd m : Nat) (w : World) (A : Option Addr) (C : Nat) (rows : List (List UInt8)) : Prop := ∃ g, byteL.slice.sl w A m C rows g ∧ Fresh n w g ∧ ∀ b ∈ g, b < Bd
section
variable {n Bd m C : Nat} {w w' : World} {A : Option Addr} {rows : List (List UInt8)}
theorem RowsF.chg {S : List Nat} (h : RowsF n Bd m w A C rows) (hc : Chg S w w') (hS : ∀ x ∈ S, x < n) : RowsF n Bd m w' A C rows := by
  obtain ⟨g, h1, h2, h3⟩ := h
  exact ⟨g, byteL.slice.sl_chg h1 hc (fun b hb hm => by have := (h2.2 b hb).1; have := hS b hm; omega), h2.chg hc, h3⟩
theorem RowsF.up {Bd' : Nat} (h : RowsF n Bd m w A C rows) (hB : Bd ≤ Bd') : RowsF n Bd' m w A C rows := by
  obtain ⟨g, h1, h2, h3⟩ := h
  exact ⟨g, h1, h2, fun b hb => Nat.lt_of_lt_of_le (h3 b hb) hB⟩
theorem RowsF.put {B o i C2 : Nat} {A2 : Option Addr} {y : List UInt8} {f2 : List Nat} (h : RowsF n Bd m w (some ⟨B, o, none⟩) C rows) (hi : i < m) (hx : byteL.sl w A2 y.length C2 y f2) (ff : Fresh Bd w f2) (hn : n ≤ Bd) :
    RowsF n w.heap.size m (w.setCell ⟨B, o + i, none⟩ (.slice A2 y.length C2)) (some ⟨B, o, none⟩) C (rows.set i y) := by
  obtain ⟨g, h1, h2, h3⟩ := h
  obtain ⟨fp', k1, k2, k3⟩ := byteL.slice.sl_put rfl h1 h2.1 hi (v := .slice A2 y.length C2) (x' := y) (f' := f2) ⟨A2, y.length, C2, rfl, hx⟩ (fun b hb hg => by have := (ff.2 b hb).1; have := h3 b hg; omega) ff.1
  refine ⟨fp', k1, ⟨k3, fun b hb => ?_⟩, fun b hb => ?_⟩
  · rcases k2 b hb with h | h
    · exact ⟨(h2.2 b h).1, (h2.2 b h).2.setCell _ _⟩
    · exact ⟨Nat.le_trans hn (ff.2 b h).1, (ff.2 b h).2.setCell _ _⟩
  · rcases k2 b hb with h | h
    · exact h2.lts b h
    · exact ff.lts b h
theorem RowsF.row (h : RowsF n Bd m w A C rows) {i : Nat} (hi : i < m) : ∃ x b off X l c f, RowKit.Hid (rows[i]? = some x ∧ n ≤ b ∧ Loose w b ∧ (∀ y ∈ f, n ≤ y ∧ y < Bd)) ∧ A = some ⟨b, off, none⟩ ∧ w.cell? ⟨b, off + i, none⟩ = some (.slice X l c) ∧ RowKit.Hid (byteL.sl w X l c x f) := by
  obtain ⟨g, h1, h2, h3⟩ := h
  obtain ⟨x, b, off, X, l, c, f, HX, e, hc, HS⟩ := slc_at h1 hi
  exact ⟨x, b, off, X, l, c, f, ⟨HX.out.1, (h2.2 b HX.out.2.1).1, (h2.2 b HX.out.2.1).2, fun y hy => ⟨(h2.2 y (HX.out.2.2 y hy)).1, h3 y (HX.out.2.2 y hy)⟩⟩, e, hc, HS⟩
theorem RowsF.len (h : RowsF n Bd m w A C rows) : m = rows.length := by obtain ⟨g, h1, _⟩ := h; exact h1.1
end
theorem cellKeepS {S : List Nat} {w w' : World} (hc : Chg S w w') {b o : Nat} {v : Value} (h : w.cell? ⟨b, o, none⟩ = some v) (hb : b < w.heap.size) (hS : b ∉ S) : w'.cell? ⟨b, o, none⟩ = some v := by
  have e := hc.block b hb hS
  simp only [World.cell?, e] at h ⊢
  exact h
theorem set_len {rows : List (List UInt8)} {i k : Nat} {y : List UInt8} (h : ∀ x ∈ rows, x.length ≤ k) (hy : y.length ≤ k) : ∀ x ∈ rows.set i y, x.length ≤ k := by
  intro x hx
  rcases List.mem_or_eq_of_mem_set hx with h1 | rfl
  · exact h x h1
  · exact hy

set_option maxRecDepth 100000 in
set_option maxHeartbeats 2000000 in
theorem rows_any (b : Nat) (a : Option Addr) (la ca : Nat) (xs : List UInt8) (f : List Nat) (t : Int) (w : World) (h : SrcB b a la ca xs f t w) (ht : t ≤ 1000000) :
    Calls Try.prog 103 #[.pointer (some ⟨b, 0, none⟩)] w fun e w' => ∃ (A : Option Addr) (C : Nat) (g : List Nat) (rows : List (List UInt8)), e = .returned (.slice A rows.length C) ∧ byteL.slice.sl w' A rows.length C rows g ∧ (∀ x ∈ g, w.heap.size ≤ x) ∧ rows.length ≤ 17 ∧ (∀ x ∈ rows, x.length ≤ 5) ∧ SrcB b a la ca xs f (t + 200) w' ∧ Chg [b] w w' := by
  obtain ⟨K, _⟩ := kindLL
  have hmk : ∀ w, (Instr.makeSlice 42 (.int .i64 17) (.int .i64 17)).run Try.prog w = .ok (.slice (some ⟨w.heap.size, 0, none⟩) 17 17) (w.alloc (.cells (zrow (.slice none 0 0) 17) 22)) := fun w => make_lists 17 (by omega) w
  have HH := Lib.hid h
  have hlb := h.lt
  have HFB := Lib.hid (fun x hx => byteL.sl_lt h.2.1 x hx : ∀ x ∈ f, x < w.heap.size)
  have HBN := Lib.hid (fun x hx => by rw [List.mem_singleton] at hx; rw [hx]; exact hlb : ∀ x ∈ [b], x < w.heap.size)
  clear h
  go_enter Try.func103, Try.ntmps103
  go_wp2_with fail
  refine (pickN_any b a la ca xs f t 7 [1, 2, 3, 4, 3, 2, 0] w HH.out (by omega) (by simp [i64ok]) rfl (by omega) (by omega) _ rfl _ rfl).mono ?_
  rintro e w1 ⟨v, rfl, hv, hs, hc⟩
  have hv0 : 0 ≤ v ∧ v ≤ 4 := by simp at hv; omega
  obtain ⟨m, rfl⟩ := Int.eq_ofNat_of_zero_le hv0.1
  have hm4 : m ≤ 4 := by omega
  have HS1 := Lib.hid hs; have HC1 := Lib.hid hc
  clear hv hs hc hv0
  go_wp2_with fail
  go_loopw [4, 5] (fun vo vk wr => ∃ (k : Nat) (rows : List (List UInt8)) (Wr : World), Wr = wr ∧ k ≤ m ∧ vk = .int .i64 k ∧ rows.length = k ∧ RowKit.Hid (∀ x ∈ rows, x.length ≤ 5) ∧ GrowC byteL.slice 22 w.heap.size wr vo rows ∧ SrcB b a la ca xs f (t + 1 + 12 * k) wr ∧ Chg [b] w wr) (fun _ vk _ => m - (intOf vk).toNat)
  case atStart => exact ⟨0, [], _, rfl, by omega, rfl, rfl, Lib.hid (by simp), GrowC.made HC1.out.size, by simpa using HS1.out.ext ((Chg.refl [] w1).alloc _), HC1.out.alloc _⟩
  case round =>
    obtain ⟨k, rows, wr, rfl, hk, rfl, hl, HLE, hg, hs, hc⟩ := hrel
    have HL := Lib.hid hl
    clear hl
    by_cases hlt : k < m
    · have HG := Lib.hid hg; have HS := Lib.hid hs; have HC := Lib.hid hc
      clear hg hs hc
      go_wp2_with fail
      refine (some_any b a la ca xs f (t + 1 + 12 * k) m _ HS.out (by omega) (by omega) (by omega) (by omega)).mono ?_
      rintro e w2 ⟨A2, C2, g2, ys, rfl, hyl, hsy, hfy, hs2, hc2⟩
      have HG2 := Lib.hid (HG.out.b.chg hc2 HBN.out)
      have HY := Lib.hid (And.intro hsy hfy)
      have HS2 := Lib.hid (hs2.mono (t2 := t + 1 + 12 * ((k + 1 : Nat) : Int)) (by omega)); have HC2 := Lib.hid (HC.out.trans hc2 (fun x hx => .inl hx))
      have HLE2 := Lib.hid (show ∀ x ∈ rows ++ [ys], x.length ≤ 5 from fun x hx => by
        rcases List.mem_append.1 hx with hx | hx
        · exact HLE.out x hx
        · rw [List.mem_singleton] at hx; rw [hx]; omega)
      have HLL : RowKit.Hid (rows.length + [ys].length ≤ maxLen ∧ (rows.length + [ys].length) * 24 ≤ 140737488355328) := by
        have := HL.out
        refine ⟨?_, ?_⟩ <;> simp only [List.length_cons, List.length_nil, maxLen] <;> omega
      clear hyl hsy hfy hs2 hc2
      go_wp2_with (at_builtin; refine (HG2.out.ext ((Chg.refl [] w2).alloc (.cells #[.slice A2 ys.length C2] 22))).wpList rfl _ _ 42 rfl Try.underlying42 K rfl ⟨w2.heap.size, 0, none⟩ 1 1 [.slice A2 ys.length C2] (ys := [ys]) (f := g2) rfl rfl (new_cell _ _ _) (slc_all1 (byteL.sl_ext HY.out.1 ((Chg.refl [] w2).alloc _))) (HY.out.2.chg ((Chg.refl [] w2).alloc _)) HLL.out.1 HLL.out.2 ?_; intro v' w' hg' hu'; have HN := Lib.hid hg'; have HU := Lib.hid hu'; clear hg' hu')
      go_roundw
      case rel => exact ⟨k + 1, rows ++ [ys], _, rfl, by omega, by go_num, by simp [HL.out], HLE2, HN.out, (HS2.out.ext ((Chg.refl [] w2).alloc _)).keep HU.out.low hlb HFB.out, HU.out.chg (HC2.out.alloc _) (Nat.le_refl _)⟩
      case measure => simp [intOf]; omega
    · obtain rfl : k = m := by omega
      obtain ⟨A, C, g, rfl, hsl, hf⟩ := hg.sl
      rw [HL.out] at hsl ⊢
      have hrf : RowsF w.heap.size wr.heap.size k wr A C rows := ⟨g, hsl, hf, hf.lts⟩
      have HR := Lib.hid hrf
      have HS := Lib.hid (hs.mono (t2 := t + 50) (by omega)); have HC := Lib.hid hc
      have HWS := Lib.hid hc.size
      clear hg hs hc hsl hf hrf HS1 HC1
      go_upto_region 7 with fail
      go_cut [26] (fun s26 w2 => ∃ v, s26 = .bool v ∧ RowKit.Hid (v = true → (1 : Int) < (k : Int)) ∧ RowsF w.heap.size w2.heap.size k w2 A C rows ∧ SrcB b a la ca xs f (t + 51) w2 ∧ Chg [b] w w2)
      case first =>
        by_cases h1 : (1 : Int) < (k : Int)
        · go_wp2_with fail
          refine (chance_any b a la ca xs f (t + 50) 3 _ HS.out (by omega) (by omega) (by omega)).mono ?_
          rintro e w3 ⟨v3, rfl, hs3, hc3⟩
          have HN3 := Lib.hid (And.intro (hs3.mono (t2 := t + 51) (by omega)) (And.intro (HC.out.trans hc3 (fun x hx => .inl hx)) ((HR.out.chg hc3 HBN.out).up hc3.size)))
          clear hs3 hc3
          go_wp2_with fail
          go_meet
          exact ⟨v3, rfl, fun _ => h1, HN3.out.2.2, HN3.out.1, HN3.out.2.1⟩
        · go_wp2_with fail
          go_meet
          exact ⟨false, rfl, fun h => (by cases h), HR.out, HS.out.mono (by omega), HC.out⟩
      case rest =>
      revert wc; intro w3 hcut
      obtain ⟨v3, rfl, HV3, hR3, hS3, hC3⟩ := hcut
      have HR3 := Lib.hid hR3; have HS3 := Lib.hid hS3; have HC3 := Lib.hid hC3
      have HCC3 := Lib.hid hC3.size
      clear hR3 hS3 hC3 HR HS HC HWS
      go_upto_if 26 with fail
      go_cut [] (fun w2 => (∃ rows', RowsF w.heap.size w2.heap.size k w2 A C rows' ∧ ∀ x ∈ rows', x.length ≤ 5) ∧ SrcB b a la ca xs f (t + 60) w2 ∧ Chg [b] w w2)
      case first =>
        cases v3
        · go_wp2_with fail
          go_meet
          exact ⟨⟨rows, HR3.out, HLE.out⟩, HS3.out.mono (by omega), HC3.out⟩
        · have h1 : (1 : Int) < (k : Int) := HV3.out rfl
          obtain ⟨x0, B0, o0, X0, l0, c0, f0, HX0, rfl, hcx0, HXS0⟩ := HR3.out.row (show 0 < k by omega)
          obtain ⟨x1, B1, o1, X1, l1, c1, f1, HX1, e1, hcx1, HXS1⟩ := HR3.out.row (show k - 1 < k by omega)
          obtain ⟨rfl, rfl⟩ : B0 = B1 ∧ o0 = o1 := by simpa using e1
          have hsub : IntKind.i64.wrap ((k : Int) - 1) = ((k - 1 : Nat) : Int) := by rw [IntWalk.i64_in _ (by omega)]; omega
          have hlB := HX0.out.2.2.1.lt
          have HXN := Lib.hid HX0.out.2.1
          have HNB := Lib.hid (show B0 ∉ [b] by have := HX0.out.2.1; rw [List.mem_singleton]; omega)
          have HF0 := Lib.hid (fun y hy hm => by have := (HX0.out.2.2.2 y hy).1; rw [List.mem_singleton] at hm; omega : ∀ y ∈ f0, y ∉ [b])
          have HL0 := Lib.hid (show x0.length ≤ 5 from HLE.out x0 (List.mem_of_getElem? HX0.out.1))
          have HLS0 := Lib.hid HX0.out.2.2.1
          have hl05 : l0 ≤ 5 := by rw [HXS0.out.1]; exact HL0.out
          have hk1 : k - 1 < k := by omega
          have hk0 : 0 < k := by omega
          have hk0i : (0 : Int) < (k : Int) := by omega
          rw [Nat.add_zero] at hcx0
          clear e1
          go_wp2_with fail
          go_region_law (first
            | (go_simp; go_at_call 65; refine (byte_any b a la ca xs f (t + 51) _ (HS3.out.ext (Chg.refl [] w3).drew) (by omega)).mono ?_; rintro e w4 ⟨y, rfl, hs4, hc4⟩; have HS4 := Lib.hid hs4; have HC4 := Lib.hid (show Chg [b] w3 w4 from (Chg.refl [b] w3).drew.trans hc4 (fun x hx => .inl hx)); have hcx4 := cellKeepS HC4.out hcx0 hlB HNB.out; clear hs4 hc4)
            | (go_simp; go_at_call 134; refine (l1Scale_any X0 l0 c0 x0 f0 y _ (byteL.sl_chg HXS0.out HC4.out HF0.out) (by omega)).mono ?_; rintro e w5 ⟨a5, c5, f5, rfl, hs5, ff5, hc5⟩; have HN5 := Lib.hid (And.intro hs5 (And.intro ff5 hc5)); have hcx5 := cellKeepS (HC4.out.trans0 hc5) hcx1 hlB HNB.out; have hfz5 : ∀ j, w5.frozen? ⟨B0, j, none⟩ = false := (by obtain ⟨cur, E, hw⟩ := (HC4.out.trans0 hc5).loose B0 HLS0.out; exact freeOf hw); have hlB5 := Nat.lt_of_lt_of_le hlB (HC4.out.trans0 hc5).size; clear hs5 ff5 hc5))
          all_goals
            go_wp2_with fail
            go_meet
            have hp := (((HR3.out.chg HC4.out HBN.out).chg HN5.out.2.2 (by simp)).put hk1 HN5.out.1 (HN5.out.2.1.mono HC4.out.size) HCC3.out)
            exact ⟨⟨_, by simpa using hp, set_len HLE.out (by rw [scaleL_length]; exact HL0.out)⟩, (((HS4.out.ext HN5.out.2.2).keep (n := w.heap.size) (fun q hq => Below.heap_setCell _ _ _ _ (by have := HXN.out; intro e; subst e; omega)) hlb HFB.out)).mono (by omega), ((HC3.out.trans HC4.out (fun x hx => .inl hx)).trans0 HN5.out.2.2).setCell _ _ (.inr HXN.out)⟩
      case rest =>
      revert wc; intro w5 hcut
      obtain ⟨⟨rows5, hR5, hL5⟩, hS5, hC5⟩ := hcut
      have HR5 := Lib.hid hR5; have HL5 := Lib.hid hL5; have HS5 := Lib.hid hS5; have HC5 := Lib.hid hC5
      clear hR5 hL5 hS5 hC5 HR3 HS3 HC3 HLE HL HCC3 HV3
      go_upto_region 9 with fail
      go_cut [42] (fun s42 w2 => ∃ v, s42 = .bool v ∧ RowKit.Hid (v = true → (0 : Int) < (k : Int)) ∧ RowsF w.heap.size w2.heap.size k w2 A C rows5 ∧ SrcB b a la ca xs f (t + 61) w2 ∧ Chg [b] w w2)
      case first =>
        by_cases h1 : (0 : Int) < (k : Int)
        · go_wp2_with fail
          refine (chance_any b a la ca xs f (t + 60) 12 _ HS5.out (by omega) (by omega) (by omega)).mono ?_
          rintro e w3 ⟨v3, rfl, hs3, hc3⟩
          have HN3 := Lib.hid (And.intro (hs3.mono (t2 := t + 61) (by omega)) (And.intro (HC5.out.trans hc3 (fun x hx => .inl hx)) ((HR5.out.chg hc3 HBN.out).up hc3.size)))
          clear hs3 hc3
          go_wp2_with fail
          go_meet
          exact ⟨v3, rfl, fun _ => h1, HN3.out.2.2, HN3.out.1, HN3.out.2.1⟩
        · go_wp2_with fail
          go_meet
          exact ⟨false, rfl, fun h => (by cases h), HR5.out, HS5.out.mono (by omega), HC5.out⟩
      case rest =>
      revert wc; intro w3 hcut
      obtain ⟨v3, rfl, HV3, hR3, hS3, hC3⟩ := hcut
      have HR3 := Lib.hid hR3; have HS3 := Lib.hid hS3; have HC3 := Lib.hid hC3
      clear hR3 hS3 hC3 HR5 HS5 HC5
      go_upto_if 42 with fail
      go_cut [] (fun w2 => (∃ rows', RowsF w.heap.size w2.heap.size k w2 A C rows' ∧ ∀ x ∈ rows', x.length ≤ 5) ∧ SrcB b a la ca xs f (t + 100) w2 ∧ Chg [b] w w2)
      case first =>
        cases v3
        · go_wp2_with fail
          go_meet
          exact ⟨⟨rows5, HR3.out, HL5.out⟩, HS3.out.mono (by omega), HC3.out⟩
        · have h1 : (0 : Int) < (k : Int) := HV3.out rfl
          obtain ⟨x0, B0, o0, X0, l0, c0, f0, HX0, rfl, hcx0, HXS0⟩ := HR3.out.row (show 0 < k by omega)
          have hlB := HX0.out.2.2.1.lt
          have HNB := Lib.hid (show B0 ∉ [b] by have := HX0.out.2.1; rw [List.mem_singleton]; omega)
          have HXN := Lib.hid HX0.out.2.1
          have HLS0 := Lib.hid HX0.out.2.2.1
          have hk1 : 0 < k := by omega
          rw [Nat.add_zero] at hcx0
          go_wp2_with fail
          refine (some_any b a la ca xs f (t + 61) ((k : Int) + 1) _ HS3.out (by omega) (by omega) (by omega) (by omega)).mono ?_
          rintro e w4 ⟨A4, C4, g4, ys, rfl, hyl, hsy, hfy, hs4, hc4⟩
          have HN4 := Lib.hid (And.intro hsy (And.intro hfy (And.intro hs4 hc4)))
          have HYL := Lib.hid (show ys.length ≤ 5 by omega)
          have hcx4 := cellKeepS hc4 hcx0 hlB HNB.out
          have hfz4 : ∀ j, w4.frozen? ⟨B0, j, none⟩ = false := by obtain ⟨cur, E, hw⟩ := hc4.loose B0 HLS0.out; exact freeOf hw
          have hlB4 := Nat.lt_of_lt_of_le hlB hc4.size
          clear hyl hsy hfy hs4 hc4 hcx0
          go_wp2_with fail
          go_meet
          have hp := (((HR3.out.chg HN4.out.2.2.2 HBN.out)).put hk1 HN4.out.1 HN4.out.2.1 HC3.out.size)
          exact ⟨⟨_, by simpa using hp, set_len HL5.out HYL.out⟩, (HN4.out.2.2.1.keep (n := w.heap.size) (fun q hq => Below.heap_setCell _ _ _ _ (by have := HXN.out; intro e; subst e; omega)) hlb HFB.out).mono (by omega), (HC3.out.trans HN4.out.2.2.2 (fun x hx => .inl hx)).setCell _ _ (.inr HXN.out)⟩
      case rest =>
      revert wc; intro w6 hcut
      obtain ⟨⟨rows6, hR6, hL6⟩, hS6, hC6⟩ := hcut
      have HR6 := Lib.hid hR6; have HL6 := Lib.hid hL6; have HS6 := Lib.hid hS6; have HC6 := Lib.hid hC6
      clear hR6 hL6 hS6 hC6 HR3 HL5 HS3 HC3 HV3
      go_wp2_with fail
      refine (chance_any b a la ca xs f (t + 100) 40 _ HS6.out (by omega) (by omega) (by omega)).mono ?_
      rintro e w7 ⟨v7, rfl, hs7, hc7⟩
      have HS7 := Lib.hid hs7; have HC7 := Lib.hid (HC6.out.trans hc7 (fun x hx => .inl hx))
      have HR7 := Lib.hid (HR6.out.chg hc7 HBN.out)
      clear hs7 hc7
      cases v7
      · go_wp2_with fail
        go_ret
        obtain ⟨g, h1, h2, h3⟩ := HR7.out
        have hl := h1.1
        subst hl
        exact ⟨A, C, g, rows6, rfl, h1, fun x hx => (h2.2 x hx).1, by omega, HL6.out, HS7.out.mono (by omega), HC7.out⟩
      · have HZ := Lib.hid (slc_zrow byteL w7 22 17 (by omega))
        go_wp2_with fail
        go_ret
        exact ⟨some ⟨w7.heap.size, 0, none⟩, 17, [w7.heap.size], List.replicate 17 [], by rfl, by simpa using HZ.out, by simp; exact HC7.out.size, by simp, by simp, (HS7.out.ext ((Chg.refl [] w7).alloc _)).mono (by omega), HC7.out.alloc _⟩
end Go.Proofs.Ytlnclkjmlpipgaa
