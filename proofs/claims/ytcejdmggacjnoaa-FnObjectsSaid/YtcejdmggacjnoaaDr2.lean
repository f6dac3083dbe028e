
/- The draws, by a source of which so much has been read at most: numbers, bytes, rows. -/
import Derived.Test.YtcejdmggacjnoaaDrw
import Derived.Test.YtcejdmggacjnoaaGrc
import Derived.Test.YtcejdmggacjnoaaMix
import Derived.Deep.RegionLaw
import Derived.Deep.DeepCutAuto
namespace Go.Proofs.Ytcejdmggacjnoaa
open Go.RowKit

/-- a source at b, of which t numbers have been read at most -/
def SrcB (b : Nat) (a : Option Addr) (la ca : Nat) (xs : List UInt8) (f : List Nat) (t : Int) (w : World) : Prop :=
  (∃ t', 0 ≤ t' ∧ t' ≤ t ∧ w.heap[b]? = some (.cells #[.slice a la ca, .int .i64 t'] 69 (0, 0))) ∧ byteL.sl w a la ca xs f ∧ b ∉ f ∧ la ≤ 1048576
section
variable {b : Nat} {a : Option Addr} {la ca : Nat} {xs : List UInt8} {f : List Nat} {t : Int} {w w' : World}
theorem SrcB.lt (h : SrcB b a la ca xs f t w) : b < w.heap.size := by obtain ⟨⟨_, _, _, h⟩, _⟩ := h; exact ltOf h
theorem SrcB.ext (h : SrcB b a la ca xs f t w) (hc : Chg [] w w') : SrcB b a la ca xs f t w' := by
  obtain ⟨⟨t', h1, h2, h3⟩, h4, h5, h6⟩ := h
  exact ⟨⟨t', h1, h2, hc.keep0 h3⟩, byteL.sl_ext h4 hc, h5, h6⟩
theorem SrcB.chg {S : List Nat} (h : SrcB b a la ca xs f t w) (hc : Chg S w w') (hb : b ∉ S) (hf : ∀ x ∈ f, x ∉ S) : SrcB b a la ca xs f t w' := by
  obtain ⟨⟨t', h1, h2, h3⟩, h4, h5, h6⟩ := h
  exact ⟨⟨t', h1, h2, hc.keepb h3 hb⟩, byteL.sl_chg h4 hc hf, h5, h6⟩
theorem SrcB.keep {n : Nat} (h : SrcB b a la ca xs f t w) (hk : ∀ k, k < n → w'.heap[k]? = w.heap[k]?) (hb : b < n) (hf : ∀ x ∈ f, x < n) : SrcB b a la ca xs f t w' := by
  obtain ⟨⟨t', h1, h2, h3⟩, h4, h5, h6⟩ := h
  exact ⟨⟨t', h1, h2, (hk b hb).trans h3⟩, byteL.sl_keep h4 (fun x hx => hk x (hf x hx)), h5, h6⟩
theorem SrcB.mono {t2 : Int} (h : SrcB b a la ca xs f t w) (ht : t ≤ t2) : SrcB b a la ca xs f t2 w := by
  obtain ⟨⟨t', h1, h2, h3⟩, h4⟩ := h
  exact ⟨⟨t', h1, by omega, h3⟩, h4⟩
theorem SrcB.self (h : SrcB b a la ca xs f t w) (hc : Chg [b] w w') : byteL.sl w' a la ca xs f := byteL.sl_chg h.2.1 hc (fun x hx hm => h.2.2.1 (by rw [List.mem_singleton] at hm; exact hm ▸ hx))
end
theorem next_any (b : Nat) (a : Option Addr) (la ca : Nat) (xs : List UInt8) (f : List Nat) (t n : Int) (w : World) (h : SrcB b a la ca xs f t w) (ht : t ≤ 1073741700) (hn : -1099511627776 ≤ n) (hn2 : n ≤ 1099511627776) :
    Calls Try.prog 45 #[.pointer (some ⟨b, 0, none⟩), .int .i64 n] w fun e w' => ∃ v, e = .returned (.int .i64 v) ∧ Drawn n v ∧ SrcB b a la ca xs f (t + 1) w' ∧ Chg [b] w w' := by
  obtain ⟨⟨t', h1, h2, h3⟩, h4, h5, h6⟩ := h
  refine (l1Next_any b a la ca xs f t' n w h3 h4 h5 h6 h1 (by omega) hn hn2).mono ?_
  rintro e w' ⟨v, rfl, hd, hb, hc⟩
  exact ⟨v, rfl, hd, ⟨⟨t' + 1, by omega, by omega, hb⟩, byteL.sl_chg h4 hc (fun x hx hm => h5 (by rw [List.mem_singleton] at hm; exact hm ▸ hx)), h5, h6⟩, hc⟩
theorem pick_any (b : Nat) (a : Option Addr) (la ca : Nat) (xs : List UInt8) (f : List Nat) (t : Int) (pa : Option Addr) (pl pc : Nat) (ys : List Int) (g : List Nat) (w : World) (h : SrcB b a la ca xs f t w) (ht : t ≤ 1073741700) (hp : intL.sl w pa pl pc ys g) (hbg : b ∉ g) (hpl : 1 ≤ pl) (hpl2 : pl ≤ 1000) :
    Calls Try.prog 46 #[.pointer (some ⟨b, 0, none⟩), .slice pa pl pc] w fun e w' => ∃ v, e = .returned (.int .i64 v) ∧ v ∈ ys ∧ SrcB b a la ca xs f (t + 1) w' ∧ Chg [b] w w' := by
  obtain ⟨⟨t', h1, h2, h3⟩, h4, h5, h6⟩ := h
  refine (l1Pick_any b a la ca xs f t' pa pl pc ys g w h3 h4 h5 h6 h1 (by omega) hp hbg hpl hpl2).mono ?_
  rintro e w' ⟨v, rfl, hd, hb, hc⟩
  exact ⟨v, rfl, hd, ⟨⟨t' + 1, by omega, by omega, hb⟩, byteL.sl_chg h4 hc (fun x hx hm => h5 (by rw [List.mem_singleton] at hm; exact hm ▸ hx)), h5, h6⟩, hc⟩
/-- a number out of a row that is laid for it -/
theorem pickN_any (b : Nat) (a : Option Addr) (la ca : Nat) (xs : List UInt8) (f : List Nat) (t : Int) (pl : Nat) (ys : List Int) (w : World) (h : SrcB b a la ca xs f t w) (ht : t ≤ 1073741700) (hy : ∀ y ∈ ys, i64ok y) (hl : pl = ys.length) (hpl : 1 ≤ pl) (hpl2 : pl ≤ 1000) (cs : Array Value) (hcs : cs = (ys.map (Value.int IntKind.i64)).toArray) (bn : Nat) (hbn : bn = w.heap.size) :
    Calls Try.prog 46 #[.pointer (some ⟨b, 0, none⟩), .slice (some ⟨bn, 0, none⟩) pl pl] (w.alloc (.cells cs 2)) fun e w' => ∃ v, e = .returned (.int .i64 v) ∧ v ∈ ys ∧ SrcB b a la ca xs f (t + 1) w' ∧ Chg [b] w w' := by
  subst hcs hl hbn
  refine (pick_any b a la ca xs f t _ ys.length ys.length ys [w.heap.size] _ (h.ext ((Chg.refl [] w).alloc _)) ht (int_rowS (new_alloc w _) hy (by omega)) (by have := h.lt; simp; omega) hpl hpl2).mono ?_
  rintro e w' ⟨v, rfl, hv, hs, hc⟩
  exact ⟨v, rfl, hv, hs, ((Chg.refl [b] w).alloc _).trans hc (fun x hx => .inl hx)⟩
theorem byte_any (b : Nat) (a : Option Addr) (la ca : Nat) (xs : List UInt8) (f : List Nat) (t : Int) (w : World) (h : SrcB b a la ca xs f t w) (ht : t ≤ 1073741700) :
    Calls Try.prog 47 #[.pointer (some ⟨b, 0, none⟩)] w fun e w' => ∃ x : UInt8, e = .returned (.int .u8 x.toNat) ∧ SrcB b a la ca xs f (t + 3) w' ∧ Chg [b] w w' := by
  obtain ⟨⟨t', h1, h2, h3⟩, h4, h5, h6⟩ := h
  refine (l1Byte_any b a la ca xs f t' w h3 h4 h5 h6 h1 (by omega)).mono ?_
  rintro e w' ⟨v, rfl, hb, hc⟩
  exact ⟨v, rfl, ⟨⟨t' + 3, by omega, by omega, hb⟩, byteL.sl_chg h4 hc (fun x hx hm => h5 (by rw [List.mem_singleton] at hm; exact hm ▸ hx)), h5, h6⟩, hc⟩
theorem source_any (a : Option Addr) (la ca : Nat) (xs : List UInt8) (f : List Nat) (w : World) (ha : byteL.sl w a la ca xs f) (hla : la ≤ 1048576) :
    Calls Try.prog 26 #[.slice a la ca] w fun e w' => e = .returned (.pointer (some ⟨w.heap.size, 0, none⟩)) ∧ SrcB w.heap.size a la ca xs f 0 w' ∧ Chg [] w w' := by
  refine (l1Source_any a la ca w).mono ?_
  rintro e w' ⟨rfl, hb, hc⟩
  exact ⟨rfl, ⟨⟨0, by omega, by omega, hb⟩, byteL.sl_ext ha hc, fun hm => Nat.lt_irrefl _ (byteL.sl_lt ha _ hm), hla⟩, hc⟩
set_option maxRecDepth 100000 in
set_option maxHeartbeats 1000000 in
theorem some_any (b : Nat) (a : Option Addr) (la ca : Nat) (xs : List UInt8) (f : List Nat) (t n : Int) (w : World) (h : SrcB b a la ca xs f t w) (hn : -1000000 ≤ n) (hn2 : n ≤ 1000000) (ht : t + 3 * n ≤ 1073741000) (ht2 : t ≤ 1073741000) :
    Calls Try.prog 28 #[.pointer (some ⟨b, 0, none⟩), .int .i64 n] w fun e w' => ∃ (A : Option Addr) (C : Nat) (g : List Nat) (ys : List UInt8), e = .returned (.slice A ys.length C) ∧ ys.length = n.toNat ∧ byteL.sl w' A ys.length C ys g ∧ Fresh w.heap.size w' g ∧ SrcB b a la ca xs f (t + 3 * n.toNat) w' ∧ Chg [b] w w' := by
  obtain ⟨K, _⟩ := kindB
  have HH := Lib.hid h
  have hlb := h.lt
  have HFB := Lib.hid (fun x hx => byteL.sl_lt h.2.1 x hx : ∀ x ∈ f, x < w.heap.size)
  clear h
  obtain ⟨m, hm⟩ : ∃ m, m = n.toNat := ⟨_, rfl⟩
  rw [← hm]
  have HM := Lib.hid hm
  have hnm : n ≤ (m : Int) := by omega
  have hmt : t + 3 * (m : Int) ≤ 1073741000 := by omega
  clear hm
  go_enter Try.func28, Try.ntmps28
  go_wp2_with fail
  go_loopw [1, 5] (fun vn vo wr => ∃ (k : Nat) (ys : List UInt8) (Wr : World), Wr = wr ∧ k ≤ m ∧ vn = .int .i64 (n - k) ∧ ys.length = k ∧ GrowC byteL 5 w.heap.size wr vo ys ∧ SrcB b a la ca xs f (t + 3 * k) wr ∧ Chg [b] w wr) (fun vn _ _ => (intOf vn).toNat)
  case atStart => exact ⟨0, [], _, rfl, by omega, by simp, rfl, GrowC.made (Nat.le_refl _), by simpa using HH.out.ext ((Chg.refl [] w).alloc _), (Chg.refl [b] w).alloc _⟩
  case round =>
    obtain ⟨k, ys, wr, rfl, hk, rfl, hl, hg, hs, hc⟩ := hrel
    by_cases hlt : 0 < n - (k : Int)
    · have HL := Lib.hid hl
      have HG := Lib.hid hg; have HS := Lib.hid hs; have HC := Lib.hid hc
      clear hl hg hs hc
      go_wp2_with fail
      refine (byte_any b a la ca xs f (t + 3 * k) _ HS.out (by omega)).mono ?_
      rintro e w1 ⟨y, rfl, hs1, hc1⟩
      have hg1 := HG.out.chg hc1 (fun x hx => by rw [List.mem_singleton] at hx; rw [hx]; exact hlb)
      have HG1 := Lib.hid hg1
      have HS1 := Lib.hid hs1
      have HC1 := Lib.hid (HC.out.trans hc1 (fun x hx => .inl hx))
      have HSZ := Lib.hid hg1.1
      have HLL : RowKit.Hid (ys.length + [y].length ≤ maxLen ∧ (ys.length + [y].length) * 1 ≤ 140737488355328) := by
        have := HL.out
        refine ⟨?_, ?_⟩ <;> simp only [List.length_cons, List.length_nil, maxLen] <;> omega
      clear hs1 hc1 hg1
      go_wp2_with (refine byteL.wpList_grow rfl _ _ 24 rfl Try.underlying24 K rfl HG1.out.to ((Chg.refl [] w1).alloc _) ⟨w1.heap.size, 0, none⟩ 1 1 [.int .u8 ((y.toNat : Nat) : Int)] (ys := [y]) (f := []) rfl rfl (new_cell _ _ _) (byte_all1 rfl) (Fresh.nil _ _) HLL.out.1 HLL.out.2 ?_; intro v' w' hg'; have HN := Lib.hid (GrowC.next HSZ.out hg' HC1.out (Nat.le_refl _)); have HQ := Lib.hid (HS1.out.keep (GrowC.low HSZ.out hg') hlb HFB.out); clear hg')
      go_roundw
      case rel => exact ⟨k + 1, ys ++ [y], _, rfl, by have := HM.out; omega, by go_num, by simp [HL.out], HN.out.1, HQ.out.mono (by omega), HN.out.2⟩
      case measure => simp [intOf]; omega
    · obtain ⟨A, C, g, rfl, hsl, hf⟩ := hg.sl
      have HN := Lib.hid (And.intro hl (And.intro hsl (And.intro hf (And.intro hs hc))))
      clear hg hsl hf hs hc
      obtain rfl : k = m := by have := HM.out; omega
      generalize hyl : ys.length = yl at HN ⊢
      have HYL := Lib.hid hyl
      clear hyl
      go_wp2_with fail
      go_ret
      exact ⟨A, C, g, ys, by rw [HYL.out]; rfl, by rw [HYL.out]; have := HN.out.1; have := HYL.out; omega, by rw [HYL.out]; exact HN.out.2.1, HN.out.2.2.1, HN.out.2.2.2.1, HN.out.2.2.2.2⟩

/-! ### rows -/
/-- rows in memory of their own, all of it from n on and ahead of Bd -/
def RowsF (n Bd m : Nat) (w : World) (A : Option Addr) (C : Nat) (rows : List (List UInt8)) : Prop := ∃ g, byteL.slice.sl w A m C rows g ∧ Fresh n w g ∧ ∀ b ∈ g, b < Bd
section
variable {n Bd m C : Nat} {w w' : World} {A : Option Addr} {rows : List (List UInt8)}
theorem RowsF.chg {S : List Nat} (h : RowsF n Bd m w A C rows) (hc : Chg S w w') (hS : ∀ x ∈ S, x < n) : RowsF n Bd m w' A C rows := by
  obtain ⟨g, h1, h2, h3⟩ := h
  exact ⟨g, byteL.slice.sl_chg h1 hc (fun b hb hm => by have := (h2.2 b hb).1; have := hS b hm; omega), h2.chg hc, h3⟩
theorem RowsF.up {Bd' : Nat} (h : RowsF n Bd m w A C rows) (hB : Bd ≤ Bd') : RowsF n Bd' m w A C rows := by
  obtain ⟨g, h1, h2, h3⟩ := h
  exact ⟨g, h1, h2, fun b hb => Nat.lt_of_lt_of_le (h3 b hb) hB⟩
theorem RowsF.put {B o i C2 : Nat} {A2 : Option Addr} {y : List UInt8} {f2 : List Nat} (h : RowsF n Bd m w (some ⟨B, o, none⟩) C rows) (hi : i < m) (hx : byteL.sl w A2 y.length C2 y f2) (ff : Fresh Bd w f2) (hn : n ≤ Bd) :
    RowsF n w.heap.size m (w.setCell ⟨B, o + i, none⟩ (.slice A2 y.length C2)) (some ⟨B, o, none⟩) C (rows.set i y) := by
  obtain ⟨g, h1, h2, h3⟩ := h
  obtain ⟨fp', k1, k2, k3⟩ := byteL.slice.sl_put rfl h1 h2.1 hi (v := .slice A2 y.length C2) (x' := y) (f' := f2) ⟨A2, y.length, C2, rfl, hx⟩ (fun b hb hg => by have := (ff.2 b hb).1; have := h3 b hg; omega) ff.1
  refine ⟨fp', k1, ⟨k3, fun b hb => ?_⟩, fun b hb => ?_⟩
  · rcases k2 b hb with h | h
    · exact ⟨(h2.2 b h).1, (h2.2 b h).2.setCell _ _⟩
    · exact ⟨Nat.le_trans hn (ff.2 b h).1, (ff.2 b h).2.setCell _ _⟩
  · rcases k2 b hb with h | h
    · exact h2.lts b h
    · exact ff.lts b h
theorem RowsF.row (h : RowsF n Bd m w A C rows) {i : Nat} (hi : i < m) : ∃ x b off X l c f, RowKit.Hid (rows[i]? = some x ∧ n ≤ b ∧ Loose w b ∧ (∀ y ∈ f, n ≤ y ∧ y < Bd)) ∧ A = some ⟨b, off, none⟩ ∧ w.cell? ⟨b, off + i, none⟩ = some (.slice X l c) ∧ RowKit.Hid (byteL.sl w X l c x f) := by
  obtain ⟨g, h1, h2, h3⟩ := h
  obtain ⟨x, b, off, X, l, c, f, HX, e, hc, HS⟩ := slc_at h1 hi
  exact ⟨x, b, off, X, l, c, f, ⟨HX.out.1, (h2.2 b HX.out.2.1).1, (h2.2 b HX.out.2.1).2, fun y hy => ⟨(h2.2 y (HX.out.2.2 y hy)).1, h3 y (HX.out.2.2 y hy)⟩⟩, e, hc, HS⟩
theorem RowsF.len (h : RowsF n Bd m w A C rows) : m = rows.length := by obtain ⟨g, h1, _⟩ := h; exact h1.1
end
theorem cellKeepS {S : List Nat} {w w' : World} (hc : Chg S w w') {b o : Nat} {v : Value} (h : w.cell? ⟨b, o, none⟩ = some v) (hb : b < w.heap.size) (hS : b ∉ S) : w'.cell? ⟨b, o, none⟩ = some v := by
  have e := hc.block b hb hS
  simp only [World.cell?, e] at h ⊢
  exact h
theorem set_len {rows : List (List UInt8)} {i k : Nat} {y : List UInt8} (h : ∀ x ∈ rows, x.length ≤ k) (hy : y.length ≤ k) : ∀ x ∈ rows.set i y, x.length ≤ k := by
  intro x hx
  rcases List.mem_or_eq_of_mem_set hx with h1 | rfl
  · exact h x h1
  · exact hy

end Go.Proofs.Ytcejdmggacjnoaa
