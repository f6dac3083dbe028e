/- Several texts in one. -/
import Derived.Test.YtphmpimgbmedbaaGreatApp
import Derived.Test.YtphmpimgbmedbaaGreatRows
import Derived.Test.YtphmpimgbmedbaaGreatMul
import Derived.Deep.RegionLaw
/- What a call hands back; what is kept. No function of the program in sight. -/
namespace Go.Proofs.YtphmpimgbmedbaaGreat
open Go.RowKit

/-! ### what a call hands back -/
/-- a struct made anew -/
def NewAgg {α : Type} (L : Lay α) (x : α) (w : World) (e : Ending) (w' : World) : Prop :=
  ∃ cs fp, e = .returned (.agg cs) ∧ L.rep w' cs.toList x fp ∧ Fresh w.heap.size w' fp ∧ Chg [] w w'
theorem keep_set {w : World} {b : Nat} {o : Obj} (hb : w.heap[b]? = some o) (p : Addr) (v : Value) (h : b ≠ p.block) : (w.setCell p v).heap[b]? = some o := by
  rw [Below.heap_setCell _ _ _ _ h]; exact hb
theorem keep_drew {w : World} {b : Nat} {o : Obj} (hb : w.heap[b]? = some o) : w.drew.heap[b]? = some o := hb
theorem new_at {w : World} {b : Nat} (h : b = w.heap.size) (x : Obj) : (w.alloc x).heap[b]? = some x := by subst h; exact new_alloc w x
theorem Fresh.append {B C : Nat} {w : World} {f g : List Nat} (hf : Fresh B w f) (hg : Fresh C w g) (hfC : ∀ b ∈ f, b < C) (hB : B ≤ C) : Fresh B w (f ++ g) :=
  ⟨List.nodup_append.2 ⟨hf.1, hg.1, fun a ha b hb e => by have h1 := hfC a ha; have h2 := (hg.2 b hb).1; omega⟩, fun b hb => by
    rcases List.mem_append.1 hb with h | h
    · exact hf.2 b h
    · exact ⟨Nat.le_trans hB (hg.2 b h).1, (hg.2 b h).2⟩⟩
/-- the fresh memory of one part behind that of another -/
theorem Fresh.low {B C : Nat} {w : World} {f : List Nat} (h : Fresh B w f) (hC : w.heap.size ≤ C) : ∀ b ∈ f, b < C := fun b hb => Nat.lt_of_lt_of_le (h.2 b hb).2.lt hC
theorem Fresh.not {B : Nat} {w : World} {f : List Nat} (h : Fresh B w f) {b : Nat} (hb : b < B) : b ∉ f := fun hm => Nat.lt_irrefl _ (Nat.lt_of_lt_of_le hb (h.2 b hm).1)
theorem Fresh.part {B : Nat} {w : World} {f g : List Nat} (h : Fresh B w (f ++ g)) : Fresh B w f ∧ Fresh B w g :=
  ⟨⟨(List.nodup_append.1 h.1).1, fun b hb => h.2 b (List.mem_append.2 (.inl hb))⟩, ⟨(List.nodup_append.1 h.1).2.1, fun b hb => h.2 b (List.mem_append.2 (.inr hb))⟩⟩
theorem Fresh.apart {B : Nat} {w : World} {f g : List Nat} (h : Fresh B w (f ++ g)) : ∀ b ∈ f, b ∉ g := fun b hb hg => (List.nodup_append.1 h.1).2.2 b hb b hg rfl
end Go.Proofs.YtphmpimgbmedbaaGreat

/- The walks of the byte lists: sums, scaled lists, of the reference and of the program. -/
namespace Go.Proofs.YtphmpimgbmedbaaGreat
open Go.RowKit

def addL (xs ys : List UInt8) : List UInt8 := xs.zipWith (· ^^^ ·) ys
def scaleL (xs : List UInt8) (c : UInt8) : List UInt8 := xs.map (Fld.mul · c)

theorem addL_next {xs ys : List UInt8} {k : Nat} {x y : UInt8} (hx : xs[k]? = some x) (hy : ys[k]? = some y) : addL (xs.take (k + 1)) (ys.take (k + 1)) = addL (xs.take k) (ys.take k) ++ [x ^^^ y] := by
  rw [take_next hx, take_next hy]
  have h1 := (List.getElem?_eq_some_iff.1 hx).1
  have h2 := (List.getElem?_eq_some_iff.1 hy).1
  unfold addL
  rw [List.zipWith_append (by simp; omega)]
  rfl

theorem addL_len (xs ys : List UInt8) (k : Nat) : (addL (xs.take k) ys).length ≤ k := by
  unfold addL; rw [List.length_zipWith]; exact Nat.le_trans (Nat.min_le_left _ _) (List.length_take_le _ _)
theorem addL_take : ∀ (xs ys : List UInt8), addL xs (ys.take xs.length) = addL xs ys := by
  intro xs
  induction xs with
  | nil => intro ys; simp [addL]
  | cons x xs ih =>
    intro ys
    cases ys with
    | nil => simp [addL]
    | cons y ys => have := ih ys; simp [addL] at this ⊢; exact this
theorem addL_length {xs ys : List UInt8} (h : xs.length ≤ ys.length) : (addL xs ys).length = xs.length := by
  unfold addL; rw [List.length_zipWith]; omega

theorem infoB : (Tryz.prog.info? 5).map (fun i => (i.zero, i.size, i.bytes)) = some (some (.int .u8 0), 1, 1) := by kernel_rfl
theorem kindB : ∃ K : Kind Tryz.prog 5 byteL.n 1, K.z = .int .u8 0 := by
  obtain ⟨i0, hi, hz0, hz1, hz2⟩ := info_parts infoB
  exact ⟨⟨i0, .int .u8 0, hi, hz0, hz1, hz2, rfl⟩, rfl⟩
/-- make([]byte, n) -/
theorem make_bytes (n : Nat) (hn : n ≤ 140737488355327) (w : World) :
    (Instr.makeSlice 62 (.int .i64 (n : Int)) (.int .i64 (n : Int))).run Tryz.prog w = .ok (.slice (some ⟨w.heap.size, 0, none⟩) n n) (w.alloc (.cells (zrow (.int .u8 0) n) 5)) := by
  obtain ⟨K, hK⟩ := kindB
  rw [← hK]
  have := make_row Tryz.underlying62 K n (by omega) (by omega) w
  rw [show n * byteL.n = n from Nat.mul_one n] at this
  exact this


theorem scaleL_next {xs : List UInt8} {k : Nat} {x c : UInt8} (hx : xs[k]? = some x) : scaleL (xs.take (k + 1)) c = scaleL (xs.take k) c ++ [Fld.mul x c] := by
  rw [take_next hx]; simp [scaleL]
theorem scaleL_len (xs : List UInt8) (c : UInt8) (k : Nat) : (scaleL (xs.take k) c).length ≤ k := by
  unfold scaleL; rw [List.length_map]; exact List.length_take_le _ _
theorem scaleL_length (xs : List UInt8) (c : UInt8) : (scaleL xs c).length = xs.length := by simp [scaleL]

/-- the first k places summed -/
def mixL (outs xs : List UInt8) (c : UInt8) (k : Nat) : List UInt8 := addL (outs.take k) (scaleL (xs.take k) c) ++ outs.drop k

theorem addL_len_eq {xs ys : List UInt8} (h : xs.length = ys.length) : (addL xs ys).length = xs.length := by unfold addL; rw [List.length_zipWith]; omega
theorem mixL_zero (outs xs : List UInt8) (c : UInt8) : mixL outs xs c 0 = outs := by simp [mixL, addL]
theorem mixL_all {outs xs : List UInt8} {c : UInt8} {n : Nat} (h : n = outs.length) (h2 : n = xs.length) : mixL outs xs c n = addL outs (scaleL xs c) := by
  unfold mixL
  rw [List.take_of_length_le (by omega), List.take_of_length_le (by omega), List.drop_of_length_le (by omega), List.append_nil]
theorem mixL_at {outs xs : List UInt8} {c : UInt8} {k : Nat} (hx : k < xs.length) (ho : k < outs.length) : (mixL outs xs c k)[k]? = outs[k]? := by
  unfold mixL
  have hl : (addL (outs.take k) (scaleL (xs.take k) c)).length = k := by rw [addL_len_eq (by simp [scaleL]; omega)]; simp; omega
  rw [List.getElem?_append_right (by omega), hl, List.getElem?_drop]
  simp
theorem mixL_next {outs xs : List UInt8} {c o x : UInt8} {k : Nat} (hx : xs[k]? = some x) (ho : outs[k]? = some o) : (mixL outs xs c k).set k (o ^^^ Fld.mul x c) = mixL outs xs c (k + 1) := by
  have hxl := (List.getElem?_eq_some_iff.1 hx).1
  have hol := (List.getElem?_eq_some_iff.1 ho).1
  have he := (List.getElem?_eq_some_iff.1 ho).2
  have hl : (addL (outs.take k) (scaleL (xs.take k) c)).length = k := by rw [addL_len_eq (by simp [scaleL]; omega)]; simp; omega
  unfold mixL
  rw [List.set_append_right _ _ (by omega), hl, Nat.sub_self, List.drop_eq_getElem_cons hol, List.set_cons_zero, take_next ho, scaleL_next hx]
  have : addL (outs.take k ++ [o]) (scaleL (xs.take k) c ++ [Fld.mul x c]) = addL (outs.take k) (scaleL (xs.take k) c) ++ [o ^^^ Fld.mul x c] := by
    unfold addL
    rw [List.zipWith_append (by simp [scaleL]; omega)]
    rfl
  rw [this]
  simp

theorem addL_zero (n : Nat) (xs : List UInt8) (h : n = xs.length) : addL (List.replicate n 0) xs = xs := by
  subst h
  induction xs with
  | nil => rfl
  | cons x xs ih => simp [addL, List.replicate_succ] at ih ⊢; exact ih

end Go.Proofs.YtphmpimgbmedbaaGreat

/- The walks of AddBytes, ScaleBytes and AddShare, of the program and of the reference. -/
namespace Go.Proofs.YtphmpimgbmedbaaGreat
open Go.RowKit

/-- what a call hands back that makes a code and a slice anew -/
def NewRes {α : Type} (L : Lay α) (r : Int × List α) (w : World) (e : Ending) (w' : World) : Prop :=
  ∃ a cap fp, e = .returned (.agg #[.int .i64 r.1, .slice a r.2.length cap]) ∧ L.sl w' a r.2.length cap r.2 fp ∧ Fresh w.heap.size w' fp ∧ Chg [] w w'

theorem NewRes.code {α : Type} (L : Lay α) {n : Int} {r : Int × List α} (hr : r = (n, [])) {w w' : World} (hc : Chg [] w w') : NewRes L r w (.returned (.agg #[.int .i64 n, .slice none 0 0])) w' := by
  subst hr
  exact ⟨none, 0, [], rfl, ⟨rfl, Nat.le_refl _, by simp [maxLen], fun _ => rfl, .inl ⟨rfl, rfl⟩⟩, Fresh.nil _ _, hc⟩


set_option maxHeartbeats 400000 in
theorem clone_bytes (a : Option Addr) (la ca : Nat) (xs : List UInt8) (f : List Nat) (w : World) (ha : Lay.sl byteL w a la ca xs f) (hz : la * 1 ≤ 140737488355327) :
    Calls Tryz.prog 141 #[.slice a la ca] w (NewRow byteL xs f w) := by
  obtain ⟨K, _⟩ := kindB
  have HZ := Lib.hid hz
  clear hz
  cases a with
  | none =>
    have hn := fun w => Lib.run_eql_slice_nil (P := Tryz.prog) w 62 5 none la ca 0 0 Tryz.underlying62
    have hN : NewRow byteL xs f w (.returned (.slice none 0 0)) w := by
      obtain rfl : xs = [] := by apply List.eq_nil_of_length_eq_zero; have := ha.1; have := ha.2.1; have := ha.2.2.2.1 rfl; omega
      exact ⟨5, _, none, [], rfl, Lay.os_nil _ _ _, by simp, by simp, Chg.refl _ _⟩
    have HN := Lib.hid hN
    clear hN
    go_enter Tryz.func141, Tryz.ntmps141
    go_wp2
    go_ret
    exact HN.out
  | some ad =>
    have hn := fun w => Lib.run_eql_slice_nil (P := Tryz.prog) w 62 5 (some ad) la ca 0 0 Tryz.underlying62
    obtain ⟨news, fps, hnews, hall, hsub⟩ := Lay.sl_cells _ (Lay.sl_ext _ ha ((Chg.refl [] w).alloc (.cells #[] 5)))
    have HA := Lib.hid ha
    have HW := Lib.hid (And.intro hnews (And.intro hall hsub))
    have HL : RowKit.Hid (([] : List UInt8).length + xs.length ≤ maxLen ∧ (([] : List UInt8).length + xs.length) * 1 ≤ 140737488355328 ∧ w.heap.size ∉ fps) := by
      have := HA.out.1; have := HZ.out; have := Lay.sl_max _ ha
      refine ⟨?_, ?_, fun hb => ?_⟩
      · simp only [List.length_nil, maxLen]; omega
      · simp only [List.length_nil, Nat.zero_add]; omega
      · have := Lay.sl_lt _ ha _ (hsub _ hb); omega
    clear ha hnews hall hsub
    go_enter Tryz.func141, Tryz.ntmps141
    go_wp2_with (refine Lay.wpList_append byteL rfl _ _ 62 rfl Tryz.underlying62 K rfl (Lay.os_made byteL 5 w #[] 0 (by simp [maxLen]) rfl) ad la ca news rfl HA.out.1 HW.out.1 HW.out.2.1 (fun g hg => by cases hg; exact HL.out.2.2) HL.out.1 HL.out.2.1 ?_; intro v' w' h' ho' hh' hc'; have hN := Lib.hid (And.intro ho' (And.intro hh' hc')); clear ho' hh' hc')
    go_ret
    obtain ⟨ho, hh, hc⟩ := hN.out
    refine ⟨_, _, h', _, rfl, ho, by simpa using HW.out.2.2, ?_, ((Chg.refl [] w).alloc _).trans hc (fun x hx => .inr (by simp at hx; omega))⟩
    intro g hg
    rcases hh with rfl | rfl
    · cases hg; exact Nat.le_refl _
    · cases hg; simp


theorem scaleL_one (xs : List UInt8) : scaleL xs 1 = xs := by unfold scaleL; simp [Fld.mul_one]

/-! the models -/
def addRes (xs ys : List UInt8) : Int × List UInt8 := if xs.length ≠ ys.length then (1, []) else if 4000 < xs.length then (2, []) else (0, addL xs ys)
def scaleRes (xs : List UInt8) (c : UInt8) : Int × List UInt8 := if 4000 < xs.length then (2, []) else (0, scaleL xs c)
def shareRes (xs ys : List UInt8) (c : UInt8) : Int × List UInt8 := if xs.length ≠ ys.length then (1, []) else if 4000 < xs.length then (2, []) else (0, addL xs (scaleL ys c))

theorem addRes_len (xs ys : List UInt8) : (addRes xs ys).2.length ≤ xs.length := by
  unfold addRes; split
  · simp
  · split
    · simp
    · show (addL xs ys).length ≤ _; unfold addL; rw [List.length_zipWith]; omega
theorem scaleRes_len (xs : List UInt8) (c : UInt8) : (scaleRes xs c).2.length ≤ xs.length := by
  unfold scaleRes; split
  · simp
  · show (scaleL xs c).length ≤ _; rw [scaleL_length]; omega
theorem shareRes_len (xs ys : List UInt8) (c : UInt8) : (shareRes xs ys c).2.length ≤ xs.length := by
  unfold shareRes; split
  · simp
  · split
    · simp
    · show (addL xs _).length ≤ _; unfold addL; rw [List.length_zipWith]; omega


theorem NewSl.since {α : Type} {L : Lay α} {xs : List α} {w w0 : World} {e : Ending} {w1 : World} (h : NewSl L xs w0 e w1) (hc : Chg [] w w0) : NewSl L xs w e w1 := by
  obtain ⟨a, cap, fp, rfl, hs, hf, hc'⟩ := h
  exact ⟨a, cap, fp, rfl, hs, hf.mono hc.size, hc.trans0 hc'⟩


end Go.Proofs.YtphmpimgbmedbaaGreat

/- Slices grown element by element, all of it new memory. No function of the program in sight. -/
namespace Go.Proofs.YtphmpimgbmedbaaGreat
open Go.RowKit

theorem Fresh.lts {B : Nat} {w : World} {fp : List Nat} (h : Fresh B w fp) : ∀ b ∈ fp, b < w.heap.size := fun b hb => (h.2 b hb).2.lt
theorem Lay.os_loose {α : Type} (L : Lay α) {E : TypeId} {w : World} {v : Value} {xs : List α} {h : Option Nat} {fps : List Nat} (ho : L.os E w v xs h fps) : ∀ g, h = some g → Loose w g := by
  rcases ho with ⟨_, _, rfl, _⟩ | ⟨g, cap, cur, _, rfl, hg, _⟩
  · intro g hg; cases hg
  · intro g' hg'; cases hg'; exact ⟨_, _, hg⟩

theorem Fresh.grow {B : Nat} {wr w3 w4 : World} {h h' : Option Nat} {fps f : List Nat} (fr : Fresh B wr (h.toList ++ fps)) (hB : B ≤ wr.heap.size) (ff : Fresh wr.heap.size w3 f) (c3 : Chg [] wr w3)
    (hh : h' = h ∨ h' = some w3.heap.size) (c4 : Chg h.toList w3 w4) (hl : ∀ g, h' = some g → Loose w4 g) : Fresh B w4 (h'.toList ++ (fps ++ f)) := by
  have f3 := fr.chg c3
  have f4 := f3.chg c4
  have g4 := ff.chg c4
  have nd := List.nodup_append.1 fr.1
  have dj : ∀ a ∈ h.toList ++ fps, ∀ b ∈ f, a ≠ b := fun a ha b hb e => by have h1 := fr.lts a ha; have h2 := (ff.2 b hb).1; omega
  rcases hh with rfl | rfl
  · rw [← List.append_assoc]
    exact ⟨List.nodup_append.2 ⟨fr.1, ff.1, dj⟩, fun b hb => by
      rcases List.mem_append.1 hb with hb | hb
      · exact f4.2 b hb
      · exact ⟨Nat.le_trans hB (g4.2 b hb).1, (g4.2 b hb).2⟩⟩
  · refine ⟨?_, fun b hb => ?_⟩
    · rw [Option.toList_some, List.singleton_append, List.nodup_cons]
      refine ⟨fun hb => ?_, List.nodup_append.2 ⟨nd.2.1, ff.1, fun a ha b hb => dj a (List.mem_append.2 (.inr ha)) b hb⟩⟩
      rcases List.mem_append.1 hb with hb | hb
      · have := f3.lts _ (List.mem_append.2 (.inr hb)); omega
      · have := ff.lts _ hb; omega
    · rw [Option.toList_some, List.singleton_append, List.mem_cons] at hb
      rcases hb with rfl | hb
      · exact ⟨Nat.le_trans hB c3.size, hl _ rfl⟩
      · rcases List.mem_append.1 hb with hb | hb
        · exact f4.2 b (List.mem_append.2 (.inr hb))
        · exact ⟨Nat.le_trans hB (g4.2 b hb).1, (g4.2 b hb).2⟩

/-- a slice that a call builds, all of it memory of its own -/
def Grow {α : Type} (L : Lay α) (E : TypeId) (w wr : World) (v : Value) (xs : List α) : Prop :=
  ∃ h fps, L.os E wr v xs h fps ∧ Fresh w.heap.size wr (h.toList ++ fps) ∧ Chg [] w wr

section
variable {α : Type} {L : Lay α} {E : TypeId} {w wr w' : World} {v : Value} {xs : List α}
theorem Grow.nil (hc : Chg [] w wr) : Grow L E w wr (.slice none 0 0) [] := ⟨none, [], Lay.os_nil _ _ _, Fresh.nil _ _, hc⟩
theorem Grow.made (hc : Chg [] w wr) : Grow L E w (wr.alloc (.cells #[] E)) (.slice (some ⟨wr.heap.size, 0, none⟩) 0 0) [] :=
  ⟨some wr.heap.size, [], Lay.os_made _ _ _ _ _ (by simp [maxLen]) (by simp), ⟨by simp, fun b hb => by simp at hb; subst hb; exact ⟨hc.size, _, _, new_alloc wr _⟩⟩, hc.alloc _⟩
theorem Grow.madeN {n : Nat} (hc : Chg [] w wr) (hn : n = wr.heap.size) : Grow L E w (wr.alloc (.cells #[] E)) (.slice (some ⟨n, 0, none⟩) 0 0) [] := by subst hn; exact Grow.made hc
theorem Grow.ext (h : Grow L E w wr v xs) (hc : Chg [] wr w') : Grow L E w w' v xs := by
  obtain ⟨hd, fps, ho, hf, hch⟩ := h
  exact ⟨hd, fps, L.os_ext ho hc, hf.chg hc, hch.trans0 hc⟩
theorem Grow.chg (h : Grow L E w wr v xs) : Chg [] w wr := by obtain ⟨_, _, _, _, h⟩ := h; exact h
theorem Grow.new (h : Grow L E w wr v xs) : NewSl L xs w (.returned v) wr := by
  obtain ⟨hd, fps, ho, hf, hch⟩ := h
  obtain ⟨a, cap, rfl, hs⟩ := L.os_sl ho
  exact ⟨a, cap, _, rfl, hs, hf, hch⟩
theorem Grow.sl (h : Grow L E w wr v xs) : ∃ a cap fp, v = .slice a xs.length cap ∧ L.sl wr a xs.length cap xs fp ∧ Fresh w.heap.size wr fp ∧ Chg [] w wr := by
  obtain ⟨hd, fps, ho, hf, hch⟩ := h
  obtain ⟨a, cap, rfl, hs⟩ := L.os_sl ho
  exact ⟨a, cap, _, rfl, hs, hf, hch⟩
theorem Grow.since {w0 : World} (h : Grow L E w wr v xs) (hc : Chg [] w0 w) : Grow L E w0 wr v xs := by
  obtain ⟨hd, fps, ho, hf, hch⟩ := h
  exact ⟨hd, fps, ho, hf.mono hc.size, hc.trans0 hch⟩
end

section
variable {α : Type} (L : Lay α) {P : Program} {E : TypeId} {bytes : Nat} {w wr w3 : World} {v : Value} {xs ys : List α} {f : List Nat}
theorem Lay.wp_grow {o : Oper} {a : Act} {Kc : Act → World → Prop} {Q : Exit → Act → World → Prop} (s x : Operand) (t : TypeId)
    (hop : o.op = .call { callee := .builtin .append, args := #[s, x], argTypes := #[t, t] }) (ht : P.underlying t = some (.slice E)) (K : Kind P E L.n bytes)
    (hs : a.eval s = v) (hg : Grow L E w wr v xs) (c3 : Chg [] wr w3)
    (ad : Addr) (m c : Nat) (news : List Value) (hx : a.eval x = .slice (some ad) m c) (hm : m = ys.length) (hnews : ∀ j u, news[j]? = some u → w3.cell? (ad.add j) = some u) (hall : L.all w3 news ys f) (ff : Fresh wr.heap.size w3 f)
    (h63 : xs.length + ys.length ≤ maxLen) (hbytes : (xs.length + ys.length) * bytes ≤ 140737488355328)
    (hk : ∀ v' w', Grow L E w w' v' (xs ++ ys) → Kc (a.put o.dst v') w') : o.wp P a w3 Kc Q := by
  obtain ⟨h, fps, ho, fr, hc⟩ := hg
  have hlt := L.os_lt ho
  refine L.wp_append s x t hop ht K hs (L.os_ext ho c3) ad m c news hx hm hnews hall (fun g hg hf => ?_) h63 hbytes (fun v' w' h' ho' hh' hc' => hk _ _ ⟨h', fps ++ f, ho', fr.grow hc.size ff c3 hh' hc' (L.os_loose ho'), ?_⟩)
  · have := hlt.1 g hg; have := (ff.2 g hf).1; omega
  · exact (hc.trans0 c3).trans hc' (fun b hb => .inr (by
      have := (fr.2 b (List.mem_append.2 (.inl hb))).1; exact this))
theorem Lay.wpList_grow {ops : Array Oper} {rest : List Oper} {o : Oper} {a : Act} {Q : Exit → Act → World → Prop} (hgd : o.guard = none) (s x : Operand) (t : TypeId)
    (hop : o.op = .call { callee := .builtin .append, args := #[s, x], argTypes := #[t, t] }) (ht : P.underlying t = some (.slice E)) (K : Kind P E L.n bytes)
    (hs : a.eval s = v) (hg : Grow L E w wr v xs) (c3 : Chg [] wr w3)
    (ad : Addr) (m c : Nat) (news : List Value) (hx : a.eval x = .slice (some ad) m c) (hm : m = ys.length) (hnews : ∀ j u, news[j]? = some u → w3.cell? (ad.add j) = some u) (hall : L.all w3 news ys f) (ff : Fresh wr.heap.size w3 f)
    (h63 : xs.length + ys.length ≤ maxLen) (hbytes : (xs.length + ys.length) * bytes ≤ 140737488355328)
    (hk : ∀ v' w', Grow L E w w' v' (xs ++ ys) → wpList P ops Q rest (a.put o.dst v') w') : wpList P ops Q (o :: rest) a w3 :=
  wpList_plain hgd fun _ hK => L.wp_grow s x t hop ht K hs hg c3 ad m c news hx hm hnews hall ff h63 hbytes fun v' w' h1 => hK _ _ (hk v' w' h1)
theorem Lay.step_grow {ops : Array Oper} {o : Oper} {a : Act} {Kc : Act → World → Prop} {Q : Exit → Act → World → Prop} {R : Prop} (hgd : o.guard = none) (s x : Operand) (t : TypeId)
    (hop : o.op = .call { callee := .builtin .append, args := #[s, x], argTypes := #[t, t] }) (ht : P.underlying t = some (.slice E)) (K : Kind P E L.n bytes)
    (hs : a.eval s = v) (hg : Grow L E w wr v xs) (c3 : Chg [] wr w3)
    (ad : Addr) (m c : Nat) (news : List Value) (hx : a.eval x = .slice (some ad) m c) (hm : m = ys.length) (hnews : ∀ j u, news[j]? = some u → w3.cell? (ad.add j) = some u) (hall : L.all w3 news ys f) (ff : Fresh wr.heap.size w3 f)
    (h63 : xs.length + ys.length ≤ maxLen) (hbytes : (xs.length + ys.length) * bytes ≤ 140737488355328)
    (hk : ∀ v' w', Grow L E w w' v' (xs ++ ys) → Kc (a.put o.dst v') w') :
    if Region.wanted o (yielded ops a.tmps) = true then Oper.wp P o a w3 Kc Q else R := by
  have hw : Region.wanted o (yielded ops a.tmps) = true := by simp [Region.wanted, hgd]
  rw [if_pos hw]
  exact L.wp_grow s x t hop ht K hs hg c3 ad m c news hx hm hnews hall ff h63 hbytes hk
end

/-- the cells of a new row -/
theorem new_cells (w : World) (cs : Array Value) (E : TypeId) : ∀ j u, cs.toList[j]? = some u → (w.alloc (.cells cs E)).cell? ((⟨w.heap.size, 0, none⟩ : Addr).add j) = some u := by
  intro j u hu
  have hadd : (⟨w.heap.size, 0, none⟩ : Addr).add j = ⟨w.heap.size, j, none⟩ := by unfold Addr.add; split <;> simp_all
  rw [hadd, cellsOf (new_alloc w _)]
  simpa using hu
/-- one element of a slice of slices -/
theorem slc_all1 {α : Type} {M : Lay α} {w : World} {a : Option Addr} {c : Nat} {x : List α} {f : List Nat} (h : M.sl w a x.length c x f) : M.slice.all w [.slice a x.length c] [x] f :=
  M.slice.all_single ⟨a, _, c, rfl, h⟩

theorem NewRes.storeG {α : Type} {L : Lay α} {r : Int × List α} {xs : List α} {w wr w2 : World} {o : Obj} {a : Option Addr} {cap : Nat} {fp : List Nat} (hr : r = (0, xs)) (hs : L.sl wr a xs.length cap xs fp)
    (hf : Fresh (w.alloc o).heap.size wr fp) (hc : Chg [] (w.alloc o) wr) (h2 : ∃ v u, w2 = (wr.setCell ⟨w.heap.size, 0, none⟩ v).setCell ⟨w.heap.size, 1, none⟩ u) :
    NewRes L r w (.returned (.agg #[.int .i64 0, .slice a xs.length cap])) w2 := by
  obtain ⟨v, u, rfl⟩ := h2
  have hc2 : Chg [w.heap.size] wr ((wr.setCell ⟨w.heap.size, 0, none⟩ v).setCell ⟨w.heap.size, 1, none⟩ u) := ((Chg.refl _ wr).setCell _ _ (.inl (by simp))).setCell _ _ (.inl (by simp))
  have hfw : ∀ b ∈ fp, b ∉ [w.heap.size] := fun b hb hb' => by have := (hf.2 b hb).1; simp at this hb'; omega
  rw [hr]
  exact ⟨a, cap, fp, rfl, L.sl_chg hs hc2 hfw, (hf.mono (by simp)).chg hc2, (((Chg.refl [] w).alloc _).trans0 hc).trans hc2 (fun x hx => .inr (by simp at hx; omega))⟩
section
variable {α : Type} (L : Lay α) {P : Program} {E : TypeId} {bytes : Nat} {w wr w3 : World} {v : Value} {xs ys : List α} {h : Option Nat} {f fps : List Nat}
theorem Lay.run_append_none (t ty : TypeId) (ht : P.underlying t = some (.slice E)) (K : Kind P E L.n bytes) (ho : L.os E w v xs h fps) : (Builtin.append_ #[t, t] ty #[v, .slice none 0 0]).run P w = .ok v w := by
  rcases ho with ⟨rfl, _⟩ | ⟨g, cap, cur, rfl, _, _, hnc, _⟩
  · simp [Builtin.append_, run_underlying ht, sizeOf, typeInfo, K.info, Builtin.lenOf, Builtin.firstCells]
  · simp [Builtin.append_, run_underlying ht, sizeOf, typeInfo, K.info, Builtin.lenOf, Builtin.firstCells, hnc, storeCells]
/-- a whole slice of plain cells appended: 'append(out, list...)' -/
theorem Lay.run_growS (hL : L.flat) (t ty : TypeId) (ht : P.underlying t = some (.slice E)) (K : Kind P E L.n bytes) (hg : Grow L E w wr v xs) (c3 : Chg [] wr w3)
    {a : Option Addr} {len cap : Nat} (hs : L.sl w3 a len cap ys f)
    (h63 : xs.length + ys.length ≤ maxLen) (hbytes : (xs.length + ys.length) * bytes ≤ 140737488355328) :
    ∃ v' w', (Builtin.append_ #[t, t] ty #[v, .slice a len cap]).run P w3 = .ok v' w' ∧ Grow L E w w' v' (xs ++ ys) := by
  obtain ⟨h, fps, ho, fr, hc⟩ := hg
  cases a with
  | none =>
    have h0 : cap = 0 := hs.2.2.2.1 rfl
    have h1 : len = 0 := by have := hs.2.1; omega
    have h2 : ys = [] := List.eq_nil_of_length_eq_zero (by have := hs.1; omega)
    subst h0 h1 h2
    exact ⟨v, w3, L.run_append_none t ty ht K (L.os_ext ho c3), by rw [List.append_nil]; exact ⟨h, fps, L.os_ext ho c3, fr.chg c3, hc.trans0 c3⟩⟩
  | some ad =>
    obtain ⟨news, fy, hnews, hall, hsub⟩ := L.sl_cells hs
    have hfy := Lay.flat_all hL hall
    subst hfy
    have hlen := hs.1
    subst hlen
    obtain ⟨v', w', h', hr, ho', hh', hc', hl⟩ := L.run_append t ty ht K (L.os_ext ho c3) ad cap news hnews hall (by simp) h63 hbytes
    refine ⟨v', w', hr, h', fps ++ [], ho', fr.grow hc.size (Fresh.nil _ _) c3 hh' hc' (L.os_loose ho'), (hc.trans0 c3).trans hc' (fun b hb => .inr ?_)⟩
    exact (fr.2 b (List.mem_append.2 (.inl hb))).1
theorem Lay.wp_growS (hL : L.flat) {o : Oper} {a : Act} {Kc : Act → World → Prop} {Q : Exit → Act → World → Prop} (s x : Operand) (t : TypeId)
    (hop : o.op = .call { callee := .builtin .append, args := #[s, x], argTypes := #[t, t] }) (ht : P.underlying t = some (.slice E)) (K : Kind P E L.n bytes)
    (hs : a.eval s = v) (hg : Grow L E w wr v xs) (c3 : Chg [] wr w3)
    {ad : Option Addr} {m c : Nat} (hx : a.eval x = .slice ad m c) (hsl : L.sl w3 ad m c ys f)
    (h63 : xs.length + ys.length ≤ maxLen) (hbytes : (xs.length + ys.length) * bytes ≤ 140737488355328)
    (hk : ∀ v' w', Grow L E w w' v' (xs ++ ys) → Kc (a.put o.dst v') w') : o.wp P a w3 Kc Q := by
  obtain ⟨v', w', hr, h2⟩ := L.run_growS hL (P := P) t o.type ht K hg c3 hsl h63 hbytes
  unfold Oper.wp execOp
  simp only [hop, resolve, invoke, builtin, Sem.run_bind, Sem.run_pure, Result.andThen_ok, List.map_toArray, List.map_cons, List.map_nil, hs, hx, hr]
  exact hk v' w' h2
theorem Lay.wpList_growS (hL : L.flat) {ops : Array Oper} {rest : List Oper} {o : Oper} {a : Act} {Q : Exit → Act → World → Prop} (hgd : o.guard = none) (s x : Operand) (t : TypeId)
    (hop : o.op = .call { callee := .builtin .append, args := #[s, x], argTypes := #[t, t] }) (ht : P.underlying t = some (.slice E)) (K : Kind P E L.n bytes)
    (hs : a.eval s = v) (hg : Grow L E w wr v xs) (c3 : Chg [] wr w3)
    {ad : Option Addr} {m c : Nat} (hx : a.eval x = .slice ad m c) (hsl : L.sl w3 ad m c ys f)
    (h63 : xs.length + ys.length ≤ maxLen) (hbytes : (xs.length + ys.length) * bytes ≤ 140737488355328)
    (hk : ∀ v' w', Grow L E w w' v' (xs ++ ys) → wpList P ops Q rest (a.put o.dst v') w') : wpList P ops Q (o :: rest) a w3 :=
  wpList_plain hgd fun _ hK => L.wp_growS hL s x t hop ht K hs hg c3 hx hsl h63 hbytes fun v' w' h1 => hK _ _ (hk v' w' h1)
theorem Lay.step_growS (hL : L.flat) {ops : Array Oper} {o : Oper} {a : Act} {Kc : Act → World → Prop} {Q : Exit → Act → World → Prop} {R : Prop} (hgd : o.guard = none) (s x : Operand) (t : TypeId)
    (hop : o.op = .call { callee := .builtin .append, args := #[s, x], argTypes := #[t, t] }) (ht : P.underlying t = some (.slice E)) (K : Kind P E L.n bytes)
    (hs : a.eval s = v) (hg : Grow L E w wr v xs) (c3 : Chg [] wr w3)
    {ad : Option Addr} {m c : Nat} (hx : a.eval x = .slice ad m c) (hsl : L.sl w3 ad m c ys f)
    (h63 : xs.length + ys.length ≤ maxLen) (hbytes : (xs.length + ys.length) * bytes ≤ 140737488355328)
    (hk : ∀ v' w', Grow L E w w' v' (xs ++ ys) → Kc (a.put o.dst v') w') :
    if Region.wanted o (yielded ops a.tmps) = true then Oper.wp P o a w3 Kc Q else R := by
  have hw : Region.wanted o (yielded ops a.tmps) = true := by simp [Region.wanted, hgd]
  rw [if_pos hw]
  exact L.wp_growS hL s x t hop ht K hs hg c3 hx hsl h63 hbytes hk
end
/-- a slice grown of bytes, as an element -/
theorem Grow.bytes {E : TypeId} {w wr : World} {v : Value} {xs : List UInt8} (h : Grow byteL E w wr v xs) : ∃ a c f, v = .slice a xs.length c ∧ byteL.sl wr a xs.length c xs f ∧ Fresh w.heap.size wr f ∧ Chg [] w wr := by
  obtain ⟨a, c, f, h1, h2, h3, h4⟩ := h.sl
  exact ⟨a, c, f, h1, h2, h3, h4⟩
end Go.Proofs.YtphmpimgbmedbaaGreat

/- Slices grown while other memory changes. No function of the program in sight. -/
namespace Go.Proofs.YtphmpimgbmedbaaGreat
open Go.RowKit

/-- the first n blocks of a world -/
def cutW (w : World) (n : Nat) : World := { w with heap := w.heap.extract 0 n }
theorem cutW_size {w : World} {n : Nat} (h : n ≤ w.heap.size) : (cutW w n).heap.size = n := by simp [cutW]; omega
theorem cutW_at {w : World} {n k : Nat} (h : k < n) : (cutW w n).heap[k]? = w.heap[k]? := by
  unfold cutW
  simp only [Array.getElem?_extract]
  by_cases hk : k < w.heap.size
  · rw [if_pos (by omega)]; simp
  · rw [if_neg (by omega), Array.getElem?_eq_none (by omega)]
theorem cutW_chg {w : World} {n : Nat} (h : n ≤ w.heap.size) : Chg [] (cutW w n) w := by
  refine ⟨rfl, rfl, rfl, by rw [cutW_size h]; exact h, fun k hk _ => ?_, fun k hk => ?_⟩
  · rw [cutW_size h] at hk; exact (cutW_at hk).symm
  · have hlt := hk.lt
    rw [cutW_size h] at hlt
    obtain ⟨cur, E, hb⟩ := hk
    exact ⟨cur, E, by rw [← cutW_at hlt]; exact hb⟩
/-- a slice that is being built out of blocks from n on -/
def GrowC {α : Type} (L : Lay α) (E : TypeId) (n : Nat) (wr : World) (v : Value) (xs : List α) : Prop :=
  n ≤ wr.heap.size ∧ ∃ h fps, L.os E wr v xs h fps ∧ Fresh n wr (h.toList ++ fps)
section
variable {α : Type} {L : Lay α} {E : TypeId} {n : Nat} {w wr w' : World} {v : Value} {xs : List α}
theorem GrowC.to (h : GrowC L E n wr v xs) : Grow L E (cutW wr n) wr v xs := by
  obtain ⟨h0, hd, fps, h1, h2⟩ := h
  exact ⟨hd, fps, h1, by rw [cutW_size h0]; exact h2, cutW_chg h0⟩
theorem GrowC.of (h : Grow L E w wr v xs) : GrowC L E w.heap.size wr v xs := by
  obtain ⟨hd, fps, h1, h2, h3⟩ := h
  exact ⟨h3.size, hd, fps, h1, h2⟩
theorem GrowC.of' (h : Grow L E w wr v xs) (hn : n = w.heap.size) : GrowC L E n wr v xs := by subst hn; exact GrowC.of h
theorem GrowC.chg {S : List Nat} (h : GrowC L E n wr v xs) (hc : Chg S wr w') (hS : ∀ x ∈ S, x < n) : GrowC L E n w' v xs := by
  obtain ⟨h0, hd, fps, h1, h2⟩ := h
  refine ⟨Nat.le_trans h0 hc.size, hd, fps, L.os_chg h1 hc (fun g hg hm => ?_) (fun b hb hm => ?_), h2.chg hc⟩
  · have := (h2.2 g (List.mem_append.2 (.inl (by simp [hg])))).1; have := hS g hm; omega
  · have := (h2.2 b (List.mem_append.2 (.inr hb))).1; have := hS b hm; omega
theorem GrowC.ext (h : GrowC L E n wr v xs) (hc : Chg [] wr w') : GrowC L E n w' v xs := h.chg hc (by simp)
/-- behind an append: what has changed since a world ahead -/
theorem GrowC.next {ys : List α} {v' : Value} {S : List Nat} {w0 : World} (hn : n ≤ wr.heap.size) (h : Grow L E (cutW wr n) w' v' ys) (hc : Chg S w0 wr) (h0 : w0.heap.size ≤ n) : GrowC L E n w' v' ys ∧ Chg S w0 w' := by
  refine ⟨GrowC.of' h (cutW_size hn).symm, ?_⟩
  have h1 := h.chg
  refine ⟨h1.os.trans hc.os, h1.tape.trans hc.tape, h1.output.trans hc.output, ?_, fun k hk hS => ?_, fun k hk => ?_⟩
  · have := h1.size; rw [cutW_size hn] at this; omega
  · rw [h1.block k (by rw [cutW_size hn]; omega) (by simp), cutW_at (by omega), hc.block k hk hS]
  · have hlt := hk.lt
    have h2 := hc.loose k hk
    refine h1.loose k ?_
    obtain ⟨cur, T, hb⟩ := h2
    exact ⟨cur, T, by rw [cutW_at (by omega)]; exact hb⟩
theorem GrowC.low {ys : List α} {v' : Value} (hn : n ≤ wr.heap.size) (h : Grow L E (cutW wr n) w' v' ys) : ∀ k, k < n → w'.heap[k]? = wr.heap[k]? := fun k hk => by
  rw [h.chg.block k (by rw [cutW_size hn]; exact hk) (by simp), cutW_at hk]
theorem GrowC.sl (h : GrowC L E n wr v xs) : ∃ a cap fp, v = .slice a xs.length cap ∧ L.sl wr a xs.length cap xs fp ∧ Fresh n wr fp := by
  obtain ⟨h0, hd, fps, h1, h2⟩ := h
  obtain ⟨a, cap, rfl, hs⟩ := L.os_sl h1
  exact ⟨a, cap, _, rfl, hs, h2⟩
theorem GrowC.made (h : n ≤ wr.heap.size) : GrowC L E n (wr.alloc (.cells #[] E)) (.slice (some ⟨wr.heap.size, 0, none⟩) 0 0) [] :=
  ⟨by simp; omega, some wr.heap.size, [], Lay.os_made _ _ _ _ _ (by simp [maxLen]) (by simp), ⟨by simp, fun b hb => by simp at hb; subst hb; exact ⟨h, _, _, new_alloc wr _⟩⟩⟩
theorem GrowC.nil (h : n ≤ wr.heap.size) : GrowC L E n wr (.slice none 0 0) [] := ⟨h, none, [], Lay.os_nil _ _ _, Fresh.nil _ _⟩
end
/-- what lies below n is as it was -/
structure Up (n : Nat) (w w' : World) : Prop where
  os : w'.os = w.os
  tape : w'.tape = w.tape
  output : w'.output = w.output
  size : w.heap.size ≤ w'.heap.size
  low : ∀ k, k < n → w'.heap[k]? = w.heap[k]?
  loose : ∀ k, Loose w k → Loose w' k
theorem Up.chg {n : Nat} {S : List Nat} {w0 w w' : World} (h : Up n w w') (hc : Chg S w0 w) (h0 : w0.heap.size ≤ n) : Chg S w0 w' :=
  ⟨h.os.trans hc.os, h.tape.trans hc.tape, h.output.trans hc.output, Nat.le_trans hc.size h.size, fun k hk hS => by rw [h.low k (by omega), hc.block k hk hS], fun k hk => h.loose k (hc.loose k hk)⟩
theorem Up.of {n : Nat} {S : List Nat} {w w' : World} (hc : Chg S w w') (hS : ∀ x ∈ S, n ≤ x) (hn : n ≤ w.heap.size) : Up n w w' :=
  ⟨hc.os, hc.tape, hc.output, hc.size, fun k hk => hc.block k (by omega) (fun hm => by have := hS k hm; omega), hc.loose⟩
/-- the same, all its blocks ahead of B -/
def GrowB {α : Type} (L : Lay α) (E : TypeId) (n B : Nat) (wr : World) (v : Value) (xs : List α) : Prop :=
  n ≤ B ∧ B ≤ wr.heap.size ∧ ∃ h fps, L.os E wr v xs h fps ∧ Fresh n wr (h.toList ++ fps) ∧ ∀ b ∈ h.toList ++ fps, b < B
section
variable {α : Type} {L : Lay α} {E : TypeId} {n B : Nat} {w wr w' : World} {v : Value} {xs : List α}
theorem GrowC.b (h : GrowC L E n wr v xs) : GrowB L E n wr.heap.size wr v xs := by
  obtain ⟨h0, hd, fps, h1, h2⟩ := h
  exact ⟨h0, Nat.le_refl _, hd, fps, h1, h2, h2.lts⟩
theorem GrowB.chg {S : List Nat} (h : GrowB L E n B wr v xs) (hc : Chg S wr w') (hS : ∀ x ∈ S, x < n) : GrowB L E n B w' v xs := by
  obtain ⟨h0, h9, hd, fps, h1, h2, h3⟩ := h
  refine ⟨h0, Nat.le_trans h9 hc.size, hd, fps, L.os_chg h1 hc (fun g hg hm => ?_) (fun b hb hm => ?_), h2.chg hc, h3⟩
  · have := (h2.2 g (List.mem_append.2 (.inl (by simp [hg])))).1; have := hS g hm; omega
  · have := (h2.2 b (List.mem_append.2 (.inr hb))).1; have := hS b hm; omega
theorem GrowB.ext (h : GrowB L E n B wr v xs) (hc : Chg [] wr w') : GrowB L E n B w' v xs := h.chg hc (by simp)
theorem GrowB.run {P : Program} {bytes : Nat} {ys : List α} {f : List Nat} (t ty : TypeId) (ht : P.underlying t = some (.slice E)) (K : Kind P E L.n bytes) (hg : GrowB L E n B w v xs)
    (ad : Addr) (c : Nat) (news : List Value) (hnews : ∀ j u, news[j]? = some u → w.cell? (ad.add j) = some u) (hall : L.all w news ys f) (ff : Fresh B w f)
    (h63 : xs.length + ys.length ≤ maxLen) (hbytes : (xs.length + ys.length) * bytes ≤ 140737488355328) :
    ∃ v' w', (Builtin.append_ #[t, t] ty #[v, .slice (some ad) ys.length c]).run P w = .ok v' w' ∧ GrowC L E n w' v' (xs ++ ys) ∧ Up n w w' := by
  obtain ⟨h0, h9, hd, fps, h1, h2, h3⟩ := hg
  have hlt := L.os_lt h1
  obtain ⟨v', w', h', hr, ho', hh', hc', hl⟩ := L.run_append (P := P) t ty ht K h1 ad c news hnews hall (fun g hg hf => by have a1 := h3 g (by simp [hg]); have a2 := (ff.2 g hf).1; omega) h63 hbytes
  have hle : Up n w w' := Up.of hc' (fun x hx => (h2.2 x (List.mem_append.2 (.inl hx))).1) (by omega)
  refine ⟨v', w', hr, ⟨Nat.le_trans (Nat.le_trans h0 h9) hle.size, h', fps ++ f, ho', ?_⟩, hle⟩
  have f2 := h2.chg hc'
  have g2 := ff.chg hc'
  have nd := List.nodup_append.1 h2.1
  have dj : ∀ a ∈ hd.toList ++ fps, ∀ b ∈ f, a ≠ b := fun a ha b hb e => by have a1 := h3 a ha; have a2 := (ff.2 b hb).1; omega
  have hlo := L.os_loose ho'
  rcases hh' with rfl | rfl
  · rw [← List.append_assoc]
    exact ⟨List.nodup_append.2 ⟨h2.1, ff.1, dj⟩, fun b hb => by
      rcases List.mem_append.1 hb with hb | hb
      · exact f2.2 b hb
      · exact ⟨Nat.le_trans h0 (g2.2 b hb).1, (g2.2 b hb).2⟩⟩
  · refine ⟨?_, fun b hb => ?_⟩
    · rw [Option.toList_some, List.singleton_append, List.nodup_cons]
      refine ⟨fun hb => ?_, List.nodup_append.2 ⟨nd.2.1, ff.1, fun a ha b hb => dj a (List.mem_append.2 (.inr ha)) b hb⟩⟩
      rcases List.mem_append.1 hb with hb | hb
      · have := h3 _ (List.mem_append.2 (.inr hb)); omega
      · have := ff.lts _ hb; omega
    · rw [Option.toList_some, List.singleton_append, List.mem_cons] at hb
      rcases hb with rfl | hb
      · exact ⟨by omega, hlo _ rfl⟩
      · rcases List.mem_append.1 hb with hb | hb
        · exact f2.2 b (List.mem_append.2 (.inr hb))
        · exact ⟨Nat.le_trans h0 (g2.2 b hb).1, (g2.2 b hb).2⟩
theorem GrowB.wp {P : Program} {bytes : Nat} {ys : List α} {f : List Nat} {o : Oper} {a : Act} {Kc : Act → World → Prop} {Q : Exit → Act → World → Prop} (s x : Operand) (t : TypeId)
    (hop : o.op = .call { callee := .builtin .append, args := #[s, x], argTypes := #[t, t] }) (ht : P.underlying t = some (.slice E)) (K : Kind P E L.n bytes)
    (hs : a.eval s = v) (hg : GrowB L E n B w v xs)
    (ad : Addr) (m c : Nat) (news : List Value) (hx : a.eval x = .slice (some ad) m c) (hm : m = ys.length) (hnews : ∀ j u, news[j]? = some u → w.cell? (ad.add j) = some u) (hall : L.all w news ys f) (ff : Fresh B w f)
    (h63 : xs.length + ys.length ≤ maxLen) (hbytes : (xs.length + ys.length) * bytes ≤ 140737488355328)
    (hk : ∀ v' w', GrowC L E n w' v' (xs ++ ys) → Up n w w' → Kc (a.put o.dst v') w') : o.wp P a w Kc Q := by
  subst hm
  obtain ⟨v', w', hr, h2, h3⟩ := hg.run (P := P) t o.type ht K ad c news hnews hall ff h63 hbytes
  unfold Oper.wp execOp
  simp only [hop, resolve, invoke, builtin, Sem.run_bind, Sem.run_pure, Result.andThen_ok, List.map_toArray, List.map_cons, List.map_nil, hs, hx, hr]
  exact hk v' w' h2 h3
theorem GrowB.wpList {P : Program} {bytes : Nat} {ys : List α} {f : List Nat} {ops : Array Oper} {rest : List Oper} {o : Oper} {a : Act} {Q : Exit → Act → World → Prop} (hgd : o.guard = none) (s x : Operand) (t : TypeId)
    (hop : o.op = .call { callee := .builtin .append, args := #[s, x], argTypes := #[t, t] }) (ht : P.underlying t = some (.slice E)) (K : Kind P E L.n bytes)
    (hs : a.eval s = v) (hg : GrowB L E n B w v xs)
    (ad : Addr) (m c : Nat) (news : List Value) (hx : a.eval x = .slice (some ad) m c) (hm : m = ys.length) (hnews : ∀ j u, news[j]? = some u → w.cell? (ad.add j) = some u) (hall : L.all w news ys f) (ff : Fresh B w f)
    (h63 : xs.length + ys.length ≤ maxLen) (hbytes : (xs.length + ys.length) * bytes ≤ 140737488355328)
    (hk : ∀ v' w', GrowC L E n w' v' (xs ++ ys) → Up n w w' → wpList P ops Q rest (a.put o.dst v') w') : wpList P ops Q (o :: rest) a w :=
  wpList_plain hgd fun _ hK => hg.wp s x t hop ht K hs ad m c news hx hm hnews hall ff h63 hbytes fun v' w' h1 h2 => hK _ _ (hk v' w' h1 h2)
theorem GrowB.step {P : Program} {bytes : Nat} {ys : List α} {f : List Nat} {ops : Array Oper} {o : Oper} {a : Act} {Kc : Act → World → Prop} {Q : Exit → Act → World → Prop} {R : Prop} (hgd : o.guard = none) (s x : Operand) (t : TypeId)
    (hop : o.op = .call { callee := .builtin .append, args := #[s, x], argTypes := #[t, t] }) (ht : P.underlying t = some (.slice E)) (K : Kind P E L.n bytes)
    (hs : a.eval s = v) (hg : GrowB L E n B w v xs)
    (ad : Addr) (m c : Nat) (news : List Value) (hx : a.eval x = .slice (some ad) m c) (hm : m = ys.length) (hnews : ∀ j u, news[j]? = some u → w.cell? (ad.add j) = some u) (hall : L.all w news ys f) (ff : Fresh B w f)
    (h63 : xs.length + ys.length ≤ maxLen) (hbytes : (xs.length + ys.length) * bytes ≤ 140737488355328)
    (hk : ∀ v' w', GrowC L E n w' v' (xs ++ ys) → Up n w w' → Kc (a.put o.dst v') w') :
    if Region.wanted o (yielded ops a.tmps) = true then Oper.wp P o a w Kc Q else R := by
  have hw : Region.wanted o (yielded ops a.tmps) = true := by simp [Region.wanted, hgd]
  rw [if_pos hw]
  exact hg.wp s x t hop ht K hs ad m c news hx hm hnews hall ff h63 hbytes hk
end
end Go.Proofs.YtphmpimgbmedbaaGreat
