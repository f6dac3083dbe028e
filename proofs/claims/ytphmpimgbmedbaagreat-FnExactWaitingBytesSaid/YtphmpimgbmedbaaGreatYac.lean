/- Several texts in one. -/
import Derived.Test.YtphmpimgbmedbaaGreatRows
import Derived.Test.YtphmpimgbmedbaaGreatYaa
import Derived.Deep.RegionLaw
import Derived.Laws.IdiomCopy
namespace Go.Proofs.YtphmpimgbmedbaaGreat
open Go.RowKit
open Go.Lib (hid)
theorem infoB : (Tryz.prog.info? 5).map (fun i => (i.zero, i.size, i.bytes)) = some (some (.int .u8 0), 1, 1) := by kernel_rfl
theorem kindB : ∃ K : Kind Tryz.prog 5 byteL.n 1, K.z = .int .u8 0 := by
 obtain ⟨i0, hi, hz0, hz1, hz2⟩ := info_parts infoB
 exact ⟨⟨i0, .int .u8 0, hi, hz0, hz1, hz2, rfl⟩, rfl⟩
theorem make_bytes (n : Nat) (hn : n ≤ 140737488355327) (w : World) :
  (Instr.makeSlice 62 (.int .i64 (n : Int)) (.int .i64 (n : Int))).run Tryz.prog w = .ok (.slice (some ⟨w.heap.size, 0, none⟩) n n) (w.alloc (.cells (zrow (.int .u8 0) n) 5)) := by
 obtain ⟨K, hK⟩ := kindB
 rw [← hK]
 have := make_row Tryz.underlying62 K n (by omega) (by omega) w
 rw [show n * byteL.n = n from Nat.mul_one n] at this
 exact this
def NewRes {α : Type} (L : Lay α) (r : Int × List α) (w : World) (e : Ending) (w' : World) : Prop :=
 ∃ a cap fp, e = .returned (.agg #[.int .i64 r.1, .slice a r.2.length cap]) ∧ L.sl w' a r.2.length cap r.2 fp ∧ Fresh w.heap.size w' fp ∧ Chg [] w w'
theorem NewRes.code {α : Type} (L : Lay α) {n : Int} {r : Int × List α} (hr : r = (n, [])) {w w' : World} (hc : Chg [] w w') : NewRes L r w (.returned (.agg #[.int .i64 n, .slice none 0 0])) w' := by
 subst hr
 exact ⟨none, 0, [], rfl, ⟨rfl, Nat.le_refl _, by simp [maxLen], fun _ => rfl, .inl ⟨rfl, rfl⟩⟩, Fresh.nil _ _, hc⟩
/-! the models -/
theorem NewSl.since {α : Type} {L : Lay α} {xs : List α} {w w0 : World} {e : Ending} {w1 : World} (h : NewSl L xs w0 e w1) (hc : Chg [] w w0) : NewSl L xs w e w1 := by
 obtain ⟨a, cap, fp, rfl, hs, hf, hc'⟩ := h
 exact ⟨a, cap, fp, rfl, hs, hf.mono hc.size, hc.trans0 hc'⟩
end Go.Proofs.YtphmpimgbmedbaaGreat
namespace Go.Proofs.YtphmpimgbmedbaaGreat
open Go.RowKit
open Go.Lib (hid)
theorem Fresh.lts {B : Nat} {w : World} {fp : List Nat} (h : Fresh B w fp) : ∀ b ∈ fp, b < w.heap.size := fun b hb => (h.2 b hb).2.lt
theorem Lay.os_loose {α : Type} (L : Lay α) {E : TypeId} {w : World} {v : Value} {xs : List α} {h : Option Nat} {fps : List Nat} (ho : L.os E w v xs h fps) : ∀ g, h = some g → Loose w g := by
 rcases ho with ⟨_, _, rfl, _⟩ | ⟨g, cap, cur, _, rfl, hg, _⟩
 ·intro g hg; cases hg
 ·intro g' hg'; cases hg'; exact ⟨_, _, hg⟩
theorem Fresh.grow {B : Nat} {wr w3 w4 : World} {h h' : Option Nat} {fps f : List Nat} (fr : Fresh B wr (h.toList ++ fps)) (hB : B ≤ wr.heap.size) (ff : Fresh wr.heap.size w3 f) (c3 : Chg [] wr w3)
  (hh : h' = h ∨ h' = some w3.heap.size) (c4 : Chg h.toList w3 w4) (hl : ∀ g, h' = some g → Loose w4 g) : Fresh B w4 (h'.toList ++ (fps ++ f)) := by
 have f3 := fr.chg c3
 have f4 := f3.chg c4
 have g4 := ff.chg c4
 have nd := List.nodup_append.1 fr.1
 have dj : ∀ a ∈ h.toList ++ fps, ∀ b ∈ f, a ≠ b := fun a ha b hb e => by have h1 := fr.lts a ha; have h2 := (ff.2 b hb).1; omega
 rcases hh with rfl | rfl
 ·rw [← List.append_assoc]
  exact ⟨List.nodup_append.2 ⟨fr.1, ff.1, dj⟩, fun b hb => by
   rcases List.mem_append.1 hb with hb | hb
   ·exact f4.2 b hb
   ·exact ⟨Nat.le_trans hB (g4.2 b hb).1, (g4.2 b hb).2⟩⟩
 ·refine ⟨?_, fun b hb => ?_⟩
  ·rw [Option.toList_some, List.singleton_append, List.nodup_cons]
   refine ⟨fun hb => ?_, List.nodup_append.2 ⟨nd.2.1, ff.1, fun a ha b hb => dj a (List.mem_append.2 (.inr ha)) b hb⟩⟩
   rcases List.mem_append.1 hb with hb | hb
   ·have := f3.lts _ (List.mem_append.2 (.inr hb)); omega
   ·have := ff.lts _ hb; omega
  ·rw [Option.toList_some, List.singleton_append, List.mem_cons] at hb
   rcases hb with rfl | hb
   ·exact ⟨Nat.le_trans hB c3.size, hl _ rfl⟩
   ·rcases List.mem_append.1 hb with hb | hb
    ·exact f4.2 b (List.mem_append.2 (.inr hb))
    ·exact ⟨Nat.le_trans hB (g4.2 b hb).1, (g4.2 b hb).2⟩
def Grow {α : Type} (L : Lay α) (E : TypeId) (w wr : World) (v : Value) (xs : List α) : Prop :=
 ∃ h fps, L.os E wr v xs h fps ∧ Fresh w.heap.size wr (h.toList ++ fps) ∧ Chg [] w wr
section
variable {α : Type} {L : Lay α} {E : TypeId} {w wr w' : World} {v : Value} {xs : List α}
theorem Grow.nil (hc : Chg [] w wr) : Grow L E w wr (.slice none 0 0) [] := ⟨none, [], Lay.os_nil _ _ _, Fresh.nil _ _, hc⟩
theorem Grow.made (hc : Chg [] w wr) : Grow L E w (wr.alloc (.cells #[] E)) (.slice (some ⟨wr.heap.size, 0, none⟩) 0 0) [] :=
 ⟨some wr.heap.size, [], Lay.os_made _ _ _ _ _ (by simp [maxLen]) (by simp), ⟨by simp, fun b hb => by simp at hb; subst hb; exact ⟨hc.size, _, _, new_alloc wr _⟩⟩, hc.alloc _⟩
theorem Grow.ext (h : Grow L E w wr v xs) (hc : Chg [] wr w') : Grow L E w w' v xs := by
 obtain ⟨hd, fps, ho, hf, hch⟩ := h
 exact ⟨hd, fps, L.os_ext ho hc, hf.chg hc, hch.trans0 hc⟩
theorem Grow.chg (h : Grow L E w wr v xs) : Chg [] w wr := by obtain ⟨_, _, _, _, h⟩ := h; exact h
theorem Grow.new (h : Grow L E w wr v xs) : NewSl L xs w (.returned v) wr := by
 obtain ⟨hd, fps, ho, hf, hch⟩ := h
 obtain ⟨a, cap, rfl, hs⟩ := L.os_sl ho
 exact ⟨a, cap, _, rfl, hs, hf, hch⟩
theorem Grow.sl (h : Grow L E w wr v xs) : ∃ a cap fp, v = .slice a xs.length cap ∧ L.sl wr a xs.length cap xs fp ∧ Fresh w.heap.size wr fp ∧ Chg [] w wr := by
 obtain ⟨hd, fps, ho, hf, hch⟩ := h
 obtain ⟨a, cap, rfl, hs⟩ := L.os_sl ho
 exact ⟨a, cap, _, rfl, hs, hf, hch⟩
theorem Grow.since {w0 : World} (h : Grow L E w wr v xs) (hc : Chg [] w0 w) : Grow L E w0 wr v xs := by
 obtain ⟨hd, fps, ho, hf, hch⟩ := h
 exact ⟨hd, fps, ho, hf.mono hc.size, hc.trans0 hch⟩
end
section
variable {α : Type} (L : Lay α) {P : Program} {E : TypeId} {bytes : Nat} {w wr w3 : World} {v : Value} {xs ys : List α} {f : List Nat}
end
theorem new_cells (w : World) (cs : Array Value) (E : TypeId) : ∀ j u, cs.toList[j]? = some u → (w.alloc (.cells cs E)).cell? ((⟨w.heap.size, 0, none⟩ : Addr).add j) = some u := by
 intro j u hu
 have hadd : (⟨w.heap.size, 0, none⟩ : Addr).add j = ⟨w.heap.size, j, none⟩ := by unfold Addr.add; split <;> simp_all
 rw [hadd, cellsOf (new_alloc w _)]
 simpa using hu
section
variable {α : Type} (L : Lay α) {P : Program} {E : TypeId} {bytes : Nat} {w wr w3 : World} {v : Value} {xs ys : List α} {h : Option Nat} {f fps : List Nat}
end
theorem Grow.bytes {E : TypeId} {w wr : World} {v : Value} {xs : List UInt8} (h : Grow byteL E w wr v xs) : ∃ a c f, v = .slice a xs.length c ∧ byteL.sl wr a xs.length c xs f ∧ Fresh w.heap.size wr f ∧ Chg [] w wr := by
 obtain ⟨a, c, f, h1, h2, h3, h4⟩ := h.sl
 exact ⟨a, c, f, h1, h2, h3, h4⟩
end Go.Proofs.YtphmpimgbmedbaaGreat
namespace Go.Proofs.YtphmpimgbmedbaaGreat
open Go.RowKit
open Go.Lib (hid)
def cutW (w : World) (n : Nat) : World := { w with heap := w.heap.extract 0 n }
theorem cutW_size {w : World} {n : Nat} (h : n ≤ w.heap.size) : (cutW w n).heap.size = n := by simp [cutW]; omega
theorem cutW_at {w : World} {n k : Nat} (h : k < n) : (cutW w n).heap[k]? = w.heap[k]? := by
 unfold cutW
 simp only [Array.getElem?_extract]
 by_cases hk : k < w.heap.size
 ·rw [if_pos (by omega)]; simp
 ·rw [if_neg (by omega), Array.getElem?_eq_none (by omega)]
theorem cutW_chg {w : World} {n : Nat} (h : n ≤ w.heap.size) : Chg [] (cutW w n) w := by
 refine ⟨rfl, rfl, rfl, by rw [cutW_size h]; exact h, fun k hk _ => ?_, fun k hk => ?_⟩
 ·rw [cutW_size h] at hk; exact (cutW_at hk).symm
 ·have hlt := hk.lt
  rw [cutW_size h] at hlt
  obtain ⟨cur, E, hb⟩ := hk
  exact ⟨cur, E, by rw [← cutW_at hlt]; exact hb⟩
def GrowC {α : Type} (L : Lay α) (E : TypeId) (n : Nat) (wr : World) (v : Value) (xs : List α) : Prop :=
 n ≤ wr.heap.size ∧ ∃ h fps, L.os E wr v xs h fps ∧ Fresh n wr (h.toList ++ fps)
section
variable {α : Type} {L : Lay α} {E : TypeId} {n : Nat} {w wr w' : World} {v : Value} {xs : List α}
theorem GrowC.to (h : GrowC L E n wr v xs) : Grow L E (cutW wr n) wr v xs := by
 obtain ⟨h0, hd, fps, h1, h2⟩ := h
 exact ⟨hd, fps, h1, by rw [cutW_size h0]; exact h2, cutW_chg h0⟩
theorem GrowC.of (h : Grow L E w wr v xs) : GrowC L E w.heap.size wr v xs := by
 obtain ⟨hd, fps, h1, h2, h3⟩ := h
 exact ⟨h3.size, hd, fps, h1, h2⟩
theorem GrowC.of' (h : Grow L E w wr v xs) (hn : n = w.heap.size) : GrowC L E n wr v xs := by subst hn; exact GrowC.of h
theorem GrowC.chg {S : List Nat} (h : GrowC L E n wr v xs) (hc : Chg S wr w') (hS : ∀ x ∈ S, x < n) : GrowC L E n w' v xs := by
 obtain ⟨h0, hd, fps, h1, h2⟩ := h
 refine ⟨Nat.le_trans h0 hc.size, hd, fps, L.os_chg h1 hc (fun g hg hm => ?_) (fun b hb hm => ?_), h2.chg hc⟩
 ·have := (h2.2 g (List.mem_append.2 (.inl (by simp [hg])))).1; have := hS g hm; omega
 ·have := (h2.2 b (List.mem_append.2 (.inr hb))).1; have := hS b hm; omega
theorem GrowC.ext (h : GrowC L E n wr v xs) (hc : Chg [] wr w') : GrowC L E n w' v xs := h.chg hc (by simp)
theorem GrowC.next {ys : List α} {v' : Value} {S : List Nat} {w0 : World} (hn : n ≤ wr.heap.size) (h : Grow L E (cutW wr n) w' v' ys) (hc : Chg S w0 wr) (h0 : w0.heap.size ≤ n) : GrowC L E n w' v' ys ∧ Chg S w0 w' := by
 refine ⟨GrowC.of' h (cutW_size hn).symm, ?_⟩
 have h1 := h.chg
 refine ⟨h1.os.trans hc.os, h1.tape.trans hc.tape, h1.output.trans hc.output, ?_, fun k hk hS => ?_, fun k hk => ?_⟩
 ·have := h1.size; rw [cutW_size hn] at this; omega
 ·rw [h1.block k (by rw [cutW_size hn]; omega) (by simp), cutW_at (by omega), hc.block k hk hS]
 ·have hlt := hk.lt
  have h2 := hc.loose k hk
  refine h1.loose k ?_
  obtain ⟨cur, T, hb⟩ := h2
  exact ⟨cur, T, by rw [cutW_at (by omega)]; exact hb⟩
theorem GrowC.low {ys : List α} {v' : Value} (hn : n ≤ wr.heap.size) (h : Grow L E (cutW wr n) w' v' ys) : ∀ k, k < n → w'.heap[k]? = wr.heap[k]? := fun k hk => by
 rw [h.chg.block k (by rw [cutW_size hn]; exact hk) (by simp), cutW_at hk]
theorem GrowC.sl (h : GrowC L E n wr v xs) : ∃ a cap fp, v = .slice a xs.length cap ∧ L.sl wr a xs.length cap xs fp ∧ Fresh n wr fp := by
 obtain ⟨h0, hd, fps, h1, h2⟩ := h
 obtain ⟨a, cap, rfl, hs⟩ := L.os_sl h1
 exact ⟨a, cap, _, rfl, hs, h2⟩
theorem GrowC.made (h : n ≤ wr.heap.size) : GrowC L E n (wr.alloc (.cells #[] E)) (.slice (some ⟨wr.heap.size, 0, none⟩) 0 0) [] :=
 ⟨by simp; omega, some wr.heap.size, [], Lay.os_made _ _ _ _ _ (by simp [maxLen]) (by simp), ⟨by simp, fun b hb => by simp at hb; subst hb; exact ⟨h, _, _, new_alloc wr _⟩⟩⟩
theorem GrowC.nil (h : n ≤ wr.heap.size) : GrowC L E n wr (.slice none 0 0) [] := ⟨h, none, [], Lay.os_nil _ _ _, Fresh.nil _ _⟩
end
structure Up (n : Nat) (w w' : World) : Prop where
 os : w'.os = w.os
 tape : w'.tape = w.tape
 output : w'.output = w.output
 size : w.heap.size ≤ w'.heap.size
 low : ∀ k, k < n → w'.heap[k]? = w.heap[k]?
 loose : ∀ k, Loose w k → Loose w' k
theorem Up.chg {n : Nat} {S : List Nat} {w0 w w' : World} (h : Up n w w') (hc : Chg S w0 w) (h0 : w0.heap.size ≤ n) : Chg S w0 w' :=
 ⟨h.os.trans hc.os, h.tape.trans hc.tape, h.output.trans hc.output, Nat.le_trans hc.size h.size, fun k hk hS => by rw [h.low k (by omega), hc.block k hk hS], fun k hk => h.loose k (hc.loose k hk)⟩
theorem Up.of {n : Nat} {S : List Nat} {w w' : World} (hc : Chg S w w') (hS : ∀ x ∈ S, n ≤ x) (hn : n ≤ w.heap.size) : Up n w w' :=
 ⟨hc.os, hc.tape, hc.output, hc.size, fun k hk => hc.block k (by omega) (fun hm => by have := hS k hm; omega), hc.loose⟩
def GrowB {α : Type} (L : Lay α) (E : TypeId) (n B : Nat) (wr : World) (v : Value) (xs : List α) : Prop :=
 n ≤ B ∧ B ≤ wr.heap.size ∧ ∃ h fps, L.os E wr v xs h fps ∧ Fresh n wr (h.toList ++ fps) ∧ ∀ b ∈ h.toList ++ fps, b < B
section
variable {α : Type} {L : Lay α} {E : TypeId} {n B : Nat} {w wr w' : World} {v : Value} {xs : List α}
theorem GrowC.b (h : GrowC L E n wr v xs) : GrowB L E n wr.heap.size wr v xs := by
 obtain ⟨h0, hd, fps, h1, h2⟩ := h
 exact ⟨h0, Nat.le_refl _, hd, fps, h1, h2, h2.lts⟩
theorem GrowB.chg {S : List Nat} (h : GrowB L E n B wr v xs) (hc : Chg S wr w') (hS : ∀ x ∈ S, x < n) : GrowB L E n B w' v xs := by
 obtain ⟨h0, h9, hd, fps, h1, h2, h3⟩ := h
 refine ⟨h0, Nat.le_trans h9 hc.size, hd, fps, L.os_chg h1 hc (fun g hg hm => ?_) (fun b hb hm => ?_), h2.chg hc, h3⟩
 ·have := (h2.2 g (List.mem_append.2 (.inl (by simp [hg])))).1; have := hS g hm; omega
 ·have := (h2.2 b (List.mem_append.2 (.inr hb))).1; have := hS b hm; omega
theorem GrowB.ext (h : GrowB L E n B wr v xs) (hc : Chg [] wr w') : GrowB L E n B w' v xs := h.chg hc (by simp)
theorem GrowB.run {P : Program} {bytes : Nat} {ys : List α} {f : List Nat} (t ty : TypeId) (ht : P.underlying t = some (.slice E)) (K : Kind P E L.n bytes) (hg : GrowB L E n B w v xs)
  (ad : Addr) (c : Nat) (news : List Value) (hnews : ∀ j u, news[j]? = some u → w.cell? (ad.add j) = some u) (hall : L.all w news ys f) (ff : Fresh B w f)
  (h63 : xs.length + ys.length ≤ maxLen) (hbytes : (xs.length + ys.length) * bytes ≤ 140737488355328) :
  ∃ v' w', (Builtin.append_ #[t, t] ty #[v, .slice (some ad) ys.length c]).run P w = .ok v' w' ∧ GrowC L E n w' v' (xs ++ ys) ∧ Up n w w' := by
 obtain ⟨h0, h9, hd, fps, h1, h2, h3⟩ := hg
 have hlt := L.os_lt h1
 obtain ⟨v', w', h', hr, ho', hh', hc', hl⟩ := L.run_append (P := P) t ty ht K h1 ad c news hnews hall (fun g hg hf => by have a1 := h3 g (by simp [hg]); have a2 := (ff.2 g hf).1; omega) h63 hbytes
 have hle : Up n w w' := Up.of hc' (fun x hx => (h2.2 x (List.mem_append.2 (.inl hx))).1) (by omega)
 refine ⟨v', w', hr, ⟨Nat.le_trans (Nat.le_trans h0 h9) hle.size, h', fps ++ f, ho', ?_⟩, hle⟩
 have f2 := h2.chg hc'
 have g2 := ff.chg hc'
 have nd := List.nodup_append.1 h2.1
 have dj : ∀ a ∈ hd.toList ++ fps, ∀ b ∈ f, a ≠ b := fun a ha b hb e => by have a1 := h3 a ha; have a2 := (ff.2 b hb).1; omega
 have hlo := L.os_loose ho'
 rcases hh' with rfl | rfl
 ·rw [← List.append_assoc]
  exact ⟨List.nodup_append.2 ⟨h2.1, ff.1, dj⟩, fun b hb => by
   rcases List.mem_append.1 hb with hb | hb
   ·exact f2.2 b hb
   ·exact ⟨Nat.le_trans h0 (g2.2 b hb).1, (g2.2 b hb).2⟩⟩
 ·refine ⟨?_, fun b hb => ?_⟩
  ·rw [Option.toList_some, List.singleton_append, List.nodup_cons]
   refine ⟨fun hb => ?_, List.nodup_append.2 ⟨nd.2.1, ff.1, fun a ha b hb => dj a (List.mem_append.2 (.inr ha)) b hb⟩⟩
   rcases List.mem_append.1 hb with hb | hb
   ·have := h3 _ (List.mem_append.2 (.inr hb)); omega
   ·have := ff.lts _ hb; omega
  ·rw [Option.toList_some, List.singleton_append, List.mem_cons] at hb
   rcases hb with rfl | hb
   ·exact ⟨by omega, hlo _ rfl⟩
   ·rcases List.mem_append.1 hb with hb | hb
    ·exact f2.2 b (List.mem_append.2 (.inr hb))
    ·exact ⟨Nat.le_trans h0 (g2.2 b hb).1, (g2.2 b hb).2⟩
theorem GrowB.wp {P : Program} {bytes : Nat} {ys : List α} {f : List Nat} {o : Oper} {a : Act} {Kc : Act → World → Prop} {Q : Exit → Act → World → Prop} (s x : Operand) (t : TypeId)
  (hop : o.op = .call { callee := .builtin .append, args := #[s, x], argTypes := #[t, t] }) (ht : P.underlying t = some (.slice E)) (K : Kind P E L.n bytes)
  (hs : a.eval s = v) (hg : GrowB L E n B w v xs)
  (ad : Addr) (m c : Nat) (news : List Value) (hx : a.eval x = .slice (some ad) m c) (hm : m = ys.length) (hnews : ∀ j u, news[j]? = some u → w.cell? (ad.add j) = some u) (hall : L.all w news ys f) (ff : Fresh B w f)
  (h63 : xs.length + ys.length ≤ maxLen) (hbytes : (xs.length + ys.length) * bytes ≤ 140737488355328)
  (hk : ∀ v' w', GrowC L E n w' v' (xs ++ ys) → Up n w w' → Kc (a.put o.dst v') w') : o.wp P a w Kc Q := by
 subst hm
 obtain ⟨v', w', hr, h2, h3⟩ := hg.run (P := P) t o.type ht K ad c news hnews hall ff h63 hbytes
 unfold Oper.wp execOp
 simp only [hop, resolve, invoke, builtin, Sem.run_bind, Sem.run_pure, Result.andThen_ok, List.map_toArray, List.map_cons, List.map_nil, hs, hx, hr]
 exact hk v' w' h2 h3
theorem GrowB.wpList {P : Program} {bytes : Nat} {ys : List α} {f : List Nat} {ops : Array Oper} {rest : List Oper} {o : Oper} {a : Act} {Q : Exit → Act → World → Prop} (hgd : o.guard = none) (s x : Operand) (t : TypeId)
  (hop : o.op = .call { callee := .builtin .append, args := #[s, x], argTypes := #[t, t] }) (ht : P.underlying t = some (.slice E)) (K : Kind P E L.n bytes)
  (hs : a.eval s = v) (hg : GrowB L E n B w v xs)
  (ad : Addr) (m c : Nat) (news : List Value) (hx : a.eval x = .slice (some ad) m c) (hm : m = ys.length) (hnews : ∀ j u, news[j]? = some u → w.cell? (ad.add j) = some u) (hall : L.all w news ys f) (ff : Fresh B w f)
  (h63 : xs.length + ys.length ≤ maxLen) (hbytes : (xs.length + ys.length) * bytes ≤ 140737488355328)
  (hk : ∀ v' w', GrowC L E n w' v' (xs ++ ys) → Up n w w' → wpList P ops Q rest (a.put o.dst v') w') : wpList P ops Q (o :: rest) a w :=
 wpList_plain hgd fun _ hK => hg.wp s x t hop ht K hs ad m c news hx hm hnews hall ff h63 hbytes fun v' w' h1 h2 => hK _ _ (hk v' w' h1 h2)
theorem GrowB.step {P : Program} {bytes : Nat} {ys : List α} {f : List Nat} {ops : Array Oper} {o : Oper} {a : Act} {Kc : Act → World → Prop} {Q : Exit → Act → World → Prop} {R : Prop} (hgd : o.guard = none) (s x : Operand) (t : TypeId)
  (hop : o.op = .call { callee := .builtin .append, args := #[s, x], argTypes := #[t, t] }) (ht : P.underlying t = some (.slice E)) (K : Kind P E L.n bytes)
  (hs : a.eval s = v) (hg : GrowB L E n B w v xs)
  (ad : Addr) (m c : Nat) (news : List Value) (hx : a.eval x = .slice (some ad) m c) (hm : m = ys.length) (hnews : ∀ j u, news[j]? = some u → w.cell? (ad.add j) = some u) (hall : L.all w news ys f) (ff : Fresh B w f)
  (h63 : xs.length + ys.length ≤ maxLen) (hbytes : (xs.length + ys.length) * bytes ≤ 140737488355328)
  (hk : ∀ v' w', GrowC L E n w' v' (xs ++ ys) → Up n w w' → Kc (a.put o.dst v') w') :
  if Region.wanted o (yielded ops a.tmps) = true then Oper.wp P o a w Kc Q else R := by
 have hw : Region.wanted o (yielded ops a.tmps) = true := by simp [Region.wanted, hgd]
 rw [if_pos hw]
 exact hg.wp s x t hop ht K hs ad m c news hx hm hnews hall ff h63 hbytes hk
end
end Go.Proofs.YtphmpimgbmedbaaGreat
namespace Go.Proofs.YtphmpimgbmedbaaGreat
open Go.RowKit
open Go.Lib (hid)
theorem copyB_next {xs : List UInt8} {k n : Nat} {x : UInt8} (hx : xs[k]? = some x) (hn : n = xs.length) : (xs.take k ++ List.replicate (n - k) 0).set k x = xs.take (k + 1) ++ List.replicate (n - (k + 1)) 0 := by
 have hk := (List.getElem?_eq_some_iff.1 hx).1
 have hl : (xs.take k).length = k := by rw [List.length_take]; omega
 rw [List.set_append_right _ _ (by omega), hl, Nat.sub_self, take_next hx, show n - k = (n - (k + 1)) + 1 by omega, List.replicate_succ, List.set_cons_zero]
 simp
set_option maxRecDepth 100000 in
set_option maxHeartbeats 400000 in
theorem toB_any (a : Option Addr) (la ca : Nat) (xs : List UInt8) (f : List Nat) (w : World) (ha : byteL.sl w a la ca xs f) (hz : la ≤ 1048576) :
  Calls Tryz.prog 290 #[.slice a la ca] w (NewSl byteL xs w) := by
 have hmk := make_bytes la (by omega)
 have hl := hid ha.1
 have HA := hid ha
 clear ha
 go_enter Tryz.func290, Tryz.ntmps290
 go_wp2
 go_loopw [4] (fun i wr => ∃ k : Nat, k ≤ la ∧ i = .int .i64 k ∧ byteL.sl wr (some ⟨w.heap.size, 0, none⟩) la la (xs.take k ++ List.replicate (la - k) 0) [w.heap.size] ∧ Loose wr w.heap.size ∧ Chg [] w wr) (fun i _ => la - (intOf i).toNat)
 case atStart => exact ⟨0, by omega, rfl, by simpa using byte_zrow w 5 la (by omega), ⟨_, _, new_alloc w _⟩, (Chg.refl [] w).alloc _⟩
 case round =>
  obtain ⟨k, hk, rfl, hs, hlo, hc⟩ := hrel
  by_cases hlt : k < la
  ·obtain ⟨x, X, b, o, HX, rfl, hcx, _, _⟩ := byte_at (byteL.sl_ext HA.out hc) hlt
   obtain ⟨y, Y, b', o', HO, e', hco, _, _⟩ := byte_at hs hlt
   obtain ⟨rfl, rfl⟩ : b' = w.heap.size ∧ o' = 0 := by simpa using e'.symm
   have hfz : wr.frozen? ⟨w.heap.size, k, none⟩ = false := by obtain ⟨cur, E, h⟩ := hlo; exact freeOf h k
   rw [Nat.zero_add] at hco
   have hst := byte_set hs (by simp) hlt x
   rw [Nat.zero_add, copyB_next HX.out.1 hl.out] at hst
   rw [HX.out.2.1] at hcx
   have HS := hid (And.intro hst (And.intro (hlo.setCell ⟨w.heap.size, k, none⟩ (.int .u8 (x.toNat : Int))) (hc.setCell ⟨w.heap.size, k, none⟩ (.int .u8 (x.toNat : Int)) (.inr (Nat.le_refl _)))))
   clear hst hlo hc hs e'
   go_wp2
   go_roundw
   case rel => exact ⟨k + 1, by omega, by go_num, HS.out.1, HS.out.2.1, HS.out.2.2⟩
   case measure => simp [intOf]; omega
  ·have hkl : k = la := by omega
   subst hkl
   have hN : NewSl byteL xs w (.returned (.slice (some ⟨w.heap.size, 0, none⟩) k k)) wr := by
    rw [List.take_of_length_le (by have := hl.out; omega), Nat.sub_self, List.replicate_zero, List.append_nil] at hs
    rw [hl.out] at hs ⊢
    exact ⟨_, _, _, rfl, hs, ⟨by simp, fun b hb => by simp at hb; subst hb; exact ⟨Nat.le_refl _, hlo⟩⟩, hc⟩
   have HN := hid hN
   clear hN hs hlo hc
   go_wp2
   go_ret
   exact HN.out
set_option maxRecDepth 100000 in
set_option maxHeartbeats 400000 in
theorem eqB_any (a b : Option Addr) (la ca cb : Nat) (xs : List UInt8) (f g : List Nat) (w : World) (ha : byteL.sl w a la ca xs f) (hb : byteL.sl w b la cb xs g) :
  Calls Tryz.prog 239 #[.slice a la ca, .slice b la cb] w fun e w' => e = .returned (.bool true) ∧ Chg [] w w' := by
 have hm := byteL.sl_max ha
 have hne : ((la : Int) != (la : Int)) = false := by simp
 have HA := hid ha
 have HB := hid hb
 clear ha hb
 go_enter Tryz.func239, Tryz.ntmps239
 go_wp2
 go_loopw [5] (fun i wr => ∃ k : Nat, k ≤ la ∧ i = .int .i64 k ∧ Chg [] w wr) (fun i _ => la - (intOf i).toNat)
 case atStart => exact ⟨0, by omega, rfl, Chg.refl _ _⟩
 case round =>
  obtain ⟨k, hk, rfl, hc⟩ := hrel
  by_cases hlt : k < la
  ·obtain ⟨x, X, b, o, HX, rfl, hcx, _, _⟩ := byte_at (byteL.sl_ext HA.out hc) hlt
   obtain ⟨y, Y, b', o', HY, rfl, hcy, _, _⟩ := byte_at (byteL.sl_ext HB.out hc) hlt
   have hxy : x = y := by have := HX.out.1.symm.trans HY.out.1; exact Option.some.inj this
   subst hxy
   rw [HX.out.2.1] at hcx; rw [HY.out.2.1] at hcy; have hnn : ((x.toNat : Int) != (x.toNat : Int)) = false := by simp
   have HC := hid hc
   clear hc
   go_wp2
   first | go_region | skip
   all_goals (try go_wp2)
   all_goals
    go_roundw
    case rel => exact ⟨k + 1, by omega, by go_num, by first | exact HC.out | exact HC.out.drew⟩
    case measure => simp [intOf]; omega
  ·have HC := hid hc
   clear hc
   go_wp2
   go_ret
   exact ⟨rfl, HC.out⟩
theorem infoI : (Tryz.prog.info? 2).map (fun i => (i.zero, i.size, i.bytes)) = some (some (.int .i64 0), 1, 8) := by kernel_rfl
theorem kindI : ∃ K : Kind Tryz.prog 2 intL.n 8, K.z = .int .i64 0 := by
 obtain ⟨i0, hi, hz0, hz1, hz2⟩ := info_parts infoI
 exact ⟨⟨i0, .int .i64 0, hi, hz0, hz1, hz2, rfl⟩, rfl⟩
theorem make_ints (n : Nat) (hn : n ≤ 17592186044415) (w : World) :
  (Instr.makeSlice 25 (.int .i64 (n : Int)) (.int .i64 (n : Int))).run Tryz.prog w = .ok (.slice (some ⟨w.heap.size, 0, none⟩) n n) (w.alloc (.cells (zrow (.int .i64 0) n) 2)) := by
 obtain ⟨K, hK⟩ := kindI
 rw [← hK]
 have := make_row Tryz.underlying25 K n (by omega) (by omega) w
 rw [show n * intL.n = n from Nat.mul_one n] at this
 exact this
theorem copyI_next {xs : List Int} {k n : Nat} {x : Int} (hx : xs[k]? = some x) (hn : n = xs.length) : (xs.take k ++ List.replicate (n - k) 0).set k x = xs.take (k + 1) ++ List.replicate (n - (k + 1)) 0 := by
 have hk := (List.getElem?_eq_some_iff.1 hx).1
 have hl : (xs.take k).length = k := by rw [List.length_take]; omega
 rw [List.set_append_right _ _ (by omega), hl, Nat.sub_self, take_next hx, show n - k = (n - (k + 1)) + 1 by omega, List.replicate_succ, List.set_cons_zero]
 simp
set_option maxRecDepth 100000 in
set_option maxHeartbeats 400000 in
theorem toI_any (a : Option Addr) (la ca : Nat) (xs : List Int) (f : List Nat) (w : World) (ha : intL.sl w a la ca xs f) (hz : la ≤ 1048576) :
  Calls Tryz.prog 76 #[.slice a la ca] w (NewSl intL xs w) := by
 have hmk := make_ints la (by omega)
 have hl := hid ha.1
 have HA := hid ha
 clear ha
 go_enter Tryz.func76, Tryz.ntmps76
 go_wp2
 go_loopw [4] (fun i wr => ∃ k : Nat, k ≤ la ∧ i = .int .i64 k ∧ intL.sl wr (some ⟨w.heap.size, 0, none⟩) la la (xs.take k ++ List.replicate (la - k) 0) [w.heap.size] ∧ Loose wr w.heap.size ∧ Chg [] w wr) (fun i _ => la - (intOf i).toNat)
 case atStart => exact ⟨0, by omega, rfl, by simpa using int_zrow w 2 la (by omega), ⟨_, _, new_alloc w _⟩, (Chg.refl [] w).alloc _⟩
 case round =>
  obtain ⟨k, hk, rfl, hs, hlo, hc⟩ := hrel
  by_cases hlt : k < la
  ·obtain ⟨x, b, o, HX, rfl, hcx, hok⟩ := int_at (intL.sl_ext HA.out hc) hlt
   obtain ⟨y, b', o', HO, e', hco, hok2⟩ := int_at hs hlt
   obtain ⟨rfl, rfl⟩ : b' = w.heap.size ∧ o' = 0 := by simpa using e'.symm
   have hfz : wr.frozen? ⟨w.heap.size, k, none⟩ = false := by obtain ⟨cur, E, h⟩ := hlo; exact freeOf h k
   rw [Nat.zero_add] at hco
   have hst := int_set hs (by simp) hlt x hok.out
   rw [Nat.zero_add, copyI_next HX.out.1 hl.out] at hst
   
   have HS := hid (And.intro hst (And.intro (hlo.setCell ⟨w.heap.size, k, none⟩ (.int .i64 x)) (hc.setCell ⟨w.heap.size, k, none⟩ (.int .i64 x) (.inr (Nat.le_refl _)))))
   clear hst hlo hc hs e'
   go_wp2
   go_roundw
   case rel => exact ⟨k + 1, by omega, by go_num, HS.out.1, HS.out.2.1, HS.out.2.2⟩
   case measure => simp [intOf]; omega
  ·have hkl : k = la := by omega
   subst hkl
   have hN : NewSl intL xs w (.returned (.slice (some ⟨w.heap.size, 0, none⟩) k k)) wr := by
    rw [List.take_of_length_le (by have := hl.out; omega), Nat.sub_self, List.replicate_zero, List.append_nil] at hs
    rw [hl.out] at hs ⊢
    exact ⟨_, _, _, rfl, hs, ⟨by simp, fun b hb => by simp at hb; subst hb; exact ⟨Nat.le_refl _, hlo⟩⟩, hc⟩
   have HN := hid hN
   clear hN hs hlo hc
   go_wp2
   go_ret
   exact HN.out
set_option maxRecDepth 100000 in
set_option maxHeartbeats 400000 in
theorem eqI_any (a b : Option Addr) (la ca cb : Nat) (xs : List Int) (f g : List Nat) (w : World) (ha : intL.sl w a la ca xs f) (hb : intL.sl w b la cb xs g) :
  Calls Tryz.prog 85 #[.slice a la ca, .slice b la cb] w fun e w' => e = .returned (.bool true) ∧ Chg [] w w' := by
 have hm := intL.sl_max ha
 have hne : ((la : Int) != (la : Int)) = false := by simp
 have HA := hid ha
 have HB := hid hb
 clear ha hb
 go_enter Tryz.func85, Tryz.ntmps85
 go_wp2
 go_loopw [5] (fun i wr => ∃ k : Nat, k ≤ la ∧ i = .int .i64 k ∧ Chg [] w wr) (fun i _ => la - (intOf i).toNat)
 case atStart => exact ⟨0, by omega, rfl, Chg.refl _ _⟩
 case round =>
  obtain ⟨k, hk, rfl, hc⟩ := hrel
  by_cases hlt : k < la
  ·obtain ⟨x, b, o, HX, rfl, hcx, hok⟩ := int_at (intL.sl_ext HA.out hc) hlt
   obtain ⟨y, b', o', HY, rfl, hcy, hok⟩ := int_at (intL.sl_ext HB.out hc) hlt
   have hxy : x = y := by have := HX.out.1.symm.trans HY.out.1; exact Option.some.inj this
   subst hxy
   have hnn : ((x : Int) != (x : Int)) = false := by simp
   have HC := hid hc
   clear hc
   go_wp2
   first | go_region | skip
   all_goals (try go_wp2)
   all_goals
    go_roundw
    case rel => exact ⟨k + 1, by omega, by go_num, by first | exact HC.out | exact HC.out.drew⟩
    case measure => simp [intOf]; omega
  ·have HC := hid hc
   clear hc
   go_wp2
   go_ret
   exact ⟨rfl, HC.out⟩
theorem Lay.all_put {α : Type} (L : Lay α) (hn : L.n = 1) {w w' : World} {v : Value} {x' : α} {f' : List Nat} : ∀ {xs : List α} {i : Nat} {cs : List Value} {fps : List Nat}, L.all w cs xs fps → i < xs.length → L.rep w' [v] x' f' →
  (∀ y ∈ fps, w'.heap[y]? = w.heap[y]?) → ∃ fps', L.all w' (cs.set i v) (xs.set i x') fps' ∧ (∀ y ∈ fps', y ∈ fps ∨ y ∈ f') ∧ (fps.Nodup → f'.Nodup → (∀ y ∈ f', y ∉ fps) → fps'.Nodup) := by
 intro xs
 induction xs with
 | nil => intro i cs fps _ hi; simp at hi
 | cons y ys ih =>
  intro i cs fps h hi hr hk
  obtain ⟨c1, c2, f1, f2, rfl, rfl, h1, h2⟩ := h
  have hl := L.len h1
  rw [hn] at hl
  cases i with
  | zero =>
   refine ⟨f' ++ f2, ⟨[v], c2, f', f2, ?_, rfl, hr, L.all_keep h2 (fun y hy => hk y (by simp [hy]))⟩, fun y hy => ?_, fun n1 n2 n3 => ?_⟩
   ·match c1, hl with | [u], _ => rfl
   ·rcases List.mem_append.1 hy with hy | hy
    ·exact .inr hy
    ·exact .inl (by simp [hy])
   ·exact List.nodup_append.2 ⟨n2, (List.nodup_append.1 n1).2.1, fun a ha b hb e => n3 a ha (by subst e; simp [hb])⟩
  | succ i =>
   obtain ⟨g, hg, hm, hnd⟩ := ih h2 (by simpa using hi) hr (fun y hy => hk y (by simp [hy]))
   refine ⟨f1 ++ g, ⟨c1, c2.set i v, f1, g, ?_, rfl, L.keep h1 (fun y hy => hk y (by simp [hy])), hg⟩, fun y hy => ?_, fun n1 n2 n3 => ?_⟩
   ·rw [List.set_append_right _ _ (by omega), hl, Nat.add_sub_cancel]
   ·rcases List.mem_append.1 hy with hy | hy
    ·exact .inl (by simp [hy])
    ·rcases hm y hy with h | h
     ·exact .inl (by simp [h])
     ·exact .inr h
   ·have n4 := List.nodup_append.1 n1
    refine List.nodup_append.2 ⟨n4.1, hnd n4.2.1 n2 (fun y hy hy' => n3 y hy (by simp [hy'])), fun a ha b hb e => ?_⟩
    subst e
    rcases hm a hb with h | h
    ·exact n4.2.2 a ha a h rfl
    ·exact n3 a h (by simp [ha])
theorem Lay.sl_put {α : Type} (L : Lay α) (hn : L.n = 1) {w : World} {b off len cap : Nat} {xs : List α} {fp : List Nat} (h : L.sl w (some ⟨b, off, none⟩) len cap xs fp) (nd : fp.Nodup) {i : Nat} (hi : i < len) {v : Value} {x' : α} {f' : List Nat}
  (hr : L.rep w [v] x' f') (hd : ∀ y ∈ f', y ∉ fp) (nf : f'.Nodup) :
  ∃ fp', L.sl (w.setCell ⟨b, off + i, none⟩ v) (some ⟨b, off, none⟩) len cap (xs.set i x') fp' ∧ (∀ y ∈ fp', y ∈ fp ∨ y ∈ f') ∧ fp'.Nodup := by
 obtain ⟨h1, h2, h3, h4, ⟨rfl, rfl⟩ | ⟨b', off', cur, E, fr, fps, ha, hb, hall, rfl⟩⟩ := h
 ·simp at h1; omega
 ·simp only [Option.some.injEq, Addr.mk.injEq, and_true] at ha
  obtain ⟨rfl, rfl⟩ := ha
  have hbf : b ∉ fps := (List.nodup_cons.1 nd).1
  have hk : ∀ y, y ≠ b → (w.setCell ⟨b, off + i, none⟩ v).heap[y]? = w.heap[y]? := fun y hy => Below.heap_setCell _ _ _ _ hy
  have hbf' : b ∉ f' := fun hb' => hd b hb' (by simp)
  obtain ⟨g, hg, hm, hnd⟩ := L.all_put hn hall (i := i) (by omega) (L.keep hr (fun y hy => hk y (fun e => hbf' (e ▸ hy)))) (fun y hy => hk y (fun e => hbf (e ▸ hy)))
  have hne : b ∉ g := fun hb' => by rcases hm b hb' with h | h; exact hbf h; exact hbf' h
  refine ⟨b :: g, ⟨by simpa using h1, h2, h3, h4, .inr ⟨b, off, _, E, fr, g, rfl, heap_setCell_same hb, ?_, rfl⟩⟩, fun y hy => ?_, List.nodup_cons.2 ⟨hne, hnd (List.nodup_cons.1 nd).2 nf (fun y hy hy' => hd y hy (by simp [hy']))⟩⟩
  ·have e : (((cur.setIfInBounds (off + i) v).toList.drop off).take (len * L.n)) = ((cur.toList.drop off).take (len * L.n)).set i v := by
    rw [Array.toList_setIfInBounds, List.drop_set, if_neg (by omega), List.take_set]
    congr 1
    omega
   rw [e]
   exact hg
  ·rcases List.mem_cons.1 hy with rfl | hy
   ·exact .inl (by simp)
   ·rcases hm y hy with h | h
    ·exact .inl (by simp [h])
    ·exact .inr h
theorem slc_at {α : Type} {M : Lay α} {w : World} {a : Option Addr} {len cap : Nat} {xs : List (List α)} {fp : List Nat} (h : M.slice.sl w a len cap xs fp) {i : Nat} (hi : i < len) :
  ∃ x b off A l C f, Hid (xs[i]? = some x ∧ b ∈ fp ∧ (∀ y ∈ f, y ∈ fp)) ∧ a = some ⟨b, off, none⟩ ∧ w.cell? ⟨b, off + i, none⟩ = some (.slice A l C) ∧ Hid (M.sl w A l C x f) := by
 obtain ⟨x, b, off, c, f, hx, ha, hb, hc, ⟨A, l, C, rfl, hs⟩, hf⟩ := M.slice.sl_at h hi
 have := hc 0 M.slice.pos
 rw [show off + i * M.slice.n + 0 = off + i by simp [Lay.slice]] at this
 exact ⟨x, b, off, A, l, C, f, ⟨hx, hb, hf⟩, ha, this, hs⟩
theorem copyL_next {α : Type} {xs : List (List α)} {k n : Nat} {x : List α} (hx : xs[k]? = some x) (hn : n = xs.length) : (xs.take k ++ List.replicate (n - k) []).set k x = xs.take (k + 1) ++ List.replicate (n - (k + 1)) [] := by
 have hk := (List.getElem?_eq_some_iff.1 hx).1
 have hl : (xs.take k).length = k := by rw [List.length_take]; omega
 rw [List.set_append_right _ _ (by omega), hl, Nat.sub_self, take_next hx, show n - k = (n - (k + 1)) + 1 by omega, List.replicate_succ, List.set_cons_zero]
 simp
theorem slc_zrow {α : Type} (M : Lay α) (w : World) (E : TypeId) (len : Nat) (h63 : len ≤ 9223372036854775807) :
  M.slice.sl (w.alloc (.cells (zrow (.slice none 0 0) len) E)) (some ⟨w.heap.size, 0, none⟩) len len (List.replicate len []) [w.heap.size] := by
 have := M.slice.sl_zrow (z := .slice none 0 0) (x0 := []) w E len h63 ⟨none, 0, 0, rfl, rfl, Nat.le_refl _, by simp [maxLen], fun _ => rfl, .inl ⟨rfl, rfl⟩⟩
 simpa [Lay.slice] using this
/-! ### how much is in them -/
set_option maxHeartbeats 400000 in
theorem szB_any (a : Option Addr) (la ca : Nat) (k : Int) (w : World) (hm : la ≤ 9223372036854775807) (hk : 0 ≤ k) (hk2 : k ≤ 1048576) :
  Calls Tryz.prog 288 #[.slice a la ca, .int .i64 k] w fun e w' => e = .returned (.int .i64 (if k - la < 0 then -1 else k - la)) ∧ w = w' := by
 by_cases h : k - la < 0
 ·have HI := hid (show (if k - (la : Int) < 0 then -1 else k - (la : Int)) = -1 from if_pos h)
  go_enter Tryz.func288, Tryz.ntmps288
  go_wp2
  go_ret
  exact ⟨ret_int (by first | rfl | rw [HI.out]), rfl⟩
 ·have HI := hid (show (if k - (la : Int) < 0 then -1 else k - (la : Int)) = k - la from if_neg h)
  go_enter Tryz.func288, Tryz.ntmps288
  go_wp2
  go_ret
  exact ⟨ret_int (by first | rfl | rw [HI.out]), rfl⟩
/-! ### a list of lists made anew, compared, marked -/
end Go.Proofs.YtphmpimgbmedbaaGreat
namespace Go.Proofs.YtphmpimgbmedbaaGreat
open Go.RowKit
open Go.Lib (hid)
def sumI {α : Type} (f : α → Int) : List α → Int
 | [] => 0
 | x :: xs => f x + sumI f xs
section
variable {α : Type} {f : α → Int}
theorem sumI_nonneg (hf : ∀ x, 0 ≤ f x) : ∀ xs, 0 ≤ sumI f xs
 | [] => Int.le_refl _
 | x :: xs => by have := sumI_nonneg hf xs; have := hf x; show 0 ≤ f x + sumI f xs; omega
theorem sumI_append (xs ys : List α) : sumI f (xs ++ ys) = sumI f xs + sumI f ys := by
 induction xs with
 | nil => simp [sumI]
 | cons x xs ih => simp [sumI, ih]; omega
theorem sumI_take {xs : List α} {i : Nat} {x : α} (h : xs[i]? = some x) : sumI f (xs.take (i + 1)) = sumI f (xs.take i) + f x := by
 rw [take_next h, sumI_append]; simp [sumI]
theorem sumI_take_le (hf : ∀ x, 0 ≤ f x) (xs : List α) (i : Nat) : sumI f (xs.take i) ≤ sumI f xs := by
 have := sumI_append (f := f) (xs.take i) (xs.drop i)
 rw [List.take_append_drop] at this
 have := sumI_nonneg hf (xs.drop i)
 omega
theorem sumI_mem (hf : ∀ x, 0 ≤ f x) {xs : List α} {x : α} (h : x ∈ xs) : f x ≤ sumI f xs := by
 obtain ⟨a, b, rfl⟩ := List.append_of_mem h
 rw [sumI_append]
 have := sumI_nonneg hf a; have := sumI_nonneg hf b
 show f x ≤ sumI f a + (f x + sumI f b)
 omega
theorem sumI_at (hf : ∀ x, 0 ≤ f x) {xs : List α} {i : Nat} {x : α} (h : xs[i]? = some x) : sumI f (xs.take i) + f x ≤ sumI f xs := by
 rw [← sumI_take h]; exact sumI_take_le hf _ _
def totL (f : α → Int) (xs : List α) : Int := xs.length + sumI f xs
theorem totL_nonneg (hf : ∀ x, 0 ≤ f x) (xs : List α) : 0 ≤ totL f xs := by have := sumI_nonneg hf xs; unfold totL; omega
theorem totL_mem (hf : ∀ x, 0 ≤ f x) {xs : List α} {x : α} (h : x ∈ xs) : f x ≤ totL f xs := by have := sumI_mem hf h; unfold totL; omega
theorem totL_len (hf : ∀ x, 0 ≤ f x) (xs : List α) : (xs.length : Int) ≤ totL f xs := by have := sumI_nonneg hf xs; unfold totL; omega
end
/-! ### how much there is -/
def totBs (xs : List UInt8) : Int := xs.length
def totIs (xs : List Int) : Int := xs.length
def totBlk (x : Blk) : Int := totBs x.bytes
def totDrv (x : Drv) : Int := totL totBlk x.blocks
def totRec (x : Rec) : Int := (x.name.size : Int) + totIs x.rows + totBs x.data + totBs x.delta
def totTap (x : Tap) : Int := totL totRec x.recs
def totWld (x : Wld) : Int := totL (totL totDrv) x.groups + totIs x.on + totL totTap x.tapes
theorem totBs_nonneg (x : List UInt8) : 0 ≤ totBs x := Int.natCast_nonneg _
theorem totIs_nonneg (x : List Int) : 0 ≤ totIs x := Int.natCast_nonneg _
theorem totBlk_nonneg (x : Blk) : 0 ≤ totBlk x := totBs_nonneg _
theorem totDrv_nonneg (x : Drv) : 0 ≤ totDrv x := totL_nonneg totBlk_nonneg _
theorem totRec_nonneg (x : Rec) : 0 ≤ totRec x := by have := totIs_nonneg x.rows; have := totBs_nonneg x.data; have := totBs_nonneg x.delta; unfold totRec; omega
theorem totTap_nonneg (x : Tap) : 0 ≤ totTap x := totL_nonneg totRec_nonneg _
theorem totWld_nonneg (x : Wld) : 0 ≤ totWld x := by have := totL_nonneg (totL_nonneg totDrv_nonneg) x.groups; have := totIs_nonneg x.on; have := totL_nonneg totTap_nonneg x.tapes; unfold totWld; omega
/-! ### marks -/
section
variable {α : Type} {cnt : α → Int} {mk : Int → α → α}
end
end Go.Proofs.YtphmpimgbmedbaaGreat
namespace Go.Proofs.YtphmpimgbmedbaaGreat
open Go.RowKit
open Go.Lib (hid)
def setRow (cur : Array Value) : Nat → List Value → Array Value
 | _, [] => cur
 | o, v :: vs => setRow (cur.setIfInBounds o v) (o + 1) vs
theorem setCells_heap {b : Nat} {E : TypeId} {fr : Nat × Nat} : ∀ (vs : List Value) (o : Nat) (w : World) (cur : Array Value), w.heap[b]? = some (.cells cur E fr) → (w.setCells b o vs).heap[b]? = some (.cells (setRow cur o vs) E fr) := by
 intro vs
 induction vs with
 | nil => intro o w cur h; exact h
 | cons v vs ih => intro o w cur h; exact ih (o + 1) _ _ (heap_setCell_same h)
theorem setCells_far {b k : Nat} (hk : k ≠ b) : ∀ (vs : List Value) (o : Nat) (w : World), (w.setCells b o vs).heap[k]? = w.heap[k]? := by
 intro vs
 induction vs with
 | nil => intro o w; rfl
 | cons v vs ih => intro o w; exact (ih (o + 1) _).trans (Below.heap_setCell _ _ _ _ hk)
theorem Chg.setCells {S : List Nat} {a : World} {b : Nat} (hp : b ∈ S ∨ a.heap.size ≤ b) : ∀ (vs : List Value) (o : Nat) {w : World}, Chg S a w → Chg S a (w.setCells b o vs) := by
 intro vs
 induction vs with
 | nil => intro o w h; exact h
 | cons v vs ih => intro o w h; exact ih (o + 1) (h.setCell ⟨b, o, none⟩ v hp)
theorem setRow_toList : ∀ (vs : List Value) (o : Nat) (cur : Array Value), o + vs.length ≤ cur.size → (setRow cur o vs).toList = cur.toList.take o ++ (vs ++ cur.toList.drop (o + vs.length)) := by
 intro vs
 induction vs with
 | nil => intro o cur _; simp [setRow]
 | cons v vs ih =>
  intro o cur h
  simp only [List.length_cons] at h
  show (setRow (cur.setIfInBounds o v) (o + 1) vs).toList = _
  rw [ih (o + 1) _ (by simp; omega), Array.toList_setIfInBounds]
  have e1 : (cur.toList.set o v).take (o + 1) = cur.toList.take o ++ [v] := by
   apply List.ext_getElem?
   intro j
   by_cases hj : j < o
   ·rw [List.getElem?_take_of_lt (by omega), List.getElem?_set_ne (by omega), List.getElem?_append_left (by simp; omega), List.getElem?_take_of_lt hj]
   ·by_cases hj2 : j = o
    ·subst hj2
     have hlj : (cur.toList.take j).length = j := by rw [List.length_take]; simp; omega
     rw [List.getElem?_take_of_lt (by omega), List.getElem?_set_self (by simp; omega), List.getElem?_append_right (by omega), hlj]
     simp
    ·rw [List.getElem?_eq_none (by simp; omega), List.getElem?_eq_none (by simp; omega)]
  have e2 : (cur.toList.set o v).drop (o + 1 + vs.length) = cur.toList.drop (o + (v :: vs).length) := by
   rw [List.drop_set_of_lt (by omega)]
   congr 1
   simp; omega
  rw [e1, e2]
  simp
theorem Lay.all_putN {α : Type} (L : Lay α) {w w' : World} {xs : List α} {i : Nat} {cs : List Value} {fps : List Nat} {x' : α} {vs : List Value} {f' : List Nat} (h : L.all w cs xs fps) (hi : i < xs.length) (hr : L.rep w' vs x' f')
  (hk : ∀ b ∈ fps, w'.heap[b]? = w.heap[b]?) : ∃ f1 fx f2, fps = f1 ++ (fx ++ f2) ∧ L.all w' (cs.take (i * L.n) ++ (vs ++ cs.drop (i * L.n + L.n))) (xs.set i x') (f1 ++ (f' ++ f2)) := by
 have e : xs = xs.take i ++ (xs[i] :: xs.drop (i + 1)) := by rw [← List.drop_eq_getElem_cons hi, List.take_append_drop]
 rw [e] at h
 have hl : (xs.take i).length = i := by rw [List.length_take]; omega
 obtain ⟨f1, f2', rfl, h1, h2⟩ := L.all_split h
 rw [hl] at h1 h2
 obtain ⟨c1, c2, fx, f2, e2, rfl, r1, r2⟩ := h2
 have hc2 : c2 = cs.drop (i * L.n + L.n) := by
  have := congrArg (List.drop L.n) e2
  rw [List.drop_drop, ← L.len r1, List.drop_left] at this
  rw [← this, L.len r1]
 refine ⟨f1, fx, f2, rfl, ?_⟩
 rw [List.set_eq_take_append_cons_drop, if_pos hi]
 refine L.all_append (L.all_keep h1 (fun b hb => hk b (by simp [hb]))) ⟨vs, _, f', f2, rfl, rfl, hr, ?_⟩
 rw [← hc2]
 exact L.all_keep r2 (fun b hb => hk b (by simp [hb]))
theorem Lay.sl_putN {α : Type} (L : Lay α) {w : World} {b off len cap : Nat} {xs : List α} {fp : List Nat} (h : L.sl w (some ⟨b, off, none⟩) len cap xs fp) (nd : fp.Nodup) {i : Nat} (hi : i < len) {vs : List Value} {x' : α} {f' : List Nat}
  (hr : L.rep w vs x' f') (hf' : ∀ y ∈ f', y ∉ fp) (nd' : f'.Nodup) :
  ∃ fp', L.sl (w.setCells b (off + i * L.n) vs) (some ⟨b, off, none⟩) len cap (xs.set i x') fp' ∧ (∀ y ∈ fp', y ∈ fp ∨ y ∈ f') ∧ fp'.Nodup ∧ b ∈ fp' ∧ b ∈ fp := by
 obtain ⟨h1, h2, h3, h4, ⟨rfl, rfl⟩ | ⟨b', off', cur, E, fr, fps, ha, hb, hall, rfl⟩⟩ := h
 ·simp at h1; omega
 ·simp only [Option.some.injEq, Addr.mk.injEq, and_true] at ha
  obtain ⟨rfl, rfl⟩ := ha
  have hvl := L.len hr
  have hbf : b ∉ fps := (List.nodup_cons.1 nd).1
  have hbf' : b ∉ f' := fun hy => hf' b hy (by simp)
  have hal := L.all_len hall
  rw [List.length_take, List.length_drop] at hal
  have hle : (i + 1) * L.n ≤ len * L.n := Nat.mul_le_mul_right _ (by omega)
  rw [Nat.add_mul, Nat.one_mul] at hle
  have hsz : off + (i * L.n + L.n) ≤ cur.size := by
   have := L.pos
   have e : cur.toList.length = cur.size := by simp
   rw [h1] at hle
   omega
  have hr' := L.keep hr (fun y hy => (setCells_far (show y ≠ b from fun e => hbf' (by rw [← e]; exact hy)) vs (off + i * L.n) w))
  obtain ⟨f1, fx, f2, rfl, hall'⟩ := L.all_putN hall (show i < xs.length by omega) hr' (fun y hy => setCells_far (show y ≠ b from fun e => hbf (by rw [← e]; exact hy)) vs (off + i * L.n) w)
  refine ⟨b :: (f1 ++ (f' ++ f2)), ⟨by simpa using h1, h2, h3, h4, .inr ⟨b, off, _, E, fr, _, rfl, setCells_heap vs _ w cur hb, ?_, rfl⟩⟩, ?_, ?_, by simp, by simp⟩
  ·rw [setRow_toList vs _ cur (by omega)]
   have e : ((cur.toList.take (off + i * L.n) ++ (vs ++ cur.toList.drop (off + i * L.n + vs.length))).drop off).take (len * L.n) = ((cur.toList.drop off).take (len * L.n)).take (i * L.n) ++ (vs ++ ((cur.toList.drop off).take (len * L.n)).drop (i * L.n + L.n)) := by
    have hlen : cur.toList.length = cur.size := by simp
    rw [hvl]
    rw [List.drop_append_of_le_length (by rw [List.length_take]; omega), List.drop_take, show off + i * L.n - off = i * L.n by omega]
    rw [List.take_append, List.take_take, List.take_take, List.length_take, List.length_drop]
    rw [show min (len * L.n) (i * L.n) = i * L.n by omega, show min (i * L.n) (len * L.n) = i * L.n by omega]
    congr 1
    rw [show min (i * L.n) (cur.toList.length - off) = i * L.n by omega]
    rw [List.take_append, hvl, List.take_of_length_le (show vs.length ≤ len * L.n - i * L.n by omega)]
    congr 1
    rw [List.drop_take, List.drop_drop, show off + i * L.n + L.n = off + (i * L.n + L.n) by omega]
    congr 1
    omega
   rw [e]
   exact hall'
  ·intro y hy
   simp only [List.mem_cons, List.mem_append] at hy ⊢
   rcases hy with rfl | hy | hy | hy
   ·simp
   ·exact .inl (.inr (.inl hy))
   ·exact .inr hy
   ·exact .inl (.inr (.inr (.inr hy)))
  ·have nd2 := (List.nodup_cons.1 nd).2
   rw [List.nodup_append] at nd2
   obtain ⟨n1, n2, n3⟩ := nd2
   rw [List.nodup_append] at n2
   obtain ⟨n4, n5, n6⟩ := n2
   have q1 : ∀ y ∈ f', y ∉ f1 := fun y hy hy1 => hf' y hy (by simp [hy1])
   have q2 : ∀ y ∈ f', y ∉ f2 := fun y hy hy1 => hf' y hy (by simp [hy1])
   refine List.nodup_cons.2 ⟨?_, List.nodup_append.2 ⟨n1, List.nodup_append.2 ⟨nd', n5, fun a ha c hc e => q2 a ha (e ▸ hc)⟩, fun a ha c hc e => ?_⟩⟩
   ·intro hy
    simp only [List.mem_append] at hy
    rcases hy with hy | hy | hy
    ·exact hbf (by simp [hy])
    ·exact hbf' hy
    ·exact hbf (by simp [hy])
   ·rcases List.mem_append.1 hc with hc | hc
    ·exact q1 c hc (e ▸ ha)
    ·exact n3 a ha c (List.mem_append.2 (.inr hc)) e
end Go.Proofs.YtphmpimgbmedbaaGreat
namespace Go.Proofs.YtphmpimgbmedbaaGreat
open Go.RowKit
open Go.Lib (hid)
def RowAt {α : Type} (L : Lay α) (w : World) (b off : Nat) (ps : List (α × List Nat)) : Prop :=
 ∃ cur E, w.heap[b]? = some (.cells cur E (0, 0)) ∧ (0 < ps.length → off + ps.length * L.n ≤ cur.size) ∧ ∀ (i : Nat) p, ps[i]? = some p → L.rep w ((cur.toList.drop (off + i * L.n)).take L.n) p.1 p.2 ∧ b ∉ p.2
section
variable {α : Type} {L : Lay α} {w w' : World} {b off : Nat} {ps : List (α × List Nat)}
theorem RowAt.lt (h : RowAt L w b off ps) : b < w.heap.size := by obtain ⟨cur, E, h1, _⟩ := h; exact ltOf h1
theorem RowAt.loose (h : RowAt L w b off ps) : Loose w b := by obtain ⟨cur, E, h1, _⟩ := h; exact ⟨_, _, h1⟩
theorem RowAt.keep (h : RowAt L w b off ps) (hb : w'.heap[b]? = w.heap[b]?) (hk : ∀ p ∈ ps, ∀ y ∈ p.2, w'.heap[y]? = w.heap[y]?) : RowAt L w' b off ps := by
 obtain ⟨cur, E, h1, h2, h3⟩ := h
 exact ⟨cur, E, hb.trans h1, h2, fun i p hp => ⟨L.keep (h3 i p hp).1 (hk p (List.mem_of_getElem? hp)), (h3 i p hp).2⟩⟩
theorem RowAt.fp_lt (h : RowAt L w b off ps) {p : α × List Nat} (hp : p ∈ ps) : ∀ y ∈ p.2, y < w.heap.size := by
 obtain ⟨cur, E, h1, h2, h3⟩ := h
 obtain ⟨i, hi, e⟩ := List.getElem_of_mem hp
 exact L.lt (h3 i p (by rw [List.getElem?_eq_getElem hi, e])).1
theorem RowAt.chg {S : List Nat} (h : RowAt L w b off ps) (hc : Chg S w w') (hb : b ∉ S) (hS : ∀ p ∈ ps, ∀ y ∈ p.2, y ∉ S) : RowAt L w' b off ps :=
 h.keep (hc.block b h.lt hb) (fun p hp y hy => hc.block y (h.fp_lt hp y hy) (hS p hp y hy))
theorem RowAt.ext (h : RowAt L w b off ps) (hc : Chg [] w w') : RowAt L w' b off ps := h.chg hc (by simp) (by simp)
theorem RowAt.at (h : RowAt L w b off ps) {i : Nat} (hi : i < ps.length) : ∃ p c, ps[i]? = some p ∧ L.rep w c p.1 p.2 ∧ b ∉ p.2 ∧ ∀ j, j < L.n → w.cell? ⟨b, off + i * L.n + j, none⟩ = c[j]? := by
 obtain ⟨cur, E, h1, h2, h3⟩ := h
 have hp : ps[i]? = some ps[i] := List.getElem?_eq_getElem hi
 refine ⟨_, _, hp, (h3 i _ hp).1, (h3 i _ hp).2, fun j hj => ?_⟩
 rw [cellsOf h1, List.getElem?_take_of_lt hj, List.getElem?_drop]
 simp
theorem RowAt.free (h : RowAt L w b off ps) : ∀ j, w.frozen? ⟨b, j, none⟩ = false := by obtain ⟨cur, E, h1, _⟩ := h; exact freeOf h1
theorem RowAt.put (h : RowAt L w b off ps) {i : Nat} (hi : i < ps.length) {x : α} {c : List Value} {f : List Nat} (hr : L.rep w c x f) (hb : b ∉ f) : RowAt L (w.setCells b (off + i * L.n) c) b off (ps.set i (x, f)) := by
 obtain ⟨cur, E, h1, h2, h3⟩ := h
 have hcl := L.len hr
 have hle : (i + 1) * L.n ≤ ps.length * L.n := Nat.mul_le_mul_right _ (by omega)
 rw [Nat.add_mul, Nat.one_mul] at hle
 have hsz : off + i * L.n + c.length ≤ cur.size := by have := h2 (by omega); omega
 have htl := setRow_toList c (off + i * L.n) cur hsz
 have hct : cur.toList.length = cur.size := by simp
 refine ⟨_, E, setCells_heap c _ w cur h1, ?_, fun j p hp => ?_⟩
 ·rw [List.length_set]
  have : (setRow cur (off + i * L.n) c).size = cur.size := by
   have h5 := congrArg List.length htl
   rw [Array.length_toList] at h5
   rw [h5, List.length_append, List.length_append, List.length_take, List.length_drop]
   omega
  rw [this]; exact h2
 ·have hfar : ∀ y, y ≠ b → (w.setCells b (off + i * L.n) c).heap[y]? = w.heap[y]? := fun y hy => setCells_far hy c _ w
  by_cases e : i = j
  ·subst e
   rw [List.getElem?_set_self hi] at hp
   obtain rfl := Option.some.inj hp
   refine ⟨?_, hb⟩
   have e2 : ((setRow cur (off + i * L.n) c).toList.drop (off + i * L.n)).take L.n = c := by
    rw [htl, List.drop_append_of_le_length (by rw [List.length_take]; omega), List.drop_take, Nat.sub_self, List.take_zero, List.nil_append, List.take_append_of_le_length (by omega), List.take_of_length_le (by omega)]
   rw [e2]
   exact L.keep hr (fun y hy => hfar y (fun e => hb (e ▸ hy)))
  ·rw [List.getElem?_set_ne e] at hp
   obtain ⟨h4, h5⟩ := h3 j p hp
   refine ⟨?_, h5⟩
   have hj := (List.getElem?_eq_some_iff.1 hp).1
   have hjle : (j + 1) * L.n ≤ ps.length * L.n := Nat.mul_le_mul_right _ (by omega)
   rw [Nat.add_mul, Nat.one_mul] at hjle
   have e2 : ((setRow cur (off + i * L.n) c).toList.drop (off + j * L.n)).take L.n = (cur.toList.drop (off + j * L.n)).take L.n := by
    apply List.ext_getElem?
    intro k
    by_cases hk : k < L.n
    ·rw [List.getElem?_take_of_lt hk, List.getElem?_take_of_lt hk, List.getElem?_drop, List.getElem?_drop, htl]
     rcases Nat.lt_or_gt_of_ne e with hij | hij
     ·have : (i + 1) * L.n ≤ j * L.n := Nat.mul_le_mul_right _ hij
      rw [Nat.add_mul, Nat.one_mul] at this
      rw [List.getElem?_append_right (by rw [List.length_take]; omega), List.length_take, List.getElem?_append_right (by omega), List.getElem?_drop]
      congr 1
      omega
     ·have : (j + 1) * L.n ≤ i * L.n := Nat.mul_le_mul_right _ hij
      rw [Nat.add_mul, Nat.one_mul] at this
      rw [List.getElem?_append_left (by rw [List.length_take]; omega), List.getElem?_take_of_lt (by omega)]
    ·rw [List.getElem?_eq_none (by rw [List.length_take]; omega), List.getElem?_eq_none (by rw [List.length_take]; omega)]
   rw [e2]
   exact L.keep h4 (fun y hy => hfar y (fun e => h5 (e ▸ hy)))
theorem RowAt.take (h : RowAt L w b off ps) (n : Nat) : RowAt L w b off (ps.take n) := by
 obtain ⟨cur, E, h1, h2, h3⟩ := h
 have hle : (ps.take n).length * L.n ≤ ps.length * L.n := Nat.mul_le_mul_right _ (by rw [List.length_take]; omega)
 refine ⟨cur, E, h1, fun h0 => by have := h2 (by rw [List.length_take] at h0; omega); omega, fun i p hp => h3 i p ?_⟩
 have hi : i < n := by have := (List.getElem?_eq_some_iff.1 hp).1; rw [List.length_take] at this; omega
 rwa [List.getElem?_take_of_lt hi] at hp
end
theorem row_all {α : Type} {L : Lay α} {w : World} : ∀ {ps : List (α × List Nat)} {cs : List Value}, cs.length = ps.length * L.n → (∀ (i : Nat) p, ps[i]? = some p → L.rep w ((cs.drop (i * L.n)).take L.n) p.1 p.2) → L.all w cs (ps.map (·.1)) (ps.flatMap (·.2)) := by
 intro ps
 induction ps with
 | nil => intro cs hl _; exact ⟨List.eq_nil_of_length_eq_zero (by simpa using hl), rfl⟩
 | cons p ps ih =>
  intro cs hl h
  rw [List.length_cons, Nat.add_mul, Nat.one_mul] at hl
  refine ⟨cs.take L.n, cs.drop L.n, p.2, ps.flatMap (·.2), (List.take_append_drop _ _).symm, by simp, ?_, ih (by rw [List.length_drop]; omega) (fun i q hq => ?_)⟩
  ·have := h 0 p rfl
   simpa using this
  ·have := h (i + 1) q (by simpa using hq)
   rw [List.drop_drop]
   rw [Nat.add_mul, Nat.one_mul, Nat.add_comm] at this
   exact this
theorem all_row {α : Type} {L : Lay α} {w : World} : ∀ {xs : List α} {cs : List Value} {fps : List Nat}, L.all w cs xs fps → ∃ ps : List (α × List Nat), ps.map (·.1) = xs ∧ ps.flatMap (·.2) = fps ∧ ∀ (i : Nat) p, ps[i]? = some p → L.rep w ((cs.drop (i * L.n)).take L.n) p.1 p.2 := by
 intro xs
 induction xs with
 | nil => intro cs fps h; exact ⟨[], rfl, h.2.symm, fun i p hp => by simp at hp⟩
 | cons x xs ih =>
  intro cs fps h
  obtain ⟨c1, c2, f1, f2, rfl, rfl, h1, h2⟩ := h
  obtain ⟨ps, e1, e2, e3⟩ := ih h2
  have hl := L.len h1
  refine ⟨(x, f1) :: ps, by simp [e1], by simp [e2], fun i p hp => ?_⟩
  cases i with
  | zero =>
   simp at hp
   subst hp
   rw [Nat.zero_mul, List.drop_zero, ← hl, List.take_left]
   exact h1
  | succ i =>
   have := e3 i p (by simpa using hp)
   rw [Nat.add_mul, Nat.one_mul, Nat.add_comm, ← List.drop_drop, ← hl, List.drop_left, hl]
   exact this
section
variable {α : Type} {L : Lay α} {w w' : World} {b off len cap : Nat} {xs : List α} {ps : List (α × List Nat)} {fp : List Nat}
theorem RowAt.sl (h : RowAt L w b off ps) (hl : len = ps.length) (hc : len ≤ cap) (hm : cap ≤ maxLen) : L.sl w (some ⟨b, off, none⟩) len cap (ps.map (·.1)) (b :: ps.flatMap (·.2)) := by
 obtain ⟨cur, E, h1, h2, h3⟩ := h
 subst hl
 refine ⟨by simp, hc, hm, (fun h => by cases h), .inr ⟨b, off, cur, E, (0, 0), _, rfl, h1, row_all ?_ (fun i p hp => ?_), rfl⟩⟩
 ·have hct : cur.toList.length = cur.size := by simp
  rw [List.length_take, List.length_drop, hct]
  rcases Nat.eq_zero_or_pos ps.length with h0 | h0
  ·rw [h0, Nat.zero_mul]; omega
  ·have := h2 h0; omega
 ·have hi := (List.getElem?_eq_some_iff.1 hp).1
  have hle : (i + 1) * L.n ≤ ps.length * L.n := Nat.mul_le_mul_right _ (by omega)
  rw [Nat.add_mul, Nat.one_mul] at hle
  have e : (((cur.toList.drop off).take (ps.length * L.n)).drop (i * L.n)).take L.n = (cur.toList.drop (off + i * L.n)).take L.n := by
   rw [List.drop_take, List.take_take, List.drop_drop, Nat.min_eq_left (by omega)]
  rw [e]
  exact (h3 i p hp).1
theorem Lay.sl_row (h : L.sl w (some ⟨b, off, none⟩) len cap xs fp) (hlo : Loose w b) (hn : ∃ fps, fp = b :: fps ∧ b ∉ fps) : ∃ ps, RowAt L w b off ps ∧ ps.map (·.1) = xs ∧ fp = b :: ps.flatMap (·.2) := by
 obtain ⟨fps0, hfp, hb⟩ := hn
 obtain ⟨h1, h2, h3, h4, ⟨rfl, rfl⟩ | ⟨b', off', cur, E, fr, fps, ha, hb', hall, hfp'⟩⟩ := h
 ·cases hfp
 ·simp only [Option.some.injEq, Addr.mk.injEq, and_true] at ha
  obtain ⟨rfl, rfl⟩ := ha
  obtain rfl : fps = fps0 := by rw [hfp] at hfp'; exact (List.cons.inj hfp').2.symm
  obtain ⟨cur', E', hlo⟩ := hlo
  obtain ⟨rfl, rfl, rfl⟩ : cur' = cur ∧ E' = E ∧ fr = (0, 0) := by
   have := Option.some.inj (hlo.symm.trans hb'); injection this with e1 e2 e3; exact ⟨e1, e2, e3.symm⟩
  obtain ⟨ps, e1, e2, e3⟩ := all_row hall
  have hpl : ps.length = xs.length := by rw [← e1, List.length_map]
  have hal := L.all_len hall
  rw [List.length_take, List.length_drop, Array.length_toList] at hal
  refine ⟨ps, ⟨cur', E', hb', ?_, fun i p hp => ?_⟩, e1, by rw [hfp, e2]⟩
  ·rw [hpl]
   intro h0
   have : 0 < xs.length * L.n := Nat.mul_pos h0 L.pos
   rw [h1] at hal; omega
  ·have hi := (List.getElem?_eq_some_iff.1 hp).1
   have hle : (i + 1) * L.n ≤ len * L.n := Nat.mul_le_mul_right _ (by omega)
   rw [Nat.add_mul, Nat.one_mul] at hle
   have := e3 i p hp
   rw [List.drop_take, List.take_take, List.drop_drop, Nat.min_eq_left (by omega)] at this
   refine ⟨this, fun hm => hb ?_⟩
   rw [← e2]
   exact List.mem_flatMap.2 ⟨p, List.mem_of_getElem? hp, hm⟩
end
end Go.Proofs.YtphmpimgbmedbaaGreat
namespace Go.Proofs.YtphmpimgbmedbaaGreat
open Go.RowKit
open Go.Lib (hid)
theorem heap_set_lit {w : World} {b o : Nat} {v : Value} {cur cur' : Array Value} {E : TypeId} {fr : Nat × Nat} (hb : w.heap[b]? = some (.cells cur E fr)) (h : cur.setIfInBounds o v = cur') :
  (w.setCell ⟨b, o, none⟩ v).heap[b]? = some (.cells cur' E fr) := by subst h; exact heap_setCell_same hb
theorem Fresh.nots {B : Nat} {w : World} {f : List Nat} (h : Fresh B w f) (S : List Nat) (hS : ∀ b ∈ S, b < B) : ∀ b ∈ f, b ∉ S := fun b hb hm => Nat.lt_irrefl _ (Nat.lt_of_lt_of_le (hS b hm) (h.2 b hb).1)
def SzPost (t k : Int) (w : World) (e : Ending) (w' : World) : Prop := e = .returned (.int .i64 (if k - t < 0 then -1 else k - t)) ∧ Chg [] w w'
theorem szByteS_any (a : Option Addr) (la ca : Nat) (xs : List UInt8) (f : List Nat) (k : Int) (w : World) (ha : byteL.sl w a la ca xs f) (hk : 0 ≤ k) (hk2 : k ≤ 1048576) :
  Calls Tryz.prog 288 #[.slice a la ca, .int .i64 k] w (SzPost (totBs xs) k w) := by
 refine (szB_any a la ca k w (byteL.sl_max ha) hk hk2).mono ?_
 rintro e w' ⟨rfl, rfl⟩
 exact ⟨by unfold totBs; rw [← ha.1], Chg.refl _ _⟩
theorem szInt64S_any (a : Option Addr) (la ca : Nat) (xs : List Int) (f : List Nat) (k : Int) (w : World) (ha : intL.sl w a la ca xs f) (hk : 0 ≤ k) (hk2 : k ≤ 1048576) :
  Calls Tryz.prog 67 #[.slice a la ca, .int .i64 k] w (SzPost (totIs xs) k w) := by
 have hm := intL.sl_max ha
 have HA := hid ha.1
 clear ha
 by_cases h : k - la < 0
 ·go_enter Tryz.func67, Tryz.ntmps67
  go_wp2
  go_ret
  exact ⟨ret_int (by unfold totIs; rw [← HA.out, if_pos h]), Chg.refl _ _⟩
 ·go_enter Tryz.func67, Tryz.ntmps67
  go_wp2
  go_ret
  exact ⟨ret_int (by unfold totIs; rw [← HA.out, if_neg (by omega)]), Chg.refl _ _⟩
set_option maxRecDepth 100000 in
set_option maxHeartbeats 2000000 in
theorem toRec_any (x : Rec) (cx : Array Value) (fx : List Nat) (w : World) (hx : recL.rep w cx.toList x fx) (hz : totRec x ≤ 1048576) :
  Calls Tryz.prog 266 #[.agg cx] w (NewAgg recL x w) := by
 obtain ⟨a6, l6, c6, f6, a7, l7, c7, f7, a8, l8, c8, f8, ex, o0, o1, o2, o3, o4, o5, h6, h7, h8, -⟩ := recL_iff.1 hx
 clear hx
 obtain ⟨v0, v1, v2, v3, v4, v5, v6, v7, v8⟩ := x
 simp only at ex o0 o1 o2 o3 o4 o5 h6 h7 h8
 obtain rfl := Array.toList_inj.1 (ex.trans (List.toList_toArray).symm)
 clear ex
 have HO := hid (And.intro o0 (And.intro o1 (And.intro o2 (And.intro o3 (And.intro o4 o5)))))
 have z6 : l6 ≤ 1048576 := by have q1 := totIs_nonneg v6; have q2 := totBs_nonneg v7; have q3 := totBs_nonneg v8; unfold totRec at hz; unfold totIs at hz q1; unfold totBs at hz q2 q3; simp only at hz; rw [h6.1]; omega
 have H6 := hid h6; have HL6 := hid (show v6.length = l6 from h6.1.symm); clear h6
 have z7 : l7 ≤ 1048576 := by have q1 := totIs_nonneg v6; have q2 := totBs_nonneg v7; have q3 := totBs_nonneg v8; unfold totRec at hz; unfold totIs at hz q1; unfold totBs at hz q2 q3; simp only at hz; rw [h7.1]; omega
 have H7 := hid h7; have HL7 := hid (show v7.length = l7 from h7.1.symm); clear h7
 have z8 : l8 ≤ 1048576 := by have q1 := totIs_nonneg v6; have q2 := totBs_nonneg v7; have q3 := totBs_nonneg v8; unfold totRec at hz; unfold totIs at hz q1; unfold totBs at hz q2 q3; simp only at hz; rw [h8.1]; omega
 have H8 := hid h8; have HL8 := hid (show v8.length = l8 from h8.1.symm); clear h8
 clear hz o0 o1 o2 o3 o4 o5
 go_enter Tryz.func266, Tryz.ntmps266
 go_wp2_with fail
 refine (toI_any a6 l6 c6 v6 f6 _ (intL.sl_ext H6.out (by refine Chg.alloc ?_ _; refine Chg.alloc ?_ _; refine Chg.alloc ?_ _; exact Chg.refl _ _)) z6).mono ?_
 rintro e w1 ⟨b6, d6, g6, rfl, hs, hf, hc⟩
 rw [HL6.out] at hs ⊢
 have HS6 := hid hs; clear hs
 have hP := hc.keep0 (b := w.heap.size) (keep_alloc (keep_alloc (new_at (by simp) _) _) _)
 have hQ := hc.keep0 (b := w.heap.size + 1) (keep_alloc (new_at (by simp) _) _)
 have hR := hc.keep0 (b := w.heap.size + 1 + 1) (new_at (by simp) _)
 have HD6 := hid (Fresh.nots hf [w.heap.size, w.heap.size + 1, w.heap.size + 1 + 1] (by intro b hb; simp only [List.mem_cons, List.not_mem_nil, or_false] at hb; rcases hb with rfl | rfl | rfl <;> simp <;> omega)); have HF6 := hid hf; clear hf
 have cP := cellsOf hP; have lP := ltOf hP; have fP := freeOf hP; have HBP := hid hP; clear hP
 have cQ := cellsOf hQ; have lQ := ltOf hQ; have fQ := freeOf hQ; have HBQ := hid hQ; clear hQ
 have cR := cellsOf hR; have lR := ltOf hR; have fR := freeOf hR; have HBR := hid hR; clear hR
 have HC1 := hid hc; clear hc
 go_wp2_with fail
 refine (toB_any a7 l7 c7 v7 f7 _ (byteL.sl_ext H7.out (by refine Chg.setCell ?_ _ _ (.inr (by simp <;> omega)); refine Chg.trans0 ?_ HC1.out; refine Chg.alloc ?_ _; refine Chg.alloc ?_ _; refine Chg.alloc ?_ _; exact Chg.refl _ _)) z7).mono ?_
 rintro e w2 ⟨b7, d7, g7, rfl, hs, hf, hc⟩
 rw [HL7.out] at hs ⊢
 have HS7 := hid hs; clear hs
 have hP := hc.keep0 (keep_set HBP.out _ _ (show w.heap.size ≠ w.heap.size + 1 + 1 by omega))
 have hQ := hc.keep0 (keep_set HBQ.out _ _ (show w.heap.size + 1 ≠ w.heap.size + 1 + 1 by omega))
 have hR := hc.keep0 (b := w.heap.size + 1 + 1) (o := .cells #[.int .i64 v0, .int .i64 v1, .string v2, .int .i64 v3, .int .i64 v4, .int .i64 v5, .slice b6 l6 d6, .slice none 0 0, .slice none 0 0] 67) (by refine heap_set_lit (cur := #[.int .i64 v0, .int .i64 v1, .string v2, .int .i64 v3, .int .i64 v4, .int .i64 v5, .slice none 0 0, .slice none 0 0, .slice none 0 0]) ?_ rfl; exact HBR.out)
 have HD7 := hid (Fresh.nots hf [w.heap.size, w.heap.size + 1, w.heap.size + 1 + 1] (by intro b hb; simp only [List.mem_cons, List.not_mem_nil, or_false] at hb; rcases hb with rfl | rfl | rfl <;> simp <;> omega)); have HF7 := hid hf; clear hf
 clear HBP cP lP fP HBQ cQ lQ fQ HBR cR lR fR
 have cP := cellsOf hP; have lP := ltOf hP; have fP := freeOf hP; have HBP := hid hP; clear hP
 have cQ := cellsOf hQ; have lQ := ltOf hQ; have fQ := freeOf hQ; have HBQ := hid hQ; clear hQ
 have cR := cellsOf hR; have lR := ltOf hR; have fR := freeOf hR; have HBR := hid hR; clear hR
 have HC2 := hid hc; clear hc
 go_wp2_with fail
 refine (toB_any a8 l8 c8 v8 f8 _ (byteL.sl_ext H8.out (by refine Chg.setCell ?_ _ _ (.inr (by simp <;> omega)); refine Chg.trans0 ?_ HC2.out; refine Chg.setCell ?_ _ _ (.inr (by simp <;> omega)); refine Chg.trans0 ?_ HC1.out; refine Chg.alloc ?_ _; refine Chg.alloc ?_ _; refine Chg.alloc ?_ _; exact Chg.refl _ _)) z8).mono ?_
 rintro e w3 ⟨b8, d8, g8, rfl, hs, hf, hc⟩
 rw [HL8.out] at hs ⊢
 have HS8 := hid hs; clear hs
 have hP := hc.keep0 (keep_set HBP.out _ _ (show w.heap.size ≠ w.heap.size + 1 + 1 by omega))
 have hQ := hc.keep0 (keep_set HBQ.out _ _ (show w.heap.size + 1 ≠ w.heap.size + 1 + 1 by omega))
 have hR := hc.keep0 (b := w.heap.size + 1 + 1) (o := .cells #[.int .i64 v0, .int .i64 v1, .string v2, .int .i64 v3, .int .i64 v4, .int .i64 v5, .slice b6 l6 d6, .slice b7 l7 d7, .slice none 0 0] 67) (by refine heap_set_lit (cur := #[.int .i64 v0, .int .i64 v1, .string v2, .int .i64 v3, .int .i64 v4, .int .i64 v5, .slice b6 l6 d6, .slice none 0 0, .slice none 0 0]) ?_ rfl; exact HBR.out)
 have HD8 := hid (Fresh.nots hf [w.heap.size, w.heap.size + 1, w.heap.size + 1 + 1] (by intro b hb; simp only [List.mem_cons, List.not_mem_nil, or_false] at hb; rcases hb with rfl | rfl | rfl <;> simp <;> omega)); have HF8 := hid hf; clear hf
 clear HBP cP lP fP HBQ cQ lQ fQ HBR cR lR fR
 have cP := cellsOf hP; have lP := ltOf hP; have fP := freeOf hP; have HBP := hid hP; clear hP
 have cQ := cellsOf hQ; have lQ := ltOf hQ; have fQ := freeOf hQ; have HBQ := hid hQ; clear hQ
 have cR := cellsOf hR; have lR := ltOf hR; have fR := freeOf hR; have HBR := hid hR; clear hR
 have HC3 := hid hc; clear hc
 go_wp2_with fail
 have hq : (((((((((((w3.setCell ⟨w.heap.size + 1 + 1, 8, none⟩ (.slice b8 l8 d8)).setCell ⟨w.heap.size + 1, 0, none⟩ (.int .i64 v0)).setCell ⟨w.heap.size + 1, 1, none⟩ (.int .i64 v1)).setCell ⟨w.heap.size + 1, 2, none⟩ (.string v2)).setCell ⟨w.heap.size + 1, 3, none⟩ (.int .i64 v3)).setCell ⟨w.heap.size + 1, 4, none⟩ (.int .i64 v4)).setCell ⟨w.heap.size + 1, 5, none⟩ (.int .i64 v5)).setCell ⟨w.heap.size + 1, 6, none⟩ (.slice b6 l6 d6)).setCell ⟨w.heap.size + 1, 7, none⟩ (.slice b7 l7 d7)).setCell ⟨w.heap.size + 1, 8, none⟩ (.slice b8 l8 d8))).heap[w.heap.size + 1]? = some (.cells #[.int .i64 v0, .int .i64 v1, .string v2, .int .i64 v3, .int .i64 v4, .int .i64 v5, .slice b6 l6 d6, .slice b7 l7 d7, .slice b8 l8 d8] 67) := (by refine heap_set_lit (cur := #[.int .i64 v0, .int .i64 v1, .string v2, .int .i64 v3, .int .i64 v4, .int .i64 v5, .slice b6 l6 d6, .slice b7 l7 d7, .slice none 0 0]) ?_ rfl; refine heap_set_lit (cur := #[.int .i64 v0, .int .i64 v1, .string v2, .int .i64 v3, .int .i64 v4, .int .i64 v5, .slice b6 l6 d6, .slice none 0 0, .slice none 0 0]) ?_ rfl; refine heap_set_lit (cur := #[.int .i64 v0, .int .i64 v1, .string v2, .int .i64 v3, .int .i64 v4, .int .i64 v5, .slice none 0 0, .slice none 0 0, .slice none 0 0]) ?_ rfl; refine heap_set_lit (cur := #[.int .i64 v0, .int .i64 v1, .string v2, .int .i64 v3, .int .i64 v4, .int .i64 0, .slice none 0 0, .slice none 0 0, .slice none 0 0]) ?_ rfl; refine heap_set_lit (cur := #[.int .i64 v0, .int .i64 v1, .string v2, .int .i64 v3, .int .i64 0, .int .i64 0, .slice none 0 0, .slice none 0 0, .slice none 0 0]) ?_ rfl; refine heap_set_lit (cur := #[.int .i64 v0, .int .i64 v1, .string v2, .int .i64 0, .int .i64 0, .int .i64 0, .slice none 0 0, .slice none 0 0, .slice none 0 0]) ?_ rfl; refine heap_set_lit (cur := #[.int .i64 v0, .int .i64 v1, .string ⟨#[]⟩, .int .i64 0, .int .i64 0, .int .i64 0, .slice none 0 0, .slice none 0 0, .slice none 0 0]) ?_ rfl; refine heap_set_lit (cur := #[.int .i64 v0, .int .i64 0, .string ⟨#[]⟩, .int .i64 0, .int .i64 0, .int .i64 0, .slice none 0 0, .slice none 0 0, .slice none 0 0]) ?_ rfl; refine heap_set_lit (cur := #[.int .i64 0, .int .i64 0, .string ⟨#[]⟩, .int .i64 0, .int .i64 0, .int .i64 0, .slice none 0 0, .slice none 0 0, .slice none 0 0]) ?_ rfl; refine keep_set ?_ _ _ (show w.heap.size + 1 ≠ w.heap.size + 1 + 1 by omega); exact HBQ.out)
 have hqc := cellsOf hq
 have hch : Chg [] w ((((((((((w3.setCell ⟨w.heap.size + 1 + 1, 8, none⟩ (.slice b8 l8 d8)).setCell ⟨w.heap.size + 1, 0, none⟩ (.int .i64 v0)).setCell ⟨w.heap.size + 1, 1, none⟩ (.int .i64 v1)).setCell ⟨w.heap.size + 1, 2, none⟩ (.string v2)).setCell ⟨w.heap.size + 1, 3, none⟩ (.int .i64 v3)).setCell ⟨w.heap.size + 1, 4, none⟩ (.int .i64 v4)).setCell ⟨w.heap.size + 1, 5, none⟩ (.int .i64 v5)).setCell ⟨w.heap.size + 1, 6, none⟩ (.slice b6 l6 d6)).setCell ⟨w.heap.size + 1, 7, none⟩ (.slice b7 l7 d7)).setCell ⟨w.heap.size + 1, 8, none⟩ (.slice b8 l8 d8)) := by refine Chg.setCell ?_ _ _ (.inr (by simp <;> omega)); refine Chg.setCell ?_ _ _ (.inr (by simp <;> omega)); refine Chg.setCell ?_ _ _ (.inr (by simp <;> omega)); refine Chg.setCell ?_ _ _ (.inr (by simp <;> omega)); refine Chg.setCell ?_ _ _ (.inr (by simp <;> omega)); refine Chg.setCell ?_ _ _ (.inr (by simp <;> omega)); refine Chg.setCell ?_ _ _ (.inr (by simp <;> omega)); refine Chg.setCell ?_ _ _ (.inr (by simp <;> omega)); refine Chg.setCell ?_ _ _ (.inr (by simp <;> omega)); refine Chg.setCell ?_ _ _ (.inr (by simp <;> omega)); refine Chg.trans0 ?_ HC3.out; refine Chg.setCell ?_ _ _ (.inr (by simp <;> omega)); refine Chg.trans0 ?_ HC2.out; refine Chg.setCell ?_ _ _ (.inr (by simp <;> omega)); refine Chg.trans0 ?_ HC1.out; refine Chg.alloc ?_ _; refine Chg.alloc ?_ _; refine Chg.alloc ?_ _; exact Chg.refl _ _
 have k6 : Chg [w.heap.size, w.heap.size + 1, w.heap.size + 1 + 1] w1 ((((((((((w3.setCell ⟨w.heap.size + 1 + 1, 8, none⟩ (.slice b8 l8 d8)).setCell ⟨w.heap.size + 1, 0, none⟩ (.int .i64 v0)).setCell ⟨w.heap.size + 1, 1, none⟩ (.int .i64 v1)).setCell ⟨w.heap.size + 1, 2, none⟩ (.string v2)).setCell ⟨w.heap.size + 1, 3, none⟩ (.int .i64 v3)).setCell ⟨w.heap.size + 1, 4, none⟩ (.int .i64 v4)).setCell ⟨w.heap.size + 1, 5, none⟩ (.int .i64 v5)).setCell ⟨w.heap.size + 1, 6, none⟩ (.slice b6 l6 d6)).setCell ⟨w.heap.size + 1, 7, none⟩ (.slice b7 l7 d7)).setCell ⟨w.heap.size + 1, 8, none⟩ (.slice b8 l8 d8)) := by refine Chg.setCell ?_ _ _ (.inl (by simp)); refine Chg.setCell ?_ _ _ (.inl (by simp)); refine Chg.setCell ?_ _ _ (.inl (by simp)); refine Chg.setCell ?_ _ _ (.inl (by simp)); refine Chg.setCell ?_ _ _ (.inl (by simp)); refine Chg.setCell ?_ _ _ (.inl (by simp)); refine Chg.setCell ?_ _ _ (.inl (by simp)); refine Chg.setCell ?_ _ _ (.inl (by simp)); refine Chg.setCell ?_ _ _ (.inl (by simp)); refine Chg.setCell ?_ _ _ (.inl (by simp)); refine Chg.trans0 ?_ HC3.out; refine Chg.setCell ?_ _ _ (.inl (by simp)); refine Chg.trans0 ?_ HC2.out; refine Chg.setCell ?_ _ _ (.inl (by simp)); exact Chg.refl _ _
 have K6 := intL.sl_chg HS6.out k6 HD6.out
 have F6 := Fresh.chg HF6.out k6
 have k7 : Chg [w.heap.size, w.heap.size + 1, w.heap.size + 1 + 1] w2 ((((((((((w3.setCell ⟨w.heap.size + 1 + 1, 8, none⟩ (.slice b8 l8 d8)).setCell ⟨w.heap.size + 1, 0, none⟩ (.int .i64 v0)).setCell ⟨w.heap.size + 1, 1, none⟩ (.int .i64 v1)).setCell ⟨w.heap.size + 1, 2, none⟩ (.string v2)).setCell ⟨w.heap.size + 1, 3, none⟩ (.int .i64 v3)).setCell ⟨w.heap.size + 1, 4, none⟩ (.int .i64 v4)).setCell ⟨w.heap.size + 1, 5, none⟩ (.int .i64 v5)).setCell ⟨w.heap.size + 1, 6, none⟩ (.slice b6 l6 d6)).setCell ⟨w.heap.size + 1, 7, none⟩ (.slice b7 l7 d7)).setCell ⟨w.heap.size + 1, 8, none⟩ (.slice b8 l8 d8)) := by refine Chg.setCell ?_ _ _ (.inl (by simp)); refine Chg.setCell ?_ _ _ (.inl (by simp)); refine Chg.setCell ?_ _ _ (.inl (by simp)); refine Chg.setCell ?_ _ _ (.inl (by simp)); refine Chg.setCell ?_ _ _ (.inl (by simp)); refine Chg.setCell ?_ _ _ (.inl (by simp)); refine Chg.setCell ?_ _ _ (.inl (by simp)); refine Chg.setCell ?_ _ _ (.inl (by simp)); refine Chg.setCell ?_ _ _ (.inl (by simp)); refine Chg.setCell ?_ _ _ (.inl (by simp)); refine Chg.trans0 ?_ HC3.out; refine Chg.setCell ?_ _ _ (.inl (by simp)); exact Chg.refl _ _
 have K7 := byteL.sl_chg HS7.out k7 HD7.out
 have F7 := Fresh.chg HF7.out k7
 have k8 : Chg [w.heap.size, w.heap.size + 1, w.heap.size + 1 + 1] w3 ((((((((((w3.setCell ⟨w.heap.size + 1 + 1, 8, none⟩ (.slice b8 l8 d8)).setCell ⟨w.heap.size + 1, 0, none⟩ (.int .i64 v0)).setCell ⟨w.heap.size + 1, 1, none⟩ (.int .i64 v1)).setCell ⟨w.heap.size + 1, 2, none⟩ (.string v2)).setCell ⟨w.heap.size + 1, 3, none⟩ (.int .i64 v3)).setCell ⟨w.heap.size + 1, 4, none⟩ (.int .i64 v4)).setCell ⟨w.heap.size + 1, 5, none⟩ (.int .i64 v5)).setCell ⟨w.heap.size + 1, 6, none⟩ (.slice b6 l6 d6)).setCell ⟨w.heap.size + 1, 7, none⟩ (.slice b7 l7 d7)).setCell ⟨w.heap.size + 1, 8, none⟩ (.slice b8 l8 d8)) := by refine Chg.setCell ?_ _ _ (.inl (by simp)); refine Chg.setCell ?_ _ _ (.inl (by simp)); refine Chg.setCell ?_ _ _ (.inl (by simp)); refine Chg.setCell ?_ _ _ (.inl (by simp)); refine Chg.setCell ?_ _ _ (.inl (by simp)); refine Chg.setCell ?_ _ _ (.inl (by simp)); refine Chg.setCell ?_ _ _ (.inl (by simp)); refine Chg.setCell ?_ _ _ (.inl (by simp)); refine Chg.setCell ?_ _ _ (.inl (by simp)); refine Chg.setCell ?_ _ _ (.inl (by simp)); exact Chg.refl _ _
 have K8 := byteL.sl_chg HS8.out k8 HD8.out
 have F8 := Fresh.chg HF8.out k8
 have hfr := Fresh.mono (Fresh.append F6 (Fresh.append F7 F8 (Fresh.low HF7.out (by have s1 := HC1.out.size; have s2 := HC2.out.size; have s3 := HC3.out.size; simp at s1 s2 s3 ⊢ <;> omega)) (by have s1 := HC1.out.size; have s2 := HC2.out.size; have s3 := HC3.out.size; simp at s1 s2 s3 ⊢ <;> omega)) (Fresh.low HF6.out (by have s1 := HC1.out.size; have s2 := HC2.out.size; have s3 := HC3.out.size; simp at s1 s2 s3 ⊢ <;> omega)) (by have s1 := HC1.out.size; have s2 := HC2.out.size; have s3 := HC3.out.size; simp at s1 s2 s3 ⊢ <;> omega)) (show w.heap.size ≤ _ from (by have s1 := HC1.out.size; have s2 := HC2.out.size; have s3 := HC3.out.size; simp at s1 s2 s3 ⊢ <;> omega))
 refine bodyPost_ret (v := .agg #[.int .i64 v0, .int .i64 v1, .string v2, .int .i64 v3, .int .i64 v4, .int .i64 v5, .slice b6 l6 d6, .slice b7 l7 d7, .slice b8 l8 d8]) (by simp [results, Tryz.results266, go_sem, hqc]) rfl ⟨_, _, rfl, recL_iff.2 ⟨b6, l6, d6, g6, b7, l7, d7, g7, b8, l8, d8, g8, rfl, HO.out.1, HO.out.2.1, HO.out.2.2.1, HO.out.2.2.2.1, HO.out.2.2.2.2.1, HO.out.2.2.2.2.2, K6, K7, K8, rfl⟩, hfr, hch⟩
set_option maxRecDepth 100000 in
set_option maxHeartbeats 2000000 in
theorem szRec_any (x : Rec) (cx : Array Value) (fx : List Nat) (k : Int) (w : World) (hx : recL.rep w cx.toList x fx) (hk : 0 ≤ k) (hk2 : k ≤ 1048576) :
  Calls Tryz.prog 264 #[.agg cx, .int .i64 k] w (SzPost (totRec x) k w) := by
 obtain ⟨a6, l6, c6, f6, a7, l7, c7, f7, a8, l8, c8, f8, ex, o0, o1, o2, o3, o4, o5, h6, h7, h8, -⟩ := recL_iff.1 hx
 clear hx
 obtain ⟨v0, v1, v2, v3, v4, v5, v6, v7, v8⟩ := x
 simp only at ex o0 o1 o2 o3 o4 o5 h6 h7 h8
 obtain rfl := Array.toList_inj.1 (ex.trans (List.toList_toArray).symm)
 clear ex o0 o1 o3 o4 o5
 have H6 := hid h6; clear h6
 have H7 := hid h7; clear h7
 have H8 := hid h8; clear h8
 unfold maxLen at o2
 obtain ⟨t6, ht6⟩ : ∃ t, t = totIs v6 := ⟨_, rfl⟩
 have n6 : 0 ≤ t6 := by rw [ht6]; exact totIs_nonneg _
 have HT6 := hid ht6
 obtain ⟨t7, ht7⟩ : ∃ t, t = totBs v7 := ⟨_, rfl⟩
 have n7 : 0 ≤ t7 := by rw [ht7]; exact totBs_nonneg _
 have HT7 := hid ht7
 obtain ⟨t8, ht8⟩ : ∃ t, t = totBs v8 := ⟨_, rfl⟩
 have n8 : 0 ≤ t8 := by rw [ht8]; exact totBs_nonneg _
 have HT8 := hid ht8
 have HT := hid (show totRec ⟨v0, v1, v2, v3, v4, v5, v6, v7, v8⟩ = (v2.size : Int) + t6 + t7 + t8 by rw [ht6, ht7, ht8]; unfold totRec; rfl)
 clear ht6 ht7 ht8
 go_enter Tryz.func264, Tryz.ntmps264
 by_cases m2 : k - (v2.size : Int) < 0
 ·
  go_wp2_with fail
  go_ret
  exact ⟨ret_int (by rw [HT.out, if_pos (by omega)]), by refine Chg.alloc ?_ _; exact Chg.refl _ _⟩
 go_wp2_with fail
 refine (szInt64S_any a6 l6 c6 v6 f6 (k - (v2.size : Int)) _ (intL.sl_ext H6.out (by refine Chg.alloc ?_ _; exact Chg.refl _ _)) (by omega) (by omega)).mono ?_
 rintro e w1 ⟨rfl, hc⟩
 rw [← HT6.out]
 have hP := hc.keep0 (b := w.heap.size) (new_at (by simp) _)
 have cP := cellsOf hP; have lP := ltOf hP; have fP := freeOf hP; have HBP := hid hP; clear hP
 have HC1 := hid hc; clear hc
 by_cases m6 : k - (v2.size : Int) - t6 < 0
 ·rw [if_pos m6]
  go_wp2_with fail
  go_ret
  exact ⟨ret_int (by rw [HT.out, if_pos (by omega)]), by refine Chg.trans0 ?_ HC1.out; refine Chg.alloc ?_ _; exact Chg.refl _ _⟩
 rw [if_neg m6]
 go_wp2_with fail
 refine (szByteS_any a7 l7 c7 v7 f7 (k - (v2.size : Int) - t6) _ (byteL.sl_ext H7.out (by refine Chg.trans0 ?_ HC1.out; refine Chg.alloc ?_ _; exact Chg.refl _ _)) (by omega) (by omega)).mono ?_
 rintro e w2 ⟨rfl, hc⟩
 rw [← HT7.out]
 have hP := hc.keep0 HBP.out
 clear HBP cP lP fP
 have cP := cellsOf hP; have lP := ltOf hP; have fP := freeOf hP; have HBP := hid hP; clear hP
 have HC2 := hid hc; clear hc
 by_cases m7 : k - (v2.size : Int) - t6 - t7 < 0
 ·rw [if_pos m7]
  go_wp2_with fail
  go_ret
  exact ⟨ret_int (by rw [HT.out, if_pos (by omega)]), by refine Chg.trans0 ?_ HC2.out; refine Chg.trans0 ?_ HC1.out; refine Chg.alloc ?_ _; exact Chg.refl _ _⟩
 rw [if_neg m7]
 go_wp2_with fail
 refine (szByteS_any a8 l8 c8 v8 f8 (k - (v2.size : Int) - t6 - t7) _ (byteL.sl_ext H8.out (by refine Chg.trans0 ?_ HC2.out; refine Chg.trans0 ?_ HC1.out; refine Chg.alloc ?_ _; exact Chg.refl _ _)) (by omega) (by omega)).mono ?_
 rintro e w3 ⟨rfl, hc⟩
 rw [← HT8.out]
 have hP := hc.keep0 HBP.out
 clear HBP cP lP fP
 have cP := cellsOf hP; have lP := ltOf hP; have fP := freeOf hP; have HBP := hid hP; clear hP
 have HC3 := hid hc; clear hc
 by_cases m8 : k - (v2.size : Int) - t6 - t7 - t8 < 0
 ·rw [if_pos m8]
  go_wp2_with fail
  go_ret
  exact ⟨ret_int (by rw [HT.out, if_pos (by omega)]), by refine Chg.trans0 ?_ HC3.out; refine Chg.trans0 ?_ HC2.out; refine Chg.trans0 ?_ HC1.out; refine Chg.alloc ?_ _; exact Chg.refl _ _⟩
 rw [if_neg m8]
 go_wp2_with fail
 go_ret
 exact ⟨ret_int (by rw [HT.out, if_neg (by omega)] <;> omega), by refine Chg.trans0 ?_ HC3.out; refine Chg.trans0 ?_ HC2.out; refine Chg.trans0 ?_ HC1.out; refine Chg.alloc ?_ _; exact Chg.refl _ _⟩
set_option maxRecDepth 100000 in
set_option maxHeartbeats 2000000 in
theorem eqRec_any (x : Rec) (cx cy : Array Value) (fx fy : List Nat) (w : World) (hx : recL.rep w cx.toList x fx) (hy : recL.rep w cy.toList x fy) :
  Calls Tryz.prog 173 #[.agg cx, .agg cy] w fun e w' => e = .returned (.bool true) ∧ Chg [] w w' := by
 obtain ⟨a6, l6, c6, f6, a7, l7, c7, f7, a8, l8, c8, f8, ex, o0, o1, o2, o3, o4, o5, h6, h7, h8, -⟩ := recL_iff.1 hx
 obtain ⟨b6, m6, d6, g6, b7, m7, d7, g7, b8, m8, d8, g8, ey, q0, q1, q2, q3, q4, q5, j6, j7, j8, -⟩ := recL_iff.1 hy
 clear hx hy
 obtain ⟨v0, v1, v2, v3, v4, v5, v6, v7, v8⟩ := x
 simp only at ex ey h6 j6 h7 j7 h8 j8
 obtain rfl := Array.toList_inj.1 (ex.trans (List.toList_toArray).symm)
 obtain rfl := Array.toList_inj.1 (ey.trans (List.toList_toArray).symm)
 clear ex ey o0 o1 o2 o3 o4 o5 q0 q1 q2 q3 q4 q5
 obtain rfl : l6 = m6 := h6.1.trans j6.1.symm
 have H6 := hid h6; have J6 := hid j6; clear h6 j6
 obtain rfl : l7 = m7 := h7.1.trans j7.1.symm
 have H7 := hid h7; have J7 := hid j7; clear h7 j7
 obtain rfl : l8 = m8 := h8.1.trans j8.1.symm
 have H8 := hid h8; have J8 := hid j8; clear h8 j8
 have e0 : ((v0 : Int) != v0) = false := by simp
 have e1 : ((v1 : Int) != v1) = false := by simp
 have e3 : ((v3 : Int) != v3) = false := by simp
 have e4 : ((v4 : Int) != v4) = false := by simp
 have e5 : ((v5 : Int) != v5) = false := by simp
 go_enter Tryz.func173, Tryz.ntmps173
 go_wp2_with fail
 refine (eqI_any a6 b6 l6 c6 d6 v6 f6 g6 _ (intL.sl_ext H6.out (by refine Chg.alloc ?_ _; refine Chg.alloc ?_ _; exact Chg.refl _ _)) (intL.sl_ext J6.out (by refine Chg.alloc ?_ _; refine Chg.alloc ?_ _; exact Chg.refl _ _))).mono ?_
 rintro e w1 ⟨rfl, hc⟩
 have hP := hc.keep0 (b := w.heap.size) (keep_alloc (new_at (by simp) _) _)
 have hQ := hc.keep0 (b := w.heap.size + 1) (new_at (by simp) _)
 have cP := cellsOf hP; have lP := ltOf hP; have fP := freeOf hP; have HBP := hid hP; clear hP
 have cQ := cellsOf hQ; have lQ := ltOf hQ; have fQ := freeOf hQ; have HBQ := hid hQ; clear hQ
 have HC1 := hid hc; clear hc
 go_wp2_with fail
 refine (eqB_any a7 b7 l7 c7 d7 v7 f7 g7 _ (byteL.sl_ext H7.out (by refine Chg.trans0 ?_ HC1.out; refine Chg.alloc ?_ _; refine Chg.alloc ?_ _; exact Chg.refl _ _)) (byteL.sl_ext J7.out (by refine Chg.trans0 ?_ HC1.out; refine Chg.alloc ?_ _; refine Chg.alloc ?_ _; exact Chg.refl _ _))).mono ?_
 rintro e w2 ⟨rfl, hc⟩
 have hP := hc.keep0 HBP.out
 have hQ := hc.keep0 HBQ.out
 clear HBP cP lP fP HBQ cQ lQ fQ
 have cP := cellsOf hP; have lP := ltOf hP; have fP := freeOf hP; have HBP := hid hP; clear hP
 have cQ := cellsOf hQ; have lQ := ltOf hQ; have fQ := freeOf hQ; have HBQ := hid hQ; clear hQ
 have HC2 := hid hc; clear hc
 go_wp2_with fail
 refine (eqB_any a8 b8 l8 c8 d8 v8 f8 g8 _ (byteL.sl_ext H8.out (by refine Chg.trans0 ?_ HC2.out; refine Chg.trans0 ?_ HC1.out; refine Chg.alloc ?_ _; refine Chg.alloc ?_ _; exact Chg.refl _ _)) (byteL.sl_ext J8.out (by refine Chg.trans0 ?_ HC2.out; refine Chg.trans0 ?_ HC1.out; refine Chg.alloc ?_ _; refine Chg.alloc ?_ _; exact Chg.refl _ _))).mono ?_
 rintro e w3 ⟨rfl, hc⟩
 have hP := hc.keep0 HBP.out
 have hQ := hc.keep0 HBQ.out
 clear HBP cP lP fP HBQ cQ lQ fQ
 have cP := cellsOf hP; have lP := ltOf hP; have fP := freeOf hP; have HBP := hid hP; clear hP
 have cQ := cellsOf hQ; have lQ := ltOf hQ; have fQ := freeOf hQ; have HBQ := hid hQ; clear hQ
 have HC3 := hid hc; clear hc
 go_wp2_with fail
 go_ret
 exact ⟨rfl, by refine Chg.trans0 ?_ HC3.out; refine Chg.trans0 ?_ HC2.out; refine Chg.trans0 ?_ HC1.out; refine Chg.alloc ?_ _; refine Chg.alloc ?_ _; exact Chg.refl _ _⟩
end Go.Proofs.YtphmpimgbmedbaaGreat
