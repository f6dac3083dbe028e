/- Several texts in one. -/
import Derived.Test.YtphmpimgbmedbaaGreatVav
import Derived.Test.YtphmpimgbmedbaaGreatVar
import Derived.Test.YtphmpimgbmedbaaGreatVau
import Derived.Test.YtphmpimgbmedbaaGreatRows
import Derived.Test.YtphmpimgbmedbaaGreatVac
import Derived.Test.YtphmpimgbmedbaaGreatVaa
import Derived.Lib.SliceRun
set_option maxRecDepth 100000
set_option maxHeartbeats 8000000
namespace Go.Proofs.YtphmpimgbmedbaaGreat
open Go.RowKit
open Go.Lib (hid)
theorem q1c.perm {B : Nat} {w : World} {f g : List Nat} (h : q1c B w f) (p : f.Perm g) : q1c B w g := ⟨p.nodup_iff.1 h.1, fun y hy => h.2 y (p.mem_iff.2 hy)⟩
theorem q1c.swap2 {B : Nat} {w : World} {a b b' c : List Nat} (h : q1c B w (a ++ (b ++ c))) (nd : b'.Nodup) (hc : ∀ y ∈ b', y ∈ b ∨ (y ∉ a ++ (b ++ c) ∧ B ≤ y ∧ q3x w y)) : q1c B w (a ++ (b' ++ c)) := by
 have p : ∀ q : List Nat, (a ++ (q ++ c)).Perm (q ++ (a ++ c)) := fun q => by
  rw [← List.append_assoc, ← List.append_assoc]
  exact List.perm_append_comm.append_right c
 refine q1c.perm (q1c.swap1 (h.perm (p b)) nd (fun y hy => ?_)) (p b').symm
 rcases hc y hy with h1 | ⟨h1, h2⟩
 ·exact .inl h1
 ·exact .inr ⟨fun h3 => h1 ((p b).mem_iff.2 h3), h2⟩
theorem on_grown (x : Wld) (g : Int) {B m : Nat} {wk wq w' : World} {v' : Value} {h h' : Option Nat} {p10 p11 p12 : Option Addr} {m10 d10 m11 d11 m12 d12 : Nat} {g10 g11 g12 : List Nat}
  (ho : q0q x.sH.gS ∧ q0q x.sH.column ∧ q0q x.sH.data ∧ q0q x.sH.sR ∧ q0q x.sH.rows ∧ q0q x.sH.cap ∧ q0q x.sH.bT ∧ q0q x.sH.qU ∧ q0q x.sH.sG ∧ q0q x.wT ∧ q0q x.stop) (h10 : drvL.slice.sl wk p10 m10 d10 x.gS g10) (h12 : tapL.sl wk p12 m12 d12 x.tapes g12)
  (hf : q1c B wk (g10 ++ (g11 ++ (g12 ++ [])))) (hB : B ≤ wk.heap.size) (hh : ∀ k, h = some k → k ∈ g11) (hlt : ∀ y ∈ g10 ++ (g11 ++ (g12 ++ [])), y < m) (hm : wk.heap[m]? = some (.cells #[.int .i64 x.sH.gS, .int .i64 x.sH.column, .int .i64 x.sH.data, .int .i64 x.sH.sR, .int .i64 x.sH.rows, .int .i64 x.sH.cap, .int .i64 x.sH.bT, .int .i64 x.sH.qU, .int .i64 x.sH.sG, .slice p10 m10 d10, .slice p11 m11 d11, .slice p12 m12 d12, .int .i64 x.wT, .int .i64 x.stop, .bool x.down] 34 (0, 0)))
  (hq : Chg [] wk wq) (hw : Chg h.toList wq w') (hos : intL.os 2 w' v' (x.on ++ [g]) h' []) (hn : h' = h ∨ h' = some wq.heap.size) :
  ∃ a l c f, v' = .slice a l c ∧ wldL.rep (w'.setCell ⟨m, 10, none⟩ v') [.int .i64 x.sH.gS, .int .i64 x.sH.column, .int .i64 x.sH.data, .int .i64 x.sH.sR, .int .i64 x.sH.rows, .int .i64 x.sH.cap, .int .i64 x.sH.bT, .int .i64 x.sH.qU, .int .i64 x.sH.sG, .slice p10 m10 d10, .slice a l c, .slice p12 m12 d12, .int .i64 x.wT, .int .i64 x.stop, .bool x.down] { x with on := x.on ++ [g] } f ∧ q1c B (w'.setCell ⟨m, 10, none⟩ v') f ∧ Chg (m :: h.toList) wk (w'.setCell ⟨m, 10, none⟩ v') ∧
   (w'.setCell ⟨m, 10, none⟩ v').heap[m]? = some (.cells #[.int .i64 x.sH.gS, .int .i64 x.sH.column, .int .i64 x.sH.data, .int .i64 x.sH.sR, .int .i64 x.sH.rows, .int .i64 x.sH.cap, .int .i64 x.sH.bT, .int .i64 x.sH.qU, .int .i64 x.sH.sG, .slice p10 m10 d10, .slice a l c, .slice p12 m12 d12, .int .i64 x.wT, .int .i64 x.stop, .bool x.down] 34 (0, 0)) ∧ (∀ y ∈ f, y < m ∨ wk.heap.size ≤ y) ∧ (∀ k, h = some k → k < m ∧ B ≤ k) := by
 obtain ⟨a, c, rfl, hsl⟩ := intL.os_sl hos
 obtain ⟨o1, o2, o3, o4, o5, o6, o7, o8, o9, o13, o14⟩ := ho
 have nm := ltOf hm
 have hhm : ∀ k ∈ h.toList, k ∈ g11 := fun k hk => hh k (by simpa using hk)
 have nd := List.nodup_append.1 hf.1; have nd2 := List.nodup_append.1 nd.2.1
 have hmh : m ∉ h.toList := fun hk => by have := hlt m (by simp [hhm m hk]); omega
 have hnew : ∀ y ∈ h'.toList, y ∈ g11 ∨ wk.heap.size ≤ y := fun y hy => by
  rcases hn with rfl | rfl
  ·exact .inl (hhm y hy)
  ·simp only [Option.toList_some, List.mem_singleton] at hy; have := hq.size; exact .inr (by omega)
 have hmh' : m ∉ h'.toList := fun hk => by
  rcases hnew m hk with h1 | h1
  ·have := hlt m (by simp [h1]); omega
  ·omega
 have hcW : Chg (m :: h.toList) wk (w'.setCell ⟨m, 10, none⟩ (.slice a (x.on ++ [g]).length c)) := ((hq.mono (T := m :: h.toList) (by simp)).trans hw (fun y hy => .inl (by simp at hy ⊢; exact .inr hy))).setCell _ _ (.inl (by simp))
 have hcm : Chg [m] w' (w'.setCell ⟨m, 10, none⟩ (.slice a (x.on ++ [g]).length c)) := (Chg.refl _ _).setCell _ _ (.inl (by simp))
 have k10 := drvL.slice.sl_chg h10 hcW (fun y hy hm' => by
  rcases List.mem_cons.1 hm' with e | e
  ·subst e; have := hlt _ (List.mem_append.2 (.inl hy)); omega
  ·exact nd.2.2 y hy y (by simp [hhm y e]) rfl)
 have k12 := tapL.sl_chg h12 hcW (fun y hy hm' => by
  rcases List.mem_cons.1 hm' with e | e
  ·subst e; have := hlt y (by simp [hy]); omega
  ·exact nd2.2.2 y (hhm y e) y (by simp [hy]) rfl)
 have k11 := intL.sl_chg hsl hcm (fun y hy hm' => by rw [List.mem_singleton] at hm'; subst hm'; exact hmh' (by simpa using hy))
 have hrow : w'.heap[m]? = some (.cells #[.int .i64 x.sH.gS, .int .i64 x.sH.column, .int .i64 x.sH.data, .int .i64 x.sH.sR, .int .i64 x.sH.rows, .int .i64 x.sH.cap, .int .i64 x.sH.bT, .int .i64 x.sH.qU, .int .i64 x.sH.sG, .slice p10 m10 d10, .slice p11 m11 d11, .slice p12 m12 d12, .int .i64 x.wT, .int .i64 x.stop, .bool x.down] 34 (0, 0)) := hw.keepb (hq.keep0 hm) hmh
 have hl := intL.os_loose hos
 have fr : q1c B (w'.setCell ⟨m, 10, none⟩ (.slice a (x.on ++ [g]).length c)) (g10 ++ (h'.toList ++ (g12 ++ []))) := (hf.chg hcW).swap2 (by cases h' <;> simp) (fun y hy => by
  rcases hnew y hy with h1 | h1
  ·exact .inl h1
  ·exact .inr ⟨fun h2 => by have := hlt y h2; omega, Nat.le_trans hB h1, hcm.loose y (hl y (by simpa using hy))⟩)
 refine ⟨a, _, c, g10 ++ (h'.toList ++ (g12 ++ [])), rfl, q0x.2 ⟨p10, m10, d10, g10, a, _, c, h'.toList, p12, m12, d12, g12, rfl, o1, o2, o3, o4, o5, o6, o7, o8, o9, k10, by simpa using k11, k12, o13, o14, rfl⟩, fr, hcW, q0i (cur := #[.int .i64 x.sH.gS, .int .i64 x.sH.column, .int .i64 x.sH.data, .int .i64 x.sH.sR, .int .i64 x.sH.rows, .int .i64 x.sH.cap, .int .i64 x.sH.bT, .int .i64 x.sH.qU, .int .i64 x.sH.sG, .slice p10 m10 d10, .slice p11 m11 d11, .slice p12 m12 d12, .int .i64 x.wT, .int .i64 x.stop, .bool x.down]) hrow rfl, fun y hy => ?_, fun k hk => ⟨hlt k (by simp [hh k hk]), (hf.2 k (by simp [hh k hk])).1⟩⟩
 rcases List.mem_append.1 hy with h1 | h1
 ·exact .inl (hlt y (by simp [h1]))
 ·rcases List.mem_append.1 h1 with h2 | h2
  ·rcases hnew y h2 with h3 | h3
   ·exact .inl (hlt y (by simp [h3]))
   ·exact .inr h3
  ·exact .inl (hlt y (List.mem_append.2 (.inr (List.mem_append.2 (.inr h2)))))
theorem upSwl_parts {x : Wld} (h : x.up = 0) : x.fault = 0 ∧ x.down = false ∧ x.built ∧ x.nums ∧ x.sH.ok := by
 have hf : x.fault = 0 := by
  unfold Wld.up at h
  split at h
  ·assumption
  ·exact h
 have hd : x.down = false := by
  unfold Wld.up at h
  rw [if_pos hf] at h
  cases hd : x.down
  ·rfl
  ·rw [if_pos hd] at h; omega
 refine ⟨hf, hd, Classical.byContradiction (fun hn => ?_), Classical.byContradiction (fun hn => ?_), rows_ok hf⟩
 ·unfold Wld.fault at hf
  rw [q0g (P := x.built ∧ x.onOk ∧ x.tapes.length = 2) (fun g => hn g.1)] at hf
  split at hf <;> simp at hf
 ·unfold Wld.fault at hf
  rw [q0g (P := x.nums) hn] at hf
  simp only [Bool.false_eq_true, if_false] at hf
  split at hf
  ·split at hf
   ·split at hf
    ·omega
    ·contradiction
   ·omega
  ·omega
theorem up_cap {x : Wld} (h : x.up = 0) : (x.on.length : Int) ≤ x.sH.cap := by
 have hf := (upSwl_parts h).1
 refine Classical.byContradiction (fun hn => ?_)
 unfold Wld.fault at hf
 rw [q0g (P := x.built ∧ x.onOk ∧ x.tapes.length = 2) (fun g => hn g.2.1.2.1)] at hf
 split at hf <;> simp at hf
theorem onR_bad {x : Wld} {g : Int} (h : ¬ x.up = 0) : onR x g = ⟨x.up, zWld⟩ := if_pos h
theorem onR_out {x : Wld} {g : Int} (h : x.up = 0) (h2 : ¬ (0 ≤ g ∧ g ≤ x.sH.all - 1)) : onR x g = ⟨3, zWld⟩ := by unfold onR; rw [if_neg (fun g => g h), if_pos (q0g (P := x.isGroup g) h2)]
theorem onR_in {x : Wld} {g : Int} (h : x.up = 0) (h2 : 0 ≤ g ∧ g ≤ x.sH.all - 1) (h3 : g ∈ x.on) : onR x g = ⟨0, x⟩ := by unfold onR; rw [if_neg (fun g => g h), if_neg (by rw [q0h (P := x.isGroup g) h2]; simp), if_pos (q0h h3)]
theorem onR_full {x : Wld} {g : Int} (h : x.up = 0) (h2 : 0 ≤ g ∧ g ≤ x.sH.all - 1) (h3 : ¬ g ∈ x.on) (h4 : (x.on.length : Int) = x.sH.cap) : onR x g = ⟨7, zWld⟩ := by unfold onR; rw [if_neg (fun g => g h), if_neg (by rw [q0h (P := x.isGroup g) h2]; simp), if_neg (by rw [q0g h3]; simp), if_pos h4]
theorem onR_ok {x : Wld} {g : Int} (h : x.up = 0) (h2 : 0 ≤ g ∧ g ≤ x.sH.all - 1) (h3 : ¬ g ∈ x.on) (h4 : ¬ (x.on.length : Int) = x.sH.cap) : onR x g = ⟨0, { x with on := x.on ++ [g] }⟩ := by unfold onR; rw [if_neg (fun g => g h), if_neg (by rw [q0h (P := x.isGroup g) h2]; simp), if_neg (by rw [q0g h3]; simp), if_neg h4]
def NewOs (xs : List Int) (w : World) (e : Ending) (w' : World) : Prop :=
 ∃ a cap fp h, e = .returned (.slice a xs.length cap) ∧ intL.sl w' a xs.length cap xs fp ∧ q1c w.heap.size w' fp ∧ Chg [] w w' ∧ (intL.os 2 w' (.slice a xs.length cap) xs h [] ∧ ∀ g, h = some g → g ∈ fp)
def NewOn (x : Wld) (w : World) (e : Ending) (w' : World) : Prop :=
 ∃ (p10 : Option Addr) (m10 d10 : Nat) (g10 : List Nat) (p11 : Option Addr) (m11 d11 : Nat) (g11 : List Nat) (p12 : Option Addr) (m12 d12 : Nat) (g12 : List Nat) (h : Option Nat),
  e = .returned (.agg #[.int .i64 x.sH.gS, .int .i64 x.sH.column, .int .i64 x.sH.data, .int .i64 x.sH.sR, .int .i64 x.sH.rows, .int .i64 x.sH.cap, .int .i64 x.sH.bT, .int .i64 x.sH.qU, .int .i64 x.sH.sG, .slice p10 m10 d10, .slice p11 m11 d11, .slice p12 m12 d12, .int .i64 x.wT, .int .i64 x.stop, .bool x.down]) ∧
  (q0q x.sH.gS ∧ q0q x.sH.column ∧ q0q x.sH.data ∧ q0q x.sH.sR ∧ q0q x.sH.rows ∧ q0q x.sH.cap ∧ q0q x.sH.bT ∧ q0q x.sH.qU ∧ q0q x.sH.sG ∧ q0q x.wT ∧ q0q x.stop) ∧
  drvL.slice.sl w' p10 m10 d10 x.gS g10 ∧ intL.sl w' p11 m11 d11 x.on g11 ∧ tapL.sl w' p12 m12 d12 x.tapes g12 ∧ q1c w.heap.size w' (g10 ++ (g11 ++ (g12 ++ []))) ∧ Chg [] w w' ∧
  intL.os 2 w' (.slice p11 m11 d11) x.on h [] ∧ ∀ g, h = some g → g ∈ g11
theorem Grow.os {w wr : World} {v : Value} {xs : List Int} (h : Grow intL 2 w wr v xs) : NewOs xs w (.returned v) wr := by
 obtain ⟨hd, fps, h1, h2, h3⟩ := h
 have hfp : fps = [] := by
  rcases h1 with ⟨-, -, -, rfl⟩ | ⟨g, cap, cur, -, -, -, -, -, -, hall, -⟩
  ·rfl
  ·exact Lay.flat_all q4q hall
 subst hfp
 obtain ⟨a, cap, rfl, hs⟩ := intL.os_sl h1
 exact ⟨a, cap, _, hd, rfl, hs, h2, h3, h1, fun g hg => by subst hg; simp⟩
theorem cpyI_os (a : Option Addr) (la ca : Nat) (xs : List Int) (f : List Nat) (w : World) (ha : intL.sl w a la ca xs f) (hz : la ≤ 17592186044415) :
  Calls Tryz.prog 154 #[.slice a la ca] w (NewOs xs w) := by
 obtain ⟨K, _⟩ := z0i
 have HA := hid ha
 have HZ := hid hz
 have hn := fun w => Lib.run_eql_slice_nil (P := Tryz.prog) w 25 2 a la ca 0 0 Tryz.underlying25
 clear ha hz
 cases a with
 | none =>
  obtain rfl : xs = [] := by apply List.eq_nil_of_length_eq_zero; have := HA.out.1; have := HA.out.2.1; have := HA.out.2.2.2.1 rfl; omega
  go_enter Tryz.func154, Tryz.ntmps154
  go_wp2
  go_ret
  exact ⟨none, 0, [], none, rfl, q5d _ _, q1c.nil _ _, Chg.refl _ _, intL.os_nil _ _, by simp⟩
 | some ad =>
  have HL : Hid (([] : List Int).length + xs.length ≤ maxLen ∧ (([] : List Int).length + xs.length) * 8 ≤ 140737488355328) := by
   have := HA.out.1; have := HZ.out; have := Lay.sl_max _ HA.out
   refine ⟨?_, ?_⟩
   ·simp only [List.length_nil, maxLen]; omega
   ·simp only [List.length_nil, Nat.zero_add]; omega
  go_enter Tryz.func154, Tryz.ntmps154
  go_wp2_with (refine intL.wpList_growS q4q rfl _ _ 25 rfl Tryz.underlying25 K rfl (Grow.made (Chg.refl [] w)) (Chg.refl [] _) rfl (intL.sl_ext HA.out ((Chg.refl [] w).alloc _)) HL.out.1 HL.out.2 ?_; intro v' w' hg'; have hN := hid hg'; clear hg')
  go_ret
  exact Grow.os hN.out
theorem q7i (x : Wld) (cx : Array Value) (fx : List Nat) (w : World) (hx : wldL.rep w cx.toList x fx) (hz : q1u x ≤ 1048576) :
  Calls Tryz.prog 80 #[.agg cx] w (NewOn x w) := by
 obtain ⟨KD, _⟩ := q4y
 obtain ⟨KS, _⟩ := kindDS
 obtain ⟨KT, _⟩ := q7b
 obtain ⟨a10, l10, c10, f10, a11, l11, c11, f11, a12, l12, c12, f12, ex, o1, o2, o3, o4, o5, o6, o7, o8, o9, h10, h11, h12, o13, o14, -⟩ := q0x.1 hx
 obtain rfl := Array.toList_inj.1 (ex.trans (List.toList_toArray).symm)
 have q10 := q0s (q0s q0w) x.gS; have q11 := q2f x.on; have q12 := q0s q1e x.tapes
 unfold q1u at hz
 have z10 : totL (totL q2h) x.gS ≤ 1048576 := by omega
 have z12 : totL q4n x.tapes ≤ 1048576 := by omega
 have hl10 : l10 ≤ 1048576 := by have := q2e (q0s q0w) x.gS; rw [h10.1]; omega
 have hl11 : l11 ≤ 1048576 := by rw [h11.1]; unfold q3z at hz q11; omega
 have hl12 : l12 ≤ 1048576 := by have := q2e q1e x.tapes; rw [h12.1]; omega
 have L10 := hid h10.1; have L11 := hid h11.1; have L12 := hid h12.1
 have H10 := hid h10; have H11 := hid h11; have H12 := hid h12
 have HO := hid (And.intro o1 (And.intro o2 (And.intro o3 (And.intro o4 (And.intro o5 (And.intro o6 (And.intro o7 (And.intro o8 (And.intro o9 (And.intro o13 o14))))))))))
 have Z10 := hid (fun g hg => Int.le_trans (q1y (q0s q0w) hg) z10 : ∀ g ∈ x.gS, totL q2h g ≤ 1048576)
 have Z12 := hid (fun t ht => Int.le_trans (q1y q1e ht) z12 : ∀ t ∈ x.tapes, q4n t ≤ 1048576)
 clear hx ex hz q10 q11 q12 z10 z12 h10 h11 h12 o1 o2 o3 o4 o5 o6 o7 o8 o9 o13 o14
 have G0 := hid (show Chg [] w (((w.alloc (.cells #[.int .i64 x.sH.gS, .int .i64 x.sH.column, .int .i64 x.sH.data, .int .i64 x.sH.sR, .int .i64 x.sH.rows, .int .i64 x.sH.cap, .int .i64 x.sH.bT, .int .i64 x.sH.qU, .int .i64 x.sH.sG, .slice a10 l10 c10, .slice a11 l11 c11, .slice a12 l12 c12, .int .i64 x.wT, .int .i64 x.stop, .bool x.down] 34)).alloc (.cells #[.int .i64 0, .int .i64 0, .int .i64 0, .int .i64 0, .int .i64 0, .int .i64 0, .int .i64 0, .int .i64 0, .int .i64 0, .slice none 0 0, .slice none 0 0, .slice none 0 0, .int .i64 0, .int .i64 0, .bool false] 34)).alloc (.cells #[.int .i64 x.sH.gS, .int .i64 x.sH.column, .int .i64 x.sH.data, .int .i64 x.sH.sR, .int .i64 x.sH.rows, .int .i64 x.sH.cap, .int .i64 x.sH.bT, .int .i64 x.sH.qU, .int .i64 x.sH.sG, .slice a10 l10 c10, .slice a11 l11 c11, .slice a12 l12 c12, .int .i64 x.wT, .int .i64 x.stop, .bool x.down] 34)) from ((((Chg.refl [] w).alloc _).alloc _).alloc _))
 have B1 := hid (show (((w.alloc (.cells #[.int .i64 x.sH.gS, .int .i64 x.sH.column, .int .i64 x.sH.data, .int .i64 x.sH.sR, .int .i64 x.sH.rows, .int .i64 x.sH.cap, .int .i64 x.sH.bT, .int .i64 x.sH.qU, .int .i64 x.sH.sG, .slice a10 l10 c10, .slice a11 l11 c11, .slice a12 l12 c12, .int .i64 x.wT, .int .i64 x.stop, .bool x.down] 34)).alloc (.cells #[.int .i64 0, .int .i64 0, .int .i64 0, .int .i64 0, .int .i64 0, .int .i64 0, .int .i64 0, .int .i64 0, .int .i64 0, .slice none 0 0, .slice none 0 0, .slice none 0 0, .int .i64 0, .int .i64 0, .bool false] 34)).alloc (.cells #[.int .i64 x.sH.gS, .int .i64 x.sH.column, .int .i64 x.sH.data, .int .i64 x.sH.sR, .int .i64 x.sH.rows, .int .i64 x.sH.cap, .int .i64 x.sH.bT, .int .i64 x.sH.qU, .int .i64 x.sH.sG, .slice a10 l10 c10, .slice a11 l11 c11, .slice a12 l12 c12, .int .i64 x.wT, .int .i64 x.stop, .bool x.down] 34)).heap[w.heap.size]? = some (.cells #[.int .i64 x.sH.gS, .int .i64 x.sH.column, .int .i64 x.sH.data, .int .i64 x.sH.sR, .int .i64 x.sH.rows, .int .i64 x.sH.cap, .int .i64 x.sH.bT, .int .i64 x.sH.qU, .int .i64 x.sH.sG, .slice a10 l10 c10, .slice a11 l11 c11, .slice a12 l12 c12, .int .i64 x.wT, .int .i64 x.stop, .bool x.down] 34 (0, 0)) from q0b (q0b (q0j w _) _) _)
 have B2 := hid (show (((w.alloc (.cells #[.int .i64 x.sH.gS, .int .i64 x.sH.column, .int .i64 x.sH.data, .int .i64 x.sH.sR, .int .i64 x.sH.rows, .int .i64 x.sH.cap, .int .i64 x.sH.bT, .int .i64 x.sH.qU, .int .i64 x.sH.sG, .slice a10 l10 c10, .slice a11 l11 c11, .slice a12 l12 c12, .int .i64 x.wT, .int .i64 x.stop, .bool x.down] 34)).alloc (.cells #[.int .i64 0, .int .i64 0, .int .i64 0, .int .i64 0, .int .i64 0, .int .i64 0, .int .i64 0, .int .i64 0, .int .i64 0, .slice none 0 0, .slice none 0 0, .slice none 0 0, .int .i64 0, .int .i64 0, .bool false] 34)).alloc (.cells #[.int .i64 x.sH.gS, .int .i64 x.sH.column, .int .i64 x.sH.data, .int .i64 x.sH.sR, .int .i64 x.sH.rows, .int .i64 x.sH.cap, .int .i64 x.sH.bT, .int .i64 x.sH.qU, .int .i64 x.sH.sG, .slice a10 l10 c10, .slice a11 l11 c11, .slice a12 l12 c12, .int .i64 x.wT, .int .i64 x.stop, .bool x.down] 34)).heap[w.heap.size + 1]? = some (.cells #[.int .i64 0, .int .i64 0, .int .i64 0, .int .i64 0, .int .i64 0, .int .i64 0, .int .i64 0, .int .i64 0, .int .i64 0, .slice none 0 0, .slice none 0 0, .slice none 0 0, .int .i64 0, .int .i64 0, .bool false] 34 (0, 0)) from q0b (q0e (by simp) _) _)
 have B3 := hid (show (((w.alloc (.cells #[.int .i64 x.sH.gS, .int .i64 x.sH.column, .int .i64 x.sH.data, .int .i64 x.sH.sR, .int .i64 x.sH.rows, .int .i64 x.sH.cap, .int .i64 x.sH.bT, .int .i64 x.sH.qU, .int .i64 x.sH.sG, .slice a10 l10 c10, .slice a11 l11 c11, .slice a12 l12 c12, .int .i64 x.wT, .int .i64 x.stop, .bool x.down] 34)).alloc (.cells #[.int .i64 0, .int .i64 0, .int .i64 0, .int .i64 0, .int .i64 0, .int .i64 0, .int .i64 0, .int .i64 0, .int .i64 0, .slice none 0 0, .slice none 0 0, .slice none 0 0, .int .i64 0, .int .i64 0, .bool false] 34)).alloc (.cells #[.int .i64 x.sH.gS, .int .i64 x.sH.column, .int .i64 x.sH.data, .int .i64 x.sH.sR, .int .i64 x.sH.rows, .int .i64 x.sH.cap, .int .i64 x.sH.bT, .int .i64 x.sH.qU, .int .i64 x.sH.sG, .slice a10 l10 c10, .slice a11 l11 c11, .slice a12 l12 c12, .int .i64 x.wT, .int .i64 x.stop, .bool x.down] 34)).heap[w.heap.size + 2]? = some (.cells #[.int .i64 x.sH.gS, .int .i64 x.sH.column, .int .i64 x.sH.data, .int .i64 x.sH.sR, .int .i64 x.sH.rows, .int .i64 x.sH.cap, .int .i64 x.sH.bT, .int .i64 x.sH.qU, .int .i64 x.sH.sG, .slice a10 l10 c10, .slice a11 l11 c11, .slice a12 l12 c12, .int .i64 x.wT, .int .i64 x.stop, .bool x.down] 34 (0, 0)) from q0e (by simp) _)
 have S0 := hid (show w.heap.size + 3 ≤ (((w.alloc (.cells #[.int .i64 x.sH.gS, .int .i64 x.sH.column, .int .i64 x.sH.data, .int .i64 x.sH.sR, .int .i64 x.sH.rows, .int .i64 x.sH.cap, .int .i64 x.sH.bT, .int .i64 x.sH.qU, .int .i64 x.sH.sG, .slice a10 l10 c10, .slice a11 l11 c11, .slice a12 l12 c12, .int .i64 x.wT, .int .i64 x.stop, .bool x.down] 34)).alloc (.cells #[.int .i64 0, .int .i64 0, .int .i64 0, .int .i64 0, .int .i64 0, .int .i64 0, .int .i64 0, .int .i64 0, .int .i64 0, .slice none 0 0, .slice none 0 0, .slice none 0 0, .int .i64 0, .int .i64 0, .bool false] 34)).alloc (.cells #[.int .i64 x.sH.gS, .int .i64 x.sH.column, .int .i64 x.sH.data, .int .i64 x.sH.sR, .int .i64 x.sH.rows, .int .i64 x.sH.cap, .int .i64 x.sH.bT, .int .i64 x.sH.qU, .int .i64 x.sH.sG, .slice a10 l10 c10, .slice a11 l11 c11, .slice a12 l12 c12, .int .i64 x.wT, .int .i64 x.stop, .bool x.down] 34)).heap.size from ltOf B3.out)
 go_enter Tryz.func80, Tryz.ntmps80
 go_wp2_with fail
 refine (cpyI_os a11 l11 c11 x.on f11 _ (intL.sl_ext H11.out G0.out) (by omega)).mono ?_
 rintro e w1 ⟨p11, d11, g11, ho11, rfl, hs, hf, hc, hos⟩
 rw [← L11.out] at hs hos ⊢
 have HOS := hid hos; clear hos
 obtain ⟨e1, n1, A1⟩ := bk0 hc B1.out; obtain ⟨e2, n2, A2⟩ := bk0 hc B2.out; obtain ⟨e3, n3, A3⟩ := bk0 hc B3.out
 have fz := q0c A3.out
 have G1 := hid (G0.out.trans0 hc)
 have HON := hid (And.intro hs (hf.mono (C := w.heap.size + 3) S0.out))
 clear hs hf hc B1 B2 B3 G0 S0
 go_wp2_with fail
 go_loopw [21] (fun vi wr => ∃ (k : Nat) (v : Value) (Wr : World), Wr = wr ∧ k ≤ l10 ∧ vi = .int .i64 k ∧ q1v drvL.slice 83 w1.heap.size wr v (x.gS.take k) ∧ wr.heap[w.heap.size + 2]? = some (.cells #[.int .i64 x.sH.gS, .int .i64 x.sH.column, .int .i64 x.sH.data, .int .i64 x.sH.sR, .int .i64 x.sH.rows, .int .i64 x.sH.cap, .int .i64 x.sH.bT, .int .i64 x.sH.qU, .int .i64 x.sH.sG, v, .slice p11 l11 d11, .slice none 0 0, .int .i64 x.wT, .int .i64 x.stop, .bool x.down] 34 (0, 0)) ∧ Chg [w.heap.size + 2] w1 wr) (fun vi _ => l10 - (intOf vi).toNat)
 case atStart => exact ⟨0, .slice none 0 0, _, rfl, by omega, rfl, by rw [List.take_zero]; exact q1v.nil (by simp), q0i (cur := #[.int .i64 x.sH.gS, .int .i64 x.sH.column, .int .i64 x.sH.data, .int .i64 x.sH.sR, .int .i64 x.sH.rows, .int .i64 x.sH.cap, .int .i64 x.sH.bT, .int .i64 x.sH.qU, .int .i64 x.sH.sG, .slice none 0 0, .slice p11 l11 d11, .slice a12 l12 c12, .int .i64 x.wT, .int .i64 x.stop, .bool x.down]) (q0i (cur := #[.int .i64 x.sH.gS, .int .i64 x.sH.column, .int .i64 x.sH.data, .int .i64 x.sH.sR, .int .i64 x.sH.rows, .int .i64 x.sH.cap, .int .i64 x.sH.bT, .int .i64 x.sH.qU, .int .i64 x.sH.sG, .slice none 0 0, .slice a11 l11 c11, .slice a12 l12 c12, .int .i64 x.wT, .int .i64 x.stop, .bool x.down]) (q0i (cur := #[.int .i64 x.sH.gS, .int .i64 x.sH.column, .int .i64 x.sH.data, .int .i64 x.sH.sR, .int .i64 x.sH.rows, .int .i64 x.sH.cap, .int .i64 x.sH.bT, .int .i64 x.sH.qU, .int .i64 x.sH.sG, .slice a10 l10 c10, .slice a11 l11 c11, .slice a12 l12 c12, .int .i64 x.wT, .int .i64 x.stop, .bool x.down]) A3.out rfl) rfl) rfl, (((Chg.refl _ _).setCell _ _ (.inl (by simp))).setCell _ _ (.inl (by simp))).setCell _ _ (.inl (by simp))⟩
 case round =>
  obtain ⟨k, v, wr, rfl, hk, rfl, hg, hb3, hc⟩ := hrel
  have hcw : Chg [] w wr := G1.out.trans hc (by simp)
  have D1 := hid (hc.keepb A1.out (by simp)); have D2 := hid (hc.keepb A2.out (by simp)); have D3 := hid hb3
  by_cases hlt : k < l10
  ·obtain ⟨g, b, off, ag, lg, cg, fg, HX, rfl, hcx, HXS⟩ := q4u (drvL.slice.sl_ext H10.out hcw) hlt
   have HG := hid hg; have HC := hid hc; have HCW := hid hcw
   have HXI := hid HX.out.1
   have HXZ := hid (Z10.out g (List.mem_of_getElem? HX.out.1))
   have hlg : lg ≤ 1048576 := by have := q2e q0w g; have := HXZ.out; rw [HXS.out.1]; omega
   have LG := hid HXS.out.1
   clear hg hc hcw HX hb3
   go_wp2_with fail
   go_loopw [6, 28] (fun vo vi wi => ∃ (j : Nat) (Wi : World), Wi = wi ∧ j ≤ lg ∧ vi = .int .i64 j ∧ Grow drvL 82 wr wi vo (g.take j)) (fun _ vi _ => lg - (intOf vi).toNat)
   case atStart => exact ⟨0, _, rfl, by omega, rfl, by rw [List.take_zero]; exact Grow.made (Chg.refl _ _)⟩
   case round =>
    obtain ⟨j, wi, rfl, hj, rfl, hgi⟩ := hrel
    by_cases hlj : j < lg
    ·obtain ⟨y, b2, off2, a2, l2, c2, f2, HY, rfl, hy0, hy1, HYS⟩ := q3j (drvL.sl_ext HXS.out hgi.chg) hlj
     have HGI := hid hgi
     have HYI := hid HY.out.1
     have HYZ := hid (Int.le_trans (q1y q0w (List.mem_of_getElem? HY.out.1)) HXZ.out)
     clear hgi HY
     go_wp2_with fail
     refine (q6k y #[.bool y.wiped, .slice a2 l2 c2] f2 _ (drvL.ext HYS.out ((Chg.refl [] wi).alloc (.cells #[.bool y.wiped, .slice a2 l2 c2] 82))) HYZ.out).mono ?_
     rintro e w2 ⟨cs, f1, rfl, hr, hf, hc⟩
     obtain ⟨p2, m2, d2, _, ex, -⟩ := q2i.1 hr
     obtain rfl := Array.toList_inj.1 (ex.trans (List.toList_toArray).symm)
     have HN1 := hid (And.intro hr (And.intro (hf.mono (C := wi.heap.size) (by simp)) (((Chg.refl [] wi).alloc (.cells #[.bool y.wiped, .slice a2 l2 c2] 82)).trans0 hc)))
     have HLL : Hid ((g.take j).length + [y].length ≤ maxLen ∧ ((g.take j).length + [y].length) * 32 ≤ 140737488355328) := by
      refine ⟨?_, ?_⟩ <;> simp only [List.length_take, List.length_cons, List.length_nil, maxLen] <;> omega
     have HNX := hid (q1j HYI.out)
     clear ex hr hf hc hy0 hy1 HYS
     go_wp2_with (at_builtin; refine drvL.wpList_grow rfl _ _ 83 rfl Tryz.underlying83 KD rfl HGI.out (HN1.out.2.2.alloc (.cells #[.bool y.wiped, .slice p2 m2 d2] 82)) ⟨w2.heap.size, 0, none⟩ 1 1 [.bool y.wiped, .slice p2 m2 d2] (ys := [y]) (f := f1) rfl rfl (q1i w2 #[.bool y.wiped, .slice p2 m2 d2] 82) (drvL.all_single (drvL.ext HN1.out.1 ((Chg.refl [] w2).alloc _))) (HN1.out.2.1.chg ((Chg.refl [] w2).alloc (.cells #[.bool y.wiped, .slice p2 m2 d2] 82))) HLL.out.1 HLL.out.2 ?_; intro v' w' hg'; rw [← HNX.out] at hg'; have HG2 := hid hg'; clear hg')
     go_roundw
     case rel => exact ⟨j + 1, _, rfl, by omega, by go_num, HG2.out⟩
     case measure => simp [intOf]; omega
    ·obtain rfl : j = lg := by omega
     rw [List.take_of_length_le (by have := LG.out; omega)] at hgi
     obtain ⟨p9, c9, f9, h1, hs9, hf9, hc9⟩ := hgi.sl
     subst h1
     have HN9 := hid (And.intro hs9 (And.intro hf9 hc9))
     rw [← LG.out] at HN9 ⊢
     have E3 := hid (hc9.keep0 D3.out); have e3 := cellsOf E3.out; have n3' := ltOf E3.out
     have HLL : Hid ((x.gS.take k).length + [g].length ≤ maxLen ∧ ((x.gS.take k).length + [g].length) * 24 ≤ 140737488355328) := by
      refine ⟨?_, ?_⟩ <;> simp only [List.length_take, List.length_cons, List.length_nil, maxLen] <;> omega
     have HNX := hid (q1j HXI.out)
     clear hs9 hf9 hc9 hgi
     go_wp2_with (at_builtin; refine q3y.wpList rfl _ _ 31 rfl Tryz.underlying31 KS rfl (HG.out.b.ext (HN9.out.2.2.alloc (.cells #[.slice p9 j c9] 83))) ⟨wi.heap.size, 0, none⟩ 1 1 [.slice p9 j c9] (ys := [g]) (f := f9) rfl rfl (q1i wi #[.slice p9 j c9] 83) (drvL.slice.all_single ⟨p9, j, c9, rfl, drvL.sl_ext HN9.out.1 ((Chg.refl [] wi).alloc _)⟩) (HN9.out.2.1.chg ((Chg.refl [] wi).alloc (.cells #[.slice p9 j c9] 83))) HLL.out.1 HLL.out.2 ?_; intro v' w3 hg' hup; rw [← HNX.out] at hg'; obtain ⟨pv, lv, cv, rfl⟩ : ∃ a l c, v' = Value.slice a l c := (by obtain ⟨a, c, f, h, -⟩ := hg'.sl; exact ⟨a, _, c, h⟩); have HG2 := hid hg'; have HU := hid hup; have E4 := hid ((hup.low (w.heap.size + 2) n3).trans (q0b E3.out _)); have e4 := cellsOf E4.out; have n4 := ltOf E4.out; have z4 := q0c E4.out; clear hg' hup)
     have r1 := HG2.out.chg ((Chg.refl [w.heap.size + 2] w3).setCell ⟨w.heap.size + 2, 9, none⟩ (.slice pv lv cv) (.inl (by simp))) (by simp; omega)
     have r3 : (w3.setCell ⟨w.heap.size + 2, 9, none⟩ (.slice pv lv cv)).heap[w.heap.size + 2]? = some (.cells #[.int .i64 x.sH.gS, .int .i64 x.sH.column, .int .i64 x.sH.data, .int .i64 x.sH.sR, .int .i64 x.sH.rows, .int .i64 x.sH.cap, .int .i64 x.sH.bT, .int .i64 x.sH.qU, .int .i64 x.sH.sG, .slice pv lv cv, .slice p11 l11 d11, .slice none 0 0, .int .i64 x.wT, .int .i64 x.stop, .bool x.down] 34 (0, 0)) := q0i (cur := #[.int .i64 x.sH.gS, .int .i64 x.sH.column, .int .i64 x.sH.data, .int .i64 x.sH.sR, .int .i64 x.sH.rows, .int .i64 x.sH.cap, .int .i64 x.sH.bT, .int .i64 x.sH.qU, .int .i64 x.sH.sG, v, .slice p11 l11 d11, .slice none 0 0, .int .i64 x.wT, .int .i64 x.stop, .bool x.down]) E4.out rfl
     have r4 := (HU.out.chg (HC.out.trans0 (HN9.out.2.2.alloc (.cells #[.slice p9 j c9] 83))) (Nat.le_refl _)).setCell ⟨w.heap.size + 2, 9, none⟩ (.slice pv lv cv) (.inl (by simp))
     have HR := hid (And.intro r1 (And.intro r3 r4))
     clear r1 r3 r4
     go_roundw
     case rel => exact ⟨k + 1, .slice pv lv cv, _, rfl, by omega, by go_num, HR.out.1, HR.out.2.1, HR.out.2.2⟩
     case measure => simp [intOf]; omega
  ·obtain rfl : k = l10 := by omega
   rw [List.take_of_length_le (by have := L10.out; omega)] at hg
   obtain ⟨p10, d10, g10, rfl, hs, hf⟩ := hg.sl
   rw [← L10.out] at hs D3
   have HGR := hid (And.intro hs (And.intro hf hc))
   have e1 := cellsOf D1.out; have m1 := ltOf D1.out
   clear hg hs hf hb3 hc
   go_wp2_with fail
   go_loopw [48] (fun vi wt => ∃ (i : Nat) (v : Value) (Wt : World), Wt = wt ∧ i ≤ l12 ∧ vi = .int .i64 i ∧ q1v tapL 69 wr.heap.size wt v (x.tapes.take i) ∧ wt.heap[w.heap.size + 2]? = some (.cells #[.int .i64 x.sH.gS, .int .i64 x.sH.column, .int .i64 x.sH.data, .int .i64 x.sH.sR, .int .i64 x.sH.rows, .int .i64 x.sH.cap, .int .i64 x.sH.bT, .int .i64 x.sH.qU, .int .i64 x.sH.sG, .slice p10 k d10, .slice p11 l11 d11, v, .int .i64 x.wT, .int .i64 x.stop, .bool x.down] 34 (0, 0)) ∧ Chg [w.heap.size + 2] wr wt) (fun vi _ => l12 - (intOf vi).toNat)
   case atStart => exact ⟨0, .slice none 0 0, _, rfl, by omega, rfl, by rw [List.take_zero]; exact q1v.nil (Nat.le_refl _), D3.out, Chg.refl _ _⟩
   case round =>
    obtain ⟨i, v, wt, rfl, hi, rfl, hg, hb3, hc⟩ := hrel
    have hcw2 : Chg [] w wt := hcw.trans hc (by simp)
    have E1 := hid (hc.keepb D1.out (by simp)); have E2 := hid (hc.keepb D2.out (by simp)); have E3 := hid hb3
    have m3 : w.heap.size + 2 < wr.heap.size := ltOf D3.out
    by_cases hlt : i < l12
    ·obtain ⟨y, b, off, a2, l2, c2, f2, HY, rfl, hy0, hy1, HYS⟩ := q2o (tapL.sl_ext H12.out hcw2) hlt
     have HG := hid hg; have HC := hid hc
     have HYI := hid HY.out.1
     obtain ⟨_, _, _, _, exb, hby, -⟩ := q1r.1 HYS.out
     obtain ⟨q1, q2, q3⟩ := Value.slice.inj (List.cons.inj (List.cons.inj exb).2).1
     subst q1 q2 q3
     have HYZ := hid (Z12.out y (List.mem_of_getElem? HYI.out) : totL q3t y.recs ≤ 1048576)
     have HBY := hid hby
     have LB := hid hby.1.symm
     have e3 := cellsOf E3.out; have n3' := ltOf E3.out
     clear hg hb3 hc HY exb hby HYS hcw2
     go_wp2_with fail
     have F1 := hid (show (wt.alloc (.cells #[.bool y.wiped, .slice a2 l2 c2] 69)).drew.heap[w.heap.size + 2]? = some (.cells #[.int .i64 x.sH.gS, .int .i64 x.sH.column, .int .i64 x.sH.data, .int .i64 x.sH.sR, .int .i64 x.sH.rows, .int .i64 x.sH.cap, .int .i64 x.sH.bT, .int .i64 x.sH.qU, .int .i64 x.sH.sG, .slice p10 k d10, .slice p11 l11 d11, v, .int .i64 x.wT, .int .i64 x.stop, .bool x.down] 34 (0, 0)) from q0a (q0b E3.out _))
     have F2 := hid (show (wt.alloc (.cells #[.bool y.wiped, .slice a2 l2 c2] 69)).drew.heap[wt.heap.size]? = some (.cells #[.bool y.wiped, .slice a2 l2 c2] 69 (0, 0)) from q0a (q0j wt _))
     have G0 := hid (((Chg.refl [] wt).alloc (.cells #[.bool y.wiped, .slice a2 l2 c2] 69)).drew)
     have HCW2 := hid (hcw.trans HC.out (by simp) : Chg [] w wt)
     have HLL : Hid ((x.tapes.take i).length + [y].length ≤ maxLen ∧ ((x.tapes.take i).length + [y].length) * 32 ≤ 140737488355328) := by
      refine ⟨?_, ?_⟩ <;> simp only [List.length_take, List.length_cons, List.length_nil, maxLen] <;> omega
     have HNX := hid (q1j HYI.out)
     obtain ⟨CC, HCI, HCO⟩ := q0l (fun w' => Know (w.heap.size + 2) #[.int .i64 x.sH.gS, .int .i64 x.sH.column, .int .i64 x.sH.data, .int .i64 x.sH.sR, .int .i64 x.sH.rows, .int .i64 x.sH.cap, .int .i64 x.sH.bT, .int .i64 x.sH.qU, .int .i64 x.sH.sG, .slice p10 k d10, .slice p11 l11 d11, v, .int .i64 x.wT, .int .i64 x.stop, .bool x.down] w' ∧ Know wt.heap.size #[.bool y.wiped, .slice a2 l2 c2] w')
     refine q1m [9] CC (by kernel_rfl) (HCI.out _ ⟨(Know.of F1.out), (Know.of F2.out)⟩) (fun hcl hS => ?_)
     refine ggT 0 hcl hS ?_; clear hcl hS; intro hcl hS
     refine ggL 1 hcl hS HCO ?_; clear hcl hS; intro hcl hS
     refine ggT 2 hcl hS ?_; clear hcl hS; intro hcl hS
     refine ggL 3 hcl hS HCO ?_; clear hcl hS; intro hcl hS
     refine ggT 4 hcl hS ?_; clear hcl hS; intro hcl hS
     refine ggL 5 hcl hS HCO ?_; clear hcl hS; intro hcl hS
     refine ggC 6 hcl rfl (by kernel_rfl) (fun K hK => ?_)
     go_simp
     go_at_call 93
     refine (q7j a2 l2 c2 y.recs _ _ (recL.sl_ext HBY.out G0.out) HYZ.out).mono ?_; rintro e w4 ⟨p2, d2, g2, rfl, hs, hf, hc⟩
     rw [LB.out] at hs ⊢; have HN1 := hid (And.intro hs (And.intro (hf.mono (C := wt.heap.size) (by simp [World.drew])) (G0.out.trans0 hc))); obtain ⟨-, -, F3⟩ := bk0 hc F1.out; obtain ⟨-, -, F4⟩ := bk0 hc F2.out; clear hs hf hc
     go_wp2_with fail
     refine hK.out _ _ (fun _ => HCI.out _ ⟨(Know.of F3.out), (Know.of F4.out)⟩) ?_
     clear hK K hcl hS
     intro hcl hS
     try simp only [Act.put, pA, pB, pC]
     refine ggT 7 hcl hS ?_; clear hcl hS; intro hcl hS
     refine ggC 8 hcl rfl (by kernel_rfl) (fun K hK => ?_)
     go_simp
     refine hK.out _ _ (fun _ => HCI.out _ ⟨(Know.of (q0b F3.out _)), (Know.of (q0b F4.out _))⟩) ?_
     clear hK K hcl hS
     intro hcl hS
     try simp only [Act.put, pA, pB, pC]
     refine ggC 9 hcl rfl (by kernel_rfl) (fun K hK => ?_)
     refine q3y.step rfl _ _ 32 rfl Tryz.underlying32 KT rfl (HG.out.b.ext (HN1.out.2.2.alloc (.cells #[.bool y.wiped, .slice p2 l2 d2] 69))) ⟨w4.heap.size, 0, none⟩ 1 1 [.bool y.wiped, .slice p2 l2 d2] (ys := [y]) (f := g2) rfl rfl (q1i w4 #[.bool y.wiped, .slice p2 l2 d2] 69) (tapL.all_single (q1r.2 ⟨p2, l2, d2, g2, rfl, recL.sl_ext HN1.out.1 ((Chg.refl [] w4).alloc _), by simp⟩)) (HN1.out.2.1.chg ((Chg.refl [] w4).alloc _)) HLL.out.1 HLL.out.2 ?_
     intro v' w5 hg' hup
     rw [← HNX.out] at hg'
     obtain ⟨pv, lv, cv, rfl⟩ : ∃ a l c, v' = Value.slice a l c := by obtain ⟨a, c, f, h, -⟩ := hg'.sl; exact ⟨a, _, c, h⟩
     have HG2 := hid hg'; have HU := hid hup
     have F5 := hid ((hup.low (w.heap.size + 2) m3).trans (q0b F3.out _)); have k5 := cellsOf F5.out; have n5 := ltOf F5.out; have z5 := q0c F5.out; clear hg' hup
     refine hK.out _ _ (Till.done (m := 9) (by simp) (by rfl)) ?_
     clear hK K hcl hS
     intro hcl hS
     try simp only [Act.put, pA, pB, pC]
     refine ggT 10 hcl hS ?_; clear hcl hS; intro hcl hS
     refine ggC 11 hcl rfl (by kernel_rfl) (fun K hK => ?_)
     go_simp
     refine hK.out _ _ (Till.done (m := 9) (by simp) (by rfl)) ?_
     clear hK K hcl hS
     intro hcl hS
     try simp only [Act.put, pA, pB, pC]
     refine q3h (by kernel_rfl) ?_ _
     have r1 := HG2.out.chg ((Chg.refl [w.heap.size + 2] w5).setCell ⟨w.heap.size + 2, 11, none⟩ (.slice pv lv cv) (.inl (by simp))) (by simp; omega)
     have r3 : (w5.setCell ⟨w.heap.size + 2, 11, none⟩ (.slice pv lv cv)).heap[w.heap.size + 2]? = some (.cells #[.int .i64 x.sH.gS, .int .i64 x.sH.column, .int .i64 x.sH.data, .int .i64 x.sH.sR, .int .i64 x.sH.rows, .int .i64 x.sH.cap, .int .i64 x.sH.bT, .int .i64 x.sH.qU, .int .i64 x.sH.sG, .slice p10 k d10, .slice p11 l11 d11, .slice pv lv cv, .int .i64 x.wT, .int .i64 x.stop, .bool x.down] 34 (0, 0)) := q0i (cur := #[.int .i64 x.sH.gS, .int .i64 x.sH.column, .int .i64 x.sH.data, .int .i64 x.sH.sR, .int .i64 x.sH.rows, .int .i64 x.sH.cap, .int .i64 x.sH.bT, .int .i64 x.sH.qU, .int .i64 x.sH.sG, .slice p10 k d10, .slice p11 l11 d11, v, .int .i64 x.wT, .int .i64 x.stop, .bool x.down]) F5.out rfl
     have r4 := (HU.out.chg (HC.out.trans0 (HN1.out.2.2.alloc (.cells #[.bool y.wiped, .slice p2 l2 d2] 69))) (Nat.le_refl _)).setCell ⟨w.heap.size + 2, 11, none⟩ (.slice pv lv cv) (.inl (by simp))
     have HR := hid (And.intro r1 (And.intro r3 r4))
     clear r1 r3 r4
     go_wp2_with fail
     go_roundw
     case rel => exact ⟨i + 1, .slice pv lv cv, _, rfl, by omega, by go_num, HR.out.1, HR.out.2.1, HR.out.2.2⟩
     case measure => simp [intOf]; omega
    ·obtain rfl : i = l12 := by omega
     rw [List.take_of_length_le (by have := L12.out; omega)] at hg
     obtain ⟨p12, d12, g12, rfl, hs, hf⟩ := hg.sl
     rw [← L12.out] at hs E3
     have e3 := cellsOf E3.out; have m3' := ltOf E3.out; have e2 := cellsOf E2.out; have m2 := ltOf E2.out; have fz2 := q0c E2.out
     have hq := q5w (.int .i64 x.sH.gS) (.int .i64 x.sH.column) (.int .i64 x.sH.data) (.int .i64 x.sH.sR) (.int .i64 x.sH.rows) (.int .i64 x.sH.cap) (.int .i64 x.sH.bT) (.int .i64 x.sH.qU) (.int .i64 x.sH.sG) (.slice p10 k d10) (.slice p11 l11 d11) (.slice p12 i d12) (.int .i64 x.wT) (.int .i64 x.stop) (.bool x.down) E2.out
     have cS : Chg [w.heap.size + 1] wt (((((((((((((((wt.setCell ⟨w.heap.size + 1, 0, none⟩ (.int .i64 x.sH.gS)).setCell ⟨w.heap.size + 1, 1, none⟩ (.int .i64 x.sH.column)).setCell ⟨w.heap.size + 1, 2, none⟩ (.int .i64 x.sH.data)).setCell ⟨w.heap.size + 1, 3, none⟩ (.int .i64 x.sH.sR)).setCell ⟨w.heap.size + 1, 4, none⟩ (.int .i64 x.sH.rows)).setCell ⟨w.heap.size + 1, 5, none⟩ (.int .i64 x.sH.cap)).setCell ⟨w.heap.size + 1, 6, none⟩ (.int .i64 x.sH.bT)).setCell ⟨w.heap.size + 1, 7, none⟩ (.int .i64 x.sH.qU)).setCell ⟨w.heap.size + 1, 8, none⟩ (.int .i64 x.sH.sG)).setCell ⟨w.heap.size + 1, 9, none⟩ (.slice p10 k d10)).setCell ⟨w.heap.size + 1, 10, none⟩ (.slice p11 l11 d11)).setCell ⟨w.heap.size + 1, 11, none⟩ (.slice p12 i d12)).setCell ⟨w.heap.size + 1, 12, none⟩ (.int .i64 x.wT)).setCell ⟨w.heap.size + 1, 13, none⟩ (.int .i64 x.stop)).setCell ⟨w.heap.size + 1, 14, none⟩ (.bool x.down)) := chg15 (.int .i64 x.sH.gS) (.int .i64 x.sH.column) (.int .i64 x.sH.data) (.int .i64 x.sH.sR) (.int .i64 x.sH.rows) (.int .i64 x.sH.cap) (.int .i64 x.sH.bT) (.int .i64 x.sH.qU) (.int .i64 x.sH.sG) (.slice p10 k d10) (.slice p11 l11 d11) (.slice p12 i d12) (.int .i64 x.wT) (.int .i64 x.stop) (.bool x.down) (Chg.refl _ wt) (.inl (by simp))
     have s1 := HGR.out.2.2.size
     have n11 := fun T (hT : ∀ b ∈ T, b < w.heap.size + 3) => HON.out.2.nots T hT
     have n10 := fun T (hT : ∀ b ∈ T, b < w1.heap.size) => HGR.out.2.1.nots T hT
     have K10 := drvL.slice.sl_chg (drvL.slice.sl_chg HGR.out.1 hc (n10 _ (by simp; omega))) cS (n10 _ (by simp; omega))
     have K11 := intL.sl_chg (intL.sl_chg (intL.sl_chg HON.out.1 HGR.out.2.2 (n11 _ (by simp))) hc (n11 _ (by simp))) cS (n11 _ (by simp))
     have K12 := tapL.sl_chg hs cS (hf.nots _ (by simp; omega))
     have FF := q1c.swap (((((HON.out.2.chg HGR.out.2.2).chg hc).chg cS).append (((HGR.out.2.1.chg hc).chg cS).append (hf.chg cS) HGR.out.2.1.lts s1) HON.out.2.lts (by omega)).mono (C := w.heap.size) (by omega))
     have hch : Chg [] w _ := hcw2.trans cS (fun y hy => .inr (by rw [List.mem_singleton] at hy; omega))
     obtain ⟨o1, o2, o3, o4, o5, o6, o7, o8, o9, o13, o14⟩ := HO.out
     have OSB := HOS.out.2
     have HN := hid (show NewOn x w (.returned (.agg #[.int .i64 x.sH.gS, .int .i64 x.sH.column, .int .i64 x.sH.data, .int .i64 x.sH.sR, .int .i64 x.sH.rows, .int .i64 x.sH.cap, .int .i64 x.sH.bT, .int .i64 x.sH.qU, .int .i64 x.sH.sG, .slice p10 k d10, .slice p11 l11 d11, .slice p12 i d12, .int .i64 x.wT, .int .i64 x.stop, .bool x.down])) _ from ⟨p10, k, d10, g10, p11, l11, d11, g11, p12, i, d12, g12, ho11, rfl, ⟨o1, o2, o3, o4, o5, o6, o7, o8, o9, o13, o14⟩, K10, K11, K12, FF, hch, intL.os_chg (intL.os_chg (intL.os_chg HOS.out.1 HGR.out.2.2 (fun g hg => n11 _ (by simp) g (OSB g hg)) (by simp)) hc (fun g hg => n11 _ (by simp) g (OSB g hg)) (by simp)) cS (fun g hg => n11 _ (by simp) g (OSB g hg)) (by simp), OSB⟩)
     have HQC := hid (cellsOf hq)
     clear hs hf hb3 hc hg hq cS s1 n11 n10 K10 K11 K12 FF hch hcw hcw2 o1 o2 o3 o4 o5 o6 o7 o8 o9 o13 o14
     go_wp2_with fail
     have hqc := HQC.out
     refine bodyPost_ret (v := .agg #[.int .i64 x.sH.gS, .int .i64 x.sH.column, .int .i64 x.sH.data, .int .i64 x.sH.sR, .int .i64 x.sH.rows, .int .i64 x.sH.cap, .int .i64 x.sH.bT, .int .i64 x.sH.qU, .int .i64 x.sH.sG, .slice p10 k d10, .slice p11 l11 d11, .slice p12 i d12, .int .i64 x.wT, .int .i64 x.stop, .bool x.down]) (by simp [results, Tryz.results80, go_sem, hqc]) rfl HN.out
theorem Lay.sl_take {α : Type} (L : Lay α) {w : World} {a : Option Addr} {len cap : Nat} {xs : List α} {fp : List Nat} (h : L.sl w a len cap xs fp) {n : Nat} (hn : n ≤ len) :
  ∃ f', (∀ b ∈ f', b ∈ fp) ∧ L.sl w a n cap (xs.take n) f' := by
 obtain ⟨h1, h2, h3, h4, ⟨rfl, rfl⟩ | ⟨b, off, cur, E, fr, fps, rfl, hb, hall, rfl⟩⟩ := h
 ·simp only [List.length_nil] at h1
  obtain rfl : n = 0 := by omega
  exact ⟨[], by simp, rfl, by omega, h3, h4, .inl ⟨rfl, rfl⟩⟩
 ·have hsp : L.all w ((cur.toList.drop off).take (len * L.n)) (xs.take n ++ xs.drop n) fps := by rw [List.take_append_drop]; exact hall
  obtain ⟨f1, f2, rfl, k1, k2⟩ := L.all_split hsp
  have hl : (xs.take n).length = n := by rw [List.length_take]; omega
  rw [hl, List.take_take, Nat.min_eq_left (Nat.mul_le_mul_right _ hn)] at k1
  exact ⟨b :: f1, by intro x hx; rcases List.mem_cons.1 hx with rfl | hx <;> simp [*], hl.symm, by omega, h3, h4, .inr ⟨b, off, cur, E, fr, f1, rfl, hb, k1, rfl⟩⟩
theorem isl_fp {w : World} {b off n cap : Nat} {xs : List Int} {fp : List Nat} (h : intL.sl w (some ⟨b, off, none⟩) n cap xs fp) (hn : 0 < n) : fp = [b] := by
 obtain ⟨h1, h2, h3, h4, ⟨rfl, rfl⟩ | ⟨b', off', cur, E, fr, fps, ha, hb, hall, rfl⟩⟩ := h
 ·simp at h1; omega
 ·have hf : fps = [] := Lay.flat_all q4q hall
  simp only [Option.some.injEq, Addr.mk.injEq, and_true] at ha
  obtain ⟨rfl, rfl⟩ := ha
  rw [hf]
theorem isl_put {w : World} {b off n cap : Nat} {xs : List Int} (h : intL.sl w (some ⟨b, off, none⟩) n cap xs [b]) {i : Nat} (hi : i < n) {v : Int} (hv : q0q v) : intL.sl (w.setCell ⟨b, off + i, none⟩ (.int .i64 v)) (some ⟨b, off, none⟩) n cap (xs.set i v) [b] := by
 obtain ⟨fp', h1, h2, h3, h4, -⟩ := intL.sl_putN h (by simp) hi (vs := [.int .i64 v]) (x' := v) (f' := []) ⟨rfl, hv, rfl⟩ (by simp) (by simp)
 have e := isl_fp h1 (by omega)
 subst e
 have h5 : off + i * intL.n = off + i := by simp [intL]
 rw [h5] at h1
 exact h1
theorem isl_zeros {b off n cap : Nat} : ∀ (k i : Nat) (w : World) (ys : List Int), i + k ≤ n → intL.sl w (some ⟨b, off, none⟩) n cap ys [b] → ∃ zs, intL.sl (w.setCells b (off + i) (List.replicate k (.int .i64 0))) (some ⟨b, off, none⟩) n cap zs [b] ∧ zs.take i = ys.take i
 | 0, i, w, ys, _, h => ⟨ys, h, rfl⟩
 | k + 1, i, w, ys, hk, h => by
  obtain ⟨zs, h1, h2⟩ := isl_zeros k (i + 1) _ _ (by omega) (isl_put h (i := i) (by omega) i64z)
  refine ⟨zs, h1, ?_⟩
  have h3 := congrArg (List.take i) h2
  rw [List.take_take, List.take_take, Nat.min_eq_left (by omega), List.take_set_of_le (Nat.le_refl _)] at h3
  exact h3
theorem off1_any (B : Nat) (g x : Int) (w : World) (hB : w.heap[B]? = some (.cells #[.int .i64 g] 2 (0, 0))) :
  Calls Tryz.prog 225 #[.int .i64 x, .pointer (some ⟨B, 0, none⟩)] w fun e w' => e = .returned (.bool (x == g)) ∧ w = w' := by
 have cB := cellsOf hB; have lB := ltOf hB
 clear hB
 go_enter Tryz.func225, Tryz.ntmps225
 go_wp2
 go_ret
 exact ⟨rfl, rfl⟩
theorem idxOff_any (B : Nat) (g : Int) (a : Option Addr) (l c : Nat) (xs : List Int) (f : List Nat) (w : World) (hB : w.heap[B]? = some (.cells #[.int .i64 g] 2 (0, 0))) (h6 : intL.sl w a l c xs f) (hg : g ∈ xs) :
  Calls Tryz.prog 262 #[.slice a l c, .func (.func 225) #[] #[.pointer (some ⟨B, 0, none⟩)]] w fun e w' => ∃ k : Nat, e = .returned (.int .i64 k) ∧ k < l ∧ Hid (xs[k]? = some g ∧ ∀ y ∈ xs.take k, ¬ y = g) ∧ w = w' := by
 have hm := intL.sl_max h6
 have HL := hid h6.1
 have HA := hid h6
 have HG := hid hg
 have HC := hid (fun y => off1_any B g y w hB)
 clear h6 hB hg
 go_enter Tryz.func262, Tryz.ntmps262
 go_wp2
 go_loop [5, 8] (fun _ i => ∃ k : Nat, k ≤ l ∧ i = .int .i64 k ∧ Hid (∀ y ∈ xs.take k, ¬ y = g)) (fun _ i => l - (intOf i).toNat)
 case atStart => exact ⟨0, by omega, rfl, by intro y hy; simp at hy⟩
 case round =>
  obtain ⟨k, hk, rfl, HK⟩ := hrel
  by_cases hlt : k < l
  ·obtain ⟨y, b, off, HX, rfl, hcx, hok⟩ := q2p HA.out hlt
   have HCy := hid (HC.out y)
   by_cases h : y = g
   ·rw [show (y == g) = true by simp [h]] at HCy
    have HR := hid (show xs[k]? = some g ∧ ∀ y ∈ xs.take k, ¬ y = g from ⟨by rw [HX.out.1, h], HK.out⟩)
    clear h
    go_wp2_with (go_at_call 225; refine HCy.out.mono ?_; rintro e w' ⟨rfl, rfl⟩)
    go_ret
    exact ⟨k, rfl, hlt, HR.out, rfl⟩
   ·rw [show (y == g) = false by simp [h]] at HCy
    have HN := hid (show ∀ y ∈ xs.take (k + 1), ¬ y = g by
     intro z hz
     rw [q1j HX.out.1] at hz
     rcases List.mem_append.1 hz with h1 | h1
     ·exact HK.out z h1
     ·simp at h1; subst h1; exact h)
    clear h
    go_wp2_with (go_at_call 225; refine HCy.out.mono ?_; rintro e w' ⟨rfl, rfl⟩)
    go_round
    case rel => exact ⟨k + 1, by omega, by go_num, HN⟩
    case measure => simp [intOf]; omega
  ·exact absurd rfl (HK.out g (by rw [List.take_of_length_le (by have := HL.out; omega)]; exact HG.out))
theorem filter_none {g : Int} {xs : List Int} (h : ∀ y ∈ xs, ¬ y = g) : xs.filter (fun y => y != g) = xs := List.filter_eq_self.2 (fun y hy => by simpa using h y hy)
theorem delOff_any (B : Nat) (g : Int) (b off n cap : Nat) (xs : List Int) (w : World) (hB : w.heap[B]? = some (.cells #[.int .i64 g] 2 (0, 0))) (h6 : intL.sl w (some ⟨b, off, none⟩) n cap xs [b]) (hlo : q3x w b) (hbB : b ≠ B) (hg : g ∈ xs) :
  Calls Tryz.prog 224 #[.slice (some ⟨b, off, none⟩) n cap, .func (.func 225) #[] #[.pointer (some ⟨B, 0, none⟩)]] w fun e w' => ∃ i, e = .returned (.slice (some ⟨b, off, none⟩) i cap) ∧ intL.sl w' (some ⟨b, off, none⟩) i cap (xs.filter (fun y => y != g)) [b] ∧ Chg [b] w w' := by
 have hm := intL.sl_max h6
 have hcl := h6.2.1
 have HL := hid h6.1
 have HA := hid h6
 have HB := hid hB; have HLO := hid hlo
 have HI := hid (idxOff_any B g _ _ _ _ _ w hB h6 hg)
 clear h6 hB hlo hg
 go_enter Tryz.func224, Tryz.ntmps224
 go_wp2_with fail
 refine HI.out.mono ?_
 rintro e w' ⟨k0, rfl, hk0, HK0, rfl⟩
 have hne : ((k0 : Int) == -1) = false := by simp
 go_wp2_with fail
 go_loopw [5, 6, 7] (fun vi vj _ wr => ∃ (i j : Nat) (ys : List Int) (Wr : World), Wr = wr ∧ vi = .int .i64 i ∧ vj = .int .i64 j ∧ i < j ∧ j ≤ n ∧ intL.sl wr (some ⟨b, off, none⟩) n cap ys [b] ∧ Hid (ys.take i = (xs.take j).filter (fun y => y != g)) ∧ Hid (ys.drop j = xs.drop j) ∧ Chg [b] w wr) (fun _ vj _ _ => n - (intOf vj).toNat)
 case atStart =>
  refine ⟨k0, k0 + 1, xs, _, rfl, rfl, by go_num, by omega, by omega, HA.out, ?_, rfl, Chg.refl _ _⟩
  show xs.take k0 = (xs.take (k0 + 1)).filter (fun y => y != g)
  rw [q1j HK0.out.1, List.filter_append, filter_none HK0.out.2]
  simp
 case round =>
  obtain ⟨i, j, ys, wr, rfl, rfl, rfl, hij, hj, hsl, HT, HD, hch⟩ := hrel
  have HS := hid hsl; have HCH := hid hch
  have cB := cellsOf (hch.keepb HB.out (by simpa using fun h => hbB h.symm))
  have hfr := (hch.loose b HLO.out).free
  have hbl := (hch.loose b HLO.out).lt
  have HBw := hid (hch.keepb HB.out (by simpa using fun h => hbB h.symm))
  clear hsl hch
  by_cases hlt : j < n
  ·obtain ⟨y, b', off', HX, e, hcx, hok⟩ := q2p HS.out hlt
   obtain ⟨rfl, rfl⟩ : b = b' ∧ off = off' := by simpa using e
   obtain ⟨y2, b2, off2, -, e2, hcy, -⟩ := q2p HS.out (show i < n by omega)
   obtain ⟨rfl, rfl⟩ : b = b2 ∧ off = off2 := by simpa using e2
   have hxj : xs[j]? = some y := by
    have h1 := congrArg (fun l => l[0]?) HD.out
    simp only [List.getElem?_drop, Nat.add_zero] at h1
    rw [← h1]; exact HX.out.1
   have HXJ := hid hxj
   have HCy := hid (off1_any B g y wr HBw.out)
   clear hxj e e2
   by_cases h : y = g
   ·rw [show (y == g) = true by simp [h]] at HCy
    have HN := hid (show ys.take i = (xs.take (j + 1)).filter (fun y => y != g) by rw [q1j HXJ.out, List.filter_append, HT.out]; simp [h])
    have HN2 := hid (show ys.drop (j + 1) = xs.drop (j + 1) by have h1 := congrArg (List.drop 1) HD.out; rw [List.drop_drop, List.drop_drop] at h1; exact h1)
    clear h
    go_wp2_with (go_at_call 225; refine HCy.out.mono ?_; rintro e w' ⟨rfl, rfl⟩)
    go_roundw
    case rel => exact ⟨i, j + 1, ys, _, rfl, rfl, by go_num, by omega, by omega, HS.out, HN, HN2, HCH.out⟩
    case measure => simp [intOf]; omega
   ·rw [show (y == g) = false by simp [h]] at HCy
    have hyl : i < ys.length := by have := HS.out.1; omega
    have HN := hid (show (ys.set i y).take (i + 1) = (xs.take (j + 1)).filter (fun y => y != g) by
     rw [q1j HXJ.out, List.filter_append, ← HT.out, q1j (show (ys.set i y)[i]? = some y by rw [List.getElem?_set_self hyl]), List.take_set_of_le (Nat.le_refl _)]
     simp [h])
    have HN2 := hid (show (ys.set i y).drop (j + 1) = xs.drop (j + 1) by
     rw [List.drop_set_of_lt (by omega)]
     have h1 := congrArg (List.drop 1) HD.out; rw [List.drop_drop, List.drop_drop] at h1; exact h1)
    clear h
    go_wp2_with (go_at_call 225; refine HCy.out.mono ?_; rintro e w' ⟨rfl, rfl⟩)
    go_roundw
    case rel => exact ⟨i + 1, j + 1, ys.set i y, _, rfl, by go_num, by go_num, by omega, by omega, isl_put HS.out (by omega) hok.out, HN, HN2, HCH.out.setCell _ _ (.inl (by simp))⟩
    case measure => simp [intOf]; omega
  ·obtain rfl : j = n := by omega
   have hltz : ¬ (j : Int) < (j : Int) := by omega
   have hcell : ∀ t, t < j - i → ∃ v, wr.cell? ⟨b, off + i + t, none⟩ = some v := fun t ht => by
    obtain ⟨y, b', off', HX, e, hcx, hok⟩ := q2p HS.out (show i + t < j by omega)
    obtain ⟨rfl, rfl⟩ : b = b' ∧ off = off' := by simpa using e
    exact ⟨_, by rw [Nat.add_assoc]; exact hcx⟩
   have hcl2 : ∀ ty, (Builtin.clear_ #[25] ty #[.slice (some ⟨b, off + i, none⟩) (j - i) (cap - i)]).run Tryz.prog wr = .ok (.tuple #[]) (wr.setCells b (off + i) (List.replicate (j - i) (.int .i64 0))) :=
    fun ty => Lib.run_clear_slice wr _ _ ty _ Tryz.underlying25 Tryz.zeroValue2 rfl rfl b (off + i) _ _ (by omega) (fun t ht => by obtain ⟨v, hv⟩ := hcell t ht; rw [hv]; rfl) (fun t _ => hfr _)
   obtain ⟨zs, hz, hzt⟩ := isl_zeros (j - i) i wr ys (by omega) HS.out
   obtain ⟨f', hf', hz2⟩ := intL.sl_take hz (n := i) (by omega)
   rw [hzt, HT.out, List.take_of_length_le (by have := HL.out; omega)] at hz2
   have HZ := hid hz2; have HF' := hid hf'; have HZ0 := hid hz
   clear hcell hz hzt hz2 hf'
   go_wp2_with fail
   go_ret
   refine ⟨i, rfl, ?_, HCH.out.setCells (.inl (by simp)) _ _⟩
   have h2 := HZ.out
   obtain ⟨q1, q2, q3, q4, -⟩ := h2
   obtain ⟨-, -, -, -, ⟨-, e⟩ | ⟨b', off', cur, E, fr, fps, ha, hb, hall, e⟩⟩ := HZ0.out
   ·simp at e
   ·simp only [Option.some.injEq, Addr.mk.injEq, and_true] at ha
    obtain ⟨rfl, rfl⟩ := ha
    refine ⟨q1, q2, q3, q4, .inr ⟨b, off, cur, E, fr, [], rfl, hb, ?_, rfl⟩⟩
    obtain ⟨-, -, -, -, ⟨e1, -⟩ | ⟨b2, off2, cur2, E2, fr2, fps2, ha2, hb2, hall2, -⟩⟩ := HZ.out
    ·have hi0 : i = 0 := by rw [q1, e1]; rfl
     rw [e1, hi0]; simp [Lay.all]
    ·simp only [Option.some.injEq, Addr.mk.injEq, and_true] at ha2
     obtain ⟨rfl, rfl⟩ := ha2
     rw [hb] at hb2
     obtain ⟨rfl, rfl, rfl⟩ : cur = cur2 ∧ E = E2 ∧ fr = fr2 := by simpa using hb2
     have hff : fps2 = [] := Lay.flat_all q4q hall2
     rw [hff] at hall2; exact hall2
theorem turnOff_any (m : Nat) {u0 u1 u2 u3 u4 u5 u6 u7 u8 u9 u11 u12 u13 u14 : Value} (b off la ca : Nat) (xs : List Int) (g : Int) (w : World) (h : w.heap[m]? = some (.cells #[u0, u1, u2, u3, u4, u5, u6, u7, u8, u9, .slice (some ⟨b, off, none⟩) la ca, u11, u12, u13, u14] 34 (0, 0))) (ha : intL.sl w (some ⟨b, off, none⟩) la ca xs [b]) (hlo : q3x w b) (hbm : b ≠ m) (hg : g ∈ xs) :
  Calls Tryz.prog 149 #[.pointer (some ⟨m, 0, none⟩), .int .i64 g] w fun e w' => e = .returned (.tuple #[]) ∧ ∃ wz i, intL.sl wz (some ⟨b, off, none⟩) i ca (xs.filter (fun y => y != g)) [b] ∧ Chg [b] w wz ∧ w' = wz.setCell ⟨m, 10, none⟩ (.slice (some ⟨b, off, none⟩) i ca) := by
 have cm := cellsOf h; have nm := ltOf h; have fm := q0c h
 have hB := q0j w (.cells #[.int .i64 g] 2)
 have HM := hid (q0b h (.cells #[.int .i64 g] 2))
 have hcA : Chg [] w (w.alloc (.cells #[.int .i64 g] 2)) := (Chg.refl [] w).alloc _
 have HD := hid (delOff_any w.heap.size g b off la ca xs _ hB (intL.sl_ext ha hcA) (hcA.loose b hlo) (by have := hlo.lt; omega) hg)
 have HC := hid hcA
 clear h ha hB hcA
 go_enter Tryz.func149, Tryz.ntmps149
 go_wp2_with fail
 refine HD.out.mono ?_
 rintro e wz ⟨i, rfl, hs, hc⟩
 have hmz := hc.keepb HM.out (by simpa using fun e => hbm e.symm)
 clear cm nm fm
 have cm := cellsOf hmz; have nm := ltOf hmz; have fm := q0c hmz
 have HS := hid hs; have HCz := hid hc
 clear hs hc hmz
 go_wp2_with fail
 refine bodyPost_end (v := .tuple #[]) (by simp [results, Tryz.results149, go_sem]) rfl ?_
 exact ⟨rfl, wz, i, HS.out, (HC.out.mono (T := [b]) (by simp)).trans HCz.out (fun y hy => .inl hy), rfl⟩
theorem on_swap (x : Wld) (ys : List Int) {B m l c : Nat} {a : Option Addr} {S f' : List Nat} {wk w' : World} {p10 p11 p12 : Option Addr} {m10 d10 m11 d11 m12 d12 : Nat} {g10 g11 g12 : List Nat}
  (ho : q0q x.sH.gS ∧ q0q x.sH.column ∧ q0q x.sH.data ∧ q0q x.sH.sR ∧ q0q x.sH.rows ∧ q0q x.sH.cap ∧ q0q x.sH.bT ∧ q0q x.sH.qU ∧ q0q x.sH.sG ∧ q0q x.wT ∧ q0q x.stop) (h10 : drvL.slice.sl wk p10 m10 d10 x.gS g10) (h12 : tapL.sl wk p12 m12 d12 x.tapes g12)
  (hf : q1c B wk (g10 ++ (g11 ++ (g12 ++ [])))) (hB : B ≤ wk.heap.size) (hlt : ∀ y ∈ g10 ++ (g11 ++ (g12 ++ [])), y < m) (hm : wk.heap[m]? = some (.cells #[.int .i64 x.sH.gS, .int .i64 x.sH.column, .int .i64 x.sH.data, .int .i64 x.sH.sR, .int .i64 x.sH.rows, .int .i64 x.sH.cap, .int .i64 x.sH.bT, .int .i64 x.sH.qU, .int .i64 x.sH.sG, .slice p10 m10 d10, .slice p11 m11 d11, .slice p12 m12 d12, .int .i64 x.wT, .int .i64 x.stop, .bool x.down] 34 (0, 0)))
  (hw : Chg S wk w') (hS : ∀ y ∈ S, y ∈ g11) (hs : intL.sl w' a l c ys f') (hnd : f'.Nodup) (hn : ∀ y ∈ f', y ∈ g11 ∨ (wk.heap.size ≤ y ∧ q3x w' y)) :
  wldL.rep (w'.setCell ⟨m, 10, none⟩ (.slice a l c)) [.int .i64 x.sH.gS, .int .i64 x.sH.column, .int .i64 x.sH.data, .int .i64 x.sH.sR, .int .i64 x.sH.rows, .int .i64 x.sH.cap, .int .i64 x.sH.bT, .int .i64 x.sH.qU, .int .i64 x.sH.sG, .slice p10 m10 d10, .slice a l c, .slice p12 m12 d12, .int .i64 x.wT, .int .i64 x.stop, .bool x.down] { x with on := ys } (g10 ++ (f' ++ (g12 ++ []))) ∧ q1c B (w'.setCell ⟨m, 10, none⟩ (.slice a l c)) (g10 ++ (f' ++ (g12 ++ []))) ∧ Chg (m :: S) wk (w'.setCell ⟨m, 10, none⟩ (.slice a l c)) ∧
   (w'.setCell ⟨m, 10, none⟩ (.slice a l c)).heap[m]? = some (.cells #[.int .i64 x.sH.gS, .int .i64 x.sH.column, .int .i64 x.sH.data, .int .i64 x.sH.sR, .int .i64 x.sH.rows, .int .i64 x.sH.cap, .int .i64 x.sH.bT, .int .i64 x.sH.qU, .int .i64 x.sH.sG, .slice p10 m10 d10, .slice a l c, .slice p12 m12 d12, .int .i64 x.wT, .int .i64 x.stop, .bool x.down] 34 (0, 0)) ∧ ∀ y ∈ S, y < m := by
 obtain ⟨o1, o2, o3, o4, o5, o6, o7, o8, o9, o13, o14⟩ := ho
 have nm := ltOf hm
 have nd := List.nodup_append.1 hf.1; have nd2 := List.nodup_append.1 nd.2.1
 have hSm : ∀ y ∈ S, y < m := fun y hy => hlt y (by simp [hS y hy])
 have hmS : m ∉ S := fun hk => Nat.lt_irrefl _ (hSm m hk)
 have hmf : m ∉ f' := fun hk => by
  rcases hn m hk with h1 | h1
  ·have := hlt m (by simp [h1]); omega
  ·omega
 have hcW : Chg (m :: S) wk (w'.setCell ⟨m, 10, none⟩ (.slice a l c)) := (hw.mono (T := m :: S) (fun y hy => .inl (by simp [hy]))).setCell _ _ (.inl (by simp))
 have hcm : Chg [m] w' (w'.setCell ⟨m, 10, none⟩ (.slice a l c)) := (Chg.refl _ _).setCell _ _ (.inl (by simp))
 have k10 := drvL.slice.sl_chg h10 hcW (fun y hy hm' => by
  rcases List.mem_cons.1 hm' with e | e
  ·subst e; have := hlt _ (List.mem_append.2 (.inl hy)); omega
  ·exact nd.2.2 y hy y (by simp [hS y e]) rfl)
 have k12 := tapL.sl_chg h12 hcW (fun y hy hm' => by
  rcases List.mem_cons.1 hm' with e | e
  ·subst e; have := hlt y (by simp [hy]); omega
  ·exact nd2.2.2 y (hS y e) y (by simp [hy]) rfl)
 have k11 := intL.sl_chg hs hcm (fun y hy hm' => by rw [List.mem_singleton] at hm'; subst hm'; exact hmf hy)
 have hrow : w'.heap[m]? = some (.cells #[.int .i64 x.sH.gS, .int .i64 x.sH.column, .int .i64 x.sH.data, .int .i64 x.sH.sR, .int .i64 x.sH.rows, .int .i64 x.sH.cap, .int .i64 x.sH.bT, .int .i64 x.sH.qU, .int .i64 x.sH.sG, .slice p10 m10 d10, .slice p11 m11 d11, .slice p12 m12 d12, .int .i64 x.wT, .int .i64 x.stop, .bool x.down] 34 (0, 0)) := hw.keepb hm hmS
 have fr : q1c B (w'.setCell ⟨m, 10, none⟩ (.slice a l c)) (g10 ++ (f' ++ (g12 ++ []))) := (hf.chg hcW).swap2 hnd (fun y hy => by
  rcases hn y hy with h1 | h1
  ·exact .inl h1
  ·exact .inr ⟨fun h2 => by have := hlt y h2; omega, Nat.le_trans hB h1.1, hcm.loose y h1.2⟩)
 exact ⟨q0x.2 ⟨p10, m10, d10, g10, a, l, c, f', p12, m12, d12, g12, rfl, o1, o2, o3, o4, o5, o6, o7, o8, o9, k10, k11, k12, o13, o14, rfl⟩, fr, hcW, q0i (cur := #[.int .i64 x.sH.gS, .int .i64 x.sH.column, .int .i64 x.sH.data, .int .i64 x.sH.sR, .int .i64 x.sH.rows, .int .i64 x.sH.cap, .int .i64 x.sH.bT, .int .i64 x.sH.qU, .int .i64 x.sH.sG, .slice p10 m10 d10, .slice p11 m11 d11, .slice p12 m12 d12, .int .i64 x.wT, .int .i64 x.stop, .bool x.down]) hrow rfl, hSm⟩
noncomputable def offQ (x : Wld) (g : Int) : Int := if pb (x.isGroup g) = false then 3 else if pb (g ∈ x.on) = false then 8 else 0
theorem offQ_out {x : Wld} {g : Int} (h2 : ¬ (0 ≤ g ∧ g ≤ x.sH.all - 1)) : offQ x g = 3 := if_pos (q0g (P := x.isGroup g) h2)
theorem offQ_off {x : Wld} {g : Int} (h2 : 0 ≤ g ∧ g ≤ x.sH.all - 1) (h3 : ¬ g ∈ x.on) : offQ x g = 8 := by unfold offQ; rw [if_neg (by rw [q0h (P := x.isGroup g) h2]; simp), if_pos (q0g h3)]
theorem offQ_ok {x : Wld} {g : Int} (h2 : 0 ≤ g ∧ g ≤ x.sH.all - 1) (h3 : g ∈ x.on) : offQ x g = 0 := by unfold offQ; rw [if_neg (by rw [q0h (P := x.isGroup g) h2]; simp), if_neg (by rw [q0h h3]; simp)]
theorem offQ_on {x : Wld} {g : Int} (h : offQ x g = 0) : g ∈ x.on := by
 refine Classical.byContradiction (fun hn => ?_)
 unfold offQ at h
 rw [if_pos (q0g (P := g ∈ x.on) hn)] at h
 split at h <;> omega
theorem offQ_i64 (x : Wld) (g : Int) : q0q (offQ x g) := by
 unfold offQ q0q
 repeat' split
 all_goals omega
theorem offR_bad {x : Wld} {g : Int} (h : ¬ x.up = 0) : offR x g = ⟨x.up, zWld⟩ := if_pos h
theorem offR_q {x : Wld} {g : Int} (h : x.up = 0) (h2 : ¬ offQ x g = 0) : offR x g = ⟨offQ x g, zWld⟩ := by
 unfold offR offQ at *
 rw [if_neg (fun g => g h)]
 split <;> rename_i h3
 ·rfl
 ·rw [if_neg h3] at h2
  split <;> rename_i h4
  ·rfl
  ·rw [if_neg h4] at h2; exact absurd rfl h2
theorem offR_ok {x : Wld} {g : Int} (h : x.up = 0) (h2 : offQ x g = 0) : offR x g = ⟨0, { x with on := x.on.filter (fun y => y != g) }⟩ := by
 unfold offR offQ at *
 rw [if_neg (fun g => g h)]
 split <;> rename_i h3
 ·rw [if_pos h3] at h2; omega
 ·rw [if_neg h3] at h2
  split <;> rename_i h4
  ·rw [if_pos h4] at h2; omega
  ·rfl
theorem q9g (x : Wld) (hs : x.sH.ok) (b : Nat) {a10 a11 a12 : Option Addr} {l10 c10 l11 c11 l12 c12 : Nat} (f11 : List Nat) (g : Int) (w : World) (h : w.heap[b]? = some (.cells #[.int .i64 x.sH.gS, .int .i64 x.sH.column, .int .i64 x.sH.data, .int .i64 x.sH.sR, .int .i64 x.sH.rows, .int .i64 x.sH.cap, .int .i64 x.sH.bT, .int .i64 x.sH.qU, .int .i64 x.sH.sG, .slice a10 l10 c10, .slice a11 l11 c11, .slice a12 l12 c12, .int .i64 x.wT, .int .i64 x.stop, .bool x.down] 34 (0, 0))) (ha : intL.sl w a11 l11 c11 x.on f11) :
  Calls Tryz.prog 148 #[.pointer (some ⟨b, 0, none⟩), .int .i64 g] w fun e w' => e = .returned (.int .i64 (offQ x g)) ∧ Chg [] w w' := by
 have cb := cellsOf h; have nb := ltOf h
 have H := hid h; have HA := hid ha
 clear h ha
 go_enter Tryz.func148, Tryz.ntmps148
 go_wp2_with (first | (refine q0k rfl _ 30 rfl rfl infoSh Tryz.underlying30 H.out rfl ?_) | fail)
 by_cases hg : 0 ≤ g ∧ g ≤ x.sH.all - 1
 ·have HI := hid (show inB g 0 (x.sH.all - 1) = true by simp [inB, hg.1, hg.2])
  refine (q2c x.sH hs g _).mono ?_
  rintro e w1 ⟨rfl, hc⟩
  rw [HI.out]
  clear cb nb
  obtain ⟨cb, nb, H1⟩ := bk0 hc H.out
  have HC := hid hc
  clear hc
  by_cases hon : g ∈ x.on
  ·go_wp2_with fail
   refine (q2d b a11 l11 c11 x.on f11 g _ H1.out (intL.sl_ext HA.out HC.out)).mono ?_
   rintro e w' ⟨rfl, rfl⟩
   rw [q0h hon]
   go_wp2_with fail
   go_ret
   exact ⟨by rw [offQ_ok hg hon]; rfl, HC.out⟩
  ·go_wp2_with fail
   refine (q2d b a11 l11 c11 x.on f11 g _ H1.out (intL.sl_ext HA.out HC.out)).mono ?_
   rintro e w' ⟨rfl, rfl⟩
   rw [q0g hon]
   go_wp2_with fail
   go_ret
   exact ⟨by rw [offQ_off hg hon]; rfl, HC.out⟩
 ·have HI := hid (show inB g 0 (x.sH.all - 1) = false by unfold inB; simp; omega)
  refine (q2c x.sH hs g _).mono ?_
  rintro e w1 ⟨rfl, hc⟩
  rw [HI.out]
  have HC := hid hc
  clear hc
  go_wp2_with fail
  go_ret
  exact ⟨by rw [offQ_out hg]; rfl, HC.out⟩
theorem q6h (x : Wld) (cx : Array Value) (fx : List Nat) (g : Int) (w : World) (hx : wldL.rep w cx.toList x fx) (hz : q1u x ≤ 1048576) (_og : q0q g) :
  Calls Tryz.prog 65 #[.agg cx, .int .i64 g] w (q2l wrsL (offR x g) w) := by
 obtain ⟨a10, l10, c10, _, a11, l11, c11, f11, a12, l12, c12, _, ex, -, -, -, -, -, -, -, -, -, h10, h11, h12, oo13, oo14, -⟩ := q0x.1 hx
 obtain rfl := Array.toList_inj.1 (ex.trans (List.toList_toArray).symm)
 have HW := hid hx; have HZ := hid hz; have H10 := hid h10; have H11 := hid h11; have H12 := hid h12; have HOO := hid (And.intro oo13 oo14)
 have hl11 : l11 ≤ 1048576 := by have h := h11.1; have q10 := q0s (q0s q0w) x.gS; have q12 := q0s q1e x.tapes; unfold q1u q3z at hz; omega
 clear hx ex hz h10 h11 h12 oo13 oo14
 have G0 := hid (show Chg [] w ((w.alloc (.cells #[.int .i64 x.sH.gS, .int .i64 x.sH.column, .int .i64 x.sH.data, .int .i64 x.sH.sR, .int .i64 x.sH.rows, .int .i64 x.sH.cap, .int .i64 x.sH.bT, .int .i64 x.sH.qU, .int .i64 x.sH.sG, .slice a10 l10 c10, .slice a11 l11 c11, .slice a12 l12 c12, .int .i64 x.wT, .int .i64 x.stop, .bool x.down] 34)).alloc (.cells #[.int .i64 0, .int .i64 0, .int .i64 0, .int .i64 0, .int .i64 0, .int .i64 0, .int .i64 0, .int .i64 0, .int .i64 0, .int .i64 0, .slice none 0 0, .slice none 0 0, .slice none 0 0, .int .i64 0, .int .i64 0, .bool false] 36)) from (Chg.alloc (Chg.alloc (Chg.refl [] w) _) _))
 have B0 := hid (q0b (q0j w (.cells #[.int .i64 x.sH.gS, .int .i64 x.sH.column, .int .i64 x.sH.data, .int .i64 x.sH.sR, .int .i64 x.sH.rows, .int .i64 x.sH.cap, .int .i64 x.sH.bT, .int .i64 x.sH.qU, .int .i64 x.sH.sG, .slice a10 l10 c10, .slice a11 l11 c11, .slice a12 l12 c12, .int .i64 x.wT, .int .i64 x.stop, .bool x.down] 34)) (.cells #[.int .i64 0, .int .i64 0, .int .i64 0, .int .i64 0, .int .i64 0, .int .i64 0, .int .i64 0, .int .i64 0, .int .i64 0, .int .i64 0, .slice none 0 0, .slice none 0 0, .slice none 0 0, .int .i64 0, .int .i64 0, .bool false] 36))
 have B1 := hid (show ((w.alloc (.cells #[.int .i64 x.sH.gS, .int .i64 x.sH.column, .int .i64 x.sH.data, .int .i64 x.sH.sR, .int .i64 x.sH.rows, .int .i64 x.sH.cap, .int .i64 x.sH.bT, .int .i64 x.sH.qU, .int .i64 x.sH.sG, .slice a10 l10 c10, .slice a11 l11 c11, .slice a12 l12 c12, .int .i64 x.wT, .int .i64 x.stop, .bool x.down] 34)).alloc (.cells #[.int .i64 0, .int .i64 0, .int .i64 0, .int .i64 0, .int .i64 0, .int .i64 0, .int .i64 0, .int .i64 0, .int .i64 0, .int .i64 0, .slice none 0 0, .slice none 0 0, .slice none 0 0, .int .i64 0, .int .i64 0, .bool false] 36)).heap[w.heap.size + 1]? = some (.cells #[.int .i64 0, .int .i64 0, .int .i64 0, .int .i64 0, .int .i64 0, .int .i64 0, .int .i64 0, .int .i64 0, .int .i64 0, .int .i64 0, .slice none 0 0, .slice none 0 0, .slice none 0 0, .int .i64 0, .int .i64 0, .bool false] 36 (0, 0)) from q0e (by simp) _)
 go_enter Tryz.func65, Tryz.ntmps65
 obtain ⟨q, hq⟩ : ∃ q, q = x.up := ⟨_, rfl⟩
 have HQ := hid hq; clear hq
 go_wp2_with (first | (refine q0k rfl _ 34 rfl rfl q0v Tryz.underlying34 B0.out rfl ?_))
 refine (q5b x #[.int .i64 x.sH.gS, .int .i64 x.sH.column, .int .i64 x.sH.data, .int .i64 x.sH.sR, .int .i64 x.sH.rows, .int .i64 x.sH.cap, .int .i64 x.sH.bT, .int .i64 x.sH.qU, .int .i64 x.sH.sG, .slice a10 l10 c10, .slice a11 l11 c11, .slice a12 l12 c12, .int .i64 x.wT, .int .i64 x.stop, .bool x.down] fx _ (wldL.ext HW.out G0.out)).mono ?_
 rintro e w1 ⟨rfl, hc⟩
 rw [← HQ.out]
 obtain ⟨c0, n0, A0_1⟩ := bk0 hc B0.out
 obtain ⟨c1, n1, A1_1⟩ := bk0 hc B1.out
 have G1 := hid (G0.out.trans0 hc)
 have fz := q0c A1_1.out
 clear hc
 have hqk : q0q q := by rw [HQ.out]; exact q9m x
 by_cases hq0 : q = 0
 ·subst hq0
  have hf0 : x.up = 0 := HQ.out.symm
  obtain ⟨-, -, -, -, hok⟩ := upSwl_parts hf0
  obtain ⟨q2, hq2⟩ : ∃ q, q = offQ x g := ⟨_, rfl⟩
  have HQ2 := hid hq2; clear hq2
  go_wp2_with (first | (refine q0k rfl _ 34 rfl rfl q0v Tryz.underlying34 A0_1.out rfl ?_))
  refine (q9g x hok w.heap.size f11 g _ A0_1.out (intL.sl_ext H11.out G1.out)).mono ?_
  rintro e w2 ⟨rfl, hc⟩
  rw [← HQ2.out]
  clear c0 n0
  obtain ⟨c0, n0, A0_2⟩ := bk0 hc A0_1.out
  clear c1 n1
  obtain ⟨c1, n1, A1_2⟩ := bk0 hc A1_1.out
  have G2 := hid (G1.out.trans0 hc)
  clear fz; have fz := q0c A1_2.out
  clear hc
  have hqk2 : q0q q2 := by rw [HQ2.out]; exact offQ_i64 x g
  by_cases hq20 : q2 = 0
  ·subst hq20
   have HQ0 := hid HQ2.out.symm
   go_wp2_with (first | (refine q0k rfl _ 34 rfl rfl q0v Tryz.underlying34 A0_2.out rfl ?_))
   refine (q6j x #[.int .i64 x.sH.gS, .int .i64 x.sH.column, .int .i64 x.sH.data, .int .i64 x.sH.sR, .int .i64 x.sH.rows, .int .i64 x.sH.cap, .int .i64 x.sH.bT, .int .i64 x.sH.qU, .int .i64 x.sH.sG, .slice a10 l10 c10, .slice a11 l11 c11, .slice a12 l12 c12, .int .i64 x.wT, .int .i64 x.stop, .bool x.down] fx _ (wldL.ext HW.out G2.out) HZ.out).mono ?_
   rintro e w3 ⟨cs2, f2, rfl, hs, hf, hc⟩
   obtain ⟨p10, m10, d10, g10, p11, m11, d11, g11, p12, m12, d12, g12, ex, o1, o2, o3, o4, o5, o6, o7, o8, o9, K10, K11, K12, o13, o14, rfl⟩ := q0x.1 hs
   obtain rfl := Array.toList_inj.1 (ex.trans (List.toList_toArray).symm)
   have HO := hid (And.intro o1 (And.intro o2 (And.intro o3 (And.intro o4 (And.intro o5 (And.intro o6 (And.intro o7 (And.intro o8 (And.intro o9 (And.intro o13 o14))))))))))
   have HK := hid (And.intro K10 (And.intro K11 K12)); have HF := hid hf; have HFn := hid (fun b hb => (hf.2 b hb).1); have nR0 := n1
   clear hs ex K10 K11 K12 o1 o2 o3 o4 o5 o6 o7 o8 o9 o13 o14 hf
   clear c0 n0
   obtain ⟨c0, n0, A0_3⟩ := bk0 hc A0_2.out
   clear c1 n1
   obtain ⟨c1, n1, A1_3⟩ := bk0 hc A1_2.out
   have G3 := hid (G2.out.trans0 hc)
   clear fz; have fz := q0c A1_3.out
   clear hc
   go_upto_region 7 with (refine q0p rfl _ _ 34 rfl rfl rfl q0v (q0j _ _) rfl rfl rfl ?_; intro w4 hm hc0)
   have hc : Chg [] w3 w4 := ((Chg.refl [] w3).alloc _).trans hc0 (fun y hy => .inr (by rw [List.mem_singleton] at hy; omega)); clear hc0
   have HM := hid hm; have cm := cellsOf hm; have nm := ltOf hm; have fm := q0c hm; have nR : w.heap.size + 1 < w3.heap.size := n1; clear hm
   have hF := HF.out.lts; have HKe := hid (And.intro (drvL.slice.sl_ext HK.out.1 hc) (And.intro (intL.sl_ext HK.out.2.1 hc) (tapL.sl_ext HK.out.2.2 hc))); have HFe := hid ((HF.out.mono (C := w.heap.size) G2.out.size).chg hc)
   have HFl := hid hF; clear hF
   clear c0 n0
   obtain ⟨c0, n0, A0_4⟩ := bk0 hc A0_3.out
   clear c1 n1
   obtain ⟨c1, n1, A1_4⟩ := bk0 hc A1_3.out
   have G4 := hid (G3.out.trans0 hc)
   clear fz; have fz := q0c A1_4.out
   clear hc
   have hon := hid (offQ_on HQ0.out)
   obtain ⟨j, hj⟩ := List.getElem?_of_mem hon.out
   obtain ⟨y0, b, off, HX, e11, -, -⟩ := q2p HKe.out.2.1 (show j < m11 by have h1 := (List.getElem?_eq_some_iff.1 hj).1; have h2 := HKe.out.2.1.1; omega)
   subst e11
   have hb11 := HX.out.2.2
   have e11 := isl_fp HKe.out.2.1 (show 0 < m11 by have h1 := (List.getElem?_eq_some_iff.1 hj).1; have h2 := HKe.out.2.1.1; omega)
   subst e11
   have hbm := HFl.out b (by simp); have hbn := HFn.out b (by simp)
   clear HX hj hb11
   go_wp2_with fail
   refine (turnOff_any w3.heap.size b off m11 d11 x.on g w4 HM.out HKe.out.2.1 (HFe.out.2 b (by simp)).2 (by omega) hon.out).mono ?_
   rintro e w8 ⟨rfl, w7, i, hs7, hc7, rfl⟩
   obtain ⟨hrep, hfr, hcW, hrow, hSm⟩ := on_swap x (x.on.filter (fun y => y != g)) HO.out HKe.out.1 HKe.out.2.2 HFe.out G4.out.size HFl.out HM.out hc7 (by simp) hs7 (by simp) (fun y hy => .inl hy)
   have hR7 := hc7.keepb A1_4.out (by simp; omega)
   have hRn : w.heap.size + 1 ∉ g10 ++ ([b] ++ (g12 ++ [])) := fun hy => by have := HFn.out _ hy; omega
   have HE := hid (And.intro (show wldL.rep (w7.setCell ⟨w3.heap.size, 10, none⟩ (.slice (some ⟨b, off, none⟩) i d11)) [.int .i64 x.sH.gS, .int .i64 x.sH.column, .int .i64 x.sH.data, .int .i64 x.sH.sR, .int .i64 x.sH.rows, .int .i64 x.sH.cap, .int .i64 x.sH.bT, .int .i64 x.sH.qU, .int .i64 x.sH.sG, .slice p10 m10 d10, .slice (some ⟨b, off, none⟩) i d11, .slice p12 m12 d12, .int .i64 x.wT, .int .i64 x.stop, .bool x.down] _ _ from hrep) (And.intro (show q1c w.heap.size (w7.setCell ⟨w3.heap.size, 10, none⟩ (.slice (some ⟨b, off, none⟩) i d11)) (g10 ++ ([b] ++ (g12 ++ []))) from hfr) (And.intro (show Chg [] w (w7.setCell ⟨w3.heap.size, 10, none⟩ (.slice (some ⟨b, off, none⟩) i d11)) from G4.out.trans hcW (fun y hy => .inr (by rcases List.mem_cons.1 hy with h | h; omega; rw [List.mem_singleton] at h; subst h; have := G2.out.size; omega))) (show w.heap.size + 1 ∉ g10 ++ ([b] ++ (g12 ++ [])) from hRn))))
   have HRR := hid (q0u hR7 ⟨w3.heap.size, 10, none⟩ (.slice (some ⟨b, off, none⟩) i d11) (by show w.heap.size + 1 ≠ w3.heap.size; omega)); have HMR := hid (show (w7.setCell ⟨w3.heap.size, 10, none⟩ (.slice (some ⟨b, off, none⟩) i d11)).heap[w3.heap.size]? = some (.cells #[.int .i64 x.sH.gS, .int .i64 x.sH.column, .int .i64 x.sH.data, .int .i64 x.sH.sR, .int .i64 x.sH.rows, .int .i64 x.sH.cap, .int .i64 x.sH.bT, .int .i64 x.sH.qU, .int .i64 x.sH.sG, .slice p10 m10 d10, .slice (some ⟨b, off, none⟩) i d11, .slice p12 m12 d12, .int .i64 x.wT, .int .i64 x.stop, .bool x.down] 34 (0, 0)) from hrow)
   clear hrep hfr hcW hrow hSm hR7 hRn hs7 hc7 cm nm fm
   go_wp2_with (first | (refine q0k rfl _ 34 rfl rfl q0v Tryz.underlying34 HMR.out rfl ?_) | (refine q0p rfl _ _ 36 rfl rfl rfl q1f HRR.out rfl rfl rfl ?_; intro w9 hb9 hc9; have HB9 := hid hb9; have HC9 := hid hc9; clear hb9 hc9))
   refine bodyPost_ret (v := .agg #[.int .i64 0, .int .i64 x.sH.gS, .int .i64 x.sH.column, .int .i64 x.sH.data, .int .i64 x.sH.sR, .int .i64 x.sH.rows, .int .i64 x.sH.cap, .int .i64 x.sH.bT, .int .i64 x.sH.qU, .int .i64 x.sH.sG, .slice p10 m10 d10, .slice (some ⟨b, off, none⟩) i d11, .slice p12 m12 d12, .int .i64 x.wT, .int .i64 x.stop, .bool x.down]) (q0m _ _ Tryz.results65 rfl q1f Tryz.underlying36 HB9.out rfl) rfl (fin9 (0) (i64z) (offR x g) (offR_ok hf0 HQ0.out) HE.out.1 rfl HE.out.2.1 HE.out.2.2.1 HC9.out HE.out.2.2.2 (by omega))
  ·have hb2 : ((q2 : Int) != 0) = true := by simpa using hq20
   go_wp2_with (first | (refine q0p rfl _ _ 36 rfl rfl rfl q1f A1_2.out rfl rfl rfl ?_; intro w9 hb9 hc9; have HB9 := hid hb9; have HC9 := hid hc9; clear hb9 hc9))
   refine bodyPost_ret (v := .agg #[.int .i64 (q2), .int .i64 0, .int .i64 0, .int .i64 0, .int .i64 0, .int .i64 0, .int .i64 0, .int .i64 0, .int .i64 0, .int .i64 0, .slice none 0 0, .slice none 0 0, .slice none 0 0, .int .i64 0, .int .i64 0, .bool false]) (q0m _ _ Tryz.results65 rfl q1f Tryz.underlying36 HB9.out rfl) rfl (bad9 (q2) (hqk2) (offR x g) (by rw [offR_q hf0 (by rw [← HQ2.out]; exact hq20), ← HQ2.out]) G2.out HC9.out (by omega))
 ·have hb : ((q : Int) != 0) = true := by simpa using hq0
  have hbe : ((q : Int) == 0) = false := by simpa using hq0
  go_wp2_with (first | (refine q0p rfl _ _ 36 rfl rfl rfl q1f A1_1.out rfl rfl rfl ?_; intro w9 hb9 hc9; have HB9 := hid hb9; have HC9 := hid hc9; clear hb9 hc9))
  refine bodyPost_ret (v := .agg #[.int .i64 (q), .int .i64 0, .int .i64 0, .int .i64 0, .int .i64 0, .int .i64 0, .int .i64 0, .int .i64 0, .int .i64 0, .int .i64 0, .slice none 0 0, .slice none 0 0, .slice none 0 0, .int .i64 0, .int .i64 0, .bool false]) (q0m _ _ Tryz.results65 rfl q1f Tryz.underlying36 HB9.out rfl) rfl (bad9 (q) (hqk) (offR x g) (by rw [offR_bad (by rw [← HQ.out]; exact hq0), ← HQ.out]) G1.out HC9.out (by omega))
end Go.Proofs.YtphmpimgbmedbaaGreat
