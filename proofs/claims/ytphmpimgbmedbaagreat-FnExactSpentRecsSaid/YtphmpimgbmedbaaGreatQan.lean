/- Several texts in one. -/
import Derived.Test.YtphmpimgbmedbaaGreatRows
import Derived.Test.YtphmpimgbmedbaaGreatQam
import Derived.Laws.CopyRow
import Derived.Laws.Cells
import Derived.Laws.IdiomCopy
import Derived.Test.YtphmpimgbmedbaaGreatQab
import Derived.Test.YtphmpimgbmedbaaGreatQal
import Derived.Test.YtphmpimgbmedbaaGreatQae
import Derived.Test.YtphmpimgbmedbaaGreatQak
namespace Go.Proofs.YtphmpimgbmedbaaGreat
open Go.RowKit
open Go.Lib (hid)
set_option maxRecDepth 100000 in
set_option maxHeartbeats 2000000 in
theorem markWorld_any (x : Wld) (cx : Array Value) (fx : List Nat) (k : Int) (w : World) (hx : wldL.rep w cx.toList x fx) (hf : Fresh 0 w fx) (hk : 0 ≤ k) (hk2 : k + cntWld x ≤ 4611686018427387904) :
  Calls Tryz.prog 21 #[.agg cx, .int .i64 k] w fun e w' => e = .returned (.int .i64 (k + cntWld x)) ∧ wldL.rep w' cx.toList (mvWld k x) fx ∧ Chg fx w w' := by
 obtain ⟨a10, l10, c10, f10, a11, l11, c11, f11, a12, l12, c12, f12, ex, o1, o2, o3, o4, o5, o6, o7, o8, o9, h10, h11, h12, o13, o14, efp⟩ := wldL_iff.1 hx
 obtain rfl := Array.toList_inj.1 (ex.trans (List.toList_toArray).symm)
 rw [List.append_nil] at efp
 subst efp
 have hbx : w.heap.size ∉ f10 ++ (f11 ++ f12) := fun h => Nat.lt_irrefl _ (Lay.lt wldL hx _ (by simpa using h))
 obtain ⟨q10, hq10⟩ : ∃ q, q = sumI cntDrvs x.groups := ⟨_, rfl⟩
 obtain ⟨q12, hq12⟩ : ∃ q, q = sumI cntTap x.tapes := ⟨_, rfl⟩
 have n10 : 0 ≤ q10 := by rw [hq10]; exact sumI_nonneg cntDrvs_nonneg _
 have n12 : 0 ≤ q12 := by rw [hq12]; exact sumI_nonneg cntTap_nonneg _
 have t11 : totIs x.on = (l11 : Int) := by unfold totIs; rw [h11.1]
 have hcw : cntWld x = q10 + l11 + q12 := by unfold cntWld; rw [t11, hq10, hq12]
 have ndA := List.nodup_append.1 hf.1
 have ndB := List.nodup_append.1 ndA.2.1
 have lo10 : ∀ y ∈ f10, 0 ≤ y ∧ Loose (w.alloc (.cells #[.int .i64 x.shape.groups, .int .i64 x.shape.column, .int .i64 x.shape.data, .int .i64 x.shape.spare, .int .i64 x.shape.rows, .int .i64 x.shape.cap, .int .i64 x.shape.batch, .int .i64 x.shape.queue, .int .i64 x.shape.stage, .slice a10 l10 c10, .slice a11 l11 c11, .slice a12 l12 c12, .int .i64 x.writes, .int .i64 x.stop, .bool x.down] 34)) y := fun y hy => ⟨Nat.zero_le _, (hf.2 y (by simp [hy])).2.alloc _⟩
 have LO := hid (fun y hy => (hf.2 y hy).2 : ∀ y ∈ f10 ++ (f11 ++ f12), Loose w y)
 have D := hid (And.intro (fun y hy hy6 => ndA.2.2 y hy6 y (by simp [hy]) rfl : ∀ y ∈ f11, y ∉ f10) (And.intro (fun y hy hy6 => ndA.2.2 y hy6 y (by simp [hy]) rfl : ∀ y ∈ f12, y ∉ f10) (fun y hy hy7 => ndB.2.2 y hy7 y hy rfl : ∀ y ∈ f12, y ∉ f11)))
 have HI10 := hid (markDriveSS_any a10 l10 c10 x.groups f10 k _ (drvL.slice.sl_ext h10 ((Chg.refl [] w).alloc (.cells #[.int .i64 x.shape.groups, .int .i64 x.shape.column, .int .i64 x.shape.data, .int .i64 x.shape.spare, .int .i64 x.shape.rows, .int .i64 x.shape.cap, .int .i64 x.shape.batch, .int .i64 x.shape.queue, .int .i64 x.shape.stage, .slice a10 l10 c10, .slice a11 l11 c11, .slice a12 l12 c12, .int .i64 x.writes, .int .i64 x.stop, .bool x.down] 34))) ⟨ndA.1, lo10⟩ hk (by omega))
 rw [← hq10] at HI10
 have H11 := hid h11; have H12 := hid h12
 have HO := hid (And.intro o1 (And.intro o2 (And.intro o3 (And.intro o4 (And.intro o5 (And.intro o6 (And.intro o7 (And.intro o8 (And.intro o9 (And.intro o13 o14))))))))))
 have HB := hid hbx
 have HND := hid (And.intro ndB.1 ndB.2.1)
 have HW := hid hcw; have HQ := hid (And.intro hq10 (And.intro hq12 t11))
 have hbd : k + q10 + l11 + q12 ≤ 4611686018427387904 := by omega
 clear hx hf hk2 ex o1 o2 o3 o4 o5 o6 o7 o8 o9 o13 o14 h10 h11 h12 hbx ndA ndB lo10 hq10 hq12 t11 hcw
 go_enter Tryz.func21, Tryz.ntmps21
 go_wp2_with fail
 refine HI10.out.mono ?_
 rintro e w1 ⟨rfl, hs1, hc1⟩
 have hP := hc1.keepb (new_alloc w _) (fun h => HB.out (by simp [h]))
 have cP := cellsOf hP; have lP := ltOf hP; have HP := hid hP
 have g0 : Chg [] w (w.alloc (.cells #[.int .i64 x.shape.groups, .int .i64 x.shape.column, .int .i64 x.shape.data, .int .i64 x.shape.spare, .int .i64 x.shape.rows, .int .i64 x.shape.cap, .int .i64 x.shape.batch, .int .i64 x.shape.queue, .int .i64 x.shape.stage, .slice a10 l10 c10, .slice a11 l11 c11, .slice a12 l12 c12, .int .i64 x.writes, .int .i64 x.stop, .bool x.down] 34)) := (Chg.refl [] w).alloc _
 have HI11 := hid (markI_any a11 l11 c11 x.on f11 (k + q10) w1 (intL.sl_chg (intL.sl_ext H11.out g0) hc1 D.out.1) ⟨HND.out.1, fun y hy => ⟨Nat.zero_le _, hc1.loose y ((LO.out y (by simp [hy])).alloc _)⟩⟩ (by omega) (by omega))
 have H12' := hid (tapL.sl_chg (tapL.sl_ext H12.out g0) hc1 D.out.2.1)
 have HC1 := hid ((g0.mono (T := f10) (by simp)).trans hc1 (fun x hx => .inl hx))
 have HC1' := hid hc1
 have HS1 := hid hs1
 clear hs1 hc1 hP g0
 go_wp2_with fail
 refine HI11.out.mono ?_
 rintro e w2 ⟨rfl, hs2, hc2⟩
 have hP := hc2.keepb HP.out (fun h => HB.out (by simp [h]))
 clear cP lP HP
 have cP := cellsOf hP; have lP := ltOf hP
 have HI12 := hid (markTapeS_any a12 l12 c12 x.tapes f12 (k + q10 + l11) w2 (tapL.sl_chg H12'.out hc2 D.out.2.2) ⟨HND.out.2, fun y hy => ⟨Nat.zero_le _, hc2.loose y (HC1'.out.loose y ((LO.out y (by simp [hy])).alloc _))⟩⟩ (by omega) (by rw [← HQ.out.2.1]; omega))
 rw [← HQ.out.2.1] at HI12
 have HS1' := hid (drvL.slice.sl_chg HS1.out hc2 (fun y hy hm => D.out.1 y hm hy))
 have HS2 := hid hs2
 have HC2 := hid hc2
 clear hs2 hc2 hP
 go_wp2_with fail
 refine HI12.out.mono ?_
 rintro e w3 ⟨rfl, hs3, hc3⟩
 have r10 := drvL.slice.sl_chg HS1'.out hc3 (fun y hy hm => D.out.2.1 y hm hy)
 have r11 := intL.sl_chg HS2.out hc3 (fun y hy hm => D.out.2.2 y hm hy)
 have HL11 := hid H11.out.1
 have r11' : intL.sl w3 a11 l11 c11 (markIL (k + sumI cntDrvs x.groups) x.on.length) f11 := by rw [← HQ.out.1, ← HL11.out]; exact r11
 have r12' : tapL.sl w3 a12 l12 c12 (markL cntTap mkTap x.tapes (k + sumI cntDrvs x.groups + totIs x.on)) f12 := by rw [← HQ.out.1, HQ.out.2.2]; exact hs3
 have HR := hid (wldL_iff.2 ⟨a10, l10, c10, f10, a11, l11, c11, f11, a12, l12, c12, f12, rfl, HO.out.1, HO.out.2.1, HO.out.2.2.1, HO.out.2.2.2.1, HO.out.2.2.2.2.1, HO.out.2.2.2.2.2.1, HO.out.2.2.2.2.2.2.1, HO.out.2.2.2.2.2.2.2.1, HO.out.2.2.2.2.2.2.2.2.1, r10, r11', r12', HO.out.2.2.2.2.2.2.2.2.2.1, HO.out.2.2.2.2.2.2.2.2.2.2, (by simp)⟩ : wldL.rep w3 [.int .i64 x.shape.groups, .int .i64 x.shape.column, .int .i64 x.shape.data, .int .i64 x.shape.spare, .int .i64 x.shape.rows, .int .i64 x.shape.cap, .int .i64 x.shape.batch, .int .i64 x.shape.queue, .int .i64 x.shape.stage, .slice a10 l10 c10, .slice a11 l11 c11, .slice a12 l12 c12, .int .i64 x.writes, .int .i64 x.stop, .bool x.down] (mvWld k x) (f10 ++ (f11 ++ f12)))
 have HC := hid (((HC1.out.mono (T := f10 ++ (f11 ++ f12)) (fun y hy => .inl (by simp [hy]))).trans HC2.out (fun y hy => .inl (by simp [hy]))).trans hc3 (fun y hy => .inl (by simp [hy])))
 have HZ := hid (show k + q10 + (l11 : Int) + q12 = k + cntWld x by rw [HW.out]; omega)
 clear hs3 hc3 r10 r11 r11' r12' cP lP
 go_wp2_with fail
 go_ret
 exact ⟨ret_int HZ.out, HR.out, HC.out⟩
theorem Chg.setRowAt {S : List Nat} {a w : World} {b : Nat} (cs : Array Value) (h : Chg S a w) (hb : b ∈ S ∨ a.heap.size ≤ b) : Chg S a (w.setRow b cs) :=
 ⟨h.os, h.tape, h.output, by simp only [World.setRow, Array.size_modify]; exact h.size, fun k hk hS => by rw [setRow_other _ _ _ _ (hb.elim (fun hb e => hS (by rw [e]; exact hb)) (fun hb => by omega))]; exact h.block k hk hS, fun k hk => by
  obtain ⟨c, E, h1⟩ := h.loose k hk
  by_cases e : k = b
  ·subst e; exact ⟨_, E, setRow_heap w k c _ E _ h1⟩
  ·exact ⟨c, E, by rw [setRow_other _ _ _ _ e]; exact h1⟩⟩
theorem store_wp' {P : Program} {o : Oper} {a : Act} {Kc : Act → World → Prop} {Q : Exit → Act → World → Prop} {w : World} {b : Nat} {cs vs : Array Value} {E : TypeId} {n : Nat} (p v : Operand) (t : TypeId)
  (hop : o.op = .store t p v) (hp : a.eval p = .pointer (some ⟨b, 0, none⟩)) (hv : a.eval v = .agg vs) (hi : (P.info? t).map (fun i => i.size) = some n) (h : w.heap[b]? = some (.cells cs E (0, 0)))
  (hn : vs.size = n) (hs : cs.size = n) (hone : vs.toList.all Value.oneCell' = true)
  (hk : Kc (a.put o.dst undef) (w.setRow b vs)) : o.wp P a w Kc Q := by
 obtain ⟨i, hi1, hi2⟩ := Option.map_eq_some_iff.1 hi
 have hst := run_storeCells_at (P := P) b 0 E vs.toList 0 cs w h (by simp; omega) (fun v hv => List.all_eq_true.1 hone v hv)
 have e : (cs.toList.take (0 + 0) ++ vs.toList ++ cs.toList.drop (0 + 0 + vs.toList.length)).toArray = vs := by
  have : cs.toList.drop (0 + 0 + vs.toList.length) = [] := List.drop_eq_nil_of_le (by simp; omega)
  rw [this]; simp
 rw [e] at hst
 have hsz : vs.size = i.size := by omega
 unfold Oper.wp execOp
 simp only [hop, hp, hv, Instr.storeAt, Instr.sureAddr, storeVar, Value.cells, sizeOf, typeInfo, Sem.run_bind, Sem.run_pure, Result.andThen_ok]
 have hp0 : (program : Sem Program).run P w = .ok P w := rfl
 simp only [hp0, Result.andThen_ok, hi1, Sem.run_pure, ← hsz, ne_eq, not_true, if_false, hst]
 exact hk
theorem store_wp {P : Program} {o : Oper} {a : Act} {Kc : Act → World → Prop} {Q : Exit → Act → World → Prop} {w : World} {b : Nat} {cs vs : Array Value} {E : TypeId} {n : Nat} (p v : Operand) (t : TypeId)
  (hop : o.op = .store t p v) (hp : a.eval p = .pointer (some ⟨b, 0, none⟩)) (hv : a.eval v = .agg vs) (hi : (P.info? t).map (fun i => i.size) = some n) (h : w.heap[b]? = some (.cells cs E (0, 0)))
  (hn : vs.size = n) (hs : cs.size = n) (hone : vs.toList.all Value.oneCell' = true)
  (hk : ∀ w', w'.heap[b]? = some (.cells vs E (0, 0)) → Chg [b] w w' → Kc (a.put o.dst undef) w') : o.wp P a w Kc Q :=
 store_wp' p v t hop hp hv hi h hn hs hone (hk _ (setRow_heap w b cs vs E (0, 0) h) ((Chg.refl _ w).setRowAt vs (.inl (by simp))))
theorem store_wide {P : Program} {ops : Array Oper} {rest : List Oper} {o : Oper} {a : Act} {Q : Exit → Act → World → Prop} {w : World} {b : Nat} {cs vs : Array Value} {E : TypeId} {n : Nat} (hgd : o.guard = none) (p v : Operand) (t : TypeId)
  (hop : o.op = .store t p v) (hp : a.eval p = .pointer (some ⟨b, 0, none⟩)) (hv : a.eval v = .agg vs) (hi : (P.info? t).map (fun i => i.size) = some n) (h : w.heap[b]? = some (.cells cs E (0, 0)))
  (hn : vs.size = n) (hs : cs.size = n) (hone : vs.toList.all Value.oneCell' = true)
  (hk : ∀ w', w'.heap[b]? = some (.cells vs E (0, 0)) → Chg [b] w w' → wpList P ops Q rest (a.put o.dst undef) w') : wpList P ops Q (o :: rest) a w :=
 wpList_plain hgd fun _ hK => store_wp p v t hop hp hv hi h hn hs hone fun w' h1 h2 => hK _ _ (hk w' h1 h2)
theorem alloc_setRow (w : World) (cs vs : Array Value) (E : TypeId) : (w.alloc (.cells cs E)).setRow w.heap.size vs = w.alloc (.cells vs E) := by
 unfold World.setRow World.alloc
 congr 1
 apply Array.ext_getElem?
 intro k
 rw [Array.getElem?_modify]
 by_cases h : w.heap.size = k
 ·subst h; simp
 ·rw [if_neg h, Array.getElem?_push, Array.getElem?_push, if_neg (fun e => h e.symm), if_neg (fun e => h e.symm)]
theorem store_new {P : Program} {ops : Array Oper} {rest : List Oper} {o : Oper} {a : Act} {Q : Exit → Act → World → Prop} {w : World} {b : Nat} {cs vs : Array Value} {E : TypeId} {n : Nat} (hgd : o.guard = none) (p v : Operand) (t : TypeId)
  (hop : o.op = .store t p v) (hp : a.eval p = .pointer (some ⟨b, 0, none⟩)) (hv : a.eval v = .agg vs) (hb : b = w.heap.size) (hi : (P.info? t).map (fun i => i.size) = some n)
  (hn : vs.size = n) (hs : cs.size = n) (hone : vs.toList.all Value.oneCell' = true)
  (hk : wpList P ops Q rest (a.put o.dst undef) (w.alloc (.cells vs E))) : wpList P ops Q (o :: rest) a (w.alloc (.cells cs E)) := by
 subst hb
 exact wpList_plain hgd fun _ hK => store_wp' p v t hop hp hv hi (new_alloc w _) hn hs hone (by rw [alloc_setRow]; exact hK _ _ hk)
theorem load_wp {P : Program} {o : Oper} {a : Act} {Kc : Act → World → Prop} {Q : Exit → Act → World → Prop} {w : World} {b : Nat} {cs : Array Value} {E : TypeId} {fr : Nat × Nat} {n : Nat} {fs : Array Field} (p : Operand) (t : TypeId)
  (hop : o.op = .load t p) (hp : a.eval p = .pointer (some ⟨b, 0, none⟩)) (hi : (P.info? t).map (fun i => i.size) = some n) (hu : P.underlying t = some (.struct fs)) (h : w.heap[b]? = some (.cells cs E fr))
  (hs : cs.size = n) (hk : Kc (a.put o.dst (.agg cs)) w) : o.wp P a w Kc Q := by
 obtain ⟨i, hi1, hi2⟩ := Option.map_eq_some_iff.1 hi
 have hld := run_loadCells_list (P := P) (w := w) ⟨b, 0, none⟩ cs.toList (fun j v hv => by
  have := cell_of_row w b j cs E fr h
  rw [Addr.add_lit, Nat.zero_add, this]; simpa using hv)
 have hsz : cs.toList.length = i.size := by simp; omega
 rw [hsz] at hld
 unfold Oper.wp execOp
 have hp0 : (program : Sem Program).run P w = .ok P w := rfl
 simp only [hop, hp, Instr.loadAt, Instr.sureAddr, loadVar, isAgg, run_underlying hu, sizeOf, typeInfo, Sem.run_bind, Sem.run_pure, Result.andThen_ok, hp0, hi1, if_true, hld]
 rw [Array.toArray_toList]
 exact hk
theorem load_wide {P : Program} {ops : Array Oper} {rest : List Oper} {o : Oper} {a : Act} {Q : Exit → Act → World → Prop} {w : World} {b : Nat} {cs : Array Value} {E : TypeId} {fr : Nat × Nat} {n : Nat} {fs : Array Field} (hgd : o.guard = none) (p : Operand) (t : TypeId)
  (hop : o.op = .load t p) (hp : a.eval p = .pointer (some ⟨b, 0, none⟩)) (hi : (P.info? t).map (fun i => i.size) = some n) (hu : P.underlying t = some (.struct fs)) (h : w.heap[b]? = some (.cells cs E fr))
  (hs : cs.size = n) (hk : wpList P ops Q rest (a.put o.dst (.agg cs)) w) : wpList P ops Q (o :: rest) a w :=
 wpList_plain hgd fun _ hK => load_wp p t hop hp hi hu h hs (hK _ _ hk)
theorem results_wide {P : Program} {fn : Func} {tmps : Array Value} {w : World} {b : Nat} {cs : Array Value} {E : TypeId} {fr : Nat × Nat} {n : Nat} {fs : Array Field} (s : Tmp) (t : TypeId) (hr : fn.results = #[.cell s t])
  (hp : tmps.getD s undef = .pointer (some ⟨b, 0, none⟩)) (hi : (P.info? t).map (fun i => i.size) = some n) (hu : P.underlying t = some (.struct fs)) (h : w.heap[b]? = some (.cells cs E fr)) (hs : cs.size = n) :
  (results fn tmps).run P w = .ok (.agg cs) w := by
 obtain ⟨i, hi1, hi2⟩ := Option.map_eq_some_iff.1 hi
 have hld := run_loadCells_list (P := P) (w := w) ⟨b, 0, none⟩ cs.toList (fun j v hv => by
  have := cell_of_row w b j cs E fr h
  rw [Addr.add_lit, Nat.zero_add, this]; simpa using hv)
 have hsz : cs.toList.length = i.size := by simp; omega
 rw [hsz, Array.toArray_toList] at hld
 have hp0 : (program : Sem Program).run P w = .ok P w := rfl
 have hl : (loadVar t ⟨b, 0, none⟩).run P w = .ok (.agg cs) w := by
  simp only [loadVar, isAgg, run_underlying hu, sizeOf, typeInfo, Sem.run_bind, Sem.run_pure, Result.andThen_ok, hp0, hi1, if_true, hld]
 have hp2 : tmps[s]?.getD undef = .pointer (some ⟨b, 0, none⟩) := by simpa using hp
 simp [results, hr, hp2, asAddr, hl]
theorem infoWd : (Tryz.prog.info? 34).map (fun i => i.size) = some 15 := by kernel_rfl
end Go.Proofs.YtphmpimgbmedbaaGreat
namespace Go.Proofs.YtphmpimgbmedbaaGreat
open Go.RowKit
open Go.Lib (hid)
theorem load_row {P : Program} {o : Oper} {a : Act} {Kc : Act → World → Prop} {Q : Exit → Act → World → Prop} {w : World} {b k n : Nat} {cs : List Value} {fs : Array Field} (p : Operand) (t : TypeId)
  (hop : o.op = .load t p) (hp : a.eval p = .pointer (some ⟨b, k, none⟩)) (hi : (P.info? t).map (fun i => i.size) = some n) (hu : P.underlying t = some (.struct fs)) (h : ∀ j v, cs[j]? = some v → w.cell? ⟨b, k + j, none⟩ = some v)
  (hs : cs.length = n) (hk : Kc (a.put o.dst (.agg cs.toArray)) w) : o.wp P a w Kc Q := by
 obtain ⟨i, hi1, hi2⟩ := Option.map_eq_some_iff.1 hi
 have hld := run_loadCells_list (P := P) (w := w) ⟨b, k, none⟩ cs (fun j v hv => by rw [Addr.add_lit]; exact h j v hv)
 have hsz : cs.length = i.size := by omega
 rw [hsz] at hld
 unfold Oper.wp execOp
 have hp0 : (program : Sem Program).run P w = .ok P w := rfl
 simp only [hop, hp, Instr.loadAt, Instr.sureAddr, loadVar, isAgg, run_underlying hu, sizeOf, typeInfo, Sem.run_bind, Sem.run_pure, Result.andThen_ok, hp0, hi1, if_true, hld]
 exact hk
theorem load_rowL {P : Program} {ops : Array Oper} {rest : List Oper} {o : Oper} {a : Act} {Q : Exit → Act → World → Prop} {w : World} {b k n : Nat} {cs : List Value} {fs : Array Field} (hgd : o.guard = none) (p : Operand) (t : TypeId)
  (hop : o.op = .load t p) (hp : a.eval p = .pointer (some ⟨b, k, none⟩)) (hi : (P.info? t).map (fun i => i.size) = some n) (hu : P.underlying t = some (.struct fs)) (h : ∀ j v, cs[j]? = some v → w.cell? ⟨b, k + j, none⟩ = some v)
  (hs : cs.length = n) (hk : wpList P ops Q rest (a.put o.dst (.agg cs.toArray)) w) : wpList P ops Q (o :: rest) a w :=
 wpList_plain hgd fun _ hK => load_row p t hop hp hi hu h hs (hK _ _ hk)
theorem store_row {P : Program} {o : Oper} {a : Act} {Kc : Act → World → Prop} {Q : Exit → Act → World → Prop} {w : World} {b k n : Nat} {cs : List Value} (p v : Operand) (t : TypeId)
  (hop : o.op = .store t p v) (hp : a.eval p = .pointer (some ⟨b, k, none⟩)) (hv : a.eval v = .agg cs.toArray) (hi : (P.info? t).map (fun i => i.size) = some n)
  (hc : ∀ j, j < n → (w.cell? ⟨b, k + j, none⟩).isSome = true) (hf : ∀ j, w.frozen? ⟨b, j, none⟩ = false) (hs : cs.length = n) (hone : ∀ u ∈ cs, u.oneCell' = true)
  (hk : Kc (a.put o.dst undef) (w.setCells b k cs)) : o.wp P a w Kc Q := by
 obtain ⟨i, hi1, hi2⟩ := Option.map_eq_some_iff.1 hi
 have hst := run_storeCells_cells (P := P) b k cs 0 w (fun j hj => by rw [Nat.add_zero]; exact hc j (by omega)) (fun j _ => hf _) hone
 rw [Nat.add_zero] at hst
 have hsz : cs.toArray.size = i.size := by simp; omega
 unfold Oper.wp execOp
 simp only [hop, hp, hv, Instr.storeAt, Instr.sureAddr, storeVar, Value.cells, sizeOf, typeInfo, Sem.run_bind, Sem.run_pure, Result.andThen_ok]
 have hp0 : (program : Sem Program).run P w = .ok P w := rfl
 simp only [hp0, Result.andThen_ok, hi1, Sem.run_pure, ← hsz, ne_eq, not_true, if_false, hst]
 exact hk
section
variable {α : Type} {L : Lay α} {w w' : World} {b off : Nat} {ps : List (α × List Nat)}
def Celled (w : World) (b k n : Nat) (cs : List Value) : Prop := cs.length = n ∧ (∀ j v, cs[j]? = some v → w.cell? ⟨b, k + j, none⟩ = some v) ∧ ∀ u ∈ cs, u.oneCell' = true
theorem RowAt.look (h : RowAt L w b off ps) {i : Nat} {p : α × List Nat} (hp : ps[i]? = some p) : ∃ c, L.rep w c p.1 p.2 ∧ b ∉ p.2 ∧ Celled w b (off + i * L.n) L.n c := by
 have hi := (List.getElem?_eq_some_iff.1 hp).1
 obtain ⟨q, c, hq, hr, hb, hc⟩ := h.at hi
 rw [hp] at hq
 obtain rfl := Option.some.inj hq
 refine ⟨c, hr, hb, L.len hr, fun j v hv => ?_, ?_⟩
 ·rw [hc j (by have := (List.getElem?_eq_some_iff.1 hv).1; have := L.len hr; omega)]; exact hv
 ·intro u hu
  exact Lay.all_one (L := L) (L.all_single hr) u hu
theorem RowAt.isSome (h : RowAt L w b off ps) {i : Nat} (hi : i < ps.length) : ∀ j, j < L.n → (w.cell? ⟨b, off + i * L.n + j, none⟩).isSome = true := fun j hj => by
 obtain ⟨c, hr, -, h1, h2, -⟩ := h.look (List.getElem?_eq_getElem hi)
 rw [h2 j c[j] (List.getElem?_eq_getElem (by omega))]; rfl
theorem Celled.far {k n : Nat} {cs vs : List Value} (h : Celled w b k n cs) (b2 k2 : Nat) (hd : b ≠ b2) : Celled (w.setCells b2 k2 vs) b k n cs :=
 ⟨h.1, fun j v hv => by rw [World.cell?_of_block (setCells_far hd vs k2 w)]; exact h.2.1 j v hv, h.2.2⟩
theorem RowAt.swap (h : RowAt L w b off ps) {i j : Nat} {p q : α × List Nat} (hi : ps[i]? = some p) (hj : ps[j]? = some q) {cp cq : List Value} (rp : L.rep w cp p.1 p.2) (rq : L.rep w cq q.1 q.2) (bp : b ∉ p.2) (bq : b ∉ q.2) :
  RowAt L (w.setCells b (off + i * L.n) cq) b off (ps.set i q) ∧ RowAt L ((w.setCells b (off + i * L.n) cq).setCells b (off + j * L.n) cp) b off ((ps.set i q).set j p) := by
 have h1 := h.put (i := i) (List.getElem?_eq_some_iff.1 hi).1 rq bq
 refine ⟨h1, h1.put (i := j) (by rw [List.length_set]; exact (List.getElem?_eq_some_iff.1 hj).1) (L.keep rp (fun y hy => setCells_far (fun (e : y = b) => bp (e ▸ hy)) _ _ _)) bp⟩
end
end Go.Proofs.YtphmpimgbmedbaaGreat
namespace Go.Proofs.YtphmpimgbmedbaaGreat
open Go.RowKit
open Go.Lib (hid)
theorem infoRc : (Tryz.prog.info? 67).map (fun i => i.size) = some 9 := by kernel_rfl
theorem exec_row {P : Program} {ρ : Operand → Value} {o : Oper} {w : World} {b k n : Nat} {cs : List Value} {fs : Array Field} (p : Operand) (t : TypeId) (hop : o.op = .load t p) (hp : ρ p = .pointer (some ⟨b, k, none⟩))
  (hi : (P.info? t).map (fun i => i.size) = some n) (hu : P.underlying t = some (.struct fs)) (h : Celled w b k n cs) : (execOp ρ o).run P w = .ok (.value (.agg cs.toArray)) w := by
 obtain ⟨i, hi1, hi2⟩ := Option.map_eq_some_iff.1 hi
 have hld := run_loadCells_list (P := P) (w := w) ⟨b, k, none⟩ cs (fun j v hv => by rw [Addr.add_lit]; exact h.2.1 j v hv)
 have hsz : cs.length = i.size := by have := h.1; omega
 rw [hsz] at hld
 have hp0 : (program : Sem Program).run P w = .ok P w := rfl
 unfold execOp
 simp only [hop, hp, Instr.loadAt, Instr.sureAddr, loadVar, isAgg, run_underlying hu, sizeOf, typeInfo, Sem.run_bind, Sem.run_pure, Result.andThen_ok, hp0, hi1, if_true, hld]
theorem store_rowS {P : Program} {ops : Array Oper} {o : Oper} {a : Act} {Kc : Act → World → Prop} {Q : Exit → Act → World → Prop} {R : Prop} {w : World} {b k n : Nat} {cs : List Value} (hgd : o.guard = none) (p v : Operand) (t : TypeId)
  (hop : o.op = .store t p v) (hp : a.eval p = .pointer (some ⟨b, k, none⟩)) (hv : a.eval v = .agg cs.toArray) (hi : (P.info? t).map (fun i => i.size) = some n)
  (hc : ∀ j, j < n → (w.cell? ⟨b, k + j, none⟩).isSome = true) (hf : ∀ j, w.frozen? ⟨b, j, none⟩ = false) (hs : cs.length = n) (hone : ∀ u ∈ cs, u.oneCell' = true)
  (hk : Kc (a.put o.dst undef) (w.setCells b k cs)) : if Region.wanted o (yielded ops a.tmps) = true then Oper.wp P o a w Kc Q else R := by
 have hw : Region.wanted o (yielded ops a.tmps) = true := by simp [Region.wanted, hgd]
 rw [if_pos hw]
 exact store_row p v t hop hp hv hi hc hf hs hone hk
abbrev RP := Rec × List Nat
section
variable {w w' : World} {b off : Nat} {ps : List RP}
theorem rec_look (h : RowAt recL w b off ps) {i : Nat} {p : RP} (hp : ps[i]? = some p) : ∃ c : List Value, recL.rep w c p.1 p.2 ∧ b ∉ p.2 ∧ Celled w b (off + i * 9) 9 c := h.look hp
theorem rec_swap (h : RowAt recL w b off ps) {i j : Nat} {p q : RP} (hi : ps[i]? = some p) (hj : ps[j]? = some q) {cp cq : List Value} (rp : recL.rep w cp p.1 p.2) (rq : recL.rep w cq q.1 q.2) (bp : b ∉ p.2) (bq : b ∉ q.2) :
  RowAt recL (w.setCells b (off + i * 9) cq) b off (ps.set i q) ∧ RowAt recL ((w.setCells b (off + i * 9) cq).setCells b (off + j * 9) cp) b off ((ps.set i q).set j p) := h.swap hi hj rp rq bp bq
theorem rec_some (h : RowAt recL w b off ps) {i : Nat} (hi : i < ps.length) : ∀ j, j < 9 → (w.cell? ⟨b, off + i * 9 + j, none⟩).isSome = true := h.isSome hi
theorem row_ind (h : RowAt recL w b off ps) : RowAt recL w.drew b off ps := h.ext (Chg.refl [] w).drew
theorem chg_sw {W0 : World} {k1 k2 : Nat} {c1 c2 : List Value} (h : Chg [b] W0 w) : Chg [b] W0 ((w.drew.setCells b k1 c1).setCells b k2 c2) := Chg.setCells (.inl (by simp)) _ _ (Chg.setCells (.inl (by simp)) _ _ h.drew)
end
set_option maxRecDepth 100000 in
set_option maxHeartbeats 2000000 in
theorem swapR_any (b off n cap A B k : Nat) (ps : List RP) (fv : Value) (w : World) (hr : RowAt recL w b off ps) (hn : n = ps.length) (hm : n ≤ 1000000) (hab : A + k ≤ B) (hb : B + k ≤ n) :
  Calls Tryz.prog 298 #[.slice (some ⟨b, off, none⟩) n cap, .int .i64 A, .int .i64 B, .int .i64 k, fv] w fun e w' => e = .returned (.tuple #[]) ∧ ∃ ps', RowAt recL w' b off ps' ∧ SwR ps ps' A B k ∧ Chg [b] w w' := by
 have HR := hid hr; have HN := hid hn
 clear hr hn
 go_enter Tryz.func298, Tryz.ntmps298
 go_wp2_with fail
 go_loopw [10] (fun vi wr => ∃ (i : Nat) (ps' : List RP) (Wr : World), Wr = wr ∧ i ≤ k ∧ vi = .int .i64 i ∧ RowAt recL wr b off ps' ∧ Hid (SwR ps ps' A B i) ∧ Chg [b] w wr) (fun vi _ => k - (intOf vi).toNat)
 case atStart => exact ⟨0, ps, _, rfl, by omega, rfl, HR.out, SwR.zero _ _ _, Chg.refl _ _⟩
 case round =>
  obtain ⟨i, ps', wr, rfl, hi, rfl, hrow, HSR, hch⟩ := hrel
  have HCH := hid hch
  by_cases hlt : i < k
  ·have hpl : ps'.length = n := by rw [HSR.out.1]; exact HN.out.symm
   obtain ⟨p, hp⟩ : ∃ p, ps'[A + i]? = some p := ⟨_, List.getElem?_eq_getElem (by omega)⟩
   obtain ⟨q, hq⟩ : ∃ q, ps'[B + i]? = some q := ⟨_, List.getElem?_eq_getElem (by omega)⟩
   have hrd := row_ind hrow
   obtain ⟨x, hx⟩ : ∃ x, x = A + i := ⟨_, rfl⟩
   obtain ⟨y, hy⟩ : ∃ y, y = B + i := ⟨_, rfl⟩
   have hwx : IntKind.i64.wrap ((A : Int) + (i : Int)) = (x : Int) := by rw [IntWalk.i64_in _ ⟨by omega, by omega⟩]; omega
   have hwy : IntKind.i64.wrap ((B : Int) + (i : Int)) = (y : Int) := by rw [IntWalk.i64_in _ ⟨by omega, by omega⟩]; omega
   have h1 : x < n := by omega
   have h2 : y < n := by omega
   rw [← hx] at hp; rw [← hy] at hq
   have HXY := hid (And.intro hx hy)
   clear hch hrow hx hy
   go_wp2_with fail
   obtain ⟨cp, rp, bp, kp⟩ := rec_look hrd hp
   obtain ⟨cq, rq, bq, kq⟩ := rec_look hrd hq
   have HSW := hid (rec_swap hrd hp hq rp rq bp bq)
   have HRD := hid hrd; have HPQ := hid (And.intro hp hq); have HKP := hid kp; have HKQ := hid kq
   clear rp rq bp bq kp kq hp hq hrd
   obtain ⟨CC, HCI, HCO⟩ := rg_cond (fun w' => Celled w' b (off + (x) * 9) 9 cp ∧ Celled w' b (off + (y) * 9) 9 cq)
   refine gg_start [21, 23] CC (by kernel_rfl) (HCI.out _ ⟨HKP.out, HKQ.out⟩) (fun hcl hS => ?_)
   refine ggT 0 hcl hS ?_; clear hcl hS; intro hcl hS
   refine ggT 1 hcl hS ?_; clear hcl hS; intro hcl hS
   refine ggT 2 hcl hS ?_; clear hcl hS; intro hcl hS
   refine ggT 3 hcl hS ?_; clear hcl hS; intro hcl hS
   refine ggT 4 hcl hS ?_; clear hcl hS; intro hcl hS
   refine ggT 5 hcl hS ?_; clear hcl hS; intro hcl hS
   refine ggT 6 hcl hS ?_; clear hcl hS; intro hcl hS
   refine ggT 7 hcl hS ?_; clear hcl hS; intro hcl hS
   refine ggT 8 hcl hS ?_; clear hcl hS; intro hcl hS
   refine ggT 9 hcl hS ?_; clear hcl hS; intro hcl hS
   refine ggT 10 hcl hS ?_; clear hcl hS; intro hcl hS
   refine ggT 11 hcl hS ?_; clear hcl hS; intro hcl hS
   refine ggT 12 hcl hS ?_; clear hcl hS; intro hcl hS
   refine ggL 13 hcl hS HCO ?_ (hy := fun w' hw => exec_row _ 67 rfl rfl infoRc Tryz.underlying67 hw.2); clear hcl hS; intro hcl hS
   refine ggT 14 hcl hS ?_; clear hcl hS; intro hcl hS
   refine ggT 15 hcl hS ?_; clear hcl hS; intro hcl hS
   refine ggT 16 hcl hS ?_; clear hcl hS; intro hcl hS
   refine ggT 17 hcl hS ?_; clear hcl hS; intro hcl hS
   refine ggT 18 hcl hS ?_; clear hcl hS; intro hcl hS
   refine ggL 19 hcl hS HCO ?_ (hy := fun w' hw => exec_row _ 67 rfl rfl infoRc Tryz.underlying67 hw.1); clear hcl hS; intro hcl hS
   refine ggT 20 hcl hS ?_; clear hcl hS; intro hcl hS
   refine ggC 21 hcl rfl (by kernel_rfl) (fun K hK => ?_)
   refine store_rowS (cs := cq) rfl _ _ 67 rfl rfl rfl infoRc (rec_some HRD.out (i := x) (by first | omega | (rw [List.length_set]; omega))) (RowAt.free HRD.out) HKQ.out.1 HKQ.out.2.2 ?_
   refine hK.out _ _ (Till.done (m := 21) (by simp) (by rfl)) ?_
   clear hK K hcl hS
   intro hcl hS
   try simp only [Act.put]
   refine ggT 22 hcl hS ?_; clear hcl hS; intro hcl hS
   refine ggC 23 hcl rfl (by kernel_rfl) (fun K hK => ?_)
   refine store_rowS (cs := cp) rfl _ _ 67 rfl rfl rfl infoRc (rec_some HSW.out.1 (i := y) (by first | omega | (rw [List.length_set]; omega))) (RowAt.free HSW.out.1) HKP.out.1 HKP.out.2.2 ?_
   refine hK.out _ _ (Till.done (m := 21) (by simp) (by rfl)) ?_
   clear hK K hcl hS
   intro hcl hS
   try simp only [Act.put]
   refine ggEnd (by kernel_rfl) ?_ _
   go_wp2_with fail
   go_roundw
   case rel => exact ⟨i + 1, _, _, rfl, by omega, by go_num, HSW.out.2, by obtain ⟨rfl, rfl⟩ := HXY.out; exact HSR.out.next (by omega) HPQ.out.1 HPQ.out.2, chg_sw HCH.out⟩
   case measure => simp [intOf]; omega
  ·obtain rfl : i = k := by omega
   have HRW := hid hrow
   clear hch hrow
   go_wp2_with fail
   go_end0
   exact ⟨rfl, ps', HRW.out, HSR.out, HCH.out⟩
set_option maxRecDepth 100000 in
set_option maxHeartbeats 2000000 in
theorem rotR_any (b off n cap A m B : Nat) (X U V Y : List RP) (fv : Value) (w : World) (hr : RowAt recL w b off (X ++ (U ++ (V ++ Y)))) (hn : n = (X ++ (U ++ (V ++ Y))).length) (hm : n ≤ 1000000) (hX : X.length = A) (hU : A + U.length = m) (hV : m + V.length = B) (hU1 : A < m) (hV1 : m < B) :
  Calls Tryz.prog 292 #[.slice (some ⟨b, off, none⟩) n cap, .int .i64 A, .int .i64 m, .int .i64 B, fv] w fun e w' => e = .returned (.tuple #[]) ∧ RowAt recL w' b off (X ++ (V ++ (U ++ Y))) ∧ Chg [b] w w' := by
 have hBn : B ≤ n := by rw [hn]; simp only [List.length_append]; omega
 have HR := hid (show RotR m (X ++ (V ++ (U ++ Y))) (X ++ (U ++ (V ++ Y))) (m - A) (B - m) from ⟨X, U, V, Y, rfl, by omega, by omega, by omega, rfl⟩)
 have hgl : (X ++ (V ++ (U ++ Y))).length = n := by rw [hn]; simp only [List.length_append]; omega
 generalize X ++ (V ++ (U ++ Y)) = G at HR hgl ⊢
 generalize X ++ (U ++ (V ++ Y)) = ps at hr hn HR
 have HRW0 := hid hr; have HN := hid hn; have HG := hid hgl
 clear hr hn hX hU hV hgl
 obtain ⟨i0, hi0⟩ : ∃ i0, i0 = m - A := ⟨_, rfl⟩
 obtain ⟨j0, hj0⟩ : ∃ j0, j0 = B - m := ⟨_, rfl⟩
 rw [← hi0, ← hj0] at HR
 have hz1 : (m : Int) - (A : Int) = (i0 : Int) := by omega
 have hz2 : (B : Int) - (m : Int) = (j0 : Int) := by omega
 have hb1 : 1 ≤ i0 ∧ 1 ≤ j0 ∧ i0 ≤ m ∧ m + j0 ≤ n := by omega
 have HB1 := hid hb1
 clear hi0 hj0 hb1
 go_enter Tryz.func292, Tryz.ntmps292
 go_wp2_with fail
 go_loopw [10, 11] (fun vi vj wr => ∃ (i j : Nat) (ps' : List RP) (Wr : World), Wr = wr ∧ 1 ≤ i ∧ 1 ≤ j ∧ i ≤ m ∧ m + j ≤ n ∧ vi = .int .i64 i ∧ vj = .int .i64 j ∧ ps'.length = n ∧ RowAt recL wr b off ps' ∧ Hid (RotR m G ps' i j) ∧ Chg [b] w wr) (fun vi vj _ => (intOf vi).toNat + (intOf vj).toNat)
 case atStart =>
  have := HB1.out
  exact ⟨i0, j0, ps, _, rfl, by omega, by omega, by omega, by omega, by go_num, by go_num, HN.out.symm, HRW0.out, HR, Chg.refl _ _⟩
 case round =>
  obtain ⟨i, j, ps', wr, rfl, hi1, hj1, him, hjn, rfl, rfl, hpl, hrow, HRT, hch⟩ := hrel
  have HCH := hid hch; have HRW := hid hrow
  obtain ⟨x, hx⟩ : ∃ x, x = m - i := ⟨_, rfl⟩
  have hwx : (m : Int) - (i : Int) = (x : Int) := by omega
  have HX := hid hx
  clear hch hrow
  rcases Nat.lt_trichotomy j i with hji | hji | hji
  ·have HS := hid (swapR_any b off n cap x m j ps' fv wr HRW.out hpl.symm hm (by omega) (by omega))
   have hne : ((i : Int) != (j : Int)) = true := by rw [bne_iff_ne]; omega
   have hgt : (j : Int) < (i : Int) := by omega
   have hd : (i : Int) - (j : Int) = ((i - j : Nat) : Int) := by omega
   clear hx
   go_wp2_with fail
   refine HS.out.mono ?_
   rintro e w2 ⟨rfl, ps2, hr2, hs2, hc2⟩
   have HN1 := hid (HRT.out.left hji (by rw [← HX.out]; exact hs2)); have HL2 := hid (hs2.1.trans hpl); have HR2 := hid hr2; have HC2 := hid (HCH.out.trans hc2 (fun y hy => .inl hy))
   clear hr2 hs2 hc2
   go_wp2_with fail
   go_roundw
   case rel => exact ⟨i - j, j, ps2, _, rfl, by omega, by omega, by omega, by omega, by go_num, rfl, HL2.out, HR2.out, HN1, HC2.out⟩
   case measure => simp [intOf]; omega
  ·subst hji
   have HS := hid (swapR_any b off n cap x m j ps' fv wr HRW.out hpl.symm hm (by omega) (by omega))
   have hne : ((j : Int) != (j : Int)) = false := by simp
   clear hx
   go_wp2_with fail
   refine HS.out.mono ?_
   rintro e w2 ⟨rfl, ps2, hr2, hs2, hc2⟩
   have e2 := HRT.out.last (by rw [← HX.out]; exact hs2)
   have HR2 := hid hr2; have HC2 := hid (HCH.out.trans hc2 (fun y hy => .inl hy)); have HE2 := hid e2
   clear hr2 hs2 hc2 e2
   go_wp2_with fail
   go_end0
   exact ⟨rfl, by rw [← HE2.out]; exact HR2.out, HC2.out⟩
  ·obtain ⟨y, hy⟩ : ∃ y, y = m + j - i := ⟨_, rfl⟩
   have hwy : (m : Int) + (j : Int) - (i : Int) = (y : Int) := by omega
   have HS := hid (swapR_any b off n cap x y i ps' fv wr HRW.out hpl.symm hm (by omega) (by omega))
   have hne : ((i : Int) != (j : Int)) = true := by rw [bne_iff_ne]; omega
   have hgt : ¬ (j : Int) < (i : Int) := by omega
   have hd : (j : Int) - (i : Int) = ((j - i : Nat) : Int) := by omega
   have HY := hid hy
   clear hx hy
   go_wp2_with fail
   refine HS.out.mono ?_
   rintro e w2 ⟨rfl, ps2, hr2, hs2, hc2⟩
   have HN1 := hid (HRT.out.right hji (by rw [← HX.out, ← HY.out]; exact hs2)); have HL2 := hid (hs2.1.trans hpl); have HR2 := hid hr2; have HC2 := hid (HCH.out.trans hc2 (fun y hy => .inl hy))
   clear hr2 hs2 hc2
   go_wp2_with fail
   go_roundw
   case rel => exact ⟨i, j - i, ps2, _, rfl, by omega, by omega, by omega, by omega, rfl, by go_num, HL2.out, HR2.out, HN1, HC2.out⟩
   case measure => simp [intOf]; omega
def recLt (x y : Rec) : Bool := decide (x.seq < y.seq ∨ x.seq = y.seq ∧ (x.kind < y.kind ∨ x.kind = y.kind ∧ x.group < y.group))
def ltP (p q : RP) : Bool := recLt p.1 q.1
theorem ltP_ordr : Ordr ltP := by
 refine ⟨fun x => ?_, fun x y z h k => ?_, fun x y z h k => ?_⟩ <;> simp only [ltP, recLt, decide_eq_true_eq, decide_eq_false_iff_not] at * <;> omega
def CmpOK : Prop := ∀ (w : World) (cx cy : List Value) (x y : Rec) (fx fy : List Nat), recL.rep w cx x fx → recL.rep w cy y fy → Calls Tryz.prog 170 #[.agg cx.toArray, .agg cy.toArray] w fun e w' => ∃ r : Int, e = .returned (.int .i64 r) ∧ Hid (decide (r < 0) = recLt x y) ∧ Chg [] w w'
theorem cmp_r {p q : RP} {r : Int} {v : Bool} (hl : ltP p q = v) (h : Hid (decide (r < 0) = recLt p.1 q.1)) : decide (r < 0) = v := h.out.trans hl
theorem Celled.ext {w w' : World} {b k n : Nat} {cs : List Value} (h : Celled w b k n cs) (hc : Chg [] w w') (hb : b < w.heap.size) : Celled w' b k n cs := ⟨h.1, fun j v hv => (hc.facts.1 b _ hb).trans (h.2.1 j v hv), h.2.2⟩
theorem thru_full {X S Y : List RP} {x : RP} {k : Nat} (hk : k = S.length) : thru X S Y x k = X ++ (S ++ (x :: Y)) := by
 subst hk
 unfold thru
 rw [List.take_length, List.drop_length]; rfl
theorem ins_end {X S Y Z0 : List RP} {x : RP} {k : Nat} (hs : Srt ltP S) (hb : Stab ltP Z0 S) (h1 : ∀ y ∈ S.drop k, ltP x y = true) (h2 : ∀ y ∈ S.take k, ltP x y = false) : ∃ S', thru X S Y x k = X ++ (S' ++ Y) ∧ Srt ltP S' ∧ Stab ltP (Z0 ++ [x]) S' :=
 ⟨S.take k ++ (x :: S.drop k), by unfold thru; simp, ins_srt ltP_ordr hs h1 h2, (hb.app (Stab.refl [x])).trans (ins_stab ltP_ordr h1)⟩
theorem ins_stop {S : List RP} {x : RP} {k : Nat} (hs : Srt ltP S) (hk : k < S.length) (h : ltP x S[k] = false) : ∀ y ∈ S.take (k + 1), ltP x y = false := fun y hy => by
 obtain ⟨i, hi, rfl⟩ := List.getElem_of_mem hy
 rw [List.length_take] at hi
 rw [List.getElem_take]
 exact ltP_ordr.le_trans (Srt.at ltP_ordr hs (show i ≤ k by omega) (List.getElem?_eq_getElem (by omega)) (List.getElem?_eq_getElem hk)) h
theorem ins_go {S : List RP} {x : RP} {k : Nat} (hk : k < S.length) (h : ∀ y ∈ S.drop (k + 1), ltP x y = true) (h2 : ltP x S[k] = true) : ∀ y ∈ S.drop k, ltP x y = true := fun y hy => by
 rw [List.drop_eq_getElem_cons hk] at hy
 rcases List.mem_cons.1 hy with rfl | hy
 ·exact h2
 ·exact h y hy
set_option maxRecDepth 100000 in
set_option maxHeartbeats 4000000 in
theorem insR_any (b off n cap A B : Nat) (X Z Y : List RP) (w : World) (HCMP : Hid CmpOK) (hr : RowAt recL w b off (X ++ (Z ++ Y))) (hn : n = (X ++ (Z ++ Y)).length) (hm : n ≤ 1000000) (hX : X.length = A) (hZ : A + Z.length = B) :
  Calls Tryz.prog 271 #[.slice (some ⟨b, off, none⟩) n cap, .int .i64 A, .int .i64 B, .func (.func 170) #[] #[]] w fun e w' => e = .returned (.tuple #[]) ∧ ∃ S, RowAt recL w' b off (X ++ (S ++ Y)) ∧ Srt ltP S ∧ Stab ltP Z S ∧ Chg [b] w w' := by
 have hBn : B ≤ n := by rw [hn]; simp only [List.length_append]; omega
 have hLN : n = A + (Z.length + Y.length) := by rw [hn]; simp only [List.length_append]; omega
 have hAn : A ≤ n := by omega
 have HR := hid hr; have HX := hid hX; have HLN := hid hLN; have HZ := hid hZ
 clear hr hn hLN
 by_cases hz : Z.length = 0
 ·have hlt : ¬ (A : Int) + 1 < (B : Int) := by omega
  have HE := hid (List.eq_nil_of_length_eq_zero hz)
  clear hX hZ hz
  go_enter Tryz.func271, Tryz.ntmps271
  go_wp2_with fail
  go_loopw [8] (fun vi wr => vi = .int .i64 ((A : Int) + 1) ∧ wr = w) (fun _ _ => 0)
  case atStart => exact ⟨by go_num, rfl⟩
  case round =>
  obtain ⟨rfl, rfl⟩ := hrel
  go_wp2_with fail
  go_end0
  exact ⟨rfl, [], by rw [← HE.out]; exact HR.out, List.Pairwise.nil, by rw [HE.out]; exact Stab.refl _, Chg.refl _ _⟩
 ·have hAB : A + 1 ≤ B := by omega
  clear hX hZ hz
  go_enter Tryz.func271, Tryz.ntmps271
  go_wp2_with fail
  go_loopw [8] (fun vi wr => ∃ (i : Nat) (S : List RP) (Wr : World), Wr = wr ∧ A + 1 ≤ i ∧ i ≤ B ∧ vi = .int .i64 i ∧ RowAt recL wr b off (X ++ (S ++ (Z.drop (i - A) ++ Y))) ∧ Hid (Srt ltP S ∧ Stab ltP (Z.take (i - A)) S) ∧ Chg [b] w wr) (fun vi _ => B - (intOf vi).toNat)
  case atStart =>
   refine ⟨A + 1, Z.take 1, _, rfl, by omega, by omega, by go_num, ?_, ⟨?_, ?_⟩, Chg.refl _ _⟩
   ·rw [Nat.add_sub_cancel_left, ← List.append_assoc (Z.take 1), List.take_append_drop]; exact HR.out
   ·cases Z with
    | nil => exact List.Pairwise.nil
    | cons z Z => simp; exact List.pairwise_singleton _ _
   ·rw [Nat.add_sub_cancel_left]; exact Stab.refl _
  case round =>
   obtain ⟨i, S, wr, rfl, hi1, hi2, rfl, hrow, HSS, hch⟩ := hrel
   have HCH := hid hch
   by_cases hlt : i < B
   ·have hzl : i - A < Z.length := by have := HZ.out; omega
    obtain ⟨x, hx⟩ : ∃ x, x = Z[i - A] := ⟨_, rfl⟩
    obtain ⟨Y', hY'⟩ : ∃ Y', Y' = Z.drop (i - A + 1) ++ Y := ⟨_, rfl⟩
    have hsl : S.length = i - A := by have := HSS.out.2.1; rw [List.length_take] at this; omega
    have e0 : Z.drop (i - A) ++ Y = x :: Y' := by rw [List.drop_eq_getElem_cons hzl, hx, hY']; rfl
    rw [e0, ← thru_full (Y := Y') hsl.symm] at hrow
    have HRW := hid hrow; have HSL := hid hsl; have HY' := hid hY'
    have HXE := hid (show Z[i - A]? = some x by rw [List.getElem?_eq_getElem hzl, hx])
    have hpn : A + (i - A) + 1 + Y'.length = n := by have := HLN.out; rw [hY', List.length_append, List.length_drop]; omega
    have HPN := hid hpn
    clear hch hrow hx hY' hsl e0 hzl hpn
    go_wp2_with fail
    go_loopw [9] (fun vj wq => ∃ (j : Nat) (Wq : World), Wq = wq ∧ A ≤ j ∧ j ≤ i ∧ vj = .int .i64 j ∧ RowAt recL wq b off (thru X S Y' x (j - A)) ∧ Hid (∀ y ∈ S.drop (j - A), ltP x y = true) ∧ Chg [b] w wq) (fun vj _ => (intOf vj).toNat)
    case atStart => exact ⟨i, _, rfl, by omega, by omega, rfl, HRW.out, hid (show ∀ y ∈ S.drop (i - A), ltP x y = true from fun y hy => by rw [List.drop_eq_nil_of_le (by have := HSL.out; omega)] at hy; cases hy), HCH.out⟩
    case round =>
     clear HCH HRW
     obtain ⟨j, wq, rfl, hj1, hj2, rfl, hrow, HDR, hch⟩ := hrel
     have HCH := hid hch
     have hln : (thru X S Y' x (j - A)).length = n := by rw [thru_len, HX.out, HSL.out]; exact HPN.out
     by_cases hja : A < j
     ·have hjk : j - A - 1 < S.length := by have := HSL.out; omega
      have hk : j - A = (j - A - 1) + 1 := by omega
      obtain ⟨q, hqe⟩ : ∃ q, q = S[j - A - 1] := ⟨_, rfl⟩
      have hp : (thru X S Y' x (j - A))[j]? = some x := by
       have := thru_at (A := X) (S := S) (B := Y') (x := x) (k := j - A) (by have := HSL.out; omega)
       rwa [HX.out, show A + (j - A) = j by omega] at this
      have hq : (thru X S Y' x (j - A))[j - 1]? = some q := by
       have := thru_prev (A := X) (B := Y') (x := x) hjk
       rw [← hk, HX.out, show A + (j - A - 1) = j - 1 by omega] at this
       rw [this, hqe]
      have hrd := row_ind hrow
      have HROW := hid hrow
      have hgt : (A : Int) < (j : Int) := by omega
      obtain ⟨y, hy⟩ : ∃ y, y = j - 1 := ⟨_, rfl⟩
      have hwy : IntKind.i64.wrap ((j : Int) - 1) = (y : Int) := by rw [IntWalk.i64_in _ ⟨by omega, by omega⟩]; omega
      have h1 : j < n := by omega
      have h2 : y < n := by omega
      rw [← hy] at hq
      have HY := hid hy; have HQE := hid (show S[j - A - 1]? = some q by rw [List.getElem?_eq_getElem hjk, hqe]); have HK0 := hid hk
      clear hch hrow hy hqe hk
      cases hl : ltP x q
      ·have HNL := hid hl
       go_wp2_with fail
       obtain ⟨c1, r1, -, k1⟩ := rec_look hrd hp
       obtain ⟨c2, r2, -, k2⟩ := rec_look hrd hq
       have HK := hid (And.intro k1 k2); have HRD := hid hrd; have HPQ := hid (And.intro hp hq); have HRC := hid (HCMP.out _ _ _ _ _ _ _ r1 r2)
       clear r1 r2 k1 k2 hp hq hrd
       obtain ⟨SS, HSI, HSO⟩ := rg_cond (fun w' => Celled w' b (off + (j) * 9) 9 c1 ∧ Celled w' b (off + (y) * 9) 9 c2)
       have hS0 := HSI.out _ HK.out
       refine rg_start SS (by kernel_rfl) hS0 ?_
       refine rgT 0 hS0 ?_
       refine rgT 1 hS0 ?_
       refine rgT 2 hS0 ?_
       refine rgT 3 hS0 ?_
       refine rgT 4 hS0 ?_
       refine rgT 5 hS0 ?_
       refine rgT 6 hS0 ?_
       refine rgT 7 hS0 ?_
       refine rgL 8 hS0 HSO ?_ (hy := fun w' hw => exec_row _ 67 rfl rfl infoRc Tryz.underlying67 hw.1)
       refine rgT 9 hS0 ?_
       refine rgT 10 hS0 ?_
       refine rgT 11 hS0 ?_
       refine rgT 12 hS0 ?_
       refine rgL 13 hS0 HSO ?_ (hy := fun w' hw => exec_row _ 67 rfl rfl infoRc Tryz.underlying67 hw.2)
       refine rg_call 14 rfl (by kernel_rfl) (fun K hK => ?_)
       go_simp
       go_at_call 170
       refine HRC.out.mono ?_
       rintro e w1 ⟨r, rfl, hrr, hc1⟩
       have hr0 := cmp_r hl hrr
       have HR1 := hid (HRD.out.ext hc1); have HC1 := hid (HCH.out.drew.trans0 hc1); have HK1 := hid (And.intro (HK.out.1.ext hc1 HRD.out.lt) (HK.out.2.ext hc1 HRD.out.lt))
       clear hc1 hrr
       go_wp2_with fail
       refine hK.out _ _ (HSI.out _ HK1.out) (fun hS1 => ?_)
       clear hK K
       try simp only [Act.put, pA, pB, pC]
       refine rgT 15 hS1 ?_
       refine rgT 16 hS1 ?_
       refine wpAnyH_done (by kernel_rfl) ?_ _
       go_wp2_with fail
       have hend := ins_end (X := X) (Y := Y') (k := j - A) HSS.out.1 HSS.out.2 HDR.out (by
        have e := (List.getElem?_eq_some_iff.1 HQE.out).2
        have := ins_stop HSS.out.1 hjk (x := x) (by rw [e]; exact HNL.out)
        rwa [← HK0.out] at this)
       obtain ⟨S', e1, s1, b1⟩ := hend
       have hrow2 := HR1.out
       rw [e1, HY'.out] at hrow2
       rw [← take_next HXE.out, show i - A + 1 = i + 1 - A by omega] at b1
       rw [show i - A + 1 = i + 1 - A by omega] at hrow2
       have HRW2 := hid hrow2; have HSS2 := hid (And.intro s1 b1)
       clear e1 s1 b1 hrow2
       go_wp2_with fail
       go_roundw
       case rel => exact ⟨i + 1, S', _, rfl, by omega, by omega, by go_num, HRW2.out, HSS2, HC1.out⟩
       case measure => simp [intOf]; omega
      ·have HL1 := hid hl
       go_wp2_with fail
       obtain ⟨c1, r1, -, k1⟩ := rec_look hrd hp
       obtain ⟨c2, r2, -, k2⟩ := rec_look hrd hq
       have HK := hid (And.intro k1 k2); have HRD := hid hrd; have HPQ := hid (And.intro hp hq); have HRC := hid (HCMP.out _ _ _ _ _ _ _ r1 r2)
       clear r1 r2 k1 k2 hp hq hrd
       obtain ⟨SS, HSI, HSO⟩ := rg_cond (fun w' => Celled w' b (off + (j) * 9) 9 c1 ∧ Celled w' b (off + (y) * 9) 9 c2)
       have hS0 := HSI.out _ HK.out
       refine rg_start SS (by kernel_rfl) hS0 ?_
       refine rgT 0 hS0 ?_
       refine rgT 1 hS0 ?_
       refine rgT 2 hS0 ?_
       refine rgT 3 hS0 ?_
       refine rgT 4 hS0 ?_
       refine rgT 5 hS0 ?_
       refine rgT 6 hS0 ?_
       refine rgT 7 hS0 ?_
       refine rgL 8 hS0 HSO ?_ (hy := fun w' hw => exec_row _ 67 rfl rfl infoRc Tryz.underlying67 hw.1)
       refine rgT 9 hS0 ?_
       refine rgT 10 hS0 ?_
       refine rgT 11 hS0 ?_
       refine rgT 12 hS0 ?_
       refine rgL 13 hS0 HSO ?_ (hy := fun w' hw => exec_row _ 67 rfl rfl infoRc Tryz.underlying67 hw.2)
       refine rg_call 14 rfl (by kernel_rfl) (fun K hK => ?_)
       go_simp
       go_at_call 170
       refine HRC.out.mono ?_
       rintro e w1 ⟨r, rfl, hrr, hc1⟩
       have hr0 := cmp_r hl hrr
       have HR1 := hid (HRD.out.ext hc1); have HC1 := hid (HCH.out.drew.trans0 hc1); have HK1 := hid (And.intro (HK.out.1.ext hc1 HRD.out.lt) (HK.out.2.ext hc1 HRD.out.lt))
       clear hc1 hrr
       go_wp2_with fail
       refine hK.out _ _ (HSI.out _ HK1.out) (fun hS1 => ?_)
       clear hK K
       try simp only [Act.put, pA, pB, pC]
       refine rgT 15 hS1 ?_
       refine rgT 16 hS1 ?_
       refine wpAnyH_done (by kernel_rfl) ?_ _
       go_wp2_with fail
       have hp := HPQ.out.1; have hq := HPQ.out.2
       have hrd := row_ind HR1.out
       clear HRD HK HPQ HRC HK1 HROW HCH
       have HCH := HC1
       obtain ⟨cp, rp, bp, kp⟩ := rec_look hrd hp
       obtain ⟨cq, rq, bq, kq⟩ := rec_look hrd hq
       have HSW := hid (rec_swap hrd hp hq rp rq bp bq)
       have HRD := hid hrd; have HPQ := hid (And.intro hp hq); have HKP := hid kp; have HKQ := hid kq
       clear rp rq bp bq kp kq hp hq hrd
       obtain ⟨CC, HCI, HCO⟩ := rg_cond (fun w' => Celled w' b (off + (j) * 9) 9 cp ∧ Celled w' b (off + (y) * 9) 9 cq)
       refine gg_start [15, 17] CC (by kernel_rfl) (HCI.out _ ⟨HKP.out, HKQ.out⟩) (fun hcl hS => ?_)
       refine ggT 0 hcl hS ?_; clear hcl hS; intro hcl hS
       refine ggT 1 hcl hS ?_; clear hcl hS; intro hcl hS
       refine ggT 2 hcl hS ?_; clear hcl hS; intro hcl hS
       refine ggT 3 hcl hS ?_; clear hcl hS; intro hcl hS
       refine ggT 4 hcl hS ?_; clear hcl hS; intro hcl hS
       refine ggT 5 hcl hS ?_; clear hcl hS; intro hcl hS
       refine ggT 6 hcl hS ?_; clear hcl hS; intro hcl hS
       refine ggT 7 hcl hS ?_; clear hcl hS; intro hcl hS
       refine ggT 8 hcl hS ?_; clear hcl hS; intro hcl hS
       refine ggL 9 hcl hS HCO ?_ (hy := fun w' hw => exec_row _ 67 rfl rfl infoRc Tryz.underlying67 hw.2); clear hcl hS; intro hcl hS
       refine ggT 10 hcl hS ?_; clear hcl hS; intro hcl hS
       refine ggT 11 hcl hS ?_; clear hcl hS; intro hcl hS
       refine ggT 12 hcl hS ?_; clear hcl hS; intro hcl hS
       refine ggL 13 hcl hS HCO ?_ (hy := fun w' hw => exec_row _ 67 rfl rfl infoRc Tryz.underlying67 hw.1); clear hcl hS; intro hcl hS
       refine ggT 14 hcl hS ?_; clear hcl hS; intro hcl hS
       refine ggC 15 hcl rfl (by kernel_rfl) (fun K hK => ?_)
       refine store_rowS (cs := cq) rfl _ _ 67 rfl rfl rfl infoRc (rec_some HRD.out (i := j) (by first | omega | (rw [List.length_set]; omega))) (RowAt.free HRD.out) HKQ.out.1 HKQ.out.2.2 ?_
       refine hK.out _ _ (Till.done (m := 15) (by simp) (by rfl)) ?_
       clear hK K hcl hS
       intro hcl hS
       try simp only [Act.put]
       refine ggT 16 hcl hS ?_; clear hcl hS; intro hcl hS
       refine ggC 17 hcl rfl (by kernel_rfl) (fun K hK => ?_)
       refine store_rowS (cs := cp) rfl _ _ 67 rfl rfl rfl infoRc (rec_some HSW.out.1 (i := y) (by first | omega | (rw [List.length_set]; omega))) (RowAt.free HSW.out.1) HKP.out.1 HKP.out.2.2 ?_
       refine hK.out _ _ (Till.done (m := 15) (by simp) (by rfl)) ?_
       clear hK K hcl hS
       intro hcl hS
       try simp only [Act.put]
       refine ggEnd (by kernel_rfl) ?_ _
       go_wp2_with fail
       have e := (List.getElem?_eq_some_iff.1 HQE.out).2
       have hrow3 := HSW.out.2
       have hdn := thru_down (A := X) (B := Y') (x := x) hjk
       rw [← HK0.out, HX.out, e, show A + (j - A - 1) + 1 = j by omega, show A + (j - A - 1) = y by have := HY.out; omega] at hdn
       rw [hdn, show j - A - 1 = y - A by have := HY.out; omega] at hrow3
       have HRW3 := hid hrow3; have HCC := hid (chg_sw (k1 := off + j * 9) (k2 := off + y * 9) (c1 := cq) (c2 := cp) HCH.out)
       have HDR3 := hid (show ∀ z ∈ S.drop (y - A), ltP x z = true by
        have := ins_go hjk (x := x) (by rw [← HK0.out]; exact HDR.out) (by rw [e]; exact HL1.out)
        rwa [show j - A - 1 = y - A by have := HY.out; omega] at this)
       have hyy := HY.out
       clear hrow3 hdn e
       go_roundw
       case rel => exact ⟨y, _, rfl, by omega, by omega, by go_num, HRW3.out, HDR3, HCC.out⟩
       case measure => simp [intOf]; omega
     ·have hle : ¬ (A : Int) < (j : Int) := by omega
      obtain rfl : j = A := by omega
      have HROW := hid hrow
      clear hch hrow
      go_wp2_with fail
      obtain ⟨SS, HSI, HSO⟩ := rg_cond (fun _ : World => True)
      have hS0 := HSI.out wq.drew trivial
      refine rg_start SS (by kernel_rfl) hS0 ?_
      refine rgT 0 hS0 ?_
      refine rgT 1 hS0 ?_
      refine rgT 2 hS0 ?_
      refine rgT 3 hS0 ?_
      refine rgS 4 hS0 ?_
      refine rgS 5 hS0 ?_
      refine rgS 6 hS0 ?_
      refine rgS 7 hS0 ?_
      refine rgS 8 hS0 ?_
      refine rgS 9 hS0 ?_
      refine rgS 10 hS0 ?_
      refine rgS 11 hS0 ?_
      refine rgS 12 hS0 ?_
      refine rgS 13 hS0 ?_
      refine rgS 14 hS0 ?_
      refine rgS 15 hS0 ?_
      refine rgT 16 hS0 ?_
      refine wpAnyH_done (by kernel_rfl) ?_ _
      go_wp2_with fail
      have hend := ins_end (X := X) (Y := Y') (k := j - j) HSS.out.1 HSS.out.2 HDR.out (fun z hz => by rw [Nat.sub_self, List.take_zero] at hz; cases hz)
      obtain ⟨S', e1, s1, b1⟩ := hend
      have hrow2 := row_ind HROW.out
      rw [e1, HY'.out] at hrow2
      rw [← take_next HXE.out, show i - j + 1 = i + 1 - j by omega] at b1
      rw [show i - j + 1 = i + 1 - j by omega] at hrow2
      have HRW2 := hid hrow2; have HSS2 := hid (And.intro s1 b1); have HCC := hid HCH.out.drew
      clear e1 s1 b1 hrow2
      go_wp2_with fail
      go_roundw
      case rel => exact ⟨i + 1, S', _, rfl, by omega, by omega, by go_num, HRW2.out, HSS2, HCC.out⟩
      case measure => simp [intOf]; omega
   ·obtain rfl : i = B := by omega
    have hzz : Z.length = i - A := by have := HZ.out; omega
    rw [List.drop_eq_nil_of_le (by omega), List.nil_append] at hrow
    have HRW := hid hrow; have HST := hid (show Stab ltP Z S by have := HSS.out.2; rwa [List.take_of_length_le (by omega)] at this)
    clear hch hrow hzz
    go_wp2_with fail
    go_end0
    exact ⟨rfl, S, HRW.out, HSS.out.1, HST.out, HCH.out⟩
end Go.Proofs.YtphmpimgbmedbaaGreat
namespace Go.Proofs.YtphmpimgbmedbaaGreat
open Go.RowKit
open Go.Lib (hid)
noncomputable def Wld.up (x : Wld) : Int := if x.fault = 0 then (if x.down = true then 9 else 0) else x.fault
def Wld.cut (x : Wld) : Wld := { x with down := true, on := [] }
def Wld.tape (x : Wld) (t : Int) : Tap := x.tapes.getD t.toNat ⟨false, []⟩
/-! ### how much there is of it -/
theorem recLt_ordr : Ordr recLt := by
 refine ⟨fun x => ?_, fun x y z h k => ?_, fun x y z h k => ?_⟩ <;> simp only [recLt, decide_eq_true_eq, decide_eq_false_iff_not] at * <;> omega
noncomputable def dedF : List Rec → List Rec → List Rec
 | acc, [] => acc
 | acc, r :: rs => dedF (if acc.any (fun y => sameV y r) then acc else acc ++ [r]) rs
noncomputable def dedS (acc : List Rec) (r : Rec) : List Rec := if acc.any (fun y => sameV y r) then acc else acc ++ [r]
theorem dedF_app : ∀ (rs qs acc : List Rec), dedF acc (rs ++ qs) = dedF (dedF acc rs) qs
 | [], _, _ => rfl
 | _ :: rs, qs, _ => dedF_app rs qs _
theorem dedF_next {acc : List Rec} {rs : List Rec} {k : Nat} {r : Rec} (h : rs[k]? = some r) : dedF acc (rs.take (k + 1)) = dedS (dedF acc (rs.take k)) r := by
 rw [take_next h, dedF_app]; rfl
theorem dedS_len (acc : List Rec) (r : Rec) : (dedS acc r).length ≤ acc.length + 1 := by
 unfold dedS; split
 ·omega
 ·simp
theorem dedF_len : ∀ (rs acc : List Rec), (dedF acc rs).length ≤ acc.length + rs.length
 | [], _ => Nat.le_refl _
 | r :: rs, acc => by
  have h1 := dedF_len rs (dedS acc r)
  have h2 := dedS_len acc r
  show (dedF (dedS acc r) rs).length ≤ _
  rw [List.length_cons]; omega
theorem dedF_mem : ∀ (rs acc : List Rec) (x : Rec), x ∈ dedF acc rs → x ∈ acc ∨ x ∈ rs
 | [], _, _, h => .inl h
 | r :: rs, acc, x, h => by
  have h1 := dedF_mem rs (dedS acc r) x h
  rcases h1 with h1 | h1
  ·unfold dedS at h1
   split at h1
   ·exact .inl h1
   ·rcases List.mem_append.1 h1 with h2 | h2
    ·exact .inl h2
    ·rw [List.mem_singleton] at h2; exact .inr (by rw [h2]; simp)
  ·exact .inr (List.mem_cons_of_mem _ h1)
def insB (r : Rec) : List Rec → List Rec
 | [] => [r]
 | y :: ys => if recLt r y then r :: y :: ys else y :: insB r ys
theorem insB_form (r : Rec) : ∀ {out : List Rec}, Srt recLt out → ∃ k, insB r out = out.take k ++ (r :: out.drop k) ∧ (∀ x ∈ out.drop k, recLt r x = true) ∧ (∀ x ∈ out.take k, recLt r x = false)
 | [], _ => ⟨0, rfl, by simp, by simp⟩
 | y :: ys, hs => by
  unfold insB
  cases h : recLt r y
  ·obtain ⟨k, e, h1, h2⟩ := insB_form r (List.Pairwise.of_cons hs)
   refine ⟨k + 1, by simp [e], by simpa using h1, fun x hx => ?_⟩
   rw [List.take_succ_cons] at hx
   rcases List.mem_cons.1 hx with rfl | hx
   ·exact h
   ·exact h2 x hx
  ·refine ⟨0, by simp, fun x hx => ?_, by simp⟩
   rw [List.drop_zero] at hx
   rcases List.mem_cons.1 hx with rfl | hx
   ·exact h
   ·exact recLt_ordr.lt_le h (List.rel_of_pairwise_cons hs hx)
def isort (l : List Rec) : List Rec := l.foldl (fun o r => insB r o) []
theorem isort_ok (l : List Rec) : Srt recLt (isort l) ∧ Stab recLt l (isort l) := by
 unfold isort
 have h : ∀ (l o z : List Rec), Srt recLt o → Stab recLt z o → Srt recLt (l.foldl (fun o r => insB r o) o) ∧ Stab recLt (z ++ l) (l.foldl (fun o r => insB r o) o) := by
  intro l
  induction l with
  | nil => intro o z h1 h2; rw [List.append_nil]; exact ⟨h1, h2⟩
  | cons r rs ih =>
   intro o z h1 h2
   obtain ⟨k, e, k1, k2⟩ := insB_form r h1
   have h3 := ins_srt recLt_ordr h1 k1 k2
   have h4 := (h2.app (Stab.refl [r])).trans (ins_stab recLt_ordr k1)
   have h5 := ih (insB r o) (z ++ [r]) (by rw [e]; exact h3) (by rw [e]; exact h4)
   rw [List.append_assoc] at h5
   exact h5
 have := h l [] [] List.Pairwise.nil (Stab.refl _)
 simpa using this
noncomputable def cntL (ts : List Tap) : List Rec := isort (dedF [] (ts.flatMap (·.recs)))
theorem cnt_uniq {rs ys : List Rec} (h : Srt recLt ys) (k : Stab recLt (dedF [] rs) ys) : ys = isort (dedF [] rs) :=
 Stab.uniq recLt_ordr h (isort_ok _).1 k (isort_ok _).2
theorem filter_map' {α β : Type} (f : α → β) (p : β → Bool) : ∀ l : List α, (l.map f).filter p = (l.filter (fun a => p (f a))).map f
 | [] => rfl
 | a :: l => by
  rw [List.map_cons, List.filter_cons, List.filter_cons, filter_map' f p l]
  split <;> rfl
theorem srt_fst {qs : List RP} (h : Srt ltP qs) : Srt recLt (qs.map (·.1)) := List.pairwise_map.2 h
theorem stab_fst {ps qs : List RP} (h : Stab ltP ps qs) : Stab recLt (ps.map (·.1)) (qs.map (·.1)) := by
 refine ⟨by rw [List.length_map, List.length_map]; exact h.1, fun x => ?_⟩
 rw [filter_map', filter_map']
 have := h.2 (x, [])
 exact congrArg (List.map (·.1)) this
theorem any_mem {l1 l2 : List Rec} (p : Rec → Bool) (h : ∀ x, x ∈ l1 ↔ x ∈ l2) : l1.any p = l2.any p := by
 rw [Bool.eq_iff_iff, List.any_eq_true, List.any_eq_true]
 constructor <;> rintro ⟨x, h1, h2⟩
 ·exact ⟨x, (h x).1 h1, h2⟩
 ·exact ⟨x, (h x).2 h1, h2⟩
theorem cntL_len (ts : List Tap) : (cntL ts).length ≤ (ts.flatMap (·.recs)).length := by
 have h1 := (isort_ok (dedF [] (ts.flatMap (·.recs)))).2.1
 have h2 := dedF_len (ts.flatMap (·.recs)) []
 unfold cntL
 rw [h1]; simpa using h2
theorem cntL_mem {ts : List Tap} {x : Rec} (h : x ∈ cntL ts) : ∃ t ∈ ts, x ∈ t.recs := by
 have h1 := ((isort_ok (dedF [] (ts.flatMap (·.recs)))).2.mem recLt_ordr).1 h
 rcases dedF_mem _ _ _ h1 with h2 | h2
 ·cases h2
 ·exact List.mem_flatMap.1 h2
def Shr (n0 : Nat) (w : World) (v : Value) (xs : List Rec) : Prop := ∃ g fps, recL.os 67 w v xs (some g) fps ∧ n0 ≤ g ∧ ∀ y ∈ fps, y < n0
theorem Shr.ext {n0 : Nat} {w w' : World} {v : Value} {xs : List Rec} (h : Shr n0 w v xs) (hc : Chg [] w w') : Shr n0 w' v xs := by
 obtain ⟨g, fps, h1, h2, h3⟩ := h
 exact ⟨g, fps, recL.os_ext h1 hc, h2, h3⟩
theorem Shr.made {n0 : Nat} {w : World} (h : n0 ≤ w.heap.size) : Shr n0 (w.alloc (.cells #[] 67)) (.slice (some ⟨w.heap.size, 0, none⟩) 0 0) [] :=
 ⟨w.heap.size, [], recL.os_made 67 w #[] 0 (by simp [maxLen]) (by simp), h, by simp⟩
theorem Shr.sl {n0 : Nat} {w : World} {v : Value} {xs : List Rec} (h : Shr n0 w v xs) : ∃ g cap fps, v = .slice (some ⟨g, 0, none⟩) xs.length cap ∧ recL.sl w (some ⟨g, 0, none⟩) xs.length cap xs (g :: fps) ∧ Loose w g ∧ n0 ≤ g ∧ ∀ y ∈ fps, y < n0 := by
 obtain ⟨g, fps, h1, h2, h3⟩ := h
 have hlo := recL.os_loose h1 g rfl
 obtain ⟨a, cap, rfl, hs⟩ := recL.os_sl h1
 rcases h1 with ⟨e, -, e2, -⟩ | ⟨g', cap', cur, e, e2, hrest⟩
 ·cases e2
 ·obtain rfl : g = g' := Option.some.inj e2
  cases e
  exact ⟨g, cap, fps, rfl, hs, hlo, h2, h3⟩
theorem Shr.row {n0 : Nat} {w : World} {v : Value} {xs : List Rec} (h : Shr n0 w v xs) : ∃ g cap ps, v = .slice (some ⟨g, 0, none⟩) xs.length cap ∧ RowAt recL w g 0 ps ∧ ps.map (·.1) = xs ∧ n0 ≤ g ∧ xs.length ≤ cap ∧ cap ≤ maxLen ∧ ∀ p ∈ ps, ∀ y ∈ p.2, y < n0 := by
 obtain ⟨g, cap, fps, rfl, hs, hlo, h2, h3⟩ := h.sl
 have hc := hs.2.1; have hm := hs.2.2.1
 obtain ⟨ps, hr, e1, e2⟩ := Lay.sl_row hs hlo ⟨fps, rfl, fun hm => by have := h3 g hm; omega⟩
 refine ⟨g, cap, ps, rfl, hr, e1, h2, hc, hm, fun p hp y hy => h3 y ?_⟩
 rw [(List.cons.inj e2).2]
 exact List.mem_flatMap.2 ⟨p, hp, hy⟩
def IdxOf {α : Type} (q : α → Bool) (xs : List α) (r : Int) : Prop := (r = -1 ∧ xs.any q = false) ∨ ∃ j : Nat, r = j ∧ (∃ x, xs[j]? = some x ∧ q x = true) ∧ ∀ (i : Nat) x, i < j → xs[i]? = some x → q x = false
theorem IdxOf.ge {α : Type} {q : α → Bool} {xs : List α} {r : Int} (h : IdxOf q xs r) : decide (0 ≤ r) = xs.any q := by
 rcases h with ⟨rfl, h⟩ | ⟨j, rfl, ⟨x, hx, hq⟩, _⟩
 ·rw [h]; rfl
 ·rw [List.any_eq_true.2 ⟨x, List.mem_of_getElem? hx, hq⟩]; exact decide_eq_true (Int.natCast_nonneg j)
def TestsBlock (k : Nat) (caps : Array Value) (q : Blk → Bool) (xs : List Blk) (w : World) : Prop :=
 ∀ (x : Blk) (a1 : Option Addr) (l1 c1 : Nat) (f : List Nat) (w1 : World), x ∈ xs → Chg [] w w1 → blkL.rep w1 [.int .i64 x.stamp, .slice a1 l1 c1] x f → Calls Tryz.prog k (#[.agg #[.int .i64 x.stamp, .slice a1 l1 c1]] ++ caps) w1 fun e w' => e = .returned (.bool (q x)) ∧ Chg [] w1 w'
set_option maxRecDepth 100000 in
set_option maxHeartbeats 1000000 in
theorem idxBlock_any (k : Nat) (caps : Array Value) (q : Blk → Bool) (a : Option Addr) (la ca : Nat) (xs : List Blk) (f : List Nat) (w : World) (ha : blkL.sl w a la ca xs f) (hcf : ∀ (args : Array Value) (w : World), (callFunc k args).run Tryz.prog w = .ok (.enter k args) w) (hq : TestsBlock k caps q xs w) :
  Calls Tryz.prog 256 #[.slice a la ca, .func (.func k) #[] caps] w fun e w' => ∃ r : Int, e = .returned (.int .i64 r) ∧ Hid (IdxOf q xs r) ∧ Chg [] w w' := by
 have hla := blkL.sl_max ha
 have HA := hid ha
 have HL := hid ha.1
 have HQ := hid hq
 clear ha hq
 go_enter Tryz.func256, Tryz.ntmps256
 go_wp2
 go_loopw [5, 8] (fun _ i wr => ∃ (j : Nat) (Wr : World), Wr = wr ∧ j ≤ la ∧ i = .int .i64 j ∧ Hid (∀ (i : Nat) x, i < j → xs[i]? = some x → q x = false) ∧ Chg [] w wr) (fun _ i _ => la - (intOf i).toNat)
 case atStart => exact ⟨0, _, rfl, by omega, rfl, fun j x hj => by omega, Chg.refl _ _⟩
 case round =>
  obtain ⟨j, wr, rfl, hj, rfl, HK, hc⟩ := hrel
  have HC := hid hc
  by_cases hlt : j < la
  ·obtain ⟨x, b, off, a1, l1, c1, fx, HX, rfl, hc0, hc1, HXS⟩ := block_at (blkL.sl_ext HA.out hc) hlt
   have HT := hid (HQ.out x a1 l1 c1 fx wr (List.mem_of_getElem? HX.out.1) HC.out HXS.out)
   clear hc
   cases hqx : q x
   ·rw [hqx] at HT
    have HK2 := hid (show ∀ (i : Nat) y, i < j + 1 → xs[i]? = some y → q y = false from fun i y hi hy => by
     by_cases e : i = j
     ·subst e; rw [Option.some.inj (hy.symm.trans HX.out.1)]; exact hqx
     ·exact HK.out i y (by omega) hy)
    clear hqx
    go_wp2_with fail
    refine HT.out.mono ?_
    rintro e w1 ⟨rfl, hc1⟩
    have HC1 := hid (HC.out.trans0 hc1)
    clear hc1
    go_wp2_with fail
    go_roundw
    case rel => exact ⟨j + 1, _, rfl, by omega, by go_num, HK2, HC1.out⟩
    case measure => simp [intOf]; omega
   ·rw [hqx] at HT
    have HR := hid (show IdxOf q xs (j : Int) from .inr ⟨j, rfl, ⟨x, HX.out.1, hqx⟩, HK.out⟩)
    clear hqx
    go_wp2_with fail
    refine HT.out.mono ?_
    rintro e w1 ⟨rfl, hc1⟩
    have HC1 := hid (HC.out.trans0 hc1)
    clear hc1
    go_wp2_with fail
    go_ret
    exact ⟨_, rfl, HR, HC1.out⟩
  ·obtain rfl : j = la := by omega
   have HR := hid (show IdxOf q xs (-1) from .inl ⟨rfl, by
    rw [List.any_eq_false]
    intro x hx h1
    obtain ⟨i, hi, rfl⟩ := List.getElem_of_mem hx
    have h2 := HK.out i _ (by have := HL.out; omega) (List.getElem?_eq_getElem hi)
    rw [h2] at h1; cases h1⟩)
   clear hc
   go_wp2
   go_ret
   exact ⟨_, rfl, HR, HC.out⟩
set_option maxHeartbeats 400000 in
theorem contBlock_any (k : Nat) (caps : Array Value) (q : Blk → Bool) (a : Option Addr) (la ca : Nat) (xs : List Blk) (f : List Nat) (w : World) (ha : blkL.sl w a la ca xs f) (hcf : ∀ (args : Array Value) (w : World), (callFunc k args).run Tryz.prog w = .ok (.enter k args) w) (hq : TestsBlock k caps q xs w) :
  Calls Tryz.prog 218 #[.slice a la ca, .func (.func k) #[] caps] w fun e w' => e = .returned (.bool (xs.any q)) ∧ Chg [] w w' := by
 have HI := hid (idxBlock_any k caps q a la ca xs f w ha hcf hq)
 clear ha hq hcf
 go_enter Tryz.func218, Tryz.ntmps218
 go_wp2_with fail
 refine HI.out.mono ?_
 rintro e w1 ⟨r, rfl, HR, hc1⟩
 have HC1 := hid hc1
 have HD := hid HR.out.ge
 clear hc1
 go_wp2_with fail
 go_ret
 refine ⟨?_, HC1.out⟩
 rw [← HD.out]
 rfl
def TestsTape (k : Nat) (caps : Array Value) (q : Tap → Bool) (xs : List Tap) (w : World) : Prop :=
 ∀ (x : Tap) (a1 : Option Addr) (l1 c1 : Nat) (f : List Nat) (w1 : World), x ∈ xs → Chg [] w w1 → tapL.rep w1 [.bool x.wiped, .slice a1 l1 c1] x f → Calls Tryz.prog k (#[.agg #[.bool x.wiped, .slice a1 l1 c1]] ++ caps) w1 fun e w' => e = .returned (.bool (q x)) ∧ Chg [] w1 w'
set_option maxRecDepth 100000 in
set_option maxHeartbeats 1000000 in
theorem idxTape_any (k : Nat) (caps : Array Value) (q : Tap → Bool) (a : Option Addr) (la ca : Nat) (xs : List Tap) (f : List Nat) (w : World) (ha : tapL.sl w a la ca xs f) (hcf : ∀ (args : Array Value) (w : World), (callFunc k args).run Tryz.prog w = .ok (.enter k args) w) (hq : TestsTape k caps q xs w) :
  Calls Tryz.prog 257 #[.slice a la ca, .func (.func k) #[] caps] w fun e w' => ∃ r : Int, e = .returned (.int .i64 r) ∧ Hid (IdxOf q xs r) ∧ Chg [] w w' := by
 have hla := tapL.sl_max ha
 have HA := hid ha
 have HL := hid ha.1
 have HQ := hid hq
 clear ha hq
 go_enter Tryz.func257, Tryz.ntmps257
 go_wp2
 go_loopw [5, 8] (fun _ i wr => ∃ (j : Nat) (Wr : World), Wr = wr ∧ j ≤ la ∧ i = .int .i64 j ∧ Hid (∀ (i : Nat) x, i < j → xs[i]? = some x → q x = false) ∧ Chg [] w wr) (fun _ i _ => la - (intOf i).toNat)
 case atStart => exact ⟨0, _, rfl, by omega, rfl, fun j x hj => by omega, Chg.refl _ _⟩
 case round =>
  obtain ⟨j, wr, rfl, hj, rfl, HK, hc⟩ := hrel
  have HC := hid hc
  by_cases hlt : j < la
  ·obtain ⟨x, b, off, a1, l1, c1, fx, HX, rfl, hc0, hc1, HXS⟩ := tape_at (tapL.sl_ext HA.out hc) hlt
   have HT := hid (HQ.out x a1 l1 c1 fx wr (List.mem_of_getElem? HX.out.1) HC.out HXS.out)
   clear hc
   cases hqx : q x
   ·rw [hqx] at HT
    have HK2 := hid (show ∀ (i : Nat) y, i < j + 1 → xs[i]? = some y → q y = false from fun i y hi hy => by
     by_cases e : i = j
     ·subst e; rw [Option.some.inj (hy.symm.trans HX.out.1)]; exact hqx
     ·exact HK.out i y (by omega) hy)
    clear hqx
    go_wp2_with fail
    refine HT.out.mono ?_
    rintro e w1 ⟨rfl, hc1⟩
    have HC1 := hid (HC.out.trans0 hc1)
    clear hc1
    go_wp2_with fail
    go_roundw
    case rel => exact ⟨j + 1, _, rfl, by omega, by go_num, HK2, HC1.out⟩
    case measure => simp [intOf]; omega
   ·rw [hqx] at HT
    have HR := hid (show IdxOf q xs (j : Int) from .inr ⟨j, rfl, ⟨x, HX.out.1, hqx⟩, HK.out⟩)
    clear hqx
    go_wp2_with fail
    refine HT.out.mono ?_
    rintro e w1 ⟨rfl, hc1⟩
    have HC1 := hid (HC.out.trans0 hc1)
    clear hc1
    go_wp2_with fail
    go_ret
    exact ⟨_, rfl, HR, HC1.out⟩
  ·obtain rfl : j = la := by omega
   have HR := hid (show IdxOf q xs (-1) from .inl ⟨rfl, by
    rw [List.any_eq_false]
    intro x hx h1
    obtain ⟨i, hi, rfl⟩ := List.getElem_of_mem hx
    have h2 := HK.out i _ (by have := HL.out; omega) (List.getElem?_eq_getElem hi)
    rw [h2] at h1; cases h1⟩)
   clear hc
   go_wp2
   go_ret
   exact ⟨_, rfl, HR, HC.out⟩
set_option maxHeartbeats 400000 in
theorem contTape_any (k : Nat) (caps : Array Value) (q : Tap → Bool) (a : Option Addr) (la ca : Nat) (xs : List Tap) (f : List Nat) (w : World) (ha : tapL.sl w a la ca xs f) (hcf : ∀ (args : Array Value) (w : World), (callFunc k args).run Tryz.prog w = .ok (.enter k args) w) (hq : TestsTape k caps q xs w) :
  Calls Tryz.prog 220 #[.slice a la ca, .func (.func k) #[] caps] w fun e w' => e = .returned (.bool (xs.any q)) ∧ Chg [] w w' := by
 have HI := hid (idxTape_any k caps q a la ca xs f w ha hcf hq)
 clear ha hq hcf
 go_enter Tryz.func220, Tryz.ntmps220
 go_wp2_with fail
 refine HI.out.mono ?_
 rintro e w1 ⟨r, rfl, HR, hc1⟩
 have HC1 := hid hc1
 have HD := hid HR.out.ge
 clear hc1
 go_wp2_with fail
 go_ret
 refine ⟨?_, HC1.out⟩
 rw [← HD.out]
 rfl
def TestsRec (k : Nat) (caps : Array Value) (q : Rec → Bool) (xs : List Rec) (w : World) : Prop :=
 ∀ (x : Rec) (a6 : Option Addr) (l6 c6 : Nat) (a7 : Option Addr) (l7 c7 : Nat) (a8 : Option Addr) (l8 c8 : Nat) (f : List Nat) (w1 : World), x ∈ xs → Chg [] w w1 → recL.rep w1 [.int .i64 x.kind, .int .i64 x.seq, .string x.name, .int .i64 x.length, .int .i64 x.group, .int .i64 x.row, .slice a6 l6 c6, .slice a7 l7 c7, .slice a8 l8 c8] x f → Calls Tryz.prog k (#[.agg #[.int .i64 x.kind, .int .i64 x.seq, .string x.name, .int .i64 x.length, .int .i64 x.group, .int .i64 x.row, .slice a6 l6 c6, .slice a7 l7 c7, .slice a8 l8 c8]] ++ caps) w1 fun e w' => e = .returned (.bool (q x)) ∧ Chg [] w1 w'
set_option maxRecDepth 100000 in
set_option maxHeartbeats 1000000 in
theorem idxRec_any (k : Nat) (caps : Array Value) (q : Rec → Bool) (a : Option Addr) (la ca : Nat) (xs : List Rec) (f : List Nat) (w : World) (ha : recL.sl w a la ca xs f) (hcf : ∀ (args : Array Value) (w : World), (callFunc k args).run Tryz.prog w = .ok (.enter k args) w) (hq : TestsRec k caps q xs w) :
  Calls Tryz.prog 201 #[.slice a la ca, .func (.func k) #[] caps] w fun e w' => ∃ r : Int, e = .returned (.int .i64 r) ∧ Hid (IdxOf q xs r) ∧ Chg [] w w' := by
 have hla := recL.sl_max ha
 have HA := hid ha
 have HL := hid ha.1
 have HQ := hid hq
 clear ha hq
 go_enter Tryz.func201, Tryz.ntmps201
 go_wp2
 go_loopw [5, 8] (fun _ i wr => ∃ (j : Nat) (Wr : World), Wr = wr ∧ j ≤ la ∧ i = .int .i64 j ∧ Hid (∀ (i : Nat) x, i < j → xs[i]? = some x → q x = false) ∧ Chg [] w wr) (fun _ i _ => la - (intOf i).toNat)
 case atStart => exact ⟨0, _, rfl, by omega, rfl, fun j x hj => by omega, Chg.refl _ _⟩
 case round =>
  obtain ⟨j, wr, rfl, hj, rfl, HK, hc⟩ := hrel
  have HC := hid hc
  by_cases hlt : j < la
  ·obtain ⟨x, b, off, a6, l6, c6, a7, l7, c7, a8, l8, c8, fx, HX, rfl, hc0, hc1, hc2, hc3, hc4, hc5, hc6, hc7, hc8, HXS⟩ := rec_at (recL.sl_ext HA.out hc) hlt
   have HT := hid (HQ.out x a6 l6 c6 a7 l7 c7 a8 l8 c8 fx wr (List.mem_of_getElem? HX.out.1) HC.out HXS.out)
   clear hc
   cases hqx : q x
   ·rw [hqx] at HT
    have HK2 := hid (show ∀ (i : Nat) y, i < j + 1 → xs[i]? = some y → q y = false from fun i y hi hy => by
     by_cases e : i = j
     ·subst e; rw [Option.some.inj (hy.symm.trans HX.out.1)]; exact hqx
     ·exact HK.out i y (by omega) hy)
    clear hqx
    go_wp2_with fail
    refine HT.out.mono ?_
    rintro e w1 ⟨rfl, hc1⟩
    have HC1 := hid (HC.out.trans0 hc1)
    clear hc1
    go_wp2_with fail
    go_roundw
    case rel => exact ⟨j + 1, _, rfl, by omega, by go_num, HK2, HC1.out⟩
    case measure => simp [intOf]; omega
   ·rw [hqx] at HT
    have HR := hid (show IdxOf q xs (j : Int) from .inr ⟨j, rfl, ⟨x, HX.out.1, hqx⟩, HK.out⟩)
    clear hqx
    go_wp2_with fail
    refine HT.out.mono ?_
    rintro e w1 ⟨rfl, hc1⟩
    have HC1 := hid (HC.out.trans0 hc1)
    clear hc1
    go_wp2_with fail
    go_ret
    exact ⟨_, rfl, HR, HC1.out⟩
  ·obtain rfl : j = la := by omega
   have HR := hid (show IdxOf q xs (-1) from .inl ⟨rfl, by
    rw [List.any_eq_false]
    intro x hx h1
    obtain ⟨i, hi, rfl⟩ := List.getElem_of_mem hx
    have h2 := HK.out i _ (by have := HL.out; omega) (List.getElem?_eq_getElem hi)
    rw [h2] at h1; cases h1⟩)
   clear hc
   go_wp2
   go_ret
   exact ⟨_, rfl, HR, HC.out⟩
set_option maxHeartbeats 400000 in
theorem contRec_any (k : Nat) (caps : Array Value) (q : Rec → Bool) (a : Option Addr) (la ca : Nat) (xs : List Rec) (f : List Nat) (w : World) (ha : recL.sl w a la ca xs f) (hcf : ∀ (args : Array Value) (w : World), (callFunc k args).run Tryz.prog w = .ok (.enter k args) w) (hq : TestsRec k caps q xs w) :
  Calls Tryz.prog 235 #[.slice a la ca, .func (.func k) #[] caps] w fun e w' => e = .returned (.bool (xs.any q)) ∧ Chg [] w w' := by
 have HI := hid (idxRec_any k caps q a la ca xs f w ha hcf hq)
 clear ha hq hcf
 go_enter Tryz.func235, Tryz.ntmps235
 go_wp2_with fail
 refine HI.out.mono ?_
 rintro e w1 ⟨r, rfl, HR, hc1⟩
 have HC1 := hid hc1
 have HD := hid HR.out.ge
 clear hc1
 go_wp2_with fail
 go_ret
 refine ⟨?_, HC1.out⟩
 rw [← HD.out]
 rfl

theorem sumI_insB (f : Rec → Int) (r : Rec) : ∀ ys : List Rec, sumI f (insB r ys) = f r + sumI f ys
 | [] => rfl
 | y :: ys => by
  have := sumI_insB f r ys
  unfold insB
  split
  ·rfl
  ·show f y + sumI f (insB r ys) = f r + (f y + sumI f ys); omega
theorem sumI_fold (f : Rec → Int) : ∀ (l o : List Rec), sumI f (l.foldl (fun o r => insB r o) o) = sumI f o + sumI f l
 | [], o => by show sumI f o = sumI f o + 0; omega
 | r :: l, o => by
  have h1 := sumI_fold f l (insB r o); have h2 := sumI_insB f r o
  show sumI f (l.foldl (fun o r => insB r o) (insB r o)) = sumI f o + (f r + sumI f l)
  omega
theorem sumI_isort (f : Rec → Int) (l : List Rec) : sumI f (isort l) = sumI f l := by
 have := sumI_fold f l []
 show sumI f (l.foldl (fun o r => insB r o) []) = _
 have h0 : sumI f ([] : List Rec) = 0 := rfl
 omega
theorem sumI_appR (f : Rec → Int) : ∀ (xs ys : List Rec), sumI f (xs ++ ys) = sumI f xs + sumI f ys
 | [], ys => by show sumI f ys = 0 + sumI f ys; omega
 | x :: xs, ys => by have := sumI_appR f xs ys; show f x + sumI f (xs ++ ys) = f x + sumI f xs + sumI f ys; omega
theorem sumI_dedF {f : Rec → Int} (hf : ∀ x, 0 ≤ f x) : ∀ (rs acc : List Rec), sumI f (dedF acc rs) ≤ sumI f acc + sumI f rs
 | [], acc => by show sumI f acc ≤ sumI f acc + 0; omega
 | r :: rs, acc => by
  have h1 := sumI_dedF hf rs (dedS acc r)
  have h2 : sumI f (dedS acc r) ≤ sumI f acc + f r := by
   have h0 := hf r
   unfold dedS; split
   ·omega
   ·rw [sumI_appR]; show sumI f acc + (f r + 0) ≤ _; omega
  show sumI f (dedF (dedS acc r) rs) ≤ sumI f acc + (f r + sumI f rs)
  omega
theorem sumI_flat (f : Rec → Int) : ∀ ts : List Tap, sumI f (ts.flatMap (·.recs)) = sumI (fun t => sumI f t.recs) ts
 | [] => rfl
 | t :: ts => by
  have := sumI_flat f ts
  rw [List.flatMap_cons, sumI_appR]
  show sumI f t.recs + _ = sumI f t.recs + _
  omega
theorem cnt_sum {f : Rec → Int} (hf : ∀ x, 0 ≤ f x) (ts : List Tap) : sumI f (cntL ts) ≤ sumI (fun t => sumI f t.recs) ts := by
 have h1 := sumI_dedF hf (ts.flatMap (·.recs)) []
 have h2 := sumI_flat f ts
 unfold cntL
 rw [sumI_isort]
 have h0 : sumI f ([] : List Rec) = 0 := rfl
 omega
theorem sumI_one (f : Rec → Int) : ∀ xs : List Rec, sumI (fun x => 1 + f x) xs = totL f xs
 | [] => rfl
 | x :: xs => by
  have := sumI_one f xs
  show 1 + f x + sumI (fun x => 1 + f x) xs = ((xs.length + 1 : Nat) : Int) + (f x + sumI f xs)
  rw [this, Int.natCast_add]; unfold totL; omega
theorem sumI_le {α : Type} {f g : α → Int} (h : ∀ x, f x ≤ g x) : ∀ xs : List α, sumI f xs ≤ sumI g xs
 | [] => Int.le_refl _
 | x :: xs => by have h1 := sumI_le h xs; have h2 := h x; show f x + sumI f xs ≤ g x + sumI g xs; omega
theorem totCnt (x : Wld) : totL totRec (cntL x.tapes) ≤ totWld x := by
 have h1 := cnt_sum (f := fun r => 1 + totRec r) (fun r => by have := totRec_nonneg r; omega) x.tapes
 have h2 := sumI_one totRec (cntL x.tapes)
 have h3 : sumI (fun t : Tap => sumI (fun r => 1 + totRec r) t.recs) x.tapes = sumI totTap x.tapes := by
  congr 1; funext t; exact sumI_one totRec t.recs
 have h4 := totL_nonneg (totL_nonneg totDrv_nonneg) x.groups
 have h5 := totIs_nonneg x.on
 have h6 : totWld x = totL (totL totDrv) x.groups + totIs x.on + totL totTap x.tapes := rfl
 have h7 : totL totTap x.tapes = x.tapes.length + sumI totTap x.tapes := rfl
 omega
theorem cntCnt (x : Wld) : sumI cntRec (cntL x.tapes) ≤ cntWld x := by
 have h1 := cnt_sum cntRec_nonneg x.tapes
 have h2 : sumI (fun t : Tap => sumI cntRec t.recs) x.tapes ≤ sumI cntTap x.tapes := sumI_le (fun t => by show _ ≤ 1 + _; omega) _
 have h3 := sumI_nonneg cntDrvs_nonneg x.groups
 have h4 := totIs_nonneg x.on
 have h5 : cntWld x = sumI cntDrvs x.groups + totIs x.on + sumI cntTap x.tapes := rfl
 omega
end Go.Proofs.YtphmpimgbmedbaaGreat
