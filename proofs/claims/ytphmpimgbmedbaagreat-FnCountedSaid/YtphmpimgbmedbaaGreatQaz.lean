/- Several texts in one. -/
import Derived.Test.YtphmpimgbmedbaaGreatQay
import Derived.Test.YtphmpimgbmedbaaGreatQaq
import Derived.Test.YtphmpimgbmedbaaGreatQat
import Derived.Test.YtphmpimgbmedbaaGreatRows
import Derived.Test.YtphmpimgbmedbaaGreatQae
import Derived.Test.YtphmpimgbmedbaaGreatQac
set_option maxRecDepth 100000
set_option maxHeartbeats 8000000
namespace Go.Proofs.YtphmpimgbmedbaaGreat
open Go.RowKit
open Go.Lib (hid)
theorem q7l {P : Program} {o : Oper} {a : Act} {w : World} {b : Nat} {cs : Array Value} {E : TypeId} {fr : Nat × Nat} {n : Nat} {fs : Array Field} (p : Operand) (t : TypeId)
  (hop : o.op = .load t p) (hp : a.eval p = .pointer (some ⟨b, 0, none⟩)) (hi : (P.info? t).map (fun i => i.size) = some n) (hu : P.underlying t = some (.struct fs)) (h : w.heap[b]? = some (.cells cs E fr))
  (hs : cs.size = n) : (execOp a.eval o).run P w = .ok (.value (.agg cs)) w := by
 obtain ⟨i, hi1, hi2⟩ := Option.map_eq_some_iff.1 hi
 have hld := run_loadCells_list (P := P) (w := w) ⟨b, 0, none⟩ cs.toList (fun j v hv => by
  have := cell_of_row w b j cs E fr h
  rw [Addr.add_lit, Nat.zero_add, this]; simpa using hv)
 have hsz : cs.toList.length = i.size := by simp; omega
 rw [hsz] at hld
 unfold execOp
 have hp0 : (program : Sem Program).run P w = .ok P w := rfl
 simp only [hop, hp, Instr.loadAt, Instr.sureAddr, loadVar, isAgg, run_underlying hu, sizeOf, typeInfo, Sem.run_bind, Sem.run_pure, Result.andThen_ok, hp0, hi1, if_true, hld]
def DrawnX (w : World) (cs : Array Value) : Prop := ∃ X fp, wldL.rep w cs.toList X fp ∧ q2t X ≤ 300000 ∧ X.wT ≠ 1000000000
theorem DrawnX.of {tb n : Nat} {T : List TRow} {cs ts : Array Value} {w : World} (h : WdO tb T cs ts) (ht : w.heap[tb]? = some (.cells ts 69 (0, 0))) (hn : tb ∉ T.map (·.b)) (hT : TyN n T w) : DrawnX w cs := by
 obtain ⟨s, pg, G, cg, D, R, po, lo, co, nt, wr, st, dn, q0, q1, pa, l1, c1, pb, l2, c2, rfl, rfl, hs, hg, ho, hnt, hwr, hst, ha, hb, -, -⟩ := h
 obtain ⟨hW, hsub⟩ := hT.well.tapes ht hn ha hb
 obtain ⟨x, fp, h1, h2, h3⟩ := dec_wld hW (s := s) (v10 := .slice pg G cg) (v11 := .slice po lo co) (v12 := .slice (some ⟨tb, 0, none⟩) nt 2) (dn := dn)
  ⟨hs, ⟨D, R, hg.sub hsub⟩, ho.sub hsub, ⟨_, _, _, rfl, by show nt ≤ 2; omega, by omega, by simp [maxLen], .inr ⟨_, List.mem_cons_self, rfl, 0, by rw [Nat.zero_mul], by show 0 + nt ≤ 2; omega, by show 0 + 2 ≤ 2; omega⟩⟩⟩ hwr.1 hst
 exact ⟨x, fp, h1, h2, by rw [h3]; exact hwr.2⟩
def DrT (n : Nat) (cs : Array Value) (w : World) : Prop := ∃ (T : List TRow) (tb : Nat) (ts : Array Value), WdO tb T cs ts ∧ w.heap[tb]? = some (.cells ts 69 (0, 0)) ∧ tb ∉ T.map (·.b) ∧ n ≤ tb ∧ TyN n T w
theorem DrT.chg {n : Nat} {cs : Array Value} {w w' : World} {S : List Nat} (h : DrT n cs w) (hc : Chg S w w') (hS : ∀ x ∈ S, x < n) : DrT n cs w' := by
 obtain ⟨T, tb, ts, h1, h2, h3, h4, h5⟩ := h
 exact ⟨T, tb, ts, h1, hc.keepb h2 (fun hm => by have := hS _ hm; omega), h3, h4, h5.chg hc hS⟩
theorem DrT.mono {n k : Nat} {cs : Array Value} {w : World} (h : DrT n cs w) (hk : k ≤ n) : DrT k cs w := by
 obtain ⟨T, tb, ts, h1, h2, h3, h4, h5⟩ := h
 exact ⟨T, tb, ts, h1, h2, h3, by omega, h5.mono hk⟩
theorem DrT.x {n : Nat} {cs : Array Value} {w : World} (h : DrT n cs w) : DrawnX w cs := by
 obtain ⟨T, tb, ts, h1, h2, h3, -, h5⟩ := h
 exact DrawnX.of h1 h2 h3 h5
def WdP (tb : Nat) (T : List TRow) (cs ts : Array Value) : Prop := ∃ (s : Shp) (pg : Option Addr) (G cg D R : Nat) (po : Option Addr) (lo co nt : Nat) (wt st : Int) (dn q0 q1 : Bool) (pa : Option Addr) (l1 c1 : Nat) (pb : Option Addr) (l2 c2 : Nat),
 cs = #[.int .i64 s.gS, .int .i64 s.cM, .int .i64 s.data, .int .i64 s.spare, .int .i64 s.rows, .int .i64 s.cap, .int .i64 s.bT, .int .i64 s.qU, .int .i64 s.sG, .slice pg G cg, .slice po lo co, .slice (some ⟨tb, 0, none⟩) nt 2, .int .i64 wt, .int .i64 st, .bool dn] ∧ ts = #[.bool q0, .slice pa l1 c1, .bool q1, .slice pb l2 c2] ∧ ShpI s ∧ SlT T (.ds D R) (.slice pg G cg) ∧ SlT T .it (.slice po lo co) ∧ (nt = 1 ∨ nt = 2) ∧ q0u wt ∧ q0u st ∧ SlT T .rc (.slice pa l1 c1) ∧ SlT T .rc (.slice pb l2 c2)
def DrP (n : Nat) (cs : Array Value) (w : World) : Prop := ∃ (T : List TRow) (tb : Nat) (ts : Array Value), WdP tb T cs ts ∧ w.heap[tb]? = some (.cells ts 69 (0, 0)) ∧ tb ∉ T.map (·.b) ∧ n ≤ tb ∧ TyN n T w
theorem DrP.chg {n : Nat} {cs : Array Value} {w w' : World} {S : List Nat} (h : DrP n cs w) (hc : Chg S w w') (hS : ∀ x ∈ S, x < n) : DrP n cs w' := by
 obtain ⟨T, tb, ts, h1, h2, h3, h4, h5⟩ := h
 exact ⟨T, tb, ts, h1, hc.keepb h2 (fun hm => by have := hS _ hm; omega), h3, h4, h5.chg hc hS⟩
theorem DrP.x {n : Nat} {cs : Array Value} {w : World} (h : DrP n cs w) : ∃ X fp, wldL.rep w cs.toList X fp ∧ q2t X ≤ 300000 := by
 obtain ⟨T, tb, ts, ⟨s, pg, G, cg, D, R, po, lo, co, nt, wt, st, dn, q0, q1, pa, l1, c1, pb, l2, c2, rfl, rfl, hs, hg, ho, hnt, hwr, hst, ha, hb⟩, ht, hn, -, hT⟩ := h
 obtain ⟨hW, hsub⟩ := hT.well.tapes ht hn ha hb
 obtain ⟨x, fp, h1, h2, -⟩ := dec_wld hW (s := s) (v10 := .slice pg G cg) (v11 := .slice po lo co) (v12 := .slice (some ⟨tb, 0, none⟩) nt 2) (dn := dn)
  ⟨hs, ⟨D, R, hg.sub hsub⟩, ho.sub hsub, ⟨_, _, _, rfl, by show nt ≤ 2; omega, by omega, by simp [maxLen], .inr ⟨_, List.mem_cons_self, rfl, 0, by rw [Nat.zero_mul], by show 0 + nt ≤ 2; omega, by show 0 + 2 ≤ 2; omega⟩⟩⟩ hwr hst
 exact ⟨x, fp, h1, h2⟩
theorem wld_tell {w : World} {s : Shp} {u10 u11 u13 u14 u15 : Value} {a : Option Addr} {l c : Nat} {x : Wld} {fp : List Nat} (h : wldL.rep w [.int .i64 s.gS, .int .i64 s.cM, .int .i64 s.data, .int .i64 s.spare, .int .i64 s.rows, .int .i64 s.cap, .int .i64 s.bT, .int .i64 s.qU, .int .i64 s.sG, u10, u11, .slice a l c, u13, u14, u15] x fp) : x.sH = s ∧ x.tapes.length = l := by
 obtain ⟨a10, l10, c10, f10, a11, l11, c11, f11, a12, l12, c12, f12, ex, -, -, -, -, -, -, -, -, -, -, -, h12, -⟩ := q1a.1 h
 simp only [List.cons.injEq, Value.int.injEq, Value.slice.injEq, true_and, and_true] at ex
 obtain ⟨e1, e2, e3, e4, e5, e6, e7, e8, e9, -, -, ⟨-, el, -⟩, -⟩ := ex
 refine ⟨?_, by rw [el]; exact h12.1.symm⟩
 have : x.sH = ⟨x.sH.gS, x.sH.cM, x.sH.data, x.sH.spare, x.sH.rows, x.sH.cap, x.sH.bT, x.sH.qU, x.sH.sG⟩ := rfl
 rw [this, ← e1, ← e2, ← e3, ← e4, ← e5, ← e6, ← e7, ← e8, ← e9]
theorem WdW.out {b : Nat} {a : Option Addr} {la ca : Nat} {xs : List UInt8} {f : List Nat} {w0 : World} {m tb rb i : Nat} {T : List TRow} {t : Int} {cs ts : Array Value} {w : World} {v : Value} (h : WdW b a la ca xs f w0 m tb T t cs ts w) (hn : rb ∉ T.map (·.b)) (h1 : rb ≠ m) (h2 : rb ≠ tb) (h3 : w0.heap.size < rb) : WdW b a la ca xs f w0 m tb T t cs ts (w.setCell ⟨rb, i, none⟩ v) := by
 have hb := h.lb
 have hc : Chg [rb] w (w.setCell ⟨rb, i, none⟩ v) := (Chg.refl [rb] w).setCell _ _ (.inl (by simp))
 exact ⟨hc.keepb h.h2 (by simp; omega), hc.keepb h.hm (by simp; omega), hc.keepb h.ht (by simp; omega), h.ty.set hn, h.nm, h.nt, h.src.chg hc (by simp; omega) (fun y hy => by have := h.lf y hy; simp; omega), h.chg.setCell _ _ (.inr (by show w0.heap.size ≤ rb; omega)), h.lm, h.lt, h.ne, h.lb, h.lf⟩
theorem l5AllT_any (s : Shp) (hs : s.ok) (w : World) :
  Calls Tryz.prog 100 #[.agg #[.int .i64 s.gS, .int .i64 s.cM, .int .i64 s.data, .int .i64 s.spare, .int .i64 s.rows, .int .i64 s.cap, .int .i64 s.bT, .int .i64 s.qU, .int .i64 s.sG]] w fun e w' => e = .returned (.int .i64 (s.gS + s.cM)) ∧ Chg [] w w' := q0r s hs w
theorem l6World_ty (b : Nat) (a : Option Addr) (la ca : Nat) (xs : List UInt8) (f : List Nat) (t : Int) (w : World) (h : SrcB b a la ca xs f t w) (ht : t ≤ 900000000) :
  Calls Tryz.prog 114 #[.pointer (some ⟨b, 0, none⟩)] w fun e w' => ∃ cs : Array Value, e = .returned (.agg cs) ∧ cs.size = 15 ∧ cs.toList.all Value.oneCell' = true ∧ DrP w.heap.size cs w' ∧ Chg [b] w w' := by
 obtain ⟨KR, _⟩ := q7j
 have HL := hid (And.intro h.lt (fun y (hy : y ∈ f) => q0p.sl_lt h.2.1 y hy))
 have HN1 := hid (show w.heap.size ∉ [b] from by rw [List.mem_singleton]; have := h.lt; omega)
 have HS0 := hid (h.ext ((Chg.refl [] w).alloc (.cells #[.int .i64 0, .int .i64 0, .int .i64 0, .int .i64 0, .int .i64 0, .int .i64 0, .int .i64 0, .int .i64 0, .int .i64 0, .slice none 0 0, .slice none 0 0, .slice none 0 0, .int .i64 0, .int .i64 0, .bool false] 34)))
 have HC0 := hid ((Chg.refl [b] w).alloc (.cells #[.int .i64 0, .int .i64 0, .int .i64 0, .int .i64 0, .int .i64 0, .int .i64 0, .int .i64 0, .int .i64 0, .int .i64 0, .slice none 0 0, .slice none 0 0, .slice none 0 0, .int .i64 0, .int .i64 0, .bool false] 34))
 have G2 := hid (q0o w (.cells #[.int .i64 0, .int .i64 0, .int .i64 0, .int .i64 0, .int .i64 0, .int .i64 0, .int .i64 0, .int .i64 0, .int .i64 0, .slice none 0 0, .slice none 0 0, .slice none 0 0, .int .i64 0, .int .i64 0, .bool false] 34))
 clear h
 go_enter Tryz.func114, Tryz.ntmps114
 go_wp2_with fail
 refine (l5Drawn_ty b a la ca xs f t _ HS0.out (by omega)).mono ?_
 rintro e wb ⟨cs, rfl, ⟨T, tb, ts, hwo, htb, hnt, hlt, hty⟩, hs, hc⟩
 obtain ⟨X, fx, hrep, htot, -⟩ := DrawnX.of hwo htb hnt hty
 obtain ⟨s, pg, G, cg, D, R, po, lo, co, nt, wt, st, dn, q0, q1, pa, l1, c1, pb, l2, c2, rfl, rfl, hs1, hg, ho, hnt2, hwr, hst, ha, hb, hl1, hl2⟩ := hwo
 obtain ⟨eX, eT⟩ := wld_tell hrep
 have hlt' : w.heap.size + 1 ≤ tb := by simpa using hlt
 have hty' : TyN (w.heap.size + 1) T wb := hty.mono (by simp)
 have hcb : Chg [b] w wb := HC0.out.trans hc (fun y hy => .inl hy)
 have GB2 := hc.keepb G2.out HN1.out
 have H0 := hid (show WdW b a la ca xs f w wb.heap.size tb T (t + 30000) #[.int .i64 s.gS, .int .i64 s.cM, .int .i64 s.data, .int .i64 s.spare, .int .i64 s.rows, .int .i64 s.cap, .int .i64 s.bT, .int .i64 s.qU, .int .i64 s.sG, .slice pg G cg, .slice po lo co, .slice (some ⟨tb, 0, none⟩) nt 2, .int .i64 wt, .int .i64 st, .bool dn] #[.bool q0, .slice pa l1 c1, .bool q1, .slice pb l2 c2] (wb.alloc (.cells #[.int .i64 s.gS, .int .i64 s.cM, .int .i64 s.data, .int .i64 s.spare, .int .i64 s.rows, .int .i64 s.cap, .int .i64 s.bT, .int .i64 s.qU, .int .i64 s.sG, .slice pg G cg, .slice po lo co, .slice (some ⟨tb, 0, none⟩) nt 2, .int .i64 wt, .int .i64 st, .bool dn] 34)) from ⟨q0b GB2 _, q0o wb _, q0b htb _, hty'.ext ((Chg.refl [] wb).alloc _), hty.well.notSize, hnt, hs.ext ((Chg.refl [] wb).alloc _), hcb.alloc _, ltOf GB2, by omega, by have := ltOf htb; omega, HL.out.1, HL.out.2⟩)
 have HX := hid (wldL.ext hrep ((Chg.refl [] wb).alloc (.cells #[.int .i64 s.gS, .int .i64 s.cM, .int .i64 s.data, .int .i64 s.spare, .int .i64 s.rows, .int .i64 s.cap, .int .i64 s.bT, .int .i64 s.qU, .int .i64 s.sG, .slice pg G cg, .slice po lo co, .slice (some ⟨tb, 0, none⟩) nt 2, .int .i64 wt, .int .i64 st, .bool dn] 34)))
 have HP := hid (And.intro hs1 (And.intro hg (And.intro ho (And.intro hnt2 (And.intro hwr.1 (And.intro hst (And.intro ha hb)))))))
 have HL12 := hid (And.intro hl1 hl2); have HXE := hid (And.intro eX eT)
 clear hrep htot hs1 hg ho hnt2 hwr hst ha hb hl1 hl2 eX eT hlt' hty' hcb GB2 htb hnt hlt hty hs hc HS0 HC0 G2
 go_upto_region 2 with (refine q2l rfl _ _ 34 rfl rfl rfl rfl q1x rfl rfl rfl ?_)
 try simp only [Act.put]
 generalize wb.alloc (.cells #[.int .i64 s.gS, .int .i64 s.cM, .int .i64 s.data, .int .i64 s.spare, .int .i64 s.rows, .int .i64 s.cap, .int .i64 s.bT, .int .i64 s.qU, .int .i64 s.sG, .slice pg G cg, .slice po lo co, .slice (some ⟨tb, 0, none⟩) nt 2, .int .i64 wt, .int .i64 st, .bool dn] 34) = w0 at H0 HX ⊢
 generalize wb.heap.size = m at H0 ⊢
 go_wp2_with (refine q1c rfl _ 34 rfl rfl q1x Tryz.underlying34 H0.out.hm rfl ?_)
 refine (q4u X #[.int .i64 s.gS, .int .i64 s.cM, .int .i64 s.data, .int .i64 s.spare, .int .i64 s.rows, .int .i64 s.cap, .int .i64 s.bT, .int .i64 s.qU, .int .i64 s.sG, .slice pg G cg, .slice po lo co, .slice (some ⟨tb, 0, none⟩) nt 2, .int .i64 wt, .int .i64 st, .bool dn] fx _ HX.out).mono ?_
 rintro e w1 ⟨rfl, hc⟩
 have H1 := hid (H0.out.ext hc)
 clear hc H0 HX
 by_cases hf : X.fault = 0
 ·have hok : s.ok := by have := (q3b hf).1; rw [HXE.out.1] at this; exact this
  have hnt : nt = 2 := by have := (q3b hf).2.1.2.2; have := HXE.out.2; omega
  have hfb : (X.fault != 0) = false := by simpa using hf
  subst hnt
  have HOK := hid hok; have VG := hid HP.out.2.1; have VO := hid HP.out.2.2.1; have VA := hid HP.out.2.2.2.2.2.2.1; have VB := hid HP.out.2.2.2.2.2.2.2
  clear hok
  have cm := cellsOf H1.out.hm; have lm := ltOf H1.out.hm; have fm := q0c H1.out.hm; have ct := cellsOf H1.out.ht; have lt := ltOf H1.out.ht; have ft := q0c H1.out.ht
  go_wp2_with fail
  refine (q1g b a la ca xs f (t + 30000) 5 _ H1.out.src (by omega) (by omega) (by omega)).mono ?_
  rintro e w1 ⟨sq, rfl, hd, hs, hc⟩
  clear cm lm fm ct lt ft
  have H1 := hid (H1.out.call hs hc)
  clear hs
  have C1 := hid hc; clear hc
  have cm := cellsOf H1.out.hm; have lm := ltOf H1.out.hm; have fm := q0c H1.out.hm; have ct := cellsOf H1.out.ht; have lt := ltOf H1.out.ht; have ft := q0c H1.out.ht
  have hsq : 0 ≤ sq ∧ sq < 5 := ⟨hd.1, hd.2.1 (by omega)⟩
  clear hd hfb hf
  have HPU := hid (show TyStep T w1 (⟨w1.heap.size, .rc, 0, 0⟩ :: T) (w1.alloc (.cells #[] 67)) from (TyStep.refl H1.out.ty.well).push .rc 0 0 #[] (Nat.le_refl _) rfl (fun i hi => absurd hi (Nat.not_lt_zero _)))
  have H9 := hid (H1.out.step HPU.out); have VR := hid (show SlT (⟨w1.heap.size, .rc, 0, 0⟩ :: T) .rc (.slice (some ⟨w1.heap.size, 0, none⟩) 0 0) from ⟨_, 0, 0, rfl, Nat.zero_le _, Nat.le_refl _, Nat.zero_le _, .inr ⟨⟨w1.heap.size, .rc, 0, 0⟩, List.mem_cons_self, rfl, 0, by rw [Nat.zero_mul], Nat.le_refl _, Nat.le_refl _⟩⟩)
  have V2 := hid (VG.out.sub HPU.out.sub)
  have V3 := hid (VO.out.sub HPU.out.sub)
  have V4 := hid (VA.out.sub HPU.out.sub)
  have V5 := hid (VB.out.sub HPU.out.sub)
  clear HPU
  have HPA := hid (VA.out.low H1.out.ty.well); have HPB := hid (VB.out.low H1.out.ty.well)
  go_upto_region 6 with fail
  clear cm lm fm ct lt ft
  generalize w1.alloc (.cells #[] 67) = w9 at H9 ⊢
  generalize w1.heap.size = br at H9 VR HPA HPB V2 V3 V4 V5 ⊢
  have cm := cellsOf H9.out.hm; have lm := ltOf H9.out.hm; have fm := q0c H9.out.hm; have ct := cellsOf H9.out.ht; have lt := ltOf H9.out.ht; have ft := q0c H9.out.ht
  go_wp2_with fail
  refine (q1g b a la ca xs f (t + 30000 + 1) 9 _ H9.out.src (by omega) (by omega) (by omega)).mono ?_
  rintro e w6 ⟨v, rfl, hd, hs, hc⟩
  clear cm lm fm ct lt ft
  have H6 := hid (H9.out.call hs hc)
  clear hs
  have C6 := hid hc; clear hc
  have cm := cellsOf H6.out.hm; have lm := ltOf H6.out.hm; have fm := q0c H6.out.hm; have ct := cellsOf H6.out.ht; have lt := ltOf H6.out.ht; have ft := q0c H6.out.ht
  obtain ⟨k0, rfl⟩ := Int.eq_ofNat_of_zero_le hd.1
  have hk0 : k0 ≤ 9 := by have := hd.2.1 (by omega); omega
  clear hd
  go_wp2_with fail
  clear cm lm fm ct lt ft
  go_loopw [4, 5, 6] (fun v4 v5 v6 wr => ∃ (k : Nat) (sq : Int) (T : List TRow) (eb eo lr cr : Nat) (Wr : World), Wr = wr ∧ k ≤ k0 ∧ br ≤ eb ∧ v4 = .int .i64 sq ∧ (0 ≤ sq ∧ sq ≤ 4 + 2 * k) ∧ v5 = .slice (some ⟨eb, eo, none⟩) lr cr ∧ v6 = .int .i64 ((k0 : Int) - k) ∧ SlT T (.ds D R) (.slice pg G cg) ∧ SlT T .it (.slice po lo co) ∧ SlT T .rc (.slice pa l1 c1) ∧ SlT T .rc (.slice pb l2 c2) ∧ SlT T .rc (.slice (some ⟨eb, eo, none⟩) lr cr) ∧ lr ≤ 7 * k ∧ WdW b a la ca xs f w m tb T (t + 31000 + 4200 * k) #[.int .i64 s.gS, .int .i64 s.cM, .int .i64 s.data, .int .i64 s.spare, .int .i64 s.rows, .int .i64 s.cap, .int .i64 s.bT, .int .i64 s.qU, .int .i64 s.sG, .slice pg G cg, .slice po lo co, .slice (some ⟨tb, 0, none⟩) 2 2, .int .i64 wt, .int .i64 st, .bool dn] #[.bool q0, .slice pa l1 c1, .bool q1, .slice pb l2 c2] wr) (fun _ _ v6 _ => (intOf v6).toNat)
  case atStart => exact ⟨0, sq, _, br, 0, 0, 0, _, rfl, by omega, Nat.le_refl _, rfl, by omega, rfl, by simp, V2.out, V3.out, V4.out, V5.out, VR.out, by omega, H6.out.mono (t' := t + 31000 + 4200 * ((0 : Nat) : Int)) (by omega)⟩
  case round =>
   obtain ⟨k, sq, T, eb, eo, lr, cr, wv, rfl, hk, hbe, rfl, hsq, rfl, rfl, hg, ho, ha, hb, hr, hlr, hw⟩ := hrel
   have V0 := hid hg; have VP := hid ho; have VQ := hid ha; have VS := hid hb; have VT := hid hr; have R0 := hid hw
   clear hg ho ha hb hr hw
   by_cases hlt : 0 < (k0 : Int) - (k : Int)
   ·have hw1 : IntKind.i64.wrap (sq + 1) = sq + 1 := IntWalk.i64_in _ (by omega)
    have cm := cellsOf R0.out.hm; have lm := ltOf R0.out.hm; have fm := q0c R0.out.hm; have ct := cellsOf R0.out.ht; have lt := ltOf R0.out.ht; have ft := q0c R0.out.ht
    go_wp2_with fail
    refine (q1g b a la ca xs f (t + 31000 + 4200 * k) 2 _ R0.out.src (by omega) (by omega) (by omega)).mono ?_
    rintro e w7 ⟨v, rfl, hd, hs, hc⟩
    clear cm lm fm ct lt ft
    have H7 := hid (R0.out.call hs hc)
    clear hs
    have C7 := hid hc; clear hc
    have cm := cellsOf H7.out.hm; have lm := ltOf H7.out.hm; have fm := q0c H7.out.hm; have ct := cellsOf H7.out.ht; have lt := ltOf H7.out.ht; have ft := q0c H7.out.ht
    have hv2 : 0 ≤ v ∧ v < 2 := ⟨hd.1, hd.2.1 (by omega)⟩
    have hw2 : IntKind.i64.wrap (sq + 1 + v) = sq + 1 + v := IntWalk.i64_in _ (by omega)
    clear hd
    go_wp2_with fail
    refine (l5Rec_ty b a la ca xs f (t + 31000 + 4200 * k + 1) s HOK.out _ H7.out.src (by omega)).mono ?_
    rintro e wq ⟨cs, rfl, ⟨T1, hel, hty⟩, hs, hc⟩
    clear cm lm fm ct lt ft
    have R1 := hid (H7.out.rows hty hs hc)
    obtain ⟨x0, x1, nm, x3, x4, x5, v6, v7, v8, ecs, oo, hnm, s6, s7, s8⟩ := hel.sub (SubT.left T T1)
    obtain rfl := Array.toList_inj.1 (ecs.trans (List.toList_toArray).symm)
    obtain ⟨a6, l6, c6, rfl, -⟩ := id s6; obtain ⟨a7, l7, c7, rfl, -⟩ := id s7; obtain ⟨a8, l8, c8, rfl, -⟩ := id s8
    have HEL := hid (show ElT (T1 ++ T) .rc [.int .i64 x0, .int .i64 (sq + 1 + v), .string nm, .int .i64 x3, .int .i64 x4, .int .i64 x5, .slice a6 l6 c6, .slice a7 l7 c7, .slice a8 l8 c8] from ⟨x0, sq + 1 + v, nm, x3, x4, x5, _, _, _, rfl, ⟨oo.1, by constructor <;> omega, oo.2.2.1, oo.2.2.2.1, oo.2.2.2.2⟩, hnm, s6, s7, s8⟩)
    have HX04 := hid (And.intro oo.1 oo.2.2.2.1)
    clear hs hc hty oo hnm s6 s7 s8 ecs hel
    have V8 := hid (V0.out.sub (SubT.right T T1))
    have V9 := hid (VP.out.sub (SubT.right T T1))
    have V10 := hid (VQ.out.sub (SubT.right T T1))
    have V11 := hid (VS.out.sub (SubT.right T T1))
    have V12 := hid (VT.out.sub (SubT.right T T1))
    have cm := cellsOf R1.out.hm; have lm := ltOf R1.out.hm; have fm := q0c R1.out.hm; have ct := cellsOf R1.out.ht; have lt := ltOf R1.out.ht; have ft := q0c R1.out.ht
    go_upto_region 11 with (refine q2l rfl _ _ 67 rfl rfl rfl rfl q1l rfl rfl rfl ?_)
    try simp only [Act.put]
    clear cm lm fm ct lt ft
    have R2 := hid (R1.out.ext ((Chg.refl [] wq).alloc (.cells #[.int .i64 x0, .int .i64 x1, .string nm, .int .i64 x3, .int .i64 x4, .int .i64 x5, .slice a6 l6 c6, .slice a7 l7 c7, .slice a8 l8 c8] 67))); have B2 := hid (q0o wq (.cells #[.int .i64 x0, .int .i64 x1, .string nm, .int .i64 x3, .int .i64 x4, .int .i64 x5, .slice a6 l6 c6, .slice a7 l7 c7, .slice a8 l8 c8] 67)); have NB2 := hid R1.out.ty.well.notSize; have NE2 := hid (show wq.heap.size ≠ m ∧ wq.heap.size ≠ tb ∧ w.heap.size < wq.heap.size from by have h1 := ltOf R1.out.ht; have h2 := ltOf R1.out.hm; have h3 := R1.out.lm; omega)
    generalize wq.alloc (.cells #[.int .i64 x0, .int .i64 x1, .string nm, .int .i64 x3, .int .i64 x4, .int .i64 x5, .slice a6 l6 c6, .slice a7 l7 c7, .slice a8 l8 c8] 67) = wq2 at R2 B2 ⊢
    generalize wq.heap.size = rb at B2 NB2 NE2 ⊢
    have cr9 := cellsOf B2.out; have lr9 := ltOf B2.out; have fr9 := q0c B2.out
    go_upto_region 12 with fail
    have R3 := hid (R2.out.out (rb := rb) (i := 1) (v := .int .i64 (sq + 1 + v)) NB2.out NE2.out.1 NE2.out.2.1 NE2.out.2.2)
    have B3 := hid (show (wq2.setCell ⟨rb, 1, none⟩ (.int .i64 (sq + 1 + v))).heap[rb]? = some (.cells #[.int .i64 x0, .int .i64 (sq + 1 + v), .string nm, .int .i64 x3, .int .i64 x4, .int .i64 x5, .slice a6 l6 c6, .slice a7 l7 c7, .slice a8 l8 c8] 67 (0, 0)) from q0m B2.out rfl)
    generalize wq2.setCell ⟨rb, 1, none⟩ (.int .i64 (sq + 1 + v)) = wq3 at R3 B3 ⊢
    clear cr9 lr9 fr9 B2 R2 R1
    obtain ⟨rr, fr, hrep, -⟩ := dec_rec R3.out.ty.well HEL.out
    have cm := cellsOf R3.out.hm; have lm := ltOf R3.out.hm; have fm := q0c R3.out.hm; have ct := cellsOf R3.out.ht; have lt := ltOf R3.out.ht; have ft := q0c R3.out.ht
    have cr9 := cellsOf B3.out; have lr9 := ltOf B3.out
    go_wp2_with fail
    refine (q5x s rr #[.int .i64 x0, .int .i64 (sq + 1 + v), .string nm, .int .i64 x3, .int .i64 x4, .int .i64 x5, .slice a6 l6 c6, .slice a7 l7 c7, .slice a8 l8 c8] fr _ hrep).mono ?_
    rintro e wr4 ⟨rfl, hc⟩
    clear cm lm fm ct lt ft
    have R4 := hid (R3.out.ext hc); have B4 := hid (hc.keep0 B3.out)
    clear hc cr9 lr9 hrep R3 B3
    generalize recVF s rr = q
    by_cases hq : q = 0
    ·subst hq
     have cm := cellsOf R4.out.hm; have lm := ltOf R4.out.hm; have fm := q0c R4.out.hm; have ct := cellsOf R4.out.ht; have lt := ltOf R4.out.ht; have ft := q0c R4.out.ht
     have cr9 := cellsOf B4.out; have lr9 := ltOf B4.out
     have R6 := hid (R4.out.ext ((Chg.refl [] wr4).alloc (.cells #[.int .i64 x0, .int .i64 (sq + 1 + v), .string nm, .int .i64 x3, .int .i64 x4, .int .i64 x5, .slice a6 l6 c6, .slice a7 l7 c7, .slice a8 l8 c8] 67))); have B6 := hid (q0b B4.out (.cells #[.int .i64 x0, .int .i64 (sq + 1 + v), .string nm, .int .i64 x3, .int .i64 x4, .int .i64 x5, .slice a6 l6 c6, .slice a7 l7 c7, .slice a8 l8 c8] 67))
     go_upto_region 14 with (at_builtin; refine q5o rfl _ _ 44 rfl R6.out.ty.well (k := .rc) Tryz.underlying44 KR (by omega) rfl V12.out (cs := [.int .i64 x0, .int .i64 (sq + 1 + v), .string nm, .int .i64 x3, .int .i64 x4, .int .i64 x5, .slice a6 l6 c6, .slice a7 l7 c7, .slice a8 l8 c8]) HEL.out (by show lr + 1 ≤ 300; omega) ⟨wr4.heap.size, 0, none⟩ 1 rfl (q1n wr4 #[.int .i64 x0, .int .i64 (sq + 1 + v), .string nm, .int .i64 x3, .int .i64 x4, .int .i64 x5, .slice a6 l6 c6, .slice a7 l7 c7, .slice a8 l8 c8] 67) ?_; intro pR6 cR6 w6 T6 h41 h43 h46; have S6 := hid (R6.out.step h41); have VR6 := hid h43; have SB6 := hid h41.sub; have D6 := hid (h41.chg.keepb B6.out NB2.out); have NB6 := hid (q3x NB2.out h41 (ltOf B6.out)); have EB6 := hid (app_eb R6.out.ty.well V12.out hbe h46); clear h41 h43 h46)
     obtain ⟨eb6, eo6, rfl, hbe6⟩ := EB6.out
     clear cm lm fm ct lt ft
     have V13 := hid (V8.out.sub SB6.out)
     have V14 := hid (V9.out.sub SB6.out)
     have V15 := hid (V10.out.sub SB6.out)
     have V16 := hid (V11.out.sub SB6.out)
     clear cr9 lr9 R4 R6 B4 B6 NB2 HEL
     have hgc : (1 ≤ s.gS ∧ s.gS ≤ 4) ∧ (0 ≤ s.cM ∧ s.cM ≤ 2) := ⟨HOK.out.1, HOK.out.2.1⟩
     by_cases h2 : x0 = 2
     ·have hb2 : (x0 == 2) = true := by simp [h2]
      have hb4 : (x0 == 4) = false := by simp [h2]
      clear h2
      have cm := cellsOf S6.out.hm; have lm := ltOf S6.out.hm; have fm := q0c S6.out.hm; have ct := cellsOf S6.out.ht; have lt := ltOf S6.out.ht; have ft := q0c S6.out.ht
      have cr9 := cellsOf D6.out; have lr9 := ltOf D6.out
      go_wp2_with fail
      clear cm lm fm ct lt ft
      clear cr9 lr9
      go_loopw [5, 8] (fun v5 v8 wr => ∃ (j n1 n2 : Nat) (T : List TRow) (eb eo lq cq : Nat) (Wr : World), Wr = wr ∧ (j : Int) ≤ s.gS + s.cM ∧ v5 = .slice (some ⟨eb, eo, none⟩) lq cq ∧ v8 = .int .i64 j ∧ br ≤ eb ∧ SlT T (.ds D R) (.slice pg G cg) ∧ SlT T .it (.slice po lo co) ∧ SlT T .rc (.slice pa l1 c1) ∧ SlT T .rc (.slice pb l2 c2) ∧ SlT T .rc (.slice (some ⟨eb, eo, none⟩) lq cq) ∧ Hid (lq ≤ lr + 1 + n1 + n2 ∧ (n1 = 0 ∨ (n1 = 1 ∧ x4 < j)) ∧ (n2 = 0 ∨ s.gS + n2 ≤ j)) ∧ WdW b a la ca xs f w m tb T (t + 31000 + 4200 * k + 4001 + j) #[.int .i64 s.gS, .int .i64 s.cM, .int .i64 s.data, .int .i64 s.spare, .int .i64 s.rows, .int .i64 s.cap, .int .i64 s.bT, .int .i64 s.qU, .int .i64 s.sG, .slice pg G cg, .slice po lo co, .slice (some ⟨tb, 0, none⟩) 2 2, .int .i64 wt, .int .i64 st, .bool dn] #[.bool q0, .slice pa l1 c1, .bool q1, .slice pb l2 c2] wr ∧ wr.heap[rb]? = some (.cells #[.int .i64 x0, .int .i64 (sq + 1 + v), .string nm, .int .i64 x3, .int .i64 x4, .int .i64 x5, .slice a6 l6 c6, .slice a7 l7 c7, .slice a8 l8 c8] 67 (0, 0)) ∧ rb ∉ T.map (·.b)) (fun _ v8 _ => (s.gS + s.cM).toNat - (intOf v8).toNat)
      case atStart => exact ⟨0, 0, 0, _, eb6, _, _, _, _, rfl, by omega, rfl, rfl, hbe6, V13.out, V14.out, V15.out, V16.out, VR6.out, ⟨by omega, .inl rfl, .inl rfl⟩, S6.out.mono (t' := t + 31000 + 4200 * k + 4001 + ((0 : Nat) : Int)) (by omega), D6.out, NB6.out⟩
      case round =>
       obtain ⟨j, n1, n2, Tq, ebq, eoq, lq, cq, wj, rfl, hj, rfl, rfl, hbq, hg, ho, ha, hb, hr, HNN, hw, hrb, hnb⟩ := hrel
       have VG7 := hid hg; have VO7 := hid ho; have VA7 := hid ha; have VB7 := hid hb; have VR7 := hid hr; have H7 := hid hw; have D7 := hid hrb; have NB7 := hid hnb
       clear hg ho ha hb hr hw hrb hnb
       have HAL := hid (fun w => l5AllT_any s HOK.out w)
       have cm := cellsOf H7.out.hm; have lm := ltOf H7.out.hm; have fm := q0c H7.out.hm; have ct := cellsOf H7.out.ht; have lt := ltOf H7.out.ht; have ft := q0c H7.out.ht
       have cr9 := cellsOf D7.out; have lr9 := ltOf D7.out
       go_wp2_with fail
       refine (HAL.out _).mono ?_
       rintro e wk ⟨rfl, hc⟩
       clear cm lm fm ct lt ft
       clear cr9 lr9
       have H8 := hid (H7.out.ext hc); have D8 := hid (hc.keep0 D7.out)
       clear hc
       have cm := cellsOf H8.out.hm; have lm := ltOf H8.out.hm; have fm := q0c H8.out.hm; have ct := cellsOf H8.out.ht; have lt := ltOf H8.out.ht; have ft := q0c H8.out.ht
       have cr9 := cellsOf D8.out; have lr9 := ltOf D8.out
       by_cases hlt : (j : Int) < s.gS + s.cM
       ·by_cases he : (j : Int) = x4
        ·have hbx : ((j : Int) == x4) = true := by simp [he]
         have HE4 := hid he; clear he
         have hn10 : n1 = 0 := by have h1 := HNN.out; have h2 := HE4.out; omega
         go_wp2_with fail
         refine (q1u b a la ca xs f (t + 31000 + 4200 * k + 4001 + j) 3 _ H8.out.src (by omega) (by omega) (by omega)).mono ?_
         rintro e wl ⟨qq, rfl, hs, hc⟩
         clear cm lm fm ct lt ft
         clear cr9 lr9
         have H10 := hid (H8.out.call hs hc); have D10 := hid (hc.keepb D8.out (fun hm => by rw [List.mem_singleton] at hm; exact absurd hm (Nat.ne_of_gt (Nat.lt_trans H8.out.lb NE2.out.2.2))))
         clear hs hc
         have cm := cellsOf H10.out.hm; have lm := ltOf H10.out.hm; have fm := q0c H10.out.hm; have ct := cellsOf H10.out.ht; have lt := ltOf H10.out.ht; have ft := q0c H10.out.ht
         have cr9 := cellsOf D10.out; have lr9 := ltOf D10.out
         cases qq
         ·have hlq : lq ≤ 290 := by have := HNN.out; omega
          have HDL := hid (fun T => (show ElT T .rc [.int .i64 3, .int .i64 (sq + 1 + v), .string ⟨#[]⟩, .int .i64 0, .int .i64 j, .int .i64 0, .slice none 0 0, .slice none 0 0, .slice none 0 0] from ⟨3, sq + 1 + v, _, 0, j, 0, _, _, _, rfl, ⟨by constructor <;> omega, by constructor <;> omega, by constructor <;> omega, by constructor <;> omega, by constructor <;> omega⟩, by decide, SlT.nil _ _, SlT.nil _ _, SlT.nil _ _⟩))
          have R11 := hid (H10.out.ext ((Chg.refl [] wl).alloc (.cells #[.int .i64 3, .int .i64 (sq + 1 + v), .string ⟨#[]⟩, .int .i64 0, .int .i64 j, .int .i64 0, .slice none 0 0, .slice none 0 0, .slice none 0 0] 67))); have B11 := hid (q0b D10.out (.cells #[.int .i64 3, .int .i64 (sq + 1 + v), .string ⟨#[]⟩, .int .i64 0, .int .i64 j, .int .i64 0, .slice none 0 0, .slice none 0 0, .slice none 0 0] 67))
          go_upto_region 17 with (at_builtin; refine q5o rfl _ _ 44 rfl R11.out.ty.well (k := .rc) Tryz.underlying44 KR (by omega) rfl VR7.out (cs := [.int .i64 3, .int .i64 (sq + 1 + v), .string ⟨#[]⟩, .int .i64 0, .int .i64 j, .int .i64 0, .slice none 0 0, .slice none 0 0, .slice none 0 0]) (HDL.out _) (by show lq + 1 ≤ 300; omega) ⟨wl.heap.size, 0, none⟩ 1 rfl (q1n wl #[.int .i64 3, .int .i64 (sq + 1 + v), .string ⟨#[]⟩, .int .i64 0, .int .i64 j, .int .i64 0, .slice none 0 0, .slice none 0 0, .slice none 0 0] 67) ?_; intro pR11 cR11 w11 T11 h41 h43 h46; have S11 := hid (R11.out.step h41); have VR11 := hid h43; have SB11 := hid h41.sub; have D11 := hid (h41.chg.keepb B11.out NB7.out); have NB11 := hid (q3x NB7.out h41 (ltOf B11.out)); have EB11 := hid (app_eb R11.out.ty.well VR7.out hbq h46); clear h41 h43 h46)
          obtain ⟨eb11, eo11, rfl, hbe11⟩ := EB11.out
          clear cm lm fm ct lt ft
          have V17 := hid (VG7.out.sub SB11.out)
          have V18 := hid (VO7.out.sub SB11.out)
          have V19 := hid (VA7.out.sub SB11.out)
          have V20 := hid (VB7.out.sub SB11.out)
          clear cr9 lr9
          have hnn := HNN.out
          go_wp2_with fail
          go_roundw
          case rel => exact ⟨j + 1, 1, n2, _, eb11, _, _, _, _, rfl, by omega, rfl, by go_num, hbe11, V17.out, V18.out, V19.out, V20.out, VR11.out, ⟨by omega, by have := HE4.out; omega, by omega⟩, S11.out.mono (t' := t + 31000 + 4200 * k + 4001 + ((j + 1 : Nat) : Int)) (by omega), D11.out, NB11.out⟩
          case measure => simp [intOf]; omega
         ·go_wp2_with fail
          have hnn := HNN.out
          go_roundw
          case rel => exact ⟨j + 1, n1, n2, _, ebq, _, _, _, _, rfl, by omega, rfl, by go_num, hbq, VG7.out, VO7.out, VA7.out, VB7.out, VR7.out, ⟨by omega, by omega, by omega⟩, H10.out.mono (t' := t + 31000 + 4200 * k + 4001 + ((j + 1 : Nat) : Int)) (by omega), D10.out, NB7.out⟩
          case measure => simp [intOf]; omega
        ·have hbx : ((j : Int) == x4) = false := by simp [he]
         clear he
         by_cases hgj : s.gS ≤ (j : Int)
         ·go_wp2_with fail
          refine (q1u b a la ca xs f (t + 31000 + 4200 * k + 4001 + j) 3 _ H8.out.src (by omega) (by omega) (by omega)).mono ?_
          rintro e wl ⟨qq, rfl, hs, hc⟩
          clear cm lm fm ct lt ft
          clear cr9 lr9
          have H10 := hid (H8.out.call hs hc); have D10 := hid (hc.keepb D8.out (fun hm => by rw [List.mem_singleton] at hm; exact absurd hm (Nat.ne_of_gt (Nat.lt_trans H8.out.lb NE2.out.2.2))))
          clear hs hc
          have cm := cellsOf H10.out.hm; have lm := ltOf H10.out.hm; have fm := q0c H10.out.hm; have ct := cellsOf H10.out.ht; have lt := ltOf H10.out.ht; have ft := q0c H10.out.ht
          have cr9 := cellsOf D10.out; have lr9 := ltOf D10.out
          cases qq
          ·have hlq : lq ≤ 290 := by have := HNN.out; omega
           have HDL := hid (fun T => (show ElT T .rc [.int .i64 3, .int .i64 (sq + 1 + v), .string ⟨#[]⟩, .int .i64 0, .int .i64 j, .int .i64 0, .slice none 0 0, .slice none 0 0, .slice none 0 0] from ⟨3, sq + 1 + v, _, 0, j, 0, _, _, _, rfl, ⟨by constructor <;> omega, by constructor <;> omega, by constructor <;> omega, by constructor <;> omega, by constructor <;> omega⟩, by decide, SlT.nil _ _, SlT.nil _ _, SlT.nil _ _⟩))
           have R11 := hid (H10.out.ext ((Chg.refl [] wl).alloc (.cells #[.int .i64 3, .int .i64 (sq + 1 + v), .string ⟨#[]⟩, .int .i64 0, .int .i64 j, .int .i64 0, .slice none 0 0, .slice none 0 0, .slice none 0 0] 67))); have B11 := hid (q0b D10.out (.cells #[.int .i64 3, .int .i64 (sq + 1 + v), .string ⟨#[]⟩, .int .i64 0, .int .i64 j, .int .i64 0, .slice none 0 0, .slice none 0 0, .slice none 0 0] 67))
           go_upto_region 17 with (at_builtin; refine q5o rfl _ _ 44 rfl R11.out.ty.well (k := .rc) Tryz.underlying44 KR (by omega) rfl VR7.out (cs := [.int .i64 3, .int .i64 (sq + 1 + v), .string ⟨#[]⟩, .int .i64 0, .int .i64 j, .int .i64 0, .slice none 0 0, .slice none 0 0, .slice none 0 0]) (HDL.out _) (by show lq + 1 ≤ 300; omega) ⟨wl.heap.size, 0, none⟩ 1 rfl (q1n wl #[.int .i64 3, .int .i64 (sq + 1 + v), .string ⟨#[]⟩, .int .i64 0, .int .i64 j, .int .i64 0, .slice none 0 0, .slice none 0 0, .slice none 0 0] 67) ?_; intro pR11 cR11 w11 T11 h41 h43 h46; have S11 := hid (R11.out.step h41); have VR11 := hid h43; have SB11 := hid h41.sub; have D11 := hid (h41.chg.keepb B11.out NB7.out); have NB11 := hid (q3x NB7.out h41 (ltOf B11.out)); have EB11 := hid (app_eb R11.out.ty.well VR7.out hbq h46); clear h41 h43 h46)
           obtain ⟨eb11, eo11, rfl, hbe11⟩ := EB11.out
           clear cm lm fm ct lt ft
           have V21 := hid (VG7.out.sub SB11.out)
           have V22 := hid (VO7.out.sub SB11.out)
           have V23 := hid (VA7.out.sub SB11.out)
           have V24 := hid (VB7.out.sub SB11.out)
           clear cr9 lr9
           have hnn := HNN.out
           go_wp2_with fail
           go_roundw
           case rel => exact ⟨j + 1, n1, (n2 + 1), _, eb11, _, _, _, _, rfl, by omega, rfl, by go_num, hbe11, V21.out, V22.out, V23.out, V24.out, VR11.out, ⟨by omega, by omega, by omega⟩, S11.out.mono (t' := t + 31000 + 4200 * k + 4001 + ((j + 1 : Nat) : Int)) (by omega), D11.out, NB11.out⟩
           case measure => simp [intOf]; omega
          ·go_wp2_with fail
           have hnn := HNN.out
           go_roundw
           case rel => exact ⟨j + 1, n1, n2, _, ebq, _, _, _, _, rfl, by omega, rfl, by go_num, hbq, VG7.out, VO7.out, VA7.out, VB7.out, VR7.out, ⟨by omega, by omega, by omega⟩, H10.out.mono (t' := t + 31000 + 4200 * k + 4001 + ((j + 1 : Nat) : Int)) (by omega), D10.out, NB7.out⟩
           case measure => simp [intOf]; omega
         ·go_wp2_with fail
          have hnn := HNN.out
          clear cr9 lr9
          clear cm lm fm ct lt ft
          go_roundw
          case rel => exact ⟨j + 1, n1, n2, _, ebq, _, _, _, _, rfl, by omega, rfl, by go_num, hbq, VG7.out, VO7.out, VA7.out, VB7.out, VR7.out, ⟨by omega, by omega, by omega⟩, H8.out.mono (t' := t + 31000 + 4200 * k + 4001 + ((j + 1 : Nat) : Int)) (by omega), D8.out, NB7.out⟩
          case measure => simp [intOf]; omega
       ·go_wp2_with fail
        have hnn := HNN.out
        clear cr9 lr9
        clear cm lm fm ct lt ft
        go_roundw
        case rel => exact ⟨k + 1, sq + 1 + v, _, _, _, _, _, _, rfl, by omega, hbq, rfl, by omega, rfl, by go_num, VG7.out, VO7.out, VA7.out, VB7.out, VR7.out, by omega, H8.out.mono (t' := t + 31000 + 4200 * ((k + 1 : Nat) : Int)) (by omega)⟩
        case measure => simp [intOf]; omega
     ·have hb2 : (x0 == 2) = false := by simp [h2]
      by_cases h4 : x0 = 4
      ·have hb4 : (x0 == 4) = true := by simp [h4]
       clear h2 h4
       have cm := cellsOf S6.out.hm; have lm := ltOf S6.out.hm; have fm := q0c S6.out.hm; have ct := cellsOf S6.out.ht; have lt := ltOf S6.out.ht; have ft := q0c S6.out.ht
       have cr9 := cellsOf D6.out; have lr9 := ltOf D6.out
       go_wp2_with fail
       refine (q1u b a la ca xs f (t + 31000 + 4200 * k + 1 + 4000) 3 _ S6.out.src (by omega) (by omega) (by omega)).mono ?_
       rintro e wl ⟨qq, rfl, hs, hc⟩
       clear cm lm fm ct lt ft
       clear cr9 lr9
       have H10 := hid (S6.out.call hs hc); have D10 := hid (hc.keepb D6.out (fun hm => by rw [List.mem_singleton] at hm; exact absurd hm (Nat.ne_of_gt (Nat.lt_trans S6.out.lb NE2.out.2.2))))
       clear hs hc
       have cm := cellsOf H10.out.hm; have lm := ltOf H10.out.hm; have fm := q0c H10.out.hm; have ct := cellsOf H10.out.ht; have lt := ltOf H10.out.ht; have ft := q0c H10.out.ht
       have cr9 := cellsOf D10.out; have lr9 := ltOf D10.out
       cases qq
       ·go_wp2_with fail
        clear cm lm fm ct lt ft
        go_roundw
        case rel => exact ⟨k + 1, sq + 1 + v, _, _, _, _, _, _, rfl, by omega, hbe6, rfl, by omega, rfl, by go_num, V13.out, V14.out, V15.out, V16.out, VR6.out, by omega, H10.out.mono (t' := t + 31000 + 4200 * ((k + 1 : Nat) : Int)) (by omega)⟩
        case measure => simp [intOf]; omega
       ·have HDL := hid (fun T => (show ElT T .rc [.int .i64 3, .int .i64 (sq + 1 + v), .string ⟨#[]⟩, .int .i64 0, .int .i64 x4, .int .i64 0, .slice none 0 0, .slice none 0 0, .slice none 0 0] from ⟨3, sq + 1 + v, _, 0, x4, 0, _, _, _, rfl, ⟨by constructor <;> omega, by constructor <;> omega, by constructor <;> omega, HX04.out.2, by constructor <;> omega⟩, by decide, SlT.nil _ _, SlT.nil _ _, SlT.nil _ _⟩))
        have R11 := hid (H10.out.ext ((Chg.refl [] wl).alloc (.cells #[.int .i64 3, .int .i64 (sq + 1 + v), .string ⟨#[]⟩, .int .i64 0, .int .i64 x4, .int .i64 0, .slice none 0 0, .slice none 0 0, .slice none 0 0] 67))); have B11 := hid (q0b D10.out (.cells #[.int .i64 3, .int .i64 (sq + 1 + v), .string ⟨#[]⟩, .int .i64 0, .int .i64 x4, .int .i64 0, .slice none 0 0, .slice none 0 0, .slice none 0 0] 67))
        go_upto_region 8 with (at_builtin; refine q5o rfl _ _ 44 rfl R11.out.ty.well (k := .rc) Tryz.underlying44 KR (by omega) rfl VR6.out (cs := [.int .i64 3, .int .i64 (sq + 1 + v), .string ⟨#[]⟩, .int .i64 0, .int .i64 x4, .int .i64 0, .slice none 0 0, .slice none 0 0, .slice none 0 0]) (HDL.out _) (by show (lr + 1) + 1 ≤ 300; omega) ⟨wl.heap.size, 0, none⟩ 1 rfl (q1n wl #[.int .i64 3, .int .i64 (sq + 1 + v), .string ⟨#[]⟩, .int .i64 0, .int .i64 x4, .int .i64 0, .slice none 0 0, .slice none 0 0, .slice none 0 0] 67) ?_; intro pR11 cR11 w11 T11 h41 h43 h46; have S11 := hid (R11.out.step h41); have VR11 := hid h43; have SB11 := hid h41.sub; have D11 := hid (h41.chg.keepb B11.out NB6.out); have NB11 := hid (q3x NB6.out h41 (ltOf B11.out)); have EB11 := hid (app_eb R11.out.ty.well VR6.out hbe6 h46); clear h41 h43 h46)
        obtain ⟨eb11, eo11, rfl, hbe11⟩ := EB11.out
        clear cm lm fm ct lt ft
        have V25 := hid (V13.out.sub SB11.out)
        have V26 := hid (V14.out.sub SB11.out)
        have V27 := hid (V15.out.sub SB11.out)
        have V28 := hid (V16.out.sub SB11.out)
        clear cr9 lr9
        go_wp2_with fail
        go_roundw
        case rel => exact ⟨k + 1, sq + 1 + v, _, _, _, _, _, _, rfl, by omega, hbe11, rfl, by omega, rfl, by go_num, V25.out, V26.out, V27.out, V28.out, VR11.out, by omega, S11.out.mono (t' := t + 31000 + 4200 * ((k + 1 : Nat) : Int)) (by omega)⟩
        case measure => simp [intOf]; omega
      ·have hb4 : (x0 == 4) = false := by simp [h4]
       clear h2 h4
       have cm := cellsOf S6.out.hm; have lm := ltOf S6.out.hm; have fm := q0c S6.out.hm; have ct := cellsOf S6.out.ht; have lt := ltOf S6.out.ht; have ft := q0c S6.out.ht
       have cr9 := cellsOf D6.out; have lr9 := ltOf D6.out
       go_wp2_with fail
       clear cm lm fm ct lt ft
       go_roundw
       case rel => exact ⟨k + 1, sq + 1 + v, _, _, _, _, _, _, rfl, by omega, hbe6, rfl, by omega, rfl, by go_num, V13.out, V14.out, V15.out, V16.out, VR6.out, by omega, S6.out.mono (t' := t + 31000 + 4200 * ((k + 1 : Nat) : Int)) (by omega)⟩
       case measure => simp [intOf]; omega
    ·have hqb : (q != 0) = true := by simpa using hq
     go_wp2_with fail
     go_roundw
     case rel => exact ⟨k + 1, sq + 1 + v, _, _, _, _, _, _, rfl, by omega, hbe, rfl, by omega, rfl, by go_num, V8.out, V9.out, V10.out, V11.out, V12.out, by omega, R4.out.mono (t' := t + 31000 + 4200 * ((k + 1 : Nat) : Int)) (by omega)⟩
     case measure => simp [intOf]; omega
   ·have hlr : lr ≤ 63 := by omega
    have R1 := hid (R0.out.mono (t' := t + 70000) (by omega))
    have HEA := hid (show eb ∉ ofA pa ∧ eb ∉ ofA pb from ⟨fun hm => by have := HPA.out _ hm; omega, fun hm => by have := HPB.out _ hm; omega⟩)
    clear R0 hk hsq hbe
    have cm := cellsOf R1.out.hm; have lm := ltOf R1.out.hm; have fm := q0c R1.out.hm; have ct := cellsOf R1.out.ht; have lt := ltOf R1.out.ht; have ft := q0c R1.out.ht
    go_wp2_with fail
    clear cm lm fm ct lt ft
    go_loopw [9] (fun v9 wr => ∃ (i : Int) (T : List TRow) (pa : Option Addr) (l1 c1 : Nat) (pb : Option Addr) (l2 c2 : Nat) (Wr : World), Wr = wr ∧ (i = 0 ∨ i = 1 ∨ i = 2) ∧ v9 = .int .i64 i ∧ SlT T (.ds D R) (.slice pg G cg) ∧ SlT T .it (.slice po lo co) ∧ SlT T .rc (.slice pa l1 c1) ∧ SlT T .rc (.slice pb l2 c2) ∧ SlT T .rc (.slice (some ⟨eb, eo, none⟩) lr cr) ∧ Hid ((l1 ≤ 205 ∨ 1 ≤ i) ∧ l1 ≤ 268 ∧ (l2 ≤ 205 ∨ 2 ≤ i) ∧ l2 ≤ 268 ∧ eb ∉ ofA pa ∧ eb ∉ ofA pb) ∧ WdW b a la ca xs f w m tb T (t + 70000 + 100 * i) #[.int .i64 s.gS, .int .i64 s.cM, .int .i64 s.data, .int .i64 s.spare, .int .i64 s.rows, .int .i64 s.cap, .int .i64 s.bT, .int .i64 s.qU, .int .i64 s.sG, .slice pg G cg, .slice po lo co, .slice (some ⟨tb, 0, none⟩) 2 2, .int .i64 wt, .int .i64 st, .bool dn] #[.bool q0, .slice pa l1 c1, .bool q1, .slice pb l2 c2] wr) (fun v9 _ => 2 - (intOf v9).toNat)
    case atStart => exact ⟨0, _, _, _, _, _, _, _, _, rfl, .inl rfl, rfl, V0.out, VP.out, VQ.out, VS.out, VT.out, ⟨.inl HL12.out.1, by have := HL12.out; omega, .inl HL12.out.2, by have := HL12.out; omega, HEA.out⟩, R1.out.mono (t' := t + 70000 + 100 * 0) (by omega)⟩
    case round =>
     clear R1 HEA
     obtain ⟨i, Ti, pa, l1, c1, pb, l2, c2, wi, rfl, hi3, rfl, hg, ho, ha, hb, hr, HBD, hw⟩ := hrel
     have VG3 := hid hg; have VO3 := hid ho; have VA3 := hid ha; have VB3 := hid hb; have VR3 := hid hr; have H3 := hid hw
     clear hg ho ha hb hr hw
     rcases hi3 with rfl | rfl | rfl
     ·have cm := cellsOf H3.out.hm; have lm := ltOf H3.out.hm; have fm := q0c H3.out.hm; have ct := cellsOf H3.out.ht; have lt := ltOf H3.out.ht; have ft := q0c H3.out.ht
      go_wp2_with fail
      clear cm lm fm ct lt ft
      go_loopw [10] (fun v10 wr => ∃ (j : Nat) (T : List TRow) (pa : Option Addr) (l1 c1 : Nat) (Wr : World), Wr = wr ∧ j ≤ lr ∧ v10 = .int .i64 j ∧ SlT T (.ds D R) (.slice pg G cg) ∧ SlT T .it (.slice po lo co) ∧ SlT T .rc (.slice pa l1 c1) ∧ SlT T .rc (.slice pb l2 c2) ∧ SlT T .rc (.slice (some ⟨eb, eo, none⟩) lr cr) ∧ Hid (l1 ≤ 205 + j ∧ eb ∉ ofA pa) ∧ WdW b a la ca xs f w m tb T (t + 70000 + 100 * 0 + j) #[.int .i64 s.gS, .int .i64 s.cM, .int .i64 s.data, .int .i64 s.spare, .int .i64 s.rows, .int .i64 s.cap, .int .i64 s.bT, .int .i64 s.qU, .int .i64 s.sG, .slice pg G cg, .slice po lo co, .slice (some ⟨tb, 0, none⟩) 2 2, .int .i64 wt, .int .i64 st, .bool dn] #[.bool q0, .slice pa l1 c1, .bool q1, .slice pb l2 c2] wr) (fun v10 _ => lr - (intOf v10).toNat)
      case atStart => exact ⟨0, _, _, _, _, _, rfl, Nat.zero_le _, rfl, VG3.out, VO3.out, VA3.out, VB3.out, VR3.out, ⟨by have := HBD.out; omega, HBD.out.2.2.2.2.1⟩, H3.out.mono (t' := t + 70000 + 100 * 0 + ((0 : Nat) : Int)) (by omega)⟩
      case round =>
       obtain ⟨j, Tj, pa, l1, c1, wj, rfl, hj, rfl, hg, ho, ha, hb, hr, HJD, hw⟩ := hrel
       have VG4 := hid hg; have VO4 := hid ho; have VA4 := hid ha; have VB4 := hid hb; have VR4 := hid hr; have H4 := hid hw
       clear hg ho ha hb hr hw
       by_cases hlt : j < lr
       ·have cm := cellsOf H4.out.hm; have lm := ltOf H4.out.hm; have fm := q0c H4.out.hm; have ct := cellsOf H4.out.ht; have lt := ltOf H4.out.ht; have ft := q0c H4.out.ht
        go_wp2_with fail
        refine (q1u b a la ca xs f (t + 70000 + 100 * 0 + j) 12 _ H4.out.src (by omega) (by omega) (by omega)).mono ?_
        rintro e wl ⟨qq, rfl, hs, hc⟩
        clear cm lm fm ct lt ft
        have H5 := hid (H4.out.call hs hc)
        clear hs hc
        have cm := cellsOf H5.out.hm; have lm := ltOf H5.out.hm; have fm := q0c H5.out.hm; have ct := cellsOf H5.out.ht; have lt := ltOf H5.out.ht; have ft := q0c H5.out.ht
        cases qq
        ·obtain ⟨eb2, eo2, cs2, hae, hel, hcl, -, heb, -⟩ := VR4.out.at H5.out.ty.well hlt
         obtain ⟨rfl, rfl⟩ : eb = eb2 ∧ eo = eo2 := by simpa using hae
         have HEL := hid hel
         obtain ⟨x0, x1, nm, x3, x4, x5, v6, v7, v8, rfl, -, -, s6, s7, s8⟩ := id hel
         obtain ⟨a6, l6, c6, rfl, -⟩ := id s6; obtain ⟨a7, l7, c7, rfl, -⟩ := id s7; obtain ⟨a8, l8, c8, rfl, -⟩ := id s8
         have HCL := hid (show q1k wl eb (eo + j * 9) 9 [.int .i64 x0, .int .i64 x1, .string nm, .int .i64 x3, .int .i64 x4, .int .i64 x5, .slice a6 l6 c6, .slice a7 l7 c7, .slice a8 l8 c8] from ⟨rfl, hcl, by simp [Value.oneCell']⟩)
         have hll : l1 + 1 ≤ 300 := by have := HJD.out; omega
         clear hae hel hcl s6 s7 s8
         go_upto_region 29 with fail
         clear cm lm fm ct lt ft
         obtain ⟨CC, HCI, HCO⟩ := q0j (fun w' => Know m #[.int .i64 s.gS, .int .i64 s.cM, .int .i64 s.data, .int .i64 s.spare, .int .i64 s.rows, .int .i64 s.cap, .int .i64 s.bT, .int .i64 s.qU, .int .i64 s.sG, .slice pg G cg, .slice po lo co, .slice (some ⟨tb, 0, none⟩) 2 2, .int .i64 wt, .int .i64 st, .bool dn] w' ∧ Know tb #[.bool q0, .slice pa l1 c1, .bool q1, .slice pb l2 c2] w' ∧ q1k w' eb (eo + j * 9) 9 [.int .i64 x0, .int .i64 x1, .string nm, .int .i64 x3, .int .i64 x4, .int .i64 x5, .slice a6 l6 c6, .slice a7 l7 c7, .slice a8 l8 c8])
         refine q1j [17] CC (by kernel_rfl) (HCI.out _ ⟨(Know.of (q0a H5.out.hm)), (Know.of (q0a H5.out.ht)), (HCL.out.chg (Chg.refl [] wl).drew heb (by simp))⟩) (fun hcl hS => ?_)
         refine ggT 0 hcl hS ?_; clear hcl hS; intro hcl hS
         refine ggL 1 hcl hS HCO ?_; clear hcl hS; intro hcl hS
         refine ggT 2 hcl hS ?_; clear hcl hS; intro hcl hS
         refine ggT 3 hcl hS ?_; clear hcl hS; intro hcl hS
         refine ggL 4 hcl hS HCO ?_; clear hcl hS; intro hcl hS
         refine ggT 5 hcl hS ?_; clear hcl hS; intro hcl hS
         refine ggT 6 hcl hS ?_; clear hcl hS; intro hcl hS
         refine ggT 7 hcl hS ?_; clear hcl hS; intro hcl hS
         refine ggL 8 hcl hS HCO ?_; clear hcl hS; intro hcl hS
         refine ggT 9 hcl hS ?_; clear hcl hS; intro hcl hS
         refine ggT 10 hcl hS ?_; clear hcl hS; intro hcl hS
         refine ggT 11 hcl hS ?_; clear hcl hS; intro hcl hS
         refine ggL 12 hcl hS HCO ?_ (hy := fun w' hw => q1h _ 67 rfl rfl q1l Tryz.underlying67 hw.2.2); clear hcl hS; intro hcl hS
         refine ggC 13 hcl rfl (by kernel_rfl) (fun K hK => ?_)
         go_simp
         refine hK.out _ _ (fun _ => HCI.out _ ⟨(Know.of (H5.out.ext (((Chg.refl [] wl).drew).alloc (.cells #[.int .i64 x0, .int .i64 x1, .string nm, .int .i64 x3, .int .i64 x4, .int .i64 x5, .slice a6 l6 c6, .slice a7 l7 c7, .slice a8 l8 c8] 67))).hm), (Know.of (H5.out.ext (((Chg.refl [] wl).drew).alloc (.cells #[.int .i64 x0, .int .i64 x1, .string nm, .int .i64 x3, .int .i64 x4, .int .i64 x5, .slice a6 l6 c6, .slice a7 l7 c7, .slice a8 l8 c8] 67))).ht), (HCL.out.chg (((Chg.refl [] wl).drew).alloc (.cells #[.int .i64 x0, .int .i64 x1, .string nm, .int .i64 x3, .int .i64 x4, .int .i64 x5, .slice a6 l6 c6, .slice a7 l7 c7, .slice a8 l8 c8] 67)) heb (by simp))⟩) ?_
         clear hK K hcl hS
         intro hcl hS
         try simp only [Act.put, pA, pB, pC]
         refine ggC 14 hcl rfl (by kernel_rfl) (fun K hK => ?_)
         refine q8b rfl _ _ 44 rfl (H5.out.ext (((Chg.refl [] wl).drew).alloc (.cells #[.int .i64 x0, .int .i64 x1, .string nm, .int .i64 x3, .int .i64 x4, .int .i64 x5, .slice a6 l6 c6, .slice a7 l7 c7, .slice a8 l8 c8] 67))).ty.well (k := .rc) Tryz.underlying44 KR (by omega) rfl VA4.out (cs := [.int .i64 x0, .int .i64 x1, .string nm, .int .i64 x3, .int .i64 x4, .int .i64 x5, .slice a6 l6 c6, .slice a7 l7 c7, .slice a8 l8 c8]) HEL.out (by show l1 + 1 ≤ 300; omega) ⟨wl.heap.size, 0, none⟩ 1 rfl (q1n wl.drew #[.int .i64 x0, .int .i64 x1, .string nm, .int .i64 x3, .int .i64 x4, .int .i64 x5, .slice a6 l6 c6, .slice a7 l7 c7, .slice a8 l8 c8] 67) ?_
         intro pA cA w4 T4 h41 h43 h46 h47
         have R4 := hid ((H5.out.ext (((Chg.refl [] wl).drew).alloc (.cells #[.int .i64 x0, .int .i64 x1, .string nm, .int .i64 x3, .int .i64 x4, .int .i64 x5, .slice a6 l6 c6, .slice a7 l7 c7, .slice a8 l8 c8] 67))).step h41); have X4 := hid h43; have SB4 := hid h41.sub; have E4 := hid ((HCL.out.chg (((Chg.refl [] wl).drew).alloc (.cells #[.int .i64 x0, .int .i64 x1, .string nm, .int .i64 x3, .int .i64 x4, .int .i64 x5, .slice a6 l6 c6, .slice a7 l7 c7, .slice a8 l8 c8] 67)) heb (by simp)).chg h47 (Nat.lt_of_lt_of_le heb (((Chg.refl [] wl).drew).alloc (.cells #[.int .i64 x0, .int .i64 x1, .string nm, .int .i64 x3, .int .i64 x4, .int .i64 x5, .slice a6 l6 c6, .slice a7 l7 c7, .slice a8 l8 c8] 67)).size) HJD.out.2); have NA4 := hid (show eb ∉ ofA pA from h46.elim (fun h => by rw [h]; exact HJD.out.2) (fun h => by rw [h]; exact fun hm => absurd (List.mem_singleton.1 hm) (Nat.ne_of_lt (Nat.lt_of_lt_of_le heb (((Chg.refl [] wl).drew).alloc (.cells #[.int .i64 x0, .int .i64 x1, .string nm, .int .i64 x3, .int .i64 x4, .int .i64 x5, .slice a6 l6 c6, .slice a7 l7 c7, .slice a8 l8 c8] 67)).size)))); have cm := cellsOf R4.out.hm; have lm := ltOf R4.out.hm; have fm := q0c R4.out.hm; have ct := cellsOf R4.out.ht; have lt := ltOf R4.out.ht; have ft := q0c R4.out.ht
         clear h41 h43 h46 h47
         refine hK.out _ _ (fun _ => HCI.out _ ⟨(Know.of R4.out.hm), (Know.of R4.out.ht), E4.out⟩) ?_
         clear hK K hcl hS
         intro hcl hS
         try simp only [Act.put, pA, pB, pC]
         refine ggT 15 hcl hS ?_; clear hcl hS; intro hcl hS
         refine ggT 16 hcl hS ?_; clear hcl hS; intro hcl hS
         refine ggC 17 hcl rfl (by kernel_rfl) (fun K hK => ?_)
         go_simp
         refine hK.out _ _ (Till.done (m := 17) (by simp) (by rfl)) ?_
         clear hK K hcl hS
         intro hcl hS
         try simp only [Act.put, pA, pB, pC]
         refine q3i (by kernel_rfl) ?_ _
         clear cm lm fm ct lt ft
         have V29 := hid (VG4.out.sub SB4.out)
         have V30 := hid (VO4.out.sub SB4.out)
         have V31 := hid (VB4.out.sub SB4.out)
         have V32 := hid (VR4.out.sub SB4.out)
         have Q4 := hid (R4.out.putT (ts' := #[.bool q0, .slice pA (l1 + 1) cA, .bool q1, .slice pb l2 c2]) 1 (.slice pA (l1 + 1) cA) rfl)
         clear HCL E4 R4
         generalize w4.setCell ⟨tb, 1, none⟩ (.slice pA (l1 + 1) cA) = w5 at Q4 ⊢
         have cm := cellsOf Q4.out.hm; have lm := ltOf Q4.out.hm; have fm := q0c Q4.out.hm; have ct := cellsOf Q4.out.ht; have lt := ltOf Q4.out.ht; have ft := q0c Q4.out.ht
         go_wp2_with fail
         go_roundw
         case rel => exact ⟨j + 1, _, pA, l1 + 1, cA, _, rfl, by omega, by go_num, V29.out, V30.out, X4.out, V31.out, V32.out, ⟨by have := HJD.out; omega, NA4.out⟩, Q4.out.mono (t' := t + 70000 + 100 * 0 + ((j + 1 : Nat) : Int)) (by omega)⟩
         case measure => simp [intOf]; omega
        ·go_wp2_with fail
         go_roundw
         case rel => exact ⟨j + 1, _, pa, l1, c1, _, rfl, by omega, by go_num, VG4.out, VO4.out, VA4.out, VB4.out, VR4.out, ⟨by have := HJD.out; omega, HJD.out.2⟩, H5.out.mono (t' := t + 70000 + 100 * 0 + ((j + 1 : Nat) : Int)) (by omega)⟩
         case measure => simp [intOf]; omega
       ·have cm := cellsOf H4.out.hm; have lm := ltOf H4.out.hm; have fm := q0c H4.out.hm; have ct := cellsOf H4.out.ht; have lt := ltOf H4.out.ht; have ft := q0c H4.out.ht
        go_wp2_with fail
        clear cm lm fm ct lt ft
        go_roundw
        case rel => exact ⟨1, _, _, _, _, _, _, _, _, rfl, by omega, by go_num, VG4.out, VO4.out, VA4.out, VB4.out, VR4.out, ⟨.inr (by omega), by have := HJD.out; omega, by have := HBD.out; omega, by have := HBD.out; omega, HJD.out.2, HBD.out.2.2.2.2.2⟩, H4.out.mono (t' := t + 70000 + 100 * 1) (by omega)⟩
        case measure => simp [intOf]
     ·have cm := cellsOf H3.out.hm; have lm := ltOf H3.out.hm; have fm := q0c H3.out.hm; have ct := cellsOf H3.out.ht; have lt := ltOf H3.out.ht; have ft := q0c H3.out.ht
      go_wp2_with fail
      clear cm lm fm ct lt ft
      go_loopw [10] (fun v10 wr => ∃ (j : Nat) (T : List TRow) (pb : Option Addr) (l2 c2 : Nat) (Wr : World), Wr = wr ∧ j ≤ lr ∧ v10 = .int .i64 j ∧ SlT T (.ds D R) (.slice pg G cg) ∧ SlT T .it (.slice po lo co) ∧ SlT T .rc (.slice pa l1 c1) ∧ SlT T .rc (.slice pb l2 c2) ∧ SlT T .rc (.slice (some ⟨eb, eo, none⟩) lr cr) ∧ Hid (l2 ≤ 205 + j ∧ eb ∉ ofA pb) ∧ WdW b a la ca xs f w m tb T (t + 70000 + 100 * 1 + j) #[.int .i64 s.gS, .int .i64 s.cM, .int .i64 s.data, .int .i64 s.spare, .int .i64 s.rows, .int .i64 s.cap, .int .i64 s.bT, .int .i64 s.qU, .int .i64 s.sG, .slice pg G cg, .slice po lo co, .slice (some ⟨tb, 0, none⟩) 2 2, .int .i64 wt, .int .i64 st, .bool dn] #[.bool q0, .slice pa l1 c1, .bool q1, .slice pb l2 c2] wr) (fun v10 _ => lr - (intOf v10).toNat)
      case atStart => exact ⟨0, _, _, _, _, _, rfl, Nat.zero_le _, rfl, VG3.out, VO3.out, VA3.out, VB3.out, VR3.out, ⟨by have := HBD.out; omega, HBD.out.2.2.2.2.2⟩, H3.out.mono (t' := t + 70000 + 100 * 1 + ((0 : Nat) : Int)) (by omega)⟩
      case round =>
       obtain ⟨j, Tj, pb, l2, c2, wj, rfl, hj, rfl, hg, ho, ha, hb, hr, HJD, hw⟩ := hrel
       have VG4 := hid hg; have VO4 := hid ho; have VA4 := hid ha; have VB4 := hid hb; have VR4 := hid hr; have H4 := hid hw
       clear hg ho ha hb hr hw
       by_cases hlt : j < lr
       ·have cm := cellsOf H4.out.hm; have lm := ltOf H4.out.hm; have fm := q0c H4.out.hm; have ct := cellsOf H4.out.ht; have lt := ltOf H4.out.ht; have ft := q0c H4.out.ht
        go_wp2_with fail
        refine (q1u b a la ca xs f (t + 70000 + 100 * 1 + j) 12 _ H4.out.src (by omega) (by omega) (by omega)).mono ?_
        rintro e wl ⟨qq, rfl, hs, hc⟩
        clear cm lm fm ct lt ft
        have H5 := hid (H4.out.call hs hc)
        clear hs hc
        have cm := cellsOf H5.out.hm; have lm := ltOf H5.out.hm; have fm := q0c H5.out.hm; have ct := cellsOf H5.out.ht; have lt := ltOf H5.out.ht; have ft := q0c H5.out.ht
        cases qq
        ·obtain ⟨eb2, eo2, cs2, hae, hel, hcl, -, heb, -⟩ := VR4.out.at H5.out.ty.well hlt
         obtain ⟨rfl, rfl⟩ : eb = eb2 ∧ eo = eo2 := by simpa using hae
         have HEL := hid hel
         obtain ⟨x0, x1, nm, x3, x4, x5, v6, v7, v8, rfl, -, -, s6, s7, s8⟩ := id hel
         obtain ⟨a6, l6, c6, rfl, -⟩ := id s6; obtain ⟨a7, l7, c7, rfl, -⟩ := id s7; obtain ⟨a8, l8, c8, rfl, -⟩ := id s8
         have HCL := hid (show q1k wl eb (eo + j * 9) 9 [.int .i64 x0, .int .i64 x1, .string nm, .int .i64 x3, .int .i64 x4, .int .i64 x5, .slice a6 l6 c6, .slice a7 l7 c7, .slice a8 l8 c8] from ⟨rfl, hcl, by simp [Value.oneCell']⟩)
         have hll : l2 + 1 ≤ 300 := by have := HJD.out; omega
         clear hae hel hcl s6 s7 s8
         go_upto_region 29 with fail
         clear cm lm fm ct lt ft
         obtain ⟨CC, HCI, HCO⟩ := q0j (fun w' => Know m #[.int .i64 s.gS, .int .i64 s.cM, .int .i64 s.data, .int .i64 s.spare, .int .i64 s.rows, .int .i64 s.cap, .int .i64 s.bT, .int .i64 s.qU, .int .i64 s.sG, .slice pg G cg, .slice po lo co, .slice (some ⟨tb, 0, none⟩) 2 2, .int .i64 wt, .int .i64 st, .bool dn] w' ∧ Know tb #[.bool q0, .slice pa l1 c1, .bool q1, .slice pb l2 c2] w' ∧ q1k w' eb (eo + j * 9) 9 [.int .i64 x0, .int .i64 x1, .string nm, .int .i64 x3, .int .i64 x4, .int .i64 x5, .slice a6 l6 c6, .slice a7 l7 c7, .slice a8 l8 c8])
         refine q1j [17] CC (by kernel_rfl) (HCI.out _ ⟨(Know.of (q0a H5.out.hm)), (Know.of (q0a H5.out.ht)), (HCL.out.chg (Chg.refl [] wl).drew heb (by simp))⟩) (fun hcl hS => ?_)
         refine ggT 0 hcl hS ?_; clear hcl hS; intro hcl hS
         refine ggL 1 hcl hS HCO ?_; clear hcl hS; intro hcl hS
         refine ggT 2 hcl hS ?_; clear hcl hS; intro hcl hS
         refine ggT 3 hcl hS ?_; clear hcl hS; intro hcl hS
         refine ggL 4 hcl hS HCO ?_; clear hcl hS; intro hcl hS
         refine ggT 5 hcl hS ?_; clear hcl hS; intro hcl hS
         refine ggT 6 hcl hS ?_; clear hcl hS; intro hcl hS
         refine ggT 7 hcl hS ?_; clear hcl hS; intro hcl hS
         refine ggL 8 hcl hS HCO ?_; clear hcl hS; intro hcl hS
         refine ggT 9 hcl hS ?_; clear hcl hS; intro hcl hS
         refine ggT 10 hcl hS ?_; clear hcl hS; intro hcl hS
         refine ggT 11 hcl hS ?_; clear hcl hS; intro hcl hS
         refine ggL 12 hcl hS HCO ?_ (hy := fun w' hw => q1h _ 67 rfl rfl q1l Tryz.underlying67 hw.2.2); clear hcl hS; intro hcl hS
         refine ggC 13 hcl rfl (by kernel_rfl) (fun K hK => ?_)
         go_simp
         refine hK.out _ _ (fun _ => HCI.out _ ⟨(Know.of (H5.out.ext (((Chg.refl [] wl).drew).alloc (.cells #[.int .i64 x0, .int .i64 x1, .string nm, .int .i64 x3, .int .i64 x4, .int .i64 x5, .slice a6 l6 c6, .slice a7 l7 c7, .slice a8 l8 c8] 67))).hm), (Know.of (H5.out.ext (((Chg.refl [] wl).drew).alloc (.cells #[.int .i64 x0, .int .i64 x1, .string nm, .int .i64 x3, .int .i64 x4, .int .i64 x5, .slice a6 l6 c6, .slice a7 l7 c7, .slice a8 l8 c8] 67))).ht), (HCL.out.chg (((Chg.refl [] wl).drew).alloc (.cells #[.int .i64 x0, .int .i64 x1, .string nm, .int .i64 x3, .int .i64 x4, .int .i64 x5, .slice a6 l6 c6, .slice a7 l7 c7, .slice a8 l8 c8] 67)) heb (by simp))⟩) ?_
         clear hK K hcl hS
         intro hcl hS
         try simp only [Act.put, pA, pB, pC]
         refine ggC 14 hcl rfl (by kernel_rfl) (fun K hK => ?_)
         refine q8b rfl _ _ 44 rfl (H5.out.ext (((Chg.refl [] wl).drew).alloc (.cells #[.int .i64 x0, .int .i64 x1, .string nm, .int .i64 x3, .int .i64 x4, .int .i64 x5, .slice a6 l6 c6, .slice a7 l7 c7, .slice a8 l8 c8] 67))).ty.well (k := .rc) Tryz.underlying44 KR (by omega) rfl VB4.out (cs := [.int .i64 x0, .int .i64 x1, .string nm, .int .i64 x3, .int .i64 x4, .int .i64 x5, .slice a6 l6 c6, .slice a7 l7 c7, .slice a8 l8 c8]) HEL.out (by show l2 + 1 ≤ 300; omega) ⟨wl.heap.size, 0, none⟩ 1 rfl (q1n wl.drew #[.int .i64 x0, .int .i64 x1, .string nm, .int .i64 x3, .int .i64 x4, .int .i64 x5, .slice a6 l6 c6, .slice a7 l7 c7, .slice a8 l8 c8] 67) ?_
         intro pA cA w4 T4 h41 h43 h46 h47
         have R4 := hid ((H5.out.ext (((Chg.refl [] wl).drew).alloc (.cells #[.int .i64 x0, .int .i64 x1, .string nm, .int .i64 x3, .int .i64 x4, .int .i64 x5, .slice a6 l6 c6, .slice a7 l7 c7, .slice a8 l8 c8] 67))).step h41); have X4 := hid h43; have SB4 := hid h41.sub; have E4 := hid ((HCL.out.chg (((Chg.refl [] wl).drew).alloc (.cells #[.int .i64 x0, .int .i64 x1, .string nm, .int .i64 x3, .int .i64 x4, .int .i64 x5, .slice a6 l6 c6, .slice a7 l7 c7, .slice a8 l8 c8] 67)) heb (by simp)).chg h47 (Nat.lt_of_lt_of_le heb (((Chg.refl [] wl).drew).alloc (.cells #[.int .i64 x0, .int .i64 x1, .string nm, .int .i64 x3, .int .i64 x4, .int .i64 x5, .slice a6 l6 c6, .slice a7 l7 c7, .slice a8 l8 c8] 67)).size) HJD.out.2); have NA4 := hid (show eb ∉ ofA pA from h46.elim (fun h => by rw [h]; exact HJD.out.2) (fun h => by rw [h]; exact fun hm => absurd (List.mem_singleton.1 hm) (Nat.ne_of_lt (Nat.lt_of_lt_of_le heb (((Chg.refl [] wl).drew).alloc (.cells #[.int .i64 x0, .int .i64 x1, .string nm, .int .i64 x3, .int .i64 x4, .int .i64 x5, .slice a6 l6 c6, .slice a7 l7 c7, .slice a8 l8 c8] 67)).size)))); have cm := cellsOf R4.out.hm; have lm := ltOf R4.out.hm; have fm := q0c R4.out.hm; have ct := cellsOf R4.out.ht; have lt := ltOf R4.out.ht; have ft := q0c R4.out.ht
         clear h41 h43 h46 h47
         refine hK.out _ _ (fun _ => HCI.out _ ⟨(Know.of R4.out.hm), (Know.of R4.out.ht), E4.out⟩) ?_
         clear hK K hcl hS
         intro hcl hS
         try simp only [Act.put, pA, pB, pC]
         refine ggT 15 hcl hS ?_; clear hcl hS; intro hcl hS
         refine ggT 16 hcl hS ?_; clear hcl hS; intro hcl hS
         refine ggC 17 hcl rfl (by kernel_rfl) (fun K hK => ?_)
         go_simp
         refine hK.out _ _ (Till.done (m := 17) (by simp) (by rfl)) ?_
         clear hK K hcl hS
         intro hcl hS
         try simp only [Act.put, pA, pB, pC]
         refine q3i (by kernel_rfl) ?_ _
         clear cm lm fm ct lt ft
         have V33 := hid (VG4.out.sub SB4.out)
         have V34 := hid (VO4.out.sub SB4.out)
         have V35 := hid (VA4.out.sub SB4.out)
         have V36 := hid (VR4.out.sub SB4.out)
         have Q4 := hid (R4.out.putT (ts' := #[.bool q0, .slice pa l1 c1, .bool q1, .slice pA (l2 + 1) cA]) 3 (.slice pA (l2 + 1) cA) rfl)
         clear HCL E4 R4
         generalize w4.setCell ⟨tb, 3, none⟩ (.slice pA (l2 + 1) cA) = w5 at Q4 ⊢
         have cm := cellsOf Q4.out.hm; have lm := ltOf Q4.out.hm; have fm := q0c Q4.out.hm; have ct := cellsOf Q4.out.ht; have lt := ltOf Q4.out.ht; have ft := q0c Q4.out.ht
         go_wp2_with fail
         go_roundw
         case rel => exact ⟨j + 1, _, pA, l2 + 1, cA, _, rfl, by omega, by go_num, V33.out, V34.out, V35.out, X4.out, V36.out, ⟨by have := HJD.out; omega, NA4.out⟩, Q4.out.mono (t' := t + 70000 + 100 * 1 + ((j + 1 : Nat) : Int)) (by omega)⟩
         case measure => simp [intOf]; omega
        ·go_wp2_with fail
         go_roundw
         case rel => exact ⟨j + 1, _, pb, l2, c2, _, rfl, by omega, by go_num, VG4.out, VO4.out, VA4.out, VB4.out, VR4.out, ⟨by have := HJD.out; omega, HJD.out.2⟩, H5.out.mono (t' := t + 70000 + 100 * 1 + ((j + 1 : Nat) : Int)) (by omega)⟩
         case measure => simp [intOf]; omega
       ·have cm := cellsOf H4.out.hm; have lm := ltOf H4.out.hm; have fm := q0c H4.out.hm; have ct := cellsOf H4.out.ht; have lt := ltOf H4.out.ht; have ft := q0c H4.out.ht
        go_wp2_with fail
        clear cm lm fm ct lt ft
        go_roundw
        case rel => exact ⟨2, _, _, _, _, _, _, _, _, rfl, by omega, by go_num, VG4.out, VO4.out, VA4.out, VB4.out, VR4.out, ⟨.inr (by omega), by have := HBD.out; omega, .inr (by omega), by have := HJD.out; omega, HBD.out.2.2.2.2.1, HJD.out.2⟩, H4.out.mono (t' := t + 70000 + 100 * 2) (by omega)⟩
        case measure => simp [intOf]
     ·have cm := cellsOf H3.out.hm; have lm := ltOf H3.out.hm; have fm := q0c H3.out.hm; have ct := cellsOf H3.out.ht; have lt := ltOf H3.out.ht; have ft := q0c H3.out.ht
      go_wp2_with fail
      refine (q1u b a la ca xs f (t + 70000 + 100 * 2) 10 _ H3.out.src (by omega) (by omega) (by omega)).mono ?_
      rintro e wl ⟨qq, rfl, hs, hc⟩
      clear cm lm fm ct lt ft
      have H5 := hid (H3.out.call hs hc)
      clear hs hc
      have hl12 : l1 ≤ 268 ∧ l2 ≤ 268 := by have := HBD.out; omega
      cases qq
      ·have cm := cellsOf H5.out.hm; have lm := ltOf H5.out.hm; have fm := q0c H5.out.hm; have ct := cellsOf H5.out.ht; have lt := ltOf H5.out.ht; have ft := q0c H5.out.ht
       go_wp2_with (first | (refine q1c rfl _ 34 rfl rfl q1x Tryz.underlying34 H5.out.hm rfl ?_) | (refine q0z rfl _ _ 34 rfl rfl rfl q1x H5.out.h2 rfl rfl rfl ?_; intro w10 hb hc; have HB := hid hb; have HC := hid hc; clear hb hc))
       refine bodyPost_ret (v := .agg #[.int .i64 s.gS, .int .i64 s.cM, .int .i64 s.data, .int .i64 s.spare, .int .i64 s.rows, .int .i64 s.cap, .int .i64 s.bT, .int .i64 s.qU, .int .i64 s.sG, .slice pg G cg, .slice po lo co, .slice (some ⟨tb, 0, none⟩) 2 2, .int .i64 wt, .int .i64 st, .bool dn]) (q0t _ 34 rfl rfl q1x Tryz.underlying34 HB.out rfl) rfl ⟨_, rfl, rfl, rfl, ⟨_, tb, #[.bool q0, .slice pa l1 c1, .bool q1, .slice pb l2 c2], ⟨s, _, _, _, D, R, _, _, _, _, _, _, _, _, _, _, _, _, _, _, _, rfl, rfl, HP.out.1, VG3.out, VO3.out, .inr rfl, HP.out.2.2.2.2.1, HP.out.2.2.2.2.2.1, VA3.out, VB3.out⟩, HC.out.keepb H5.out.ht (by rw [List.mem_singleton]; have := H5.out.lt; omega), H5.out.nt, Nat.le_of_lt H5.out.lt, (H5.out.ty.chg HC.out (fun y hy => by rw [List.mem_singleton] at hy; omega)).mono (Nat.le_succ _)⟩, H5.out.chg.trans HC.out (fun y hy => .inr (by rw [List.mem_singleton] at hy; omega))⟩
      ·go_upto_region 31 with fail
       obtain ⟨CC, HCI, HCO⟩ := q0j (fun w' => Know m #[.int .i64 s.gS, .int .i64 s.cM, .int .i64 s.data, .int .i64 s.spare, .int .i64 s.rows, .int .i64 s.cap, .int .i64 s.bT, .int .i64 s.qU, .int .i64 s.sG, .slice pg G cg, .slice po lo co, .slice (some ⟨tb, 0, none⟩) 2 2, .int .i64 wt, .int .i64 st, .bool dn] w')
       refine q1j [6] CC (by kernel_rfl) (HCI.out _ (Know.of (q0a H5.out.hm))) (fun hcl hS => ?_)
       refine ggT 0 hcl hS ?_; clear hcl hS; intro hcl hS
       refine ggL 1 hcl hS HCO ?_; clear hcl hS; intro hcl hS
       refine ggT 2 hcl hS ?_; clear hcl hS; intro hcl hS
       refine ggT 4 hcl hS ?_; clear hcl hS; intro hcl hS
       refine ggC 3 hcl rfl (by kernel_rfl) (fun K hK => ?_)
       go_simp
       go_at_call 131
       refine (q1g b a la ca xs f (t + 70000 + 100 * 2 + 1) 2 _ (H5.out.ext (Chg.refl [] wl).drew).src (by omega) (by omega) (by omega)).mono ?_; rintro e wn ⟨v, rfl, hd, hs, hc⟩; obtain ⟨ri, rfl⟩ := Int.eq_ofNat_of_zero_le hd.1; have hri : ri < 2 := (by have := hd.2.1 (by omega); omega); have hrz : (ri : Int) < 2 := (by omega); have H6 := hid ((H5.out.ext (Chg.refl [] wl).drew).call hs hc); have k1 : ∃ u, wn.cell? ⟨tb, ri * 2, none⟩ = some u := (by have ct := cellsOf H6.out.ht; rcases (show ri = 0 ∨ ri = 1 by omega) with rfl | rfl <;> exact ⟨_, ct _⟩); have k2 : ∃ u, wn.cell? ⟨tb, ri * 2 + 1, none⟩ = some u := (by have ct := cellsOf H6.out.ht; rcases (show ri = 0 ∨ ri = 1 by omega) with rfl | rfl <;> exact ⟨_, ct _⟩); obtain ⟨u1, k1⟩ := k1; obtain ⟨u2, k2⟩ := k2; have lt6 := ltOf H6.out.ht; have ft6 := q0c H6.out.ht; clear hs hc hd
       go_wp2_with fail
       refine hK.out _ _ (fun _ => HCI.out _ (Know.of H6.out.hm)) ?_
       clear hK K hcl hS
       intro hcl hS
       try simp only [Act.put, pA, pB, pC]
       refine ggT 5 hcl hS ?_; clear hcl hS; intro hcl hS
       refine ggC 6 hcl rfl (by kernel_rfl) (fun K hK => ?_)
       go_simp
       refine hK.out _ _ (Till.done (m := 6) (by simp) (by rfl)) ?_
       clear hK K hcl hS
       intro hcl hS
       try simp only [Act.put, pA, pB, pC]
       refine q3i (by kernel_rfl) ?_ _
       clear k1 k2
       rcases (show ri = 0 ∨ ri = 1 by omega) with rfl | rfl
       ·have Q7 := hid ((H6.out.putT (ts' := #[.bool true, .slice pa l1 c1, .bool q1, .slice pb l2 c2]) 0 (.bool true) rfl).putT (ts' := #[.bool true, .slice none 0 0, .bool q1, .slice pb l2 c2]) 1 (.slice none 0 0) rfl); have NIL := hid (SlT.nil Ti .rc)
        generalize ((wn.setCell ⟨tb, 0, none⟩ (.bool true)).setCell ⟨tb, 1, none⟩ (.slice none 0 0)) = w7 at Q7 ⊢
        have cm := cellsOf Q7.out.hm; have lm := ltOf Q7.out.hm; have fm := q0c Q7.out.hm; have ct := cellsOf Q7.out.ht; have lt := ltOf Q7.out.ht; have ft := q0c Q7.out.ht
        go_wp2_with (first | (refine q1c rfl _ 34 rfl rfl q1x Tryz.underlying34 Q7.out.hm rfl ?_) | (refine q0z rfl _ _ 34 rfl rfl rfl q1x Q7.out.h2 rfl rfl rfl ?_; intro w10 hb hc; have HB := hid hb; have HC := hid hc; clear hb hc))
        refine bodyPost_ret (v := .agg #[.int .i64 s.gS, .int .i64 s.cM, .int .i64 s.data, .int .i64 s.spare, .int .i64 s.rows, .int .i64 s.cap, .int .i64 s.bT, .int .i64 s.qU, .int .i64 s.sG, .slice pg G cg, .slice po lo co, .slice (some ⟨tb, 0, none⟩) 2 2, .int .i64 wt, .int .i64 st, .bool dn]) (q0t _ 34 rfl rfl q1x Tryz.underlying34 HB.out rfl) rfl ⟨_, rfl, rfl, rfl, ⟨_, tb, #[.bool true, .slice none 0 0, .bool q1, .slice pb l2 c2], ⟨s, _, _, _, D, R, _, _, _, _, _, _, _, _, _, _, _, _, _, _, _, rfl, rfl, HP.out.1, VG3.out, VO3.out, .inr rfl, HP.out.2.2.2.2.1, HP.out.2.2.2.2.2.1, NIL.out, VB3.out⟩, HC.out.keepb Q7.out.ht (by rw [List.mem_singleton]; have := Q7.out.lt; omega), Q7.out.nt, Nat.le_of_lt Q7.out.lt, (Q7.out.ty.chg HC.out (fun y hy => by rw [List.mem_singleton] at hy; omega)).mono (Nat.le_succ _)⟩, Q7.out.chg.trans HC.out (fun y hy => .inr (by rw [List.mem_singleton] at hy; omega))⟩
       ·have Q7 := hid ((H6.out.putT (ts' := #[.bool q0, .slice pa l1 c1, .bool true, .slice pb l2 c2]) 2 (.bool true) rfl).putT (ts' := #[.bool q0, .slice pa l1 c1, .bool true, .slice none 0 0]) 3 (.slice none 0 0) rfl); have NIL := hid (SlT.nil Ti .rc)
        generalize ((wn.setCell ⟨tb, 2, none⟩ (.bool true)).setCell ⟨tb, 3, none⟩ (.slice none 0 0)) = w7 at Q7 ⊢
        have cm := cellsOf Q7.out.hm; have lm := ltOf Q7.out.hm; have fm := q0c Q7.out.hm; have ct := cellsOf Q7.out.ht; have lt := ltOf Q7.out.ht; have ft := q0c Q7.out.ht
        go_wp2_with (first | (refine q1c rfl _ 34 rfl rfl q1x Tryz.underlying34 Q7.out.hm rfl ?_) | (refine q0z rfl _ _ 34 rfl rfl rfl q1x Q7.out.h2 rfl rfl rfl ?_; intro w10 hb hc; have HB := hid hb; have HC := hid hc; clear hb hc))
        refine bodyPost_ret (v := .agg #[.int .i64 s.gS, .int .i64 s.cM, .int .i64 s.data, .int .i64 s.spare, .int .i64 s.rows, .int .i64 s.cap, .int .i64 s.bT, .int .i64 s.qU, .int .i64 s.sG, .slice pg G cg, .slice po lo co, .slice (some ⟨tb, 0, none⟩) 2 2, .int .i64 wt, .int .i64 st, .bool dn]) (q0t _ 34 rfl rfl q1x Tryz.underlying34 HB.out rfl) rfl ⟨_, rfl, rfl, rfl, ⟨_, tb, #[.bool q0, .slice pa l1 c1, .bool true, .slice none 0 0], ⟨s, _, _, _, D, R, _, _, _, _, _, _, _, _, _, _, _, _, _, _, _, rfl, rfl, HP.out.1, VG3.out, VO3.out, .inr rfl, HP.out.2.2.2.2.1, HP.out.2.2.2.2.2.1, VA3.out, NIL.out⟩, HC.out.keepb Q7.out.ht (by rw [List.mem_singleton]; have := Q7.out.lt; omega), Q7.out.nt, Nat.le_of_lt Q7.out.lt, (Q7.out.ty.chg HC.out (fun y hy => by rw [List.mem_singleton] at hy; omega)).mono (Nat.le_succ _)⟩, Q7.out.chg.trans HC.out (fun y hy => .inr (by rw [List.mem_singleton] at hy; omega))⟩
 ·have hfb : (X.fault != 0) = true := by simpa using hf
  go_wp2_with (first | (refine q1c rfl _ 34 rfl rfl q1x Tryz.underlying34 H1.out.hm rfl ?_) | (refine q0z rfl _ _ 34 rfl rfl rfl q1x H1.out.h2 rfl rfl rfl ?_; intro w10 hb hc; have HB := hid hb; have HC := hid hc; clear hb hc))
  refine bodyPost_ret (v := .agg #[.int .i64 s.gS, .int .i64 s.cM, .int .i64 s.data, .int .i64 s.spare, .int .i64 s.rows, .int .i64 s.cap, .int .i64 s.bT, .int .i64 s.qU, .int .i64 s.sG, .slice pg G cg, .slice po lo co, .slice (some ⟨tb, 0, none⟩) nt 2, .int .i64 wt, .int .i64 st, .bool dn]) (q0t _ 34 rfl rfl q1x Tryz.underlying34 HB.out rfl) rfl ⟨_, rfl, rfl, rfl, ⟨T, tb, #[.bool q0, .slice pa l1 c1, .bool q1, .slice pb l2 c2], ⟨s, _, _, _, D, R, _, _, _, _, _, _, _, _, _, _, _, _, _, _, _, rfl, rfl, HP.out.1, HP.out.2.1, HP.out.2.2.1, HP.out.2.2.2.1, HP.out.2.2.2.2.1, HP.out.2.2.2.2.2.1, HP.out.2.2.2.2.2.2.1, HP.out.2.2.2.2.2.2.2⟩, HC.out.keepb H1.out.ht (by rw [List.mem_singleton]; have := H1.out.lt; omega), H1.out.nt, Nat.le_of_lt H1.out.lt, (H1.out.ty.chg HC.out (fun y hy => by rw [List.mem_singleton] at hy; omega)).mono (Nat.le_succ _)⟩, H1.out.chg.trans HC.out (fun y hy => .inr (by rw [List.mem_singleton] at hy; omega))⟩
theorem DrP.mono {n k : Nat} {cs : Array Value} {w : World} (h : DrP n cs w) (hk : k ≤ n) : DrP k cs w := by
 obtain ⟨T, tb, ts, h1, h2, h3, h4, h5⟩ := h
 exact ⟨T, tb, ts, h1, h2, h3, Nat.le_trans hk h4, h5.mono hk⟩
theorem q7m (a : Option Addr) (la ca : Nat) (xs : List UInt8) (f : List Nat) (w : World) (ha : q0p.sl w a la ca xs f) (hla : la ≤ 1048576) :
  Calls Tryz.prog 46 #[.slice a la ca] w fun e w' => ∃ cs : Array Value, e = .returned (.agg cs) ∧ DrP w.heap.size cs w' ∧ Chg [] w w' := by
 have HA := hid (q0p.sl_ext ha ((Chg.refl [] w).alloc (.cells #[.int .i64 0, .int .i64 0, .int .i64 0, .int .i64 0, .int .i64 0, .int .i64 0, .int .i64 0, .int .i64 0, .int .i64 0, .slice none 0 0, .slice none 0 0, .slice none 0 0, .int .i64 0, .int .i64 0, .bool false] 34)))
 have HC0 := hid ((Chg.refl [] w).alloc (.cells #[.int .i64 0, .int .i64 0, .int .i64 0, .int .i64 0, .int .i64 0, .int .i64 0, .int .i64 0, .int .i64 0, .int .i64 0, .slice none 0 0, .slice none 0 0, .slice none 0 0, .int .i64 0, .int .i64 0, .bool false] 34))
 have G2 := hid (q0o w (.cells #[.int .i64 0, .int .i64 0, .int .i64 0, .int .i64 0, .int .i64 0, .int .i64 0, .int .i64 0, .int .i64 0, .int .i64 0, .slice none 0 0, .slice none 0 0, .slice none 0 0, .int .i64 0, .int .i64 0, .bool false] 34))
 clear ha
 go_enter Tryz.func46, Tryz.ntmps46
 go_wp2_with fail
 refine (source_any a la ca xs f _ HA.out hla).mono ?_
 rintro e wa ⟨rfl, hs, hc⟩
 obtain ⟨b, hb⟩ : ∃ b, b = (w.alloc (.cells #[.int .i64 0, .int .i64 0, .int .i64 0, .int .i64 0, .int .i64 0, .int .i64 0, .int .i64 0, .int .i64 0, .int .i64 0, .slice none 0 0, .slice none 0 0, .slice none 0 0, .int .i64 0, .int .i64 0, .bool false] 34)).heap.size := ⟨_, rfl⟩
 rw [← hb] at hs ⊢
 have hbw : w.heap.size < b := by rw [hb]; simp
 have HSA := hid hs; have HCA := hid (HC0.out.trans0 hc); have GA2 := hid (hc.keep0 G2.out)
 clear hs hc hb HA HC0 G2
 go_wp2_with fail
 refine (l6World_ty b a la ca xs f 0 _ HSA.out (by omega)).mono ?_
 rintro e wb ⟨cs, rfl, -, -, hX, hc⟩
 have hba : b < wa.heap.size := HSA.out.lt
 have hra : w.heap.size < wa.heap.size := ltOf GA2.out
 have hcw : Chg [] w wb := HCA.out.trans hc (fun y hy => .inr (by rw [List.mem_singleton] at hy; omega))
 have GB2 := hid (hc.keepb GA2.out (by rw [List.mem_singleton]; omega))
 have HX := hid (hX.mono (Nat.le_of_lt hra)); have HXB := hid hX; have HCW := hid hcw
 obtain ⟨T, tb, ts, ⟨s, pg, G, cg, D, R, po, lo, co, nt, wt, st, dn, q0, q1, pa, l1, c1, pb, l2, c2, rfl, -⟩, -⟩ := hX
 clear hc hcw HSA HCA GA2
 go_wp2_with (refine q0z rfl _ _ 34 rfl rfl rfl q1x GB2.out rfl rfl rfl ?_; intro w9 hb9 hc9; have HB9 := hid hb9; have HC9 := hid hc9; clear hb9 hc9)
 refine bodyPost_ret (v := .agg #[.int .i64 s.gS, .int .i64 s.cM, .int .i64 s.data, .int .i64 s.spare, .int .i64 s.rows, .int .i64 s.cap, .int .i64 s.bT, .int .i64 s.qU, .int .i64 s.sG, .slice pg G cg, .slice po lo co, .slice (some ⟨tb, 0, none⟩) nt 2, .int .i64 wt, .int .i64 st, .bool dn]) (q0t _ 34 rfl rfl q1x Tryz.underlying34 HB9.out rfl) rfl ⟨_, rfl, (DrP.chg HXB.out HC9.out (fun y hy => by rw [List.mem_singleton] at hy; omega)).mono (Nat.le_of_lt hra), HCW.out.trans HC9.out (fun y hy => .inr (by rw [List.mem_singleton] at hy; omega))⟩

theorem sumI_insB (f : Rec → Int) (r : Rec) : ∀ ys : List Rec, sumI f (insB r ys) = f r + sumI f ys
 | [] => rfl
 | y :: ys => by
  have := sumI_insB f r ys
  unfold insB
  split
  ·rfl
  ·show f y + sumI f (insB r ys) = f r + (f y + sumI f ys); omega
theorem sumI_fold (f : Rec → Int) : ∀ (l o : List Rec), sumI f (l.foldl (fun o r => insB r o) o) = sumI f o + sumI f l
 | [], o => by show sumI f o = sumI f o + 0; omega
 | r :: l, o => by
  have h1 := sumI_fold f l (insB r o); have h2 := sumI_insB f r o
  show sumI f (l.foldl (fun o r => insB r o) (insB r o)) = sumI f o + (f r + sumI f l)
  omega
theorem sumI_isort (f : Rec → Int) (l : List Rec) : sumI f (isort l) = sumI f l := by
 have := sumI_fold f l []
 show sumI f (l.foldl (fun o r => insB r o) []) = _
 have h0 : sumI f ([] : List Rec) = 0 := rfl
 omega
theorem q7b (f : Rec → Int) : ∀ (xs ys : List Rec), sumI f (xs ++ ys) = sumI f xs + sumI f ys
 | [], ys => by show sumI f ys = 0 + sumI f ys; omega
 | x :: xs, ys => by have := q7b f xs ys; show f x + sumI f (xs ++ ys) = f x + sumI f xs + sumI f ys; omega
theorem sumI_dedF {f : Rec → Int} (hf : ∀ x, 0 ≤ f x) : ∀ (rs acc : List Rec), sumI f (dedF acc rs) ≤ sumI f acc + sumI f rs
 | [], acc => by show sumI f acc ≤ sumI f acc + 0; omega
 | r :: rs, acc => by
  have h1 := sumI_dedF hf rs (dedS acc r)
  have h2 : sumI f (dedS acc r) ≤ sumI f acc + f r := by
   have h0 := hf r
   unfold dedS; split
   ·omega
   ·rw [q7b]; show sumI f acc + (f r + 0) ≤ _; omega
  show sumI f (dedF (dedS acc r) rs) ≤ sumI f acc + (f r + sumI f rs)
  omega
theorem sumI_flat (f : Rec → Int) : ∀ ts : List Tap, sumI f (ts.flatMap (·.recs)) = sumI (fun t => sumI f t.recs) ts
 | [] => rfl
 | t :: ts => by
  have := sumI_flat f ts
  rw [List.flatMap_cons, q7b]
  show sumI f t.recs + _ = sumI f t.recs + _
  omega
theorem cnt_sum {f : Rec → Int} (hf : ∀ x, 0 ≤ f x) (ts : List Tap) : sumI f (cntL ts) ≤ sumI (fun t => sumI f t.recs) ts := by
 have h1 := sumI_dedF hf (ts.flatMap (·.recs)) []
 have h2 := sumI_flat f ts
 unfold cntL
 rw [sumI_isort]
 have h0 : sumI f ([] : List Rec) = 0 := rfl
 omega
theorem q8u (f : Rec → Int) : ∀ xs : List Rec, sumI (fun x => 1 + f x) xs = totL f xs
 | [] => rfl
 | x :: xs => by
  have := q8u f xs
  show 1 + f x + sumI (fun x => 1 + f x) xs = ((xs.length + 1 : Nat) : Int) + (f x + sumI f xs)
  rw [this, Int.natCast_add]; unfold totL; omega
theorem totCnt (x : Wld) : totL q3f (cntL x.tapes) ≤ q2t x := by
 have h1 := cnt_sum (f := fun r => 1 + q3f r) (fun r => by have := q3l r; omega) x.tapes
 have h2 := q8u q3f (cntL x.tapes)
 have h3 : sumI (fun t : Tap => sumI (fun r => 1 + q3f r) t.recs) x.tapes = sumI q5s x.tapes := by
  congr 1; funext t; exact q8u q3f t.recs
 have h4 := q1s (q1s q3m) x.gS
 have h5 := q3g x.on
 have h6 : q2t x = totL (totL q8a) x.gS + q5u x.on + totL q5s x.tapes := rfl
 have h7 : totL q5s x.tapes = x.tapes.length + sumI q5s x.tapes := rfl
 omega
structure RRes where
 code : Int
 recs : List Rec
def rrsL : Lay RRes := (intL.pair recL.slice).via (fun x => (x.code, x.recs))
theorem q5z {w : World} {cs : List Value} {x : RRes} {fp : List Nat} : rrsL.rep w cs x fp ↔ ∃ a l c, cs = [.int .i64 x.code, .slice a l c] ∧ q0u x.code ∧ recL.sl w a l c x.recs fp := by
 constructor
 ·rintro ⟨_, _, _, f, rfl, rfl, ⟨rfl, h1, rfl⟩, a, l, c, rfl, h2⟩
  exact ⟨a, l, c, rfl, h1, h2⟩
 ·rintro ⟨a, l, c, rfl, h1, h2⟩
  exact ⟨[_], _, [], _, rfl, rfl, ⟨rfl, h1, rfl⟩, _, _, _, rfl, h2⟩
theorem infoRR : (Tryz.prog.info? 46).map (fun i => i.size) = some 2 := by kernel_rfl
end Go.Proofs.YtphmpimgbmedbaaGreat
