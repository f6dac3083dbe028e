/- Several texts in one. -/
import Derived.Test.YtphmpimgbmedbaaGreatVas
import Derived.Test.YtphmpimgbmedbaaGreatVal
import Derived.Test.YtphmpimgbmedbaaGreatRows
import Derived.Test.YtphmpimgbmedbaaGreatVam
import Derived.Test.YtphmpimgbmedbaaGreatVad
set_option maxRecDepth 100000
set_option maxHeartbeats 8000000
namespace Go.Proofs.YtphmpimgbmedbaaGreat
open Go.RowKit
open Go.Lib (hid)
theorem q4j {P : Program} {o : Oper} {a : Act} {w : World} {b : Nat} {cs : Array Value} {E : TypeId} {fr : Nat × Nat} {n : Nat} {fs : Array Field} (p : Operand) (t : TypeId)
  (hop : o.op = .load t p) (hp : a.eval p = .pointer (some ⟨b, 0, none⟩)) (hi : (P.info? t).map (fun i => i.size) = some n) (hu : P.underlying t = some (.struct fs)) (h : w.heap[b]? = some (.cells cs E fr))
  (hs : cs.size = n) : (execOp a.eval o).run P w = .ok (.value (.agg cs)) w := by
 obtain ⟨i, hi1, hi2⟩ := Option.map_eq_some_iff.1 hi
 have hld := run_loadCells_list (P := P) (w := w) ⟨b, 0, none⟩ cs.toList (fun j v hv => by
  have := cell_of_row w b j cs E fr h
  rw [Addr.add_lit, Nat.zero_add, this]; simpa using hv)
 have hsz : cs.toList.length = i.size := by simp; omega
 rw [hsz] at hld
 unfold execOp
 have hp0 : (program : Sem Program).run P w = .ok P w := rfl
 simp only [hop, hp, Instr.loadAt, Instr.sureAddr, loadVar, isAgg, run_underlying hu, sizeOf, typeInfo, Sem.run_bind, Sem.run_pure, Result.andThen_ok, hp0, hi1, if_true, hld]
theorem q5p {P : Program} {w : World} {b : Nat} {cs : Array Value} {E : TypeId} {fr : Nat × Nat} {n : Nat} {fs : Array Field} (t : TypeId)
  (hi : (P.info? t).map (fun i => i.size) = some n) (hu : P.underlying t = some (.struct fs)) (h : w.heap[b]? = some (.cells cs E fr)) (hs : cs.size = n) : (loadVar t ⟨b, 0, none⟩).run P w = .ok (.agg cs) w := by
 obtain ⟨i, hi1, hi2⟩ := Option.map_eq_some_iff.1 hi
 have hld := run_loadCells_list (P := P) (w := w) ⟨b, 0, none⟩ cs.toList (fun j v hv => by
  have := cell_of_row w b j cs E fr h
  rw [Addr.add_lit, Nat.zero_add, this]; simpa using hv)
 have hsz : cs.toList.length = i.size := by simp; omega
 rw [hsz, Array.toArray_toList] at hld
 have hp0 : (program : Sem Program).run P w = .ok P w := rfl
 simp only [loadVar, isAgg, run_underlying hu, sizeOf, typeInfo, Sem.run_bind, Sem.run_pure, Result.andThen_ok, hp0, hi1, if_true, hld]
theorem q8r {P : Program} {fn : Func} {tmps : Array Value} {w : World} {b : Nat} {cs : Array Value} {E : TypeId} {fr : Nat × Nat} {n : Nat} {fs : Array Field} (s q : Tmp) (v : Value) (t : TypeId) (hr : fn.results = #[.cell s t, .tmp q])
  (hp : tmps.getD s undef = .pointer (some ⟨b, 0, none⟩)) (hq : tmps.getD q undef = v) (hi : (P.info? t).map (fun i => i.size) = some n) (hu : P.underlying t = some (.struct fs)) (h : w.heap[b]? = some (.cells cs E fr)) (hs : cs.size = n) :
  (results fn tmps).run P w = .ok (.tuple #[.agg cs, v]) w := by
 have hl := q5p t hi hu h hs
 have hp2 : tmps[s]?.getD undef = .pointer (some ⟨b, 0, none⟩) := by simpa using hp
 have hq2 : tmps[q]?.getD undef = v := by simpa using hq
 simp [results, hr, hp2, hq2, asAddr, hl]
theorem results_five {P : Program} {fn : Func} {tmps : Array Value} {w : World} {b b2 : Nat} {cs cs2 : Array Value} {E E2 : TypeId} {fr fr2 : Nat × Nat} {n n2 : Nat} {fs fs2 : Array Field} (s s2 q1 q2 q3 : Tmp) (v1 v2 v3 : Value) (t t2 : TypeId) (hr : fn.results = #[.cell s t, .tmp q1, .tmp q2, .tmp q3, .cell s2 t2])
  (hp : tmps.getD s undef = .pointer (some ⟨b, 0, none⟩)) (hq1 : tmps.getD q1 undef = v1) (hq2 : tmps.getD q2 undef = v2) (hq3 : tmps.getD q3 undef = v3) (hp2 : tmps.getD s2 undef = .pointer (some ⟨b2, 0, none⟩)) (hi : (P.info? t).map (fun i => i.size) = some n) (hu : P.underlying t = some (.struct fs)) (h : w.heap[b]? = some (.cells cs E fr)) (hs : cs.size = n)
  (hi2 : (P.info? t2).map (fun i => i.size) = some n2) (hu2 : P.underlying t2 = some (.struct fs2)) (h2 : w.heap[b2]? = some (.cells cs2 E2 fr2)) (hs2 : cs2.size = n2) :
  (results fn tmps).run P w = .ok (.tuple #[.agg cs, v1, v2, v3, .agg cs2]) w := by
 have hl := q5p t hi hu h hs
 have hl2 := q5p t2 hi2 hu2 h2 hs2
 have e1 : tmps[s]?.getD undef = .pointer (some ⟨b, 0, none⟩) := by simpa using hp
 have e2 : tmps[q1]?.getD undef = v1 := by simpa using hq1
 have e3 : tmps[q2]?.getD undef = v2 := by simpa using hq2
 have e4 : tmps[q3]?.getD undef = v3 := by simpa using hq3
 have e5 : tmps[s2]?.getD undef = .pointer (some ⟨b2, 0, none⟩) := by simpa using hp2
 simp [results, hr, e1, e2, e3, e4, e5, asAddr, hl, hl2]
def DrawnX (w : World) (cs : Array Value) : Prop := ∃ X fp, wldL.rep w cs.toList X fp ∧ q1u X ≤ 300000 ∧ X.wT ≠ 1000000000
theorem DrawnX.of {tb n : Nat} {T : List TRow} {cs ts : Array Value} {w : World} (h : WdO tb T cs ts) (ht : w.heap[tb]? = some (.cells ts 69 (0, 0))) (hn : tb ∉ T.map (·.b)) (hT : TyN n T w) : DrawnX w cs := by
 obtain ⟨s, pg, G, cg, D, R, po, lo, co, nt, wr, st, dn, q0, q1, pa, l1, c1, pb, l2, c2, rfl, rfl, hs, hg, ho, hnt, hwr, hst, ha, hb, -, -⟩ := h
 obtain ⟨hW, hsub⟩ := hT.well.tapes ht hn ha hb
 obtain ⟨x, fp, h1, h2, h3⟩ := dec_wld hW (s := s) (v10 := .slice pg G cg) (v11 := .slice po lo co) (v12 := .slice (some ⟨tb, 0, none⟩) nt 2) (dn := dn)
  ⟨hs, ⟨D, R, hg.sub hsub⟩, ho.sub hsub, ⟨_, _, _, rfl, by show nt ≤ 2; omega, by omega, by simp [maxLen], .inr ⟨_, List.mem_cons_self, rfl, 0, by rw [Nat.zero_mul], by show 0 + nt ≤ 2; omega, by show 0 + 2 ≤ 2; omega⟩⟩⟩ hwr.1 hst
 exact ⟨x, fp, h1, h2, by rw [h3]; exact hwr.2⟩
def DrT (n : Nat) (cs : Array Value) (w : World) : Prop := ∃ (T : List TRow) (tb : Nat) (ts : Array Value), WdO tb T cs ts ∧ w.heap[tb]? = some (.cells ts 69 (0, 0)) ∧ tb ∉ T.map (·.b) ∧ n ≤ tb ∧ TyN n T w
theorem DrT.chg {n : Nat} {cs : Array Value} {w w' : World} {S : List Nat} (h : DrT n cs w) (hc : Chg S w w') (hS : ∀ x ∈ S, x < n) : DrT n cs w' := by
 obtain ⟨T, tb, ts, h1, h2, h3, h4, h5⟩ := h
 exact ⟨T, tb, ts, h1, hc.keepb h2 (fun hm => by have := hS _ hm; omega), h3, h4, h5.chg hc hS⟩
theorem DrT.mono {n k : Nat} {cs : Array Value} {w : World} (h : DrT n cs w) (hk : k ≤ n) : DrT k cs w := by
 obtain ⟨T, tb, ts, h1, h2, h3, h4, h5⟩ := h
 exact ⟨T, tb, ts, h1, h2, h3, by omega, h5.mono hk⟩
theorem DrT.x {n : Nat} {cs : Array Value} {w : World} (h : DrT n cs w) : DrawnX w cs := by
 obtain ⟨T, tb, ts, h1, h2, h3, -, h5⟩ := h
 exact DrawnX.of h1 h2 h3 h5
theorem lmx_any (x y : Int) (w : World) : Calls Tryz.prog 254 #[.int .i64 x, .int .i64 y] w fun e w' => e = .returned (.int .i64 (max x y)) ∧ w = w' := by
 go_enter Tryz.func254, Tryz.ntmps254
 by_cases h : y < x
 ·go_wp2
  go_ret
  exact ⟨q0n (Int.max_eq_left (by omega)).symm, rfl⟩
 ·go_wp2
  go_ret
  exact ⟨q0n (Int.max_eq_right (by omega)).symm, rfl⟩
theorem group_any (b : Nat) (a : Option Addr) (la ca : Nat) (xs : List UInt8) (f : List Nat) (t : Int) {u0 u1 u2 u3 u4 u5 u6 u7 u8 u10 u11 u12 u13 u14 : Value} (pg : Option Addr) (G cg : Nat) (w : World) (h : SrcB b a la ca xs f t w) (ht : t ≤ 1073000000) (hG : G ≤ 8) :
  Calls Tryz.prog 210 #[.pointer (some ⟨b, 0, none⟩), .agg #[u0, u1, u2, u3, u4, u5, u6, u7, u8, .slice pg G cg, u10, u11, u12, u13, u14]] w fun e w' => ∃ g, e = .returned (.int .i64 g) ∧ q0q g ∧ SrcB b a la ca xs f (t + 4) w' ∧ Chg [b] w w' := by
 have HB := h.lt
 have HS0 := hid (h.ext ((Chg.refl [] w).alloc (.cells #[u0, u1, u2, u3, u4, u5, u6, u7, u8, .slice pg G cg, u10, u11, u12, u13, u14] 34)))
 have HC0 := hid ((Chg.refl [b] w).alloc (.cells #[u0, u1, u2, u3, u4, u5, u6, u7, u8, .slice pg G cg, u10, u11, u12, u13, u14] 34))
 clear h
 go_enter Tryz.func210, Tryz.ntmps210
 go_wp2_with fail
 refine (lmx_any 1 G _).mono ?_; rintro e wx ⟨rfl, rfl⟩
 obtain ⟨mx, hmx⟩ : ∃ mx : Int, mx = max 1 (G : Int) := ⟨_, rfl⟩
 have hm8 : 1 ≤ mx ∧ mx ≤ 8 := by omega
 rw [← hmx]
 have HMX := hid hmx; clear hmx
 go_wp2_with fail
 refine (q1h b a la ca xs f t mx _ HS0.out (by omega) (by omega) (by omega)).mono ?_
 rintro e w1 ⟨v1, rfl, hd, hs, hc⟩
 have hv1 : 0 ≤ v1 ∧ v1 < 8 := ⟨hd.1, by have := hd.2.1 (by omega); omega⟩
 have HS1 := hid hs; have HC1 := hid (HC0.out.trans hc (fun y hy => .inl hy))
 clear hs hc hd
 go_wp2_with fail
 refine (lmx_any 1 G _).mono ?_; rintro e wx ⟨rfl, rfl⟩
 rw [← HMX.out]
 go_wp2_with fail
 refine (q1h b a la ca xs f (t + 1) mx _ HS1.out (by omega) (by omega) (by omega)).mono ?_
 rintro e w2 ⟨v2, rfl, hd, hs, hc⟩
 have hv2 : 0 ≤ v2 ∧ v2 < 8 := ⟨hd.1, by have := hd.2.1 (by omega); omega⟩
 have HS2 := hid hs; have HC2 := hid (HC1.out.trans hc (fun y hy => .inl hy))
 clear hs hc hd
 go_wp2_with fail
 refine (lmx_any 1 G _).mono ?_; rintro e wx ⟨rfl, rfl⟩
 rw [← HMX.out]
 go_wp2_with fail
 refine (q1h b a la ca xs f (t + 1 + 1) mx _ HS2.out (by omega) (by omega) (by omega)).mono ?_
 rintro e w3 ⟨v3, rfl, hd, hs, hc⟩
 have hv3 : 0 ≤ v3 ∧ v3 < 8 := ⟨hd.1, by have := hd.2.1 (by omega); omega⟩
 have HS3 := hid hs; have HC3 := hid (HC2.out.trans hc (fun y hy => .inl hy))
 clear hs hc hd
 go_wp2_with fail
 refine (q0z b a la ca xs f (t + 1 + 1 + 1) 5 [v1, v2, v3, -1, G] _ HS3.out (by omega) (by intro y hy; simp only [List.mem_cons, List.not_mem_nil, or_false] at hy; constructor <;> omega) rfl (by omega) (by omega) _ rfl _ rfl).mono ?_
 rintro e w4 ⟨g, rfl, hd, hs, hc⟩
 have hg : q0q g := by simp only [List.mem_cons, List.not_mem_nil, or_false] at hd; constructor <;> omega
 have HN := hid (And.intro hg (And.intro (hs.mono (t2 := t + 4) (by omega)) (HC3.out.trans hc (fun y hy => .inl hy))))
 clear hs hc hd hg
 go_wp2_with fail
 go_ret
 exact ⟨g, rfl, HN.out.1, HN.out.2.1, HN.out.2.2⟩
theorem z0m (a : Option Addr) (la ca : Nat) (xs : List UInt8) (f : List Nat) (w : World) (ha : q0t.sl w a la ca xs f) (hla : la ≤ 1048576) :
  Calls Tryz.prog 142 #[.slice a la ca] w fun e w' => ∃ (cs : Array Value) (g : Int), e = .returned (.tuple #[.agg cs, .int .i64 g]) ∧ cs.size = 15 ∧ cs.toList.all Value.oneCell' = true ∧ q0q g ∧ DrT w.heap.size cs w' ∧ Chg [] w w' := by
 have HA := hid (q0t.sl_ext ha ((Chg.refl [] w).alloc (.cells #[.int .i64 0, .int .i64 0, .int .i64 0, .int .i64 0, .int .i64 0, .int .i64 0, .int .i64 0, .int .i64 0, .int .i64 0, .slice none 0 0, .slice none 0 0, .slice none 0 0, .int .i64 0, .int .i64 0, .bool false] 34)))
 have HC0 := hid ((Chg.refl [] w).alloc (.cells #[.int .i64 0, .int .i64 0, .int .i64 0, .int .i64 0, .int .i64 0, .int .i64 0, .int .i64 0, .int .i64 0, .int .i64 0, .slice none 0 0, .slice none 0 0, .slice none 0 0, .int .i64 0, .int .i64 0, .bool false] 34))
 have G2 := hid (q0j w (.cells #[.int .i64 0, .int .i64 0, .int .i64 0, .int .i64 0, .int .i64 0, .int .i64 0, .int .i64 0, .int .i64 0, .int .i64 0, .slice none 0 0, .slice none 0 0, .slice none 0 0, .int .i64 0, .int .i64 0, .bool false] 34))
 clear ha
 go_enter Tryz.func142, Tryz.ntmps142
 go_wp2_with fail
 refine (q9n a la ca xs f _ HA.out hla).mono ?_
 rintro e wa ⟨rfl, hs, hc⟩
 obtain ⟨b, hb⟩ : ∃ b, b = (w.alloc (.cells #[.int .i64 0, .int .i64 0, .int .i64 0, .int .i64 0, .int .i64 0, .int .i64 0, .int .i64 0, .int .i64 0, .int .i64 0, .slice none 0 0, .slice none 0 0, .slice none 0 0, .int .i64 0, .int .i64 0, .bool false] 34)).heap.size := ⟨_, rfl⟩
 rw [← hb] at hs ⊢
 have hbw : w.heap.size < b := by rw [hb]; simp
 have HSA := hid hs; have HCA := hid (HC0.out.trans0 hc); have GA2 := hid (hc.keep0 G2.out)
 clear hs hc hb HA HC0 G2
 go_wp2_with fail
 refine (q9r b a la ca xs f 0 _ HSA.out (by omega)).mono ?_
 rintro e wb ⟨cs, rfl, ⟨T, tb, ts, hwo, htb, hnt, hlt, hty⟩, hs, hc⟩
 have hX : DrT wa.heap.size cs wb := ⟨T, tb, ts, hwo, htb, hnt, hlt, hty⟩
 have hba : b < wa.heap.size := HSA.out.lt
 have hra : w.heap.size < wa.heap.size := ltOf GA2.out
 have hcw : Chg [] w wb := HCA.out.trans hc (fun y hy => .inr (by rw [List.mem_singleton] at hy; omega))
 have GB2 := hid (hc.keepb GA2.out (by rw [List.mem_singleton]; omega))
 obtain ⟨s, pg, G, cg, D, R, po, lo, co, nt, wr, st, dn, q0, q1, pa, l1, c1, pb, l2, c2, rfl, -, -, hg, -⟩ := hwo
 have hG : G ≤ 8 := hg.len
 have HX := hid hX; have HSB := hid hs; have HCW := hid hcw
 have HSC := hid (hs.ext ((Chg.refl [] wb).alloc (.cells #[.int .i64 s.gS, .int .i64 s.column, .int .i64 s.data, .int .i64 s.sR, .int .i64 s.rows, .int .i64 s.cap, .int .i64 s.bT, .int .i64 s.qU, .int .i64 s.sG, .slice pg G cg, .slice po lo co, .slice (some ⟨tb, 0, none⟩) nt 2, .int .i64 wr, .int .i64 st, .bool dn] 34)))
 have HM := hid (q0j wb (.cells #[.int .i64 s.gS, .int .i64 s.column, .int .i64 s.data, .int .i64 s.sR, .int .i64 s.rows, .int .i64 s.cap, .int .i64 s.bT, .int .i64 s.qU, .int .i64 s.sG, .slice pg G cg, .slice po lo co, .slice (some ⟨tb, 0, none⟩) nt 2, .int .i64 wr, .int .i64 st, .bool dn] 34))
 have hbl := ltOf GB2.out
 clear hX hs hc hcw hg htb hnt hlt hty HSA HCA GA2
 go_upto_region 3 with (refine q3a rfl _ _ 34 rfl rfl rfl rfl q0v rfl rfl rfl ?_)
 try simp only [Act.put]
 have GC2 := hid (q0b GB2.out (.cells #[.int .i64 s.gS, .int .i64 s.column, .int .i64 s.data, .int .i64 s.sR, .int .i64 s.rows, .int .i64 s.cap, .int .i64 s.bT, .int .i64 s.qU, .int .i64 s.sG, .slice pg G cg, .slice po lo co, .slice (some ⟨tb, 0, none⟩) nt 2, .int .i64 wr, .int .i64 st, .bool dn] 34))
 have HCC := hid (HCW.out.alloc (.cells #[.int .i64 s.gS, .int .i64 s.column, .int .i64 s.data, .int .i64 s.sR, .int .i64 s.rows, .int .i64 s.cap, .int .i64 s.bT, .int .i64 s.qU, .int .i64 s.sG, .slice pg G cg, .slice po lo co, .slice (some ⟨tb, 0, none⟩) nt 2, .int .i64 wr, .int .i64 st, .bool dn] 34))
 obtain ⟨CC, HCI, HCO⟩ := q0l (fun w' => w'.heap[wb.heap.size]? = some (.cells #[.int .i64 s.gS, .int .i64 s.column, .int .i64 s.data, .int .i64 s.sR, .int .i64 s.rows, .int .i64 s.cap, .int .i64 s.bT, .int .i64 s.qU, .int .i64 s.sG, .slice pg G cg, .slice po lo co, .slice (some ⟨tb, 0, none⟩) nt 2, .int .i64 wr, .int .i64 st, .bool dn] 34 (0, 0)))
 refine q1m [4] CC (by kernel_rfl) (HCI.out _ (q0a HM.out)) (fun hcl hS => ?_)
 refine ggL 0 hcl hS HCO ?_ (hy := fun w' hw => q4j _ 34 rfl rfl q0v Tryz.underlying34 hw rfl); clear hcl hS; intro hcl hS
 refine ggT 1 hcl hS ?_; clear hcl hS; intro hcl hS
 refine ggL 2 hcl hS HCO ?_ (hy := fun w' hw => q4j _ 34 rfl rfl q0v Tryz.underlying34 hw rfl); clear hcl hS; intro hcl hS
 refine ggC 3 hcl rfl (by kernel_rfl) (fun K hK => ?_)
 go_simp
 go_at_call 210
 refine (group_any b a la ca xs f (0 + 30000) pg G cg _ (HSC.out.ext ((Chg.refl [] _).drew)) (by omega) hG).mono ?_; rintro e wg ⟨g, rfl, hgo, hs, hc⟩; have HGO := hid hgo; have hnb : wb.heap.size ∉ [b] := (by rw [List.mem_singleton]; have := HSB.out.lt; omega); have HMG := hid (hc.keepb (q0a HM.out) hnb); have GG2 := hid (hc.keepb (q0a GC2.out) (by rw [List.mem_singleton]; omega)); have HCG := hid (Chg.trans (HCC.out.drew) hc (fun y hy => .inr (by rw [List.mem_singleton] at hy; omega))); have HXG := hid (DrT.chg HX.out ((((Chg.refl [b] wb).alloc _).drew).trans hc (fun y hy => .inl hy)) (fun y hy => by rw [List.mem_singleton] at hy; omega)); clear hgo hs hc hnb
 go_wp2_with fail
 refine hK.out _ _ (fun _ => HCI.out _ HMG.out) ?_
 clear hK K hcl hS
 intro hcl hS
 try simp only [Act.put, pA, pB, pC]
 refine ggC 4 hcl rfl (by kernel_rfl) (fun K hK => ?_)
 refine q7o rfl _ _ 34 rfl rfl rfl q0v GG2.out rfl rfl rfl ?_
 intro w9 hb9 hc9
 have HB9 := hid hb9; have HC9 := hid hc9
 clear hb9 hc9
 refine hK.out _ _ (Till.done (m := 4) (by simp) (by rfl)) ?_
 clear hK K hcl hS
 intro hcl hS
 try simp only [Act.put]
 refine ggT 5 hcl hS ?_; clear hcl hS; intro hcl hS
 refine q3h (by kernel_rfl) ?_ _
 try simp only [Act.put]
 go_wp2_with fail
 refine bodyPost_ret (v := .tuple #[.agg #[.int .i64 s.gS, .int .i64 s.column, .int .i64 s.data, .int .i64 s.sR, .int .i64 s.rows, .int .i64 s.cap, .int .i64 s.bT, .int .i64 s.qU, .int .i64 s.sG, .slice pg G cg, .slice po lo co, .slice (some ⟨tb, 0, none⟩) nt 2, .int .i64 wr, .int .i64 st, .bool dn], .int .i64 g]) (q8r _ _ _ 34 rfl rfl rfl q0v Tryz.underlying34 HB9.out rfl) rfl ⟨_, g, rfl, rfl, rfl, HGO.out, (DrT.chg HXG.out HC9.out (fun y hy => by rw [List.mem_singleton] at hy; omega)).mono (Nat.le_of_lt hra), HCG.out.trans HC9.out (fun y hy => .inr (by rw [List.mem_singleton] at hy; omega))⟩
theorem drawOn_any (a : Option Addr) (la ca : Nat) (xs : List UInt8) (f : List Nat) (w : World) (ha : q0t.sl w a la ca xs f) (hla : la ≤ 1048576) :
  Calls Tryz.prog 61 #[.slice a la ca] w fun e w' => ∃ (cs : Array Value) (g : Int), e = .returned (.tuple #[.agg cs, .int .i64 g]) ∧ cs.size = 15 ∧ cs.toList.all Value.oneCell' = true ∧ q0q g ∧ DrT w.heap.size cs w' ∧ Chg [] w w' := by
 have HA := hid (q0t.sl_ext ha ((Chg.refl [] w).alloc (.cells #[.int .i64 0, .int .i64 0, .int .i64 0, .int .i64 0, .int .i64 0, .int .i64 0, .int .i64 0, .int .i64 0, .int .i64 0, .slice none 0 0, .slice none 0 0, .slice none 0 0, .int .i64 0, .int .i64 0, .bool false] 34)))
 have HC0 := hid ((Chg.refl [] w).alloc (.cells #[.int .i64 0, .int .i64 0, .int .i64 0, .int .i64 0, .int .i64 0, .int .i64 0, .int .i64 0, .int .i64 0, .int .i64 0, .slice none 0 0, .slice none 0 0, .slice none 0 0, .int .i64 0, .int .i64 0, .bool false] 34))
 have G2 := hid (q0j w (.cells #[.int .i64 0, .int .i64 0, .int .i64 0, .int .i64 0, .int .i64 0, .int .i64 0, .int .i64 0, .int .i64 0, .int .i64 0, .slice none 0 0, .slice none 0 0, .slice none 0 0, .int .i64 0, .int .i64 0, .bool false] 34))
 clear ha
 go_enter Tryz.func61, Tryz.ntmps61
 go_wp2_with fail
 refine (z0m a la ca xs f _ HA.out hla).mono ?_
 rintro e w1 ⟨cs, g, rfl, hsz, hone, hgo, hx, hc⟩
 have HSZ := hid hsz; have HONE := hid hone; have HGO := hid hgo; have HX := hid hx; have HC1 := hid (HC0.out.trans0 hc); have HB := hid (hc.keep0 G2.out)
 have hbl := ltOf HB.out
 clear hsz hone hgo hx hc HA HC0 G2
 go_wp2_with (refine q0p rfl _ _ 34 rfl rfl rfl q0v HB.out HSZ.out rfl HONE.out ?_; intro w9 hb9 hc9; have HB9 := hid hb9; have HC9 := hid hc9; clear hb9 hc9)
 refine bodyPost_ret (v := .tuple #[.agg cs, .int .i64 g]) (q8r _ _ _ 34 rfl rfl rfl q0v Tryz.underlying34 HB9.out HSZ.out) rfl ⟨cs, g, rfl, HSZ.out, HONE.out, HGO.out, (DrT.chg HX.out HC9.out (fun y hy => by rw [List.mem_singleton] at hy; simp; omega)).mono (by simp), HC1.out.trans HC9.out (fun y hy => .inr (by rw [List.mem_singleton] at hy; omega))⟩

theorem q2u {P : Program} {ops : Array Oper} {rest : List Oper} {o : Oper} {a : Act} {Q : Exit → Act → World → Prop} {w : World} {b off : Nat} {cs vs : Array Value} {E : TypeId} {fr : Nat × Nat} {n : Nat} {fs : Array Field} (p : Operand) (t : TypeId) (vs' : Array Value)
  (hw : Region.wanted o (yielded ops a.tmps) = true) (hop : o.op = .load t p) (hp : a.eval p = .pointer (some ⟨b, off, none⟩)) (hi : (P.info? t).map (fun i => i.size) = some n) (hu : P.underlying t = some (.struct fs)) (h : w.heap[b]? = some (.cells cs E fr))
  (hv : (cs.toList.drop off).take n = vs.toList) (hs : vs.size = n) (hvv : vs = vs') (hk : wpList P ops Q rest (a.put o.dst (.agg vs')) w) : wpList P ops Q (o :: rest) a w := by
 subst hvv
 obtain ⟨i, hi1, hi2⟩ := Option.map_eq_some_iff.1 hi
 have hld := run_loadCells_list (P := P) (w := w) ⟨b, off, none⟩ vs.toList (fun j v hj => by
  have := cell_of_row w b (off + j) cs E fr h
  rw [Addr.add_lit, this]
  rw [← hv, List.getElem?_take] at hj
  split at hj
  ·rw [List.getElem?_drop, Array.getElem?_toList] at hj; exact hj
  ·cases hj)
 have hsz : vs.toList.length = i.size := by simp; omega
 rw [hsz] at hld
 refine wpList_step fun K hK => ?_
 rw [if_pos hw]
 unfold Oper.wp execOp
 have hp0 : (program : Sem Program).run P w = .ok P w := rfl
 simp only [hop, hp, Instr.loadAt, Instr.sureAddr, loadVar, isAgg, run_underlying hu, sizeOf, typeInfo, Sem.run_bind, Sem.run_pure, Result.andThen_ok, hp0, hi1, if_true, hld]
 rw [Array.toArray_toList]
 exact hK _ _ hk
theorem field_code {u0 u1 u2 u3 u4 u5 u6 u7 u8 u9 u10 u11 u12 u13 u14 u15 : Value} (w : World) : (Instr.field 36 (.agg #[u0, u1, u2, u3, u4, u5, u6, u7, u8, u9, u10, u11, u12, u13, u14, u15]) 0).run Tryz.prog w = .ok u0 w := by kernel_rfl
theorem field_bcode {u0 u1 u2 : Value} (w : World) : (Instr.field 86 (.agg #[u0, u1, u2]) 0).run Tryz.prog w = .ok u0 w := by kernel_rfl
theorem q4f {w : World} {cx : Array Value} {x : WRes} {fp : List Nat} (h : wrsL.rep w cx.toList x fp) : ∃ (v1 v2 v3 v4 v5 v6 v7 v8 v9 v10 v12 v13 v14 v15 : Value) (ao : Option Addr) (lo co : Nat) (fo : List Nat), cx = #[.int .i64 x.code, v1, v2, v3, v4, v5, v6, v7, v8, v9, v10, .slice ao lo co, v12, v13, v14, v15] ∧ cx.toList.all Value.oneCell' = true ∧ wldL.rep w (#[v1, v2, v3, v4, v5, v6, v7, v8, v9, v10, .slice ao lo co, v12, v13, v14, v15] : Array Value).toList x.world fp ∧ intL.sl w ao lo co x.world.on fo := by
 obtain ⟨rest, ex, hcode, hw⟩ := q9w.1 h
 obtain ⟨a10, l10, c10, f10, a11, l11, c11, f11, a12, l12, c12, f12, e2, o1, o2, o3, o4, o5, o6, o7, o8, o9, h10, h11, h12, o13, o14, e3⟩ := q0x.1 hw
 subst e2
 have ec := Array.toList_inj.1 (ex.trans (List.toList_toArray).symm)
 subst ec
 exact ⟨_, _, _, _, _, _, _, _, _, _, _, _, _, _, a11, l11, c11, f11, rfl, rfl, hw, h11⟩
theorem lwHas_any (a : Option Addr) (la ca : Nat) (xs : List Int) (f : List Nat) (v : Int) (w : World) (ha : intL.sl w a la ca xs f) :
  Calls Tryz.prog 54 #[.slice a la ca, .int .i64 v] w fun e w' => e = .returned (.bool (pb (v ∈ xs))) ∧ w = w' := by
 have hm := intL.sl_max ha
 have HL := hid ha.1
 have HA := hid ha
 clear ha
 have HT := hid (fun h => q0h h : v ∈ xs → pb (v ∈ xs) = true)
 have HF := hid (fun h => q0g h : ¬ v ∈ xs → pb (v ∈ xs) = false)
 generalize pb (v ∈ xs) = r at HT HF ⊢
 go_enter Tryz.func54, Tryz.ntmps54
 go_wp2
 go_loop [5] (fun i => ∃ k : Nat, k ≤ la ∧ i = .int .i64 k ∧ Hid (∀ y ∈ xs.take k, y ≠ v)) (fun i => la - (intOf i).toNat)
 case atStart => exact ⟨0, by omega, rfl, by intro y hy; simp at hy⟩
 case round =>
  obtain ⟨k, hk, rfl, HK⟩ := hrel
  by_cases hlt : k < la
  ·obtain ⟨x, b, o, HX, rfl, hcx, hok⟩ := q2p HA.out hlt
   by_cases hxv : x = v
   ·subst hxv
    have hr : r = true := HT.out (List.mem_of_getElem? HX.out.1)
    have HR := hid hr
    clear hr
    go_wp2
    go_ret
    exact ⟨q0r HR.out.symm, rfl⟩
   ·have hne : (x == v) = false := by simp [hxv]
    have HN := hid (q5o HK.out HX.out.1 hxv)
    clear hxv
    go_wp2
    go_round
    case rel => exact ⟨k + 1, by omega, by go_num, HN⟩
    case measure => simp [intOf]; omega
  ·have HR := hid (HF.out (q6o HK.out (by have := HL.out; omega)))
   go_wp2
   go_ret
   exact ⟨q0r HR.out.symm, rfl⟩
end Go.Proofs.YtphmpimgbmedbaaGreat
