/- Several texts in one. -/
import Derived.Test.YtphmpimgbmedbaaGreatVat
import Derived.Test.YtphmpimgbmedbaaGreatVax
import Derived.Test.YtphmpimgbmedbaaGreatVam
import Derived.Test.YtphmpimgbmedbaaGreatVaw
set_option maxRecDepth 100000
set_option maxHeartbeats 8000000
namespace Go.Proofs.YtphmpimgbmedbaaGreat
open Go.RowKit
open Go.Lib (hid)
def FstI (b : Nat) (po : Option Addr) (lo : Nat) (w : World) : Prop := 0 < lo → ∃ b0 o0 z, po = some ⟨b0, o0, none⟩ ∧ w.cell? ⟨b0, o0, none⟩ = some (.int .i64 z) ∧ q0q z ∧ b0 ≠ b ∧ b0 < w.heap.size
theorem FstI.chg {b : Nat} {po : Option Addr} {lo : Nat} {w w' : World} (h : FstI b po lo w) (hc : Chg [b] w w') : FstI b po lo w' := fun hl => by
 obtain ⟨b0, o0, z, h1, h2, h3, h4, h5⟩ := h hl
 exact ⟨b0, o0, z, h1, q9b hc h2 h5 (by rw [List.mem_singleton]; exact h4), h3, h4, Nat.lt_of_lt_of_le h5 hc.size⟩
theorem FstI.of {b n lo co : Nat} {po : Option Addr} {T : List TRow} {w : World} (h : SlT T .it (.slice po lo co)) (hT : TyN n T w) (hb : b < n) : FstI b po lo w := fun hl => by
 obtain ⟨b0, off, cs, ha, he, hc, -, hlt, r, hr, -, hrb, -⟩ := h.at hT.well hl
 obtain ⟨z, rfl, hz⟩ := he
 have := hT.new r hr
 exact ⟨b0, off, z, ha, by have := hc 0 _ rfl; simpa [Kd.n] using this, hz, by omega, hlt⟩
def BlT (n : Nat) (cy : Array Value) (w : World) : Prop := ∃ T, ElT T .bk cy.toList ∧ TyN n T w
theorem infoBk : (Tryz.prog.info? 76).map (fun i => i.size) = some 2 := by kernel_rfl
theorem BlT.chg {n : Nat} {cy : Array Value} {w w' : World} {S : List Nat} (h : BlT n cy w) (hc : Chg S w w') (hS : ∀ x ∈ S, x < n) : BlT n cy w' := by
 obtain ⟨T, h1, h2⟩ := h
 exact ⟨T, h1, h2.chg hc hS⟩
theorem BlT.mono {n k : Nat} {cy : Array Value} {w : World} (h : BlT n cy w) (hk : k ≤ n) : BlT k cy w := by
 obtain ⟨T, h1, h2⟩ := h
 exact ⟨T, h1, h2.mono hk⟩
theorem BlT.x {n : Nat} {cy : Array Value} {w : World} (h : BlT n cy w) : ∃ y fy, blkL.rep w cy.toList y fy ∧ q2s y ≤ 64 := by
 obtain ⟨T, h1, h2⟩ := h
 exact dec_blk h2.well h1
def DrB (n k : Nat) (cs : Array Value) (w : World) : Prop := ∃ (T : List TRow) (tb : Nat) (ts : Array Value), WdO tb T cs ts ∧ w.heap[tb]? = some (.cells ts 69 (0, 0)) ∧ tb ∉ T.map (·.b) ∧ (n ≤ tb ∧ tb < k) ∧ TyN n T w ∧ ∀ q ∈ T, q.b < k
theorem DrT.b {n : Nat} {cs : Array Value} {w : World} (h : DrT n cs w) : DrB n w.heap.size cs w := by
 obtain ⟨T, tb, ts, h1, h2, h3, h4, h5⟩ := h
 exact ⟨T, tb, ts, h1, h2, h3, ⟨h4, ltOf h2⟩, h5, fun q hq => h5.well.lt hq⟩
theorem DrB.t {n k : Nat} {cs : Array Value} {w : World} (h : DrB n k cs w) : DrT n cs w := by
 obtain ⟨T, tb, ts, h1, h2, h3, h4, h5, -⟩ := h
 exact ⟨T, tb, ts, h1, h2, h3, h4.1, h5⟩
theorem DrB.chg {n k : Nat} {cs : Array Value} {w w' : World} {S : List Nat} (h : DrB n k cs w) (hc : Chg S w w') (hS : ∀ x ∈ S, x < n ∨ k ≤ x) : DrB n k cs w' := by
 obtain ⟨T, tb, ts, h1, h2, h3, h4, h5, h6⟩ := h
 exact ⟨T, tb, ts, h1, hc.keepb h2 (fun hm => by have := hS _ hm; omega), h3, h4, ⟨h5.well.chg hc (fun r hr hm => by have h7 := h5.new r hr; have h8 := h6 r hr; have h9 := hS _ hm; omega), h5.new⟩, h6⟩
theorem where_any (b : Nat) (a : Option Addr) (la ca : Nat) (xs : List UInt8) (f : List Nat) (t : Int) {u0 u1 u2 u3 u4 u5 u6 u7 u8 u11 u12 u13 u14 : Value} (pg : Option Addr) (G cg : Nat) (po : Option Addr) (lo co : Nat) (w : World) (h : SrcB b a la ca xs f t w) (ht : t ≤ 1072000000) (hG : G ≤ 8) (hlo : lo ≤ 64) (hf : FstI b po lo w) :
  Calls Tryz.prog 129 #[.pointer (some ⟨b, 0, none⟩), .agg #[u0, u1, u2, u3, u4, u5, u6, u7, u8, .slice pg G cg, .slice po lo co, u11, u12, u13, u14]] w fun e w' => ∃ g d r, e = .returned (.tuple #[.int .i64 g, .int .i64 d, .int .i64 r]) ∧ (q0q g ∧ q0q d ∧ q0q r) ∧ SrcB b a la ca xs f (t + 9) w' ∧ Chg [b] w w' := by
 have HB := h.lt
 have HS0 := hid (h.ext ((Chg.refl [] w).alloc (.cells #[u0, u1, u2, u3, u4, u5, u6, u7, u8, .slice pg G cg, .slice po lo co, u11, u12, u13, u14] 34)))
 have HC0 := hid ((Chg.refl [b] w).alloc (.cells #[u0, u1, u2, u3, u4, u5, u6, u7, u8, .slice pg G cg, .slice po lo co, u11, u12, u13, u14] 34))
 have HM := hid (q0j w (.cells #[u0, u1, u2, u3, u4, u5, u6, u7, u8, .slice pg G cg, .slice po lo co, u11, u12, u13, u14] 34))
 have HF := hid hf
 have HNB := hid (show w.heap.size ∉ [b] from by rw [List.mem_singleton]; omega)
 clear h hf
 go_enter Tryz.func129, Tryz.ntmps129
 go_wp2_with (refine q0k rfl _ 34 rfl rfl q0v Tryz.underlying34 HM.out rfl ?_)
 refine (group_any b a la ca xs f t pg G cg _ HS0.out (by omega) hG).mono ?_
 rintro e w1 ⟨g, rfl, hg, hs, hc⟩
 have HGO := hid hg; have HS1 := hid hs; have HC1 := hid (HC0.out.trans hc (fun y hy => .inl hy)); have HM1 := hid (hc.keepb HM.out HNB.out)
 clear hg hs hc
 have cM := cellsOf HM1.out; have lM := ltOf HM1.out
 by_cases hl : 0 < lo
 ·go_wp2_with fail
  refine (q2z b a la ca xs f (t + 4) 4 _ HS1.out (by omega) (by omega) (by omega)).mono ?_
  rintro e w2 ⟨q, rfl, hs, hc⟩
  have HS2 := hid hs; have HC2 := hid (HC1.out.trans hc (fun y hy => .inl hy)); have HM2 := hid (hc.keepb HM1.out HNB.out)
  have hf2 := (HF.out.chg HC2.out) hl
  obtain ⟨b0, o0, z, rfl, hc0, hz, -, hl0⟩ := hf2
  have HZ := hid hz
  clear hs hc cM lM hz
  have cM := cellsOf HM2.out; have lM := ltOf HM2.out
  cases q
  ·go_wp2_with fail
   refine (q1h b a la ca xs f (t + 4 + 1) 5 _ HS2.out (by omega) (by omega) (by omega)).mono ?_
   rintro e wa ⟨va, rfl, hd, hs, hc⟩
   have hva : 0 ≤ va ∧ va < 5 := ⟨hd.1, hd.2.1 (by omega)⟩
   have HSa := hid hs; have HCa := hid (HC2.out.trans hc (fun y hy => .inl hy))
   clear hs hc hd
   go_wp2_with fail
   refine (q0z b a la ca xs f (t + 4 + 1 + 1) 5 [0, 0, va, -1, 5] _ HSa.out (by omega) (by intro y hy; simp only [List.mem_cons, List.not_mem_nil, or_false] at hy; constructor <;> omega) rfl (by omega) (by omega) _ rfl _ rfl).mono ?_
   rintro e wb ⟨d, rfl, hd, hs, hc⟩
   have hdo : q0q d := by simp only [List.mem_cons, List.not_mem_nil, or_false] at hd; constructor <;> omega
   have HDO := hid hdo; have HSb := hid hs; have HCb := hid (HCa.out.trans hc (fun y hy => .inl hy))
   clear hs hc hd hdo
   go_wp2_with fail
   refine (q1h b a la ca xs f (t + 4 + 1 + 1 + 1) 4 _ HSb.out (by omega) (by omega) (by omega)).mono ?_
   rintro e wc ⟨vc, rfl, hd, hs, hc⟩
   have hvc : 0 ≤ vc ∧ vc < 4 := ⟨hd.1, hd.2.1 (by omega)⟩
   have HSc := hid hs; have HCc := hid (HCb.out.trans hc (fun y hy => .inl hy))
   clear hs hc hd
   go_wp2_with fail
   refine (q0z b a la ca xs f (t + 4 + 1 + 1 + 1 + 1) 5 [0, 0, vc, -1, 6] _ HSc.out (by omega) (by intro y hy; simp only [List.mem_cons, List.not_mem_nil, or_false] at hy; constructor <;> omega) rfl (by omega) (by omega) _ rfl _ rfl).mono ?_
   rintro e wd ⟨r, rfl, hd, hs, hc⟩
   have hro : q0q r := by simp only [List.mem_cons, List.not_mem_nil, or_false] at hd; constructor <;> omega
   have HN := hid (And.intro hro (And.intro (hs.mono (t2 := t + 9) (by omega)) (HCc.out.trans hc (fun y hy => .inl hy))))
   clear hs hc hd hro
   go_wp2_with fail
   refine bodyPost_ret (v := .tuple #[.int .i64 z, .int .i64 d, .int .i64 r]) (by simp [results, Tryz.results129, go_sem]) rfl ⟨_, d, r, rfl, ⟨HZ.out, HDO.out, HN.out.1⟩, HN.out.2.1, HN.out.2.2⟩
  ·go_wp2_with fail
   refine (q1h b a la ca xs f (t + 4 + 1) 5 _ HS2.out (by omega) (by omega) (by omega)).mono ?_
   rintro e wa ⟨va, rfl, hd, hs, hc⟩
   have hva : 0 ≤ va ∧ va < 5 := ⟨hd.1, hd.2.1 (by omega)⟩
   have HSa := hid hs; have HCa := hid (HC2.out.trans hc (fun y hy => .inl hy))
   clear hs hc hd
   go_wp2_with fail
   refine (q0z b a la ca xs f (t + 4 + 1 + 1) 5 [0, 0, va, -1, 5] _ HSa.out (by omega) (by intro y hy; simp only [List.mem_cons, List.not_mem_nil, or_false] at hy; constructor <;> omega) rfl (by omega) (by omega) _ rfl _ rfl).mono ?_
   rintro e wb ⟨d, rfl, hd, hs, hc⟩
   have hdo : q0q d := by simp only [List.mem_cons, List.not_mem_nil, or_false] at hd; constructor <;> omega
   have HDO := hid hdo; have HSb := hid hs; have HCb := hid (HCa.out.trans hc (fun y hy => .inl hy))
   clear hs hc hd hdo
   go_wp2_with fail
   refine (q1h b a la ca xs f (t + 4 + 1 + 1 + 1) 4 _ HSb.out (by omega) (by omega) (by omega)).mono ?_
   rintro e wc ⟨vc, rfl, hd, hs, hc⟩
   have hvc : 0 ≤ vc ∧ vc < 4 := ⟨hd.1, hd.2.1 (by omega)⟩
   have HSc := hid hs; have HCc := hid (HCb.out.trans hc (fun y hy => .inl hy))
   clear hs hc hd
   go_wp2_with fail
   refine (q0z b a la ca xs f (t + 4 + 1 + 1 + 1 + 1) 5 [0, 0, vc, -1, 6] _ HSc.out (by omega) (by intro y hy; simp only [List.mem_cons, List.not_mem_nil, or_false] at hy; constructor <;> omega) rfl (by omega) (by omega) _ rfl _ rfl).mono ?_
   rintro e wd ⟨r, rfl, hd, hs, hc⟩
   have hro : q0q r := by simp only [List.mem_cons, List.not_mem_nil, or_false] at hd; constructor <;> omega
   have HN := hid (And.intro hro (And.intro (hs.mono (t2 := t + 9) (by omega)) (HCc.out.trans hc (fun y hy => .inl hy))))
   clear hs hc hd hro
   go_wp2_with fail
   refine bodyPost_ret (v := .tuple #[.int .i64 g, .int .i64 d, .int .i64 r]) (by simp [results, Tryz.results129, go_sem]) rfl ⟨_, d, r, rfl, ⟨HGO.out, HDO.out, HN.out.1⟩, HN.out.2.1, HN.out.2.2⟩
 ·have hl0 : lo = 0 := by omega
  subst hl0
  go_wp2_with fail
  refine (q1h b a la ca xs f (t + 4) 5 _ HS1.out (by omega) (by omega) (by omega)).mono ?_
  rintro e wa ⟨va, rfl, hd, hs, hc⟩
  have hva : 0 ≤ va ∧ va < 5 := ⟨hd.1, hd.2.1 (by omega)⟩
  have HSa := hid hs; have HCa := hid (HC1.out.trans hc (fun y hy => .inl hy))
  clear hs hc hd
  go_wp2_with fail
  refine (q0z b a la ca xs f (t + 4 + 1) 5 [0, 0, va, -1, 5] _ HSa.out (by omega) (by intro y hy; simp only [List.mem_cons, List.not_mem_nil, or_false] at hy; constructor <;> omega) rfl (by omega) (by omega) _ rfl _ rfl).mono ?_
  rintro e wb ⟨d, rfl, hd, hs, hc⟩
  have hdo : q0q d := by simp only [List.mem_cons, List.not_mem_nil, or_false] at hd; constructor <;> omega
  have HDO := hid hdo; have HSb := hid hs; have HCb := hid (HCa.out.trans hc (fun y hy => .inl hy))
  clear hs hc hd hdo
  go_wp2_with fail
  refine (q1h b a la ca xs f (t + 4 + 1 + 1) 4 _ HSb.out (by omega) (by omega) (by omega)).mono ?_
  rintro e wc ⟨vc, rfl, hd, hs, hc⟩
  have hvc : 0 ≤ vc ∧ vc < 4 := ⟨hd.1, hd.2.1 (by omega)⟩
  have HSc := hid hs; have HCc := hid (HCb.out.trans hc (fun y hy => .inl hy))
  clear hs hc hd
  go_wp2_with fail
  refine (q0z b a la ca xs f (t + 4 + 1 + 1 + 1) 5 [0, 0, vc, -1, 6] _ HSc.out (by omega) (by intro y hy; simp only [List.mem_cons, List.not_mem_nil, or_false] at hy; constructor <;> omega) rfl (by omega) (by omega) _ rfl _ rfl).mono ?_
  rintro e wd ⟨r, rfl, hd, hs, hc⟩
  have hro : q0q r := by simp only [List.mem_cons, List.not_mem_nil, or_false] at hd; constructor <;> omega
  have HN := hid (And.intro hro (And.intro (hs.mono (t2 := t + 9) (by omega)) (HCc.out.trans hc (fun y hy => .inl hy))))
  clear hs hc hd hro
  go_wp2_with fail
  refine bodyPost_ret (v := .tuple #[.int .i64 g, .int .i64 d, .int .i64 r]) (by simp [results, Tryz.results129, go_sem]) rfl ⟨_, d, r, rfl, ⟨HGO.out, HDO.out, HN.out.1⟩, HN.out.2.1, HN.out.2.2⟩
theorem z0l (a : Option Addr) (la ca : Nat) (xs : List UInt8) (f : List Nat) (w : World) (ha : q0t.sl w a la ca xs f) (hla : la ≤ 1048576) :
  Calls Tryz.prog 56 #[.slice a la ca] w fun e w' => ∃ (cs : Array Value) (g d r : Int) (cy : Array Value), e = .returned (.tuple #[.agg cs, .int .i64 g, .int .i64 d, .int .i64 r, .agg cy]) ∧ cs.size = 15 ∧ cs.toList.all Value.oneCell' = true ∧ (q0q g ∧ q0q d ∧ q0q r) ∧ DrT w.heap.size cs w' ∧ BlT w.heap.size cy w' ∧ Chg [] w w' := by
 have HA := hid (q0t.sl_ext ha (((Chg.refl [] w).alloc (.cells #[.int .i64 0, .int .i64 0, .int .i64 0, .int .i64 0, .int .i64 0, .int .i64 0, .int .i64 0, .int .i64 0, .int .i64 0, .slice none 0 0, .slice none 0 0, .slice none 0 0, .int .i64 0, .int .i64 0, .bool false] 34)).alloc (.cells #[.int .i64 0, .slice none 0 0] 76)))
 have HC0 := hid (((Chg.refl [] w).alloc (.cells #[.int .i64 0, .int .i64 0, .int .i64 0, .int .i64 0, .int .i64 0, .int .i64 0, .int .i64 0, .int .i64 0, .int .i64 0, .slice none 0 0, .slice none 0 0, .slice none 0 0, .int .i64 0, .int .i64 0, .bool false] 34)).alloc (.cells #[.int .i64 0, .slice none 0 0] 76))
 have G2 := hid (q0b (q0j w (.cells #[.int .i64 0, .int .i64 0, .int .i64 0, .int .i64 0, .int .i64 0, .int .i64 0, .int .i64 0, .int .i64 0, .int .i64 0, .slice none 0 0, .slice none 0 0, .slice none 0 0, .int .i64 0, .int .i64 0, .bool false] 34)) (.cells #[.int .i64 0, .slice none 0 0] 76))
 have G6 := hid (show ((w.alloc (.cells #[.int .i64 0, .int .i64 0, .int .i64 0, .int .i64 0, .int .i64 0, .int .i64 0, .int .i64 0, .int .i64 0, .int .i64 0, .slice none 0 0, .slice none 0 0, .slice none 0 0, .int .i64 0, .int .i64 0, .bool false] 34)).alloc (.cells #[.int .i64 0, .slice none 0 0] 76)).heap[w.heap.size + 1]? = some (.cells #[.int .i64 0, .slice none 0 0] 76 (0, 0)) from q0e (by simp) _)
 clear ha
 go_enter Tryz.func56, Tryz.ntmps56
 go_wp2_with fail
 refine (q9n a la ca xs f _ HA.out hla).mono ?_
 rintro e wa ⟨rfl, hs, hc⟩
 obtain ⟨b, hb⟩ : ∃ b, b = ((w.alloc (.cells #[.int .i64 0, .int .i64 0, .int .i64 0, .int .i64 0, .int .i64 0, .int .i64 0, .int .i64 0, .int .i64 0, .int .i64 0, .slice none 0 0, .slice none 0 0, .slice none 0 0, .int .i64 0, .int .i64 0, .bool false] 34)).alloc (.cells #[.int .i64 0, .slice none 0 0] 76)).heap.size := ⟨_, rfl⟩
 rw [← hb] at hs ⊢
 have hbw : w.heap.size + 1 < b := by rw [hb]; simp
 have HSA := hid hs; have HCA := hid (HC0.out.trans0 hc); have GA2 := hid (hc.keep0 G2.out); have GA6 := hid (hc.keep0 G6.out)
 clear hs hc hb HA HC0 G2 G6
 go_wp2_with fail
 refine (q9r b a la ca xs f 0 _ HSA.out (by omega)).mono ?_
 rintro e wb ⟨cs, rfl, ⟨T, tb, ts, hwo, htb, hnt, hlt, hty⟩, hs, hc⟩
 have hX : DrT wa.heap.size cs wb := ⟨T, tb, ts, hwo, htb, hnt, hlt, hty⟩
 have hba : b < wa.heap.size := HSA.out.lt
 have hcw : Chg [] w wb := HCA.out.trans hc (fun y hy => .inr (by rw [List.mem_singleton] at hy; omega))
 have GB2 := hid (hc.keepb GA2.out (by rw [List.mem_singleton]; omega)); have GB6 := hid (hc.keepb GA6.out (by rw [List.mem_singleton]; omega))
 obtain ⟨s, pg, G, cg, D, R, po, lo, co, nt, wr, st, dn, q0, q1, pa, l1, c1, pb, l2, c2, rfl, -, -, hg, hon, -⟩ := hwo
 have hG : G ≤ 8 := hg.len
 have hlo : lo ≤ 64 := hon.len
 have hfs : FstI b po lo wb := FstI.of hon hty hba
 have HX := hid hX
 have HSC := hid (hs.ext ((Chg.refl [] wb).alloc (.cells #[.int .i64 s.gS, .int .i64 s.column, .int .i64 s.data, .int .i64 s.sR, .int .i64 s.rows, .int .i64 s.cap, .int .i64 s.bT, .int .i64 s.qU, .int .i64 s.sG, .slice pg G cg, .slice po lo co, .slice (some ⟨tb, 0, none⟩) nt 2, .int .i64 wr, .int .i64 st, .bool dn] 34)))
 have HF := hid (hfs.chg ((Chg.refl [b] wb).alloc (.cells #[.int .i64 s.gS, .int .i64 s.column, .int .i64 s.data, .int .i64 s.sR, .int .i64 s.rows, .int .i64 s.cap, .int .i64 s.bT, .int .i64 s.qU, .int .i64 s.sG, .slice pg G cg, .slice po lo co, .slice (some ⟨tb, 0, none⟩) nt 2, .int .i64 wr, .int .i64 st, .bool dn] 34)))
 have HM := hid (q0j wb (.cells #[.int .i64 s.gS, .int .i64 s.column, .int .i64 s.data, .int .i64 s.sR, .int .i64 s.rows, .int .i64 s.cap, .int .i64 s.bT, .int .i64 s.qU, .int .i64 s.sG, .slice pg G cg, .slice po lo co, .slice (some ⟨tb, 0, none⟩) nt 2, .int .i64 wr, .int .i64 st, .bool dn] 34))
 have HCW := hid (hcw.alloc (.cells #[.int .i64 s.gS, .int .i64 s.column, .int .i64 s.data, .int .i64 s.sR, .int .i64 s.rows, .int .i64 s.cap, .int .i64 s.bT, .int .i64 s.qU, .int .i64 s.sG, .slice pg G cg, .slice po lo co, .slice (some ⟨tb, 0, none⟩) nt 2, .int .i64 wr, .int .i64 st, .bool dn] 34))
 have HXC := hid (hX.b.chg ((Chg.refl [] wb).alloc (.cells #[.int .i64 s.gS, .int .i64 s.column, .int .i64 s.data, .int .i64 s.sR, .int .i64 s.rows, .int .i64 s.cap, .int .i64 s.bT, .int .i64 s.qU, .int .i64 s.sG, .slice pg G cg, .slice po lo co, .slice (some ⟨tb, 0, none⟩) nt 2, .int .i64 wr, .int .i64 st, .bool dn] 34)) (by simp))
 have HMB := hid (show wb.heap.size ∉ [b] from by rw [List.mem_singleton]; have := hs.lt; omega)
 have hwab : wa.heap.size ≤ wb.heap.size := hc.size
 clear hX hs hc hcw hg hon htb hnt hlt hty HSA HCA GA2 GA6 hfs HX
 go_upto_region 3 with (refine q3a rfl _ _ 34 rfl rfl rfl rfl q0v rfl rfl rfl ?_)
 try simp only [Act.put]
 have GC2 := hid (q0b GB2.out (.cells #[.int .i64 s.gS, .int .i64 s.column, .int .i64 s.data, .int .i64 s.sR, .int .i64 s.rows, .int .i64 s.cap, .int .i64 s.bT, .int .i64 s.qU, .int .i64 s.sG, .slice pg G cg, .slice po lo co, .slice (some ⟨tb, 0, none⟩) nt 2, .int .i64 wr, .int .i64 st, .bool dn] 34)); have GC6 := hid (q0b GB6.out (.cells #[.int .i64 s.gS, .int .i64 s.column, .int .i64 s.data, .int .i64 s.sR, .int .i64 s.rows, .int .i64 s.cap, .int .i64 s.bT, .int .i64 s.qU, .int .i64 s.sG, .slice pg G cg, .slice po lo co, .slice (some ⟨tb, 0, none⟩) nt 2, .int .i64 wr, .int .i64 st, .bool dn] 34))
 generalize wb.alloc (.cells #[.int .i64 s.gS, .int .i64 s.column, .int .i64 s.data, .int .i64 s.sR, .int .i64 s.rows, .int .i64 s.cap, .int .i64 s.bT, .int .i64 s.qU, .int .i64 s.sG, .slice pg G cg, .slice po lo co, .slice (some ⟨tb, 0, none⟩) nt 2, .int .i64 wr, .int .i64 st, .bool dn] 34) = wC at HSC HF HM HCW HXC GC2 GC6 ⊢
 obtain ⟨m, hm⟩ : ∃ m, m = wb.heap.size := ⟨_, rfl⟩
 rw [← hm] at HM HMB HXC hwab ⊢
 clear hm GB2 GB6
 have HNS := hid (show w.heap.size ∉ [b] ∧ w.heap.size + 1 ∉ [b] from by simp only [List.mem_singleton]; omega)
 have HIN := hid (show ∀ y, y ∈ [b] → y ∈ ([] : List Nat) ∨ w.heap.size ≤ y from fun y hy => .inr (by rw [List.mem_singleton] at hy; omega))
 have HLT := hid (show ∀ y, y ∈ [b] → y < wa.heap.size ∨ m ≤ y from fun y hy => .inl (by rw [List.mem_singleton] at hy; omega))
 go_wp2_with (refine q0k rfl _ 34 rfl rfl q0v Tryz.underlying34 HM.out rfl ?_)
 refine (where_any b a la ca xs f (0 + 30000) pg G cg po lo co _ HSC.out (by omega) hG hlo HF.out).mono ?_
 rintro e w1 ⟨g, d, r, rfl, hgo, hs, hc⟩
 have HGO := hid hgo; have HS1 := hid hs; have HC1 := hid (HCW.out.trans hc HIN.out); have HX1 := hid (HXC.out.chg hc HLT.out); have HM1 := hid (hc.keepb HM.out HMB.out); have G12 := hid (hc.keepb GC2.out HNS.out.1); have G16 := hid (hc.keepb GC6.out HNS.out.2)
 have hs1 := ltOf HM1.out
 clear hgo hs hc HSC HF HCW HXC HM GC2 GC6
 go_wp2_with fail
 refine (q1h b a la ca xs f (0 + 30000 + 9) 40 _ HS1.out (by omega) (by omega) (by omega)).mono ?_
 rintro e w2 ⟨v, rfl, hd, hs, hc⟩
 have hv : 0 ≤ v ∧ v < 40 := ⟨hd.1, hd.2.1 (by omega)⟩
 have HS2 := hid hs; have HC2 := hid (HC1.out.trans hc HIN.out); have HX2 := hid (HX1.out.chg hc HLT.out); have HM2 := hid (hc.keepb HM1.out HMB.out); have G22 := hid (hc.keepb G12.out HNS.out.1); have G26 := hid (hc.keepb G16.out HNS.out.2)
 have hz2 := hc.size
 clear hs hc hd HS1 HC1 HX1 HM1 G12 G16
 go_wp2_with fail
 refine (q0z b a la ca xs f (0 + 30000 + 9 + 1) 3 [v, 1000000000, 0] _ HS2.out (by omega) (by intro y hy; simp only [List.mem_cons, List.not_mem_nil, or_false] at hy; constructor <;> omega) rfl (by omega) (by omega) _ rfl _ rfl).mono ?_
 rintro e w3 ⟨sv, rfl, hd, hs, hc⟩
 have hsv : q0q sv := by simp only [List.mem_cons, List.not_mem_nil, or_false] at hd; constructor <;> omega
 have HSV := hid hsv; have HS3 := hid hs; have HC3 := hid (HC2.out.trans hc HIN.out); have HX3 := hid (HX2.out.chg hc HLT.out); have HM3 := hid (hc.keepb HM2.out HMB.out); have G32 := hid (hc.keepb G22.out HNS.out.1); have G36 := hid (hc.keepb G26.out HNS.out.2)
 have hz3 := hc.size
 clear hs hc hd hsv hv HS2 HC2 HX2 HM2 G22 G26
 go_wp2_with fail
 refine (q8g b a la ca xs f (0 + 30000 + 9 + 1 + 1) 4 4 rfl _ HS3.out (by omega) (by omega)).mono ?_
 rintro e w4 ⟨A4, C4, rfl, ⟨T4, hv4, hty⟩, hs, hc⟩
 have hz4 := hc.size
 have HV4 := hid (And.intro hv4 (And.intro ((hty.mono (show m ≤ w3.heap.size by omega)).ext ((Chg.refl [] w4).alloc (.cells #[.int .i64 sv, .slice A4 4 C4] 76))) hty.well.notSize))
 have HS4 := hid (hs.ext ((Chg.refl [] w4).alloc (.cells #[.int .i64 sv, .slice A4 4 C4] 76))); have HC4 := hid ((HC3.out.trans hc HIN.out).alloc (.cells #[.int .i64 sv, .slice A4 4 C4] 76)); have HX4 := hid ((HX3.out.chg hc HLT.out).chg ((Chg.refl [] w4).alloc (.cells #[.int .i64 sv, .slice A4 4 C4] 76)) (by simp)); have HM4 := hid (q0b (hc.keepb HM3.out HMB.out) (.cells #[.int .i64 sv, .slice A4 4 C4] 76)); have G42 := hid (q0b (hc.keepb G32.out HNS.out.1) (.cells #[.int .i64 sv, .slice A4 4 C4] 76)); have G46 := hid (q0b (hc.keepb G36.out HNS.out.2) (.cells #[.int .i64 sv, .slice A4 4 C4] 76))
 have HB4 := hid (q0j w4 (.cells #[.int .i64 sv, .slice A4 4 C4] 76))
 clear hv4 hty hs hc HS3 HC3 HX3 HM3 G32 G36
 go_upto_region 5 with fail
 generalize w4.alloc (.cells #[.int .i64 sv, .slice A4 4 C4] 76) = w5 at HV4 HS4 HC4 HX4 HM4 G42 G46 HB4 ⊢
 obtain ⟨nb, hnb⟩ : ∃ nb, nb = w4.heap.size := ⟨_, rfl⟩
 rw [← hnb] at HV4 HB4 ⊢
 have hmn : m < nb := by omega
 have hbm : b < m := by omega
 clear hnb hz2 hz3 hz4 hs1
 have HBN := hid (show nb ∉ [b] from by rw [List.mem_singleton]; omega)
 go_wp2_with fail
 refine (q1h b a la ca xs f (0 + 30000 + 9 + 1 + 1 + 200) 16 _ HS4.out (by omega) (by omega) (by omega)).mono ?_
 rintro e w6 ⟨v, rfl, -, hs, hc⟩
 have HV6 := hid (And.intro HV4.out.1 (And.intro (HV4.out.2.1.chg hc (fun y hy => by rw [List.mem_singleton] at hy; omega)) HV4.out.2.2))
 have HS6 := hid hs; have HC6 := hid (HC4.out.trans hc HIN.out); have HX6 := hid (HX4.out.chg hc HLT.out); have HM6 := hid (hc.keepb HM4.out HMB.out); have G62 := hid (hc.keepb G42.out HNS.out.1); have G66 := hid (hc.keepb G46.out HNS.out.2); have HB6 := hid (hc.keepb HB4.out HBN.out)
 clear hs hc HV4 HS4 HC4 HX4 HM4 G42 G46 HB4
 go_upto_block 0 with fail
 go_cut [] from 34 to 44 (fun w7 => ∃ sv A l C T, q0q sv ∧ SlT T .bt (.slice A l C) ∧ TyN m T w7 ∧ nb ∉ T.map (·.b) ∧ w7.heap[nb]? = some (.cells #[.int .i64 sv, .slice A l C] 76 (0, 0)) ∧ w7.heap[m]? = some (.cells #[.int .i64 s.gS, .int .i64 s.column, .int .i64 s.data, .int .i64 s.sR, .int .i64 s.rows, .int .i64 s.cap, .int .i64 s.bT, .int .i64 s.qU, .int .i64 s.sG, .slice pg G cg, .slice po lo co, .slice (some ⟨tb, 0, none⟩) nt 2, .int .i64 wr, .int .i64 st, .bool dn] 34 (0, 0)) ∧ w7.heap[w.heap.size]? = some (.cells #[.int .i64 0, .int .i64 0, .int .i64 0, .int .i64 0, .int .i64 0, .int .i64 0, .int .i64 0, .int .i64 0, .int .i64 0, .slice none 0 0, .slice none 0 0, .slice none 0 0, .int .i64 0, .int .i64 0, .bool false] 34 (0, 0)) ∧ w7.heap[w.heap.size + 1]? = some (.cells #[.int .i64 0, .slice none 0 0] 76 (0, 0)) ∧ DrB wa.heap.size m #[.int .i64 s.gS, .int .i64 s.column, .int .i64 s.data, .int .i64 s.sR, .int .i64 s.rows, .int .i64 s.cap, .int .i64 s.bT, .int .i64 s.qU, .int .i64 s.sG, .slice pg G cg, .slice po lo co, .slice (some ⟨tb, 0, none⟩) nt 2, .int .i64 wr, .int .i64 st, .bool dn] w7 ∧ Chg [] w w7)
 case first =>
  have cB := cellsOf HB6.out; have lB := ltOf HB6.out; have fB := q0c HB6.out
  by_cases hv0 : v = 0
  ·subst hv0
   go_wp2_with fail
   refine (q0z b a la ca xs f (0 + 30000 + 9 + 1 + 1 + 200 + 1) 2 [-1, 1000000001] _ HS6.out (by omega) (by simp [q0q]) rfl (by omega) (by omega) _ rfl _ rfl).mono ?_
   rintro e w7 ⟨s2, rfl, hd, hs, hc⟩
   have hs2 : q0q s2 := by simp only [List.mem_cons, List.not_mem_nil, or_false] at hd; constructor <;> omega
   have HS2 := hid hs2; have HC := hid hc; have HB7 := hid (hc.keepb HB6.out HBN.out)
   clear hs hc hd hs2 cB lB fB
   have cB := cellsOf HB7.out; have lB := ltOf HB7.out; have fB := q0c HB7.out
   go_wp2_with fail
   go_meet
   have hcs : Chg [nb] w7 (w7.setCell ⟨nb, 0, none⟩ (.int .i64 s2)) := (Chg.refl [nb] w7).setCell _ _ (.inl (by simp))
   have hty := (HV6.out.2.1.chg HC.out (fun y hy => by rw [List.mem_singleton] at hy; omega)).set (i := 0) (v := .int .i64 s2) HV6.out.2.2
   exact ⟨s2, A4, 4, C4, T4, HS2.out, HV6.out.1, hty, HV6.out.2.2, q0i HB7.out rfl, hcs.keepb (HC.out.keepb HM6.out HMB.out) (by rw [List.mem_singleton]; omega), hcs.keepb (HC.out.keepb G62.out HNS.out.1) (by rw [List.mem_singleton]; omega), hcs.keepb (HC.out.keepb G66.out HNS.out.2) (by rw [List.mem_singleton]; omega), (HX6.out.chg HC.out HLT.out).chg hcs (fun y hy => .inr (by rw [List.mem_singleton] at hy; omega)), (HC6.out.trans HC.out HIN.out).trans hcs (fun y hy => .inr (by rw [List.mem_singleton] at hy; omega))⟩
  have hb0 : (v == 0) = false := by simpa using hv0
  by_cases hv1 : v = 1
  ·subst hv1
   go_wp2_with fail
   refine (q8g b a la ca xs f (0 + 30000 + 9 + 1 + 1 + 200 + 1) 3 3 rfl _ HS6.out (by omega) (by omega)).mono ?_
   rintro e w7 ⟨A5, C5, rfl, ⟨T5, hv5, hty5⟩, hs, hc⟩
   have HC := hid hc; have HB7 := hid (hc.keepb HB6.out HBN.out); have HV5 := hid (And.intro hv5 hty5)
   have hl6 : nb < w6.heap.size := lB
   clear hs hc hv5 hty5 cB lB fB
   have cB := cellsOf HB7.out; have lB := ltOf HB7.out; have fB := q0c HB7.out
   go_wp2_with fail
   go_meet
   have hn5 : nb ∉ T5.map (·.b) := HV5.out.2.notIn hl6
   have hcs : Chg [nb] w7 (w7.setCell ⟨nb, 1, none⟩ (.slice A5 3 C5)) := (Chg.refl [nb] w7).setCell _ _ (.inl (by simp))
   exact ⟨sv, A5, 3, C5, T5, HSV.out, HV5.out.1, (HV5.out.2.mono (by omega)).set hn5, hn5, q0i HB7.out rfl, hcs.keepb (HC.out.keepb HM6.out HMB.out) (by rw [List.mem_singleton]; omega), hcs.keepb (HC.out.keepb G62.out HNS.out.1) (by rw [List.mem_singleton]; omega), hcs.keepb (HC.out.keepb G66.out HNS.out.2) (by rw [List.mem_singleton]; omega), (HX6.out.chg HC.out HLT.out).chg hcs (fun y hy => .inr (by rw [List.mem_singleton] at hy; omega)), (HC6.out.trans HC.out HIN.out).trans hcs (fun y hy => .inr (by rw [List.mem_singleton] at hy; omega))⟩
  have hb1 : (v == 1) = false := by simpa using hv1
  go_wp2_with fail
  go_meet
  exact ⟨sv, A4, 4, C4, T4, HSV.out, HV6.out.1, HV6.out.2.1, HV6.out.2.2, HB6.out, HM6.out, G62.out, G66.out, HX6.out, HC6.out⟩
 case rest =>
 revert wc; intro w7 hcut
 obtain ⟨s7, A7, l7, C7, T7, hs7, hv7, hty7, hn7, hb7, hm7, h72, h76, hx7, hc7⟩ := hcut
 have HV7 := hid (And.intro hs7 (And.intro hv7 hty7)); have HB7 := hid hb7; have HM7 := hid hm7; have G72 := hid h72; have G76 := hid h76; have HX7 := hid hx7; have HC7 := hid hc7
 have hwm : w.heap.size + 1 < m := by omega
 clear hs7 hv7 hty7 hn7 hb7 hm7 h72 h76 hx7 hc7 HV6 HS6 HC6 HX6 HM6 G62 G66 HB6
 go_upto_region 10 with fail
 obtain ⟨CC, HCI, HCO⟩ := q0l (fun w' => w'.heap[m]? = some (.cells #[.int .i64 s.gS, .int .i64 s.column, .int .i64 s.data, .int .i64 s.sR, .int .i64 s.rows, .int .i64 s.cap, .int .i64 s.bT, .int .i64 s.qU, .int .i64 s.sG, .slice pg G cg, .slice po lo co, .slice (some ⟨tb, 0, none⟩) nt 2, .int .i64 wr, .int .i64 st, .bool dn] 34 (0, 0)) ∧ w'.heap[nb]? = some (.cells #[.int .i64 s7, .slice A7 l7 C7] 76 (0, 0)))
 refine q1m [9] CC (by kernel_rfl) (HCI.out _ ⟨(q0a HM7.out), (q0a HB7.out)⟩) (fun hcl hS => ?_)
 refine ggL 0 hcl hS HCO ?_ (hy := fun w' hw => q4j _ 34 rfl rfl q0v Tryz.underlying34 hw.1 rfl); clear hcl hS; intro hcl hS
 refine ggT 1 hcl hS ?_; clear hcl hS; intro hcl hS
 refine ggT 2 hcl hS ?_; clear hcl hS; intro hcl hS
 refine ggT 3 hcl hS ?_; clear hcl hS; intro hcl hS
 refine ggL 4 hcl hS HCO ?_ (hy := fun w' hw => q4j _ 76 rfl rfl infoBk Tryz.underlying76 hw.2 rfl); clear hcl hS; intro hcl hS
 refine ggC 5 hcl rfl (by kernel_rfl) (fun K hK => ?_)
 refine q7o rfl _ _ 34 rfl rfl rfl q0v (q0a G72.out) rfl rfl rfl ?_
 intro w9 hb9 hc9
 have HB9 := hid hb9; have HC9 := hid hc9; have G96 := hid (hc9.keepb (q0a G76.out) (by rw [List.mem_singleton]; omega))
 clear hb9 hc9
 refine hK.out _ _ (fun _ => HCI.out _ ⟨(HC9.out.keepb (q0a HM7.out) (by rw [List.mem_singleton]; omega)), (HC9.out.keepb (q0a HB7.out) (by rw [List.mem_singleton]; omega))⟩) ?_
 clear hK K hcl hS
 intro hcl hS
 try simp only [Act.put]
 refine ggT 6 hcl hS ?_; clear hcl hS; intro hcl hS
 refine ggT 7 hcl hS ?_; clear hcl hS; intro hcl hS
 refine ggT 8 hcl hS ?_; clear hcl hS; intro hcl hS
 refine ggC 9 hcl rfl (by kernel_rfl) (fun K hK => ?_)
 refine q7o rfl _ _ 76 rfl rfl rfl infoBk G96.out rfl rfl rfl ?_
 intro w10 hb10 hc10
 have HB10 := hid hb10; have HC10 := hid hc10
 clear hb10 hc10
 refine hK.out _ _ (Till.done (m := 9) (by simp) (by rfl)) ?_
 clear hK K hcl hS
 intro hcl hS
 try simp only [Act.put]
 refine q3h (by kernel_rfl) ?_ _
 try simp only [Act.put]
 go_wp2_with fail
 have hcc : Chg [w.heap.size, w.heap.size + 1] w7 w10 := ((Chg.refl _ w7).drew.trans (HC9.out.mono (by simp)) (fun y hy => .inl hy)).trans (HC10.out.mono (by simp)) (fun y hy => .inl hy)
 have hw0 : w.heap.size + 1 < wa.heap.size := by omega
 refine bodyPost_ret (v := .tuple #[.agg #[.int .i64 s.gS, .int .i64 s.column, .int .i64 s.data, .int .i64 s.sR, .int .i64 s.rows, .int .i64 s.cap, .int .i64 s.bT, .int .i64 s.qU, .int .i64 s.sG, .slice pg G cg, .slice po lo co, .slice (some ⟨tb, 0, none⟩) nt 2, .int .i64 wr, .int .i64 st, .bool dn], .int .i64 g, .int .i64 d, .int .i64 r, .agg #[.int .i64 s7, .slice A7 l7 C7]]) (results_five _ _ _ _ _ _ _ _ 34 76 rfl rfl rfl rfl rfl rfl q0v Tryz.underlying34 (HC10.out.keepb HB9.out (by simp)) rfl infoBk Tryz.underlying76 HB10.out rfl) rfl ⟨_, g, d, r, _, rfl, rfl, rfl, HGO.out, ((HX7.out.chg hcc (fun y hy => .inl (by simp at hy; omega))).t).mono (by omega), ⟨T7, ⟨s7, _, rfl, HV7.out.1, HV7.out.2.1⟩, (HV7.out.2.2.chg hcc (fun y hy => by simp at hy; omega)).mono (by omega)⟩, HC7.out.trans hcc (fun y hy => .inr (by simp at hy; omega))⟩
theorem q7k {S : List Nat} {w w' : World} (hc : Chg S w w') {b o : Nat} {v : Value} (h : w.cell? ⟨b, o, none⟩ = some v) (hb : b < w.heap.size) (hS : b ∉ S) : w'.cell? ⟨b, o, none⟩ = some v := by
 rw [cell_same (hc.block b hb hS)]; exact h
theorem q8n (x : Wld) (cx : Array Value) (fx : List Nat) (g : Int) (d : Int) (r : Int) (y : Blk) (cy : Array Value) (fy : List Nat) (w : World) (hx : wldL.rep w cx.toList x fx) (hz : q1u x ≤ 1048576) (og : q0q g) (od : q0q d) (or : q0q r) (hy : blkL.rep w cy.toList y fy) (hzy : q2s y ≤ 1048576) :
  Calls Tryz.prog 58 #[.agg cx, .int .i64 g, .int .i64 d, .int .i64 r, .agg cy] w (q2l wrsL (q1q x g d r y) w) := by
 obtain ⟨a10, l10, c10, _, a11, l11, c11, f11, a12, l12, c12, _, ex, -, -, -, -, -, -, -, -, -, h10, h11, h12, oo13, oo14, -⟩ := q0x.1 hx
 obtain rfl := Array.toList_inj.1 (ex.trans (List.toList_toArray).symm)
 have HW := hid hx; have HZ := hid hz; have H10 := hid h10; have H11 := hid h11; have H12 := hid h12; have HOO := hid (And.intro oo13 oo14)
 have hl11 : l11 ≤ 1048576 := by have h := h11.1; have q10 := q0s (q0s q0w) x.gS; have q12 := q0s q1e x.tapes; unfold q1u q3z at hz; omega
 clear hx ex hz h10 h11 h12 oo13 oo14
 obtain ⟨ab, lb, cb, fb, exy, oky, hbb, -⟩ := q1s.1 hy
 obtain rfl := Array.toList_inj.1 (exy.trans (List.toList_toArray).symm)
 have hlb : lb ≤ 1048576 := by have := hbb.1; unfold q2s q5m at hzy; omega
 have HY := hid hy; have HBB := hid hbb; have HOY := hid oky; have HZY := hid hzy
 clear hy exy oky hbb hzy
 have G0 := hid (show Chg [] w (((w.alloc (.cells #[.int .i64 x.sH.gS, .int .i64 x.sH.column, .int .i64 x.sH.data, .int .i64 x.sH.sR, .int .i64 x.sH.rows, .int .i64 x.sH.cap, .int .i64 x.sH.bT, .int .i64 x.sH.qU, .int .i64 x.sH.sG, .slice a10 l10 c10, .slice a11 l11 c11, .slice a12 l12 c12, .int .i64 x.wT, .int .i64 x.stop, .bool x.down] 34)).alloc (.cells #[.int .i64 y.sM, .slice ab lb cb] 76)).alloc (.cells #[.int .i64 0, .int .i64 0, .int .i64 0, .int .i64 0, .int .i64 0, .int .i64 0, .int .i64 0, .int .i64 0, .int .i64 0, .int .i64 0, .slice none 0 0, .slice none 0 0, .slice none 0 0, .int .i64 0, .int .i64 0, .bool false] 36)) from (Chg.alloc (Chg.alloc (Chg.alloc (Chg.refl [] w) _) _) _))
 have B0 := hid (show (((w.alloc (.cells #[.int .i64 x.sH.gS, .int .i64 x.sH.column, .int .i64 x.sH.data, .int .i64 x.sH.sR, .int .i64 x.sH.rows, .int .i64 x.sH.cap, .int .i64 x.sH.bT, .int .i64 x.sH.qU, .int .i64 x.sH.sG, .slice a10 l10 c10, .slice a11 l11 c11, .slice a12 l12 c12, .int .i64 x.wT, .int .i64 x.stop, .bool x.down] 34)).alloc (.cells #[.int .i64 y.sM, .slice ab lb cb] 76)).alloc (.cells #[.int .i64 0, .int .i64 0, .int .i64 0, .int .i64 0, .int .i64 0, .int .i64 0, .int .i64 0, .int .i64 0, .int .i64 0, .int .i64 0, .slice none 0 0, .slice none 0 0, .slice none 0 0, .int .i64 0, .int .i64 0, .bool false] 36)).heap[w.heap.size]? = some (.cells #[.int .i64 x.sH.gS, .int .i64 x.sH.column, .int .i64 x.sH.data, .int .i64 x.sH.sR, .int .i64 x.sH.rows, .int .i64 x.sH.cap, .int .i64 x.sH.bT, .int .i64 x.sH.qU, .int .i64 x.sH.sG, .slice a10 l10 c10, .slice a11 l11 c11, .slice a12 l12 c12, .int .i64 x.wT, .int .i64 x.stop, .bool x.down] 34 (0, 0)) from q0b (q0b (q0j w _) _) _)
 have B1 := hid (show (((w.alloc (.cells #[.int .i64 x.sH.gS, .int .i64 x.sH.column, .int .i64 x.sH.data, .int .i64 x.sH.sR, .int .i64 x.sH.rows, .int .i64 x.sH.cap, .int .i64 x.sH.bT, .int .i64 x.sH.qU, .int .i64 x.sH.sG, .slice a10 l10 c10, .slice a11 l11 c11, .slice a12 l12 c12, .int .i64 x.wT, .int .i64 x.stop, .bool x.down] 34)).alloc (.cells #[.int .i64 y.sM, .slice ab lb cb] 76)).alloc (.cells #[.int .i64 0, .int .i64 0, .int .i64 0, .int .i64 0, .int .i64 0, .int .i64 0, .int .i64 0, .int .i64 0, .int .i64 0, .int .i64 0, .slice none 0 0, .slice none 0 0, .slice none 0 0, .int .i64 0, .int .i64 0, .bool false] 36)).heap[w.heap.size + 1]? = some (.cells #[.int .i64 y.sM, .slice ab lb cb] 76 (0, 0)) from q0b (q0e (by simp) _) _)
 have B2 := hid (show (((w.alloc (.cells #[.int .i64 x.sH.gS, .int .i64 x.sH.column, .int .i64 x.sH.data, .int .i64 x.sH.sR, .int .i64 x.sH.rows, .int .i64 x.sH.cap, .int .i64 x.sH.bT, .int .i64 x.sH.qU, .int .i64 x.sH.sG, .slice a10 l10 c10, .slice a11 l11 c11, .slice a12 l12 c12, .int .i64 x.wT, .int .i64 x.stop, .bool x.down] 34)).alloc (.cells #[.int .i64 y.sM, .slice ab lb cb] 76)).alloc (.cells #[.int .i64 0, .int .i64 0, .int .i64 0, .int .i64 0, .int .i64 0, .int .i64 0, .int .i64 0, .int .i64 0, .int .i64 0, .int .i64 0, .slice none 0 0, .slice none 0 0, .slice none 0 0, .int .i64 0, .int .i64 0, .bool false] 36)).heap[w.heap.size + 2]? = some (.cells #[.int .i64 0, .int .i64 0, .int .i64 0, .int .i64 0, .int .i64 0, .int .i64 0, .int .i64 0, .int .i64 0, .int .i64 0, .int .i64 0, .slice none 0 0, .slice none 0 0, .slice none 0 0, .int .i64 0, .int .i64 0, .bool false] 36 (0, 0)) from q0e (by simp) _)
 go_enter Tryz.func58, Tryz.ntmps58
 obtain ⟨q, hq⟩ : ∃ q, q = x.up := ⟨_, rfl⟩
 have HQ := hid hq; clear hq
 go_wp2_with (first | (refine q0k rfl _ 34 rfl rfl q0v Tryz.underlying34 B0.out rfl ?_))
 refine (q8v x #[.int .i64 x.sH.gS, .int .i64 x.sH.column, .int .i64 x.sH.data, .int .i64 x.sH.sR, .int .i64 x.sH.rows, .int .i64 x.sH.cap, .int .i64 x.sH.bT, .int .i64 x.sH.qU, .int .i64 x.sH.sG, .slice a10 l10 c10, .slice a11 l11 c11, .slice a12 l12 c12, .int .i64 x.wT, .int .i64 x.stop, .bool x.down] fx _ (wldL.ext HW.out G0.out)).mono ?_
 rintro e w1 ⟨rfl, hc⟩
 rw [← HQ.out]
 obtain ⟨c0, n0, A0_1⟩ := bk0 hc B0.out
 obtain ⟨c1, n1, A1_1⟩ := bk0 hc B1.out
 obtain ⟨c2, n2, A2_1⟩ := bk0 hc B2.out
 have G1 := hid (G0.out.trans0 hc)
 have fz := q0c A2_1.out
 clear hc
 have hqk : q0q q := by rw [HQ.out]; exact q9m x
 by_cases hq0 : q = 0
 ·subst hq0
  have hf0 : x.up = 0 := HQ.out.symm
  obtain ⟨-, hdn0, hbt0, hnu0, hok⟩ := q6u hf0
  have hdn := hid hdn0; have HBT := hid hbt0; have HNU := hid hnu0; clear hdn0 hbt0 hnu0
  by_cases h2 : ((0 ≤ g ∧ g ≤ x.sH.all - 1) ∧ (0 ≤ d ∧ d ≤ x.sH.drives - 1) ∧ (0 ≤ r ∧ r ≤ x.sH.rows - 1))
  ·obtain ⟨hg, hd, hr⟩ := h2
   have h2 := And.intro hg (And.intro hd hr)
   have HI := hid (show (inB g 0 (x.sH.all - 1) && inB d 0 (x.sH.drives - 1) && inB r 0 (x.sH.rows - 1)) = true by simp [inB, hg.1, hg.2, hd.1, hd.2, hr.1, hr.2])
   go_wp2_with (first | (refine q0k rfl _ 34 rfl rfl q0v Tryz.underlying34 A0_1.out rfl ?_))
   refine (q8t x.sH hok g d r _).mono ?_
   rintro e w2 ⟨rfl, hc⟩
   rw [HI.out]
   clear c0 n0
   obtain ⟨c0, n0, A0_2⟩ := bk0 hc A0_1.out
   clear c1 n1
   obtain ⟨c1, n1, A1_2⟩ := bk0 hc A1_1.out
   clear c2 n2
   obtain ⟨c2, n2, A2_2⟩ := bk0 hc A2_1.out
   have G2 := hid (G1.out.trans0 hc)
   clear fz; have fz := q0c A2_2.out
   clear hc
   by_cases hsp : 0 ≤ y.sM ∧ y.sM ≤ 1000000000
   ·have HIS := hid (show inB y.sM 0 1000000000 = true by simp [inB, hsp.1, hsp.2])
    go_wp2_with (first | (refine q0k rfl _ 34 rfl rfl q0v Tryz.underlying34 A0_2.out rfl ?_))
    refine (q3d y.sM 0 1000000000 _).mono ?_
    rintro e w' ⟨rfl, rfl⟩
    rw [HIS.out]
    by_cases hl4 : lb = 4
    ·have hyo : y.ok := ⟨hsp, by have := HBB.out.1; omega⟩
     have hne : ((lb : Int) != 4) = false := by simp [hl4]
     have HL4 := hid hl4; clear hl4 hsp
     by_cases hon : g ∈ x.on
     ·go_wp2_with (first | (refine q0k rfl _ 34 rfl rfl q0v Tryz.underlying34 A0_2.out rfl ?_))
      refine (q4x a11 l11 c11 x.on f11 g _ (intL.sl_ext H11.out G2.out)).mono ?_
      rintro e w' ⟨rfl, rfl⟩
      rw [q0h hon]
      go_wp2_with (first | (refine q0k rfl _ 34 rfl rfl q0v Tryz.underlying34 A0_2.out rfl ?_))
      refine (l5Copy_any x #[.int .i64 x.sH.gS, .int .i64 x.sH.column, .int .i64 x.sH.data, .int .i64 x.sH.sR, .int .i64 x.sH.rows, .int .i64 x.sH.cap, .int .i64 x.sH.bT, .int .i64 x.sH.qU, .int .i64 x.sH.sG, .slice a10 l10 c10, .slice a11 l11 c11, .slice a12 l12 c12, .int .i64 x.wT, .int .i64 x.stop, .bool x.down] fx _ (wldL.ext HW.out G2.out) HZ.out).mono ?_
      rintro e w3 ⟨cs2, f2, rfl, hs, hf, hc⟩
      obtain ⟨p10, m10, d10, g10, p11, m11, d11, g11, p12, m12, d12, g12, ex, o1, o2, o3, o4, o5, o6, o7, o8, o9, K10, K11, K12, o13, o14, rfl⟩ := q0x.1 hs
      obtain rfl := Array.toList_inj.1 (ex.trans (List.toList_toArray).symm)
      have HO := hid (And.intro o1 (And.intro o2 (And.intro o3 (And.intro o4 (And.intro o5 (And.intro o6 (And.intro o7 (And.intro o8 (And.intro o9 (And.intro o13 o14))))))))))
      have HK := hid (And.intro K10 (And.intro K11 K12)); have HF := hid hf; have HFn := hid (fun b hb => (hf.2 b hb).1); have nR0 := n2
      clear hs ex K10 K11 K12 o1 o2 o3 o4 o5 o6 o7 o8 o9 o13 o14 hf
      clear c0 n0
      obtain ⟨c0, n0, A0_3⟩ := bk0 hc A0_2.out
      clear c1 n1
      obtain ⟨c1, n1, A1_3⟩ := bk0 hc A1_2.out
      clear c2 n2
      obtain ⟨c2, n2, A2_3⟩ := bk0 hc A2_2.out
      have G3 := hid (G2.out.trans0 hc)
      clear fz; have fz := q0c A2_3.out
      clear hc
      go_upto_region 11 with (refine q0p rfl _ _ 34 rfl rfl rfl q0v (q0j _ _) rfl rfl rfl ?_; intro w4 hm hc0)
      have hc : Chg [] w3 w4 := ((Chg.refl [] w3).alloc _).trans hc0 (fun y hy => .inr (by rw [List.mem_singleton] at hy; omega)); clear hc0
      have HM := hid hm; have cm := cellsOf hm; have nm := ltOf hm; have fm := q0c hm; have nR : w.heap.size + 2 < w3.heap.size := n2; clear hm
      have hF := HF.out.lts; have HKe := hid (And.intro (drvL.slice.sl_ext HK.out.1 hc) (And.intro (intL.sl_ext HK.out.2.1 hc) (tapL.sl_ext HK.out.2.2 hc))); have HFe := hid ((HF.out.mono (C := w.heap.size) G2.out.size).chg hc)
      have HFl := hid hF; clear hF
      clear c0 n0
      obtain ⟨c0, n0, A0_4⟩ := bk0 hc A0_3.out
      clear c1 n1
      obtain ⟨c1, n1, A1_4⟩ := bk0 hc A1_3.out
      clear c2 n2
      obtain ⟨c2, n2, A2_4⟩ := bk0 hc A2_3.out
      have G4 := hid (G3.out.trans0 hc)
      clear fz; have fz := q0c A2_4.out
      clear hc
      by_cases hst : x.stop ≠ -1 ∧ x.stop ≤ x.wT
      ·have HST := hid hst; clear hst
       go_wp2_with fail
       have HM2 := hid (show w4.heap[w3.heap.size]? = some (.cells #[.int .i64 x.sH.gS, .int .i64 x.sH.column, .int .i64 x.sH.data, .int .i64 x.sH.sR, .int .i64 x.sH.rows, .int .i64 x.sH.cap, .int .i64 x.sH.bT, .int .i64 x.sH.qU, .int .i64 x.sH.sG, .slice p10 m10 d10, .slice p11 m11 d11, .slice p12 m12 d12, .int .i64 x.wT, .int .i64 x.stop, .bool false] 34 (0, 0)) from by have h := HM.out; rw [hdn.out] at h; exact h)
       refine (l5Raw_fail w3.heap.size w4 HM2.out HST.out).mono ?_
       rintro e w7 ⟨rfl, hm, hc⟩
       have hR := hid (hc.keepb A2_4.out (by simp; omega))
       have hnm : ∀ y ∈ g10 ++ (g11 ++ (g12 ++ [])), y ∉ [w3.heap.size] := fun y hy hm => by have := HFl.out y hy; rw [List.mem_singleton] at hm; omega
       obtain ⟨o1, o2, o3, o4, o5, o6, o7, o8, o9, o13, o14⟩ := HO.out
       have hsub : (g10 ++ ([] ++ (g12 ++ []))).Sublist (g10 ++ (g11 ++ (g12 ++ []))) := (List.Sublist.refl g10).append ((List.nil_sublist g11).append (List.Sublist.refl _))
       have HE := hid (And.intro (show wldL.rep w7 [.int .i64 x.sH.gS, .int .i64 x.sH.column, .int .i64 x.sH.data, .int .i64 x.sH.sR, .int .i64 x.sH.rows, .int .i64 x.sH.cap, .int .i64 x.sH.bT, .int .i64 x.sH.qU, .int .i64 x.sH.sG, .slice p10 m10 d10, .slice none 0 0, .slice p12 m12 d12, .int .i64 x.wT, .int .i64 x.stop, .bool true] _ _ from (q0x.2 ⟨p10, m10, d10, g10, none, 0, 0, [], p12, m12, d12, g12, rfl, o1, o2, o3, o4, o5, o6, o7, o8, o9, drvL.slice.sl_chg HKe.out.1 hc (fun y hy => hnm y (by simp [hy])), q5d _ _, tapL.sl_chg HKe.out.2.2 hc (fun y hy => hnm y (by simp [hy])), o13, o14, rfl⟩ : wldL.rep _ _ x.cut _)) (And.intro (show q1c w.heap.size w7 (g10 ++ ([] ++ (g12 ++ []))) from (HFe.out.chg hc).sub hsub) (And.intro (show Chg [] w w7 from G4.out.trans hc (fun y hy => .inr (by rw [List.mem_singleton] at hy; omega))) (show w.heap.size + 2 ∉ g10 ++ ([] ++ (g12 ++ [])) from fun hy => by have := HFn.out _ (hsub.subset hy); omega))))
       have HRR := hid hR.out; have HMR := hid (show w7.heap[w3.heap.size]? = some (.cells #[.int .i64 x.sH.gS, .int .i64 x.sH.column, .int .i64 x.sH.data, .int .i64 x.sH.sR, .int .i64 x.sH.rows, .int .i64 x.sH.cap, .int .i64 x.sH.bT, .int .i64 x.sH.qU, .int .i64 x.sH.sG, .slice p10 m10 d10, .slice none 0 0, .slice p12 m12 d12, .int .i64 x.wT, .int .i64 x.stop, .bool true] 34 (0, 0)) from hm)
       clear o1 o2 o3 o4 o5 o6 o7 o8 o9 o13 o14 hc hnm hsub hm cm nm fm
       go_wp2_with (first | (refine q0k rfl _ 34 rfl rfl q0v Tryz.underlying34 HMR.out rfl ?_) | (refine q0p rfl _ _ 36 rfl rfl rfl q1f HRR.out rfl rfl rfl ?_; intro w9 hb9 hc9; have HB9 := hid hb9; have HC9 := hid hc9; clear hb9 hc9))
       refine bodyPost_ret (v := .agg #[.int .i64 (9), .int .i64 x.sH.gS, .int .i64 x.sH.column, .int .i64 x.sH.data, .int .i64 x.sH.sR, .int .i64 x.sH.rows, .int .i64 x.sH.cap, .int .i64 x.sH.bT, .int .i64 x.sH.qU, .int .i64 x.sH.sG, .slice p10 m10 d10, .slice none 0 0, .slice p12 m12 d12, .int .i64 x.wT, .int .i64 x.stop, .bool true]) (q0m _ _ Tryz.results58 rfl q1f Tryz.underlying36 HB9.out rfl) rfl (fin9 (9) (⟨by omega, by omega⟩) (q1q x g d r y) (q8l hf0 h2 hyo hon HST.out) HE.out.1 rfl HE.out.2.1 HE.out.2.2.1 HC9.out HE.out.2.2.2 (by omega))
      ·have HST := hid hst; clear hst
       obtain ⟨tg, rfl⟩ : ∃ t : Nat, g = t := ⟨g.toNat, by omega⟩
       obtain ⟨td, rfl⟩ : ∃ t : Nat, d = t := ⟨d.toNat, by omega⟩
       obtain ⟨tr, rfl⟩ : ∃ t : Nat, r = t := ⟨r.toNat, by omega⟩
       have htg : tg < m10 := by have h1 := HKe.out.1.1; have h2 := HBT.out.1; omega
       obtain ⟨-, b, off, -, -, -, -, -, rfl, -, -⟩ := q4u HKe.out.1 htg
       have nd := List.nodup_append.1 HFe.out.1
       obtain ⟨G, A, l, C, f, hGx, hcx, hGS, hfs, hfn, hbf, hb10, hup⟩ := slc_mod HKe.out.1 nd.1 htg
       have hGo := HBT.out.2 G (List.mem_of_getElem? hGx)
       have htd : td < l := by have h1 := hGS.1; have h2 := hGo.1; omega
       obtain ⟨-, b2, off2, -, -, -, -, -, rfl, -, -, -⟩ := q3j hGS htd
       obtain ⟨D, A2, l2, C2, f2, hDx, -, hcd, hBS, hfs2, hfn2, hbf2, hb2, hup2⟩ := drv_mod hGS hfn htd
       have htr : tr < l2 := by have h1 := hBS.1; have h2 := (hGo.2 D (List.mem_of_getElem? hDx)).1; omega
       obtain ⟨B, b3, off3, a3, l3, c3, f3, HY3, rfl, hz0, hz1, -⟩ := q3s hBS htr
       have hb3 : b3 ∈ f2 := HY3.out.2.1
       have hb310 : b3 ∈ g10 := hfs b3 (hfs2 b3 hb3)
       have hb3m := HFl.out b3 (by simp [hb310]); have hbm := HFl.out b (by simp [hb10]); have hb2m := HFl.out b2 (by simp [hfs b2 hb2]); have hbn3 := HFn.out b3 (by simp [hb310])
       have hbl : b < w4.heap.size := Nat.lt_trans hbm nm; have hbl2 : b2 < w4.heap.size := Nat.lt_trans hb2m nm
       have hlo := (HFe.out.2 b3 (by simp [hb310])).2
       have hsto : x.stop = -1 ∨ x.stop ≠ -1 ∧ x.wT < x.stop := by have := HST.out; omega
       have hmb3 : ¬ w3.heap.size = b3 := by omega
       have hltg : ∀ y ∈ g10, y < w4.heap.size := fun y hy => Nat.lt_trans (HFl.out y (by simp [hy])) nm
       have hnmm : ∀ y ∈ g10 ++ (g11 ++ (g12 ++ [])), y ≠ w3.heap.size := fun y hy e => by have := HFl.out y hy; omega
       have hbbm : b ≠ w3.heap.size := by omega
       have hbb2m : b2 ≠ w3.heap.size := by omega
       have HM2 := hid (show w4.heap[w3.heap.size]? = some (.cells #[.int .i64 x.sH.gS, .int .i64 x.sH.column, .int .i64 x.sH.data, .int .i64 x.sH.sR, .int .i64 x.sH.rows, .int .i64 x.sH.cap, .int .i64 x.sH.bT, .int .i64 x.sH.qU, .int .i64 x.sH.sG, .slice (some ⟨b, off, none⟩) m10 d10, .slice p11 m11 d11, .slice p12 m12 d12, .int .i64 x.wT, .int .i64 x.stop, .bool false] 34 (0, 0)) from by have h := HM.out; rw [hdn.out] at h; exact h)
       have HRAW := hid (show Calls Tryz.prog 72 #[.pointer (some ⟨w3.heap.size, 0, none⟩)] w4 fun e w' => e = .returned (.bool true) ∧ w' = w4.drew.setCell ⟨w3.heap.size, 12, none⟩ (.int .i64 (x.wT + 1)) from by rcases hsto with h | h; exact l5Raw_ok1 w3.heap.size w4 HM2.out h HNU.out.1; exact l5Raw_ok2 w3.heap.size w4 HM2.out h HNU.out.1)
       go_wp2_with fail
       refine HRAW.out.mono ?_
       rintro e w6 ⟨rfl, hw6⟩
       have hm6 : w6.heap[w3.heap.size]? = some (.cells #[.int .i64 x.sH.gS, .int .i64 x.sH.column, .int .i64 x.sH.data, .int .i64 x.sH.sR, .int .i64 x.sH.rows, .int .i64 x.sH.cap, .int .i64 x.sH.bT, .int .i64 x.sH.qU, .int .i64 x.sH.sG, .slice (some ⟨b, off, none⟩) m10 d10, .slice p11 m11 d11, .slice p12 m12 d12, .int .i64 (x.wT + 1), .int .i64 x.stop, .bool x.down] 34 (0, 0)) := by rw [hw6]; exact q0i (cur := #[.int .i64 x.sH.gS, .int .i64 x.sH.column, .int .i64 x.sH.data, .int .i64 x.sH.sR, .int .i64 x.sH.rows, .int .i64 x.sH.cap, .int .i64 x.sH.bT, .int .i64 x.sH.qU, .int .i64 x.sH.sG, .slice (some ⟨b, off, none⟩) m10 d10, .slice p11 m11 d11, .slice p12 m12 d12, .int .i64 x.wT, .int .i64 x.stop, .bool x.down]) (q0a HM.out) rfl
       have hc6 : Chg [w3.heap.size] w4 w6 := by rw [hw6]; exact ((Chg.refl _ _).drew).setCell _ _ (.inl (by simp))
       have HM6 := hid hm6; have HC6 := hid hc6; have NM0 := hid nm; clear hw6 cm nm fm
       have nm := ltOf hm6; have cm := cellsOf hm6; have fm := q0c hm6
       have A16 := hid (hc6.keepb A1_4.out (by simp; omega)); have A26 := hid (hc6.keepb A2_4.out (by simp; omega))
       have hcx6 := q7k hc6 hcx hbl (by simpa using hbbm); have hcd6 := q7k hc6 hcd hbl2 (by simpa using hbb2m); have hz06 := q7k hc6 hz0 hlo.lt (by simpa using fun e => hmb3 e.symm); have hz16 := q7k hc6 hz1 hlo.lt (by simpa using fun e => hmb3 e.symm)
       have HLO6 := hid (hc6.loose b3 hlo); have hl36 := hlo.lt; have ql6 := hc6.size
       have HY6 := hid (blkL.chg (blkL.ext HY.out G4.out) hc6 (fun z hz hm => by have h1 := blkL.lt HY.out z hz; have h2 := G2.out.size; rw [List.mem_singleton] at hm; omega))
       have K1 := hid hcx6; have K2 := hid hcd6; have K3 := hid hz06; have K4 := hid hz16; clear hm6 hc6
       go_wp2_with fail
       obtain ⟨CC, HCI, HCO⟩ := q0l (fun w' => Know (w.heap.size + 1) #[.int .i64 y.sM, .slice ab lb cb] w' ∧ Know (w3.heap.size) #[.int .i64 x.sH.gS, .int .i64 x.sH.column, .int .i64 x.sH.data, .int .i64 x.sH.sR, .int .i64 x.sH.rows, .int .i64 x.sH.cap, .int .i64 x.sH.bT, .int .i64 x.sH.qU, .int .i64 x.sH.sG, .slice (some ⟨b, off, none⟩) m10 d10, .slice p11 m11 d11, .slice p12 m12 d12, .int .i64 (x.wT + 1), .int .i64 x.stop, .bool x.down] w' ∧ w'.cell? ⟨b, off + tg, none⟩ = some (.slice (some ⟨b2, off2, none⟩) l C) ∧ w'.cell? ⟨b2, off2 + td * 2 + 1, none⟩ = some (.slice (some ⟨b3, off3, none⟩) l2 C2))
       refine q1m [13] CC (by kernel_rfl) (HCI.out _ ⟨(Know.of (q0a A16.out)), (Know.of (q0a HM6.out)), K1.out, K2.out⟩) (fun hcl hS => ?_)
       refine ggT 0 hcl hS ?_; clear hcl hS; intro hcl hS
       refine ggL 1 hcl hS HCO ?_; clear hcl hS; intro hcl hS
       refine ggT 2 hcl hS ?_; clear hcl hS; intro hcl hS
       refine ggT 3 hcl hS ?_; clear hcl hS; intro hcl hS
       refine ggL 4 hcl hS HCO ?_; clear hcl hS; intro hcl hS
       refine ggT 5 hcl hS ?_; clear hcl hS; intro hcl hS
       refine ggT 6 hcl hS ?_; clear hcl hS; intro hcl hS
       refine ggT 7 hcl hS ?_; clear hcl hS; intro hcl hS
       refine ggL 8 hcl hS HCO ?_; clear hcl hS; intro hcl hS
       refine ggT 9 hcl hS ?_; clear hcl hS; intro hcl hS
       refine ggL 10 hcl hS HCO ?_; clear hcl hS; intro hcl hS
       refine ggC 11 hcl rfl (by kernel_rfl) (fun K hK => ?_)
       go_simp
       go_at_call 140
       refine (q4i y #[.int .i64 y.sM, .slice ab lb cb] fy _ (blkL.ext HY6.out ((Chg.refl [] w6).drew)) HZY.out).mono ?_; rintro e w9 ⟨cs, g4, rfl, hs, hf, hc⟩
       obtain ⟨p4, lq, d4, _, ex, -⟩ := q1s.1 hs; obtain rfl := Array.toList_inj.1 (ex.trans (List.toList_toArray).symm); have HN1 := hid (And.intro hs (And.intro (hf.mono (C := w6.heap.size) (Nat.le_refl _)) (((Chg.refl [] w6).drew).trans0 hc))); obtain ⟨-, -, F1⟩ := bk hc (q0a A16.out) (by simp); obtain ⟨cm9, nm9, F2⟩ := bk hc (q0a HM6.out) (by simp); obtain ⟨-, -, F3⟩ := bk hc (q0a A26.out) (by simp); have k1 := q0f HN1.out.2.2 K1.out (Nat.lt_of_lt_of_le hbl ql6); have k2 := q0f HN1.out.2.2 K2.out (Nat.lt_of_lt_of_le hbl2 ql6); have k3 := q0f HN1.out.2.2 K3.out (Nat.lt_of_lt_of_le hl36 ql6); have k4 := q0f HN1.out.2.2 K4.out (Nat.lt_of_lt_of_le hl36 ql6); have fb9 := (HN1.out.2.2.loose b3 HLO6.out).free; have ql := HN1.out.2.2.size; have hbl9 : b3 < w9.heap.size := Nat.lt_of_lt_of_le (Nat.lt_of_lt_of_le hl36 ql6) ql; clear hs hf hc ex
       go_wp2_with fail
       refine hK.out _ _ (fun _ => HCI.out _ ⟨(Know.of F1.out), (Know.of F2.out), k1, k2⟩) ?_
       clear hK K hcl hS
       intro hcl hS
       try simp only [Act.put, pA, pB, pC]
       refine ggT 12 hcl hS ?_; clear hcl hS; intro hcl hS
       refine ggC 13 hcl rfl (by kernel_rfl) (fun K hK => ?_)
       go_simp
       refine hK.out _ _ (Till.done (m := 13) (by simp) (by rfl)) ?_
       clear hK K hcl hS
       intro hcl hS
       try simp only [Act.put, pA, pB, pC]
       refine q3h (by kernel_rfl) ?_ _
       have hge : ∀ z ∈ g4, w4.heap.size ≤ z := fun z hz => Nat.le_trans HC6.out.size (HN1.out.2.1.2 z hz).1
       have hc9W : Chg [b3] w9 ((w9.setCell ⟨b3, off3 + tr * 2, none⟩ (.int .i64 y.sM)).setCell ⟨b3, off3 + tr * 2 + 1, none⟩ (.slice p4 lq d4)) := ((Chg.refl _ _).setCell _ _ (.inl (by simp))).setCell _ _ (.inl (by simp))
       have hcW : Chg [b3, w3.heap.size] w4 ((w9.setCell ⟨b3, off3 + tr * 2, none⟩ (.int .i64 y.sM)).setCell ⟨b3, off3 + tr * 2 + 1, none⟩ (.slice p4 lq d4)) := (((HC6.out.mono (T := [b3, w3.heap.size]) (by simp)).trans0 HN1.out.2.2).setCell _ _ (.inl (by simp))).setCell _ _ (.inl (by simp))
       obtain ⟨fi, hSi, hsubi, hndi, -, -⟩ := blkL.sl_putN (blkL.sl_ext (blkL.sl_chg hBS HC6.out (fun z hz hm => hnmm z (by simp [hfs z (hfs2 z hz)]) (List.mem_singleton.1 hm))) HN1.out.2.2) hfn2 (i := tr) htr (vs := [.int .i64 y.sM, .slice p4 lq d4]) (x' := y) (f' := g4) HN1.out.1 (fun z hz hzf => absurd (hge z hz) (Nat.not_le.2 (hltg z (hfs z (hfs2 z hzf))))) HN1.out.2.1.1
       have hkeep : ∀ z ∈ g10, z ≠ b3 → ((w9.setCell ⟨b3, off3 + tr * 2, none⟩ (.int .i64 y.sM)).setCell ⟨b3, off3 + tr * 2 + 1, none⟩ (.slice p4 lq d4)).heap[z]? = w4.heap[z]? := fun z hz h => hcW.block z (hltg z hz) (fun hm => by simp only [List.mem_cons, List.not_mem_nil, or_false] at hm; rcases hm with e | e; exact h e; exact hnmm z (by simp [hz]) e)
       obtain ⟨fj, hSj, hndj, hsubj⟩ := hup2 ((w9.setCell ⟨b3, off3 + tr * 2, none⟩ (.int .i64 y.sM)).setCell ⟨b3, off3 + tr * 2 + 1, none⟩ (.slice p4 lq d4)) (D.blocks.set tr y) fi hSi hndi (fun z hz => by rcases hsubi z hz with h | h; exact .inl h; exact .inr (fun hf => absurd (hge z h) (Nat.not_le.2 (hltg z (hfs z hf))))) (fun z hz hzf => hkeep z (hfs z hz) (fun e => hzf (e ▸ hb3)))
       have hj : ∀ z ∈ fj, z ∈ f ∨ z ∈ g4 := fun z hz => by rcases hsubj z hz with ⟨h, -⟩ | h; exact .inl h; rcases hsubi z h with h | h; exact .inl (hfs2 z h); exact .inr h
       obtain ⟨fp', hS, hnd, hsub⟩ := hup ((w9.setCell ⟨b3, off3 + tr * 2, none⟩ (.int .i64 y.sM)).setCell ⟨b3, off3 + tr * 2 + 1, none⟩ (.slice p4 lq d4)) (G.set td { D with blocks := D.blocks.set tr y }) fj hSj hndj (fun z hz => by rcases hj z hz with h | h; exact .inl h; exact .inr (fun hg => absurd (hge z h) (Nat.not_le.2 (hltg z hg)))) (fun z hz hzf => hkeep z hz (fun e => hzf (e ▸ hfs2 b3 hb3)))
       have hp : ∀ z ∈ fp', z ∈ g10 ∨ z ∈ g4 := fun z hz => by rcases hsub z hz with ⟨h, -⟩ | h; exact .inl h; rcases hj z h with h | h; exact .inl (hfs z h); exact .inr h
       have hn11 : ∀ y ∈ g11, y ∉ [b3, w3.heap.size] := fun y hy hm => by simp only [List.mem_cons, List.not_mem_nil, or_false] at hm; rcases hm with h | h; exact nd.2.2 b3 hb310 y (by simp [hy]) h.symm; exact hnmm y (by simp [hy]) h
       have hn12 : ∀ y ∈ g12, y ∉ [b3, w3.heap.size] := fun y hy hm => by simp only [List.mem_cons, List.not_mem_nil, or_false] at hm; rcases hm with h | h; exact nd.2.2 b3 hb310 y (by simp [hy]) h.symm; exact hnmm y (by simp [hy]) h
       have hFW : q1c w.heap.size ((w9.setCell ⟨b3, off3 + tr * 2, none⟩ (.int .i64 y.sM)).setCell ⟨b3, off3 + tr * 2 + 1, none⟩ (.slice p4 lq d4)) (fp' ++ (g11 ++ (g12 ++ []))) := (HFe.out.chg hcW).swap1 hnd (fun z hz => by rcases hp z hz with h | h; exact .inl h; exact .inr ⟨fun hall => absurd (hge z h) (Nat.not_le.2 (Nat.lt_trans (HFl.out z hall) NM0.out)), Nat.le_trans G4.out.size (hge z h), ((HN1.out.2.1.chg hc9W).2 z h).2⟩)
       have hRn : w.heap.size + 2 ∉ fp' ++ (g11 ++ (g12 ++ [])) := fun hy => by
        rcases List.mem_append.1 hy with hy | hy
        ·rcases hp _ hy with h | h
         ·have := HFn.out (w.heap.size + 2) (by simp [h]); omega
         ·have := hge _ h; have := NM0.out; omega
        ·have := HFn.out (w.heap.size + 2) (by simp only [List.mem_append] at hy ⊢; exact .inr hy); omega
       obtain ⟨o1, o2, o3, o4, o5, o6, o7, o8, o9, o13, o14⟩ := HO.out
       have ow : q0q (x.wT + 1) := by have := HNU.out.1; constructor <;> omega
       have HE := hid (And.intro (show wldL.rep ((w9.setCell ⟨b3, off3 + tr * 2, none⟩ (.int .i64 y.sM)).setCell ⟨b3, off3 + tr * 2 + 1, none⟩ (.slice p4 lq d4)) [.int .i64 x.sH.gS, .int .i64 x.sH.column, .int .i64 x.sH.data, .int .i64 x.sH.sR, .int .i64 x.sH.rows, .int .i64 x.sH.cap, .int .i64 x.sH.bT, .int .i64 x.sH.qU, .int .i64 x.sH.sG, .slice (some ⟨b, off, none⟩) m10 d10, .slice p11 m11 d11, .slice p12 m12 d12, .int .i64 (x.wT + 1), .int .i64 x.stop, .bool x.down] _ _ from (q0x.2 ⟨_, m10, d10, fp', p11, m11, d11, g11, p12, m12, d12, g12, rfl, o1, o2, o3, o4, o5, o6, o7, o8, o9, hS, intL.sl_chg HKe.out.2.1 hcW hn11, tapL.sl_chg HKe.out.2.2 hcW hn12, ow, o14, rfl⟩ : wldL.rep _ _ ({ x with gS := x.gS.set tg (G.set td { D with blocks := D.blocks.set tr y }), wT := x.wT + 1 }) _)) (And.intro (show q1c w.heap.size ((w9.setCell ⟨b3, off3 + tr * 2, none⟩ (.int .i64 y.sM)).setCell ⟨b3, off3 + tr * 2 + 1, none⟩ (.slice p4 lq d4)) (fp' ++ (g11 ++ (g12 ++ []))) from hFW) (And.intro (show Chg [] w ((w9.setCell ⟨b3, off3 + tr * 2, none⟩ (.int .i64 y.sM)).setCell ⟨b3, off3 + tr * 2 + 1, none⟩ (.slice p4 lq d4)) from G4.out.trans hcW (fun y hy => .inr (by have := G2.out.size; simp only [List.mem_cons, List.not_mem_nil, or_false] at hy; omega))) (show w.heap.size + 2 ∉ fp' ++ (g11 ++ (g12 ++ [])) from hRn))))
       have HRR := hid (hc9W.keepb F3.out (by simp; omega)); have HMR := hid (show ((w9.setCell ⟨b3, off3 + tr * 2, none⟩ (.int .i64 y.sM)).setCell ⟨b3, off3 + tr * 2 + 1, none⟩ (.slice p4 lq d4)).heap[w3.heap.size]? = some (.cells #[.int .i64 x.sH.gS, .int .i64 x.sH.column, .int .i64 x.sH.data, .int .i64 x.sH.sR, .int .i64 x.sH.rows, .int .i64 x.sH.cap, .int .i64 x.sH.bT, .int .i64 x.sH.qU, .int .i64 x.sH.sG, .slice (some ⟨b, off, none⟩) m10 d10, .slice p11 m11 d11, .slice p12 m12 d12, .int .i64 (x.wT + 1), .int .i64 x.stop, .bool x.down] 34 (0, 0)) from hc9W.keepb F2.out (by simp; omega))
       have HGX := hid hGx; have HDX := hid hDx
       clear o1 o2 o3 o4 o5 o6 o7 o8 o9 o13 o14 hcW hc9W hge hn11 hn12 hS hsub hnd hSi hsubi hndi hkeep hSj hndj hsubj hj hp hFW hRn hltg hnmm nd hup hup2 hGS hBS hfs hfs2 hfn hfn2 hbf hbf2 hb10 hb2 hGx hDx hGo ow hcx hcd hz0 hz1 hlo
       go_upto_region 14 with fail
       go_wp2_with (first | (refine q0k rfl _ 34 rfl rfl q0v Tryz.underlying34 HMR.out rfl ?_) | (refine q0p rfl _ _ 36 rfl rfl rfl q1f HRR.out rfl rfl rfl ?_; intro w9 hb9 hc9; have HB9 := hid hb9; have HC9 := hid hc9; clear hb9 hc9))
       refine bodyPost_ret (v := .agg #[.int .i64 0, .int .i64 x.sH.gS, .int .i64 x.sH.column, .int .i64 x.sH.data, .int .i64 x.sH.sR, .int .i64 x.sH.rows, .int .i64 x.sH.cap, .int .i64 x.sH.bT, .int .i64 x.sH.qU, .int .i64 x.sH.sG, .slice (some ⟨b, off, none⟩) m10 d10, .slice p11 m11 d11, .slice p12 m12 d12, .int .i64 (x.wT + 1), .int .i64 x.stop, .bool x.down]) (q0m _ _ Tryz.results58 rfl q1f Tryz.underlying36 HB9.out rfl) rfl (fin9 (0) (i64z) (q1q x tg td tr y) (writeR_ok hf0 h2 hyo hon HST.out HGX.out HDX.out) HE.out.1 rfl HE.out.2.1 HE.out.2.2.1 HC9.out HE.out.2.2.2 (by omega))
     ·go_wp2_with (first | (refine q0k rfl _ 34 rfl rfl q0v Tryz.underlying34 A0_2.out rfl ?_))
      refine (q4x a11 l11 c11 x.on f11 g _ (intL.sl_ext H11.out G2.out)).mono ?_
      rintro e w' ⟨rfl, rfl⟩
      rw [q0g hon]
      go_wp2_with (first | (refine q0p rfl _ _ 36 rfl rfl rfl q1f A2_2.out rfl rfl rfl ?_; intro w9 hb9 hc9; have HB9 := hid hb9; have HC9 := hid hc9; clear hb9 hc9))
      refine bodyPost_ret (v := .agg #[.int .i64 (8), .int .i64 0, .int .i64 0, .int .i64 0, .int .i64 0, .int .i64 0, .int .i64 0, .int .i64 0, .int .i64 0, .int .i64 0, .slice none 0 0, .slice none 0 0, .slice none 0 0, .int .i64 0, .int .i64 0, .bool false]) (q0m _ _ Tryz.results58 rfl q1f Tryz.underlying36 HB9.out rfl) rfl (bad9 (8) (⟨by omega, by omega⟩) (q1q x g d r y) (q9i hf0 h2 hyo hon) G2.out HC9.out (by omega))
    ·have hyo : ¬ y.ok := fun h => hl4 (by have := HBB.out.1; have := h.2; omega)
     have hne : ((lb : Int) != 4) = true := by simp; omega
     go_wp2_with (first | (refine q0p rfl _ _ 36 rfl rfl rfl q1f A2_2.out rfl rfl rfl ?_; intro w9 hb9 hc9; have HB9 := hid hb9; have HC9 := hid hc9; clear hb9 hc9))
     refine bodyPost_ret (v := .agg #[.int .i64 (1), .int .i64 0, .int .i64 0, .int .i64 0, .int .i64 0, .int .i64 0, .int .i64 0, .int .i64 0, .int .i64 0, .int .i64 0, .slice none 0 0, .slice none 0 0, .slice none 0 0, .int .i64 0, .int .i64 0, .bool false]) (q0m _ _ Tryz.results58 rfl q1f Tryz.underlying36 HB9.out rfl) rfl (bad9 (1) (⟨by omega, by omega⟩) (q1q x g d r y) (q6l hf0 h2 hyo) G2.out HC9.out (by omega))
   ·have HIS := hid (show inB y.sM 0 1000000000 = false by unfold inB; simp; omega)
    go_wp2_with (first | (refine q0k rfl _ 34 rfl rfl q0v Tryz.underlying34 A0_2.out rfl ?_))
    refine (q3d y.sM 0 1000000000 _).mono ?_
    rintro e w' ⟨rfl, rfl⟩
    rw [HIS.out]
    have hyo : ¬ y.ok := fun h => hsp h.1
    go_wp2_with (first | (refine q0p rfl _ _ 36 rfl rfl rfl q1f A2_2.out rfl rfl rfl ?_; intro w9 hb9 hc9; have HB9 := hid hb9; have HC9 := hid hc9; clear hb9 hc9))
    refine bodyPost_ret (v := .agg #[.int .i64 (1), .int .i64 0, .int .i64 0, .int .i64 0, .int .i64 0, .int .i64 0, .int .i64 0, .int .i64 0, .int .i64 0, .int .i64 0, .slice none 0 0, .slice none 0 0, .slice none 0 0, .int .i64 0, .int .i64 0, .bool false]) (q0m _ _ Tryz.results58 rfl q1f Tryz.underlying36 HB9.out rfl) rfl (bad9 (1) (⟨by omega, by omega⟩) (q1q x g d r y) (q6l hf0 h2 hyo) G2.out HC9.out (by omega))
  ·have HI := hid (show (inB g 0 (x.sH.all - 1) && inB d 0 (x.sH.drives - 1) && inB r 0 (x.sH.rows - 1)) = false by unfold inB; simp; omega)
   go_wp2_with (first | (refine q0k rfl _ 34 rfl rfl q0v Tryz.underlying34 A0_1.out rfl ?_))
   refine (q8t x.sH hok g d r _).mono ?_
   rintro e w2 ⟨rfl, hc⟩
   rw [HI.out]
   clear c0 n0
   obtain ⟨c0, n0, A0_2⟩ := bk0 hc A0_1.out
   clear c1 n1
   obtain ⟨c1, n1, A1_2⟩ := bk0 hc A1_1.out
   clear c2 n2
   obtain ⟨c2, n2, A2_2⟩ := bk0 hc A2_1.out
   have G2 := hid (G1.out.trans0 hc)
   clear fz; have fz := q0c A2_2.out
   clear hc
   go_wp2_with (first | (refine q0p rfl _ _ 36 rfl rfl rfl q1f A2_2.out rfl rfl rfl ?_; intro w9 hb9 hc9; have HB9 := hid hb9; have HC9 := hid hc9; clear hb9 hc9))
   refine bodyPost_ret (v := .agg #[.int .i64 (3), .int .i64 0, .int .i64 0, .int .i64 0, .int .i64 0, .int .i64 0, .int .i64 0, .int .i64 0, .int .i64 0, .int .i64 0, .slice none 0 0, .slice none 0 0, .slice none 0 0, .int .i64 0, .int .i64 0, .bool false]) (q0m _ _ Tryz.results58 rfl q1f Tryz.underlying36 HB9.out rfl) rfl (bad9 (3) (⟨by omega, by omega⟩) (q1q x g d r y) (q5s hf0 h2) G2.out HC9.out (by omega))
 ·have hb : ((q : Int) != 0) = true := by simpa using hq0
  go_wp2_with (first | (refine q0p rfl _ _ 36 rfl rfl rfl q1f A2_1.out rfl rfl rfl ?_; intro w9 hb9 hc9; have HB9 := hid hb9; have HC9 := hid hc9; clear hb9 hc9))
  refine bodyPost_ret (v := .agg #[.int .i64 (q), .int .i64 0, .int .i64 0, .int .i64 0, .int .i64 0, .int .i64 0, .int .i64 0, .int .i64 0, .int .i64 0, .int .i64 0, .slice none 0 0, .slice none 0 0, .slice none 0 0, .int .i64 0, .int .i64 0, .bool false]) (q0m _ _ Tryz.results58 rfl q1f Tryz.underlying36 HB9.out rfl) rfl (bad9 (q) (hqk) (q1q x g d r y) (by rw [q9k (by rw [← HQ.out]; exact hq0), ← HQ.out]) G1.out HC9.out (by omega))
theorem q6n {x : Wld} {w : World} (hf : x.fault = 0) {a10 : Option Addr} {l10 c10 : Nat} {f10 : List Nat} (hs : drvL.slice.sl w a10 l10 c10 x.gS f10) {tg td tr : Nat} (h1 : x.isGroup tg) (h2 : x.isDrive td) (h3 : x.isRow tr) :
  ∃ b off b2 off2 l2 c2 b3 off3 l3 c3 pb lb cb fb, a10 = some ⟨b, off, none⟩ ∧ tg < l10 ∧ w.cell? ⟨b, off + tg, none⟩ = some (.slice (some ⟨b2, off2, none⟩) l2 c2) ∧ td < l2 ∧ w.cell? ⟨b2, off2 + td * 2, none⟩ = some (.bool (x.drive tg td).wiped) ∧ w.cell? ⟨b2, off2 + td * 2 + 1, none⟩ = some (.slice (some ⟨b3, off3, none⟩) l3 c3) ∧ tr < l3 ∧
   w.cell? ⟨b3, off3 + tr * 2, none⟩ = some (.int .i64 ((x.drive tg td).blocks.getD tr q6c).sM) ∧ w.cell? ⟨b3, off3 + tr * 2 + 1, none⟩ = some (.slice pb lb cb) ∧ q0t.sl w pb lb cb ((x.drive tg td).blocks.getD tr q6c).bytes fb := by
 obtain ⟨q1, -, q2, -, q3, -, -, -⟩ := place hf h1 h2 h3
 simp only [Int.toNat_natCast] at q1 q2 q3
 have htg : tg < l10 := by have := hs.1; omega
 obtain ⟨G, b, off, A, l, C, f, HX, rfl, hcx, HXS⟩ := q4u hs htg
 have eG : x.gS.getD tg [] = G := by rw [List.getD_eq_getElem?_getD, HX.out.1]; rfl
 rw [eG] at q2
 have htd : td < l := by have := HXS.out.1; omega
 obtain ⟨D, b2, off2, a2, l2, c2, f2, HY, rfl, hy0, hy1, HYS⟩ := q3j HXS.out htd
 have eD : x.drive tg td = D := by unfold Wld.drive; rw [Int.toNat_natCast, Int.toNat_natCast, eG, List.getD_eq_getElem?_getD, HY.out.1]; rfl
 rw [eD] at q3
 obtain ⟨_, _, _, _, exd, hyb, -⟩ := q2i.1 HYS.out
 obtain ⟨e1, e2, e3⟩ := Value.slice.inj (List.cons.inj (List.cons.inj exd).2).1
 subst e1 e2 e3
 have htr : tr < l2 := by have := hyb.1; omega
 obtain ⟨B, b3, off3, a3, l3, c3, f3, HB, rfl, hz0, hz1, HBS⟩ := q3s hyb htr
 have eB : (x.drive tg td).blocks.getD tr q6c = B := by rw [eD, List.getD_eq_getElem?_getD, HB.out.1]; rfl
 obtain ⟨_, _, _, fb, exb, -, hbb, -⟩ := q1s.1 HBS.out
 obtain ⟨e1, e2, e3⟩ := Value.slice.inj (List.cons.inj (List.cons.inj exb).2).1
 subst e1 e2 e3
 rw [eB, eD]
 exact ⟨b, off, b2, off2, l, C, b3, off3, l2, c2, a3, l3, c3, fb, rfl, htg, hcx, htd, hy0, hy1, htr, hz0, hz1, hbb⟩
theorem wld_look {w : World} {u0 u1 u2 u3 u4 u5 u6 u7 u8 u9 u10 u11 u12 u13 u14 : Value} {x : Wld} {fp : List Nat} (h : wldL.rep w [u0, u1, u2, u3, u4, u5, u6, u7, u8, u9, u10, u11, u12, u13, u14] x fp) : (∃ a l c f, u9 = .slice a l c ∧ drvL.slice.sl w a l c x.gS f) ∧ u12 = .int .i64 x.wT ∧ u14 = .bool x.down := by
 obtain ⟨a10, l10, c10, f10, a11, l11, c11, f11, a12, l12, c12, f12, ex, -, -, -, -, -, -, -, -, -, h10, -⟩ := q0x.1 h
 simp only [List.cons.injEq, and_true] at ex
 obtain ⟨-, -, -, -, -, -, -, -, -, rfl, -, -, rfl, -, rfl⟩ := ex
 exact ⟨⟨_, _, _, _, rfl, h10⟩, rfl, rfl⟩
theorem blk_look {w : World} {u0 : Value} {a : Option Addr} {l c : Nat} {x : Blk} {fp : List Nat} (h : blkL.rep w [u0, .slice a l c] x fp) : ∃ f, q0t.sl w a l c x.bytes f := by
 obtain ⟨_, _, _, fb, ex, -, hb, -⟩ := q1s.1 h
 obtain ⟨e1, e2, e3⟩ := Value.slice.inj (List.cons.inj (List.cons.inj ex).2).1
 subst e1 e2 e3
 exact ⟨fb, hb⟩
theorem q8b (a b : Option Addr) (la lb ca cb : Nat) (xs : List UInt8) (f g : List Nat) (w : World) (ha : q0t.sl w a la ca xs f) (hb : q0t.sl w b lb cb xs g) :
  Calls Tryz.prog 59 #[.slice a la ca, .slice b lb cb] w fun e w' => e = .returned (.bool true) ∧ Chg [] w w' := by
 obtain rfl : lb = la := hb.1.trans ha.1.symm
 have hm := q0t.sl_max ha
 have hne : ((lb : Int) != (lb : Int)) = false := by simp
 have HA := hid ha
 have HB := hid hb
 clear ha hb
 go_enter Tryz.func59, Tryz.ntmps59
 go_wp2
 go_loopw [5] (fun i wr => ∃ k : Nat, k ≤ lb ∧ i = .int .i64 k ∧ Chg [] w wr) (fun i _ => lb - (intOf i).toNat)
 case atStart => exact ⟨0, by omega, rfl, Chg.refl _ _⟩
 case round =>
  obtain ⟨k, hk, rfl, hc⟩ := hrel
  by_cases hlt : k < lb
  ·obtain ⟨x, X, b, o, HX, rfl, hcx, _, _⟩ := q4s (q0t.sl_ext HA.out hc) hlt
   obtain ⟨y, Y, b', o', HY, rfl, hcy, _, _⟩ := q4s (q0t.sl_ext HB.out hc) hlt
   have hxy : x = y := by have := HX.out.1.symm.trans HY.out.1; exact Option.some.inj this
   subst hxy
   rw [HX.out.2.1] at hcx; rw [HY.out.2.1] at hcy; have hnn : ((x.toNat : Int) != (x.toNat : Int)) = false := by simp
   have HC := hid hc
   clear hc
   go_wp2
   first | go_region | skip
   all_goals (try go_wp2)
   all_goals
    go_roundw
    case rel => exact ⟨k + 1, by omega, by go_num, by first | exact HC.out | exact HC.out.drew⟩
    case measure => simp [intOf]; omega
  ·have HC := hid hc
   clear hc
   go_wp2
   go_ret
   exact ⟨rfl, HC.out⟩
theorem q9x (W : World) (a : Option Addr) (la ca : Nat) (xs : List UInt8) (f : List Nat) (o : q0t.sl W a la ca xs f) :
  Calls Tryz.prog 13 #[.slice a la ca] W fun e w' => e = .returned (.bool true) ∧ Chg [] W w' := by
 have hm := q0t.sl_max o
 have HA := hid o
 have HBG := hid (lwBig_any a la ca W)
 clear o
 by_cases hz : (1048576 : Int) < (la : Int)
 ·rw [decide_eq_true hz] at HBG
  go_enter Tryz.func13, Tryz.ntmps13
  go_wp2_with fail
  refine HBG.out.mono ?_; rintro e w' ⟨rfl, rfl⟩
  go_wp2_with fail
  go_ret
  exact ⟨rfl, Chg.refl _ _⟩
 rw [decide_eq_false hz] at HBG
 go_enter Tryz.func13, Tryz.ntmps13
 go_wp2_with fail
 refine HBG.out.mono ?_; rintro e w' ⟨rfl, rfl⟩
 go_wp2_with fail
 refine (z0l a la ca xs f W HA.out (by omega)).mono ?_
 rintro e w1 ⟨cs, g, d, rr, cy, rfl, -, -, hgo, hdr, hbl, hc1⟩
 obtain ⟨X, fx, hrep, hX, hXW⟩ := hdr.x
 obtain ⟨y, fy, hyr, hyt⟩ := hbl.x
 obtain ⟨a10, l10, c10, f10, a11, l11, c11, f11, a12, l12, c12, f12, ex, -, -, -, -, -, -, -, -, -, h10, -⟩ := q0x.1 hrep
 obtain rfl := Array.toList_inj.1 (ex.trans (List.toList_toArray).symm)
 obtain ⟨ay, ly, cyy, _, ey, -, hyb, -⟩ := q1s.1 hyr
 obtain rfl := Array.toList_inj.1 (ey.trans (List.toList_toArray).symm)
 have hcA : Chg [] w1 ((w1.alloc (.cells #[.int .i64 X.sH.gS, .int .i64 X.sH.column, .int .i64 X.sH.data, .int .i64 X.sH.sR, .int .i64 X.sH.rows, .int .i64 X.sH.cap, .int .i64 X.sH.bT, .int .i64 X.sH.qU, .int .i64 X.sH.sG, .slice a10 l10 c10, .slice a11 l11 c11, .slice a12 l12 c12, .int .i64 X.wT, .int .i64 X.stop, .bool X.down] 34)).alloc (.cells #[.int .i64 y.sM, .slice ay ly cyy] 76)) := ((Chg.refl [] w1).alloc _).alloc _
 have HM := hid (show ((w1.alloc (.cells #[.int .i64 X.sH.gS, .int .i64 X.sH.column, .int .i64 X.sH.data, .int .i64 X.sH.sR, .int .i64 X.sH.rows, .int .i64 X.sH.cap, .int .i64 X.sH.bT, .int .i64 X.sH.qU, .int .i64 X.sH.sG, .slice a10 l10 c10, .slice a11 l11 c11, .slice a12 l12 c12, .int .i64 X.wT, .int .i64 X.stop, .bool X.down] 34)).alloc (.cells #[.int .i64 y.sM, .slice ay ly cyy] 76)).heap[w1.heap.size]? = some (.cells #[.int .i64 X.sH.gS, .int .i64 X.sH.column, .int .i64 X.sH.data, .int .i64 X.sH.sR, .int .i64 X.sH.rows, .int .i64 X.sH.cap, .int .i64 X.sH.bT, .int .i64 X.sH.qU, .int .i64 X.sH.sG, .slice a10 l10 c10, .slice a11 l11 c11, .slice a12 l12 c12, .int .i64 X.wT, .int .i64 X.stop, .bool X.down] 34 (0, 0)) from q0b (q0j w1 _) _)
 have HN := hid (show ((w1.alloc (.cells #[.int .i64 X.sH.gS, .int .i64 X.sH.column, .int .i64 X.sH.data, .int .i64 X.sH.sR, .int .i64 X.sH.rows, .int .i64 X.sH.cap, .int .i64 X.sH.bT, .int .i64 X.sH.qU, .int .i64 X.sH.sG, .slice a10 l10 c10, .slice a11 l11 c11, .slice a12 l12 c12, .int .i64 X.wT, .int .i64 X.stop, .bool X.down] 34)).alloc (.cells #[.int .i64 y.sM, .slice ay ly cyy] 76)).heap[w1.heap.size + 1]? = some (.cells #[.int .i64 y.sM, .slice ay ly cyy] 76 (0, 0)) from q0e (by simp) _)
 have HX := hid (wldL.ext hrep hcA); have HY := hid (blkL.ext hyr hcA); have HC := hid (hc1.trans0 hcA)
 have HXT := hid hX; have HGO := hid hgo; have HXW := hid hXW; have HYT := hid hyt
 clear hrep hX hXW hyr hyt hgo hdr hbl hc1 ex ey hyb hcA h10
 go_upto_region 4 with fail
 generalize ((w1.alloc (.cells #[.int .i64 X.sH.gS, .int .i64 X.sH.column, .int .i64 X.sH.data, .int .i64 X.sH.sR, .int .i64 X.sH.rows, .int .i64 X.sH.cap, .int .i64 X.sH.bT, .int .i64 X.sH.qU, .int .i64 X.sH.sG, .slice a10 l10 c10, .slice a11 l11 c11, .slice a12 l12 c12, .int .i64 X.wT, .int .i64 X.stop, .bool X.down] 34)).alloc (.cells #[.int .i64 y.sM, .slice ay ly cyy] 76)) = w3 at HM HN HX HY HC ⊢
 generalize w1.heap.size + 1 = n at HN ⊢
 generalize w1.heap.size = m at HM ⊢
 obtain ⟨r, hr⟩ : ∃ r, r = q1q X g d rr y := ⟨_, rfl⟩
 have HWD := hid (show r.code = 9 → X.fault = 0 → X.down = false → r.world = X.cut ∧ 0 ≤ X.stop ∧ X.isGroup g ∧ X.isDrive d ∧ X.isRow rr from fun h h1 h2 => by subst hr; exact writes_down h h1 h2)
 have HWO := hid (show r.code = 0 → X.fault = 0 → X.down = false → r.world.wT = X.wT + 1 ∧ X.isGroup g ∧ X.isDrive d ∧ X.isRow rr ∧ q1u r.world = q1u X ∧ (if (X.drive g d).wiped = true then (q3v r.world g d rr).code = 12 else q3v r.world g d rr = ⟨0, y⟩) from fun h h1 h2 => by subst hr; exact writes_done h h1 h2 HXW.out)
 have HI := hid (fun w h h2 => (by rw [hr]; exact q5q X #[.int .i64 X.sH.gS, .int .i64 X.sH.column, .int .i64 X.sH.data, .int .i64 X.sH.sR, .int .i64 X.sH.rows, .int .i64 X.sH.cap, .int .i64 X.sH.bT, .int .i64 X.sH.qU, .int .i64 X.sH.sG, .slice a10 l10 c10, .slice a11 l11 c11, .slice a12 l12 c12, .int .i64 X.wT, .int .i64 X.stop, .bool X.down] fx g d rr y #[.int .i64 y.sM, .slice ay ly cyy] fy w h (by have := HXT.out; omega) HGO.out.1 HGO.out.2.1 HGO.out.2.2 h2 (by have := HYT.out; omega) : Calls Tryz.prog 57 #[.agg #[.int .i64 X.sH.gS, .int .i64 X.sH.column, .int .i64 X.sH.data, .int .i64 X.sH.sR, .int .i64 X.sH.rows, .int .i64 X.sH.cap, .int .i64 X.sH.bT, .int .i64 X.sH.qU, .int .i64 X.sH.sG, .slice a10 l10 c10, .slice a11 l11 c11, .slice a12 l12 c12, .int .i64 X.wT, .int .i64 X.stop, .bool X.down], .int .i64 g, .int .i64 d, .int .i64 rr, .agg #[.int .i64 y.sM, .slice ay ly cyy]] w (q2l wrsL r w)))
 have HSP := hid (fun w h h2 => (by rw [hr]; exact q8n X #[.int .i64 X.sH.gS, .int .i64 X.sH.column, .int .i64 X.sH.data, .int .i64 X.sH.sR, .int .i64 X.sH.rows, .int .i64 X.sH.cap, .int .i64 X.sH.bT, .int .i64 X.sH.qU, .int .i64 X.sH.sG, .slice a10 l10 c10, .slice a11 l11 c11, .slice a12 l12 c12, .int .i64 X.wT, .int .i64 X.stop, .bool X.down] fx g d rr y #[.int .i64 y.sM, .slice ay ly cyy] fy w h (by have := HXT.out; omega) HGO.out.1 HGO.out.2.1 HGO.out.2.2 h2 (by have := HYT.out; omega) : Calls Tryz.prog 58 #[.agg #[.int .i64 X.sH.gS, .int .i64 X.sH.column, .int .i64 X.sH.data, .int .i64 X.sH.sR, .int .i64 X.sH.rows, .int .i64 X.sH.cap, .int .i64 X.sH.bT, .int .i64 X.sH.qU, .int .i64 X.sH.sG, .slice a10 l10 c10, .slice a11 l11 c11, .slice a12 l12 c12, .int .i64 X.wT, .int .i64 X.stop, .bool X.down], .int .i64 g, .int .i64 d, .int .i64 rr, .agg #[.int .i64 y.sM, .slice ay ly cyy]] w (q2l wrsL r w)))
 clear hr
 have cN := cellsOf HN.out; have lN := ltOf HN.out
 go_wp2_with (refine q0k rfl _ 34 rfl rfl q0v Tryz.underlying34 HM.out rfl ?_)
 refine (HI.out _ HX.out HY.out).mono ?_
 rintro e w4 ⟨cr, fr, rfl, hr, -, hc⟩
 obtain ⟨v1, v2, v3, v4, v5, v6, v7, v8, v9, v10, v12, v13, v14, v15, vo, vl, vc, vf, rfl, hone, hRW, hon⟩ := q4f hr
 have HRW := hid (wldL.ext hRW ((Chg.refl [] w4).alloc (.cells #[.int .i64 r.code, v1, v2, v3, v4, v5, v6, v7, v8, v9, v10, .slice vo vl vc, v12, v13, v14, v15] 36))); have HON := hid hon.1
 have HM4 := hid (q0b (hc.keep0 HM.out) (.cells #[.int .i64 r.code, v1, v2, v3, v4, v5, v6, v7, v8, v9, v10, .slice vo vl vc, v12, v13, v14, v15] 36)); have HN4 := hid (q0b (hc.keep0 HN.out) (.cells #[.int .i64 r.code, v1, v2, v3, v4, v5, v6, v7, v8, v9, v10, .slice vo vl vc, v12, v13, v14, v15] 36)); have HX4 := hid (wldL.ext (wldL.ext HX.out hc) ((Chg.refl [] w4).alloc (.cells #[.int .i64 r.code, v1, v2, v3, v4, v5, v6, v7, v8, v9, v10, .slice vo vl vc, v12, v13, v14, v15] 36))); have HY4 := hid (blkL.ext (blkL.ext HY.out hc) ((Chg.refl [] w4).alloc (.cells #[.int .i64 r.code, v1, v2, v3, v4, v5, v6, v7, v8, v9, v10, .slice vo vl vc, v12, v13, v14, v15] 36)))
 have HC4 := hid ((HC.out.trans0 hc).alloc (.cells #[.int .i64 r.code, v1, v2, v3, v4, v5, v6, v7, v8, v9, v10, .slice vo vl vc, v12, v13, v14, v15] 36)); have HB4 := hid (q0j w4 (.cells #[.int .i64 r.code, v1, v2, v3, v4, v5, v6, v7, v8, v9, v10, .slice vo vl vc, v12, v13, v14, v15] 36)); have HONE := hid hone
 clear hr hc hRW hon hone HI HX HY HM HN HC cN lN
 go_upto_region 5 with (refine q3a rfl _ _ 36 rfl rfl rfl rfl q1f rfl rfl HONE.out ?_)
 try simp only [Act.put]
 generalize w4.alloc (.cells #[.int .i64 r.code, v1, v2, v3, v4, v5, v6, v7, v8, v9, v10, .slice vo vl vc, v12, v13, v14, v15] 36) = wB at HRW HM4 HN4 HX4 HY4 HC4 HB4 ⊢
 generalize w4.heap.size = p at HB4 ⊢
 go_cut [44] from 28 to 44 (fun s44 w5 => ∃ q : Bool, s44 = .bool q ∧ Hid (q = false → X.fault = 0 ∧ X.down = false ∧ (r.code = 0 ∨ r.code = 9)) ∧ Chg [] wB w5)
 case first =>
  have cB := cellsOf HB4.out; have lB := ltOf HB4.out
  by_cases hA : r.code ≠ 0 ∧ r.code ≠ 9
  ·have h1 : (r.code != 0) = true := by simpa using hA.1
   have h2 : (r.code != 9) = true := by simpa using hA.2
   go_wp2_with fail
   go_meet
   exact ⟨true, rfl, fun h => by (cases h), Chg.refl _ _⟩
  ·have hq : r.code = 0 ∨ r.code = 9 := by omega
   have HQ := hid hq
   have hcc : ((r.code != 0) = true ∧ (r.code != 9) = false) ∨ (r.code != 0) = false := by rcases hq with h | h <;> simp [h]
   clear hq
   have HWF := hid (fun w h => q5n X #[.int .i64 X.sH.gS, .int .i64 X.sH.column, .int .i64 X.sH.data, .int .i64 X.sH.sR, .int .i64 X.sH.rows, .int .i64 X.sH.cap, .int .i64 X.sH.bT, .int .i64 X.sH.qU, .int .i64 X.sH.sG, .slice a10 l10 c10, .slice a11 l11 c11, .slice a12 l12 c12, .int .i64 X.wT, .int .i64 X.stop, .bool X.down] fx w h)
   rcases hcc with ⟨h1, h2⟩ | h1
   all_goals
    go_wp2_with (refine q2u _ 34 #[.int .i64 X.sH.gS, .int .i64 X.sH.column, .int .i64 X.sH.data, .int .i64 X.sH.sR, .int .i64 X.sH.rows, .int .i64 X.sH.cap, .int .i64 X.sH.bT, .int .i64 X.sH.qU, .int .i64 X.sH.sG, .slice a10 l10 c10, .slice a11 l11 c11, .slice a12 l12 c12, .int .i64 X.wT, .int .i64 X.stop, .bool X.down] (by rfl) rfl rfl q0v Tryz.underlying34 HM4.out rfl rfl rfl ?_)
    refine (HWF.out _ HX4.out).mono ?_
    rintro e w5 ⟨rfl, hc⟩
    have HC5 := hid hc
    have cM := cellsOf (hc.keep0 HM4.out); have lM := ltOf (hc.keep0 HM4.out)
    clear hc
    by_cases hf : X.fault = 0
    ·have hfb : (X.fault != 0) = false := by simpa using hf
     have HF := hid hf; clear hf
     go_wp2_with fail
     go_meet
     exact ⟨X.down, rfl, fun h => ⟨HF.out, h, HQ.out⟩, HC5.out⟩
    ·have hfb : (X.fault != 0) = true := by simpa using hf
     go_wp2_with fail
     go_meet
     exact ⟨true, rfl, fun h => by (cases h), HC5.out⟩
 case rest =>
 revert wc; intro w5 hcut
 obtain ⟨q, rfl, HQ, hc5⟩ := hcut
 have HC5 := hid (HC4.out.trans0 hc5); have HM5 := hid (hc5.keep0 HM4.out); have HN5 := hid (hc5.keep0 HN4.out); have HB5 := hid (hc5.keep0 HB4.out); have HX5 := hid (wldL.ext HX4.out hc5); have HY5 := hid (blkL.ext HY4.out hc5); have HRW5 := hid (wldL.ext HRW.out hc5)
 clear hc5 HC4 HM4 HN4 HB4 HX4 HY4 HRW
 have hfd := @field_code
 cases q
 ·obtain ⟨hf, hdn, hcode⟩ := HQ.out rfl
  obtain ⟨⟨ag, lg, cg, fg, ev10, hrg⟩, ev13, ev15⟩ := wld_look HRW5.out
  obtain ⟨⟨ax, lx, cx, fx2, ex10, hxg⟩, -, -⟩ := wld_look HX5.out
  obtain ⟨rfl, rfl, rfl⟩ : a10 = ax ∧ l10 = lx ∧ c10 = cx := by simpa using ex10
  subst ev10 ev13 ev15
  by_cases h9 : r.code = 9
  ·obtain ⟨e1, e2, h1, h2, h3⟩ := HWD.out h9 hf hdn
   obtain ⟨tg, rfl⟩ : ∃ k : Nat, g = k := ⟨g.toNat, by obtain ⟨q1, -⟩ := id h1; omega⟩
   obtain ⟨td, rfl⟩ : ∃ k : Nat, d = k := ⟨d.toNat, by obtain ⟨q1, -⟩ := id h2; omega⟩
   obtain ⟨tr, rfl⟩ : ∃ k : Nat, rr = k := ⟨rr.toNat, by obtain ⟨q1, -⟩ := id h3; omega⟩
   have eg : r.world.gS = X.gS := by rw [e1]; rfl
   have ew : r.world.wT = X.wT := by rw [e1]; rfl
   have ed : r.world.down = true := by rw [e1]; rfl
   have eo : vl = 0 := by rw [HON.out, e1]; rfl
   rw [eg] at hrg
   rw [h9, ew, ed] at HB5
   subst eo
   obtain ⟨b, off, b2, off2, l2, c2, b3, off3, l3, c3, pb, lb, cb, fb, rfl, hg1, hc1, hd1, hc2, hc3, hr1, hc4, hc5, hby⟩ := q6n hf hxg h1 h2 h3
   obtain ⟨B, hB⟩ : ∃ B, B = (X.drive (tg : Int) (td : Int)).blocks.getD tr q6c := ⟨_, rfl⟩
   rw [← hB] at hc4 hby
   have H123 := hid (And.intro h1 (And.intro h2 h3)); have HFL := hid hf; have HBY := hid hby; have HRG := hid hrg; have HBE := hid hB
   clear hxg hf hdn hcode HWO HWD HQ h1 h2 h3 hby hrg e1 eg ew ed h9 HSP hB
   have cB := cellsOf HB5.out; have lB := ltOf HB5.out; have cM := cellsOf HM5.out; have lM := ltOf HM5.out
   go_upto_region 9 with fail
   have HK6 := hid (q0j w5 (.cells #[.int .i64 B.sM, .slice pb lb cb] 76)); have HM6 := hid (q0b HM5.out (.cells #[.int .i64 B.sM, .slice pb lb cb] 76)); have HB6 := hid (q0b HB5.out (.cells #[.int .i64 B.sM, .slice pb lb cb] 76)); have HRG6 := hid (drvL.slice.sl_ext HRG.out ((Chg.refl [] w5).alloc (.cells #[.int .i64 B.sM, .slice pb lb cb] 76))); have HBY6 := hid (q0t.sl_ext HBY.out ((Chg.refl [] w5).alloc (.cells #[.int .i64 B.sM, .slice pb lb cb] 76))); have HC6 := hid (HC5.out.alloc (.cells #[.int .i64 B.sM, .slice pb lb cb] 76))
   generalize w5.alloc (.cells #[.int .i64 B.sM, .slice pb lb cb] 76) = w6 at HK6 HM6 HB6 HRG6 HBY6 HC6 ⊢
   generalize w5.heap.size = k9 at HK6 ⊢
   clear hc1 hc2 hc3 hc4 hc5 cB lB cM lM HM5 HB5 HRG HBY HC5 hd1 hr1
   obtain ⟨bq, offq, bq2, offq2, lq2, cq2, bq3, offq3, lq3, cq3, pq, lq, cq, fq, rfl, hg2, hc1, hd1, hc2, hc3, hr1, hc4, hc5, hbq⟩ := q6n HFL.out HRG6.out H123.out.1 H123.out.2.1 H123.out.2.2
   rw [← HBE.out] at hc4 hbq
   have HBQ := hid hbq; clear hbq
   have cB := cellsOf HB6.out; have lB := ltOf HB6.out
   go_upto_region 10 with fail
   have HQ7 := hid (q0j w6 (.cells #[.int .i64 B.sM, .slice pq lq cq] 76)); have HK7 := hid (q0b HK6.out (.cells #[.int .i64 B.sM, .slice pq lq cq] 76)); have HM7 := hid (q0b HM6.out (.cells #[.int .i64 B.sM, .slice pq lq cq] 76)); have HB7 := hid (q0b HB6.out (.cells #[.int .i64 B.sM, .slice pq lq cq] 76)); have HBQ7 := hid (q0t.sl_ext HBQ.out ((Chg.refl [] w6).alloc (.cells #[.int .i64 B.sM, .slice pq lq cq] 76))); have HBY7 := hid (q0t.sl_ext HBY6.out ((Chg.refl [] w6).alloc (.cells #[.int .i64 B.sM, .slice pq lq cq] 76))); have HC7 := hid (HC6.out.alloc (.cells #[.int .i64 B.sM, .slice pq lq cq] 76))
   generalize w6.alloc (.cells #[.int .i64 B.sM, .slice pq lq cq] 76) = w7 at HQ7 HK7 HM7 HB7 HBQ7 HBY7 HC7 ⊢
   generalize w6.heap.size = k10 at HQ7 ⊢
   clear hc1 hc2 hc3 hc4 hc5 cB lB HK6 HM6 HB6 HRG6 HBQ HBY6 HC6 hd1 hr1
   have cB := cellsOf HB7.out; have lB := ltOf HB7.out; have cM := cellsOf HM7.out; have lM := ltOf HM7.out; have cK := cellsOf HK7.out; have lK := ltOf HK7.out; have cQ := cellsOf HQ7.out; have lQ := ltOf HQ7.out
   go_wp2_with fail
   refine (q8b pq pb lq lb cq cb B.bytes fq fb _ HBQ7.out HBY7.out).mono ?_
   rintro e w8 ⟨rfl, hc⟩
   have HC8 := hid (HC7.out.trans0 hc); have HB8 := hc.keep0 HB7.out; have HM8 := hc.keep0 HM7.out
   clear hc cB lB cM lM cK lK cQ lQ
   have cB := cellsOf HB8; have lB := ltOf HB8; have cM := cellsOf HM8; have lM := ltOf HM8
   clear HB8 HM8
   go_wp2_with fail
   go_ret
   exact ⟨by simp, HC8.out⟩
  ·have h0 : r.code = 0 := hcode.resolve_right h9
   obtain ⟨ew, h1, h2, h3, etot, hrd⟩ := HWO.out h0 hf hdn
   obtain ⟨tg, rfl⟩ : ∃ k : Nat, g = k := ⟨g.toNat, by obtain ⟨q1, -⟩ := id h1; omega⟩
   obtain ⟨td, rfl⟩ : ∃ k : Nat, d = k := ⟨d.toNat, by obtain ⟨q1, -⟩ := id h2; omega⟩
   obtain ⟨tr, rfl⟩ : ∃ k : Nat, rr = k := ⟨rr.toNat, by obtain ⟨q1, -⟩ := id h3; omega⟩
   have hnum : 0 ≤ X.wT ∧ X.wT ≤ 1000000000 := (q3n hf).2.2.2.1
   have hww : IntKind.i64.wrap (X.wT + 1) = X.wT + 1 := IntWalk.i64_in _ (by omega)
   rw [ew] at HRW5 HB5
   rw [h0] at HB5
   have HXG := hid hxg; have H123 := hid (And.intro h1 (And.intro h2 h3)); have HFL := hid hf
   have HT := hid (show q1u r.world ≤ 1048576 by have := HXT.out; omega)
   obtain ⟨q, hq⟩ : ∃ q, q = q3v r.world tg td tr := ⟨_, rfl⟩
   rw [← hq] at hrd
   have HRB := hid (fun w h => (by rw [hq]; exact q6i r.world #[v1, v2, v3, v4, v5, v6, v7, v8, v9, .slice ag lg cg, .slice vo vl vc, v12, .int .i64 (X.wT + 1), v14, .bool r.world.down] fr tg td tr w h HT.out HGO.out.1 HGO.out.2.1 HGO.out.2.2 : Calls Tryz.prog 60 #[.agg #[v1, v2, v3, v4, v5, v6, v7, v8, v9, .slice ag lg cg, .slice vo vl vc, v12, .int .i64 (X.wT + 1), v14, .bool r.world.down], .int .i64 tg, .int .i64 td, .int .i64 tr] w (q2l brsL q w)))
   have HRD := hid hrd
   clear hxg hrg hf hdn hcode HWO HWD HQ h1 h2 h3 ew h9 h0 HSP hq hrd etot hnum
   have cB := cellsOf HB5.out; have lB := ltOf HB5.out
   go_wp2_with (refine q2u _ 34 #[v1, v2, v3, v4, v5, v6, v7, v8, v9, .slice ag lg cg, .slice vo vl vc, v12, .int .i64 (X.wT + 1), v14, .bool r.world.down] (by rfl) rfl rfl q0v Tryz.underlying34 HB5.out rfl rfl rfl ?_)
   refine (HRB.out _ HRW5.out).mono ?_
   rintro e w6 ⟨cq, fq, rfl, hqr, -, hc⟩
   obtain ⟨aq, lq, cq', rfl, -, hqb⟩ := brs_open hqr
   obtain ⟨fqb, hqb⟩ := blk_look hqb
   obtain ⟨fyb, hyb⟩ := blk_look HY5.out
   have hc7 : Chg [] w5 (w6.alloc (.cells #[.int .i64 q.code, .int .i64 q.block.sM, .slice aq lq cq'] 86)) := hc.alloc _
   have HK7 := hid (q0j w6 (.cells #[.int .i64 q.code, .int .i64 q.block.sM, .slice aq lq cq'] 86)); have HB7 := hid (hc7.keep0 HB5.out); have HM7 := hid (hc7.keep0 HM5.out); have HN7 := hid (hc7.keep0 HN5.out); have HC7 := hid (HC5.out.trans0 hc7)
   have HXG7 := hid (drvL.slice.sl_ext HXG.out hc7); have HYB7 := hid (q0t.sl_ext hyb hc7); have HQB7 := hid (q0t.sl_ext hqb ((Chg.refl [] w6).alloc (.cells #[.int .i64 q.code, .int .i64 q.block.sM, .slice aq lq cq'] 86)))
   clear hqr hc hqb hyb hc7 cB lB HB5 HM5 HN5 HC5 HXG HX5 HY5 HRW5 HRB
   go_upto_region 12 with fail
   generalize w6.alloc (.cells #[.int .i64 q.code, .int .i64 q.block.sM, .slice aq lq cq'] 86) = w7 at HK7 HB7 HM7 HN7 HC7 HXG7 HYB7 HQB7 ⊢
   generalize w6.heap.size = k7 at HK7 ⊢
   obtain ⟨b, off, b2, off2, l2, c2, b3, off3, l3, c3, pb, lb, cb, fb, rfl, hg1, hc1, hd1, hc2, -, -, -, -, -⟩ := q6n HFL.out HXG7.out H123.out.1 H123.out.2.1 H123.out.2.2
   have cB := cellsOf HB7.out; have lB := ltOf HB7.out; have cM := cellsOf HM7.out; have lM := ltOf HM7.out; have cN := cellsOf HN7.out; have lN := ltOf HN7.out
   by_cases hw : (X.drive (tg : Int) (td : Int)).wiped = true
   ·have hrd := HRD.out
    rw [if_pos hw] at hrd
    rw [hrd] at HK7
    rw [hw] at hc2
    have cK := cellsOf HK7.out; have lK := ltOf HK7.out
    clear hrd hw HRD
    go_wp2_with fail
    go_ret
    exact ⟨rfl, HC7.out⟩
   ·have hrd := HRD.out
    rw [if_neg hw] at hrd
    subst hrd
    dsimp only at HK7 HQB7
    have hwb : (X.drive (tg : Int) (td : Int)).wiped = false := by simpa using hw
    rw [hwb] at hc2
    have cK := cellsOf HK7.out; have lK := ltOf HK7.out
    clear hw HRD hwb
    go_wp2_with fail
    refine (q8b aq ay lq ly cq' cyy y.bytes fqb fyb _ HQB7.out HYB7.out).mono ?_
    rintro e w8 ⟨rfl, hc⟩
    have HC8 := hid (HC7.out.trans0 hc)
    clear hc
    go_wp2_with fail
    go_ret
    exact ⟨by simp, HC8.out⟩
 ·go_upto_region 6 with fail
  obtain ⟨CC, HCI, HCO⟩ := q0l (fun w' => w'.heap[m]? = some (.cells #[.int .i64 X.sH.gS, .int .i64 X.sH.column, .int .i64 X.sH.data, .int .i64 X.sH.sR, .int .i64 X.sH.rows, .int .i64 X.sH.cap, .int .i64 X.sH.bT, .int .i64 X.sH.qU, .int .i64 X.sH.sG, .slice a10 l10 c10, .slice a11 l11 c11, .slice a12 l12 c12, .int .i64 X.wT, .int .i64 X.stop, .bool X.down] 34 (0, 0)) ∧ w'.heap[n]? = some (.cells #[.int .i64 y.sM, .slice ay ly cyy] 76 (0, 0)) ∧ Know p #[.int .i64 r.code, v1, v2, v3, v4, v5, v6, v7, v8, v9, v10, .slice vo vl vc, v12, v13, v14, v15] w')
  refine q1m [] CC (by kernel_rfl) (HCI.out _ ⟨(q0a HM5.out), (q0a HN5.out), (Know.of (q0a HB5.out))⟩) (fun hcl hS => ?_)
  refine ggL 0 hcl hS HCO ?_ (hy := fun w' hw => q4j _ 34 rfl rfl q0v Tryz.underlying34 hw.1 rfl); clear hcl hS; intro hcl hS
  refine ggT 1 hcl hS ?_; clear hcl hS; intro hcl hS
  refine ggT 2 hcl hS ?_; clear hcl hS; intro hcl hS
  refine ggT 3 hcl hS ?_; clear hcl hS; intro hcl hS
  refine ggL 4 hcl hS HCO ?_ (hy := fun w' hw => q4j _ 76 rfl rfl infoBk Tryz.underlying76 hw.2.1 rfl); clear hcl hS; intro hcl hS
  refine ggT 7 hcl hS ?_; clear hcl hS; intro hcl hS
  refine ggL 8 hcl hS HCO ?_; clear hcl hS; intro hcl hS
  refine ggC 5 hcl rfl (by kernel_rfl) (fun K hK => ?_)
  go_simp
  go_at_call 58
  refine (HSP.out _ (wldL.ext HX5.out ((Chg.refl [] w5).drew)) (blkL.ext HY5.out ((Chg.refl [] w5).drew))).mono ?_; rintro e w6 ⟨cr6, fr6, rfl, hr6, -, hc6⟩; obtain ⟨s1, s2, s3, s4, s5, s6, s7, s8, s9, s10, s12, s13, s14, s15, so, sl, sc, sf, rfl, -⟩ := q4f hr6; have HB6 := hid (hc6.keep0 (q0a HB5.out)); have HM6 := hid (hc6.keep0 (q0a HM5.out)); have HN6 := hid (hc6.keep0 (q0a HN5.out)); have HC6 := hid ((HC5.out.drew).trans0 hc6); clear hr6 hc6
  go_wp2_with fail
  refine hK.out _ _ (fun _ => HCI.out _ ⟨HM6.out, HN6.out, (Know.of HB6.out)⟩) ?_
  clear hK K hcl hS
  intro hcl hS
  try simp only [Act.put, pA, pB, pC]
  refine ggT 6 hcl hS ?_ (hy := by intro w'; go_simp) (v := .int .i64 r.code); clear hcl hS; intro hcl hS
  refine ggT 9 hcl hS ?_; clear hcl hS; intro hcl hS
  refine ggT 10 hcl hS ?_; clear hcl hS; intro hcl hS
  refine q3h (by kernel_rfl) ?_ _
  go_wp2_with fail
  go_ret
  exact ⟨by simp, HC6.out⟩
end Go.Proofs.YtphmpimgbmedbaaGreat
