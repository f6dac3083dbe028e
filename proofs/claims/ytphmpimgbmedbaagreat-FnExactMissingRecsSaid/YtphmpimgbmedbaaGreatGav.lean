/- Several texts in one. -/
import Derived.Test.YtphmpimgbmedbaaGreatGau
import Derived.Test.YtphmpimgbmedbaaGreatGao
import Derived.Test.YtphmpimgbmedbaaGreatGat
/- The counted records that a tape has not: the program. -/
namespace Go.Proofs.YtphmpimgbmedbaaGreat
open Go.RowKit
open Go.Lib (hid)
set_option maxRecDepth 100000 in
set_option maxHeartbeats 2000000 in
theorem mis1_any (x : Rec) (rs : List Rec) (B1 B2 m t b off : Nat) {u0 u1 u2 u3 u4 u5 u6 u7 u8 u9 u10 u12 u13 u14 : Value} {a1 a6 a7 a8 : Option Addr} {l12 c12 l1 c1 l6 c6 l7 c7 l8 c8 : Nat} (fr fx : List Nat) (w : World)
  (h1 : w.heap[B1]? = some (.cells #[.pointer (some ⟨m, 0, none⟩)] 97 (0, 0))) (h2 : w.heap[B2]? = some (.cells #[.int .i64 t] 2 (0, 0))) (hm : w.heap[m]? = some (.cells #[u0, u1, u2, u3, u4, u5, u6, u7, u8, u9, u10, .slice (some ⟨b, off, none⟩) l12 c12, u12, u13, u14] 34 (0, 0))) (ht : t < l12) (hbl : b < w.heap.size) (hc : w.cell? ⟨b, off + t * 2 + 1, none⟩ = some (.slice a1 l1 c1)) (hs : recL.sl w a1 l1 c1 rs fr)
  (hx : recL.rep w [.int .i64 x.kind, .int .i64 x.seq, .string x.name, .int .i64 x.length, .int .i64 x.group, .int .i64 x.row, .slice a6 l6 c6, .slice a7 l7 c7, .slice a8 l8 c8] x fx) :
  Calls Tryz.prog 177 #[.agg #[.int .i64 x.kind, .int .i64 x.seq, .string x.name, .int .i64 x.length, .int .i64 x.group, .int .i64 x.row, .slice a6 l6 c6, .slice a7 l7 c7, .slice a8 l8 c8], .pointer (some ⟨B1, 0, none⟩), .pointer (some ⟨B2, 0, none⟩)] w fun e w' => e = .returned (.bool (rs.any (fun y => sameV y x))) ∧ Chg [] w w' := by
 have g0 : Chg [] w (w.alloc (.cells #[.int .i64 x.kind, .int .i64 x.seq, .string x.name, .int .i64 x.length, .int .i64 x.group, .int .i64 x.row, .slice a6 l6 c6, .slice a7 l7 c7, .slice a8 l8 c8] 67)).drew := ((Chg.refl [] w).alloc _).drew
 have H1 := hid (g0.keep0 h1); have H2 := hid (g0.keep0 h2); have HM := hid (g0.keep0 hm)
 have HB := hid (keep_drew (new_alloc w (.cells #[.int .i64 x.kind, .int .i64 x.seq, .string x.name, .int .i64 x.length, .int .i64 x.group, .int .i64 x.row, .slice a6 l6 c6, .slice a7 l7 c7, .slice a8 l8 c8] 67)))
 have HL := hid (cellKeep g0 hc hbl); have HBL := hid (Nat.lt_of_lt_of_le hbl g0.size)
 have HH := hid (has_any a1 l1 c1 rs fr x #[.int .i64 x.kind, .int .i64 x.seq, .string x.name, .int .i64 x.length, .int .i64 x.group, .int .i64 x.row, .slice a6 l6 c6, .slice a7 l7 c7, .slice a8 l8 c8] fx _ (recL.sl_ext hs g0) (recL.ext hx g0))
 have G0 := hid g0
 clear g0 h1 h2 hm hc hs hx hbl
 go_enter Tryz.func177, Tryz.ntmps177
 go_wp2_with fail
 obtain ⟨SS1, HSI1, HSO1⟩ := rg_cond (fun w' => Know B1 #[.pointer (some ⟨m, 0, none⟩)] w' ∧ Know B2 #[.int .i64 t] w' ∧ Know m #[u0, u1, u2, u3, u4, u5, u6, u7, u8, u9, u10, .slice (some ⟨b, off, none⟩) l12 c12, u12, u13, u14] w' ∧ w'.cell? ⟨b, off + t * 2 + 1, none⟩ = some (.slice a1 l1 c1) ∧ Know w.heap.size #[.int .i64 x.kind, .int .i64 x.seq, .string x.name, .int .i64 x.length, .int .i64 x.group, .int .i64 x.row, .slice a6 l6 c6, .slice a7 l7 c7, .slice a8 l8 c8] w')
 have hS0 := HSI1.out _ ⟨(Know.of H1.out), (Know.of H2.out), (Know.of HM.out), HL.out, (Know.of HB.out)⟩
 refine rg_start SS1 (by kernel_rfl) hS0 ?_
 refine rgL 0 hS0 HSO1 ?_
 refine rgT 1 hS0 ?_
 refine rgT 2 hS0 ?_
 refine rgL 3 hS0 HSO1 ?_
 refine rgL 4 hS0 HSO1 ?_
 refine rgT 5 hS0 ?_
 refine rgT 6 hS0 ?_
 refine rgL 7 hS0 HSO1 ?_
 refine rgL 8 hS0 HSO1 ?_
 refine rg_call 9 rfl (by kernel_rfl) (fun K hK => ?_)
 go_simp
 go_at_call 168
 refine HH.out.mono ?_; rintro e w' ⟨rfl, hc2⟩; have HC2 := hid hc2; clear hc2
 go_wp2_with fail
 refine hK.out _ _ (HSI1.out _ ⟨(Know.of (HC2.out.keep0 H1.out)), (Know.of (HC2.out.keep0 H2.out)), (Know.of (HC2.out.keep0 HM.out)), (cellKeep HC2.out HL.out HBL.out), (Know.of (HC2.out.keep0 HB.out))⟩) (fun hS1 => ?_)
 clear hK K
 try simp only [Act.put, List.setIfInBounds_toArray, List.set_cons_zero, List.set_cons_succ]
 refine rgT 10 hS1 ?_
 refine wpAnyH_done (by kernel_rfl) ?_ _
 go_wp2_with fail
 go_ret
 exact ⟨rfl, G0.out.trans0 HC2.out⟩
theorem cf_mis1 : ∀ (args : Array Value) (w : World), (callFunc 177 args).run Tryz.prog w = .ok (.enter 177 args) w := fun _ _ => by go_simp
theorem tapR_at {ts : List Tap} {t : Nat} {X : Tap} (h : ts[t]? = some X) : tapR ts t = X.recs := by unfold tapR; rw [Int.toNat_natCast, h]; rfl
set_option maxRecDepth 100000 in
set_option maxHeartbeats 2000000 in
theorem missing_any (m : Nat) {u0 u1 u2 u3 u4 u5 u6 u7 u8 u9 u10 u12 u13 u14 : Value} (a12 : Option Addr) (l12 c12 : Nat) (f12 : List Nat) (ts : List Tap) (t : Nat) (w : World) (h : w.heap[m]? = some (.cells #[u0, u1, u2, u3, u4, u5, u6, u7, u8, u9, u10, .slice a12 l12 c12, u12, u13, u14] 34 (0, 0))) (h12 : tapL.sl w a12 l12 c12 ts f12) (hz : (ts.flatMap (·.recs)).length ≤ 1000000) (ht : t < l12) :
  Calls Tryz.prog 99 #[.pointer (some ⟨m, 0, none⟩), .int .i64 t] w (SlR (misL (cntL ts) (tapR ts t)) w) := by
 obtain ⟨X, b, off, a1, l1, c1, ft, HX, rfl, hc0w, hc1w, HXS⟩ := tape_at h12 ht
 have hbl := tapL.sl_lt h12 b HX.out.2.1
 obtain ⟨W, hW⟩ : ∃ W, W = (w.alloc (.cells #[.pointer (some ⟨m, 0, none⟩)] 97)).alloc (.cells #[.int .i64 t] 2) := ⟨_, rfl⟩
 have g0 : Chg [] w W := by rw [hW]; exact ((Chg.refl [] w).alloc _).alloc _
 have hb1 : W.heap[w.heap.size]? = some (.cells #[.pointer (some ⟨m, 0, none⟩)] 97 (0, 0)) := by rw [hW]; exact keep_alloc (new_alloc w _) _
 have hb2 : W.heap[w.heap.size + 1]? = some (.cells #[.int .i64 t] 2 (0, 0)) := by rw [hW]; exact new_at (by simp) _
 have HN := hid (counted_any m (some ⟨b, off, none⟩) l12 c12 f12 ts W (g0.keep0 h) (tapL.sl_ext h12 g0) hz)
 have HT := hid (tapR_at HX.out.1)
 have HK := hid (show ∀ w3, Chg [] W w3 → ∀ (x : Rec) (a6 : Option Addr) (l6 c6 : Nat) (a7 : Option Addr) (l7 c7 : Nat) (a8 : Option Addr) (l8 c8 : Nat) (fx : List Nat), recL.rep w3 [.int .i64 x.kind, .int .i64 x.seq, .string x.name, .int .i64 x.length, .int .i64 x.group, .int .i64 x.row, .slice a6 l6 c6, .slice a7 l7 c7, .slice a8 l8 c8] x fx → Calls Tryz.prog 177 #[.agg #[.int .i64 x.kind, .int .i64 x.seq, .string x.name, .int .i64 x.length, .int .i64 x.group, .int .i64 x.row, .slice a6 l6 c6, .slice a7 l7 c7, .slice a8 l8 c8], .pointer (some ⟨w.heap.size, 0, none⟩), .pointer (some ⟨w.heap.size + 1, 0, none⟩)] w3 fun e w' => e = .returned (.bool (X.recs.any (fun y => sameV y x))) ∧ Chg [] w3 w' from
  fun w3 hc x a6 l6 c6 a7 l7 c7 a8 l8 c8 fx hx => mis1_any x X.recs _ _ m t b off ft fx w3 (hc.keep0 hb1) (hc.keep0 hb2) (hc.keep0 (g0.keep0 h)) ht (Nat.lt_of_lt_of_le hbl (g0.trans0 hc).size) (cellKeep (g0.trans0 hc) hc1w hbl) (recL.sl_ext (rec_sl HXS.out) (g0.trans0 hc)) hx)
 have G0 := hid g0; have HW := hid hW
 have c1' := cellsOf hb1; have n1' := ltOf hb1
 have HB1 := hid hb1
 clear h h12 hz hb1 hb2 hc0w hc1w HXS g0 hbl
 rw [HT.out]
 go_enter Tryz.func99, Tryz.ntmps99
 go_wp2_with fail
 rw [← hW]
 clear hW
 go_wp2_with fail
 refine HN.out.mono ?_
 rintro e w1 ⟨g, n, cap, qs, rfl, hrow, hqm, hn, hg, hnc, hcm, hfp, hc⟩
 have HC1 := hid hc
 have HG := hid hg
 have HD := hid (delR_any 177 #[.pointer (some ⟨w.heap.size, 0, none⟩), .pointer (some ⟨w.heap.size + 1, 0, none⟩)] (fun r => X.recs.any (fun y => sameV y r)) g 0 n cap qs w1 hrow hn hnc hcm cf_mis1 (fun w2 hc2 x a6 l6 c6 a7 l7 c7 a8 l8 c8 fx w3 _ hc3 hx => HK.out w3 ((hc.trans hc2 (fun y hy => .inr (by rw [List.mem_singleton] at hy; omega))).trans0 hc3) x a6 l6 c6 a7 l7 c7 a8 l8 c8 fx hx))
 have HF := hid (And.intro hqm (And.intro (by rw [← hn]; exact hnc : qs.length ≤ cap) (And.intro hcm hfp)))
 clear hrow hqm hn hnc hcm hfp hc HK HN hg
 go_wp2_with fail
 refine HD.out.mono ?_
 rintro e w4 hD
 obtain ⟨v, rfl, hr, hc⟩ := del_rwd (q := fun r => X.recs.any (fun y => sameV y r)) hD HF.out.1 (n0 := W.heap.size) HG.out HF.out.2.1 HF.out.2.2.1 HF.out.2.2.2
 have HR := hid (And.intro hr (G0.out.trans (HC1.out.trans hc (fun y hy => .inr (by have := HG.out; rw [List.mem_singleton] at hy; omega))) (by simp)))
 clear hD hr hc
 go_wp2_with fail
 go_ret
 exact SlR.of rfl HR.out.1 HR.out.2
end Go.Proofs.YtphmpimgbmedbaaGreat
/- The counted records that a tape has not: the specification. -/
namespace Go.Proofs.YtphmpimgbmedbaaGreat
open Go.RowKit
open Go.Lib (hid)
set_option maxRecDepth 100000 in
set_option maxHeartbeats 4000000 in
theorem l6Missing_any (m : Nat) {z0 z1 z2 z3 z4 z5 z6 z7 z8 z9 z10 z12 z13 z14 : Value} (a12 : Option Addr) (c12 : Nat) (f12 : List Nat) (ts : List Tap) (t : Nat) (w : World) (h : w.heap[m]? = some (.cells #[z0, z1, z2, z3, z4, z5, z6, z7, z8, z9, z10, .slice a12 2 c12, z12, z13, z14] 34 (0, 0))) (h12 : tapL.sl w a12 2 c12 ts f12) (hz : (ts.flatMap (·.recs)).length ≤ 1000000) (ht : t < 2) :
  Calls Tryz.prog 98 #[.pointer (some ⟨m, 0, none⟩), .int .i64 t] w (SlR (misL (cntL ts) (tapR ts t)) w) := by
 obtain ⟨KR, _⟩ := kindRec
 obtain ⟨X, b, off, a1, l1, c1, ft, HX, rfl, hc0w, hc1w, HXT⟩ := tape_at h12 ht
 have HBW := hid (tapL.sl_lt h12 b HX.out.2.1)
 have HRS := hid (rec_slS HXT.out); have HT := hid (tapR_at HX.out.1)
 have HM := hid h; have H1W := hid hc1w
 have HN := hid (l6Counted_at w.heap.size m (some ⟨b, off, none⟩) c12 f12 ts (w.alloc (.cells #[] 67)) (keep_alloc h _) (tapL.sl_ext h12 ((Chg.refl [] w).alloc _)) hz (by simp) (fun y hy => tapL.sl_lt h12 y hy))
 have HLN := hid (Nat.le_trans (cntL_len ts) hz); have hti : (t : Int) < 2 := by omega
 clear h h12 hz hc0w hc1w HXT
 rw [HT.out]
 go_enter Tryz.func98, Tryz.ntmps98
 go_wp2_with fail
 refine HN.out.mono ?_
 rintro e w2 ⟨v, rfl, ⟨g0, cap0, ps0, rfl, hrow0, hpm0, hg0, hcap0, hcm0, hfp0⟩, hc⟩
 have hpl0 : (cntL ts).length = ps0.length := by rw [← hpm0, List.length_map]
 have hsl := hrow0.sl hpl0 hcap0 hcm0
 rw [hpm0] at hsl
 obtain ⟨xs, hxs⟩ : ∃ xs, xs = cntL ts := ⟨_, rfl⟩
 have HX9 := hid hxs
 obtain ⟨f, hf⟩ : ∃ f, f = g0 :: ps0.flatMap (·.2) := ⟨_, rfl⟩
 have HF1 := hid (show 0 < xs.length → w.heap.size ∉ f from fun hp hm => by
  rw [hf] at hm
  rcases List.mem_cons.1 hm with e | hm
  ·obtain ⟨cur, E, k1, k2, -⟩ := hrow0
   have k3 := hc.keep0 (new_alloc w (.cells #[] 67))
   rw [← e] at k1
   rw [k3] at k1
   cases k1
   have := k2 (by rw [← hpl0, ← hxs]; exact hp)
   have h9 : (#[] : Array Value).size = 0 := rfl
   rw [h9] at this
   have h8 : recL.n = 9 := rfl
   rw [h8, ← hpl0, ← hxs] at this
   omega
  ·obtain ⟨p, hp1, hp2⟩ := List.mem_flatMap.1 hm
   have := hfp0 p hp1 _ hp2
   omega)
 have HC2 := hid (((Chg.refl [] w).alloc (.cells #[] 67)).trans0 hc)
 have HOM := hid (recL.os_ext (recL.os_made 67 w #[] 0 (by simp [maxLen]) (by simp)) hc)
 rw [← hxs, ← hf] at hsl
 obtain ⟨aa, haa⟩ : ∃ aa, aa = (some ⟨g0, 0, none⟩ : Option Addr) := ⟨_, rfl⟩
 rw [← haa] at hsl ⊢
 rw [← hxs] at HLN hcap0 ⊢
 obtain ⟨l, hl⟩ : ∃ l, l = xs.length := ⟨_, rfl⟩
 rw [← hl] at hsl HLN HF1 hcap0 ⊢
 have HL := hid hl; have HSL := hid hsl
 have hlm := HLN.out
 clear hrow0 hpm0 hg0 hfp0 hc hpl0 hsl hxs hf hl HN hcap0 hcm0 haa
 go_wp2_with fail
 go_loopw [5, 7] (fun vo vi wr => ∃ (k : Nat) (Wr : World), Wr = wr ∧ k ≤ l ∧ vi = .int .i64 k ∧ (k < l → ShF w.heap.size f wr vo ((xs.take k).filter (misP X.recs)) ∧ recL.sl wr aa l cap0 xs f) ∧ (k = l → SlR (xs.filter (misP X.recs)) w (.returned vo) wr) ∧ Chg [] w wr) (fun _ vi _ => l - (intOf vi).toNat)
 case atStart =>
  refine ⟨0, _, rfl, by omega, rfl, fun h0 => ⟨⟨_, _, HOM.out, Nat.le_refl _, HF1.out h0, by simp⟩, HSL.out⟩, fun h0 => ?_, HC2.out⟩
  have : xs = [] := List.eq_nil_of_length_eq_zero (by rw [← HL.out]; exact h0.symm)
  rw [this]
  obtain ⟨a, cap, e, hs⟩ := recL.os_sl HOM.out
  cases e
  exact ⟨_, _, _, _, rfl, hs, HC2.out⟩
 case round =>
  obtain ⟨k, wr, rfl, hk, rfl, hS, hE, hc⟩ := hrel
  have HC := hid hc
  by_cases hlt : k < l
  ·obtain ⟨hsh, hs⟩ := hS hlt
   have HSR := hid hs
   obtain ⟨r, b2, off2, cy, fq, HR, rfl, HCE, HXS⟩ := rec_at2 hs hlt
   obtain ⟨a6, l6, c6, f6, a7, l7, c7, f7, a8, l8, c8, f8, hcy, -⟩ := recL_iff.1 HXS.out
   subst hcy
   obtain ⟨g, fps, ho, hg, hgf, hfp⟩ := hsh
   obtain ⟨a9, c9, rfl⟩ := recL.os_len ho
   have HXL := hid (show xs[k]? = some r from HR.out.1)
   have HG := hid hg; have HGF := hid hgf; have HFP := hid hfp
   have HFQ := hid (fun y (hy : y ∈ fq) => HR.out.2.2 y hy)
   have HGQ := hid (show ∀ g', some g = some g' → g' ∉ fq from fun g' e hm => by cases e; exact hgf (HR.out.2.2 g hm))
   have hb2 := recL.sl_lt hs _ HR.out.2.1
   have hlen : ((xs.take k).filter (misP X.recs)).length ≤ 1000000 := by
    have h1 := List.length_filter_le (misP X.recs) (xs.take k)
    rw [List.length_take] at h1; omega
   obtain ⟨ys, hys⟩ : ∃ ys, ys = (xs.take k).filter (misP X.recs) := ⟨_, rfl⟩
   rw [← hys] at ho hlen ⊢
   have HYS := hid hys
   obtain ⟨lx, hlx⟩ : ∃ lx, lx = ys.length := ⟨_, rfl⟩
   have HLL := hid (show ys.length + [r].length ≤ maxLen ∧ (ys.length + [r].length) * 128 ≤ 140737488355328 by simp only [List.length_singleton, maxLen]; omega)
   rw [← hlx] at ho ⊢
   have g1 : Chg [] wr wr.drew := (Chg.refl [] wr).drew
   have HHS := hid (holds_any a1 l1 c1 X.recs ft r #[.int .i64 r.kind, .int .i64 r.seq, .string r.name, .int .i64 r.length, .int .i64 r.group, .int .i64 r.row, .slice a6 l6 c6, .slice a7 l7 c7, .slice a8 l8 c8] fq wr.drew (recL.sl_ext HRS.out (hc.trans0 g1)) (recL.ext HXS.out g1))
   have HMR := hid ((hc.trans0 g1).keep0 HM.out); have H1R := hid (cellKeep (hc.trans0 g1) H1W.out HBW.out)
   have HBR := hid (Nat.lt_of_lt_of_le HBW.out (hc.trans0 g1).size)
   have HCD := hid (show Celled wr.drew b2 (off2 + k * 9) 9 [.int .i64 r.kind, .int .i64 r.seq, .string r.name, .int .i64 r.length, .int .i64 r.group, .int .i64 r.row, .slice a6 l6 c6, .slice a7 l7 c7, .slice a8 l8 c8] from HCE.out)
   have HOSR := hid ho; have HB2 := hid (show b2 < wr.drew.heap.size from hb2)
   have HG1 := hid g1
   obtain ⟨v, hv⟩ : ∃ v, v = X.recs.any (fun y => sameV y r) := ⟨_, rfl⟩
   have HV := hid (show misP X.recs r = !v by rw [hv]; rfl)
   rw [← hv] at HHS
   clear hS hE hs hc ho hg hgf hfp HR hlen hys hlx hv g1 hb2 HCE
   go_wp2_with fail
   obtain ⟨SS, HSI, HSO⟩ := rg_cond (fun w' => Know m #[z0, z1, z2, z3, z4, z5, z6, z7, z8, z9, z10, .slice (some ⟨b, off, none⟩) 2 c12, z12, z13, z14] w' ∧ w'.cell? ⟨b, off + t * 2 + 1, none⟩ = some (.slice a1 l1 c1) ∧ Celled w' b2 (off2 + k * 9) 9 [.int .i64 r.kind, .int .i64 r.seq, .string r.name, .int .i64 r.length, .int .i64 r.group, .int .i64 r.row, .slice a6 l6 c6, .slice a7 l7 c7, .slice a8 l8 c8])
   have hS0 := HSI.out _ ⟨Know.of HMR.out, H1R.out, HCD.out⟩
   refine rg_start SS (by kernel_rfl) hS0 ?_
   refine rgT 0 hS0 ?_
   refine rgT 1 hS0 ?_
   refine rgT 2 hS0 ?_
   refine rgL 3 hS0 HSO ?_
   refine rgT 4 hS0 ?_
   refine rgT 5 hS0 ?_
   refine rgT 6 hS0 ?_
   refine rgL 7 hS0 HSO ?_
   refine rgT 8 hS0 ?_
   refine rgT 9 hS0 ?_
   refine rgT 10 hS0 ?_
   refine rgL 11 hS0 HSO ?_ (hy := fun w' hw => exec_row _ 67 rfl rfl infoRc Tryz.underlying67 hw.2.2)
   refine rg_call 12 rfl (by kernel_rfl) (fun K hK => ?_)
   go_simp
   go_at_call 166
   refine HHS.out.mono ?_
   rintro e w3 ⟨rfl, hc2⟩
   have HC2' := hid hc2; have HCE2 := hid (HCD.out.ext hc2 HB2.out)
   clear hc2
   go_wp2_with fail
   refine hK.out _ _ (HSI.out _ ⟨Know.of (HC2'.out.keep0 HMR.out), cellKeep HC2'.out H1R.out HBR.out, HCE2.out⟩) (fun hS1 => ?_)
   clear hK K
   try simp only [Act.put, List.setIfInBounds_toArray, List.set_cons_zero, List.set_cons_succ]
   refine rgT 13 hS1 ?_
   refine wpAnyH_done (by kernel_rfl) ?_ _
   skip
   have HCW := hid (HG1.out.trans0 HC2'.out)
   have HOS := hid (recL.os_ext HOSR.out HCW.out); have HS2 := hid (recL.sl_ext HSR.out HCW.out); have HXS2 := hid (recL.ext HXS.out HCW.out); have HC3 := hid (HC.out.trans0 HCW.out); have HCE3 := HCE2
   clear HXS
   have HXS := HXS2
   cases v
   ·have HNX := hid (show (xs.take (k + 1)).filter (misP X.recs) = ys ++ [r] by rw [filt_yes HXL.out (by rw [HV.out]; rfl), HYS.out])
    go_wp2_with (first | (refine load_rowL rfl _ 67 rfl rfl infoRc Tryz.underlying67 HCE3.out.2.1 HCE3.out.1 ?_) | (at_builtin; refine recL.wpList_append rfl _ _ 44 rfl Tryz.underlying44 KR rfl (recL.os_ext HOS.out ((Chg.refl [] w3).alloc (.cells #[.int .i64 r.kind, .int .i64 r.seq, .string r.name, .int .i64 r.length, .int .i64 r.group, .int .i64 r.row, .slice a6 l6 c6, .slice a7 l7 c7, .slice a8 l8 c8] 67))) ⟨w3.heap.size, 0, none⟩ 1 1 [.int .i64 r.kind, .int .i64 r.seq, .string r.name, .int .i64 r.length, .int .i64 r.group, .int .i64 r.row, .slice a6 l6 c6, .slice a7 l7 c7, .slice a8 l8 c8] (ys := [r]) (f := fq) rfl rfl (new_cells w3 #[.int .i64 r.kind, .int .i64 r.seq, .string r.name, .int .i64 r.length, .int .i64 r.group, .int .i64 r.row, .slice a6 l6 c6, .slice a7 l7 c7, .slice a8 l8 c8] 67) (recL.all_single (recL.ext HXS.out ((Chg.refl [] w3).alloc _))) HGQ.out HLL.out.1 HLL.out.2 ?_; intro v' w4 h' ho' hh' hc'; have HSH4 := hid (ShF.step HG.out HGF.out HFP.out HFQ.out (recL.sl_ext HS2.out ((Chg.refl [] w3).alloc (.cells #[.int .i64 r.kind, .int .i64 r.seq, .string r.name, .int .i64 r.length, .int .i64 r.group, .int .i64 r.row, .slice a6 l6 c6, .slice a7 l7 c7, .slice a8 l8 c8] 67))) (HC3.out.alloc (.cells #[.int .i64 r.kind, .int .i64 r.seq, .string r.name, .int .i64 r.length, .int .i64 r.group, .int .i64 r.row, .slice a6 l6 c6, .slice a7 l7 c7, .slice a8 l8 c8] 67)) ho' hh' hc'); clear ho' hh' hc'))
    rw [← HNX.out] at HSH4
    go_roundw
    case rel => exact ⟨k + 1, _, rfl, by omega, by go_num, fun _ => ⟨HSH4.out.1, HSH4.out.2.1⟩, fun e => by have h5 := HSH4.out.1.slr HSH4.out.2.2; rwa [List.take_of_length_le (by have := HL.out; omega)] at h5, HSH4.out.2.2⟩
    case measure => simp [intOf]; omega
   ·have HNX := hid (show (xs.take (k + 1)).filter (misP X.recs) = ys by rw [filt_no HXL.out (by rw [HV.out]; rfl), HYS.out])
    have HSH4 := hid (show ShF w.heap.size f w3 (.slice a9 lx c9) ((xs.take (k + 1)).filter (misP X.recs)) by rw [HNX.out]; exact ⟨g, fps, HOS.out, HG.out, HGF.out, HFP.out⟩)
    go_wp2_with fail
    go_roundw
    case rel => exact ⟨k + 1, _, rfl, by omega, by go_num, fun _ => ⟨HSH4.out, HS2.out⟩, fun e => by have h5 := HSH4.out.slr HC3.out; rwa [List.take_of_length_le (by have := HL.out; omega)] at h5, HC3.out⟩
    case measure => simp [intOf]; omega
  ·obtain rfl : k = l := by omega
   have HE := hid (hE rfl)
   clear hS hE hc
   go_wp2_with fail
   go_ret
   have h9 := HE.out
   rw [HX9.out] at h9
   exact h9
end Go.Proofs.YtphmpimgbmedbaaGreat
/- MissingRecs: both sides. -/
namespace Go.Proofs.YtphmpimgbmedbaaGreat
open Go.RowKit
open Go.Lib (hid)
theorem isTapeM_any (s : Int) (w : World) : Calls Tryz.prog 79 #[.int .i64 s] w fun e w' => e = .returned (.bool (inB s 0 1)) ∧ w = w' := by
 go_enter Tryz.func79, Tryz.ntmps79
 go_wp2_with fail
 refine (inside_any s 0 1 _).mono ?_
 rintro e w' ⟨rfl, rfl⟩
 go_wp2_with fail
 go_ret
 exact ⟨rfl, rfl⟩
set_option maxRecDepth 100000 in
set_option maxHeartbeats 8000000 in
theorem impl_MissingRecs (x : Wld) (cx : Array Value) (fx : List Nat) (t : Int) (w : World) (hx : wldL.rep w cx.toList x fx) (hz : totWld x ≤ 1048576) (_ot : i64ok t) :
  Calls Tryz.prog 30 #[.agg cx, .int .i64 t] w (NewAgg rrsL (misR x t) w) := by
 obtain ⟨a10, l10, c10, _, a11, l11, c11, f11, a12, l12, c12, _, ex, -, -, -, -, -, -, -, -, -, h10, h11, h12, oo13, oo14, -⟩ := wldL_iff.1 hx
 obtain rfl := Array.toList_inj.1 (ex.trans (List.toList_toArray).symm)
 have HW := hid hx; have HZ := hid hz; have H10 := hid h10; have H11 := hid h11; have H12 := hid h12; have HOO := hid (And.intro oo13 oo14)
 have hl11 : l11 ≤ 1048576 := by have h := h11.1; have q10 := totL_nonneg (totL_nonneg totDrv_nonneg) x.groups; have q12 := totL_nonneg totTap_nonneg x.tapes; unfold totWld totIs at hz; omega
 clear hx ex hz h10 h11 h12 oo13 oo14
 have G0 := hid (show Chg [] w ((w.alloc (.cells #[.int .i64 x.shape.groups, .int .i64 x.shape.column, .int .i64 x.shape.data, .int .i64 x.shape.spare, .int .i64 x.shape.rows, .int .i64 x.shape.cap, .int .i64 x.shape.batch, .int .i64 x.shape.queue, .int .i64 x.shape.stage, .slice a10 l10 c10, .slice a11 l11 c11, .slice a12 l12 c12, .int .i64 x.writes, .int .i64 x.stop, .bool x.down] 34)).alloc (.cells #[.int .i64 0, .slice none 0 0] 46)) from (Chg.alloc (Chg.alloc (Chg.refl [] w) _) _))
 have B0 := hid (show ((w.alloc (.cells #[.int .i64 x.shape.groups, .int .i64 x.shape.column, .int .i64 x.shape.data, .int .i64 x.shape.spare, .int .i64 x.shape.rows, .int .i64 x.shape.cap, .int .i64 x.shape.batch, .int .i64 x.shape.queue, .int .i64 x.shape.stage, .slice a10 l10 c10, .slice a11 l11 c11, .slice a12 l12 c12, .int .i64 x.writes, .int .i64 x.stop, .bool x.down] 34)).alloc (.cells #[.int .i64 0, .slice none 0 0] 46)).heap[w.heap.size]? = some (.cells #[.int .i64 x.shape.groups, .int .i64 x.shape.column, .int .i64 x.shape.data, .int .i64 x.shape.spare, .int .i64 x.shape.rows, .int .i64 x.shape.cap, .int .i64 x.shape.batch, .int .i64 x.shape.queue, .int .i64 x.shape.stage, .slice a10 l10 c10, .slice a11 l11 c11, .slice a12 l12 c12, .int .i64 x.writes, .int .i64 x.stop, .bool x.down] 34 (0, 0)) from keep_alloc (new_alloc w _) _)
 have B1 := hid (show ((w.alloc (.cells #[.int .i64 x.shape.groups, .int .i64 x.shape.column, .int .i64 x.shape.data, .int .i64 x.shape.spare, .int .i64 x.shape.rows, .int .i64 x.shape.cap, .int .i64 x.shape.batch, .int .i64 x.shape.queue, .int .i64 x.shape.stage, .slice a10 l10 c10, .slice a11 l11 c11, .slice a12 l12 c12, .int .i64 x.writes, .int .i64 x.stop, .bool x.down] 34)).alloc (.cells #[.int .i64 0, .slice none 0 0] 46)).heap[w.heap.size + 1]? = some (.cells #[.int .i64 0, .slice none 0 0] 46 (0, 0)) from new_at (by simp) _)
 go_enter Tryz.func30, Tryz.ntmps30
 obtain ⟨q, hq⟩ : ∃ q, q = x.fault := ⟨_, rfl⟩
 have HQ := hid hq; clear hq
 go_wp2_with (first | (refine load_wide rfl _ 34 rfl rfl infoWd Tryz.underlying34 B0.out rfl ?_))
 refine (impl_WorldFault x #[.int .i64 x.shape.groups, .int .i64 x.shape.column, .int .i64 x.shape.data, .int .i64 x.shape.spare, .int .i64 x.shape.rows, .int .i64 x.shape.cap, .int .i64 x.shape.batch, .int .i64 x.shape.queue, .int .i64 x.shape.stage, .slice a10 l10 c10, .slice a11 l11 c11, .slice a12 l12 c12, .int .i64 x.writes, .int .i64 x.stop, .bool x.down] fx _ (wldL.ext HW.out G0.out)).mono ?_
 rintro e w1 ⟨rfl, hc⟩
 rw [← HQ.out]
 obtain ⟨c0, n0, A0_1⟩ := bk hc B0.out (by simp)
 obtain ⟨c1, n1, A1_1⟩ := bk hc B1.out (by simp)
 have G1 := hid (G0.out.trans0 hc)
 have fz := freeOf A1_1.out
 clear hc
 have hqk : i64ok q := by rw [HQ.out]; exact fault_i64 x
 by_cases hq0 : q = 0
 ·subst hq0
  have hf0 : x.fault = 0 := HQ.out.symm
  by_cases hin : 0 ≤ t ∧ t ≤ 1
  ·have HI := hid (show inB t 0 1 = true by simp [inB, hin.1, hin.2])
   go_wp2_with (first | (refine load_wide rfl _ 34 rfl rfl infoWd Tryz.underlying34 A0_1.out rfl ?_))
   refine (isTapeM_any t _).mono ?_
   rintro e w' ⟨rfl, rfl⟩
   rw [HI.out]
   obtain ⟨t, rfl⟩ : ∃ k : Nat, t = k := ⟨t.toNat, by omega⟩
   have HR := hid (misR_ok hf0 hin)
   have HN := hid (missing_any w.heap.size a12 l12 c12 _ x.tapes t w1 A0_1.out (tapL.sl_ext H12.out G1.out) (by have := fault_flat hf0; omega) (by have h1 := H12.out.1; have h2 := (fault_recs hf0).1; omega))
   go_wp2_with (first | (refine load_wide rfl _ 34 rfl rfl infoWd Tryz.underlying34 A0_1.out rfl ?_))
   refine (HN.out).mono ?_
   rintro e w2 ⟨a, l, c, f, rfl, hs, hc⟩
   have HS0 := hid hs; clear hs
   clear c0 n0
   obtain ⟨c0, n0, A0_2⟩ := bk hc A0_1.out (by simp)
   clear c1 n1
   obtain ⟨c1, n1, A1_2⟩ := bk hc A1_1.out (by simp)
   have G2 := hid (G1.out.trans0 hc)
   clear fz; have fz := freeOf A1_2.out
   clear hc
   have nR0 := n1
   go_wp2_with (first | (refine load_wide rfl _ 34 rfl rfl infoWd Tryz.underlying34 A0_2.out rfl ?_))
   refine (cloneRecs_any a l c _ f w2 HS0.out (totF _ x HZ.out)).mono ?_
   rintro e w3 ⟨pa, pc, pf, rfl, hs, hf, hc⟩
   have HS := hid hs; have HFR := hid (hf.mono (C := w.heap.size) G2.out.size)
   have HLO := hid (fun y hy => (hf.2 y hy).1)
   clear hs hf
   clear c0 n0
   obtain ⟨c0, n0, A0_3⟩ := bk hc A0_2.out (by simp)
   clear c1 n1
   obtain ⟨c1, n1, A1_3⟩ := bk hc A1_2.out (by simp)
   have G3 := hid (G2.out.trans0 hc)
   clear fz; have fz := freeOf A1_3.out
   clear hc
   have HNF := hid (fun hy => absurd (HLO.out _ hy) (by omega) : w.heap.size + 1 ∉ pf)
   go_wp2_with (first | (refine store_wide rfl _ _ 46 rfl rfl rfl infoRR A1_3.out rfl rfl rfl ?_; intro w9 hb9 hc9; have HB9 := hid hb9; have HC9 := hid hc9; clear hb9 hc9))
   refine bodyPost_ret (v := .agg #[.int .i64 0, .slice pa (misL (cntL x.tapes) (tapR x.tapes t)).length pc]) (results_wide _ _ Tryz.results30 rfl infoRR Tryz.underlying46 HB9.out rfl) rfl (finR9 (misR x t) (HR.out) HS.out HFR.out G3.out HC9.out HNF.out (by omega))
  ·have HI := hid (show inB t 0 1 = false by unfold inB; simp; omega)
   go_wp2_with (first | (refine load_wide rfl _ 34 rfl rfl infoWd Tryz.underlying34 A0_1.out rfl ?_))
   refine (isTapeM_any t _).mono ?_
   rintro e w' ⟨rfl, rfl⟩
   rw [HI.out]
   go_wp2_with (first | (refine store_wide rfl _ _ 46 rfl rfl rfl infoRR A1_1.out rfl rfl rfl ?_; intro w9 hb9 hc9; have HB9 := hid hb9; have HC9 := hid hc9; clear hb9 hc9))
   refine bodyPost_ret (v := .agg #[.int .i64 (3), .slice none 0 0]) (results_wide _ _ Tryz.results30 rfl infoRR Tryz.underlying46 HB9.out rfl) rfl (badR9 (3) (⟨by omega, by omega⟩) (misR x t) (misR_rng hf0 hin) G1.out HC9.out (by omega))
 ·have hb : ((q : Int) != 0) = true := by simpa using hq0
  go_wp2_with (first | (refine store_wide rfl _ _ 46 rfl rfl rfl infoRR A1_1.out rfl rfl rfl ?_; intro w9 hb9 hc9; have HB9 := hid hb9; have HC9 := hid hc9; clear hb9 hc9))
  refine bodyPost_ret (v := .agg #[.int .i64 (q), .slice none 0 0]) (results_wide _ _ Tryz.results30 rfl infoRR Tryz.underlying46 HB9.out rfl) rfl (badR9 (q) (hqk) (misR x t) (by rw [misR_bad (by rw [← HQ.out]; exact hq0), ← HQ.out]) G1.out HC9.out (by omega))
set_option maxRecDepth 100000 in
set_option maxHeartbeats 8000000 in
theorem spec_MissingRecs (x : Wld) (cx : Array Value) (fx : List Nat) (t : Int) (w : World) (hx : wldL.rep w cx.toList x fx) (hz : totWld x ≤ 1048576) (_ot : i64ok t) :
  Calls Tryz.prog 29 #[.agg cx, .int .i64 t] w (NewAgg rrsL (misR x t) w) := by
 obtain ⟨a10, l10, c10, _, a11, l11, c11, f11, a12, l12, c12, _, ex, -, -, -, -, -, -, -, -, -, h10, h11, h12, oo13, oo14, -⟩ := wldL_iff.1 hx
 obtain rfl := Array.toList_inj.1 (ex.trans (List.toList_toArray).symm)
 have HW := hid hx; have HZ := hid hz; have H10 := hid h10; have H11 := hid h11; have H12 := hid h12; have HOO := hid (And.intro oo13 oo14)
 have hl11 : l11 ≤ 1048576 := by have h := h11.1; have q10 := totL_nonneg (totL_nonneg totDrv_nonneg) x.groups; have q12 := totL_nonneg totTap_nonneg x.tapes; unfold totWld totIs at hz; omega
 clear hx ex hz h10 h11 h12 oo13 oo14
 have G0 := hid (show Chg [] w ((w.alloc (.cells #[.int .i64 x.shape.groups, .int .i64 x.shape.column, .int .i64 x.shape.data, .int .i64 x.shape.spare, .int .i64 x.shape.rows, .int .i64 x.shape.cap, .int .i64 x.shape.batch, .int .i64 x.shape.queue, .int .i64 x.shape.stage, .slice a10 l10 c10, .slice a11 l11 c11, .slice a12 l12 c12, .int .i64 x.writes, .int .i64 x.stop, .bool x.down] 34)).alloc (.cells #[.int .i64 0, .slice none 0 0] 46)) from (Chg.alloc (Chg.alloc (Chg.refl [] w) _) _))
 have B0 := hid (show ((w.alloc (.cells #[.int .i64 x.shape.groups, .int .i64 x.shape.column, .int .i64 x.shape.data, .int .i64 x.shape.spare, .int .i64 x.shape.rows, .int .i64 x.shape.cap, .int .i64 x.shape.batch, .int .i64 x.shape.queue, .int .i64 x.shape.stage, .slice a10 l10 c10, .slice a11 l11 c11, .slice a12 l12 c12, .int .i64 x.writes, .int .i64 x.stop, .bool x.down] 34)).alloc (.cells #[.int .i64 0, .slice none 0 0] 46)).heap[w.heap.size]? = some (.cells #[.int .i64 x.shape.groups, .int .i64 x.shape.column, .int .i64 x.shape.data, .int .i64 x.shape.spare, .int .i64 x.shape.rows, .int .i64 x.shape.cap, .int .i64 x.shape.batch, .int .i64 x.shape.queue, .int .i64 x.shape.stage, .slice a10 l10 c10, .slice a11 l11 c11, .slice a12 l12 c12, .int .i64 x.writes, .int .i64 x.stop, .bool x.down] 34 (0, 0)) from keep_alloc (new_alloc w _) _)
 have B1 := hid (show ((w.alloc (.cells #[.int .i64 x.shape.groups, .int .i64 x.shape.column, .int .i64 x.shape.data, .int .i64 x.shape.spare, .int .i64 x.shape.rows, .int .i64 x.shape.cap, .int .i64 x.shape.batch, .int .i64 x.shape.queue, .int .i64 x.shape.stage, .slice a10 l10 c10, .slice a11 l11 c11, .slice a12 l12 c12, .int .i64 x.writes, .int .i64 x.stop, .bool x.down] 34)).alloc (.cells #[.int .i64 0, .slice none 0 0] 46)).heap[w.heap.size + 1]? = some (.cells #[.int .i64 0, .slice none 0 0] 46 (0, 0)) from new_at (by simp) _)
 go_enter Tryz.func29, Tryz.ntmps29
 obtain ⟨q, hq⟩ : ∃ q, q = x.fault := ⟨_, rfl⟩
 have HQ := hid hq; clear hq
 go_wp2_with (first | (refine load_wide rfl _ 34 rfl rfl infoWd Tryz.underlying34 B0.out rfl ?_))
 refine (spec_WorldFault x #[.int .i64 x.shape.groups, .int .i64 x.shape.column, .int .i64 x.shape.data, .int .i64 x.shape.spare, .int .i64 x.shape.rows, .int .i64 x.shape.cap, .int .i64 x.shape.batch, .int .i64 x.shape.queue, .int .i64 x.shape.stage, .slice a10 l10 c10, .slice a11 l11 c11, .slice a12 l12 c12, .int .i64 x.writes, .int .i64 x.stop, .bool x.down] fx _ (wldL.ext HW.out G0.out)).mono ?_
 rintro e w1 ⟨rfl, hc⟩
 rw [← HQ.out]
 obtain ⟨c0, n0, A0_1⟩ := bk hc B0.out (by simp)
 obtain ⟨c1, n1, A1_1⟩ := bk hc B1.out (by simp)
 have G1 := hid (G0.out.trans0 hc)
 have fz := freeOf A1_1.out
 clear hc
 have hqk : i64ok q := by rw [HQ.out]; exact fault_i64 x
 by_cases hq0 : q = 0
 ·subst hq0
  have hf0 : x.fault = 0 := HQ.out.symm
  by_cases hin : 0 ≤ t ∧ t ≤ 1
  ·have HI := hid (show inB t 0 1 = true by simp [inB, hin.1, hin.2])
   go_wp2_with (first | (refine load_wide rfl _ 34 rfl rfl infoWd Tryz.underlying34 A0_1.out rfl ?_))
   refine (l1In_any t 0 1 _).mono ?_
   rintro e w' ⟨rfl, rfl⟩
   rw [HI.out]
   obtain ⟨t, rfl⟩ : ∃ k : Nat, t = k := ⟨t.toNat, by omega⟩
   have HR := hid (misR_ok hf0 hin)
   obtain rfl : l12 = 2 := by have h1 := H12.out.1; have h2 := (fault_recs hf0).1; omega
   have HN := hid (l6Missing_any w.heap.size a12 c12 _ x.tapes t w1 A0_1.out (tapL.sl_ext H12.out G1.out) (by have := fault_flat hf0; omega) (by omega))
   go_wp2_with (first | (refine load_wide rfl _ 34 rfl rfl infoWd Tryz.underlying34 A0_1.out rfl ?_))
   refine (HN.out).mono ?_
   rintro e w2 ⟨a, l, c, f, rfl, hs, hc⟩
   have HS0 := hid hs; clear hs
   clear c0 n0
   obtain ⟨c0, n0, A0_2⟩ := bk hc A0_1.out (by simp)
   clear c1 n1
   obtain ⟨c1, n1, A1_2⟩ := bk hc A1_1.out (by simp)
   have G2 := hid (G1.out.trans0 hc)
   clear fz; have fz := freeOf A1_2.out
   clear hc
   have nR0 := n1
   go_wp2_with (first | (refine load_wide rfl _ 34 rfl rfl infoWd Tryz.underlying34 A0_2.out rfl ?_))
   refine (l5CopyRecs_any a l c _ f w2 HS0.out (totF _ x HZ.out)).mono ?_
   rintro e w3 ⟨pa, pc, pf, rfl, hs, hf, hc⟩
   have HS := hid hs; have HFR := hid (hf.mono (C := w.heap.size) G2.out.size)
   have HLO := hid (fun y hy => (hf.2 y hy).1)
   clear hs hf
   clear c0 n0
   obtain ⟨c0, n0, A0_3⟩ := bk hc A0_2.out (by simp)
   clear c1 n1
   obtain ⟨c1, n1, A1_3⟩ := bk hc A1_2.out (by simp)
   have G3 := hid (G2.out.trans0 hc)
   clear fz; have fz := freeOf A1_3.out
   clear hc
   have HNF := hid (fun hy => absurd (HLO.out _ hy) (by omega) : w.heap.size + 1 ∉ pf)
   go_wp2_with (first | (refine store_wide rfl _ _ 46 rfl rfl rfl infoRR A1_3.out rfl rfl rfl ?_; intro w9 hb9 hc9; have HB9 := hid hb9; have HC9 := hid hc9; clear hb9 hc9))
   refine bodyPost_ret (v := .agg #[.int .i64 0, .slice pa (misL (cntL x.tapes) (tapR x.tapes t)).length pc]) (results_wide _ _ Tryz.results29 rfl infoRR Tryz.underlying46 HB9.out rfl) rfl (finR9 (misR x t) (HR.out) HS.out HFR.out G3.out HC9.out HNF.out (by omega))
  ·have HI := hid (show inB t 0 1 = false by unfold inB; simp; omega)
   go_wp2_with (first | (refine load_wide rfl _ 34 rfl rfl infoWd Tryz.underlying34 A0_1.out rfl ?_))
   refine (l1In_any t 0 1 _).mono ?_
   rintro e w' ⟨rfl, rfl⟩
   rw [HI.out]
   go_wp2_with (first | (refine store_wide rfl _ _ 46 rfl rfl rfl infoRR A1_1.out rfl rfl rfl ?_; intro w9 hb9 hc9; have HB9 := hid hb9; have HC9 := hid hc9; clear hb9 hc9))
   refine bodyPost_ret (v := .agg #[.int .i64 (3), .slice none 0 0]) (results_wide _ _ Tryz.results29 rfl infoRR Tryz.underlying46 HB9.out rfl) rfl (badR9 (3) (⟨by omega, by omega⟩) (misR x t) (misR_rng hf0 hin) G1.out HC9.out (by omega))
 ·have hb : ((q : Int) != 0) = true := by simpa using hq0
  go_wp2_with (first | (refine store_wide rfl _ _ 46 rfl rfl rfl infoRR A1_1.out rfl rfl rfl ?_; intro w9 hb9 hc9; have HB9 := hid hb9; have HC9 := hid hc9; clear hb9 hc9))
  refine bodyPost_ret (v := .agg #[.int .i64 (q), .slice none 0 0]) (results_wide _ _ Tryz.results29 rfl infoRR Tryz.underlying46 HB9.out rfl) rfl (badR9 (q) (hqk) (misR x t) (by rw [misR_bad (by rw [← HQ.out]; exact hq0), ← HQ.out]) G1.out HC9.out (by omega))
end Go.Proofs.YtphmpimgbmedbaaGreat
