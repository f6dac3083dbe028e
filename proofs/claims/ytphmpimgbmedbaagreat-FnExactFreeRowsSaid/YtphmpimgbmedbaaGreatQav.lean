/- Several texts in one. -/
import Derived.Test.YtphmpimgbmedbaaGreatQan
import Derived.Deep.CutBlock
import Derived.Test.YtphmpimgbmedbaaGreatQau
import Derived.Test.YtphmpimgbmedbaaGreatQaq
import Derived.Test.YtphmpimgbmedbaaGreatQar
import Derived.Test.YtphmpimgbmedbaaGreatQam
set_option maxRecDepth 100000
set_option maxHeartbeats 8000000
namespace Go.Proofs.YtphmpimgbmedbaaGreat
open Go.RowKit
open Go.Lib (hid)
theorem q6o (W : World) (n : Nat) (hn : n = W.heap.size) : recL.os 67 (W.alloc (.cells #[] 67)) (.slice (some ⟨n, 0, none⟩) 0 0) [] (some n) [] := by
 subst hn
 exact recL.os_made 67 W #[] 0 (by simp [maxLen]) (by simp)
theorem q2g {w : World} {b : Nat} {cs : Array Value} {E : TypeId} {fr : Nat × Nat} (h : w.heap[b]? = some (.cells cs E fr)) : ∀ j u, cs.toList[j]? = some u → w.cell? ((⟨b, 0, none⟩ : Addr).add j) = some u := fun j u hj => by
 rw [Addr.add_lit, Nat.zero_add, cellsOf h]; simpa using hj
theorem q1r {w : World} {b : Nat} {ps : List RP} (h : q1b recL w b 0 ps) {i n : Nat} (hi : i + n ≤ ps.length) : ∃ news : List Value, (∀ j u, news[j]? = some u → w.cell? ⟨b, i * 9 + j, none⟩ = some u) ∧ recL.all w news (((ps.drop i).take n).map (·.1)) (((ps.drop i).take n).flatMap (·.2)) := by
 obtain ⟨cur, E, h1, h2, h3⟩ := h
 have hct : cur.toList.length = cur.size := by simp
 have hpl : ((ps.drop i).take n).length = n := by rw [List.length_take, List.length_drop]; omega
 refine ⟨(cur.toList.drop (i * 9)).take (n * 9), fun j u hj => ?_, row_all ?_ (fun k p hp => ?_)⟩
 ·have hjn := (List.getElem?_eq_some_iff.1 hj).1
  rw [List.length_take] at hjn
  rw [List.getElem?_take_of_lt (by omega), List.getElem?_drop] at hj
  rw [cellsOf h1]; simpa using hj
 ·rw [List.length_take, List.length_drop, hct, hpl]
  show min (n * 9) (cur.size - i * 9) = n * 9
  rcases Nat.eq_zero_or_pos ps.length with h0 | h0
  ·have : n = 0 := by omega
   subst this; simp
  ·have h4 : 0 + ps.length * 9 ≤ cur.size := h2 h0
   have : (i + n) * 9 ≤ ps.length * 9 := Nat.mul_le_mul_right _ hi
   rw [Nat.add_mul] at this
   omega
 ·have hk := (List.getElem?_eq_some_iff.1 hp).1
  rw [hpl] at hk
  rw [List.getElem?_take_of_lt hk, List.getElem?_drop] at hp
  have h5 := (h3 (i + k) p hp).1
  have e : (((cur.toList.drop (i * 9)).take (n * 9)).drop (k * recL.n)).take recL.n = (cur.toList.drop (0 + (i + k) * recL.n)).take recL.n := by
   show (((cur.toList.drop (i * 9)).take (n * 9)).drop (k * 9)).take 9 = (cur.toList.drop (0 + (i + k) * 9)).take 9
   have hle : (k + 1) * 9 ≤ n * 9 := Nat.mul_le_mul_right _ hk
   rw [Nat.add_mul, Nat.one_mul] at hle
   rw [List.drop_take, List.take_take, List.drop_drop, Nat.min_eq_left (by omega), Nat.zero_add, Nat.add_mul]
  rw [e]; exact h5
theorem q1n {ps : List RP} {i n : Nat} {y : Nat} (h : y ∈ ((ps.drop i).take n).flatMap (·.2)) : ∃ p ∈ ps, y ∈ p.2 := by
 obtain ⟨p, hp, hy⟩ := List.mem_flatMap.1 h
 exact ⟨p, List.mem_of_mem_drop (List.mem_of_mem_take hp), hy⟩
theorem q6e {n0 : Nat} {wx W : World} {v : Value} {ps : List RP} {fq : List Nat} {ac n : Nat} {h : Option Nat} {zs : List Rec} (ho : recL.os 67 W v (zs) h (([] ++ ((ps.drop 0).take ac).flatMap (·.2)) ++ fq ++ ((ps.drop ac).take n).flatMap (·.2))) (hh : ∀ y, h = some y → wx.heap.size ≤ y) (hn : n0 ≤ wx.heap.size) (hfp : ∀ y, (∃ p ∈ ps, y ∈ p.2) → y < n0) (hfq : ∀ y ∈ fq, y < n0) (hz : zs ≠ []) : Shr n0 W v zs := by
 rcases ho with ⟨-, e, -⟩ | ⟨g, cap, cur, e, rfl, hrest⟩
 ·exact absurd e hz
 ·refine ⟨g, _, .inr ⟨g, cap, cur, e, rfl, hrest⟩, Nat.le_trans hn (hh g rfl), fun y hy => ?_⟩
  rcases List.mem_append.1 hy with hy | hy
  ·rcases List.mem_append.1 hy with hy | hy
   ·rw [List.nil_append] at hy; exact hfp y (q1n hy)
   ·exact hfq y hy
  ·exact hfp y (q1n hy)
theorem drop_ahead {xs : List Rec} {r p : Rec} {z ac : Nat} (h : ∀ x ∈ xs.drop ac, q1z r x = true) (hp : xs[z]? = some p) (hl : q1z r p = true) (hz : z = ac - 1) (h0 : 0 < ac) : ∀ x ∈ xs.drop z, q1z r x = true := fun x hx => by
 obtain ⟨hi, e⟩ := List.getElem?_eq_some_iff.1 hp
 rw [List.drop_eq_getElem_cons hi] at hx
 rcases List.mem_cons.1 hx with rfl | hx
 ·rw [e]; exact hl
 ·exact h x (by rwa [show z + 1 = ac by omega] at hx)
theorem rec_slS {w : World} {X : Tap} {a1 : Option Addr} {l1 c1 : Nat} {f : List Nat} (h : tapL.rep w [.bool X.wiped, .slice a1 l1 c1] X f) : recL.sl w a1 l1 c1 X.recs f := by
 obtain ⟨a, l, c, f1, e, h1, rfl⟩ := q1k.1 h
 cases e
 exact h1
theorem flat_takeS {ts : List Tap} {k : Nat} {X : Tap} (h : ts[k]? = some X) : dedF [] ((ts.take (k + 1)).flatMap (·.recs)) = dedF (dedF [] ((ts.take k).flatMap (·.recs))) X.recs := by
 rw [q1d h, List.flatMap_append, q9m]
 simp
theorem flat_lenS {ts : List Tap} {k : Nat} {X : Tap} {B : Nat} (h : ts[k]? = some X) (hB : (ts.flatMap (·.recs)).length ≤ B) : ((ts.take k).flatMap (·.recs)).length + X.recs.length ≤ B := by
 have h2 : ((ts.take (k + 1)).flatMap (·.recs)).length ≤ (ts.flatMap (·.recs)).length := by
  conv => rhs; rw [← List.take_append_drop (k + 1) ts, List.flatMap_append, List.length_append]
  omega
 rw [q1d h, List.flatMap_append, List.length_append, show [X].flatMap (·.recs) = X.recs by simp] at h2
 exact Nat.le_trans h2 hB
def Rwd (n0 : Nat) (w : World) (v : Value) (xs : List Rec) : Prop := ∃ g cap ps, v = .slice (some ⟨g, 0, none⟩) xs.length cap ∧ q1b recL w g 0 ps ∧ ps.map (·.1) = xs ∧ n0 ≤ g ∧ xs.length ≤ cap ∧ cap ≤ maxLen ∧ ∀ p ∈ ps, ∀ y ∈ p.2, y < n0
theorem Rwd.ext {n0 : Nat} {w w' : World} {v : Value} {xs : List Rec} (h : Rwd n0 w v xs) (hc : Chg [] w w') : Rwd n0 w' v xs := by
 obtain ⟨g, cap, ps, h1, h2, h3⟩ := h
 exact ⟨g, cap, ps, h1, h2.ext hc, h3⟩
theorem hshr {n0 : Nat} {w w' : World} {g len cap : Nat} {ps : List RP} {xs : List Rec} (hr : q1b recL w g 0 ps) (hpm : ps.map (·.1) = xs) (hlx : len = xs.length) (hg : n0 ≤ g) (hc : xs.length ≤ cap ∧ cap ≤ maxLen) (hfp : ∀ y, (∃ p ∈ ps, y ∈ p.2) → y < n0) (h : Chg [] w w') : Rwd n0 w' (.slice (some ⟨g, 0, none⟩) len cap) xs :=
 ⟨g, cap, ps, by rw [hlx], hr.ext h, hpm, hg, hc.1, hc.2, fun p hp y hy => hfp y ⟨p, hp, hy⟩⟩
theorem stop_ss {xs D D2 : List Rec} {r : Rec} {ac : Nat} (hs : Srt q1z xs ∧ Stab q1z D xs) (hd : D2 = D ++ [r]) (h1 : ∀ x ∈ xs.drop ac, q1z r x = true) (h2 : 0 < ac → ∃ y, xs[ac - 1]? = some y ∧ q1z r y = false) : Srt q1z (xs.take ac ++ (r :: xs.drop ac)) ∧ Stab q1z D2 (xs.take ac ++ (r :: xs.drop ac)) := by
 have h3 : ∀ x ∈ xs.take ac, q1z r x = false := fun x hx => by
  obtain ⟨i, hi, rfl⟩ := List.getElem_of_mem hx
  rw [List.length_take] at hi
  obtain ⟨y, hy, hl⟩ := h2 (by omega)
  rw [List.getElem_take]
  exact q2v.le_trans (Srt.at q2v hs.1 (show i ≤ ac - 1 by omega) (List.getElem?_eq_getElem (by omega)) hy) hl
 exact ⟨q8m q2v hs.1 h1 h3, by rw [hd]; exact (hs.2.app (Stab.refl [r])).trans (q6z q2v h1)⟩
theorem l6Counted_at (n0 : Nat) (m : Nat) {z0 z1 z2 z3 z4 z5 z6 z7 z8 z9 z10 z12 z13 z14 : Value} (a12 : Option Addr) (c12 : Nat) (f12 : List Nat) (ts : List Tap) (w : World) (h : w.heap[m]? = some (.cells #[z0, z1, z2, z3, z4, z5, z6, z7, z8, z9, z10, .slice a12 2 c12, z12, z13, z14] 34 (0, 0))) (h12 : tapL.sl w a12 2 c12 ts f12) (hz : (ts.flatMap (·.recs)).length ≤ 1000000) (hn0 : n0 ≤ w.heap.size) (hf0 : ∀ y ∈ f12, y < n0) :
  Calls Tryz.prog 92 #[.pointer (some ⟨m, 0, none⟩)] w fun e w' => ∃ v, e = .returned v ∧ Rwd n0 w' v (cntL ts) ∧ Chg [] w w' := by
 obtain ⟨KR, _⟩ := z0g
 have HN0 := hid hn0; have HF0 := hid hf0
 clear hf0
 have HM := hid h
 have H12 := hid h12; have HL := hid h12.1; have HZ := hid hz
 clear h h12 hz
 go_enter Tryz.func92, Tryz.ntmps92
 go_wp2_with fail
 go_loopw [3, 4] (fun vo vi wr => ∃ (k : Nat) (out : List Rec) (Wr : World), Wr = wr ∧ k ≤ 2 ∧ vi = .int .i64 k ∧ Hid (Srt q1z out ∧ Stab q1z (dedF [] ((ts.take k).flatMap (·.recs))) out) ∧ Rwd n0 wr vo out ∧ Chg [] w wr) (fun _ vi _ => 2 - (intOf vi).toNat)
 case atStart => exact ⟨0, [], _, rfl, by omega, rfl, hid ⟨List.Pairwise.nil, Stab.refl _⟩, (Shr.made HN0.out).row, (Chg.refl [] w).alloc _⟩
 case round =>
  obtain ⟨k, out, wr, rfl, hk, rfl, HSO, hsh, hc⟩ := hrel
  have HC := hid hc; have HSH := hid hsh
  by_cases hlt : k < 2
  ·have hkd : decide ((k : Int) < 2) = true := by simp; omega
   obtain ⟨X, b, off, a1, l1, c1, ft, HX, rfl, hc0w, hc1w, HXS⟩ := q2i H12.out hlt
   have HBW := hid (tapL.sl_lt H12.out b HX.out.2.1)
   have H0W := hid hc0w; have H1W := hid hc1w
   obtain ⟨acc, hacc⟩ : ∃ acc, acc = dedF [] ((ts.take k).flatMap (·.recs)) := ⟨_, rfl⟩
   rw [← hacc] at HSO
   have HNX := hid (show dedF [] ((ts.take (k + 1)).flatMap (·.recs)) = dedF acc X.recs by rw [hacc]; exact flat_takeS HX.out.1)
   have hal : acc.length + X.recs.length ≤ 1000000 := by
    have h1 := q5z ((ts.take k).flatMap (·.recs)) []
    have h2 := flat_lenS HX.out.1 HZ.out
    rw [List.length_nil, Nat.zero_add] at h1; rw [hacc]; omega
   have HRS := hid (rec_slS HXS.out)
   have HFL := hid (fun y (hy : y ∈ ft) => HF0.out y (HX.out.2.2 y hy))
   have HL1 := hid (rec_slS HXS.out).1; have HAL := hid hal
   have hl1 := recL.sl_max (rec_slS HXS.out)
   clear hc hsh hacc hal HXS HX hc0w hc1w
   go_wp2_with fail
   go_loopw [3, 5] (fun vo vj wq => ∃ (j : Nat) (out : List Rec) (Wq : World), Wq = wq ∧ j ≤ l1 ∧ vj = .int .i64 j ∧ Hid (Srt q1z out ∧ Stab q1z (dedF acc (X.recs.take j)) out) ∧ Rwd n0 wq vo out ∧ Chg [] w wq) (fun _ vj _ => l1 - (intOf vj).toNat)
   case atStart => exact ⟨0, out, _, rfl, by omega, rfl, HSO, HSH.out, HC.out⟩
   case round =>
    clear HSH HC HSO
    obtain ⟨j, xs, wq, rfl, hj, rfl, HSS, hsh, hc⟩ := hrel
    have HC := hid hc
    have hmq := hc.keep0 HM.out
    have cm := cellsOf hmq; have nm := ltOf hmq
    have hc0 := q0j hc H0W.out HBW.out; have hc1 := q0j hc H1W.out HBW.out
    clear hmq
    by_cases hlt2 : j < l1
    ·obtain ⟨r, b2, off2, a6, l6, c6, a7, l7, c7, a8, l8, c8, fq, HR, rfl, hq0, hq1, hq2, hq3, hq4, hq5, hq6, hq7, hq8, HXS⟩ := q4q (recL.sl_ext HRS.out hc) hlt2
     obtain ⟨g, cap, ps, rfl, hrow, hpm, hg, hcap, hcm, hfp⟩ := hsh
     have HNJ := hid (dedF_next (acc := acc) HR.out.1)
     have hbd : xs.length ≤ 1000000 := by
      have h1 := q5z (X.recs.take j) acc
      have h2 := HAL.out
      have h3 := HSS.out.2.1
      rw [List.length_take] at h1; omega
     have HFP := hid (show ∀ y, (∃ p ∈ ps, y ∈ p.2) → y < n0 from fun y ⟨p, hp, hy⟩ => hfp p hp y hy)
     have HFQ := hid (fun y (hy : y ∈ fq) => HFL.out y (HR.out.2.2 y hy))
     have HPM := hid hpm; have HGN := hid hg; have HCP := hid (And.intro hcap hcm)
     obtain ⟨len, hlen⟩ : ∃ len, len = xs.length := ⟨_, rfl⟩
     have HLX := hid hlen
     have hpl : ps.length = len := by rw [hlen, ← hpm, List.length_map]
     have HPL := hid hpl
     rw [← hlen] at hbd ⊢
     have G1 := hid (show Chg [] wq (wq.alloc (.cells #[.int .i64 r.kind, .int .i64 r.seq, .string r.name, .int .i64 r.length, .int .i64 r.group, .int .i64 r.row, .slice a6 l6 c6, .slice a7 l7 c7, .slice a8 l8 c8] 67)) from (Chg.refl [] wq).alloc _)
     have hsl := hrow.sl hpl.symm (by have := hcap; omega) hcm
     rw [hpm] at hsl
     have HROWQ := hid hrow
     have HHS := hid (holds_any _ len cap xs _ r #[.int .i64 r.kind, .int .i64 r.seq, .string r.name, .int .i64 r.length, .int .i64 r.group, .int .i64 r.row, .slice a6 l6 c6, .slice a7 l7 c7, .slice a8 l8 c8] fq (wq.alloc (.cells #[.int .i64 r.kind, .int .i64 r.seq, .string r.name, .int .i64 r.length, .int .i64 r.group, .int .i64 r.row, .slice a6 l6 c6, .slice a7 l7 c7, .slice a8 l8 c8] 67)) (recL.sl_ext hsl G1.out) (recL.ext HXS.out G1.out))
     obtain ⟨v, hv⟩ : ∃ v, v = xs.any (fun x => q2f x r) := ⟨_, rfl⟩
     rw [← hv] at HHS
     have HV := hid (show v = (dedF acc (X.recs.take j)).any (fun x => q2f x r) by rw [hv]; exact any_mem _ (fun x => HSS.out.2.mem q2v))
     clear hc HR hrow hpm hg hcap hcm hfp hlen hpl hsl hv
     go_wp2_with fail
     refine HHS.out.mono ?_
     rintro e w3 ⟨rfl, hc3⟩
     have HC3 := hid (HC.out.trans0 (G1.out.trans0 hc3)); have HQ3 := hid (G1.out.trans0 hc3)
     obtain ⟨B6, hb6⟩ : ∃ B6, B6 = wq.heap.size := ⟨_, rfl⟩
     have hb3 := hc3.keep0 (q1a wq (.cells #[.int .i64 r.kind, .int .i64 r.seq, .string r.name, .int .i64 r.length, .int .i64 r.group, .int .i64 r.row, .slice a6 l6 c6, .slice a7 l7 c7, .slice a8 l8 c8] 67))
     rw [← hb6] at hb3 ⊢
     have HB3 := hid hb3
     have c3 := cellsOf hb3; have n3 := ltOf hb3
     clear hc3 hb3 hq0 hq1 hq2 hq3 hq4 hq5 hq6 hq7 hq8 cm nm hc0 hc1 hb6
     cases v
     ·have HDS := hid (show dedF acc (X.recs.take (j + 1)) = dedF acc (X.recs.take j) ++ [r] by rw [HNJ.out]; unfold dedS; rw [← HV.out]; rfl)
      go_upto_block 4 with fail
      go_cut [7] from 42 to 54 (fun s7 wz => ∃ ac : Nat, s7 = .int .i64 ac ∧ ac ≤ len ∧ Hid (Srt q1z (xs.take ac ++ (r :: xs.drop ac)) ∧ Stab q1z (dedF acc (X.recs.take (j + 1))) (xs.take ac ++ (r :: xs.drop ac))) ∧ Chg [] w3 wz)
      case first =>
       go_wp2_with fail
       go_loopw [7] (fun va wx => ∃ (ac : Nat) (Wx : World), Wx = wx ∧ ac ≤ len ∧ va = .int .i64 ac ∧ Hid (∀ x ∈ xs.drop ac, q1z r x = true) ∧ Chg [] w3 wx) (fun va _ => (intOf va).toNat)
       case atStart => exact ⟨len, _, rfl, Nat.le_refl _, rfl, hid (show ∀ x ∈ xs.drop len, q1z r x = true from fun x hx => by rw [HLX.out, List.drop_length] at hx; cases hx), Chg.refl _ _⟩
       case round =>
        obtain ⟨ac, wx, rfl, hac, rfl, HDR, hcx⟩ := hrel
        have HCX := hid (HC3.out.trans0 hcx); have HWX := hid hcx
        have HBX := hid (hcx.keep0 HB3.out)
        have HROWX := hid (HROWQ.out.ext (HQ3.out.trans0 hcx))
        have HXSX := hid (recL.ext HXS.out (HQ3.out.trans0 hcx))
        clear hcx
        by_cases h0 : 0 < ac
        ·obtain ⟨z, hz0⟩ : ∃ z, z = ac - 1 := ⟨_, rfl⟩
         have hwz : IntKind.i64.wrap ((ac : Int) - 1) = (z : Int) := by rw [IntWalk.i64_in _ ⟨by omega, by omega⟩]; omega
         have hzl : z < len := by omega
         have hgt : (0 : Int) < (ac : Int) := by omega
         obtain ⟨p, hp⟩ : ∃ p, ps[z]? = some p := ⟨_, List.getElem?_eq_getElem (by have := HPL.out; omega)⟩
         obtain ⟨cy, ry, -, ky⟩ := q1m HROWX.out hp
         have HCE := hid (show q1s wx.drew g (0 + z * 9) 9 cy from ky)
         have hlg : g < wx.drew.heap.size := HROWX.out.lt
         have hah := l6Ahead_any r p.1 #[.int .i64 r.kind, .int .i64 r.seq, .string r.name, .int .i64 r.length, .int .i64 r.group, .int .i64 r.row, .slice a6 l6 c6, .slice a7 l7 c7, .slice a8 l8 c8] cy.toArray fq p.2 wx.drew (recL.ext HXSX.out ((Chg.refl [] wx).drew)) (recL.ext (by simpa using ry) ((Chg.refl [] wx).drew))
         have hxz : xs[z]? = some p.1 := by rw [← HPM.out, List.getElem?_map, hp]; rfl
         have HXZ := hid hxz; have HZ1 := hid hz0
         clear ry ky hp hxz hz0
         cases hl : q1z r p.1
         ·rw [hl] at hah
          have HAH := hid hah; have HLF := hid hl
          clear hah hl
          go_wp2_with fail
          obtain ⟨SS, HSI, HSO⟩ := q0k (fun w' => q1s w' g (0 + z * 9) 9 cy ∧ Know B6 #[.int .i64 r.kind, .int .i64 r.seq, .string r.name, .int .i64 r.length, .int .i64 r.group, .int .i64 r.row, .slice a6 l6 c6, .slice a7 l7 c7, .slice a8 l8 c8] w')
          have hS0 := HSI.out _ ⟨HCE.out, (Know.of (q0a HBX.out))⟩
          refine q0g SS (by kernel_rfl) hS0 ?_
          refine rgT 0 hS0 ?_
          refine rgT 1 hS0 ?_
          refine rgT 2 hS0 ?_
          refine rgL 3 hS0 HSO ?_
          refine rgT 4 hS0 ?_
          refine rgT 5 hS0 ?_
          refine rgT 6 hS0 ?_
          refine rgT 7 hS0 ?_
          refine rgL 8 hS0 HSO ?_ (hy := fun w' hw => q1l _ 67 rfl (by dsimp only [Act.eval, Array.getD, List.size_toArray, List.length_cons]; simp) q1o Tryz.underlying67 hw.1)
          refine q0c 9 rfl (by kernel_rfl) (fun K hK => ?_)
          go_simp
          go_at_call 167
          refine HAH.out.mono ?_
          rintro e wy ⟨rfl, hc2⟩
          have HC2 := hid (HCX.out.trans0 ((Chg.refl [] wx).drew.trans0 hc2)); have HQY := hid ((Chg.refl [] wx).drew.trans0 hc2); have HCE2 := hid (HCE.out.ext hc2 hlg); have HBX2 := hid (hc2.keep0 (q0a HBX.out))
          clear hc2
          go_wp2_with fail
          refine hK.out _ _ (HSI.out _ ⟨HCE2.out, (Know.of HBX2.out)⟩) (fun hS1 => ?_)
          clear hK K
          try simp only [Act.put, pA, pB, pC]
          refine rgT 10 hS1 ?_
          refine wpAnyH_done (by kernel_rfl) ?_ _
          skip
          go_wp2_with fail
          go_meet
          exact ⟨ac, rfl, hac, (show Srt q1z (xs.take ac ++ (r :: xs.drop ac)) ∧ Stab q1z (dedF acc (X.recs.take (j + 1))) (xs.take ac ++ (r :: xs.drop ac)) from stop_ss HSS.out HDS.out HDR.out (fun _ => ⟨p.1, by rw [← HZ1.out]; exact HXZ.out, HLF.out⟩)), HWX.out.trans0 HQY.out⟩
         ·rw [hl] at hah
          have HAH := hid hah; have HLF := hid hl
          clear hah hl
          go_wp2_with fail
          obtain ⟨SS, HSI, HSO⟩ := q0k (fun w' => q1s w' g (0 + z * 9) 9 cy ∧ Know B6 #[.int .i64 r.kind, .int .i64 r.seq, .string r.name, .int .i64 r.length, .int .i64 r.group, .int .i64 r.row, .slice a6 l6 c6, .slice a7 l7 c7, .slice a8 l8 c8] w')
          have hS0 := HSI.out _ ⟨HCE.out, (Know.of (q0a HBX.out))⟩
          refine q0g SS (by kernel_rfl) hS0 ?_
          refine rgT 0 hS0 ?_
          refine rgT 1 hS0 ?_
          refine rgT 2 hS0 ?_
          refine rgL 3 hS0 HSO ?_
          refine rgT 4 hS0 ?_
          refine rgT 5 hS0 ?_
          refine rgT 6 hS0 ?_
          refine rgT 7 hS0 ?_
          refine rgL 8 hS0 HSO ?_ (hy := fun w' hw => q1l _ 67 rfl (by dsimp only [Act.eval, Array.getD, List.size_toArray, List.length_cons]; simp) q1o Tryz.underlying67 hw.1)
          refine q0c 9 rfl (by kernel_rfl) (fun K hK => ?_)
          go_simp
          go_at_call 167
          refine HAH.out.mono ?_
          rintro e wy ⟨rfl, hc2⟩
          have HC2 := hid (HCX.out.trans0 ((Chg.refl [] wx).drew.trans0 hc2)); have HQY := hid ((Chg.refl [] wx).drew.trans0 hc2); have HCE2 := hid (HCE.out.ext hc2 hlg); have HBX2 := hid (hc2.keep0 (q0a HBX.out))
          clear hc2
          go_wp2_with fail
          refine hK.out _ _ (HSI.out _ ⟨HCE2.out, (Know.of HBX2.out)⟩) (fun hS1 => ?_)
          clear hK K
          try simp only [Act.put, pA, pB, pC]
          refine rgT 10 hS1 ?_
          refine wpAnyH_done (by kernel_rfl) ?_ _
          skip
          go_wp2_with fail
          go_roundw
          case rel => exact ⟨z, _, rfl, by omega, by go_num, hid (drop_ahead HDR.out HXZ.out HLF.out HZ1.out h0), HWX.out.trans0 HQY.out⟩
          case measure => have := HZ1.out; simp [intOf]; omega
        ·have hgt : ¬ ((0 : Int) < (ac : Int)) := by omega
         go_wp2_with fail
         obtain ⟨SS, HSI, HSO⟩ := q0k (fun w' => True)
         have hS0 := HSI.out wx.drew trivial
         refine q0g SS (by kernel_rfl) hS0 ?_
         refine rgT 0 hS0 ?_
         refine rgT 1 hS0 ?_
         refine rgT 2 hS0 ?_
         refine rgS 3 hS0 ?_
         refine rgS 4 hS0 ?_
         refine rgS 5 hS0 ?_
         refine rgS 6 hS0 ?_
         refine rgS 7 hS0 ?_
         refine rgS 8 hS0 ?_
         refine rgS 9 hS0 ?_
         refine rgT 10 hS0 ?_
         refine wpAnyH_done (by kernel_rfl) ?_ _
         skip
         go_wp2_with fail
         go_meet
         exact ⟨ac, rfl, hac, (show Srt q1z (xs.take ac ++ (r :: xs.drop ac)) ∧ Stab q1z (dedF acc (X.recs.take (j + 1))) (xs.take ac ++ (r :: xs.drop ac)) from stop_ss HSS.out HDS.out HDR.out (fun h => absurd h h0)), HWX.out.drew⟩
      case rest =>
      revert wc; intro wy hcut
      obtain ⟨ac, rfl, hac, HSS2, hcy⟩ := hcut
      have HCW := hid (HC3.out.trans0 hcy); have HROW := hid (HROWQ.out.ext (HQ3.out.trans0 hcy)); have HXS2 := hid (recL.ext HXS.out (HQ3.out.trans0 hcy)); have HBX := hid (hcy.keep0 HB3.out)
      clear HXS hcy c3 n3
      have HXS := HXS2
      clear HXS2
      have HNEW := hid (show ∀ n, n = xs.length - ac → (([] ++ ((ps.drop 0).take ac).map (·.1)) ++ [r]) ++ ((ps.drop ac).take n).map (·.1) = xs.take ac ++ (r :: xs.drop ac) from fun n hn => by
       have hl : ps.length = xs.length := by rw [← HPM.out, List.length_map]
       rw [List.drop_zero, List.take_of_length_le (l := ps.drop ac) (by rw [List.length_drop]; omega), List.map_take, List.map_drop, HPM.out]
       simp)
      by_cases hca : cap = ac
      ·subst hca
       have HNEW := hid (HNEW.out (len - cap) (by have := HLX.out; omega))
       go_wp2_with fail
       obtain ⟨SS, HSI, HSO⟩ := q0k (fun w' => Know B6 #[.int .i64 r.kind, .int .i64 r.seq, .string r.name, .int .i64 r.length, .int .i64 r.group, .int .i64 r.row, .slice a6 l6 c6, .slice a7 l7 c7, .slice a8 l8 c8] w')
       have hS0 := HSI.out _ (Know.of (q0a HBX.out))
       refine q0g SS (by kernel_rfl) hS0 ?_
       obtain ⟨wd, hwd⟩ : ∃ wd, wd = wy.drew := ⟨_, rfl⟩
       have HCD := hid (show Chg [] wy wd by rw [hwd]; exact (Chg.refl [] wy).drew)
       rw [← hwd] at hS0 ⊢
       clear hwd
       have HBD := hid (HCD.out.keep0 HBX.out)
       have HRD := hid (HROW.out.ext HCD.out); have HCE := hid (HCW.out.trans0 HCD.out); have HXD := hid (recL.ext HXS.out HCD.out)
       clear HBX HROW HCW HXS HCD
       have HBX := HBD; have HROW := HRD; have HCW := HCE; have HXS := HXD
       clear HBD HRD HCE HXD
       refine rgT 1 hS0 ?_
       refine rgT 2 hS0 ?_
       refine rgT 3 hS0 ?_
       refine rgL 5 hS0 HSO ?_
       refine rgT 8 hS0 ?_
       refine rgT 9 hS0 ?_
       refine rgT 10 hS0 ?_
       refine q5f 0 6 rfl rfl (by kernel_rfl) (fun K hK => ?_) (fun K hK => ?_)
       ·have HM := hid (q6o wd (wd.heap.size) (by simp))
        go_simp
        refine hK.out _ _ (HSI.out _ (Know.of (((Chg.refl [] wd).alloc (.cells #[] 67)).keep0 HBX.out))) (fun hS1 => ?_)
        clear hK K
        try simp only [Act.put, pA, pB, pC]
        refine q5f 4 6 rfl rfl (by kernel_rfl) (fun K hK => ?_) (fun K hK => ?_)
        ·obtain ⟨nw, hnw, hal⟩ := q1r (HROW.out.ext ((Chg.refl [] wd).alloc (.cells #[] 67))) (i := 0) (n := cap) (by have := HPL.out; omega)
         have HNW := hid hnw; have HAL2 := hid hal; clear hnw hal
         refine recL.step_append rfl _ _ 44 rfl Tryz.underlying44 KR rfl HM.out ⟨g, 0, none⟩ cap cap nw (ys := ((ps.drop 0).take cap).map (·.1)) (f := ((ps.drop 0).take cap).flatMap (·.2)) rfl (by rw [List.length_map, List.length_take, List.drop_zero]; have := HPL.out; omega) (fun j u h => by rw [Addr.add_lit]; have := HNW.out j u h; simpa using this) HAL2.out (fun g2 e hm => by cases e; have h1 := HFP.out _ (q1n hm); have h2 := HCW.out.size; omega) (by rw [List.length_map, List.length_take, List.drop_zero]; simp only [List.length_nil, maxLen]; omega) (by rw [List.length_map, List.length_take, List.drop_zero]; simp only [List.length_nil]; omega) ?_
         intro v4 w4 h4 ho4 hh4 hc4
         obtain ⟨y4, hy4⟩ : ∃ y4, y4 = [] ++ ((ps.drop 0).take cap).map (·.1) := ⟨_, rfl⟩
         rw [← hy4] at ho4
         have HL4 := hid (show y4.length ≤ 1000000 by rw [hy4, List.nil_append, List.length_map, List.length_take, List.drop_zero]; omega); have HY4 := hid hy4
         clear hy4
         have HQ4 := hid (((Chg.refl [] wd).alloc (.cells #[] 67)).trans hc4 (fun y hy => .inr (by simp at hy; omega)))
         obtain ⟨a4, c4, rfl⟩ := recL.os_len ho4
         have HO4 := hid ho4; have HH4 := hid (show ∀ y, h4 = some y → wd.heap.size ≤ y from fun y e => by rcases hh4 with rfl | rfl <;> cases e <;> simp <;> omega)
         clear ho4 hh4 hc4
         refine hK.out _ _ (HSI.out _ (Know.of (HQ4.out.keep0 HBX.out))) (fun hS2 => ?_)
         clear hK K
         try simp only [Act.put, pA, pB, pC]
         refine q0c 6 rfl (by kernel_rfl) (fun K hK => ?_)
         have HR6 := hid (show (w4.alloc (.cells #[.int .i64 r.kind, .int .i64 r.seq, .string r.name, .int .i64 r.length, .int .i64 r.group, .int .i64 r.row, .slice a6 l6 c6, .slice a7 l7 c7, .slice a8 l8 c8] 67)).heap[w4.heap.size]? = some (.cells #[.int .i64 r.kind, .int .i64 r.seq, .string r.name, .int .i64 r.length, .int .i64 r.group, .int .i64 r.row, .slice a6 l6 c6, .slice a7 l7 c7, .slice a8 l8 c8] 67 (0, 0)) from q0d (by simp) _)
         go_simp
         refine hK.out _ _ (HSI.out _ (Know.of ((HQ4.out.alloc (.cells #[.int .i64 r.kind, .int .i64 r.seq, .string r.name, .int .i64 r.length, .int .i64 r.group, .int .i64 r.row, .slice a6 l6 c6, .slice a7 l7 c7, .slice a8 l8 c8] 67)).keep0 HBX.out))) (fun hS3 => ?_)
         clear hK K
         try simp only [Act.put, pA, pB, pC]
         refine q0c 7 rfl (by kernel_rfl) (fun K hK => ?_)
         refine recL.step_append rfl _ _ 44 rfl Tryz.underlying44 KR rfl (recL.os_alloc HO4.out (.cells #[.int .i64 r.kind, .int .i64 r.seq, .string r.name, .int .i64 r.length, .int .i64 r.group, .int .i64 r.row, .slice a6 l6 c6, .slice a7 l7 c7, .slice a8 l8 c8] 67)) ⟨w4.heap.size, 0, none⟩ 1 1 [.int .i64 r.kind, .int .i64 r.seq, .string r.name, .int .i64 r.length, .int .i64 r.group, .int .i64 r.row, .slice a6 l6 c6, .slice a7 l7 c7, .slice a8 l8 c8] (ys := [r]) (f := fq) rfl rfl (q2g HR6.out) (recL.all_single (recL.ext HXS.out (HQ4.out.alloc (.cells #[.int .i64 r.kind, .int .i64 r.seq, .string r.name, .int .i64 r.length, .int .i64 r.group, .int .i64 r.row, .slice a6 l6 c6, .slice a7 l7 c7, .slice a8 l8 c8] 67)))) (fun g2 e hm => by have h1 := HFQ.out g2 hm; have h2 := HCW.out.size; have h3 := HH4.out g2 e; omega) (by have := HL4.out; simp only [List.length_singleton, maxLen]; omega) (by have := HL4.out; simp only [List.length_singleton]; omega) ?_
         intro v7 w7 h7 ho7 hh7 hc7
         obtain ⟨y7, hy7⟩ : ∃ y7, y7 = y4 ++ [r] := ⟨_, rfl⟩
         rw [← hy7] at ho7
         have HL7 := hid (show y7.length ≤ 1000001 by rw [hy7, List.length_append, List.length_singleton]; have := HL4.out; omega); have HY7 := hid hy7
         clear hy7
         have HQ7 := hid ((HQ4.out.alloc (.cells #[.int .i64 r.kind, .int .i64 r.seq, .string r.name, .int .i64 r.length, .int .i64 r.group, .int .i64 r.row, .slice a6 l6 c6, .slice a7 l7 c7, .slice a8 l8 c8] 67)).trans hc7 (fun y hy => .inr (by cases h4 with | none => simp at hy | some y4 => simp at hy; subst hy; exact HH4.out _ rfl)))
         obtain ⟨a7', c7', rfl⟩ := recL.os_len ho7
         have HO7 := hid ho7; have HH7 := hid (show ∀ y, h7 = some y → wd.heap.size ≤ y from fun y e => by rcases hh7 with rfl | rfl; exact HH4.out y e; cases e; exact (HQ4.out.alloc (.cells #[.int .i64 r.kind, .int .i64 r.seq, .string r.name, .int .i64 r.length, .int .i64 r.group, .int .i64 r.row, .slice a6 l6 c6, .slice a7 l7 c7, .slice a8 l8 c8] 67)).size)
         clear ho7 hh7 hc7
         refine hK.out _ _ (HSI.out _ (Know.of (HQ7.out.keep0 HBX.out))) (fun hS4 => ?_)
         clear hK K
         try simp only [Act.put, pA, pB, pC]
         refine q0c 11 rfl (by kernel_rfl) (fun K hK => ?_)
         obtain ⟨nw2, hnw2, hal2⟩ := q1r (HROW.out.ext HQ7.out) (i := cap) (n := len - cap) (by have := HPL.out; omega)
         have HNW2 := hid hnw2; have HAL3 := hid hal2; clear hnw2 hal2
         refine recL.step_append rfl _ _ 44 rfl Tryz.underlying44 KR rfl HO7.out ⟨g, 0, none⟩ (len - cap) 0 nw2 (ys := ((ps.drop cap).take (len - cap)).map (·.1)) (f := ((ps.drop cap).take (len - cap)).flatMap (·.2)) rfl (by rw [List.length_map, List.length_take, List.length_drop]; have := HPL.out; omega) (fun j u h => by rw [Addr.add_lit]; have := HNW2.out j u h; have hl := recL.all_len HAL3.out; rw [show len - cap = 0 by have := HCP.out.1; have := HLX.out; omega] at hl; simp at hl; subst hl; simp at h) HAL3.out (fun g2 e hm => by have h1 := HFP.out _ (q1n hm); have h2 := HCW.out.size; have h3 := HH7.out g2 e; omega) (by rw [List.length_map, List.length_take, List.length_drop]; have := HL7.out; have := HPL.out; simp only [maxLen]; omega) (by rw [List.length_map, List.length_take, List.length_drop]; have := HL7.out; have := HPL.out; omega) ?_
         intro v11 w11 h11 ho11 hh11 hc11
         have HQ11 := hid (HQ7.out.trans hc11 (fun y hy => .inr (by cases h7 with | none => simp at hy | some y4 => simp at hy; subst hy; exact HH7.out _ rfl)))
         have HH11 := hid (show ∀ y, h11 = some y → wd.heap.size ≤ y from fun y e => by rcases hh11 with rfl | rfl; exact HH7.out y e; cases e; exact HQ7.out.size)
         have HO11 := hid ho11; clear ho11 hh11 hc11
         have HSH11 := hid (q6e HO11.out HH11.out (Nat.le_trans HN0.out HCW.out.size) (ps := ps) (fq := fq) HFP.out HFQ.out (by rw [HY7.out]; simp))
         refine hK.out _ _ (HSI.out _ (Know.of (HQ11.out.keep0 HBX.out))) (fun hS5 => ?_)
         clear hK K
         try simp only [Act.put, pA, pB, pC]
         refine rgT 12 hS5 ?_
         refine wpAnyH_done (by kernel_rfl) ?_ _
         go_wp2_with fail
         have HF := hid (And.intro HSH11.out (HCW.out.trans0 HQ11.out))
         go_roundw
         case rel => exact ⟨j + 1, _, _, rfl, by omega, by go_num, HSS2, by have := HF.out.1; rw [HY7.out, HY4.out, HNEW.out] at this; exact this.row, HF.out.2⟩
         case measure => simp [intOf]; omega
        ·have HR6 := hid (show ((wd.alloc (.cells #[] 67)).alloc (.cells #[.int .i64 r.kind, .int .i64 r.seq, .string r.name, .int .i64 r.length, .int .i64 r.group, .int .i64 r.row, .slice a6 l6 c6, .slice a7 l7 c7, .slice a8 l8 c8] 67)).heap[wd.heap.size + 1]? = some (.cells #[.int .i64 r.kind, .int .i64 r.seq, .string r.name, .int .i64 r.length, .int .i64 r.group, .int .i64 r.row, .slice a6 l6 c6, .slice a7 l7 c7, .slice a8 l8 c8] 67 (0, 0)) from q0d (by simp) _)
         go_simp
         refine hK.out _ _ (HSI.out _ (Know.of ((((Chg.refl [] wd).alloc (.cells #[] 67)).alloc (.cells #[.int .i64 r.kind, .int .i64 r.seq, .string r.name, .int .i64 r.length, .int .i64 r.group, .int .i64 r.row, .slice a6 l6 c6, .slice a7 l7 c7, .slice a8 l8 c8] 67)).keep0 HBX.out))) (fun hS6 => ?_)
         clear hK K
         try simp only [Act.put, pA, pB, pC]
         refine q0c 4 rfl (by kernel_rfl) (fun K hK => ?_)
         obtain ⟨nw, hnw, hal⟩ := q1r (HROW.out.ext (((Chg.refl [] wd).alloc (.cells #[] 67)).alloc (.cells #[.int .i64 r.kind, .int .i64 r.seq, .string r.name, .int .i64 r.length, .int .i64 r.group, .int .i64 r.row, .slice a6 l6 c6, .slice a7 l7 c7, .slice a8 l8 c8] 67))) (i := 0) (n := cap) (by have := HPL.out; omega)
         have HNW := hid hnw; have HAL2 := hid hal; clear hnw hal
         refine recL.step_append rfl _ _ 44 rfl Tryz.underlying44 KR rfl (recL.os_alloc HM.out (.cells #[.int .i64 r.kind, .int .i64 r.seq, .string r.name, .int .i64 r.length, .int .i64 r.group, .int .i64 r.row, .slice a6 l6 c6, .slice a7 l7 c7, .slice a8 l8 c8] 67)) ⟨g, 0, none⟩ cap cap nw (ys := ((ps.drop 0).take cap).map (·.1)) (f := ((ps.drop 0).take cap).flatMap (·.2)) rfl (by rw [List.length_map, List.length_take, List.drop_zero]; have := HPL.out; omega) (fun j u h => by rw [Addr.add_lit]; have := HNW.out j u h; simpa using this) HAL2.out (fun g2 e hm => by cases e; have h1 := HFP.out _ (q1n hm); have h2 := HCW.out.size; omega) (by rw [List.length_map, List.length_take, List.drop_zero]; simp only [List.length_nil, maxLen]; omega) (by rw [List.length_map, List.length_take, List.drop_zero]; simp only [List.length_nil]; omega) ?_
         intro v4 w4 h4 ho4 hh4 hc4
         obtain ⟨y4, hy4⟩ : ∃ y4, y4 = [] ++ ((ps.drop 0).take cap).map (·.1) := ⟨_, rfl⟩
         rw [← hy4] at ho4
         have HL4 := hid (show y4.length ≤ 1000000 by rw [hy4, List.nil_append, List.length_map, List.length_take, List.drop_zero]; omega); have HY4 := hid hy4
         clear hy4
         have HQ4 := hid ((((Chg.refl [] wd).alloc (.cells #[] 67)).alloc (.cells #[.int .i64 r.kind, .int .i64 r.seq, .string r.name, .int .i64 r.length, .int .i64 r.group, .int .i64 r.row, .slice a6 l6 c6, .slice a7 l7 c7, .slice a8 l8 c8] 67)).trans hc4 (fun y hy => .inr (by simp at hy; omega)))
         obtain ⟨a4, c4, rfl⟩ := recL.os_len ho4
         have HO4 := hid ho4; have HH4 := hid (show ∀ y, h4 = some y → wd.heap.size ≤ y from fun y e => by rcases hh4 with rfl | rfl <;> cases e <;> simp <;> omega)
         have HR64 := hid (hc4.keepb HR6.out (by simp <;> omega))
         clear ho4 hh4 hc4
         refine hK.out _ _ (HSI.out _ (Know.of (HQ4.out.keep0 HBX.out))) (fun hS7 => ?_)
         clear hK K
         try simp only [Act.put, pA, pB, pC]
         refine q0c 7 rfl (by kernel_rfl) (fun K hK => ?_)
         refine recL.step_append rfl _ _ 44 rfl Tryz.underlying44 KR rfl HO4.out ⟨wd.heap.size + 1, 0, none⟩ 1 1 [.int .i64 r.kind, .int .i64 r.seq, .string r.name, .int .i64 r.length, .int .i64 r.group, .int .i64 r.row, .slice a6 l6 c6, .slice a7 l7 c7, .slice a8 l8 c8] (ys := [r]) (f := fq) rfl rfl (q2g HR64.out) (recL.all_single (recL.ext HXS.out HQ4.out)) (fun g2 e hm => by have h1 := HFQ.out g2 hm; have h2 := HCW.out.size; have h3 := HH4.out g2 e; omega) (by have := HL4.out; simp only [List.length_singleton, maxLen]; omega) (by have := HL4.out; simp only [List.length_singleton]; omega) ?_
         intro v7 w7 h7 ho7 hh7 hc7
         obtain ⟨y7, hy7⟩ : ∃ y7, y7 = y4 ++ [r] := ⟨_, rfl⟩
         rw [← hy7] at ho7
         have HL7 := hid (show y7.length ≤ 1000001 by rw [hy7, List.length_append, List.length_singleton]; have := HL4.out; omega); have HY7 := hid hy7
         clear hy7
         have HQ7 := hid (HQ4.out.trans hc7 (fun y hy => .inr (by cases h4 with | none => simp at hy | some y4 => simp at hy; subst hy; exact HH4.out _ rfl)))
         obtain ⟨a7', c7', rfl⟩ := recL.os_len ho7
         have HO7 := hid ho7; have HH7 := hid (show ∀ y, h7 = some y → wd.heap.size ≤ y from fun y e => by rcases hh7 with rfl | rfl; exact HH4.out y e; cases e; exact HQ4.out.size)
         clear ho7 hh7 hc7
         refine hK.out _ _ (HSI.out _ (Know.of (HQ7.out.keep0 HBX.out))) (fun hS8 => ?_)
         clear hK K
         try simp only [Act.put, pA, pB, pC]
         refine q0c 11 rfl (by kernel_rfl) (fun K hK => ?_)
         obtain ⟨nw2, hnw2, hal2⟩ := q1r (HROW.out.ext HQ7.out) (i := cap) (n := len - cap) (by have := HPL.out; omega)
         have HNW2 := hid hnw2; have HAL3 := hid hal2; clear hnw2 hal2
         refine recL.step_append rfl _ _ 44 rfl Tryz.underlying44 KR rfl HO7.out ⟨g, 0, none⟩ (len - cap) 0 nw2 (ys := ((ps.drop cap).take (len - cap)).map (·.1)) (f := ((ps.drop cap).take (len - cap)).flatMap (·.2)) rfl (by rw [List.length_map, List.length_take, List.length_drop]; have := HPL.out; omega) (fun j u h => by rw [Addr.add_lit]; have := HNW2.out j u h; have hl := recL.all_len HAL3.out; rw [show len - cap = 0 by have := HCP.out.1; have := HLX.out; omega] at hl; simp at hl; subst hl; simp at h) HAL3.out (fun g2 e hm => by have h1 := HFP.out _ (q1n hm); have h2 := HCW.out.size; have h3 := HH7.out g2 e; omega) (by rw [List.length_map, List.length_take, List.length_drop]; have := HL7.out; have := HPL.out; simp only [maxLen]; omega) (by rw [List.length_map, List.length_take, List.length_drop]; have := HL7.out; have := HPL.out; omega) ?_
         intro v11 w11 h11 ho11 hh11 hc11
         have HQ11 := hid (HQ7.out.trans hc11 (fun y hy => .inr (by cases h7 with | none => simp at hy | some y4 => simp at hy; subst hy; exact HH7.out _ rfl)))
         have HH11 := hid (show ∀ y, h11 = some y → wd.heap.size ≤ y from fun y e => by rcases hh11 with rfl | rfl; exact HH7.out y e; cases e; exact HQ7.out.size)
         have HO11 := hid ho11; clear ho11 hh11 hc11
         have HSH11 := hid (q6e HO11.out HH11.out (Nat.le_trans HN0.out HCW.out.size) (ps := ps) (fq := fq) HFP.out HFQ.out (by rw [HY7.out]; simp))
         refine hK.out _ _ (HSI.out _ (Know.of (HQ11.out.keep0 HBX.out))) (fun hS9 => ?_)
         clear hK K
         try simp only [Act.put, pA, pB, pC]
         refine rgT 12 hS9 ?_
         refine wpAnyH_done (by kernel_rfl) ?_ _
         go_wp2_with fail
         have HF := hid (And.intro HSH11.out (HCW.out.trans0 HQ11.out))
         go_roundw
         case rel => exact ⟨j + 1, _, _, rfl, by omega, by go_num, HSS2, by have := HF.out.1; rw [HY7.out, HY4.out, HNEW.out] at this; exact this.row, HF.out.2⟩
         case measure => simp [intOf]; omega
       ·have HR6 := hid (show (wd.alloc (.cells #[.int .i64 r.kind, .int .i64 r.seq, .string r.name, .int .i64 r.length, .int .i64 r.group, .int .i64 r.row, .slice a6 l6 c6, .slice a7 l7 c7, .slice a8 l8 c8] 67)).heap[wd.heap.size]? = some (.cells #[.int .i64 r.kind, .int .i64 r.seq, .string r.name, .int .i64 r.length, .int .i64 r.group, .int .i64 r.row, .slice a6 l6 c6, .slice a7 l7 c7, .slice a8 l8 c8] 67 (0, 0)) from q0d (by simp) _)
        go_simp
        refine hK.out _ _ (HSI.out _ (Know.of (((Chg.refl [] wd).alloc (.cells #[.int .i64 r.kind, .int .i64 r.seq, .string r.name, .int .i64 r.length, .int .i64 r.group, .int .i64 r.row, .slice a6 l6 c6, .slice a7 l7 c7, .slice a8 l8 c8] 67)).keep0 HBX.out))) (fun hS10 => ?_)
        clear hK K
        try simp only [Act.put, pA, pB, pC]
        refine q0c 0 rfl (by kernel_rfl) (fun K hK => ?_)
        have HM := hid (q6o (wd.alloc (.cells #[.int .i64 r.kind, .int .i64 r.seq, .string r.name, .int .i64 r.length, .int .i64 r.group, .int .i64 r.row, .slice a6 l6 c6, .slice a7 l7 c7, .slice a8 l8 c8] 67)) (wd.heap.size + 1) (by simp))
        go_simp
        refine hK.out _ _ (HSI.out _ (Know.of ((((Chg.refl [] wd).alloc (.cells #[.int .i64 r.kind, .int .i64 r.seq, .string r.name, .int .i64 r.length, .int .i64 r.group, .int .i64 r.row, .slice a6 l6 c6, .slice a7 l7 c7, .slice a8 l8 c8] 67)).alloc (.cells #[] 67)).keep0 HBX.out))) (fun hS11 => ?_)
        clear hK K
        try simp only [Act.put, pA, pB, pC]
        refine q0c 4 rfl (by kernel_rfl) (fun K hK => ?_)
        obtain ⟨nw, hnw, hal⟩ := q1r (HROW.out.ext (((Chg.refl [] wd).alloc (.cells #[.int .i64 r.kind, .int .i64 r.seq, .string r.name, .int .i64 r.length, .int .i64 r.group, .int .i64 r.row, .slice a6 l6 c6, .slice a7 l7 c7, .slice a8 l8 c8] 67)).alloc (.cells #[] 67))) (i := 0) (n := cap) (by have := HPL.out; omega)
        have HNW := hid hnw; have HAL2 := hid hal; clear hnw hal
        refine recL.step_append rfl _ _ 44 rfl Tryz.underlying44 KR rfl HM.out ⟨g, 0, none⟩ cap cap nw (ys := ((ps.drop 0).take cap).map (·.1)) (f := ((ps.drop 0).take cap).flatMap (·.2)) rfl (by rw [List.length_map, List.length_take, List.drop_zero]; have := HPL.out; omega) (fun j u h => by rw [Addr.add_lit]; have := HNW.out j u h; simpa using this) HAL2.out (fun g2 e hm => by cases e; have h1 := HFP.out _ (q1n hm); have h2 := HCW.out.size; omega) (by rw [List.length_map, List.length_take, List.drop_zero]; simp only [List.length_nil, maxLen]; omega) (by rw [List.length_map, List.length_take, List.drop_zero]; simp only [List.length_nil]; omega) ?_
        intro v4 w4 h4 ho4 hh4 hc4
        obtain ⟨y4, hy4⟩ : ∃ y4, y4 = [] ++ ((ps.drop 0).take cap).map (·.1) := ⟨_, rfl⟩
        rw [← hy4] at ho4
        have HL4 := hid (show y4.length ≤ 1000000 by rw [hy4, List.nil_append, List.length_map, List.length_take, List.drop_zero]; omega); have HY4 := hid hy4
        clear hy4
        have HQ4 := hid ((((Chg.refl [] wd).alloc (.cells #[.int .i64 r.kind, .int .i64 r.seq, .string r.name, .int .i64 r.length, .int .i64 r.group, .int .i64 r.row, .slice a6 l6 c6, .slice a7 l7 c7, .slice a8 l8 c8] 67)).alloc (.cells #[] 67)).trans hc4 (fun y hy => .inr (by simp at hy; omega)))
        obtain ⟨a4, c4, rfl⟩ := recL.os_len ho4
        have HO4 := hid ho4; have HH4 := hid (show ∀ y, h4 = some y → wd.heap.size ≤ y from fun y e => by rcases hh4 with rfl | rfl <;> cases e <;> simp <;> omega)
        have HR64 := hid (hc4.keepb (q0b HR6.out (.cells #[] 67)) (by simp <;> omega))
        clear ho4 hh4 hc4
        refine hK.out _ _ (HSI.out _ (Know.of (HQ4.out.keep0 HBX.out))) (fun hS12 => ?_)
        clear hK K
        try simp only [Act.put, pA, pB, pC]
        refine q0c 7 rfl (by kernel_rfl) (fun K hK => ?_)
        refine recL.step_append rfl _ _ 44 rfl Tryz.underlying44 KR rfl HO4.out ⟨wd.heap.size, 0, none⟩ 1 1 [.int .i64 r.kind, .int .i64 r.seq, .string r.name, .int .i64 r.length, .int .i64 r.group, .int .i64 r.row, .slice a6 l6 c6, .slice a7 l7 c7, .slice a8 l8 c8] (ys := [r]) (f := fq) rfl rfl (q2g HR64.out) (recL.all_single (recL.ext HXS.out HQ4.out)) (fun g2 e hm => by have h1 := HFQ.out g2 hm; have h2 := HCW.out.size; have h3 := HH4.out g2 e; omega) (by have := HL4.out; simp only [List.length_singleton, maxLen]; omega) (by have := HL4.out; simp only [List.length_singleton]; omega) ?_
        intro v7 w7 h7 ho7 hh7 hc7
        obtain ⟨y7, hy7⟩ : ∃ y7, y7 = y4 ++ [r] := ⟨_, rfl⟩
        rw [← hy7] at ho7
        have HL7 := hid (show y7.length ≤ 1000001 by rw [hy7, List.length_append, List.length_singleton]; have := HL4.out; omega); have HY7 := hid hy7
        clear hy7
        have HQ7 := hid (HQ4.out.trans hc7 (fun y hy => .inr (by cases h4 with | none => simp at hy | some y4 => simp at hy; subst hy; exact HH4.out _ rfl)))
        obtain ⟨a7', c7', rfl⟩ := recL.os_len ho7
        have HO7 := hid ho7; have HH7 := hid (show ∀ y, h7 = some y → wd.heap.size ≤ y from fun y e => by rcases hh7 with rfl | rfl; exact HH4.out y e; cases e; exact HQ4.out.size)
        clear ho7 hh7 hc7
        refine hK.out _ _ (HSI.out _ (Know.of (HQ7.out.keep0 HBX.out))) (fun hS13 => ?_)
        clear hK K
        try simp only [Act.put, pA, pB, pC]
        refine q0c 11 rfl (by kernel_rfl) (fun K hK => ?_)
        obtain ⟨nw2, hnw2, hal2⟩ := q1r (HROW.out.ext HQ7.out) (i := cap) (n := len - cap) (by have := HPL.out; omega)
        have HNW2 := hid hnw2; have HAL3 := hid hal2; clear hnw2 hal2
        refine recL.step_append rfl _ _ 44 rfl Tryz.underlying44 KR rfl HO7.out ⟨g, 0, none⟩ (len - cap) 0 nw2 (ys := ((ps.drop cap).take (len - cap)).map (·.1)) (f := ((ps.drop cap).take (len - cap)).flatMap (·.2)) rfl (by rw [List.length_map, List.length_take, List.length_drop]; have := HPL.out; omega) (fun j u h => by rw [Addr.add_lit]; have := HNW2.out j u h; have hl := recL.all_len HAL3.out; rw [show len - cap = 0 by have := HCP.out.1; have := HLX.out; omega] at hl; simp at hl; subst hl; simp at h) HAL3.out (fun g2 e hm => by have h1 := HFP.out _ (q1n hm); have h2 := HCW.out.size; have h3 := HH7.out g2 e; omega) (by rw [List.length_map, List.length_take, List.length_drop]; have := HL7.out; have := HPL.out; simp only [maxLen]; omega) (by rw [List.length_map, List.length_take, List.length_drop]; have := HL7.out; have := HPL.out; omega) ?_
        intro v11 w11 h11 ho11 hh11 hc11
        have HQ11 := hid (HQ7.out.trans hc11 (fun y hy => .inr (by cases h7 with | none => simp at hy | some y4 => simp at hy; subst hy; exact HH7.out _ rfl)))
        have HH11 := hid (show ∀ y, h11 = some y → wd.heap.size ≤ y from fun y e => by rcases hh11 with rfl | rfl; exact HH7.out y e; cases e; exact HQ7.out.size)
        have HO11 := hid ho11; clear ho11 hh11 hc11
        have HSH11 := hid (q6e HO11.out HH11.out (Nat.le_trans HN0.out HCW.out.size) (ps := ps) (fq := fq) HFP.out HFQ.out (by rw [HY7.out]; simp))
        refine hK.out _ _ (HSI.out _ (Know.of (HQ11.out.keep0 HBX.out))) (fun hS14 => ?_)
        clear hK K
        try simp only [Act.put, pA, pB, pC]
        refine rgT 12 hS14 ?_
        refine wpAnyH_done (by kernel_rfl) ?_ _
        go_wp2_with fail
        have HF := hid (And.intro HSH11.out (HCW.out.trans0 HQ11.out))
        go_roundw
        case rel => exact ⟨j + 1, _, _, rfl, by omega, by go_num, HSS2, by have := HF.out.1; rw [HY7.out, HY4.out, HNEW.out] at this; exact this.row, HF.out.2⟩
        case measure => simp [intOf]; omega
      ·have HNEW := hid (HNEW.out (len - ac) (by have := HLX.out; omega))
       have hacc : ac ≤ cap := by have := HCP.out.1; have := HLX.out; omega
       go_wp2_with fail
       obtain ⟨SS, HSI, HSO⟩ := q0k (fun w' => Know B6 #[.int .i64 r.kind, .int .i64 r.seq, .string r.name, .int .i64 r.length, .int .i64 r.group, .int .i64 r.row, .slice a6 l6 c6, .slice a7 l7 c7, .slice a8 l8 c8] w')
       have hS0 := HSI.out _ (Know.of (q0a HBX.out))
       refine q0g SS (by kernel_rfl) hS0 ?_
       obtain ⟨wd, hwd⟩ : ∃ wd, wd = wy.drew := ⟨_, rfl⟩
       have HCD := hid (show Chg [] wy wd by rw [hwd]; exact (Chg.refl [] wy).drew)
       rw [← hwd] at hS0 ⊢
       clear hwd
       have HBD := hid (HCD.out.keep0 HBX.out)
       have HRD := hid (HROW.out.ext HCD.out); have HCE := hid (HCW.out.trans0 HCD.out); have HXD := hid (recL.ext HXS.out HCD.out)
       clear HBX HROW HCW HXS HCD
       have HBX := HBD; have HROW := HRD; have HCW := HCE; have HXS := HXD
       clear HBD HRD HCE HXD
       refine rgT 1 hS0 ?_
       refine rgT 2 hS0 ?_
       refine rgT 3 hS0 ?_
       refine rgL 5 hS0 HSO ?_
       refine rgT 8 hS0 ?_
       refine rgT 9 hS0 ?_
       refine rgT 10 hS0 ?_
       refine q5f 0 6 rfl rfl (by kernel_rfl) (fun K hK => ?_) (fun K hK => ?_)
       ·have HM := hid (q6o wd (wd.heap.size) (by simp))
        go_simp
        refine hK.out _ _ (HSI.out _ (Know.of (((Chg.refl [] wd).alloc (.cells #[] 67)).keep0 HBX.out))) (fun hS1 => ?_)
        clear hK K
        try simp only [Act.put, pA, pB, pC]
        refine q5f 4 6 rfl rfl (by kernel_rfl) (fun K hK => ?_) (fun K hK => ?_)
        ·obtain ⟨nw, hnw, hal⟩ := q1r (HROW.out.ext ((Chg.refl [] wd).alloc (.cells #[] 67))) (i := 0) (n := ac) (by have := HPL.out; omega)
         have HNW := hid hnw; have HAL2 := hid hal; clear hnw hal
         refine recL.step_append rfl _ _ 44 rfl Tryz.underlying44 KR rfl HM.out ⟨g, 0, none⟩ ac cap nw (ys := ((ps.drop 0).take ac).map (·.1)) (f := ((ps.drop 0).take ac).flatMap (·.2)) rfl (by rw [List.length_map, List.length_take, List.drop_zero]; have := HPL.out; omega) (fun j u h => by rw [Addr.add_lit]; have := HNW.out j u h; simpa using this) HAL2.out (fun g2 e hm => by cases e; have h1 := HFP.out _ (q1n hm); have h2 := HCW.out.size; omega) (by rw [List.length_map, List.length_take, List.drop_zero]; simp only [List.length_nil, maxLen]; omega) (by rw [List.length_map, List.length_take, List.drop_zero]; simp only [List.length_nil]; omega) ?_
         intro v4 w4 h4 ho4 hh4 hc4
         obtain ⟨y4, hy4⟩ : ∃ y4, y4 = [] ++ ((ps.drop 0).take ac).map (·.1) := ⟨_, rfl⟩
         rw [← hy4] at ho4
         have HL4 := hid (show y4.length ≤ 1000000 by rw [hy4, List.nil_append, List.length_map, List.length_take, List.drop_zero]; omega); have HY4 := hid hy4
         clear hy4
         have HQ4 := hid (((Chg.refl [] wd).alloc (.cells #[] 67)).trans hc4 (fun y hy => .inr (by simp at hy; omega)))
         obtain ⟨a4, c4, rfl⟩ := recL.os_len ho4
         have HO4 := hid ho4; have HH4 := hid (show ∀ y, h4 = some y → wd.heap.size ≤ y from fun y e => by rcases hh4 with rfl | rfl <;> cases e <;> simp <;> omega)
         clear ho4 hh4 hc4
         refine hK.out _ _ (HSI.out _ (Know.of (HQ4.out.keep0 HBX.out))) (fun hS2 => ?_)
         clear hK K
         try simp only [Act.put, pA, pB, pC]
         refine q0c 6 rfl (by kernel_rfl) (fun K hK => ?_)
         have HR6 := hid (show (w4.alloc (.cells #[.int .i64 r.kind, .int .i64 r.seq, .string r.name, .int .i64 r.length, .int .i64 r.group, .int .i64 r.row, .slice a6 l6 c6, .slice a7 l7 c7, .slice a8 l8 c8] 67)).heap[w4.heap.size]? = some (.cells #[.int .i64 r.kind, .int .i64 r.seq, .string r.name, .int .i64 r.length, .int .i64 r.group, .int .i64 r.row, .slice a6 l6 c6, .slice a7 l7 c7, .slice a8 l8 c8] 67 (0, 0)) from q0d (by simp) _)
         go_simp
         refine hK.out _ _ (HSI.out _ (Know.of ((HQ4.out.alloc (.cells #[.int .i64 r.kind, .int .i64 r.seq, .string r.name, .int .i64 r.length, .int .i64 r.group, .int .i64 r.row, .slice a6 l6 c6, .slice a7 l7 c7, .slice a8 l8 c8] 67)).keep0 HBX.out))) (fun hS3 => ?_)
         clear hK K
         try simp only [Act.put, pA, pB, pC]
         refine q0c 7 rfl (by kernel_rfl) (fun K hK => ?_)
         refine recL.step_append rfl _ _ 44 rfl Tryz.underlying44 KR rfl (recL.os_alloc HO4.out (.cells #[.int .i64 r.kind, .int .i64 r.seq, .string r.name, .int .i64 r.length, .int .i64 r.group, .int .i64 r.row, .slice a6 l6 c6, .slice a7 l7 c7, .slice a8 l8 c8] 67)) ⟨w4.heap.size, 0, none⟩ 1 1 [.int .i64 r.kind, .int .i64 r.seq, .string r.name, .int .i64 r.length, .int .i64 r.group, .int .i64 r.row, .slice a6 l6 c6, .slice a7 l7 c7, .slice a8 l8 c8] (ys := [r]) (f := fq) rfl rfl (q2g HR6.out) (recL.all_single (recL.ext HXS.out (HQ4.out.alloc (.cells #[.int .i64 r.kind, .int .i64 r.seq, .string r.name, .int .i64 r.length, .int .i64 r.group, .int .i64 r.row, .slice a6 l6 c6, .slice a7 l7 c7, .slice a8 l8 c8] 67)))) (fun g2 e hm => by have h1 := HFQ.out g2 hm; have h2 := HCW.out.size; have h3 := HH4.out g2 e; omega) (by have := HL4.out; simp only [List.length_singleton, maxLen]; omega) (by have := HL4.out; simp only [List.length_singleton]; omega) ?_
         intro v7 w7 h7 ho7 hh7 hc7
         obtain ⟨y7, hy7⟩ : ∃ y7, y7 = y4 ++ [r] := ⟨_, rfl⟩
         rw [← hy7] at ho7
         have HL7 := hid (show y7.length ≤ 1000001 by rw [hy7, List.length_append, List.length_singleton]; have := HL4.out; omega); have HY7 := hid hy7
         clear hy7
         have HQ7 := hid ((HQ4.out.alloc (.cells #[.int .i64 r.kind, .int .i64 r.seq, .string r.name, .int .i64 r.length, .int .i64 r.group, .int .i64 r.row, .slice a6 l6 c6, .slice a7 l7 c7, .slice a8 l8 c8] 67)).trans hc7 (fun y hy => .inr (by cases h4 with | none => simp at hy | some y4 => simp at hy; subst hy; exact HH4.out _ rfl)))
         obtain ⟨a7', c7', rfl⟩ := recL.os_len ho7
         have HO7 := hid ho7; have HH7 := hid (show ∀ y, h7 = some y → wd.heap.size ≤ y from fun y e => by rcases hh7 with rfl | rfl; exact HH4.out y e; cases e; exact (HQ4.out.alloc (.cells #[.int .i64 r.kind, .int .i64 r.seq, .string r.name, .int .i64 r.length, .int .i64 r.group, .int .i64 r.row, .slice a6 l6 c6, .slice a7 l7 c7, .slice a8 l8 c8] 67)).size)
         clear ho7 hh7 hc7
         refine hK.out _ _ (HSI.out _ (Know.of (HQ7.out.keep0 HBX.out))) (fun hS4 => ?_)
         clear hK K
         try simp only [Act.put, pA, pB, pC]
         refine q0c 11 rfl (by kernel_rfl) (fun K hK => ?_)
         obtain ⟨nw2, hnw2, hal2⟩ := q1r (HROW.out.ext HQ7.out) (i := ac) (n := len - ac) (by have := HPL.out; omega)
         have HNW2 := hid hnw2; have HAL3 := hid hal2; clear hnw2 hal2
         refine recL.step_append rfl _ _ 44 rfl Tryz.underlying44 KR rfl HO7.out ⟨g, ac * 9, none⟩ (len - ac) (cap - ac) nw2 (ys := ((ps.drop ac).take (len - ac)).map (·.1)) (f := ((ps.drop ac).take (len - ac)).flatMap (·.2)) rfl (by rw [List.length_map, List.length_take, List.length_drop]; have := HPL.out; omega) (fun j u h => by rw [Addr.add_lit]; have := HNW2.out j u h; simpa using this) HAL3.out (fun g2 e hm => by have h1 := HFP.out _ (q1n hm); have h2 := HCW.out.size; have h3 := HH7.out g2 e; omega) (by rw [List.length_map, List.length_take, List.length_drop]; have := HL7.out; have := HPL.out; simp only [maxLen]; omega) (by rw [List.length_map, List.length_take, List.length_drop]; have := HL7.out; have := HPL.out; omega) ?_
         intro v11 w11 h11 ho11 hh11 hc11
         have HQ11 := hid (HQ7.out.trans hc11 (fun y hy => .inr (by cases h7 with | none => simp at hy | some y4 => simp at hy; subst hy; exact HH7.out _ rfl)))
         have HH11 := hid (show ∀ y, h11 = some y → wd.heap.size ≤ y from fun y e => by rcases hh11 with rfl | rfl; exact HH7.out y e; cases e; exact HQ7.out.size)
         have HO11 := hid ho11; clear ho11 hh11 hc11
         have HSH11 := hid (q6e HO11.out HH11.out (Nat.le_trans HN0.out HCW.out.size) (ps := ps) (fq := fq) HFP.out HFQ.out (by rw [HY7.out]; simp))
         refine hK.out _ _ (HSI.out _ (Know.of (HQ11.out.keep0 HBX.out))) (fun hS5 => ?_)
         clear hK K
         try simp only [Act.put, pA, pB, pC]
         refine rgT 12 hS5 ?_
         refine wpAnyH_done (by kernel_rfl) ?_ _
         go_wp2_with fail
         have HF := hid (And.intro HSH11.out (HCW.out.trans0 HQ11.out))
         go_roundw
         case rel => exact ⟨j + 1, _, _, rfl, by omega, by go_num, HSS2, by have := HF.out.1; rw [HY7.out, HY4.out, HNEW.out] at this; exact this.row, HF.out.2⟩
         case measure => simp [intOf]; omega
        ·have HR6 := hid (show ((wd.alloc (.cells #[] 67)).alloc (.cells #[.int .i64 r.kind, .int .i64 r.seq, .string r.name, .int .i64 r.length, .int .i64 r.group, .int .i64 r.row, .slice a6 l6 c6, .slice a7 l7 c7, .slice a8 l8 c8] 67)).heap[wd.heap.size + 1]? = some (.cells #[.int .i64 r.kind, .int .i64 r.seq, .string r.name, .int .i64 r.length, .int .i64 r.group, .int .i64 r.row, .slice a6 l6 c6, .slice a7 l7 c7, .slice a8 l8 c8] 67 (0, 0)) from q0d (by simp) _)
         go_simp
         refine hK.out _ _ (HSI.out _ (Know.of ((((Chg.refl [] wd).alloc (.cells #[] 67)).alloc (.cells #[.int .i64 r.kind, .int .i64 r.seq, .string r.name, .int .i64 r.length, .int .i64 r.group, .int .i64 r.row, .slice a6 l6 c6, .slice a7 l7 c7, .slice a8 l8 c8] 67)).keep0 HBX.out))) (fun hS6 => ?_)
         clear hK K
         try simp only [Act.put, pA, pB, pC]
         refine q0c 4 rfl (by kernel_rfl) (fun K hK => ?_)
         obtain ⟨nw, hnw, hal⟩ := q1r (HROW.out.ext (((Chg.refl [] wd).alloc (.cells #[] 67)).alloc (.cells #[.int .i64 r.kind, .int .i64 r.seq, .string r.name, .int .i64 r.length, .int .i64 r.group, .int .i64 r.row, .slice a6 l6 c6, .slice a7 l7 c7, .slice a8 l8 c8] 67))) (i := 0) (n := ac) (by have := HPL.out; omega)
         have HNW := hid hnw; have HAL2 := hid hal; clear hnw hal
         refine recL.step_append rfl _ _ 44 rfl Tryz.underlying44 KR rfl (recL.os_alloc HM.out (.cells #[.int .i64 r.kind, .int .i64 r.seq, .string r.name, .int .i64 r.length, .int .i64 r.group, .int .i64 r.row, .slice a6 l6 c6, .slice a7 l7 c7, .slice a8 l8 c8] 67)) ⟨g, 0, none⟩ ac cap nw (ys := ((ps.drop 0).take ac).map (·.1)) (f := ((ps.drop 0).take ac).flatMap (·.2)) rfl (by rw [List.length_map, List.length_take, List.drop_zero]; have := HPL.out; omega) (fun j u h => by rw [Addr.add_lit]; have := HNW.out j u h; simpa using this) HAL2.out (fun g2 e hm => by cases e; have h1 := HFP.out _ (q1n hm); have h2 := HCW.out.size; omega) (by rw [List.length_map, List.length_take, List.drop_zero]; simp only [List.length_nil, maxLen]; omega) (by rw [List.length_map, List.length_take, List.drop_zero]; simp only [List.length_nil]; omega) ?_
         intro v4 w4 h4 ho4 hh4 hc4
         obtain ⟨y4, hy4⟩ : ∃ y4, y4 = [] ++ ((ps.drop 0).take ac).map (·.1) := ⟨_, rfl⟩
         rw [← hy4] at ho4
         have HL4 := hid (show y4.length ≤ 1000000 by rw [hy4, List.nil_append, List.length_map, List.length_take, List.drop_zero]; omega); have HY4 := hid hy4
         clear hy4
         have HQ4 := hid ((((Chg.refl [] wd).alloc (.cells #[] 67)).alloc (.cells #[.int .i64 r.kind, .int .i64 r.seq, .string r.name, .int .i64 r.length, .int .i64 r.group, .int .i64 r.row, .slice a6 l6 c6, .slice a7 l7 c7, .slice a8 l8 c8] 67)).trans hc4 (fun y hy => .inr (by simp at hy; omega)))
         obtain ⟨a4, c4, rfl⟩ := recL.os_len ho4
         have HO4 := hid ho4; have HH4 := hid (show ∀ y, h4 = some y → wd.heap.size ≤ y from fun y e => by rcases hh4 with rfl | rfl <;> cases e <;> simp <;> omega)
         have HR64 := hid (hc4.keepb HR6.out (by simp <;> omega))
         clear ho4 hh4 hc4
         refine hK.out _ _ (HSI.out _ (Know.of (HQ4.out.keep0 HBX.out))) (fun hS7 => ?_)
         clear hK K
         try simp only [Act.put, pA, pB, pC]
         refine q0c 7 rfl (by kernel_rfl) (fun K hK => ?_)
         refine recL.step_append rfl _ _ 44 rfl Tryz.underlying44 KR rfl HO4.out ⟨wd.heap.size + 1, 0, none⟩ 1 1 [.int .i64 r.kind, .int .i64 r.seq, .string r.name, .int .i64 r.length, .int .i64 r.group, .int .i64 r.row, .slice a6 l6 c6, .slice a7 l7 c7, .slice a8 l8 c8] (ys := [r]) (f := fq) rfl rfl (q2g HR64.out) (recL.all_single (recL.ext HXS.out HQ4.out)) (fun g2 e hm => by have h1 := HFQ.out g2 hm; have h2 := HCW.out.size; have h3 := HH4.out g2 e; omega) (by have := HL4.out; simp only [List.length_singleton, maxLen]; omega) (by have := HL4.out; simp only [List.length_singleton]; omega) ?_
         intro v7 w7 h7 ho7 hh7 hc7
         obtain ⟨y7, hy7⟩ : ∃ y7, y7 = y4 ++ [r] := ⟨_, rfl⟩
         rw [← hy7] at ho7
         have HL7 := hid (show y7.length ≤ 1000001 by rw [hy7, List.length_append, List.length_singleton]; have := HL4.out; omega); have HY7 := hid hy7
         clear hy7
         have HQ7 := hid (HQ4.out.trans hc7 (fun y hy => .inr (by cases h4 with | none => simp at hy | some y4 => simp at hy; subst hy; exact HH4.out _ rfl)))
         obtain ⟨a7', c7', rfl⟩ := recL.os_len ho7
         have HO7 := hid ho7; have HH7 := hid (show ∀ y, h7 = some y → wd.heap.size ≤ y from fun y e => by rcases hh7 with rfl | rfl; exact HH4.out y e; cases e; exact HQ4.out.size)
         clear ho7 hh7 hc7
         refine hK.out _ _ (HSI.out _ (Know.of (HQ7.out.keep0 HBX.out))) (fun hS8 => ?_)
         clear hK K
         try simp only [Act.put, pA, pB, pC]
         refine q0c 11 rfl (by kernel_rfl) (fun K hK => ?_)
         obtain ⟨nw2, hnw2, hal2⟩ := q1r (HROW.out.ext HQ7.out) (i := ac) (n := len - ac) (by have := HPL.out; omega)
         have HNW2 := hid hnw2; have HAL3 := hid hal2; clear hnw2 hal2
         refine recL.step_append rfl _ _ 44 rfl Tryz.underlying44 KR rfl HO7.out ⟨g, ac * 9, none⟩ (len - ac) (cap - ac) nw2 (ys := ((ps.drop ac).take (len - ac)).map (·.1)) (f := ((ps.drop ac).take (len - ac)).flatMap (·.2)) rfl (by rw [List.length_map, List.length_take, List.length_drop]; have := HPL.out; omega) (fun j u h => by rw [Addr.add_lit]; have := HNW2.out j u h; simpa using this) HAL3.out (fun g2 e hm => by have h1 := HFP.out _ (q1n hm); have h2 := HCW.out.size; have h3 := HH7.out g2 e; omega) (by rw [List.length_map, List.length_take, List.length_drop]; have := HL7.out; have := HPL.out; simp only [maxLen]; omega) (by rw [List.length_map, List.length_take, List.length_drop]; have := HL7.out; have := HPL.out; omega) ?_
         intro v11 w11 h11 ho11 hh11 hc11
         have HQ11 := hid (HQ7.out.trans hc11 (fun y hy => .inr (by cases h7 with | none => simp at hy | some y4 => simp at hy; subst hy; exact HH7.out _ rfl)))
         have HH11 := hid (show ∀ y, h11 = some y → wd.heap.size ≤ y from fun y e => by rcases hh11 with rfl | rfl; exact HH7.out y e; cases e; exact HQ7.out.size)
         have HO11 := hid ho11; clear ho11 hh11 hc11
         have HSH11 := hid (q6e HO11.out HH11.out (Nat.le_trans HN0.out HCW.out.size) (ps := ps) (fq := fq) HFP.out HFQ.out (by rw [HY7.out]; simp))
         refine hK.out _ _ (HSI.out _ (Know.of (HQ11.out.keep0 HBX.out))) (fun hS9 => ?_)
         clear hK K
         try simp only [Act.put, pA, pB, pC]
         refine rgT 12 hS9 ?_
         refine wpAnyH_done (by kernel_rfl) ?_ _
         go_wp2_with fail
         have HF := hid (And.intro HSH11.out (HCW.out.trans0 HQ11.out))
         go_roundw
         case rel => exact ⟨j + 1, _, _, rfl, by omega, by go_num, HSS2, by have := HF.out.1; rw [HY7.out, HY4.out, HNEW.out] at this; exact this.row, HF.out.2⟩
         case measure => simp [intOf]; omega
       ·have HR6 := hid (show (wd.alloc (.cells #[.int .i64 r.kind, .int .i64 r.seq, .string r.name, .int .i64 r.length, .int .i64 r.group, .int .i64 r.row, .slice a6 l6 c6, .slice a7 l7 c7, .slice a8 l8 c8] 67)).heap[wd.heap.size]? = some (.cells #[.int .i64 r.kind, .int .i64 r.seq, .string r.name, .int .i64 r.length, .int .i64 r.group, .int .i64 r.row, .slice a6 l6 c6, .slice a7 l7 c7, .slice a8 l8 c8] 67 (0, 0)) from q0d (by simp) _)
        go_simp
        refine hK.out _ _ (HSI.out _ (Know.of (((Chg.refl [] wd).alloc (.cells #[.int .i64 r.kind, .int .i64 r.seq, .string r.name, .int .i64 r.length, .int .i64 r.group, .int .i64 r.row, .slice a6 l6 c6, .slice a7 l7 c7, .slice a8 l8 c8] 67)).keep0 HBX.out))) (fun hS10 => ?_)
        clear hK K
        try simp only [Act.put, pA, pB, pC]
        refine q0c 0 rfl (by kernel_rfl) (fun K hK => ?_)
        have HM := hid (q6o (wd.alloc (.cells #[.int .i64 r.kind, .int .i64 r.seq, .string r.name, .int .i64 r.length, .int .i64 r.group, .int .i64 r.row, .slice a6 l6 c6, .slice a7 l7 c7, .slice a8 l8 c8] 67)) (wd.heap.size + 1) (by simp))
        go_simp
        refine hK.out _ _ (HSI.out _ (Know.of ((((Chg.refl [] wd).alloc (.cells #[.int .i64 r.kind, .int .i64 r.seq, .string r.name, .int .i64 r.length, .int .i64 r.group, .int .i64 r.row, .slice a6 l6 c6, .slice a7 l7 c7, .slice a8 l8 c8] 67)).alloc (.cells #[] 67)).keep0 HBX.out))) (fun hS11 => ?_)
        clear hK K
        try simp only [Act.put, pA, pB, pC]
        refine q0c 4 rfl (by kernel_rfl) (fun K hK => ?_)
        obtain ⟨nw, hnw, hal⟩ := q1r (HROW.out.ext (((Chg.refl [] wd).alloc (.cells #[.int .i64 r.kind, .int .i64 r.seq, .string r.name, .int .i64 r.length, .int .i64 r.group, .int .i64 r.row, .slice a6 l6 c6, .slice a7 l7 c7, .slice a8 l8 c8] 67)).alloc (.cells #[] 67))) (i := 0) (n := ac) (by have := HPL.out; omega)
        have HNW := hid hnw; have HAL2 := hid hal; clear hnw hal
        refine recL.step_append rfl _ _ 44 rfl Tryz.underlying44 KR rfl HM.out ⟨g, 0, none⟩ ac cap nw (ys := ((ps.drop 0).take ac).map (·.1)) (f := ((ps.drop 0).take ac).flatMap (·.2)) rfl (by rw [List.length_map, List.length_take, List.drop_zero]; have := HPL.out; omega) (fun j u h => by rw [Addr.add_lit]; have := HNW.out j u h; simpa using this) HAL2.out (fun g2 e hm => by cases e; have h1 := HFP.out _ (q1n hm); have h2 := HCW.out.size; omega) (by rw [List.length_map, List.length_take, List.drop_zero]; simp only [List.length_nil, maxLen]; omega) (by rw [List.length_map, List.length_take, List.drop_zero]; simp only [List.length_nil]; omega) ?_
        intro v4 w4 h4 ho4 hh4 hc4
        obtain ⟨y4, hy4⟩ : ∃ y4, y4 = [] ++ ((ps.drop 0).take ac).map (·.1) := ⟨_, rfl⟩
        rw [← hy4] at ho4
        have HL4 := hid (show y4.length ≤ 1000000 by rw [hy4, List.nil_append, List.length_map, List.length_take, List.drop_zero]; omega); have HY4 := hid hy4
        clear hy4
        have HQ4 := hid ((((Chg.refl [] wd).alloc (.cells #[.int .i64 r.kind, .int .i64 r.seq, .string r.name, .int .i64 r.length, .int .i64 r.group, .int .i64 r.row, .slice a6 l6 c6, .slice a7 l7 c7, .slice a8 l8 c8] 67)).alloc (.cells #[] 67)).trans hc4 (fun y hy => .inr (by simp at hy; omega)))
        obtain ⟨a4, c4, rfl⟩ := recL.os_len ho4
        have HO4 := hid ho4; have HH4 := hid (show ∀ y, h4 = some y → wd.heap.size ≤ y from fun y e => by rcases hh4 with rfl | rfl <;> cases e <;> simp <;> omega)
        have HR64 := hid (hc4.keepb (q0b HR6.out (.cells #[] 67)) (by simp <;> omega))
        clear ho4 hh4 hc4
        refine hK.out _ _ (HSI.out _ (Know.of (HQ4.out.keep0 HBX.out))) (fun hS12 => ?_)
        clear hK K
        try simp only [Act.put, pA, pB, pC]
        refine q0c 7 rfl (by kernel_rfl) (fun K hK => ?_)
        refine recL.step_append rfl _ _ 44 rfl Tryz.underlying44 KR rfl HO4.out ⟨wd.heap.size, 0, none⟩ 1 1 [.int .i64 r.kind, .int .i64 r.seq, .string r.name, .int .i64 r.length, .int .i64 r.group, .int .i64 r.row, .slice a6 l6 c6, .slice a7 l7 c7, .slice a8 l8 c8] (ys := [r]) (f := fq) rfl rfl (q2g HR64.out) (recL.all_single (recL.ext HXS.out HQ4.out)) (fun g2 e hm => by have h1 := HFQ.out g2 hm; have h2 := HCW.out.size; have h3 := HH4.out g2 e; omega) (by have := HL4.out; simp only [List.length_singleton, maxLen]; omega) (by have := HL4.out; simp only [List.length_singleton]; omega) ?_
        intro v7 w7 h7 ho7 hh7 hc7
        obtain ⟨y7, hy7⟩ : ∃ y7, y7 = y4 ++ [r] := ⟨_, rfl⟩
        rw [← hy7] at ho7
        have HL7 := hid (show y7.length ≤ 1000001 by rw [hy7, List.length_append, List.length_singleton]; have := HL4.out; omega); have HY7 := hid hy7
        clear hy7
        have HQ7 := hid (HQ4.out.trans hc7 (fun y hy => .inr (by cases h4 with | none => simp at hy | some y4 => simp at hy; subst hy; exact HH4.out _ rfl)))
        obtain ⟨a7', c7', rfl⟩ := recL.os_len ho7
        have HO7 := hid ho7; have HH7 := hid (show ∀ y, h7 = some y → wd.heap.size ≤ y from fun y e => by rcases hh7 with rfl | rfl; exact HH4.out y e; cases e; exact HQ4.out.size)
        clear ho7 hh7 hc7
        refine hK.out _ _ (HSI.out _ (Know.of (HQ7.out.keep0 HBX.out))) (fun hS13 => ?_)
        clear hK K
        try simp only [Act.put, pA, pB, pC]
        refine q0c 11 rfl (by kernel_rfl) (fun K hK => ?_)
        obtain ⟨nw2, hnw2, hal2⟩ := q1r (HROW.out.ext HQ7.out) (i := ac) (n := len - ac) (by have := HPL.out; omega)
        have HNW2 := hid hnw2; have HAL3 := hid hal2; clear hnw2 hal2
        refine recL.step_append rfl _ _ 44 rfl Tryz.underlying44 KR rfl HO7.out ⟨g, ac * 9, none⟩ (len - ac) (cap - ac) nw2 (ys := ((ps.drop ac).take (len - ac)).map (·.1)) (f := ((ps.drop ac).take (len - ac)).flatMap (·.2)) rfl (by rw [List.length_map, List.length_take, List.length_drop]; have := HPL.out; omega) (fun j u h => by rw [Addr.add_lit]; have := HNW2.out j u h; simpa using this) HAL3.out (fun g2 e hm => by have h1 := HFP.out _ (q1n hm); have h2 := HCW.out.size; have h3 := HH7.out g2 e; omega) (by rw [List.length_map, List.length_take, List.length_drop]; have := HL7.out; have := HPL.out; simp only [maxLen]; omega) (by rw [List.length_map, List.length_take, List.length_drop]; have := HL7.out; have := HPL.out; omega) ?_
        intro v11 w11 h11 ho11 hh11 hc11
        have HQ11 := hid (HQ7.out.trans hc11 (fun y hy => .inr (by cases h7 with | none => simp at hy | some y4 => simp at hy; subst hy; exact HH7.out _ rfl)))
        have HH11 := hid (show ∀ y, h11 = some y → wd.heap.size ≤ y from fun y e => by rcases hh11 with rfl | rfl; exact HH7.out y e; cases e; exact HQ7.out.size)
        have HO11 := hid ho11; clear ho11 hh11 hc11
        have HSH11 := hid (q6e HO11.out HH11.out (Nat.le_trans HN0.out HCW.out.size) (ps := ps) (fq := fq) HFP.out HFQ.out (by rw [HY7.out]; simp))
        refine hK.out _ _ (HSI.out _ (Know.of (HQ11.out.keep0 HBX.out))) (fun hS14 => ?_)
        clear hK K
        try simp only [Act.put, pA, pB, pC]
        refine rgT 12 hS14 ?_
        refine wpAnyH_done (by kernel_rfl) ?_ _
        go_wp2_with fail
        have HF := hid (And.intro HSH11.out (HCW.out.trans0 HQ11.out))
        go_roundw
        case rel => exact ⟨j + 1, _, _, rfl, by omega, by go_num, HSS2, by have := HF.out.1; rw [HY7.out, HY4.out, HNEW.out] at this; exact this.row, HF.out.2⟩
        case measure => simp [intOf]; omega
     ·have HDS := hid (show dedF acc (X.recs.take (j + 1)) = dedF acc (X.recs.take j) by rw [HNJ.out]; unfold dedS; rw [← HV.out]; rfl)
      have HSR := hid (show Rwd n0 w3 (.slice (some ⟨g, 0, none⟩) len cap) xs from hshr HROWQ.out HPM.out HLX.out HGN.out HCP.out HFP.out HQ3.out)
      go_wp2_with fail
      go_roundw
      case rel => exact ⟨j + 1, xs, _, rfl, by omega, by go_num, by rw [HDS.out]; exact HSS, HSR.out, HC3.out⟩
      case measure => simp [intOf]; omega
    ·obtain rfl : j = l1 := by omega
     rw [List.take_of_length_le (by have := HL1.out; omega), ← HNX.out] at HSS
     have HSH := hid hsh
     clear hsh hc
     go_wp2_with fail
     go_roundw
     case rel => exact ⟨k + 1, xs, _, rfl, by omega, by go_num, HSS, HSH.out, HC.out⟩
     case measure => simp [intOf]; omega
  ·obtain rfl : k = 2 := by omega
   rw [List.take_of_length_le (by have := HL.out; omega)] at HSO
   have hu := cnt_uniq HSO.out.1 HSO.out.2
   have HR := hid (And.intro hsh hc)
   clear hsh hc
   go_wp2_with fail
   go_ret
   subst hu
   exact ⟨_, rfl, HR.out.1, HR.out.2⟩
theorem z2i (m : Nat) {u0 u1 u2 u3 u4 u5 u6 u7 u8 u9 u10 u12 u13 u14 : Value} (a12 : Option Addr) (c12 : Nat) (f12 : List Nat) (ts : List Tap) (w : World) (h : w.heap[m]? = some (.cells #[u0, u1, u2, u3, u4, u5, u6, u7, u8, u9, u10, .slice a12 2 c12, u12, u13, u14] 34 (0, 0))) (h12 : tapL.sl w a12 2 c12 ts f12) (hz : (ts.flatMap (·.recs)).length ≤ 1000000) :
  Calls Tryz.prog 92 #[.pointer (some ⟨m, 0, none⟩)] w fun e w' => ∃ v, e = .returned v ∧ Rwd w.heap.size w' v (cntL ts) ∧ Chg [] w w' :=
 l6Counted_at w.heap.size m a12 c12 f12 ts w h h12 hz (Nat.le_refl _) (fun y hy => tapL.sl_lt h12 y hy)
theorem z1h {x : Wld} (hf : x.fault = 0) : x.tapes.length = 2 ∧ ∀ t ∈ x.tapes, t.recs.length ≤ 200 := by
 refine ⟨Classical.byContradiction (fun hn => ?_), fun t ht => Classical.byContradiction (fun hn => ?_)⟩
 ·unfold Wld.fault at hf
  rw [q0h (P := x.built ∧ x.onOk ∧ x.tapes.length = 2) (fun g => hn g.2.2)] at hf
  split at hf <;> simp at hf
 ·unfold Wld.fault at hf
  have h2 : x.tapF = 2 := by unfold Wld.tapF; rw [if_pos (q0i ⟨t, ht, by omega⟩)]
  rw [h2] at hf
  split at hf
  ·split at hf
   ·simp at hf
   ·omega
  ·omega
theorem flat_le : ∀ (ts : List Tap) (_ : ∀ t ∈ ts, t.recs.length ≤ 200), (ts.flatMap (·.recs)).length ≤ 200 * ts.length
 | [], _ => by simp
 | t :: ts, h => by
  rw [List.flatMap_cons, List.length_append, List.length_cons]
  have h1 := h t (by simp)
  have h2 := flat_le ts (fun t ht => h t (by simp [ht]))
  omega
theorem q8o {x : Wld} (hf : x.fault = 0) : (x.tapes.flatMap (·.recs)).length ≤ 400 := by
 have h := z1h hf
 have h2 := flat_le x.tapes h.2
 rw [h.1] at h2; exact h2
theorem cntL_400 {x : Wld} (hf : x.fault = 0) : (cntL x.tapes).length ≤ 400 := Nat.le_trans (cntL_len x.tapes) (q8o hf)
theorem z0r.rwd {xs : List Rec} {w : World} {e : Ending} {w' : World} (h : z0r xs w e w') : ∃ v, e = .returned v ∧ Rwd w.heap.size w' v xs ∧ Chg [] w w' := by
 obtain ⟨g, n, cap, qs, rfl, h1, h2, h3, h4, h5, h6, h7, h8⟩ := h
 have hl : n = xs.length := by rw [h3, ← h2, List.length_map]
 subst hl
 exact ⟨_, rfl, ⟨g, cap, qs, rfl, h1, h2, h4, h5, h6, h7⟩, h8⟩
theorem Rwd.sl {n0 : Nat} {w : World} {v : Value} {xs : List Rec} (h : Rwd n0 w v xs) : ∃ a l cap f, v = .slice a l cap ∧ recL.sl w a l cap xs f ∧ l = xs.length := by
 obtain ⟨g, cap, ps, h1, h2, h3, h4, h5, h6, h7⟩ := h
 have hl : xs.length = ps.length := by rw [← h3, List.length_map]
 have := h2.sl hl h5 h6
 rw [h3] at this
 exact ⟨_, _, _, _, h1, this, rfl⟩
theorem filt_next {α : Type} {p : α → Bool} {xs : List α} {k : Nat} {x : α} (h : xs[k]? = some x) : (xs.take (k + 1)).filter p = (xs.take k).filter p ++ (if p x then [x] else []) := by
 rw [q1d h, List.filter_append]
 cases hp : p x <;> simp [hp]
theorem filt_yes {α : Type} {p : α → Bool} {xs : List α} {k : Nat} {x : α} (h : xs[k]? = some x) (hp : p x = true) : (xs.take (k + 1)).filter p = (xs.take k).filter p ++ [x] := by
 rw [filt_next h, if_pos hp]
theorem filt_no {α : Type} {p : α → Bool} {xs : List α} {k : Nat} {x : α} (h : xs[k]? = some x) (hp : p x = false) : (xs.take (k + 1)).filter p = (xs.take k).filter p := by
 rw [filt_next h, if_neg (by rw [hp]; simp), List.append_nil]
noncomputable def nwI (l : List Rec) (nm : ByteArray) : Nat → Int
 | 0 => -1
 | k + 1 => if ((l[k]?.map (fun x => pb (x.kind = 1 ∧ x.name = nm))).getD false) = true then (k : Int) else nwI l nm k
theorem q6x {l : List Rec} {nm : ByteArray} {k : Nat} {x : Rec} (h : l[k]? = some x) : nwI l nm (k + 1) = if pb (x.kind = 1 ∧ x.name = nm) = true then (k : Int) else nwI l nm k := by
 show (if ((l[k]?.map (fun x => pb (x.kind = 1 ∧ x.name = nm))).getD false) = true then (k : Int) else nwI l nm k) = _
 rw [h]; rfl
theorem nwI_lt (l : List Rec) (nm : ByteArray) : ∀ k, -1 ≤ nwI l nm k ∧ nwI l nm k < k
 | 0 => ⟨Int.le_refl _, by show (-1 : Int) < 0; omega⟩
 | k + 1 => by
  have h := nwI_lt l nm k
  show -1 ≤ (if _ then (k : Int) else nwI l nm k) ∧ (if _ then (k : Int) else nwI l nm k) < ((k + 1 : Nat) : Int)
  split <;> omega
theorem q8d {x : Wld} (hf : x.fault = 0) : x.shape.ok := Classical.byContradiction fun hn => by
 unfold Wld.fault at hf
 rw [q0h hn] at hf
 simp at hf
theorem recsF_0 (s : Shp) : ∀ (rs : List Rec), q3u s rs = 0 → ∀ r ∈ rs, recV s r = 0
 | [], _, r, hr => by cases hr
 | q :: qs, h, r, hr => by
  unfold q3u at h
  split at h
  ·rename_i h0
   rcases List.mem_cons.1 hr with rfl | hr
   ·exact h0
   ·exact recsF_0 s qs h r hr
  ·rename_i h0; exact absurd h h0
theorem tapsF_0 (s : Shp) : ∀ (ts : List Tap), q4c s ts = 0 → ∀ t ∈ ts, ∀ r ∈ t.recs, recV s r = 0
 | [], _, t, ht => by cases ht
 | q :: qs, h, t, ht => by
  unfold q4c at h
  split at h
  ·rename_i h0
   rcases List.mem_cons.1 ht with rfl | ht
   ·exact recsF_0 s _ h0
   ·exact tapsF_0 s qs h t ht
  ·rename_i h0; exact absurd h h0
theorem z1i {x : Wld} (hf : x.fault = 0) : ∀ t ∈ x.tapes, ∀ r ∈ t.recs, recV x.shape r = 0 := by
 have ht : q4c x.shape x.tapes = 0 := by
  refine Classical.byContradiction fun hn => ?_
  have h2 : ¬ x.tapF = 0 := by
   unfold Wld.tapF
   split
   ·simp
   ·first | exact hn | (rw [if_neg hn]; exact hn)
  unfold Wld.fault at hf
  repeat' split at hf
  all_goals first | (exact absurd hf h2) | (exact absurd ‹x.tapF = 0› h2) | (simp at hf)
 exact tapsF_0 _ _ ht
theorem recV_kind0 {s : Shp} {r : Rec} (h : recV s r = 0) : 1 ≤ r.kind ∧ r.kind ≤ 4 := Classical.byContradiction fun hn => by
 rw [q9w hn] at h; cases h
def SlR (xs : List Rec) (w : World) (e : Ending) (w' : World) : Prop := ∃ a l c f, e = .returned (.slice a l c) ∧ recL.sl w' a l c xs f ∧ Chg [] w w'
theorem SlR.of {xs : List Rec} {n0 : Nat} {w : World} {e : Ending} {w' : World} {v : Value} (he : e = .returned v) (h : Rwd n0 w' v xs) (hc : Chg [] w w') : SlR xs w e w' := by
 obtain ⟨a, l, c, f, rfl, hs, -⟩ := h.sl
 exact ⟨a, l, c, f, he, hs, hc⟩
def ShF (n0 : Nat) (f : List Nat) (w : World) (v : Value) (xs : List Rec) : Prop := ∃ g fps, recL.os 67 w v xs (some g) fps ∧ n0 ≤ g ∧ g ∉ f ∧ ∀ y ∈ fps, y ∈ f
theorem ShF.ext {n0 : Nat} {f : List Nat} {w w' : World} {v : Value} {xs : List Rec} (h : ShF n0 f w v xs) (hc : Chg [] w w') : ShF n0 f w' v xs := by
 obtain ⟨g, fps, h1, h2⟩ := h
 exact ⟨g, fps, recL.os_ext h1 hc, h2⟩
theorem ShF.made {n0 : Nat} {f : List Nat} {w : World} (h : n0 ≤ w.heap.size) (hf : w.heap.size ∉ f) : ShF n0 f (w.alloc (.cells #[] 67)) (.slice (some ⟨w.heap.size, 0, none⟩) 0 0) [] :=
 ⟨w.heap.size, [], recL.os_made 67 w #[] 0 (by simp [maxLen]) (by simp), h, hf, by simp⟩
theorem ShF.made2 {n0 n : Nat} {f : List Nat} {w : World} (hn : n = w.heap.size) (h : n0 ≤ n) (hf : n ∉ f) : ShF n0 f (w.alloc (.cells #[] 67)) (.slice (some ⟨n, 0, none⟩) 0 0) [] := by subst hn; exact ShF.made h hf
theorem ShF.step {f : List Nat} {w W w' : World} {v' : Value} {xs rs : List Rec} {r : Rec} {g : Nat} {fps fq : List Nat} {h' : Option Nat} {a : Option Addr} {l c : Nat} (hg : w.heap.size ≤ g) (hgf : g ∉ f) (hf : ∀ y ∈ fps, y ∈ f) (hq : ∀ y ∈ fq, y ∈ f) (hs : recL.sl W a l c rs f) (hc : Chg [] w W)
  (ho : recL.os 67 w' v' (xs ++ [r]) h' (fps ++ fq)) (hh : h' = some g ∨ h' = some W.heap.size) (hc' : Chg (some g).toList W w') : ShF w.heap.size f w' v' (xs ++ [r]) ∧ recL.sl w' a l c rs f ∧ Chg [] w w' := by
 refine ⟨?_, recL.sl_chg hs hc' (fun y hy hm => hgf (by simp at hm; exact hm ▸ hy)), hc.trans hc' (fun y hy => .inr (by simp at hy; omega))⟩
 have hff : ∀ y ∈ fps ++ fq, y ∈ f := fun y hy => (List.mem_append.1 hy).elim (hf y) (hq y)
 rcases hh with rfl | rfl
 ·exact ⟨g, _, ho, hg, hgf, hff⟩
 ·exact ⟨W.heap.size, _, ho, hc.size, fun hm => Nat.lt_irrefl _ (recL.sl_lt hs _ hm), hff⟩
theorem ShF.step2 {F : List Nat} {w W w' : World} {v' : Value} {xs : List Rec} {r : Rec} {g : Nat} {fps fq : List Nat} {h' : Option Nat} (hg : w.heap.size ≤ g) (hgf : g ∉ F) (hf : ∀ y ∈ fps, y ∈ F) (hq : ∀ y ∈ fq, y ∈ F) (hF : ∀ y ∈ F, y < W.heap.size) (hc : Chg [] w W)
  (ho : recL.os 67 w' v' (xs ++ [r]) h' (fps ++ fq)) (hh : h' = some g ∨ h' = some W.heap.size) (hc' : Chg (some g).toList W w') : ShF w.heap.size F w' v' (xs ++ [r]) ∧ Chg [] w w' ∧ Chg [g] W w' := by
 refine ⟨?_, hc.trans hc' (fun y hy => .inr (by simp at hy; omega)), by simpa using hc'⟩
 have hff : ∀ y ∈ fps ++ fq, y ∈ F := fun y hy => (List.mem_append.1 hy).elim (hf y) (hq y)
 rcases hh with rfl | rfl
 ·exact ⟨g, _, ho, hg, hgf, hff⟩
 ·exact ⟨W.heap.size, _, ho, hc.size, fun hm => Nat.lt_irrefl _ (hF _ hm), hff⟩
theorem bl_irr : ∀ x : List UInt8, Go.Op.bytesLess x x = false
 | [] => rfl
 | a :: x => by
  have h := bl_irr x
  unfold Go.Op.bytesLess
  rw [h]; simp
theorem bl_cons {a b : UInt8} {x y : List UInt8} : Go.Op.bytesLess (a :: x) (b :: y) = true ↔ a.toNat < b.toNat ∨ (a = b ∧ Go.Op.bytesLess x y = true) := by
 show (decide (a < b) || (a == b && Go.Op.bytesLess x y)) = true ↔ _
 rw [Bool.or_eq_true, Bool.and_eq_true, decide_eq_true_eq, beq_iff_eq, UInt8.lt_iff_toNat_lt]
theorem z2s : ∀ {x y z : List UInt8}, Go.Op.bytesLess x y = true → Go.Op.bytesLess y z = true → Go.Op.bytesLess x z = true
 | _, [], _, h, _ => by unfold Go.Op.bytesLess at h; cases h
 | _, _ :: _, [], _, h => by unfold Go.Op.bytesLess at h; cases h
 | [], _ :: _, _ :: _, _, _ => rfl
 | a :: x, b :: y, c :: z, h, k => by
  rw [bl_cons] at h k ⊢
  rcases h with h | ⟨rfl, h⟩
  ·rcases k with k | ⟨rfl, k⟩
   ·exact .inl (by omega)
   ·exact .inl h
  ·rcases k with k | ⟨rfl, k⟩
   ·exact .inl k
   ·exact .inr ⟨rfl, z2s h k⟩
theorem bl_tot : ∀ {x y : List UInt8}, Go.Op.bytesLess x y = false → Go.Op.bytesLess y x = false → x = y
 | [], [], _, _ => rfl
 | [], _ :: _, h, _ => by cases h
 | _ :: _, [], _, h => by cases h
 | a :: x, b :: y, h, k => by
  have h1 : ¬ (a.toNat < b.toNat ∨ (a = b ∧ Go.Op.bytesLess x y = true)) := fun g => by rw [bl_cons.2 g] at h; cases h
  have k1 : ¬ (b.toNat < a.toNat ∨ (b = a ∧ Go.Op.bytesLess y x = true)) := fun g => by rw [bl_cons.2 g] at k; cases k
  have hab : a = b := UInt8.toNat_inj.1 (by omega)
  subst hab
  have h2 : Go.Op.bytesLess x y = false := by
   cases h3 : Go.Op.bytesLess x y
   ·rfl
   ·exact absurd (.inr ⟨rfl, h3⟩) h1
  have k2 : Go.Op.bytesLess y x = false := by
   cases h3 : Go.Op.bytesLess y x
   ·rfl
   ·exact absurd (.inr ⟨rfl, h3⟩) k1
  rw [bl_tot h2 k2]
theorem bl_ntr {x y z : List UInt8} (h : Go.Op.bytesLess x y = false) (k : Go.Op.bytesLess y z = false) : Go.Op.bytesLess x z = false := by
 cases h1 : Go.Op.bytesLess x z
 ·rfl
 ·cases h2 : Go.Op.bytesLess y x
  ·rw [bl_tot h h2] at h1; rw [h1] at k; cases k
  ·rw [z2s h2 h1] at k; cases k
def q3v (a b : Rec) : Bool := Go.Op.bytesLess a.name.toList b.name.toList
theorem q2o : Ordr q3v := ⟨fun _ => bl_irr _, fun _ _ _ h k => z2s h k, fun _ _ _ h k => bl_ntr h k⟩
def insG (lt : Rec → Rec → Bool) (r : Rec) : List Rec → List Rec
 | [] => [r]
 | y :: ys => if lt r y then r :: y :: ys else y :: insG lt r ys
theorem insG_form {lt : Rec → Rec → Bool} (ho : Ordr lt) (r : Rec) : ∀ {out : List Rec}, Srt lt out → ∃ k, insG lt r out = out.take k ++ (r :: out.drop k) ∧ (∀ x ∈ out.drop k, lt r x = true) ∧ (∀ x ∈ out.take k, lt r x = false)
 | [], _ => ⟨0, rfl, by simp, by simp⟩
 | y :: ys, hs => by
  unfold insG
  cases h : lt r y
  ·obtain ⟨k, e, h1, h2⟩ := insG_form ho r (List.Pairwise.of_cons hs)
   refine ⟨k + 1, by simp [e], by simpa using h1, fun x hx => ?_⟩
   rw [List.take_succ_cons] at hx
   rcases List.mem_cons.1 hx with rfl | hx
   ·exact h
   ·exact h2 x hx
  ·refine ⟨0, by simp, fun x hx => ?_, by simp⟩
   rw [List.drop_zero] at hx
   rcases List.mem_cons.1 hx with rfl | hx
   ·exact h
   ·exact ho.lt_le h (List.rel_of_pairwise_cons hs hx)
def isortG (lt : Rec → Rec → Bool) (l : List Rec) : List Rec := l.foldl (fun o r => insG lt r o) []
theorem q8a {lt : Rec → Rec → Bool} (ho : Ordr lt) (l : List Rec) : Srt lt (isortG lt l) ∧ Stab lt l (isortG lt l) := by
 unfold isortG
 have h : ∀ (l o z : List Rec), Srt lt o → Stab lt z o → Srt lt (l.foldl (fun o r => insG lt r o) o) ∧ Stab lt (z ++ l) (l.foldl (fun o r => insG lt r o) o) := by
  intro l
  induction l with
  | nil => intro o z h1 h2; rw [List.append_nil]; exact ⟨h1, h2⟩
  | cons r rs ih =>
   intro o z h1 h2
   obtain ⟨k, e, k1, k2⟩ := insG_form ho r h1
   have h3 := q8m ho h1 k1 k2
   have h4 := (h2.app (Stab.refl [r])).trans (q6z ho k1)
   have h5 := ih (insG lt r o) (z ++ [r]) (by rw [e]; exact h3) (by rw [e]; exact h4)
   rw [List.append_assoc] at h5
   exact h5
 have := h l [] [] List.Pairwise.nil (Stab.refl _)
 simpa using this
noncomputable def livP (l : List Rec) (i : Nat) (r : Rec) : Bool := pb (r.kind = 1 ∧ 0 ≤ r.length ∧ nwI l r.name l.length = i)
noncomputable def livF (l : List Rec) : Nat → List Rec
 | 0 => []
 | k + 1 => livF l k ++ ((l[k]?.map (fun r => if livP l k r then [r] else [])).getD [])
theorem z2f {l : List Rec} {k : Nat} {r : Rec} (h : l[k]? = some r) (hp : livP l k r = true) : livF l (k + 1) = livF l k ++ [r] := by
 show livF l k ++ _ = _
 rw [h]; simp [hp]
theorem z0d {l : List Rec} {k : Nat} {r : Rec} (h : l[k]? = some r) (hp : livP l k r = false) : livF l (k + 1) = livF l k := by
 show livF l k ++ _ = _
 rw [h]; simp [hp]
theorem z2h (l : List Rec) : ∀ k, (livF l k).length ≤ k
 | 0 => Nat.le_refl _
 | k + 1 => by
  have h := z2h l k
  show (livF l k ++ _).length ≤ k + 1
  rw [List.length_append]
  cases hk : l[k]? with
  | none => simp; omega
  | some r =>
   cases hp : livP l k r <;> simp [hp] <;> omega
noncomputable def livL (l : List Rec) : List Rec := isortG q3v (livF l l.length)
theorem liv_uniq {l ys : List Rec} (h : Srt q3v ys) (k : Stab q3v (livF l l.length) ys) : ys = livL l :=
 Stab.uniq q2o h (q8a q2o _).1 k (q8a q2o _).2
theorem drop_aheadG {lt : Rec → Rec → Bool} {xs : List Rec} {r p : Rec} {z ac : Nat} (h : ∀ x ∈ xs.drop ac, lt r x = true) (hp : xs[z]? = some p) (hl : lt r p = true) (hz : z = ac - 1) (h0 : 0 < ac) : ∀ x ∈ xs.drop z, lt r x = true := fun x hx => by
 obtain ⟨hi, e⟩ := List.getElem?_eq_some_iff.1 hp
 rw [List.drop_eq_getElem_cons hi] at hx
 rcases List.mem_cons.1 hx with rfl | hx
 ·rw [e]; exact hl
 ·exact h x (by rwa [show z + 1 = ac by omega] at hx)
theorem stop_ssG {lt : Rec → Rec → Bool} (hlo : Ordr lt) {xs D D2 : List Rec} {r : Rec} {ac : Nat} (hs : Srt lt xs ∧ Stab lt D xs) (hd : D2 = D ++ [r]) (h1 : ∀ x ∈ xs.drop ac, lt r x = true) (h2 : 0 < ac → ∃ y, xs[ac - 1]? = some y ∧ lt r y = false) : Srt lt (xs.take ac ++ (r :: xs.drop ac)) ∧ Stab lt D2 (xs.take ac ++ (r :: xs.drop ac)) := by
 have h3 : ∀ x ∈ xs.take ac, lt r x = false := fun x hx => by
  obtain ⟨i, hi, rfl⟩ := List.getElem_of_mem hx
  rw [List.length_take] at hi
  obtain ⟨y, hy, hl⟩ := h2 (by omega)
  rw [List.getElem_take]
  exact hlo.le_trans (Srt.at hlo hs.1 (show i ≤ ac - 1 by omega) (List.getElem?_eq_getElem (by omega)) hy) hl
 exact ⟨q8m hlo hs.1 h1 h3, by rw [hd]; exact (hs.2.app (Stab.refl [r])).trans (q6z hlo h1)⟩


theorem z0h (s : Shp) (hs : s.ok) (n : Int) (w : World) :
  Calls Tryz.prog 111 #[.agg #[.int .i64 s.groups, .int .i64 s.column, .int .i64 s.data, .int .i64 s.spare, .int .i64 s.rows, .int .i64 s.cap, .int .i64 s.batch, .int .i64 s.queue, .int .i64 s.stage], .int .i64 n] w fun e w' => e = .returned (.bool (inB n 0 (s.groups - 1))) ∧ Chg [] w w' := q4x s hs n w


end Go.Proofs.YtphmpimgbmedbaaGreat
