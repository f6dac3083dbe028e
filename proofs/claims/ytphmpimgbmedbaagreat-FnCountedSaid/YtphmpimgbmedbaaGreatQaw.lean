/- Several texts in one. -/
import Derived.Test.YtphmpimgbmedbaaGreatQaq
import Derived.Test.YtphmpimgbmedbaaGreatQao
set_option maxRecDepth 100000
set_option maxHeartbeats 8000000
namespace Go.Proofs.YtphmpimgbmedbaaGreat
open Go.RowKit
open Go.Lib (hid)
theorem Shr.step {w W w' : World} {v' : Value} {xs : List Rec} {r : Rec} {g : Nat} {fps fq : List Nat} {h' : Option Nat} (hg : w.heap.size ≤ g) (hf : ∀ y ∈ fps, y < w.heap.size) (hq : ∀ y ∈ fq, y < w.heap.size) (hc : Chg [] w W)
  (ho : recL.os 67 w' v' (xs ++ [r]) h' (fps ++ fq)) (hh : h' = some g ∨ h' = some W.heap.size) (hc' : Chg (some g).toList W w') : Shr w.heap.size w' v' (xs ++ [r]) ∧ Chg [] w w' := by
 refine ⟨?_, hc.trans hc' (fun y hy => .inr (by simp at hy; omega))⟩
 have hff : ∀ y ∈ fps ++ fq, y < w.heap.size := fun y hy => (List.mem_append.1 hy).elim (hf y) (hq y)
 rcases hh with rfl | rfl
 ·exact ⟨g, _, ho, hg, hff⟩
 ·exact ⟨W.heap.size, _, ho, hc.size, hff⟩
theorem rec_sl {w : World} {X : Tap} {a1 : Option Addr} {l1 c1 : Nat} {f : List Nat} (h : tapL.rep w [.bool X.wiped, .slice a1 l1 c1] X f) : recL.sl w a1 l1 c1 X.recs f := by
 obtain ⟨a, l, c, f1, e, h1, rfl⟩ := q1r.1 h
 cases e
 exact h1
theorem flat_take {ts : List Tap} {k : Nat} {X : Tap} (h : ts[k]? = some X) : dedF [] ((ts.take (k + 1)).flatMap (·.recs)) = dedF (dedF [] ((ts.take k).flatMap (·.recs))) X.recs := by
 rw [q2b h, List.flatMap_append, q6y]
 simp
theorem flat_len {ts : List Tap} {k : Nat} {X : Tap} {B : Nat} (h : ts[k]? = some X) (hB : (ts.flatMap (·.recs)).length ≤ B) : ((ts.take k).flatMap (·.recs)).length + X.recs.length ≤ B := by
 have h2 : ((ts.take (k + 1)).flatMap (·.recs)).length ≤ (ts.flatMap (·.recs)).length := by
  conv => rhs; rw [← List.take_append_drop (k + 1) ts, List.flatMap_append, List.length_append]
  omega
 rw [q2b h, List.flatMap_append, List.length_append, show [X].flatMap (·.recs) = X.recs by simp] at h2
 exact Nat.le_trans h2 hB
def CntPost (xs : List Rec) (w : World) (e : Ending) (w' : World) : Prop := ∃ (g n cap : Nat) (qs : List RP), e = .returned (.slice (some ⟨g, 0, none⟩) n cap) ∧ q0y recL w' g 0 qs ∧ qs.map (·.1) = xs ∧ n = qs.length ∧ w.heap.size ≤ g ∧ n ≤ cap ∧ cap ≤ maxLen ∧ (∀ p ∈ qs, ∀ y ∈ p.2, y < w.heap.size) ∧ Chg [] w w'
theorem q7p (m : Nat) {u0 u1 u2 u3 u4 u5 u6 u7 u8 u9 u10 u12 u13 u14 : Value} (a12 : Option Addr) (l12 c12 : Nat) (f12 : List Nat) (ts : List Tap) (w : World) (h : w.heap[m]? = some (.cells #[u0, u1, u2, u3, u4, u5, u6, u7, u8, u9, u10, .slice a12 l12 c12, u12, u13, u14] 34 (0, 0))) (h12 : tapL.sl w a12 l12 c12 ts f12) (hz : (ts.flatMap (·.recs)).length ≤ 1000000) :
  Calls Tryz.prog 94 #[.pointer (some ⟨m, 0, none⟩)] w (CntPost (cntL ts) w) := by
 obtain ⟨KR, _⟩ := q7j
 have cm := cellsOf h; have nm := ltOf h
 have H12 := hid h12; have HL := hid h12.1; have HZ := hid hz
 have hl12 := tapL.sl_max h12
 clear h h12 hz
 go_enter Tryz.func94, Tryz.ntmps94
 go_wp2_with fail
 go_loopw [3, 14] (fun vo vi wr => ∃ (k : Nat) (Wr : World), Wr = wr ∧ k ≤ l12 ∧ vi = .int .i64 k ∧ Shr w.heap.size wr vo (dedF [] ((ts.take k).flatMap (·.recs))) ∧ Chg [] w wr) (fun _ vi _ => l12 - (intOf vi).toNat)
 case atStart => exact ⟨0, _, rfl, by omega, rfl, Shr.made (Nat.le_refl _), (Chg.refl [] w).alloc _⟩
 case round =>
  obtain ⟨k, wr, rfl, hk, rfl, hsh, hc⟩ := hrel
  have HC := hid hc; have HSH := hid hsh
  by_cases hlt : k < l12
  ·obtain ⟨X, b, off, a1, l1, c1, ft, HX, rfl, hc0w, hc1w, HXS⟩ := q2q H12.out hlt
   have hbw := tapL.sl_lt H12.out b HX.out.2.1
   have hc0 := q0h hc hc0w hbw; have hc1 := q0h hc hc1w hbw
   obtain ⟨acc, hacc⟩ : ∃ acc, acc = dedF [] ((ts.take k).flatMap (·.recs)) := ⟨_, rfl⟩
   rw [← hacc] at HSH
   have HNX := hid (show dedF [] ((ts.take (k + 1)).flatMap (·.recs)) = dedF acc X.recs by rw [hacc]; exact flat_take HX.out.1)
   have hal : acc.length + X.recs.length ≤ 1000000 := by
    have h1 := q6e ((ts.take k).flatMap (·.recs)) []
    have h2 := flat_len HX.out.1 HZ.out
    rw [List.length_nil, Nat.zero_add] at h1; rw [hacc]; omega
   have HRS := hid (rec_sl HXS.out)
   have HFL := hid (fun y (hy : y ∈ ft) => tapL.sl_lt H12.out y (HX.out.2.2 y hy))
   have HL1 := hid (rec_sl HXS.out).1; have HAL := hid hal
   have hl1 := recL.sl_max (rec_sl HXS.out)
   clear hc hsh hacc hal HXS HX hc0w hc1w hbw
   go_wp2_with fail
   go_loopw [3, 21] (fun vo vj wq => ∃ (j : Nat) (Wq : World), Wq = wq ∧ j ≤ l1 ∧ vj = .int .i64 j ∧ Shr w.heap.size wq vo (dedF acc (X.recs.take j)) ∧ Chg [] w wq) (fun _ vj _ => l1 - (intOf vj).toNat)
   case atStart => exact ⟨0, _, rfl, by omega, rfl, HSH.out.ext ((Chg.refl [] wr).alloc _), HC.out.alloc _⟩
   case round =>
    clear HSH HC hc0 hc1
    obtain ⟨j, wq, rfl, hj, rfl, hsh, hc⟩ := hrel
    have HC := hid hc
    by_cases hlt2 : j < l1
    ·obtain ⟨r, b2, off2, a6, l6, c6, a7, l7, c7, a8, l8, c8, fq, HR, rfl, hq0, hq1, hq2, hq3, hq4, hq5, hq6, hq7, hq8, HXS⟩ := q7e (recL.sl_ext HRS.out hc) hlt2
     obtain ⟨g, fps, ho, hg, hf⟩ := hsh
     obtain ⟨a9, c9, rfl⟩ := recL.os_len ho
     obtain ⟨a10, c10, e10, hsl⟩ := recL.os_sl ho
     obtain ⟨rfl, -, rfl⟩ := Value.slice.inj e10
     have HNJ := hid (dedF_next (acc := acc) HR.out.1)
     have hbd : (dedF acc (X.recs.take j)).length ≤ 1000000 := by
      have h1 := q6e (X.recs.take j) acc
      have h2 := HAL.out
      rw [List.length_take] at h1; omega
     obtain ⟨xs, hxs⟩ : ∃ xs, xs = dedF acc (X.recs.take j) := ⟨_, rfl⟩
     rw [← hxs] at ho hsl HNJ hbd ⊢
     have HOS := hid ho; have HSL := hid hsl; have HN0 := hid hg; have HFP := hid hf
     have HFQ := hid (fun y (hy : y ∈ fq) => HFL.out y (HR.out.2.2 y hy))
     have HGF := hid (show ∀ g', some g = some g' → g' ∉ fq from fun g' e hm => by cases e; have h1 := HFL.out g (HR.out.2.2 g hm); omega)
     obtain ⟨lx, hlx⟩ : ∃ lx, lx = xs.length := ⟨_, rfl⟩
     rw [← hlx] at HOS HSL ⊢
     have HLL := hid (show xs.length + [r].length ≤ maxLen ∧ (xs.length + [r].length) * 128 ≤ 140737488355328 by simp only [List.length_singleton, maxLen]; omega)
     have G1 := hid (show Chg [] wq (wq.alloc (.cells #[.int .i64 r.kind, .int .i64 r.seq, .string r.name, .int .i64 r.length, .int .i64 r.group, .int .i64 r.row, .slice a6 l6 c6, .slice a7 l7 c7, .slice a8 l8 c8] 67)) from (Chg.refl [] wq).alloc _)
     have HHS := hid (has_any a9 lx c9 xs _ r #[.int .i64 r.kind, .int .i64 r.seq, .string r.name, .int .i64 r.length, .int .i64 r.group, .int .i64 r.row, .slice a6 l6 c6, .slice a7 l7 c7, .slice a8 l8 c8] fq (wq.alloc (.cells #[.int .i64 r.kind, .int .i64 r.seq, .string r.name, .int .i64 r.length, .int .i64 r.group, .int .i64 r.row, .slice a6 l6 c6, .slice a7 l7 c7, .slice a8 l8 c8] 67)) (recL.sl_ext HSL.out G1.out) (recL.ext HXS.out G1.out))
     obtain ⟨v, hv⟩ : ∃ v, v = xs.any (fun x => q2m x r) := ⟨_, rfl⟩
     rw [← hv] at HHS
     have HV := hid hv
     clear hc HR ho hsl hg hf e10 hbd hxs hlx hv
     go_wp2_with fail
     refine HHS.out.mono ?_
     rintro e w3 ⟨rfl, hc3⟩
     have HC3 := hid (HC.out.trans0 (G1.out.trans0 hc3))
     have HOS2 := hid (recL.os_ext HOS.out (G1.out.trans0 hc3)); have HXS3 := hid (recL.ext HXS.out (G1.out.trans0 hc3))
     have hb3 := hc3.keep0 (q0o wq (.cells #[.int .i64 r.kind, .int .i64 r.seq, .string r.name, .int .i64 r.length, .int .i64 r.group, .int .i64 r.row, .slice a6 l6 c6, .slice a7 l7 c7, .slice a8 l8 c8] 67))
     have c3 := cellsOf hb3; have n3 := ltOf hb3
     clear hc3 hb3 hq0 hq1 hq2 hq3 hq4 hq5 hq6 hq7 hq8
     cases v
     ·have HDS := hid (show dedS xs r = xs ++ [r] by unfold dedS; rw [← HV.out]; rfl)
      go_wp2_with (at_builtin; refine recL.wpList_append rfl _ _ 44 rfl Tryz.underlying44 KR rfl (recL.os_ext HOS2.out ((Chg.refl [] w3).alloc (.cells #[.int .i64 r.kind, .int .i64 r.seq, .string r.name, .int .i64 r.length, .int .i64 r.group, .int .i64 r.row, .slice a6 l6 c6, .slice a7 l7 c7, .slice a8 l8 c8] 67))) ⟨w3.heap.size, 0, none⟩ 1 1 [.int .i64 r.kind, .int .i64 r.seq, .string r.name, .int .i64 r.length, .int .i64 r.group, .int .i64 r.row, .slice a6 l6 c6, .slice a7 l7 c7, .slice a8 l8 c8] (ys := [r]) (f := fq) rfl rfl (q1n w3 #[.int .i64 r.kind, .int .i64 r.seq, .string r.name, .int .i64 r.length, .int .i64 r.group, .int .i64 r.row, .slice a6 l6 c6, .slice a7 l7 c7, .slice a8 l8 c8] 67) (recL.all_single (recL.ext HXS3.out ((Chg.refl [] w3).alloc _))) HGF.out HLL.out.1 HLL.out.2 ?_; intro v' w4 h' ho' hh' hc'; have HSH4 := hid (Shr.step HN0.out HFP.out HFQ.out (HC3.out.alloc (.cells #[.int .i64 r.kind, .int .i64 r.seq, .string r.name, .int .i64 r.length, .int .i64 r.group, .int .i64 r.row, .slice a6 l6 c6, .slice a7 l7 c7, .slice a8 l8 c8] 67)) ho' hh' hc'); clear ho' hh' hc')
      rw [← HDS.out, ← HNJ.out] at HSH4
      go_roundw
      case rel => exact ⟨j + 1, _, rfl, by omega, by go_num, HSH4.out.1, HSH4.out.2⟩
      case measure => simp [intOf]; omega
     ·have HDS := hid (show dedS xs r = xs by unfold dedS; rw [← HV.out]; rfl)
      go_wp2_with fail
      go_roundw
      case rel => exact ⟨j + 1, _, rfl, by omega, by go_num, by rw [HNJ.out, HDS.out]; exact ⟨g, fps, HOS2.out, HN0.out, HFP.out⟩, HC3.out⟩
      case measure => simp [intOf]; omega
    ·obtain rfl : j = l1 := by omega
     rw [List.take_of_length_le (by have := HL1.out; omega), ← HNX.out] at hsh
     have HSH := hid hsh
     clear hsh hc
     go_wp2_with fail
     go_roundw
     case rel => exact ⟨k + 1, _, rfl, by omega, by go_num, HSH.out, HC.out⟩
     case measure => simp [intOf]; omega
  ·obtain rfl : k = l12 := by omega
   rw [List.take_of_length_le (by have := HL.out; omega)] at hsh
   obtain ⟨g, cap, ps, rfl, hrow, e1, hg, hcap, hcm, hfp⟩ := hsh.row
   have hln : (dedF [] (ts.flatMap (·.recs))).length = ps.length := by rw [← e1, List.length_map]
   have hbd : ps.length ≤ 1000000 := by
    have h1 := q6e (ts.flatMap (·.recs)) []
    have h2 := HZ.out
    rw [List.length_nil, Nat.zero_add] at h1; omega
   rw [hln] at hcap ⊢
   have HS := hid (q7w g 0 ps.length cap ps wr cmp_ok hrow rfl hbd)
   have HE := hid e1; have HF := hid (And.intro hg (And.intro hcap (And.intro hcm hfp)))
   obtain ⟨n, hn⟩ : ∃ n, n = ps.length := ⟨_, rfl⟩
   rw [← hn] at HS ⊢
   have HN := hid hn
   clear hc hsh hrow e1 hg hcap hcm hfp hln hbd hn HSH
   go_wp2_with fail
   refine HS.out.mono ?_
   rintro e w2 ⟨rfl, qs, hq1, hq2, hq3, hq4⟩
   have hu := cnt_uniq (rs := ts.flatMap (·.recs)) (srt_fst hq2) (by have := stab_fst hq3; rwa [HE.out] at this)
   have hmm : ∀ p ∈ qs, ∀ y ∈ p.2, y < w.heap.size := fun p hp => HF.out.2.2.2 p ((hq3.mem q2p).1 hp)
   have HR := hid (And.intro hq1 (And.intro hu (And.intro (HN.out.trans hq3.1.symm) (And.intro hmm (HC.out.trans hq4 (fun y hy => .inr (by rw [List.mem_singleton] at hy; have := HF.out.1; omega)))))))
   clear hq1 hq2 hq3 hq4 hu hmm
   go_wp2_with fail
   go_ret
   exact ⟨g, n, cap, qs, rfl, HR.out.1, HR.out.2.1, HR.out.2.2.1, HF.out.1, by rw [HN.out]; exact HF.out.2.1, HF.out.2.2.1, HR.out.2.2.2.1, HR.out.2.2.2.2⟩
end Go.Proofs.YtphmpimgbmedbaaGreat
