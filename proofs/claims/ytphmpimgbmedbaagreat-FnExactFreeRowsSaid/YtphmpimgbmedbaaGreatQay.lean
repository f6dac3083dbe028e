/- Several texts in one. -/
import Derived.Test.YtphmpimgbmedbaaGreatQax
import Derived.Test.YtphmpimgbmedbaaGreatQav
import Derived.Test.YtphmpimgbmedbaaGreatQaa
import Derived.Test.YtphmpimgbmedbaaGreatQaf
set_option maxRecDepth 100000
set_option maxHeartbeats 8000000
namespace Go.Proofs.YtphmpimgbmedbaaGreat
open Go.RowKit
open Go.Lib (hid)
theorem homeM_any (s : Shp) (r : Rec) (hg : 1 ≤ s.groups ∧ s.groups ≤ 4) (hn : r.name.size ≤ 8) (w : World) :
  Calls Tryz.prog 126 #[.agg #[.int .i64 s.groups, .int .i64 s.column, .int .i64 s.data, .int .i64 s.spare, .int .i64 s.rows, .int .i64 s.cap, .int .i64 s.batch, .int .i64 s.queue, .int .i64 s.stage], .string r.name] w fun e w' => e = .returned (.int .i64 (homI s r)) ∧ Chg [] w w' := home_any s r.name hg.1 hg.2 hn w
theorem z0p.live {s : Shp} {xs : List Rec} (h : z0p s xs) {k : Nat} {r : Rec} (hr : (livL xs)[k]? = some r) : r.name.size ≤ 8 ∧ r.rows.length ≤ 400 ∧ ∀ v ∈ r.rows, 0 ≤ v ∧ v ≤ s.rows - 1 := by
 obtain ⟨h1, h2⟩ := liv_mem (List.mem_of_getElem? hr)
 exact (h.2.2 r h1).1 h2
theorem row_nat {v m : Int} {n : Nat} (hm : m = (n : Int)) (h : 0 ≤ v ∧ v ≤ m - 1) : ∃ k : Nat, v = (k : Int) ∧ k < n := ⟨v.toNat, by omega, by omega⟩
theorem beside_chg {w w' : World} {bb m : Nat} {o : Obj} {a : Option Addr} {l c : Nat} {xs : List Rec} {f : List Nat} (hs : recL.sl w a l c xs f) (hf : bb ∉ f) (hm : w.heap[m]? = some o) (hn : m ≠ bb) (hc : Chg [bb] w w') : recL.sl w' a l c xs f ∧ w'.heap[m]? = some o :=
 ⟨recL.sl_chg hs hc (fun y hy hm => hf (by rw [List.mem_singleton] at hm; exact hm ▸ hy)), hc.keepb hm (by simpa using hn)⟩
theorem tkn_get {w : World} {bb n k : Nat} {us : List Int} (h : q1u w bb (tkn n us)) (hk : k < n) : ∃ q, w.cell? ⟨bb, k, none⟩ = some (.bool q) := ⟨_, h.cell (tkn_at us hk)⟩
theorem tkn_put {w : World} {bb n k : Nat} {us vs : List Int} {v : Int} (h : q1u w bb (tkn n us)) (hk : k < n) (hv : v = (k : Int)) (e : vs = us ++ [v]) : q1u (w.setCell ⟨bb, k, none⟩ (.bool true)) bb (tkn n vs) := by
 rw [e, ← tkn_set hv hk]; exact h.set k true
theorem freeRows_any (m : Nat) (s : Shp) {z9 z10 z12 z13 z14 : Value} (a12 : Option Addr) (l12 c12 : Nat) (f12 : List Nat) (ts : List Tap) (g : Int) (w : World) (h : w.heap[m]? = some (.cells #[.int .i64 s.groups, .int .i64 s.column, .int .i64 s.data, .int .i64 s.spare, .int .i64 s.rows, .int .i64 s.cap, .int .i64 s.batch, .int .i64 s.queue, .int .i64 s.stage, z9, z10, .slice a12 l12 c12, z12, z13, z14] 34 (0, 0))) (h12 : tapL.sl w a12 l12 c12 ts f12) (hz : (ts.flatMap (·.recs)).length ≤ 400) (hlv : ∀ r ∈ cntL ts, r.kind = 1 → r.length ≠ -1 → 0 ≤ r.length) (hro : z0p s (cntL ts)) :
  Calls Tryz.prog 112 #[.pointer (some ⟨m, 0, none⟩), .int .i64 g] w (q5e intL (freL s g (cntL ts)) w) := by
 obtain ⟨KI, _⟩ := kindI
 have cm := cellsOf h; have nm := ltOf h
 obtain ⟨n, hn⟩ : ∃ n : Nat, s.rows = (n : Int) := ⟨s.rows.toNat, by have := hro.2.1; omega⟩
 have hn6 : n ≤ 6 := by have := hro.2.1; omega
 have HFL := hid (show freL s g (cntL ts) = freK (usdL s g (cntL ts)) n by unfold freL; rw [hn]; rfl)
 obtain ⟨bb, hbb⟩ : ∃ bb, bb = w.heap.size := ⟨_, rfl⟩
 obtain ⟨W1, hW1⟩ : ∃ W1, W1 = w.alloc (.cells (Array.replicate n (.bool false)) 4) := ⟨_, rfl⟩
 have hmk : (Instr.makeSlice 173 (.int .i64 s.rows) (.int .i64 s.rows)).run Tryz.prog w = .ok (.slice (some ⟨bb, 0, none⟩) n n) W1 := by rw [hn, hW1, hbb]; exact make_bools n (by omega) w
 have g1 : Chg [] w W1 := by rw [hW1]; exact (Chg.refl [] w).alloc _
 have HB1 := hid (show q1u W1 bb (tkn n []) by rw [tkn_nil, hW1]; exact q1u.made w n bb hbb)
 have HG1 := hid g1
 have HNW := hid (newest_any sortRecs_ok m a12 l12 c12 f12 ts W1 (g1.keep0 h) (tapL.sl_ext h12 g1) hz hlv)
 have HMB0 := hid (show m ≠ bb by omega); have HM1 := hid (g1.keep0 h)
 have H12 := hid (tapL.sl_ext h12 g1); have HF12 := hid (show bb ∉ f12 from fun hm => by have := tapL.sl_lt h12 _ hm; omega)
 have HBW := hid (show w.heap.size ≤ bb by omega); have HRO := hid hro; have HN := hid hn; have HZ := hid hz; have HG4 := hid hro.1
 clear h h12 hz hlv hro hn g1 hbb hW1
 go_enter Tryz.func112, Tryz.ntmps112
 go_wp2_with fail
 refine HNW.out.mono ?_
 rintro e w2 ⟨a, l, c, f0, rfl, hs0, hc⟩
 obtain ⟨zs, hzs⟩ : ∃ zs, zs = livL (cntL ts) := ⟨_, rfl⟩
 rw [← hzs] at hs0
 have HB2 := hid (HB1.out.ext hc)
 obtain ⟨f, hs, hbf⟩ := q9u HB2.out hs0
 have HS2 := hid hs; have HBF := hid hbf; have HL := hid hs.1; have HC2 := hid (HG1.out.trans0 hc); have HM2 := hid (hc.keep0 HM1.out); have H122 := hid (tapL.sl_ext H12.out hc)
 have HRL := hid (fun (k : Nat) (r : Rec) (hr : zs[k]? = some r) => HRO.out.live (by rw [← hzs]; exact hr))
 have HZS := hid hzs
 have hla := recL.sl_max hs
 clear hs0 hs hbf hc hzs HNW cm nm hmk
 go_wp2_with fail
 go_loopw [24] (fun vi wr => ∃ (k : Nat) (Wr : World), Wr = wr ∧ k ≤ l ∧ vi = .int .i64 k ∧ q1u wr bb (tkn n (us1 s g (zs.take k))) ∧ Chg [bb] w2 wr) (fun vi _ => l - (intOf vi).toNat)
 case atStart => exact ⟨0, _, rfl, by omega, rfl, HB2.out, Chg.refl _ _⟩
 case round =>
  obtain ⟨k, wr, rfl, hk, rfl, hbo, hc⟩ := hrel
  obtain ⟨hs, hm⟩ := beside_chg HS2.out HBF.out HM2.out HMB0.out hc
  by_cases hlt : k < l
  ·obtain ⟨r, b2, off2, cy, fq, HR, rfl, HCE, HXS⟩ := q9v hs hlt
   obtain ⟨a6, l6, c6, f6, a7, l7, c7, f7, a8, l8, c8, f8, hcy, -, -, -, -, -, -, h6, -, -, hfq⟩ := q0m.1 HXS.out
   subst hcy
   have HXL := hid (show zs[k]? = some r from HR.out.1)
   have HB6 := hid (show bb ∉ f6 from fun hm => HBF.out (HR.out.2.2 _ (by rw [hfq]; exact List.mem_append.2 (.inl hm))))
   have g1 : Chg [] wr ((wr.alloc (.cells #[.int .i64 r.kind, .int .i64 r.seq, .string r.name, .int .i64 r.length, .int .i64 r.group, .int .i64 r.row, .slice a6 l6 c6, .slice a7 l7 c7, .slice a8 l8 c8] 67)).drew) := ((Chg.refl [] wr).alloc _).drew
   have HB := hid (q0a (q1a wr (.cells #[.int .i64 r.kind, .int .i64 r.seq, .string r.name, .int .i64 r.length, .int .i64 r.group, .int .i64 r.row, .slice a6 l6 c6, .slice a7 l7 c7, .slice a8 l8 c8] 67))); have HMB := hid (g1.keep0 hm)
   have HNL := hid (HRL.out k r HXL.out).1; have HRW := hid (HRL.out k r HXL.out).2.2
   obtain ⟨hv, hhv⟩ : ∃ hv, hv = homI s r := ⟨_, rfl⟩
   have HH := hid hhv.symm
   obtain ⟨U, hU⟩ : ∃ U, U = us1 s g (zs.take k) := ⟨_, rfl⟩
   rw [← hU] at hbo
   have HG1 := hid g1; have HBO := hid hbo; have HC := hid hc; have H6 := hid h6
   have hl6 := intL.sl_max h6
   have HHV := hid hhv; have HUU := hid hU
   clear hs hm hbo hc h6 hfq g1 hhv hU HR HXS
   go_wp2_with (refine q4z rfl _ 67 rfl rfl q1o Tryz.underlying67 HCE.out.2.1 HCE.out.1 ?_)
   obtain ⟨SS1, HSI1, HSO1⟩ := q0k (fun w' => Know wr.heap.size #[.int .i64 r.kind, .int .i64 r.seq, .string r.name, .int .i64 r.length, .int .i64 r.group, .int .i64 r.row, .slice a6 l6 c6, .slice a7 l7 c7, .slice a8 l8 c8] w' ∧ Know m #[.int .i64 s.groups, .int .i64 s.column, .int .i64 s.data, .int .i64 s.spare, .int .i64 s.rows, .int .i64 s.cap, .int .i64 s.batch, .int .i64 s.queue, .int .i64 s.stage, z9, z10, .slice a12 l12 c12, z12, z13, z14] w')
   have hS0 := HSI1.out _ ⟨(Know.of HB.out), (Know.of HMB.out)⟩
   refine q0g SS1 (by kernel_rfl) hS0 ?_
   refine rgT 0 hS0 ?_
   refine rgT 1 hS0 ?_
   refine rgT 2 hS0 ?_
   refine rgL 3 hS0 HSO1 ?_
   refine rgT 4 hS0 ?_
   refine rgL 5 hS0 HSO1 ?_
   refine rgT 7 hS0 ?_
   refine q0c 6 rfl (by kernel_rfl) (fun K hK => ?_)
   go_simp
   go_at_call 126
   refine (homeM_any s r HG4.out HNL.out _).mono ?_; rintro e w5 ⟨rfl, hc5⟩; have HC5 := hid hc5; clear hc5
   rw [HH.out]
   go_wp2_with fail
   refine hK.out _ _ (HSI1.out _ ⟨(Know.of (HC5.out.keep0 HB.out)), (Know.of (HC5.out.keep0 HMB.out))⟩) (fun hS1 => ?_)
   clear hK K
   try simp only [Act.put, pA, pB, pC]
   refine rgT 8 hS1 ?_
   refine wpAnyH_done (by kernel_rfl) ?_ _
   have hb5 := HC5.out.keep0 HB.out
   have cB := cellsOf hb5; have nB := ltOf hb5
   clear hb5
   have HC6 := hid (HG1.out.trans0 HC5.out)
   have HB5 := hid (HBO.out.ext HC6.out); have HC56 := hid (HC.out.trans0 HC6.out)
   by_cases hq : hv = g
   ·have hbq : (hv == g) = true := by simp [hq]
    have HNX := hid (show us1 s g (zs.take (k + 1)) = U ++ r.rows by rw [HUU.out]; exact us1_yes HXL.out (by unfold homP; rw [← HHV.out]; exact hbq))
    clear hq
    have H65 := hid (intL.sl_ext H6.out HC6.out)
    go_wp2_with fail
    go_loopw [40] (fun vj wq => ∃ (j : Nat) (Wq : World), Wq = wq ∧ j ≤ l6 ∧ vj = .int .i64 j ∧ q1u wq bb (tkn n (U ++ r.rows.take j)) ∧ Chg [bb] w5 wq) (fun vj _ => l6 - (intOf vj).toNat)
    case atStart => exact ⟨0, _, rfl, by omega, rfl, by rw [List.take_zero, List.append_nil]; exact HB5.out, Chg.refl _ _⟩
    case round =>
     clear cB nB
     obtain ⟨j, wq, rfl, hj, rfl, hbo, hc⟩ := hrel
     have HBQ := hid hbo; have HCQ := hid hc
     by_cases hlt2 : j < l6
     ·obtain ⟨v, b6, o6, HX, rfl, hcx, hok⟩ := q2p (intL.sl_chg H65.out hc (fun y hy hm => HB6.out (by rw [List.mem_singleton] at hm; exact hm ▸ hy))) hlt2
      obtain ⟨kv, rfl, hkv⟩ := row_nat HN.out (HRW.out v (List.mem_of_getElem? HX.out.1))
      obtain ⟨q, hcell⟩ := tkn_get hbo hkv
      have hlb := ltOf hbo; have hfb := q0l hbo
      have HN5 := hid (tkn_put (vs := U ++ r.rows.take (j + 1)) HBQ.out hkv rfl (by rw [q1d HX.out.1, List.append_assoc]))
      have HC7 := hid (HCQ.out.setCell ⟨bb, kv, none⟩ (.bool true) (.inl (by simp)))
      clear hbo hc HX hok
      go_wp2_with fail
      go_roundw
      case rel => exact ⟨j + 1, _, rfl, by omega, by go_num, HN5.out, HC7.out⟩
      case measure => simp [intOf]; omega
     ·obtain rfl : j = l6 := by omega
      have HN7 := hid (show q1u wq bb (tkn n (us1 s g (zs.take (k + 1)))) by rw [HNX.out]; rw [List.take_of_length_le (by have := H6.out.1; omega)] at hbo; exact hbo)
      have HC7 := hid (HC56.out.trans hc (fun y hy => .inl hy))
      clear hbo hc
      go_wp2_with fail
      go_roundw
      case rel => exact ⟨k + 1, _, rfl, by omega, by go_num, HN7.out, HC7.out⟩
      case measure => simp [intOf]; omega
   ·have hbq : (hv == g) = false := by simp [hq]
    have HNX := hid (show us1 s g (zs.take (k + 1)) = U by rw [HUU.out]; exact us1_no HXL.out (by unfold homP; rw [← HHV.out]; exact hbq))
    clear hq
    go_wp2_with fail
    go_roundw
    case rel => exact ⟨k + 1, _, rfl, by omega, by go_num, by rw [HNX.out]; exact HB5.out, HC56.out⟩
    case measure => simp [intOf]; omega
  ·obtain rfl : k = l := by omega
   rw [List.take_of_length_le (by have := HL.out; omega)] at hbo
   have HNC := hid (z0n m a12 l12 c12 f12 ts wr hm (tapL.sl_chg H122.out hc (fun y hy hm => HF12.out (by rw [List.mem_singleton] at hm; exact hm ▸ hy))) (by have := HZ.out; omega))
   have HCW := hid (HC2.out.trans hc (fun y hy => .inr (by rw [List.mem_singleton] at hy; rw [hy]; exact HBW.out)))
   have HBO := hid hbo
   clear hs hm hbo hc
   go_wp2_with fail
   refine HNC.out.mono ?_
   rintro e w3 hp
   obtain ⟨a, l, c, f0, rfl, hs0, hlx, hc⟩ := hp.full
   obtain ⟨xs, hxs⟩ : ∃ xs, xs = cntL ts := ⟨_, rfl⟩
   rw [← hxs] at hs0
   obtain ⟨V, hV⟩ : ∃ V, V = us1 s g zs := ⟨_, rfl⟩
   have HV := hid (show usdL s g xs = V ++ us2 g xs by rw [hV, HZS.out, ← hxs]; rfl)
   have HB3 := hid (show q1u w3 bb (tkn n V) by rw [hV]; exact HBO.out.ext hc)
   obtain ⟨f, hs, hbf⟩ := q9u HB3.out hs0
   have HS3 := hid hs; have HBF3 := hid hbf; have HL3 := hid hs.1; have HC3 := hid (HCW.out.trans0 hc)
   have HRQ := hid (fun (k : Nat) (r : Rec) (hr : xs[k]? = some r) => (HRO.out.2.2 r (by rw [← hxs]; exact List.mem_of_getElem? hr)).2)
   have HXS9 := hid hxs
   have hla3 := recL.sl_max hs
   clear hp hs0 hs hbf hc hxs hV hlx
   go_wp2_with fail
   go_loopw [52] (fun vi wr => ∃ (k : Nat) (Wr : World), Wr = wr ∧ k ≤ l ∧ vi = .int .i64 k ∧ q1u wr bb (tkn n (V ++ us2 g (xs.take k))) ∧ Chg [bb] w3 wr) (fun vi _ => l - (intOf vi).toNat)
   case atStart => exact ⟨0, _, rfl, by omega, rfl, by rw [show us2 g (xs.take 0) = [] from rfl, List.append_nil]; exact HB3.out, Chg.refl _ _⟩
   case round =>
    obtain ⟨k, wr, rfl, hk, rfl, hbo, hc⟩ := hrel
    have hs := recL.sl_chg HS3.out hc (fun y hy hm => HBF3.out (by rw [List.mem_singleton] at hm; exact hm ▸ hy))
    by_cases hlt : k < l
    ·obtain ⟨r, b2, off2, cy, fq, HR, rfl, HCE, HXS⟩ := q9v hs hlt
     obtain ⟨a6, l6, c6, f6, a7, l7, c7, f7, a8, l8, c8, f8, hcy, -⟩ := q0m.1 HXS.out
     subst hcy
     have HXL := hid (show xs[k]? = some r from HR.out.1)
     obtain ⟨U, hU⟩ : ∃ U, U = V ++ us2 g (xs.take k) := ⟨_, rfl⟩
     rw [← hU] at hbo
     have hbw := hbo.ext (((Chg.refl [] wr).alloc (.cells #[.int .i64 r.kind, .int .i64 r.seq, .string r.name, .int .i64 r.length, .int .i64 r.group, .int .i64 r.row, .slice a6 l6 c6, .slice a7 l7 c7, .slice a8 l8 c8] 67)))
     have HBO := hid hbw; have HC := hid (hc.alloc (.cells #[.int .i64 r.kind, .int .i64 r.seq, .string r.name, .int .i64 r.length, .int .i64 r.group, .int .i64 r.row, .slice a6 l6 c6, .slice a7 l7 c7, .slice a8 l8 c8] 67)); have HU := hid hU
     clear hs hbo hc HR HXS hU hbw
     by_cases h2 : r.kind = 2
     ·have hb2 : (r.kind == 2) = true := by simp [h2]
      by_cases hg2 : r.group = g
      ·have hbg : (r.group == g) = true := by simp [hg2]
       obtain ⟨kv, hkr, hkv⟩ := row_nat HN.out (HRQ.out k r HXL.out (.inl h2))
       obtain ⟨q, hcell⟩ := tkn_get HBO.out hkv
       have hlb := ltOf HBO.out; have hfb := q0l HBO.out
       have HN5 := hid (tkn_put (vs := V ++ us2 g (xs.take (k + 1))) HBO.out hkv hkr (by rw [z1k HXL.out (q0i (.inl ⟨h2, hg2⟩)), HU.out, List.append_assoc]))
       have HC7 := hid (HC.out.setCell ⟨bb, kv, none⟩ (.bool true) (.inl (by simp)))
       rw [hkr] at HCE HN5 HC7 hcell hlb hfb
       clear hkr HBO HC h2 hg2
       go_wp2_with (refine q4z rfl _ 67 rfl rfl q1o Tryz.underlying67 HCE.out.2.1 HCE.out.1 ?_)
       go_roundw
       case rel => exact ⟨k + 1, _, rfl, by omega, by go_num, HN5.out, HC7.out⟩
       case measure => simp [intOf]; omega
      ·have hbg : (r.group == g) = false := by simp [hg2]
       have hb4 : (r.kind == 4) = false := by simp [h2]
       have HN5 := hid (show q1u (wr.alloc (.cells #[.int .i64 r.kind, .int .i64 r.seq, .string r.name, .int .i64 r.length, .int .i64 r.group, .int .i64 r.row, .slice a6 l6 c6, .slice a7 l7 c7, .slice a8 l8 c8] 67)) bb (tkn n (V ++ us2 g (xs.take (k + 1)))) by rw [us2_no HXL.out (q0h (fun h => h.elim (fun h => hg2 h.2) (fun h => by omega))), ← HU.out]; exact HBO.out)
       have HC7 := HC
       clear h2 hg2
       go_wp2_with (refine q4z rfl _ 67 rfl rfl q1o Tryz.underlying67 HCE.out.2.1 HCE.out.1 ?_)
       go_roundw
       case rel => exact ⟨k + 1, _, rfl, by omega, by go_num, HN5.out, HC7.out⟩
       case measure => simp [intOf]; omega
     ·have hb2 : (r.kind == 2) = false := by simp [h2]
      by_cases h4 : r.kind = 4
      ·have hb4 : (r.kind == 4) = true := by simp [h4]
       obtain ⟨kv, hkr, hkv⟩ := row_nat HN.out (HRQ.out k r HXL.out (.inr h4))
       obtain ⟨q, hcell⟩ := tkn_get HBO.out hkv
       have hlb := ltOf HBO.out; have hfb := q0l HBO.out
       have HN5 := hid (tkn_put (vs := V ++ us2 g (xs.take (k + 1))) HBO.out hkv hkr (by rw [z1k HXL.out (q0i (.inr h4)), HU.out, List.append_assoc]))
       have HC7 := hid (HC.out.setCell ⟨bb, kv, none⟩ (.bool true) (.inl (by simp)))
       rw [hkr] at HCE HN5 HC7 hcell hlb hfb
       clear hkr HBO HC h2 h4
       go_wp2_with (refine q4z rfl _ 67 rfl rfl q1o Tryz.underlying67 HCE.out.2.1 HCE.out.1 ?_)
       go_roundw
       case rel => exact ⟨k + 1, _, rfl, by omega, by go_num, HN5.out, HC7.out⟩
       case measure => simp [intOf]; omega
      ·have hb4 : (r.kind == 4) = false := by simp [h4]
       have HN5 := hid (show q1u (wr.alloc (.cells #[.int .i64 r.kind, .int .i64 r.seq, .string r.name, .int .i64 r.length, .int .i64 r.group, .int .i64 r.row, .slice a6 l6 c6, .slice a7 l7 c7, .slice a8 l8 c8] 67)) bb (tkn n (V ++ us2 g (xs.take (k + 1)))) by rw [us2_no HXL.out (q0h (fun h => h.elim (fun h => h2 h.1) h4)), ← HU.out]; exact HBO.out)
       have HC7 := HC
       clear h2 h4
       go_wp2_with (refine q4z rfl _ 67 rfl rfl q1o Tryz.underlying67 HCE.out.2.1 HCE.out.1 ?_)
       go_roundw
       case rel => exact ⟨k + 1, _, rfl, by omega, by go_num, HN5.out, HC7.out⟩
       case measure => simp [intOf]; omega
    ·obtain rfl : k = l := by omega
     rw [List.take_of_length_le (by have := HL3.out; omega), ← HV.out] at hbo
     obtain ⟨T9, hT9⟩ : ∃ T9, T9 = usdL s g xs := ⟨_, rfl⟩
     rw [← hT9] at hbo
     have HFK := hid (show freL s g (cntL ts) = freK T9 n by rw [HFL.out, hT9, HXS9.out])
     have hc4 : Chg [] w wr := HC3.out.trans hc (fun y hy => .inr (by rw [List.mem_singleton] at hy; rw [hy]; exact HBW.out))
     have HO := hid (intL.os_made 2 wr #[] 0 (by simp [maxLen]) (by simp))
     have HC4 := hid (hc4.alloc (.cells #[] 2)); have HB4 := hid (hbo.ext ((Chg.refl [] wr).alloc (.cells #[] 2)))
     have HW4 := hid (And.intro hc4.size (show wr.heap.size ≠ bb by have := ltOf hbo; omega))
     clear hbo hc hs hc4 hT9
     go_wp2_with fail
     go_loopw [12, 78] (fun vo vi wq => ∃ (k : Nat) (gg : Nat) (Wq : World), Wq = wq ∧ k ≤ n ∧ vi = .int .i64 k ∧ intL.os 2 wq vo (freK T9 k) (some gg) [] ∧ (w.heap.size ≤ gg ∧ gg ≠ bb) ∧ q1u wq bb (tkn n T9) ∧ Chg [] w wq) (fun _ vi _ => n - (intOf vi).toNat)
     case atStart => exact ⟨0, _, _, rfl, by omega, rfl, HO.out, HW4.out, HB4.out, HC4.out⟩
     case round =>
      obtain ⟨k, gg, wq, rfl, hk, rfl, ho, hg, hbo, hc⟩ := hrel
      by_cases hlt : k < n
      ·obtain ⟨q, hq⟩ : ∃ q, q = T9.contains (k : Int) := ⟨_, rfl⟩
       have hcell := hbo.cell (tkn_at T9 hlt)
       rw [← hq] at hcell
       have hkl := q9l T9 k
       have HBQ := hid hbo; have HCQ := hid hc; have HOQ := hid ho; have HGQ := hid hg
       obtain ⟨a9, c9, rfl⟩ := intL.os_len ho
       obtain ⟨lx, hlx⟩ : ∃ lx, lx = (freK T9 k).length := ⟨_, rfl⟩
       have HLL := hid (show (freK T9 k).length + [(k : Int)].length ≤ maxLen ∧ ((freK T9 k).length + [(k : Int)].length) * 8 ≤ 140737488355328 by simp only [List.length_singleton, maxLen]; omega)
       have HKO := hid (show q1t (k : Int) from ⟨by omega, by omega⟩)
       rw [← hlx] at HOQ ⊢
       cases q
       ·have HNX := hid (z2l hq.symm)
        clear ho hg hbo hc hq hlx hkl
        go_wp2_with (at_builtin; refine intL.wpList_append rfl _ _ 25 rfl Tryz.underlying25 KI rfl (intL.os_ext HOQ.out ((Chg.refl [] wq).alloc (.cells #[.int .i64 k] 2))) ⟨wq.heap.size, 0, none⟩ 1 1 [.int .i64 k] (ys := [(k : Int)]) (f := []) rfl rfl (q7v wq (.int .i64 k) 2) (intL.all_single ⟨rfl, HKO.out, rfl⟩) (by simp) HLL.out.1 HLL.out.2 ?_; intro v' w4 h' ho' hh' hc'; have HO4 := hid (And.intro ho' (And.intro hh' hc')); clear ho' hh' hc')
        obtain ⟨ho', hh', hc'⟩ := HO4.out
        have H5 := hid (show ∃ g2, intL.os 2 w4 v' (freK T9 (k + 1)) (some g2) [] ∧ (w.heap.size ≤ g2 ∧ g2 ≠ bb) from by
         rw [HNX.out]
         rcases hh' with rfl | rfl
         ·exact ⟨gg, ho', HGQ.out⟩
         ·refine ⟨_, ho', ?_, ?_⟩
          ·have := HCQ.out.size; simp; omega
          ·have := ltOf HBQ.out; simp; omega)
        have H6 := hid (show q1u w4 bb (tkn n T9) ∧ Chg [] w w4 from by
         have hc2 : Chg [gg] (wq.alloc (.cells #[.int .i64 k] 2)) w4 := hc'
         exact ⟨hc2.keepb (q0b HBQ.out _) (by simpa using HGQ.out.2.symm), (HCQ.out.alloc _).trans hc2 (fun y hy => .inr (by rw [List.mem_singleton] at hy; rw [hy]; exact HGQ.out.1))⟩)
        clear ho' hh' hc' HO4
        obtain ⟨g2, hg2, hg3⟩ := H5.out
        go_roundw
        case rel => exact ⟨k + 1, g2, _, rfl, by omega, by go_num, hg2, hg3, H6.out.1, H6.out.2⟩
        case measure => simp [intOf]; omega
       ·have HNX := hid (freK_no hq.symm)
        clear ho hg hbo hc hq hlx hkl
        go_wp2_with fail
        go_roundw
        case rel => exact ⟨k + 1, gg, _, rfl, by omega, by go_num, by rw [HNX.out]; exact HOQ.out, HGQ.out, HBQ.out, HCQ.out⟩
        case measure => simp [intOf]; omega
      ·obtain rfl : k = n := by omega
       have HE := hid (intL.os_new ho q9j hc (fun g' e => by cases e; exact hg.1))
       clear ho hg hbo hc
       go_wp2_with fail
       go_ret
       rw [HFK.out]
       exact HE.out
theorem Lay.wpList_own2 {α : Type} (L : Lay α) {P : Program} {E : TypeId} {bytes : Nat} {w : World} {v : Value} {xs ys : List α} {h : Option Nat} {f fps : List Nat} {ops : Array Oper} {rest : List Oper} {o : Oper} {a : Act} {Q : Exit → Act → World → Prop} (hgd : o.guard = none) (s x : Operand) (t : TypeId)
  (hop : o.op = .call { callee := .builtin .append, args := #[s, x], argTypes := #[t, t] }) (ht : P.underlying t = some (.slice E)) (K : Kind P E L.n bytes)
  (hs : a.eval s = v) (ho : L.os E w v xs h fps)
  {ad : Option Addr} {m c : Nat} (hx : a.eval x = .slice ad m c) (hsl : L.sl w ad m c ys f) (hf : ∀ g, h = some g → g ∉ f)
  (h63 : xs.length + ys.length ≤ maxLen) (hbytes : (xs.length + ys.length) * bytes ≤ 140737488355328)
  (hk : ∀ v' w' h' fps', L.os E w' v' (xs ++ ys) h' fps' → (h' = h ∨ h' = some w.heap.size) → (∀ b ∈ fps', b ∈ fps ∨ b ∈ f) → Chg h.toList w w' → wpList P ops Q rest (a.put o.dst v') w') : wpList P ops Q (o :: rest) a w := by
 refine wpList_plain hgd fun _ hK => ?_
 cases ad with
 | none =>
  have h0 : c = 0 := hsl.2.2.2.1 rfl
  have h1 : m = 0 := by have := hsl.2.1; omega
  have h2 : ys = [] := List.eq_nil_of_length_eq_zero (by have := hsl.1; omega)
  subst h0 h1 h2
  have hr := L.run_append_none t o.type ht K ho
  unfold Oper.wp execOp
  simp only [hop, resolve, invoke, builtin, Sem.run_bind, Sem.run_pure, Result.andThen_ok, List.map_toArray, List.map_cons, List.map_nil, hs, hx, hr]
  exact hK _ _ (hk v w h fps (by rw [List.append_nil]; exact ho) (.inl rfl) (fun b hb => .inl hb) (Chg.refl _ _))
 | some ad =>
  obtain ⟨news, fy, hnews, hall, hsub⟩ := L.sl_cells hsl
  refine L.wp_append s x t hop ht K hs ho ad m c news hx hsl.1 hnews hall (fun g hg hm => hf g hg (hsub _ hm)) h63 hbytes fun v' w' h' h1 h2 h3 => hK _ _ (hk v' w' h' _ h1 h2 (fun b hb => ?_) h3)
  rcases List.mem_append.1 hb with hb | hb
  ·exact .inl hb
  ·exact .inr (hsub _ hb)
theorem homeS_any (s : Shp) (r : Rec) (hg : 1 ≤ s.groups ∧ s.groups ≤ 4) (hn : r.name.size ≤ 8) (w : World) :
  Calls Tryz.prog 186 #[.agg #[.int .i64 s.groups, .int .i64 s.column, .int .i64 s.data, .int .i64 s.spare, .int .i64 s.rows, .int .i64 s.cap, .int .i64 s.batch, .int .i64 s.queue, .int .i64 s.stage], .string r.name] w fun e w' => e = .returned (.int .i64 (homI s r)) ∧ Chg [] w w' := l4Home_any s r.name hg.1 hg.2 hn w
theorem z0p.liveS {s : Shp} {xs : List Rec} (h : z0p s xs) {r : Rec} (hr : r ∈ livL xs) : r.name.size ≤ 8 ∧ r.rows.length ≤ 400 := by
 obtain ⟨h1, h2⟩ := liv_mem hr
 exact ⟨((h.2.2 r h1).1 h2).1, ((h.2.2 r h1).1 h2).2.1⟩
theorem z1v {w w4 : World} {n0 gg : Nat} {f : List Nat} {xs ys : List Int} {v' : Value} {h' : Option Nat} {fp : List Nat} (hn : n0 ≤ w.heap.size) (hf : ∀ y ∈ f, y < w.heap.size) (ho : intL.os 2 w4 v' (xs ++ ys) h' fp) (hh : h' = some gg ∨ h' = some w.heap.size) (hg : n0 ≤ gg ∧ gg ∉ f) : ∃ g2, intL.os 2 w4 v' (xs ++ ys) (some g2) [] ∧ n0 ≤ g2 ∧ g2 ∉ f := by
 have e : fp = [] := by
  rcases ho with ⟨_, _, _, rfl⟩ | ⟨_, _, _, _, _, _, _, _, _, hall, _⟩
  ·rfl
  ·exact Lay.flat_all q9j hall
 subst e
 rcases hh with rfl | rfl
 ·exact ⟨gg, ho, hg⟩
 ·exact ⟨_, ho, hn, fun hm => Nat.lt_irrefl _ (hf _ hm)⟩
theorem l6Free_any (s : Shp) (g : Int) (a : Option Addr) (l c : Nat) (xs : List Rec) (f : List Nat) (w : World) (ha : recL.sl w a l c xs f) (hl : xs.length ≤ 400) (hro : z0p s xs) :
  Calls Tryz.prog 110 #[.agg #[.int .i64 s.groups, .int .i64 s.column, .int .i64 s.data, .int .i64 s.spare, .int .i64 s.rows, .int .i64 s.cap, .int .i64 s.batch, .int .i64 s.queue, .int .i64 s.stage], .slice a l c, .int .i64 g] w (q5e intL (freL s g xs) w) := by
 obtain ⟨KI, _⟩ := kindI
 obtain ⟨n, hn⟩ : ∃ n : Nat, s.rows = (n : Int) := ⟨s.rows.toNat, by have := hro.2.1; omega⟩
 have hn6 : n ≤ 6 := by have := hro.2.1; omega
 have HFL := hid (show freL s g xs = freK (usdL s g xs) n by unfold freL; rw [hn]; rfl)
 obtain ⟨W0, hW0⟩ : ∃ W0, W0 = w.alloc (.cells #[.int .i64 s.groups, .int .i64 s.column, .int .i64 s.data, .int .i64 s.spare, .int .i64 s.rows, .int .i64 s.cap, .int .i64 s.batch, .int .i64 s.queue, .int .i64 s.stage] 30) := ⟨_, rfl⟩
 have g0 : Chg [] w W0 := by rw [hW0]; exact (Chg.refl [] w).alloc _
 have HSZ := hid (show W0.heap.size = w.heap.size + 1 by rw [hW0]; simp)
 have HB0 := hid (show W0.heap[w.heap.size]? = some (.cells #[.int .i64 s.groups, .int .i64 s.column, .int .i64 s.data, .int .i64 s.spare, .int .i64 s.rows, .int .i64 s.cap, .int .i64 s.batch, .int .i64 s.queue, .int .i64 s.stage] 30 (0, 0)) by rw [hW0]; exact q1a w _)
 have g1 : Chg [] W0 (W0.alloc (.cells #[] 2)) := (Chg.refl [] W0).alloc _
 have HLV := hid (l6Live_any a l c xs f (W0.alloc (.cells #[] 2)) (recL.sl_ext ha (g0.trans0 g1)) hl)
 have HO1 := hid (intL.os_made 2 W0 #[] 0 (by simp [maxLen]) (by simp)); have HE1 := hid (q1a W0 (.cells #[] 2))
 have HA := hid (recL.sl_ext ha g0); have HG0 := hid g0; have HG1' := hid g1; have HRO := hid hro; have HN := hid hn; have HG4 := hid hro.1; have HL := hid ha.1; have HXL4 := hid hl
 have hla := recL.sl_max ha
 clear ha hl hro hn g0 g1
 go_enter Tryz.func110, Tryz.ntmps110
 go_wp2_with fail
 rw [← hW0]
 clear hW0
 refine HLV.out.mono ?_
 rintro e w2 ⟨a2, l2, c2, f0, rfl, hs0, hc⟩
 obtain ⟨f2, hs, hbf⟩ := q8t (NoB.empty (hc.keep0 HE1.out)) hs0
 obtain ⟨zs, hzs⟩ : ∃ zs, zs = livL xs := ⟨_, rfl⟩
 rw [← hzs] at hs
 have HRL := hid (fun (k : Nat) (r : Rec) (hr : zs[k]? = some r) => HRO.out.liveS (by rw [← hzs]; exact List.mem_of_getElem? hr))
 have HZL := hid (show zs.length ≤ 400 by rw [hzs]; exact Nat.le_trans (livL_len xs) HXL4.out)
 have HZS9 := hid hzs; have HZS := hid hs; have HL2 := hid hs.1; have HC2 := hid (HG1'.out.trans0 hc); have HO2 := hid (intL.os_ext HO1.out hc); have HBF := hid hbf
 have HFW := hid (fun y (hy : y ∈ f2) => recL.sl_lt hs y hy)
 have hla2 := recL.sl_max hs
 clear hs0 hs hbf hc hzs HLV
 go_wp2_with fail
 go_loopw [7, 9] (fun vu vi wr => ∃ (k gg : Nat) (Wr : World), Wr = wr ∧ k ≤ l2 ∧ vi = .int .i64 k ∧ intL.os 2 wr vu (us1 s g (zs.take k)) (some gg) [] ∧ (W0.heap.size ≤ gg ∧ gg ∉ f2) ∧ recL.sl wr a2 l2 c2 zs f2 ∧ Chg [] W0 wr) (fun _ vi _ => l2 - (intOf vi).toNat)
 case atStart => exact ⟨0, _, _, rfl, by omega, rfl, by rw [← HSZ.out]; exact HO2.out, ⟨Nat.le_refl _, HBF.out⟩, HZS.out, HC2.out⟩
 case round =>
  obtain ⟨k, gg, wr, rfl, hk, rfl, ho, hg, hs, hc⟩ := hrel
  by_cases hlt : k < l2
  ·obtain ⟨r, b2, off2, cy, fq, HR, rfl, HCE, HXS⟩ := q9v hs hlt
   obtain ⟨a6, l6, c6, f6, a7, l7, c7, f7, a8, l8, c8, f8, hcy, -, -, -, -, -, -, h6, -, -, hfq⟩ := q0m.1 HXS.out
   subst hcy
   have HXL := hid (show zs[k]? = some r from HR.out.1)
   have HF6 := hid (show ∀ y ∈ f6, y ∈ f2 from fun y hy => HR.out.2.2 _ (by rw [hfq]; exact List.mem_append.2 (.inl hy)))
   have g1 : Chg [] wr wr.drew := (Chg.refl [] wr).drew
   have HSD := hid (show wr.drew.heap[w.heap.size]? = some (.cells #[.int .i64 s.groups, .int .i64 s.column, .int .i64 s.data, .int .i64 s.spare, .int .i64 s.rows, .int .i64 s.cap, .int .i64 s.batch, .int .i64 s.queue, .int .i64 s.stage] 30 (0, 0)) from hc.keep0 HB0.out)
   have HCN := hid (show wr.drew.cell? ⟨b2, off2 + k * 9 + 2, none⟩ = some (.string r.name) from HCE.out.2.1 2 _ rfl)
   have HQ6 := hid (show wr.cell? ⟨b2, off2 + k * 9 + 6, none⟩ = some (.slice a6 l6 c6) from HCE.out.2.1 6 _ rfl)
   have HBL := hid (show b2 < wr.drew.heap.size from recL.sl_lt hs b2 HR.out.2.1)
   have HNL := hid (HRL.out k r HXL.out).1; have HRW := hid (HRL.out k r HXL.out).2
   obtain ⟨hv, hhv⟩ : ∃ hv, hv = homI s r := ⟨_, rfl⟩
   have HH := hid hhv.symm
   obtain ⟨U, hU⟩ : ∃ U, U = us1 s g (zs.take k) := ⟨_, rfl⟩
   rw [← hU] at ho
   have HUL := hid (show U.length ≤ 160000 by
    rw [hU]
    have h1 := us1_len (s := s) (g := g) (zs := zs.take k) (fun r hr => by
     obtain ⟨i, hi, e⟩ := List.getElem_of_mem (List.mem_of_mem_take hr)
     exact (HRL.out i r (by rw [List.getElem?_eq_getElem hi, e])).2)
    have h2 : (zs.take k).length ≤ 400 := by rw [List.length_take]; have := HZL.out; omega
    omega)
   obtain ⟨a9, c9, rfl⟩ := intL.os_len ho
   obtain ⟨lx, hlx⟩ : ∃ lx, lx = U.length := ⟨_, rfl⟩
   have HLL := hid (show U.length + r.rows.length ≤ maxLen ∧ (U.length + r.rows.length) * 8 ≤ 140737488355328 by have := HUL.out; have := HRW.out; simp only [maxLen]; omega)
   rw [← hlx] at ho ⊢
   have HO := hid ho; have HC := hid hc; have HGG := hid hg; have HZS2 := hid hs; have H6 := hid h6; have HG1 := hid g1
   have HHV := hid hhv; have HUU := hid hU
   clear hs ho hc hg h6 hfq g1 hhv hU hlx HR HXS
   go_wp2_with fail
   obtain ⟨SS1, HSI1, HSO1⟩ := q0k (fun w' => Know w.heap.size #[.int .i64 s.groups, .int .i64 s.column, .int .i64 s.data, .int .i64 s.spare, .int .i64 s.rows, .int .i64 s.cap, .int .i64 s.batch, .int .i64 s.queue, .int .i64 s.stage] w' ∧ w'.cell? ⟨b2, off2 + k * 9 + 2, none⟩ = some (.string r.name))
   have hS0 := HSI1.out _ ⟨(Know.of HSD.out), HCN.out⟩
   refine q0g SS1 (by kernel_rfl) hS0 ?_
   refine rgL 0 hS0 HSO1 ?_
   refine rgT 1 hS0 ?_
   refine rgT 2 hS0 ?_
   refine rgT 3 hS0 ?_
   refine rgT 4 hS0 ?_
   refine rgL 5 hS0 HSO1 ?_
   refine rgT 7 hS0 ?_
   refine q0c 6 rfl (by kernel_rfl) (fun K hK => ?_)
   go_simp
   go_at_call 186
   refine (homeS_any s r HG4.out HNL.out _).mono ?_; rintro e w5 ⟨rfl, hc5⟩; have HC5 := hid hc5; clear hc5
   rw [HH.out]
   go_wp2_with fail
   refine hK.out _ _ (HSI1.out _ ⟨(Know.of (HC5.out.keep0 HSD.out)), (q0j HC5.out HCN.out HBL.out)⟩) (fun hS1 => ?_)
   clear hK K
   try simp only [Act.put, pA, pB, pC]
   refine rgT 8 hS1 ?_
   refine wpAnyH_done (by kernel_rfl) ?_ _
   have HC6 := hid (HG1.out.trans0 HC5.out)
   have hc6 := q0j HC6.out HQ6.out HBL.out
   have HZ6 := hid (recL.sl_ext HZS2.out HC6.out); have HO6 := hid (intL.os_ext HO.out HC6.out); have HC7 := hid (HC.out.trans0 HC6.out)
   
   by_cases hq : hv = g
   ·have hbq : (hv == g) = true := by simp [hq]
    have HNX := hid (show us1 s g (zs.take (k + 1)) = U ++ r.rows by rw [HUU.out]; exact us1_yes HXL.out (by unfold homP; rw [← HHV.out]; exact hbq))
    clear hq
    have H66 := hid (intL.sl_ext H6.out HC6.out)
    have HNF := hid (show ∀ q, some gg = some q → q ∉ f6 from fun q e hm => by cases e; exact HGG.out.2 (HF6.out _ hm))
    go_wp2_with (at_builtin; refine intL.wpList_own2 rfl _ _ 25 rfl Tryz.underlying25 KI rfl HO6.out rfl H66.out HNF.out HLL.out.1 HLL.out.2 ?_; intro v' w4 h' fp' ho' hh' hs' hc'; have HO4 := hid (And.intro ho' (And.intro hh' hc')); clear ho' hh' hs' hc')
    have HF5 := hid (fun y (hy : y ∈ f2) => show y < w5.heap.size from recL.sl_lt HZ6.out y hy)
    obtain ⟨g2, hg2, hg3⟩ := z1v (n0 := W0.heap.size) HC7.out.size HF5.out HO4.out.1 HO4.out.2.1 HGG.out
    have H8 := hid (show recL.sl w4 (some ⟨b2, off2, none⟩) l2 c2 zs f2 ∧ Chg [] W0 w4 from by
     have hc2 : Chg [gg] w5 w4 := HO4.out.2.2
     exact ⟨recL.sl_chg HZ6.out hc2 (fun y hy hm => HGG.out.2 (by rw [List.mem_singleton] at hm; exact hm ▸ hy)), HC7.out.trans hc2 (fun y hy => .inr (by rw [List.mem_singleton] at hy; rw [hy]; exact HGG.out.1))⟩)
    have H9 := hid (And.intro hg2 hg3)
    clear hg2 hg3
    go_roundw
    case rel => exact ⟨k + 1, g2, _, rfl, by omega, by go_num, by rw [HNX.out]; exact H9.out.1, H9.out.2, H8.out.1, H8.out.2⟩
    case measure => simp [intOf]; omega
   ·have hbq : (hv == g) = false := by simp [hq]
    have HNX := hid (show us1 s g (zs.take (k + 1)) = U by rw [HUU.out]; exact us1_no HXL.out (by unfold homP; rw [← HHV.out]; exact hbq))
    clear hq
    go_wp2_with fail
    go_roundw
    case rel => exact ⟨k + 1, gg, _, rfl, by omega, by go_num, by rw [HNX.out]; exact HO6.out, HGG.out, HZ6.out, HC7.out⟩
    case measure => simp [intOf]; omega
  ·obtain rfl : k = l2 := by omega
   rw [List.take_of_length_le (by have := HL2.out; omega)] at ho
   obtain ⟨V, hV⟩ : ∃ V, V = us1 s g zs := ⟨_, rfl⟩
   have HVL := hid (show V.length ≤ 160000 by
    rw [hV]
    have h1 := us1_len (s := s) (g := g) (zs := zs) (fun r hr => by
     obtain ⟨i, hi, e⟩ := List.getElem_of_mem hr
     exact (HRL.out i r (by rw [List.getElem?_eq_getElem hi, e])).2)
    have := HZL.out
    omega)
   rw [← hV] at ho
   have HV := hid (show usdL s g xs = V ++ us2 g xs by rw [hV, HZS9.out]; rfl)
   have HO3 := hid ho; have HG3 := hid hg.1; have HC3 := hid hc
   clear ho hg hs hc hV
   go_wp2_with fail
   go_loopw [7, 10] (fun vu vi wr => ∃ (k gg : Nat) (Wr : World), Wr = wr ∧ k ≤ l ∧ vi = .int .i64 k ∧ intL.os 2 wr vu (V ++ us2 g (xs.take k)) (some gg) [] ∧ W0.heap.size ≤ gg ∧ Chg [] W0 wr) (fun _ vi _ => l - (intOf vi).toNat)
   case atStart => exact ⟨0, _, _, rfl, by omega, rfl, by rw [show us2 g (xs.take 0) = [] from rfl, List.append_nil]; exact HO3.out, HG3.out, HC3.out⟩
   case round =>
    obtain ⟨k, gg, wr, rfl, hk, rfl, ho, hg, hc⟩ := hrel
    by_cases hlt : k < l
    ·obtain ⟨r, b2, off2, a6, l6, c6, a7, l7, c7, a8, l8, c8, fq, HR, rfl, hq0, hq1, hq2, hq3, hq4, hq5, hq6, hq7, hq8, HXS⟩ := q4q (recL.sl_ext HA.out hc) hlt
     have HXL := hid (show xs[k]? = some r from HR.out.1)
     have HKO := hid (show q1t r.row by
      obtain ⟨_, _, _, _, _, _, _, _, _, _, _, _, -, -, -, -, -, -, h5, -⟩ := q0m.1 HXS.out
      exact h5)
     obtain ⟨U, hU⟩ : ∃ U, U = V ++ us2 g (xs.take k) := ⟨_, rfl⟩
     rw [← hU] at ho
     have HUL := hid (show U.length ≤ 160400 by
      rw [hU, List.length_append]
      have h1 := us2_len g (xs.take k)
      have h2 : (xs.take k).length ≤ 400 := by rw [List.length_take]; have := HXL4.out; omega
      have := HVL.out; omega)
     obtain ⟨a9, c9, rfl⟩ := intL.os_len ho
     obtain ⟨lx, hlx⟩ : ∃ lx, lx = U.length := ⟨_, rfl⟩
     have HLL := hid (show U.length + [r.row].length ≤ maxLen ∧ (U.length + [r.row].length) * 8 ≤ 140737488355328 by have := HUL.out; simp only [List.length_singleton, maxLen]; omega)
     rw [← hlx] at ho ⊢
     have HO := hid ho; have HC := hid hc; have HGG := hid hg; have HU := hid hU
     clear ho hc hg hU hlx HR HXS
     by_cases h2 : r.kind = 2
     ·have hb2 : (r.kind == 2) = true := by simp [h2]
      by_cases hg2 : r.group = g
      ·have hbg : (r.group == g) = true := by simp [hg2]
       have HNX := hid (show V ++ us2 g (xs.take (k + 1)) = U ++ [r.row] by rw [z1k HXL.out (q0i (.inl ⟨h2, hg2⟩)), HU.out, List.append_assoc])
       clear h2 hg2
       go_wp2_with (at_builtin; refine intL.wpList_append rfl _ _ 25 rfl Tryz.underlying25 KI rfl (intL.os_ext HO.out ((Chg.refl [] wr).alloc (.cells #[.int .i64 r.row] 2))) ⟨wr.heap.size, 0, none⟩ 1 1 [.int .i64 r.row] (ys := [r.row]) (f := []) rfl rfl (q7v wr (.int .i64 r.row) 2) (intL.all_single ⟨rfl, HKO.out, rfl⟩) (by simp) HLL.out.1 HLL.out.2 ?_; intro v' w4 h' ho' hh' hc'; have HO4 := hid (And.intro ho' (And.intro hh' hc')); clear ho' hh' hc')
       obtain ⟨g2, hg2, hg4⟩ := z1v (f := []) (n0 := W0.heap.size) (HC.out.alloc (.cells #[.int .i64 r.row] 2)).size (by simp) HO4.out.1 HO4.out.2.1 ⟨HGG.out, by simp⟩
       have H8 := hid (show Chg [] W0 w4 from by
        have hc2 : Chg [gg] (wr.alloc (.cells #[.int .i64 r.row] 2)) w4 := HO4.out.2.2
        exact (HC.out.alloc _).trans hc2 (fun y hy => .inr (by rw [List.mem_singleton] at hy; rw [hy]; exact HGG.out)))
       have H9 := hid (And.intro hg2 hg4.1)
       clear hg2 hg4
       go_roundw
       case rel => exact ⟨k + 1, g2, _, rfl, by omega, by go_num, by rw [HNX.out]; exact H9.out.1, H9.out.2, H8.out⟩
       case measure => simp [intOf]; omega
      ·have hbg : (r.group == g) = false := by simp [hg2]
       have hb4 : (r.kind == 4) = false := by simp [h2]
       have HNX := hid (show V ++ us2 g (xs.take (k + 1)) = U by rw [us2_no HXL.out (q0h (fun h => h.elim (fun h => hg2 h.2) (fun h => by omega))), HU.out])
       clear h2 hg2
       go_wp2_with fail
       go_roundw
       case rel => exact ⟨k + 1, gg, _, rfl, by omega, by go_num, by rw [HNX.out]; exact HO.out, HGG.out, HC.out⟩
       case measure => simp [intOf]; omega
     ·have hb2 : (r.kind == 2) = false := by simp [h2]
      by_cases h4 : r.kind = 4
      ·have hb4 : (r.kind == 4) = true := by simp [h4]
       have HNX := hid (show V ++ us2 g (xs.take (k + 1)) = U ++ [r.row] by rw [z1k HXL.out (q0i (.inr h4)), HU.out, List.append_assoc])
       clear h2 h4
       go_wp2_with (at_builtin; refine intL.wpList_append rfl _ _ 25 rfl Tryz.underlying25 KI rfl (intL.os_ext HO.out ((Chg.refl [] wr).alloc (.cells #[.int .i64 r.row] 2))) ⟨wr.heap.size, 0, none⟩ 1 1 [.int .i64 r.row] (ys := [r.row]) (f := []) rfl rfl (q7v wr (.int .i64 r.row) 2) (intL.all_single ⟨rfl, HKO.out, rfl⟩) (by simp) HLL.out.1 HLL.out.2 ?_; intro v' w4 h' ho' hh' hc'; have HO4 := hid (And.intro ho' (And.intro hh' hc')); clear ho' hh' hc')
       obtain ⟨g2, hg2, hg4⟩ := z1v (f := []) (n0 := W0.heap.size) (HC.out.alloc (.cells #[.int .i64 r.row] 2)).size (by simp) HO4.out.1 HO4.out.2.1 ⟨HGG.out, by simp⟩
       have H8 := hid (show Chg [] W0 w4 from by
        have hc2 : Chg [gg] (wr.alloc (.cells #[.int .i64 r.row] 2)) w4 := HO4.out.2.2
        exact (HC.out.alloc _).trans hc2 (fun y hy => .inr (by rw [List.mem_singleton] at hy; rw [hy]; exact HGG.out)))
       have H9 := hid (And.intro hg2 hg4.1)
       clear hg2 hg4
       go_roundw
       case rel => exact ⟨k + 1, g2, _, rfl, by omega, by go_num, by rw [HNX.out]; exact H9.out.1, H9.out.2, H8.out⟩
       case measure => simp [intOf]; omega
      ·have hb4 : (r.kind == 4) = false := by simp [h4]
       have HNX := hid (show V ++ us2 g (xs.take (k + 1)) = U by rw [us2_no HXL.out (q0h (fun h => h.elim (fun h => h2 h.1) h4)), HU.out])
       clear h2 h4
       go_wp2_with fail
       go_roundw
       case rel => exact ⟨k + 1, gg, _, rfl, by omega, by go_num, by rw [HNX.out]; exact HO.out, HGG.out, HC.out⟩
       case measure => simp [intOf]; omega
    ·obtain rfl : k = l := by omega
     rw [List.take_of_length_le (by have := HL.out; omega), ← HV.out] at ho
     obtain ⟨T9, hT9⟩ : ∃ T9, T9 = usdL s g xs := ⟨_, rfl⟩
     have HTL := hid (show T9.length ≤ 160400 by
      rw [hT9, HV.out, List.length_append]
      have h1 := us2_len g xs
      have := HXL4.out; have := HVL.out; omega)
     rw [← hT9] at ho
     have HFK := hid (show freL s g xs = freK T9 n by rw [HFL.out, hT9])
     obtain ⟨at9, ct9, rfl, hst⟩ := intL.os_sl ho
     obtain ⟨lt9, hlt9⟩ : ∃ lt9, lt9 = T9.length := ⟨_, rfl⟩
     rw [← hlt9] at hst ⊢
     have HST := hid (show intL.sl wr at9 lt9 ct9 T9 [gg] from hst)
     have HGW := hid (show gg ≠ wr.heap.size from fun e => by have := (intL.os_lt ho).1 gg rfl; omega)
     have HO4 := hid (intL.os_made 2 wr #[] 0 (by simp [maxLen]) (by simp))
     have HC4 := hid (hc.alloc (.cells #[] 2)); have HST4 := hid (intL.sl_ext hst ((Chg.refl [] wr).alloc (.cells #[] 2)))
     have HW4 := hid hc.size
     clear ho hc hg hst hT9 hlt9
     go_wp2_with fail
     go_loopw [11, 12] (fun vo vi wq => ∃ (k g3 : Nat) (Wq : World), Wq = wq ∧ k ≤ n ∧ vi = .int .i64 k ∧ intL.os 2 wq vo (freK T9 k) (some g3) [] ∧ (W0.heap.size ≤ g3 ∧ g3 ≠ gg) ∧ intL.sl wq at9 lt9 ct9 T9 [gg] ∧ Chg [] W0 wq) (fun _ vi _ => n - (intOf vi).toNat)
     case atStart => exact ⟨0, _, _, rfl, by omega, rfl, HO4.out, ⟨HW4.out, HGW.out.symm⟩, HST4.out, HC4.out⟩
     case round =>
      obtain ⟨k, g3, wq, rfl, hk, rfl, ho, hg, hst, hc⟩ := hrel
      have hbs := hc.keep0 HB0.out
      have cS := cellsOf hbs; have nS := ltOf hbs
      clear hbs
      by_cases hlt : k < n
      ·have hlt3 : (k : Int) < s.rows := by have := HN.out; omega
       obtain ⟨q, hq⟩ : ∃ q, q = T9.contains (k : Int) := ⟨_, rfl⟩
       have HHS := hid (l1Has_any at9 lt9 ct9 T9 [gg] (k : Int) wq hst)
       rw [pb_mem, ← hq] at HHS
       have hkl := q9l T9 k
       have HSQ := hid hst; have HCQ := hid hc; have HGQ := hid hg
       obtain ⟨a9, c9, rfl⟩ := intL.os_len ho
       obtain ⟨lx, hlx⟩ : ∃ lx, lx = (freK T9 k).length := ⟨_, rfl⟩
       have HLL := hid (show (freK T9 k).length + [(k : Int)].length ≤ maxLen ∧ ((freK T9 k).length + [(k : Int)].length) * 8 ≤ 140737488355328 by simp only [List.length_singleton, maxLen]; omega)
       have HKO := hid (show q1t (k : Int) from ⟨by omega, by omega⟩)
       rw [← hlx] at ho ⊢
       have HOQ := hid ho
       have HNX := hid (show freK T9 (k + 1) = if q then freK T9 k else freK T9 k ++ [(k : Int)] by
        cases q
        ·exact z2l hq.symm
        ·exact freK_no hq.symm)
       clear ho hg hst hc hq hlx hkl
       go_wp2_with fail
       refine HHS.out.mono ?_
       rintro e w6 ⟨rfl, rfl⟩
       cases q
       ·go_wp2_with (at_builtin; refine intL.wpList_append rfl _ _ 25 rfl Tryz.underlying25 KI rfl (intL.os_ext HOQ.out ((Chg.refl [] wq).alloc (.cells #[.int .i64 k] 2))) ⟨wq.heap.size, 0, none⟩ 1 1 [.int .i64 k] (ys := [(k : Int)]) (f := []) rfl rfl (q7v wq (.int .i64 k) 2) (intL.all_single ⟨rfl, HKO.out, rfl⟩) (by simp) HLL.out.1 HLL.out.2 ?_; intro v' w4 h' ho' hh' hc'; have HO4 := hid (And.intro ho' (And.intro hh' hc')); clear ho' hh' hc')
        obtain ⟨g2, hg2, hg4⟩ := z1v (f := [gg]) (n0 := W0.heap.size) (HCQ.out.alloc (.cells #[.int .i64 k] 2)).size (fun y hy => intL.sl_lt (intL.sl_ext HSQ.out ((Chg.refl [] wq).alloc (.cells #[.int .i64 k] 2))) y hy) HO4.out.1 HO4.out.2.1 ⟨HGQ.out.1, by simpa using HGQ.out.2⟩
        have H8 := hid (show intL.sl w4 at9 lt9 ct9 T9 [gg] ∧ Chg [] W0 w4 from by
         have hc2 : Chg [g3] (wq.alloc (.cells #[.int .i64 k] 2)) w4 := HO4.out.2.2
         exact ⟨intL.sl_chg (intL.sl_ext HSQ.out ((Chg.refl [] wq).alloc _)) hc2 (fun y hy hm => HGQ.out.2 (by rw [List.mem_singleton] at hm hy; rw [← hm, hy])), (HCQ.out.alloc _).trans hc2 (fun y hy => .inr (by rw [List.mem_singleton] at hy; rw [hy]; exact HGQ.out.1))⟩)
        have H9 := hid (And.intro hg2 hg4)
        clear hg2 hg4
        go_roundw
        case rel => exact ⟨k + 1, g2, _, rfl, by omega, by go_num, by rw [HNX.out]; exact H9.out.1, ⟨H9.out.2.1, by simpa using H9.out.2.2⟩, H8.out.1, H8.out.2⟩
        case measure => simp [intOf]; omega
       ·go_wp2_with fail
        go_roundw
        case rel => exact ⟨k + 1, g3, _, rfl, by omega, by go_num, by rw [HNX.out]; exact HOQ.out, HGQ.out, HSQ.out, HCQ.out⟩
        case measure => simp [intOf]; omega
      ·obtain rfl : k = n := by omega
       have hlt3 : ¬ (k : Int) < s.rows := by have := HN.out; omega
       have HE := hid (intL.os_new ho q9j (HG0.out.trans0 hc) (fun g' e => by cases e; have := HG0.out.size; omega))
       clear ho hg hst hc
       go_wp2_with fail
       go_ret
       rw [HFK.out]
       exact HE.out
noncomputable def freR (x : Wld) (g : Int) : IRes := if x.fault = 0 then (if 0 ≤ g ∧ g ≤ x.shape.groups - 1 then ⟨0, freL x.shape g (cntL x.tapes)⟩ else ⟨3, []⟩) else ⟨x.fault, []⟩
theorem freR_bad {x : Wld} {g : Int} (h : ¬ x.fault = 0) : freR x g = ⟨x.fault, []⟩ := if_neg h
theorem freR_rng {x : Wld} {g : Int} (h : x.fault = 0) (h2 : ¬ (0 ≤ g ∧ g ≤ x.shape.groups - 1)) : freR x g = ⟨3, []⟩ := by unfold freR; rw [if_pos h, if_neg h2]
theorem freR_ok {x : Wld} {g : Int} (h : x.fault = 0) (h2 : 0 ≤ g ∧ g ≤ x.shape.groups - 1) : freR x g = ⟨0, freL x.shape g (cntL x.tapes)⟩ := by unfold freR; rw [if_pos h, if_pos h2]
theorem cntFre (x : Wld) (g : Int) : ((freR x g).list.length : Int) ≤ 6 := by
 unfold freR
 split
 ·rename_i hf
  split
  ·have h1 := q9l (usdL x.shape g (cntL x.tapes)) x.shape.rows.toNat
   have h2 := (q8n hf).2.1
   show ((freL x.shape g (cntL x.tapes)).length : Int) ≤ 6
   unfold freL
   omega
  ·simp
 ·simp
theorem badI9 {w w1 w9 : World} {b : Nat} (q : Int) (hq : q1t q) (r : IRes) (hr : r = ⟨q, []⟩) (hc : Chg [] w w1) (hc9 : Chg [b] w1 w9) (hb : w.heap.size ≤ b) :
  q6q irsL r w (.returned (.agg #[.int .i64 q, .slice none 0 0])) w9 :=
 ⟨_, [], rfl, by rw [hr]; exact q9i.2 ⟨none, 0, 0, rfl, hq, q7g _ _⟩, q0r.nil _ _, hc.trans hc9 (fun y hy => .inr (by rw [List.mem_singleton] at hy; omega))⟩
theorem finI9 {w w1 w9 : World} {b : Nat} {y : List Int} {f : List Nat} {a : Option Addr} {l c : Nat} (r : IRes) (hrr : r = ⟨0, y⟩) (hs : intL.sl w1 a l c y f) (hf : q0r w.heap.size w1 f) (hc : Chg [] w w1) (hc9 : Chg [b] w1 w9) (hn : b ∉ f) (hb : w.heap.size ≤ b) :
  q6q irsL r w (.returned (.agg #[.int .i64 0, .slice a l c])) w9 :=
 ⟨_, f, rfl, by rw [hrr]; exact q9i.2 ⟨a, l, c, rfl, i64z, intL.sl_chg hs hc9 (fun y hy hm => hn (by rw [List.mem_singleton] at hm; exact hm ▸ hy))⟩, hf.chg hc9, hc.trans hc9 (fun y hy => .inr (by rw [List.mem_singleton] at hy; omega))⟩
theorem z2k (x : Wld) (cx : Array Value) (fx : List Nat) (g : Int) (w : World) (hx : wldL.rep w cx.toList x fx) (hz : q4p x ≤ 1048576) (_og : q1t g) :
  Calls Tryz.prog 41 #[.agg cx, .int .i64 g] w (q6q irsL (freR x g) w) := by
 obtain ⟨a10, l10, c10, _, a11, l11, c11, f11, a12, l12, c12, _, ex, -, -, -, -, -, -, -, -, -, h10, h11, h12, oo13, oo14, -⟩ := q1c.1 hx
 obtain rfl := Array.toList_inj.1 (ex.trans (List.toList_toArray).symm)
 have HW := hid hx; have HZ := hid hz; have H10 := hid h10; have H11 := hid h11; have H12 := hid h12; have HOO := hid (And.intro oo13 oo14)
 have hl11 : l11 ≤ 1048576 := by have h := h11.1; have q10 := q0v (q0v q1h) x.groups; have q12 := q0v q1y x.tapes; unfold q4p q3x at hz; omega
 clear hx ex hz h10 h11 h12 oo13 oo14
 have G0 := hid (show Chg [] w ((w.alloc (.cells #[.int .i64 x.shape.groups, .int .i64 x.shape.column, .int .i64 x.shape.data, .int .i64 x.shape.spare, .int .i64 x.shape.rows, .int .i64 x.shape.cap, .int .i64 x.shape.batch, .int .i64 x.shape.queue, .int .i64 x.shape.stage, .slice a10 l10 c10, .slice a11 l11 c11, .slice a12 l12 c12, .int .i64 x.writes, .int .i64 x.stop, .bool x.down] 34)).alloc (.cells #[.int .i64 0, .slice none 0 0] 58)) from (Chg.alloc (Chg.alloc (Chg.refl [] w) _) _))
 have B0 := hid (show ((w.alloc (.cells #[.int .i64 x.shape.groups, .int .i64 x.shape.column, .int .i64 x.shape.data, .int .i64 x.shape.spare, .int .i64 x.shape.rows, .int .i64 x.shape.cap, .int .i64 x.shape.batch, .int .i64 x.shape.queue, .int .i64 x.shape.stage, .slice a10 l10 c10, .slice a11 l11 c11, .slice a12 l12 c12, .int .i64 x.writes, .int .i64 x.stop, .bool x.down] 34)).alloc (.cells #[.int .i64 0, .slice none 0 0] 58)).heap[w.heap.size]? = some (.cells #[.int .i64 x.shape.groups, .int .i64 x.shape.column, .int .i64 x.shape.data, .int .i64 x.shape.spare, .int .i64 x.shape.rows, .int .i64 x.shape.cap, .int .i64 x.shape.batch, .int .i64 x.shape.queue, .int .i64 x.shape.stage, .slice a10 l10 c10, .slice a11 l11 c11, .slice a12 l12 c12, .int .i64 x.writes, .int .i64 x.stop, .bool x.down] 34 (0, 0)) from q0b (q1a w _) _)
 have B1 := hid (show ((w.alloc (.cells #[.int .i64 x.shape.groups, .int .i64 x.shape.column, .int .i64 x.shape.data, .int .i64 x.shape.spare, .int .i64 x.shape.rows, .int .i64 x.shape.cap, .int .i64 x.shape.batch, .int .i64 x.shape.queue, .int .i64 x.shape.stage, .slice a10 l10 c10, .slice a11 l11 c11, .slice a12 l12 c12, .int .i64 x.writes, .int .i64 x.stop, .bool x.down] 34)).alloc (.cells #[.int .i64 0, .slice none 0 0] 58)).heap[w.heap.size + 1]? = some (.cells #[.int .i64 0, .slice none 0 0] 58 (0, 0)) from q0d (by simp) _)
 go_enter Tryz.func41, Tryz.ntmps41
 obtain ⟨q, hq⟩ : ∃ q, q = x.fault := ⟨_, rfl⟩
 have HQ := hid hq; clear hq
 go_wp2_with (first | (refine q0n rfl _ 34 rfl rfl q2c Tryz.underlying34 B0.out rfl ?_))
 refine (z0i x #[.int .i64 x.shape.groups, .int .i64 x.shape.column, .int .i64 x.shape.data, .int .i64 x.shape.spare, .int .i64 x.shape.rows, .int .i64 x.shape.cap, .int .i64 x.shape.batch, .int .i64 x.shape.queue, .int .i64 x.shape.stage, .slice a10 l10 c10, .slice a11 l11 c11, .slice a12 l12 c12, .int .i64 x.writes, .int .i64 x.stop, .bool x.down] fx _ (wldL.ext HW.out G0.out)).mono ?_
 rintro e w1 ⟨rfl, hc⟩
 rw [← HQ.out]
 obtain ⟨c0, n0, A0_1⟩ := bk0 hc B0.out
 obtain ⟨c1, n1, A1_1⟩ := bk0 hc B1.out
 have G1 := hid (G0.out.trans0 hc)
 have fz := q0l A1_1.out
 clear hc
 have hqk : q1t q := by rw [HQ.out]; exact fault_i64 x
 by_cases hq0 : q = 0
 ·subst hq0
  have hf0 : x.fault = 0 := HQ.out.symm
  have hok := q8d hf0; have hg4 := hok.groups
  by_cases hin : 0 ≤ g ∧ g ≤ x.shape.groups - 1
  ·have HI := hid (show inB g 0 (x.shape.groups - 1) = true by simp [inB, hin.1, hin.2])
   go_wp2_with (first | (refine q0n rfl _ 34 rfl rfl q2c Tryz.underlying34 A0_1.out rfl ?_))
   refine (z0h x.shape hok g _).mono ?_
   rintro e w2 ⟨rfl, hc⟩
   rw [HI.out]
   clear c0 n0
   obtain ⟨c0, n0, A0_2⟩ := bk0 hc A0_1.out
   clear c1 n1
   obtain ⟨c1, n1, A1_2⟩ := bk0 hc A1_1.out
   have G2 := hid (G1.out.trans0 hc)
   clear fz; have fz := q0l A1_2.out
   clear hc
   have HR := hid (freR_ok hf0 hin)
   have HN := hid (freeRows_any w.heap.size x.shape a12 l12 c12 _ x.tapes g w2 A0_2.out (tapL.sl_ext H12.out G2.out) (q8o hf0) (fault_live hf0) (q8n hf0))
   have nR0 := n1
   go_wp2_with (first | (refine q0n rfl _ 34 rfl rfl q2c Tryz.underlying34 A0_2.out rfl ?_))
   refine (HN.out).mono ?_
   rintro e w3 ⟨pa, pc, pf, rfl, hs, hf, hc⟩
   have HS := hid hs; have HFR := hid (hf.mono (C := w.heap.size) G2.out.size)
   have HLO := hid (fun y hy => (hf.2 y hy).1)
   clear hs hf
   clear c0 n0
   obtain ⟨c0, n0, A0_3⟩ := bk0 hc A0_2.out
   clear c1 n1
   obtain ⟨c1, n1, A1_3⟩ := bk0 hc A1_2.out
   have G3 := hid (G2.out.trans0 hc)
   clear fz; have fz := q0l A1_3.out
   clear hc
   have HNF := hid (fun hy => absurd (HLO.out _ hy) (by omega) : w.heap.size + 1 ∉ pf)
   go_wp2_with (first | (refine q5n rfl _ _ 58 rfl rfl rfl q6g A1_3.out rfl rfl rfl ?_; intro w9 hb9 hc9; have HB9 := hid hb9; have HC9 := hid hc9; clear hb9 hc9))
   refine bodyPost_ret (v := .agg #[.int .i64 0, .slice pa (freL x.shape g (cntL x.tapes)).length pc]) (q3q _ _ Tryz.results41 rfl q6g Tryz.underlying58 HB9.out rfl) rfl (finI9 (freR x g) (HR.out) HS.out HFR.out G3.out HC9.out HNF.out (by omega))
  ·have HI := hid (show inB g 0 (x.shape.groups - 1) = false by unfold inB; simp; omega)
   go_wp2_with (first | (refine q0n rfl _ 34 rfl rfl q2c Tryz.underlying34 A0_1.out rfl ?_))
   refine (z0h x.shape hok g _).mono ?_
   rintro e w2 ⟨rfl, hc⟩
   rw [HI.out]
   clear c0 n0
   obtain ⟨c0, n0, A0_2⟩ := bk0 hc A0_1.out
   clear c1 n1
   obtain ⟨c1, n1, A1_2⟩ := bk0 hc A1_1.out
   have G2 := hid (G1.out.trans0 hc)
   clear fz; have fz := q0l A1_2.out
   clear hc
   go_wp2_with (first | (refine q5n rfl _ _ 58 rfl rfl rfl q6g A1_2.out rfl rfl rfl ?_; intro w9 hb9 hc9; have HB9 := hid hb9; have HC9 := hid hc9; clear hb9 hc9))
   refine bodyPost_ret (v := .agg #[.int .i64 (3), .slice none 0 0]) (q3q _ _ Tryz.results41 rfl q6g Tryz.underlying58 HB9.out rfl) rfl (badI9 (3) (⟨by omega, by omega⟩) (freR x g) (freR_rng hf0 hin) G2.out HC9.out (by omega))
 ·have hb : ((q : Int) != 0) = true := by simpa using hq0
  go_wp2_with (first | (refine q5n rfl _ _ 58 rfl rfl rfl q6g A1_1.out rfl rfl rfl ?_; intro w9 hb9 hc9; have HB9 := hid hb9; have HC9 := hid hc9; clear hb9 hc9))
  refine bodyPost_ret (v := .agg #[.int .i64 (q), .slice none 0 0]) (q3q _ _ Tryz.results41 rfl q6g Tryz.underlying58 HB9.out rfl) rfl (badI9 (q) (hqk) (freR x g) (by rw [freR_bad (by rw [← HQ.out]; exact hq0), ← HQ.out]) G1.out HC9.out (by omega))
theorem z1s (x : Wld) (cx : Array Value) (fx : List Nat) (g : Int) (w : World) (hx : wldL.rep w cx.toList x fx) (hz : q4p x ≤ 1048576) (_og : q1t g) :
  Calls Tryz.prog 40 #[.agg cx, .int .i64 g] w (q6q irsL (freR x g) w) := by
 obtain ⟨a10, l10, c10, _, a11, l11, c11, f11, a12, l12, c12, _, ex, -, -, -, -, -, -, -, -, -, h10, h11, h12, oo13, oo14, -⟩ := q1c.1 hx
 obtain rfl := Array.toList_inj.1 (ex.trans (List.toList_toArray).symm)
 have HW := hid hx; have HZ := hid hz; have H10 := hid h10; have H11 := hid h11; have H12 := hid h12; have HOO := hid (And.intro oo13 oo14)
 have hl11 : l11 ≤ 1048576 := by have h := h11.1; have q10 := q0v (q0v q1h) x.groups; have q12 := q0v q1y x.tapes; unfold q4p q3x at hz; omega
 clear hx ex hz h10 h11 h12 oo13 oo14
 have G0 := hid (show Chg [] w ((w.alloc (.cells #[.int .i64 x.shape.groups, .int .i64 x.shape.column, .int .i64 x.shape.data, .int .i64 x.shape.spare, .int .i64 x.shape.rows, .int .i64 x.shape.cap, .int .i64 x.shape.batch, .int .i64 x.shape.queue, .int .i64 x.shape.stage, .slice a10 l10 c10, .slice a11 l11 c11, .slice a12 l12 c12, .int .i64 x.writes, .int .i64 x.stop, .bool x.down] 34)).alloc (.cells #[.int .i64 0, .slice none 0 0] 58)) from (Chg.alloc (Chg.alloc (Chg.refl [] w) _) _))
 have B0 := hid (show ((w.alloc (.cells #[.int .i64 x.shape.groups, .int .i64 x.shape.column, .int .i64 x.shape.data, .int .i64 x.shape.spare, .int .i64 x.shape.rows, .int .i64 x.shape.cap, .int .i64 x.shape.batch, .int .i64 x.shape.queue, .int .i64 x.shape.stage, .slice a10 l10 c10, .slice a11 l11 c11, .slice a12 l12 c12, .int .i64 x.writes, .int .i64 x.stop, .bool x.down] 34)).alloc (.cells #[.int .i64 0, .slice none 0 0] 58)).heap[w.heap.size]? = some (.cells #[.int .i64 x.shape.groups, .int .i64 x.shape.column, .int .i64 x.shape.data, .int .i64 x.shape.spare, .int .i64 x.shape.rows, .int .i64 x.shape.cap, .int .i64 x.shape.batch, .int .i64 x.shape.queue, .int .i64 x.shape.stage, .slice a10 l10 c10, .slice a11 l11 c11, .slice a12 l12 c12, .int .i64 x.writes, .int .i64 x.stop, .bool x.down] 34 (0, 0)) from q0b (q1a w _) _)
 have B1 := hid (show ((w.alloc (.cells #[.int .i64 x.shape.groups, .int .i64 x.shape.column, .int .i64 x.shape.data, .int .i64 x.shape.spare, .int .i64 x.shape.rows, .int .i64 x.shape.cap, .int .i64 x.shape.batch, .int .i64 x.shape.queue, .int .i64 x.shape.stage, .slice a10 l10 c10, .slice a11 l11 c11, .slice a12 l12 c12, .int .i64 x.writes, .int .i64 x.stop, .bool x.down] 34)).alloc (.cells #[.int .i64 0, .slice none 0 0] 58)).heap[w.heap.size + 1]? = some (.cells #[.int .i64 0, .slice none 0 0] 58 (0, 0)) from q0d (by simp) _)
 go_enter Tryz.func40, Tryz.ntmps40
 obtain ⟨q, hq⟩ : ∃ q, q = x.fault := ⟨_, rfl⟩
 have HQ := hid hq; clear hq
 go_wp2_with (first | (refine q0n rfl _ 34 rfl rfl q2c Tryz.underlying34 B0.out rfl ?_))
 refine (q9r x #[.int .i64 x.shape.groups, .int .i64 x.shape.column, .int .i64 x.shape.data, .int .i64 x.shape.spare, .int .i64 x.shape.rows, .int .i64 x.shape.cap, .int .i64 x.shape.batch, .int .i64 x.shape.queue, .int .i64 x.shape.stage, .slice a10 l10 c10, .slice a11 l11 c11, .slice a12 l12 c12, .int .i64 x.writes, .int .i64 x.stop, .bool x.down] fx _ (wldL.ext HW.out G0.out)).mono ?_
 rintro e w1 ⟨rfl, hc⟩
 rw [← HQ.out]
 obtain ⟨c0, n0, A0_1⟩ := bk0 hc B0.out
 obtain ⟨c1, n1, A1_1⟩ := bk0 hc B1.out
 have G1 := hid (G0.out.trans0 hc)
 have fz := q0l A1_1.out
 clear hc
 have hqk : q1t q := by rw [HQ.out]; exact fault_i64 x
 by_cases hq0 : q = 0
 ·subst hq0
  have hf0 : x.fault = 0 := HQ.out.symm
  have hok := q8d hf0; have hg4 := hok.groups
  by_cases hin : 0 ≤ g ∧ g ≤ x.shape.groups - 1
  ·have HI := hid (show inB g 0 (x.shape.groups - 1) = true by simp [inB, hin.1, hin.2])
   go_wp2_with (first | (refine q0n rfl _ 34 rfl rfl q2c Tryz.underlying34 A0_1.out rfl ?_))
   refine (q5v g 0 (x.shape.groups - 1) _).mono ?_
   rintro e w' ⟨rfl, rfl⟩
   rw [HI.out]
   have HR := hid (freR_ok hf0 hin)
   go_wp2_with fail
   obtain ⟨SS, HSI, HSO⟩ := q0k (fun w' => Know w.heap.size #[.int .i64 x.shape.groups, .int .i64 x.shape.column, .int .i64 x.shape.data, .int .i64 x.shape.spare, .int .i64 x.shape.rows, .int .i64 x.shape.cap, .int .i64 x.shape.batch, .int .i64 x.shape.queue, .int .i64 x.shape.stage, .slice a10 l10 c10, .slice a11 l11 c11, .slice a12 l12 c12, .int .i64 x.writes, .int .i64 x.stop, .bool x.down] w')
   have hS0 := HSI.out _ (Know.of (q0a A0_1.out))
   refine q0g SS (by kernel_rfl) hS0 ?_
   obtain ⟨w2, hwd⟩ : ∃ wd, wd = w1.drew := ⟨_, rfl⟩
   rw [← hwd] at hS0 ⊢
   have hc : Chg [] w1 w2 := by rw [hwd]; exact (Chg.refl [] w1).drew
   clear hwd
   clear c0 n0
   obtain ⟨c0, n0, A0_2⟩ := bk0 hc A0_1.out
   clear c1 n1
   obtain ⟨c1, n1, A1_2⟩ := bk0 hc A1_1.out
   have G2 := hid (G1.out.trans0 hc)
   clear fz; have fz := q0l A1_2.out
   clear hc
   refine rgT 0 hS0 ?_
   refine rgL 1 hS0 HSO ?_
   refine rgT 3 hS0 ?_
   obtain rfl : l12 = 2 := by have h1 := H12.out.1; have h2 := (z1h hf0).1; omega
   have HN0 := hid (z2i w.heap.size a12 c12 _ x.tapes w2 A0_2.out (tapL.sl_ext H12.out G2.out) (by have := q8o hf0; omega))
   refine q0c 2 rfl (by kernel_rfl) (fun K hK => ?_)
   go_simp
   go_at_call 92
   refine HN0.out.mono ?_
   rintro e w3 ⟨v, rfl, hr, hc⟩
   obtain ⟨a0, l0, cc0, f0, rfl, hs, -⟩ := hr.sl
   have HS1 := hid hs; clear hs hr
   clear c0 n0
   obtain ⟨c0, n0, A0_3⟩ := bk0 hc A0_2.out
   clear c1 n1
   obtain ⟨c1, n1, A1_3⟩ := bk0 hc A1_2.out
   have G3 := hid (G2.out.trans0 hc)
   clear fz; have fz := q0l A1_3.out
   clear hc
   go_wp2_with fail
   refine hK.out _ _ (HSI.out _ (Know.of A0_3.out)) (fun hS1 => ?_)
   clear hK K
   try simp only [Act.put, pA, pB, pC]
   have nR0 := n1
   have HN1 := hid (l6Free_any x.shape g a0 l0 cc0 _ f0 w3 HS1.out (cntL_400 hf0) (q8n hf0))
   refine q0c 4 rfl (by kernel_rfl) (fun K hK => ?_)
   go_simp
   go_at_call 110
   refine HN1.out.mono ?_
   rintro e w4 ⟨pa, pc, pf, rfl, hs, hf, hc⟩
   have HS := hid hs; have HFR := hid (hf.mono (C := w.heap.size) G3.out.size)
   have HLO := hid (fun y hy => (hf.2 y hy).1)
   clear hs hf
   clear c0 n0
   obtain ⟨c0, n0, A0_4⟩ := bk0 hc A0_3.out
   clear c1 n1
   obtain ⟨c1, n1, A1_4⟩ := bk0 hc A1_3.out
   have G4 := hid (G3.out.trans0 hc)
   clear fz; have fz := q0l A1_4.out
   clear hc
   have HNF := hid (fun hy => absurd (HLO.out _ hy) (by omega) : w.heap.size + 1 ∉ pf)
   go_wp2_with fail
   refine hK.out _ _ (HSI.out _ (Know.of A0_4.out)) (fun hS2 => ?_)
   clear hK K
   try simp only [Act.put, pA, pB, pC]
   refine rgT 5 hS2 ?_
   refine q0c 6 rfl (by kernel_rfl) (fun K hK => ?_)
   refine store_step rfl _ _ 58 rfl rfl rfl q6g A1_4.out rfl rfl rfl ?_
   intro w9 hb9 hc9
   have HB9 := hid hb9; have HC9 := hid hc9
   have HK9 := hid (hc9.keepb A0_4.out (by simp))
   clear hb9 hc9
   refine hK.out _ _ (HSI.out _ (Know.of HK9.out)) (fun hS3 => ?_)
   clear hK K
   try simp only [Act.put]
   refine wpAnyH_done (by kernel_rfl) ?_ _
   go_wp2_with fail
   refine bodyPost_ret (v := .agg #[.int .i64 0, .slice pa (freL x.shape g (cntL x.tapes)).length pc]) (q3q _ _ Tryz.results40 rfl q6g Tryz.underlying58 HB9.out rfl) rfl (finI9 (freR x g) (HR.out) HS.out HFR.out G4.out HC9.out HNF.out (by omega))
  ·have HI := hid (show inB g 0 (x.shape.groups - 1) = false by unfold inB; simp; omega)
   go_wp2_with (first | (refine q0n rfl _ 34 rfl rfl q2c Tryz.underlying34 A0_1.out rfl ?_))
   refine (q5v g 0 (x.shape.groups - 1) _).mono ?_
   rintro e w' ⟨rfl, rfl⟩
   rw [HI.out]
   go_wp2_with (first | (refine q5n rfl _ _ 58 rfl rfl rfl q6g A1_1.out rfl rfl rfl ?_; intro w9 hb9 hc9; have HB9 := hid hb9; have HC9 := hid hc9; clear hb9 hc9))
   refine bodyPost_ret (v := .agg #[.int .i64 (3), .slice none 0 0]) (q3q _ _ Tryz.results40 rfl q6g Tryz.underlying58 HB9.out rfl) rfl (badI9 (3) (⟨by omega, by omega⟩) (freR x g) (freR_rng hf0 hin) G1.out HC9.out (by omega))
 ·have hb : ((q : Int) != 0) = true := by simpa using hq0
  go_wp2_with (first | (refine q5n rfl _ _ 58 rfl rfl rfl q6g A1_1.out rfl rfl rfl ?_; intro w9 hb9 hc9; have HB9 := hid hb9; have HC9 := hid hc9; clear hb9 hc9))
  refine bodyPost_ret (v := .agg #[.int .i64 (q), .slice none 0 0]) (q3q _ _ Tryz.results40 rfl q6g Tryz.underlying58 HB9.out rfl) rfl (badI9 (q) (hqk) (freR x g) (by rw [freR_bad (by rw [← HQ.out]; exact hq0), ← HQ.out]) G1.out HC9.out (by omega))
end Go.Proofs.YtphmpimgbmedbaaGreat
