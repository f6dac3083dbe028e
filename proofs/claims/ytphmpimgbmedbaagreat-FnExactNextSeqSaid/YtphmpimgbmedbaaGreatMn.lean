/- Several texts in one. -/
import Derived.Test.YtphmpimgbmedbaaGreatMc
import Derived.Test.YtphmpimgbmedbaaGreatSrsM
import Derived.Test.YtphmpimgbmedbaaGreatWfjM
import Derived.Test.YtphmpimgbmedbaaGreatMy
import Derived.Test.YtphmpimgbmedbaaGreatWfuM
import Derived.Test.YtphmpimgbmedbaaGreatWhWM
import Derived.Test.YtphmpimgbmedbaaGreatStoM
/- The counted records: the program. -/
namespace Go.Proofs.YtphmpimgbmedbaaGreat
open Go.RowKit

theorem Shr.step {w W w' : World} {v' : Value} {xs : List Rec} {r : Rec} {g : Nat} {fps fq : List Nat} {h' : Option Nat} (hg : w.heap.size ≤ g) (hf : ∀ y ∈ fps, y < w.heap.size) (hq : ∀ y ∈ fq, y < w.heap.size) (hc : Chg [] w W)
    (ho : recL.os 67 w' v' (xs ++ [r]) h' (fps ++ fq)) (hh : h' = some g ∨ h' = some W.heap.size) (hc' : Chg (some g).toList W w') : Shr w.heap.size w' v' (xs ++ [r]) ∧ Chg [] w w' := by
  refine ⟨?_, hc.trans hc' (fun y hy => .inr (by simp at hy; omega))⟩
  have hff : ∀ y ∈ fps ++ fq, y < w.heap.size := fun y hy => (List.mem_append.1 hy).elim (hf y) (hq y)
  rcases hh with rfl | rfl
  · exact ⟨g, _, ho, hg, hff⟩
  · exact ⟨W.heap.size, _, ho, hc.size, hff⟩
theorem rec_sl {w : World} {X : Tap} {a1 : Option Addr} {l1 c1 : Nat} {f : List Nat} (h : tapL.rep w [.bool X.wiped, .slice a1 l1 c1] X f) : recL.sl w a1 l1 c1 X.recs f := by
  obtain ⟨a, l, c, f1, e, h1, rfl⟩ := tapL_iff.1 h
  cases e
  exact h1
theorem flat_take {ts : List Tap} {k : Nat} {X : Tap} (h : ts[k]? = some X) : dedF [] ((ts.take (k + 1)).flatMap (·.recs)) = dedF (dedF [] ((ts.take k).flatMap (·.recs))) X.recs := by
  rw [take_next h, List.flatMap_append, dedF_app]
  simp
theorem flat_len {ts : List Tap} {k : Nat} {X : Tap} {B : Nat} (h : ts[k]? = some X) (hB : (ts.flatMap (·.recs)).length ≤ B) : ((ts.take k).flatMap (·.recs)).length + X.recs.length ≤ B := by
  have h2 : ((ts.take (k + 1)).flatMap (·.recs)).length ≤ (ts.flatMap (·.recs)).length := by
    conv => rhs; rw [← List.take_append_drop (k + 1) ts, List.flatMap_append, List.length_append]
    omega
  rw [take_next h, List.flatMap_append, List.length_append, show [X].flatMap (·.recs) = X.recs by simp] at h2
  exact Nat.le_trans h2 hB
/-- what counted answers: a row of its own, of which the elements lie where they lay -/
def CntPost (xs : List Rec) (w : World) (e : Ending) (w' : World) : Prop := ∃ (g n cap : Nat) (qs : List RP), e = .returned (.slice (some ⟨g, 0, none⟩) n cap) ∧ RowAt recL w' g 0 qs ∧ qs.map (·.1) = xs ∧ n = qs.length ∧ w.heap.size ≤ g ∧ n ≤ cap ∧ cap ≤ maxLen ∧ (∀ p ∈ qs, ∀ y ∈ p.2, y < w.heap.size) ∧ Chg [] w w'
set_option maxRecDepth 100000 in
set_option maxHeartbeats 4000000 in
theorem counted_any (m : Nat) {u0 u1 u2 u3 u4 u5 u6 u7 u8 u9 u10 u12 u13 u14 : Value} (a12 : Option Addr) (l12 c12 : Nat) (f12 : List Nat) (ts : List Tap) (w : World) (h : w.heap[m]? = some (.cells #[u0, u1, u2, u3, u4, u5, u6, u7, u8, u9, u10, .slice a12 l12 c12, u12, u13, u14] 34 (0, 0))) (h12 : tapL.sl w a12 l12 c12 ts f12) (hz : (ts.flatMap (·.recs)).length ≤ 1000000) :
    Calls Tryz.prog 94 #[.pointer (some ⟨m, 0, none⟩)] w (CntPost (cntL ts) w) := by
  obtain ⟨KR, _⟩ := kindRec
  have cm := cellsOf h; have nm := ltOf h
  have H12 := Lib.hid h12; have HL := Lib.hid h12.1; have HZ := Lib.hid hz
  have hl12 := tapL.sl_max h12
  clear h h12 hz
  go_enter Tryz.func94, Tryz.ntmps94
  go_wp2_with fail
  go_loopw [3, 14] (fun vo vi wr => ∃ (k : Nat) (Wr : World), Wr = wr ∧ k ≤ l12 ∧ vi = .int .i64 k ∧ Shr w.heap.size wr vo (dedF [] ((ts.take k).flatMap (·.recs))) ∧ Chg [] w wr) (fun _ vi _ => l12 - (intOf vi).toNat)
  case atStart => exact ⟨0, _, rfl, by omega, rfl, Shr.made (Nat.le_refl _), (Chg.refl [] w).alloc _⟩
  case round =>
    obtain ⟨k, wr, rfl, hk, rfl, hsh, hc⟩ := hrel
    have HC := Lib.hid hc; have HSH := Lib.hid hsh
    by_cases hlt : k < l12
    · obtain ⟨X, b, off, a1, l1, c1, ft, HX, rfl, hc0w, hc1w, HXS⟩ := tape_at H12.out hlt
      have hbw := tapL.sl_lt H12.out b HX.out.2.1
      have hc0 := cellKeep hc hc0w hbw; have hc1 := cellKeep hc hc1w hbw
      obtain ⟨acc, hacc⟩ : ∃ acc, acc = dedF [] ((ts.take k).flatMap (·.recs)) := ⟨_, rfl⟩
      rw [← hacc] at HSH
      have HNX := Lib.hid (show dedF [] ((ts.take (k + 1)).flatMap (·.recs)) = dedF acc X.recs by rw [hacc]; exact flat_take HX.out.1)
      have hal : acc.length + X.recs.length ≤ 1000000 := by
        have h1 := dedF_len ((ts.take k).flatMap (·.recs)) []
        have h2 := flat_len HX.out.1 HZ.out
        rw [List.length_nil, Nat.zero_add] at h1; rw [hacc]; omega
      have HRS := Lib.hid (rec_sl HXS.out)
      have HFL := Lib.hid (fun y (hy : y ∈ ft) => tapL.sl_lt H12.out y (HX.out.2.2 y hy))
      have HL1 := Lib.hid (rec_sl HXS.out).1; have HAL := Lib.hid hal
      have hl1 := recL.sl_max (rec_sl HXS.out)
      clear hc hsh hacc hal HXS HX hc0w hc1w hbw
      go_wp2_with fail
      go_loopw [3, 21] (fun vo vj wq => ∃ (j : Nat) (Wq : World), Wq = wq ∧ j ≤ l1 ∧ vj = .int .i64 j ∧ Shr w.heap.size wq vo (dedF acc (X.recs.take j)) ∧ Chg [] w wq) (fun _ vj _ => l1 - (intOf vj).toNat)
      case atStart => exact ⟨0, _, rfl, by omega, rfl, HSH.out.ext ((Chg.refl [] wr).alloc _), HC.out.alloc _⟩
      case round =>
        clear HSH HC hc0 hc1
        obtain ⟨j, wq, rfl, hj, rfl, hsh, hc⟩ := hrel
        have HC := Lib.hid hc
        by_cases hlt2 : j < l1
        · obtain ⟨r, b2, off2, a6, l6, c6, a7, l7, c7, a8, l8, c8, fq, HR, rfl, hq0, hq1, hq2, hq3, hq4, hq5, hq6, hq7, hq8, HXS⟩ := rec_at (recL.sl_ext HRS.out hc) hlt2
          obtain ⟨g, fps, ho, hg, hf⟩ := hsh
          obtain ⟨a9, c9, rfl⟩ := recL.os_len ho
          obtain ⟨a10, c10, e10, hsl⟩ := recL.os_sl ho
          obtain ⟨rfl, -, rfl⟩ := Value.slice.inj e10
          have HNJ := Lib.hid (dedF_next (acc := acc) HR.out.1)
          have hbd : (dedF acc (X.recs.take j)).length ≤ 1000000 := by
            have h1 := dedF_len (X.recs.take j) acc
            have h2 := HAL.out
            rw [List.length_take] at h1; omega
          obtain ⟨xs, hxs⟩ : ∃ xs, xs = dedF acc (X.recs.take j) := ⟨_, rfl⟩
          rw [← hxs] at ho hsl HNJ hbd ⊢
          have HOS := Lib.hid ho; have HSL := Lib.hid hsl; have HN0 := Lib.hid hg; have HFP := Lib.hid hf
          have HFQ := Lib.hid (fun y (hy : y ∈ fq) => HFL.out y (HR.out.2.2 y hy))
          have HGF := Lib.hid (show ∀ g', some g = some g' → g' ∉ fq from fun g' e hm => by cases e; have h1 := HFL.out g (HR.out.2.2 g hm); omega)
          obtain ⟨lx, hlx⟩ : ∃ lx, lx = xs.length := ⟨_, rfl⟩
          rw [← hlx] at HOS HSL ⊢
          have HLL := Lib.hid (show xs.length + [r].length ≤ maxLen ∧ (xs.length + [r].length) * 128 ≤ 140737488355328 by simp only [List.length_singleton, maxLen]; omega)
          have G1 := Lib.hid (show Chg [] wq (wq.alloc (.cells #[.int .i64 r.kind, .int .i64 r.seq, .string r.name, .int .i64 r.length, .int .i64 r.group, .int .i64 r.row, .slice a6 l6 c6, .slice a7 l7 c7, .slice a8 l8 c8] 67)) from (Chg.refl [] wq).alloc _)
          have HHS := Lib.hid (has_any a9 lx c9 xs _ r #[.int .i64 r.kind, .int .i64 r.seq, .string r.name, .int .i64 r.length, .int .i64 r.group, .int .i64 r.row, .slice a6 l6 c6, .slice a7 l7 c7, .slice a8 l8 c8] fq (wq.alloc (.cells #[.int .i64 r.kind, .int .i64 r.seq, .string r.name, .int .i64 r.length, .int .i64 r.group, .int .i64 r.row, .slice a6 l6 c6, .slice a7 l7 c7, .slice a8 l8 c8] 67)) (recL.sl_ext HSL.out G1.out) (recL.ext HXS.out G1.out))
          obtain ⟨v, hv⟩ : ∃ v, v = xs.any (fun x => sameV x r) := ⟨_, rfl⟩
          rw [← hv] at HHS
          have HV := Lib.hid hv
          clear hc HR ho hsl hg hf e10 hbd hxs hlx hv
          go_wp2_with fail
          refine HHS.out.mono ?_
          rintro e w3 ⟨rfl, hc3⟩
          have HC3 := Lib.hid (HC.out.trans0 (G1.out.trans0 hc3))
          have HOS2 := Lib.hid (recL.os_ext HOS.out (G1.out.trans0 hc3)); have HXS3 := Lib.hid (recL.ext HXS.out (G1.out.trans0 hc3))
          have hb3 := hc3.keep0 (new_alloc wq (.cells #[.int .i64 r.kind, .int .i64 r.seq, .string r.name, .int .i64 r.length, .int .i64 r.group, .int .i64 r.row, .slice a6 l6 c6, .slice a7 l7 c7, .slice a8 l8 c8] 67))
          have c3 := cellsOf hb3; have n3 := ltOf hb3
          clear hc3 hb3 hq0 hq1 hq2 hq3 hq4 hq5 hq6 hq7 hq8
          cases v
          · have HDS := Lib.hid (show dedS xs r = xs ++ [r] by unfold dedS; rw [← HV.out]; rfl)
            go_wp2_with (at_builtin; refine recL.wpList_append rfl _ _ 44 rfl Tryz.underlying44 KR rfl (recL.os_ext HOS2.out ((Chg.refl [] w3).alloc (.cells #[.int .i64 r.kind, .int .i64 r.seq, .string r.name, .int .i64 r.length, .int .i64 r.group, .int .i64 r.row, .slice a6 l6 c6, .slice a7 l7 c7, .slice a8 l8 c8] 67))) ⟨w3.heap.size, 0, none⟩ 1 1 [.int .i64 r.kind, .int .i64 r.seq, .string r.name, .int .i64 r.length, .int .i64 r.group, .int .i64 r.row, .slice a6 l6 c6, .slice a7 l7 c7, .slice a8 l8 c8] (ys := [r]) (f := fq) rfl rfl (new_cells w3 #[.int .i64 r.kind, .int .i64 r.seq, .string r.name, .int .i64 r.length, .int .i64 r.group, .int .i64 r.row, .slice a6 l6 c6, .slice a7 l7 c7, .slice a8 l8 c8] 67) (recL.all_single (recL.ext HXS3.out ((Chg.refl [] w3).alloc _))) HGF.out HLL.out.1 HLL.out.2 ?_; intro v' w4 h' ho' hh' hc'; have HSH4 := Lib.hid (Shr.step HN0.out HFP.out HFQ.out (HC3.out.alloc (.cells #[.int .i64 r.kind, .int .i64 r.seq, .string r.name, .int .i64 r.length, .int .i64 r.group, .int .i64 r.row, .slice a6 l6 c6, .slice a7 l7 c7, .slice a8 l8 c8] 67)) ho' hh' hc'); clear ho' hh' hc')
            rw [← HDS.out, ← HNJ.out] at HSH4
            go_roundw
            case rel => exact ⟨j + 1, _, rfl, by omega, by go_num, HSH4.out.1, HSH4.out.2⟩
            case measure => simp [intOf]; omega
          · have HDS := Lib.hid (show dedS xs r = xs by unfold dedS; rw [← HV.out]; rfl)
            go_wp2_with fail
            go_roundw
            case rel => exact ⟨j + 1, _, rfl, by omega, by go_num, by rw [HNJ.out, HDS.out]; exact ⟨g, fps, HOS2.out, HN0.out, HFP.out⟩, HC3.out⟩
            case measure => simp [intOf]; omega
        · obtain rfl : j = l1 := by omega
          rw [List.take_of_length_le (by have := HL1.out; omega), ← HNX.out] at hsh
          have HSH := Lib.hid hsh
          clear hsh hc
          go_wp2_with fail
          go_roundw
          case rel => exact ⟨k + 1, _, rfl, by omega, by go_num, HSH.out, HC.out⟩
          case measure => simp [intOf]; omega
    · obtain rfl : k = l12 := by omega
      rw [List.take_of_length_le (by have := HL.out; omega)] at hsh
      obtain ⟨g, cap, ps, rfl, hrow, e1, hg, hcap, hcm, hfp⟩ := hsh.row
      have hln : (dedF [] (ts.flatMap (·.recs))).length = ps.length := by rw [← e1, List.length_map]
      have hbd : ps.length ≤ 1000000 := by
        have h1 := dedF_len (ts.flatMap (·.recs)) []
        have h2 := HZ.out
        rw [List.length_nil, Nat.zero_add] at h1; omega
      rw [hln] at hcap ⊢
      have HS := Lib.hid (sortStable_any g 0 ps.length cap ps wr cmp_ok hrow rfl hbd)
      have HE := Lib.hid e1; have HF := Lib.hid (And.intro hg (And.intro hcap (And.intro hcm hfp)))
      obtain ⟨n, hn⟩ : ∃ n, n = ps.length := ⟨_, rfl⟩
      rw [← hn] at HS ⊢
      have HN := Lib.hid hn
      clear hc hsh hrow e1 hg hcap hcm hfp hln hbd hn HSH
      go_wp2_with fail
      refine HS.out.mono ?_
      rintro e w2 ⟨rfl, qs, hq1, hq2, hq3, hq4⟩
      have hu := cnt_uniq (rs := ts.flatMap (·.recs)) (srt_fst hq2) (by have := stab_fst hq3; rwa [HE.out] at this)
      have hmm : ∀ p ∈ qs, ∀ y ∈ p.2, y < w.heap.size := fun p hp => HF.out.2.2.2 p ((hq3.mem ltP_ordr).1 hp)
      have HR := Lib.hid (And.intro hq1 (And.intro hu (And.intro (HN.out.trans hq3.1.symm) (And.intro hmm (HC.out.trans hq4 (fun y hy => .inr (by rw [List.mem_singleton] at hy; have := HF.out.1; omega)))))))
      clear hq1 hq2 hq3 hq4 hu hmm
      go_wp2_with fail
      go_ret
      exact ⟨g, n, cap, qs, rfl, HR.out.1, HR.out.2.1, HR.out.2.2.1, HF.out.1, by rw [HN.out]; exact HF.out.2.1, HF.out.2.2.1, HR.out.2.2.2.1, HR.out.2.2.2.2⟩
end Go.Proofs.YtphmpimgbmedbaaGreat

/- The fault of a world is a small number. -/
namespace Go.Proofs.YtphmpimgbmedbaaGreat
open Go.RowKit

theorem nameFault_sml (s : ByteArray) : 0 ≤ nameFault s ∧ nameFault s ≤ 99 := by
  unfold nameFault
  repeat' split
  all_goals omega
theorem itemV_sml (s : Shp) (x : Rec) : 0 ≤ itemV s x ∧ itemV s x ≤ 99 := by
  have := nameFault_sml x.name
  unfold itemV
  repeat' split
  all_goals omega
theorem recV_sml (s : Shp) (x : Rec) : 0 ≤ recV s x ∧ recV s x ≤ 99 := by
  have := itemV_sml s x
  unfold recV
  repeat' split
  all_goals omega
theorem recsF_sml (s : Shp) : ∀ xs : List Rec, 0 ≤ recsF s xs ∧ recsF s xs ≤ 99
  | [] => by unfold recsF; omega
  | x :: xs => by have := recsF_sml s xs; have := recV_sml s x; unfold recsF; split <;> omega
theorem tapsF_sml (s : Shp) : ∀ xs : List Tap, 0 ≤ tapsF s xs ∧ tapsF s xs ≤ 99
  | [] => by unfold tapsF; omega
  | x :: xs => by have := tapsF_sml s xs; have := recsF_sml s x.recs; unfold tapsF; split <;> omega
theorem fault_sml (x : Wld) : 0 ≤ x.fault ∧ x.fault ≤ 99 := by
  have := tapsF_sml x.shape x.tapes
  unfold Wld.fault Wld.tapF
  repeat' split
  all_goals omega
theorem fault_i64 (x : Wld) : i64ok x.fault := by have := fault_sml x; unfold i64ok; omega
end Go.Proofs.YtphmpimgbmedbaaGreat

/- The greatest number of the counted records. -/
namespace Go.Proofs.YtphmpimgbmedbaaGreat
open Go.RowKit

def topL (xs : List Rec) : Int := (xs.getLast?.map (·.seq)).getD 0
theorem topL_at {xs : List Rec} {z n : Nat} {r : Rec} (h : xs[z]? = some r) (hn : n = xs.length) (hz : n = z + 1) : topL xs = r.seq := by
  unfold topL
  rw [List.getLast?_eq_getElem?, ← hn, hz, Nat.add_sub_cancel, h]; rfl
noncomputable def nxtL (ts : List Tap) : Int := IntKind.i64.wrap (topL (cntL ts) + 1)
noncomputable def nsqL (ts : List Tap) : Int × Int := if nxtL ts > 1000000000 then (0, 2) else (nxtL ts, 0)
noncomputable def nsqR (x : Wld) : Int × Int := if x.fault = 0 then ((nsqL x.tapes).2, (nsqL x.tapes).1) else (x.fault, 0)
theorem fault_recs {x : Wld} (hf : x.fault = 0) : x.tapes.length = 2 ∧ ∀ t ∈ x.tapes, t.recs.length ≤ 200 := by
  refine ⟨Classical.byContradiction (fun hn => ?_), fun t ht => Classical.byContradiction (fun hn => ?_)⟩
  · unfold Wld.fault at hf
    rw [pb_false (P := x.built ∧ x.onOk ∧ x.tapes.length = 2) (fun g => hn g.2.2)] at hf
    split at hf <;> simp at hf
  · unfold Wld.fault at hf
    have h2 : x.tapF = 2 := by unfold Wld.tapF; rw [if_pos (pb_true ⟨t, ht, by omega⟩)]
    rw [h2] at hf
    split at hf
    · split at hf
      · simp at hf
      · omega
    · omega
theorem flat_le : ∀ (ts : List Tap) (_ : ∀ t ∈ ts, t.recs.length ≤ 200), (ts.flatMap (·.recs)).length ≤ 200 * ts.length
  | [], _ => by simp
  | t :: ts, h => by
    rw [List.flatMap_cons, List.length_append, List.length_cons]
    have h1 := h t (by simp)
    have h2 := flat_le ts (fun t ht => h t (by simp [ht]))
    omega
theorem fault_flat {x : Wld} (hf : x.fault = 0) : (x.tapes.flatMap (·.recs)).length ≤ 400 := by
  have h := fault_recs hf
  have h2 := flat_le x.tapes h.2
  rw [h.1] at h2; exact h2
theorem cntL_400 {x : Wld} (hf : x.fault = 0) : (cntL x.tapes).length ≤ 400 := Nat.le_trans (cntL_len x.tapes) (fault_flat hf)
theorem CntPost.rwd {xs : List Rec} {w : World} {e : Ending} {w' : World} (h : CntPost xs w e w') : ∃ v, e = .returned v ∧ Rwd w.heap.size w' v xs ∧ Chg [] w w' := by
  obtain ⟨g, n, cap, qs, rfl, h1, h2, h3, h4, h5, h6, h7, h8⟩ := h
  have hl : n = xs.length := by rw [h3, ← h2, List.length_map]
  subst hl
  exact ⟨_, rfl, ⟨g, cap, qs, rfl, h1, h2, h4, h5, h6, h7⟩, h8⟩
theorem Rwd.sl {n0 : Nat} {w : World} {v : Value} {xs : List Rec} (h : Rwd n0 w v xs) : ∃ a l cap f, v = .slice a l cap ∧ recL.sl w a l cap xs f ∧ l = xs.length := by
  obtain ⟨g, cap, ps, h1, h2, h3, h4, h5, h6, h7⟩ := h
  have hl : xs.length = ps.length := by rw [← h3, List.length_map]
  have := h2.sl hl h5 h6
  rw [h3] at this
  exact ⟨_, _, _, _, h1, this, rfl⟩
theorem lastAt {n z : Nat} (hn : n = z + 1) (h : n ≤ 1000000) : IntKind.i64.wrap ((n : Int) - 1) = (z : Int) := by
  rw [IntWalk.i64_in _ ⟨by omega, by omega⟩]; omega
set_option maxRecDepth 100000 in
set_option maxHeartbeats 4000000 in
theorem l6Top_any (a : Option Addr) (l c : Nat) (xs : List Rec) (f : List Nat) (w : World) (h : recL.sl w a l c xs f) (hl : xs.length ≤ 1000000) :
    Calls Tryz.prog 104 #[.slice a l c] w fun e w' => e = .returned (.int .i64 (topL xs)) ∧ Chg [] w w' := by
  have hlx := h.1
  rcases Nat.eq_zero_or_pos l with h0 | h0
  · have hx : xs = [] := List.eq_nil_of_length_eq_zero (by omega)
    have hb : ((l : Int) == 0) = true := by simp [h0]
    clear h0 hlx h
    go_enter Tryz.func104, Tryz.ntmps104
    go_wp2_with fail
    go_ret
    exact ⟨by rw [hx]; rfl, Chg.refl _ _⟩
  · obtain ⟨z, rfl⟩ : ∃ z, l = z + 1 := ⟨l - 1, by omega⟩
    obtain ⟨r, b2, off2, a6, l6, c6, a7, l7, c7, a8, l8, c8, fq, HR, rfl, hq0, hq1, hq2, hq3, hq4, hq5, hq6, hq7, hq8, HXS⟩ := rec_at h (show z < z + 1 by omega)
    have HT := Lib.hid (topL_at HR.out.1 hlx rfl)
    have hwz := lastAt (n := z + 1) (z := z) rfl (by omega)
    obtain ⟨l, hl2⟩ : ∃ l, l = z + 1 := ⟨_, rfl⟩
    rw [← hl2] at hwz ⊢
    have hzl : z < l := by omega
    have hb : ((l : Int) == 0) = false := by simp; omega
    clear hlx HR hl2 h
    go_enter Tryz.func104, Tryz.ntmps104
    go_wp2_with fail
    go_ret
    exact ⟨by rw [HT.out]; rfl, Chg.refl _ _⟩
set_option maxRecDepth 100000 in
set_option maxHeartbeats 4000000 in
theorem nextSeq_any (m : Nat) {u0 u1 u2 u3 u4 u5 u6 u7 u8 u9 u10 u12 u13 u14 : Value} (a12 : Option Addr) (l12 c12 : Nat) (f12 : List Nat) (ts : List Tap) (w : World) (h : w.heap[m]? = some (.cells #[u0, u1, u2, u3, u4, u5, u6, u7, u8, u9, u10, .slice a12 l12 c12, u12, u13, u14] 34 (0, 0))) (h12 : tapL.sl w a12 l12 c12 ts f12) (hz : (ts.flatMap (·.recs)).length ≤ 400) :
    Calls Tryz.prog 105 #[.pointer (some ⟨m, 0, none⟩)] w fun e w' => e = .returned (.tuple #[.int .i64 (nsqL ts).1, .int .i64 (nsqL ts).2]) ∧ Chg [] w w' := by
  have HC := Lib.hid (counted_any m a12 l12 c12 f12 ts w h h12 (by omega))
  have HL := Lib.hid (Nat.le_trans (cntL_len ts) hz)
  clear h h12 hz
  go_enter Tryz.func105, Tryz.ntmps105
  go_wp2_with fail
  refine HC.out.mono ?_
  rintro e w2 hp
  obtain ⟨v, rfl, hr, hc⟩ := hp.rwd
  obtain ⟨a, l, c, f, rfl, hs, hlx⟩ := hr.sl
  have HC2 := Lib.hid hc
  clear hp hr hc
  obtain ⟨y, hy⟩ : ∃ y, y = nxtL ts := ⟨_, rfl⟩
  have HY := Lib.hid (show nsqL ts = if y > 1000000000 then (0, 2) else (y, 0) by rw [hy]; rfl)
  rcases Nat.eq_zero_or_pos l with h0 | h0
  · have hx : cntL ts = [] := List.eq_nil_of_length_eq_zero (by omega)
    have hb : ¬ 0 < l := by omega
    have hy1 : y = 1 := by rw [hy]; unfold nxtL; rw [hx]; rfl
    have HE := Lib.hid (show nsqL ts = (1, 0) by rw [HY.out, hy1]; rfl)
    clear hx hy hy1 hs hlx HY h0
    go_wp2_with fail
    refine bodyPost_ret (v := .tuple #[.int .i64 1, .int .i64 0]) (by simp [results, Tryz.results105, go_sem]) rfl ⟨by rw [HE.out], HC2.out⟩
  · obtain ⟨z, rfl⟩ : ∃ z, l = z + 1 := ⟨l - 1, by omega⟩
    have hl4 := HL.out
    obtain ⟨r, b2, off2, a6, l6, c6, a7, l7, c7, a8, l8, c8, fq, HR, rfl, hq0, hq1, hq2, hq3, hq4, hq5, hq6, hq7, hq8, HXS⟩ := rec_at hs (show z < z + 1 by omega)
    have hw1 : IntKind.i64.wrap (r.seq + 1) = y := by rw [hy]; unfold nxtL; rw [topL_at HR.out.1 hlx rfl]
    have hwz := lastAt (n := z + 1) (z := z) rfl (by omega)
    obtain ⟨l, hl2⟩ : ∃ l, l = z + 1 := ⟨_, rfl⟩
    rw [← hl2] at hwz ⊢
    have hzl : z < l := by omega
    have hb : 0 < l := by omega
    clear hlx HR hl2 hs hl4 hy
    by_cases hbig : y > 1000000000
    · have HE := Lib.hid (show nsqL ts = (0, 2) by rw [HY.out, if_pos hbig])
      have hbb : 1000000000 < y := hbig
      clear hbig
      go_wp2_with fail
      refine bodyPost_ret (v := .tuple #[.int .i64 0, .int .i64 2]) (by simp [results, Tryz.results105, go_sem]) rfl ⟨by rw [HE.out], HC2.out⟩
    · have HE := Lib.hid (show nsqL ts = (y, 0) by rw [HY.out, if_neg hbig])
      have hbb : ¬ 1000000000 < y := hbig
      clear hbig
      go_wp2_with fail
      refine bodyPost_ret (v := .tuple #[.int .i64 y, .int .i64 0]) (by simp [results, Tryz.results105, go_sem]) rfl ⟨by rw [HE.out], HC2.out⟩
end Go.Proofs.YtphmpimgbmedbaaGreat

/- NextSeq, both sides. -/
namespace Go.Proofs.YtphmpimgbmedbaaGreat
open Go.RowKit

theorem infoIR : (Tryz.prog.info? 54).map (fun i => i.size) = some 2 := by kernel_rfl
theorem nsqR_bad {x : Wld} (h : ¬ x.fault = 0) : nsqR x = (x.fault, 0) := if_neg h
theorem nsqR_ok {x : Wld} (h : x.fault = 0) : nsqR x = ((nsqL x.tapes).2, (nsqL x.tapes).1) := if_pos h

set_option maxRecDepth 100000 in
set_option maxHeartbeats 8000000 in
theorem impl_NextSeq (x : Wld) (cx : Array Value) (fx : List Nat) (w : World) (hx : wldL.rep w cx.toList x fx) (hz : totWld x ≤ 1048576) :
    Calls Tryz.prog 34 #[.agg cx] w (fun e w' => e = .returned (.agg #[.int .i64 (nsqR x).1, .int .i64 (nsqR x).2]) ∧ Chg [] w w') := by
  obtain ⟨a10, l10, c10, _, a11, l11, c11, f11, a12, l12, c12, _, ex, -, -, -, -, -, -, -, -, -, h10, h11, h12, oo13, oo14, -⟩ := wldL_iff.1 hx
  obtain rfl := Array.toList_inj.1 (ex.trans (List.toList_toArray).symm)
  have HW := Lib.hid hx; have HZ := Lib.hid hz; have H10 := Lib.hid h10; have H11 := Lib.hid h11; have H12 := Lib.hid h12; have HOO := Lib.hid (And.intro oo13 oo14)
  have hl11 : l11 ≤ 1048576 := by have h := h11.1; have q10 := totL_nonneg (totL_nonneg totDrv_nonneg) x.groups; have q12 := totL_nonneg totTap_nonneg x.tapes; unfold totWld totIs at hz; omega
  clear hx ex hz h10 h11 h12 oo13 oo14
  have G0 := Lib.hid (show Chg [] w ((w.alloc (.cells #[.int .i64 x.shape.groups, .int .i64 x.shape.column, .int .i64 x.shape.data, .int .i64 x.shape.spare, .int .i64 x.shape.rows, .int .i64 x.shape.cap, .int .i64 x.shape.batch, .int .i64 x.shape.queue, .int .i64 x.shape.stage, .slice a10 l10 c10, .slice a11 l11 c11, .slice a12 l12 c12, .int .i64 x.writes, .int .i64 x.stop, .bool x.down] 34)).alloc (.cells #[.int .i64 0, .int .i64 0] 54)) from (Chg.alloc (Chg.alloc (Chg.refl [] w) _) _))
  have B0 := Lib.hid (show ((w.alloc (.cells #[.int .i64 x.shape.groups, .int .i64 x.shape.column, .int .i64 x.shape.data, .int .i64 x.shape.spare, .int .i64 x.shape.rows, .int .i64 x.shape.cap, .int .i64 x.shape.batch, .int .i64 x.shape.queue, .int .i64 x.shape.stage, .slice a10 l10 c10, .slice a11 l11 c11, .slice a12 l12 c12, .int .i64 x.writes, .int .i64 x.stop, .bool x.down] 34)).alloc (.cells #[.int .i64 0, .int .i64 0] 54)).heap[w.heap.size]? = some (.cells #[.int .i64 x.shape.groups, .int .i64 x.shape.column, .int .i64 x.shape.data, .int .i64 x.shape.spare, .int .i64 x.shape.rows, .int .i64 x.shape.cap, .int .i64 x.shape.batch, .int .i64 x.shape.queue, .int .i64 x.shape.stage, .slice a10 l10 c10, .slice a11 l11 c11, .slice a12 l12 c12, .int .i64 x.writes, .int .i64 x.stop, .bool x.down] 34 (0, 0)) from keep_alloc (new_alloc w _) _)
  have B1 := Lib.hid (show ((w.alloc (.cells #[.int .i64 x.shape.groups, .int .i64 x.shape.column, .int .i64 x.shape.data, .int .i64 x.shape.spare, .int .i64 x.shape.rows, .int .i64 x.shape.cap, .int .i64 x.shape.batch, .int .i64 x.shape.queue, .int .i64 x.shape.stage, .slice a10 l10 c10, .slice a11 l11 c11, .slice a12 l12 c12, .int .i64 x.writes, .int .i64 x.stop, .bool x.down] 34)).alloc (.cells #[.int .i64 0, .int .i64 0] 54)).heap[w.heap.size + 1]? = some (.cells #[.int .i64 0, .int .i64 0] 54 (0, 0)) from new_at (by simp) _)
  go_enter Tryz.func34, Tryz.ntmps34
  obtain ⟨q, hq⟩ : ∃ q, q = x.fault := ⟨_, rfl⟩
  have HQ := Lib.hid hq; clear hq
  go_wp2_with (first | (refine load_wide rfl _ 34 rfl rfl infoWd Tryz.underlying34 B0.out rfl ?_))
  refine (impl_WorldFault x #[.int .i64 x.shape.groups, .int .i64 x.shape.column, .int .i64 x.shape.data, .int .i64 x.shape.spare, .int .i64 x.shape.rows, .int .i64 x.shape.cap, .int .i64 x.shape.batch, .int .i64 x.shape.queue, .int .i64 x.shape.stage, .slice a10 l10 c10, .slice a11 l11 c11, .slice a12 l12 c12, .int .i64 x.writes, .int .i64 x.stop, .bool x.down] fx _ (wldL.ext HW.out G0.out)).mono ?_
  rintro e w1 ⟨rfl, hc⟩
  rw [← HQ.out]
  obtain ⟨c0, n0, A0_1⟩ := bk hc B0.out (by simp)
  obtain ⟨c1, n1, A1_1⟩ := bk hc B1.out (by simp)
  have G1 := Lib.hid (G0.out.trans0 hc)
  have fz := freeOf A1_1.out
  clear hc
  have hqk : i64ok q := by rw [HQ.out]; exact fault_i64 x
  by_cases hq0 : q = 0
  · subst hq0
    have hf0 : x.fault = 0 := HQ.out.symm
    have HN := Lib.hid (nextSeq_any w.heap.size a12 l12 c12 _ x.tapes w1 A0_1.out (tapL.sl_ext H12.out G1.out) (fault_flat hf0))
    have HR := Lib.hid (nsqR_ok hf0)
    go_wp2_with (first | (refine load_wide rfl _ 34 rfl rfl infoWd Tryz.underlying34 A0_1.out rfl ?_))
    refine (HN.out).mono ?_
    rintro e w2 ⟨rfl, hc⟩
    clear c0 n0
    obtain ⟨c0, n0, A0_2⟩ := bk hc A0_1.out (by simp)
    clear c1 n1
    obtain ⟨c1, n1, A1_2⟩ := bk hc A1_1.out (by simp)
    have G2 := Lib.hid (G1.out.trans0 hc)
    clear fz; have fz := freeOf A1_2.out
    clear hc
    go_wp2_with (first | (refine store_wide rfl _ _ 54 rfl rfl rfl infoIR A1_2.out rfl rfl rfl ?_; intro w9 hb9 hc9; have HB9 := Lib.hid hb9; have HC9 := Lib.hid hc9; clear hb9 hc9))
    refine bodyPost_ret (v := .agg #[.int .i64 ((nsqL x.tapes).2), .int .i64 (nsqL x.tapes).1]) (results_wide _ _ Tryz.results34 rfl infoIR Tryz.underlying54 HB9.out rfl) rfl (⟨by rw [HR.out], G2.out.trans HC9.out (fun y hy => .inr (by rw [List.mem_singleton] at hy; omega))⟩)
  · have hb : ((q : Int) != 0) = true := by simpa using hq0
    go_wp2_with (first | (refine store_wide rfl _ _ 54 rfl rfl rfl infoIR A1_1.out rfl rfl rfl ?_; intro w9 hb9 hc9; have HB9 := Lib.hid hb9; have HC9 := Lib.hid hc9; clear hb9 hc9))
    refine bodyPost_ret (v := .agg #[.int .i64 (q), .int .i64 0]) (results_wide _ _ Tryz.results34 rfl infoIR Tryz.underlying54 HB9.out rfl) rfl (⟨by rw [nsqR_bad (by rw [← HQ.out]; exact hq0), ← HQ.out], G1.out.trans HC9.out (fun y hy => .inr (by rw [List.mem_singleton] at hy; omega))⟩)
set_option maxRecDepth 100000 in
set_option maxHeartbeats 8000000 in
theorem spec_NextSeq (x : Wld) (cx : Array Value) (fx : List Nat) (w : World) (hx : wldL.rep w cx.toList x fx) (hz : totWld x ≤ 1048576) :
    Calls Tryz.prog 33 #[.agg cx] w (fun e w' => e = .returned (.agg #[.int .i64 (nsqR x).1, .int .i64 (nsqR x).2]) ∧ Chg [] w w') := by
  obtain ⟨a10, l10, c10, _, a11, l11, c11, f11, a12, l12, c12, _, ex, -, -, -, -, -, -, -, -, -, h10, h11, h12, oo13, oo14, -⟩ := wldL_iff.1 hx
  obtain rfl := Array.toList_inj.1 (ex.trans (List.toList_toArray).symm)
  have HW := Lib.hid hx; have HZ := Lib.hid hz; have H10 := Lib.hid h10; have H11 := Lib.hid h11; have H12 := Lib.hid h12; have HOO := Lib.hid (And.intro oo13 oo14)
  have hl11 : l11 ≤ 1048576 := by have h := h11.1; have q10 := totL_nonneg (totL_nonneg totDrv_nonneg) x.groups; have q12 := totL_nonneg totTap_nonneg x.tapes; unfold totWld totIs at hz; omega
  clear hx ex hz h10 h11 h12 oo13 oo14
  have G0 := Lib.hid (show Chg [] w ((w.alloc (.cells #[.int .i64 x.shape.groups, .int .i64 x.shape.column, .int .i64 x.shape.data, .int .i64 x.shape.spare, .int .i64 x.shape.rows, .int .i64 x.shape.cap, .int .i64 x.shape.batch, .int .i64 x.shape.queue, .int .i64 x.shape.stage, .slice a10 l10 c10, .slice a11 l11 c11, .slice a12 l12 c12, .int .i64 x.writes, .int .i64 x.stop, .bool x.down] 34)).alloc (.cells #[.int .i64 0, .int .i64 0] 54)) from (Chg.alloc (Chg.alloc (Chg.refl [] w) _) _))
  have B0 := Lib.hid (show ((w.alloc (.cells #[.int .i64 x.shape.groups, .int .i64 x.shape.column, .int .i64 x.shape.data, .int .i64 x.shape.spare, .int .i64 x.shape.rows, .int .i64 x.shape.cap, .int .i64 x.shape.batch, .int .i64 x.shape.queue, .int .i64 x.shape.stage, .slice a10 l10 c10, .slice a11 l11 c11, .slice a12 l12 c12, .int .i64 x.writes, .int .i64 x.stop, .bool x.down] 34)).alloc (.cells #[.int .i64 0, .int .i64 0] 54)).heap[w.heap.size]? = some (.cells #[.int .i64 x.shape.groups, .int .i64 x.shape.column, .int .i64 x.shape.data, .int .i64 x.shape.spare, .int .i64 x.shape.rows, .int .i64 x.shape.cap, .int .i64 x.shape.batch, .int .i64 x.shape.queue, .int .i64 x.shape.stage, .slice a10 l10 c10, .slice a11 l11 c11, .slice a12 l12 c12, .int .i64 x.writes, .int .i64 x.stop, .bool x.down] 34 (0, 0)) from keep_alloc (new_alloc w _) _)
  have B1 := Lib.hid (show ((w.alloc (.cells #[.int .i64 x.shape.groups, .int .i64 x.shape.column, .int .i64 x.shape.data, .int .i64 x.shape.spare, .int .i64 x.shape.rows, .int .i64 x.shape.cap, .int .i64 x.shape.batch, .int .i64 x.shape.queue, .int .i64 x.shape.stage, .slice a10 l10 c10, .slice a11 l11 c11, .slice a12 l12 c12, .int .i64 x.writes, .int .i64 x.stop, .bool x.down] 34)).alloc (.cells #[.int .i64 0, .int .i64 0] 54)).heap[w.heap.size + 1]? = some (.cells #[.int .i64 0, .int .i64 0] 54 (0, 0)) from new_at (by simp) _)
  go_enter Tryz.func33, Tryz.ntmps33
  obtain ⟨q, hq⟩ : ∃ q, q = x.fault := ⟨_, rfl⟩
  have HQ := Lib.hid hq; clear hq
  go_wp2_with (first | (refine load_wide rfl _ 34 rfl rfl infoWd Tryz.underlying34 B0.out rfl ?_))
  refine (spec_WorldFault x #[.int .i64 x.shape.groups, .int .i64 x.shape.column, .int .i64 x.shape.data, .int .i64 x.shape.spare, .int .i64 x.shape.rows, .int .i64 x.shape.cap, .int .i64 x.shape.batch, .int .i64 x.shape.queue, .int .i64 x.shape.stage, .slice a10 l10 c10, .slice a11 l11 c11, .slice a12 l12 c12, .int .i64 x.writes, .int .i64 x.stop, .bool x.down] fx _ (wldL.ext HW.out G0.out)).mono ?_
  rintro e w1 ⟨rfl, hc⟩
  rw [← HQ.out]
  obtain ⟨c0, n0, A0_1⟩ := bk hc B0.out (by simp)
  obtain ⟨c1, n1, A1_1⟩ := bk hc B1.out (by simp)
  have G1 := Lib.hid (G0.out.trans0 hc)
  have fz := freeOf A1_1.out
  clear hc
  have hqk : i64ok q := by rw [HQ.out]; exact fault_i64 x
  by_cases hq0 : q = 0
  · subst hq0
    have hf0 : x.fault = 0 := HQ.out.symm
    obtain rfl : l12 = 2 := by have h1 := H12.out.1; have h2 := (fault_recs hf0).1; omega
    have HN := Lib.hid (l6Counted_any w.heap.size a12 c12 _ x.tapes w1 A0_1.out (tapL.sl_ext H12.out G1.out) (by have := fault_flat hf0; omega))
    have HR := Lib.hid (nsqR_ok hf0); have H4 := Lib.hid (cntL_400 hf0)
    go_wp2_with (first | (refine load_wide rfl _ 34 rfl rfl infoWd Tryz.underlying34 A0_1.out rfl ?_))
    refine (HN.out).mono ?_
    rintro e w2 ⟨v, rfl, hr, hc⟩
    obtain ⟨a, l, c, f, rfl, hs, -⟩ := hr.sl
    have HS := Lib.hid hs; clear hs hr
    clear c0 n0
    obtain ⟨c0, n0, A0_2⟩ := bk hc A0_1.out (by simp)
    clear c1 n1
    obtain ⟨c1, n1, A1_2⟩ := bk hc A1_1.out (by simp)
    have G2 := Lib.hid (G1.out.trans0 hc)
    clear fz; have fz := freeOf A1_2.out
    clear hc
    go_wp2_with (first | (refine load_wide rfl _ 34 rfl rfl infoWd Tryz.underlying34 A0_2.out rfl ?_))
    refine (l6Top_any a l c (cntL x.tapes) f _ HS.out (by have := H4.out; omega)).mono ?_
    rintro e w3 ⟨rfl, hc⟩
    clear c0 n0
    obtain ⟨c0, n0, A0_3⟩ := bk hc A0_2.out (by simp)
    clear c1 n1
    obtain ⟨c1, n1, A1_3⟩ := bk hc A1_2.out (by simp)
    have G3 := Lib.hid (G2.out.trans0 hc)
    clear fz; have fz := freeOf A1_3.out
    clear hc
    obtain ⟨y, hy⟩ : ∃ y, y = nxtL x.tapes := ⟨_, rfl⟩
    have hw1 : IntKind.i64.wrap (topL (cntL x.tapes) + 1) = y := by rw [hy]; rfl
    have HY := Lib.hid (show nsqL x.tapes = if y > 1000000000 then (0, 2) else (y, 0) by rw [hy]; rfl)
    clear hy
    by_cases hbig : y > 1000000000
    · have hbb : 1000000000 < y := hbig
      have HE := Lib.hid (show nsqR x = (2, 0) by rw [HR.out, HY.out, if_pos hbig])
      clear hbig
      go_wp2_with (first | (refine store_wide rfl _ _ 54 rfl rfl rfl infoIR A1_3.out rfl rfl rfl ?_; intro w9 hb9 hc9; have HB9 := Lib.hid hb9; have HC9 := Lib.hid hc9; clear hb9 hc9))
      refine bodyPost_ret (v := .agg #[.int .i64 (2), .int .i64 0]) (results_wide _ _ Tryz.results33 rfl infoIR Tryz.underlying54 HB9.out rfl) rfl (⟨by rw [HE.out], G3.out.trans HC9.out (fun y hy => .inr (by rw [List.mem_singleton] at hy; omega))⟩)
    · have hbb : ¬ 1000000000 < y := hbig
      have HE := Lib.hid (show nsqR x = (0, y) by rw [HR.out, HY.out, if_neg hbig])
      clear hbig
      go_wp2_with (first | (refine store_wide rfl _ _ 54 rfl rfl rfl infoIR A1_3.out rfl rfl rfl ?_; intro w9 hb9 hc9; have HB9 := Lib.hid hb9; have HC9 := Lib.hid hc9; clear hb9 hc9))
      refine bodyPost_ret (v := .agg #[.int .i64 0, .int .i64 y]) (results_wide _ _ Tryz.results33 rfl infoIR Tryz.underlying54 HB9.out rfl) rfl (⟨by rw [HE.out], G3.out.trans HC9.out (fun y hy => .inr (by rw [List.mem_singleton] at hy; omega))⟩)
  · have hb : ((q : Int) != 0) = true := by simpa using hq0
    go_wp2_with (first | (refine store_wide rfl _ _ 54 rfl rfl rfl infoIR A1_1.out rfl rfl rfl ?_; intro w9 hb9 hc9; have HB9 := Lib.hid hb9; have HC9 := Lib.hid hc9; clear hb9 hc9))
    refine bodyPost_ret (v := .agg #[.int .i64 (q), .int .i64 0]) (results_wide _ _ Tryz.results33 rfl infoIR Tryz.underlying54 HB9.out rfl) rfl (⟨by rw [nsqR_bad (by rw [← HQ.out]; exact hq0), ← HQ.out], G1.out.trans HC9.out (fun y hy => .inr (by rw [List.mem_singleton] at hy; omega))⟩)
end Go.Proofs.YtphmpimgbmedbaaGreat
