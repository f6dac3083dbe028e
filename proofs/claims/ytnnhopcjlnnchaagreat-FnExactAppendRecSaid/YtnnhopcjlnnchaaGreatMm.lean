/- Several texts in one. -/
import Derived.Test.YtnnhopcjlnnchaaGreatMn
import Derived.Test.YtnnhopcjlnnchaaGreatMk
import Derived.Test.YtnnhopcjlnnchaaGreatReg
/- Raw writes: both sides. -/
namespace Go.Proofs.YtnnhopcjlnnchaaGreat
open Go.RowKit

set_option maxHeartbeats 2000000 in
theorem raw_fail (m : Nat) (F : Value) {u0 u1 u2 u3 u4 u5 u6 u7 u8 u9 u10 u11 u14 : Value} {wr st : Int} (w : World) (h : w.heap[m]? = some (.cells #[u0, u1, u2, u3, u4, u5, u6, u7, u8, u9, u10, u11, .int .i64 wr, .int .i64 st, u14] 40 (0, 0))) (h1 : st ≠ -1) (h2 : st ≤ wr) :
  Calls Tryz.prog 135 #[.pointer (some ⟨m, 0, none⟩), F] w fun e w' => e = .returned (.bool false) ∧ w'.heap[m]? = some (.cells #[u0, u1, u2, u3, u4, u5, u6, u7, u8, u9, .slice none 0 0, u11, .int .i64 wr, .int .i64 st, .bool true] 40 (0, 0)) ∧ Chg [m] w w' := by
 have hne : ((st : Int) != -1) = true := by simpa using h1
 have HM := Lib.hid h
 clear h
 go_enter Tryz.func135, Tryz.ntmps135
 go_wp2_with fail
 obtain ⟨SS1, HSI1, HSO1⟩ := rg_cond (fun w' => Know m #[u0, u1, u2, u3, u4, u5, u6, u7, u8, u9, u10, u11, .int .i64 wr, .int .i64 st, u14] w')
 have hS0 := HSI1.out _ (Know.of (keep_drew HM.out))
 refine rg_start SS1 (by kernel_rfl) hS0 ?_
 refine rgT 0 hS0 ?_
 refine rgT 1 hS0 ?_
 refine rgT 2 hS0 ?_
 refine rgL 3 hS0 HSO1 ?_
 refine rgT 4 hS0 ?_
 refine rgT 5 hS0 ?_
 refine rgT 6 hS0 ?_
 refine rgT 7 hS0 ?_
 refine rgT 8 hS0 ?_
 refine rgL 9 hS0 HSO1 ?_
 refine rgT 10 hS0 ?_
 refine rgT 11 hS0 ?_
 refine rgT 12 hS0 ?_
 refine rgL 13 hS0 HSO1 ?_
 refine rgT 14 hS0 ?_
 refine rgT 15 hS0 ?_
 refine wpAnyH_done (by kernel_rfl) ?_ _
 go_wp2_with fail
 refine (cut_any m _ (keep_drew HM.out)).mono ?_
 rintro e w' ⟨rfl, hm, hc⟩
 have HN := Lib.hid (And.intro hm hc)
 clear hm hc
 go_wp2_with fail
 go_ret
 exact ⟨rfl, HN.out.1, ((Chg.refl [m] w).drew).trans HN.out.2 (fun y hy => .inl hy)⟩
end Go.Proofs.YtnnhopcjlnnchaaGreat

/- A record is appended to a tape: appendRec, raw with it. -/
namespace Go.Proofs.YtnnhopcjlnnchaaGreat
open Go.RowKit

/-- a list of records that has been appended to: all of it in memory of its own; only the block of the old row may have changed -/
def Appd (B : Nat) (w : World) (hd : Option Nat) (fps : List Nat) (xs : List Rec) (v : Value) (wz : World) : Prop :=
  ∃ hd' f', recL.os 68 wz v xs hd' f' ∧ Fresh B wz (hd'.toList ++ f') ∧ (∀ y ∈ hd'.toList ++ f', y ∈ hd.toList ++ fps ∨ w.heap.size ≤ y) ∧ Chg hd.toList w wz
theorem Appd.step {B : Nat} {w w3 wz : World} {hd hd' : Option Nat} {fps f : List Nat} {xs : List Rec} {v : Value} (fr : Fresh B w (hd.toList ++ fps)) (hB : B ≤ w.heap.size) (ff : Fresh w.heap.size w3 f) (c3 : Chg [] w w3) (ho : recL.os 68 wz v xs hd' (fps ++ f)) (hh : hd' = hd ∨ hd' = some w3.heap.size) (c4 : Chg hd.toList w3 wz) : Appd B w hd fps xs v wz :=
  ⟨hd', fps ++ f, ho, fr.grow hB ff c3 hh c4 (recL.os_loose ho), fun y hy => by
    rcases List.mem_append.1 hy with h | h
    · rcases hh with e | e
      · subst e; exact .inl (by simp only [List.mem_append]; exact .inl h)
      · subst e; simp only [Option.toList_some, List.mem_singleton] at h; subst h; exact .inr c3.size
    · rcases List.mem_append.1 h with h | h
      · exact .inl (by simp only [List.mem_append]; exact .inr h)
      · exact .inr (ff.2 y h).1, (c3.mono (T := hd.toList) (by simp)).trans c4 (fun y hy => .inl hy)⟩
theorem Appd.since {B : Nat} {w0 w wz : World} {hd : Option Nat} {fps : List Nat} {xs : List Rec} {v : Value} (h : Appd B w hd fps xs v wz) (hc : Chg [] w0 w) : Appd B w0 hd fps xs v wz := by
  obtain ⟨hd', f', h1, h2, h3, h4⟩ := h
  exact ⟨hd', f', h1, h2, fun y hy => by rcases h3 y hy with h | h; exact .inl h; exact .inr (Nat.le_trans hc.size h), (hc.mono (T := hd.toList) (by simp)).trans h4 (fun y hy => .inl hy)⟩
theorem Appd.chg {B : Nat} {w wz : World} {hd : Option Nat} {fps : List Nat} {xs : List Rec} {v : Value} (h : Appd B w hd fps xs v wz) : Chg hd.toList w wz := by obtain ⟨_, _, _, _, _, h⟩ := h; exact h
theorem cellKeepS {S : List Nat} {w w' : World} (hc : Chg S w w') {b o : Nat} {v : Value} (h : w.cell? ⟨b, o, none⟩ = some v) (hb : b < w.heap.size) (hS : b ∉ S) : w'.cell? ⟨b, o, none⟩ = some v := by
  rw [cell_same (hc.block b hb hS)]; exact h
theorem setCell_comm (w : World) (b o1 o2 : Nat) (u v : Value) (h : o1 ≠ o2) : (w.setCell ⟨b, o1, none⟩ u).setCell ⟨b, o2, none⟩ v = (w.setCell ⟨b, o2, none⟩ v).setCell ⟨b, o1, none⟩ u := by
  unfold World.setCell
  congr 1
  apply Array.ext_getElem?
  intro k
  simp only [Array.getElem?_modify]
  by_cases hk : b = k
  · subst hk
    simp only [if_true]
    cases w.heap[b]? with
    | none => rfl
    | some o =>
      simp only [Option.map_some]
      congr 1
      cases o <;> first
        | rfl
        | (simp only [Option.isSome_none, Bool.false_eq_true, if_false]
           refine congrArg (fun c => Obj.cells c _ _) ?_
           apply Array.ext_getElem?
           intro j
           simp only [Array.getElem?_setIfInBounds, Array.size_setIfInBounds]
           by_cases h1 : o1 = j <;> by_cases h2 : o2 = j <;> simp_all)
  · simp only [if_neg hk]
/-- what is known of the tape t of a copy, and what holds behind an append to it -/
theorem tap_grown {x : Wld} {z : Rec} {B t : Nat} {wk : World} {b off m12 d12 : Nat} {g10 g11 g12 : List Nat}
    (h12 : tapO.sl wk (some ⟨b, off, none⟩) m12 d12 x.tapes g12) (hf : Fresh B wk (g10 ++ (g11 ++ (g12 ++ [])))) (hB : B ≤ wk.heap.size) (ht : t < m12) :
    ∃ (X : Tap) (hd : Option Nat) (fps : List Nat) (a : Option Addr) (l c : Nat), x.tapes[t]? = some X ∧ l = X.recs.length ∧ b ∈ g12 ∧ wk.cell? ⟨b, off + t * 2, none⟩ = some (.bool X.wiped) ∧ wk.cell? ⟨b, off + t * 2 + 1, none⟩ = some (.slice a l c) ∧
      recL.os 68 wk (.slice a l c) X.recs hd fps ∧ Fresh B wk (hd.toList ++ fps) ∧ (∀ y ∈ hd.toList ++ fps, y ∈ g12) ∧ b ∉ hd.toList ++ fps ∧
      ∀ v wz, Appd B wk hd fps (X.recs ++ [z]) v wz → ∃ fp', tapO.sl ((wz.setCell ⟨b, off + t * 2 + 1, none⟩ v).setCell ⟨b, off + t * 2, none⟩ (.bool false)) (some ⟨b, off, none⟩) m12 d12 (x.tapes.set t ⟨false, X.recs ++ [z]⟩) fp' ∧
        Fresh B ((wz.setCell ⟨b, off + t * 2 + 1, none⟩ v).setCell ⟨b, off + t * 2, none⟩ (.bool false)) (g10 ++ (g11 ++ (fp' ++ []))) ∧ (∀ y ∈ fp', y ∈ g12 ∨ wk.heap.size ≤ y) ∧
        Chg (b :: hd.toList) wk ((wz.setCell ⟨b, off + t * 2 + 1, none⟩ v).setCell ⟨b, off + t * 2, none⟩ (.bool false)) := by
  have nd := List.nodup_append.1 hf.1; have nd2 := List.nodup_append.1 nd.2.1; have nd3 := List.nodup_append.1 nd2.2.1
  obtain ⟨X, f, cs, hX, hb, hc, hr, hfs, hfn, hbf, hup⟩ := tapO.sl_putO h12 nd3.1 ht
  obtain ⟨v0, hd, fps, rfl, ho, rfl⟩ := tapO_iff.1 hr
  obtain ⟨a, c, rfl, -⟩ := recL.os_sl ho
  have hsub : ∀ y ∈ hd.toList ++ fps, y ∈ g10 ++ (g11 ++ (g12 ++ [])) := fun y hy => by simp [hfs y hy]
  refine ⟨X, hd, fps, a, _, c, hX, rfl, hb, hc 0 (by decide), hc 1 (by decide), ho, ⟨hfn, fun y hy => hf.2 y (hsub y hy)⟩, hfs, hbf, fun v wz hA => ?_⟩
  obtain ⟨hd', f', q1, q2, q3, q4⟩ := hA
  rw [setCell_comm _ _ _ _ _ _ (by omega)]
  have hbh : b ∉ hd.toList := fun h => hbf (List.mem_append.2 (.inl h))
  have hlt12 : ∀ y ∈ g12, y < wk.heap.size := tapO.sl_lt h12
  obtain ⟨fp', r1, r2, r3⟩ := hup wz [.bool false, v] ⟨false, X.recs ++ [z]⟩ (hd'.toList ++ f') (q4.block b (hlt12 b hb) hbh) (tapO_iff.2 ⟨v, hd', f', rfl, q1, rfl⟩) q2.1 (fun y hy => by
      rcases q3 y hy with h | h
      · exact .inl h
      · exact .inr (fun h2 => by have := hlt12 y h2; omega)) (fun y hy hyf => q4.block y (hlt12 y hy) (fun hm => hyf (List.mem_append.2 (.inl hm))))
  have e : wz.setCells b (off + t * tapO.n) [.bool false, v] = (wz.setCell ⟨b, off + t * 2, none⟩ (.bool false)).setCell ⟨b, off + t * 2 + 1, none⟩ v := rfl
  rw [e] at r1
  have cb : Chg [b] wz ((wz.setCell ⟨b, off + t * 2, none⟩ (.bool false)).setCell ⟨b, off + t * 2 + 1, none⟩ v) := ((Chg.refl _ _).setCell _ _ (.inl (by simp))).setCell _ _ (.inl (by simp))
  have cW : Chg (b :: hd.toList) wk ((wz.setCell ⟨b, off + t * 2, none⟩ (.bool false)).setCell ⟨b, off + t * 2 + 1, none⟩ v) := (q4.mono (T := b :: hd.toList) (fun y hy => .inl (by simp at hy ⊢; exact .inr hy))).trans cb (fun y hy => .inl (by simp at hy ⊢; exact .inl hy))
  have hm : ∀ y ∈ fp', y ∈ g12 ∨ wk.heap.size ≤ y := fun y hy => by
    rcases r3 y hy with ⟨h, -⟩ | h
    · exact .inl h
    · rcases q3 y h with h | h
      · exact .inl (hfs y h)
      · exact .inr h
  refine ⟨fp', r1, (hf.chg cW).swap3 r2 (fun y hy => ?_), hm, cW⟩
  rcases r3 y hy with ⟨h, -⟩ | h
  · exact .inl h
  · by_cases hg : y ∈ g12
    · exact .inl hg
    · rcases q3 y h with h1 | h1
      · exact absurd (hfs y h1) hg
      · exact .inr ⟨fun h2 => by
          have : y < wk.heap.size := hf.lts y h2
          omega, Nat.le_trans hB h1, cb.loose y (q2.2 y h).2⟩
set_option maxHeartbeats 4000000 in
theorem appd_c (B m nb n1 n2 b off t m12 d12 : Nat) (z : Rec) {a6 a7 a8 : Option Addr} {l6 c6 l7 c7 l8 c8 : Nat} (fr : List Nat) (xs : List Rec) {aq : Option Addr} {lq cq : Nat} {hd : Option Nat} {fps : List Nat} {v0 : Value} {u0 u1 u2 u3 u4 u5 u6 u7 u8 u9 u10 u14 : Value} {wr st : Int} {E0 E1 E2 : TypeId} (w : World)
    (hb0 : w.heap[nb]? = some (.cells #[.int .i64 z.kind, .int .i64 z.seq, .string z.name, .int .i64 z.length, .int .i64 z.group, .int .i64 z.row, .slice a6 l6 c6, .slice a7 l7 c7, .slice a8 l8 c8] E0 (0, 0))) (h1 : w.heap[n1]? = some (.cells #[.pointer (some ⟨m, 0, none⟩)] E1 (0, 0))) (h2 : w.heap[n2]? = some (.cells #[.int .i64 t] E2 (0, 0))) (h : w.heap[m]? = some (.cells #[u0, u1, u2, u3, u4, u5, u6, u7, u8, u9, u10, .slice (some ⟨b, off, none⟩) m12 d12, .int .i64 wr, .int .i64 st, u14] 40 (0, 0))) (htm : t < m12)
    (hv0 : w.cell? ⟨b, off + t * 2, none⟩ = some v0) (hv1 : w.cell? ⟨b, off + t * 2 + 1, none⟩ = some (.slice aq lq cq)) (hlo : Loose w b) (hos : recL.os 68 w (.slice aq lq cq) xs hd fps) (hfr : Fresh B w (hd.toList ++ fps)) (hB : B ≤ w.heap.size) (hbh : b ∉ hd.toList)
    (hr : recL.rep w #[.int .i64 z.kind, .int .i64 z.seq, .string z.name, .int .i64 z.length, .int .i64 z.group, .int .i64 z.row, .slice a6 l6 c6, .slice a7 l7 c7, .slice a8 l8 c8].toList z fr) (hz : totRec z ≤ 1048576) (hxl : xs.length ≤ 1048576) :
    Calls Tryz.prog 151 #[.pointer (some ⟨n1, 0, none⟩), .pointer (some ⟨n2, 0, none⟩), .pointer (some ⟨nb, 0, none⟩)] w fun e w' => e = .returned (.tuple #[]) ∧ ∃ a l c wz, Appd B w hd fps (xs ++ [z]) (.slice a l c) wz ∧ w' = (wz.setCell ⟨b, off + t * 2 + 1, none⟩ (.slice a l c)).setCell ⟨b, off + t * 2, none⟩ (.bool false) := by
  obtain ⟨KR, _⟩ := kindRec
  have HB := Lib.hid hb0; have H1 := Lib.hid h1; have H2 := Lib.hid h2; have HM := Lib.hid h; have HV0 := Lib.hid hv0; have HV1 := Lib.hid hv1; have HLo := Lib.hid hlo; have HOS := Lib.hid hos; have HFR := Lib.hid hfr; have HRC := Lib.hid hr; have HBH := Lib.hid hbh
  have hbl := hlo.lt
  have HLL := Lib.hid (show xs.length + [z].length ≤ maxLen ∧ (xs.length + [z].length) * 128 ≤ 140737488355328 by simp only [List.length_singleton, maxLen]; omega)
  clear hb0 h1 h2 h hv0 hv1 hlo hos hfr hr hbh
  go_enter Tryz.func151, Tryz.ntmps151
  go_wp2_with fail
  obtain ⟨SS1, HSI1, HSO1⟩ := rg_cond (fun w' => Know n1 #[.pointer (some ⟨m, 0, none⟩)] w' ∧ Know n2 #[.int .i64 t] w' ∧ Know m #[u0, u1, u2, u3, u4, u5, u6, u7, u8, u9, u10, .slice (some ⟨b, off, none⟩) m12 d12, .int .i64 wr, .int .i64 st, u14] w')
  have hS0 := HSI1.out _ ⟨(Know.of (keep_drew H1.out)), (Know.of (keep_drew H2.out)), (Know.of (keep_drew HM.out))⟩
  refine rg_start SS1 (by kernel_rfl) hS0 ?_
  refine rgL 0 hS0 HSO1 ?_
  refine rgT 1 hS0 ?_
  refine rgT 2 hS0 ?_
  refine rgL 3 hS0 HSO1 ?_
  refine rgL 4 hS0 HSO1 ?_
  refine rgT 5 hS0 ?_
  refine rgT 6 hS0 ?_
  refine wpAnyH_done (by kernel_rfl) ?_ _
  go_wp2_with fail
  obtain ⟨CC, HCI, HCO⟩ := rg_cond (fun w' => Know nb #[.int .i64 z.kind, .int .i64 z.seq, .string z.name, .int .i64 z.length, .int .i64 z.group, .int .i64 z.row, .slice a6 l6 c6, .slice a7 l7 c7, .slice a8 l8 c8] w' ∧ w'.cell? ⟨b, off + t * 2 + 1, none⟩ = some (.slice aq lq cq))
  refine gg_start [9] CC (by kernel_rfl) (HCI.out _ ⟨(Know.of (keep_drew (keep_drew HB.out))), HV1.out⟩) (fun hcl hS => ?_)
  refine ggT 0 hcl hS ?_; clear hcl hS; intro hcl hS
  refine ggT 1 hcl hS ?_; clear hcl hS; intro hcl hS
  refine ggT 2 hcl hS ?_; clear hcl hS; intro hcl hS
  refine ggT 3 hcl hS ?_; clear hcl hS; intro hcl hS
  refine ggT 4 hcl hS ?_; clear hcl hS; intro hcl hS
  refine ggL 5 hcl hS HCO ?_; clear hcl hS; intro hcl hS
  refine ggL 6 hcl hS HCO ?_; clear hcl hS; intro hcl hS
  refine ggC 7 hcl rfl (by kernel_rfl) (fun K hK => ?_)
  go_simp
  go_at_call 152
  refine (cloneRec_any z #[.int .i64 z.kind, .int .i64 z.seq, .string z.name, .int .i64 z.length, .int .i64 z.group, .int .i64 z.row, .slice a6 l6 c6, .slice a7 l7 c7, .slice a8 l8 c8] fr _ (recL.ext HRC.out (((Chg.refl [] w).drew).drew)) hz).mono ?_; rintro e w8 ⟨cs, g4, rfl, hs, hf, hc⟩
  obtain ⟨p6, m6, d6, _, p7, m7, d7, _, p8, m8, d8, _, ex, -⟩ := recL_iff.1 hs; obtain rfl := Array.toList_inj.1 (ex.trans (List.toList_toArray).symm); have HN1 := Lib.hid (And.intro hs (And.intro (hf.mono (C := w.heap.size) (Nat.le_refl _)) (show Chg [] w w8 from (((Chg.refl [] w).drew).drew).trans0 hc))); obtain ⟨-, -, F0⟩ := bk hc (keep_drew (keep_drew HB.out)) (by simp); have k3 := cellKeep HN1.out.2.2 HV0.out hbl; have k4 := cellKeep HN1.out.2.2 HV1.out hbl; have hbl8 : b < w8.heap.size := Nat.lt_of_lt_of_le hbl HN1.out.2.2.size; clear hs hf hc ex
  go_wp2_with fail
  refine hK.out _ _ (fun _ => HCI.out _ ⟨(Know.of F0.out), k4⟩) ?_
  clear hK K hcl hS
  intro hcl hS
  try simp only [Act.put, List.setIfInBounds_toArray, List.set_cons_zero, List.set_cons_succ]
  refine ggC 8 hcl rfl (by kernel_rfl) (fun K hK => ?_)
  go_simp
  refine hK.out _ _ (fun _ => HCI.out _ ⟨(Know.of (keep_alloc F0.out _)), (cellKeep ((Chg.refl [] w8).alloc _) k4 hbl8)⟩) ?_
  clear hK K hcl hS
  intro hcl hS
  try simp only [Act.put, List.setIfInBounds_toArray, List.set_cons_zero, List.set_cons_succ]
  refine ggC 9 hcl rfl (by kernel_rfl) (fun K hK => ?_)
  refine recL.step_append rfl _ _ 98 rfl Tryz.underlying98 KR rfl (recL.os_ext HOS.out (HN1.out.2.2.alloc (.cells #[.int .i64 z.kind, .int .i64 z.seq, .string z.name, .int .i64 z.length, .int .i64 z.group, .int .i64 z.row, .slice p6 m6 d6, .slice p7 m7 d7, .slice p8 m8 d8] 68))) ⟨w8.heap.size, 0, none⟩ 1 1 [.int .i64 z.kind, .int .i64 z.seq, .string z.name, .int .i64 z.length, .int .i64 z.group, .int .i64 z.row, .slice p6 m6 d6, .slice p7 m7 d7, .slice p8 m8 d8] (ys := [z]) (f := g4) rfl rfl (new_cells w8 #[.int .i64 z.kind, .int .i64 z.seq, .string z.name, .int .i64 z.length, .int .i64 z.group, .int .i64 z.row, .slice p6 m6 d6, .slice p7 m7 d7, .slice p8 m8 d8] 68) (recL.all_single (recL.ext HN1.out.1 ((Chg.refl [] w8).alloc _))) (fun g hg hm => by have h1 := (recL.os_lt HOS.out).1 g hg; have h2 := (HN1.out.2.1.2 g hm).1; omega) HLL.out.1 HLL.out.2 ?_
  intro v' w5 h' ho' hh' hc'
  obtain ⟨a9, l9, c9, e9⟩ : ∃ (a : Option Addr) (l c : Nat), v' = .slice a l c := by obtain ⟨a, c, e, -⟩ := recL.os_sl ho'; exact ⟨a, _, c, e⟩
  subst e9
  have HAP := Lib.hid (Appd.step HFR.out hB (HN1.out.2.1.chg ((Chg.refl [] w8).alloc (.cells #[.int .i64 z.kind, .int .i64 z.seq, .string z.name, .int .i64 z.length, .int .i64 z.group, .int .i64 z.row, .slice p6 m6 d6, .slice p7 m7 d7, .slice p8 m8 d8] 68))) (HN1.out.2.2.alloc (.cells #[.int .i64 z.kind, .int .i64 z.seq, .string z.name, .int .i64 z.length, .int .i64 z.group, .int .i64 z.row, .slice p6 m6 d6, .slice p7 m7 d7, .slice p8 m8 d8] 68)) ho' hh' hc')
  have k5 := cellKeepS HAP.out.chg HV1.out hbl HBH.out; have k6 := cellKeepS HAP.out.chg HV0.out hbl HBH.out; have fz5 := (HAP.out.chg.loose b HLo.out).free; have hb5 := (HAP.out.chg.loose b HLo.out).lt; clear ho' hh' hc'
  refine hK.out _ _ (Till.done (m := 9) (by simp) (by rfl)) ?_
  clear hK K hcl hS
  intro hcl hS
  try simp only [Act.put, List.setIfInBounds_toArray, List.set_cons_zero, List.set_cons_succ]
  refine ggT 10 hcl hS ?_; clear hcl hS; intro hcl hS
  refine ggT 11 hcl hS ?_; clear hcl hS; intro hcl hS
  refine ggC 12 hcl rfl (by kernel_rfl) (fun K hK => ?_)
  go_simp
  refine hK.out _ _ (Till.done (m := 9) (by simp) (by rfl)) ?_
  clear hK K hcl hS
  intro hcl hS
  try simp only [Act.put, List.setIfInBounds_toArray, List.set_cons_zero, List.set_cons_succ]
  refine ggT 13 hcl hS ?_; clear hcl hS; intro hcl hS
  refine ggT 14 hcl hS ?_; clear hcl hS; intro hcl hS
  refine ggC 15 hcl rfl (by kernel_rfl) (fun K hK => ?_)
  go_simp
  refine hK.out _ _ (Till.done (m := 9) (by simp) (by rfl)) ?_
  clear hK K hcl hS
  intro hcl hS
  try simp only [Act.put, List.setIfInBounds_toArray, List.set_cons_zero, List.set_cons_succ]
  refine ggEnd (by kernel_rfl) ?_ _
  go_wp2_with fail
  refine bodyPost_end (v := .tuple #[]) (by simp [results, Tryz.results151, go_sem]) rfl ⟨rfl, a9, l9, c9, w5, HAP.out, rfl⟩

set_option maxHeartbeats 2000000 in
theorem rawd_ok1 (m : Nat) (c0 c1 c2 : Value) {u0 u1 u2 u3 u4 u5 u6 u7 u8 u9 u10 u11 u14 : Value} {wr st : Int} (w : World) (R : World → Prop) (h : w.heap[m]? = some (.cells #[u0, u1, u2, u3, u4, u5, u6, u7, u8, u9, u10, u11, .int .i64 wr, .int .i64 st, u14] 40 (0, 0))) (h1 : st = -1) (hw : 0 ≤ wr ∧ wr ≤ 1000000000)
    (hF : Calls Tryz.prog 151 #[c0, c1, c2] w.drew fun e w' => e = .returned (.tuple #[]) ∧ R w') (hR : ∀ w', R w' → w'.heap[m]? = some (.cells #[u0, u1, u2, u3, u4, u5, u6, u7, u8, u9, u10, u11, .int .i64 wr, .int .i64 st, u14] 40 (0, 0))) :
    Calls Tryz.prog 135 #[.pointer (some ⟨m, 0, none⟩), .func (.func 151) #[] #[c0, c1, c2]] w fun e w' => e = .returned (.bool true) ∧ ∃ w1, R w1 ∧ w' = w1.setCell ⟨m, 12, none⟩ (.int .i64 (wr + 1)) := by
  have hne : ((st : Int) != -1) = false := by simp [h1]
  have HM := Lib.hid h; have HRR := Lib.hid hR; have HFF := Lib.hid hF
  have H1 := Lib.hid h1
  clear h hR hF h1
  go_enter Tryz.func135, Tryz.ntmps135
  go_wp2_with fail
  obtain ⟨SS1, HSI1, HSO1⟩ := rg_cond (fun w' => Know m #[u0, u1, u2, u3, u4, u5, u6, u7, u8, u9, u10, u11, .int .i64 wr, .int .i64 st, u14] w')
  have hS0 := HSI1.out _ (Know.of (keep_drew HM.out))
  refine rg_start SS1 (by kernel_rfl) hS0 ?_
  refine rgT 0 hS0 ?_
  refine rgT 1 hS0 ?_
  refine rgT 2 hS0 ?_
  refine rgL 3 hS0 HSO1 ?_
  refine rgT 4 hS0 ?_
  refine rgT 5 hS0 ?_
  refine rgS 6 hS0 ?_
  refine rgS 7 hS0 ?_
  refine rgS 8 hS0 ?_
  refine rgS 9 hS0 ?_
  refine rgS 10 hS0 ?_
  refine rgS 11 hS0 ?_
  refine rgS 12 hS0 ?_
  refine rgS 13 hS0 ?_
  refine rgS 14 hS0 ?_
  refine rgT 15 hS0 ?_
  refine wpAnyH_done (by kernel_rfl) ?_ _
  go_wp2_with fail
  refine HFF.out.mono ?_
  rintro e w1 ⟨rfl, hr⟩
  have hm1 := HRR.out w1 hr
  have HR1 := Lib.hid hr
  have cm := cellsOf hm1; have nm := ltOf hm1; have fm := freeOf hm1
  clear hm1 hr
  go_wp2_with fail
  go_ret
  exact ⟨rfl, w1, HR1.out, rfl⟩

set_option maxHeartbeats 2000000 in
theorem rawd_ok2 (m : Nat) (c0 c1 c2 : Value) {u0 u1 u2 u3 u4 u5 u6 u7 u8 u9 u10 u11 u14 : Value} {wr st : Int} (w : World) (R : World → Prop) (h : w.heap[m]? = some (.cells #[u0, u1, u2, u3, u4, u5, u6, u7, u8, u9, u10, u11, .int .i64 wr, .int .i64 st, u14] 40 (0, 0))) (h1 : st ≠ -1 ∧ wr < st) (hw : 0 ≤ wr ∧ wr ≤ 1000000000)
    (hF : Calls Tryz.prog 151 #[c0, c1, c2] w.drew fun e w' => e = .returned (.tuple #[]) ∧ R w') (hR : ∀ w', R w' → w'.heap[m]? = some (.cells #[u0, u1, u2, u3, u4, u5, u6, u7, u8, u9, u10, u11, .int .i64 wr, .int .i64 st, u14] 40 (0, 0))) :
    Calls Tryz.prog 135 #[.pointer (some ⟨m, 0, none⟩), .func (.func 151) #[] #[c0, c1, c2]] w fun e w' => e = .returned (.bool true) ∧ ∃ w1, R w1 ∧ w' = w1.setCell ⟨m, 12, none⟩ (.int .i64 (wr + 1)) := by
  have hne : ((st : Int) != -1) = true := by simpa using h1.1
  have hlt : ¬ st ≤ wr := by omega
  have HM := Lib.hid h; have HRR := Lib.hid hR; have HFF := Lib.hid hF
  have H1 := Lib.hid h1
  clear h hR hF h1
  go_enter Tryz.func135, Tryz.ntmps135
  go_wp2_with fail
  obtain ⟨SS1, HSI1, HSO1⟩ := rg_cond (fun w' => Know m #[u0, u1, u2, u3, u4, u5, u6, u7, u8, u9, u10, u11, .int .i64 wr, .int .i64 st, u14] w')
  have hS0 := HSI1.out _ (Know.of (keep_drew HM.out))
  refine rg_start SS1 (by kernel_rfl) hS0 ?_
  refine rgT 0 hS0 ?_
  refine rgT 1 hS0 ?_
  refine rgT 2 hS0 ?_
  refine rgL 3 hS0 HSO1 ?_
  refine rgT 4 hS0 ?_
  refine rgT 5 hS0 ?_
  refine rgT 6 hS0 ?_
  refine rgT 7 hS0 ?_
  refine rgT 8 hS0 ?_
  refine rgL 9 hS0 HSO1 ?_
  refine rgT 10 hS0 ?_
  refine rgT 11 hS0 ?_
  refine rgT 12 hS0 ?_
  refine rgL 13 hS0 HSO1 ?_
  refine rgT 14 hS0 ?_
  refine rgT 15 hS0 ?_
  refine wpAnyH_done (by kernel_rfl) ?_ _
  go_wp2_with fail
  refine HFF.out.mono ?_
  rintro e w1 ⟨rfl, hr⟩
  have hm1 := HRR.out w1 hr
  have HR1 := Lib.hid hr
  have cm := cellsOf hm1; have nm := ltOf hm1; have fm := freeOf hm1
  clear hm1 hr
  go_wp2_with fail
  go_ret
  exact ⟨rfl, w1, HR1.out, rfl⟩

set_option maxHeartbeats 2000000 in
theorem appd_fail (m : Nat) (t : Int) (z : Rec) {a6 a7 a8 : Option Addr} {l6 c6 l7 c7 l8 c8 : Nat} {u0 u1 u2 u3 u4 u5 u6 u7 u8 u9 u10 u11 u14 : Value} {wr st : Int} (w : World) (h : w.heap[m]? = some (.cells #[u0, u1, u2, u3, u4, u5, u6, u7, u8, u9, u10, u11, .int .i64 wr, .int .i64 st, u14] 40 (0, 0))) (h1 : st ≠ -1) (h2 : st ≤ wr) :
    Calls Tryz.prog 104 #[.pointer (some ⟨m, 0, none⟩), .int .i64 t, .agg #[.int .i64 z.kind, .int .i64 z.seq, .string z.name, .int .i64 z.length, .int .i64 z.group, .int .i64 z.row, .slice a6 l6 c6, .slice a7 l7 c7, .slice a8 l8 c8]] w fun e w' => e = .returned (.bool false) ∧ w'.heap[m]? = some (.cells #[u0, u1, u2, u3, u4, u5, u6, u7, u8, u9, .slice none 0 0, u11, .int .i64 wr, .int .i64 st, .bool true] 40 (0, 0)) ∧ Chg [m] w w' := by
  have HM := Lib.hid h
  clear h
  go_enter Tryz.func104, Tryz.ntmps104
  go_wp2_with fail
  refine (raw_fail m _ _ (keep_alloc (keep_alloc (keep_alloc HM.out _) _) _) h1 h2).mono ?_
  rintro e w' ⟨rfl, hm, hc⟩
  have HN := Lib.hid (And.intro hm ((((((Chg.refl [m] w).alloc _).alloc _).alloc _)).trans hc (fun y hy => .inl hy)))
  clear hm hc
  go_wp2_with fail
  go_ret
  exact ⟨rfl, HN.out.1, HN.out.2⟩
set_option maxHeartbeats 4000000 in
theorem appd_ok (B m b off t m12 d12 : Nat) (z : Rec) {a6 a7 a8 : Option Addr} {l6 c6 l7 c7 l8 c8 : Nat} (fr : List Nat) (xs : List Rec) {aq : Option Addr} {lq cq : Nat} {hd : Option Nat} {fps : List Nat} {v0 : Value} {u0 u1 u2 u3 u4 u5 u6 u7 u8 u9 u10 u14 : Value} {wr st : Int} (w : World)
    (h : w.heap[m]? = some (.cells #[u0, u1, u2, u3, u4, u5, u6, u7, u8, u9, u10, .slice (some ⟨b, off, none⟩) m12 d12, .int .i64 wr, .int .i64 st, u14] 40 (0, 0))) (h1 : st = -1 ∨ st ≠ -1 ∧ wr < st) (hw : 0 ≤ wr ∧ wr ≤ 1000000000) (htm : t < m12)
    (hv0 : w.cell? ⟨b, off + t * 2, none⟩ = some v0) (hv1 : w.cell? ⟨b, off + t * 2 + 1, none⟩ = some (.slice aq lq cq)) (hlo : Loose w b) (hos : recL.os 68 w (.slice aq lq cq) xs hd fps) (hfr : Fresh B w (hd.toList ++ fps)) (hB : B ≤ w.heap.size) (hbh : b ∉ hd.toList) (hbm : b ≠ m) (hmh : m ∉ hd.toList)
    (hr : recL.rep w #[.int .i64 z.kind, .int .i64 z.seq, .string z.name, .int .i64 z.length, .int .i64 z.group, .int .i64 z.row, .slice a6 l6 c6, .slice a7 l7 c7, .slice a8 l8 c8].toList z fr) (hz : totRec z ≤ 1048576) (hxl : xs.length ≤ 1048576) :
    Calls Tryz.prog 104 #[.pointer (some ⟨m, 0, none⟩), .int .i64 t, .agg #[.int .i64 z.kind, .int .i64 z.seq, .string z.name, .int .i64 z.length, .int .i64 z.group, .int .i64 z.row, .slice a6 l6 c6, .slice a7 l7 c7, .slice a8 l8 c8]] w fun e w' => e = .returned (.bool true) ∧ ∃ a l c wz, Appd B w hd fps (xs ++ [z]) (.slice a l c) wz ∧ w' = ((wz.setCell ⟨b, off + t * 2 + 1, none⟩ (.slice a l c)).setCell ⟨b, off + t * 2, none⟩ (.bool false)).setCell ⟨m, 12, none⟩ (.int .i64 (wr + 1)) := by
  have G0 := Lib.hid (show Chg [] w (((w.alloc (.cells #[.pointer (some ⟨m, 0, none⟩)] 106)).alloc (.cells #[.int .i64 t] 2)).alloc (.cells #[.int .i64 z.kind, .int .i64 z.seq, .string z.name, .int .i64 z.length, .int .i64 z.group, .int .i64 z.row, .slice a6 l6 c6, .slice a7 l7 c7, .slice a8 l8 c8] 68)) from (((Chg.refl [] w).alloc _).alloc _).alloc _)
  have B0 := Lib.hid (show (((w.alloc (.cells #[.pointer (some ⟨m, 0, none⟩)] 106)).alloc (.cells #[.int .i64 t] 2)).alloc (.cells #[.int .i64 z.kind, .int .i64 z.seq, .string z.name, .int .i64 z.length, .int .i64 z.group, .int .i64 z.row, .slice a6 l6 c6, .slice a7 l7 c7, .slice a8 l8 c8] 68)).heap[w.heap.size]? = some (.cells #[.pointer (some ⟨m, 0, none⟩)] 106 (0, 0)) from keep_alloc (keep_alloc (new_alloc w _) _) _)
  have B1 := Lib.hid (show (((w.alloc (.cells #[.pointer (some ⟨m, 0, none⟩)] 106)).alloc (.cells #[.int .i64 t] 2)).alloc (.cells #[.int .i64 z.kind, .int .i64 z.seq, .string z.name, .int .i64 z.length, .int .i64 z.group, .int .i64 z.row, .slice a6 l6 c6, .slice a7 l7 c7, .slice a8 l8 c8] 68)).heap[w.heap.size + 1]? = some (.cells #[.int .i64 t] 2 (0, 0)) from keep_alloc (new_at (by simp) _) _)
  have B2 := Lib.hid (show (((w.alloc (.cells #[.pointer (some ⟨m, 0, none⟩)] 106)).alloc (.cells #[.int .i64 t] 2)).alloc (.cells #[.int .i64 z.kind, .int .i64 z.seq, .string z.name, .int .i64 z.length, .int .i64 z.group, .int .i64 z.row, .slice a6 l6 c6, .slice a7 l7 c7, .slice a8 l8 c8] 68)).heap[w.heap.size + 2]? = some (.cells #[.int .i64 z.kind, .int .i64 z.seq, .string z.name, .int .i64 z.length, .int .i64 z.group, .int .i64 z.row, .slice a6 l6 c6, .slice a7 l7 c7, .slice a8 l8 c8] 68 (0, 0)) from new_at (by simp) _)
  have HM := Lib.hid (show (((w.alloc (.cells #[.pointer (some ⟨m, 0, none⟩)] 106)).alloc (.cells #[.int .i64 t] 2)).alloc (.cells #[.int .i64 z.kind, .int .i64 z.seq, .string z.name, .int .i64 z.length, .int .i64 z.group, .int .i64 z.row, .slice a6 l6 c6, .slice a7 l7 c7, .slice a8 l8 c8] 68)).heap[m]? = some (.cells #[u0, u1, u2, u3, u4, u5, u6, u7, u8, u9, u10, .slice (some ⟨b, off, none⟩) m12 d12, .int .i64 wr, .int .i64 st, u14] 40 (0, 0)) from keep_alloc (keep_alloc (keep_alloc h _) _) _)
  have GD := G0.out.drew
  have HF := Lib.hid (appd_c B m (w.heap.size + 2) w.heap.size (w.heap.size + 1) b off t m12 d12 z fr xs (((w.alloc (.cells #[.pointer (some ⟨m, 0, none⟩)] 106)).alloc (.cells #[.int .i64 t] 2)).alloc (.cells #[.int .i64 z.kind, .int .i64 z.seq, .string z.name, .int .i64 z.length, .int .i64 z.group, .int .i64 z.row, .slice a6 l6 c6, .slice a7 l7 c7, .slice a8 l8 c8] 68)).drew (keep_drew B2.out) (keep_drew B0.out) (keep_drew B1.out) (keep_drew HM.out) htm (cellKeep GD hv0 hlo.lt) (cellKeep GD hv1 hlo.lt) (GD.loose b hlo) (recL.os_ext hos GD) (hfr.chg GD) (Nat.le_trans hB GD.size) hbh (recL.ext hr GD) hz hxl)
  have HR := Lib.hid (show ∀ w' : World, (∃ a l c wz, Appd B (((w.alloc (.cells #[.pointer (some ⟨m, 0, none⟩)] 106)).alloc (.cells #[.int .i64 t] 2)).alloc (.cells #[.int .i64 z.kind, .int .i64 z.seq, .string z.name, .int .i64 z.length, .int .i64 z.group, .int .i64 z.row, .slice a6 l6 c6, .slice a7 l7 c7, .slice a8 l8 c8] 68)).drew hd fps (xs ++ [z]) (.slice a l c) wz ∧ w' = (wz.setCell ⟨b, off + t * 2 + 1, none⟩ (.slice a l c)).setCell ⟨b, off + t * 2, none⟩ (.bool false)) → w'.heap[m]? = some (.cells #[u0, u1, u2, u3, u4, u5, u6, u7, u8, u9, u10, .slice (some ⟨b, off, none⟩) m12 d12, .int .i64 wr, .int .i64 st, u14] 40 (0, 0)) from by
    rintro w' ⟨a, l, c, wz, hA, rfl⟩
    exact keep_set (keep_set (hA.chg.keepb (keep_drew HM.out) hmh) _ _ (fun e => hbm e.symm)) _ _ (fun e => hbm e.symm))
  have HGD := Lib.hid GD
  clear h hv0 hv1 hlo hos hfr hr GD
  go_enter Tryz.func104, Tryz.ntmps104
  go_wp2_with fail
  rcases h1 with h1 | h1
  · refine (rawd_ok1 m _ _ _ _ _ HM.out h1 hw HF.out HR.out).mono ?_
    rintro e w' ⟨rfl, w1, ⟨a, l, c, wz, q1, rfl⟩, rfl⟩
    have HN := Lib.hid (q1.since HGD.out)
    clear q1
    go_wp2_with fail
    go_ret
    exact ⟨rfl, a, l, c, wz, HN.out, rfl⟩
  · refine (rawd_ok2 m _ _ _ _ _ HM.out h1 hw HF.out HR.out).mono ?_
    rintro e w' ⟨rfl, w1, ⟨a, l, c, wz, q1, rfl⟩, rfl⟩
    have HN := Lib.hid (q1.since HGD.out)
    clear q1
    go_wp2_with fail
    go_ret
    exact ⟨rfl, a, l, c, wz, HN.out, rfl⟩
end Go.Proofs.YtnnhopcjlnnchaaGreat

/- Raw writes: trust, wrote, l5Raw. -/
namespace Go.Proofs.YtnnhopcjlnnchaaGreat
open Go.RowKit

set_option maxHeartbeats 2000000 in
theorem wrote_false (s0 s1 s2 s3 s4 s5 s6 s7 s8 wr st : Int) (a10 a11 a12 : Option Addr) (l10 c10 l11 c11 l12 c12 : Nat) (dn : Bool) (w : World) :
  Calls Tryz.prog 94 #[.agg #[.int .i64 s0, .int .i64 s1, .int .i64 s2, .int .i64 s3, .int .i64 s4, .int .i64 s5, .int .i64 s6, .int .i64 s7, .int .i64 s8, .slice a10 l10 c10, .slice a11 l11 c11, .slice a12 l12 c12, .int .i64 wr, .int .i64 st, .bool dn], .bool false] w fun e w' => e = .returned (.agg #[.int .i64 9, .int .i64 s0, .int .i64 s1, .int .i64 s2, .int .i64 s3, .int .i64 s4, .int .i64 s5, .int .i64 s6, .int .i64 s7, .int .i64 s8, .slice a10 l10 c10, .slice a11 l11 c11, .slice a12 l12 c12, .int .i64 wr, .int .i64 st, .bool dn]) ∧ Chg [] w w' := by
 have B0 := Lib.hid (show ((w.alloc (.cells #[.int .i64 s0, .int .i64 s1, .int .i64 s2, .int .i64 s3, .int .i64 s4, .int .i64 s5, .int .i64 s6, .int .i64 s7, .int .i64 s8, .slice a10 l10 c10, .slice a11 l11 c11, .slice a12 l12 c12, .int .i64 wr, .int .i64 st, .bool dn] 40)).alloc (.cells #[.int .i64 0, .int .i64 0, .int .i64 0, .int .i64 0, .int .i64 0, .int .i64 0, .int .i64 0, .int .i64 0, .int .i64 0, .int .i64 0, .slice none 0 0, .slice none 0 0, .slice none 0 0, .int .i64 0, .int .i64 0, .bool false] 48)).heap[w.heap.size]? = some (.cells #[.int .i64 s0, .int .i64 s1, .int .i64 s2, .int .i64 s3, .int .i64 s4, .int .i64 s5, .int .i64 s6, .int .i64 s7, .int .i64 s8, .slice a10 l10 c10, .slice a11 l11 c11, .slice a12 l12 c12, .int .i64 wr, .int .i64 st, .bool dn] 40 (0, 0)) from keep_alloc (new_alloc w _) _)
 have B1 := Lib.hid (show ((w.alloc (.cells #[.int .i64 s0, .int .i64 s1, .int .i64 s2, .int .i64 s3, .int .i64 s4, .int .i64 s5, .int .i64 s6, .int .i64 s7, .int .i64 s8, .slice a10 l10 c10, .slice a11 l11 c11, .slice a12 l12 c12, .int .i64 wr, .int .i64 st, .bool dn] 40)).alloc (.cells #[.int .i64 0, .int .i64 0, .int .i64 0, .int .i64 0, .int .i64 0, .int .i64 0, .int .i64 0, .int .i64 0, .int .i64 0, .int .i64 0, .slice none 0 0, .slice none 0 0, .slice none 0 0, .int .i64 0, .int .i64 0, .bool false] 48)).heap[w.heap.size + 1]? = some (.cells #[.int .i64 0, .int .i64 0, .int .i64 0, .int .i64 0, .int .i64 0, .int .i64 0, .int .i64 0, .int .i64 0, .int .i64 0, .int .i64 0, .slice none 0 0, .slice none 0 0, .slice none 0 0, .int .i64 0, .int .i64 0, .bool false] 48 (0, 0)) from new_at (by simp) _)
 go_enter Tryz.func94, Tryz.ntmps94
 go_wp2_with (first | (refine load_wide rfl _ 40 rfl rfl infoWd Tryz.underlying40 B0.out rfl ?_) | (refine store_wide rfl _ _ 48 rfl rfl rfl infoWR B1.out rfl rfl rfl ?_; intro w9 hb9 hc9; have HB9 := Lib.hid hb9; have HC9 := Lib.hid hc9; clear hb9 hc9))
 refine bodyPost_ret (v := .agg #[.int .i64 9, .int .i64 s0, .int .i64 s1, .int .i64 s2, .int .i64 s3, .int .i64 s4, .int .i64 s5, .int .i64 s6, .int .i64 s7, .int .i64 s8, .slice a10 l10 c10, .slice a11 l11 c11, .slice a12 l12 c12, .int .i64 wr, .int .i64 st, .bool dn]) (results_wide _ _ Tryz.results94 rfl infoWR Tryz.underlying48 HB9.out rfl) rfl ⟨rfl, ?_⟩
 exact (((Chg.refl [] w).alloc _).alloc _).trans HC9.out (fun y hy => .inr (by rw [List.mem_singleton] at hy; omega))

set_option maxHeartbeats 2000000 in
theorem wrote_true (s0 s1 s2 s3 s4 s5 s6 s7 s8 wr st : Int) (a10 a11 a12 : Option Addr) (l10 c10 l11 c11 l12 c12 : Nat) (dn : Bool) (w : World) :
  Calls Tryz.prog 94 #[.agg #[.int .i64 s0, .int .i64 s1, .int .i64 s2, .int .i64 s3, .int .i64 s4, .int .i64 s5, .int .i64 s6, .int .i64 s7, .int .i64 s8, .slice a10 l10 c10, .slice a11 l11 c11, .slice a12 l12 c12, .int .i64 wr, .int .i64 st, .bool dn], .bool true] w fun e w' => e = .returned (.agg #[.int .i64 0, .int .i64 s0, .int .i64 s1, .int .i64 s2, .int .i64 s3, .int .i64 s4, .int .i64 s5, .int .i64 s6, .int .i64 s7, .int .i64 s8, .slice a10 l10 c10, .slice a11 l11 c11, .slice a12 l12 c12, .int .i64 wr, .int .i64 st, .bool dn]) ∧ Chg [] w w' := by
 have B0 := Lib.hid (show ((w.alloc (.cells #[.int .i64 s0, .int .i64 s1, .int .i64 s2, .int .i64 s3, .int .i64 s4, .int .i64 s5, .int .i64 s6, .int .i64 s7, .int .i64 s8, .slice a10 l10 c10, .slice a11 l11 c11, .slice a12 l12 c12, .int .i64 wr, .int .i64 st, .bool dn] 40)).alloc (.cells #[.int .i64 0, .int .i64 0, .int .i64 0, .int .i64 0, .int .i64 0, .int .i64 0, .int .i64 0, .int .i64 0, .int .i64 0, .int .i64 0, .slice none 0 0, .slice none 0 0, .slice none 0 0, .int .i64 0, .int .i64 0, .bool false] 48)).heap[w.heap.size]? = some (.cells #[.int .i64 s0, .int .i64 s1, .int .i64 s2, .int .i64 s3, .int .i64 s4, .int .i64 s5, .int .i64 s6, .int .i64 s7, .int .i64 s8, .slice a10 l10 c10, .slice a11 l11 c11, .slice a12 l12 c12, .int .i64 wr, .int .i64 st, .bool dn] 40 (0, 0)) from keep_alloc (new_alloc w _) _)
 have B1 := Lib.hid (show ((w.alloc (.cells #[.int .i64 s0, .int .i64 s1, .int .i64 s2, .int .i64 s3, .int .i64 s4, .int .i64 s5, .int .i64 s6, .int .i64 s7, .int .i64 s8, .slice a10 l10 c10, .slice a11 l11 c11, .slice a12 l12 c12, .int .i64 wr, .int .i64 st, .bool dn] 40)).alloc (.cells #[.int .i64 0, .int .i64 0, .int .i64 0, .int .i64 0, .int .i64 0, .int .i64 0, .int .i64 0, .int .i64 0, .int .i64 0, .int .i64 0, .slice none 0 0, .slice none 0 0, .slice none 0 0, .int .i64 0, .int .i64 0, .bool false] 48)).heap[w.heap.size + 1]? = some (.cells #[.int .i64 0, .int .i64 0, .int .i64 0, .int .i64 0, .int .i64 0, .int .i64 0, .int .i64 0, .int .i64 0, .int .i64 0, .int .i64 0, .slice none 0 0, .slice none 0 0, .slice none 0 0, .int .i64 0, .int .i64 0, .bool false] 48 (0, 0)) from new_at (by simp) _)
 go_enter Tryz.func94, Tryz.ntmps94
 go_wp2_with (first | (refine load_wide rfl _ 40 rfl rfl infoWd Tryz.underlying40 B0.out rfl ?_) | (refine store_wide rfl _ _ 48 rfl rfl rfl infoWR B1.out rfl rfl rfl ?_; intro w9 hb9 hc9; have HB9 := Lib.hid hb9; have HC9 := Lib.hid hc9; clear hb9 hc9))
 refine bodyPost_ret (v := .agg #[.int .i64 0, .int .i64 s0, .int .i64 s1, .int .i64 s2, .int .i64 s3, .int .i64 s4, .int .i64 s5, .int .i64 s6, .int .i64 s7, .int .i64 s8, .slice a10 l10 c10, .slice a11 l11 c11, .slice a12 l12 c12, .int .i64 wr, .int .i64 st, .bool dn]) (results_wide _ _ Tryz.results94 rfl infoWR Tryz.underlying48 HB9.out rfl) rfl ⟨rfl, ?_⟩
 exact (((Chg.refl [] w).alloc _).alloc _).trans HC9.out (fun y hy => .inr (by rw [List.mem_singleton] at hy; omega))

set_option maxHeartbeats 2000000 in
theorem l5Raw_fail (m : Nat) {u0 u1 u2 u3 u4 u5 u6 u7 u8 u9 u10 u11 : Value} {wr st : Int} (w : World) (h : w.heap[m]? = some (.cells #[u0, u1, u2, u3, u4, u5, u6, u7, u8, u9, u10, u11, .int .i64 wr, .int .i64 st, .bool false] 40 (0, 0))) (h1 : st ≠ -1 ∧ st ≤ wr) :
  Calls Tryz.prog 92 #[.pointer (some ⟨m, 0, none⟩)] w fun e w' => e = .returned (.bool false) ∧ w'.heap[m]? = some (.cells #[u0, u1, u2, u3, u4, u5, u6, u7, u8, u9, .slice none 0 0, u11, .int .i64 wr, .int .i64 st, .bool true] 40 (0, 0)) ∧ Chg [m] w w' := by
 have hne : ((st : Int) != -1) = true := by simpa using h1.1
 have hle := h1.2
 have HM := Lib.hid h; have H1 := Lib.hid h1
 have cm := cellsOf h; have nm := ltOf h; have fm := freeOf h
 clear h h1
 go_enter Tryz.func92, Tryz.ntmps92
 go_wp2_with fail
 obtain ⟨SS1, HSI1, HSO1⟩ := rg_cond (fun w' => Know m #[u0, u1, u2, u3, u4, u5, u6, u7, u8, u9, u10, u11, .int .i64 wr, .int .i64 st, .bool false] w')
 have hS0 := HSI1.out _ (Know.of (keep_drew HM.out))
 refine rg_start SS1 (by kernel_rfl) hS0 ?_
 refine rgT 0 hS0 ?_
 refine rgT 1 hS0 ?_
 refine rgT 2 hS0 ?_
 refine rgL 3 hS0 HSO1 ?_
 refine rgT 4 hS0 ?_
 refine rgT 5 hS0 ?_
 refine rgT 6 hS0 ?_
 refine rgT 7 hS0 ?_
 refine rgT 8 hS0 ?_
 refine rgL 9 hS0 HSO1 ?_
 refine rgT 10 hS0 ?_
 refine rgT 11 hS0 ?_
 refine rgT 12 hS0 ?_
 refine rgL 13 hS0 HSO1 ?_
 refine rgT 14 hS0 ?_
 refine rgT 15 hS0 ?_
 refine wpAnyH_done (by kernel_rfl) ?_ _
 go_wp2_with fail
 go_ret
 exact ⟨rfl, heap_set_lit (heap_set_lit (keep_drew HM.out) rfl) rfl, (((Chg.refl [m] w).drew).setCell _ _ (.inl (by simp))).setCell _ _ (.inl (by simp))⟩

set_option maxHeartbeats 2000000 in
theorem l5Raw_ok1 (m : Nat) {u0 u1 u2 u3 u4 u5 u6 u7 u8 u9 u10 u11 : Value} {wr st : Int} (w : World) (h : w.heap[m]? = some (.cells #[u0, u1, u2, u3, u4, u5, u6, u7, u8, u9, u10, u11, .int .i64 wr, .int .i64 st, .bool false] 40 (0, 0))) (h1 : st = -1) (hw : 0 ≤ wr ∧ wr ≤ 1000000000) :
  Calls Tryz.prog 92 #[.pointer (some ⟨m, 0, none⟩)] w fun e w' => e = .returned (.bool true) ∧ w' = w.drew.setCell ⟨m, 12, none⟩ (.int .i64 (wr + 1)) := by
 have hne : ((st : Int) != -1) = false := by simp [h1]
 have HM := Lib.hid h; have H1 := Lib.hid h1
 have cm := cellsOf h; have nm := ltOf h; have fm := freeOf h
 clear h h1
 go_enter Tryz.func92, Tryz.ntmps92
 go_wp2_with fail
 obtain ⟨SS1, HSI1, HSO1⟩ := rg_cond (fun w' => Know m #[u0, u1, u2, u3, u4, u5, u6, u7, u8, u9, u10, u11, .int .i64 wr, .int .i64 st, .bool false] w')
 have hS0 := HSI1.out _ (Know.of (keep_drew HM.out))
 refine rg_start SS1 (by kernel_rfl) hS0 ?_
 refine rgT 0 hS0 ?_
 refine rgT 1 hS0 ?_
 refine rgT 2 hS0 ?_
 refine rgL 3 hS0 HSO1 ?_
 refine rgT 4 hS0 ?_
 refine rgT 5 hS0 ?_
 refine rgS 6 hS0 ?_
 refine rgS 7 hS0 ?_
 refine rgS 8 hS0 ?_
 refine rgS 9 hS0 ?_
 refine rgS 10 hS0 ?_
 refine rgS 11 hS0 ?_
 refine rgS 12 hS0 ?_
 refine rgS 13 hS0 ?_
 refine rgS 14 hS0 ?_
 refine rgT 15 hS0 ?_
 refine wpAnyH_done (by kernel_rfl) ?_ _
 go_wp2_with fail
 go_ret
 exact ⟨rfl, rfl⟩

set_option maxHeartbeats 2000000 in
theorem l5Raw_ok2 (m : Nat) {u0 u1 u2 u3 u4 u5 u6 u7 u8 u9 u10 u11 : Value} {wr st : Int} (w : World) (h : w.heap[m]? = some (.cells #[u0, u1, u2, u3, u4, u5, u6, u7, u8, u9, u10, u11, .int .i64 wr, .int .i64 st, .bool false] 40 (0, 0))) (h1 : st ≠ -1 ∧ wr < st) (hw : 0 ≤ wr ∧ wr ≤ 1000000000) :
  Calls Tryz.prog 92 #[.pointer (some ⟨m, 0, none⟩)] w fun e w' => e = .returned (.bool true) ∧ w' = w.drew.setCell ⟨m, 12, none⟩ (.int .i64 (wr + 1)) := by
 have hne : ((st : Int) != -1) = true := by simpa using h1.1
 have hlt : ¬ st ≤ wr := by omega
 have HM := Lib.hid h; have H1 := Lib.hid h1
 have cm := cellsOf h; have nm := ltOf h; have fm := freeOf h
 clear h h1
 go_enter Tryz.func92, Tryz.ntmps92
 go_wp2_with fail
 obtain ⟨SS1, HSI1, HSO1⟩ := rg_cond (fun w' => Know m #[u0, u1, u2, u3, u4, u5, u6, u7, u8, u9, u10, u11, .int .i64 wr, .int .i64 st, .bool false] w')
 have hS0 := HSI1.out _ (Know.of (keep_drew HM.out))
 refine rg_start SS1 (by kernel_rfl) hS0 ?_
 refine rgT 0 hS0 ?_
 refine rgT 1 hS0 ?_
 refine rgT 2 hS0 ?_
 refine rgL 3 hS0 HSO1 ?_
 refine rgT 4 hS0 ?_
 refine rgT 5 hS0 ?_
 refine rgT 6 hS0 ?_
 refine rgT 7 hS0 ?_
 refine rgT 8 hS0 ?_
 refine rgL 9 hS0 HSO1 ?_
 refine rgT 10 hS0 ?_
 refine rgT 11 hS0 ?_
 refine rgT 12 hS0 ?_
 refine rgL 13 hS0 HSO1 ?_
 refine rgT 14 hS0 ?_
 refine rgT 15 hS0 ?_
 refine wpAnyH_done (by kernel_rfl) ?_ _
 go_wp2_with fail
 go_ret
 exact ⟨rfl, rfl⟩
end Go.Proofs.YtnnhopcjlnnchaaGreat

/- AppendRec: the program. -/
namespace Go.Proofs.YtnnhopcjlnnchaaGreat
open Go.RowKit

theorem up_parts {x : Wld} (h : x.up = 0) : x.fault = 0 ∧ x.down = false ∧ x.built ∧ x.nums ∧ x.shape.ok := by
 have hf : x.fault = 0 := by
  unfold Wld.up at h
  split at h
  ·assumption
  ·exact h
 have hd : x.down = false := by
  unfold Wld.up at h
  rw [if_pos hf] at h
  cases hd : x.down
  ·rfl
  ·rw [if_pos hd] at h; omega
 refine ⟨hf, hd, Classical.byContradiction (fun hn => ?_), Classical.byContradiction (fun hn => ?_), rows_ok hf⟩
 ·unfold Wld.fault at hf
  rw [pb_false (P := x.built ∧ x.onOk ∧ x.tapes.length = 2) (fun g => hn g.1)] at hf
  split at hf <;> simp at hf
 ·unfold Wld.fault at hf
  rw [pb_false (P := x.nums) hn] at hf
  simp only [Bool.false_eq_true, if_false] at hf
  split at hf
  ·split at hf
   ·split at hf
    ·omega
    ·contradiction
   ·omega
  ·omega

theorem up_recs {x : Wld} (h : x.up = 0) : x.tapes.length = 2 ∧ ∀ t ∈ x.tapes, t.recs.length ≤ 200 := by
 have hf := (up_parts h).1
 refine ⟨Classical.byContradiction (fun hn => ?_), fun t ht => Classical.byContradiction (fun hn => ?_)⟩
 ·unfold Wld.fault at hf
  rw [pb_false (P := x.built ∧ x.onOk ∧ x.tapes.length = 2) (fun g => hn g.2.2)] at hf
  split at hf <;> simp at hf
 ·unfold Wld.fault at hf
  have h2 : x.tapF = 2 := by unfold Wld.tapF; rw [if_pos (pb_true ⟨t, ht, by omega⟩)]
  rw [h2] at hf
  split at hf
  ·split at hf
   ·simp at hf
   ·omega
  ·omega
theorem tape_is {x : Wld} {t : Nat} {X : Tap} (h : x.tapes[t]? = some X) : x.tape (t : Int) = X := by
 unfold Wld.tape
 rw [Int.toNat_natCast, List.getD_eq_getElem?_getD, h]; rfl
theorem appendR_bad {x : Wld} {t : Int} {z : Rec} (h : ¬ x.up = 0) : appendR x t z = ⟨x.up, zWld⟩ := if_pos h
theorem appendR_out {x : Wld} {t : Int} {z : Rec} (h : x.up = 0) (h2 : ¬ (0 ≤ t ∧ t ≤ 1)) : appendR x t z = ⟨3, zWld⟩ := by unfold appendR; rw [if_neg (fun g => g h), if_pos (pb_false (P := isTape t) h2)]
theorem appendR_rec {x : Wld} {t : Int} {z : Rec} (h : x.up = 0) (h2 : 0 ≤ t ∧ t ≤ 1) (h3 : ¬ recV x.shape z = 0) : appendR x t z = ⟨recV x.shape z, zWld⟩ := by unfold appendR; rw [if_neg (fun g => g h), if_neg (by rw [pb_true (P := isTape t) h2]; simp), if_pos h3]
theorem appendR_many {x : Wld} {t : Nat} {z : Rec} {X : Tap} (h : x.up = 0) (h2 : 0 ≤ (t : Int) ∧ (t : Int) ≤ 1) (h3 : recV x.shape z = 0) (hX : x.tapes[t]? = some X) (h4 : X.recs.length = 200) : appendR x t z = ⟨2, zWld⟩ := by unfold appendR; rw [if_neg (fun g => g h), if_neg (by rw [pb_true (P := isTape (t : Int)) h2]; simp), if_neg (fun g => g h3), tape_is hX, if_pos h4]
theorem appendR_fail {x : Wld} {t : Nat} {z : Rec} {X : Tap} (h : x.up = 0) (h2 : 0 ≤ (t : Int) ∧ (t : Int) ≤ 1) (h3 : recV x.shape z = 0) (hX : x.tapes[t]? = some X) (h4 : ¬ X.recs.length = 200) (h5 : x.stop ≠ -1 ∧ x.stop ≤ x.writes) : appendR x t z = ⟨9, x.cut⟩ := by unfold appendR; rw [if_neg (fun g => g h), if_neg (by rw [pb_true (P := isTape (t : Int)) h2]; simp), if_neg (fun g => g h3), tape_is hX, if_neg h4]; exact if_pos h5
theorem appendR_ok {x : Wld} {t : Nat} {z : Rec} {X : Tap} (h : x.up = 0) (h2 : 0 ≤ (t : Int) ∧ (t : Int) ≤ 1) (h3 : recV x.shape z = 0) (hX : x.tapes[t]? = some X) (h4 : ¬ X.recs.length = 200) (h5 : ¬ (x.stop ≠ -1 ∧ x.stop ≤ x.writes)) : appendR x t z = ⟨0, { x with tapes := x.tapes.set t ⟨false, X.recs ++ [z]⟩, writes := x.writes + 1 }⟩ := by
 unfold appendR
 rw [if_neg (fun g => g h), if_neg (by rw [pb_true (P := isTape (t : Int)) h2]; simp), if_neg (fun g => g h3), tape_is hX, if_neg h4]
 unfold Wld.raw
 rw [if_neg h5]
 unfold Wld.setTape
 rw [Int.toNat_natCast]
 show (⟨0, { x with tapes := x.tapes.set t ⟨false, (x.tape (t : Int)).recs ++ [z]⟩, writes := x.writes + 1 }⟩ : WRes) = _
 rw [tape_is hX]
theorem isTapeA_any (s : Int) (w : World) : Calls Tryz.prog 83 #[.int .i64 s] w fun e w' => e = .returned (.bool (inB s 0 1)) ∧ w = w' := by
 go_enter Tryz.func83, Tryz.ntmps83
 go_wp2_with fail
 refine (inside_any s 0 1 _).mono ?_
 rintro e w' ⟨rfl, rfl⟩
 go_wp2_with fail
 go_ret
 exact ⟨rfl, rfl⟩
theorem recV_i64 (s : Shp) (z : Rec) : i64ok (recV s z) := by have := recV_sml s z; unfold i64ok; omega

set_option maxRecDepth 100000 in
set_option maxHeartbeats 8000000 in
theorem impl_AppendRec (x : Wld) (cx : Array Value) (fx : List Nat) (s : Int) (z : Rec) (cy : Array Value) (fy : List Nat) (w : World) (hx : wldL.rep w cx.toList x fx) (hz : totWld x ≤ 1048576) (_os : i64ok s) (hy : recL.rep w cy.toList z fy) (hzy : totRec z ≤ 1048576) :
  Calls Tryz.prog 48 #[.agg cx, .int .i64 s, .agg cy] w (NewAgg wrsL (appendR x s z) w) := by
 obtain ⟨a10, l10, c10, _, a11, l11, c11, f11, a12, l12, c12, _, ex, -, -, -, -, -, -, -, -, -, h10, h11, h12, oo13, oo14, -⟩ := wldL_iff.1 hx
 obtain rfl := Array.toList_inj.1 (ex.trans (List.toList_toArray).symm)
 have HW := Lib.hid hx; have HZ := Lib.hid hz; have H10 := Lib.hid h10; have H11 := Lib.hid h11; have H12 := Lib.hid h12; have HOO := Lib.hid (And.intro oo13 oo14)
 have hl11 : l11 ≤ 1048576 := by have h := h11.1; have q10 := totL_nonneg (totL_nonneg totDrv_nonneg) x.groups; have q12 := totL_nonneg totTap_nonneg x.tapes; unfold totWld totIs at hz; omega
 clear hx ex hz h10 h11 h12 oo13 oo14
 obtain ⟨a6, l6, c6, f6, a7, l7, c7, f7, a8, l8, c8, f8, exy, -⟩ := recL_iff.1 hy
 obtain rfl := Array.toList_inj.1 (exy.trans (List.toList_toArray).symm)
 have HY := Lib.hid hy; have HZY := Lib.hid hzy
 clear hy exy hzy
 have G0 := Lib.hid (show Chg [] w (((w.alloc (.cells #[.int .i64 x.shape.groups, .int .i64 x.shape.column, .int .i64 x.shape.data, .int .i64 x.shape.spare, .int .i64 x.shape.rows, .int .i64 x.shape.cap, .int .i64 x.shape.batch, .int .i64 x.shape.queue, .int .i64 x.shape.stage, .slice a10 l10 c10, .slice a11 l11 c11, .slice a12 l12 c12, .int .i64 x.writes, .int .i64 x.stop, .bool x.down] 40)).alloc (.cells #[.int .i64 z.kind, .int .i64 z.seq, .string z.name, .int .i64 z.length, .int .i64 z.group, .int .i64 z.row, .slice a6 l6 c6, .slice a7 l7 c7, .slice a8 l8 c8] 68)).alloc (.cells #[.int .i64 0, .int .i64 0, .int .i64 0, .int .i64 0, .int .i64 0, .int .i64 0, .int .i64 0, .int .i64 0, .int .i64 0, .int .i64 0, .slice none 0 0, .slice none 0 0, .slice none 0 0, .int .i64 0, .int .i64 0, .bool false] 48)) from (Chg.alloc (Chg.alloc (Chg.alloc (Chg.refl [] w) _) _) _))
 have B0 := Lib.hid (show (((w.alloc (.cells #[.int .i64 x.shape.groups, .int .i64 x.shape.column, .int .i64 x.shape.data, .int .i64 x.shape.spare, .int .i64 x.shape.rows, .int .i64 x.shape.cap, .int .i64 x.shape.batch, .int .i64 x.shape.queue, .int .i64 x.shape.stage, .slice a10 l10 c10, .slice a11 l11 c11, .slice a12 l12 c12, .int .i64 x.writes, .int .i64 x.stop, .bool x.down] 40)).alloc (.cells #[.int .i64 z.kind, .int .i64 z.seq, .string z.name, .int .i64 z.length, .int .i64 z.group, .int .i64 z.row, .slice a6 l6 c6, .slice a7 l7 c7, .slice a8 l8 c8] 68)).alloc (.cells #[.int .i64 0, .int .i64 0, .int .i64 0, .int .i64 0, .int .i64 0, .int .i64 0, .int .i64 0, .int .i64 0, .int .i64 0, .int .i64 0, .slice none 0 0, .slice none 0 0, .slice none 0 0, .int .i64 0, .int .i64 0, .bool false] 48)).heap[w.heap.size]? = some (.cells #[.int .i64 x.shape.groups, .int .i64 x.shape.column, .int .i64 x.shape.data, .int .i64 x.shape.spare, .int .i64 x.shape.rows, .int .i64 x.shape.cap, .int .i64 x.shape.batch, .int .i64 x.shape.queue, .int .i64 x.shape.stage, .slice a10 l10 c10, .slice a11 l11 c11, .slice a12 l12 c12, .int .i64 x.writes, .int .i64 x.stop, .bool x.down] 40 (0, 0)) from keep_alloc (keep_alloc (new_alloc w _) _) _)
 have B1 := Lib.hid (show (((w.alloc (.cells #[.int .i64 x.shape.groups, .int .i64 x.shape.column, .int .i64 x.shape.data, .int .i64 x.shape.spare, .int .i64 x.shape.rows, .int .i64 x.shape.cap, .int .i64 x.shape.batch, .int .i64 x.shape.queue, .int .i64 x.shape.stage, .slice a10 l10 c10, .slice a11 l11 c11, .slice a12 l12 c12, .int .i64 x.writes, .int .i64 x.stop, .bool x.down] 40)).alloc (.cells #[.int .i64 z.kind, .int .i64 z.seq, .string z.name, .int .i64 z.length, .int .i64 z.group, .int .i64 z.row, .slice a6 l6 c6, .slice a7 l7 c7, .slice a8 l8 c8] 68)).alloc (.cells #[.int .i64 0, .int .i64 0, .int .i64 0, .int .i64 0, .int .i64 0, .int .i64 0, .int .i64 0, .int .i64 0, .int .i64 0, .int .i64 0, .slice none 0 0, .slice none 0 0, .slice none 0 0, .int .i64 0, .int .i64 0, .bool false] 48)).heap[w.heap.size + 1]? = some (.cells #[.int .i64 z.kind, .int .i64 z.seq, .string z.name, .int .i64 z.length, .int .i64 z.group, .int .i64 z.row, .slice a6 l6 c6, .slice a7 l7 c7, .slice a8 l8 c8] 68 (0, 0)) from keep_alloc (new_at (by simp) _) _)
 have B2 := Lib.hid (show (((w.alloc (.cells #[.int .i64 x.shape.groups, .int .i64 x.shape.column, .int .i64 x.shape.data, .int .i64 x.shape.spare, .int .i64 x.shape.rows, .int .i64 x.shape.cap, .int .i64 x.shape.batch, .int .i64 x.shape.queue, .int .i64 x.shape.stage, .slice a10 l10 c10, .slice a11 l11 c11, .slice a12 l12 c12, .int .i64 x.writes, .int .i64 x.stop, .bool x.down] 40)).alloc (.cells #[.int .i64 z.kind, .int .i64 z.seq, .string z.name, .int .i64 z.length, .int .i64 z.group, .int .i64 z.row, .slice a6 l6 c6, .slice a7 l7 c7, .slice a8 l8 c8] 68)).alloc (.cells #[.int .i64 0, .int .i64 0, .int .i64 0, .int .i64 0, .int .i64 0, .int .i64 0, .int .i64 0, .int .i64 0, .int .i64 0, .int .i64 0, .slice none 0 0, .slice none 0 0, .slice none 0 0, .int .i64 0, .int .i64 0, .bool false] 48)).heap[w.heap.size + 2]? = some (.cells #[.int .i64 0, .int .i64 0, .int .i64 0, .int .i64 0, .int .i64 0, .int .i64 0, .int .i64 0, .int .i64 0, .int .i64 0, .int .i64 0, .slice none 0 0, .slice none 0 0, .slice none 0 0, .int .i64 0, .int .i64 0, .bool false] 48 (0, 0)) from new_at (by simp) _)
 go_enter Tryz.func48, Tryz.ntmps48
 obtain ⟨q, hq⟩ : ∃ q, q = x.up := ⟨_, rfl⟩
 have HQ := Lib.hid hq; clear hq
 go_wp2_with (first | (refine load_wide rfl _ 40 rfl rfl infoWd Tryz.underlying40 B0.out rfl ?_))
 refine (upFault_any x #[.int .i64 x.shape.groups, .int .i64 x.shape.column, .int .i64 x.shape.data, .int .i64 x.shape.spare, .int .i64 x.shape.rows, .int .i64 x.shape.cap, .int .i64 x.shape.batch, .int .i64 x.shape.queue, .int .i64 x.shape.stage, .slice a10 l10 c10, .slice a11 l11 c11, .slice a12 l12 c12, .int .i64 x.writes, .int .i64 x.stop, .bool x.down] fx _ (wldL.ext HW.out G0.out)).mono ?_
 rintro e w1 ⟨rfl, hc⟩
 rw [← HQ.out]
 obtain ⟨c0, n0, A0_1⟩ := bk hc B0.out (by simp)
 obtain ⟨c1, n1, A1_1⟩ := bk hc B1.out (by simp)
 obtain ⟨c2, n2, A2_1⟩ := bk hc B2.out (by simp)
 have G1 := Lib.hid (G0.out.trans0 hc)
 have fz := freeOf A2_1.out
 clear hc
 have hqk : i64ok q := by rw [HQ.out]; exact up_i64 x
 by_cases hq0 : q = 0
 ·subst hq0
  have hf0 : x.up = 0 := HQ.out.symm
  obtain ⟨-, hdn0, hbt0, hnu0, hok⟩ := up_parts hf0
  have hdn := Lib.hid hdn0; have HBT := Lib.hid hbt0; have HNU := Lib.hid hnu0; clear hdn0 hbt0 hnu0
  by_cases hin : 0 ≤ s ∧ s ≤ 1
  ·have HI := Lib.hid (show inB s 0 1 = true by simp [inB, hin.1, hin.2])
   go_wp2_with (first | (refine load_wide rfl _ 40 rfl rfl infoWd Tryz.underlying40 A0_1.out rfl ?_))
   refine (isTapeA_any s _).mono ?_
   rintro e w' ⟨rfl, rfl⟩
   rw [HI.out]
   obtain ⟨q2, hq2⟩ : ∃ q, q = recV x.shape z := ⟨_, rfl⟩
   have HQ2v := Lib.hid hq2; clear hq2
   go_wp2_with (first | (refine load_wide rfl _ 40 rfl rfl infoWd Tryz.underlying40 A0_1.out rfl ?_))
   refine (impl_rec x.shape hok z #[.int .i64 z.kind, .int .i64 z.seq, .string z.name, .int .i64 z.length, .int .i64 z.group, .int .i64 z.row, .slice a6 l6 c6, .slice a7 l7 c7, .slice a8 l8 c8] fy _ (recL.ext HY.out G1.out)).mono ?_
   rintro e w2 ⟨rfl, hc⟩
   rw [← HQ2v.out]
   clear c0 n0
   obtain ⟨c0, n0, A0_2⟩ := bk hc A0_1.out (by simp)
   clear c1 n1
   obtain ⟨c1, n1, A1_2⟩ := bk hc A1_1.out (by simp)
   clear c2 n2
   obtain ⟨c2, n2, A2_2⟩ := bk hc A2_1.out (by simp)
   have G2 := Lib.hid (G1.out.trans0 hc)
   clear fz; have fz := freeOf A2_2.out
   clear hc
   have hqk2 : i64ok q2 := by rw [HQ2v.out]; exact recV_i64 _ _
   by_cases hq20 : q2 = 0
   ·subst hq20
    have hrv : recV x.shape z = 0 := HQ2v.out.symm
    obtain ⟨t, rfl⟩ : ∃ t : Nat, s = t := ⟨s.toNat, by omega⟩
    have htl : t < l12 := by have h1 := H12.out.1; have h2 := (up_recs hf0).1; omega
    obtain ⟨X, bt, offt, at1, lt1, ct1, ft1, HXT, rfl, hy0, hy1, HXR⟩ := tape_at (tapL.sl_ext H12.out G2.out) htl
    have hX := Lib.hid HXT.out.1; have hX200 := (up_recs hf0).2 X (List.mem_of_getElem? HXT.out.1)
    obtain ⟨_, _, _, _, ext, hyt, -⟩ := tapL_iff.1 HXR.out
    obtain ⟨q1, q2, q3⟩ := Value.slice.inj (List.cons.inj (List.cons.inj ext).2).1
    subst q1 q2 q3
    have hl1 := hyt.1
    clear ext hyt HXR HXT
    by_cases hlen : X.recs.length = 200
    ·have hl2 : lt1 = 200 := by omega
     clear hl1
     have hfb : ((lt1 : Int) == 200) = true := by simp [hl2]
     have HL2 := Lib.hid hl2; clear hl2
     go_wp2_with (first | (refine store_wide rfl _ _ 48 rfl rfl rfl infoWR A2_2.out rfl rfl rfl ?_; intro w9 hb9 hc9; have HB9 := Lib.hid hb9; have HC9 := Lib.hid hc9; clear hb9 hc9))
     refine bodyPost_ret (v := .agg #[.int .i64 (2), .int .i64 0, .int .i64 0, .int .i64 0, .int .i64 0, .int .i64 0, .int .i64 0, .int .i64 0, .int .i64 0, .int .i64 0, .slice none 0 0, .slice none 0 0, .slice none 0 0, .int .i64 0, .int .i64 0, .bool false]) (results_wide _ _ Tryz.results48 rfl infoWR Tryz.underlying48 HB9.out rfl) rfl (bad9 (2) (⟨by omega, by omega⟩) (appendR x t z) (appendR_many hf0 hin hrv hX.out hlen) G2.out HC9.out (by omega))
    ·have hfb : ((lt1 : Int) == 200) = false := by simp; omega
     have HL1 := Lib.hid hl1; clear hl1
     go_wp2_with (first | (refine load_wide rfl _ 40 rfl rfl infoWd Tryz.underlying40 A0_2.out rfl ?_))
     refine (cloneWorld_tp x #[.int .i64 x.shape.groups, .int .i64 x.shape.column, .int .i64 x.shape.data, .int .i64 x.shape.spare, .int .i64 x.shape.rows, .int .i64 x.shape.cap, .int .i64 x.shape.batch, .int .i64 x.shape.queue, .int .i64 x.shape.stage, .slice a10 l10 c10, .slice a11 l11 c11, .slice (some ⟨bt, offt, none⟩) l12 c12, .int .i64 x.writes, .int .i64 x.stop, .bool x.down] fx _ (wldL.ext HW.out G2.out) HZ.out).mono ?_
     rintro e w3 ⟨p10, m10, d10, g10, p11, m11, d11, g11, p12, m12, d12, g12, rfl, o11, K10, K11, K12, hf, hc⟩
     have HO := Lib.hid o11; have HQ1 := Lib.hid hc.size
     have HK := Lib.hid (And.intro K10 (And.intro K11 K12)); have HF := Lib.hid hf; have HFn := Lib.hid (fun b hb => (hf.2 b hb).1); have nR0 := n2
     clear K10 K11 K12 o11 hf
     clear c0 n0
     obtain ⟨c0, n0, A0_3⟩ := bk hc A0_2.out (by simp)
     clear c1 n1
     obtain ⟨c1, n1, A1_3⟩ := bk hc A1_2.out (by simp)
     clear c2 n2
     obtain ⟨c2, n2, A2_3⟩ := bk hc A2_2.out (by simp)
     have G3 := Lib.hid (G2.out.trans0 hc)
     clear fz; have fz := freeOf A2_3.out
     clear hc
     go_upto_region 12 with (refine store_wide rfl _ _ 40 rfl rfl rfl infoWd (new_alloc _ _) rfl rfl rfl ?_; intro w4 hm hc0)
     have hc : Chg [] w3 w4 := ((Chg.refl [] w3).alloc _).trans hc0 (fun y hy => .inr (by rw [List.mem_singleton] at hy; omega)); clear hc0
     have HM := Lib.hid hm; have cm := cellsOf hm; have nm := ltOf hm; have fm := freeOf hm; have nR : w.heap.size + 2 < w3.heap.size := n2; clear hm
     have hF := HF.out.lts; have HKe := Lib.hid (And.intro (drvL.slice.sl_ext HK.out.1 hc) (And.intro (intL.sl_ext HK.out.2.1 hc) (tapO.sl_ext HK.out.2.2 hc))); have HFG := Lib.hid (HF.out.chg hc); have HFe := Lib.hid (HFG.out.mono (C := w.heap.size) G2.out.size); have HQ2 := Lib.hid (Nat.le_trans HQ1.out hc.size)
     have HFl := Lib.hid hF; clear hF
     clear c0 n0
     obtain ⟨c0, n0, A0_4⟩ := bk hc A0_3.out (by simp)
     clear c1 n1
     obtain ⟨c1, n1, A1_4⟩ := bk hc A1_3.out (by simp)
     clear c2 n2
     obtain ⟨c2, n2, A2_4⟩ := bk hc A2_3.out (by simp)
     have G4 := Lib.hid (G3.out.trans0 hc)
     clear fz; have fz := freeOf A2_4.out
     clear hc
     by_cases hst : x.stop ≠ -1 ∧ x.stop ≤ x.writes
     ·have HST := Lib.hid hst; clear hst
      go_wp2_with fail
      refine (appd_fail w3.heap.size t z w4 HM.out HST.out.1 HST.out.2).mono ?_
      rintro e w7 ⟨rfl, hm, hc⟩
      have hR := Lib.hid (hc.keepb A2_4.out (by simp; omega))
      have hnm : ∀ y ∈ g10 ++ (g11 ++ (g12 ++ [])), y ∉ [w3.heap.size] := fun y hy hm => by have := HFl.out y hy; rw [List.mem_singleton] at hm; omega
      obtain ⟨o1, o2, o3, o4, o5, o6, o7, o8, o9, o13, o14⟩ := HO.out
      have hsub : (g10 ++ ([] ++ (g12 ++ []))).Sublist (g10 ++ (g11 ++ (g12 ++ []))) := (List.Sublist.refl g10).append ((List.nil_sublist g11).append (List.Sublist.refl _))
      have HE := Lib.hid (And.intro (show wldL.rep w7 [.int .i64 x.shape.groups, .int .i64 x.shape.column, .int .i64 x.shape.data, .int .i64 x.shape.spare, .int .i64 x.shape.rows, .int .i64 x.shape.cap, .int .i64 x.shape.batch, .int .i64 x.shape.queue, .int .i64 x.shape.stage, .slice p10 m10 d10, .slice none 0 0, .slice p12 m12 d12, .int .i64 x.writes, .int .i64 x.stop, .bool true] _ _ from (wldL_iff.2 ⟨p10, m10, d10, g10, none, 0, 0, [], p12, m12, d12, g12, rfl, o1, o2, o3, o4, o5, o6, o7, o8, o9, drvL.slice.sl_chg HKe.out.1 hc (fun y hy => hnm y (by simp [hy])), nil_sl0 _ _, tapO_sl (tapO.sl_chg HKe.out.2.2 hc (fun y hy => hnm y (by simp [hy]))), o13, o14, rfl⟩ : wldL.rep _ _ x.cut _)) (And.intro (show Fresh w.heap.size w7 (g10 ++ ([] ++ (g12 ++ []))) from (HFe.out.chg hc).sub hsub) (And.intro (show Chg [] w w7 from G4.out.trans hc (fun y hy => .inr (by rw [List.mem_singleton] at hy; omega))) (show w.heap.size + 2 ∉ g10 ++ ([] ++ (g12 ++ [])) from fun hy => by have := HFn.out _ (hsub.subset hy); omega))))
      have HRR := Lib.hid hR.out; have HMR := Lib.hid (show w7.heap[w3.heap.size]? = some (.cells #[.int .i64 x.shape.groups, .int .i64 x.shape.column, .int .i64 x.shape.data, .int .i64 x.shape.spare, .int .i64 x.shape.rows, .int .i64 x.shape.cap, .int .i64 x.shape.batch, .int .i64 x.shape.queue, .int .i64 x.shape.stage, .slice p10 m10 d10, .slice none 0 0, .slice p12 m12 d12, .int .i64 x.writes, .int .i64 x.stop, .bool true] 40 (0, 0)) from hm)
      clear o1 o2 o3 o4 o5 o6 o7 o8 o9 o13 o14 hc hnm hsub hm cm nm fm
      go_wp2_with (refine load_wide rfl _ 40 rfl rfl infoWd Tryz.underlying40 HMR.out rfl ?_)
      refine (wrote_false _ _ _ _ _ _ _ _ _ _ _ _ _ _ _ _ _ _ _ _ _ _).mono ?_
      rintro e w8 ⟨rfl, hc8⟩
      have HE8 := Lib.hid (And.intro (wldL.ext HE.out.1 hc8) (And.intro (HE.out.2.1.chg hc8) (And.intro (HE.out.2.2.1.trans0 hc8) HE.out.2.2.2))); have HR8 := Lib.hid (hc8.keep0 HRR.out); clear hc8
      go_wp2_with (first | (refine store_wide rfl _ _ 48 rfl rfl rfl infoWR HR8.out rfl rfl rfl ?_; intro w9 hb9 hc9; have HB9 := Lib.hid hb9; have HC9 := Lib.hid hc9; clear hb9 hc9))
      refine bodyPost_ret (v := .agg #[.int .i64 9, .int .i64 x.shape.groups, .int .i64 x.shape.column, .int .i64 x.shape.data, .int .i64 x.shape.spare, .int .i64 x.shape.rows, .int .i64 x.shape.cap, .int .i64 x.shape.batch, .int .i64 x.shape.queue, .int .i64 x.shape.stage, .slice p10 m10 d10, .slice none 0 0, .slice p12 m12 d12, .int .i64 x.writes, .int .i64 x.stop, .bool true]) (results_wide _ _ Tryz.results48 rfl infoWR Tryz.underlying48 HB9.out rfl) rfl (fin9 9 ⟨by omega, by omega⟩ (appendR x t z) (appendR_fail hf0 hin hrv hX.out hlen HST.out) HE8.out.1 rfl HE8.out.2.1 HE8.out.2.2.1 HC9.out HE8.out.2.2.2 (by omega))
     ·have HST := Lib.hid hst; clear hst
      have htm : t < m12 := by have h1 := HKe.out.2.2.1; have h2 := (List.getElem?_eq_some_iff.1 hX.out).1; omega
      obtain ⟨-, b, off, -, -, -, -, -, rfl, -, -, -⟩ := tape_at (tapO_sl HKe.out.2.2) htm
      have hsto : x.stop = -1 ∨ x.stop ≠ -1 ∧ x.writes < x.stop := by have := HST.out; omega
      obtain ⟨X2, hd, fps, aq, lq, cq, hX2, hlq, hb12, hv0, hv1, hos, hfr, hsub12, hbn, hup⟩ := tap_grown (z := z) HKe.out.2.2 HFG.out HQ2.out htm
      clear hlq
      obtain rfl : X = X2 := by have h := hX.out; rw [hX2] at h; exact (Option.some.inj h).symm
      have hbm := HFl.out b (by simp [hb12]); have hbl : b < w4.heap.size := Nat.lt_trans hbm nm
      have hdm : ∀ y ∈ hd.toList, y < w3.heap.size := fun y hy => HFl.out y (by simp [hsub12 y (by simp only [List.mem_append]; exact .inl hy)])
      have hbh : b ∉ hd.toList := fun h => hbn (List.mem_append.2 (.inl h))
      have hxl : X.recs.length ≤ 1048576 := by have := hX200; omega
      go_wp2_with fail
      refine (appd_ok _ w3.heap.size b off t m12 d12 z fy X.recs w4 HM.out hsto HNU.out.1 htm hv0 hv1 (HFe.out.2 b (by simp [hb12])).2 hos hfr HQ2.out hbh (by omega) (fun h => Nat.lt_irrefl _ (hdm _ h)) (recL.ext HY.out G4.out) HZY.out hxl).mono ?_
      rintro e w7 ⟨rfl, a9, l9, c9, wz, hA, rfl⟩
      obtain ⟨fp2, hS, hFW, hp, hcT⟩ := hup _ wz hA
      have hcm : Chg [w3.heap.size] ((wz.setCell ⟨b, off + t * 2 + 1, none⟩ (.slice a9 l9 c9)).setCell ⟨b, off + t * 2, none⟩ (.bool false)) (((wz.setCell ⟨b, off + t * 2 + 1, none⟩ (.slice a9 l9 c9)).setCell ⟨b, off + t * 2, none⟩ (.bool false)).setCell ⟨w3.heap.size, 12, none⟩ (.int .i64 (x.writes + 1))) := (Chg.refl _ _).setCell _ _ (.inl (by simp))
      have hmW : (((wz.setCell ⟨b, off + t * 2 + 1, none⟩ (.slice a9 l9 c9)).setCell ⟨b, off + t * 2, none⟩ (.bool false)).setCell ⟨w3.heap.size, 12, none⟩ (.int .i64 (x.writes + 1))).heap[w3.heap.size]? = some (.cells #[.int .i64 x.shape.groups, .int .i64 x.shape.column, .int .i64 x.shape.data, .int .i64 x.shape.spare, .int .i64 x.shape.rows, .int .i64 x.shape.cap, .int .i64 x.shape.batch, .int .i64 x.shape.queue, .int .i64 x.shape.stage, .slice p10 m10 d10, .slice p11 m11 d11, .slice (some ⟨b, off, none⟩) m12 d12, .int .i64 (x.writes + 1), .int .i64 x.stop, .bool x.down] 40 (0, 0)) := heap_set_lit (cur := #[.int .i64 x.shape.groups, .int .i64 x.shape.column, .int .i64 x.shape.data, .int .i64 x.shape.spare, .int .i64 x.shape.rows, .int .i64 x.shape.cap, .int .i64 x.shape.batch, .int .i64 x.shape.queue, .int .i64 x.shape.stage, .slice p10 m10 d10, .slice p11 m11 d11, .slice (some ⟨b, off, none⟩) m12 d12, .int .i64 x.writes, .int .i64 x.stop, .bool x.down]) (hcT.keepb HM.out (fun h => by rcases List.mem_cons.1 h with h | h; omega; exact Nat.lt_irrefl _ (hdm _ h))) rfl
      have hfm : ∀ y ∈ g10 ++ (g11 ++ (fp2 ++ [])), y ∉ [w3.heap.size] := fun y hy hm => by
       rw [List.mem_singleton] at hm
       rcases List.mem_append.1 hy with h | h
       ·have := HFl.out y (List.mem_append.2 (.inl h)); omega
       ·rcases List.mem_append.1 h with h | h
        ·have := HFl.out y (List.mem_append.2 (.inr (List.mem_append.2 (.inl h)))); omega
        ·rcases hp y (by simpa using h) with h | h
         ·have := HFl.out y (by simp [h]); omega
         ·omega
      have hcW : Chg (w3.heap.size :: b :: hd.toList) w4 (((wz.setCell ⟨b, off + t * 2 + 1, none⟩ (.slice a9 l9 c9)).setCell ⟨b, off + t * 2, none⟩ (.bool false)).setCell ⟨w3.heap.size, 12, none⟩ (.int .i64 (x.writes + 1))) := (hcT.mono (T := w3.heap.size :: b :: hd.toList) (fun y hy => .inl (List.mem_cons_of_mem _ hy))).trans hcm (fun y hy => .inl (by rw [List.mem_singleton] at hy; simp [hy]))
      have nd := List.nodup_append.1 HFe.out.1; have nd2 := List.nodup_append.1 nd.2.1
      have hRW : (((wz.setCell ⟨b, off + t * 2 + 1, none⟩ (.slice a9 l9 c9)).setCell ⟨b, off + t * 2, none⟩ (.bool false)).setCell ⟨w3.heap.size, 12, none⟩ (.int .i64 (x.writes + 1))).heap[w.heap.size + 2]? = some (.cells #[.int .i64 0, .int .i64 0, .int .i64 0, .int .i64 0, .int .i64 0, .int .i64 0, .int .i64 0, .int .i64 0, .int .i64 0, .int .i64 0, .slice none 0 0, .slice none 0 0, .slice none 0 0, .int .i64 0, .int .i64 0, .bool false] 48 (0, 0)) := hcW.keepb A2_4.out (fun h => by rcases List.mem_cons.1 h with h | h; omega; rcases List.mem_cons.1 h with h | h; have := HFn.out b (by simp [hb12]); omega; have := HFn.out _ (by simp [hsub12 _ (List.mem_append.2 (.inl h))] : w.heap.size + 2 ∈ g10 ++ (g11 ++ (g12 ++ []))); omega)
      have hRn : w.heap.size + 2 ∉ g10 ++ (g11 ++ (fp2 ++ [])) := fun hy => by
       rcases List.mem_append.1 hy with h | h
       ·have := HFn.out _ (List.mem_append.2 (.inl h) : w.heap.size + 2 ∈ g10 ++ (g11 ++ (g12 ++ []))); omega
       ·rcases List.mem_append.1 h with h | h
        ·have := HFn.out _ (List.mem_append.2 (.inr (List.mem_append.2 (.inl h))) : w.heap.size + 2 ∈ g10 ++ (g11 ++ (g12 ++ []))); omega
        ·rcases hp _ (by simpa using h) with h | h
         ·have := HFn.out _ (by simp [h] : w.heap.size + 2 ∈ g10 ++ (g11 ++ (g12 ++ []))); omega
         ·have h3 := n2; omega
      obtain ⟨o1, o2, o3, o4, o5, o6, o7, o8, o9, o13, o14⟩ := HO.out
      have ow : i64ok (x.writes + 1) := by have := HNU.out.1; constructor <;> omega
      have HE := Lib.hid (And.intro (show wldL.rep (((wz.setCell ⟨b, off + t * 2 + 1, none⟩ (.slice a9 l9 c9)).setCell ⟨b, off + t * 2, none⟩ (.bool false)).setCell ⟨w3.heap.size, 12, none⟩ (.int .i64 (x.writes + 1))) [.int .i64 x.shape.groups, .int .i64 x.shape.column, .int .i64 x.shape.data, .int .i64 x.shape.spare, .int .i64 x.shape.rows, .int .i64 x.shape.cap, .int .i64 x.shape.batch, .int .i64 x.shape.queue, .int .i64 x.shape.stage, .slice p10 m10 d10, .slice p11 m11 d11, .slice (some ⟨b, off, none⟩) m12 d12, .int .i64 (x.writes + 1), .int .i64 x.stop, .bool x.down] _ _ from (wldL_iff.2 ⟨p10, m10, d10, g10, p11, m11, d11, g11, (some ⟨b, off, none⟩), m12, d12, fp2, rfl, o1, o2, o3, o4, o5, o6, o7, o8, o9, drvL.slice.sl_chg (drvL.slice.sl_chg HKe.out.1 hcT (fun y hy h => by have h2 := nd.2.2 y hy; rcases List.mem_cons.1 h with h | h; exact h2 b (by simp [hb12]) h; exact h2 y (by simp [hsub12 y (List.mem_append.2 (.inl h))]) rfl)) hcm (fun y hy => hfm y (by simp [hy])), intL.sl_chg (intL.sl_chg HKe.out.2.1 hcT (fun y hy h => by have h2 := nd2.2.2 y hy; rcases List.mem_cons.1 h with h | h; exact h2 b (by simp [hb12]) h; exact h2 y (by simp [hsub12 y (List.mem_append.2 (.inl h))]) rfl)) hcm (fun y hy => hfm y (by simp [hy])), tapO_sl (tapO.sl_chg hS hcm (fun y hy => hfm y (by simp [hy]))), ow, o14, rfl⟩ : wldL.rep _ _ ({ x with tapes := x.tapes.set t ⟨false, X.recs ++ [z]⟩, writes := x.writes + 1 }) _)) (And.intro (show Fresh w.heap.size (((wz.setCell ⟨b, off + t * 2 + 1, none⟩ (.slice a9 l9 c9)).setCell ⟨b, off + t * 2, none⟩ (.bool false)).setCell ⟨w3.heap.size, 12, none⟩ (.int .i64 (x.writes + 1))) (g10 ++ (g11 ++ (fp2 ++ []))) from (hFW.chg hcm).mono (C := w.heap.size) G2.out.size) (And.intro (show Chg [] w (((wz.setCell ⟨b, off + t * 2 + 1, none⟩ (.slice a9 l9 c9)).setCell ⟨b, off + t * 2, none⟩ (.bool false)).setCell ⟨w3.heap.size, 12, none⟩ (.int .i64 (x.writes + 1))) from G4.out.trans hcW (fun y hy => .inr (by have h0 := G2.out.size; rcases List.mem_cons.1 hy with h | h; omega; rcases List.mem_cons.1 h with h | h; have := HFn.out b (by simp [hb12]); omega; have := HFn.out y (by simp [hsub12 y (List.mem_append.2 (.inl h))]); omega))) (show w.heap.size + 2 ∉ g10 ++ (g11 ++ (fp2 ++ [])) from hRn))))
      have HRR := Lib.hid hRW; have HMR := Lib.hid (show (((wz.setCell ⟨b, off + t * 2 + 1, none⟩ (.slice a9 l9 c9)).setCell ⟨b, off + t * 2, none⟩ (.bool false)).setCell ⟨w3.heap.size, 12, none⟩ (.int .i64 (x.writes + 1))).heap[w3.heap.size]? = some (.cells #[.int .i64 x.shape.groups, .int .i64 x.shape.column, .int .i64 x.shape.data, .int .i64 x.shape.spare, .int .i64 x.shape.rows, .int .i64 x.shape.cap, .int .i64 x.shape.batch, .int .i64 x.shape.queue, .int .i64 x.shape.stage, .slice p10 m10 d10, .slice p11 m11 d11, .slice (some ⟨b, off, none⟩) m12 d12, .int .i64 (x.writes + 1), .int .i64 x.stop, .bool x.down] 40 (0, 0)) from hmW)
      clear o1 o2 o3 o4 o5 o6 o7 o8 o9 o13 o14 hcW hcT hcm hS hFW hp hfm hRW hRn hmW nd nd2 ow hup hos hfr hsub12 hbn hdm hbh hv0 hv1 hA cm nm fm
      go_wp2_with (refine load_wide rfl _ 40 rfl rfl infoWd Tryz.underlying40 HMR.out rfl ?_)
      refine (wrote_true _ _ _ _ _ _ _ _ _ _ _ _ _ _ _ _ _ _ _ _ _ _).mono ?_
      rintro e w8 ⟨rfl, hc8⟩
      have HE8 := Lib.hid (And.intro (wldL.ext HE.out.1 hc8) (And.intro (HE.out.2.1.chg hc8) (And.intro (HE.out.2.2.1.trans0 hc8) HE.out.2.2.2))); have HR8 := Lib.hid (hc8.keep0 HRR.out); clear hc8
      go_wp2_with (first | (refine store_wide rfl _ _ 48 rfl rfl rfl infoWR HR8.out rfl rfl rfl ?_; intro w9 hb9 hc9; have HB9 := Lib.hid hb9; have HC9 := Lib.hid hc9; clear hb9 hc9))
      refine bodyPost_ret (v := .agg #[.int .i64 0, .int .i64 x.shape.groups, .int .i64 x.shape.column, .int .i64 x.shape.data, .int .i64 x.shape.spare, .int .i64 x.shape.rows, .int .i64 x.shape.cap, .int .i64 x.shape.batch, .int .i64 x.shape.queue, .int .i64 x.shape.stage, .slice p10 m10 d10, .slice p11 m11 d11, .slice (some ⟨b, off, none⟩) m12 d12, .int .i64 (x.writes + 1), .int .i64 x.stop, .bool x.down]) (results_wide _ _ Tryz.results48 rfl infoWR Tryz.underlying48 HB9.out rfl) rfl (fin9 0 ⟨by omega, by omega⟩ (appendR x t z) (appendR_ok hf0 hin hrv hX.out hlen HST.out) HE8.out.1 rfl HE8.out.2.1 HE8.out.2.2.1 HC9.out HE8.out.2.2.2 (by omega))
   ·have hb2 : ((q2 : Int) != 0) = true := by simpa using hq20
    go_wp2_with (first | (refine store_wide rfl _ _ 48 rfl rfl rfl infoWR A2_2.out rfl rfl rfl ?_; intro w9 hb9 hc9; have HB9 := Lib.hid hb9; have HC9 := Lib.hid hc9; clear hb9 hc9))
    refine bodyPost_ret (v := .agg #[.int .i64 (q2), .int .i64 0, .int .i64 0, .int .i64 0, .int .i64 0, .int .i64 0, .int .i64 0, .int .i64 0, .int .i64 0, .int .i64 0, .slice none 0 0, .slice none 0 0, .slice none 0 0, .int .i64 0, .int .i64 0, .bool false]) (results_wide _ _ Tryz.results48 rfl infoWR Tryz.underlying48 HB9.out rfl) rfl (bad9 (q2) (hqk2) (appendR x s z) (by rw [appendR_rec hf0 hin (by rw [← HQ2v.out]; exact hq20), ← HQ2v.out]) G2.out HC9.out (by omega))
  ·have HI := Lib.hid (show inB s 0 1 = false by unfold inB; simp; omega)
   go_wp2_with (first | (refine load_wide rfl _ 40 rfl rfl infoWd Tryz.underlying40 A0_1.out rfl ?_))
   refine (isTapeA_any s _).mono ?_
   rintro e w' ⟨rfl, rfl⟩
   rw [HI.out]
   go_wp2_with (first | (refine store_wide rfl _ _ 48 rfl rfl rfl infoWR A2_1.out rfl rfl rfl ?_; intro w9 hb9 hc9; have HB9 := Lib.hid hb9; have HC9 := Lib.hid hc9; clear hb9 hc9))
   refine bodyPost_ret (v := .agg #[.int .i64 (3), .int .i64 0, .int .i64 0, .int .i64 0, .int .i64 0, .int .i64 0, .int .i64 0, .int .i64 0, .int .i64 0, .int .i64 0, .slice none 0 0, .slice none 0 0, .slice none 0 0, .int .i64 0, .int .i64 0, .bool false]) (results_wide _ _ Tryz.results48 rfl infoWR Tryz.underlying48 HB9.out rfl) rfl (bad9 (3) (⟨by omega, by omega⟩) (appendR x s z) (appendR_out hf0 hin) G1.out HC9.out (by omega))
 ·have hb : ((q : Int) != 0) = true := by simpa using hq0
  go_wp2_with (first | (refine store_wide rfl _ _ 48 rfl rfl rfl infoWR A2_1.out rfl rfl rfl ?_; intro w9 hb9 hc9; have HB9 := Lib.hid hb9; have HC9 := Lib.hid hc9; clear hb9 hc9))
  refine bodyPost_ret (v := .agg #[.int .i64 (q), .int .i64 0, .int .i64 0, .int .i64 0, .int .i64 0, .int .i64 0, .int .i64 0, .int .i64 0, .int .i64 0, .int .i64 0, .slice none 0 0, .slice none 0 0, .slice none 0 0, .int .i64 0, .int .i64 0, .bool false]) (results_wide _ _ Tryz.results48 rfl infoWR Tryz.underlying48 HB9.out rfl) rfl (bad9 (q) (hqk) (appendR x s z) (by rw [appendR_bad (by rw [← HQ.out]; exact hq0), ← HQ.out]) G1.out HC9.out (by omega))
end Go.Proofs.YtnnhopcjlnnchaaGreat

/- AppendRec: the specification. -/
namespace Go.Proofs.YtnnhopcjlnnchaaGreat
open Go.RowKit


set_option maxRecDepth 100000 in
set_option maxHeartbeats 8000000 in
theorem spec_AppendRec (x : Wld) (cx : Array Value) (fx : List Nat) (s : Int) (z : Rec) (cy : Array Value) (fy : List Nat) (w : World) (hx : wldL.rep w cx.toList x fx) (hz : totWld x ≤ 1048576) (_os : i64ok s) (hy : recL.rep w cy.toList z fy) (hzy : totRec z ≤ 1048576) :
  Calls Tryz.prog 46 #[.agg cx, .int .i64 s, .agg cy] w (NewAgg wrsL (appendR x s z) w) := by
 obtain ⟨a10, l10, c10, _, a11, l11, c11, f11, a12, l12, c12, _, ex, -, -, -, -, -, -, -, -, -, h10, h11, h12, oo13, oo14, -⟩ := wldL_iff.1 hx
 obtain rfl := Array.toList_inj.1 (ex.trans (List.toList_toArray).symm)
 have HW := Lib.hid hx; have HZ := Lib.hid hz; have H10 := Lib.hid h10; have H11 := Lib.hid h11; have H12 := Lib.hid h12; have HOO := Lib.hid (And.intro oo13 oo14)
 have hl11 : l11 ≤ 1048576 := by have h := h11.1; have q10 := totL_nonneg (totL_nonneg totDrv_nonneg) x.groups; have q12 := totL_nonneg totTap_nonneg x.tapes; unfold totWld totIs at hz; omega
 clear hx ex hz h10 h11 h12 oo13 oo14
 obtain ⟨a6, l6, c6, f6, a7, l7, c7, f7, a8, l8, c8, f8, exy, -⟩ := recL_iff.1 hy
 obtain rfl := Array.toList_inj.1 (exy.trans (List.toList_toArray).symm)
 have HY := Lib.hid hy; have HZY := Lib.hid hzy
 clear hy exy hzy
 have G0 := Lib.hid (show Chg [] w (((w.alloc (.cells #[.int .i64 x.shape.groups, .int .i64 x.shape.column, .int .i64 x.shape.data, .int .i64 x.shape.spare, .int .i64 x.shape.rows, .int .i64 x.shape.cap, .int .i64 x.shape.batch, .int .i64 x.shape.queue, .int .i64 x.shape.stage, .slice a10 l10 c10, .slice a11 l11 c11, .slice a12 l12 c12, .int .i64 x.writes, .int .i64 x.stop, .bool x.down] 40)).alloc (.cells #[.int .i64 z.kind, .int .i64 z.seq, .string z.name, .int .i64 z.length, .int .i64 z.group, .int .i64 z.row, .slice a6 l6 c6, .slice a7 l7 c7, .slice a8 l8 c8] 68)).alloc (.cells #[.int .i64 0, .int .i64 0, .int .i64 0, .int .i64 0, .int .i64 0, .int .i64 0, .int .i64 0, .int .i64 0, .int .i64 0, .int .i64 0, .slice none 0 0, .slice none 0 0, .slice none 0 0, .int .i64 0, .int .i64 0, .bool false] 48)) from (Chg.alloc (Chg.alloc (Chg.alloc (Chg.refl [] w) _) _) _))
 have B0 := Lib.hid (show (((w.alloc (.cells #[.int .i64 x.shape.groups, .int .i64 x.shape.column, .int .i64 x.shape.data, .int .i64 x.shape.spare, .int .i64 x.shape.rows, .int .i64 x.shape.cap, .int .i64 x.shape.batch, .int .i64 x.shape.queue, .int .i64 x.shape.stage, .slice a10 l10 c10, .slice a11 l11 c11, .slice a12 l12 c12, .int .i64 x.writes, .int .i64 x.stop, .bool x.down] 40)).alloc (.cells #[.int .i64 z.kind, .int .i64 z.seq, .string z.name, .int .i64 z.length, .int .i64 z.group, .int .i64 z.row, .slice a6 l6 c6, .slice a7 l7 c7, .slice a8 l8 c8] 68)).alloc (.cells #[.int .i64 0, .int .i64 0, .int .i64 0, .int .i64 0, .int .i64 0, .int .i64 0, .int .i64 0, .int .i64 0, .int .i64 0, .int .i64 0, .slice none 0 0, .slice none 0 0, .slice none 0 0, .int .i64 0, .int .i64 0, .bool false] 48)).heap[w.heap.size]? = some (.cells #[.int .i64 x.shape.groups, .int .i64 x.shape.column, .int .i64 x.shape.data, .int .i64 x.shape.spare, .int .i64 x.shape.rows, .int .i64 x.shape.cap, .int .i64 x.shape.batch, .int .i64 x.shape.queue, .int .i64 x.shape.stage, .slice a10 l10 c10, .slice a11 l11 c11, .slice a12 l12 c12, .int .i64 x.writes, .int .i64 x.stop, .bool x.down] 40 (0, 0)) from keep_alloc (keep_alloc (new_alloc w _) _) _)
 have B1 := Lib.hid (show (((w.alloc (.cells #[.int .i64 x.shape.groups, .int .i64 x.shape.column, .int .i64 x.shape.data, .int .i64 x.shape.spare, .int .i64 x.shape.rows, .int .i64 x.shape.cap, .int .i64 x.shape.batch, .int .i64 x.shape.queue, .int .i64 x.shape.stage, .slice a10 l10 c10, .slice a11 l11 c11, .slice a12 l12 c12, .int .i64 x.writes, .int .i64 x.stop, .bool x.down] 40)).alloc (.cells #[.int .i64 z.kind, .int .i64 z.seq, .string z.name, .int .i64 z.length, .int .i64 z.group, .int .i64 z.row, .slice a6 l6 c6, .slice a7 l7 c7, .slice a8 l8 c8] 68)).alloc (.cells #[.int .i64 0, .int .i64 0, .int .i64 0, .int .i64 0, .int .i64 0, .int .i64 0, .int .i64 0, .int .i64 0, .int .i64 0, .int .i64 0, .slice none 0 0, .slice none 0 0, .slice none 0 0, .int .i64 0, .int .i64 0, .bool false] 48)).heap[w.heap.size + 1]? = some (.cells #[.int .i64 z.kind, .int .i64 z.seq, .string z.name, .int .i64 z.length, .int .i64 z.group, .int .i64 z.row, .slice a6 l6 c6, .slice a7 l7 c7, .slice a8 l8 c8] 68 (0, 0)) from keep_alloc (new_at (by simp) _) _)
 have B2 := Lib.hid (show (((w.alloc (.cells #[.int .i64 x.shape.groups, .int .i64 x.shape.column, .int .i64 x.shape.data, .int .i64 x.shape.spare, .int .i64 x.shape.rows, .int .i64 x.shape.cap, .int .i64 x.shape.batch, .int .i64 x.shape.queue, .int .i64 x.shape.stage, .slice a10 l10 c10, .slice a11 l11 c11, .slice a12 l12 c12, .int .i64 x.writes, .int .i64 x.stop, .bool x.down] 40)).alloc (.cells #[.int .i64 z.kind, .int .i64 z.seq, .string z.name, .int .i64 z.length, .int .i64 z.group, .int .i64 z.row, .slice a6 l6 c6, .slice a7 l7 c7, .slice a8 l8 c8] 68)).alloc (.cells #[.int .i64 0, .int .i64 0, .int .i64 0, .int .i64 0, .int .i64 0, .int .i64 0, .int .i64 0, .int .i64 0, .int .i64 0, .int .i64 0, .slice none 0 0, .slice none 0 0, .slice none 0 0, .int .i64 0, .int .i64 0, .bool false] 48)).heap[w.heap.size + 2]? = some (.cells #[.int .i64 0, .int .i64 0, .int .i64 0, .int .i64 0, .int .i64 0, .int .i64 0, .int .i64 0, .int .i64 0, .int .i64 0, .int .i64 0, .slice none 0 0, .slice none 0 0, .slice none 0 0, .int .i64 0, .int .i64 0, .bool false] 48 (0, 0)) from new_at (by simp) _)
 go_enter Tryz.func46, Tryz.ntmps46
 obtain ⟨q, hq⟩ : ∃ q, q = x.up := ⟨_, rfl⟩
 have HQ := Lib.hid hq; clear hq
 go_wp2_with (first | (refine load_wide rfl _ 40 rfl rfl infoWd Tryz.underlying40 B0.out rfl ?_))
 refine (l5Asked_any x #[.int .i64 x.shape.groups, .int .i64 x.shape.column, .int .i64 x.shape.data, .int .i64 x.shape.spare, .int .i64 x.shape.rows, .int .i64 x.shape.cap, .int .i64 x.shape.batch, .int .i64 x.shape.queue, .int .i64 x.shape.stage, .slice a10 l10 c10, .slice a11 l11 c11, .slice a12 l12 c12, .int .i64 x.writes, .int .i64 x.stop, .bool x.down] fx _ (wldL.ext HW.out G0.out)).mono ?_
 rintro e w1 ⟨rfl, hc⟩
 rw [← HQ.out]
 obtain ⟨c0, n0, A0_1⟩ := bk hc B0.out (by simp)
 obtain ⟨c1, n1, A1_1⟩ := bk hc B1.out (by simp)
 obtain ⟨c2, n2, A2_1⟩ := bk hc B2.out (by simp)
 have G1 := Lib.hid (G0.out.trans0 hc)
 have fz := freeOf A2_1.out
 clear hc
 have hqk : i64ok q := by rw [HQ.out]; exact up_i64 x
 by_cases hq0 : q = 0
 ·subst hq0
  have hf0 : x.up = 0 := HQ.out.symm
  obtain ⟨-, hdn0, hbt0, hnu0, hok⟩ := up_parts hf0
  have hdn := Lib.hid hdn0; have HBT := Lib.hid hbt0; have HNU := Lib.hid hnu0; clear hdn0 hbt0 hnu0
  by_cases hin : 0 ≤ s ∧ s ≤ 1
  ·have HI := Lib.hid (show inB s 0 1 = true by simp [inB, hin.1, hin.2])
   go_wp2_with (first | (refine load_wide rfl _ 40 rfl rfl infoWd Tryz.underlying40 A0_1.out rfl ?_))
   refine (l1In_any s 0 1 _).mono ?_
   rintro e w' ⟨rfl, rfl⟩
   rw [HI.out]
   obtain ⟨q2, hq2⟩ : ∃ q, q = recV x.shape z := ⟨_, rfl⟩
   have HQ2v := Lib.hid hq2; clear hq2
   go_wp2_with (first | (refine load_wide rfl _ 40 rfl rfl infoWd Tryz.underlying40 A0_1.out rfl ?_))
   refine (spec_rec x.shape hok z #[.int .i64 z.kind, .int .i64 z.seq, .string z.name, .int .i64 z.length, .int .i64 z.group, .int .i64 z.row, .slice a6 l6 c6, .slice a7 l7 c7, .slice a8 l8 c8] fy _ (recL.ext HY.out G1.out)).mono ?_
   rintro e w2 ⟨rfl, hc⟩
   rw [← HQ2v.out]
   clear c0 n0
   obtain ⟨c0, n0, A0_2⟩ := bk hc A0_1.out (by simp)
   clear c1 n1
   obtain ⟨c1, n1, A1_2⟩ := bk hc A1_1.out (by simp)
   clear c2 n2
   obtain ⟨c2, n2, A2_2⟩ := bk hc A2_1.out (by simp)
   have G2 := Lib.hid (G1.out.trans0 hc)
   clear fz; have fz := freeOf A2_2.out
   clear hc
   have hqk2 : i64ok q2 := by rw [HQ2v.out]; exact recV_i64 _ _
   by_cases hq20 : q2 = 0
   ·subst hq20
    have hrv : recV x.shape z = 0 := HQ2v.out.symm
    obtain ⟨t, rfl⟩ : ∃ t : Nat, s = t := ⟨s.toNat, by omega⟩
    have htl : t < l12 := by have h1 := H12.out.1; have h2 := (up_recs hf0).1; omega
    obtain ⟨X, bt, offt, at1, lt1, ct1, ft1, HXT, rfl, hy0, hy1, HXR⟩ := tape_at (tapL.sl_ext H12.out G2.out) htl
    have hX := Lib.hid HXT.out.1; have hX200 := (up_recs hf0).2 X (List.mem_of_getElem? HXT.out.1)
    obtain ⟨_, _, _, _, ext, hyt, -⟩ := tapL_iff.1 HXR.out
    obtain ⟨q1, q2, q3⟩ := Value.slice.inj (List.cons.inj (List.cons.inj ext).2).1
    subst q1 q2 q3
    have hl1 := hyt.1
    clear ext hyt HXR HXT
    by_cases hlen : X.recs.length = 200
    ·have hl2 : lt1 = 200 := by omega
     clear hl1
     have hfb : decide ((lt1 : Int) ≥ 200) = true := by simp [hl2]
     have HL2 := Lib.hid hl2; clear hl2
     go_wp2_with (first | (refine store_wide rfl _ _ 48 rfl rfl rfl infoWR A2_2.out rfl rfl rfl ?_; intro w9 hb9 hc9; have HB9 := Lib.hid hb9; have HC9 := Lib.hid hc9; clear hb9 hc9))
     refine bodyPost_ret (v := .agg #[.int .i64 (2), .int .i64 0, .int .i64 0, .int .i64 0, .int .i64 0, .int .i64 0, .int .i64 0, .int .i64 0, .int .i64 0, .int .i64 0, .slice none 0 0, .slice none 0 0, .slice none 0 0, .int .i64 0, .int .i64 0, .bool false]) (results_wide _ _ Tryz.results46 rfl infoWR Tryz.underlying48 HB9.out rfl) rfl (bad9 (2) (⟨by omega, by omega⟩) (appendR x t z) (appendR_many hf0 hin hrv hX.out hlen) G2.out HC9.out (by omega))
    ·have hfb : decide ((lt1 : Int) ≥ 200) = false := by simp; omega
     have HL1 := Lib.hid hl1; clear hl1
     go_wp2_with (first | (refine load_wide rfl _ 40 rfl rfl infoWd Tryz.underlying40 A0_2.out rfl ?_))
     refine (l5Copy_tp x #[.int .i64 x.shape.groups, .int .i64 x.shape.column, .int .i64 x.shape.data, .int .i64 x.shape.spare, .int .i64 x.shape.rows, .int .i64 x.shape.cap, .int .i64 x.shape.batch, .int .i64 x.shape.queue, .int .i64 x.shape.stage, .slice a10 l10 c10, .slice a11 l11 c11, .slice (some ⟨bt, offt, none⟩) l12 c12, .int .i64 x.writes, .int .i64 x.stop, .bool x.down] fx _ (wldL.ext HW.out G2.out) HZ.out).mono ?_
     rintro e w3 ⟨p10, m10, d10, g10, p11, m11, d11, g11, p12, m12, d12, g12, rfl, o11, K10, K11, K12, hf, hc⟩
     have HO := Lib.hid o11; have HQ1 := Lib.hid hc.size
     have HK := Lib.hid (And.intro K10 (And.intro K11 K12)); have HF := Lib.hid hf; have HFn := Lib.hid (fun b hb => (hf.2 b hb).1); have nR0 := n2
     clear K10 K11 K12 o11 hf
     clear c0 n0
     obtain ⟨c0, n0, A0_3⟩ := bk hc A0_2.out (by simp)
     clear c1 n1
     obtain ⟨c1, n1, A1_3⟩ := bk hc A1_2.out (by simp)
     clear c2 n2
     obtain ⟨c2, n2, A2_3⟩ := bk hc A2_2.out (by simp)
     have G3 := Lib.hid (G2.out.trans0 hc)
     clear fz; have fz := freeOf A2_3.out
     clear hc
     go_upto_region 12 with (refine store_wide rfl _ _ 40 rfl rfl rfl infoWd (new_alloc _ _) rfl rfl rfl ?_; intro w4 hm hc0)
     have hc : Chg [] w3 w4 := ((Chg.refl [] w3).alloc _).trans hc0 (fun y hy => .inr (by rw [List.mem_singleton] at hy; omega)); clear hc0
     have HM := Lib.hid hm; have cm := cellsOf hm; have nm := ltOf hm; have fm := freeOf hm; have nR : w.heap.size + 2 < w3.heap.size := n2; clear hm
     have hF := HF.out.lts; have HKe := Lib.hid (And.intro (drvL.slice.sl_ext HK.out.1 hc) (And.intro (intL.sl_ext HK.out.2.1 hc) (tapO.sl_ext HK.out.2.2 hc))); have HFG := Lib.hid (HF.out.chg hc); have HFe := Lib.hid (HFG.out.mono (C := w.heap.size) G2.out.size); have HQ2 := Lib.hid (Nat.le_trans HQ1.out hc.size)
     have HFl := Lib.hid hF; clear hF
     clear c0 n0
     obtain ⟨c0, n0, A0_4⟩ := bk hc A0_3.out (by simp)
     clear c1 n1
     obtain ⟨c1, n1, A1_4⟩ := bk hc A1_3.out (by simp)
     clear c2 n2
     obtain ⟨c2, n2, A2_4⟩ := bk hc A2_3.out (by simp)
     have G4 := Lib.hid (G3.out.trans0 hc)
     clear fz; have fz := freeOf A2_4.out
     clear hc
     by_cases hst : x.stop ≠ -1 ∧ x.stop ≤ x.writes
     ·have HST := Lib.hid hst; clear hst
      go_wp2_with fail
      have HM2 := Lib.hid (show w4.heap[w3.heap.size]? = some (.cells #[.int .i64 x.shape.groups, .int .i64 x.shape.column, .int .i64 x.shape.data, .int .i64 x.shape.spare, .int .i64 x.shape.rows, .int .i64 x.shape.cap, .int .i64 x.shape.batch, .int .i64 x.shape.queue, .int .i64 x.shape.stage, .slice p10 m10 d10, .slice p11 m11 d11, .slice p12 m12 d12, .int .i64 x.writes, .int .i64 x.stop, .bool false] 40 (0, 0)) from by have h := HM.out; rw [hdn.out] at h; exact h)
      refine (l5Raw_fail w3.heap.size w4 HM2.out HST.out).mono ?_
      rintro e w7 ⟨rfl, hm, hc⟩
      have hR := Lib.hid (hc.keepb A2_4.out (by simp; omega))
      have hnm : ∀ y ∈ g10 ++ (g11 ++ (g12 ++ [])), y ∉ [w3.heap.size] := fun y hy hm => by have := HFl.out y hy; rw [List.mem_singleton] at hm; omega
      obtain ⟨o1, o2, o3, o4, o5, o6, o7, o8, o9, o13, o14⟩ := HO.out
      have hsub : (g10 ++ ([] ++ (g12 ++ []))).Sublist (g10 ++ (g11 ++ (g12 ++ []))) := (List.Sublist.refl g10).append ((List.nil_sublist g11).append (List.Sublist.refl _))
      have HE := Lib.hid (And.intro (show wldL.rep w7 [.int .i64 x.shape.groups, .int .i64 x.shape.column, .int .i64 x.shape.data, .int .i64 x.shape.spare, .int .i64 x.shape.rows, .int .i64 x.shape.cap, .int .i64 x.shape.batch, .int .i64 x.shape.queue, .int .i64 x.shape.stage, .slice p10 m10 d10, .slice none 0 0, .slice p12 m12 d12, .int .i64 x.writes, .int .i64 x.stop, .bool true] _ _ from (wldL_iff.2 ⟨p10, m10, d10, g10, none, 0, 0, [], p12, m12, d12, g12, rfl, o1, o2, o3, o4, o5, o6, o7, o8, o9, drvL.slice.sl_chg HKe.out.1 hc (fun y hy => hnm y (by simp [hy])), nil_sl0 _ _, tapO_sl (tapO.sl_chg HKe.out.2.2 hc (fun y hy => hnm y (by simp [hy]))), o13, o14, rfl⟩ : wldL.rep _ _ x.cut _)) (And.intro (show Fresh w.heap.size w7 (g10 ++ ([] ++ (g12 ++ []))) from (HFe.out.chg hc).sub hsub) (And.intro (show Chg [] w w7 from G4.out.trans hc (fun y hy => .inr (by rw [List.mem_singleton] at hy; omega))) (show w.heap.size + 2 ∉ g10 ++ ([] ++ (g12 ++ [])) from fun hy => by have := HFn.out _ (hsub.subset hy); omega))))
      have HRR := Lib.hid hR.out; have HMR := Lib.hid (show w7.heap[w3.heap.size]? = some (.cells #[.int .i64 x.shape.groups, .int .i64 x.shape.column, .int .i64 x.shape.data, .int .i64 x.shape.spare, .int .i64 x.shape.rows, .int .i64 x.shape.cap, .int .i64 x.shape.batch, .int .i64 x.shape.queue, .int .i64 x.shape.stage, .slice p10 m10 d10, .slice none 0 0, .slice p12 m12 d12, .int .i64 x.writes, .int .i64 x.stop, .bool true] 40 (0, 0)) from hm)
      clear o1 o2 o3 o4 o5 o6 o7 o8 o9 o13 o14 hc hnm hsub hm cm nm fm
      go_wp2_with (first | (refine load_wide rfl _ 40 rfl rfl infoWd Tryz.underlying40 HMR.out rfl ?_) | (refine store_wide rfl _ _ 48 rfl rfl rfl infoWR HRR.out rfl rfl rfl ?_; intro w9 hb9 hc9; have HB9 := Lib.hid hb9; have HC9 := Lib.hid hc9; clear hb9 hc9))
      refine bodyPost_ret (v := .agg #[.int .i64 (9), .int .i64 x.shape.groups, .int .i64 x.shape.column, .int .i64 x.shape.data, .int .i64 x.shape.spare, .int .i64 x.shape.rows, .int .i64 x.shape.cap, .int .i64 x.shape.batch, .int .i64 x.shape.queue, .int .i64 x.shape.stage, .slice p10 m10 d10, .slice none 0 0, .slice p12 m12 d12, .int .i64 x.writes, .int .i64 x.stop, .bool true]) (results_wide _ _ Tryz.results46 rfl infoWR Tryz.underlying48 HB9.out rfl) rfl (fin9 (9) (⟨by omega, by omega⟩) (appendR x t z) (appendR_fail hf0 hin hrv hX.out hlen HST.out) HE.out.1 rfl HE.out.2.1 HE.out.2.2.1 HC9.out HE.out.2.2.2 (by omega))
     ·have HST := Lib.hid hst; clear hst
      have htm : t < m12 := by have h1 := HKe.out.2.2.1; have h2 := (List.getElem?_eq_some_iff.1 hX.out).1; omega
      obtain ⟨-, b, off, -, -, -, -, -, rfl, -, -, -⟩ := tape_at (tapO_sl HKe.out.2.2) htm
      have hsto : x.stop = -1 ∨ x.stop ≠ -1 ∧ x.writes < x.stop := by have := HST.out; omega
      have HM2 := Lib.hid (show w4.heap[w3.heap.size]? = some (.cells #[.int .i64 x.shape.groups, .int .i64 x.shape.column, .int .i64 x.shape.data, .int .i64 x.shape.spare, .int .i64 x.shape.rows, .int .i64 x.shape.cap, .int .i64 x.shape.batch, .int .i64 x.shape.queue, .int .i64 x.shape.stage, .slice p10 m10 d10, .slice p11 m11 d11, .slice (some ⟨b, off, none⟩) m12 d12, .int .i64 x.writes, .int .i64 x.stop, .bool false] 40 (0, 0)) from by have h := HM.out; rw [hdn.out] at h; exact h)
      have HRAW := Lib.hid (show Calls Tryz.prog 92 #[.pointer (some ⟨w3.heap.size, 0, none⟩)] w4 fun e w' => e = .returned (.bool true) ∧ w' = w4.drew.setCell ⟨w3.heap.size, 12, none⟩ (.int .i64 (x.writes + 1)) from by rcases hsto with h | h; exact l5Raw_ok1 w3.heap.size w4 HM2.out h HNU.out.1; exact l5Raw_ok2 w3.heap.size w4 HM2.out h HNU.out.1)
      go_wp2_with fail
      refine HRAW.out.mono ?_
      rintro e w6 ⟨rfl, hw6⟩
      have hm6 : w6.heap[w3.heap.size]? = some (.cells #[.int .i64 x.shape.groups, .int .i64 x.shape.column, .int .i64 x.shape.data, .int .i64 x.shape.spare, .int .i64 x.shape.rows, .int .i64 x.shape.cap, .int .i64 x.shape.batch, .int .i64 x.shape.queue, .int .i64 x.shape.stage, .slice p10 m10 d10, .slice p11 m11 d11, .slice (some ⟨b, off, none⟩) m12 d12, .int .i64 (x.writes + 1), .int .i64 x.stop, .bool x.down] 40 (0, 0)) := by rw [hw6]; exact heap_set_lit (cur := #[.int .i64 x.shape.groups, .int .i64 x.shape.column, .int .i64 x.shape.data, .int .i64 x.shape.spare, .int .i64 x.shape.rows, .int .i64 x.shape.cap, .int .i64 x.shape.batch, .int .i64 x.shape.queue, .int .i64 x.shape.stage, .slice p10 m10 d10, .slice p11 m11 d11, .slice (some ⟨b, off, none⟩) m12 d12, .int .i64 x.writes, .int .i64 x.stop, .bool x.down]) (keep_drew HM.out) rfl
      have hc6 : Chg [w3.heap.size] w4 w6 := by rw [hw6]; exact ((Chg.refl _ _).drew).setCell _ _ (.inl (by simp))
      have hnm0 : ∀ y ∈ g10 ++ (g11 ++ (g12 ++ [])), y ∉ [w3.heap.size] := fun y hy hm => by have := HFl.out y hy; rw [List.mem_singleton] at hm; omega
      have HKe6 := Lib.hid (And.intro (drvL.slice.sl_chg HKe.out.1 hc6 (fun y hy => hnm0 y (by simp [hy]))) (And.intro (intL.sl_chg HKe.out.2.1 hc6 (fun y hy => hnm0 y (by simp [hy]))) (tapO.sl_chg HKe.out.2.2 hc6 (fun y hy => hnm0 y (by simp [hy])))))
      have HFG6 := Lib.hid (HFG.out.chg hc6); have HQ6 := Lib.hid (Nat.le_trans HQ2.out hc6.size)
      have HM6 := Lib.hid hm6; have HC6 := Lib.hid hc6; clear hw6 cm nm fm hnm0
      have nm := ltOf hm6; have cm := cellsOf hm6; have fm := freeOf hm6
      have A16 := Lib.hid (hc6.keepb A1_4.out (by simp; omega)); have A26 := Lib.hid (hc6.keepb A2_4.out (by simp; omega))
      have HY6 := Lib.hid (recL.chg (recL.ext HY.out G4.out) hc6 (fun z hz hm => by have h1 := recL.lt HY.out z hz; have h2 := G2.out.size; rw [List.mem_singleton] at hm; omega))
      clear hm6 hc6
      obtain ⟨X2, hd, fps, aq, lq, cq, hX2, hlq, hb12, hv0, hv1, hos, hfr, hsub12, hbn, hup⟩ := tap_grown (z := z) HKe6.out.2.2 HFG6.out HQ6.out htm
      clear hlq
      obtain rfl : X = X2 := by have h := hX.out; rw [hX2] at h; exact (Option.some.inj h).symm
      have hbm := HFl.out b (by simp [hb12]); have hbl : b < w6.heap.size := Nat.lt_trans hbm nm
      have hdm : ∀ y ∈ hd.toList, y < w3.heap.size := fun y hy => HFl.out y (by simp [hsub12 y (by simp only [List.mem_append]; exact .inl hy)])
      have hbh : b ∉ hd.toList := fun h => hbn (List.mem_append.2 (.inl h))
      have hxl : X.recs.length ≤ 1048576 := by have := hX200; omega
      have HV0 := Lib.hid hv0; have HV1 := Lib.hid hv1; have HOS := Lib.hid hos; have HFR := Lib.hid hfr; have HBH := Lib.hid hbh; have HLO := Lib.hid (HFG6.out.2 b (by simp [hb12])).2; obtain ⟨KR, _⟩ := kindRec; have HHM := Lib.hid (show w3.heap.size ∉ hd.toList from fun h => Nat.lt_irrefl _ (hdm _ h)); have HHR := Lib.hid (show w.heap.size + 2 ∉ hd.toList from fun h => by have := HFn.out _ (by simp [hsub12 _ (List.mem_append.2 (.inl h))] : w.heap.size + 2 ∈ g10 ++ (g11 ++ (g12 ++ []))); omega); have HHA := Lib.hid (show w.heap.size + 1 ∉ hd.toList from fun h => by have := HFn.out _ (by simp [hsub12 _ (List.mem_append.2 (.inl h))] : w.heap.size + 1 ∈ g10 ++ (g11 ++ (g12 ++ []))); omega)
      have HLL := Lib.hid (show X.recs.length + [z].length ≤ maxLen ∧ (X.recs.length + [z].length) * 128 ≤ 140737488355328 by simp only [List.length_singleton, maxLen]; omega)
      clear hv0 hv1 hos hfr hbh
      go_wp2_with fail
      obtain ⟨CC, HCI, HCO⟩ := rg_cond (fun w' => Know (w.heap.size + 1) #[.int .i64 z.kind, .int .i64 z.seq, .string z.name, .int .i64 z.length, .int .i64 z.group, .int .i64 z.row, .slice a6 l6 c6, .slice a7 l7 c7, .slice a8 l8 c8] w' ∧ Know (w3.heap.size) #[.int .i64 x.shape.groups, .int .i64 x.shape.column, .int .i64 x.shape.data, .int .i64 x.shape.spare, .int .i64 x.shape.rows, .int .i64 x.shape.cap, .int .i64 x.shape.batch, .int .i64 x.shape.queue, .int .i64 x.shape.stage, .slice p10 m10 d10, .slice p11 m11 d11, .slice (some ⟨b, off, none⟩) m12 d12, .int .i64 (x.writes + 1), .int .i64 x.stop, .bool x.down] w' ∧ w'.cell? ⟨b, off + t * 2 + 1, none⟩ = some (.slice aq lq cq))
      refine gg_start [15] CC (by kernel_rfl) (HCI.out _ ⟨(Know.of (keep_drew A16.out)), (Know.of (keep_drew HM6.out)), HV1.out⟩) (fun hcl hS => ?_)
      refine ggT 0 hcl hS ?_; clear hcl hS; intro hcl hS
      refine ggL 1 hcl hS HCO ?_; clear hcl hS; intro hcl hS
      refine ggT 2 hcl hS ?_; clear hcl hS; intro hcl hS
      refine ggT 3 hcl hS ?_; clear hcl hS; intro hcl hS
      refine ggL 4 hcl hS HCO ?_; clear hcl hS; intro hcl hS
      refine ggT 5 hcl hS ?_; clear hcl hS; intro hcl hS
      refine ggT 6 hcl hS ?_; clear hcl hS; intro hcl hS
      refine ggT 7 hcl hS ?_; clear hcl hS; intro hcl hS
      refine ggL 8 hcl hS HCO ?_; clear hcl hS; intro hcl hS
      refine ggL 9 hcl hS HCO ?_; clear hcl hS; intro hcl hS
      refine ggC 10 hcl rfl (by kernel_rfl) (fun K hK => ?_)
      go_simp
      go_at_call 102
      refine (l5CopyRec_any z #[.int .i64 z.kind, .int .i64 z.seq, .string z.name, .int .i64 z.length, .int .i64 z.group, .int .i64 z.row, .slice a6 l6 c6, .slice a7 l7 c7, .slice a8 l8 c8] fy _ (recL.ext HY6.out ((Chg.refl [] w6).drew)) HZY.out).mono ?_; rintro e w9 ⟨cs, g4, rfl, hs, hf, hc⟩
      obtain ⟨p6, m6, d6, _, p7, m7, d7, _, p8, m8, d8, _, ex, -⟩ := recL_iff.1 hs; obtain rfl := Array.toList_inj.1 (ex.trans (List.toList_toArray).symm); have HN1 := Lib.hid (And.intro hs (And.intro (hf.mono (C := w6.heap.size) (Nat.le_refl _)) (show Chg [] w6 w9 from ((Chg.refl [] w6).drew).trans0 hc))); obtain ⟨-, -, F0⟩ := bk hc (keep_drew A16.out) (by simp); obtain ⟨cm9, nm9, F1⟩ := bk hc (keep_drew HM6.out) (by simp); have k4 := cellKeep HN1.out.2.2 HV1.out hbl; have hbl9 : b < w9.heap.size := Nat.lt_of_lt_of_le hbl HN1.out.2.2.size; clear hs hf hc ex
      go_wp2_with fail
      refine hK.out _ _ (fun _ => HCI.out _ ⟨(Know.of F0.out), (Know.of F1.out), k4⟩) ?_
      clear hK K hcl hS
      intro hcl hS
      try simp only [Act.put, List.setIfInBounds_toArray, List.set_cons_zero, List.set_cons_succ]
      refine ggC 11 hcl rfl (by kernel_rfl) (fun K hK => ?_)
      go_simp
      refine hK.out _ _ (fun _ => HCI.out _ ⟨(Know.of (keep_alloc F0.out _)), (Know.of (keep_alloc F1.out _)), (cellKeep ((Chg.refl [] w9).alloc _) k4 hbl9)⟩) ?_
      clear hK K hcl hS
      intro hcl hS
      try simp only [Act.put, List.setIfInBounds_toArray, List.set_cons_zero, List.set_cons_succ]
      refine ggC 12 hcl rfl (by kernel_rfl) (fun K hK => ?_)
      refine recL.step_append rfl _ _ 98 rfl Tryz.underlying98 KR rfl (recL.os_ext HOS.out (HN1.out.2.2.alloc (.cells #[.int .i64 z.kind, .int .i64 z.seq, .string z.name, .int .i64 z.length, .int .i64 z.group, .int .i64 z.row, .slice p6 m6 d6, .slice p7 m7 d7, .slice p8 m8 d8] 68))) ⟨w9.heap.size, 0, none⟩ 1 1 [.int .i64 z.kind, .int .i64 z.seq, .string z.name, .int .i64 z.length, .int .i64 z.group, .int .i64 z.row, .slice p6 m6 d6, .slice p7 m7 d7, .slice p8 m8 d8] (ys := [z]) (f := g4) rfl rfl (new_cells w9 #[.int .i64 z.kind, .int .i64 z.seq, .string z.name, .int .i64 z.length, .int .i64 z.group, .int .i64 z.row, .slice p6 m6 d6, .slice p7 m7 d7, .slice p8 m8 d8] 68) (recL.all_single (recL.ext HN1.out.1 ((Chg.refl [] w9).alloc _))) (fun g hg hm => by have h1 := (recL.os_lt HOS.out).1 g hg; have h2 := (HN1.out.2.1.2 g hm).1; omega) HLL.out.1 HLL.out.2 ?_
      intro v' wz h' ho' hh' hc'
      obtain ⟨a9, l9, c9, e9⟩ : ∃ (a : Option Addr) (l c : Nat), v' = .slice a l c := by obtain ⟨a, c, e, -⟩ := recL.os_sl ho'; exact ⟨a, _, c, e⟩
      subst e9
      have HAP := Lib.hid (Appd.step HFR.out HQ6.out (HN1.out.2.1.chg ((Chg.refl [] w9).alloc (.cells #[.int .i64 z.kind, .int .i64 z.seq, .string z.name, .int .i64 z.length, .int .i64 z.group, .int .i64 z.row, .slice p6 m6 d6, .slice p7 m7 d7, .slice p8 m8 d8] 68))) (HN1.out.2.2.alloc (.cells #[.int .i64 z.kind, .int .i64 z.seq, .string z.name, .int .i64 z.length, .int .i64 z.group, .int .i64 z.row, .slice p6 m6 d6, .slice p7 m7 d7, .slice p8 m8 d8] 68)) ho' hh' hc')
      have k5 := cellKeepS HAP.out.chg HV1.out hbl HBH.out; have k6 := cellKeepS HAP.out.chg HV0.out hbl HBH.out; have fz5 := (HAP.out.chg.loose b HLO.out).free; have hb5 := (HAP.out.chg.loose b HLO.out).lt; have HMz := Lib.hid (HAP.out.chg.keepb HM6.out HHM.out); have HRz := Lib.hid (HAP.out.chg.keepb A26.out HHR.out); clear ho' hh' hc' cm nm fm cm9 nm9; have cm := cellsOf HMz.out; have nm := ltOf HMz.out; have fm := freeOf HMz.out
      refine hK.out _ _ (fun _ => HCI.out _ ⟨(Know.of (HAP.out.chg.keepb A16.out HHA.out)), (Know.of HMz.out), k5⟩) ?_
      clear hK K hcl hS
      intro hcl hS
      try simp only [Act.put, List.setIfInBounds_toArray, List.set_cons_zero, List.set_cons_succ]
      refine ggT 13 hcl hS ?_; clear hcl hS; intro hcl hS
      refine ggT 14 hcl hS ?_; clear hcl hS; intro hcl hS
      refine ggC 15 hcl rfl (by kernel_rfl) (fun K hK => ?_)
      go_simp
      refine hK.out _ _ (Till.done (m := 15) (by simp) (by rfl)) ?_
      clear hK K hcl hS
      intro hcl hS
      try simp only [Act.put, List.setIfInBounds_toArray, List.set_cons_zero, List.set_cons_succ]
      refine ggEnd (by kernel_rfl) ?_ _
      obtain ⟨fp2, hS, hFW, hp, hcT⟩ := hup _ wz HAP.out
      have hmW : ((wz.setCell ⟨b, off + t * 2 + 1, none⟩ (.slice a9 l9 c9)).setCell ⟨b, off + t * 2, none⟩ (.bool false)).heap[w3.heap.size]? = some (.cells #[.int .i64 x.shape.groups, .int .i64 x.shape.column, .int .i64 x.shape.data, .int .i64 x.shape.spare, .int .i64 x.shape.rows, .int .i64 x.shape.cap, .int .i64 x.shape.batch, .int .i64 x.shape.queue, .int .i64 x.shape.stage, .slice p10 m10 d10, .slice p11 m11 d11, .slice (some ⟨b, off, none⟩) m12 d12, .int .i64 (x.writes + 1), .int .i64 x.stop, .bool x.down] 40 (0, 0)) := hcT.keepb HM6.out (fun h => by rcases List.mem_cons.1 h with h | h; omega; exact HHM.out h)
      have hcW : Chg (w3.heap.size :: b :: hd.toList) w4 ((wz.setCell ⟨b, off + t * 2 + 1, none⟩ (.slice a9 l9 c9)).setCell ⟨b, off + t * 2, none⟩ (.bool false)) := (HC6.out.mono (T := w3.heap.size :: b :: hd.toList) (by simp)).trans hcT (fun y hy => .inl (List.mem_cons_of_mem _ hy))
      have nd := List.nodup_append.1 HFe.out.1; have nd2 := List.nodup_append.1 nd.2.1
      have hRW : ((wz.setCell ⟨b, off + t * 2 + 1, none⟩ (.slice a9 l9 c9)).setCell ⟨b, off + t * 2, none⟩ (.bool false)).heap[w.heap.size + 2]? = some (.cells #[.int .i64 0, .int .i64 0, .int .i64 0, .int .i64 0, .int .i64 0, .int .i64 0, .int .i64 0, .int .i64 0, .int .i64 0, .int .i64 0, .slice none 0 0, .slice none 0 0, .slice none 0 0, .int .i64 0, .int .i64 0, .bool false] 48 (0, 0)) := hcW.keepb A2_4.out (fun h => by rcases List.mem_cons.1 h with h | h; omega; rcases List.mem_cons.1 h with h | h; have := HFn.out b (by simp [hb12]); omega; have := HFn.out _ (by simp [hsub12 _ (List.mem_append.2 (.inl h))] : w.heap.size + 2 ∈ g10 ++ (g11 ++ (g12 ++ []))); omega)
      have hRn : w.heap.size + 2 ∉ g10 ++ (g11 ++ (fp2 ++ [])) := fun hy => by
       rcases List.mem_append.1 hy with h | h
       ·have := HFn.out _ (List.mem_append.2 (.inl h) : w.heap.size + 2 ∈ g10 ++ (g11 ++ (g12 ++ []))); omega
       ·rcases List.mem_append.1 h with h | h
        ·have := HFn.out _ (List.mem_append.2 (.inr (List.mem_append.2 (.inl h))) : w.heap.size + 2 ∈ g10 ++ (g11 ++ (g12 ++ []))); omega
        ·rcases hp _ (by simpa using h) with h | h
         ·have := HFn.out _ (by simp [h] : w.heap.size + 2 ∈ g10 ++ (g11 ++ (g12 ++ []))); omega
         ·have h3 := n2; have h4 := HC6.out.size; omega
      obtain ⟨o1, o2, o3, o4, o5, o6, o7, o8, o9, o13, o14⟩ := HO.out
      have ow : i64ok (x.writes + 1) := by have := HNU.out.1; constructor <;> omega
      have HE := Lib.hid (And.intro (show wldL.rep ((wz.setCell ⟨b, off + t * 2 + 1, none⟩ (.slice a9 l9 c9)).setCell ⟨b, off + t * 2, none⟩ (.bool false)) [.int .i64 x.shape.groups, .int .i64 x.shape.column, .int .i64 x.shape.data, .int .i64 x.shape.spare, .int .i64 x.shape.rows, .int .i64 x.shape.cap, .int .i64 x.shape.batch, .int .i64 x.shape.queue, .int .i64 x.shape.stage, .slice p10 m10 d10, .slice p11 m11 d11, .slice (some ⟨b, off, none⟩) m12 d12, .int .i64 (x.writes + 1), .int .i64 x.stop, .bool x.down] _ _ from (wldL_iff.2 ⟨p10, m10, d10, g10, p11, m11, d11, g11, (some ⟨b, off, none⟩), m12, d12, fp2, rfl, o1, o2, o3, o4, o5, o6, o7, o8, o9, drvL.slice.sl_chg HKe6.out.1 hcT (fun y hy h => by have h2 := nd.2.2 y hy; rcases List.mem_cons.1 h with h | h; exact h2 b (by simp [hb12]) h; exact h2 y (by simp [hsub12 y (List.mem_append.2 (.inl h))]) rfl), intL.sl_chg HKe6.out.2.1 hcT (fun y hy h => by have h2 := nd2.2.2 y hy; rcases List.mem_cons.1 h with h | h; exact h2 b (by simp [hb12]) h; exact h2 y (by simp [hsub12 y (List.mem_append.2 (.inl h))]) rfl), tapO_sl hS, ow, o14, rfl⟩ : wldL.rep _ _ ({ x with tapes := x.tapes.set t ⟨false, X.recs ++ [z]⟩, writes := x.writes + 1 }) _)) (And.intro (show Fresh w.heap.size ((wz.setCell ⟨b, off + t * 2 + 1, none⟩ (.slice a9 l9 c9)).setCell ⟨b, off + t * 2, none⟩ (.bool false)) (g10 ++ (g11 ++ (fp2 ++ []))) from hFW.mono (C := w.heap.size) G2.out.size) (And.intro (show Chg [] w ((wz.setCell ⟨b, off + t * 2 + 1, none⟩ (.slice a9 l9 c9)).setCell ⟨b, off + t * 2, none⟩ (.bool false)) from G4.out.trans hcW (fun y hy => .inr (by have h0 := G2.out.size; rcases List.mem_cons.1 hy with h | h; omega; rcases List.mem_cons.1 h with h | h; have := HFn.out b (by simp [hb12]); omega; have := HFn.out y (by simp [hsub12 y (List.mem_append.2 (.inl h))]); omega))) (show w.heap.size + 2 ∉ g10 ++ (g11 ++ (fp2 ++ [])) from hRn))))
      have HRR := Lib.hid hRW; have HMR := Lib.hid (show ((wz.setCell ⟨b, off + t * 2 + 1, none⟩ (.slice a9 l9 c9)).setCell ⟨b, off + t * 2, none⟩ (.bool false)).heap[w3.heap.size]? = some (.cells #[.int .i64 x.shape.groups, .int .i64 x.shape.column, .int .i64 x.shape.data, .int .i64 x.shape.spare, .int .i64 x.shape.rows, .int .i64 x.shape.cap, .int .i64 x.shape.batch, .int .i64 x.shape.queue, .int .i64 x.shape.stage, .slice p10 m10 d10, .slice p11 m11 d11, .slice (some ⟨b, off, none⟩) m12 d12, .int .i64 (x.writes + 1), .int .i64 x.stop, .bool x.down] 40 (0, 0)) from hmW)
      clear o1 o2 o3 o4 o5 o6 o7 o8 o9 o13 o14 hcW hcT hS hFW hp hRW hRn hmW nd nd2 ow hup hsub12 hbn hdm
      go_upto_region 16 with fail
      go_wp2_with (first | (refine load_wide rfl _ 40 rfl rfl infoWd Tryz.underlying40 HMR.out rfl ?_) | (refine store_wide rfl _ _ 48 rfl rfl rfl infoWR HRR.out rfl rfl rfl ?_; intro w9 hb9 hc9; have HB9 := Lib.hid hb9; have HC9 := Lib.hid hc9; clear hb9 hc9))
      refine bodyPost_ret (v := .agg #[.int .i64 0, .int .i64 x.shape.groups, .int .i64 x.shape.column, .int .i64 x.shape.data, .int .i64 x.shape.spare, .int .i64 x.shape.rows, .int .i64 x.shape.cap, .int .i64 x.shape.batch, .int .i64 x.shape.queue, .int .i64 x.shape.stage, .slice p10 m10 d10, .slice p11 m11 d11, .slice (some ⟨b, off, none⟩) m12 d12, .int .i64 (x.writes + 1), .int .i64 x.stop, .bool x.down]) (results_wide _ _ Tryz.results46 rfl infoWR Tryz.underlying48 HB9.out rfl) rfl (fin9 (0) (i64z) (appendR x t z) (appendR_ok hf0 hin hrv hX.out hlen HST.out) HE.out.1 rfl HE.out.2.1 HE.out.2.2.1 HC9.out HE.out.2.2.2 (by omega))
   ·have hb2 : ((q2 : Int) != 0) = true := by simpa using hq20
    go_wp2_with (first | (refine store_wide rfl _ _ 48 rfl rfl rfl infoWR A2_2.out rfl rfl rfl ?_; intro w9 hb9 hc9; have HB9 := Lib.hid hb9; have HC9 := Lib.hid hc9; clear hb9 hc9))
    refine bodyPost_ret (v := .agg #[.int .i64 (q2), .int .i64 0, .int .i64 0, .int .i64 0, .int .i64 0, .int .i64 0, .int .i64 0, .int .i64 0, .int .i64 0, .int .i64 0, .slice none 0 0, .slice none 0 0, .slice none 0 0, .int .i64 0, .int .i64 0, .bool false]) (results_wide _ _ Tryz.results46 rfl infoWR Tryz.underlying48 HB9.out rfl) rfl (bad9 (q2) (hqk2) (appendR x s z) (by rw [appendR_rec hf0 hin (by rw [← HQ2v.out]; exact hq20), ← HQ2v.out]) G2.out HC9.out (by omega))
  ·have HI := Lib.hid (show inB s 0 1 = false by unfold inB; simp; omega)
   go_wp2_with (first | (refine load_wide rfl _ 40 rfl rfl infoWd Tryz.underlying40 A0_1.out rfl ?_))
   refine (l1In_any s 0 1 _).mono ?_
   rintro e w' ⟨rfl, rfl⟩
   rw [HI.out]
   go_wp2_with (first | (refine store_wide rfl _ _ 48 rfl rfl rfl infoWR A2_1.out rfl rfl rfl ?_; intro w9 hb9 hc9; have HB9 := Lib.hid hb9; have HC9 := Lib.hid hc9; clear hb9 hc9))
   refine bodyPost_ret (v := .agg #[.int .i64 (3), .int .i64 0, .int .i64 0, .int .i64 0, .int .i64 0, .int .i64 0, .int .i64 0, .int .i64 0, .int .i64 0, .int .i64 0, .slice none 0 0, .slice none 0 0, .slice none 0 0, .int .i64 0, .int .i64 0, .bool false]) (results_wide _ _ Tryz.results46 rfl infoWR Tryz.underlying48 HB9.out rfl) rfl (bad9 (3) (⟨by omega, by omega⟩) (appendR x s z) (appendR_out hf0 hin) G1.out HC9.out (by omega))
 ·have hb : ((q : Int) != 0) = true := by simpa using hq0
  go_wp2_with (first | (refine store_wide rfl _ _ 48 rfl rfl rfl infoWR A2_1.out rfl rfl rfl ?_; intro w9 hb9 hc9; have HB9 := Lib.hid hb9; have HC9 := Lib.hid hc9; clear hb9 hc9))
  refine bodyPost_ret (v := .agg #[.int .i64 (q), .int .i64 0, .int .i64 0, .int .i64 0, .int .i64 0, .int .i64 0, .int .i64 0, .int .i64 0, .int .i64 0, .int .i64 0, .slice none 0 0, .slice none 0 0, .slice none 0 0, .int .i64 0, .int .i64 0, .bool false]) (results_wide _ _ Tryz.results46 rfl infoWR Tryz.underlying48 HB9.out rfl) rfl (bad9 (q) (hqk) (appendR x s z) (by rw [appendR_bad (by rw [← HQ.out]; exact hq0), ← HQ.out]) G1.out HC9.out (by omega))
end Go.Proofs.YtnnhopcjlnnchaaGreat

/- A region that draws its order, with two operations that may come next; a structure stored in it. No function of the program in sight. -/
namespace Go.Proofs.YtnnhopcjlnnchaaGreat
open Go.RowKit

section
variable {P : Program} {ops : Array Oper} {Q : Exit → Act → World → Prop} {md : Region.Mode} {S : World → Prop} {fuel : Nat} {listed : Array Bool} {a : Act} {w : World}
theorem rg_call2 (i j : Nat) {oi oj : Oper} (hi : ops.toList[i]? = some oi) (hj : ops.toList[j]? = some oj) (hr : Region.ready md ops listed = [i, j])
  (h : ∀ K' : Act → World → Prop, Shut (∀ a w, S w → (S w → wpAnyH P md ops Q S fuel (listed.setIfInBounds i true) a w) → K' a w) → if Region.wanted oi (yielded ops a.tmps) = true then Oper.wp P oi a w K' Q else K' (a.put oi.dst undef) w)
  (h2 : ∀ K' : Act → World → Prop, Shut (∀ a w, S w → (S w → wpAnyH P md ops Q S fuel (listed.setIfInBounds j true) a w) → K' a w) → if Region.wanted oj (yielded ops a.tmps) = true then Oper.wp P oj a w K' Q else K' (a.put oj.dst undef) w) :
  wpAnyH P md ops Q S (fuel + 1) listed a w :=
 wpAnyH_ready hr (by simp) (AllReadyH.cons (get_toList hi) h (AllReadyH.cons (get_toList hj) h2 AllReadyH.nil))
theorem store_step {o : Oper} {Kc : Act → World → Prop} {R : Prop} {b : Nat} {cs vs : Array Value} {E : TypeId} {n : Nat} (hgd : o.guard = none) (p v : Operand) (t : TypeId)
  (hop : o.op = .store t p v) (hp : a.eval p = .pointer (some ⟨b, 0, none⟩)) (hv : a.eval v = .agg vs) (hi : (P.info? t).map (fun i => i.size) = some n) (h : w.heap[b]? = some (.cells cs E (0, 0)))
  (hn : vs.size = n) (hs : cs.size = n) (hone : vs.toList.all Value.oneCell' = true)
  (hk : ∀ w', w'.heap[b]? = some (.cells vs E (0, 0)) → Chg [b] w w' → Kc (a.put o.dst undef) w') : if Region.wanted o (yielded ops a.tmps) = true then Oper.wp P o a w Kc Q else R := by
 have hw : Region.wanted o (yielded ops a.tmps) = true := by simp [Region.wanted, hgd]
 rw [if_pos hw]
 exact store_wp p v t hop hp hv hi h hn hs hone hk
end
end Go.Proofs.YtnnhopcjlnnchaaGreat
