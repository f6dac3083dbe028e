/- Several texts in one. -/
import Derived.Test.YtnnhopcjlnnchaaGreatMi
import Derived.Test.YtnnhopcjlnnchaaGreatWrs
import Derived.Test.YtnnhopcjlnnchaaGreatWfj
import Derived.Test.YtnnhopcjlnnchaaGreatWfu
import Derived.Test.YtnnhopcjlnnchaaGreatWhW
import Derived.Test.YtnnhopcjlnnchaaGreatMk
/- Copies: a world: the program. -/
namespace Go.Proofs.YtnnhopcjlnnchaaGreat
open Go.RowKit

theorem row15_back {w : World} {b : Nat} {E : TypeId} {fr : Nat × Nat} {u0 u1 u2 u3 u4 u5 u6 u7 u8 u9 u10 u11 u12 u13 u14 : Value} (v0 v1 v2 v3 v4 v5 v6 v7 v8 v9 v10 v11 v12 v13 v14 : Value) (h : w.heap[b]? = some (.cells #[u0, u1, u2, u3, u4, u5, u6, u7, u8, u9, u10, u11, u12, u13, u14] E fr)) :
  (((((((((((((((w.setCell ⟨b, 0, none⟩ (v0)).setCell ⟨b, 1, none⟩ (v1)).setCell ⟨b, 2, none⟩ (v2)).setCell ⟨b, 3, none⟩ (v3)).setCell ⟨b, 4, none⟩ (v4)).setCell ⟨b, 5, none⟩ (v5)).setCell ⟨b, 6, none⟩ (v6)).setCell ⟨b, 7, none⟩ (v7)).setCell ⟨b, 8, none⟩ (v8)).setCell ⟨b, 9, none⟩ (v9)).setCell ⟨b, 10, none⟩ (v10)).setCell ⟨b, 11, none⟩ (v11)).setCell ⟨b, 12, none⟩ (v12)).setCell ⟨b, 13, none⟩ (v13)).setCell ⟨b, 14, none⟩ (v14)).heap[b]? = some (.cells #[v0, v1, v2, v3, v4, v5, v6, v7, v8, v9, v10, v11, v12, v13, v14] E fr) := by
 have e : (((((((((((((((w.setCell ⟨b, 0, none⟩ (v0)).setCell ⟨b, 1, none⟩ (v1)).setCell ⟨b, 2, none⟩ (v2)).setCell ⟨b, 3, none⟩ (v3)).setCell ⟨b, 4, none⟩ (v4)).setCell ⟨b, 5, none⟩ (v5)).setCell ⟨b, 6, none⟩ (v6)).setCell ⟨b, 7, none⟩ (v7)).setCell ⟨b, 8, none⟩ (v8)).setCell ⟨b, 9, none⟩ (v9)).setCell ⟨b, 10, none⟩ (v10)).setCell ⟨b, 11, none⟩ (v11)).setCell ⟨b, 12, none⟩ (v12)).setCell ⟨b, 13, none⟩ (v13)).setCell ⟨b, 14, none⟩ (v14)) = w.setCells b 0 [v0, v1, v2, v3, v4, v5, v6, v7, v8, v9, v10, v11, v12, v13, v14] := rfl
 rw [e, setCells_heap [v0, v1, v2, v3, v4, v5, v6, v7, v8, v9, v10, v11, v12, v13, v14] 0 w _ h]
 simp [setRow]
theorem chg15 {S : List Nat} {w0 w : World} {b : Nat} (v0 v1 v2 v3 v4 v5 v6 v7 v8 v9 v10 v11 v12 v13 v14 : Value) (h : Chg S w0 w) (hb : b ∈ S ∨ w0.heap.size ≤ b) : Chg S w0 (((((((((((((((w.setCell ⟨b, 0, none⟩ (v0)).setCell ⟨b, 1, none⟩ (v1)).setCell ⟨b, 2, none⟩ (v2)).setCell ⟨b, 3, none⟩ (v3)).setCell ⟨b, 4, none⟩ (v4)).setCell ⟨b, 5, none⟩ (v5)).setCell ⟨b, 6, none⟩ (v6)).setCell ⟨b, 7, none⟩ (v7)).setCell ⟨b, 8, none⟩ (v8)).setCell ⟨b, 9, none⟩ (v9)).setCell ⟨b, 10, none⟩ (v10)).setCell ⟨b, 11, none⟩ (v11)).setCell ⟨b, 12, none⟩ (v12)).setCell ⟨b, 13, none⟩ (v13)).setCell ⟨b, 14, none⟩ (v14)) := by
 iterate 15 refine Chg.setCell ?_ _ _ hb
 exact h
theorem Fresh.swap {B : Nat} {w : World} {a b c : List Nat} (h : Fresh B w (a ++ (b ++ c))) : Fresh B w (b ++ (a ++ (c ++ []))) := by
 have p : (a ++ (b ++ c)).Perm (b ++ (a ++ (c ++ []))) := by
  rw [List.append_nil, ← List.append_assoc, ← List.append_assoc]
  exact List.perm_append_comm.append_right c
 exact ⟨p.nodup_iff.1 h.1, fun y hy => h.2 y (p.mem_iff.2 hy)⟩
end Go.Proofs.YtnnhopcjlnnchaaGreat

/- Copies: a world: the specification. -/
namespace Go.Proofs.YtnnhopcjlnnchaaGreat
open Go.RowKit

end Go.Proofs.YtnnhopcjlnnchaaGreat

/- Functions over a world: what they share. -/
namespace Go.Proofs.YtnnhopcjlnnchaaGreat
open Go.RowKit

theorem Fresh.sub {B : Nat} {w : World} {f g : List Nat} (h : Fresh B w f) (hs : g.Sublist f) : Fresh B w g := ⟨hs.nodup h.1, fun b hb => h.2 b (hs.subset hb)⟩
theorem nameFault_sml (s : ByteArray) : 0 ≤ nameFault s ∧ nameFault s ≤ 99 := by
 unfold nameFault
 repeat' split
 all_goals omega
theorem itemV_sml (s : Shp) (x : Rec) : 0 ≤ itemV s x ∧ itemV s x ≤ 99 := by
 have := nameFault_sml x.name
 unfold itemV
 repeat' split
 all_goals omega
theorem recV_sml (s : Shp) (x : Rec) : 0 ≤ recV s x ∧ recV s x ≤ 99 := by
 have := itemV_sml s x
 unfold recV
 repeat' split
 all_goals omega
theorem recsF_sml (s : Shp) : ∀ xs : List Rec, 0 ≤ recsF s xs ∧ recsF s xs ≤ 99
 | [] => by unfold recsF; omega
 | x :: xs => by have := recsF_sml s xs; have := recV_sml s x; unfold recsF; split <;> omega
theorem tapsF_sml (s : Shp) : ∀ xs : List Tap, 0 ≤ tapsF s xs ∧ tapsF s xs ≤ 99
 | [] => by unfold tapsF; omega
 | x :: xs => by have := tapsF_sml s xs; have := recsF_sml s x.recs; unfold tapsF; split <;> omega
theorem fault_sml (x : Wld) : 0 ≤ x.fault ∧ x.fault ≤ 99 := by
 have := tapsF_sml x.shape x.tapes
 unfold Wld.fault Wld.tapF
 repeat' split
 all_goals omega
theorem up_i64 (x : Wld) : i64ok x.up := by
 have := fault_sml x
 unfold Wld.up i64ok
 repeat' split
 all_goals omega
theorem cut_any (m : Nat) {u0 u1 u2 u3 u4 u5 u6 u7 u8 u9 u10 u11 u12 u13 u14 : Value} (w : World) (h : w.heap[m]? = some (.cells #[u0, u1, u2, u3, u4, u5, u6, u7, u8, u9, u10, u11, u12, u13, u14] 40 (0, 0))) :
  Calls Tryz.prog 80 #[.pointer (some ⟨m, 0, none⟩)] w fun e w' => e = .returned (.tuple #[]) ∧ w'.heap[m]? = some (.cells #[u0, u1, u2, u3, u4, u5, u6, u7, u8, u9, .slice none 0 0, u11, u12, u13, .bool true] 40 (0, 0)) ∧ Chg [m] w w' := by
 have cm := cellsOf h; have nm := ltOf h; have fm := freeOf h
 have HM := Lib.hid h
 clear h
 go_enter Tryz.func80, Tryz.ntmps80
 go_wp2_with fail
 refine bodyPost_end (v := .tuple #[]) (by simp [results, Tryz.results80, go_sem]) rfl ?_
 exact ⟨rfl, heap_set_lit (heap_set_lit HM.out rfl) rfl, ((Chg.refl _ w).setCell _ _ (.inl (by simp))).setCell _ _ (.inl (by simp))⟩
set_option maxRecDepth 100000 in
set_option maxHeartbeats 2000000 in
theorem upFault_any (x : Wld) (cx : Array Value) (fx : List Nat) (w : World) (hx : wldL.rep w cx.toList x fx) :
  Calls Tryz.prog 62 #[.agg cx] w fun e w' => e = .returned (.int .i64 x.up) ∧ Chg [] w w' := by
 obtain ⟨a10, l10, c10, _, a11, l11, c11, _, a12, l12, c12, _, ex, -⟩ := wldL_iff.1 hx
 obtain rfl := Array.toList_inj.1 (ex.trans (List.toList_toArray).symm)
 have HW := Lib.hid hx
 obtain ⟨q, hq⟩ : ∃ q, q = x.fault := ⟨_, rfl⟩
 have HQ := Lib.hid hq
 have G0 := Lib.hid (show Chg [] w (w.alloc (.cells #[.int .i64 x.shape.groups, .int .i64 x.shape.column, .int .i64 x.shape.data, .int .i64 x.shape.spare, .int .i64 x.shape.rows, .int .i64 x.shape.cap, .int .i64 x.shape.batch, .int .i64 x.shape.queue, .int .i64 x.shape.stage, .slice a10 l10 c10, .slice a11 l11 c11, .slice a12 l12 c12, .int .i64 x.writes, .int .i64 x.stop, .bool x.down] 40)) from (Chg.refl [] w).alloc _)
 have B0 := Lib.hid (new_alloc w (.cells #[.int .i64 x.shape.groups, .int .i64 x.shape.column, .int .i64 x.shape.data, .int .i64 x.shape.spare, .int .i64 x.shape.rows, .int .i64 x.shape.cap, .int .i64 x.shape.batch, .int .i64 x.shape.queue, .int .i64 x.shape.stage, .slice a10 l10 c10, .slice a11 l11 c11, .slice a12 l12 c12, .int .i64 x.writes, .int .i64 x.stop, .bool x.down] 40))
 clear hx ex hq
 go_enter Tryz.func62, Tryz.ntmps62
 go_wp2_with fail
 refine (impl_WorldFault x _ fx _ (wldL.ext HW.out G0.out)).mono ?_
 rintro e w1 ⟨rfl, hc⟩
 rw [← HQ.out]
 obtain ⟨c0, n0, A0⟩ := bk hc B0.out (by simp)
 have HC := Lib.hid (G0.out.trans0 hc)
 clear hc G0 B0
 by_cases hq0 : q = 0
 ·subst hq0
  cases hd : x.down
  ·have HU : x.up = 0 := by unfold Wld.up; rw [if_pos HQ.out.symm, if_neg (by rw [hd]; simp)]
   simp only [hd] at c0
   go_wp2_with fail
   go_ret
   exact ⟨by rw [HU]; rfl, HC.out⟩
  ·have HU : x.up = 9 := by unfold Wld.up; rw [if_pos HQ.out.symm, if_pos hd]
   simp only [hd] at c0
   go_wp2_with fail
   go_ret
   exact ⟨by rw [HU]; rfl, HC.out⟩
 ·have hb : ((q : Int) != 0) = true := by simpa using hq0
  have HU : x.up = q := by unfold Wld.up; rw [if_neg (by rw [← HQ.out]; exact hq0), HQ.out]
  go_wp2_with fail
  go_ret
  exact ⟨by rw [HU]; rfl, HC.out⟩
set_option maxRecDepth 100000 in
set_option maxHeartbeats 2000000 in
theorem l5Asked_any (x : Wld) (cx : Array Value) (fx : List Nat) (w : World) (hx : wldL.rep w cx.toList x fx) :
  Calls Tryz.prog 54 #[.agg cx] w fun e w' => e = .returned (.int .i64 x.up) ∧ Chg [] w w' := by
 obtain ⟨a10, l10, c10, _, a11, l11, c11, _, a12, l12, c12, _, ex, -⟩ := wldL_iff.1 hx
 obtain rfl := Array.toList_inj.1 (ex.trans (List.toList_toArray).symm)
 have HW := Lib.hid hx
 obtain ⟨q, hq⟩ : ∃ q, q = x.fault := ⟨_, rfl⟩
 have HQ := Lib.hid hq
 have G0 := Lib.hid (show Chg [] w (w.alloc (.cells #[.int .i64 x.shape.groups, .int .i64 x.shape.column, .int .i64 x.shape.data, .int .i64 x.shape.spare, .int .i64 x.shape.rows, .int .i64 x.shape.cap, .int .i64 x.shape.batch, .int .i64 x.shape.queue, .int .i64 x.shape.stage, .slice a10 l10 c10, .slice a11 l11 c11, .slice a12 l12 c12, .int .i64 x.writes, .int .i64 x.stop, .bool x.down] 40)) from (Chg.refl [] w).alloc _)
 have B0 := Lib.hid (new_alloc w (.cells #[.int .i64 x.shape.groups, .int .i64 x.shape.column, .int .i64 x.shape.data, .int .i64 x.shape.spare, .int .i64 x.shape.rows, .int .i64 x.shape.cap, .int .i64 x.shape.batch, .int .i64 x.shape.queue, .int .i64 x.shape.stage, .slice a10 l10 c10, .slice a11 l11 c11, .slice a12 l12 c12, .int .i64 x.writes, .int .i64 x.stop, .bool x.down] 40))
 clear hx ex hq
 go_enter Tryz.func54, Tryz.ntmps54
 go_wp2_with fail
 refine (spec_WorldFault x _ fx _ (wldL.ext HW.out G0.out)).mono ?_
 rintro e w1 ⟨rfl, hc⟩
 rw [← HQ.out]
 obtain ⟨c0, n0, A0⟩ := bk hc B0.out (by simp)
 have HC := Lib.hid (G0.out.trans0 hc)
 clear hc G0 B0
 by_cases hq0 : q = 0
 ·subst hq0
  cases hd : x.down
  ·have HU : x.up = 0 := by unfold Wld.up; rw [if_pos HQ.out.symm, if_neg (by rw [hd]; simp)]
   simp only [hd] at c0
   go_wp2_with fail
   go_ret
   exact ⟨by rw [HU]; rfl, HC.out⟩
  ·have HU : x.up = 9 := by unfold Wld.up; rw [if_pos HQ.out.symm, if_pos hd]
   simp only [hd] at c0
   go_wp2_with fail
   go_ret
   exact ⟨by rw [HU]; rfl, HC.out⟩
 ·have hb : ((q : Int) != 0) = true := by simpa using hq0
  have HU : x.up = q := by unfold Wld.up; rw [if_neg (by rw [← HQ.out]; exact hq0), HQ.out]
  go_wp2_with fail
  go_ret
  exact ⟨by rw [HU]; rfl, HC.out⟩
end Go.Proofs.YtnnhopcjlnnchaaGreat

/- Numbers that are in range, groups that are on: both sides. -/
namespace Go.Proofs.YtnnhopcjlnnchaaGreat
open Go.RowKit

end Go.Proofs.YtnnhopcjlnnchaaGreat

/- Copies: a world, and what append wants to know of the records of its tapes: the program. -/
namespace Go.Proofs.YtnnhopcjlnnchaaGreat
open Go.RowKit

def NewTp (x : Wld) (w : World) (e : Ending) (w' : World) : Prop :=
 ∃ (p10 : Option Addr) (m10 d10 : Nat) (g10 : List Nat) (p11 : Option Addr) (m11 d11 : Nat) (g11 : List Nat) (p12 : Option Addr) (m12 d12 : Nat) (g12 : List Nat),
  e = .returned (.agg #[.int .i64 x.shape.groups, .int .i64 x.shape.column, .int .i64 x.shape.data, .int .i64 x.shape.spare, .int .i64 x.shape.rows, .int .i64 x.shape.cap, .int .i64 x.shape.batch, .int .i64 x.shape.queue, .int .i64 x.shape.stage, .slice p10 m10 d10, .slice p11 m11 d11, .slice p12 m12 d12, .int .i64 x.writes, .int .i64 x.stop, .bool x.down]) ∧
  (i64ok x.shape.groups ∧ i64ok x.shape.column ∧ i64ok x.shape.data ∧ i64ok x.shape.spare ∧ i64ok x.shape.rows ∧ i64ok x.shape.cap ∧ i64ok x.shape.batch ∧ i64ok x.shape.queue ∧ i64ok x.shape.stage ∧ i64ok x.writes ∧ i64ok x.stop) ∧
  drvL.slice.sl w' p10 m10 d10 x.groups g10 ∧ intL.sl w' p11 m11 d11 x.on g11 ∧ tapO.sl w' p12 m12 d12 x.tapes g12 ∧ Fresh w.heap.size w' (g10 ++ (g11 ++ (g12 ++ []))) ∧ Chg [] w w'
set_option maxRecDepth 100000 in
set_option maxHeartbeats 2000000 in
theorem cloneRecs_gr (a : Option Addr) (la ca : Nat) (xs : List Rec) (f : List Nat) (w : World) (ha : recL.sl w a la ca xs f) (hz : totL totRec xs ≤ 1048576) :
  Calls Tryz.prog 128 #[.slice a la ca] w fun e w' => ∃ v, e = .returned v ∧ Grow recL 68 w w' v xs := by
 obtain ⟨K, _⟩ := kindRec
 have hlz : la ≤ 1048576 := by have := totL_len totRec_nonneg xs; rw [ha.1]; omega
 have HL := Lib.hid ha.1
 have HA := Lib.hid ha
 have HZ := Lib.hid (fun x hx => Int.le_trans (totL_mem totRec_nonneg hx) hz : ∀ x ∈ xs, totRec x ≤ 1048576)
 clear ha hz
 go_enter Tryz.func128, Tryz.ntmps128
 go_wp2_with fail
 go_loopw [3, 9] (fun vo vi wr => ∃ (k : Nat) (Wr : World), Wr = wr ∧ k ≤ la ∧ vi = .int .i64 k ∧ Grow recL 68 w wr vo (xs.take k)) (fun _ vi _ => la - (intOf vi).toNat)
 case atStart => exact ⟨0, _, rfl, by omega, rfl, by rw [List.take_zero]; exact Grow.made (Chg.refl _ _)⟩
 case round =>
  obtain ⟨k, wr, rfl, hk, rfl, hg⟩ := hrel
  by_cases hlt : k < la
  ·obtain ⟨x, b, off, a6, l6, c6, a7, l7, c7, a8, l8, c8, fq, HX, rfl, hq0, hq1, hq2, hq3, hq4, hq5, hq6, hq7, hq8, HXS⟩ := rec_at (recL.sl_ext HA.out hg.chg) hlt
   have HG := Lib.hid hg
   have HXI := Lib.hid HX.out.1
   have HXZ := Lib.hid (HZ.out x (List.mem_of_getElem? HX.out.1))
   clear hg HX
   go_wp2_with fail
   refine (cloneRec_any x #[.int .i64 x.kind, .int .i64 x.seq, .string x.name, .int .i64 x.length, .int .i64 x.group, .int .i64 x.row, .slice a6 l6 c6, .slice a7 l7 c7, .slice a8 l8 c8] fq _ (recL.ext HXS.out ((Chg.refl [] wr).alloc (.cells #[.int .i64 x.kind, .int .i64 x.seq, .string x.name, .int .i64 x.length, .int .i64 x.group, .int .i64 x.row, .slice a6 l6 c6, .slice a7 l7 c7, .slice a8 l8 c8] 68))) HXZ.out).mono ?_
   rintro e w1 ⟨cs, f1, rfl, hr, hf, hc⟩
   obtain ⟨p6, m6, d6, _, p7, m7, d7, _, p8, m8, d8, _, ex, -⟩ := recL_iff.1 hr
   obtain rfl := Array.toList_inj.1 (ex.trans (List.toList_toArray).symm)
   have HN1 := Lib.hid (And.intro hr (And.intro (hf.mono (C := wr.heap.size) (by simp)) (((Chg.refl [] wr).alloc (.cells #[.int .i64 x.kind, .int .i64 x.seq, .string x.name, .int .i64 x.length, .int .i64 x.group, .int .i64 x.row, .slice a6 l6 c6, .slice a7 l7 c7, .slice a8 l8 c8] 68)).trans0 hc)))
   have HLL : RowKit.Hid ((xs.take k).length + [x].length ≤ maxLen ∧ ((xs.take k).length + [x].length) * 128 ≤ 140737488355328) := by
    refine ⟨?_, ?_⟩ <;> simp only [List.length_take, List.length_cons, List.length_nil, maxLen] <;> omega
   have HNX := Lib.hid (take_next HXI.out)
   clear ex hr hf hc hq0 hq1 hq2 hq3 hq4 hq5 hq6 hq7 hq8 HXS
   go_wp2_with (at_builtin; refine recL.wpList_grow rfl _ _ 98 rfl Tryz.underlying98 K rfl HG.out (HN1.out.2.2.alloc (.cells #[.int .i64 x.kind, .int .i64 x.seq, .string x.name, .int .i64 x.length, .int .i64 x.group, .int .i64 x.row, .slice p6 m6 d6, .slice p7 m7 d7, .slice p8 m8 d8] 68)) ⟨w1.heap.size, 0, none⟩ 1 1 [.int .i64 x.kind, .int .i64 x.seq, .string x.name, .int .i64 x.length, .int .i64 x.group, .int .i64 x.row, .slice p6 m6 d6, .slice p7 m7 d7, .slice p8 m8 d8] (ys := [x]) (f := f1) rfl rfl (new_cells w1 #[.int .i64 x.kind, .int .i64 x.seq, .string x.name, .int .i64 x.length, .int .i64 x.group, .int .i64 x.row, .slice p6 m6 d6, .slice p7 m7 d7, .slice p8 m8 d8] 68) (recL.all_single (recL.ext HN1.out.1 ((Chg.refl [] w1).alloc _))) (HN1.out.2.1.chg ((Chg.refl [] w1).alloc (.cells #[.int .i64 x.kind, .int .i64 x.seq, .string x.name, .int .i64 x.length, .int .i64 x.group, .int .i64 x.row, .slice p6 m6 d6, .slice p7 m7 d7, .slice p8 m8 d8] 68))) HLL.out.1 HLL.out.2 ?_; intro v' w' hg'; rw [← HNX.out] at hg'; have HG2 := Lib.hid hg'; clear hg')
   go_roundw
   case rel => exact ⟨k + 1, _, rfl, by omega, by go_num, HG2.out⟩
   case measure => simp [intOf]; omega
  ·obtain rfl : k = la := by omega
   rw [List.take_of_length_le (by have := HL.out; omega)] at hg
   obtain ⟨a', c', f', h1, h2, h3, h4⟩ := hg.sl
   subst h1
   have HN := Lib.hid (show ∃ v, Ending.returned (.slice a' xs.length c') = .returned v ∧ Grow recL 68 w wr v xs from ⟨_, rfl, hg⟩)
   generalize xs.length = n at HN ⊢
   clear h2 h3 h4 hg
   go_wp2_with fail
   go_ret
   exact HN.out

set_option maxRecDepth 100000 in
set_option maxHeartbeats 4000000 in
theorem cloneWorld_tp (x : Wld) (cx : Array Value) (fx : List Nat) (w : World) (hx : wldL.rep w cx.toList x fx) (hz : totWld x ≤ 1048576) :
  Calls Tryz.prog 79 #[.agg cx] w (NewTp x w) := by
 obtain ⟨KD, _⟩ := kindDrive
 obtain ⟨KS, _⟩ := kindDS
 obtain ⟨KT, _⟩ := kindTape
 obtain ⟨a10, l10, c10, f10, a11, l11, c11, f11, a12, l12, c12, f12, ex, o1, o2, o3, o4, o5, o6, o7, o8, o9, h10, h11, h12, o13, o14, -⟩ := wldL_iff.1 hx
 obtain rfl := Array.toList_inj.1 (ex.trans (List.toList_toArray).symm)
 have q10 := totL_nonneg (totL_nonneg totDrv_nonneg) x.groups; have q11 := totIs_nonneg x.on; have q12 := totL_nonneg totTap_nonneg x.tapes
 unfold totWld at hz
 have z10 : totL (totL totDrv) x.groups ≤ 1048576 := by omega
 have z12 : totL totTap x.tapes ≤ 1048576 := by omega
 have hl10 : l10 ≤ 1048576 := by have := totL_len (totL_nonneg totDrv_nonneg) x.groups; rw [h10.1]; omega
 have hl11 : l11 ≤ 1048576 := by rw [h11.1]; unfold totIs at hz q11; omega
 have hl12 : l12 ≤ 1048576 := by have := totL_len totTap_nonneg x.tapes; rw [h12.1]; omega
 have L10 := Lib.hid h10.1; have L11 := Lib.hid h11.1; have L12 := Lib.hid h12.1
 have H10 := Lib.hid h10; have H11 := Lib.hid h11; have H12 := Lib.hid h12
 have HO := Lib.hid (And.intro o1 (And.intro o2 (And.intro o3 (And.intro o4 (And.intro o5 (And.intro o6 (And.intro o7 (And.intro o8 (And.intro o9 (And.intro o13 o14))))))))))
 have Z10 := Lib.hid (fun g hg => Int.le_trans (totL_mem (totL_nonneg totDrv_nonneg) hg) z10 : ∀ g ∈ x.groups, totL totDrv g ≤ 1048576)
 have Z12 := Lib.hid (fun t ht => Int.le_trans (totL_mem totTap_nonneg ht) z12 : ∀ t ∈ x.tapes, totTap t ≤ 1048576)
 clear hx ex hz q10 q11 q12 z10 z12 h10 h11 h12 o1 o2 o3 o4 o5 o6 o7 o8 o9 o13 o14
 have G0 := Lib.hid (show Chg [] w (((w.alloc (.cells #[.int .i64 x.shape.groups, .int .i64 x.shape.column, .int .i64 x.shape.data, .int .i64 x.shape.spare, .int .i64 x.shape.rows, .int .i64 x.shape.cap, .int .i64 x.shape.batch, .int .i64 x.shape.queue, .int .i64 x.shape.stage, .slice a10 l10 c10, .slice a11 l11 c11, .slice a12 l12 c12, .int .i64 x.writes, .int .i64 x.stop, .bool x.down] 40)).alloc (.cells #[.int .i64 0, .int .i64 0, .int .i64 0, .int .i64 0, .int .i64 0, .int .i64 0, .int .i64 0, .int .i64 0, .int .i64 0, .slice none 0 0, .slice none 0 0, .slice none 0 0, .int .i64 0, .int .i64 0, .bool false] 40)).alloc (.cells #[.int .i64 x.shape.groups, .int .i64 x.shape.column, .int .i64 x.shape.data, .int .i64 x.shape.spare, .int .i64 x.shape.rows, .int .i64 x.shape.cap, .int .i64 x.shape.batch, .int .i64 x.shape.queue, .int .i64 x.shape.stage, .slice a10 l10 c10, .slice a11 l11 c11, .slice a12 l12 c12, .int .i64 x.writes, .int .i64 x.stop, .bool x.down] 40)) from ((((Chg.refl [] w).alloc _).alloc _).alloc _))
 have B1 := Lib.hid (show (((w.alloc (.cells #[.int .i64 x.shape.groups, .int .i64 x.shape.column, .int .i64 x.shape.data, .int .i64 x.shape.spare, .int .i64 x.shape.rows, .int .i64 x.shape.cap, .int .i64 x.shape.batch, .int .i64 x.shape.queue, .int .i64 x.shape.stage, .slice a10 l10 c10, .slice a11 l11 c11, .slice a12 l12 c12, .int .i64 x.writes, .int .i64 x.stop, .bool x.down] 40)).alloc (.cells #[.int .i64 0, .int .i64 0, .int .i64 0, .int .i64 0, .int .i64 0, .int .i64 0, .int .i64 0, .int .i64 0, .int .i64 0, .slice none 0 0, .slice none 0 0, .slice none 0 0, .int .i64 0, .int .i64 0, .bool false] 40)).alloc (.cells #[.int .i64 x.shape.groups, .int .i64 x.shape.column, .int .i64 x.shape.data, .int .i64 x.shape.spare, .int .i64 x.shape.rows, .int .i64 x.shape.cap, .int .i64 x.shape.batch, .int .i64 x.shape.queue, .int .i64 x.shape.stage, .slice a10 l10 c10, .slice a11 l11 c11, .slice a12 l12 c12, .int .i64 x.writes, .int .i64 x.stop, .bool x.down] 40)).heap[w.heap.size]? = some (.cells #[.int .i64 x.shape.groups, .int .i64 x.shape.column, .int .i64 x.shape.data, .int .i64 x.shape.spare, .int .i64 x.shape.rows, .int .i64 x.shape.cap, .int .i64 x.shape.batch, .int .i64 x.shape.queue, .int .i64 x.shape.stage, .slice a10 l10 c10, .slice a11 l11 c11, .slice a12 l12 c12, .int .i64 x.writes, .int .i64 x.stop, .bool x.down] 40 (0, 0)) from keep_alloc (keep_alloc (new_alloc w _) _) _)
 have B2 := Lib.hid (show (((w.alloc (.cells #[.int .i64 x.shape.groups, .int .i64 x.shape.column, .int .i64 x.shape.data, .int .i64 x.shape.spare, .int .i64 x.shape.rows, .int .i64 x.shape.cap, .int .i64 x.shape.batch, .int .i64 x.shape.queue, .int .i64 x.shape.stage, .slice a10 l10 c10, .slice a11 l11 c11, .slice a12 l12 c12, .int .i64 x.writes, .int .i64 x.stop, .bool x.down] 40)).alloc (.cells #[.int .i64 0, .int .i64 0, .int .i64 0, .int .i64 0, .int .i64 0, .int .i64 0, .int .i64 0, .int .i64 0, .int .i64 0, .slice none 0 0, .slice none 0 0, .slice none 0 0, .int .i64 0, .int .i64 0, .bool false] 40)).alloc (.cells #[.int .i64 x.shape.groups, .int .i64 x.shape.column, .int .i64 x.shape.data, .int .i64 x.shape.spare, .int .i64 x.shape.rows, .int .i64 x.shape.cap, .int .i64 x.shape.batch, .int .i64 x.shape.queue, .int .i64 x.shape.stage, .slice a10 l10 c10, .slice a11 l11 c11, .slice a12 l12 c12, .int .i64 x.writes, .int .i64 x.stop, .bool x.down] 40)).heap[w.heap.size + 1]? = some (.cells #[.int .i64 0, .int .i64 0, .int .i64 0, .int .i64 0, .int .i64 0, .int .i64 0, .int .i64 0, .int .i64 0, .int .i64 0, .slice none 0 0, .slice none 0 0, .slice none 0 0, .int .i64 0, .int .i64 0, .bool false] 40 (0, 0)) from keep_alloc (new_at (by simp) _) _)
 have B3 := Lib.hid (show (((w.alloc (.cells #[.int .i64 x.shape.groups, .int .i64 x.shape.column, .int .i64 x.shape.data, .int .i64 x.shape.spare, .int .i64 x.shape.rows, .int .i64 x.shape.cap, .int .i64 x.shape.batch, .int .i64 x.shape.queue, .int .i64 x.shape.stage, .slice a10 l10 c10, .slice a11 l11 c11, .slice a12 l12 c12, .int .i64 x.writes, .int .i64 x.stop, .bool x.down] 40)).alloc (.cells #[.int .i64 0, .int .i64 0, .int .i64 0, .int .i64 0, .int .i64 0, .int .i64 0, .int .i64 0, .int .i64 0, .int .i64 0, .slice none 0 0, .slice none 0 0, .slice none 0 0, .int .i64 0, .int .i64 0, .bool false] 40)).alloc (.cells #[.int .i64 x.shape.groups, .int .i64 x.shape.column, .int .i64 x.shape.data, .int .i64 x.shape.spare, .int .i64 x.shape.rows, .int .i64 x.shape.cap, .int .i64 x.shape.batch, .int .i64 x.shape.queue, .int .i64 x.shape.stage, .slice a10 l10 c10, .slice a11 l11 c11, .slice a12 l12 c12, .int .i64 x.writes, .int .i64 x.stop, .bool x.down] 40)).heap[w.heap.size + 2]? = some (.cells #[.int .i64 x.shape.groups, .int .i64 x.shape.column, .int .i64 x.shape.data, .int .i64 x.shape.spare, .int .i64 x.shape.rows, .int .i64 x.shape.cap, .int .i64 x.shape.batch, .int .i64 x.shape.queue, .int .i64 x.shape.stage, .slice a10 l10 c10, .slice a11 l11 c11, .slice a12 l12 c12, .int .i64 x.writes, .int .i64 x.stop, .bool x.down] 40 (0, 0)) from new_at (by simp) _)
 have S0 := Lib.hid (show w.heap.size + 3 ≤ (((w.alloc (.cells #[.int .i64 x.shape.groups, .int .i64 x.shape.column, .int .i64 x.shape.data, .int .i64 x.shape.spare, .int .i64 x.shape.rows, .int .i64 x.shape.cap, .int .i64 x.shape.batch, .int .i64 x.shape.queue, .int .i64 x.shape.stage, .slice a10 l10 c10, .slice a11 l11 c11, .slice a12 l12 c12, .int .i64 x.writes, .int .i64 x.stop, .bool x.down] 40)).alloc (.cells #[.int .i64 0, .int .i64 0, .int .i64 0, .int .i64 0, .int .i64 0, .int .i64 0, .int .i64 0, .int .i64 0, .int .i64 0, .slice none 0 0, .slice none 0 0, .slice none 0 0, .int .i64 0, .int .i64 0, .bool false] 40)).alloc (.cells #[.int .i64 x.shape.groups, .int .i64 x.shape.column, .int .i64 x.shape.data, .int .i64 x.shape.spare, .int .i64 x.shape.rows, .int .i64 x.shape.cap, .int .i64 x.shape.batch, .int .i64 x.shape.queue, .int .i64 x.shape.stage, .slice a10 l10 c10, .slice a11 l11 c11, .slice a12 l12 c12, .int .i64 x.writes, .int .i64 x.stop, .bool x.down] 40)).heap.size from ltOf B3.out)
 go_enter Tryz.func79, Tryz.ntmps79
 go_wp2_with fail
 refine (cpyI_any a11 l11 c11 x.on f11 _ (intL.sl_ext H11.out G0.out) (by omega)).mono ?_
 rintro e w1 ⟨p11, d11, g11, rfl, hs, hf, hc⟩
 rw [← L11.out] at hs ⊢
 obtain ⟨e1, n1, A1⟩ := bk hc B1.out (by simp); obtain ⟨e2, n2, A2⟩ := bk hc B2.out (by simp); obtain ⟨e3, n3, A3⟩ := bk hc B3.out (by simp)
 have fz := freeOf A3.out
 have G1 := Lib.hid (G0.out.trans0 hc)
 have HON := Lib.hid (And.intro hs (hf.mono (C := w.heap.size + 3) S0.out))
 clear hs hf hc B1 B2 B3 G0 S0
 go_wp2_with fail
 go_loopw [21] (fun vi wr => ∃ (k : Nat) (v : Value) (Wr : World), Wr = wr ∧ k ≤ l10 ∧ vi = .int .i64 k ∧ GrowC drvL.slice 82 w1.heap.size wr v (x.groups.take k) ∧ wr.heap[w.heap.size + 2]? = some (.cells #[.int .i64 x.shape.groups, .int .i64 x.shape.column, .int .i64 x.shape.data, .int .i64 x.shape.spare, .int .i64 x.shape.rows, .int .i64 x.shape.cap, .int .i64 x.shape.batch, .int .i64 x.shape.queue, .int .i64 x.shape.stage, v, .slice p11 l11 d11, .slice none 0 0, .int .i64 x.writes, .int .i64 x.stop, .bool x.down] 40 (0, 0)) ∧ Chg [w.heap.size + 2] w1 wr) (fun vi _ => l10 - (intOf vi).toNat)
 case atStart => exact ⟨0, .slice none 0 0, _, rfl, by omega, rfl, by rw [List.take_zero]; exact GrowC.nil (by simp), heap_set_lit (cur := #[.int .i64 x.shape.groups, .int .i64 x.shape.column, .int .i64 x.shape.data, .int .i64 x.shape.spare, .int .i64 x.shape.rows, .int .i64 x.shape.cap, .int .i64 x.shape.batch, .int .i64 x.shape.queue, .int .i64 x.shape.stage, .slice none 0 0, .slice p11 l11 d11, .slice a12 l12 c12, .int .i64 x.writes, .int .i64 x.stop, .bool x.down]) (heap_set_lit (cur := #[.int .i64 x.shape.groups, .int .i64 x.shape.column, .int .i64 x.shape.data, .int .i64 x.shape.spare, .int .i64 x.shape.rows, .int .i64 x.shape.cap, .int .i64 x.shape.batch, .int .i64 x.shape.queue, .int .i64 x.shape.stage, .slice none 0 0, .slice a11 l11 c11, .slice a12 l12 c12, .int .i64 x.writes, .int .i64 x.stop, .bool x.down]) (heap_set_lit (cur := #[.int .i64 x.shape.groups, .int .i64 x.shape.column, .int .i64 x.shape.data, .int .i64 x.shape.spare, .int .i64 x.shape.rows, .int .i64 x.shape.cap, .int .i64 x.shape.batch, .int .i64 x.shape.queue, .int .i64 x.shape.stage, .slice a10 l10 c10, .slice a11 l11 c11, .slice a12 l12 c12, .int .i64 x.writes, .int .i64 x.stop, .bool x.down]) A3.out rfl) rfl) rfl, (((Chg.refl _ _).setCell _ _ (.inl (by simp))).setCell _ _ (.inl (by simp))).setCell _ _ (.inl (by simp))⟩
 case round =>
  obtain ⟨k, v, wr, rfl, hk, rfl, hg, hb3, hc⟩ := hrel
  have hcw : Chg [] w wr := G1.out.trans hc (by simp)
  have D1 := Lib.hid (hc.keepb A1.out (by simp)); have D2 := Lib.hid (hc.keepb A2.out (by simp)); have D3 := Lib.hid hb3
  by_cases hlt : k < l10
  ·obtain ⟨g, b, off, ag, lg, cg, fg, HX, rfl, hcx, HXS⟩ := slc_at (drvL.slice.sl_ext H10.out hcw) hlt
   have HG := Lib.hid hg; have HC := Lib.hid hc; have HCW := Lib.hid hcw
   have HXI := Lib.hid HX.out.1
   have HXZ := Lib.hid (Z10.out g (List.mem_of_getElem? HX.out.1))
   have hlg : lg ≤ 1048576 := by have := totL_len totDrv_nonneg g; have := HXZ.out; rw [HXS.out.1]; omega
   have LG := Lib.hid HXS.out.1
   clear hg hc hcw HX hb3
   go_wp2_with fail
   go_loopw [6, 28] (fun vo vi wi => ∃ (j : Nat) (Wi : World), Wi = wi ∧ j ≤ lg ∧ vi = .int .i64 j ∧ Grow drvL 81 wr wi vo (g.take j)) (fun _ vi _ => lg - (intOf vi).toNat)
   case atStart => exact ⟨0, _, rfl, by omega, rfl, by rw [List.take_zero]; exact Grow.made (Chg.refl _ _)⟩
   case round =>
    obtain ⟨j, wi, rfl, hj, rfl, hgi⟩ := hrel
    by_cases hlj : j < lg
    ·obtain ⟨y, b2, off2, a2, l2, c2, f2, HY, rfl, hy0, hy1, HYS⟩ := drive_at (drvL.sl_ext HXS.out hgi.chg) hlj
     have HGI := Lib.hid hgi
     have HYI := Lib.hid HY.out.1
     have HYZ := Lib.hid (Int.le_trans (totL_mem totDrv_nonneg (List.mem_of_getElem? HY.out.1)) HXZ.out)
     clear hgi HY
     go_wp2_with fail
     refine (cloneDrive_any y #[.bool y.wiped, .slice a2 l2 c2] f2 _ (drvL.ext HYS.out ((Chg.refl [] wi).alloc (.cells #[.bool y.wiped, .slice a2 l2 c2] 81))) HYZ.out).mono ?_
     rintro e w2 ⟨cs, f1, rfl, hr, hf, hc⟩
     obtain ⟨p2, m2, d2, _, ex, -⟩ := drvL_iff.1 hr
     obtain rfl := Array.toList_inj.1 (ex.trans (List.toList_toArray).symm)
     have HN1 := Lib.hid (And.intro hr (And.intro (hf.mono (C := wi.heap.size) (by simp)) (((Chg.refl [] wi).alloc (.cells #[.bool y.wiped, .slice a2 l2 c2] 81)).trans0 hc)))
     have HLL : RowKit.Hid ((g.take j).length + [y].length ≤ maxLen ∧ ((g.take j).length + [y].length) * 32 ≤ 140737488355328) := by
      refine ⟨?_, ?_⟩ <;> simp only [List.length_take, List.length_cons, List.length_nil, maxLen] <;> omega
     have HNX := Lib.hid (take_next HYI.out)
     clear ex hr hf hc hy0 hy1 HYS
     go_wp2_with (at_builtin; refine drvL.wpList_grow rfl _ _ 82 rfl Tryz.underlying82 KD rfl HGI.out (HN1.out.2.2.alloc (.cells #[.bool y.wiped, .slice p2 m2 d2] 81)) ⟨w2.heap.size, 0, none⟩ 1 1 [.bool y.wiped, .slice p2 m2 d2] (ys := [y]) (f := f1) rfl rfl (new_cells w2 #[.bool y.wiped, .slice p2 m2 d2] 81) (drvL.all_single (drvL.ext HN1.out.1 ((Chg.refl [] w2).alloc _))) (HN1.out.2.1.chg ((Chg.refl [] w2).alloc (.cells #[.bool y.wiped, .slice p2 m2 d2] 81))) HLL.out.1 HLL.out.2 ?_; intro v' w' hg'; rw [← HNX.out] at hg'; have HG2 := Lib.hid hg'; clear hg')
     go_roundw
     case rel => exact ⟨j + 1, _, rfl, by omega, by go_num, HG2.out⟩
     case measure => simp [intOf]; omega
    ·obtain rfl : j = lg := by omega
     rw [List.take_of_length_le (by have := LG.out; omega)] at hgi
     obtain ⟨p9, c9, f9, h1, hs9, hf9, hc9⟩ := hgi.sl
     subst h1
     have HN9 := Lib.hid (And.intro hs9 (And.intro hf9 hc9))
     rw [← LG.out] at HN9 ⊢
     have E3 := Lib.hid (hc9.keep0 D3.out); have e3 := cellsOf E3.out; have n3' := ltOf E3.out
     have HLL : RowKit.Hid ((x.groups.take k).length + [g].length ≤ maxLen ∧ ((x.groups.take k).length + [g].length) * 24 ≤ 140737488355328) := by
      refine ⟨?_, ?_⟩ <;> simp only [List.length_take, List.length_cons, List.length_nil, maxLen] <;> omega
     have HNX := Lib.hid (take_next HXI.out)
     clear hs9 hf9 hc9 hgi
     go_wp2_with (at_builtin; refine GrowB.wpList rfl _ _ 37 rfl Tryz.underlying37 KS rfl (HG.out.b.ext (HN9.out.2.2.alloc (.cells #[.slice p9 j c9] 82))) ⟨wi.heap.size, 0, none⟩ 1 1 [.slice p9 j c9] (ys := [g]) (f := f9) rfl rfl (new_cells wi #[.slice p9 j c9] 82) (drvL.slice.all_single ⟨p9, j, c9, rfl, drvL.sl_ext HN9.out.1 ((Chg.refl [] wi).alloc _)⟩) (HN9.out.2.1.chg ((Chg.refl [] wi).alloc (.cells #[.slice p9 j c9] 82))) HLL.out.1 HLL.out.2 ?_; intro v' w3 hg' hup; rw [← HNX.out] at hg'; obtain ⟨pv, lv, cv, rfl⟩ : ∃ a l c, v' = Value.slice a l c := (by obtain ⟨a, c, f, h, -⟩ := hg'.sl; exact ⟨a, _, c, h⟩); have HG2 := Lib.hid hg'; have HU := Lib.hid hup; have E4 := Lib.hid ((hup.low (w.heap.size + 2) n3).trans (keep_alloc E3.out _)); have e4 := cellsOf E4.out; have n4 := ltOf E4.out; have z4 := freeOf E4.out; clear hg' hup)
     have r1 := HG2.out.chg ((Chg.refl [w.heap.size + 2] w3).setCell ⟨w.heap.size + 2, 9, none⟩ (.slice pv lv cv) (.inl (by simp))) (by simp; omega)
     have r3 : (w3.setCell ⟨w.heap.size + 2, 9, none⟩ (.slice pv lv cv)).heap[w.heap.size + 2]? = some (.cells #[.int .i64 x.shape.groups, .int .i64 x.shape.column, .int .i64 x.shape.data, .int .i64 x.shape.spare, .int .i64 x.shape.rows, .int .i64 x.shape.cap, .int .i64 x.shape.batch, .int .i64 x.shape.queue, .int .i64 x.shape.stage, .slice pv lv cv, .slice p11 l11 d11, .slice none 0 0, .int .i64 x.writes, .int .i64 x.stop, .bool x.down] 40 (0, 0)) := heap_set_lit (cur := #[.int .i64 x.shape.groups, .int .i64 x.shape.column, .int .i64 x.shape.data, .int .i64 x.shape.spare, .int .i64 x.shape.rows, .int .i64 x.shape.cap, .int .i64 x.shape.batch, .int .i64 x.shape.queue, .int .i64 x.shape.stage, v, .slice p11 l11 d11, .slice none 0 0, .int .i64 x.writes, .int .i64 x.stop, .bool x.down]) E4.out rfl
     have r4 := (HU.out.chg (HC.out.trans0 (HN9.out.2.2.alloc (.cells #[.slice p9 j c9] 82))) (Nat.le_refl _)).setCell ⟨w.heap.size + 2, 9, none⟩ (.slice pv lv cv) (.inl (by simp))
     have HR := Lib.hid (And.intro r1 (And.intro r3 r4))
     clear r1 r3 r4
     go_roundw
     case rel => exact ⟨k + 1, .slice pv lv cv, _, rfl, by omega, by go_num, HR.out.1, HR.out.2.1, HR.out.2.2⟩
     case measure => simp [intOf]; omega
  ·obtain rfl : k = l10 := by omega
   rw [List.take_of_length_le (by have := L10.out; omega)] at hg
   obtain ⟨p10, d10, g10, rfl, hs, hf⟩ := hg.sl
   rw [← L10.out] at hs D3
   have HGR := Lib.hid (And.intro hs (And.intro hf hc))
   have e1 := cellsOf D1.out; have m1 := ltOf D1.out
   clear hg hs hf hb3 hc
   go_wp2_with fail
   go_loopw [48] (fun vi wt => ∃ (i : Nat) (v : Value) (Wt : World), Wt = wt ∧ i ≤ l12 ∧ vi = .int .i64 i ∧ GrowC tapO 100 wr.heap.size wt v (x.tapes.take i) ∧ wt.heap[w.heap.size + 2]? = some (.cells #[.int .i64 x.shape.groups, .int .i64 x.shape.column, .int .i64 x.shape.data, .int .i64 x.shape.spare, .int .i64 x.shape.rows, .int .i64 x.shape.cap, .int .i64 x.shape.batch, .int .i64 x.shape.queue, .int .i64 x.shape.stage, .slice p10 k d10, .slice p11 l11 d11, v, .int .i64 x.writes, .int .i64 x.stop, .bool x.down] 40 (0, 0)) ∧ Chg [w.heap.size + 2] wr wt) (fun vi _ => l12 - (intOf vi).toNat)
   case atStart => exact ⟨0, .slice none 0 0, _, rfl, by omega, rfl, by rw [List.take_zero]; exact GrowC.nil (Nat.le_refl _), D3.out, Chg.refl _ _⟩
   case round =>
    obtain ⟨i, v, wt, rfl, hi, rfl, hg, hb3, hc⟩ := hrel
    have hcw2 : Chg [] w wt := hcw.trans hc (by simp)
    have E1 := Lib.hid (hc.keepb D1.out (by simp)); have E2 := Lib.hid (hc.keepb D2.out (by simp)); have E3 := Lib.hid hb3
    have m3 : w.heap.size + 2 < wr.heap.size := ltOf D3.out
    by_cases hlt : i < l12
    ·obtain ⟨y, b, off, a2, l2, c2, f2, HY, rfl, hy0, hy1, HYS⟩ := tape_at (tapL.sl_ext H12.out hcw2) hlt
     have HG := Lib.hid hg; have HC := Lib.hid hc
     have HYI := Lib.hid HY.out.1
     obtain ⟨_, _, _, _, exb, hby, -⟩ := tapL_iff.1 HYS.out
     obtain ⟨q1, q2, q3⟩ := Value.slice.inj (List.cons.inj (List.cons.inj exb).2).1
     subst q1 q2 q3
     have HYZ := Lib.hid (Z12.out y (List.mem_of_getElem? HYI.out) : totL totRec y.recs ≤ 1048576)
     have HBY := Lib.hid hby
     have LB := Lib.hid hby.1.symm
     have e3 := cellsOf E3.out; have n3' := ltOf E3.out
     clear hg hb3 hc HY exb hby HYS hcw2
     go_wp2_with fail
     have F1 := Lib.hid (show (wt.alloc (.cells #[.bool y.wiped, .slice a2 l2 c2] 100)).drew.heap[w.heap.size + 2]? = some (.cells #[.int .i64 x.shape.groups, .int .i64 x.shape.column, .int .i64 x.shape.data, .int .i64 x.shape.spare, .int .i64 x.shape.rows, .int .i64 x.shape.cap, .int .i64 x.shape.batch, .int .i64 x.shape.queue, .int .i64 x.shape.stage, .slice p10 k d10, .slice p11 l11 d11, v, .int .i64 x.writes, .int .i64 x.stop, .bool x.down] 40 (0, 0)) from keep_drew (keep_alloc E3.out _))
     have F2 := Lib.hid (show (wt.alloc (.cells #[.bool y.wiped, .slice a2 l2 c2] 100)).drew.heap[wt.heap.size]? = some (.cells #[.bool y.wiped, .slice a2 l2 c2] 100 (0, 0)) from keep_drew (new_alloc wt _))
     have G0 := Lib.hid (((Chg.refl [] wt).alloc (.cells #[.bool y.wiped, .slice a2 l2 c2] 100)).drew)
     have HCW2 := Lib.hid (hcw.trans HC.out (by simp) : Chg [] w wt)
     have HLL : RowKit.Hid ((x.tapes.take i).length + [y].length ≤ maxLen ∧ ((x.tapes.take i).length + [y].length) * 32 ≤ 140737488355328) := by
      refine ⟨?_, ?_⟩ <;> simp only [List.length_take, List.length_cons, List.length_nil, maxLen] <;> omega
     have HNX := Lib.hid (take_next HYI.out)
     obtain ⟨CC, HCI, HCO⟩ := rg_cond (fun w' => Know (w.heap.size + 2) #[.int .i64 x.shape.groups, .int .i64 x.shape.column, .int .i64 x.shape.data, .int .i64 x.shape.spare, .int .i64 x.shape.rows, .int .i64 x.shape.cap, .int .i64 x.shape.batch, .int .i64 x.shape.queue, .int .i64 x.shape.stage, .slice p10 k d10, .slice p11 l11 d11, v, .int .i64 x.writes, .int .i64 x.stop, .bool x.down] w' ∧ Know wt.heap.size #[.bool y.wiped, .slice a2 l2 c2] w')
     refine gg_start [9] CC (by kernel_rfl) (HCI.out _ ⟨(Know.of F1.out), (Know.of F2.out)⟩) (fun hcl hS => ?_)
     refine ggT 0 hcl hS ?_; clear hcl hS; intro hcl hS
     refine ggL 1 hcl hS HCO ?_; clear hcl hS; intro hcl hS
     refine ggT 2 hcl hS ?_; clear hcl hS; intro hcl hS
     refine ggL 3 hcl hS HCO ?_; clear hcl hS; intro hcl hS
     refine ggT 4 hcl hS ?_; clear hcl hS; intro hcl hS
     refine ggL 5 hcl hS HCO ?_; clear hcl hS; intro hcl hS
     refine ggC 6 hcl rfl (by kernel_rfl) (fun K hK => ?_)
     go_simp
     go_at_call 128
     refine (cloneRecs_gr a2 l2 c2 y.recs _ _ (recL.sl_ext HBY.out G0.out) HYZ.out).mono ?_; rintro e w4 ⟨vv, rfl, hd2, fps2, ho, hf, hc⟩
     obtain ⟨p2, d2, rfl, -⟩ := recL.os_sl ho
     rw [LB.out] at ho ⊢; have HN1 := Lib.hid (And.intro ho (And.intro (hf.mono (C := wt.heap.size) (by simp [World.drew])) (G0.out.trans0 hc))); obtain ⟨-, -, F3⟩ := bk hc F1.out (by simp); obtain ⟨-, -, F4⟩ := bk hc F2.out (by simp); clear ho hf hc
     go_wp2_with fail
     refine hK.out _ _ (fun _ => HCI.out _ ⟨(Know.of F3.out), (Know.of F4.out)⟩) ?_
     clear hK K hcl hS
     intro hcl hS
     try simp only [Act.put, List.setIfInBounds_toArray, List.set_cons_zero, List.set_cons_succ]
     refine ggT 7 hcl hS ?_; clear hcl hS; intro hcl hS
     refine ggC 8 hcl rfl (by kernel_rfl) (fun K hK => ?_)
     go_simp
     refine hK.out _ _ (fun _ => HCI.out _ ⟨(Know.of (keep_alloc F3.out _)), (Know.of (keep_alloc F4.out _))⟩) ?_
     clear hK K hcl hS
     intro hcl hS
     try simp only [Act.put, List.setIfInBounds_toArray, List.set_cons_zero, List.set_cons_succ]
     refine ggC 9 hcl rfl (by kernel_rfl) (fun K hK => ?_)
     refine GrowB.step (L := tapO) rfl _ _ 38 rfl Tryz.underlying38 KT rfl (HG.out.b.ext (HN1.out.2.2.alloc (.cells #[.bool y.wiped, .slice p2 l2 d2] 100))) ⟨w4.heap.size, 0, none⟩ 1 1 [.bool y.wiped, .slice p2 l2 d2] (ys := [y]) (f := hd2.toList ++ fps2) rfl rfl (new_cells w4 #[.bool y.wiped, .slice p2 l2 d2] 100) (tapO.all_single (tapO_iff.2 ⟨_, hd2, fps2, rfl, recL.os_ext HN1.out.1 ((Chg.refl [] w4).alloc _), rfl⟩)) (HN1.out.2.1.chg ((Chg.refl [] w4).alloc _)) HLL.out.1 HLL.out.2 ?_
     intro v' w5 hg' hup
     rw [← HNX.out] at hg'
     obtain ⟨pv, lv, cv, rfl⟩ : ∃ a l c, v' = Value.slice a l c := by obtain ⟨a, c, f, h, -⟩ := hg'.sl; exact ⟨a, _, c, h⟩
     have HG2 := Lib.hid hg'; have HU := Lib.hid hup
     have F5 := Lib.hid ((hup.low (w.heap.size + 2) m3).trans (keep_alloc F3.out _)); have k5 := cellsOf F5.out; have n5 := ltOf F5.out; have z5 := freeOf F5.out; clear hg' hup
     refine hK.out _ _ (Till.done (m := 9) (by simp) (by rfl)) ?_
     clear hK K hcl hS
     intro hcl hS
     try simp only [Act.put, List.setIfInBounds_toArray, List.set_cons_zero, List.set_cons_succ]
     refine ggT 10 hcl hS ?_; clear hcl hS; intro hcl hS
     refine ggC 11 hcl rfl (by kernel_rfl) (fun K hK => ?_)
     go_simp
     refine hK.out _ _ (Till.done (m := 9) (by simp) (by rfl)) ?_
     clear hK K hcl hS
     intro hcl hS
     try simp only [Act.put, List.setIfInBounds_toArray, List.set_cons_zero, List.set_cons_succ]
     refine ggEnd (by kernel_rfl) ?_ _
     have r1 := HG2.out.chg ((Chg.refl [w.heap.size + 2] w5).setCell ⟨w.heap.size + 2, 11, none⟩ (.slice pv lv cv) (.inl (by simp))) (by simp; omega)
     have r3 : (w5.setCell ⟨w.heap.size + 2, 11, none⟩ (.slice pv lv cv)).heap[w.heap.size + 2]? = some (.cells #[.int .i64 x.shape.groups, .int .i64 x.shape.column, .int .i64 x.shape.data, .int .i64 x.shape.spare, .int .i64 x.shape.rows, .int .i64 x.shape.cap, .int .i64 x.shape.batch, .int .i64 x.shape.queue, .int .i64 x.shape.stage, .slice p10 k d10, .slice p11 l11 d11, .slice pv lv cv, .int .i64 x.writes, .int .i64 x.stop, .bool x.down] 40 (0, 0)) := heap_set_lit (cur := #[.int .i64 x.shape.groups, .int .i64 x.shape.column, .int .i64 x.shape.data, .int .i64 x.shape.spare, .int .i64 x.shape.rows, .int .i64 x.shape.cap, .int .i64 x.shape.batch, .int .i64 x.shape.queue, .int .i64 x.shape.stage, .slice p10 k d10, .slice p11 l11 d11, v, .int .i64 x.writes, .int .i64 x.stop, .bool x.down]) F5.out rfl
     have r4 := (HU.out.chg (HC.out.trans0 (HN1.out.2.2.alloc (.cells #[.bool y.wiped, .slice p2 l2 d2] 100))) (Nat.le_refl _)).setCell ⟨w.heap.size + 2, 11, none⟩ (.slice pv lv cv) (.inl (by simp))
     have HR := Lib.hid (And.intro r1 (And.intro r3 r4))
     clear r1 r3 r4
     go_wp2_with fail
     go_roundw
     case rel => exact ⟨i + 1, .slice pv lv cv, _, rfl, by omega, by go_num, HR.out.1, HR.out.2.1, HR.out.2.2⟩
     case measure => simp [intOf]; omega
    ·obtain rfl : i = l12 := by omega
     rw [List.take_of_length_le (by have := L12.out; omega)] at hg
     obtain ⟨p12, d12, g12, rfl, hs, hf⟩ := hg.sl
     rw [← L12.out] at hs E3
     have e3 := cellsOf E3.out; have m3' := ltOf E3.out; have e2 := cellsOf E2.out; have m2 := ltOf E2.out; have fz2 := freeOf E2.out
     have hq := row15_back (.int .i64 x.shape.groups) (.int .i64 x.shape.column) (.int .i64 x.shape.data) (.int .i64 x.shape.spare) (.int .i64 x.shape.rows) (.int .i64 x.shape.cap) (.int .i64 x.shape.batch) (.int .i64 x.shape.queue) (.int .i64 x.shape.stage) (.slice p10 k d10) (.slice p11 l11 d11) (.slice p12 i d12) (.int .i64 x.writes) (.int .i64 x.stop) (.bool x.down) E2.out
     have cS : Chg [w.heap.size + 1] wt (((((((((((((((wt.setCell ⟨w.heap.size + 1, 0, none⟩ (.int .i64 x.shape.groups)).setCell ⟨w.heap.size + 1, 1, none⟩ (.int .i64 x.shape.column)).setCell ⟨w.heap.size + 1, 2, none⟩ (.int .i64 x.shape.data)).setCell ⟨w.heap.size + 1, 3, none⟩ (.int .i64 x.shape.spare)).setCell ⟨w.heap.size + 1, 4, none⟩ (.int .i64 x.shape.rows)).setCell ⟨w.heap.size + 1, 5, none⟩ (.int .i64 x.shape.cap)).setCell ⟨w.heap.size + 1, 6, none⟩ (.int .i64 x.shape.batch)).setCell ⟨w.heap.size + 1, 7, none⟩ (.int .i64 x.shape.queue)).setCell ⟨w.heap.size + 1, 8, none⟩ (.int .i64 x.shape.stage)).setCell ⟨w.heap.size + 1, 9, none⟩ (.slice p10 k d10)).setCell ⟨w.heap.size + 1, 10, none⟩ (.slice p11 l11 d11)).setCell ⟨w.heap.size + 1, 11, none⟩ (.slice p12 i d12)).setCell ⟨w.heap.size + 1, 12, none⟩ (.int .i64 x.writes)).setCell ⟨w.heap.size + 1, 13, none⟩ (.int .i64 x.stop)).setCell ⟨w.heap.size + 1, 14, none⟩ (.bool x.down)) := chg15 (.int .i64 x.shape.groups) (.int .i64 x.shape.column) (.int .i64 x.shape.data) (.int .i64 x.shape.spare) (.int .i64 x.shape.rows) (.int .i64 x.shape.cap) (.int .i64 x.shape.batch) (.int .i64 x.shape.queue) (.int .i64 x.shape.stage) (.slice p10 k d10) (.slice p11 l11 d11) (.slice p12 i d12) (.int .i64 x.writes) (.int .i64 x.stop) (.bool x.down) (Chg.refl _ wt) (.inl (by simp))
     have s1 := HGR.out.2.2.size
     have n11 := fun T (hT : ∀ b ∈ T, b < w.heap.size + 3) => HON.out.2.nots T hT
     have n10 := fun T (hT : ∀ b ∈ T, b < w1.heap.size) => HGR.out.2.1.nots T hT
     have K10 := drvL.slice.sl_chg (drvL.slice.sl_chg HGR.out.1 hc (n10 _ (by simp; omega))) cS (n10 _ (by simp; omega))
     have K11 := intL.sl_chg (intL.sl_chg (intL.sl_chg HON.out.1 HGR.out.2.2 (n11 _ (by simp))) hc (n11 _ (by simp))) cS (n11 _ (by simp))
     have K12 := tapO.sl_chg hs cS (hf.nots _ (by simp; omega))
     have FF := Fresh.swap (((((HON.out.2.chg HGR.out.2.2).chg hc).chg cS).append (((HGR.out.2.1.chg hc).chg cS).append (hf.chg cS) HGR.out.2.1.lts s1) HON.out.2.lts (by omega)).mono (C := w.heap.size) (by omega))
     have hch : Chg [] w _ := hcw2.trans cS (fun y hy => .inr (by rw [List.mem_singleton] at hy; omega))
     obtain ⟨o1, o2, o3, o4, o5, o6, o7, o8, o9, o13, o14⟩ := HO.out
     have HN := Lib.hid (show NewTp x w (.returned (.agg #[.int .i64 x.shape.groups, .int .i64 x.shape.column, .int .i64 x.shape.data, .int .i64 x.shape.spare, .int .i64 x.shape.rows, .int .i64 x.shape.cap, .int .i64 x.shape.batch, .int .i64 x.shape.queue, .int .i64 x.shape.stage, .slice p10 k d10, .slice p11 l11 d11, .slice p12 i d12, .int .i64 x.writes, .int .i64 x.stop, .bool x.down])) _ from ⟨p10, k, d10, g10, p11, l11, d11, g11, p12, i, d12, g12, rfl, ⟨o1, o2, o3, o4, o5, o6, o7, o8, o9, o13, o14⟩, K10, K11, K12, FF, hch⟩)
     have HQC := Lib.hid (cellsOf hq)
     clear hs hf hb3 hc hg hq cS s1 n11 n10 K10 K11 K12 FF hch hcw hcw2 o1 o2 o3 o4 o5 o6 o7 o8 o9 o13 o14
     go_wp2_with fail
     have hqc := HQC.out
     refine bodyPost_ret (v := .agg #[.int .i64 x.shape.groups, .int .i64 x.shape.column, .int .i64 x.shape.data, .int .i64 x.shape.spare, .int .i64 x.shape.rows, .int .i64 x.shape.cap, .int .i64 x.shape.batch, .int .i64 x.shape.queue, .int .i64 x.shape.stage, .slice p10 k d10, .slice p11 l11 d11, .slice p12 i d12, .int .i64 x.writes, .int .i64 x.stop, .bool x.down]) (by simp [results, Tryz.results79, go_sem, hqc]) rfl HN.out
end Go.Proofs.YtnnhopcjlnnchaaGreat

/- Copies: a world, and what append wants to know of the records of its tapes: the specification. -/
namespace Go.Proofs.YtnnhopcjlnnchaaGreat
open Go.RowKit

set_option maxRecDepth 100000 in
set_option maxHeartbeats 2000000 in
theorem l5CopyRecs_gr (a : Option Addr) (la ca : Nat) (xs : List Rec) (f : List Nat) (w : World) (ha : recL.sl w a la ca xs f) (hz : totL totRec xs ≤ 1048576) :
  Calls Tryz.prog 121 #[.slice a la ca] w fun e w' => ∃ v, e = .returned v ∧ Grow recL 68 w w' v xs := by
 obtain ⟨K, _⟩ := kindRec
 have hlz : la ≤ 1048576 := by have := totL_len totRec_nonneg xs; rw [ha.1]; omega
 have HL := Lib.hid ha.1
 have HA := Lib.hid ha
 have HZ := Lib.hid (fun x hx => Int.le_trans (totL_mem totRec_nonneg hx) hz : ∀ x ∈ xs, totRec x ≤ 1048576)
 clear ha hz
 go_enter Tryz.func121, Tryz.ntmps121
 go_wp2_with fail
 go_loopw [3, 4] (fun vo vi wr => ∃ (k : Nat) (Wr : World), Wr = wr ∧ k ≤ la ∧ vi = .int .i64 k ∧ Grow recL 68 w wr vo (xs.take k)) (fun _ vi _ => la - (intOf vi).toNat)
 case atStart => exact ⟨0, _, rfl, by omega, rfl, by rw [List.take_zero]; exact Grow.made (Chg.refl _ _)⟩
 case round =>
  obtain ⟨k, wr, rfl, hk, rfl, hg⟩ := hrel
  by_cases hlt : k < la
  ·obtain ⟨x, b, off, a6, l6, c6, a7, l7, c7, a8, l8, c8, fq, HX, rfl, hq0, hq1, hq2, hq3, hq4, hq5, hq6, hq7, hq8, HXS⟩ := rec_at (recL.sl_ext HA.out hg.chg) hlt
   have HG := Lib.hid hg
   have HXI := Lib.hid HX.out.1
   have HXZ := Lib.hid (HZ.out x (List.mem_of_getElem? HX.out.1))
   clear hg HX
   go_wp2_with fail
   refine (l5CopyRec_any x #[.int .i64 x.kind, .int .i64 x.seq, .string x.name, .int .i64 x.length, .int .i64 x.group, .int .i64 x.row, .slice a6 l6 c6, .slice a7 l7 c7, .slice a8 l8 c8] fq _ HXS.out HXZ.out).mono ?_
   rintro e w1 ⟨cs, f1, rfl, hr, hf, hc⟩
   obtain ⟨p6, m6, d6, _, p7, m7, d7, _, p8, m8, d8, _, ex, -⟩ := recL_iff.1 hr
   obtain rfl := Array.toList_inj.1 (ex.trans (List.toList_toArray).symm)
   have HN1 := Lib.hid (And.intro hr (And.intro hf hc))
   have HLL : RowKit.Hid ((xs.take k).length + [x].length ≤ maxLen ∧ ((xs.take k).length + [x].length) * 128 ≤ 140737488355328) := by
    refine ⟨?_, ?_⟩ <;> simp only [List.length_take, List.length_cons, List.length_nil, maxLen] <;> omega
   have HNX := Lib.hid (take_next HXI.out)
   clear ex hr hf hc hq0 hq1 hq2 hq3 hq4 hq5 hq6 hq7 hq8 HXS
   go_wp2_with (at_builtin; refine recL.wpList_grow rfl _ _ 98 rfl Tryz.underlying98 K rfl HG.out (HN1.out.2.2.alloc (.cells #[.int .i64 x.kind, .int .i64 x.seq, .string x.name, .int .i64 x.length, .int .i64 x.group, .int .i64 x.row, .slice p6 m6 d6, .slice p7 m7 d7, .slice p8 m8 d8] 68)) ⟨w1.heap.size, 0, none⟩ 1 1 [.int .i64 x.kind, .int .i64 x.seq, .string x.name, .int .i64 x.length, .int .i64 x.group, .int .i64 x.row, .slice p6 m6 d6, .slice p7 m7 d7, .slice p8 m8 d8] (ys := [x]) (f := f1) rfl rfl (new_cells w1 #[.int .i64 x.kind, .int .i64 x.seq, .string x.name, .int .i64 x.length, .int .i64 x.group, .int .i64 x.row, .slice p6 m6 d6, .slice p7 m7 d7, .slice p8 m8 d8] 68) (recL.all_single (recL.ext HN1.out.1 ((Chg.refl [] w1).alloc _))) (HN1.out.2.1.chg ((Chg.refl [] w1).alloc (.cells #[.int .i64 x.kind, .int .i64 x.seq, .string x.name, .int .i64 x.length, .int .i64 x.group, .int .i64 x.row, .slice p6 m6 d6, .slice p7 m7 d7, .slice p8 m8 d8] 68))) HLL.out.1 HLL.out.2 ?_; intro v' w' hg'; rw [← HNX.out] at hg'; have HG2 := Lib.hid hg'; clear hg')
   go_roundw
   case rel => exact ⟨k + 1, _, rfl, by omega, by go_num, HG2.out⟩
   case measure => simp [intOf]; omega
  ·obtain rfl : k = la := by omega
   rw [List.take_of_length_le (by have := HL.out; omega)] at hg
   obtain ⟨a', c', f', h1, h2, h3, h4⟩ := hg.sl
   subst h1
   have HN := Lib.hid (show ∃ v, Ending.returned (.slice a' xs.length c') = .returned v ∧ Grow recL 68 w wr v xs from ⟨_, rfl, hg⟩)
   generalize xs.length = n at HN ⊢
   clear h2 h3 h4 hg
   go_wp2_with fail
   go_ret
   exact HN.out


set_option maxRecDepth 100000 in
set_option maxHeartbeats 8000000 in
theorem l5Copy_tp (x : Wld) (cx : Array Value) (fx : List Nat) (w : World) (hx : wldL.rep w cx.toList x fx) (hz : totWld x ≤ 1048576) :
  Calls Tryz.prog 77 #[.agg cx] w (NewTp x w) := by
 obtain ⟨KD, _⟩ := kindDrive
 obtain ⟨KS, _⟩ := kindDS
 obtain ⟨KT, _⟩ := kindTape
 obtain ⟨KB, _⟩ := kindBlock
 obtain ⟨KI, _⟩ := kindI
 obtain ⟨a10, l10, c10, f10, a11, l11, c11, f11, a12, l12, c12, f12, ex, o1, o2, o3, o4, o5, o6, o7, o8, o9, h10, h11, h12, o13, o14, -⟩ := wldL_iff.1 hx
 obtain rfl := Array.toList_inj.1 (ex.trans (List.toList_toArray).symm)
 have q10 := totL_nonneg (totL_nonneg totDrv_nonneg) x.groups; have q11 := totIs_nonneg x.on; have q12 := totL_nonneg totTap_nonneg x.tapes
 unfold totWld at hz
 have z10 : totL (totL totDrv) x.groups ≤ 1048576 := by omega
 have z12 : totL totTap x.tapes ≤ 1048576 := by omega
 have hl10 : l10 ≤ 1048576 := by have := totL_len (totL_nonneg totDrv_nonneg) x.groups; rw [h10.1]; omega
 have hl11 : l11 ≤ 1048576 := by rw [h11.1]; unfold totIs at hz q11; omega
 have hl12 : l12 ≤ 1048576 := by have := totL_len totTap_nonneg x.tapes; rw [h12.1]; omega
 have L10 := Lib.hid h10.1; have L11 := Lib.hid h11.1; have L12 := Lib.hid h12.1
 have H10 := Lib.hid h10; have H11 := Lib.hid h11; have H12 := Lib.hid h12
 have HO := Lib.hid (And.intro o1 (And.intro o2 (And.intro o3 (And.intro o4 (And.intro o5 (And.intro o6 (And.intro o7 (And.intro o8 (And.intro o9 (And.intro o13 o14))))))))))
 have Z10 := Lib.hid (fun g hg => Int.le_trans (totL_mem (totL_nonneg totDrv_nonneg) hg) z10 : ∀ g ∈ x.groups, totL totDrv g ≤ 1048576)
 have Z12 := Lib.hid (fun t ht => Int.le_trans (totL_mem totTap_nonneg ht) z12 : ∀ t ∈ x.tapes, totTap t ≤ 1048576)
 clear hx ex hz q10 q11 q12 z10 z12 h10 h11 h12 o1 o2 o3 o4 o5 o6 o7 o8 o9 o13 o14
 have G0 := Lib.hid (show Chg [] w (((w.alloc (.cells #[.int .i64 x.shape.groups, .int .i64 x.shape.column, .int .i64 x.shape.data, .int .i64 x.shape.spare, .int .i64 x.shape.rows, .int .i64 x.shape.cap, .int .i64 x.shape.batch, .int .i64 x.shape.queue, .int .i64 x.shape.stage, .slice a10 l10 c10, .slice a11 l11 c11, .slice a12 l12 c12, .int .i64 x.writes, .int .i64 x.stop, .bool x.down] 40)).alloc (.cells #[.int .i64 0, .int .i64 0, .int .i64 0, .int .i64 0, .int .i64 0, .int .i64 0, .int .i64 0, .int .i64 0, .int .i64 0, .slice none 0 0, .slice none 0 0, .slice none 0 0, .int .i64 0, .int .i64 0, .bool false] 40)).alloc (.cells #[.int .i64 x.shape.groups, .int .i64 x.shape.column, .int .i64 x.shape.data, .int .i64 x.shape.spare, .int .i64 x.shape.rows, .int .i64 x.shape.cap, .int .i64 x.shape.batch, .int .i64 x.shape.queue, .int .i64 x.shape.stage, .slice none 0 0, .slice a11 l11 c11, .slice a12 l12 c12, .int .i64 x.writes, .int .i64 x.stop, .bool x.down] 40)) from ((((Chg.refl [] w).alloc _).alloc _).alloc _))
 have B1 := Lib.hid (show (((w.alloc (.cells #[.int .i64 x.shape.groups, .int .i64 x.shape.column, .int .i64 x.shape.data, .int .i64 x.shape.spare, .int .i64 x.shape.rows, .int .i64 x.shape.cap, .int .i64 x.shape.batch, .int .i64 x.shape.queue, .int .i64 x.shape.stage, .slice a10 l10 c10, .slice a11 l11 c11, .slice a12 l12 c12, .int .i64 x.writes, .int .i64 x.stop, .bool x.down] 40)).alloc (.cells #[.int .i64 0, .int .i64 0, .int .i64 0, .int .i64 0, .int .i64 0, .int .i64 0, .int .i64 0, .int .i64 0, .int .i64 0, .slice none 0 0, .slice none 0 0, .slice none 0 0, .int .i64 0, .int .i64 0, .bool false] 40)).alloc (.cells #[.int .i64 x.shape.groups, .int .i64 x.shape.column, .int .i64 x.shape.data, .int .i64 x.shape.spare, .int .i64 x.shape.rows, .int .i64 x.shape.cap, .int .i64 x.shape.batch, .int .i64 x.shape.queue, .int .i64 x.shape.stage, .slice none 0 0, .slice a11 l11 c11, .slice a12 l12 c12, .int .i64 x.writes, .int .i64 x.stop, .bool x.down] 40)).heap[w.heap.size]? = some (.cells #[.int .i64 x.shape.groups, .int .i64 x.shape.column, .int .i64 x.shape.data, .int .i64 x.shape.spare, .int .i64 x.shape.rows, .int .i64 x.shape.cap, .int .i64 x.shape.batch, .int .i64 x.shape.queue, .int .i64 x.shape.stage, .slice a10 l10 c10, .slice a11 l11 c11, .slice a12 l12 c12, .int .i64 x.writes, .int .i64 x.stop, .bool x.down] 40 (0, 0)) from keep_alloc (keep_alloc (new_alloc w _) _) _)
 have B2 := Lib.hid (show (((w.alloc (.cells #[.int .i64 x.shape.groups, .int .i64 x.shape.column, .int .i64 x.shape.data, .int .i64 x.shape.spare, .int .i64 x.shape.rows, .int .i64 x.shape.cap, .int .i64 x.shape.batch, .int .i64 x.shape.queue, .int .i64 x.shape.stage, .slice a10 l10 c10, .slice a11 l11 c11, .slice a12 l12 c12, .int .i64 x.writes, .int .i64 x.stop, .bool x.down] 40)).alloc (.cells #[.int .i64 0, .int .i64 0, .int .i64 0, .int .i64 0, .int .i64 0, .int .i64 0, .int .i64 0, .int .i64 0, .int .i64 0, .slice none 0 0, .slice none 0 0, .slice none 0 0, .int .i64 0, .int .i64 0, .bool false] 40)).alloc (.cells #[.int .i64 x.shape.groups, .int .i64 x.shape.column, .int .i64 x.shape.data, .int .i64 x.shape.spare, .int .i64 x.shape.rows, .int .i64 x.shape.cap, .int .i64 x.shape.batch, .int .i64 x.shape.queue, .int .i64 x.shape.stage, .slice none 0 0, .slice a11 l11 c11, .slice a12 l12 c12, .int .i64 x.writes, .int .i64 x.stop, .bool x.down] 40)).heap[w.heap.size + 1]? = some (.cells #[.int .i64 0, .int .i64 0, .int .i64 0, .int .i64 0, .int .i64 0, .int .i64 0, .int .i64 0, .int .i64 0, .int .i64 0, .slice none 0 0, .slice none 0 0, .slice none 0 0, .int .i64 0, .int .i64 0, .bool false] 40 (0, 0)) from keep_alloc (new_at (by simp) _) _)
 have B3 := Lib.hid (show (((w.alloc (.cells #[.int .i64 x.shape.groups, .int .i64 x.shape.column, .int .i64 x.shape.data, .int .i64 x.shape.spare, .int .i64 x.shape.rows, .int .i64 x.shape.cap, .int .i64 x.shape.batch, .int .i64 x.shape.queue, .int .i64 x.shape.stage, .slice a10 l10 c10, .slice a11 l11 c11, .slice a12 l12 c12, .int .i64 x.writes, .int .i64 x.stop, .bool x.down] 40)).alloc (.cells #[.int .i64 0, .int .i64 0, .int .i64 0, .int .i64 0, .int .i64 0, .int .i64 0, .int .i64 0, .int .i64 0, .int .i64 0, .slice none 0 0, .slice none 0 0, .slice none 0 0, .int .i64 0, .int .i64 0, .bool false] 40)).alloc (.cells #[.int .i64 x.shape.groups, .int .i64 x.shape.column, .int .i64 x.shape.data, .int .i64 x.shape.spare, .int .i64 x.shape.rows, .int .i64 x.shape.cap, .int .i64 x.shape.batch, .int .i64 x.shape.queue, .int .i64 x.shape.stage, .slice none 0 0, .slice a11 l11 c11, .slice a12 l12 c12, .int .i64 x.writes, .int .i64 x.stop, .bool x.down] 40)).heap[w.heap.size + 2]? = some (.cells #[.int .i64 x.shape.groups, .int .i64 x.shape.column, .int .i64 x.shape.data, .int .i64 x.shape.spare, .int .i64 x.shape.rows, .int .i64 x.shape.cap, .int .i64 x.shape.batch, .int .i64 x.shape.queue, .int .i64 x.shape.stage, .slice none 0 0, .slice a11 l11 c11, .slice a12 l12 c12, .int .i64 x.writes, .int .i64 x.stop, .bool x.down] 40 (0, 0)) from new_at (by simp) _)
 have S0 := Lib.hid (show w.heap.size + 3 ≤ (((w.alloc (.cells #[.int .i64 x.shape.groups, .int .i64 x.shape.column, .int .i64 x.shape.data, .int .i64 x.shape.spare, .int .i64 x.shape.rows, .int .i64 x.shape.cap, .int .i64 x.shape.batch, .int .i64 x.shape.queue, .int .i64 x.shape.stage, .slice a10 l10 c10, .slice a11 l11 c11, .slice a12 l12 c12, .int .i64 x.writes, .int .i64 x.stop, .bool x.down] 40)).alloc (.cells #[.int .i64 0, .int .i64 0, .int .i64 0, .int .i64 0, .int .i64 0, .int .i64 0, .int .i64 0, .int .i64 0, .int .i64 0, .slice none 0 0, .slice none 0 0, .slice none 0 0, .int .i64 0, .int .i64 0, .bool false] 40)).alloc (.cells #[.int .i64 x.shape.groups, .int .i64 x.shape.column, .int .i64 x.shape.data, .int .i64 x.shape.spare, .int .i64 x.shape.rows, .int .i64 x.shape.cap, .int .i64 x.shape.batch, .int .i64 x.shape.queue, .int .i64 x.shape.stage, .slice none 0 0, .slice a11 l11 c11, .slice a12 l12 c12, .int .i64 x.writes, .int .i64 x.stop, .bool x.down] 40)).heap.size from ltOf B3.out)
 go_enter Tryz.func77, Tryz.ntmps77
 go_wp2_with fail
 go_loopw [4] (fun vi wr => ∃ (k : Nat) (v : Value) (Wr : World), Wr = wr ∧ k ≤ l10 ∧ vi = .int .i64 k ∧ GrowC drvL.slice 82 (w.heap.size + 3) wr v (x.groups.take k) ∧ wr.heap[w.heap.size]? = some (.cells #[.int .i64 x.shape.groups, .int .i64 x.shape.column, .int .i64 x.shape.data, .int .i64 x.shape.spare, .int .i64 x.shape.rows, .int .i64 x.shape.cap, .int .i64 x.shape.batch, .int .i64 x.shape.queue, .int .i64 x.shape.stage, .slice a10 l10 c10, .slice a11 l11 c11, .slice a12 l12 c12, .int .i64 x.writes, .int .i64 x.stop, .bool x.down] 40 (0, 0)) ∧ wr.heap[w.heap.size + 1]? = some (.cells #[.int .i64 0, .int .i64 0, .int .i64 0, .int .i64 0, .int .i64 0, .int .i64 0, .int .i64 0, .int .i64 0, .int .i64 0, .slice none 0 0, .slice none 0 0, .slice none 0 0, .int .i64 0, .int .i64 0, .bool false] 40 (0, 0)) ∧ wr.heap[w.heap.size + 2]? = some (.cells #[.int .i64 x.shape.groups, .int .i64 x.shape.column, .int .i64 x.shape.data, .int .i64 x.shape.spare, .int .i64 x.shape.rows, .int .i64 x.shape.cap, .int .i64 x.shape.batch, .int .i64 x.shape.queue, .int .i64 x.shape.stage, v, .slice a11 l11 c11, .slice a12 l12 c12, .int .i64 x.writes, .int .i64 x.stop, .bool x.down] 40 (0, 0)) ∧ Chg [] w wr) (fun vi _ => l10 - (intOf vi).toNat)
 case atStart => exact ⟨0, .slice none 0 0, _, rfl, by omega, rfl, by rw [List.take_zero]; exact GrowC.nil S0.out, B1.out, B2.out, B3.out, G0.out⟩
 case round =>
  clear G0 B1 B2 B3 S0
  obtain ⟨k, v, wr, rfl, hk, rfl, hg, hb1, hb2, hb3, hc⟩ := hrel
  have D1 := Lib.hid hb1; have D2 := Lib.hid hb2; have D3 := Lib.hid hb3
  have c1 := cellsOf hb1; have n1 := ltOf hb1; have n3 := ltOf hb3
  by_cases hlt : k < l10
  ·obtain ⟨g, b, off, ag, lg, cg, fg, HX, rfl, hcx, HXS⟩ := slc_at (drvL.slice.sl_ext H10.out hc) hlt
   have HG := Lib.hid hg; have HC := Lib.hid hc
   have HXI := Lib.hid HX.out.1
   have HXZ := Lib.hid (Z10.out g (List.mem_of_getElem? HX.out.1))
   have hbl : b < wr.heap.size := Nat.lt_of_lt_of_le (Lay.sl_lt _ H10.out b HX.out.2.1) hc.size
   have HCX := Lib.hid hcx
   have hlg : lg ≤ 1048576 := by have := totL_len totDrv_nonneg g; have := HXZ.out; rw [HXS.out.1]; omega
   have LG := Lib.hid HXS.out.1
   clear hg hc HX hb1 hb2 hb3
   go_wp2_with fail
   go_loopw [5, 6] (fun vo vi wi => ∃ (j : Nat) (Wi : World), Wi = wi ∧ j ≤ lg ∧ vi = .int .i64 j ∧ Grow drvL 81 wr wi vo (g.take j)) (fun _ vi _ => lg - (intOf vi).toNat)
   case atStart => exact ⟨0, _, rfl, by omega, rfl, by rw [List.take_zero]; exact Grow.made (Chg.refl _ _)⟩
   case round =>
    clear hcx c1
    obtain ⟨j, wi, rfl, hj, rfl, hgi⟩ := hrel
    have E1 := Lib.hid (hgi.chg.keep0 D1.out); have E3 := Lib.hid (hgi.chg.keep0 D3.out)
    have c1 := cellsOf E1.out; have n1' := ltOf E1.out
    have hcx := cellKeep hgi.chg HCX.out hbl
    have hbl' : b < wi.heap.size := Nat.lt_of_lt_of_le hbl hgi.chg.size
    by_cases hlj : j < lg
    ·obtain ⟨y, b2, off2, a2, l2, c2, f2, HY, rfl, hy0, hy1, HYS⟩ := drive_at (drvL.sl_ext HXS.out hgi.chg) hlj
     have HGI := Lib.hid hgi
     have HYI := Lib.hid HY.out.1
     have HYZ := Lib.hid (Int.le_trans (totL_mem totDrv_nonneg (List.mem_of_getElem? HY.out.1)) HXZ.out)
     have hbl2 : b2 < wi.heap.size := Lay.sl_lt _ (drvL.sl_ext HXS.out hgi.chg) b2 HY.out.2.1
     obtain ⟨_, _, _, _, exd, hyb, -⟩ := drvL_iff.1 HYS.out
     obtain ⟨q1, q2, q3⟩ := Value.slice.inj (List.cons.inj (List.cons.inj exd).2).1
     subst q1 q2 q3
     have HYB := Lib.hid hyb
     have LY := Lib.hid hyb.1
     have hl2 : l2 ≤ 1048576 := by have := totL_len totBlk_nonneg y.blocks; have h2 : totL totBlk y.blocks ≤ 1048576 := HYZ.out; rw [hyb.1]; omega
     have HY0 := Lib.hid hy0; have HY1 := Lib.hid hy1; have HCX2 := Lib.hid hcx
     clear hgi HY exd hyb HYS
     go_wp2_with fail
     go_loopw [8] (fun vq wt => ∃ (i : Nat) (v3 : Value) (Wt : World), Wt = wt ∧ i ≤ l2 ∧ vq = .int .i64 i ∧ GrowC blkL 32 (wi.heap.size + 1) wt v3 (y.blocks.take i) ∧ wt.heap[wi.heap.size]? = some (.cells #[.bool y.wiped, v3] 81 (0, 0)) ∧ Chg [] wi wt) (fun vq _ => l2 - (intOf vq).toNat)
     case atStart => exact ⟨0, .slice none 0 0, _, rfl, by omega, rfl, by rw [List.take_zero]; exact GrowC.nil (by simp), new_alloc wi _, (Chg.refl [] wi).alloc _⟩
     case round =>
      clear hcx c1 hy0 hy1
      obtain ⟨i, v3, wt, rfl, hi, rfl, hgt, hbt, hct⟩ := hrel
      have F1 := Lib.hid (hct.keep0 E1.out); have F3 := Lib.hid (hct.keep0 E3.out)
      have c1 := cellsOf F1.out; have n1'' := ltOf F1.out
      have hcx := cellKeep hct HCX2.out hbl'
      have hy1 := cellKeep hct HY1.out hbl2
      have hbw : b < wt.heap.size := Nat.lt_of_lt_of_le hbl' hct.size
      have hbw2 : b2 < wt.heap.size := Nat.lt_of_lt_of_le hbl2 hct.size
      have ct := cellsOf hbt; have nt := ltOf hbt
      by_cases hlb : i < l2
      ·obtain ⟨z, b3, off3, a3, l3, c3, f3, HZ3, rfl, hz0, hz1, HZS⟩ := block_at (blkL.sl_ext HYB.out hct) hlb
       have HBT := Lib.hid hbt
       have HZI := Lib.hid HZ3.out.1
       have hbw3 : b3 < wt.heap.size := Lay.sl_lt _ (blkL.sl_ext HYB.out hct) b3 HZ3.out.2.1
       have HZZ := Lib.hid (Int.le_trans (totL_mem totBlk_nonneg (List.mem_of_getElem? HZ3.out.1)) (show totL totBlk y.blocks ≤ 1048576 from HYZ.out))
       have HGT := Lib.hid hgt; have HCT := Lib.hid hct
       have K1 := Lib.hid hcx; have K2 := Lib.hid hy1; have K3 := Lib.hid hz0; have K4 := Lib.hid hz1
       have HLL : RowKit.Hid ((y.blocks.take i).length + [z].length ≤ maxLen ∧ ((y.blocks.take i).length + [z].length) * 32 ≤ 140737488355328) := by
        refine ⟨?_, ?_⟩ <;> simp only [List.length_take, List.length_cons, List.length_nil, maxLen] <;> omega
       have HNX := Lib.hid (take_next HZI.out)
       clear hgt hct hbt HZ3
       go_wp2_with fail
       obtain ⟨CC, HCI, HCO⟩ := rg_cond (fun w' => Know w.heap.size #[.int .i64 x.shape.groups, .int .i64 x.shape.column, .int .i64 x.shape.data, .int .i64 x.shape.spare, .int .i64 x.shape.rows, .int .i64 x.shape.cap, .int .i64 x.shape.batch, .int .i64 x.shape.queue, .int .i64 x.shape.stage, .slice (some ⟨b, off, none⟩) l10 c10, .slice a11 l11 c11, .slice a12 l12 c12, .int .i64 x.writes, .int .i64 x.stop, .bool x.down] w' ∧ Know wi.heap.size #[.bool y.wiped, v3] w' ∧ w'.cell? ⟨b, off + k, none⟩ = some (.slice (some ⟨b2, off2, none⟩) lg cg) ∧ w'.cell? ⟨b2, off2 + j * 2 + 1, none⟩ = some (.slice (some ⟨b3, off3, none⟩) l2 c2) ∧ w'.cell? ⟨b3, off3 + i * 2, none⟩ = some (.int .i64 z.stamp) ∧ w'.cell? ⟨b3, off3 + i * 2 + 1, none⟩ = some (.slice a3 l3 c3))
       refine gg_start [16] CC (by kernel_rfl) (HCI.out _ ⟨(Know.of (keep_drew F1.out)), (Know.of (keep_drew HBT.out)), K1.out, K2.out, K3.out, K4.out⟩) (fun hcl hS => ?_)
       refine ggT 0 hcl hS ?_; clear hcl hS; intro hcl hS
       refine ggL 1 hcl hS HCO ?_; clear hcl hS; intro hcl hS
       refine ggT 2 hcl hS ?_; clear hcl hS; intro hcl hS
       refine ggL 3 hcl hS HCO ?_; clear hcl hS; intro hcl hS
       refine ggT 4 hcl hS ?_; clear hcl hS; intro hcl hS
       refine ggT 5 hcl hS ?_; clear hcl hS; intro hcl hS
       refine ggL 6 hcl hS HCO ?_; clear hcl hS; intro hcl hS
       refine ggT 7 hcl hS ?_; clear hcl hS; intro hcl hS
       refine ggT 8 hcl hS ?_; clear hcl hS; intro hcl hS
       refine ggT 9 hcl hS ?_; clear hcl hS; intro hcl hS
       refine ggL 10 hcl hS HCO ?_; clear hcl hS; intro hcl hS
       refine ggT 11 hcl hS ?_; clear hcl hS; intro hcl hS
       refine ggT 12 hcl hS ?_; clear hcl hS; intro hcl hS
       refine ggL 13 hcl hS HCO ?_; clear hcl hS; intro hcl hS
       refine ggC 14 hcl rfl (by kernel_rfl) (fun K hK => ?_)
       go_simp
       go_at_call 57
       refine (l5CopyBlock_any z #[.int .i64 z.stamp, .slice a3 l3 c3] f3 _ (blkL.ext HZS.out ((Chg.refl [] wt).drew)) HZZ.out).mono ?_; rintro e w3 ⟨cs, g3, rfl, hs, hf, hc⟩
       obtain ⟨p3, m3, d3, _, ex, -⟩ := blkL_iff.1 hs; obtain rfl := Array.toList_inj.1 (ex.trans (List.toList_toArray).symm)
       have HN1 := Lib.hid (And.intro hs (And.intro (hf.mono (C := wt.heap.size) (Nat.le_refl _)) (((Chg.refl [] wt).drew).trans0 hc))); obtain ⟨-, -, F4⟩ := bk hc (keep_drew F1.out) (by simp); obtain ⟨-, -, F5⟩ := bk hc (keep_drew HBT.out) (by simp); have k1 := Lib.hid (cellKeep HN1.out.2.2 K1.out hbw); have k2 := Lib.hid (cellKeep HN1.out.2.2 K2.out hbw2); have k3 := Lib.hid (cellKeep HN1.out.2.2 K3.out hbw3); have k4 := Lib.hid (cellKeep HN1.out.2.2 K4.out hbw3); have ql := HN1.out.2.2.size; clear hs hf hc ex
       go_wp2_with fail
       refine hK.out _ _ (fun _ => HCI.out _ ⟨(Know.of F4.out), (Know.of F5.out), k1.out, k2.out, k3.out, k4.out⟩) ?_
       clear hK K hcl hS
       intro hcl hS
       try simp only [Act.put, List.setIfInBounds_toArray, List.set_cons_zero, List.set_cons_succ]
       refine ggC 15 hcl rfl (by kernel_rfl) (fun K hK => ?_)
       go_simp
       refine hK.out _ _ (fun _ => HCI.out _ ⟨(Know.of (keep_alloc F4.out _)), (Know.of (keep_alloc F5.out _)), (cellKeep ((Chg.refl [] w3).alloc _) k1.out (by omega)), (cellKeep ((Chg.refl [] w3).alloc _) k2.out (by omega)), (cellKeep ((Chg.refl [] w3).alloc _) k3.out (by omega)), (cellKeep ((Chg.refl [] w3).alloc _) k4.out (by omega))⟩) ?_
       clear hK K hcl hS
       intro hcl hS
       try simp only [Act.put, List.setIfInBounds_toArray, List.set_cons_zero, List.set_cons_succ]
       refine ggC 16 hcl rfl (by kernel_rfl) (fun K hK => ?_)
       refine GrowB.step rfl _ _ 79 rfl Tryz.underlying79 KB rfl (HGT.out.b.ext (HN1.out.2.2.alloc (.cells #[.int .i64 z.stamp, .slice p3 m3 d3] 32))) ⟨w3.heap.size, 0, none⟩ 1 1 [.int .i64 z.stamp, .slice p3 m3 d3] (ys := [z]) (f := g3) rfl rfl (new_cells w3 #[.int .i64 z.stamp, .slice p3 m3 d3] 32) (blkL.all_single (blkL.ext HN1.out.1 ((Chg.refl [] w3).alloc _))) (HN1.out.2.1.chg ((Chg.refl [] w3).alloc _)) HLL.out.1 HLL.out.2 ?_
       intro v' w4 hg' hup
       rw [← HNX.out] at hg'
       obtain ⟨pv, lv, cv, rfl⟩ : ∃ a l c, v' = Value.slice a l c := by obtain ⟨a, c, f, h, -⟩ := hg'.sl; exact ⟨a, _, c, h⟩
       have HG2 := Lib.hid hg'; have HU := Lib.hid hup
       have F6 := Lib.hid ((hup.low wi.heap.size (by omega)).trans (keep_alloc F5.out _)); have k6 := cellsOf F6.out; have n6 := ltOf F6.out; have z6 := freeOf F6.out; clear hg' hup
       refine hK.out _ _ (Till.done (m := 16) (by simp) (by rfl)) ?_
       clear hK K hcl hS
       intro hcl hS
       try simp only [Act.put, List.setIfInBounds_toArray, List.set_cons_zero, List.set_cons_succ]
       refine ggT 17 hcl hS ?_; clear hcl hS; intro hcl hS
       refine ggC 18 hcl rfl (by kernel_rfl) (fun K hK => ?_)
       go_simp
       refine hK.out _ _ (Till.done (m := 16) (by simp) (by rfl)) ?_
       clear hK K hcl hS
       intro hcl hS
       try simp only [Act.put, List.setIfInBounds_toArray, List.set_cons_zero, List.set_cons_succ]
       refine ggEnd (by kernel_rfl) ?_ _
       have r1 := HG2.out.chg ((Chg.refl [wi.heap.size] w4).setCell ⟨wi.heap.size, 1, none⟩ (.slice pv lv cv) (.inl (by simp))) (by simp)
       have r3 : (w4.setCell ⟨wi.heap.size, 1, none⟩ (.slice pv lv cv)).heap[wi.heap.size]? = some (.cells #[.bool y.wiped, .slice pv lv cv] 81 (0, 0)) := heap_set_lit (cur := #[.bool y.wiped, v3]) F6.out rfl
       have r4 := (HU.out.chg ((HCT.out.trans0 HN1.out.2.2).alloc (.cells #[.int .i64 z.stamp, .slice p3 m3 d3] 32)) (by omega)).setCell ⟨wi.heap.size, 1, none⟩ (.slice pv lv cv) (.inr (by simp))
       have HR := Lib.hid (And.intro r1 (And.intro r3 r4))
       clear r1 r3 r4
       go_wp2_with fail
       go_roundw
       case rel => exact ⟨i + 1, .slice pv lv cv, _, rfl, by omega, by go_num, HR.out.1, HR.out.2.1, HR.out.2.2⟩
       case measure => simp [intOf]; omega
      ·obtain rfl : i = l2 := by omega
       rw [List.take_of_length_le (by have := LY.out; omega)] at hgt
       obtain ⟨p3, d3, g3, rfl, hs, hf⟩ := hgt.sl
       rw [← LY.out] at hs hbt ct
       have HLL : RowKit.Hid ((g.take j).length + [y].length ≤ maxLen ∧ ((g.take j).length + [y].length) * 32 ≤ 140737488355328) := by
        refine ⟨?_, ?_⟩ <;> simp only [List.length_take, List.length_cons, List.length_nil, maxLen] <;> omega
       have HNX := Lib.hid (take_next HYI.out)
       have HN1 := Lib.hid (And.intro hs (And.intro (hf.mono (C := wi.heap.size) (by omega)) hct))
       clear hs hf hct hbt hgt
       go_wp2_with (at_builtin; refine drvL.wpList_grow rfl _ _ 82 rfl Tryz.underlying82 KD rfl HGI.out (HN1.out.2.2.alloc (.cells #[.bool y.wiped, .slice p3 i d3] 81)) ⟨wt.heap.size, 0, none⟩ 1 1 [.bool y.wiped, .slice p3 i d3] (ys := [y]) (f := g3) rfl rfl (new_cells wt #[.bool y.wiped, .slice p3 i d3] 81) (drvL.all_single (drvL_iff.2 ⟨p3, i, d3, g3, rfl, blkL.sl_ext HN1.out.1 ((Chg.refl [] wt).alloc _), by simp⟩)) (HN1.out.2.1.chg ((Chg.refl [] wt).alloc (.cells #[.bool y.wiped, .slice p3 i d3] 81))) HLL.out.1 HLL.out.2 ?_; intro v' w' hg'; rw [← HNX.out] at hg'; have HG2 := Lib.hid hg'; clear hg')
       go_roundw
       case rel => exact ⟨j + 1, _, rfl, by omega, by go_num, HG2.out⟩
       case measure => simp [intOf]; omega
    ·obtain rfl : j = lg := by omega
     rw [List.take_of_length_le (by have := LG.out; omega)] at hgi
     obtain ⟨p9, c9, f9, h1, hs9, hf9, hc9⟩ := hgi.sl
     subst h1
     have HN9 := Lib.hid (And.intro hs9 (And.intro hf9 hc9))
     rw [← LG.out] at HN9 ⊢
     have E2 := Lib.hid (hc9.keep0 D2.out)
     have e3 := cellsOf E3.out; have n3' := ltOf E3.out
     have HLL : RowKit.Hid ((x.groups.take k).length + [g].length ≤ maxLen ∧ ((x.groups.take k).length + [g].length) * 24 ≤ 140737488355328) := by
      refine ⟨?_, ?_⟩ <;> simp only [List.length_take, List.length_cons, List.length_nil, maxLen] <;> omega
     have HNX := Lib.hid (take_next HXI.out)
     clear hs9 hf9 hc9 hgi
     go_wp2_with (at_builtin; refine GrowB.wpList rfl _ _ 37 rfl Tryz.underlying37 KS rfl (HG.out.b.ext (HN9.out.2.2.alloc (.cells #[.slice p9 j c9] 82))) ⟨wi.heap.size, 0, none⟩ 1 1 [.slice p9 j c9] (ys := [g]) (f := f9) rfl rfl (new_cells wi #[.slice p9 j c9] 82) (drvL.slice.all_single ⟨p9, j, c9, rfl, drvL.sl_ext HN9.out.1 ((Chg.refl [] wi).alloc _)⟩) (HN9.out.2.1.chg ((Chg.refl [] wi).alloc (.cells #[.slice p9 j c9] 82))) HLL.out.1 HLL.out.2 ?_; intro v' w3 hg' hup; rw [← HNX.out] at hg'; obtain ⟨pv, lv, cv, rfl⟩ : ∃ a l c, v' = Value.slice a l c := (by obtain ⟨a, c, f, h, -⟩ := hg'.sl; exact ⟨a, _, c, h⟩); have HG2 := Lib.hid hg'; have HU := Lib.hid hup; have E4 := Lib.hid ((hup.low (w.heap.size + 2) (by omega)).trans (keep_alloc E3.out _)); have e4 := cellsOf E4.out; have n4 := ltOf E4.out; have z4 := freeOf E4.out; have E5 := Lib.hid ((hup.low w.heap.size (by omega)).trans (keep_alloc E1.out _)); have E6 := Lib.hid ((hup.low (w.heap.size + 1) (by omega)).trans (keep_alloc E2.out _)); clear hg' hup)
     have r1 := HG2.out.chg ((Chg.refl [w.heap.size + 2] w3).setCell ⟨w.heap.size + 2, 9, none⟩ (.slice pv lv cv) (.inl (by simp))) (by simp)
     have r2 := keep_set E5.out ⟨w.heap.size + 2, 9, none⟩ (.slice pv lv cv) (by simp)
     have r3 := keep_set E6.out ⟨w.heap.size + 2, 9, none⟩ (.slice pv lv cv) (by simp)
     have r4 : (w3.setCell ⟨w.heap.size + 2, 9, none⟩ (.slice pv lv cv)).heap[w.heap.size + 2]? = some (.cells #[.int .i64 x.shape.groups, .int .i64 x.shape.column, .int .i64 x.shape.data, .int .i64 x.shape.spare, .int .i64 x.shape.rows, .int .i64 x.shape.cap, .int .i64 x.shape.batch, .int .i64 x.shape.queue, .int .i64 x.shape.stage, .slice pv lv cv, .slice a11 l11 c11, .slice a12 l12 c12, .int .i64 x.writes, .int .i64 x.stop, .bool x.down] 40 (0, 0)) := heap_set_lit (cur := #[.int .i64 x.shape.groups, .int .i64 x.shape.column, .int .i64 x.shape.data, .int .i64 x.shape.spare, .int .i64 x.shape.rows, .int .i64 x.shape.cap, .int .i64 x.shape.batch, .int .i64 x.shape.queue, .int .i64 x.shape.stage, v, .slice a11 l11 c11, .slice a12 l12 c12, .int .i64 x.writes, .int .i64 x.stop, .bool x.down]) E4.out rfl
     have r5 := (HU.out.chg (HC.out.trans0 (HN9.out.2.2.alloc (.cells #[.slice p9 j c9] 82))) (by omega)).setCell ⟨w.heap.size + 2, 9, none⟩ (.slice pv lv cv) (.inr (by simp))
     have HR := Lib.hid (And.intro r1 (And.intro r2 (And.intro r3 (And.intro r4 r5))))
     clear r1 r2 r3 r4 r5
     go_roundw
     case rel => exact ⟨k + 1, .slice pv lv cv, _, rfl, by omega, by go_num, HR.out.1, HR.out.2.1, HR.out.2.2.1, HR.out.2.2.2.1, HR.out.2.2.2.2⟩
     case measure => simp [intOf]; omega
  ·obtain rfl : k = l10 := by omega
   rw [List.take_of_length_le (by have := L10.out; omega)] at hg
   obtain ⟨p10, d10, g10, rfl, hs, hf⟩ := hg.sl
   rw [← L10.out] at hs D3
   have HGR := Lib.hid (And.intro hs (And.intro hf hc))
   have s0 : w.heap.size + 3 ≤ wr.heap.size := ltOf D3.out
   have HLN : RowKit.Hid (([] : List Int).length + x.on.length ≤ maxLen ∧ (([] : List Int).length + x.on.length) * 8 ≤ 140737488355328) := by
    have := L11.out
    refine ⟨?_, ?_⟩ <;> simp only [List.length_nil, maxLen] <;> omega
   clear hg hs hf hb1 hb2 hb3 hc c1 n1 n3
   have c1 := cellsOf D1.out; have n1 := ltOf D1.out
   go_wp2_with (at_builtin; refine intL.wpList_growS int_flat rfl _ _ 25 rfl Tryz.underlying25 KI rfl (Grow.made (Chg.refl [] wr)) (Chg.refl [] _) rfl (intL.sl_ext H11.out (HGR.out.2.2.alloc _)) HLN.out.1 HLN.out.2 ?_; intro v' w1 hg'; obtain ⟨p11, d11, g11, rfl, hs, hf, hc⟩ := hg'.sl; rw [List.nil_append, ← L11.out] at hs ⊢; clear c1 n1; obtain ⟨c1, n1, A1⟩ := bk hc D1.out (by simp); obtain ⟨c2, n2, A2⟩ := bk hc D2.out (by simp); obtain ⟨c3, n3, A3⟩ := bk hc D3.out (by simp); have fz := freeOf A3.out; have HON := Lib.hid (And.intro hs (And.intro hf hc)); clear hs hf hc hg')
   go_loopw [9] (fun vi wt => ∃ (i : Nat) (v : Value) (Wt : World), Wt = wt ∧ i ≤ l12 ∧ vi = .int .i64 i ∧ GrowC tapO 100 w1.heap.size wt v (x.tapes.take i) ∧ wt.heap[w.heap.size + 2]? = some (.cells #[.int .i64 x.shape.groups, .int .i64 x.shape.column, .int .i64 x.shape.data, .int .i64 x.shape.spare, .int .i64 x.shape.rows, .int .i64 x.shape.cap, .int .i64 x.shape.batch, .int .i64 x.shape.queue, .int .i64 x.shape.stage, .slice p10 k d10, .slice p11 l11 d11, v, .int .i64 x.writes, .int .i64 x.stop, .bool x.down] 40 (0, 0)) ∧ Chg [w.heap.size + 2] w1 wt) (fun vi _ => l12 - (intOf vi).toNat)
   case atStart => exact ⟨0, .slice none 0 0, _, rfl, by omega, rfl, by rw [List.take_zero]; exact GrowC.nil (by simp), heap_set_lit (cur := #[.int .i64 x.shape.groups, .int .i64 x.shape.column, .int .i64 x.shape.data, .int .i64 x.shape.spare, .int .i64 x.shape.rows, .int .i64 x.shape.cap, .int .i64 x.shape.batch, .int .i64 x.shape.queue, .int .i64 x.shape.stage, .slice p10 k d10, .slice p11 l11 d11, .slice a12 l12 c12, .int .i64 x.writes, .int .i64 x.stop, .bool x.down]) (heap_set_lit (cur := #[.int .i64 x.shape.groups, .int .i64 x.shape.column, .int .i64 x.shape.data, .int .i64 x.shape.spare, .int .i64 x.shape.rows, .int .i64 x.shape.cap, .int .i64 x.shape.batch, .int .i64 x.shape.queue, .int .i64 x.shape.stage, .slice p10 k d10, .slice a11 l11 c11, .slice a12 l12 c12, .int .i64 x.writes, .int .i64 x.stop, .bool x.down]) A3.out rfl) rfl, ((Chg.refl _ _).setCell _ _ (.inl (by simp))).setCell _ _ (.inl (by simp))⟩
   case round =>
    clear c1 n1 c2 n2 c3 n3 fz
    obtain ⟨i, v, wt, rfl, hi, rfl, hg, hb3, hc⟩ := hrel
    have hcw : Chg [] w w1 := HGR.out.2.2.trans0 HON.out.2.2
    have hcw2 : Chg [] w wt := hcw.trans hc (by simp)
    have E1 := Lib.hid (hc.keepb A1.out (by simp)); have E2 := Lib.hid (hc.keepb A2.out (by simp)); have E3 := Lib.hid hb3
    have m3 : w.heap.size + 2 < w1.heap.size := ltOf A3.out
    have c1 := cellsOf E1.out; have n1 := ltOf E1.out
    by_cases hlt : i < l12
    ·obtain ⟨y, b, off, a2, l2, c2, f2, HY, rfl, hy0, hy1, HYS⟩ := tape_at (tapL.sl_ext H12.out hcw2) hlt
     have HG := Lib.hid hg; have HC := Lib.hid hc
     have HYI := Lib.hid HY.out.1
     have hbw : b < wt.heap.size := Lay.sl_lt _ (tapL.sl_ext H12.out hcw2) b HY.out.2.1
     obtain ⟨_, _, _, _, exb, hby, -⟩ := tapL_iff.1 HYS.out
     obtain ⟨q1, q2, q3⟩ := Value.slice.inj (List.cons.inj (List.cons.inj exb).2).1
     subst q1 q2 q3
     have HYZ := Lib.hid (Z12.out y (List.mem_of_getElem? HYI.out) : totL totRec y.recs ≤ 1048576)
     have HBY := Lib.hid hby
     have LB := Lib.hid hby.1.symm
     have K1 := Lib.hid hy0; have K2 := Lib.hid hy1
     have HLL : RowKit.Hid ((x.tapes.take i).length + [y].length ≤ maxLen ∧ ((x.tapes.take i).length + [y].length) * 32 ≤ 140737488355328) := by
      refine ⟨?_, ?_⟩ <;> simp only [List.length_take, List.length_cons, List.length_nil, maxLen] <;> omega
     have HNX := Lib.hid (take_next HYI.out)
     have HCW := Lib.hid hcw
     clear hg hb3 hc HY exb hby HYS hcw2 hcw
     go_wp2_with fail
     obtain ⟨CC, HCI, HCO⟩ := rg_cond (fun w' => Know w.heap.size #[.int .i64 x.shape.groups, .int .i64 x.shape.column, .int .i64 x.shape.data, .int .i64 x.shape.spare, .int .i64 x.shape.rows, .int .i64 x.shape.cap, .int .i64 x.shape.batch, .int .i64 x.shape.queue, .int .i64 x.shape.stage, .slice a10 k c10, .slice a11 l11 c11, .slice (some ⟨b, off, none⟩) l12 c12, .int .i64 x.writes, .int .i64 x.stop, .bool x.down] w' ∧ Know (w.heap.size + 2) #[.int .i64 x.shape.groups, .int .i64 x.shape.column, .int .i64 x.shape.data, .int .i64 x.shape.spare, .int .i64 x.shape.rows, .int .i64 x.shape.cap, .int .i64 x.shape.batch, .int .i64 x.shape.queue, .int .i64 x.shape.stage, .slice p10 k d10, .slice p11 l11 d11, v, .int .i64 x.writes, .int .i64 x.stop, .bool x.down] w' ∧ w'.cell? ⟨b, off + i * 2, none⟩ = some (.bool y.wiped) ∧ w'.cell? ⟨b, off + i * 2 + 1, none⟩ = some (.slice a2 l2 c2))
     refine gg_start [17] CC (by kernel_rfl) (HCI.out _ ⟨(Know.of (keep_drew E1.out)), (Know.of (keep_drew E3.out)), K1.out, K2.out⟩) (fun hcl hS => ?_)
     refine ggT 0 hcl hS ?_; clear hcl hS; intro hcl hS
     refine ggL 1 hcl hS HCO ?_; clear hcl hS; intro hcl hS
     refine ggT 2 hcl hS ?_; clear hcl hS; intro hcl hS
     refine ggL 3 hcl hS HCO ?_; clear hcl hS; intro hcl hS
     refine ggT 4 hcl hS ?_; clear hcl hS; intro hcl hS
     refine ggT 5 hcl hS ?_; clear hcl hS; intro hcl hS
     refine ggT 6 hcl hS ?_; clear hcl hS; intro hcl hS
     refine ggL 7 hcl hS HCO ?_; clear hcl hS; intro hcl hS
     refine ggT 8 hcl hS ?_; clear hcl hS; intro hcl hS
     refine ggL 9 hcl hS HCO ?_; clear hcl hS; intro hcl hS
     refine ggT 10 hcl hS ?_; clear hcl hS; intro hcl hS
     refine ggT 11 hcl hS ?_; clear hcl hS; intro hcl hS
     refine ggT 12 hcl hS ?_; clear hcl hS; intro hcl hS
     refine ggL 13 hcl hS HCO ?_; clear hcl hS; intro hcl hS
     refine ggC 14 hcl rfl (by kernel_rfl) (fun K hK => ?_)
     go_simp
     go_at_call 121
     refine (l5CopyRecs_gr a2 l2 c2 y.recs _ _ (recL.sl_ext HBY.out ((Chg.refl [] wt).drew)) HYZ.out).mono ?_; rintro e w4 ⟨vv, rfl, hd2, fps2, ho, hf, hc⟩
     obtain ⟨p2, d2, rfl, -⟩ := recL.os_sl ho
     rw [LB.out] at ho ⊢; have HN1 := Lib.hid (And.intro ho (And.intro (hf.mono (C := wt.heap.size) (Nat.le_refl _)) (((Chg.refl [] wt).drew).trans0 hc))); obtain ⟨-, -, F3⟩ := bk hc (keep_drew E1.out) (by simp); obtain ⟨-, -, F4⟩ := bk hc (keep_drew E3.out) (by simp); have k1 := Lib.hid (cellKeep HN1.out.2.2 K1.out hbw); have k2 := Lib.hid (cellKeep HN1.out.2.2 K2.out hbw); have ql := HN1.out.2.2.size; clear ho hf hc
     go_wp2_with fail
     refine hK.out _ _ (fun _ => HCI.out _ ⟨(Know.of F3.out), (Know.of F4.out), k1.out, k2.out⟩) ?_
     clear hK K hcl hS
     intro hcl hS
     try simp only [Act.put, List.setIfInBounds_toArray, List.set_cons_zero, List.set_cons_succ]
     refine ggT 15 hcl hS ?_; clear hcl hS; intro hcl hS
     refine ggC 16 hcl rfl (by kernel_rfl) (fun K hK => ?_)
     go_simp
     refine hK.out _ _ (fun _ => HCI.out _ ⟨(Know.of (keep_alloc F3.out _)), (Know.of (keep_alloc F4.out _)), (cellKeep ((Chg.refl [] w4).alloc _) k1.out (by omega)), (cellKeep ((Chg.refl [] w4).alloc _) k2.out (by omega))⟩) ?_
     clear hK K hcl hS
     intro hcl hS
     try simp only [Act.put, List.setIfInBounds_toArray, List.set_cons_zero, List.set_cons_succ]
     refine ggC 17 hcl rfl (by kernel_rfl) (fun K hK => ?_)
     refine GrowB.step (L := tapO) rfl _ _ 38 rfl Tryz.underlying38 KT rfl (HG.out.b.ext (HN1.out.2.2.alloc (.cells #[.bool y.wiped, .slice p2 l2 d2] 100))) ⟨w4.heap.size, 0, none⟩ 1 1 [.bool y.wiped, .slice p2 l2 d2] (ys := [y]) (f := hd2.toList ++ fps2) rfl rfl (new_cells w4 #[.bool y.wiped, .slice p2 l2 d2] 100) (tapO.all_single (tapO_iff.2 ⟨_, hd2, fps2, rfl, recL.os_ext HN1.out.1 ((Chg.refl [] w4).alloc _), rfl⟩)) (HN1.out.2.1.chg ((Chg.refl [] w4).alloc _)) HLL.out.1 HLL.out.2 ?_
     intro v' w5 hg' hup
     rw [← HNX.out] at hg'
     obtain ⟨pv, lv, cv, rfl⟩ : ∃ a l c, v' = Value.slice a l c := by obtain ⟨a, c, f, h, -⟩ := hg'.sl; exact ⟨a, _, c, h⟩
     have HG2 := Lib.hid hg'; have HU := Lib.hid hup
     have F5 := Lib.hid ((hup.low (w.heap.size + 2) m3).trans (keep_alloc F4.out _)); have k5 := cellsOf F5.out; have n5 := ltOf F5.out; have z5 := freeOf F5.out; clear hg' hup
     refine hK.out _ _ (Till.done (m := 17) (by simp) (by rfl)) ?_
     clear hK K hcl hS
     intro hcl hS
     try simp only [Act.put, List.setIfInBounds_toArray, List.set_cons_zero, List.set_cons_succ]
     refine ggT 18 hcl hS ?_; clear hcl hS; intro hcl hS
     refine ggC 19 hcl rfl (by kernel_rfl) (fun K hK => ?_)
     go_simp
     refine hK.out _ _ (Till.done (m := 17) (by simp) (by rfl)) ?_
     clear hK K hcl hS
     intro hcl hS
     try simp only [Act.put, List.setIfInBounds_toArray, List.set_cons_zero, List.set_cons_succ]
     refine ggEnd (by kernel_rfl) ?_ _
     have r1 := HG2.out.chg ((Chg.refl [w.heap.size + 2] w5).setCell ⟨w.heap.size + 2, 11, none⟩ (.slice pv lv cv) (.inl (by simp))) (by simp; omega)
     have r3 : (w5.setCell ⟨w.heap.size + 2, 11, none⟩ (.slice pv lv cv)).heap[w.heap.size + 2]? = some (.cells #[.int .i64 x.shape.groups, .int .i64 x.shape.column, .int .i64 x.shape.data, .int .i64 x.shape.spare, .int .i64 x.shape.rows, .int .i64 x.shape.cap, .int .i64 x.shape.batch, .int .i64 x.shape.queue, .int .i64 x.shape.stage, .slice p10 k d10, .slice p11 l11 d11, .slice pv lv cv, .int .i64 x.writes, .int .i64 x.stop, .bool x.down] 40 (0, 0)) := heap_set_lit (cur := #[.int .i64 x.shape.groups, .int .i64 x.shape.column, .int .i64 x.shape.data, .int .i64 x.shape.spare, .int .i64 x.shape.rows, .int .i64 x.shape.cap, .int .i64 x.shape.batch, .int .i64 x.shape.queue, .int .i64 x.shape.stage, .slice p10 k d10, .slice p11 l11 d11, v, .int .i64 x.writes, .int .i64 x.stop, .bool x.down]) F5.out rfl
     have r4 := (HU.out.chg (HC.out.trans0 (HN1.out.2.2.alloc (.cells #[.bool y.wiped, .slice p2 l2 d2] 100))) (Nat.le_refl _)).setCell ⟨w.heap.size + 2, 11, none⟩ (.slice pv lv cv) (.inl (by simp))
     have HR := Lib.hid (And.intro r1 (And.intro r3 r4))
     clear r1 r3 r4
     go_wp2_with fail
     go_roundw
     case rel => exact ⟨i + 1, .slice pv lv cv, _, rfl, by omega, by go_num, HR.out.1, HR.out.2.1, HR.out.2.2⟩
     case measure => simp [intOf]; omega
    ·obtain rfl : i = l12 := by omega
     rw [List.take_of_length_le (by have := L12.out; omega)] at hg
     obtain ⟨p12, d12, g12, rfl, hs, hf⟩ := hg.sl
     rw [← L12.out] at hs E3
     have e3 := cellsOf E3.out; have m3' := ltOf E3.out; have e2 := cellsOf E2.out; have m2 := ltOf E2.out; have fz2 := freeOf E2.out
     have hq := row15_back (.int .i64 x.shape.groups) (.int .i64 x.shape.column) (.int .i64 x.shape.data) (.int .i64 x.shape.spare) (.int .i64 x.shape.rows) (.int .i64 x.shape.cap) (.int .i64 x.shape.batch) (.int .i64 x.shape.queue) (.int .i64 x.shape.stage) (.slice p10 k d10) (.slice p11 l11 d11) (.slice p12 i d12) (.int .i64 x.writes) (.int .i64 x.stop) (.bool x.down) E2.out
     have cS : Chg [w.heap.size + 1] wt (((((((((((((((wt.setCell ⟨w.heap.size + 1, 0, none⟩ (.int .i64 x.shape.groups)).setCell ⟨w.heap.size + 1, 1, none⟩ (.int .i64 x.shape.column)).setCell ⟨w.heap.size + 1, 2, none⟩ (.int .i64 x.shape.data)).setCell ⟨w.heap.size + 1, 3, none⟩ (.int .i64 x.shape.spare)).setCell ⟨w.heap.size + 1, 4, none⟩ (.int .i64 x.shape.rows)).setCell ⟨w.heap.size + 1, 5, none⟩ (.int .i64 x.shape.cap)).setCell ⟨w.heap.size + 1, 6, none⟩ (.int .i64 x.shape.batch)).setCell ⟨w.heap.size + 1, 7, none⟩ (.int .i64 x.shape.queue)).setCell ⟨w.heap.size + 1, 8, none⟩ (.int .i64 x.shape.stage)).setCell ⟨w.heap.size + 1, 9, none⟩ (.slice p10 k d10)).setCell ⟨w.heap.size + 1, 10, none⟩ (.slice p11 l11 d11)).setCell ⟨w.heap.size + 1, 11, none⟩ (.slice p12 i d12)).setCell ⟨w.heap.size + 1, 12, none⟩ (.int .i64 x.writes)).setCell ⟨w.heap.size + 1, 13, none⟩ (.int .i64 x.stop)).setCell ⟨w.heap.size + 1, 14, none⟩ (.bool x.down)) := chg15 (.int .i64 x.shape.groups) (.int .i64 x.shape.column) (.int .i64 x.shape.data) (.int .i64 x.shape.spare) (.int .i64 x.shape.rows) (.int .i64 x.shape.cap) (.int .i64 x.shape.batch) (.int .i64 x.shape.queue) (.int .i64 x.shape.stage) (.slice p10 k d10) (.slice p11 l11 d11) (.slice p12 i d12) (.int .i64 x.writes) (.int .i64 x.stop) (.bool x.down) (Chg.refl _ wt) (.inl (by simp))
     have s1 := HON.out.2.2.size
     have n10 := fun T (hT : ∀ b ∈ T, b < w.heap.size + 3) => HGR.out.2.1.nots T hT
     have n11 := fun T (hT : ∀ b ∈ T, b < wr.heap.size) => HON.out.2.1.nots T hT
     have K10 := drvL.slice.sl_chg (drvL.slice.sl_chg (drvL.slice.sl_ext HGR.out.1 HON.out.2.2) hc (n10 _ (by simp))) cS (n10 _ (by simp))
     have K11 := intL.sl_chg (intL.sl_chg HON.out.1 hc (n11 _ (by simp; omega))) cS (n11 _ (by simp; omega))
     have K12 := tapO.sl_chg hs cS (hf.nots _ (by simp; omega))
     have FF : Fresh w.heap.size (((((((((((((((wt.setCell ⟨w.heap.size + 1, 0, none⟩ (.int .i64 x.shape.groups)).setCell ⟨w.heap.size + 1, 1, none⟩ (.int .i64 x.shape.column)).setCell ⟨w.heap.size + 1, 2, none⟩ (.int .i64 x.shape.data)).setCell ⟨w.heap.size + 1, 3, none⟩ (.int .i64 x.shape.spare)).setCell ⟨w.heap.size + 1, 4, none⟩ (.int .i64 x.shape.rows)).setCell ⟨w.heap.size + 1, 5, none⟩ (.int .i64 x.shape.cap)).setCell ⟨w.heap.size + 1, 6, none⟩ (.int .i64 x.shape.batch)).setCell ⟨w.heap.size + 1, 7, none⟩ (.int .i64 x.shape.queue)).setCell ⟨w.heap.size + 1, 8, none⟩ (.int .i64 x.shape.stage)).setCell ⟨w.heap.size + 1, 9, none⟩ (.slice p10 k d10)).setCell ⟨w.heap.size + 1, 10, none⟩ (.slice p11 l11 d11)).setCell ⟨w.heap.size + 1, 11, none⟩ (.slice p12 i d12)).setCell ⟨w.heap.size + 1, 12, none⟩ (.int .i64 x.writes)).setCell ⟨w.heap.size + 1, 13, none⟩ (.int .i64 x.stop)).setCell ⟨w.heap.size + 1, 14, none⟩ (.bool x.down)) (g10 ++ (g11 ++ (g12 ++ []))) := by
      rw [List.append_nil]
      exact ((((HGR.out.2.1.chg HON.out.2.2).chg hc).chg cS).append (((HON.out.2.1.chg hc).chg cS).append (hf.chg cS) HON.out.2.1.lts s1) HGR.out.2.1.lts s0).mono (by omega)
     have hch : Chg [] w _ := hcw2.trans cS (fun y hy => .inr (by rw [List.mem_singleton] at hy; omega))
     obtain ⟨o1, o2, o3, o4, o5, o6, o7, o8, o9, o13, o14⟩ := HO.out
     have HN := Lib.hid (show NewTp x w (.returned (.agg #[.int .i64 x.shape.groups, .int .i64 x.shape.column, .int .i64 x.shape.data, .int .i64 x.shape.spare, .int .i64 x.shape.rows, .int .i64 x.shape.cap, .int .i64 x.shape.batch, .int .i64 x.shape.queue, .int .i64 x.shape.stage, .slice p10 k d10, .slice p11 l11 d11, .slice p12 i d12, .int .i64 x.writes, .int .i64 x.stop, .bool x.down])) _ from ⟨p10, k, d10, g10, p11, l11, d11, g11, p12, i, d12, g12, rfl, ⟨o1, o2, o3, o4, o5, o6, o7, o8, o9, o13, o14⟩, K10, K11, K12, FF, hch⟩)
     have HQC := Lib.hid (cellsOf hq)
     clear hs hf hb3 hc hg hq cS s1 n11 n10 K10 K11 K12 FF hch hcw hcw2 o1 o2 o3 o4 o5 o6 o7 o8 o9 o13 o14
     go_wp2_with fail
     have hqc := HQC.out
     refine bodyPost_ret (v := .agg #[.int .i64 x.shape.groups, .int .i64 x.shape.column, .int .i64 x.shape.data, .int .i64 x.shape.spare, .int .i64 x.shape.rows, .int .i64 x.shape.cap, .int .i64 x.shape.batch, .int .i64 x.shape.queue, .int .i64 x.shape.stage, .slice p10 k d10, .slice p11 l11 d11, .slice p12 i d12, .int .i64 x.writes, .int .i64 x.stop, .bool x.down]) (by simp [results, Tryz.results77, go_sem, hqc]) rfl HN.out

end Go.Proofs.YtnnhopcjlnnchaaGreat
