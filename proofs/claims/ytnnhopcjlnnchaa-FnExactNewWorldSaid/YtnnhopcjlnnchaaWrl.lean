
/- Marks and finds of whole worlds; results that hold a world: equal, marked, found again. -/
import Derived.Test.YtnnhopcjlnnchaaRows
import Derived.Test.YtnnhopcjlnnchaaHld
import Derived.Test.YtnnhopcjlnnchaaWhW
namespace Go.Proofs.Ytnnhopcjlnnchaa
open Go.RowKit

set_option maxRecDepth 100000 in
set_option maxHeartbeats 2000000 in
theorem markWorld_any (x : Wld) (cx : Array Value) (fx : List Nat) (k : Int) (w : World) (hx : wldL.rep w cx.toList x fx) (hf : Fresh 0 w fx) (hk : 0 ≤ k) (hk2 : k + cntWld x ≤ 4611686018427387904) :
    Calls Try.prog 24 #[.agg cx, .int .i64 k] w fun e w' => e = .returned (.int .i64 (k + cntWld x)) ∧ wldL.rep w' cx.toList (mvWld k x) fx ∧ Chg fx w w' := by
  obtain ⟨a10, l10, c10, f10, a11, l11, c11, f11, a12, l12, c12, f12, ex, o1, o2, o3, o4, o5, o6, o7, o8, o9, h10, h11, h12, o13, o14, efp⟩ := wldL_iff.1 hx
  obtain rfl := Array.toList_inj.1 (ex.trans (List.toList_toArray).symm)
  rw [List.append_nil] at efp
  subst efp
  have hbx : w.heap.size ∉ f10 ++ (f11 ++ f12) := fun h => Nat.lt_irrefl _ (Lay.lt wldL hx _ (by simpa using h))
  obtain ⟨q10, hq10⟩ : ∃ q, q = sumI cntDrvs x.groups := ⟨_, rfl⟩
  obtain ⟨q12, hq12⟩ : ∃ q, q = sumI cntTap x.tapes := ⟨_, rfl⟩
  have n10 : 0 ≤ q10 := by rw [hq10]; exact sumI_nonneg cntDrvs_nonneg _
  have n12 : 0 ≤ q12 := by rw [hq12]; exact sumI_nonneg cntTap_nonneg _
  have t11 : totIs x.on = (l11 : Int) := by unfold totIs; rw [h11.1]
  have hcw : cntWld x = q10 + l11 + q12 := by unfold cntWld; rw [t11, hq10, hq12]
  have ndA := List.nodup_append.1 hf.1
  have ndB := List.nodup_append.1 ndA.2.1
  have lo10 : ∀ y ∈ f10, 0 ≤ y ∧ Loose (w.alloc (.cells #[.int .i64 x.shape.groups, .int .i64 x.shape.column, .int .i64 x.shape.data, .int .i64 x.shape.spare, .int .i64 x.shape.rows, .int .i64 x.shape.cap, .int .i64 x.shape.batch, .int .i64 x.shape.queue, .int .i64 x.shape.stage, .slice a10 l10 c10, .slice a11 l11 c11, .slice a12 l12 c12, .int .i64 x.writes, .int .i64 x.stop, .bool x.down] 29)) y := fun y hy => ⟨Nat.zero_le _, (hf.2 y (by simp [hy])).2.alloc _⟩
  have LO := Lib.hid (fun y hy => (hf.2 y hy).2 : ∀ y ∈ f10 ++ (f11 ++ f12), Loose w y)
  have D := Lib.hid (And.intro (fun y hy hy6 => ndA.2.2 y hy6 y (by simp [hy]) rfl : ∀ y ∈ f11, y ∉ f10) (And.intro (fun y hy hy6 => ndA.2.2 y hy6 y (by simp [hy]) rfl : ∀ y ∈ f12, y ∉ f10) (fun y hy hy7 => ndB.2.2 y hy7 y hy rfl : ∀ y ∈ f12, y ∉ f11)))
  have HI10 := Lib.hid (markDriveSS_any a10 l10 c10 x.groups f10 k _ (drvL.slice.sl_ext h10 ((Chg.refl [] w).alloc (.cells #[.int .i64 x.shape.groups, .int .i64 x.shape.column, .int .i64 x.shape.data, .int .i64 x.shape.spare, .int .i64 x.shape.rows, .int .i64 x.shape.cap, .int .i64 x.shape.batch, .int .i64 x.shape.queue, .int .i64 x.shape.stage, .slice a10 l10 c10, .slice a11 l11 c11, .slice a12 l12 c12, .int .i64 x.writes, .int .i64 x.stop, .bool x.down] 29))) ⟨ndA.1, lo10⟩ hk (by omega))
  rw [← hq10] at HI10
  have H11 := Lib.hid h11; have H12 := Lib.hid h12
  have HO := Lib.hid (And.intro o1 (And.intro o2 (And.intro o3 (And.intro o4 (And.intro o5 (And.intro o6 (And.intro o7 (And.intro o8 (And.intro o9 (And.intro o13 o14))))))))))
  have HB := Lib.hid hbx
  have HND := Lib.hid (And.intro ndB.1 ndB.2.1)
  have HW := Lib.hid hcw; have HQ := Lib.hid (And.intro hq10 (And.intro hq12 t11))
  have hbd : k + q10 + l11 + q12 ≤ 4611686018427387904 := by omega
  clear hx hf hk2 ex o1 o2 o3 o4 o5 o6 o7 o8 o9 o13 o14 h10 h11 h12 hbx ndA ndB lo10 hq10 hq12 t11 hcw
  go_enter Try.func24, Try.ntmps24
  go_wp2_with fail
  refine HI10.out.mono ?_
  rintro e w1 ⟨rfl, hs1, hc1⟩
  have hP := hc1.keepb (new_alloc w _) (fun h => HB.out (by simp [h]))
  have cP := cellsOf hP; have lP := ltOf hP; have HP := Lib.hid hP
  have g0 : Chg [] w (w.alloc (.cells #[.int .i64 x.shape.groups, .int .i64 x.shape.column, .int .i64 x.shape.data, .int .i64 x.shape.spare, .int .i64 x.shape.rows, .int .i64 x.shape.cap, .int .i64 x.shape.batch, .int .i64 x.shape.queue, .int .i64 x.shape.stage, .slice a10 l10 c10, .slice a11 l11 c11, .slice a12 l12 c12, .int .i64 x.writes, .int .i64 x.stop, .bool x.down] 29)) := (Chg.refl [] w).alloc _
  have HI11 := Lib.hid (markI_any a11 l11 c11 x.on f11 (k + q10) w1 (intL.sl_chg (intL.sl_ext H11.out g0) hc1 D.out.1) ⟨HND.out.1, fun y hy => ⟨Nat.zero_le _, hc1.loose y ((LO.out y (by simp [hy])).alloc _)⟩⟩ (by omega) (by omega))
  have H12' := Lib.hid (tapL.sl_chg (tapL.sl_ext H12.out g0) hc1 D.out.2.1)
  have HC1 := Lib.hid ((g0.mono (T := f10) (by simp)).trans hc1 (fun x hx => .inl hx))
  have HC1' := Lib.hid hc1
  have HS1 := Lib.hid hs1
  clear hs1 hc1 hP g0
  go_wp2_with fail
  refine HI11.out.mono ?_
  rintro e w2 ⟨rfl, hs2, hc2⟩
  have hP := hc2.keepb HP.out (fun h => HB.out (by simp [h]))
  clear cP lP HP
  have cP := cellsOf hP; have lP := ltOf hP
  have HI12 := Lib.hid (markTapeS_any a12 l12 c12 x.tapes f12 (k + q10 + l11) w2 (tapL.sl_chg H12'.out hc2 D.out.2.2) ⟨HND.out.2, fun y hy => ⟨Nat.zero_le _, hc2.loose y (HC1'.out.loose y ((LO.out y (by simp [hy])).alloc _))⟩⟩ (by omega) (by rw [← HQ.out.2.1]; omega))
  rw [← HQ.out.2.1] at HI12
  have HS1' := Lib.hid (drvL.slice.sl_chg HS1.out hc2 (fun y hy hm => D.out.1 y hm hy))
  have HS2 := Lib.hid hs2
  have HC2 := Lib.hid hc2
  clear hs2 hc2 hP
  go_wp2_with fail
  refine HI12.out.mono ?_
  rintro e w3 ⟨rfl, hs3, hc3⟩
  have r10 := drvL.slice.sl_chg HS1'.out hc3 (fun y hy hm => D.out.2.1 y hm hy)
  have r11 := intL.sl_chg HS2.out hc3 (fun y hy hm => D.out.2.2 y hm hy)
  have HL11 := Lib.hid H11.out.1
  have r11' : intL.sl w3 a11 l11 c11 (markIL (k + sumI cntDrvs x.groups) x.on.length) f11 := by rw [← HQ.out.1, ← HL11.out]; exact r11
  have r12' : tapL.sl w3 a12 l12 c12 (markL cntTap mkTap x.tapes (k + sumI cntDrvs x.groups + totIs x.on)) f12 := by rw [← HQ.out.1, HQ.out.2.2]; exact hs3
  have HR := Lib.hid (wldL_iff.2 ⟨a10, l10, c10, f10, a11, l11, c11, f11, a12, l12, c12, f12, rfl, HO.out.1, HO.out.2.1, HO.out.2.2.1, HO.out.2.2.2.1, HO.out.2.2.2.2.1, HO.out.2.2.2.2.2.1, HO.out.2.2.2.2.2.2.1, HO.out.2.2.2.2.2.2.2.1, HO.out.2.2.2.2.2.2.2.2.1, r10, r11', r12', HO.out.2.2.2.2.2.2.2.2.2.1, HO.out.2.2.2.2.2.2.2.2.2.2, (by simp)⟩ : wldL.rep w3 [.int .i64 x.shape.groups, .int .i64 x.shape.column, .int .i64 x.shape.data, .int .i64 x.shape.spare, .int .i64 x.shape.rows, .int .i64 x.shape.cap, .int .i64 x.shape.batch, .int .i64 x.shape.queue, .int .i64 x.shape.stage, .slice a10 l10 c10, .slice a11 l11 c11, .slice a12 l12 c12, .int .i64 x.writes, .int .i64 x.stop, .bool x.down] (mvWld k x) (f10 ++ (f11 ++ f12)))
  have HC := Lib.hid (((HC1.out.mono (T := f10 ++ (f11 ++ f12)) (fun y hy => .inl (by simp [hy]))).trans HC2.out (fun y hy => .inl (by simp [hy]))).trans hc3 (fun y hy => .inl (by simp [hy])))
  have HZ := Lib.hid (show k + q10 + (l11 : Int) + q12 = k + cntWld x by rw [HW.out]; omega)
  clear hs3 hc3 r10 r11 r11' r12' cP lP
  go_wp2_with fail
  go_ret
  exact ⟨ret_int HZ.out, HR.out, HC.out⟩

set_option maxRecDepth 100000 in
set_option maxHeartbeats 2000000 in
theorem heldWorld_any (x : Wld) (cx : Array Value) (fx : List Nat) (k : Int) (w : World) (hx : wldL.rep w cx.toList (mvWld k x) fx) (hk : 0 ≤ k) (hk2 : k + cntWld x ≤ 4611686018427387904) :
    Calls Try.prog 25 #[.agg cx, .int .i64 k] w fun e w' => e = .returned (.int .i64 (k + cntWld x)) ∧ Chg [] w w' := by
  obtain ⟨a10, l10, c10, f10, a11, l11, c11, f11, a12, l12, c12, f12, ex, -, -, -, -, -, -, -, -, -, h10, h11, h12, -, -, -⟩ := wldL_iff.1 hx
  obtain rfl := Array.toList_inj.1 (ex.trans (List.toList_toArray).symm)
  obtain ⟨q10, hq10⟩ : ∃ q, q = sumI cntDrvs x.groups := ⟨_, rfl⟩
  obtain ⟨q12, hq12⟩ : ∃ q, q = sumI cntTap x.tapes := ⟨_, rfl⟩
  have n10 : 0 ≤ q10 := by rw [hq10]; exact sumI_nonneg cntDrvs_nonneg _
  have n12 : 0 ≤ q12 := by rw [hq12]; exact sumI_nonneg cntTap_nonneg _
  replace h10 : drvL.slice.sl w a10 l10 c10 (markL cntDrvs mkDrvs x.groups k) f10 := h10
  replace h11 : intL.sl w a11 l11 c11 (markIL (k + sumI cntDrvs x.groups) x.on.length) f11 := h11
  replace h12 : tapL.sl w a12 l12 c12 (markL cntTap mkTap x.tapes (k + sumI cntDrvs x.groups + totIs x.on)) f12 := h12
  have hl11 : l11 = x.on.length := by rw [h11.1, markIL_length]
  have t11 : totIs x.on = (l11 : Int) := by unfold totIs; rw [hl11]
  rw [← hq10, ← hl11] at h11
  rw [← hq10, t11] at h12
  have hcw : cntWld x = q10 + l11 + q12 := by unfold cntWld; rw [t11, hq10, hq12]
  have HQ := Lib.hid (And.intro hq10 hq12)
  have hbd : k + q10 + l11 + q12 ≤ 4611686018427387904 := by omega
  have HZ := Lib.hid (show k + q10 + (l11 : Int) + q12 = k + cntWld x by rw [hcw]; omega)
  have H10 := Lib.hid h10; have H11 := Lib.hid h11; have H12 := Lib.hid h12
  have m1 : ¬ (k + q10 < 0) := by omega
  have m2 : ¬ (k + q10 + l11 < 0) := by omega
  have m3 : ¬ (k + q10 + l11 + q12 < 0) := by omega
  clear hx hk2 ex h10 h11 h12 hq10 hq12 hl11 t11 hcw
  go_enter Try.func25, Try.ntmps25
  go_wp2_with fail
  have g0 : Chg [] w (w.alloc (.cells #[.int .i64 (mvWld k x).shape.groups, .int .i64 (mvWld k x).shape.column, .int .i64 (mvWld k x).shape.data, .int .i64 (mvWld k x).shape.spare, .int .i64 (mvWld k x).shape.rows, .int .i64 (mvWld k x).shape.cap, .int .i64 (mvWld k x).shape.batch, .int .i64 (mvWld k x).shape.queue, .int .i64 (mvWld k x).shape.stage, .slice a10 l10 c10, .slice a11 l11 c11, .slice a12 l12 c12, .int .i64 (mvWld k x).writes, .int .i64 (mvWld k x).stop, .bool (mvWld k x).down] 29)) := (Chg.refl [] w).alloc _
  refine (heldDriveSS_any a10 l10 c10 x.groups f10 k _ (drvL.slice.sl_ext H10.out g0) hk (by rw [← HQ.out.1]; omega)).mono ?_
  rw [← HQ.out.1]
  rintro e w1 ⟨rfl, hc1⟩
  have hP := hc1.keep0 (new_alloc w _)
  have cP := cellsOf hP; have lP := ltOf hP; have HP := Lib.hid hP
  have HC1 := Lib.hid (g0.trans0 hc1)
  clear hc1 hP g0
  go_wp2_with fail
  refine (heldI_any a11 l11 c11 f11 (k + q10) _ (intL.sl_ext H11.out HC1.out) (by omega) (by omega)).mono ?_
  rintro e w2 ⟨rfl, hc2⟩
  have hP := hc2.keep0 HP.out
  clear cP lP HP
  have cP := cellsOf hP; have lP := ltOf hP
  have HC2 := Lib.hid (HC1.out.trans0 hc2)
  clear hc2 hP
  go_wp2_with fail
  refine (heldTapeS_any a12 l12 c12 x.tapes f12 (k + q10 + l11) _ (tapL.sl_ext H12.out HC2.out) (by omega) (by rw [← HQ.out.2]; omega)).mono ?_
  rw [← HQ.out.2]
  rintro e w3 ⟨rfl, hc3⟩
  have HC3 := Lib.hid (HC2.out.trans0 hc3)
  clear hc3 cP lP
  go_wp2_with fail
  go_ret
  exact ⟨ret_int HZ.out, HC3.out⟩

/-- a world's cells, as the walk sees them -/
theorem wrs_open {w : World} {cx : Array Value} {x : WRes} {fp : List Nat} (h : wrsL.rep w cx.toList x fp) : ∃ (a10 : Option Addr) (l10 c10 : Nat) (a11 : Option Addr) (l11 c11 : Nat) (a12 : Option Addr) (l12 c12 : Nat), cx = #[.int .i64 x.code, .int .i64 x.world.shape.groups, .int .i64 x.world.shape.column, .int .i64 x.world.shape.data, .int .i64 x.world.shape.spare, .int .i64 x.world.shape.rows, .int .i64 x.world.shape.cap, .int .i64 x.world.shape.batch, .int .i64 x.world.shape.queue, .int .i64 x.world.shape.stage, .slice a10 l10 c10, .slice a11 l11 c11, .slice a12 l12 c12, .int .i64 x.world.writes, .int .i64 x.world.stop, .bool x.world.down] ∧ i64ok x.code ∧ wldL.rep w [.int .i64 x.world.shape.groups, .int .i64 x.world.shape.column, .int .i64 x.world.shape.data, .int .i64 x.world.shape.spare, .int .i64 x.world.shape.rows, .int .i64 x.world.shape.cap, .int .i64 x.world.shape.batch, .int .i64 x.world.shape.queue, .int .i64 x.world.shape.stage, .slice a10 l10 c10, .slice a11 l11 c11, .slice a12 l12 c12, .int .i64 x.world.writes, .int .i64 x.world.stop, .bool x.world.down] x.world fp := by
  obtain ⟨rest, ex, hcode, hw⟩ := wrsL_iff.1 h
  obtain ⟨a10, l10, c10, f10, a11, l11, c11, f11, a12, l12, c12, f12, e2, _⟩ := wldL_iff.1 hw
  subst e2
  exact ⟨a10, l10, c10, a11, l11, c11, a12, l12, c12, Array.toList_inj.1 ex, hcode, hw⟩
set_option maxRecDepth 100000 in
set_option maxHeartbeats 2000000 in
theorem eqWorldResult_any (x : WRes) (cx cy : Array Value) (fx fy : List Nat) (w : World) (hx : wrsL.rep w cx.toList x fx) (hy : wrsL.rep w cy.toList x fy) :
    Calls Try.prog 8 #[.agg cx, .agg cy] w fun e w' => e = .returned (.bool true) ∧ Chg [] w w' := by
  obtain ⟨a10, l10, c10, a11, l11, c11, a12, l12, c12, rfl, -, h1⟩ := wrs_open hx
  obtain ⟨b10, m10, d10, b11, m11, d11, b12, m12, d12, rfl, -, h2⟩ := wrs_open hy
  have hcc : ((x.code : Int) != x.code) = false := by simp
  have H1 := Lib.hid h1; have H2 := Lib.hid h2
  clear hx hy h1 h2
  go_enter Try.func8, Try.ntmps8
  go_wp2_with fail
  refine (eqWorld_any x.world #[.int .i64 x.world.shape.groups, .int .i64 x.world.shape.column, .int .i64 x.world.shape.data, .int .i64 x.world.shape.spare, .int .i64 x.world.shape.rows, .int .i64 x.world.shape.cap, .int .i64 x.world.shape.batch, .int .i64 x.world.shape.queue, .int .i64 x.world.shape.stage, .slice a10 l10 c10, .slice a11 l11 c11, .slice a12 l12 c12, .int .i64 x.world.writes, .int .i64 x.world.stop, .bool x.world.down] #[.int .i64 x.world.shape.groups, .int .i64 x.world.shape.column, .int .i64 x.world.shape.data, .int .i64 x.world.shape.spare, .int .i64 x.world.shape.rows, .int .i64 x.world.shape.cap, .int .i64 x.world.shape.batch, .int .i64 x.world.shape.queue, .int .i64 x.world.shape.stage, .slice b10 m10 d10, .slice b11 m11 d11, .slice b12 m12 d12, .int .i64 x.world.writes, .int .i64 x.world.stop, .bool x.world.down] fx fy _ (wldL.ext H1.out ?_) (wldL.ext H2.out ?_)).mono ?_
  · exact ((Chg.refl [] w).alloc _).alloc _
  · exact ((Chg.refl [] w).alloc _).alloc _
  rintro e w1 ⟨rfl, hc1⟩
  have HC1 := Lib.hid ((((Chg.refl [] w).alloc _).alloc _).trans0 hc1)
  clear hc1
  go_wp2_with fail
  go_ret
  exact ⟨rfl, HC1.out⟩
set_option maxRecDepth 100000 in
set_option maxHeartbeats 2000000 in
theorem markWorldResult_any (x : WRes) (cx : Array Value) (fx : List Nat) (k : Int) (w : World) (hx : wrsL.rep w cx.toList x fx) (hf : Fresh 0 w fx) (hk : 0 ≤ k) (hk2 : k + cntWld x.world ≤ 4611686018427387904) :
    Calls Try.prog 9 #[.agg cx, .int .i64 k] w fun e w' => e = .returned (.int .i64 (k + cntWld x.world)) ∧ wrsL.rep w' cx.toList ⟨x.code, mvWld k x.world⟩ fx ∧ Chg fx w w' := by
  obtain ⟨a10, l10, c10, a11, l11, c11, a12, l12, c12, rfl, hcode, h1⟩ := wrs_open hx
  have H1 := Lib.hid h1; have HF := Lib.hid hf; have HC0 := Lib.hid hcode; have HK := Lib.hid hk2
  clear hx h1 hf hcode hk2
  go_enter Try.func9, Try.ntmps9
  go_wp2_with fail
  have g0 : Chg [] w (w.alloc (.cells #[.int .i64 x.code, .int .i64 x.world.shape.groups, .int .i64 x.world.shape.column, .int .i64 x.world.shape.data, .int .i64 x.world.shape.spare, .int .i64 x.world.shape.rows, .int .i64 x.world.shape.cap, .int .i64 x.world.shape.batch, .int .i64 x.world.shape.queue, .int .i64 x.world.shape.stage, .slice a10 l10 c10, .slice a11 l11 c11, .slice a12 l12 c12, .int .i64 x.world.writes, .int .i64 x.world.stop, .bool x.world.down] 31)) := (Chg.refl [] w).alloc _
  refine (markWorld_any x.world #[.int .i64 x.world.shape.groups, .int .i64 x.world.shape.column, .int .i64 x.world.shape.data, .int .i64 x.world.shape.spare, .int .i64 x.world.shape.rows, .int .i64 x.world.shape.cap, .int .i64 x.world.shape.batch, .int .i64 x.world.shape.queue, .int .i64 x.world.shape.stage, .slice a10 l10 c10, .slice a11 l11 c11, .slice a12 l12 c12, .int .i64 x.world.writes, .int .i64 x.world.stop, .bool x.world.down] fx k _ (wldL.ext H1.out g0) (HF.out.chg g0) hk HK.out).mono ?_
  rintro e w1 ⟨rfl, hs1, hc1⟩
  have HN := Lib.hid (And.intro (wrsL_iff.2 ⟨_, rfl, HC0.out, hs1⟩ : wrsL.rep w1 [.int .i64 x.code, .int .i64 x.world.shape.groups, .int .i64 x.world.shape.column, .int .i64 x.world.shape.data, .int .i64 x.world.shape.spare, .int .i64 x.world.shape.rows, .int .i64 x.world.shape.cap, .int .i64 x.world.shape.batch, .int .i64 x.world.shape.queue, .int .i64 x.world.shape.stage, .slice a10 l10 c10, .slice a11 l11 c11, .slice a12 l12 c12, .int .i64 x.world.writes, .int .i64 x.world.stop, .bool x.world.down] ⟨x.code, mvWld k x.world⟩ fx) ((g0.mono (T := fx) (by simp)).trans hc1 (fun x hx => .inl hx)))
  clear hs1 hc1 g0
  go_wp2_with fail
  go_ret
  exact ⟨rfl, HN.out.1, HN.out.2⟩
set_option maxRecDepth 100000 in
set_option maxHeartbeats 2000000 in
theorem heldWorldResult_any (x : WRes) (cx : Array Value) (fx : List Nat) (k : Int) (w : World) (hx : wrsL.rep w cx.toList ⟨x.code, mvWld k x.world⟩ fx) (hk : 0 ≤ k) (hk2 : k + cntWld x.world ≤ 4611686018427387904) :
    Calls Try.prog 10 #[.agg cx, .int .i64 k] w fun e w' => e = .returned (.int .i64 (k + cntWld x.world)) ∧ Chg [] w w' := by
  obtain ⟨a10, l10, c10, a11, l11, c11, a12, l12, c12, rfl, -, h1⟩ := wrs_open hx
  have H1 := Lib.hid h1; have HK := Lib.hid hk2
  have hn := cntWld_nonneg x.world
  obtain ⟨q, hq⟩ : ∃ q, q = cntWld x.world := ⟨_, rfl⟩
  have HQ := Lib.hid hq
  rw [← hq] at hn
  have m1 : ¬ (k + q < 0) := by omega
  rw [← hq]
  clear hx h1 hk2 hq
  go_enter Try.func10, Try.ntmps10
  go_wp2_with fail
  have HCI := Lib.hid (heldWorld_any x.world #[.int .i64 (mvWld k x.world).shape.groups, .int .i64 (mvWld k x.world).shape.column, .int .i64 (mvWld k x.world).shape.data, .int .i64 (mvWld k x.world).shape.spare, .int .i64 (mvWld k x.world).shape.rows, .int .i64 (mvWld k x.world).shape.cap, .int .i64 (mvWld k x.world).shape.batch, .int .i64 (mvWld k x.world).shape.queue, .int .i64 (mvWld k x.world).shape.stage, .slice a10 l10 c10, .slice a11 l11 c11, .slice a12 l12 c12, .int .i64 (mvWld k x.world).writes, .int .i64 (mvWld k x.world).stop, .bool (mvWld k x.world).down] fx k _ (wldL.ext H1.out ((Chg.refl [] w).alloc (.cells #[.int .i64 x.code, .int .i64 (mvWld k x.world).shape.groups, .int .i64 (mvWld k x.world).shape.column, .int .i64 (mvWld k x.world).shape.data, .int .i64 (mvWld k x.world).shape.spare, .int .i64 (mvWld k x.world).shape.rows, .int .i64 (mvWld k x.world).shape.cap, .int .i64 (mvWld k x.world).shape.batch, .int .i64 (mvWld k x.world).shape.queue, .int .i64 (mvWld k x.world).shape.stage, .slice a10 l10 c10, .slice a11 l11 c11, .slice a12 l12 c12, .int .i64 (mvWld k x.world).writes, .int .i64 (mvWld k x.world).stop, .bool (mvWld k x.world).down] 31))) hk HK.out)
  rw [← HQ.out] at HCI
  refine HCI.out.mono ?_
  rintro e w1 ⟨rfl, hc1⟩
  have HC1 := Lib.hid (((Chg.refl [] w).alloc _).trans0 hc1)
  clear hc1 HCI
  go_wp2_with fail
  go_ret
  exact ⟨rfl, HC1.out⟩

end Go.Proofs.Ytnnhopcjlnnchaa
