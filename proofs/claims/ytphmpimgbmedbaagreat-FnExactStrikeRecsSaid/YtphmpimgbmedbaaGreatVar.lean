/- Several texts in one. -/
import Derived.Test.YtphmpimgbmedbaaGreatRows
import Derived.Test.YtphmpimgbmedbaaGreatVam
import Derived.Test.YtphmpimgbmedbaaGreatVaf
import Derived.Test.YtphmpimgbmedbaaGreatVac
namespace Go.Proofs.YtphmpimgbmedbaaGreat
open Go.RowKit
open Go.Lib (hid)
set_option maxRecDepth 100000 in
set_option maxHeartbeats 2000000 in
theorem markWorld_any (x : Wld) (cx : Array Value) (fx : List Nat) (k : Int) (w : World) (hx : wldL.rep w cx.toList x fx) (hf : Fresh 0 w fx) (hk : 0 ≤ k) (hk2 : k + cntWld x ≤ 4611686018427387904) :
  Calls Tryz.prog 21 #[.agg cx, .int .i64 k] w fun e w' => e = .returned (.int .i64 (k + cntWld x)) ∧ wldL.rep w' cx.toList (mvWld k x) fx ∧ Chg fx w w' := by
 obtain ⟨a10, l10, c10, f10, a11, l11, c11, f11, a12, l12, c12, f12, ex, o1, o2, o3, o4, o5, o6, o7, o8, o9, h10, h11, h12, o13, o14, efp⟩ := wldL_iff.1 hx
 obtain rfl := Array.toList_inj.1 (ex.trans (List.toList_toArray).symm)
 rw [List.append_nil] at efp
 subst efp
 have hbx : w.heap.size ∉ f10 ++ (f11 ++ f12) := fun h => Nat.lt_irrefl _ (Lay.lt wldL hx _ (by simpa using h))
 obtain ⟨q10, hq10⟩ : ∃ q, q = sumI cntDrvs x.groups := ⟨_, rfl⟩
 obtain ⟨q12, hq12⟩ : ∃ q, q = sumI cntTap x.tapes := ⟨_, rfl⟩
 have n10 : 0 ≤ q10 := by rw [hq10]; exact sumI_nonneg cntDrvs_nonneg _
 have n12 : 0 ≤ q12 := by rw [hq12]; exact sumI_nonneg cntTap_nonneg _
 have t11 : totIs x.on = (l11 : Int) := by unfold totIs; rw [h11.1]
 have hcw : cntWld x = q10 + l11 + q12 := by unfold cntWld; rw [t11, hq10, hq12]
 have ndA := List.nodup_append.1 hf.1
 have ndB := List.nodup_append.1 ndA.2.1
 have lo10 : ∀ y ∈ f10, 0 ≤ y ∧ Loose (w.alloc (.cells #[.int .i64 x.shape.groups, .int .i64 x.shape.column, .int .i64 x.shape.data, .int .i64 x.shape.spare, .int .i64 x.shape.rows, .int .i64 x.shape.cap, .int .i64 x.shape.batch, .int .i64 x.shape.queue, .int .i64 x.shape.stage, .slice a10 l10 c10, .slice a11 l11 c11, .slice a12 l12 c12, .int .i64 x.writes, .int .i64 x.stop, .bool x.down] 34)) y := fun y hy => ⟨Nat.zero_le _, (hf.2 y (by simp [hy])).2.alloc _⟩
 have LO := hid (fun y hy => (hf.2 y hy).2 : ∀ y ∈ f10 ++ (f11 ++ f12), Loose w y)
 have D := hid (And.intro (fun y hy hy6 => ndA.2.2 y hy6 y (by simp [hy]) rfl : ∀ y ∈ f11, y ∉ f10) (And.intro (fun y hy hy6 => ndA.2.2 y hy6 y (by simp [hy]) rfl : ∀ y ∈ f12, y ∉ f10) (fun y hy hy7 => ndB.2.2 y hy7 y hy rfl : ∀ y ∈ f12, y ∉ f11)))
 have HI10 := hid (markDriveSS_any a10 l10 c10 x.groups f10 k _ (drvL.slice.sl_ext h10 ((Chg.refl [] w).alloc (.cells #[.int .i64 x.shape.groups, .int .i64 x.shape.column, .int .i64 x.shape.data, .int .i64 x.shape.spare, .int .i64 x.shape.rows, .int .i64 x.shape.cap, .int .i64 x.shape.batch, .int .i64 x.shape.queue, .int .i64 x.shape.stage, .slice a10 l10 c10, .slice a11 l11 c11, .slice a12 l12 c12, .int .i64 x.writes, .int .i64 x.stop, .bool x.down] 34))) ⟨ndA.1, lo10⟩ hk (by omega))
 rw [← hq10] at HI10
 have H11 := hid h11; have H12 := hid h12
 have HO := hid (And.intro o1 (And.intro o2 (And.intro o3 (And.intro o4 (And.intro o5 (And.intro o6 (And.intro o7 (And.intro o8 (And.intro o9 (And.intro o13 o14))))))))))
 have HB := hid hbx
 have HND := hid (And.intro ndB.1 ndB.2.1)
 have HW := hid hcw; have HQ := hid (And.intro hq10 (And.intro hq12 t11))
 have hbd : k + q10 + l11 + q12 ≤ 4611686018427387904 := by omega
 clear hx hf hk2 ex o1 o2 o3 o4 o5 o6 o7 o8 o9 o13 o14 h10 h11 h12 hbx ndA ndB lo10 hq10 hq12 t11 hcw
 go_enter Tryz.func21, Tryz.ntmps21
 go_wp2_with fail
 refine HI10.out.mono ?_
 rintro e w1 ⟨rfl, hs1, hc1⟩
 have hP := hc1.keepb (new_alloc w _) (fun h => HB.out (by simp [h]))
 have cP := cellsOf hP; have lP := ltOf hP; have HP := hid hP
 have g0 : Chg [] w (w.alloc (.cells #[.int .i64 x.shape.groups, .int .i64 x.shape.column, .int .i64 x.shape.data, .int .i64 x.shape.spare, .int .i64 x.shape.rows, .int .i64 x.shape.cap, .int .i64 x.shape.batch, .int .i64 x.shape.queue, .int .i64 x.shape.stage, .slice a10 l10 c10, .slice a11 l11 c11, .slice a12 l12 c12, .int .i64 x.writes, .int .i64 x.stop, .bool x.down] 34)) := (Chg.refl [] w).alloc _
 have HI11 := hid (markI_any a11 l11 c11 x.on f11 (k + q10) w1 (intL.sl_chg (intL.sl_ext H11.out g0) hc1 D.out.1) ⟨HND.out.1, fun y hy => ⟨Nat.zero_le _, hc1.loose y ((LO.out y (by simp [hy])).alloc _)⟩⟩ (by omega) (by omega))
 have H12' := hid (tapL.sl_chg (tapL.sl_ext H12.out g0) hc1 D.out.2.1)
 have HC1 := hid ((g0.mono (T := f10) (by simp)).trans hc1 (fun x hx => .inl hx))
 have HC1' := hid hc1
 have HS1 := hid hs1
 clear hs1 hc1 hP g0
 go_wp2_with fail
 refine HI11.out.mono ?_
 rintro e w2 ⟨rfl, hs2, hc2⟩
 have hP := hc2.keepb HP.out (fun h => HB.out (by simp [h]))
 clear cP lP HP
 have cP := cellsOf hP; have lP := ltOf hP
 have HI12 := hid (markTapeS_any a12 l12 c12 x.tapes f12 (k + q10 + l11) w2 (tapL.sl_chg H12'.out hc2 D.out.2.2) ⟨HND.out.2, fun y hy => ⟨Nat.zero_le _, hc2.loose y (HC1'.out.loose y ((LO.out y (by simp [hy])).alloc _))⟩⟩ (by omega) (by rw [← HQ.out.2.1]; omega))
 rw [← HQ.out.2.1] at HI12
 have HS1' := hid (drvL.slice.sl_chg HS1.out hc2 (fun y hy hm => D.out.1 y hm hy))
 have HS2 := hid hs2
 have HC2 := hid hc2
 clear hs2 hc2 hP
 go_wp2_with fail
 refine HI12.out.mono ?_
 rintro e w3 ⟨rfl, hs3, hc3⟩
 have r10 := drvL.slice.sl_chg HS1'.out hc3 (fun y hy hm => D.out.2.1 y hm hy)
 have r11 := intL.sl_chg HS2.out hc3 (fun y hy hm => D.out.2.2 y hm hy)
 have HL11 := hid H11.out.1
 have r11' : intL.sl w3 a11 l11 c11 (markIL (k + sumI cntDrvs x.groups) x.on.length) f11 := by rw [← HQ.out.1, ← HL11.out]; exact r11
 have r12' : tapL.sl w3 a12 l12 c12 (markL cntTap mkTap x.tapes (k + sumI cntDrvs x.groups + totIs x.on)) f12 := by rw [← HQ.out.1, HQ.out.2.2]; exact hs3
 have HR := hid (wldL_iff.2 ⟨a10, l10, c10, f10, a11, l11, c11, f11, a12, l12, c12, f12, rfl, HO.out.1, HO.out.2.1, HO.out.2.2.1, HO.out.2.2.2.1, HO.out.2.2.2.2.1, HO.out.2.2.2.2.2.1, HO.out.2.2.2.2.2.2.1, HO.out.2.2.2.2.2.2.2.1, HO.out.2.2.2.2.2.2.2.2.1, r10, r11', r12', HO.out.2.2.2.2.2.2.2.2.2.1, HO.out.2.2.2.2.2.2.2.2.2.2, (by simp)⟩ : wldL.rep w3 [.int .i64 x.shape.groups, .int .i64 x.shape.column, .int .i64 x.shape.data, .int .i64 x.shape.spare, .int .i64 x.shape.rows, .int .i64 x.shape.cap, .int .i64 x.shape.batch, .int .i64 x.shape.queue, .int .i64 x.shape.stage, .slice a10 l10 c10, .slice a11 l11 c11, .slice a12 l12 c12, .int .i64 x.writes, .int .i64 x.stop, .bool x.down] (mvWld k x) (f10 ++ (f11 ++ f12)))
 have HC := hid (((HC1.out.mono (T := f10 ++ (f11 ++ f12)) (fun y hy => .inl (by simp [hy]))).trans HC2.out (fun y hy => .inl (by simp [hy]))).trans hc3 (fun y hy => .inl (by simp [hy])))
 have HZ := hid (show k + q10 + (l11 : Int) + q12 = k + cntWld x by rw [HW.out]; omega)
 clear hs3 hc3 r10 r11 r11' r12' cP lP
 go_wp2_with fail
 go_ret
 exact ⟨ret_int HZ.out, HR.out, HC.out⟩
set_option maxRecDepth 100000 in
set_option maxHeartbeats 2000000 in
theorem heldWorld_any (x : Wld) (cx : Array Value) (fx : List Nat) (k : Int) (w : World) (hx : wldL.rep w cx.toList (mvWld k x) fx) (hk : 0 ≤ k) (hk2 : k + cntWld x ≤ 4611686018427387904) :
  Calls Tryz.prog 90 #[.agg cx, .int .i64 k] w fun e w' => e = .returned (.int .i64 (k + cntWld x)) ∧ Chg [] w w' := by
 obtain ⟨a10, l10, c10, f10, a11, l11, c11, f11, a12, l12, c12, f12, ex, -, -, -, -, -, -, -, -, -, h10, h11, h12, -, -, -⟩ := wldL_iff.1 hx
 obtain rfl := Array.toList_inj.1 (ex.trans (List.toList_toArray).symm)
 obtain ⟨q10, hq10⟩ : ∃ q, q = sumI cntDrvs x.groups := ⟨_, rfl⟩
 obtain ⟨q12, hq12⟩ : ∃ q, q = sumI cntTap x.tapes := ⟨_, rfl⟩
 have n10 : 0 ≤ q10 := by rw [hq10]; exact sumI_nonneg cntDrvs_nonneg _
 have n12 : 0 ≤ q12 := by rw [hq12]; exact sumI_nonneg cntTap_nonneg _
 replace h10 : drvL.slice.sl w a10 l10 c10 (markL cntDrvs mkDrvs x.groups k) f10 := h10
 replace h11 : intL.sl w a11 l11 c11 (markIL (k + sumI cntDrvs x.groups) x.on.length) f11 := h11
 replace h12 : tapL.sl w a12 l12 c12 (markL cntTap mkTap x.tapes (k + sumI cntDrvs x.groups + totIs x.on)) f12 := h12
 have hl11 : l11 = x.on.length := by rw [h11.1, markIL_length]
 have t11 : totIs x.on = (l11 : Int) := by unfold totIs; rw [hl11]
 rw [← hq10, ← hl11] at h11
 rw [← hq10, t11] at h12
 have hcw : cntWld x = q10 + l11 + q12 := by unfold cntWld; rw [t11, hq10, hq12]
 have HQ := hid (And.intro hq10 hq12)
 have hbd : k + q10 + l11 + q12 ≤ 4611686018427387904 := by omega
 have HZ := hid (show k + q10 + (l11 : Int) + q12 = k + cntWld x by rw [hcw]; omega)
 have H10 := hid h10; have H11 := hid h11; have H12 := hid h12
 have m1 : ¬ (k + q10 < 0) := by omega
 have m2 : ¬ (k + q10 + l11 < 0) := by omega
 have m3 : ¬ (k + q10 + l11 + q12 < 0) := by omega
 clear hx hk2 ex h10 h11 h12 hq10 hq12 hl11 t11 hcw
 go_enter Tryz.func90, Tryz.ntmps90
 go_wp2_with fail
 have g0 : Chg [] w (w.alloc (.cells #[.int .i64 (mvWld k x).shape.groups, .int .i64 (mvWld k x).shape.column, .int .i64 (mvWld k x).shape.data, .int .i64 (mvWld k x).shape.spare, .int .i64 (mvWld k x).shape.rows, .int .i64 (mvWld k x).shape.cap, .int .i64 (mvWld k x).shape.batch, .int .i64 (mvWld k x).shape.queue, .int .i64 (mvWld k x).shape.stage, .slice a10 l10 c10, .slice a11 l11 c11, .slice a12 l12 c12, .int .i64 (mvWld k x).writes, .int .i64 (mvWld k x).stop, .bool (mvWld k x).down] 34)) := (Chg.refl [] w).alloc _
 refine (heldDriveSS_any a10 l10 c10 x.groups f10 k _ (drvL.slice.sl_ext H10.out g0) hk (by rw [← HQ.out.1]; omega)).mono ?_
 rw [← HQ.out.1]
 rintro e w1 ⟨rfl, hc1⟩
 have hP := hc1.keep0 (new_alloc w _)
 have cP := cellsOf hP; have lP := ltOf hP; have HP := hid hP
 have HC1 := hid (g0.trans0 hc1)
 clear hc1 hP g0
 go_wp2_with fail
 refine (heldI_any a11 l11 c11 f11 (k + q10) _ (intL.sl_ext H11.out HC1.out) (by omega) (by omega)).mono ?_
 rintro e w2 ⟨rfl, hc2⟩
 have hP := hc2.keep0 HP.out
 clear cP lP HP
 have cP := cellsOf hP; have lP := ltOf hP
 have HC2 := hid (HC1.out.trans0 hc2)
 clear hc2 hP
 go_wp2_with fail
 refine (heldTapeS_any a12 l12 c12 x.tapes f12 (k + q10 + l11) _ (tapL.sl_ext H12.out HC2.out) (by omega) (by rw [← HQ.out.2]; omega)).mono ?_
 rw [← HQ.out.2]
 rintro e w3 ⟨rfl, hc3⟩
 have HC3 := hid (HC2.out.trans0 hc3)
 clear hc3 cP lP
 go_wp2_with fail
 go_ret
 exact ⟨ret_int HZ.out, HC3.out⟩
theorem wrs_open {w : World} {cx : Array Value} {x : WRes} {fp : List Nat} (h : wrsL.rep w cx.toList x fp) : ∃ (a10 : Option Addr) (l10 c10 : Nat) (a11 : Option Addr) (l11 c11 : Nat) (a12 : Option Addr) (l12 c12 : Nat), cx = #[.int .i64 x.code, .int .i64 x.world.shape.groups, .int .i64 x.world.shape.column, .int .i64 x.world.shape.data, .int .i64 x.world.shape.spare, .int .i64 x.world.shape.rows, .int .i64 x.world.shape.cap, .int .i64 x.world.shape.batch, .int .i64 x.world.shape.queue, .int .i64 x.world.shape.stage, .slice a10 l10 c10, .slice a11 l11 c11, .slice a12 l12 c12, .int .i64 x.world.writes, .int .i64 x.world.stop, .bool x.world.down] ∧ i64ok x.code ∧ wldL.rep w [.int .i64 x.world.shape.groups, .int .i64 x.world.shape.column, .int .i64 x.world.shape.data, .int .i64 x.world.shape.spare, .int .i64 x.world.shape.rows, .int .i64 x.world.shape.cap, .int .i64 x.world.shape.batch, .int .i64 x.world.shape.queue, .int .i64 x.world.shape.stage, .slice a10 l10 c10, .slice a11 l11 c11, .slice a12 l12 c12, .int .i64 x.world.writes, .int .i64 x.world.stop, .bool x.world.down] x.world fp := by
 obtain ⟨rest, ex, hcode, hw⟩ := wrsL_iff.1 h
 obtain ⟨a10, l10, c10, f10, a11, l11, c11, f11, a12, l12, c12, f12, e2, _⟩ := wldL_iff.1 hw
 subst e2
 exact ⟨a10, l10, c10, a11, l11, c11, a12, l12, c12, Array.toList_inj.1 ex, hcode, hw⟩
set_option maxRecDepth 100000 in
set_option maxHeartbeats 2000000 in
theorem eqWorldResult_any (x : WRes) (cx cy : Array Value) (fx fy : List Nat) (w : World) (hx : wrsL.rep w cx.toList x fx) (hy : wrsL.rep w cy.toList x fy) :
  Calls Tryz.prog 19 #[.agg cx, .agg cy] w fun e w' => e = .returned (.bool true) ∧ Chg [] w w' := by
 obtain ⟨a10, l10, c10, a11, l11, c11, a12, l12, c12, rfl, -, h1⟩ := wrs_open hx
 obtain ⟨b10, m10, d10, b11, m11, d11, b12, m12, d12, rfl, -, h2⟩ := wrs_open hy
 have hcc : ((x.code : Int) != x.code) = false := by simp
 have H1 := hid h1; have H2 := hid h2
 clear hx hy h1 h2
 go_enter Tryz.func19, Tryz.ntmps19
 go_wp2_with fail
 refine (eqWorld_any x.world #[.int .i64 x.world.shape.groups, .int .i64 x.world.shape.column, .int .i64 x.world.shape.data, .int .i64 x.world.shape.spare, .int .i64 x.world.shape.rows, .int .i64 x.world.shape.cap, .int .i64 x.world.shape.batch, .int .i64 x.world.shape.queue, .int .i64 x.world.shape.stage, .slice a10 l10 c10, .slice a11 l11 c11, .slice a12 l12 c12, .int .i64 x.world.writes, .int .i64 x.world.stop, .bool x.world.down] #[.int .i64 x.world.shape.groups, .int .i64 x.world.shape.column, .int .i64 x.world.shape.data, .int .i64 x.world.shape.spare, .int .i64 x.world.shape.rows, .int .i64 x.world.shape.cap, .int .i64 x.world.shape.batch, .int .i64 x.world.shape.queue, .int .i64 x.world.shape.stage, .slice b10 m10 d10, .slice b11 m11 d11, .slice b12 m12 d12, .int .i64 x.world.writes, .int .i64 x.world.stop, .bool x.world.down] fx fy _ (wldL.ext H1.out ?_) (wldL.ext H2.out ?_)).mono ?_
 ·exact ((Chg.refl [] w).alloc _).alloc _
 ·exact ((Chg.refl [] w).alloc _).alloc _
 rintro e w1 ⟨rfl, hc1⟩
 have HC1 := hid ((((Chg.refl [] w).alloc _).alloc _).trans0 hc1)
 clear hc1
 go_wp2_with fail
 go_ret
 exact ⟨rfl, HC1.out⟩
set_option maxRecDepth 100000 in
set_option maxHeartbeats 2000000 in
theorem markWorldResult_any (x : WRes) (cx : Array Value) (fx : List Nat) (k : Int) (w : World) (hx : wrsL.rep w cx.toList x fx) (hf : Fresh 0 w fx) (hk : 0 ≤ k) (hk2 : k + cntWld x.world ≤ 4611686018427387904) :
  Calls Tryz.prog 22 #[.agg cx, .int .i64 k] w fun e w' => e = .returned (.int .i64 (k + cntWld x.world)) ∧ wrsL.rep w' cx.toList ⟨x.code, mvWld k x.world⟩ fx ∧ Chg fx w w' := by
 obtain ⟨a10, l10, c10, a11, l11, c11, a12, l12, c12, rfl, hcode, h1⟩ := wrs_open hx
 have H1 := hid h1; have HF := hid hf; have HC0 := hid hcode; have HK := hid hk2
 clear hx h1 hf hcode hk2
 go_enter Tryz.func22, Tryz.ntmps22
 go_wp2_with fail
 have g0 : Chg [] w (w.alloc (.cells #[.int .i64 x.code, .int .i64 x.world.shape.groups, .int .i64 x.world.shape.column, .int .i64 x.world.shape.data, .int .i64 x.world.shape.spare, .int .i64 x.world.shape.rows, .int .i64 x.world.shape.cap, .int .i64 x.world.shape.batch, .int .i64 x.world.shape.queue, .int .i64 x.world.shape.stage, .slice a10 l10 c10, .slice a11 l11 c11, .slice a12 l12 c12, .int .i64 x.world.writes, .int .i64 x.world.stop, .bool x.world.down] 36)) := (Chg.refl [] w).alloc _
 refine (markWorld_any x.world #[.int .i64 x.world.shape.groups, .int .i64 x.world.shape.column, .int .i64 x.world.shape.data, .int .i64 x.world.shape.spare, .int .i64 x.world.shape.rows, .int .i64 x.world.shape.cap, .int .i64 x.world.shape.batch, .int .i64 x.world.shape.queue, .int .i64 x.world.shape.stage, .slice a10 l10 c10, .slice a11 l11 c11, .slice a12 l12 c12, .int .i64 x.world.writes, .int .i64 x.world.stop, .bool x.world.down] fx k _ (wldL.ext H1.out g0) (HF.out.chg g0) hk HK.out).mono ?_
 rintro e w1 ⟨rfl, hs1, hc1⟩
 have HN := hid (And.intro (wrsL_iff.2 ⟨_, rfl, HC0.out, hs1⟩ : wrsL.rep w1 [.int .i64 x.code, .int .i64 x.world.shape.groups, .int .i64 x.world.shape.column, .int .i64 x.world.shape.data, .int .i64 x.world.shape.spare, .int .i64 x.world.shape.rows, .int .i64 x.world.shape.cap, .int .i64 x.world.shape.batch, .int .i64 x.world.shape.queue, .int .i64 x.world.shape.stage, .slice a10 l10 c10, .slice a11 l11 c11, .slice a12 l12 c12, .int .i64 x.world.writes, .int .i64 x.world.stop, .bool x.world.down] ⟨x.code, mvWld k x.world⟩ fx) ((g0.mono (T := fx) (by simp)).trans hc1 (fun x hx => .inl hx)))
 clear hs1 hc1 g0
 go_wp2_with fail
 go_ret
 exact ⟨rfl, HN.out.1, HN.out.2⟩
set_option maxRecDepth 100000 in
set_option maxHeartbeats 2000000 in
theorem heldWorldResult_any (x : WRes) (cx : Array Value) (fx : List Nat) (k : Int) (w : World) (hx : wrsL.rep w cx.toList ⟨x.code, mvWld k x.world⟩ fx) (hk : 0 ≤ k) (hk2 : k + cntWld x.world ≤ 4611686018427387904) :
  Calls Tryz.prog 23 #[.agg cx, .int .i64 k] w fun e w' => e = .returned (.int .i64 (k + cntWld x.world)) ∧ Chg [] w w' := by
 obtain ⟨a10, l10, c10, a11, l11, c11, a12, l12, c12, rfl, -, h1⟩ := wrs_open hx
 have H1 := hid h1; have HK := hid hk2
 have hn := cntWld_nonneg x.world
 obtain ⟨q, hq⟩ : ∃ q, q = cntWld x.world := ⟨_, rfl⟩
 have HQ := hid hq
 rw [← hq] at hn
 have m1 : ¬ (k + q < 0) := by omega
 rw [← hq]
 clear hx h1 hk2 hq
 go_enter Tryz.func23, Tryz.ntmps23
 go_wp2_with fail
 have HCI := hid (heldWorld_any x.world #[.int .i64 (mvWld k x.world).shape.groups, .int .i64 (mvWld k x.world).shape.column, .int .i64 (mvWld k x.world).shape.data, .int .i64 (mvWld k x.world).shape.spare, .int .i64 (mvWld k x.world).shape.rows, .int .i64 (mvWld k x.world).shape.cap, .int .i64 (mvWld k x.world).shape.batch, .int .i64 (mvWld k x.world).shape.queue, .int .i64 (mvWld k x.world).shape.stage, .slice a10 l10 c10, .slice a11 l11 c11, .slice a12 l12 c12, .int .i64 (mvWld k x.world).writes, .int .i64 (mvWld k x.world).stop, .bool (mvWld k x.world).down] fx k _ (wldL.ext H1.out ((Chg.refl [] w).alloc (.cells #[.int .i64 x.code, .int .i64 (mvWld k x.world).shape.groups, .int .i64 (mvWld k x.world).shape.column, .int .i64 (mvWld k x.world).shape.data, .int .i64 (mvWld k x.world).shape.spare, .int .i64 (mvWld k x.world).shape.rows, .int .i64 (mvWld k x.world).shape.cap, .int .i64 (mvWld k x.world).shape.batch, .int .i64 (mvWld k x.world).shape.queue, .int .i64 (mvWld k x.world).shape.stage, .slice a10 l10 c10, .slice a11 l11 c11, .slice a12 l12 c12, .int .i64 (mvWld k x.world).writes, .int .i64 (mvWld k x.world).stop, .bool (mvWld k x.world).down] 36))) hk HK.out)
 rw [← HQ.out] at HCI
 refine HCI.out.mono ?_
 rintro e w1 ⟨rfl, hc1⟩
 have HC1 := hid (((Chg.refl [] w).alloc _).trans0 hc1)
 clear hc1 HCI
 go_wp2_with fail
 go_ret
 exact ⟨rfl, HC1.out⟩
theorem row2_back {w : World} {b : Nat} {E : TypeId} {fr : Nat × Nat} {u0 u1 : Value} (v0 v1 : Value) (h : w.heap[b]? = some (.cells #[u0, u1] E fr)) :
  ((w.setCell ⟨b, 0, none⟩ v0).setCell ⟨b, 1, none⟩ v1).heap[b]? = some (.cells #[v0, v1] E fr) := by
 have e : ((w.setCell ⟨b, 0, none⟩ v0).setCell ⟨b, 1, none⟩ v1) = w.setCells b 0 [v0, v1] := rfl
 rw [e, setCells_heap [v0, v1] 0 w _ h]
 simp [setRow]
set_option maxRecDepth 100000 in
set_option maxHeartbeats 2000000 in
theorem cloneRecs_any (a : Option Addr) (la ca : Nat) (xs : List Rec) (f : List Nat) (w : World) (ha : recL.sl w a la ca xs f) (hz : totL totRec xs ≤ 1048576) :
  Calls Tryz.prog 93 #[.slice a la ca] w (NewSl recL xs w) := by
 obtain ⟨K, _⟩ := kindRec
 have hlz : la ≤ 1048576 := by have := totL_len totRec_nonneg xs; rw [ha.1]; omega
 have HL := hid ha.1
 have HA := hid ha
 have HZ := hid (fun x hx => Int.le_trans (totL_mem totRec_nonneg hx) hz : ∀ x ∈ xs, totRec x ≤ 1048576)
 clear ha hz
 go_enter Tryz.func93, Tryz.ntmps93
 go_wp2_with fail
 go_loopw [3, 9] (fun vo vi wr => ∃ (k : Nat) (Wr : World), Wr = wr ∧ k ≤ la ∧ vi = .int .i64 k ∧ Grow recL 67 w wr vo (xs.take k)) (fun _ vi _ => la - (intOf vi).toNat)
 case atStart => exact ⟨0, _, rfl, by omega, rfl, by rw [List.take_zero]; exact Grow.made (Chg.refl _ _)⟩
 case round =>
  obtain ⟨k, wr, rfl, hk, rfl, hg⟩ := hrel
  by_cases hlt : k < la
  ·obtain ⟨x, b, off, a6, l6, c6, a7, l7, c7, a8, l8, c8, fq, HX, rfl, hq0, hq1, hq2, hq3, hq4, hq5, hq6, hq7, hq8, HXS⟩ := rec_at (recL.sl_ext HA.out hg.chg) hlt
   have HG := hid hg
   have HXI := hid HX.out.1
   have HXZ := hid (HZ.out x (List.mem_of_getElem? HX.out.1))
   clear hg HX
   go_wp2_with fail
   refine (cloneRec_any x #[.int .i64 x.kind, .int .i64 x.seq, .string x.name, .int .i64 x.length, .int .i64 x.group, .int .i64 x.row, .slice a6 l6 c6, .slice a7 l7 c7, .slice a8 l8 c8] fq _ (recL.ext HXS.out ((Chg.refl [] wr).alloc (.cells #[.int .i64 x.kind, .int .i64 x.seq, .string x.name, .int .i64 x.length, .int .i64 x.group, .int .i64 x.row, .slice a6 l6 c6, .slice a7 l7 c7, .slice a8 l8 c8] 67))) HXZ.out).mono ?_
   rintro e w1 ⟨cs, f1, rfl, hr, hf, hc⟩
   obtain ⟨p6, m6, d6, _, p7, m7, d7, _, p8, m8, d8, _, ex, -⟩ := recL_iff.1 hr
   obtain rfl := Array.toList_inj.1 (ex.trans (List.toList_toArray).symm)
   have HN1 := hid (And.intro hr (And.intro (hf.mono (C := wr.heap.size) (by simp)) (((Chg.refl [] wr).alloc (.cells #[.int .i64 x.kind, .int .i64 x.seq, .string x.name, .int .i64 x.length, .int .i64 x.group, .int .i64 x.row, .slice a6 l6 c6, .slice a7 l7 c7, .slice a8 l8 c8] 67)).trans0 hc)))
   have HLL : Hid ((xs.take k).length + [x].length ≤ maxLen ∧ ((xs.take k).length + [x].length) * 128 ≤ 140737488355328) := by
    refine ⟨?_, ?_⟩ <;> simp only [List.length_take, List.length_cons, List.length_nil, maxLen] <;> omega
   have HNX := hid (take_next HXI.out)
   clear ex hr hf hc hq0 hq1 hq2 hq3 hq4 hq5 hq6 hq7 hq8 HXS
   go_wp2_with (at_builtin; refine recL.wpList_grow rfl _ _ 44 rfl Tryz.underlying44 K rfl HG.out (HN1.out.2.2.alloc (.cells #[.int .i64 x.kind, .int .i64 x.seq, .string x.name, .int .i64 x.length, .int .i64 x.group, .int .i64 x.row, .slice p6 m6 d6, .slice p7 m7 d7, .slice p8 m8 d8] 67)) ⟨w1.heap.size, 0, none⟩ 1 1 [.int .i64 x.kind, .int .i64 x.seq, .string x.name, .int .i64 x.length, .int .i64 x.group, .int .i64 x.row, .slice p6 m6 d6, .slice p7 m7 d7, .slice p8 m8 d8] (ys := [x]) (f := f1) rfl rfl (new_cells w1 #[.int .i64 x.kind, .int .i64 x.seq, .string x.name, .int .i64 x.length, .int .i64 x.group, .int .i64 x.row, .slice p6 m6 d6, .slice p7 m7 d7, .slice p8 m8 d8] 67) (recL.all_single (recL.ext HN1.out.1 ((Chg.refl [] w1).alloc _))) (HN1.out.2.1.chg ((Chg.refl [] w1).alloc (.cells #[.int .i64 x.kind, .int .i64 x.seq, .string x.name, .int .i64 x.length, .int .i64 x.group, .int .i64 x.row, .slice p6 m6 d6, .slice p7 m7 d7, .slice p8 m8 d8] 67))) HLL.out.1 HLL.out.2 ?_; intro v' w' hg'; rw [← HNX.out] at hg'; have HG2 := hid hg'; clear hg')
   go_roundw
   case rel => exact ⟨k + 1, _, rfl, by omega, by go_num, HG2.out⟩
   case measure => simp [intOf]; omega
  ·obtain rfl : k = la := by omega
   rw [List.take_of_length_le (by have := HL.out; omega)] at hg
   obtain ⟨a', c', f', h1, h2, h3, h4⟩ := hg.sl
   subst h1
   have HN := hid (show NewSl recL xs w (.returned (.slice a' xs.length c')) wr from ⟨a', c', f', rfl, h2, h3, h4⟩)
   generalize xs.length = n at HN ⊢
   clear h2 h3 h4 hg
   go_wp2_with fail
   go_ret
   exact HN.out
set_option maxRecDepth 100000 in
set_option maxHeartbeats 4000000 in
theorem cloneDrive_any (x : Drv) (cx : Array Value) (fx : List Nat) (w : World) (hx : drvL.rep w cx.toList x fx) (hz : totDrv x ≤ 1048576) :
  Calls Tryz.prog 155 #[.agg cx] w (NewAgg drvL x w) := by
 obtain ⟨KB, _⟩ := kindBlock
 obtain ⟨a1, l1, c1, f1, ex, h1, -⟩ := drvL_iff.1 hx
 obtain rfl := Array.toList_inj.1 (ex.trans (List.toList_toArray).symm)
 have hz1 : totL totBlk x.blocks ≤ 1048576 := hz
 have hlz : l1 ≤ 1048576 := by have := totL_len totBlk_nonneg x.blocks; rw [h1.1]; omega
 have HL := hid h1.1
 have H1 := hid h1
 have HZ := hid (fun b hb => Int.le_trans (totL_mem totBlk_nonneg hb) hz1 : ∀ b ∈ x.blocks, totBlk b ≤ 1048576)
 clear hx ex hz hz1 h1
 go_enter Tryz.func155, Tryz.ntmps155
 go_wp2_with fail
 go_loopw [12] (fun vi wr => ∃ (k : Nat) (v : Value) (Wr : World), Wr = wr ∧ k ≤ l1 ∧ vi = .int .i64 k ∧ GrowC blkL 76 (w.heap.size + 3) wr v (x.blocks.take k) ∧ wr.heap[w.heap.size + 1]? = some (.cells #[.bool false, .slice none 0 0] 82 (0, 0)) ∧ wr.heap[w.heap.size + 2]? = some (.cells #[.bool x.wiped, v] 82 (0, 0)) ∧ Chg [] w wr) (fun vi _ => l1 - (intOf vi).toNat)
 case atStart => exact ⟨0, _, _, rfl, by omega, rfl, by rw [List.take_zero]; exact GrowC.nil (by simp), keep_alloc (new_at (by simp) _) _, new_at (by simp) _, (((Chg.refl [] w).alloc _).alloc _).alloc _⟩
 case round =>
  obtain ⟨k, v, wr, rfl, hk, rfl, hg, hb1, hb2, hc⟩ := hrel
  have cb2 := cellsOf hb2; have lb2 := ltOf hb2
  have HB1 := hid hb1; have HB2 := hid hb2; have HC := hid hc
  by_cases hlt : k < l1
  ·obtain ⟨y, b, off, a2, l2, c2, f2, HY, rfl, hy0, hy1, HYS⟩ := block_at (blkL.sl_ext H1.out hc) hlt
   have HG := hid hg
   have HYI := hid HY.out.1
   obtain ⟨_, _, _, _, exb, hok, hby, -⟩ := blkL_iff.1 HYS.out
   obtain ⟨q1, q2, q3⟩ := Value.slice.inj (List.cons.inj (List.cons.inj exb).2).1
   subst q1 q2 q3
   have hl2 : l2 ≤ 1048576 := by have := HZ.out y (List.mem_of_getElem? HYI.out); unfold totBlk totBs at this; rw [hby.1]; omega
   have HBY := hid hby; have HOK := hid hok
   have LB := hid hby.1.symm
   clear hg hb1 hb2 hc HY exb hok hby HYS
   go_wp2_with fail
   have D1 := hid (show (wr.alloc (.cells #[.int .i64 y.stamp, .slice a2 l2 c2] 76)).drew.heap[w.heap.size + 2]? = some (.cells #[.bool x.wiped, v] 82 (0, 0)) from keep_drew (keep_alloc HB2.out _))
   have D2 := hid (show (wr.alloc (.cells #[.int .i64 y.stamp, .slice a2 l2 c2] 76)).drew.heap[wr.heap.size]? = some (.cells #[.int .i64 y.stamp, .slice a2 l2 c2] 76 (0, 0)) from keep_drew (new_alloc wr _))
   have G0 := hid (((Chg.refl [] wr).alloc (.cells #[.int .i64 y.stamp, .slice a2 l2 c2] 76)).drew)
   have HLL : Hid ((x.blocks.take k).length + [y].length ≤ maxLen ∧ ((x.blocks.take k).length + [y].length) * 32 ≤ 140737488355328) := by
    refine ⟨?_, ?_⟩ <;> simp only [List.length_take, List.length_cons, List.length_nil, maxLen] <;> omega
   have HNX := hid (take_next HYI.out)
   obtain ⟨CC, HCI, HCO⟩ := rg_cond (fun w' => Know (w.heap.size + 2) #[.bool x.wiped, v] w' ∧ Know wr.heap.size #[.int .i64 y.stamp, .slice a2 l2 c2] w')
   refine gg_start [9] CC (by kernel_rfl) (HCI.out _ ⟨(Know.of D1.out), (Know.of D2.out)⟩) (fun hcl hS => ?_)
   refine ggT 0 hcl hS ?_; clear hcl hS; intro hcl hS
   refine ggL 1 hcl hS HCO ?_; clear hcl hS; intro hcl hS
   refine ggT 2 hcl hS ?_; clear hcl hS; intro hcl hS
   refine ggL 3 hcl hS HCO ?_; clear hcl hS; intro hcl hS
   refine ggT 4 hcl hS ?_; clear hcl hS; intro hcl hS
   refine ggL 5 hcl hS HCO ?_; clear hcl hS; intro hcl hS
   refine ggC 6 hcl rfl (by kernel_rfl) (fun K hK => ?_)
   go_simp
   go_at_call 141
   refine (cpyB_any a2 l2 c2 y.bytes _ _ (byteL.sl_ext HBY.out G0.out) (by omega)).mono ?_; rintro e w1 ⟨p2, d2, g2, rfl, hs, hf, hc⟩
   rw [LB.out] at hs ⊢; have HN1 := hid (And.intro hs (And.intro (hf.mono (C := wr.heap.size) (by simp [World.drew])) (G0.out.trans0 hc))); obtain ⟨-, -, E1⟩ := bk0 hc D1.out; obtain ⟨-, -, E2⟩ := bk0 hc D2.out; clear hs hf hc
   go_wp2_with fail
   refine hK.out _ _ (fun _ => HCI.out _ ⟨(Know.of E1.out), (Know.of E2.out)⟩) ?_
   clear hK K hcl hS
   intro hcl hS
   try simp only [Act.put, pA, pB, pC]
   refine ggT 7 hcl hS ?_; clear hcl hS; intro hcl hS
   refine ggC 8 hcl rfl (by kernel_rfl) (fun K hK => ?_)
   go_simp
   refine hK.out _ _ (fun _ => HCI.out _ ⟨(Know.of (keep_alloc E1.out _)), (Know.of (keep_alloc E2.out _))⟩) ?_
   clear hK K hcl hS
   intro hcl hS
   try simp only [Act.put, pA, pB, pC]
   refine ggC 9 hcl rfl (by kernel_rfl) (fun K hK => ?_)
   refine GrowB.step rfl _ _ 80 rfl Tryz.underlying80 KB rfl (HG.out.b.ext (HN1.out.2.2.alloc (.cells #[.int .i64 y.stamp, .slice p2 l2 d2] 76))) ⟨w1.heap.size, 0, none⟩ 1 1 [.int .i64 y.stamp, .slice p2 l2 d2] (ys := [y]) (f := g2) rfl rfl (new_cells w1 #[.int .i64 y.stamp, .slice p2 l2 d2] 76) (blkL.all_single (blkL_iff.2 ⟨p2, l2, d2, g2, rfl, HOK.out, byteL.sl_ext HN1.out.1 ((Chg.refl [] w1).alloc _), rfl⟩)) (HN1.out.2.1.chg ((Chg.refl [] w1).alloc _)) HLL.out.1 HLL.out.2 ?_
   intro v' w2 hg' hup
   rw [← HNX.out] at hg'
   obtain ⟨pv, lv, cv, rfl⟩ : ∃ a l c, v' = Value.slice a l c := by obtain ⟨a, c, f, h, -⟩ := hg'.sl; exact ⟨a, _, c, h⟩
   have HG2 := hid hg'; have HU := hid hup
   have E3 := hid ((hup.low (w.heap.size + 2) (by omega)).trans (keep_alloc E1.out _)); have E4 := hid ((hup.low (w.heap.size + 1) (by omega)).trans (keep_alloc (HN1.out.2.2.keep0 HB1.out) _)); have e3 := cellsOf E3.out; have n3 := ltOf E3.out; have z3 := freeOf E3.out; clear hg' hup
   refine hK.out _ _ (Till.done (m := 9) (by simp) (by rfl)) ?_
   clear hK K hcl hS
   intro hcl hS
   try simp only [Act.put, pA, pB, pC]
   refine ggT 10 hcl hS ?_; clear hcl hS; intro hcl hS
   refine ggC 11 hcl rfl (by kernel_rfl) (fun K hK => ?_)
   go_simp
   refine hK.out _ _ (Till.done (m := 9) (by simp) (by rfl)) ?_
   clear hK K hcl hS
   intro hcl hS
   try simp only [Act.put, pA, pB, pC]
   refine ggEnd (by kernel_rfl) ?_ _
   have hw2 : wr.heap.size ≤ w2.heap.size := Nat.le_trans HN1.out.2.2.size (Nat.le_trans (by simp) HU.out.size)
   have lw : w.heap.size + 3 ≤ wr.heap.size := HG.out.1
   have r1 := HG2.out.chg ((Chg.refl [w.heap.size + 2] w2).setCell ⟨w.heap.size + 2, 1, none⟩ (.slice pv lv cv) (.inl (by simp))) (by simp)
   have r2 := keep_set E4.out ⟨w.heap.size + 2, 1, none⟩ (.slice pv lv cv) (by simp)
   have r3 : (w2.setCell ⟨w.heap.size + 2, 1, none⟩ (.slice pv lv cv)).heap[w.heap.size + 2]? = some (.cells #[.bool x.wiped, (.slice pv lv cv)] 82 (0, 0)) := heap_set_lit (cur := #[.bool x.wiped, v]) E3.out rfl
   have r4 := (HU.out.chg ((HC.out.trans0 HN1.out.2.2).alloc (.cells #[.int .i64 y.stamp, .slice p2 l2 d2] 76)) (by omega)).setCell ⟨w.heap.size + 2, 1, none⟩ (.slice pv lv cv) (.inr (by simp))
   have HR := hid (And.intro r1 (And.intro r2 (And.intro r3 r4)))
   clear r1 r2 r3 r4
   go_wp2_with fail
   go_roundw
   case rel => exact ⟨k + 1, (.slice pv lv cv), _, rfl, by omega, by go_num, HR.out.1, HR.out.2.1, HR.out.2.2.1, HR.out.2.2.2⟩
   case measure => simp [intOf]; omega
  ·obtain rfl : k = l1 := by omega
   rw [List.take_of_length_le (by have := HL.out; omega)] at hg
   obtain ⟨p1, d1, g1, rfl, hs, hf⟩ := hg.sl
   rw [← HL.out] at hs hb2 HB2 cb2
   have hlb1 := ltOf hb1; have fz := freeOf hb1; have cb1 := cellsOf hb1
   have hq := row2_back (.bool x.wiped) (.slice p1 k d1) hb1
   have hqc := cellsOf hq
   have cS : Chg [w.heap.size + 1] wr ((wr.setCell ⟨w.heap.size + 1, 0, none⟩ (.bool x.wiped)).setCell ⟨w.heap.size + 1, 1, none⟩ (.slice p1 k d1)) := ((Chg.refl _ wr).setCell _ _ (.inl (by simp))).setCell _ _ (.inl (by simp))
   have hns : ∀ y ∈ g1, y ∉ [w.heap.size + 1] := fun y hy hm => by have := (hf.2 y hy).1; rw [List.mem_singleton] at hm; omega
   have K1 := blkL.sl_chg hs cS hns
   have F1 := (hf.mono (C := w.heap.size) (by omega)).chg cS
   have hch := hc.trans cS (fun y hy => .inr (by rw [List.mem_singleton] at hy; omega))
   have HN := hid (show NewAgg drvL x w (.returned (.agg #[.bool x.wiped, .slice p1 k d1])) _ from ⟨_, _, rfl, drvL_iff.2 ⟨p1, k, d1, g1, rfl, K1, rfl⟩, F1, hch⟩)
   have HQC := hid hqc
   clear hs hf hb1 hb2 hc hg hq hqc cS hns K1 F1 hch HB1 HB2
   go_wp2_with fail
   have hqc := HQC.out
   refine bodyPost_ret (v := .agg #[.bool x.wiped, .slice p1 k d1]) (by simp [results, Tryz.results155, go_sem, hqc]) rfl HN.out
theorem row15_back {w : World} {b : Nat} {E : TypeId} {fr : Nat × Nat} {u0 u1 u2 u3 u4 u5 u6 u7 u8 u9 u10 u11 u12 u13 u14 : Value} (v0 v1 v2 v3 v4 v5 v6 v7 v8 v9 v10 v11 v12 v13 v14 : Value) (h : w.heap[b]? = some (.cells #[u0, u1, u2, u3, u4, u5, u6, u7, u8, u9, u10, u11, u12, u13, u14] E fr)) :
  (((((((((((((((w.setCell ⟨b, 0, none⟩ (v0)).setCell ⟨b, 1, none⟩ (v1)).setCell ⟨b, 2, none⟩ (v2)).setCell ⟨b, 3, none⟩ (v3)).setCell ⟨b, 4, none⟩ (v4)).setCell ⟨b, 5, none⟩ (v5)).setCell ⟨b, 6, none⟩ (v6)).setCell ⟨b, 7, none⟩ (v7)).setCell ⟨b, 8, none⟩ (v8)).setCell ⟨b, 9, none⟩ (v9)).setCell ⟨b, 10, none⟩ (v10)).setCell ⟨b, 11, none⟩ (v11)).setCell ⟨b, 12, none⟩ (v12)).setCell ⟨b, 13, none⟩ (v13)).setCell ⟨b, 14, none⟩ (v14)).heap[b]? = some (.cells #[v0, v1, v2, v3, v4, v5, v6, v7, v8, v9, v10, v11, v12, v13, v14] E fr) := by
 have e : (((((((((((((((w.setCell ⟨b, 0, none⟩ (v0)).setCell ⟨b, 1, none⟩ (v1)).setCell ⟨b, 2, none⟩ (v2)).setCell ⟨b, 3, none⟩ (v3)).setCell ⟨b, 4, none⟩ (v4)).setCell ⟨b, 5, none⟩ (v5)).setCell ⟨b, 6, none⟩ (v6)).setCell ⟨b, 7, none⟩ (v7)).setCell ⟨b, 8, none⟩ (v8)).setCell ⟨b, 9, none⟩ (v9)).setCell ⟨b, 10, none⟩ (v10)).setCell ⟨b, 11, none⟩ (v11)).setCell ⟨b, 12, none⟩ (v12)).setCell ⟨b, 13, none⟩ (v13)).setCell ⟨b, 14, none⟩ (v14)) = w.setCells b 0 [v0, v1, v2, v3, v4, v5, v6, v7, v8, v9, v10, v11, v12, v13, v14] := rfl
 rw [e, setCells_heap [v0, v1, v2, v3, v4, v5, v6, v7, v8, v9, v10, v11, v12, v13, v14] 0 w _ h]
 simp [setRow]
theorem chg15 {S : List Nat} {w0 w : World} {b : Nat} (v0 v1 v2 v3 v4 v5 v6 v7 v8 v9 v10 v11 v12 v13 v14 : Value) (h : Chg S w0 w) (hb : b ∈ S ∨ w0.heap.size ≤ b) : Chg S w0 (((((((((((((((w.setCell ⟨b, 0, none⟩ (v0)).setCell ⟨b, 1, none⟩ (v1)).setCell ⟨b, 2, none⟩ (v2)).setCell ⟨b, 3, none⟩ (v3)).setCell ⟨b, 4, none⟩ (v4)).setCell ⟨b, 5, none⟩ (v5)).setCell ⟨b, 6, none⟩ (v6)).setCell ⟨b, 7, none⟩ (v7)).setCell ⟨b, 8, none⟩ (v8)).setCell ⟨b, 9, none⟩ (v9)).setCell ⟨b, 10, none⟩ (v10)).setCell ⟨b, 11, none⟩ (v11)).setCell ⟨b, 12, none⟩ (v12)).setCell ⟨b, 13, none⟩ (v13)).setCell ⟨b, 14, none⟩ (v14)) := by
 iterate 15 refine Chg.setCell ?_ _ _ hb
 exact h
theorem Fresh.swap {B : Nat} {w : World} {a b c : List Nat} (h : Fresh B w (a ++ (b ++ c))) : Fresh B w (b ++ (a ++ (c ++ []))) := by
 have p : (a ++ (b ++ c)).Perm (b ++ (a ++ (c ++ []))) := by
  rw [List.append_nil, ← List.append_assoc, ← List.append_assoc]
  exact List.perm_append_comm.append_right c
 exact ⟨p.nodup_iff.1 h.1, fun y hy => h.2 y (p.mem_iff.2 hy)⟩
set_option maxRecDepth 100000 in
set_option maxHeartbeats 4000000 in
theorem cloneWorld_any (x : Wld) (cx : Array Value) (fx : List Nat) (w : World) (hx : wldL.rep w cx.toList x fx) (hz : totWld x ≤ 1048576) :
  Calls Tryz.prog 80 #[.agg cx] w (NewAgg wldL x w) := by
 obtain ⟨KD, _⟩ := kindDrive
 obtain ⟨KS, _⟩ := kindDS
 obtain ⟨KT, _⟩ := kindTape
 obtain ⟨a10, l10, c10, f10, a11, l11, c11, f11, a12, l12, c12, f12, ex, o1, o2, o3, o4, o5, o6, o7, o8, o9, h10, h11, h12, o13, o14, -⟩ := wldL_iff.1 hx
 obtain rfl := Array.toList_inj.1 (ex.trans (List.toList_toArray).symm)
 have q10 := totL_nonneg (totL_nonneg totDrv_nonneg) x.groups; have q11 := totIs_nonneg x.on; have q12 := totL_nonneg totTap_nonneg x.tapes
 unfold totWld at hz
 have z10 : totL (totL totDrv) x.groups ≤ 1048576 := by omega
 have z12 : totL totTap x.tapes ≤ 1048576 := by omega
 have hl10 : l10 ≤ 1048576 := by have := totL_len (totL_nonneg totDrv_nonneg) x.groups; rw [h10.1]; omega
 have hl11 : l11 ≤ 1048576 := by rw [h11.1]; unfold totIs at hz q11; omega
 have hl12 : l12 ≤ 1048576 := by have := totL_len totTap_nonneg x.tapes; rw [h12.1]; omega
 have L10 := hid h10.1; have L11 := hid h11.1; have L12 := hid h12.1
 have H10 := hid h10; have H11 := hid h11; have H12 := hid h12
 have HO := hid (And.intro o1 (And.intro o2 (And.intro o3 (And.intro o4 (And.intro o5 (And.intro o6 (And.intro o7 (And.intro o8 (And.intro o9 (And.intro o13 o14))))))))))
 have Z10 := hid (fun g hg => Int.le_trans (totL_mem (totL_nonneg totDrv_nonneg) hg) z10 : ∀ g ∈ x.groups, totL totDrv g ≤ 1048576)
 have Z12 := hid (fun t ht => Int.le_trans (totL_mem totTap_nonneg ht) z12 : ∀ t ∈ x.tapes, totTap t ≤ 1048576)
 clear hx ex hz q10 q11 q12 z10 z12 h10 h11 h12 o1 o2 o3 o4 o5 o6 o7 o8 o9 o13 o14
 have G0 := hid (show Chg [] w (((w.alloc (.cells #[.int .i64 x.shape.groups, .int .i64 x.shape.column, .int .i64 x.shape.data, .int .i64 x.shape.spare, .int .i64 x.shape.rows, .int .i64 x.shape.cap, .int .i64 x.shape.batch, .int .i64 x.shape.queue, .int .i64 x.shape.stage, .slice a10 l10 c10, .slice a11 l11 c11, .slice a12 l12 c12, .int .i64 x.writes, .int .i64 x.stop, .bool x.down] 34)).alloc (.cells #[.int .i64 0, .int .i64 0, .int .i64 0, .int .i64 0, .int .i64 0, .int .i64 0, .int .i64 0, .int .i64 0, .int .i64 0, .slice none 0 0, .slice none 0 0, .slice none 0 0, .int .i64 0, .int .i64 0, .bool false] 34)).alloc (.cells #[.int .i64 x.shape.groups, .int .i64 x.shape.column, .int .i64 x.shape.data, .int .i64 x.shape.spare, .int .i64 x.shape.rows, .int .i64 x.shape.cap, .int .i64 x.shape.batch, .int .i64 x.shape.queue, .int .i64 x.shape.stage, .slice a10 l10 c10, .slice a11 l11 c11, .slice a12 l12 c12, .int .i64 x.writes, .int .i64 x.stop, .bool x.down] 34)) from ((((Chg.refl [] w).alloc _).alloc _).alloc _))
 have B1 := hid (show (((w.alloc (.cells #[.int .i64 x.shape.groups, .int .i64 x.shape.column, .int .i64 x.shape.data, .int .i64 x.shape.spare, .int .i64 x.shape.rows, .int .i64 x.shape.cap, .int .i64 x.shape.batch, .int .i64 x.shape.queue, .int .i64 x.shape.stage, .slice a10 l10 c10, .slice a11 l11 c11, .slice a12 l12 c12, .int .i64 x.writes, .int .i64 x.stop, .bool x.down] 34)).alloc (.cells #[.int .i64 0, .int .i64 0, .int .i64 0, .int .i64 0, .int .i64 0, .int .i64 0, .int .i64 0, .int .i64 0, .int .i64 0, .slice none 0 0, .slice none 0 0, .slice none 0 0, .int .i64 0, .int .i64 0, .bool false] 34)).alloc (.cells #[.int .i64 x.shape.groups, .int .i64 x.shape.column, .int .i64 x.shape.data, .int .i64 x.shape.spare, .int .i64 x.shape.rows, .int .i64 x.shape.cap, .int .i64 x.shape.batch, .int .i64 x.shape.queue, .int .i64 x.shape.stage, .slice a10 l10 c10, .slice a11 l11 c11, .slice a12 l12 c12, .int .i64 x.writes, .int .i64 x.stop, .bool x.down] 34)).heap[w.heap.size]? = some (.cells #[.int .i64 x.shape.groups, .int .i64 x.shape.column, .int .i64 x.shape.data, .int .i64 x.shape.spare, .int .i64 x.shape.rows, .int .i64 x.shape.cap, .int .i64 x.shape.batch, .int .i64 x.shape.queue, .int .i64 x.shape.stage, .slice a10 l10 c10, .slice a11 l11 c11, .slice a12 l12 c12, .int .i64 x.writes, .int .i64 x.stop, .bool x.down] 34 (0, 0)) from keep_alloc (keep_alloc (new_alloc w _) _) _)
 have B2 := hid (show (((w.alloc (.cells #[.int .i64 x.shape.groups, .int .i64 x.shape.column, .int .i64 x.shape.data, .int .i64 x.shape.spare, .int .i64 x.shape.rows, .int .i64 x.shape.cap, .int .i64 x.shape.batch, .int .i64 x.shape.queue, .int .i64 x.shape.stage, .slice a10 l10 c10, .slice a11 l11 c11, .slice a12 l12 c12, .int .i64 x.writes, .int .i64 x.stop, .bool x.down] 34)).alloc (.cells #[.int .i64 0, .int .i64 0, .int .i64 0, .int .i64 0, .int .i64 0, .int .i64 0, .int .i64 0, .int .i64 0, .int .i64 0, .slice none 0 0, .slice none 0 0, .slice none 0 0, .int .i64 0, .int .i64 0, .bool false] 34)).alloc (.cells #[.int .i64 x.shape.groups, .int .i64 x.shape.column, .int .i64 x.shape.data, .int .i64 x.shape.spare, .int .i64 x.shape.rows, .int .i64 x.shape.cap, .int .i64 x.shape.batch, .int .i64 x.shape.queue, .int .i64 x.shape.stage, .slice a10 l10 c10, .slice a11 l11 c11, .slice a12 l12 c12, .int .i64 x.writes, .int .i64 x.stop, .bool x.down] 34)).heap[w.heap.size + 1]? = some (.cells #[.int .i64 0, .int .i64 0, .int .i64 0, .int .i64 0, .int .i64 0, .int .i64 0, .int .i64 0, .int .i64 0, .int .i64 0, .slice none 0 0, .slice none 0 0, .slice none 0 0, .int .i64 0, .int .i64 0, .bool false] 34 (0, 0)) from keep_alloc (new_at (by simp) _) _)
 have B3 := hid (show (((w.alloc (.cells #[.int .i64 x.shape.groups, .int .i64 x.shape.column, .int .i64 x.shape.data, .int .i64 x.shape.spare, .int .i64 x.shape.rows, .int .i64 x.shape.cap, .int .i64 x.shape.batch, .int .i64 x.shape.queue, .int .i64 x.shape.stage, .slice a10 l10 c10, .slice a11 l11 c11, .slice a12 l12 c12, .int .i64 x.writes, .int .i64 x.stop, .bool x.down] 34)).alloc (.cells #[.int .i64 0, .int .i64 0, .int .i64 0, .int .i64 0, .int .i64 0, .int .i64 0, .int .i64 0, .int .i64 0, .int .i64 0, .slice none 0 0, .slice none 0 0, .slice none 0 0, .int .i64 0, .int .i64 0, .bool false] 34)).alloc (.cells #[.int .i64 x.shape.groups, .int .i64 x.shape.column, .int .i64 x.shape.data, .int .i64 x.shape.spare, .int .i64 x.shape.rows, .int .i64 x.shape.cap, .int .i64 x.shape.batch, .int .i64 x.shape.queue, .int .i64 x.shape.stage, .slice a10 l10 c10, .slice a11 l11 c11, .slice a12 l12 c12, .int .i64 x.writes, .int .i64 x.stop, .bool x.down] 34)).heap[w.heap.size + 2]? = some (.cells #[.int .i64 x.shape.groups, .int .i64 x.shape.column, .int .i64 x.shape.data, .int .i64 x.shape.spare, .int .i64 x.shape.rows, .int .i64 x.shape.cap, .int .i64 x.shape.batch, .int .i64 x.shape.queue, .int .i64 x.shape.stage, .slice a10 l10 c10, .slice a11 l11 c11, .slice a12 l12 c12, .int .i64 x.writes, .int .i64 x.stop, .bool x.down] 34 (0, 0)) from new_at (by simp) _)
 have S0 := hid (show w.heap.size + 3 ≤ (((w.alloc (.cells #[.int .i64 x.shape.groups, .int .i64 x.shape.column, .int .i64 x.shape.data, .int .i64 x.shape.spare, .int .i64 x.shape.rows, .int .i64 x.shape.cap, .int .i64 x.shape.batch, .int .i64 x.shape.queue, .int .i64 x.shape.stage, .slice a10 l10 c10, .slice a11 l11 c11, .slice a12 l12 c12, .int .i64 x.writes, .int .i64 x.stop, .bool x.down] 34)).alloc (.cells #[.int .i64 0, .int .i64 0, .int .i64 0, .int .i64 0, .int .i64 0, .int .i64 0, .int .i64 0, .int .i64 0, .int .i64 0, .slice none 0 0, .slice none 0 0, .slice none 0 0, .int .i64 0, .int .i64 0, .bool false] 34)).alloc (.cells #[.int .i64 x.shape.groups, .int .i64 x.shape.column, .int .i64 x.shape.data, .int .i64 x.shape.spare, .int .i64 x.shape.rows, .int .i64 x.shape.cap, .int .i64 x.shape.batch, .int .i64 x.shape.queue, .int .i64 x.shape.stage, .slice a10 l10 c10, .slice a11 l11 c11, .slice a12 l12 c12, .int .i64 x.writes, .int .i64 x.stop, .bool x.down] 34)).heap.size from ltOf B3.out)
 go_enter Tryz.func80, Tryz.ntmps80
 go_wp2_with fail
 refine (cpyI_any a11 l11 c11 x.on f11 _ (intL.sl_ext H11.out G0.out) (by omega)).mono ?_
 rintro e w1 ⟨p11, d11, g11, rfl, hs, hf, hc⟩
 rw [← L11.out] at hs ⊢
 obtain ⟨e1, n1, A1⟩ := bk0 hc B1.out; obtain ⟨e2, n2, A2⟩ := bk0 hc B2.out; obtain ⟨e3, n3, A3⟩ := bk0 hc B3.out
 have fz := freeOf A3.out
 have G1 := hid (G0.out.trans0 hc)
 have HON := hid (And.intro hs (hf.mono (C := w.heap.size + 3) S0.out))
 clear hs hf hc B1 B2 B3 G0 S0
 go_wp2_with fail
 go_loopw [21] (fun vi wr => ∃ (k : Nat) (v : Value) (Wr : World), Wr = wr ∧ k ≤ l10 ∧ vi = .int .i64 k ∧ GrowC drvL.slice 83 w1.heap.size wr v (x.groups.take k) ∧ wr.heap[w.heap.size + 2]? = some (.cells #[.int .i64 x.shape.groups, .int .i64 x.shape.column, .int .i64 x.shape.data, .int .i64 x.shape.spare, .int .i64 x.shape.rows, .int .i64 x.shape.cap, .int .i64 x.shape.batch, .int .i64 x.shape.queue, .int .i64 x.shape.stage, v, .slice p11 l11 d11, .slice none 0 0, .int .i64 x.writes, .int .i64 x.stop, .bool x.down] 34 (0, 0)) ∧ Chg [w.heap.size + 2] w1 wr) (fun vi _ => l10 - (intOf vi).toNat)
 case atStart => exact ⟨0, .slice none 0 0, _, rfl, by omega, rfl, by rw [List.take_zero]; exact GrowC.nil (by simp), heap_set_lit (cur := #[.int .i64 x.shape.groups, .int .i64 x.shape.column, .int .i64 x.shape.data, .int .i64 x.shape.spare, .int .i64 x.shape.rows, .int .i64 x.shape.cap, .int .i64 x.shape.batch, .int .i64 x.shape.queue, .int .i64 x.shape.stage, .slice none 0 0, .slice p11 l11 d11, .slice a12 l12 c12, .int .i64 x.writes, .int .i64 x.stop, .bool x.down]) (heap_set_lit (cur := #[.int .i64 x.shape.groups, .int .i64 x.shape.column, .int .i64 x.shape.data, .int .i64 x.shape.spare, .int .i64 x.shape.rows, .int .i64 x.shape.cap, .int .i64 x.shape.batch, .int .i64 x.shape.queue, .int .i64 x.shape.stage, .slice none 0 0, .slice a11 l11 c11, .slice a12 l12 c12, .int .i64 x.writes, .int .i64 x.stop, .bool x.down]) (heap_set_lit (cur := #[.int .i64 x.shape.groups, .int .i64 x.shape.column, .int .i64 x.shape.data, .int .i64 x.shape.spare, .int .i64 x.shape.rows, .int .i64 x.shape.cap, .int .i64 x.shape.batch, .int .i64 x.shape.queue, .int .i64 x.shape.stage, .slice a10 l10 c10, .slice a11 l11 c11, .slice a12 l12 c12, .int .i64 x.writes, .int .i64 x.stop, .bool x.down]) A3.out rfl) rfl) rfl, (((Chg.refl _ _).setCell _ _ (.inl (by simp))).setCell _ _ (.inl (by simp))).setCell _ _ (.inl (by simp))⟩
 case round =>
  obtain ⟨k, v, wr, rfl, hk, rfl, hg, hb3, hc⟩ := hrel
  have hcw : Chg [] w wr := G1.out.trans hc (by simp)
  have D1 := hid (hc.keepb A1.out (by simp)); have D2 := hid (hc.keepb A2.out (by simp)); have D3 := hid hb3
  by_cases hlt : k < l10
  ·obtain ⟨g, b, off, ag, lg, cg, fg, HX, rfl, hcx, HXS⟩ := slc_at (drvL.slice.sl_ext H10.out hcw) hlt
   have HG := hid hg; have HC := hid hc; have HCW := hid hcw
   have HXI := hid HX.out.1
   have HXZ := hid (Z10.out g (List.mem_of_getElem? HX.out.1))
   have hlg : lg ≤ 1048576 := by have := totL_len totDrv_nonneg g; have := HXZ.out; rw [HXS.out.1]; omega
   have LG := hid HXS.out.1
   clear hg hc hcw HX hb3
   go_wp2_with fail
   go_loopw [6, 28] (fun vo vi wi => ∃ (j : Nat) (Wi : World), Wi = wi ∧ j ≤ lg ∧ vi = .int .i64 j ∧ Grow drvL 82 wr wi vo (g.take j)) (fun _ vi _ => lg - (intOf vi).toNat)
   case atStart => exact ⟨0, _, rfl, by omega, rfl, by rw [List.take_zero]; exact Grow.made (Chg.refl _ _)⟩
   case round =>
    obtain ⟨j, wi, rfl, hj, rfl, hgi⟩ := hrel
    by_cases hlj : j < lg
    ·obtain ⟨y, b2, off2, a2, l2, c2, f2, HY, rfl, hy0, hy1, HYS⟩ := drive_at (drvL.sl_ext HXS.out hgi.chg) hlj
     have HGI := hid hgi
     have HYI := hid HY.out.1
     have HYZ := hid (Int.le_trans (totL_mem totDrv_nonneg (List.mem_of_getElem? HY.out.1)) HXZ.out)
     clear hgi HY
     go_wp2_with fail
     refine (cloneDrive_any y #[.bool y.wiped, .slice a2 l2 c2] f2 _ (drvL.ext HYS.out ((Chg.refl [] wi).alloc (.cells #[.bool y.wiped, .slice a2 l2 c2] 82))) HYZ.out).mono ?_
     rintro e w2 ⟨cs, f1, rfl, hr, hf, hc⟩
     obtain ⟨p2, m2, d2, _, ex, -⟩ := drvL_iff.1 hr
     obtain rfl := Array.toList_inj.1 (ex.trans (List.toList_toArray).symm)
     have HN1 := hid (And.intro hr (And.intro (hf.mono (C := wi.heap.size) (by simp)) (((Chg.refl [] wi).alloc (.cells #[.bool y.wiped, .slice a2 l2 c2] 82)).trans0 hc)))
     have HLL : Hid ((g.take j).length + [y].length ≤ maxLen ∧ ((g.take j).length + [y].length) * 32 ≤ 140737488355328) := by
      refine ⟨?_, ?_⟩ <;> simp only [List.length_take, List.length_cons, List.length_nil, maxLen] <;> omega
     have HNX := hid (take_next HYI.out)
     clear ex hr hf hc hy0 hy1 HYS
     go_wp2_with (at_builtin; refine drvL.wpList_grow rfl _ _ 83 rfl Tryz.underlying83 KD rfl HGI.out (HN1.out.2.2.alloc (.cells #[.bool y.wiped, .slice p2 m2 d2] 82)) ⟨w2.heap.size, 0, none⟩ 1 1 [.bool y.wiped, .slice p2 m2 d2] (ys := [y]) (f := f1) rfl rfl (new_cells w2 #[.bool y.wiped, .slice p2 m2 d2] 82) (drvL.all_single (drvL.ext HN1.out.1 ((Chg.refl [] w2).alloc _))) (HN1.out.2.1.chg ((Chg.refl [] w2).alloc (.cells #[.bool y.wiped, .slice p2 m2 d2] 82))) HLL.out.1 HLL.out.2 ?_; intro v' w' hg'; rw [← HNX.out] at hg'; have HG2 := hid hg'; clear hg')
     go_roundw
     case rel => exact ⟨j + 1, _, rfl, by omega, by go_num, HG2.out⟩
     case measure => simp [intOf]; omega
    ·obtain rfl : j = lg := by omega
     rw [List.take_of_length_le (by have := LG.out; omega)] at hgi
     obtain ⟨p9, c9, f9, h1, hs9, hf9, hc9⟩ := hgi.sl
     subst h1
     have HN9 := hid (And.intro hs9 (And.intro hf9 hc9))
     rw [← LG.out] at HN9 ⊢
     have E3 := hid (hc9.keep0 D3.out); have e3 := cellsOf E3.out; have n3' := ltOf E3.out
     have HLL : Hid ((x.groups.take k).length + [g].length ≤ maxLen ∧ ((x.groups.take k).length + [g].length) * 24 ≤ 140737488355328) := by
      refine ⟨?_, ?_⟩ <;> simp only [List.length_take, List.length_cons, List.length_nil, maxLen] <;> omega
     have HNX := hid (take_next HXI.out)
     clear hs9 hf9 hc9 hgi
     go_wp2_with (at_builtin; refine GrowB.wpList rfl _ _ 31 rfl Tryz.underlying31 KS rfl (HG.out.b.ext (HN9.out.2.2.alloc (.cells #[.slice p9 j c9] 83))) ⟨wi.heap.size, 0, none⟩ 1 1 [.slice p9 j c9] (ys := [g]) (f := f9) rfl rfl (new_cells wi #[.slice p9 j c9] 83) (drvL.slice.all_single ⟨p9, j, c9, rfl, drvL.sl_ext HN9.out.1 ((Chg.refl [] wi).alloc _)⟩) (HN9.out.2.1.chg ((Chg.refl [] wi).alloc (.cells #[.slice p9 j c9] 83))) HLL.out.1 HLL.out.2 ?_; intro v' w3 hg' hup; rw [← HNX.out] at hg'; obtain ⟨pv, lv, cv, rfl⟩ : ∃ a l c, v' = Value.slice a l c := (by obtain ⟨a, c, f, h, -⟩ := hg'.sl; exact ⟨a, _, c, h⟩); have HG2 := hid hg'; have HU := hid hup; have E4 := hid ((hup.low (w.heap.size + 2) n3).trans (keep_alloc E3.out _)); have e4 := cellsOf E4.out; have n4 := ltOf E4.out; have z4 := freeOf E4.out; clear hg' hup)
     have r1 := HG2.out.chg ((Chg.refl [w.heap.size + 2] w3).setCell ⟨w.heap.size + 2, 9, none⟩ (.slice pv lv cv) (.inl (by simp))) (by simp; omega)
     have r3 : (w3.setCell ⟨w.heap.size + 2, 9, none⟩ (.slice pv lv cv)).heap[w.heap.size + 2]? = some (.cells #[.int .i64 x.shape.groups, .int .i64 x.shape.column, .int .i64 x.shape.data, .int .i64 x.shape.spare, .int .i64 x.shape.rows, .int .i64 x.shape.cap, .int .i64 x.shape.batch, .int .i64 x.shape.queue, .int .i64 x.shape.stage, .slice pv lv cv, .slice p11 l11 d11, .slice none 0 0, .int .i64 x.writes, .int .i64 x.stop, .bool x.down] 34 (0, 0)) := heap_set_lit (cur := #[.int .i64 x.shape.groups, .int .i64 x.shape.column, .int .i64 x.shape.data, .int .i64 x.shape.spare, .int .i64 x.shape.rows, .int .i64 x.shape.cap, .int .i64 x.shape.batch, .int .i64 x.shape.queue, .int .i64 x.shape.stage, v, .slice p11 l11 d11, .slice none 0 0, .int .i64 x.writes, .int .i64 x.stop, .bool x.down]) E4.out rfl
     have r4 := (HU.out.chg (HC.out.trans0 (HN9.out.2.2.alloc (.cells #[.slice p9 j c9] 83))) (Nat.le_refl _)).setCell ⟨w.heap.size + 2, 9, none⟩ (.slice pv lv cv) (.inl (by simp))
     have HR := hid (And.intro r1 (And.intro r3 r4))
     clear r1 r3 r4
     go_roundw
     case rel => exact ⟨k + 1, .slice pv lv cv, _, rfl, by omega, by go_num, HR.out.1, HR.out.2.1, HR.out.2.2⟩
     case measure => simp [intOf]; omega
  ·obtain rfl : k = l10 := by omega
   rw [List.take_of_length_le (by have := L10.out; omega)] at hg
   obtain ⟨p10, d10, g10, rfl, hs, hf⟩ := hg.sl
   rw [← L10.out] at hs D3
   have HGR := hid (And.intro hs (And.intro hf hc))
   have e1 := cellsOf D1.out; have m1 := ltOf D1.out
   clear hg hs hf hb3 hc
   go_wp2_with fail
   go_loopw [48] (fun vi wt => ∃ (i : Nat) (v : Value) (Wt : World), Wt = wt ∧ i ≤ l12 ∧ vi = .int .i64 i ∧ GrowC tapL 69 wr.heap.size wt v (x.tapes.take i) ∧ wt.heap[w.heap.size + 2]? = some (.cells #[.int .i64 x.shape.groups, .int .i64 x.shape.column, .int .i64 x.shape.data, .int .i64 x.shape.spare, .int .i64 x.shape.rows, .int .i64 x.shape.cap, .int .i64 x.shape.batch, .int .i64 x.shape.queue, .int .i64 x.shape.stage, .slice p10 k d10, .slice p11 l11 d11, v, .int .i64 x.writes, .int .i64 x.stop, .bool x.down] 34 (0, 0)) ∧ Chg [w.heap.size + 2] wr wt) (fun vi _ => l12 - (intOf vi).toNat)
   case atStart => exact ⟨0, .slice none 0 0, _, rfl, by omega, rfl, by rw [List.take_zero]; exact GrowC.nil (Nat.le_refl _), D3.out, Chg.refl _ _⟩
   case round =>
    obtain ⟨i, v, wt, rfl, hi, rfl, hg, hb3, hc⟩ := hrel
    have hcw2 : Chg [] w wt := hcw.trans hc (by simp)
    have E1 := hid (hc.keepb D1.out (by simp)); have E2 := hid (hc.keepb D2.out (by simp)); have E3 := hid hb3
    have m3 : w.heap.size + 2 < wr.heap.size := ltOf D3.out
    by_cases hlt : i < l12
    ·obtain ⟨y, b, off, a2, l2, c2, f2, HY, rfl, hy0, hy1, HYS⟩ := tape_at (tapL.sl_ext H12.out hcw2) hlt
     have HG := hid hg; have HC := hid hc
     have HYI := hid HY.out.1
     obtain ⟨_, _, _, _, exb, hby, -⟩ := tapL_iff.1 HYS.out
     obtain ⟨q1, q2, q3⟩ := Value.slice.inj (List.cons.inj (List.cons.inj exb).2).1
     subst q1 q2 q3
     have HYZ := hid (Z12.out y (List.mem_of_getElem? HYI.out) : totL totRec y.recs ≤ 1048576)
     have HBY := hid hby
     have LB := hid hby.1.symm
     have e3 := cellsOf E3.out; have n3' := ltOf E3.out
     clear hg hb3 hc HY exb hby HYS hcw2
     go_wp2_with fail
     have F1 := hid (show (wt.alloc (.cells #[.bool y.wiped, .slice a2 l2 c2] 69)).drew.heap[w.heap.size + 2]? = some (.cells #[.int .i64 x.shape.groups, .int .i64 x.shape.column, .int .i64 x.shape.data, .int .i64 x.shape.spare, .int .i64 x.shape.rows, .int .i64 x.shape.cap, .int .i64 x.shape.batch, .int .i64 x.shape.queue, .int .i64 x.shape.stage, .slice p10 k d10, .slice p11 l11 d11, v, .int .i64 x.writes, .int .i64 x.stop, .bool x.down] 34 (0, 0)) from keep_drew (keep_alloc E3.out _))
     have F2 := hid (show (wt.alloc (.cells #[.bool y.wiped, .slice a2 l2 c2] 69)).drew.heap[wt.heap.size]? = some (.cells #[.bool y.wiped, .slice a2 l2 c2] 69 (0, 0)) from keep_drew (new_alloc wt _))
     have G0 := hid (((Chg.refl [] wt).alloc (.cells #[.bool y.wiped, .slice a2 l2 c2] 69)).drew)
     have HCW2 := hid (hcw.trans HC.out (by simp) : Chg [] w wt)
     have HLL : Hid ((x.tapes.take i).length + [y].length ≤ maxLen ∧ ((x.tapes.take i).length + [y].length) * 32 ≤ 140737488355328) := by
      refine ⟨?_, ?_⟩ <;> simp only [List.length_take, List.length_cons, List.length_nil, maxLen] <;> omega
     have HNX := hid (take_next HYI.out)
     obtain ⟨CC, HCI, HCO⟩ := rg_cond (fun w' => Know (w.heap.size + 2) #[.int .i64 x.shape.groups, .int .i64 x.shape.column, .int .i64 x.shape.data, .int .i64 x.shape.spare, .int .i64 x.shape.rows, .int .i64 x.shape.cap, .int .i64 x.shape.batch, .int .i64 x.shape.queue, .int .i64 x.shape.stage, .slice p10 k d10, .slice p11 l11 d11, v, .int .i64 x.writes, .int .i64 x.stop, .bool x.down] w' ∧ Know wt.heap.size #[.bool y.wiped, .slice a2 l2 c2] w')
     refine gg_start [9] CC (by kernel_rfl) (HCI.out _ ⟨(Know.of F1.out), (Know.of F2.out)⟩) (fun hcl hS => ?_)
     refine ggT 0 hcl hS ?_; clear hcl hS; intro hcl hS
     refine ggL 1 hcl hS HCO ?_; clear hcl hS; intro hcl hS
     refine ggT 2 hcl hS ?_; clear hcl hS; intro hcl hS
     refine ggL 3 hcl hS HCO ?_; clear hcl hS; intro hcl hS
     refine ggT 4 hcl hS ?_; clear hcl hS; intro hcl hS
     refine ggL 5 hcl hS HCO ?_; clear hcl hS; intro hcl hS
     refine ggC 6 hcl rfl (by kernel_rfl) (fun K hK => ?_)
     go_simp
     go_at_call 93
     refine (cloneRecs_any a2 l2 c2 y.recs _ _ (recL.sl_ext HBY.out G0.out) HYZ.out).mono ?_; rintro e w4 ⟨p2, d2, g2, rfl, hs, hf, hc⟩
     rw [LB.out] at hs ⊢; have HN1 := hid (And.intro hs (And.intro (hf.mono (C := wt.heap.size) (by simp [World.drew])) (G0.out.trans0 hc))); obtain ⟨-, -, F3⟩ := bk0 hc F1.out; obtain ⟨-, -, F4⟩ := bk0 hc F2.out; clear hs hf hc
     go_wp2_with fail
     refine hK.out _ _ (fun _ => HCI.out _ ⟨(Know.of F3.out), (Know.of F4.out)⟩) ?_
     clear hK K hcl hS
     intro hcl hS
     try simp only [Act.put, pA, pB, pC]
     refine ggT 7 hcl hS ?_; clear hcl hS; intro hcl hS
     refine ggC 8 hcl rfl (by kernel_rfl) (fun K hK => ?_)
     go_simp
     refine hK.out _ _ (fun _ => HCI.out _ ⟨(Know.of (keep_alloc F3.out _)), (Know.of (keep_alloc F4.out _))⟩) ?_
     clear hK K hcl hS
     intro hcl hS
     try simp only [Act.put, pA, pB, pC]
     refine ggC 9 hcl rfl (by kernel_rfl) (fun K hK => ?_)
     refine GrowB.step rfl _ _ 32 rfl Tryz.underlying32 KT rfl (HG.out.b.ext (HN1.out.2.2.alloc (.cells #[.bool y.wiped, .slice p2 l2 d2] 69))) ⟨w4.heap.size, 0, none⟩ 1 1 [.bool y.wiped, .slice p2 l2 d2] (ys := [y]) (f := g2) rfl rfl (new_cells w4 #[.bool y.wiped, .slice p2 l2 d2] 69) (tapL.all_single (tapL_iff.2 ⟨p2, l2, d2, g2, rfl, recL.sl_ext HN1.out.1 ((Chg.refl [] w4).alloc _), by simp⟩)) (HN1.out.2.1.chg ((Chg.refl [] w4).alloc _)) HLL.out.1 HLL.out.2 ?_
     intro v' w5 hg' hup
     rw [← HNX.out] at hg'
     obtain ⟨pv, lv, cv, rfl⟩ : ∃ a l c, v' = Value.slice a l c := by obtain ⟨a, c, f, h, -⟩ := hg'.sl; exact ⟨a, _, c, h⟩
     have HG2 := hid hg'; have HU := hid hup
     have F5 := hid ((hup.low (w.heap.size + 2) m3).trans (keep_alloc F3.out _)); have k5 := cellsOf F5.out; have n5 := ltOf F5.out; have z5 := freeOf F5.out; clear hg' hup
     refine hK.out _ _ (Till.done (m := 9) (by simp) (by rfl)) ?_
     clear hK K hcl hS
     intro hcl hS
     try simp only [Act.put, pA, pB, pC]
     refine ggT 10 hcl hS ?_; clear hcl hS; intro hcl hS
     refine ggC 11 hcl rfl (by kernel_rfl) (fun K hK => ?_)
     go_simp
     refine hK.out _ _ (Till.done (m := 9) (by simp) (by rfl)) ?_
     clear hK K hcl hS
     intro hcl hS
     try simp only [Act.put, pA, pB, pC]
     refine ggEnd (by kernel_rfl) ?_ _
     have r1 := HG2.out.chg ((Chg.refl [w.heap.size + 2] w5).setCell ⟨w.heap.size + 2, 11, none⟩ (.slice pv lv cv) (.inl (by simp))) (by simp; omega)
     have r3 : (w5.setCell ⟨w.heap.size + 2, 11, none⟩ (.slice pv lv cv)).heap[w.heap.size + 2]? = some (.cells #[.int .i64 x.shape.groups, .int .i64 x.shape.column, .int .i64 x.shape.data, .int .i64 x.shape.spare, .int .i64 x.shape.rows, .int .i64 x.shape.cap, .int .i64 x.shape.batch, .int .i64 x.shape.queue, .int .i64 x.shape.stage, .slice p10 k d10, .slice p11 l11 d11, .slice pv lv cv, .int .i64 x.writes, .int .i64 x.stop, .bool x.down] 34 (0, 0)) := heap_set_lit (cur := #[.int .i64 x.shape.groups, .int .i64 x.shape.column, .int .i64 x.shape.data, .int .i64 x.shape.spare, .int .i64 x.shape.rows, .int .i64 x.shape.cap, .int .i64 x.shape.batch, .int .i64 x.shape.queue, .int .i64 x.shape.stage, .slice p10 k d10, .slice p11 l11 d11, v, .int .i64 x.writes, .int .i64 x.stop, .bool x.down]) F5.out rfl
     have r4 := (HU.out.chg (HC.out.trans0 (HN1.out.2.2.alloc (.cells #[.bool y.wiped, .slice p2 l2 d2] 69))) (Nat.le_refl _)).setCell ⟨w.heap.size + 2, 11, none⟩ (.slice pv lv cv) (.inl (by simp))
     have HR := hid (And.intro r1 (And.intro r3 r4))
     clear r1 r3 r4
     go_wp2_with fail
     go_roundw
     case rel => exact ⟨i + 1, .slice pv lv cv, _, rfl, by omega, by go_num, HR.out.1, HR.out.2.1, HR.out.2.2⟩
     case measure => simp [intOf]; omega
    ·obtain rfl : i = l12 := by omega
     rw [List.take_of_length_le (by have := L12.out; omega)] at hg
     obtain ⟨p12, d12, g12, rfl, hs, hf⟩ := hg.sl
     rw [← L12.out] at hs E3
     have e3 := cellsOf E3.out; have m3' := ltOf E3.out; have e2 := cellsOf E2.out; have m2 := ltOf E2.out; have fz2 := freeOf E2.out
     have hq := row15_back (.int .i64 x.shape.groups) (.int .i64 x.shape.column) (.int .i64 x.shape.data) (.int .i64 x.shape.spare) (.int .i64 x.shape.rows) (.int .i64 x.shape.cap) (.int .i64 x.shape.batch) (.int .i64 x.shape.queue) (.int .i64 x.shape.stage) (.slice p10 k d10) (.slice p11 l11 d11) (.slice p12 i d12) (.int .i64 x.writes) (.int .i64 x.stop) (.bool x.down) E2.out
     have cS : Chg [w.heap.size + 1] wt (((((((((((((((wt.setCell ⟨w.heap.size + 1, 0, none⟩ (.int .i64 x.shape.groups)).setCell ⟨w.heap.size + 1, 1, none⟩ (.int .i64 x.shape.column)).setCell ⟨w.heap.size + 1, 2, none⟩ (.int .i64 x.shape.data)).setCell ⟨w.heap.size + 1, 3, none⟩ (.int .i64 x.shape.spare)).setCell ⟨w.heap.size + 1, 4, none⟩ (.int .i64 x.shape.rows)).setCell ⟨w.heap.size + 1, 5, none⟩ (.int .i64 x.shape.cap)).setCell ⟨w.heap.size + 1, 6, none⟩ (.int .i64 x.shape.batch)).setCell ⟨w.heap.size + 1, 7, none⟩ (.int .i64 x.shape.queue)).setCell ⟨w.heap.size + 1, 8, none⟩ (.int .i64 x.shape.stage)).setCell ⟨w.heap.size + 1, 9, none⟩ (.slice p10 k d10)).setCell ⟨w.heap.size + 1, 10, none⟩ (.slice p11 l11 d11)).setCell ⟨w.heap.size + 1, 11, none⟩ (.slice p12 i d12)).setCell ⟨w.heap.size + 1, 12, none⟩ (.int .i64 x.writes)).setCell ⟨w.heap.size + 1, 13, none⟩ (.int .i64 x.stop)).setCell ⟨w.heap.size + 1, 14, none⟩ (.bool x.down)) := chg15 (.int .i64 x.shape.groups) (.int .i64 x.shape.column) (.int .i64 x.shape.data) (.int .i64 x.shape.spare) (.int .i64 x.shape.rows) (.int .i64 x.shape.cap) (.int .i64 x.shape.batch) (.int .i64 x.shape.queue) (.int .i64 x.shape.stage) (.slice p10 k d10) (.slice p11 l11 d11) (.slice p12 i d12) (.int .i64 x.writes) (.int .i64 x.stop) (.bool x.down) (Chg.refl _ wt) (.inl (by simp))
     have s1 := HGR.out.2.2.size
     have n11 := fun T (hT : ∀ b ∈ T, b < w.heap.size + 3) => HON.out.2.nots T hT
     have n10 := fun T (hT : ∀ b ∈ T, b < w1.heap.size) => HGR.out.2.1.nots T hT
     have K10 := drvL.slice.sl_chg (drvL.slice.sl_chg HGR.out.1 hc (n10 _ (by simp; omega))) cS (n10 _ (by simp; omega))
     have K11 := intL.sl_chg (intL.sl_chg (intL.sl_chg HON.out.1 HGR.out.2.2 (n11 _ (by simp))) hc (n11 _ (by simp))) cS (n11 _ (by simp))
     have K12 := tapL.sl_chg hs cS (hf.nots _ (by simp; omega))
     have FF := Fresh.swap (((((HON.out.2.chg HGR.out.2.2).chg hc).chg cS).append (((HGR.out.2.1.chg hc).chg cS).append (hf.chg cS) HGR.out.2.1.lts s1) HON.out.2.lts (by omega)).mono (C := w.heap.size) (by omega))
     have hch : Chg [] w _ := hcw2.trans cS (fun y hy => .inr (by rw [List.mem_singleton] at hy; omega))
     obtain ⟨o1, o2, o3, o4, o5, o6, o7, o8, o9, o13, o14⟩ := HO.out
     have HN := hid (show NewAgg wldL x w (.returned (.agg #[.int .i64 x.shape.groups, .int .i64 x.shape.column, .int .i64 x.shape.data, .int .i64 x.shape.spare, .int .i64 x.shape.rows, .int .i64 x.shape.cap, .int .i64 x.shape.batch, .int .i64 x.shape.queue, .int .i64 x.shape.stage, .slice p10 k d10, .slice p11 l11 d11, .slice p12 i d12, .int .i64 x.writes, .int .i64 x.stop, .bool x.down])) _ from ⟨_, _, rfl, wldL_iff.2 ⟨p10, k, d10, g10, p11, l11, d11, g11, p12, i, d12, g12, rfl, o1, o2, o3, o4, o5, o6, o7, o8, o9, K10, K11, K12, o13, o14, rfl⟩, FF, hch⟩)
     have HQC := hid (cellsOf hq)
     clear hs hf hb3 hc hg hq cS s1 n11 n10 K10 K11 K12 FF hch hcw hcw2 o1 o2 o3 o4 o5 o6 o7 o8 o9 o13 o14
     go_wp2_with fail
     have hqc := HQC.out
     refine bodyPost_ret (v := .agg #[.int .i64 x.shape.groups, .int .i64 x.shape.column, .int .i64 x.shape.data, .int .i64 x.shape.spare, .int .i64 x.shape.rows, .int .i64 x.shape.cap, .int .i64 x.shape.batch, .int .i64 x.shape.queue, .int .i64 x.shape.stage, .slice p10 k d10, .slice p11 l11 d11, .slice p12 i d12, .int .i64 x.writes, .int .i64 x.stop, .bool x.down]) (by simp [results, Tryz.results80, go_sem, hqc]) rfl HN.out
set_option maxRecDepth 100000 in
set_option maxHeartbeats 2000000 in
theorem l5CopyRec_any (x : Rec) (cx : Array Value) (fx : List Nat) (w : World) (hx : recL.rep w cx.toList x fx) (hz : totRec x ≤ 1048576) :
  Calls Tryz.prog 165 #[.agg cx] w (NewAgg recL x w) := by
 obtain ⟨KI, _⟩ := kindI
 obtain ⟨KB, _⟩ := kindB
 obtain ⟨a6, l6, c6, f6, a7, l7, c7, f7, a8, l8, c8, f8, ex, o0, o1, o2, o3, o4, o5, h6, h7, h8, -⟩ := recL_iff.1 hx
 obtain rfl := Array.toList_inj.1 (ex.trans (List.toList_toArray).symm)
 have q6 := totIs_nonneg x.rows; have q7 := totBs_nonneg x.data; have q8 := totBs_nonneg x.delta
 unfold totRec totIs totBs at hz
 unfold totIs at q6; unfold totBs at q7 q8
 have z6 : l6 ≤ 1048576 := by rw [h6.1]; omega
 have z7 : l7 ≤ 1048576 := by rw [h7.1]; omega
 have z8 : l8 ≤ 1048576 := by rw [h8.1]; omega
 have HO := hid (And.intro o0 (And.intro o1 (And.intro o2 (And.intro o3 (And.intro o4 o5)))))
 have L6 := hid h6.1.symm; have L7 := hid h7.1.symm; have L8 := hid h8.1.symm
 have H6 := hid h6; have H7 := hid h7; have H8 := hid h8
 clear hx ex hz q6 q7 q8 o0 o1 o2 o3 o4 o5 h6 h7 h8
 have G0 := hid (show Chg [] w ((w.alloc (.cells #[.int .i64 x.kind, .int .i64 x.seq, .string x.name, .int .i64 x.length, .int .i64 x.group, .int .i64 x.row, .slice a6 l6 c6, .slice a7 l7 c7, .slice a8 l8 c8] 67)).alloc (.cells #[.int .i64 0, .int .i64 0, .string ⟨#[]⟩, .int .i64 0, .int .i64 0, .int .i64 0, .slice none 0 0, .slice none 0 0, .slice none 0 0] 67)) from ((Chg.refl [] w).alloc _).alloc _)
 have A0 := hid (show ((w.alloc (.cells #[.int .i64 x.kind, .int .i64 x.seq, .string x.name, .int .i64 x.length, .int .i64 x.group, .int .i64 x.row, .slice a6 l6 c6, .slice a7 l7 c7, .slice a8 l8 c8] 67)).alloc (.cells #[.int .i64 0, .int .i64 0, .string ⟨#[]⟩, .int .i64 0, .int .i64 0, .int .i64 0, .slice none 0 0, .slice none 0 0, .slice none 0 0] 67)).heap[w.heap.size]? = some (.cells #[.int .i64 x.kind, .int .i64 x.seq, .string x.name, .int .i64 x.length, .int .i64 x.group, .int .i64 x.row, .slice a6 l6 c6, .slice a7 l7 c7, .slice a8 l8 c8] 67 (0, 0)) from keep_alloc (new_alloc w _) _)
 have B0 := hid (show ((w.alloc (.cells #[.int .i64 x.kind, .int .i64 x.seq, .string x.name, .int .i64 x.length, .int .i64 x.group, .int .i64 x.row, .slice a6 l6 c6, .slice a7 l7 c7, .slice a8 l8 c8] 67)).alloc (.cells #[.int .i64 0, .int .i64 0, .string ⟨#[]⟩, .int .i64 0, .int .i64 0, .int .i64 0, .slice none 0 0, .slice none 0 0, .slice none 0 0] 67)).heap[w.heap.size + 1]? = some (.cells #[.int .i64 0, .int .i64 0, .string ⟨#[]⟩, .int .i64 0, .int .i64 0, .int .i64 0, .slice none 0 0, .slice none 0 0, .slice none 0 0] 67 (0, 0)) from new_at (by simp) _)
 have S0 := hid (show w.heap.size + 2 ≤ ((w.alloc (.cells #[.int .i64 x.kind, .int .i64 x.seq, .string x.name, .int .i64 x.length, .int .i64 x.group, .int .i64 x.row, .slice a6 l6 c6, .slice a7 l7 c7, .slice a8 l8 c8] 67)).alloc (.cells #[.int .i64 0, .int .i64 0, .string ⟨#[]⟩, .int .i64 0, .int .i64 0, .int .i64 0, .slice none 0 0, .slice none 0 0, .slice none 0 0] 67)).heap.size by simp)
 have HL6 : Hid (([] : List Int).length + x.rows.length ≤ maxLen ∧ (([] : List Int).length + x.rows.length) * 8 ≤ 140737488355328) := by
  have := L6.out
  refine ⟨?_, ?_⟩ <;> simp only [List.length_nil, maxLen] <;> omega
 have HL7 : Hid (([] : List UInt8).length + x.data.length ≤ maxLen ∧ (([] : List UInt8).length + x.data.length) * 1 ≤ 140737488355328) := by
  have := L7.out
  refine ⟨?_, ?_⟩ <;> simp only [List.length_nil, maxLen] <;> omega
 have HL8 : Hid (([] : List UInt8).length + x.delta.length ≤ maxLen ∧ (([] : List UInt8).length + x.delta.length) * 1 ≤ 140737488355328) := by
  have := L8.out
  refine ⟨?_, ?_⟩ <;> simp only [List.length_nil, maxLen] <;> omega
 go_enter Tryz.func165, Tryz.ntmps165
 go_wp2_with (at_builtin; first | (refine intL.wpList_growS int_flat rfl _ _ 25 rfl Tryz.underlying25 KI rfl (Grow.madeN (Chg.refl [] ((w.alloc (.cells #[.int .i64 x.kind, .int .i64 x.seq, .string x.name, .int .i64 x.length, .int .i64 x.group, .int .i64 x.row, .slice a6 l6 c6, .slice a7 l7 c7, .slice a8 l8 c8] 67)).alloc (.cells #[.int .i64 0, .int .i64 0, .string ⟨#[]⟩, .int .i64 0, .int .i64 0, .int .i64 0, .slice none 0 0, .slice none 0 0, .slice none 0 0] 67))) (by simp)) (Chg.refl [] _) rfl (intL.sl_ext H6.out (G0.out.alloc _)) HL6.out.1 HL6.out.2 ?_; intro v' w1 hg'; obtain ⟨p6, d6, g6, rfl, hs, hf, hc⟩ := hg'.sl; rw [List.nil_append, L6.out] at hs hg' ⊢; obtain ⟨e1, n1, A1'⟩ := bk0 hc A0.out; obtain ⟨-, -, B1'⟩ := bk0 hc B0.out; have fz1 := freeOf A1'.out; have A1 := hid (show (w1.setCell ⟨w.heap.size, 6, none⟩ (.slice p6 l6 d6)).heap[w.heap.size]? = some (.cells #[.int .i64 x.kind, .int .i64 x.seq, .string x.name, .int .i64 x.length, .int .i64 x.group, .int .i64 x.row, .slice p6 l6 d6, .slice a7 l7 c7, .slice a8 l8 c8] 67 (0, 0)) from heap_set_lit (cur := #[.int .i64 x.kind, .int .i64 x.seq, .string x.name, .int .i64 x.length, .int .i64 x.group, .int .i64 x.row, .slice a6 l6 c6, .slice a7 l7 c7, .slice a8 l8 c8]) A1'.out rfl); have B1 := hid (keep_set B1'.out ⟨w.heap.size, 6, none⟩ (.slice p6 l6 d6) (by simp)); have G1 := hid ((G0.out.trans0 hc).setCell ⟨w.heap.size, 6, none⟩ (.slice p6 l6 d6) (.inr (by simp))); have N1 := hid (And.intro hs (And.intro hf hc)); clear hs hf hc hg') | (refine byteL.wpList_growS byte_flat rfl _ _ 62 rfl Tryz.underlying62 KB rfl (Grow.madeN (Chg.refl [] (w1.setCell ⟨w.heap.size, 6, none⟩ (.slice p6 l6 d6))) (by simp)) (Chg.refl [] _) rfl (byteL.sl_ext H7.out (G1.out.alloc _)) HL7.out.1 HL7.out.2 ?_; intro v' w2 hg'; obtain ⟨p7, d7, g7, rfl, hs, hf, hc⟩ := hg'.sl; rw [List.nil_append, L7.out] at hs hg' ⊢; obtain ⟨e2, n2, A2'⟩ := bk0 hc A1.out; obtain ⟨-, -, B2'⟩ := bk0 hc B1.out; have fz2 := freeOf A2'.out; have A2 := hid (show (w2.setCell ⟨w.heap.size, 7, none⟩ (.slice p7 l7 d7)).heap[w.heap.size]? = some (.cells #[.int .i64 x.kind, .int .i64 x.seq, .string x.name, .int .i64 x.length, .int .i64 x.group, .int .i64 x.row, .slice p6 l6 d6, .slice p7 l7 d7, .slice a8 l8 c8] 67 (0, 0)) from heap_set_lit (cur := #[.int .i64 x.kind, .int .i64 x.seq, .string x.name, .int .i64 x.length, .int .i64 x.group, .int .i64 x.row, .slice p6 l6 d6, .slice a7 l7 c7, .slice a8 l8 c8]) A2'.out rfl); have B2 := hid (keep_set B2'.out ⟨w.heap.size, 7, none⟩ (.slice p7 l7 d7) (by simp)); have G2 := hid ((G1.out.trans0 hc).setCell ⟨w.heap.size, 7, none⟩ (.slice p7 l7 d7) (.inr (by simp))); have N2 := hid (And.intro hs (And.intro hf hc)); clear hs hf hc hg') | (refine byteL.wpList_growS byte_flat rfl _ _ 62 rfl Tryz.underlying62 KB rfl (Grow.madeN (Chg.refl [] (w2.setCell ⟨w.heap.size, 7, none⟩ (.slice p7 l7 d7))) (by simp)) (Chg.refl [] _) rfl (byteL.sl_ext H8.out (G2.out.alloc _)) HL8.out.1 HL8.out.2 ?_; intro v' w3 hg'; obtain ⟨p8, d8, g8, rfl, hs, hf, hc⟩ := hg'.sl; rw [List.nil_append, L8.out] at hs hg' ⊢; obtain ⟨e3, n3, A3'⟩ := bk0 hc A2.out; obtain ⟨k3, m3, B3'⟩ := bk0 hc B2.out; have fz3 := freeOf A3'.out; have A3 := hid (show (w3.setCell ⟨w.heap.size, 8, none⟩ (.slice p8 l8 d8)).heap[w.heap.size]? = some (.cells #[.int .i64 x.kind, .int .i64 x.seq, .string x.name, .int .i64 x.length, .int .i64 x.group, .int .i64 x.row, .slice p6 l6 d6, .slice p7 l7 d7, .slice p8 l8 d8] 67 (0, 0)) from heap_set_lit (cur := #[.int .i64 x.kind, .int .i64 x.seq, .string x.name, .int .i64 x.length, .int .i64 x.group, .int .i64 x.row, .slice p6 l6 d6, .slice p7 l7 d7, .slice a8 l8 c8]) A3'.out rfl); have B3 := hid (keep_set B3'.out ⟨w.heap.size, 8, none⟩ (.slice p8 l8 d8) (by simp)); have G3 := hid ((G2.out.trans0 hc).setCell ⟨w.heap.size, 8, none⟩ (.slice p8 l8 d8) (.inr (by simp))); have N3 := hid (And.intro hs (And.intro hf hc)); have z3 := freeOf B3'.out; clear hs hf hc hg'))
 have hq : ((((((((((w3.setCell ⟨w.heap.size, 8, none⟩ (.slice p8 l8 d8)).setCell ⟨w.heap.size + 1, 0, none⟩ (.int .i64 x.kind)).setCell ⟨w.heap.size + 1, 1, none⟩ (.int .i64 x.seq)).setCell ⟨w.heap.size + 1, 2, none⟩ (.string x.name)).setCell ⟨w.heap.size + 1, 3, none⟩ (.int .i64 x.length)).setCell ⟨w.heap.size + 1, 4, none⟩ (.int .i64 x.group)).setCell ⟨w.heap.size + 1, 5, none⟩ (.int .i64 x.row)).setCell ⟨w.heap.size + 1, 6, none⟩ (.slice p6 l6 d6)).setCell ⟨w.heap.size + 1, 7, none⟩ (.slice p7 l7 d7)).setCell ⟨w.heap.size + 1, 8, none⟩ (.slice p8 l8 d8)).heap[w.heap.size + 1]? = some (.cells #[.int .i64 x.kind, .int .i64 x.seq, .string x.name, .int .i64 x.length, .int .i64 x.group, .int .i64 x.row, .slice p6 l6 d6, .slice p7 l7 d7, .slice p8 l8 d8] 67 (0, 0)) := by
  have h := row9_back (.int .i64 x.kind) (.int .i64 x.seq) (.string x.name) (.int .i64 x.length) (.int .i64 x.group) (.int .i64 x.row) (.slice p6 l6 d6) (.slice p7 l7 d7) (.slice p8 l8 d8) B3.out
  exact h
 have hqc := cellsOf hq
 have D3 : Chg [w.heap.size, w.heap.size + 1] w3 ((((((((((w3.setCell ⟨w.heap.size, 8, none⟩ (.slice p8 l8 d8)).setCell ⟨w.heap.size + 1, 0, none⟩ (.int .i64 x.kind)).setCell ⟨w.heap.size + 1, 1, none⟩ (.int .i64 x.seq)).setCell ⟨w.heap.size + 1, 2, none⟩ (.string x.name)).setCell ⟨w.heap.size + 1, 3, none⟩ (.int .i64 x.length)).setCell ⟨w.heap.size + 1, 4, none⟩ (.int .i64 x.group)).setCell ⟨w.heap.size + 1, 5, none⟩ (.int .i64 x.row)).setCell ⟨w.heap.size + 1, 6, none⟩ (.slice p6 l6 d6)).setCell ⟨w.heap.size + 1, 7, none⟩ (.slice p7 l7 d7)).setCell ⟨w.heap.size + 1, 8, none⟩ (.slice p8 l8 d8)) := by
  iterate 10 refine Chg.setCell ?_ _ _ (.inl (by simp))
  exact Chg.refl _ _
 have D2 : Chg [w.heap.size, w.heap.size + 1] w2 ((((((((((w3.setCell ⟨w.heap.size, 8, none⟩ (.slice p8 l8 d8)).setCell ⟨w.heap.size + 1, 0, none⟩ (.int .i64 x.kind)).setCell ⟨w.heap.size + 1, 1, none⟩ (.int .i64 x.seq)).setCell ⟨w.heap.size + 1, 2, none⟩ (.string x.name)).setCell ⟨w.heap.size + 1, 3, none⟩ (.int .i64 x.length)).setCell ⟨w.heap.size + 1, 4, none⟩ (.int .i64 x.group)).setCell ⟨w.heap.size + 1, 5, none⟩ (.int .i64 x.row)).setCell ⟨w.heap.size + 1, 6, none⟩ (.slice p6 l6 d6)).setCell ⟨w.heap.size + 1, 7, none⟩ (.slice p7 l7 d7)).setCell ⟨w.heap.size + 1, 8, none⟩ (.slice p8 l8 d8)) := (((Chg.refl [w.heap.size, w.heap.size + 1] w2).setCell _ _ (.inl (by simp))).trans0 N3.out.2.2).trans D3 (fun y hy => .inl hy)
 have D1 : Chg [w.heap.size, w.heap.size + 1] w1 ((((((((((w3.setCell ⟨w.heap.size, 8, none⟩ (.slice p8 l8 d8)).setCell ⟨w.heap.size + 1, 0, none⟩ (.int .i64 x.kind)).setCell ⟨w.heap.size + 1, 1, none⟩ (.int .i64 x.seq)).setCell ⟨w.heap.size + 1, 2, none⟩ (.string x.name)).setCell ⟨w.heap.size + 1, 3, none⟩ (.int .i64 x.length)).setCell ⟨w.heap.size + 1, 4, none⟩ (.int .i64 x.group)).setCell ⟨w.heap.size + 1, 5, none⟩ (.int .i64 x.row)).setCell ⟨w.heap.size + 1, 6, none⟩ (.slice p6 l6 d6)).setCell ⟨w.heap.size + 1, 7, none⟩ (.slice p7 l7 d7)).setCell ⟨w.heap.size + 1, 8, none⟩ (.slice p8 l8 d8)) := (((Chg.refl [w.heap.size, w.heap.size + 1] w1).setCell _ _ (.inl (by simp))).trans0 N2.out.2.2).trans D2 (fun y hy => .inl hy)
 have s1 : w.heap.size + 2 ≤ w1.heap.size := Nat.le_trans S0.out N1.out.2.2.size
 have s2 : w1.heap.size ≤ w2.heap.size := by have := N2.out.2.2.size; simpa using this
 have f1 := N1.out.2.1.mono (C := w.heap.size + 2) S0.out
 have f2 := N2.out.2.1.mono (C := w1.heap.size) (by simp)
 have f3 := N3.out.2.1.mono (C := w2.heap.size) (by simp)
 have K6 := intL.sl_chg N1.out.1 D1 (f1.nots _ (by simp))
 have K7 := byteL.sl_chg N2.out.1 D2 (f2.nots _ (by simp; omega))
 have K8 := byteL.sl_chg N3.out.1 D3 (f3.nots _ (by simp; omega))
 have hfr := ((f1.chg D1).append ((f2.chg D2).append (f3.chg D3) f2.lts s2) f1.lts s1).mono (C := w.heap.size) (by omega)
 have hch : Chg [] w ((((((((((w3.setCell ⟨w.heap.size, 8, none⟩ (.slice p8 l8 d8)).setCell ⟨w.heap.size + 1, 0, none⟩ (.int .i64 x.kind)).setCell ⟨w.heap.size + 1, 1, none⟩ (.int .i64 x.seq)).setCell ⟨w.heap.size + 1, 2, none⟩ (.string x.name)).setCell ⟨w.heap.size + 1, 3, none⟩ (.int .i64 x.length)).setCell ⟨w.heap.size + 1, 4, none⟩ (.int .i64 x.group)).setCell ⟨w.heap.size + 1, 5, none⟩ (.int .i64 x.row)).setCell ⟨w.heap.size + 1, 6, none⟩ (.slice p6 l6 d6)).setCell ⟨w.heap.size + 1, 7, none⟩ (.slice p7 l7 d7)).setCell ⟨w.heap.size + 1, 8, none⟩ (.slice p8 l8 d8)) := (G0.out.trans0 N1.out.2.2).trans D1 (fun y hy => .inr (by simp only [List.mem_cons, List.not_mem_nil, or_false] at hy; omega))
 refine bodyPost_ret (v := .agg #[.int .i64 x.kind, .int .i64 x.seq, .string x.name, .int .i64 x.length, .int .i64 x.group, .int .i64 x.row, .slice p6 l6 d6, .slice p7 l7 d7, .slice p8 l8 d8]) (by simp [results, Tryz.results165, go_sem, hqc]) rfl ⟨_, _, rfl, recL_iff.2 ⟨p6, l6, d6, g6, p7, l7, d7, g7, p8, l8, d8, g8, rfl, HO.out.1, HO.out.2.1, HO.out.2.2.1, HO.out.2.2.2.1, HO.out.2.2.2.2.1, HO.out.2.2.2.2.2, K6, K7, K8, by simp⟩, hfr, hch⟩
set_option maxRecDepth 100000 in
set_option maxHeartbeats 2000000 in
theorem l5CopyRecs_any (a : Option Addr) (la ca : Nat) (xs : List Rec) (f : List Nat) (w : World) (ha : recL.sl w a la ca xs f) (hz : totL totRec xs ≤ 1048576) :
  Calls Tryz.prog 91 #[.slice a la ca] w (NewSl recL xs w) := by
 obtain ⟨K, _⟩ := kindRec
 have hlz : la ≤ 1048576 := by have := totL_len totRec_nonneg xs; rw [ha.1]; omega
 have HL := hid ha.1
 have HA := hid ha
 have HZ := hid (fun x hx => Int.le_trans (totL_mem totRec_nonneg hx) hz : ∀ x ∈ xs, totRec x ≤ 1048576)
 clear ha hz
 go_enter Tryz.func91, Tryz.ntmps91
 go_wp2_with fail
 go_loopw [3, 4] (fun vo vi wr => ∃ (k : Nat) (Wr : World), Wr = wr ∧ k ≤ la ∧ vi = .int .i64 k ∧ Grow recL 67 w wr vo (xs.take k)) (fun _ vi _ => la - (intOf vi).toNat)
 case atStart => exact ⟨0, _, rfl, by omega, rfl, by rw [List.take_zero]; exact Grow.made (Chg.refl _ _)⟩
 case round =>
  obtain ⟨k, wr, rfl, hk, rfl, hg⟩ := hrel
  by_cases hlt : k < la
  ·obtain ⟨x, b, off, a6, l6, c6, a7, l7, c7, a8, l8, c8, fq, HX, rfl, hq0, hq1, hq2, hq3, hq4, hq5, hq6, hq7, hq8, HXS⟩ := rec_at (recL.sl_ext HA.out hg.chg) hlt
   have HG := hid hg
   have HXI := hid HX.out.1
   have HXZ := hid (HZ.out x (List.mem_of_getElem? HX.out.1))
   clear hg HX
   go_wp2_with fail
   refine (l5CopyRec_any x #[.int .i64 x.kind, .int .i64 x.seq, .string x.name, .int .i64 x.length, .int .i64 x.group, .int .i64 x.row, .slice a6 l6 c6, .slice a7 l7 c7, .slice a8 l8 c8] fq _ HXS.out HXZ.out).mono ?_
   rintro e w1 ⟨cs, f1, rfl, hr, hf, hc⟩
   obtain ⟨p6, m6, d6, _, p7, m7, d7, _, p8, m8, d8, _, ex, -⟩ := recL_iff.1 hr
   obtain rfl := Array.toList_inj.1 (ex.trans (List.toList_toArray).symm)
   have HN1 := hid (And.intro hr (And.intro hf hc))
   have HLL : Hid ((xs.take k).length + [x].length ≤ maxLen ∧ ((xs.take k).length + [x].length) * 128 ≤ 140737488355328) := by
    refine ⟨?_, ?_⟩ <;> simp only [List.length_take, List.length_cons, List.length_nil, maxLen] <;> omega
   have HNX := hid (take_next HXI.out)
   clear ex hr hf hc hq0 hq1 hq2 hq3 hq4 hq5 hq6 hq7 hq8 HXS
   go_wp2_with (at_builtin; refine recL.wpList_grow rfl _ _ 44 rfl Tryz.underlying44 K rfl HG.out (HN1.out.2.2.alloc (.cells #[.int .i64 x.kind, .int .i64 x.seq, .string x.name, .int .i64 x.length, .int .i64 x.group, .int .i64 x.row, .slice p6 m6 d6, .slice p7 m7 d7, .slice p8 m8 d8] 67)) ⟨w1.heap.size, 0, none⟩ 1 1 [.int .i64 x.kind, .int .i64 x.seq, .string x.name, .int .i64 x.length, .int .i64 x.group, .int .i64 x.row, .slice p6 m6 d6, .slice p7 m7 d7, .slice p8 m8 d8] (ys := [x]) (f := f1) rfl rfl (new_cells w1 #[.int .i64 x.kind, .int .i64 x.seq, .string x.name, .int .i64 x.length, .int .i64 x.group, .int .i64 x.row, .slice p6 m6 d6, .slice p7 m7 d7, .slice p8 m8 d8] 67) (recL.all_single (recL.ext HN1.out.1 ((Chg.refl [] w1).alloc _))) (HN1.out.2.1.chg ((Chg.refl [] w1).alloc (.cells #[.int .i64 x.kind, .int .i64 x.seq, .string x.name, .int .i64 x.length, .int .i64 x.group, .int .i64 x.row, .slice p6 m6 d6, .slice p7 m7 d7, .slice p8 m8 d8] 67))) HLL.out.1 HLL.out.2 ?_; intro v' w' hg'; rw [← HNX.out] at hg'; have HG2 := hid hg'; clear hg')
   go_roundw
   case rel => exact ⟨k + 1, _, rfl, by omega, by go_num, HG2.out⟩
   case measure => simp [intOf]; omega
  ·obtain rfl : k = la := by omega
   rw [List.take_of_length_le (by have := HL.out; omega)] at hg
   obtain ⟨a', c', f', h1, h2, h3, h4⟩ := hg.sl
   subst h1
   have HN := hid (show NewSl recL xs w (.returned (.slice a' xs.length c')) wr from ⟨a', c', f', rfl, h2, h3, h4⟩)
   generalize xs.length = n at HN ⊢
   clear h2 h3 h4 hg
   go_wp2_with fail
   go_ret
   exact HN.out
set_option maxRecDepth 100000 in
set_option maxHeartbeats 2000000 in
theorem l5CopyBlock_any (x : Blk) (cx : Array Value) (fx : List Nat) (w : World) (hx : blkL.rep w cx.toList x fx) (hz : totBlk x ≤ 1048576) :
  Calls Tryz.prog 140 #[.agg cx] w (NewAgg blkL x w) := by
 obtain ⟨KB, _⟩ := kindB
 obtain ⟨a1, l1, c1, f1, ex, o0, h1, -⟩ := blkL_iff.1 hx
 obtain rfl := Array.toList_inj.1 (ex.trans (List.toList_toArray).symm)
 have z1 : l1 ≤ 1048576 := by unfold totBlk totBs at hz; rw [h1.1]; omega
 have HO := hid o0
 have L1 := hid h1.1.symm
 have H1 := hid h1
 clear hx ex hz o0 h1
 have G0 := hid (show Chg [] w ((w.alloc (.cells #[.int .i64 x.stamp, .slice a1 l1 c1] 76)).alloc (.cells #[.int .i64 0, .slice none 0 0] 76)).drew from (((Chg.refl [] w).alloc _).alloc _).drew)
 have B1 := hid (show ((w.alloc (.cells #[.int .i64 x.stamp, .slice a1 l1 c1] 76)).alloc (.cells #[.int .i64 0, .slice none 0 0] 76)).drew.heap[w.heap.size]? = some (.cells #[.int .i64 x.stamp, .slice a1 l1 c1] 76 (0, 0)) from keep_drew (keep_alloc (new_alloc w _) _))
 have B2 := hid (show ((w.alloc (.cells #[.int .i64 x.stamp, .slice a1 l1 c1] 76)).alloc (.cells #[.int .i64 0, .slice none 0 0] 76)).drew.heap[w.heap.size + 1]? = some (.cells #[.int .i64 0, .slice none 0 0] 76 (0, 0)) from keep_drew (new_at (by simp) _))
 have S0 := hid (show w.heap.size + 2 ≤ ((w.alloc (.cells #[.int .i64 x.stamp, .slice a1 l1 c1] 76)).alloc (.cells #[.int .i64 0, .slice none 0 0] 76)).drew.heap.size by simp [World.drew])
 have HL1 : Hid (([] : List UInt8).length + x.bytes.length ≤ maxLen ∧ (([] : List UInt8).length + x.bytes.length) * 1 ≤ 140737488355328) := by
  have := L1.out
  refine ⟨?_, ?_⟩ <;> simp only [List.length_nil, maxLen] <;> omega
 go_enter Tryz.func140, Tryz.ntmps140
 go_wp2_with fail
 obtain ⟨CC, HCI, HCO⟩ := rg_cond (fun w' => Know w.heap.size #[.int .i64 x.stamp, .slice a1 l1 c1] w')
 refine gg_start [7] CC (by kernel_rfl) (HCI.out _ (Know.of B1.out)) (fun hcl hS => ?_)
 refine ggT 0 hcl hS ?_; clear hcl hS; intro hcl hS
 refine ggL 1 hcl hS HCO ?_; clear hcl hS; intro hcl hS
 refine ggT 3 hcl hS ?_; clear hcl hS; intro hcl hS
 refine ggL 4 hcl hS HCO ?_; clear hcl hS; intro hcl hS
 refine ggC 2 hcl rfl (by kernel_rfl) (fun K hK => ?_)
 go_simp
 refine hK.out _ _ (fun _ => HCI.out _ (Know.of (keep_alloc B1.out _))) ?_
 clear hK K hcl hS
 intro hcl hS
 try simp only [Act.put, pA, pB, pC]
 refine ggC 5 hcl rfl (by kernel_rfl) (fun K hK => ?_)
 refine byteL.step_growS byte_flat rfl _ _ 62 rfl Tryz.underlying62 KB rfl (Grow.madeN (Chg.refl [] ((w.alloc (.cells #[.int .i64 x.stamp, .slice a1 l1 c1] 76)).alloc (.cells #[.int .i64 0, .slice none 0 0] 76)).drew) (by simp [World.drew])) (Chg.refl [] _) rfl (byteL.sl_ext H1.out (G0.out.alloc _)) HL1.out.1 HL1.out.2 ?_
 intro v' w1 hg'
 obtain ⟨p1, d1, g1, rfl, hs, hf, hc⟩ := hg'.sl
 rw [List.nil_append, L1.out] at hs hg' ⊢
 obtain ⟨-, -, C1⟩ := bk0 hc B1.out; obtain ⟨k2, m2, C2⟩ := bk0 hc B2.out; have z2 := freeOf C2.out; have N1 := hid (And.intro hs (And.intro hf hc)); clear hs hf hc hg'
 refine hK.out _ _ (fun _ => HCI.out _ (Know.of C1.out)) ?_
 clear hK K hcl hS
 intro hcl hS
 try simp only [Act.put, pA, pB, pC]
 refine ggT 6 hcl hS ?_; clear hcl hS; intro hcl hS
 refine ggC 7 hcl rfl (by kernel_rfl) (fun K hK => ?_)
 go_simp
 refine hK.out _ _ (Till.done (m := 7) (by simp) (by rfl)) ?_
 clear hK K hcl hS
 intro hcl hS
 try simp only [Act.put, pA, pB, pC]
 refine ggEnd (by kernel_rfl) ?_ _
 go_wp2_with fail
 have hq : ((w1.setCell ⟨w.heap.size + 1, 0, none⟩ (.int .i64 x.stamp)).setCell ⟨w.heap.size + 1, 1, none⟩ (.slice p1 l1 d1)).heap[w.heap.size + 1]? = some (.cells #[.int .i64 x.stamp, .slice p1 l1 d1] 76 (0, 0)) := row2_back _ _ C2.out
 have hqc := cellsOf hq
 have D1 : Chg [w.heap.size + 1] w1 ((w1.setCell ⟨w.heap.size + 1, 0, none⟩ (.int .i64 x.stamp)).setCell ⟨w.heap.size + 1, 1, none⟩ (.slice p1 l1 d1)) := ((Chg.refl _ w1).setCell _ _ (.inl (by simp))).setCell _ _ (.inl (by simp))
 have f1' := N1.out.2.1.mono (C := w.heap.size + 2) S0.out
 have K1 := byteL.sl_chg N1.out.1 D1 (f1'.nots _ (by simp))
 have hch : Chg [] w ((w1.setCell ⟨w.heap.size + 1, 0, none⟩ (.int .i64 x.stamp)).setCell ⟨w.heap.size + 1, 1, none⟩ (.slice p1 l1 d1)) := (G0.out.trans0 N1.out.2.2).trans D1 (fun y hy => .inr (by rw [List.mem_singleton] at hy; omega))
 refine bodyPost_ret (v := .agg #[.int .i64 x.stamp, .slice p1 l1 d1]) (by simp [results, Tryz.results140, go_sem, hqc]) rfl ⟨_, _, rfl, blkL_iff.2 ⟨p1, l1, d1, g1, rfl, HO.out, K1, rfl⟩, (f1'.chg D1).mono (by omega), hch⟩
end Go.Proofs.YtphmpimgbmedbaaGreat
namespace Go.Proofs.YtphmpimgbmedbaaGreat
open Go.RowKit
open Go.Lib (hid)
def RowAt {α : Type} (L : Lay α) (w : World) (b off : Nat) (ps : List (α × List Nat)) : Prop :=
 ∃ cur E, w.heap[b]? = some (.cells cur E (0, 0)) ∧ (0 < ps.length → off + ps.length * L.n ≤ cur.size) ∧ ∀ (i : Nat) p, ps[i]? = some p → L.rep w ((cur.toList.drop (off + i * L.n)).take L.n) p.1 p.2 ∧ b ∉ p.2
section
variable {α : Type} {L : Lay α} {w w' : World} {b off : Nat} {ps : List (α × List Nat)}
theorem RowAt.lt (h : RowAt L w b off ps) : b < w.heap.size := by obtain ⟨cur, E, h1, _⟩ := h; exact ltOf h1
theorem RowAt.loose (h : RowAt L w b off ps) : Loose w b := by obtain ⟨cur, E, h1, _⟩ := h; exact ⟨_, _, h1⟩
theorem RowAt.keep (h : RowAt L w b off ps) (hb : w'.heap[b]? = w.heap[b]?) (hk : ∀ p ∈ ps, ∀ y ∈ p.2, w'.heap[y]? = w.heap[y]?) : RowAt L w' b off ps := by
 obtain ⟨cur, E, h1, h2, h3⟩ := h
 exact ⟨cur, E, hb.trans h1, h2, fun i p hp => ⟨L.keep (h3 i p hp).1 (hk p (List.mem_of_getElem? hp)), (h3 i p hp).2⟩⟩
theorem RowAt.fp_lt (h : RowAt L w b off ps) {p : α × List Nat} (hp : p ∈ ps) : ∀ y ∈ p.2, y < w.heap.size := by
 obtain ⟨cur, E, h1, h2, h3⟩ := h
 obtain ⟨i, hi, e⟩ := List.getElem_of_mem hp
 exact L.lt (h3 i p (by rw [List.getElem?_eq_getElem hi, e])).1
theorem RowAt.chg {S : List Nat} (h : RowAt L w b off ps) (hc : Chg S w w') (hb : b ∉ S) (hS : ∀ p ∈ ps, ∀ y ∈ p.2, y ∉ S) : RowAt L w' b off ps :=
 h.keep (hc.block b h.lt hb) (fun p hp y hy => hc.block y (h.fp_lt hp y hy) (hS p hp y hy))
theorem RowAt.ext (h : RowAt L w b off ps) (hc : Chg [] w w') : RowAt L w' b off ps := h.chg hc (by simp) (by simp)
theorem RowAt.at (h : RowAt L w b off ps) {i : Nat} (hi : i < ps.length) : ∃ p c, ps[i]? = some p ∧ L.rep w c p.1 p.2 ∧ b ∉ p.2 ∧ ∀ j, j < L.n → w.cell? ⟨b, off + i * L.n + j, none⟩ = c[j]? := by
 obtain ⟨cur, E, h1, h2, h3⟩ := h
 have hp : ps[i]? = some ps[i] := List.getElem?_eq_getElem hi
 refine ⟨_, _, hp, (h3 i _ hp).1, (h3 i _ hp).2, fun j hj => ?_⟩
 rw [cellsOf h1, List.getElem?_take_of_lt hj, List.getElem?_drop]
 simp
theorem RowAt.free (h : RowAt L w b off ps) : ∀ j, w.frozen? ⟨b, j, none⟩ = false := by obtain ⟨cur, E, h1, _⟩ := h; exact freeOf h1
theorem RowAt.put (h : RowAt L w b off ps) {i : Nat} (hi : i < ps.length) {x : α} {c : List Value} {f : List Nat} (hr : L.rep w c x f) (hb : b ∉ f) : RowAt L (w.setCells b (off + i * L.n) c) b off (ps.set i (x, f)) := by
 obtain ⟨cur, E, h1, h2, h3⟩ := h
 have hcl := L.len hr
 have hle : (i + 1) * L.n ≤ ps.length * L.n := Nat.mul_le_mul_right _ (by omega)
 rw [Nat.add_mul, Nat.one_mul] at hle
 have hsz : off + i * L.n + c.length ≤ cur.size := by have := h2 (by omega); omega
 have htl := setRow_toList c (off + i * L.n) cur hsz
 have hct : cur.toList.length = cur.size := by simp
 refine ⟨_, E, setCells_heap c _ w cur h1, ?_, fun j p hp => ?_⟩
 ·rw [List.length_set]
  have : (setRow cur (off + i * L.n) c).size = cur.size := by
   have h5 := congrArg List.length htl
   rw [Array.length_toList] at h5
   rw [h5, List.length_append, List.length_append, List.length_take, List.length_drop]
   omega
  rw [this]; exact h2
 ·have hfar : ∀ y, y ≠ b → (w.setCells b (off + i * L.n) c).heap[y]? = w.heap[y]? := fun y hy => setCells_far hy c _ w
  by_cases e : i = j
  ·subst e
   rw [List.getElem?_set_self hi] at hp
   obtain rfl := Option.some.inj hp
   refine ⟨?_, hb⟩
   have e2 : ((setRow cur (off + i * L.n) c).toList.drop (off + i * L.n)).take L.n = c := by
    rw [htl, List.drop_append_of_le_length (by rw [List.length_take]; omega), List.drop_take, Nat.sub_self, List.take_zero, List.nil_append, List.take_append_of_le_length (by omega), List.take_of_length_le (by omega)]
   rw [e2]
   exact L.keep hr (fun y hy => hfar y (fun e => hb (e ▸ hy)))
  ·rw [List.getElem?_set_ne e] at hp
   obtain ⟨h4, h5⟩ := h3 j p hp
   refine ⟨?_, h5⟩
   have hj := (List.getElem?_eq_some_iff.1 hp).1
   have hjle : (j + 1) * L.n ≤ ps.length * L.n := Nat.mul_le_mul_right _ (by omega)
   rw [Nat.add_mul, Nat.one_mul] at hjle
   have e2 : ((setRow cur (off + i * L.n) c).toList.drop (off + j * L.n)).take L.n = (cur.toList.drop (off + j * L.n)).take L.n := by
    apply List.ext_getElem?
    intro k
    by_cases hk : k < L.n
    ·rw [List.getElem?_take_of_lt hk, List.getElem?_take_of_lt hk, List.getElem?_drop, List.getElem?_drop, htl]
     rcases Nat.lt_or_gt_of_ne e with hij | hij
     ·have : (i + 1) * L.n ≤ j * L.n := Nat.mul_le_mul_right _ hij
      rw [Nat.add_mul, Nat.one_mul] at this
      rw [List.getElem?_append_right (by rw [List.length_take]; omega), List.length_take, List.getElem?_append_right (by omega), List.getElem?_drop]
      congr 1
      omega
     ·have : (j + 1) * L.n ≤ i * L.n := Nat.mul_le_mul_right _ hij
      rw [Nat.add_mul, Nat.one_mul] at this
      rw [List.getElem?_append_left (by rw [List.length_take]; omega), List.getElem?_take_of_lt (by omega)]
    ·rw [List.getElem?_eq_none (by rw [List.length_take]; omega), List.getElem?_eq_none (by rw [List.length_take]; omega)]
   rw [e2]
   exact L.keep h4 (fun y hy => hfar y (fun e => h5 (e ▸ hy)))
theorem RowAt.take (h : RowAt L w b off ps) (n : Nat) : RowAt L w b off (ps.take n) := by
 obtain ⟨cur, E, h1, h2, h3⟩ := h
 have hle : (ps.take n).length * L.n ≤ ps.length * L.n := Nat.mul_le_mul_right _ (by rw [List.length_take]; omega)
 refine ⟨cur, E, h1, fun h0 => by have := h2 (by rw [List.length_take] at h0; omega); omega, fun i p hp => h3 i p ?_⟩
 have hi : i < n := by have := (List.getElem?_eq_some_iff.1 hp).1; rw [List.length_take] at this; omega
 rwa [List.getElem?_take_of_lt hi] at hp
end
theorem row_all {α : Type} {L : Lay α} {w : World} : ∀ {ps : List (α × List Nat)} {cs : List Value}, cs.length = ps.length * L.n → (∀ (i : Nat) p, ps[i]? = some p → L.rep w ((cs.drop (i * L.n)).take L.n) p.1 p.2) → L.all w cs (ps.map (·.1)) (ps.flatMap (·.2)) := by
 intro ps
 induction ps with
 | nil => intro cs hl _; exact ⟨List.eq_nil_of_length_eq_zero (by simpa using hl), rfl⟩
 | cons p ps ih =>
  intro cs hl h
  rw [List.length_cons, Nat.add_mul, Nat.one_mul] at hl
  refine ⟨cs.take L.n, cs.drop L.n, p.2, ps.flatMap (·.2), (List.take_append_drop _ _).symm, by simp, ?_, ih (by rw [List.length_drop]; omega) (fun i q hq => ?_)⟩
  ·have := h 0 p rfl
   simpa using this
  ·have := h (i + 1) q (by simpa using hq)
   rw [List.drop_drop]
   rw [Nat.add_mul, Nat.one_mul, Nat.add_comm] at this
   exact this
theorem all_row {α : Type} {L : Lay α} {w : World} : ∀ {xs : List α} {cs : List Value} {fps : List Nat}, L.all w cs xs fps → ∃ ps : List (α × List Nat), ps.map (·.1) = xs ∧ ps.flatMap (·.2) = fps ∧ ∀ (i : Nat) p, ps[i]? = some p → L.rep w ((cs.drop (i * L.n)).take L.n) p.1 p.2 := by
 intro xs
 induction xs with
 | nil => intro cs fps h; exact ⟨[], rfl, h.2.symm, fun i p hp => by simp at hp⟩
 | cons x xs ih =>
  intro cs fps h
  obtain ⟨c1, c2, f1, f2, rfl, rfl, h1, h2⟩ := h
  obtain ⟨ps, e1, e2, e3⟩ := ih h2
  have hl := L.len h1
  refine ⟨(x, f1) :: ps, by simp [e1], by simp [e2], fun i p hp => ?_⟩
  cases i with
  | zero =>
   simp at hp
   subst hp
   rw [Nat.zero_mul, List.drop_zero, ← hl, List.take_left]
   exact h1
  | succ i =>
   have := e3 i p (by simpa using hp)
   rw [Nat.add_mul, Nat.one_mul, Nat.add_comm, ← List.drop_drop, ← hl, List.drop_left, hl]
   exact this
section
variable {α : Type} {L : Lay α} {w w' : World} {b off len cap : Nat} {xs : List α} {ps : List (α × List Nat)} {fp : List Nat}
theorem RowAt.sl (h : RowAt L w b off ps) (hl : len = ps.length) (hc : len ≤ cap) (hm : cap ≤ maxLen) : L.sl w (some ⟨b, off, none⟩) len cap (ps.map (·.1)) (b :: ps.flatMap (·.2)) := by
 obtain ⟨cur, E, h1, h2, h3⟩ := h
 subst hl
 refine ⟨by simp, hc, hm, (fun h => by cases h), .inr ⟨b, off, cur, E, (0, 0), _, rfl, h1, row_all ?_ (fun i p hp => ?_), rfl⟩⟩
 ·have hct : cur.toList.length = cur.size := by simp
  rw [List.length_take, List.length_drop, hct]
  rcases Nat.eq_zero_or_pos ps.length with h0 | h0
  ·rw [h0, Nat.zero_mul]; omega
  ·have := h2 h0; omega
 ·have hi := (List.getElem?_eq_some_iff.1 hp).1
  have hle : (i + 1) * L.n ≤ ps.length * L.n := Nat.mul_le_mul_right _ (by omega)
  rw [Nat.add_mul, Nat.one_mul] at hle
  have e : (((cur.toList.drop off).take (ps.length * L.n)).drop (i * L.n)).take L.n = (cur.toList.drop (off + i * L.n)).take L.n := by
   rw [List.drop_take, List.take_take, List.drop_drop, Nat.min_eq_left (by omega)]
  rw [e]
  exact (h3 i p hp).1
theorem Lay.sl_row (h : L.sl w (some ⟨b, off, none⟩) len cap xs fp) (hlo : Loose w b) (hn : ∃ fps, fp = b :: fps ∧ b ∉ fps) : ∃ ps, RowAt L w b off ps ∧ ps.map (·.1) = xs ∧ fp = b :: ps.flatMap (·.2) := by
 obtain ⟨fps0, hfp, hb⟩ := hn
 obtain ⟨h1, h2, h3, h4, ⟨rfl, rfl⟩ | ⟨b', off', cur, E, fr, fps, ha, hb', hall, hfp'⟩⟩ := h
 ·cases hfp
 ·simp only [Option.some.injEq, Addr.mk.injEq, and_true] at ha
  obtain ⟨rfl, rfl⟩ := ha
  obtain rfl : fps = fps0 := by rw [hfp] at hfp'; exact (List.cons.inj hfp').2.symm
  obtain ⟨cur', E', hlo⟩ := hlo
  obtain ⟨rfl, rfl, rfl⟩ : cur' = cur ∧ E' = E ∧ fr = (0, 0) := by
   have := Option.some.inj (hlo.symm.trans hb'); injection this with e1 e2 e3; exact ⟨e1, e2, e3.symm⟩
  obtain ⟨ps, e1, e2, e3⟩ := all_row hall
  have hpl : ps.length = xs.length := by rw [← e1, List.length_map]
  have hal := L.all_len hall
  rw [List.length_take, List.length_drop, Array.length_toList] at hal
  refine ⟨ps, ⟨cur', E', hb', ?_, fun i p hp => ?_⟩, e1, by rw [hfp, e2]⟩
  ·rw [hpl]
   intro h0
   have : 0 < xs.length * L.n := Nat.mul_pos h0 L.pos
   rw [h1] at hal; omega
  ·have hi := (List.getElem?_eq_some_iff.1 hp).1
   have hle : (i + 1) * L.n ≤ len * L.n := Nat.mul_le_mul_right _ (by omega)
   rw [Nat.add_mul, Nat.one_mul] at hle
   have := e3 i p hp
   rw [List.drop_take, List.take_take, List.drop_drop, Nat.min_eq_left (by omega)] at this
   refine ⟨this, fun hm => hb ?_⟩
   rw [← e2]
   exact List.mem_flatMap.2 ⟨p, List.mem_of_getElem? hp, hm⟩
end
end Go.Proofs.YtphmpimgbmedbaaGreat
