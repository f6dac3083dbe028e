/- Several texts in one. -/
import Derived.Test.YtphmpimgbmedbaaGreatRows
import Derived.Test.YtphmpimgbmedbaaGreatGae
import Derived.Test.YtphmpimgbmedbaaGreatGaa
import Derived.Test.YtphmpimgbmedbaaGreatGab
/- Marks and finds of whole worlds; results that hold a world: equal, marked, found again. -/
namespace Go.Proofs.YtphmpimgbmedbaaGreat
open Go.RowKit
open Go.Lib (hid)
set_option maxRecDepth 100000 in
set_option maxHeartbeats 2000000 in
theorem markWorld_any (x : Wld) (cx : Array Value) (fx : List Nat) (k : Int) (w : World) (hx : wldL.rep w cx.toList x fx) (hf : Fresh 0 w fx) (hk : 0 ≤ k) (hk2 : k + cntWld x ≤ 4611686018427387904) :
  Calls Tryz.prog 21 #[.agg cx, .int .i64 k] w fun e w' => e = .returned (.int .i64 (k + cntWld x)) ∧ wldL.rep w' cx.toList (mvWld k x) fx ∧ Chg fx w w' := by
 obtain ⟨a10, l10, c10, f10, a11, l11, c11, f11, a12, l12, c12, f12, ex, o1, o2, o3, o4, o5, o6, o7, o8, o9, h10, h11, h12, o13, o14, efp⟩ := wldL_iff.1 hx
 obtain rfl := Array.toList_inj.1 (ex.trans (List.toList_toArray).symm)
 rw [List.append_nil] at efp
 subst efp
 have hbx : w.heap.size ∉ f10 ++ (f11 ++ f12) := fun h => Nat.lt_irrefl _ (Lay.lt wldL hx _ (by simpa using h))
 obtain ⟨q10, hq10⟩ : ∃ q, q = sumI cntDrvs x.groups := ⟨_, rfl⟩
 obtain ⟨q12, hq12⟩ : ∃ q, q = sumI cntTap x.tapes := ⟨_, rfl⟩
 have n10 : 0 ≤ q10 := by rw [hq10]; exact sumI_nonneg cntDrvs_nonneg _
 have n12 : 0 ≤ q12 := by rw [hq12]; exact sumI_nonneg cntTap_nonneg _
 have t11 : totIs x.on = (l11 : Int) := by unfold totIs; rw [h11.1]
 have hcw : cntWld x = q10 + l11 + q12 := by unfold cntWld; rw [t11, hq10, hq12]
 have ndA := List.nodup_append.1 hf.1
 have ndB := List.nodup_append.1 ndA.2.1
 have lo10 : ∀ y ∈ f10, 0 ≤ y ∧ Loose (w.alloc (.cells #[.int .i64 x.shape.groups, .int .i64 x.shape.column, .int .i64 x.shape.data, .int .i64 x.shape.spare, .int .i64 x.shape.rows, .int .i64 x.shape.cap, .int .i64 x.shape.batch, .int .i64 x.shape.queue, .int .i64 x.shape.stage, .slice a10 l10 c10, .slice a11 l11 c11, .slice a12 l12 c12, .int .i64 x.writes, .int .i64 x.stop, .bool x.down] 34)) y := fun y hy => ⟨Nat.zero_le _, (hf.2 y (by simp [hy])).2.alloc _⟩
 have LO := hid (fun y hy => (hf.2 y hy).2 : ∀ y ∈ f10 ++ (f11 ++ f12), Loose w y)
 have D := hid (And.intro (fun y hy hy6 => ndA.2.2 y hy6 y (by simp [hy]) rfl : ∀ y ∈ f11, y ∉ f10) (And.intro (fun y hy hy6 => ndA.2.2 y hy6 y (by simp [hy]) rfl : ∀ y ∈ f12, y ∉ f10) (fun y hy hy7 => ndB.2.2 y hy7 y hy rfl : ∀ y ∈ f12, y ∉ f11)))
 have HI10 := hid (markDriveSS_any a10 l10 c10 x.groups f10 k _ (drvL.slice.sl_ext h10 ((Chg.refl [] w).alloc (.cells #[.int .i64 x.shape.groups, .int .i64 x.shape.column, .int .i64 x.shape.data, .int .i64 x.shape.spare, .int .i64 x.shape.rows, .int .i64 x.shape.cap, .int .i64 x.shape.batch, .int .i64 x.shape.queue, .int .i64 x.shape.stage, .slice a10 l10 c10, .slice a11 l11 c11, .slice a12 l12 c12, .int .i64 x.writes, .int .i64 x.stop, .bool x.down] 34))) ⟨ndA.1, lo10⟩ hk (by omega))
 rw [← hq10] at HI10
 have H11 := hid h11; have H12 := hid h12
 have HO := hid (And.intro o1 (And.intro o2 (And.intro o3 (And.intro o4 (And.intro o5 (And.intro o6 (And.intro o7 (And.intro o8 (And.intro o9 (And.intro o13 o14))))))))))
 have HB := hid hbx
 have HND := hid (And.intro ndB.1 ndB.2.1)
 have HW := hid hcw; have HQ := hid (And.intro hq10 (And.intro hq12 t11))
 have hbd : k + q10 + l11 + q12 ≤ 4611686018427387904 := by omega
 clear hx hf hk2 ex o1 o2 o3 o4 o5 o6 o7 o8 o9 o13 o14 h10 h11 h12 hbx ndA ndB lo10 hq10 hq12 t11 hcw
 go_enter Tryz.func21, Tryz.ntmps21
 go_wp2_with fail
 refine HI10.out.mono ?_
 rintro e w1 ⟨rfl, hs1, hc1⟩
 have hP := hc1.keepb (new_alloc w _) (fun h => HB.out (by simp [h]))
 have cP := cellsOf hP; have lP := ltOf hP; have HP := hid hP
 have g0 : Chg [] w (w.alloc (.cells #[.int .i64 x.shape.groups, .int .i64 x.shape.column, .int .i64 x.shape.data, .int .i64 x.shape.spare, .int .i64 x.shape.rows, .int .i64 x.shape.cap, .int .i64 x.shape.batch, .int .i64 x.shape.queue, .int .i64 x.shape.stage, .slice a10 l10 c10, .slice a11 l11 c11, .slice a12 l12 c12, .int .i64 x.writes, .int .i64 x.stop, .bool x.down] 34)) := (Chg.refl [] w).alloc _
 have HI11 := hid (markI_any a11 l11 c11 x.on f11 (k + q10) w1 (intL.sl_chg (intL.sl_ext H11.out g0) hc1 D.out.1) ⟨HND.out.1, fun y hy => ⟨Nat.zero_le _, hc1.loose y ((LO.out y (by simp [hy])).alloc _)⟩⟩ (by omega) (by omega))
 have H12' := hid (tapL.sl_chg (tapL.sl_ext H12.out g0) hc1 D.out.2.1)
 have HC1 := hid ((g0.mono (T := f10) (by simp)).trans hc1 (fun x hx => .inl hx))
 have HC1' := hid hc1
 have HS1 := hid hs1
 clear hs1 hc1 hP g0
 go_wp2_with fail
 refine HI11.out.mono ?_
 rintro e w2 ⟨rfl, hs2, hc2⟩
 have hP := hc2.keepb HP.out (fun h => HB.out (by simp [h]))
 clear cP lP HP
 have cP := cellsOf hP; have lP := ltOf hP
 have HI12 := hid (markTapeS_any a12 l12 c12 x.tapes f12 (k + q10 + l11) w2 (tapL.sl_chg H12'.out hc2 D.out.2.2) ⟨HND.out.2, fun y hy => ⟨Nat.zero_le _, hc2.loose y (HC1'.out.loose y ((LO.out y (by simp [hy])).alloc _))⟩⟩ (by omega) (by rw [← HQ.out.2.1]; omega))
 rw [← HQ.out.2.1] at HI12
 have HS1' := hid (drvL.slice.sl_chg HS1.out hc2 (fun y hy hm => D.out.1 y hm hy))
 have HS2 := hid hs2
 have HC2 := hid hc2
 clear hs2 hc2 hP
 go_wp2_with fail
 refine HI12.out.mono ?_
 rintro e w3 ⟨rfl, hs3, hc3⟩
 have r10 := drvL.slice.sl_chg HS1'.out hc3 (fun y hy hm => D.out.2.1 y hm hy)
 have r11 := intL.sl_chg HS2.out hc3 (fun y hy hm => D.out.2.2 y hm hy)
 have HL11 := hid H11.out.1
 have r11' : intL.sl w3 a11 l11 c11 (markIL (k + sumI cntDrvs x.groups) x.on.length) f11 := by rw [← HQ.out.1, ← HL11.out]; exact r11
 have r12' : tapL.sl w3 a12 l12 c12 (markL cntTap mkTap x.tapes (k + sumI cntDrvs x.groups + totIs x.on)) f12 := by rw [← HQ.out.1, HQ.out.2.2]; exact hs3
 have HR := hid (wldL_iff.2 ⟨a10, l10, c10, f10, a11, l11, c11, f11, a12, l12, c12, f12, rfl, HO.out.1, HO.out.2.1, HO.out.2.2.1, HO.out.2.2.2.1, HO.out.2.2.2.2.1, HO.out.2.2.2.2.2.1, HO.out.2.2.2.2.2.2.1, HO.out.2.2.2.2.2.2.2.1, HO.out.2.2.2.2.2.2.2.2.1, r10, r11', r12', HO.out.2.2.2.2.2.2.2.2.2.1, HO.out.2.2.2.2.2.2.2.2.2.2, (by simp)⟩ : wldL.rep w3 [.int .i64 x.shape.groups, .int .i64 x.shape.column, .int .i64 x.shape.data, .int .i64 x.shape.spare, .int .i64 x.shape.rows, .int .i64 x.shape.cap, .int .i64 x.shape.batch, .int .i64 x.shape.queue, .int .i64 x.shape.stage, .slice a10 l10 c10, .slice a11 l11 c11, .slice a12 l12 c12, .int .i64 x.writes, .int .i64 x.stop, .bool x.down] (mvWld k x) (f10 ++ (f11 ++ f12)))
 have HC := hid (((HC1.out.mono (T := f10 ++ (f11 ++ f12)) (fun y hy => .inl (by simp [hy]))).trans HC2.out (fun y hy => .inl (by simp [hy]))).trans hc3 (fun y hy => .inl (by simp [hy])))
 have HZ := hid (show k + q10 + (l11 : Int) + q12 = k + cntWld x by rw [HW.out]; omega)
 clear hs3 hc3 r10 r11 r11' r12' cP lP
 go_wp2_with fail
 go_ret
 exact ⟨ret_int HZ.out, HR.out, HC.out⟩
end Go.Proofs.YtphmpimgbmedbaaGreat
/- A stable sort out of parts, in plain Lean. No function of the program in sight. -/
namespace Go.Proofs.YtphmpimgbmedbaaGreat
open Go.RowKit
open Go.Lib (hid)
structure Ordr {α : Type} (lt : α → α → Bool) : Prop where
 irr : ∀ x, lt x x = false
 tr : ∀ x y z, lt x y = true → lt y z = true → lt x z = true
 ntr : ∀ x y z, lt x y = false → lt y z = false → lt x z = false
section
variable {α : Type} {lt : α → α → Bool}
def eqv (lt : α → α → Bool) (x y : α) : Bool := !lt x y && !lt y x
def Stab (lt : α → α → Bool) (xs ys : List α) : Prop := ys.length = xs.length ∧ ∀ x, ys.filter (eqv lt x) = xs.filter (eqv lt x)
def Srt (lt : α → α → Bool) (xs : List α) : Prop := xs.Pairwise (fun x y => lt y x = false)
theorem eqv_refl (o : Ordr lt) (x : α) : eqv lt x x = true := by unfold eqv; rw [o.irr]; rfl
theorem eqv_parts {x y : α} (h : eqv lt x y = true) : lt x y = false ∧ lt y x = false := by
 unfold eqv at h
 simpa using h
theorem Ordr.asym (o : Ordr lt) {x y : α} (h : lt x y = true) : lt y x = false := by
 cases h2 : lt y x
 ·rfl
 ·have := o.tr x y x h h2; rw [o.irr] at this; cases this
theorem Stab.refl (xs : List α) : Stab lt xs xs := ⟨rfl, fun _ => rfl⟩
theorem Stab.trans {xs ys zs : List α} (h : Stab lt xs ys) (k : Stab lt ys zs) : Stab lt xs zs := ⟨k.1.trans h.1, fun x => (k.2 x).trans (h.2 x)⟩
theorem Stab.app {a b c d : List α} (h : Stab lt a b) (k : Stab lt c d) : Stab lt (a ++ c) (b ++ d) :=
 ⟨by rw [List.length_append, List.length_append, h.1, k.1], fun x => by rw [List.filter_append, List.filter_append, h.2, k.2]⟩
theorem Stab.swap (o : Ordr lt) {V X : List α} (h : ∀ x ∈ X, ∀ v ∈ V, lt x v = true) : Stab lt (V ++ X) (X ++ V) := by
 refine ⟨by simp [Nat.add_comm], fun z => ?_⟩
 rw [List.filter_append, List.filter_append]
 by_cases hv : V.filter (eqv lt z) = []
 ·rw [hv]; simp
 ·obtain ⟨v, hv⟩ := List.exists_mem_of_ne_nil _ hv
  obtain ⟨hv1, hv2⟩ := List.mem_filter.1 hv
  have hx : X.filter (eqv lt z) = [] := by
   rw [List.filter_eq_nil_iff]
   intro x hx h2
   have e1 := o.ntr x z v (eqv_parts h2).2 (eqv_parts hv2).1
   rw [h x hx v hv1] at e1; cases e1
  rw [hx]; simp
theorem Stab.mem (o : Ordr lt) {xs ys : List α} (h : Stab lt xs ys) {x : α} : x ∈ ys ↔ x ∈ xs := by
 have h2 := h.2 x
 constructor
 ·intro hx
  have : x ∈ ys.filter (eqv lt x) := List.mem_filter.2 ⟨hx, eqv_refl o x⟩
  rw [h2] at this
  exact (List.mem_filter.1 this).1
 ·intro hx
  have : x ∈ xs.filter (eqv lt x) := List.mem_filter.2 ⟨hx, eqv_refl o x⟩
  rw [← h2] at this
  exact (List.mem_filter.1 this).1
theorem srt_uniq (o : Ordr lt) : ∀ {ys zs : List α}, Srt lt ys → Srt lt zs → (∀ x, ys.filter (eqv lt x) = zs.filter (eqv lt x)) → ys = zs
 | [], [], _, _, _ => rfl
 | [], z :: zs, _, _, h => by have := h z; rw [List.filter_cons, if_pos (eqv_refl o z)] at this; cases this
 | y :: ys, [], _, _, h => by have := h y; rw [List.filter_cons, if_pos (eqv_refl o y)] at this; cases this
 | y :: ys, z :: zs, hy, hz, h => by
  have hmy : y ∈ z :: zs := by
   have : y ∈ (y :: ys).filter (eqv lt y) := List.mem_filter.2 ⟨by simp, eqv_refl o y⟩
   rw [h y] at this
   exact (List.mem_filter.1 this).1
  have hmz : z ∈ y :: ys := by
   have : z ∈ (z :: zs).filter (eqv lt z) := List.mem_filter.2 ⟨by simp, eqv_refl o z⟩
   rw [← h z] at this
   exact (List.mem_filter.1 this).1
  have e1 : lt y z = false := by
   rcases List.mem_cons.1 hmy with rfl | hm
   ·exact o.irr _
   ·exact List.rel_of_pairwise_cons hz hm
  have e2 : lt z y = false := by
   rcases List.mem_cons.1 hmz with rfl | hm
   ·exact o.irr _
   ·exact List.rel_of_pairwise_cons hy hm
  have hyz : eqv lt y z = true := by unfold eqv; rw [e1, e2]; rfl
  have h1 := h y
  rw [List.filter_cons, if_pos (eqv_refl o y), List.filter_cons, if_pos hyz] at h1
  obtain rfl : y = z := (List.cons.inj h1).1
  rw [srt_uniq o (List.Pairwise.of_cons hy) (List.Pairwise.of_cons hz) (fun x => by
   have h2 := h x
   rw [List.filter_cons, List.filter_cons] at h2
   split at h2
   ·exact (List.cons.inj h2).2
   ·exact h2)]
theorem Stab.uniq (o : Ordr lt) {xs ys zs : List α} (hy : Srt lt ys) (hz : Srt lt zs) (h : Stab lt xs ys) (k : Stab lt xs zs) : ys = zs := srt_uniq o hy hz (fun x => (h.2 x).trans (k.2 x).symm)
def AllLe (lt : α → α → Bool) (xs ys : List α) : Prop := ∀ x ∈ xs, ∀ y ∈ ys, lt y x = false
theorem Srt.app {xs ys : List α} (h : Srt lt xs) (k : Srt lt ys) (hl : AllLe lt xs ys) : Srt lt (xs ++ ys) := List.pairwise_append.2 ⟨h, k, hl⟩
theorem Srt.parts {xs ys : List α} (h : Srt lt (xs ++ ys)) : Srt lt xs ∧ Srt lt ys ∧ AllLe lt xs ys := List.pairwise_append.1 h
theorem ins_stab (o : Ordr lt) {out : List α} {r : α} {k : Nat} (h1 : ∀ x ∈ out.drop k, lt r x = true) : Stab lt (out ++ [r]) (out.take k ++ (r :: out.drop k)) := by
 have h2 : Stab lt (out.drop k ++ [r]) ([r] ++ out.drop k) := Stab.swap o (fun x hx v hv => by rw [List.mem_singleton] at hx; subst hx; exact h1 v hv)
 have h3 := (Stab.refl (lt := lt) (out.take k)).app h2
 rw [← List.append_assoc, List.take_append_drop] at h3
 exact h3
theorem ins_srt (o : Ordr lt) {out : List α} {r : α} {k : Nat} (hs : Srt lt out) (h1 : ∀ x ∈ out.drop k, lt r x = true) (h2 : ∀ x ∈ out.take k, lt r x = false) : Srt lt (out.take k ++ (r :: out.drop k)) := by
 have hp := hs
 rw [← List.take_append_drop k out] at hp
 obtain ⟨p1, p2, p3⟩ := Srt.parts hp
 refine Srt.app p1 (List.pairwise_cons.2 ⟨fun x hx => o.asym (h1 x hx), p2⟩) (fun x hx y hy => ?_)
 rcases List.mem_cons.1 hy with rfl | hy
 ·exact h2 x hx
 ·exact p3 x hx y hy
theorem merge_parts (o : Ordr lt) {U V X Y M1 M2 : List α} (hXV : ∀ x ∈ X, ∀ v ∈ V, lt x v = true) (hUV : AllLe lt U V) (hUY : AllLe lt U Y) (hXY : AllLe lt X Y)
  (s1 : Srt lt M1) (b1 : Stab lt (U ++ X) M1) (s2 : Srt lt M2) (b2 : Stab lt (V ++ Y) M2) : Srt lt (M1 ++ M2) ∧ Stab lt ((U ++ V) ++ (X ++ Y)) (M1 ++ M2) := by
 refine ⟨Srt.app s1 s2 (fun x hx y hy => ?_), ?_⟩
 ·have hx' := List.mem_append.1 ((b1.mem o).1 hx)
  have hy' := List.mem_append.1 ((b2.mem o).1 hy)
  rcases hx' with hx' | hx' <;> rcases hy' with hy' | hy'
  ·exact hUV x hx' y hy'
  ·exact hUY x hx' y hy'
  ·exact o.asym (hXV x hx' y hy')
  ·exact hXY x hx' y hy'
 ·have h1 : Stab lt ((U ++ V) ++ (X ++ Y)) ((U ++ X) ++ (V ++ Y)) := by
   have := ((Stab.refl (lt := lt) U).app (Stab.swap o hXV)).app (Stab.refl (lt := lt) Y)
   simpa using this
  exact h1.trans (b1.app b2)
end
end Go.Proofs.YtphmpimgbmedbaaGreat
/- Swaps, turns, searches and merges of rows in place, in plain Lean. No function of the program in sight. -/
namespace Go.Proofs.YtphmpimgbmedbaaGreat
open Go.RowKit
open Go.Lib (hid)
section
variable {β : Type}
def SwR (ps ps' : List β) (a b k : Nat) : Prop := ps'.length = ps.length ∧ ∀ t, ps'[t]? = if a ≤ t ∧ t < a + k then ps[t - a + b]? else if b ≤ t ∧ t < b + k then ps[t - b + a]? else ps[t]?
theorem sw_at {ps : List β} {i j : Nat} {p q : β} (hi : ps[i]? = some p) (hj : ps[j]? = some q) (t : Nat) : ((ps.set i q).set j p)[t]? = if t = j then ps[i]? else if t = i then ps[j]? else ps[t]? := by
 have h1 := (List.getElem?_eq_some_iff.1 hi).1
 have h2 := (List.getElem?_eq_some_iff.1 hj).1
 by_cases e : t = j
 ·subst e
  rw [if_pos rfl, List.getElem?_set_self (by rw [List.length_set]; exact h2), hi]
 ·rw [if_neg e, List.getElem?_set_ne (fun h => e h.symm)]
  by_cases e2 : t = i
  ·subst e2
   rw [if_pos rfl, List.getElem?_set_self h1, hj]
  ·rw [if_neg e2, List.getElem?_set_ne (fun h => e2 h.symm)]
theorem SwR.zero (ps : List β) (a b : Nat) : SwR ps ps a b 0 := ⟨rfl, fun t => by rw [if_neg (by omega), if_neg (by omega)]⟩
theorem SwR.next {ps ps' : List β} {a b k : Nat} (h : SwR ps ps' a b k) (hab : a + k < b) {p q : β} (hi : ps'[a + k]? = some p) (hj : ps'[b + k]? = some q) : SwR ps ((ps'.set (a + k) q).set (b + k) p) a b (k + 1) := by
 refine ⟨by rw [List.length_set, List.length_set]; exact h.1, fun t => ?_⟩
 rw [sw_at hi hj, h.2 (a + k), h.2 (b + k), h.2 t]
 rw [if_neg (show ¬ (a ≤ a + k ∧ a + k < a + k) by omega), if_neg (show ¬ (b ≤ a + k ∧ a + k < b + k) by omega), if_neg (show ¬ (a ≤ b + k ∧ b + k < a + k) by omega), if_neg (show ¬ (b ≤ b + k ∧ b + k < b + k) by omega)]
 by_cases e1 : t = b + k
 ·rw [if_pos e1, if_neg (by omega), if_pos (by omega)]; congr 1; omega
 ·rw [if_neg e1]
  by_cases e2 : t = a + k
  ·rw [if_pos e2, if_pos (by omega)]; congr 1; omega
  ·rw [if_neg e2]
   by_cases e3 : a ≤ t ∧ t < a + k
   ·rw [if_pos e3, if_pos (by omega)]
   ·rw [if_neg e3, if_neg (show ¬ (a ≤ t ∧ t < a + (k + 1)) by omega)]
    by_cases e4 : b ≤ t ∧ t < b + k
    ·rw [if_pos e4, if_pos (show b ≤ t ∧ t < b + (k + 1) by omega)]
    ·rw [if_neg e4, if_neg (show ¬ (b ≤ t ∧ t < b + (k + 1)) by omega)]
theorem app_hi {A B : List β} {t : Nat} (h : A.length ≤ t) : (A ++ B)[t]? = B[t - A.length]? := List.getElem?_append_right h
theorem app_lo {A B : List β} {t : Nat} (h : t < A.length) : (A ++ B)[t]? = A[t]? := List.getElem?_append_left h
theorem SwR.lists {A U M V B ps' : List β} {a b k : Nat} (h : SwR (A ++ (U ++ (M ++ (V ++ B)))) ps' a b k) (ha : A.length = a) (hu : U.length = k) (hv : V.length = k) (hb : a + k + M.length = b) : ps' = A ++ (V ++ (M ++ (U ++ B))) := by
 apply List.ext_getElem?
 intro t
 rw [h.2 t]
 by_cases e1 : t < a
 ·rw [if_neg (by omega), if_neg (by omega), app_lo (by omega), app_lo (by omega)]
 ·by_cases e2 : t < a + k
  ·rw [if_pos (by omega), app_hi (by omega), app_hi (by omega), app_hi (by omega), app_lo (by omega), app_hi (by omega), app_lo (by omega)]
   congr 1; omega
  ·rw [if_neg (by omega)]
   by_cases e3 : t < b
   ·rw [if_neg (by omega), app_hi (by omega), app_hi (by omega), app_lo (by omega), app_hi (by omega), app_hi (by omega), app_lo (by omega)]
    congr 1; omega
   ·by_cases e4 : t < b + k
    ·rw [if_pos (by omega), app_hi (by omega), app_lo (by omega), app_hi (by omega), app_hi (by omega), app_hi (by omega), app_lo (by omega)]
     congr 1; omega
    ·rw [if_neg (by omega), app_hi (by omega), app_hi (by omega), app_hi (by omega), app_hi (by omega), app_hi (by omega), app_hi (by omega), app_hi (by omega), app_hi (by omega)]
     congr 1; omega
def RotR (m : Nat) (goal ps : List β) (i j : Nat) : Prop := ∃ A U V B : List β, ps = A ++ (U ++ (V ++ B)) ∧ A.length + i = m ∧ U.length = i ∧ V.length = j ∧ A ++ (V ++ (U ++ B)) = goal
theorem RotR.left {m i j : Nat} {goal ps ps' : List β} (h : RotR m goal ps i j) (hij : j < i) (hs : SwR ps ps' (m - i) m j) : RotR m goal ps' (i - j) j := by
 obtain ⟨A, U, V, B, rfl, h1, h2, h3, h4⟩ := h
 have e := (List.take_append_drop j U).symm
 rw [e, List.append_assoc] at hs
 have h5 := hs.lists (by omega) (by rw [List.length_take]; omega) h3 (by rw [List.length_drop]; omega)
 refine ⟨A ++ V, U.drop j, U.take j, B, by rw [h5]; simp, by rw [List.length_append]; omega, by rw [List.length_drop]; omega, by rw [List.length_take]; omega, ?_⟩
 rw [← h4]
 have : U.take j ++ (U.drop j ++ B) = U ++ B := by rw [← List.append_assoc, List.take_append_drop]
 rw [this]; simp
theorem RotR.right {m i j : Nat} {goal ps ps' : List β} (h : RotR m goal ps i j) (hij : i < j) (hs : SwR ps ps' (m - i) (m + j - i) i) : RotR m goal ps' i (j - i) := by
 obtain ⟨A, U, V, B, rfl, h1, h2, h3, h4⟩ := h
 have e := (List.take_append_drop (j - i) V).symm
 rw [e, List.append_assoc] at hs
 have h5 := hs.lists (by omega) h2 (by rw [List.length_drop]; omega) (by rw [List.length_take]; omega)
 refine ⟨A, V.drop (j - i), V.take (j - i), U ++ B, h5, h1, by rw [List.length_drop]; omega, by rw [List.length_take]; omega, ?_⟩
 rw [← h4]
 have : V.take (j - i) ++ (V.drop (j - i) ++ (U ++ B)) = V ++ (U ++ B) := by rw [← List.append_assoc, List.take_append_drop]
 rw [this]
theorem RotR.last {m i : Nat} {goal ps ps' : List β} (h : RotR m goal ps i i) (hs : SwR ps ps' (m - i) m i) : ps' = goal := by
 obtain ⟨A, U, V, B, rfl, h1, h2, h3, h4⟩ := h
 have e : A ++ (U ++ (V ++ B)) = A ++ (U ++ ([] ++ (V ++ B))) := by simp
 rw [e] at hs
 have h5 := hs.lists (by omega) h2 h3 (by simp; omega)
 rw [h5, ← h4]; simp
theorem sw_next {C D : List β} {x y : β} {k : Nat} (hk : C.length = k) : ((C ++ (x :: y :: D)).set k y).set (k + 1) x = C ++ (y :: x :: D) := by
 subst hk
 rw [List.set_append_right _ _ (Nat.le_refl _), Nat.sub_self, List.set_cons_zero, List.set_append_right _ _ (by omega), show C.length + 1 - C.length = 1 by omega]
 rfl
theorem sw_prev {C D : List β} {x y : β} {k : Nat} (hk : C.length = k) : ((C ++ (x :: y :: D)).set (k + 1) x).set k y = C ++ (y :: x :: D) := by
 rw [List.set_comm _ _ (by omega)]; exact sw_next hk
def thru (A S B : List β) (x : β) (k : Nat) : List β := A ++ (S.take k ++ (x :: (S.drop k ++ B)))
theorem thru_at {A S B : List β} {x : β} {k : Nat} (hk : k ≤ S.length) : (thru A S B x k)[A.length + k]? = some x := by
 unfold thru
 rw [app_hi (by omega), app_hi (by rw [List.length_take]; omega)]
 rw [show A.length + k - A.length - (S.take k).length = 0 by rw [List.length_take]; omega]; rfl
theorem thru_next {A S B : List β} {x : β} {k : Nat} (hk : k < S.length) : (thru A S B x k)[A.length + k + 1]? = some S[k] := by
 unfold thru
 rw [app_hi (by omega), app_hi (by rw [List.length_take]; omega)]
 rw [show A.length + k + 1 - A.length - (S.take k).length = 1 by rw [List.length_take]; omega, List.drop_eq_getElem_cons hk]; rfl
theorem thru_prev {A S B : List β} {x : β} {k : Nat} (hk : k < S.length) : (thru A S B x (k + 1))[A.length + k]? = some S[k] := by
 unfold thru
 rw [app_hi (by omega), app_lo (by rw [List.length_take]; omega), List.getElem?_take_of_lt (by omega), show A.length + k - A.length = k by omega, List.getElem?_eq_getElem hk]
theorem thru_len {A S B : List β} {x : β} {k : Nat} : (thru A S B x k).length = A.length + S.length + 1 + B.length := by
 unfold thru
 simp only [List.length_append, List.length_take, List.length_cons, List.length_drop]
 omega
theorem thru_up {A S B : List β} {x : β} {k : Nat} (hk : k < S.length) : ((thru A S B x k).set (A.length + k) S[k]).set (A.length + k + 1) x = thru A S B x (k + 1) := by
 unfold thru
 have e : A ++ (S.take k ++ (x :: (S.drop k ++ B))) = (A ++ S.take k) ++ (x :: S[k] :: (S.drop (k + 1) ++ B)) := by
  rw [List.drop_eq_getElem_cons hk]; simp only [List.append_assoc, List.cons_append]
 rw [e, sw_next (by rw [List.length_append, List.length_take]; omega), take_next (List.getElem?_eq_getElem hk)]
 simp only [List.append_assoc, List.cons_append, List.nil_append]
theorem thru_down {A S B : List β} {x : β} {k : Nat} (hk : k < S.length) : ((thru A S B x (k + 1)).set (A.length + k + 1) S[k]).set (A.length + k) x = thru A S B x k := by
 unfold thru
 have e : A ++ (S.take (k + 1) ++ (x :: (S.drop (k + 1) ++ B))) = (A ++ S.take k) ++ (S[k] :: x :: (S.drop (k + 1) ++ B)) := by
  rw [take_next (List.getElem?_eq_getElem hk)]; simp only [List.append_assoc, List.cons_append, List.nil_append]
 rw [e, sw_prev (by rw [List.length_append, List.length_take]; omega), List.drop_eq_getElem_cons hk]
 simp only [List.append_assoc, List.cons_append]
end
section
def Bnd (P : Nat → Bool) (lo hi i j : Nat) : Prop := (∀ t, lo ≤ t → t < i → P t = true) ∧ (∀ t, j ≤ t → t < hi → P t = false)
def Anti (P : Nat → Bool) (lo hi : Nat) : Prop := ∀ s t, lo ≤ s → s ≤ t → t < hi → P t = true → P s = true
theorem Bnd.zero (P : Nat → Bool) (lo hi : Nat) : Bnd P lo hi lo hi := ⟨fun t h1 h2 => by omega, fun t h1 h2 => by omega⟩
theorem Bnd.yes {P : Nat → Bool} {lo hi i j h : Nat} (hb : Bnd P lo hi i j) (ha : Anti P lo hi) (hh : h < hi) (hp : P h = true) : Bnd P lo hi (h + 1) j :=
 ⟨fun t h1 h2 => ha t h h1 (by omega) hh hp, hb.2⟩
theorem Bnd.no {P : Nat → Bool} {lo hi i j h : Nat} (hb : Bnd P lo hi i j) (ha : Anti P lo hi) (hl : lo ≤ h) (hp : P h = false) : Bnd P lo hi i h :=
 ⟨hb.1, fun t h1 h2 => by
  cases e : P t
  ·rfl
  ·rw [ha h t hl h1 h2 e] at hp; cases hp⟩
end
section
variable {β : Type} {lt : β → β → Bool}
def ltAt (lt : β → β → Bool) : Option β → Option β → Bool
 | some p, some q => lt p q
 | _, _ => false
theorem Ordr.le_trans (o : Ordr lt) {x y z : β} (h : lt y x = false) (k : lt z y = false) : lt z x = false := o.ntr z y x k h
theorem Ordr.lt_le (o : Ordr lt) {x y z : β} (h : lt x y = true) (k : lt z y = false) : lt x z = true := by
 cases e : lt x z
 ·rw [o.ntr x z y e k] at h; cases h
 ·rfl
theorem Ordr.le_lt (o : Ordr lt) {x y z : β} (h : lt y x = false) (k : lt y z = true) : lt x z = true := by
 cases e : lt x z
 ·rw [o.ntr y x z h e] at k; cases k
 ·rfl
theorem Srt.at (o : Ordr lt) {xs : List β} (h : Srt lt xs) {i j : Nat} (hij : i ≤ j) {x y : β} (hx : xs[i]? = some x) (hy : xs[j]? = some y) : lt y x = false := by
 rcases Nat.eq_or_lt_of_le hij with rfl | hlt
 ·rw [hx] at hy; obtain rfl := Option.some.inj hy; exact o.irr _
 ·obtain ⟨h1, rfl⟩ := List.getElem?_eq_some_iff.1 hx
  obtain ⟨h2, rfl⟩ := List.getElem?_eq_some_iff.1 hy
  exact List.pairwise_iff_getElem.1 h i j h1 h2 hlt
theorem Srt.take {xs : List β} (h : Srt lt xs) (k : Nat) : Srt lt (xs.take k) := List.Pairwise.sublist (List.take_sublist _ _) h
theorem Srt.drop {xs : List β} (h : Srt lt xs) (k : Nat) : Srt lt (xs.drop k) := List.Pairwise.sublist (List.drop_sublist _ _) h
theorem one_left (o : Ordr lt) {A R B : List β} {x : β} {i m : Nat} (hm : A.length + 1 = m) (hi : m ≤ i) (hs : Srt lt R) (hb : Bnd (fun t => ltAt lt (A ++ (x :: (R ++ B)))[t]? (some x)) m (m + R.length) i i) (hi2 : i ≤ m + R.length) :
  ∃ M, thru A R B x (i - m) = A ++ (M ++ B) ∧ Srt lt M ∧ Stab lt ([x] ++ R) M := by
 have hat : ∀ k y, R[k]? = some y → (A ++ (x :: (R ++ B)))[m + k]? = some y := fun k y hy => by
  have hk := (List.getElem?_eq_some_iff.1 hy).1
  rw [app_hi (by omega), show m + k - A.length = k + 1 by omega, List.getElem?_cons_succ, app_lo hk, hy]
 have h1 : ∀ y ∈ R.take (i - m), lt y x = true := fun y hy => by
  obtain ⟨k, hk, rfl⟩ := List.getElem_of_mem hy
  rw [List.length_take] at hk
  have h2 := hb.1 (m + k) (by omega) (by omega)
  dsimp only at h2
  rw [hat k R[k] (List.getElem?_eq_getElem (by omega))] at h2
  rw [List.getElem_take]; exact h2
 have h2 : ∀ y ∈ R.drop (i - m), lt y x = false := fun y hy => by
  obtain ⟨k, hk, rfl⟩ := List.getElem_of_mem hy
  rw [List.length_drop] at hk
  have h2 := hb.2 (m + (i - m + k)) (by omega) (by omega)
  dsimp only at h2
  rw [hat (i - m + k) R[i - m + k] (List.getElem?_eq_getElem (by omega))] at h2
  rw [List.getElem_drop]; exact h2
 refine ⟨R.take (i - m) ++ ([x] ++ R.drop (i - m)), by unfold thru; simp, ?_, ?_⟩
 ·refine Srt.app (hs.take _) (Srt.app (List.pairwise_singleton _ _) (hs.drop _) (fun a ha y hy => ?_)) (fun y hy z hz => ?_)
  ·rw [List.mem_singleton] at ha; subst ha; exact h2 y hy
  ·rcases List.mem_append.1 hz with hz | hz
   ·rw [List.mem_singleton] at hz; subst hz; exact o.asym (h1 y hy)
   ·have := hs; rw [← List.take_append_drop (i - m) R] at this
    exact (Srt.parts this).2.2 y hy z hz
 ·have h3 : Stab lt ([x] ++ R.take (i - m)) (R.take (i - m) ++ [x]) := Stab.swap o (fun y hy v hv => by rw [List.mem_singleton] at hv; subst hv; exact h1 y hy)
  have h4 := h3.app (Stab.refl (R.drop (i - m)))
  rw [List.append_assoc, List.take_append_drop, List.append_assoc] at h4
  exact h4
theorem one_right (o : Ordr lt) {A L B : List β} {y : β} {i a : Nat} (ha : A.length = a) (hi : a ≤ i) (hs : Srt lt L) (hb : Bnd (fun t => !ltAt lt (some y) (A ++ (L ++ (y :: B)))[t]?) a (a + L.length) i i) (hi2 : i ≤ a + L.length) :
  ∃ M, thru A L B y (i - a) = A ++ (M ++ B) ∧ Srt lt M ∧ Stab lt (L ++ [y]) M := by
 have hat : ∀ k z, L[k]? = some z → (A ++ (L ++ (y :: B)))[a + k]? = some z := fun k z hz => by
  have hk := (List.getElem?_eq_some_iff.1 hz).1
  rw [app_hi (by omega), show a + k - A.length = k by omega, app_lo hk, hz]
 refine ⟨L.take (i - a) ++ (y :: L.drop (i - a)), by unfold thru; simp, ins_srt o hs (fun x hx => ?_) (fun x hx => ?_), ins_stab o (fun x hx => ?_)⟩
 ·obtain ⟨k, hk, rfl⟩ := List.getElem_of_mem hx
  rw [List.length_drop] at hk
  have h2 := hb.2 (a + (i - a + k)) (by omega) (by omega)
  dsimp only at h2
  rw [hat (i - a + k) L[i - a + k] (List.getElem?_eq_getElem (by omega))] at h2
  rw [List.getElem_drop]; simpa [ltAt] using h2
 ·obtain ⟨k, hk, rfl⟩ := List.getElem_of_mem hx
  rw [List.length_take] at hk
  have h2 := hb.1 (a + k) (by omega) (by omega)
  dsimp only at h2
  rw [hat k L[k] (List.getElem?_eq_getElem (by omega))] at h2
  rw [List.getElem_take]; simpa [ltAt] using h2
 ·obtain ⟨k, hk, rfl⟩ := List.getElem_of_mem hx
  rw [List.length_drop] at hk
  have h2 := hb.2 (a + (i - a + k)) (by omega) (by omega)
  dsimp only at h2
  rw [hat (i - a + k) L[i - a + k] (List.getElem?_eq_getElem (by omega))] at h2
  rw [List.getElem_drop]; simpa [ltAt] using h2
theorem sym_cut (o : Ordr lt) {A L R B : List β} {a m b mid s r0 s0 : Nat} (ha : A.length = a) (hm : a + L.length = m) (hb : m + R.length = b) (hL : Srt lt L) (hR : Srt lt R) (hlo : a < mid) (hhi : mid < b)
  (hsr : (mid < m ∧ s0 = mid + m - b ∧ b ≤ mid + m ∧ r0 = mid) ∨ (m ≤ mid ∧ s0 = a ∧ r0 = m)) (hmid : 2 * mid ≤ a + b ∧ a + b ≤ 2 * mid + 1) (h0 : s0 ≤ s) (h1 : s ≤ r0)
  (hbd : Bnd (fun c => !ltAt lt (A ++ (L ++ (R ++ B)))[mid + m - 1 - c]? (A ++ (L ++ (R ++ B)))[c]?) s0 r0 s s) :
  (∀ x ∈ R.take (mid - s), ∀ v ∈ L.drop (s - a), lt x v = true) ∧ AllLe lt (L.take (s - a)) (R.drop (mid - s)) := by
 have hl : ∀ k v, L[k]? = some v → (A ++ (L ++ (R ++ B)))[a + k]? = some v := fun k z hz => by
  have hk := (List.getElem?_eq_some_iff.1 hz).1
  rw [app_hi (by omega), show a + k - A.length = k by omega, app_lo hk, hz]
 have hr : ∀ k v, R[k]? = some v → (A ++ (L ++ (R ++ B)))[m + k]? = some v := fun k z hz => by
  have hk := (List.getElem?_eq_some_iff.1 hz).1
  rw [app_hi (by omega), app_hi (by omega), show m + k - A.length - L.length = k by omega, app_lo hk, hz]
 refine ⟨fun x hx v hv => ?_, fun u hu y hy => ?_⟩
 ·obtain ⟨k, hk, rfl⟩ := List.getElem_of_mem hx
  obtain ⟨k2, hk2, rfl⟩ := List.getElem_of_mem hv
  rw [List.length_take] at hk
  rw [List.length_drop] at hk2
  rw [List.getElem_take, List.getElem_drop]
  have h2 := hbd.2 s (Nat.le_refl _) (by omega)
  dsimp only at h2
  rw [show mid + m - 1 - s = m + (mid - s - 1) by omega, hr (mid - s - 1) R[mid - s - 1] (List.getElem?_eq_getElem (by omega)), show (A ++ (L ++ (R ++ B)))[s]? = some (L[s - a]'(by omega)) from by
   have := hl (s - a) (L[s - a]'(by omega)) (List.getElem?_eq_getElem (by omega)); rwa [show a + (s - a) = s by omega] at this] at h2
  have h3 : lt (R[mid - s - 1]'(by omega)) (L[s - a]'(by omega)) = true := by simpa [ltAt] using h2
  have h4 := Srt.at o hR (show k ≤ mid - s - 1 by omega) (List.getElem?_eq_getElem (by omega)) (List.getElem?_eq_getElem (by omega))
  have h5 := Srt.at o hL (show s - a ≤ s - a + k2 by omega) (List.getElem?_eq_getElem (by omega)) (List.getElem?_eq_getElem (by omega))
  exact o.lt_le (o.le_lt h4 h3) h5
 ·obtain ⟨k, hk, rfl⟩ := List.getElem_of_mem hu
  obtain ⟨k2, hk2, rfl⟩ := List.getElem_of_mem hy
  rw [List.length_take] at hk
  rw [List.length_drop] at hk2
  rw [List.getElem_take, List.getElem_drop]
  have h2 := hbd.1 (s - 1) (by omega) (by omega)
  dsimp only at h2
  rw [show mid + m - 1 - (s - 1) = m + (mid - s) by omega, hr (mid - s) (R[mid - s]'(by omega)) (List.getElem?_eq_getElem (by omega)), show (A ++ (L ++ (R ++ B)))[s - 1]? = some (L[s - 1 - a]'(by omega)) from by
   have := hl (s - 1 - a) (L[s - 1 - a]'(by omega)) (List.getElem?_eq_getElem (by omega)); rwa [show a + (s - 1 - a) = s - 1 by omega] at this] at h2
  have h3 : lt (R[mid - s]'(by omega)) (L[s - 1 - a]'(by omega)) = false := by simpa [ltAt] using h2
  have h4 := Srt.at o hL (show k ≤ s - 1 - a by omega) (List.getElem?_eq_getElem (by omega)) (List.getElem?_eq_getElem (by omega))
  have h5 := Srt.at o hR (show mid - s ≤ mid - s + k2 by omega) (List.getElem?_eq_getElem (by omega)) (List.getElem?_eq_getElem (by omega))
  exact o.le_trans h4 (o.le_trans h3 h5)
theorem sym_anti (o : Ordr lt) {A L R B : List β} {a m b mid r0 s0 : Nat} (ha : A.length = a) (hm : a + L.length = m) (hb : m + R.length = b) (hL : Srt lt L) (hR : Srt lt R) (hlo : a < mid) (_ : mid < b)
  (hsr : (mid < m ∧ s0 = mid + m - b ∧ b ≤ mid + m ∧ r0 = mid) ∨ (m ≤ mid ∧ s0 = a ∧ r0 = m)) (hmid : 2 * mid ≤ a + b ∧ a + b ≤ 2 * mid + 1) : Anti (fun c => !ltAt lt (A ++ (L ++ (R ++ B)))[mid + m - 1 - c]? (A ++ (L ++ (R ++ B)))[c]?) s0 r0 := by
 intro s t h1 h2 h3 h4
 have hl : ∀ k, a ≤ k → (h : k - a < L.length) → (A ++ (L ++ (R ++ B)))[k]? = some (L[k - a]'h) := fun k hk h => by
  rw [app_hi (by omega), app_lo (by omega), ha, List.getElem?_eq_getElem h]
 have hr : ∀ k, m ≤ k → (h : k - m < R.length) → (A ++ (L ++ (R ++ B)))[k]? = some (R[k - m]'h) := fun k hk h => by
  rw [app_hi (by omega), app_hi (by omega), app_lo (by omega), show k - A.length - L.length = k - m by omega, List.getElem?_eq_getElem h]
 dsimp only at h4 ⊢
 rw [hr _ (by omega) (by omega), hl _ (by omega) (by omega)] at h4 ⊢
 simp only [ltAt, Bool.not_eq_true'] at h4 ⊢
 have h5 := Srt.at o hL (show s - a ≤ t - a by omega) (List.getElem?_eq_getElem (by omega)) (List.getElem?_eq_getElem (by omega))
 have h6 := Srt.at o hR (show mid + m - 1 - t - m ≤ mid + m - 1 - s - m by omega) (List.getElem?_eq_getElem (by omega)) (List.getElem?_eq_getElem (by omega))
 exact o.le_trans h5 (o.le_trans h4 h6)
theorem left_anti (o : Ordr lt) {A R B : List β} {x : β} {m : Nat} (hm : A.length + 1 = m) (hs : Srt lt R) : Anti (fun t => ltAt lt (A ++ (x :: (R ++ B)))[t]? (some x)) m (m + R.length) := by
 intro s t h1 h2 h3 h4
 have hat : ∀ k, m ≤ k → (h : k - m < R.length) → (A ++ (x :: (R ++ B)))[k]? = some (R[k - m]'h) := fun k hk h => by
  rw [app_hi (by omega), show k - A.length = k - m + 1 by omega, List.getElem?_cons_succ, app_lo h, List.getElem?_eq_getElem h]
 dsimp only at h4 ⊢
 rw [hat _ (by omega) (by omega)] at h4 ⊢
 simp only [ltAt] at h4 ⊢
 exact o.le_lt (Srt.at o hs (show s - m ≤ t - m by omega) (List.getElem?_eq_getElem (by omega)) (List.getElem?_eq_getElem (by omega))) h4
theorem right_anti (o : Ordr lt) {A L B : List β} {y : β} {a : Nat} (ha : A.length = a) (hs : Srt lt L) : Anti (fun t => !ltAt lt (some y) (A ++ (L ++ (y :: B)))[t]?) a (a + L.length) := by
 intro s t h1 h2 h3 h4
 have hat : ∀ k, a ≤ k → (h : k - a < L.length) → (A ++ (L ++ (y :: B)))[k]? = some (L[k - a]'h) := fun k hk h => by
  rw [app_hi (by omega), app_lo (by omega), ha, List.getElem?_eq_getElem h]
 dsimp only at h4 ⊢
 rw [hat _ (by omega) (by omega)] at h4 ⊢
 simp only [ltAt, Bool.not_eq_true'] at h4 ⊢
 exact o.le_trans (Srt.at o hs (show s - a ≤ t - a by omega) (List.getElem?_eq_getElem (by omega)) (List.getElem?_eq_getElem (by omega))) h4
def Blks (lt : β → β → Bool) (k : Nat) (xs ys : List β) : Prop := xs.length = ys.length ∧ ∀ t, Srt lt ((ys.drop (t * k)).take k) ∧ Stab lt ((xs.drop (t * k)).take k) ((ys.drop (t * k)).take k)
theorem Blks.nil (k : Nat) : Blks lt k [] [] := ⟨rfl, fun t => by simp; exact ⟨List.Pairwise.nil, Stab.refl _⟩⟩
theorem Blks.whole {k : Nat} {xs ys : List β} (h : Blks lt k xs ys) (hk : xs.length ≤ k) : Srt lt ys ∧ Stab lt xs ys := by
 have h1 := h.2 0
 have e := h.1
 rw [Nat.zero_mul, List.drop_zero, List.drop_zero, List.take_of_length_le (by omega), List.take_of_length_le (by omega)] at h1
 exact h1
theorem Blks.tail {k : Nat} {xs ys : List β} (h : Blks lt k xs ys) (j : Nat) : Blks lt k (xs.drop (j * k)) (ys.drop (j * k)) := by
 have e := h.1
 refine ⟨by rw [List.length_drop, List.length_drop]; omega, fun t => ?_⟩
 rw [List.drop_drop, List.drop_drop, ← Nat.add_mul]
 exact h.2 (j + t)
theorem Blks.head {k : Nat} {xs ys : List β} (h : Blks lt k xs ys) : Srt lt (ys.take k) ∧ Stab lt (xs.take k) (ys.take k) := by
 have h1 := h.2 0
 rw [Nat.zero_mul, List.drop_zero, List.drop_zero] at h1
 exact h1
theorem Blks.snoc {k t : Nat} {xs ys zs zs' : List β} (h : Blks lt k xs ys) (ht : xs.length = t * k) (hz : zs.length ≤ k) (hs : Srt lt zs') (hb : Stab lt zs zs') : Blks lt k (xs ++ zs) (ys ++ zs') := by
 have e := h.1
 have ez := hb.1
 refine ⟨by rw [List.length_append, List.length_append]; omega, fun s => ?_⟩
 rcases Nat.lt_trichotomy s t with hst | rfl | hst
 ·have h2 : (s + 1) * k ≤ t * k := Nat.mul_le_mul_right _ hst
  rw [Nat.add_mul, Nat.one_mul] at h2
  rw [List.drop_append_of_le_length (by omega), List.drop_append_of_le_length (by omega), List.take_append_of_le_length (by rw [List.length_drop]; omega), List.take_append_of_le_length (by rw [List.length_drop]; omega)]
  exact h.2 s
 ·rw [← ht, List.drop_left, show xs.length = ys.length from e, List.drop_left, List.take_of_length_le (by omega), List.take_of_length_le (by omega)]
  exact ⟨hs, hb⟩
 ·have h2 : (t + 1) * k ≤ s * k := Nat.mul_le_mul_right _ hst
  rw [Nat.add_mul, Nat.one_mul] at h2
  rw [List.drop_eq_nil_of_le (by rw [List.length_append]; omega), List.drop_eq_nil_of_le (by rw [List.length_append]; omega)]
  simp
  exact ⟨List.Pairwise.nil, Stab.refl _⟩
end
end Go.Proofs.YtphmpimgbmedbaaGreat
/- The walks of AddBytes, ScaleBytes and AddShare, of the program and of the reference. -/
namespace Go.Proofs.YtphmpimgbmedbaaGreat
open Go.RowKit
open Go.Lib (hid)
def NewRes {α : Type} (L : Lay α) (r : Int × List α) (w : World) (e : Ending) (w' : World) : Prop :=
 ∃ a cap fp, e = .returned (.agg #[.int .i64 r.1, .slice a r.2.length cap]) ∧ L.sl w' a r.2.length cap r.2 fp ∧ Fresh w.heap.size w' fp ∧ Chg [] w w'
theorem NewRes.code {α : Type} (L : Lay α) {n : Int} {r : Int × List α} (hr : r = (n, [])) {w w' : World} (hc : Chg [] w w') : NewRes L r w (.returned (.agg #[.int .i64 n, .slice none 0 0])) w' := by
 subst hr
 exact ⟨none, 0, [], rfl, ⟨rfl, Nat.le_refl _, by simp [maxLen], fun _ => rfl, .inl ⟨rfl, rfl⟩⟩, Fresh.nil _ _, hc⟩
/-! the models -/
theorem NewSl.since {α : Type} {L : Lay α} {xs : List α} {w w0 : World} {e : Ending} {w1 : World} (h : NewSl L xs w0 e w1) (hc : Chg [] w w0) : NewSl L xs w e w1 := by
 obtain ⟨a, cap, fp, rfl, hs, hf, hc'⟩ := h
 exact ⟨a, cap, fp, rfl, hs, hf.mono hc.size, hc.trans0 hc'⟩
end Go.Proofs.YtphmpimgbmedbaaGreat
/- Slices grown element by element, all of it new memory. No function of the program in sight. -/
namespace Go.Proofs.YtphmpimgbmedbaaGreat
open Go.RowKit
open Go.Lib (hid)
theorem Fresh.lts {B : Nat} {w : World} {fp : List Nat} (h : Fresh B w fp) : ∀ b ∈ fp, b < w.heap.size := fun b hb => (h.2 b hb).2.lt
theorem Lay.os_loose {α : Type} (L : Lay α) {E : TypeId} {w : World} {v : Value} {xs : List α} {h : Option Nat} {fps : List Nat} (ho : L.os E w v xs h fps) : ∀ g, h = some g → Loose w g := by
 rcases ho with ⟨_, _, rfl, _⟩ | ⟨g, cap, cur, _, rfl, hg, _⟩
 ·intro g hg; cases hg
 ·intro g' hg'; cases hg'; exact ⟨_, _, hg⟩
theorem Fresh.grow {B : Nat} {wr w3 w4 : World} {h h' : Option Nat} {fps f : List Nat} (fr : Fresh B wr (h.toList ++ fps)) (hB : B ≤ wr.heap.size) (ff : Fresh wr.heap.size w3 f) (c3 : Chg [] wr w3)
  (hh : h' = h ∨ h' = some w3.heap.size) (c4 : Chg h.toList w3 w4) (hl : ∀ g, h' = some g → Loose w4 g) : Fresh B w4 (h'.toList ++ (fps ++ f)) := by
 have f3 := fr.chg c3
 have f4 := f3.chg c4
 have g4 := ff.chg c4
 have nd := List.nodup_append.1 fr.1
 have dj : ∀ a ∈ h.toList ++ fps, ∀ b ∈ f, a ≠ b := fun a ha b hb e => by have h1 := fr.lts a ha; have h2 := (ff.2 b hb).1; omega
 rcases hh with rfl | rfl
 ·rw [← List.append_assoc]
  exact ⟨List.nodup_append.2 ⟨fr.1, ff.1, dj⟩, fun b hb => by
   rcases List.mem_append.1 hb with hb | hb
   ·exact f4.2 b hb
   ·exact ⟨Nat.le_trans hB (g4.2 b hb).1, (g4.2 b hb).2⟩⟩
 ·refine ⟨?_, fun b hb => ?_⟩
  ·rw [Option.toList_some, List.singleton_append, List.nodup_cons]
   refine ⟨fun hb => ?_, List.nodup_append.2 ⟨nd.2.1, ff.1, fun a ha b hb => dj a (List.mem_append.2 (.inr ha)) b hb⟩⟩
   rcases List.mem_append.1 hb with hb | hb
   ·have := f3.lts _ (List.mem_append.2 (.inr hb)); omega
   ·have := ff.lts _ hb; omega
  ·rw [Option.toList_some, List.singleton_append, List.mem_cons] at hb
   rcases hb with rfl | hb
   ·exact ⟨Nat.le_trans hB c3.size, hl _ rfl⟩
   ·rcases List.mem_append.1 hb with hb | hb
    ·exact f4.2 b (List.mem_append.2 (.inr hb))
    ·exact ⟨Nat.le_trans hB (g4.2 b hb).1, (g4.2 b hb).2⟩
def Grow {α : Type} (L : Lay α) (E : TypeId) (w wr : World) (v : Value) (xs : List α) : Prop :=
 ∃ h fps, L.os E wr v xs h fps ∧ Fresh w.heap.size wr (h.toList ++ fps) ∧ Chg [] w wr
section
variable {α : Type} {L : Lay α} {E : TypeId} {w wr w' : World} {v : Value} {xs : List α}
theorem Grow.nil (hc : Chg [] w wr) : Grow L E w wr (.slice none 0 0) [] := ⟨none, [], Lay.os_nil _ _ _, Fresh.nil _ _, hc⟩
theorem Grow.made (hc : Chg [] w wr) : Grow L E w (wr.alloc (.cells #[] E)) (.slice (some ⟨wr.heap.size, 0, none⟩) 0 0) [] :=
 ⟨some wr.heap.size, [], Lay.os_made _ _ _ _ _ (by simp [maxLen]) (by simp), ⟨by simp, fun b hb => by simp at hb; subst hb; exact ⟨hc.size, _, _, new_alloc wr _⟩⟩, hc.alloc _⟩
theorem Grow.madeN {n : Nat} (hc : Chg [] w wr) (hn : n = wr.heap.size) : Grow L E w (wr.alloc (.cells #[] E)) (.slice (some ⟨n, 0, none⟩) 0 0) [] := by subst hn; exact Grow.made hc
theorem Grow.ext (h : Grow L E w wr v xs) (hc : Chg [] wr w') : Grow L E w w' v xs := by
 obtain ⟨hd, fps, ho, hf, hch⟩ := h
 exact ⟨hd, fps, L.os_ext ho hc, hf.chg hc, hch.trans0 hc⟩
theorem Grow.chg (h : Grow L E w wr v xs) : Chg [] w wr := by obtain ⟨_, _, _, _, h⟩ := h; exact h
theorem Grow.new (h : Grow L E w wr v xs) : NewSl L xs w (.returned v) wr := by
 obtain ⟨hd, fps, ho, hf, hch⟩ := h
 obtain ⟨a, cap, rfl, hs⟩ := L.os_sl ho
 exact ⟨a, cap, _, rfl, hs, hf, hch⟩
theorem Grow.sl (h : Grow L E w wr v xs) : ∃ a cap fp, v = .slice a xs.length cap ∧ L.sl wr a xs.length cap xs fp ∧ Fresh w.heap.size wr fp ∧ Chg [] w wr := by
 obtain ⟨hd, fps, ho, hf, hch⟩ := h
 obtain ⟨a, cap, rfl, hs⟩ := L.os_sl ho
 exact ⟨a, cap, _, rfl, hs, hf, hch⟩
theorem Grow.since {w0 : World} (h : Grow L E w wr v xs) (hc : Chg [] w0 w) : Grow L E w0 wr v xs := by
 obtain ⟨hd, fps, ho, hf, hch⟩ := h
 exact ⟨hd, fps, ho, hf.mono hc.size, hc.trans0 hch⟩
end
section
variable {α : Type} (L : Lay α) {P : Program} {E : TypeId} {bytes : Nat} {w wr w3 : World} {v : Value} {xs ys : List α} {f : List Nat}
theorem Lay.wp_grow {o : Oper} {a : Act} {Kc : Act → World → Prop} {Q : Exit → Act → World → Prop} (s x : Operand) (t : TypeId)
  (hop : o.op = .call { callee := .builtin .append, args := #[s, x], argTypes := #[t, t] }) (ht : P.underlying t = some (.slice E)) (K : Kind P E L.n bytes)
  (hs : a.eval s = v) (hg : Grow L E w wr v xs) (c3 : Chg [] wr w3)
  (ad : Addr) (m c : Nat) (news : List Value) (hx : a.eval x = .slice (some ad) m c) (hm : m = ys.length) (hnews : ∀ j u, news[j]? = some u → w3.cell? (ad.add j) = some u) (hall : L.all w3 news ys f) (ff : Fresh wr.heap.size w3 f)
  (h63 : xs.length + ys.length ≤ maxLen) (hbytes : (xs.length + ys.length) * bytes ≤ 140737488355328)
  (hk : ∀ v' w', Grow L E w w' v' (xs ++ ys) → Kc (a.put o.dst v') w') : o.wp P a w3 Kc Q := by
 obtain ⟨h, fps, ho, fr, hc⟩ := hg
 have hlt := L.os_lt ho
 refine L.wp_append s x t hop ht K hs (L.os_ext ho c3) ad m c news hx hm hnews hall (fun g hg hf => ?_) h63 hbytes (fun v' w' h' ho' hh' hc' => hk _ _ ⟨h', fps ++ f, ho', fr.grow hc.size ff c3 hh' hc' (L.os_loose ho'), ?_⟩)
 ·have := hlt.1 g hg; have := (ff.2 g hf).1; omega
 ·exact (hc.trans0 c3).trans hc' (fun b hb => .inr (by
   have := (fr.2 b (List.mem_append.2 (.inl hb))).1; exact this))
theorem Lay.wpList_grow {ops : Array Oper} {rest : List Oper} {o : Oper} {a : Act} {Q : Exit → Act → World → Prop} (hgd : o.guard = none) (s x : Operand) (t : TypeId)
  (hop : o.op = .call { callee := .builtin .append, args := #[s, x], argTypes := #[t, t] }) (ht : P.underlying t = some (.slice E)) (K : Kind P E L.n bytes)
  (hs : a.eval s = v) (hg : Grow L E w wr v xs) (c3 : Chg [] wr w3)
  (ad : Addr) (m c : Nat) (news : List Value) (hx : a.eval x = .slice (some ad) m c) (hm : m = ys.length) (hnews : ∀ j u, news[j]? = some u → w3.cell? (ad.add j) = some u) (hall : L.all w3 news ys f) (ff : Fresh wr.heap.size w3 f)
  (h63 : xs.length + ys.length ≤ maxLen) (hbytes : (xs.length + ys.length) * bytes ≤ 140737488355328)
  (hk : ∀ v' w', Grow L E w w' v' (xs ++ ys) → wpList P ops Q rest (a.put o.dst v') w') : wpList P ops Q (o :: rest) a w3 :=
 wpList_plain hgd fun _ hK => L.wp_grow s x t hop ht K hs hg c3 ad m c news hx hm hnews hall ff h63 hbytes fun v' w' h1 => hK _ _ (hk v' w' h1)
end
theorem new_cells (w : World) (cs : Array Value) (E : TypeId) : ∀ j u, cs.toList[j]? = some u → (w.alloc (.cells cs E)).cell? ((⟨w.heap.size, 0, none⟩ : Addr).add j) = some u := by
 intro j u hu
 have hadd : (⟨w.heap.size, 0, none⟩ : Addr).add j = ⟨w.heap.size, j, none⟩ := by unfold Addr.add; split <;> simp_all
 rw [hadd, cellsOf (new_alloc w _)]
 simpa using hu
section
variable {α : Type} (L : Lay α) {P : Program} {E : TypeId} {bytes : Nat} {w wr w3 : World} {v : Value} {xs ys : List α} {h : Option Nat} {f fps : List Nat}
theorem Lay.run_append_none (t ty : TypeId) (ht : P.underlying t = some (.slice E)) (K : Kind P E L.n bytes) (ho : L.os E w v xs h fps) : (Builtin.append_ #[t, t] ty #[v, .slice none 0 0]).run P w = .ok v w := by
 rcases ho with ⟨rfl, _⟩ | ⟨g, cap, cur, rfl, _, _, hnc, _⟩
 ·simp [Builtin.append_, run_underlying ht, sizeOf, typeInfo, K.info, Builtin.lenOf, Builtin.firstCells]
 ·simp [Builtin.append_, run_underlying ht, sizeOf, typeInfo, K.info, Builtin.lenOf, Builtin.firstCells, hnc, storeCells]
theorem Lay.run_growS (hL : L.flat) (t ty : TypeId) (ht : P.underlying t = some (.slice E)) (K : Kind P E L.n bytes) (hg : Grow L E w wr v xs) (c3 : Chg [] wr w3)
  {a : Option Addr} {len cap : Nat} (hs : L.sl w3 a len cap ys f)
  (h63 : xs.length + ys.length ≤ maxLen) (hbytes : (xs.length + ys.length) * bytes ≤ 140737488355328) :
  ∃ v' w', (Builtin.append_ #[t, t] ty #[v, .slice a len cap]).run P w3 = .ok v' w' ∧ Grow L E w w' v' (xs ++ ys) := by
 obtain ⟨h, fps, ho, fr, hc⟩ := hg
 cases a with
 | none =>
  have h0 : cap = 0 := hs.2.2.2.1 rfl
  have h1 : len = 0 := by have := hs.2.1; omega
  have h2 : ys = [] := List.eq_nil_of_length_eq_zero (by have := hs.1; omega)
  subst h0 h1 h2
  exact ⟨v, w3, L.run_append_none t ty ht K (L.os_ext ho c3), by rw [List.append_nil]; exact ⟨h, fps, L.os_ext ho c3, fr.chg c3, hc.trans0 c3⟩⟩
 | some ad =>
  obtain ⟨news, fy, hnews, hall, hsub⟩ := L.sl_cells hs
  have hfy := Lay.flat_all hL hall
  subst hfy
  have hlen := hs.1
  subst hlen
  obtain ⟨v', w', h', hr, ho', hh', hc', hl⟩ := L.run_append t ty ht K (L.os_ext ho c3) ad cap news hnews hall (by simp) h63 hbytes
  refine ⟨v', w', hr, h', fps ++ [], ho', fr.grow hc.size (Fresh.nil _ _) c3 hh' hc' (L.os_loose ho'), (hc.trans0 c3).trans hc' (fun b hb => .inr ?_)⟩
  exact (fr.2 b (List.mem_append.2 (.inl hb))).1
theorem Lay.wp_growS (hL : L.flat) {o : Oper} {a : Act} {Kc : Act → World → Prop} {Q : Exit → Act → World → Prop} (s x : Operand) (t : TypeId)
  (hop : o.op = .call { callee := .builtin .append, args := #[s, x], argTypes := #[t, t] }) (ht : P.underlying t = some (.slice E)) (K : Kind P E L.n bytes)
  (hs : a.eval s = v) (hg : Grow L E w wr v xs) (c3 : Chg [] wr w3)
  {ad : Option Addr} {m c : Nat} (hx : a.eval x = .slice ad m c) (hsl : L.sl w3 ad m c ys f)
  (h63 : xs.length + ys.length ≤ maxLen) (hbytes : (xs.length + ys.length) * bytes ≤ 140737488355328)
  (hk : ∀ v' w', Grow L E w w' v' (xs ++ ys) → Kc (a.put o.dst v') w') : o.wp P a w3 Kc Q := by
 obtain ⟨v', w', hr, h2⟩ := L.run_growS hL (P := P) t o.type ht K hg c3 hsl h63 hbytes
 unfold Oper.wp execOp
 simp only [hop, resolve, invoke, builtin, Sem.run_bind, Sem.run_pure, Result.andThen_ok, List.map_toArray, List.map_cons, List.map_nil, hs, hx, hr]
 exact hk v' w' h2
theorem Lay.wpList_growS (hL : L.flat) {ops : Array Oper} {rest : List Oper} {o : Oper} {a : Act} {Q : Exit → Act → World → Prop} (hgd : o.guard = none) (s x : Operand) (t : TypeId)
  (hop : o.op = .call { callee := .builtin .append, args := #[s, x], argTypes := #[t, t] }) (ht : P.underlying t = some (.slice E)) (K : Kind P E L.n bytes)
  (hs : a.eval s = v) (hg : Grow L E w wr v xs) (c3 : Chg [] wr w3)
  {ad : Option Addr} {m c : Nat} (hx : a.eval x = .slice ad m c) (hsl : L.sl w3 ad m c ys f)
  (h63 : xs.length + ys.length ≤ maxLen) (hbytes : (xs.length + ys.length) * bytes ≤ 140737488355328)
  (hk : ∀ v' w', Grow L E w w' v' (xs ++ ys) → wpList P ops Q rest (a.put o.dst v') w') : wpList P ops Q (o :: rest) a w3 :=
 wpList_plain hgd fun _ hK => L.wp_growS hL s x t hop ht K hs hg c3 hx hsl h63 hbytes fun v' w' h1 => hK _ _ (hk v' w' h1)
end
theorem Grow.bytes {E : TypeId} {w wr : World} {v : Value} {xs : List UInt8} (h : Grow byteL E w wr v xs) : ∃ a c f, v = .slice a xs.length c ∧ byteL.sl wr a xs.length c xs f ∧ Fresh w.heap.size wr f ∧ Chg [] w wr := by
 obtain ⟨a, c, f, h1, h2, h3, h4⟩ := h.sl
 exact ⟨a, c, f, h1, h2, h3, h4⟩
end Go.Proofs.YtphmpimgbmedbaaGreat
/- Slices grown while other memory changes. No function of the program in sight. -/
namespace Go.Proofs.YtphmpimgbmedbaaGreat
open Go.RowKit
open Go.Lib (hid)
def cutW (w : World) (n : Nat) : World := { w with heap := w.heap.extract 0 n }
theorem cutW_size {w : World} {n : Nat} (h : n ≤ w.heap.size) : (cutW w n).heap.size = n := by simp [cutW]; omega
theorem cutW_at {w : World} {n k : Nat} (h : k < n) : (cutW w n).heap[k]? = w.heap[k]? := by
 unfold cutW
 simp only [Array.getElem?_extract]
 by_cases hk : k < w.heap.size
 ·rw [if_pos (by omega)]; simp
 ·rw [if_neg (by omega), Array.getElem?_eq_none (by omega)]
theorem cutW_chg {w : World} {n : Nat} (h : n ≤ w.heap.size) : Chg [] (cutW w n) w := by
 refine ⟨rfl, rfl, rfl, by rw [cutW_size h]; exact h, fun k hk _ => ?_, fun k hk => ?_⟩
 ·rw [cutW_size h] at hk; exact (cutW_at hk).symm
 ·have hlt := hk.lt
  rw [cutW_size h] at hlt
  obtain ⟨cur, E, hb⟩ := hk
  exact ⟨cur, E, by rw [← cutW_at hlt]; exact hb⟩
def GrowC {α : Type} (L : Lay α) (E : TypeId) (n : Nat) (wr : World) (v : Value) (xs : List α) : Prop :=
 n ≤ wr.heap.size ∧ ∃ h fps, L.os E wr v xs h fps ∧ Fresh n wr (h.toList ++ fps)
section
variable {α : Type} {L : Lay α} {E : TypeId} {n : Nat} {w wr w' : World} {v : Value} {xs : List α}
theorem GrowC.to (h : GrowC L E n wr v xs) : Grow L E (cutW wr n) wr v xs := by
 obtain ⟨h0, hd, fps, h1, h2⟩ := h
 exact ⟨hd, fps, h1, by rw [cutW_size h0]; exact h2, cutW_chg h0⟩
theorem GrowC.of (h : Grow L E w wr v xs) : GrowC L E w.heap.size wr v xs := by
 obtain ⟨hd, fps, h1, h2, h3⟩ := h
 exact ⟨h3.size, hd, fps, h1, h2⟩
theorem GrowC.of' (h : Grow L E w wr v xs) (hn : n = w.heap.size) : GrowC L E n wr v xs := by subst hn; exact GrowC.of h
theorem GrowC.chg {S : List Nat} (h : GrowC L E n wr v xs) (hc : Chg S wr w') (hS : ∀ x ∈ S, x < n) : GrowC L E n w' v xs := by
 obtain ⟨h0, hd, fps, h1, h2⟩ := h
 refine ⟨Nat.le_trans h0 hc.size, hd, fps, L.os_chg h1 hc (fun g hg hm => ?_) (fun b hb hm => ?_), h2.chg hc⟩
 ·have := (h2.2 g (List.mem_append.2 (.inl (by simp [hg])))).1; have := hS g hm; omega
 ·have := (h2.2 b (List.mem_append.2 (.inr hb))).1; have := hS b hm; omega
theorem GrowC.ext (h : GrowC L E n wr v xs) (hc : Chg [] wr w') : GrowC L E n w' v xs := h.chg hc (by simp)
theorem GrowC.next {ys : List α} {v' : Value} {S : List Nat} {w0 : World} (hn : n ≤ wr.heap.size) (h : Grow L E (cutW wr n) w' v' ys) (hc : Chg S w0 wr) (h0 : w0.heap.size ≤ n) : GrowC L E n w' v' ys ∧ Chg S w0 w' := by
 refine ⟨GrowC.of' h (cutW_size hn).symm, ?_⟩
 have h1 := h.chg
 refine ⟨h1.os.trans hc.os, h1.tape.trans hc.tape, h1.output.trans hc.output, ?_, fun k hk hS => ?_, fun k hk => ?_⟩
 ·have := h1.size; rw [cutW_size hn] at this; omega
 ·rw [h1.block k (by rw [cutW_size hn]; omega) (by simp), cutW_at (by omega), hc.block k hk hS]
 ·have hlt := hk.lt
  have h2 := hc.loose k hk
  refine h1.loose k ?_
  obtain ⟨cur, T, hb⟩ := h2
  exact ⟨cur, T, by rw [cutW_at (by omega)]; exact hb⟩
theorem GrowC.low {ys : List α} {v' : Value} (hn : n ≤ wr.heap.size) (h : Grow L E (cutW wr n) w' v' ys) : ∀ k, k < n → w'.heap[k]? = wr.heap[k]? := fun k hk => by
 rw [h.chg.block k (by rw [cutW_size hn]; exact hk) (by simp), cutW_at hk]
theorem GrowC.sl (h : GrowC L E n wr v xs) : ∃ a cap fp, v = .slice a xs.length cap ∧ L.sl wr a xs.length cap xs fp ∧ Fresh n wr fp := by
 obtain ⟨h0, hd, fps, h1, h2⟩ := h
 obtain ⟨a, cap, rfl, hs⟩ := L.os_sl h1
 exact ⟨a, cap, _, rfl, hs, h2⟩
theorem GrowC.made (h : n ≤ wr.heap.size) : GrowC L E n (wr.alloc (.cells #[] E)) (.slice (some ⟨wr.heap.size, 0, none⟩) 0 0) [] :=
 ⟨by simp; omega, some wr.heap.size, [], Lay.os_made _ _ _ _ _ (by simp [maxLen]) (by simp), ⟨by simp, fun b hb => by simp at hb; subst hb; exact ⟨h, _, _, new_alloc wr _⟩⟩⟩
theorem GrowC.nil (h : n ≤ wr.heap.size) : GrowC L E n wr (.slice none 0 0) [] := ⟨h, none, [], Lay.os_nil _ _ _, Fresh.nil _ _⟩
end
structure Up (n : Nat) (w w' : World) : Prop where
 os : w'.os = w.os
 tape : w'.tape = w.tape
 output : w'.output = w.output
 size : w.heap.size ≤ w'.heap.size
 low : ∀ k, k < n → w'.heap[k]? = w.heap[k]?
 loose : ∀ k, Loose w k → Loose w' k
theorem Up.chg {n : Nat} {S : List Nat} {w0 w w' : World} (h : Up n w w') (hc : Chg S w0 w) (h0 : w0.heap.size ≤ n) : Chg S w0 w' :=
 ⟨h.os.trans hc.os, h.tape.trans hc.tape, h.output.trans hc.output, Nat.le_trans hc.size h.size, fun k hk hS => by rw [h.low k (by omega), hc.block k hk hS], fun k hk => h.loose k (hc.loose k hk)⟩
theorem Up.of {n : Nat} {S : List Nat} {w w' : World} (hc : Chg S w w') (hS : ∀ x ∈ S, n ≤ x) (hn : n ≤ w.heap.size) : Up n w w' :=
 ⟨hc.os, hc.tape, hc.output, hc.size, fun k hk => hc.block k (by omega) (fun hm => by have := hS k hm; omega), hc.loose⟩
def GrowB {α : Type} (L : Lay α) (E : TypeId) (n B : Nat) (wr : World) (v : Value) (xs : List α) : Prop :=
 n ≤ B ∧ B ≤ wr.heap.size ∧ ∃ h fps, L.os E wr v xs h fps ∧ Fresh n wr (h.toList ++ fps) ∧ ∀ b ∈ h.toList ++ fps, b < B
section
variable {α : Type} {L : Lay α} {E : TypeId} {n B : Nat} {w wr w' : World} {v : Value} {xs : List α}
theorem GrowC.b (h : GrowC L E n wr v xs) : GrowB L E n wr.heap.size wr v xs := by
 obtain ⟨h0, hd, fps, h1, h2⟩ := h
 exact ⟨h0, Nat.le_refl _, hd, fps, h1, h2, h2.lts⟩
theorem GrowB.chg {S : List Nat} (h : GrowB L E n B wr v xs) (hc : Chg S wr w') (hS : ∀ x ∈ S, x < n) : GrowB L E n B w' v xs := by
 obtain ⟨h0, h9, hd, fps, h1, h2, h3⟩ := h
 refine ⟨h0, Nat.le_trans h9 hc.size, hd, fps, L.os_chg h1 hc (fun g hg hm => ?_) (fun b hb hm => ?_), h2.chg hc, h3⟩
 ·have := (h2.2 g (List.mem_append.2 (.inl (by simp [hg])))).1; have := hS g hm; omega
 ·have := (h2.2 b (List.mem_append.2 (.inr hb))).1; have := hS b hm; omega
theorem GrowB.ext (h : GrowB L E n B wr v xs) (hc : Chg [] wr w') : GrowB L E n B w' v xs := h.chg hc (by simp)
theorem GrowB.run {P : Program} {bytes : Nat} {ys : List α} {f : List Nat} (t ty : TypeId) (ht : P.underlying t = some (.slice E)) (K : Kind P E L.n bytes) (hg : GrowB L E n B w v xs)
  (ad : Addr) (c : Nat) (news : List Value) (hnews : ∀ j u, news[j]? = some u → w.cell? (ad.add j) = some u) (hall : L.all w news ys f) (ff : Fresh B w f)
  (h63 : xs.length + ys.length ≤ maxLen) (hbytes : (xs.length + ys.length) * bytes ≤ 140737488355328) :
  ∃ v' w', (Builtin.append_ #[t, t] ty #[v, .slice (some ad) ys.length c]).run P w = .ok v' w' ∧ GrowC L E n w' v' (xs ++ ys) ∧ Up n w w' := by
 obtain ⟨h0, h9, hd, fps, h1, h2, h3⟩ := hg
 have hlt := L.os_lt h1
 obtain ⟨v', w', h', hr, ho', hh', hc', hl⟩ := L.run_append (P := P) t ty ht K h1 ad c news hnews hall (fun g hg hf => by have a1 := h3 g (by simp [hg]); have a2 := (ff.2 g hf).1; omega) h63 hbytes
 have hle : Up n w w' := Up.of hc' (fun x hx => (h2.2 x (List.mem_append.2 (.inl hx))).1) (by omega)
 refine ⟨v', w', hr, ⟨Nat.le_trans (Nat.le_trans h0 h9) hle.size, h', fps ++ f, ho', ?_⟩, hle⟩
 have f2 := h2.chg hc'
 have g2 := ff.chg hc'
 have nd := List.nodup_append.1 h2.1
 have dj : ∀ a ∈ hd.toList ++ fps, ∀ b ∈ f, a ≠ b := fun a ha b hb e => by have a1 := h3 a ha; have a2 := (ff.2 b hb).1; omega
 have hlo := L.os_loose ho'
 rcases hh' with rfl | rfl
 ·rw [← List.append_assoc]
  exact ⟨List.nodup_append.2 ⟨h2.1, ff.1, dj⟩, fun b hb => by
   rcases List.mem_append.1 hb with hb | hb
   ·exact f2.2 b hb
   ·exact ⟨Nat.le_trans h0 (g2.2 b hb).1, (g2.2 b hb).2⟩⟩
 ·refine ⟨?_, fun b hb => ?_⟩
  ·rw [Option.toList_some, List.singleton_append, List.nodup_cons]
   refine ⟨fun hb => ?_, List.nodup_append.2 ⟨nd.2.1, ff.1, fun a ha b hb => dj a (List.mem_append.2 (.inr ha)) b hb⟩⟩
   rcases List.mem_append.1 hb with hb | hb
   ·have := h3 _ (List.mem_append.2 (.inr hb)); omega
   ·have := ff.lts _ hb; omega
  ·rw [Option.toList_some, List.singleton_append, List.mem_cons] at hb
   rcases hb with rfl | hb
   ·exact ⟨by omega, hlo _ rfl⟩
   ·rcases List.mem_append.1 hb with hb | hb
    ·exact f2.2 b (List.mem_append.2 (.inr hb))
    ·exact ⟨Nat.le_trans h0 (g2.2 b hb).1, (g2.2 b hb).2⟩
theorem GrowB.wp {P : Program} {bytes : Nat} {ys : List α} {f : List Nat} {o : Oper} {a : Act} {Kc : Act → World → Prop} {Q : Exit → Act → World → Prop} (s x : Operand) (t : TypeId)
  (hop : o.op = .call { callee := .builtin .append, args := #[s, x], argTypes := #[t, t] }) (ht : P.underlying t = some (.slice E)) (K : Kind P E L.n bytes)
  (hs : a.eval s = v) (hg : GrowB L E n B w v xs)
  (ad : Addr) (m c : Nat) (news : List Value) (hx : a.eval x = .slice (some ad) m c) (hm : m = ys.length) (hnews : ∀ j u, news[j]? = some u → w.cell? (ad.add j) = some u) (hall : L.all w news ys f) (ff : Fresh B w f)
  (h63 : xs.length + ys.length ≤ maxLen) (hbytes : (xs.length + ys.length) * bytes ≤ 140737488355328)
  (hk : ∀ v' w', GrowC L E n w' v' (xs ++ ys) → Up n w w' → Kc (a.put o.dst v') w') : o.wp P a w Kc Q := by
 subst hm
 obtain ⟨v', w', hr, h2, h3⟩ := hg.run (P := P) t o.type ht K ad c news hnews hall ff h63 hbytes
 unfold Oper.wp execOp
 simp only [hop, resolve, invoke, builtin, Sem.run_bind, Sem.run_pure, Result.andThen_ok, List.map_toArray, List.map_cons, List.map_nil, hs, hx, hr]
 exact hk v' w' h2 h3
theorem GrowB.wpList {P : Program} {bytes : Nat} {ys : List α} {f : List Nat} {ops : Array Oper} {rest : List Oper} {o : Oper} {a : Act} {Q : Exit → Act → World → Prop} (hgd : o.guard = none) (s x : Operand) (t : TypeId)
  (hop : o.op = .call { callee := .builtin .append, args := #[s, x], argTypes := #[t, t] }) (ht : P.underlying t = some (.slice E)) (K : Kind P E L.n bytes)
  (hs : a.eval s = v) (hg : GrowB L E n B w v xs)
  (ad : Addr) (m c : Nat) (news : List Value) (hx : a.eval x = .slice (some ad) m c) (hm : m = ys.length) (hnews : ∀ j u, news[j]? = some u → w.cell? (ad.add j) = some u) (hall : L.all w news ys f) (ff : Fresh B w f)
  (h63 : xs.length + ys.length ≤ maxLen) (hbytes : (xs.length + ys.length) * bytes ≤ 140737488355328)
  (hk : ∀ v' w', GrowC L E n w' v' (xs ++ ys) → Up n w w' → wpList P ops Q rest (a.put o.dst v') w') : wpList P ops Q (o :: rest) a w :=
 wpList_plain hgd fun _ hK => hg.wp s x t hop ht K hs ad m c news hx hm hnews hall ff h63 hbytes fun v' w' h1 h2 => hK _ _ (hk v' w' h1 h2)
theorem GrowB.step {P : Program} {bytes : Nat} {ys : List α} {f : List Nat} {ops : Array Oper} {o : Oper} {a : Act} {Kc : Act → World → Prop} {Q : Exit → Act → World → Prop} {R : Prop} (hgd : o.guard = none) (s x : Operand) (t : TypeId)
  (hop : o.op = .call { callee := .builtin .append, args := #[s, x], argTypes := #[t, t] }) (ht : P.underlying t = some (.slice E)) (K : Kind P E L.n bytes)
  (hs : a.eval s = v) (hg : GrowB L E n B w v xs)
  (ad : Addr) (m c : Nat) (news : List Value) (hx : a.eval x = .slice (some ad) m c) (hm : m = ys.length) (hnews : ∀ j u, news[j]? = some u → w.cell? (ad.add j) = some u) (hall : L.all w news ys f) (ff : Fresh B w f)
  (h63 : xs.length + ys.length ≤ maxLen) (hbytes : (xs.length + ys.length) * bytes ≤ 140737488355328)
  (hk : ∀ v' w', GrowC L E n w' v' (xs ++ ys) → Up n w w' → Kc (a.put o.dst v') w') :
  if Region.wanted o (yielded ops a.tmps) = true then Oper.wp P o a w Kc Q else R := by
 have hw : Region.wanted o (yielded ops a.tmps) = true := by simp [Region.wanted, hgd]
 rw [if_pos hw]
 exact hg.wp s x t hop ht K hs ad m c news hx hm hnews hall ff h63 hbytes hk
end
end Go.Proofs.YtphmpimgbmedbaaGreat
/- A row of data in one block of its own, element by element; no element points into the block. No function of the program in sight. -/
namespace Go.Proofs.YtphmpimgbmedbaaGreat
open Go.RowKit
open Go.Lib (hid)
def RowAt {α : Type} (L : Lay α) (w : World) (b off : Nat) (ps : List (α × List Nat)) : Prop :=
 ∃ cur E, w.heap[b]? = some (.cells cur E (0, 0)) ∧ (0 < ps.length → off + ps.length * L.n ≤ cur.size) ∧ ∀ (i : Nat) p, ps[i]? = some p → L.rep w ((cur.toList.drop (off + i * L.n)).take L.n) p.1 p.2 ∧ b ∉ p.2
section
variable {α : Type} {L : Lay α} {w w' : World} {b off : Nat} {ps : List (α × List Nat)}
theorem RowAt.lt (h : RowAt L w b off ps) : b < w.heap.size := by obtain ⟨cur, E, h1, _⟩ := h; exact ltOf h1
theorem RowAt.loose (h : RowAt L w b off ps) : Loose w b := by obtain ⟨cur, E, h1, _⟩ := h; exact ⟨_, _, h1⟩
theorem RowAt.keep (h : RowAt L w b off ps) (hb : w'.heap[b]? = w.heap[b]?) (hk : ∀ p ∈ ps, ∀ y ∈ p.2, w'.heap[y]? = w.heap[y]?) : RowAt L w' b off ps := by
 obtain ⟨cur, E, h1, h2, h3⟩ := h
 exact ⟨cur, E, hb.trans h1, h2, fun i p hp => ⟨L.keep (h3 i p hp).1 (hk p (List.mem_of_getElem? hp)), (h3 i p hp).2⟩⟩
theorem RowAt.fp_lt (h : RowAt L w b off ps) {p : α × List Nat} (hp : p ∈ ps) : ∀ y ∈ p.2, y < w.heap.size := by
 obtain ⟨cur, E, h1, h2, h3⟩ := h
 obtain ⟨i, hi, e⟩ := List.getElem_of_mem hp
 exact L.lt (h3 i p (by rw [List.getElem?_eq_getElem hi, e])).1
theorem RowAt.chg {S : List Nat} (h : RowAt L w b off ps) (hc : Chg S w w') (hb : b ∉ S) (hS : ∀ p ∈ ps, ∀ y ∈ p.2, y ∉ S) : RowAt L w' b off ps :=
 h.keep (hc.block b h.lt hb) (fun p hp y hy => hc.block y (h.fp_lt hp y hy) (hS p hp y hy))
theorem RowAt.ext (h : RowAt L w b off ps) (hc : Chg [] w w') : RowAt L w' b off ps := h.chg hc (by simp) (by simp)
theorem RowAt.at (h : RowAt L w b off ps) {i : Nat} (hi : i < ps.length) : ∃ p c, ps[i]? = some p ∧ L.rep w c p.1 p.2 ∧ b ∉ p.2 ∧ ∀ j, j < L.n → w.cell? ⟨b, off + i * L.n + j, none⟩ = c[j]? := by
 obtain ⟨cur, E, h1, h2, h3⟩ := h
 have hp : ps[i]? = some ps[i] := List.getElem?_eq_getElem hi
 refine ⟨_, _, hp, (h3 i _ hp).1, (h3 i _ hp).2, fun j hj => ?_⟩
 rw [cellsOf h1, List.getElem?_take_of_lt hj, List.getElem?_drop]
 simp
theorem RowAt.free (h : RowAt L w b off ps) : ∀ j, w.frozen? ⟨b, j, none⟩ = false := by obtain ⟨cur, E, h1, _⟩ := h; exact freeOf h1
theorem RowAt.put (h : RowAt L w b off ps) {i : Nat} (hi : i < ps.length) {x : α} {c : List Value} {f : List Nat} (hr : L.rep w c x f) (hb : b ∉ f) : RowAt L (w.setCells b (off + i * L.n) c) b off (ps.set i (x, f)) := by
 obtain ⟨cur, E, h1, h2, h3⟩ := h
 have hcl := L.len hr
 have hle : (i + 1) * L.n ≤ ps.length * L.n := Nat.mul_le_mul_right _ (by omega)
 rw [Nat.add_mul, Nat.one_mul] at hle
 have hsz : off + i * L.n + c.length ≤ cur.size := by have := h2 (by omega); omega
 have htl := setRow_toList c (off + i * L.n) cur hsz
 have hct : cur.toList.length = cur.size := by simp
 refine ⟨_, E, setCells_heap c _ w cur h1, ?_, fun j p hp => ?_⟩
 ·rw [List.length_set]
  have : (setRow cur (off + i * L.n) c).size = cur.size := by
   have h5 := congrArg List.length htl
   rw [Array.length_toList] at h5
   rw [h5, List.length_append, List.length_append, List.length_take, List.length_drop]
   omega
  rw [this]; exact h2
 ·have hfar : ∀ y, y ≠ b → (w.setCells b (off + i * L.n) c).heap[y]? = w.heap[y]? := fun y hy => setCells_far hy c _ w
  by_cases e : i = j
  ·subst e
   rw [List.getElem?_set_self hi] at hp
   obtain rfl := Option.some.inj hp
   refine ⟨?_, hb⟩
   have e2 : ((setRow cur (off + i * L.n) c).toList.drop (off + i * L.n)).take L.n = c := by
    rw [htl, List.drop_append_of_le_length (by rw [List.length_take]; omega), List.drop_take, Nat.sub_self, List.take_zero, List.nil_append, List.take_append_of_le_length (by omega), List.take_of_length_le (by omega)]
   rw [e2]
   exact L.keep hr (fun y hy => hfar y (fun e => hb (e ▸ hy)))
  ·rw [List.getElem?_set_ne e] at hp
   obtain ⟨h4, h5⟩ := h3 j p hp
   refine ⟨?_, h5⟩
   have hj := (List.getElem?_eq_some_iff.1 hp).1
   have hjle : (j + 1) * L.n ≤ ps.length * L.n := Nat.mul_le_mul_right _ (by omega)
   rw [Nat.add_mul, Nat.one_mul] at hjle
   have e2 : ((setRow cur (off + i * L.n) c).toList.drop (off + j * L.n)).take L.n = (cur.toList.drop (off + j * L.n)).take L.n := by
    apply List.ext_getElem?
    intro k
    by_cases hk : k < L.n
    ·rw [List.getElem?_take_of_lt hk, List.getElem?_take_of_lt hk, List.getElem?_drop, List.getElem?_drop, htl]
     rcases Nat.lt_or_gt_of_ne e with hij | hij
     ·have : (i + 1) * L.n ≤ j * L.n := Nat.mul_le_mul_right _ hij
      rw [Nat.add_mul, Nat.one_mul] at this
      rw [List.getElem?_append_right (by rw [List.length_take]; omega), List.length_take, List.getElem?_append_right (by omega), List.getElem?_drop]
      congr 1
      omega
     ·have : (j + 1) * L.n ≤ i * L.n := Nat.mul_le_mul_right _ hij
      rw [Nat.add_mul, Nat.one_mul] at this
      rw [List.getElem?_append_left (by rw [List.length_take]; omega), List.getElem?_take_of_lt (by omega)]
    ·rw [List.getElem?_eq_none (by rw [List.length_take]; omega), List.getElem?_eq_none (by rw [List.length_take]; omega)]
   rw [e2]
   exact L.keep h4 (fun y hy => hfar y (fun e => h5 (e ▸ hy)))
theorem RowAt.take (h : RowAt L w b off ps) (n : Nat) : RowAt L w b off (ps.take n) := by
 obtain ⟨cur, E, h1, h2, h3⟩ := h
 have hle : (ps.take n).length * L.n ≤ ps.length * L.n := Nat.mul_le_mul_right _ (by rw [List.length_take]; omega)
 refine ⟨cur, E, h1, fun h0 => by have := h2 (by rw [List.length_take] at h0; omega); omega, fun i p hp => h3 i p ?_⟩
 have hi : i < n := by have := (List.getElem?_eq_some_iff.1 hp).1; rw [List.length_take] at this; omega
 rwa [List.getElem?_take_of_lt hi] at hp
end
theorem row_all {α : Type} {L : Lay α} {w : World} : ∀ {ps : List (α × List Nat)} {cs : List Value}, cs.length = ps.length * L.n → (∀ (i : Nat) p, ps[i]? = some p → L.rep w ((cs.drop (i * L.n)).take L.n) p.1 p.2) → L.all w cs (ps.map (·.1)) (ps.flatMap (·.2)) := by
 intro ps
 induction ps with
 | nil => intro cs hl _; exact ⟨List.eq_nil_of_length_eq_zero (by simpa using hl), rfl⟩
 | cons p ps ih =>
  intro cs hl h
  rw [List.length_cons, Nat.add_mul, Nat.one_mul] at hl
  refine ⟨cs.take L.n, cs.drop L.n, p.2, ps.flatMap (·.2), (List.take_append_drop _ _).symm, by simp, ?_, ih (by rw [List.length_drop]; omega) (fun i q hq => ?_)⟩
  ·have := h 0 p rfl
   simpa using this
  ·have := h (i + 1) q (by simpa using hq)
   rw [List.drop_drop]
   rw [Nat.add_mul, Nat.one_mul, Nat.add_comm] at this
   exact this
theorem all_row {α : Type} {L : Lay α} {w : World} : ∀ {xs : List α} {cs : List Value} {fps : List Nat}, L.all w cs xs fps → ∃ ps : List (α × List Nat), ps.map (·.1) = xs ∧ ps.flatMap (·.2) = fps ∧ ∀ (i : Nat) p, ps[i]? = some p → L.rep w ((cs.drop (i * L.n)).take L.n) p.1 p.2 := by
 intro xs
 induction xs with
 | nil => intro cs fps h; exact ⟨[], rfl, h.2.symm, fun i p hp => by simp at hp⟩
 | cons x xs ih =>
  intro cs fps h
  obtain ⟨c1, c2, f1, f2, rfl, rfl, h1, h2⟩ := h
  obtain ⟨ps, e1, e2, e3⟩ := ih h2
  have hl := L.len h1
  refine ⟨(x, f1) :: ps, by simp [e1], by simp [e2], fun i p hp => ?_⟩
  cases i with
  | zero =>
   simp at hp
   subst hp
   rw [Nat.zero_mul, List.drop_zero, ← hl, List.take_left]
   exact h1
  | succ i =>
   have := e3 i p (by simpa using hp)
   rw [Nat.add_mul, Nat.one_mul, Nat.add_comm, ← List.drop_drop, ← hl, List.drop_left, hl]
   exact this
section
variable {α : Type} {L : Lay α} {w w' : World} {b off len cap : Nat} {xs : List α} {ps : List (α × List Nat)} {fp : List Nat}
theorem RowAt.sl (h : RowAt L w b off ps) (hl : len = ps.length) (hc : len ≤ cap) (hm : cap ≤ maxLen) : L.sl w (some ⟨b, off, none⟩) len cap (ps.map (·.1)) (b :: ps.flatMap (·.2)) := by
 obtain ⟨cur, E, h1, h2, h3⟩ := h
 subst hl
 refine ⟨by simp, hc, hm, (fun h => by cases h), .inr ⟨b, off, cur, E, (0, 0), _, rfl, h1, row_all ?_ (fun i p hp => ?_), rfl⟩⟩
 ·have hct : cur.toList.length = cur.size := by simp
  rw [List.length_take, List.length_drop, hct]
  rcases Nat.eq_zero_or_pos ps.length with h0 | h0
  ·rw [h0, Nat.zero_mul]; omega
  ·have := h2 h0; omega
 ·have hi := (List.getElem?_eq_some_iff.1 hp).1
  have hle : (i + 1) * L.n ≤ ps.length * L.n := Nat.mul_le_mul_right _ (by omega)
  rw [Nat.add_mul, Nat.one_mul] at hle
  have e : (((cur.toList.drop off).take (ps.length * L.n)).drop (i * L.n)).take L.n = (cur.toList.drop (off + i * L.n)).take L.n := by
   rw [List.drop_take, List.take_take, List.drop_drop, Nat.min_eq_left (by omega)]
  rw [e]
  exact (h3 i p hp).1
theorem Lay.sl_row (h : L.sl w (some ⟨b, off, none⟩) len cap xs fp) (hlo : Loose w b) (hn : ∃ fps, fp = b :: fps ∧ b ∉ fps) : ∃ ps, RowAt L w b off ps ∧ ps.map (·.1) = xs ∧ fp = b :: ps.flatMap (·.2) := by
 obtain ⟨fps0, hfp, hb⟩ := hn
 obtain ⟨h1, h2, h3, h4, ⟨rfl, rfl⟩ | ⟨b', off', cur, E, fr, fps, ha, hb', hall, hfp'⟩⟩ := h
 ·cases hfp
 ·simp only [Option.some.injEq, Addr.mk.injEq, and_true] at ha
  obtain ⟨rfl, rfl⟩ := ha
  obtain rfl : fps = fps0 := by rw [hfp] at hfp'; exact (List.cons.inj hfp').2.symm
  obtain ⟨cur', E', hlo⟩ := hlo
  obtain ⟨rfl, rfl, rfl⟩ : cur' = cur ∧ E' = E ∧ fr = (0, 0) := by
   have := Option.some.inj (hlo.symm.trans hb'); injection this with e1 e2 e3; exact ⟨e1, e2, e3.symm⟩
  obtain ⟨ps, e1, e2, e3⟩ := all_row hall
  have hpl : ps.length = xs.length := by rw [← e1, List.length_map]
  have hal := L.all_len hall
  rw [List.length_take, List.length_drop, Array.length_toList] at hal
  refine ⟨ps, ⟨cur', E', hb', ?_, fun i p hp => ?_⟩, e1, by rw [hfp, e2]⟩
  ·rw [hpl]
   intro h0
   have : 0 < xs.length * L.n := Nat.mul_pos h0 L.pos
   rw [h1] at hal; omega
  ·have hi := (List.getElem?_eq_some_iff.1 hp).1
   have hle : (i + 1) * L.n ≤ len * L.n := Nat.mul_le_mul_right _ (by omega)
   rw [Nat.add_mul, Nat.one_mul] at hle
   have := e3 i p hp
   rw [List.drop_take, List.take_take, List.drop_drop, Nat.min_eq_left (by omega)] at this
   refine ⟨this, fun hm => hb ?_⟩
   rw [← e2]
   exact List.mem_flatMap.2 ⟨p, List.mem_of_getElem? hp, hm⟩
end
end Go.Proofs.YtphmpimgbmedbaaGreat
