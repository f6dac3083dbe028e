/- Several texts in one. -/
import Derived.Test.YtphmpimgbmedbaaGreatGak
import Derived.Test.YtphmpimgbmedbaaGreatGaa
import Derived.Test.YtphmpimgbmedbaaGreatGac
import Derived.Test.YtphmpimgbmedbaaGreatGae
import Derived.Test.YtphmpimgbmedbaaGreatGag
import Derived.Test.YtphmpimgbmedbaaGreatRows
import Derived.Test.YtphmpimgbmedbaaGreatGaf
import Derived.Test.YtphmpimgbmedbaaGreatGad
/- What is wrong with a world, in plain Lean. No function of the program in sight. -/
namespace Go.Proofs.YtphmpimgbmedbaaGreat
open Go.RowKit
open Go.Lib (hid)
def Blk.ok (b : Blk) : Prop := (0 ≤ b.stamp ∧ b.stamp ≤ 1000000000) ∧ b.bytes.length = 4
def Drv.okAt (s : Shp) (d : Drv) : Prop := (d.blocks.length : Int) = s.rows ∧ ∀ b ∈ d.blocks, b.ok
def GrpOk (s : Shp) (g : List Drv) : Prop := (g.length : Int) = s.drives ∧ ∀ d ∈ g, d.okAt s
def Wld.built (x : Wld) : Prop := (x.groups.length : Int) = x.shape.all ∧ ∀ g ∈ x.groups, GrpOk x.shape g
def Wld.onOk (x : Wld) : Prop := Apart (x.shape.all - 1) x.on ∧ (x.on.length : Int) ≤ x.shape.cap ∧ (x.on = [] ∨ x.down = false)
noncomputable def recsF (s : Shp) : List Rec → Int
 | [] => 0
 | r :: rs => if recV s r = 0 then recsF s rs else recV s r
noncomputable def tapsF (s : Shp) : List Tap → Int
 | [] => 0
 | t :: ts => if recsF s t.recs = 0 then tapsF s ts else recsF s t.recs
noncomputable def Wld.tapF (x : Wld) : Int :=
 if pb (∃ t ∈ x.tapes, 200 < t.recs.length) = true then 2 else if tapsF x.shape x.tapes = 0 then (if pb (∃ t ∈ x.tapes, t.wiped = true ∧ t.recs ≠ []) = true then 1 else 0) else tapsF x.shape x.tapes
def Wld.nums (x : Wld) : Prop := (0 ≤ x.writes ∧ x.writes ≤ 1000000000) ∧ (-1 ≤ x.stop ∧ x.stop ≤ 1000000000)
noncomputable def Wld.fault (x : Wld) : Int :=
 if pb x.shape.ok = true then
  if pb (x.built ∧ x.onOk ∧ x.tapes.length = 2) = true then
   if x.tapF = 0 then (if pb x.nums = true then 0 else 3) else x.tapF
  else 1
 else 3
theorem recsF_step {s : Shp} : ∀ {rs : List Rec} {k : Nat} {r : Rec}, (∀ (i : Nat) q, i < k → rs[i]? = some q → recV s q = 0) → rs[k]? = some r → recV s r ≠ 0 → recsF s rs = recV s r
 | [], k, r, _, h, _ => by simp at h
 | q :: qs, 0, r, _, h, hr => by simp at h; subst h; unfold recsF; rw [if_neg hr]
 | q :: qs, k + 1, r, h0, h, hr => by
  unfold recsF
  rw [if_pos (h0 0 q (by omega) rfl)]
  exact recsF_step (k := k) (fun i p hi hp => h0 (i + 1) p (by omega) hp) (by simpa using h) hr
theorem recsF_zero {s : Shp} : ∀ {rs : List Rec}, (∀ (i : Nat) q, rs[i]? = some q → recV s q = 0) → recsF s rs = 0
 | [], _ => rfl
 | q :: qs, h => by unfold recsF; rw [if_pos (h 0 q rfl)]; exact recsF_zero (fun i p hp => h (i + 1) p hp)
theorem tapsF_step {s : Shp} : ∀ {ts : List Tap} {k : Nat} {t : Tap}, (∀ (i : Nat) q, i < k → ts[i]? = some q → recsF s q.recs = 0) → ts[k]? = some t → recsF s t.recs ≠ 0 → tapsF s ts = recsF s t.recs
 | [], k, r, _, h, _ => by simp at h
 | q :: qs, 0, r, _, h, hr => by simp at h; subst h; unfold tapsF; rw [if_neg hr]
 | q :: qs, k + 1, r, h0, h, hr => by
  unfold tapsF
  rw [if_pos (h0 0 q (by omega) rfl)]
  exact tapsF_step (k := k) (fun i p hi hp => h0 (i + 1) p (by omega) hp) (by simpa using h) hr
theorem tapsF_zero {s : Shp} : ∀ {ts : List Tap}, (∀ (i : Nat) q, ts[i]? = some q → recsF s q.recs = 0) → tapsF s ts = 0
 | [], _ => rfl
 | q :: qs, h => by unfold tapsF; rw [if_pos (h 0 q rfl)]; exact tapsF_zero (fun i p hp => h (i + 1) p hp)
end Go.Proofs.YtphmpimgbmedbaaGreat
/- What the functions over a world hand back, in plain Lean. No function of the program in sight. -/
namespace Go.Proofs.YtphmpimgbmedbaaGreat
open Go.RowKit
open Go.Lib (hid)
noncomputable def Wld.up (x : Wld) : Int := if x.fault = 0 then (if x.down = true then 9 else 0) else x.fault
def Wld.cut (x : Wld) : Wld := { x with down := true, on := [] }
def Wld.tape (x : Wld) (t : Int) : Tap := x.tapes.getD t.toNat ⟨false, []⟩
/-! ### how much there is of it -/
end Go.Proofs.YtphmpimgbmedbaaGreat
/- The counted records, in plain Lean: each once, in their order. -/
namespace Go.Proofs.YtphmpimgbmedbaaGreat
open Go.RowKit
open Go.Lib (hid)
theorem recLt_ordr : Ordr recLt := by
 refine ⟨fun x => ?_, fun x y z h k => ?_, fun x y z h k => ?_⟩ <;> simp only [recLt, decide_eq_true_eq, decide_eq_false_iff_not] at * <;> omega
noncomputable def dedF : List Rec → List Rec → List Rec
 | acc, [] => acc
 | acc, r :: rs => dedF (if acc.any (fun y => sameV y r) then acc else acc ++ [r]) rs
noncomputable def dedS (acc : List Rec) (r : Rec) : List Rec := if acc.any (fun y => sameV y r) then acc else acc ++ [r]
theorem dedF_app : ∀ (rs qs acc : List Rec), dedF acc (rs ++ qs) = dedF (dedF acc rs) qs
 | [], _, _ => rfl
 | _ :: rs, qs, _ => dedF_app rs qs _
theorem dedF_next {acc : List Rec} {rs : List Rec} {k : Nat} {r : Rec} (h : rs[k]? = some r) : dedF acc (rs.take (k + 1)) = dedS (dedF acc (rs.take k)) r := by
 rw [take_next h, dedF_app]; rfl
theorem dedS_len (acc : List Rec) (r : Rec) : (dedS acc r).length ≤ acc.length + 1 := by
 unfold dedS; split
 ·omega
 ·simp
theorem dedF_len : ∀ (rs acc : List Rec), (dedF acc rs).length ≤ acc.length + rs.length
 | [], _ => Nat.le_refl _
 | r :: rs, acc => by
  have h1 := dedF_len rs (dedS acc r)
  have h2 := dedS_len acc r
  show (dedF (dedS acc r) rs).length ≤ _
  rw [List.length_cons]; omega
def insB (r : Rec) : List Rec → List Rec
 | [] => [r]
 | y :: ys => if recLt r y then r :: y :: ys else y :: insB r ys
theorem insB_form (r : Rec) : ∀ {out : List Rec}, Srt recLt out → ∃ k, insB r out = out.take k ++ (r :: out.drop k) ∧ (∀ x ∈ out.drop k, recLt r x = true) ∧ (∀ x ∈ out.take k, recLt r x = false)
 | [], _ => ⟨0, rfl, by simp, by simp⟩
 | y :: ys, hs => by
  unfold insB
  cases h : recLt r y
  ·obtain ⟨k, e, h1, h2⟩ := insB_form r (List.Pairwise.of_cons hs)
   refine ⟨k + 1, by simp [e], by simpa using h1, fun x hx => ?_⟩
   rw [List.take_succ_cons] at hx
   rcases List.mem_cons.1 hx with rfl | hx
   ·exact h
   ·exact h2 x hx
  ·refine ⟨0, by simp, fun x hx => ?_, by simp⟩
   rw [List.drop_zero] at hx
   rcases List.mem_cons.1 hx with rfl | hx
   ·exact h
   ·exact recLt_ordr.lt_le h (List.rel_of_pairwise_cons hs hx)
def isort (l : List Rec) : List Rec := l.foldl (fun o r => insB r o) []
theorem isort_ok (l : List Rec) : Srt recLt (isort l) ∧ Stab recLt l (isort l) := by
 unfold isort
 have h : ∀ (l o z : List Rec), Srt recLt o → Stab recLt z o → Srt recLt (l.foldl (fun o r => insB r o) o) ∧ Stab recLt (z ++ l) (l.foldl (fun o r => insB r o) o) := by
  intro l
  induction l with
  | nil => intro o z h1 h2; rw [List.append_nil]; exact ⟨h1, h2⟩
  | cons r rs ih =>
   intro o z h1 h2
   obtain ⟨k, e, k1, k2⟩ := insB_form r h1
   have h3 := ins_srt recLt_ordr h1 k1 k2
   have h4 := (h2.app (Stab.refl [r])).trans (ins_stab recLt_ordr k1)
   have h5 := ih (insB r o) (z ++ [r]) (by rw [e]; exact h3) (by rw [e]; exact h4)
   rw [List.append_assoc] at h5
   exact h5
 have := h l [] [] List.Pairwise.nil (Stab.refl _)
 simpa using this
noncomputable def cntL (ts : List Tap) : List Rec := isort (dedF [] (ts.flatMap (·.recs)))
theorem cnt_uniq {rs ys : List Rec} (h : Srt recLt ys) (k : Stab recLt (dedF [] rs) ys) : ys = isort (dedF [] rs) :=
 Stab.uniq recLt_ordr h (isort_ok _).1 k (isort_ok _).2
theorem filter_map' {α β : Type} (f : α → β) (p : β → Bool) : ∀ l : List α, (l.map f).filter p = (l.filter (fun a => p (f a))).map f
 | [] => rfl
 | a :: l => by
  rw [List.map_cons, List.filter_cons, List.filter_cons, filter_map' f p l]
  split <;> rfl
theorem srt_fst {qs : List RP} (h : Srt ltP qs) : Srt recLt (qs.map (·.1)) := List.pairwise_map.2 h
theorem stab_fst {ps qs : List RP} (h : Stab ltP ps qs) : Stab recLt (ps.map (·.1)) (qs.map (·.1)) := by
 refine ⟨by rw [List.length_map, List.length_map]; exact h.1, fun x => ?_⟩
 rw [filter_map', filter_map']
 have := h.2 (x, [])
 exact congrArg (List.map (·.1)) this
theorem any_mem {l1 l2 : List Rec} (p : Rec → Bool) (h : ∀ x, x ∈ l1 ↔ x ∈ l2) : l1.any p = l2.any p := by
 rw [Bool.eq_iff_iff, List.any_eq_true, List.any_eq_true]
 constructor <;> rintro ⟨x, h1, h2⟩
 ·exact ⟨x, (h x).1 h1, h2⟩
 ·exact ⟨x, (h x).2 h1, h2⟩
theorem cntL_len (ts : List Tap) : (cntL ts).length ≤ (ts.flatMap (·.recs)).length := by
 have h1 := (isort_ok (dedF [] (ts.flatMap (·.recs)))).2.1
 have h2 := dedF_len (ts.flatMap (·.recs)) []
 unfold cntL
 rw [h1]; simpa using h2
def Shr (n0 : Nat) (w : World) (v : Value) (xs : List Rec) : Prop := ∃ g fps, recL.os 67 w v xs (some g) fps ∧ n0 ≤ g ∧ ∀ y ∈ fps, y < n0
theorem Shr.ext {n0 : Nat} {w w' : World} {v : Value} {xs : List Rec} (h : Shr n0 w v xs) (hc : Chg [] w w') : Shr n0 w' v xs := by
 obtain ⟨g, fps, h1, h2, h3⟩ := h
 exact ⟨g, fps, recL.os_ext h1 hc, h2, h3⟩
theorem Shr.made {n0 : Nat} {w : World} (h : n0 ≤ w.heap.size) : Shr n0 (w.alloc (.cells #[] 67)) (.slice (some ⟨w.heap.size, 0, none⟩) 0 0) [] :=
 ⟨w.heap.size, [], recL.os_made 67 w #[] 0 (by simp [maxLen]) (by simp), h, by simp⟩
theorem Shr.sl {n0 : Nat} {w : World} {v : Value} {xs : List Rec} (h : Shr n0 w v xs) : ∃ g cap fps, v = .slice (some ⟨g, 0, none⟩) xs.length cap ∧ recL.sl w (some ⟨g, 0, none⟩) xs.length cap xs (g :: fps) ∧ Loose w g ∧ n0 ≤ g ∧ ∀ y ∈ fps, y < n0 := by
 obtain ⟨g, fps, h1, h2, h3⟩ := h
 have hlo := recL.os_loose h1 g rfl
 obtain ⟨a, cap, rfl, hs⟩ := recL.os_sl h1
 rcases h1 with ⟨e, -, e2, -⟩ | ⟨g', cap', cur, e, e2, hrest⟩
 ·cases e2
 ·obtain rfl : g = g' := Option.some.inj e2
  cases e
  exact ⟨g, cap, fps, rfl, hs, hlo, h2, h3⟩
theorem Shr.row {n0 : Nat} {w : World} {v : Value} {xs : List Rec} (h : Shr n0 w v xs) : ∃ g cap ps, v = .slice (some ⟨g, 0, none⟩) xs.length cap ∧ RowAt recL w g 0 ps ∧ ps.map (·.1) = xs ∧ n0 ≤ g ∧ xs.length ≤ cap ∧ cap ≤ maxLen ∧ ∀ p ∈ ps, ∀ y ∈ p.2, y < n0 := by
 obtain ⟨g, cap, fps, rfl, hs, hlo, h2, h3⟩ := h.sl
 have hc := hs.2.1; have hm := hs.2.2.1
 obtain ⟨ps, hr, e1, e2⟩ := Lay.sl_row hs hlo ⟨fps, rfl, fun hm => by have := h3 g hm; omega⟩
 refine ⟨g, cap, ps, rfl, hr, e1, h2, hc, hm, fun p hp y hy => h3 y ?_⟩
 rw [(List.cons.inj e2).2]
 exact List.mem_flatMap.2 ⟨p, hp, hy⟩
end Go.Proofs.YtphmpimgbmedbaaGreat
/- How counted records are compared: cmp.Compare, cmp.Or, the closure of counted; l6Ahead. -/
namespace Go.Proofs.YtphmpimgbmedbaaGreat
open Go.RowKit
open Go.Lib (hid)
def sgn (x y : Int) : Int := if x < y then -1 else if y < x then 1 else 0
set_option maxHeartbeats 400000 in
theorem isNaN_any (x : Int) (w : World) : Calls Tryz.prog 238 #[.int .i64 x] w fun e w' => e = .returned (.bool false) ∧ w = w' := by
 have h : ((x : Int) != x) = false := by simp
 go_enter Tryz.func238, Tryz.ntmps238
 go_wp2
 go_ret
 exact ⟨rfl, rfl⟩
set_option maxHeartbeats 1000000 in
theorem compare_any (x y : Int) (w : World) : Calls Tryz.prog 172 #[.int .i64 x, .int .i64 y] w fun e w' => e = .returned (.int .i64 (sgn x y)) ∧ w = w' := by
 have N1 := hid (isNaN_any x w); have N2 := hid (isNaN_any y w)
 by_cases h1 : x < y
 ·have HR := hid (show sgn x y = -1 from if_pos h1)
  go_enter Tryz.func172, Tryz.ntmps172
  go_wp2_with fail
  refine N1.out.mono ?_; rintro e w' ⟨rfl, rfl⟩
  go_wp2_with fail
  refine N2.out.mono ?_; rintro e w' ⟨rfl, rfl⟩
  go_wp2_with fail
  go_ret
  exact ⟨ret_int HR.out.symm, rfl⟩
 ·by_cases h2 : y < x
  ·have HR := hid (show sgn x y = 1 by unfold sgn; rw [if_neg h1, if_pos h2])
   go_enter Tryz.func172, Tryz.ntmps172
   go_wp2_with fail
   refine N1.out.mono ?_; rintro e w' ⟨rfl, rfl⟩
   go_wp2_with fail
   refine N2.out.mono ?_; rintro e w' ⟨rfl, rfl⟩
   go_wp2_with fail
   go_ret
   exact ⟨ret_int HR.out.symm, rfl⟩
  ·have HR := hid (show sgn x y = 0 by unfold sgn; rw [if_neg h1, if_neg h2])
   go_enter Tryz.func172, Tryz.ntmps172
   go_wp2_with fail
   refine N1.out.mono ?_; rintro e w' ⟨rfl, rfl⟩
   go_wp2_with fail
   refine N2.out.mono ?_; rintro e w' ⟨rfl, rfl⟩
   go_wp2_with fail
   go_ret
   exact ⟨ret_int HR.out.symm, rfl⟩
def orL : List Int → Int
 | [] => 0
 | x :: xs => if x ≠ 0 then x else orL xs
theorem orL_skip : ∀ {xs : List Int} {k : Nat}, (∀ y ∈ xs.take k, y = 0) → orL xs = orL (xs.drop k)
 | _, 0, _ => rfl
 | [], k + 1, _ => rfl
 | x :: xs, k + 1, h => by
  have hx : x = 0 := h x (by simp)
  show (if x ≠ 0 then x else orL xs) = orL (xs.drop k)
  rw [if_neg (by simp [hx]), orL_skip (k := k) (fun y hy => h y (by rw [List.take_succ_cons]; exact List.mem_cons_of_mem _ hy))]
set_option maxHeartbeats 1000000 in
theorem or_any (a : Option Addr) (l c : Nat) (xs : List Int) (f : List Nat) (w : World) (ha : intL.sl w a l c xs f) : Calls Tryz.prog 171 #[.slice a l c] w fun e w' => e = .returned (.int .i64 (orL xs)) ∧ w = w' := by
 have hm := intL.sl_max ha
 have HL := hid ha.1
 have HA := hid ha
 clear ha
 go_enter Tryz.func171, Tryz.ntmps171
 go_wp2_with fail
 go_loop [8] (fun i => ∃ k : Nat, k ≤ l ∧ i = .int .i64 k ∧ Hid (∀ y ∈ xs.take k, y = 0)) (fun i => l - (intOf i).toNat)
 case atStart => exact ⟨0, by omega, rfl, by intro y hy; simp at hy⟩
 case round =>
  obtain ⟨k, hk, rfl, HK⟩ := hrel
  by_cases hlt : k < l
  ·obtain ⟨y, b, off, HX, rfl, hcx, hok⟩ := int_at HA.out hlt
   by_cases h : y = 0
   ·have hne : (y != 0) = false := by simp [h]
    have HN := hid (show ∀ z ∈ xs.take (k + 1), z = 0 by
     intro z hz
     rw [take_next HX.out.1] at hz
     rcases List.mem_append.1 hz with h1 | h1
     ·exact HK.out z h1
     ·rw [List.mem_singleton] at h1; rw [h1]; exact h)
    clear h
    go_wp2_with fail
    go_round
    case rel => exact ⟨k + 1, by omega, by go_num, HN⟩
    case measure => simp [intOf]; omega
   ·have hne : (y != 0) = true := by simp [h]
    have HR := hid (show orL xs = y by
     rw [orL_skip HK.out, List.drop_eq_getElem_cons (List.getElem?_eq_some_iff.1 HX.out.1).1]
     show (if xs[k] ≠ 0 then xs[k] else _) = y
     rw [(List.getElem?_eq_some_iff.1 HX.out.1).2, if_pos h])
    clear h
    go_wp2_with fail
    go_ret
    exact ⟨ret_int HR.out.symm, rfl⟩
  ·have HR := hid (show orL xs = 0 by rw [orL_skip HK.out, List.drop_eq_nil_of_le (by have := HL.out; omega)]; rfl)
   go_wp2_with fail
   go_ret
   exact ⟨ret_int HR.out.symm, rfl⟩
theorem or3_lt (x y : Rec) : decide (orL [sgn x.seq y.seq, sgn x.kind y.kind, sgn x.group y.group] < 0) = recLt x y := by
 unfold recLt
 apply decide_eq_decide.2
 have h : ∀ a b : Int, (sgn a b < 0 ↔ a < b) ∧ (sgn a b = 0 ↔ a = b) := fun a b => by
  unfold sgn
  by_cases q : a < b
  ·rw [if_pos q]; omega
  ·rw [if_neg q]
   by_cases q2 : b < a
   ·rw [if_pos q2]; omega
   ·rw [if_neg q2]; omega
 show (if sgn x.seq y.seq ≠ 0 then sgn x.seq y.seq else if sgn x.kind y.kind ≠ 0 then sgn x.kind y.kind else if sgn x.group y.group ≠ 0 then sgn x.group y.group else 0) < 0 ↔ _
 have h1 := h x.seq y.seq; have h2 := h x.kind y.kind; have h3 := h x.group y.group
 split
 ·omega
 ·split
  ·omega
  ·split <;> omega
theorem sgn_ok (x y : Int) : i64ok (sgn x y) := by
 unfold sgn
 by_cases q : x < y
 ·rw [if_pos q]; constructor <;> omega
 ·rw [if_neg q]
  by_cases q2 : y < x
  ·rw [if_pos q2]; constructor <;> omega
  ·rw [if_neg q2]; constructor <;> omega
theorem int3_sl (w : World) (E : TypeId) (x y z : Int) (hx : i64ok x) (hy : i64ok y) (hz : i64ok z) (bn : Nat) (hbn : bn = w.heap.size) : intL.sl (w.alloc (.cells #[.int .i64 x, .int .i64 y, .int .i64 z] E)) (some ⟨bn, 0, none⟩) 3 3 [x, y, z] [bn] := by
 subst hbn
 exact
 ⟨rfl, Nat.le_refl _, by simp [maxLen], (fun h => by cases h), .inr ⟨w.heap.size, 0, _, E, (0, 0), [], rfl, new_alloc w _, intL.all_append (xs := [x]) (ys := [y, z]) (c1 := [.int .i64 x]) (f1 := []) (f2 := []) (int_all1 hx) (intL.all_append (xs := [y]) (ys := [z]) (c1 := [.int .i64 y]) (f1 := []) (f2 := []) (int_all1 hy) (int_all1 hz)), rfl⟩⟩
set_option maxRecDepth 100000 in
set_option maxHeartbeats 2000000 in
theorem cmp_ok : CmpOK := by
 intro w cx cy x y fx fy hx hy
 obtain ⟨a6, l6, c6, f6, a7, l7, c7, f7, a8, l8, c8, f8, rfl, -⟩ := recL_iff.1 hx
 obtain ⟨b6, m6, d6, g6, b7, m7, d7, g7, b8, m8, d8, g8, rfl, -⟩ := recL_iff.1 hy
 have HOR := hid (or3_lt x y)
 have HS1 := hid (sgn_ok x.seq y.seq); have HS2 := hid (sgn_ok x.kind y.kind); have HS3 := hid (sgn_ok x.group y.group)
 have C1 := hid (compare_any x.seq y.seq); have C2 := hid (compare_any x.kind y.kind); have C3 := hid (compare_any x.group y.group)
 clear hx hy
 have G0 := hid ((((Chg.refl [] w).alloc (.cells #[.int .i64 x.kind, .int .i64 x.seq, .string x.name, .int .i64 x.length, .int .i64 x.group, .int .i64 x.row, .slice a6 l6 c6, .slice a7 l7 c7, .slice a8 l8 c8] 67)).alloc (.cells #[.int .i64 y.kind, .int .i64 y.seq, .string y.name, .int .i64 y.length, .int .i64 y.group, .int .i64 y.row, .slice b6 m6 d6, .slice b7 m7 d7, .slice b8 m8 d8] 67)).drew)
 have B0 := hid (keep_drew (keep_alloc (new_alloc w (.cells #[.int .i64 x.kind, .int .i64 x.seq, .string x.name, .int .i64 x.length, .int .i64 x.group, .int .i64 x.row, .slice a6 l6 c6, .slice a7 l7 c7, .slice a8 l8 c8] 67)) (.cells #[.int .i64 y.kind, .int .i64 y.seq, .string y.name, .int .i64 y.length, .int .i64 y.group, .int .i64 y.row, .slice b6 m6 d6, .slice b7 m7 d7, .slice b8 m8 d8] 67)))
 have B1 := hid (show ((w.alloc (.cells #[.int .i64 x.kind, .int .i64 x.seq, .string x.name, .int .i64 x.length, .int .i64 x.group, .int .i64 x.row, .slice a6 l6 c6, .slice a7 l7 c7, .slice a8 l8 c8] 67)).alloc (.cells #[.int .i64 y.kind, .int .i64 y.seq, .string y.name, .int .i64 y.length, .int .i64 y.group, .int .i64 y.row, .slice b6 m6 d6, .slice b7 m7 d7, .slice b8 m8 d8] 67)).drew.heap[w.heap.size + 1]? = some (.cells #[.int .i64 y.kind, .int .i64 y.seq, .string y.name, .int .i64 y.length, .int .i64 y.group, .int .i64 y.row, .slice b6 m6 d6, .slice b7 m7 d7, .slice b8 m8 d8] 67 (0, 0)) from keep_drew (new_at (by simp) _))
 go_enter Tryz.func170, Tryz.ntmps170
 go_wp2_with fail
 obtain ⟨SS1, HSI1, HSO1⟩ := rg_cond (fun w' => Know w.heap.size #[.int .i64 x.kind, .int .i64 x.seq, .string x.name, .int .i64 x.length, .int .i64 x.group, .int .i64 x.row, .slice a6 l6 c6, .slice a7 l7 c7, .slice a8 l8 c8] w' ∧ Know (w.heap.size + 1) #[.int .i64 y.kind, .int .i64 y.seq, .string y.name, .int .i64 y.length, .int .i64 y.group, .int .i64 y.row, .slice b6 m6 d6, .slice b7 m7 d7, .slice b8 m8 d8] w')
 have hS0 := HSI1.out _ ⟨(Know.of B0.out), (Know.of B1.out)⟩
 refine rg_start SS1 (by kernel_rfl) hS0 ?_
 refine rgT 0 hS0 ?_
 refine rgL 1 hS0 HSO1 ?_
 refine rgT 2 hS0 ?_
 refine rgL 3 hS0 HSO1 ?_
 refine rgT 5 hS0 ?_
 refine rgL 6 hS0 HSO1 ?_
 refine rgT 7 hS0 ?_
 refine rgL 8 hS0 HSO1 ?_
 refine rgT 10 hS0 ?_
 refine rgL 11 hS0 HSO1 ?_
 refine rgT 12 hS0 ?_
 refine rgL 13 hS0 HSO1 ?_
 refine rg_call 4 rfl (by kernel_rfl) (fun K hK => ?_)
 go_simp
 go_at_call 172
 refine (C1.out _).mono ?_; rintro e w' ⟨rfl, rfl⟩
 go_wp2_with fail
 refine hK.out _ _ (HSI1.out _ ⟨(Know.of B0.out), (Know.of B1.out)⟩) (fun hS1 => ?_)
 clear hK K
 try simp only [Act.put, List.setIfInBounds_toArray, List.set_cons_zero, List.set_cons_succ]
 refine rg_call 9 rfl (by kernel_rfl) (fun K hK => ?_)
 go_simp
 go_at_call 172
 refine (C2.out _).mono ?_; rintro e w' ⟨rfl, rfl⟩
 go_wp2_with fail
 refine hK.out _ _ (HSI1.out _ ⟨(Know.of B0.out), (Know.of B1.out)⟩) (fun hS2 => ?_)
 clear hK K
 try simp only [Act.put, List.setIfInBounds_toArray, List.set_cons_zero, List.set_cons_succ]
 refine rg_call 14 rfl (by kernel_rfl) (fun K hK => ?_)
 go_simp
 go_at_call 172
 refine (C3.out _).mono ?_; rintro e w' ⟨rfl, rfl⟩
 go_wp2_with fail
 refine hK.out _ _ (HSI1.out _ ⟨(Know.of B0.out), (Know.of B1.out)⟩) (fun hS3 => ?_)
 clear hK K
 try simp only [Act.put, List.setIfInBounds_toArray, List.set_cons_zero, List.set_cons_succ]
 refine rg_call 15 rfl (by kernel_rfl) (fun K hK => ?_)
 go_simp
 have H3 := hid (int3_sl ((w.alloc (.cells #[.int .i64 x.kind, .int .i64 x.seq, .string x.name, .int .i64 x.length, .int .i64 x.group, .int .i64 x.row, .slice a6 l6 c6, .slice a7 l7 c7, .slice a8 l8 c8] 67)).alloc (.cells #[.int .i64 y.kind, .int .i64 y.seq, .string y.name, .int .i64 y.length, .int .i64 y.group, .int .i64 y.row, .slice b6 m6 d6, .slice b7 m7 d7, .slice b8 m8 d8] 67)).drew 3 _ _ _ HS1.out HS2.out HS3.out (w.heap.size + 1 + 1) (by simp [World.drew])); have HC3 := hid (G0.out.alloc (.cells #[.int .i64 (sgn x.seq y.seq), .int .i64 (sgn x.kind y.kind), .int .i64 (sgn x.group y.group)] 3))
 go_wp2_with fail
 refine hK.out _ _ (HSI1.out _ ⟨(Know.of (keep_alloc B0.out _)), (Know.of (keep_alloc B1.out _))⟩) (fun hS4 => ?_)
 clear hK K
 try simp only [Act.put, List.setIfInBounds_toArray, List.set_cons_zero, List.set_cons_succ]
 refine rg_call 16 rfl (by kernel_rfl) (fun K hK => ?_)
 go_simp
 go_at_call 171
 refine (or_any _ _ _ _ _ _ H3.out).mono ?_; rintro e w' ⟨rfl, rfl⟩
 go_wp2_with fail
 refine hK.out _ _ (HSI1.out _ ⟨(Know.of (keep_alloc B0.out _)), (Know.of (keep_alloc B1.out _))⟩) (fun hS5 => ?_)
 clear hK K
 try simp only [Act.put, List.setIfInBounds_toArray, List.set_cons_zero, List.set_cons_succ]
 refine rgT 17 hS5 ?_
 refine wpAnyH_done (by kernel_rfl) ?_ _
 go_wp2_with fail
 go_ret
 exact ⟨_, rfl, HOR.out, HC3.out⟩
end Go.Proofs.YtphmpimgbmedbaaGreat
/- IndexFunc and ContainsFunc over structures, at any test of an element that only lays new memory. -/
namespace Go.Proofs.YtphmpimgbmedbaaGreat
open Go.RowKit
open Go.Lib (hid)
def IdxOf {α : Type} (q : α → Bool) (xs : List α) (r : Int) : Prop := (r = -1 ∧ xs.any q = false) ∨ ∃ j : Nat, r = j ∧ (∃ x, xs[j]? = some x ∧ q x = true) ∧ ∀ (i : Nat) x, i < j → xs[i]? = some x → q x = false
theorem IdxOf.ge {α : Type} {q : α → Bool} {xs : List α} {r : Int} (h : IdxOf q xs r) : decide (0 ≤ r) = xs.any q := by
 rcases h with ⟨rfl, h⟩ | ⟨j, rfl, ⟨x, hx, hq⟩, _⟩
 ·rw [h]; rfl
 ·rw [List.any_eq_true.2 ⟨x, List.mem_of_getElem? hx, hq⟩]; exact decide_eq_true (Int.natCast_nonneg j)
def TestsBlock (k : Nat) (caps : Array Value) (q : Blk → Bool) (xs : List Blk) (w : World) : Prop :=
 ∀ (x : Blk) (a1 : Option Addr) (l1 c1 : Nat) (f : List Nat) (w1 : World), x ∈ xs → Chg [] w w1 → blkL.rep w1 [.int .i64 x.stamp, .slice a1 l1 c1] x f → Calls Tryz.prog k (#[.agg #[.int .i64 x.stamp, .slice a1 l1 c1]] ++ caps) w1 fun e w' => e = .returned (.bool (q x)) ∧ Chg [] w1 w'
set_option maxRecDepth 100000 in
set_option maxHeartbeats 1000000 in
theorem idxBlock_any (k : Nat) (caps : Array Value) (q : Blk → Bool) (a : Option Addr) (la ca : Nat) (xs : List Blk) (f : List Nat) (w : World) (ha : blkL.sl w a la ca xs f) (hcf : ∀ (args : Array Value) (w : World), (callFunc k args).run Tryz.prog w = .ok (.enter k args) w) (hq : TestsBlock k caps q xs w) :
  Calls Tryz.prog 256 #[.slice a la ca, .func (.func k) #[] caps] w fun e w' => ∃ r : Int, e = .returned (.int .i64 r) ∧ Hid (IdxOf q xs r) ∧ Chg [] w w' := by
 have hla := blkL.sl_max ha
 have HA := hid ha
 have HL := hid ha.1
 have HQ := hid hq
 clear ha hq
 go_enter Tryz.func256, Tryz.ntmps256
 go_wp2
 go_loopw [5, 8] (fun _ i wr => ∃ (j : Nat) (Wr : World), Wr = wr ∧ j ≤ la ∧ i = .int .i64 j ∧ Hid (∀ (i : Nat) x, i < j → xs[i]? = some x → q x = false) ∧ Chg [] w wr) (fun _ i _ => la - (intOf i).toNat)
 case atStart => exact ⟨0, _, rfl, by omega, rfl, fun j x hj => by omega, Chg.refl _ _⟩
 case round =>
  obtain ⟨j, wr, rfl, hj, rfl, HK, hc⟩ := hrel
  have HC := hid hc
  by_cases hlt : j < la
  ·obtain ⟨x, b, off, a1, l1, c1, fx, HX, rfl, hc0, hc1, HXS⟩ := block_at (blkL.sl_ext HA.out hc) hlt
   have HT := hid (HQ.out x a1 l1 c1 fx wr (List.mem_of_getElem? HX.out.1) HC.out HXS.out)
   clear hc
   cases hqx : q x
   ·rw [hqx] at HT
    have HK2 := hid (show ∀ (i : Nat) y, i < j + 1 → xs[i]? = some y → q y = false from fun i y hi hy => by
     by_cases e : i = j
     ·subst e; rw [Option.some.inj (hy.symm.trans HX.out.1)]; exact hqx
     ·exact HK.out i y (by omega) hy)
    clear hqx
    go_wp2_with fail
    refine HT.out.mono ?_
    rintro e w1 ⟨rfl, hc1⟩
    have HC1 := hid (HC.out.trans0 hc1)
    clear hc1
    go_wp2_with fail
    go_roundw
    case rel => exact ⟨j + 1, _, rfl, by omega, by go_num, HK2, HC1.out⟩
    case measure => simp [intOf]; omega
   ·rw [hqx] at HT
    have HR := hid (show IdxOf q xs (j : Int) from .inr ⟨j, rfl, ⟨x, HX.out.1, hqx⟩, HK.out⟩)
    clear hqx
    go_wp2_with fail
    refine HT.out.mono ?_
    rintro e w1 ⟨rfl, hc1⟩
    have HC1 := hid (HC.out.trans0 hc1)
    clear hc1
    go_wp2_with fail
    go_ret
    exact ⟨_, rfl, HR, HC1.out⟩
  ·obtain rfl : j = la := by omega
   have HR := hid (show IdxOf q xs (-1) from .inl ⟨rfl, by
    rw [List.any_eq_false]
    intro x hx h1
    obtain ⟨i, hi, rfl⟩ := List.getElem_of_mem hx
    have h2 := HK.out i _ (by have := HL.out; omega) (List.getElem?_eq_getElem hi)
    rw [h2] at h1; cases h1⟩)
   clear hc
   go_wp2
   go_ret
   exact ⟨_, rfl, HR, HC.out⟩
set_option maxHeartbeats 400000 in
theorem contBlock_any (k : Nat) (caps : Array Value) (q : Blk → Bool) (a : Option Addr) (la ca : Nat) (xs : List Blk) (f : List Nat) (w : World) (ha : blkL.sl w a la ca xs f) (hcf : ∀ (args : Array Value) (w : World), (callFunc k args).run Tryz.prog w = .ok (.enter k args) w) (hq : TestsBlock k caps q xs w) :
  Calls Tryz.prog 218 #[.slice a la ca, .func (.func k) #[] caps] w fun e w' => e = .returned (.bool (xs.any q)) ∧ Chg [] w w' := by
 have HI := hid (idxBlock_any k caps q a la ca xs f w ha hcf hq)
 clear ha hq hcf
 go_enter Tryz.func218, Tryz.ntmps218
 go_wp2_with fail
 refine HI.out.mono ?_
 rintro e w1 ⟨r, rfl, HR, hc1⟩
 have HC1 := hid hc1
 have HD := hid HR.out.ge
 clear hc1
 go_wp2_with fail
 go_ret
 refine ⟨?_, HC1.out⟩
 rw [← HD.out]
 rfl
def TestsTape (k : Nat) (caps : Array Value) (q : Tap → Bool) (xs : List Tap) (w : World) : Prop :=
 ∀ (x : Tap) (a1 : Option Addr) (l1 c1 : Nat) (f : List Nat) (w1 : World), x ∈ xs → Chg [] w w1 → tapL.rep w1 [.bool x.wiped, .slice a1 l1 c1] x f → Calls Tryz.prog k (#[.agg #[.bool x.wiped, .slice a1 l1 c1]] ++ caps) w1 fun e w' => e = .returned (.bool (q x)) ∧ Chg [] w1 w'
set_option maxRecDepth 100000 in
set_option maxHeartbeats 1000000 in
theorem idxTape_any (k : Nat) (caps : Array Value) (q : Tap → Bool) (a : Option Addr) (la ca : Nat) (xs : List Tap) (f : List Nat) (w : World) (ha : tapL.sl w a la ca xs f) (hcf : ∀ (args : Array Value) (w : World), (callFunc k args).run Tryz.prog w = .ok (.enter k args) w) (hq : TestsTape k caps q xs w) :
  Calls Tryz.prog 257 #[.slice a la ca, .func (.func k) #[] caps] w fun e w' => ∃ r : Int, e = .returned (.int .i64 r) ∧ Hid (IdxOf q xs r) ∧ Chg [] w w' := by
 have hla := tapL.sl_max ha
 have HA := hid ha
 have HL := hid ha.1
 have HQ := hid hq
 clear ha hq
 go_enter Tryz.func257, Tryz.ntmps257
 go_wp2
 go_loopw [5, 8] (fun _ i wr => ∃ (j : Nat) (Wr : World), Wr = wr ∧ j ≤ la ∧ i = .int .i64 j ∧ Hid (∀ (i : Nat) x, i < j → xs[i]? = some x → q x = false) ∧ Chg [] w wr) (fun _ i _ => la - (intOf i).toNat)
 case atStart => exact ⟨0, _, rfl, by omega, rfl, fun j x hj => by omega, Chg.refl _ _⟩
 case round =>
  obtain ⟨j, wr, rfl, hj, rfl, HK, hc⟩ := hrel
  have HC := hid hc
  by_cases hlt : j < la
  ·obtain ⟨x, b, off, a1, l1, c1, fx, HX, rfl, hc0, hc1, HXS⟩ := tape_at (tapL.sl_ext HA.out hc) hlt
   have HT := hid (HQ.out x a1 l1 c1 fx wr (List.mem_of_getElem? HX.out.1) HC.out HXS.out)
   clear hc
   cases hqx : q x
   ·rw [hqx] at HT
    have HK2 := hid (show ∀ (i : Nat) y, i < j + 1 → xs[i]? = some y → q y = false from fun i y hi hy => by
     by_cases e : i = j
     ·subst e; rw [Option.some.inj (hy.symm.trans HX.out.1)]; exact hqx
     ·exact HK.out i y (by omega) hy)
    clear hqx
    go_wp2_with fail
    refine HT.out.mono ?_
    rintro e w1 ⟨rfl, hc1⟩
    have HC1 := hid (HC.out.trans0 hc1)
    clear hc1
    go_wp2_with fail
    go_roundw
    case rel => exact ⟨j + 1, _, rfl, by omega, by go_num, HK2, HC1.out⟩
    case measure => simp [intOf]; omega
   ·rw [hqx] at HT
    have HR := hid (show IdxOf q xs (j : Int) from .inr ⟨j, rfl, ⟨x, HX.out.1, hqx⟩, HK.out⟩)
    clear hqx
    go_wp2_with fail
    refine HT.out.mono ?_
    rintro e w1 ⟨rfl, hc1⟩
    have HC1 := hid (HC.out.trans0 hc1)
    clear hc1
    go_wp2_with fail
    go_ret
    exact ⟨_, rfl, HR, HC1.out⟩
  ·obtain rfl : j = la := by omega
   have HR := hid (show IdxOf q xs (-1) from .inl ⟨rfl, by
    rw [List.any_eq_false]
    intro x hx h1
    obtain ⟨i, hi, rfl⟩ := List.getElem_of_mem hx
    have h2 := HK.out i _ (by have := HL.out; omega) (List.getElem?_eq_getElem hi)
    rw [h2] at h1; cases h1⟩)
   clear hc
   go_wp2
   go_ret
   exact ⟨_, rfl, HR, HC.out⟩
set_option maxHeartbeats 400000 in
theorem contTape_any (k : Nat) (caps : Array Value) (q : Tap → Bool) (a : Option Addr) (la ca : Nat) (xs : List Tap) (f : List Nat) (w : World) (ha : tapL.sl w a la ca xs f) (hcf : ∀ (args : Array Value) (w : World), (callFunc k args).run Tryz.prog w = .ok (.enter k args) w) (hq : TestsTape k caps q xs w) :
  Calls Tryz.prog 220 #[.slice a la ca, .func (.func k) #[] caps] w fun e w' => e = .returned (.bool (xs.any q)) ∧ Chg [] w w' := by
 have HI := hid (idxTape_any k caps q a la ca xs f w ha hcf hq)
 clear ha hq hcf
 go_enter Tryz.func220, Tryz.ntmps220
 go_wp2_with fail
 refine HI.out.mono ?_
 rintro e w1 ⟨r, rfl, HR, hc1⟩
 have HC1 := hid hc1
 have HD := hid HR.out.ge
 clear hc1
 go_wp2_with fail
 go_ret
 refine ⟨?_, HC1.out⟩
 rw [← HD.out]
 rfl
def TestsRec (k : Nat) (caps : Array Value) (q : Rec → Bool) (xs : List Rec) (w : World) : Prop :=
 ∀ (x : Rec) (a6 : Option Addr) (l6 c6 : Nat) (a7 : Option Addr) (l7 c7 : Nat) (a8 : Option Addr) (l8 c8 : Nat) (f : List Nat) (w1 : World), x ∈ xs → Chg [] w w1 → recL.rep w1 [.int .i64 x.kind, .int .i64 x.seq, .string x.name, .int .i64 x.length, .int .i64 x.group, .int .i64 x.row, .slice a6 l6 c6, .slice a7 l7 c7, .slice a8 l8 c8] x f → Calls Tryz.prog k (#[.agg #[.int .i64 x.kind, .int .i64 x.seq, .string x.name, .int .i64 x.length, .int .i64 x.group, .int .i64 x.row, .slice a6 l6 c6, .slice a7 l7 c7, .slice a8 l8 c8]] ++ caps) w1 fun e w' => e = .returned (.bool (q x)) ∧ Chg [] w1 w'
set_option maxRecDepth 100000 in
set_option maxHeartbeats 1000000 in
theorem idxRec_any (k : Nat) (caps : Array Value) (q : Rec → Bool) (a : Option Addr) (la ca : Nat) (xs : List Rec) (f : List Nat) (w : World) (ha : recL.sl w a la ca xs f) (hcf : ∀ (args : Array Value) (w : World), (callFunc k args).run Tryz.prog w = .ok (.enter k args) w) (hq : TestsRec k caps q xs w) :
  Calls Tryz.prog 201 #[.slice a la ca, .func (.func k) #[] caps] w fun e w' => ∃ r : Int, e = .returned (.int .i64 r) ∧ Hid (IdxOf q xs r) ∧ Chg [] w w' := by
 have hla := recL.sl_max ha
 have HA := hid ha
 have HL := hid ha.1
 have HQ := hid hq
 clear ha hq
 go_enter Tryz.func201, Tryz.ntmps201
 go_wp2
 go_loopw [5, 8] (fun _ i wr => ∃ (j : Nat) (Wr : World), Wr = wr ∧ j ≤ la ∧ i = .int .i64 j ∧ Hid (∀ (i : Nat) x, i < j → xs[i]? = some x → q x = false) ∧ Chg [] w wr) (fun _ i _ => la - (intOf i).toNat)
 case atStart => exact ⟨0, _, rfl, by omega, rfl, fun j x hj => by omega, Chg.refl _ _⟩
 case round =>
  obtain ⟨j, wr, rfl, hj, rfl, HK, hc⟩ := hrel
  have HC := hid hc
  by_cases hlt : j < la
  ·obtain ⟨x, b, off, a6, l6, c6, a7, l7, c7, a8, l8, c8, fx, HX, rfl, hc0, hc1, hc2, hc3, hc4, hc5, hc6, hc7, hc8, HXS⟩ := rec_at (recL.sl_ext HA.out hc) hlt
   have HT := hid (HQ.out x a6 l6 c6 a7 l7 c7 a8 l8 c8 fx wr (List.mem_of_getElem? HX.out.1) HC.out HXS.out)
   clear hc
   cases hqx : q x
   ·rw [hqx] at HT
    have HK2 := hid (show ∀ (i : Nat) y, i < j + 1 → xs[i]? = some y → q y = false from fun i y hi hy => by
     by_cases e : i = j
     ·subst e; rw [Option.some.inj (hy.symm.trans HX.out.1)]; exact hqx
     ·exact HK.out i y (by omega) hy)
    clear hqx
    go_wp2_with fail
    refine HT.out.mono ?_
    rintro e w1 ⟨rfl, hc1⟩
    have HC1 := hid (HC.out.trans0 hc1)
    clear hc1
    go_wp2_with fail
    go_roundw
    case rel => exact ⟨j + 1, _, rfl, by omega, by go_num, HK2, HC1.out⟩
    case measure => simp [intOf]; omega
   ·rw [hqx] at HT
    have HR := hid (show IdxOf q xs (j : Int) from .inr ⟨j, rfl, ⟨x, HX.out.1, hqx⟩, HK.out⟩)
    clear hqx
    go_wp2_with fail
    refine HT.out.mono ?_
    rintro e w1 ⟨rfl, hc1⟩
    have HC1 := hid (HC.out.trans0 hc1)
    clear hc1
    go_wp2_with fail
    go_ret
    exact ⟨_, rfl, HR, HC1.out⟩
  ·obtain rfl : j = la := by omega
   have HR := hid (show IdxOf q xs (-1) from .inl ⟨rfl, by
    rw [List.any_eq_false]
    intro x hx h1
    obtain ⟨i, hi, rfl⟩ := List.getElem_of_mem hx
    have h2 := HK.out i _ (by have := HL.out; omega) (List.getElem?_eq_getElem hi)
    rw [h2] at h1; cases h1⟩)
   clear hc
   go_wp2
   go_ret
   exact ⟨_, rfl, HR, HC.out⟩
set_option maxHeartbeats 400000 in
theorem contRec_any (k : Nat) (caps : Array Value) (q : Rec → Bool) (a : Option Addr) (la ca : Nat) (xs : List Rec) (f : List Nat) (w : World) (ha : recL.sl w a la ca xs f) (hcf : ∀ (args : Array Value) (w : World), (callFunc k args).run Tryz.prog w = .ok (.enter k args) w) (hq : TestsRec k caps q xs w) :
  Calls Tryz.prog 235 #[.slice a la ca, .func (.func k) #[] caps] w fun e w' => e = .returned (.bool (xs.any q)) ∧ Chg [] w w' := by
 have HI := hid (idxRec_any k caps q a la ca xs f w ha hcf hq)
 clear ha hq hcf
 go_enter Tryz.func235, Tryz.ntmps235
 go_wp2_with fail
 refine HI.out.mono ?_
 rintro e w1 ⟨r, rfl, HR, hc1⟩
 have HC1 := hid hc1
 have HD := hid HR.out.ge
 clear hc1
 go_wp2_with fail
 go_ret
 refine ⟨?_, HC1.out⟩
 rw [← HD.out]
 rfl
end Go.Proofs.YtphmpimgbmedbaaGreat
/- Records that are there already: has, l6Holds; l6Ahead. -/
namespace Go.Proofs.YtphmpimgbmedbaaGreat
open Go.RowKit
open Go.Lib (hid)
theorem rec_at2 {w : World} {a : Option Addr} {len cap : Nat} {xs : List Rec} {fp : List Nat} (h : recL.sl w a len cap xs fp) {i : Nat} (hi : i < len) :
  ∃ (x : Rec) (b off : Nat) (c : List Value) (f : List Nat), Hid (xs[i]? = some x ∧ b ∈ fp ∧ (∀ y ∈ f, y ∈ fp)) ∧ a = some ⟨b, off, none⟩ ∧ Hid (Celled w b (off + i * 9) 9 c) ∧ Hid (recL.rep w c x f) := by
 obtain ⟨x, b, off, c, f, hx, ha, hb, hc, hr, hf⟩ := recL.sl_at h hi
 refine ⟨x, b, off, c, f, ⟨hx, hb, hf⟩, ha, ⟨recL.len hr, fun j v hv => ?_, Lay.all_one (L := recL) (recL.all_single hr)⟩, hr⟩
 have := hc j (by have := (List.getElem?_eq_some_iff.1 hv).1; have := recL.len hr; omega)
 rw [← hv]; exact this
set_option maxHeartbeats 2000000 in
theorem l6Ahead_any (x y : Rec) (cx cy : Array Value) (fx fy : List Nat) (w : World) (hx : recL.rep w cx.toList x fx) (hy : recL.rep w cy.toList y fy) :
  Calls Tryz.prog 167 #[.agg cx, .agg cy] w fun e w' => e = .returned (.bool (recLt x y)) ∧ Chg [] w w' := by
 obtain ⟨a6, l6, c6, f6, a7, l7, c7, f7, a8, l8, c8, f8, ex, -⟩ := recL_iff.1 hx
 obtain rfl := Array.toList_inj.1 (ex.trans (List.toList_toArray).symm)
 obtain ⟨b6, m6, d6, g6, b7, m7, d7, g7, b8, m8, d8, g8, ey, -⟩ := recL_iff.1 hy
 obtain rfl := Array.toList_inj.1 (ey.trans (List.toList_toArray).symm)
 have G0 := hid (((Chg.refl [] w).alloc (.cells #[.int .i64 x.kind, .int .i64 x.seq, .string x.name, .int .i64 x.length, .int .i64 x.group, .int .i64 x.row, .slice a6 l6 c6, .slice a7 l7 c7, .slice a8 l8 c8] 67)).alloc (.cells #[.int .i64 y.kind, .int .i64 y.seq, .string y.name, .int .i64 y.length, .int .i64 y.group, .int .i64 y.row, .slice b6 m6 d6, .slice b7 m7 d7, .slice b8 m8 d8] 67))
 obtain ⟨v, hv⟩ : ∃ v, v = recLt x y := ⟨_, rfl⟩
 have HV := hid hv
 rw [← hv]
 clear hx hy ex ey hv
 by_cases h1 : x.seq = y.seq
 ·have hb1 : (x.seq != y.seq) = false := by simp [h1]
  by_cases h2 : x.kind = y.kind
  ·have hb2 : (x.kind != y.kind) = false := by simp [h2]
   have HR := hid (show v = decide (x.group < y.group) by rw [HV.out]; unfold recLt; apply decide_eq_decide.2; omega)
   clear h1 h2
   go_enter Tryz.func167, Tryz.ntmps167
   go_wp2_with fail
   go_ret
   exact ⟨by rw [HR.out]; rfl, G0.out⟩
  ·have hb2 : (x.kind != y.kind) = true := by simp [h2]
   have HR := hid (show v = decide (x.kind < y.kind) by rw [HV.out]; unfold recLt; apply decide_eq_decide.2; omega)
   clear h1 h2
   go_enter Tryz.func167, Tryz.ntmps167
   go_wp2_with fail
   go_ret
   exact ⟨by rw [HR.out]; rfl, G0.out⟩
 ·have hb1 : (x.seq != y.seq) = true := by simp [h1]
  have HR := hid (show v = decide (x.seq < y.seq) by rw [HV.out]; unfold recLt; apply decide_eq_decide.2; omega)
  clear h1
  go_enter Tryz.func167, Tryz.ntmps167
  go_wp2_with fail
  go_ret
  exact ⟨by rw [HR.out]; rfl, G0.out⟩
set_option maxHeartbeats 1000000 in
theorem has1_any (x r : Rec) (B : Nat) {a6 a7 a8 b6 b7 b8 : Option Addr} {l6 c6 l7 c7 l8 c8 m6 d6 m7 d7 m8 d8 : Nat} (fx fr : List Nat) (E : TypeId) (w : World) (hB : w.heap[B]? = some (.cells #[.int .i64 r.kind, .int .i64 r.seq, .string r.name, .int .i64 r.length, .int .i64 r.group, .int .i64 r.row, .slice b6 m6 d6, .slice b7 m7 d7, .slice b8 m8 d8] E (0, 0))) (hx : recL.rep w (#[.int .i64 x.kind, .int .i64 x.seq, .string x.name, .int .i64 x.length, .int .i64 x.group, .int .i64 x.row, .slice a6 l6 c6, .slice a7 l7 c7, .slice a8 l8 c8] : Array Value).toList x fx) (hr : recL.rep w (#[.int .i64 r.kind, .int .i64 r.seq, .string r.name, .int .i64 r.length, .int .i64 r.group, .int .i64 r.row, .slice b6 m6 d6, .slice b7 m7 d7, .slice b8 m8 d8] : Array Value).toList r fr) :
  Calls Tryz.prog 236 #[.agg #[.int .i64 x.kind, .int .i64 x.seq, .string x.name, .int .i64 x.length, .int .i64 x.group, .int .i64 x.row, .slice a6 l6 c6, .slice a7 l7 c7, .slice a8 l8 c8], .pointer (some ⟨B, 0, none⟩)] w fun e w' => e = .returned (.bool (sameV x r)) ∧ Chg [] w w' := by
 have hS := sameRec_c x r #[.int .i64 x.kind, .int .i64 x.seq, .string x.name, .int .i64 x.length, .int .i64 x.group, .int .i64 x.row, .slice a6 l6 c6, .slice a7 l7 c7, .slice a8 l8 c8] #[.int .i64 r.kind, .int .i64 r.seq, .string r.name, .int .i64 r.length, .int .i64 r.group, .int .i64 r.row, .slice b6 m6 d6, .slice b7 m7 d7, .slice b8 m8 d8] fx fr (w.alloc (.cells #[.int .i64 x.kind, .int .i64 x.seq, .string x.name, .int .i64 x.length, .int .i64 x.group, .int .i64 x.row, .slice a6 l6 c6, .slice a7 l7 c7, .slice a8 l8 c8] 67)) (recL.ext hx ((Chg.refl [] w).alloc _)) (recL.ext hr ((Chg.refl [] w).alloc _))
 rw [← sameV_pb] at hS
 have HS := hid hS
 have cB := cellsOf hB; have lB := ltOf hB
 have G0 := hid ((Chg.refl [] w).alloc (.cells #[.int .i64 x.kind, .int .i64 x.seq, .string x.name, .int .i64 x.length, .int .i64 x.group, .int .i64 x.row, .slice a6 l6 c6, .slice a7 l7 c7, .slice a8 l8 c8] 67))
 clear hS hx hr hB
 go_enter Tryz.func236, Tryz.ntmps236
 go_wp2_with fail
 refine HS.out.mono ?_
 rintro e w' ⟨rfl, hc⟩
 have HC := hid (G0.out.trans0 hc)
 clear hc
 go_wp2_with fail
 go_ret
 exact ⟨rfl, HC.out⟩
theorem cf_has1 : ∀ (args : Array Value) (w : World), (callFunc 236 args).run Tryz.prog w = .ok (.enter 236 args) w := fun _ _ => by go_simp
set_option maxHeartbeats 1000000 in
theorem has_any (a : Option Addr) (la ca : Nat) (xs : List Rec) (f : List Nat) (r : Rec) (cy : Array Value) (fr : List Nat) (w : World) (ha : recL.sl w a la ca xs f) (hy : recL.rep w cy.toList r fr) :
  Calls Tryz.prog 168 #[.slice a la ca, .agg cy] w fun e w' => e = .returned (.bool (xs.any (fun x => sameV x r))) ∧ Chg [] w w' := by
 obtain ⟨b6, m6, d6, g6, b7, m7, d7, g7, b8, m8, d8, g8, ey, -⟩ := recL_iff.1 hy
 obtain rfl := Array.toList_inj.1 (ey.trans (List.toList_toArray).symm)
 have hB := new_alloc w (.cells #[.int .i64 r.kind, .int .i64 r.seq, .string r.name, .int .i64 r.length, .int .i64 r.group, .int .i64 r.row, .slice b6 m6 d6, .slice b7 m7 d7, .slice b8 m8 d8] 67)
 have g0 : Chg [] w (w.alloc (.cells #[.int .i64 r.kind, .int .i64 r.seq, .string r.name, .int .i64 r.length, .int .i64 r.group, .int .i64 r.row, .slice b6 m6 d6, .slice b7 m7 d7, .slice b8 m8 d8] 67)) := (Chg.refl [] w).alloc _
 have HCT := hid (contRec_any 236 #[.pointer (some ⟨w.heap.size, 0, none⟩)] (fun x => sameV x r) a la ca xs f (w.alloc (.cells #[.int .i64 r.kind, .int .i64 r.seq, .string r.name, .int .i64 r.length, .int .i64 r.group, .int .i64 r.row, .slice b6 m6 d6, .slice b7 m7 d7, .slice b8 m8 d8] 67)) (recL.sl_ext ha g0) cf_has1 (fun x a6 l6 c6 a7 l7 c7 a8 l8 c8 fx w1 _ h2 h3 => has1_any x r w.heap.size fx fr 67 w1 (h2.keep0 hB) h3 (recL.ext hy (g0.trans0 h2))))
 have G0 := hid g0
 clear ha hy ey hB g0
 go_enter Tryz.func168, Tryz.ntmps168
 go_wp2_with fail
 refine HCT.out.mono ?_
 rintro e w' ⟨rfl, hc⟩
 have HC := hid (G0.out.trans0 hc)
 clear hc
 go_wp2_with fail
 go_ret
 exact ⟨rfl, HC.out⟩
set_option maxHeartbeats 2000000 in
theorem holds_any (a : Option Addr) (la ca : Nat) (xs : List Rec) (f : List Nat) (r : Rec) (cy : Array Value) (fr : List Nat) (w : World) (ha : recL.sl w a la ca xs f) (hy : recL.rep w cy.toList r fr) :
  Calls Tryz.prog 166 #[.slice a la ca, .agg cy] w fun e w' => e = .returned (.bool (xs.any (fun x => sameV x r))) ∧ Chg [] w w' := by
 obtain ⟨b6, m6, d6, g6, b7, m7, d7, g7, b8, m8, d8, g8, ey, -⟩ := recL_iff.1 hy
 obtain rfl := Array.toList_inj.1 (ey.trans (List.toList_toArray).symm)
 have hla := recL.sl_max ha
 have HB := hid (new_alloc w (.cells #[.int .i64 r.kind, .int .i64 r.seq, .string r.name, .int .i64 r.length, .int .i64 r.group, .int .i64 r.row, .slice b6 m6 d6, .slice b7 m7 d7, .slice b8 m8 d8] 67))
 have G0 := hid ((Chg.refl [] w).alloc (.cells #[.int .i64 r.kind, .int .i64 r.seq, .string r.name, .int .i64 r.length, .int .i64 r.group, .int .i64 r.row, .slice b6 m6 d6, .slice b7 m7 d7, .slice b8 m8 d8] 67))
 have HA := hid ha; have HY := hid hy; have HL := hid ha.1
 obtain ⟨v, hv⟩ : ∃ v, v = xs.any (fun x => sameV x r) := ⟨_, rfl⟩
 have HV := hid hv
 rw [← hv]
 clear ha hy ey hv
 go_enter Tryz.func166, Tryz.ntmps166
 go_wp2_with fail
 go_loopw [5] (fun vi wr => ∃ (k : Nat) (Wr : World), Wr = wr ∧ k ≤ la ∧ vi = .int .i64 k ∧ Hid (∀ x ∈ xs.take k, sameV x r = false) ∧ Chg [] (w.alloc (.cells #[.int .i64 r.kind, .int .i64 r.seq, .string r.name, .int .i64 r.length, .int .i64 r.group, .int .i64 r.row, .slice b6 m6 d6, .slice b7 m7 d7, .slice b8 m8 d8] 67)) wr) (fun vi _ => la - (intOf vi).toNat)
 case atStart => exact ⟨0, _, rfl, by omega, rfl, by intro y hy; simp at hy, Chg.refl _ _⟩
 case round =>
  obtain ⟨k, wr, rfl, hk, rfl, HK, hc⟩ := hrel
  have HC := hid hc
  have hbx := hc.keep0 HB.out
  have cX := cellsOf hbx; have lX := ltOf hbx
  clear hbx
  by_cases hlt : k < la
  ·obtain ⟨x, b, off, cx, fx, HX, rfl, HCE, HXS⟩ := rec_at2 (recL.sl_ext HA.out (G0.out.trans0 hc)) hlt
   have hS := spec_same_any x r cx.toArray #[.int .i64 r.kind, .int .i64 r.seq, .string r.name, .int .i64 r.length, .int .i64 r.group, .int .i64 r.row, .slice b6 m6 d6, .slice b7 m7 d7, .slice b8 m8 d8] fx fr wr.drew (recL.ext (by simpa using HXS.out) ((Chg.refl [] wr).drew)) (recL.ext HY.out ((G0.out.trans0 hc).drew))
   have HX0 := hid HX.out.1
   have hlb := (recL.sl_lt (recL.sl_ext HA.out (G0.out.trans0 hc))) b HX.out.2.1
   have HBX := hid (hc.keep0 HB.out)
   have HCD := hid (show Celled wr.drew b (off + k * 9) 9 cx from HCE.out)
   have HCR := hid ((Chg.refl [] wr).drew)
   clear hc HX cX lX
   cases hq : sameV x r
   ·rw [hq] at hS
    have HS := hid hS
    have HN := hid (show ∀ z ∈ xs.take (k + 1), sameV z r = false by
     intro z hz
     rw [take_next HX0.out] at hz
     rcases List.mem_append.1 hz with h1 | h1
     ·exact HK.out z h1
     ·rw [List.mem_singleton] at h1; rw [h1]; exact hq)
    clear hS hq
    go_wp2_with fail
    obtain ⟨SS, HSI, HSO⟩ := rg_cond (fun w' => Celled w' b (off + k * 9) 9 cx ∧ Know w.heap.size #[.int .i64 r.kind, .int .i64 r.seq, .string r.name, .int .i64 r.length, .int .i64 r.group, .int .i64 r.row, .slice b6 m6 d6, .slice b7 m7 d7, .slice b8 m8 d8] w')
    have hS0 := HSI.out _ ⟨HCD.out, (Know.of (keep_drew HBX.out))⟩
    refine rg_start SS (by kernel_rfl) hS0 ?_
    refine rgT 0 hS0 ?_
    refine rgT 1 hS0 ?_
    refine rgT 2 hS0 ?_
    refine rgL 3 hS0 HSO ?_ (hy := fun w' hw => exec_row _ 67 rfl rfl infoRc Tryz.underlying67 hw.1)
    refine rgL 4 hS0 HSO ?_
    refine rg_call 5 rfl (by kernel_rfl) (fun K hK => ?_)
    go_simp
    go_at_call 234
    refine HS.out.mono ?_
    rintro e w2 ⟨rfl, hc2⟩
    have HC2 := hid (HC.out.trans0 (HCR.out.trans0 hc2)); have HCE2 := hid (HCD.out.ext hc2 hlb); have HBX2 := hid (hc2.keep0 (keep_drew HBX.out))
    clear hc2
    go_wp2_with fail
    refine hK.out _ _ (HSI.out _ ⟨HCE2.out, (Know.of HBX2.out)⟩) (fun hS1 => ?_)
    clear hK K
    try simp only [Act.put, List.setIfInBounds_toArray, List.set_cons_zero, List.set_cons_succ]
    refine wpAnyH_done (by kernel_rfl) ?_ _
    skip
    go_wp2_with fail
    go_roundw
    case rel => exact ⟨k + 1, _, rfl, by omega, by go_num, HN, HC2.out⟩
    case measure => simp [intOf]; omega
   ·rw [hq] at hS
    have HS := hid hS
    have HR := hid (show v = true by rw [HV.out]; exact List.any_eq_true.2 ⟨x, List.mem_of_getElem? HX0.out, hq⟩)
    clear hS hq
    go_wp2_with fail
    obtain ⟨SS, HSI, HSO⟩ := rg_cond (fun w' => Celled w' b (off + k * 9) 9 cx ∧ Know w.heap.size #[.int .i64 r.kind, .int .i64 r.seq, .string r.name, .int .i64 r.length, .int .i64 r.group, .int .i64 r.row, .slice b6 m6 d6, .slice b7 m7 d7, .slice b8 m8 d8] w')
    have hS0 := HSI.out _ ⟨HCD.out, (Know.of (keep_drew HBX.out))⟩
    refine rg_start SS (by kernel_rfl) hS0 ?_
    refine rgT 0 hS0 ?_
    refine rgT 1 hS0 ?_
    refine rgT 2 hS0 ?_
    refine rgL 3 hS0 HSO ?_ (hy := fun w' hw => exec_row _ 67 rfl rfl infoRc Tryz.underlying67 hw.1)
    refine rgL 4 hS0 HSO ?_
    refine rg_call 5 rfl (by kernel_rfl) (fun K hK => ?_)
    go_simp
    go_at_call 234
    refine HS.out.mono ?_
    rintro e w2 ⟨rfl, hc2⟩
    have HC2 := hid (HC.out.trans0 (HCR.out.trans0 hc2)); have HCE2 := hid (HCD.out.ext hc2 hlb); have HBX2 := hid (hc2.keep0 (keep_drew HBX.out))
    clear hc2
    go_wp2_with fail
    refine hK.out _ _ (HSI.out _ ⟨HCE2.out, (Know.of HBX2.out)⟩) (fun hS1 => ?_)
    clear hK K
    try simp only [Act.put, List.setIfInBounds_toArray, List.set_cons_zero, List.set_cons_succ]
    refine wpAnyH_done (by kernel_rfl) ?_ _
    skip
    go_wp2_with fail
    go_ret
    exact ⟨by rw [HR.out]; rfl, G0.out.trans0 HC2.out⟩
  ·have HR := hid (show v = false by
    rw [HV.out, List.any_eq_false]
    intro x hx
    rw [HK.out x (by rw [List.take_of_length_le (by have := HL.out; omega)]; exact hx)]
    simp)
   clear hc
   go_wp2_with fail
   go_ret
   exact ⟨by rw [HR.out]; rfl, G0.out.trans0 HC.out⟩
end Go.Proofs.YtphmpimgbmedbaaGreat
/- A region that draws its order, with two operations that may come next; a structure stored in it. No function of the program in sight. -/
namespace Go.Proofs.YtphmpimgbmedbaaGreat
open Go.RowKit
open Go.Lib (hid)
section
variable {P : Program} {ops : Array Oper} {Q : Exit → Act → World → Prop} {md : Region.Mode} {S : World → Prop} {fuel : Nat} {listed : Array Bool} {a : Act} {w : World}
theorem rg_call2 (i j : Nat) {oi oj : Oper} (hi : ops.toList[i]? = some oi) (hj : ops.toList[j]? = some oj) (hr : Region.ready md ops listed = [i, j])
  (h : ∀ K' : Act → World → Prop, Shut (∀ a w, S w → (S w → wpAnyH P md ops Q S fuel (listed.setIfInBounds i true) a w) → K' a w) → if Region.wanted oi (yielded ops a.tmps) = true then Oper.wp P oi a w K' Q else K' (a.put oi.dst undef) w)
  (h2 : ∀ K' : Act → World → Prop, Shut (∀ a w, S w → (S w → wpAnyH P md ops Q S fuel (listed.setIfInBounds j true) a w) → K' a w) → if Region.wanted oj (yielded ops a.tmps) = true then Oper.wp P oj a w K' Q else K' (a.put oj.dst undef) w) :
  wpAnyH P md ops Q S (fuel + 1) listed a w :=
 wpAnyH_ready hr (by simp) (AllReadyH.cons (get_toList hi) h (AllReadyH.cons (get_toList hj) h2 AllReadyH.nil))
theorem store_step {o : Oper} {Kc : Act → World → Prop} {R : Prop} {b : Nat} {cs vs : Array Value} {E : TypeId} {n : Nat} (hgd : o.guard = none) (p v : Operand) (t : TypeId)
  (hop : o.op = .store t p v) (hp : a.eval p = .pointer (some ⟨b, 0, none⟩)) (hv : a.eval v = .agg vs) (hi : (P.info? t).map (fun i => i.size) = some n) (h : w.heap[b]? = some (.cells cs E (0, 0)))
  (hn : vs.size = n) (hs : cs.size = n) (hone : vs.toList.all Value.oneCell' = true)
  (hk : ∀ w', w'.heap[b]? = some (.cells vs E (0, 0)) → Chg [b] w w' → Kc (a.put o.dst undef) w') : if Region.wanted o (yielded ops a.tmps) = true then Oper.wp P o a w Kc Q else R := by
 have hw : Region.wanted o (yielded ops a.tmps) = true := by simp [Region.wanted, hgd]
 rw [if_pos hw]
 exact store_wp p v t hop hp hv hi h hn hs hone hk
end
end Go.Proofs.YtphmpimgbmedbaaGreat
