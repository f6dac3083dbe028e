/- Several texts in one. -/
import Derived.Test.YtphmpimgbmedbaaGreatGap
import Derived.Test.YtphmpimgbmedbaaGreatGam
import Derived.Test.YtphmpimgbmedbaaGreatGao
import Derived.Test.YtphmpimgbmedbaaGreatGal
import Derived.Test.YtphmpimgbmedbaaGreatGae
import Derived.Test.YtphmpimgbmedbaaGreatGac
import Derived.Test.YtphmpimgbmedbaaGreatRows
import Derived.Test.YtphmpimgbmedbaaGreatGaf
import Derived.Test.YtphmpimgbmedbaaGreatGag
import Derived.Deep.DeepCutAuto
import Derived.Test.YtphmpimgbmedbaaGreatGak
/- The fault of a world is a small number. -/
namespace Go.Proofs.YtphmpimgbmedbaaGreat
open Go.RowKit
open Go.Lib (hid)
theorem nameFault_sml (s : ByteArray) : 0 ≤ nameFault s ∧ nameFault s ≤ 99 := by
 unfold nameFault
 repeat' split
 all_goals omega
theorem itemV_sml (s : Shp) (x : Rec) : 0 ≤ itemV s x ∧ itemV s x ≤ 99 := by
 have := nameFault_sml x.name
 unfold itemV
 repeat' split
 all_goals omega
theorem recV_sml (s : Shp) (x : Rec) : 0 ≤ recV s x ∧ recV s x ≤ 99 := by
 have := itemV_sml s x
 unfold recV
 repeat' split
 all_goals omega
theorem recsF_sml (s : Shp) : ∀ xs : List Rec, 0 ≤ recsF s xs ∧ recsF s xs ≤ 99
 | [] => by unfold recsF; omega
 | x :: xs => by have := recsF_sml s xs; have := recV_sml s x; unfold recsF; split <;> omega
theorem tapsF_sml (s : Shp) : ∀ xs : List Tap, 0 ≤ tapsF s xs ∧ tapsF s xs ≤ 99
 | [] => by unfold tapsF; omega
 | x :: xs => by have := tapsF_sml s xs; have := recsF_sml s x.recs; unfold tapsF; split <;> omega
theorem fault_sml (x : Wld) : 0 ≤ x.fault ∧ x.fault ≤ 99 := by
 have := tapsF_sml x.shape x.tapes
 unfold Wld.fault Wld.tapF
 repeat' split
 all_goals omega
theorem fault_i64 (x : Wld) : i64ok x.fault := by have := fault_sml x; unfold i64ok; omega
end Go.Proofs.YtphmpimgbmedbaaGreat
/- The greatest number of the counted records. -/
namespace Go.Proofs.YtphmpimgbmedbaaGreat
open Go.RowKit
open Go.Lib (hid)
theorem fault_recs {x : Wld} (hf : x.fault = 0) : x.tapes.length = 2 ∧ ∀ t ∈ x.tapes, t.recs.length ≤ 200 := by
 refine ⟨Classical.byContradiction (fun hn => ?_), fun t ht => Classical.byContradiction (fun hn => ?_)⟩
 ·unfold Wld.fault at hf
  rw [pb_false (P := x.built ∧ x.onOk ∧ x.tapes.length = 2) (fun g => hn g.2.2)] at hf
  split at hf <;> simp at hf
 ·unfold Wld.fault at hf
  have h2 : x.tapF = 2 := by unfold Wld.tapF; rw [if_pos (pb_true ⟨t, ht, by omega⟩)]
  rw [h2] at hf
  split at hf
  ·split at hf
   ·simp at hf
   ·omega
  ·omega
theorem flat_le : ∀ (ts : List Tap) (_ : ∀ t ∈ ts, t.recs.length ≤ 200), (ts.flatMap (·.recs)).length ≤ 200 * ts.length
 | [], _ => by simp
 | t :: ts, h => by
  rw [List.flatMap_cons, List.length_append, List.length_cons]
  have h1 := h t (by simp)
  have h2 := flat_le ts (fun t ht => h t (by simp [ht]))
  omega
theorem fault_flat {x : Wld} (hf : x.fault = 0) : (x.tapes.flatMap (·.recs)).length ≤ 400 := by
 have h := fault_recs hf
 have h2 := flat_le x.tapes h.2
 rw [h.1] at h2; exact h2
theorem cntL_400 {x : Wld} (hf : x.fault = 0) : (cntL x.tapes).length ≤ 400 := Nat.le_trans (cntL_len x.tapes) (fault_flat hf)
theorem CntPost.rwd {xs : List Rec} {w : World} {e : Ending} {w' : World} (h : CntPost xs w e w') : ∃ v, e = .returned v ∧ Rwd w.heap.size w' v xs ∧ Chg [] w w' := by
 obtain ⟨g, n, cap, qs, rfl, h1, h2, h3, h4, h5, h6, h7, h8⟩ := h
 have hl : n = xs.length := by rw [h3, ← h2, List.length_map]
 subst hl
 exact ⟨_, rfl, ⟨g, cap, qs, rfl, h1, h2, h4, h5, h6, h7⟩, h8⟩
theorem Rwd.sl {n0 : Nat} {w : World} {v : Value} {xs : List Rec} (h : Rwd n0 w v xs) : ∃ a l cap f, v = .slice a l cap ∧ recL.sl w a l cap xs f ∧ l = xs.length := by
 obtain ⟨g, cap, ps, h1, h2, h3, h4, h5, h6, h7⟩ := h
 have hl : xs.length = ps.length := by rw [← h3, List.length_map]
 have := h2.sl hl h5 h6
 rw [h3] at this
 exact ⟨_, _, _, _, h1, this, rfl⟩
end Go.Proofs.YtphmpimgbmedbaaGreat
/- How much the counted records hold. No function of the program in sight. -/
namespace Go.Proofs.YtphmpimgbmedbaaGreat
open Go.RowKit
open Go.Lib (hid)
theorem sumI_insB (f : Rec → Int) (r : Rec) : ∀ ys : List Rec, sumI f (insB r ys) = f r + sumI f ys
 | [] => rfl
 | y :: ys => by
  have := sumI_insB f r ys
  unfold insB
  split
  ·rfl
  ·show f y + sumI f (insB r ys) = f r + (f y + sumI f ys); omega
theorem sumI_fold (f : Rec → Int) : ∀ (l o : List Rec), sumI f (l.foldl (fun o r => insB r o) o) = sumI f o + sumI f l
 | [], o => by show sumI f o = sumI f o + 0; omega
 | r :: l, o => by
  have h1 := sumI_fold f l (insB r o); have h2 := sumI_insB f r o
  show sumI f (l.foldl (fun o r => insB r o) (insB r o)) = sumI f o + (f r + sumI f l)
  omega
theorem sumI_isort (f : Rec → Int) (l : List Rec) : sumI f (isort l) = sumI f l := by
 have := sumI_fold f l []
 show sumI f (l.foldl (fun o r => insB r o) []) = _
 have h0 : sumI f ([] : List Rec) = 0 := rfl
 omega
theorem sumI_appR (f : Rec → Int) : ∀ (xs ys : List Rec), sumI f (xs ++ ys) = sumI f xs + sumI f ys
 | [], ys => by show sumI f ys = 0 + sumI f ys; omega
 | x :: xs, ys => by have := sumI_appR f xs ys; show f x + sumI f (xs ++ ys) = f x + sumI f xs + sumI f ys; omega
theorem sumI_dedF {f : Rec → Int} (hf : ∀ x, 0 ≤ f x) : ∀ (rs acc : List Rec), sumI f (dedF acc rs) ≤ sumI f acc + sumI f rs
 | [], acc => by show sumI f acc ≤ sumI f acc + 0; omega
 | r :: rs, acc => by
  have h1 := sumI_dedF hf rs (dedS acc r)
  have h2 : sumI f (dedS acc r) ≤ sumI f acc + f r := by
   have h0 := hf r
   unfold dedS; split
   ·omega
   ·rw [sumI_appR]; show sumI f acc + (f r + 0) ≤ _; omega
  show sumI f (dedF (dedS acc r) rs) ≤ sumI f acc + (f r + sumI f rs)
  omega
theorem sumI_flat (f : Rec → Int) : ∀ ts : List Tap, sumI f (ts.flatMap (·.recs)) = sumI (fun t => sumI f t.recs) ts
 | [] => rfl
 | t :: ts => by
  have := sumI_flat f ts
  rw [List.flatMap_cons, sumI_appR]
  show sumI f t.recs + _ = sumI f t.recs + _
  omega
theorem cnt_sum {f : Rec → Int} (hf : ∀ x, 0 ≤ f x) (ts : List Tap) : sumI f (cntL ts) ≤ sumI (fun t => sumI f t.recs) ts := by
 have h1 := sumI_dedF hf (ts.flatMap (·.recs)) []
 have h2 := sumI_flat f ts
 unfold cntL
 rw [sumI_isort]
 have h0 : sumI f ([] : List Rec) = 0 := rfl
 omega
theorem sumI_one (f : Rec → Int) : ∀ xs : List Rec, sumI (fun x => 1 + f x) xs = totL f xs
 | [] => rfl
 | x :: xs => by
  have := sumI_one f xs
  show 1 + f x + sumI (fun x => 1 + f x) xs = ((xs.length + 1 : Nat) : Int) + (f x + sumI f xs)
  rw [this, Int.natCast_add]; unfold totL; omega
theorem sumI_le {α : Type} {f g : α → Int} (h : ∀ x, f x ≤ g x) : ∀ xs : List α, sumI f xs ≤ sumI g xs
 | [] => Int.le_refl _
 | x :: xs => by have h1 := sumI_le h xs; have h2 := h x; show f x + sumI f xs ≤ g x + sumI g xs; omega
theorem totCnt (x : Wld) : totL totRec (cntL x.tapes) ≤ totWld x := by
 have h1 := cnt_sum (f := fun r => 1 + totRec r) (fun r => by have := totRec_nonneg r; omega) x.tapes
 have h2 := sumI_one totRec (cntL x.tapes)
 have h3 : sumI (fun t : Tap => sumI (fun r => 1 + totRec r) t.recs) x.tapes = sumI totTap x.tapes := by
  congr 1; funext t; exact sumI_one totRec t.recs
 have h4 := totL_nonneg (totL_nonneg totDrv_nonneg) x.groups
 have h5 := totIs_nonneg x.on
 have h6 : totWld x = totL (totL totDrv) x.groups + totIs x.on + totL totTap x.tapes := rfl
 have h7 : totL totTap x.tapes = x.tapes.length + sumI totTap x.tapes := rfl
 omega
theorem cntCnt (x : Wld) : sumI cntRec (cntL x.tapes) ≤ cntWld x := by
 have h1 := cnt_sum cntRec_nonneg x.tapes
 have h2 : sumI (fun t : Tap => sumI cntRec t.recs) x.tapes ≤ sumI cntTap x.tapes := sumI_le (fun t => by show _ ≤ 1 + _; omega) _
 have h3 := sumI_nonneg cntDrvs_nonneg x.groups
 have h4 := totIs_nonneg x.on
 have h5 : cntWld x = sumI cntDrvs x.groups + totIs x.on + sumI cntTap x.tapes := rfl
 omega
end Go.Proofs.YtphmpimgbmedbaaGreat
/- A code and a list of records: handed back, compared, marked, held. -/
namespace Go.Proofs.YtphmpimgbmedbaaGreat
open Go.RowKit
open Go.Lib (hid)
structure RRes where
 code : Int
 recs : List Rec
def rrsL : Lay RRes := (intL.pair recL.slice).via (fun x => (x.code, x.recs))
theorem rrsL_iff {w : World} {cs : List Value} {x : RRes} {fp : List Nat} : rrsL.rep w cs x fp ↔ ∃ a l c, cs = [.int .i64 x.code, .slice a l c] ∧ i64ok x.code ∧ recL.sl w a l c x.recs fp := by
 constructor
 ·rintro ⟨_, _, _, f, rfl, rfl, ⟨rfl, h1, rfl⟩, a, l, c, rfl, h2⟩
  exact ⟨a, l, c, rfl, h1, h2⟩
 ·rintro ⟨a, l, c, rfl, h1, h2⟩
  exact ⟨[_], _, [], _, rfl, rfl, ⟨rfl, h1, rfl⟩, _, _, _, rfl, h2⟩
theorem rrs_open {w : World} {cs : Array Value} {x : RRes} {fp : List Nat} (h : rrsL.rep w cs.toList x fp) : ∃ a l c, cs = #[.int .i64 x.code, .slice a l c] ∧ i64ok x.code ∧ recL.sl w a l c x.recs fp := by
 obtain ⟨a, l, c, ex, h1, h2⟩ := rrsL_iff.1 h
 exact ⟨a, l, c, Array.toList_inj.1 ex, h1, h2⟩
theorem infoRR : (Tryz.prog.info? 46).map (fun i => i.size) = some 2 := by kernel_rfl
set_option maxHeartbeats 2000000 in
theorem eqRecsResult_any (x : RRes) (cx cy : Array Value) (fx fy : List Nat) (w : World) (hx : rrsL.rep w cx.toList x fx) (hy : rrsL.rep w cy.toList x fy) :
  Calls Tryz.prog 26 #[.agg cx, .agg cy] w fun e w' => e = .returned (.bool true) ∧ Chg [] w w' := by
 obtain ⟨a, l, c, rfl, -, h1⟩ := rrs_open hx
 obtain ⟨b, m, d, rfl, -, h2⟩ := rrs_open hy
 obtain rfl : m = l := h2.1.trans h1.1.symm
 have hcc : ((x.code : Int) != x.code) = false := by simp
 have H1 := hid h1; have H2 := hid h2
 clear hx hy h1 h2
 go_enter Tryz.func26, Tryz.ntmps26
 go_wp2_with fail
 refine (eqRecS_any a b m c d x.recs fx fy _ (recL.sl_ext H1.out ?_) (recL.sl_ext H2.out ?_)).mono ?_
 ·exact ((Chg.refl [] w).alloc _).alloc _
 ·exact ((Chg.refl [] w).alloc _).alloc _
 rintro e w1 ⟨rfl, hc1⟩
 have HC1 := hid ((((Chg.refl [] w).alloc _).alloc _).trans0 hc1)
 clear hc1
 go_wp2_with fail
 go_ret
 exact ⟨rfl, HC1.out⟩
set_option maxHeartbeats 2000000 in
theorem markRecsResult_any (x : RRes) (cx : Array Value) (fx : List Nat) (k : Int) (w : World) (hx : rrsL.rep w cx.toList x fx) (hf : Fresh 0 w fx) (hk : 0 ≤ k) (hk2 : k + sumI cntRec x.recs ≤ 4611686018427387904) :
  Calls Tryz.prog 27 #[.agg cx, .int .i64 k] w fun e w' => e = .returned (.int .i64 (k + sumI cntRec x.recs)) ∧ rrsL.rep w' cx.toList ⟨x.code, markL cntRec mkRec x.recs k⟩ fx ∧ Chg fx w w' := by
 obtain ⟨a, l, c, rfl, hcode, h1⟩ := rrs_open hx
 have H1 := hid h1; have HF := hid hf; have HC0 := hid hcode; have HK := hid hk2
 clear hx h1 hf hcode hk2
 go_enter Tryz.func27, Tryz.ntmps27
 go_wp2_with fail
 have g0 : Chg [] w (w.alloc (.cells #[.int .i64 x.code, .slice a l c] 46)) := (Chg.refl [] w).alloc _
 refine (markRecS_any a l c x.recs fx k _ (recL.sl_ext H1.out g0) (HF.out.chg g0) hk HK.out).mono ?_
 rintro e w1 ⟨rfl, hs1, hc1⟩
 have HN := hid (And.intro (rrsL_iff.2 ⟨_, _, _, rfl, HC0.out, hs1⟩ : rrsL.rep w1 [.int .i64 x.code, .slice a l c] ⟨x.code, markL cntRec mkRec x.recs k⟩ fx) ((g0.mono (T := fx) (by simp)).trans hc1 (fun x hx => .inl hx)))
 clear hs1 hc1 g0
 go_wp2_with fail
 go_ret
 exact ⟨rfl, HN.out.1, HN.out.2⟩
set_option maxHeartbeats 2000000 in
theorem heldRecsResult_any (x : RRes) (cx : Array Value) (fx : List Nat) (k : Int) (w : World) (hx : rrsL.rep w cx.toList ⟨x.code, markL cntRec mkRec x.recs k⟩ fx) (hk : 0 ≤ k) (hk2 : k + sumI cntRec x.recs ≤ 4611686018427387904) :
  Calls Tryz.prog 28 #[.agg cx, .int .i64 k] w fun e w' => e = .returned (.int .i64 (k + sumI cntRec x.recs)) ∧ Chg [] w w' := by
 obtain ⟨a, l, c, rfl, -, h1⟩ := rrs_open hx
 have H1 := hid h1; have HK := hid hk2
 obtain ⟨q, hq⟩ : ∃ q, q = sumI cntRec x.recs := ⟨_, rfl⟩
 have hq0 : 0 ≤ q := by rw [hq]; exact sumI_nonneg cntRec_nonneg _
 have hn : ¬ (k + q < 0) := by omega
 have HQ := hid hq
 rw [← hq]
 clear hx h1 hk2 hq
 go_enter Tryz.func28, Tryz.ntmps28
 go_wp2_with fail
 have g0 : Chg [] w (w.alloc (.cells #[.int .i64 x.code, .slice a l c] 46)) := (Chg.refl [] w).alloc _
 refine (heldRecS_any a l c x.recs fx k _ (recL.sl_ext H1.out g0) hk HK.out).mono ?_
 rintro e w1 ⟨rfl, hc1⟩
 rw [← HQ.out]
 have HC1 := hid (g0.trans0 hc1)
 clear hc1 g0
 go_wp2_with fail
 go_ret
 exact ⟨rfl, HC1.out⟩
end Go.Proofs.YtphmpimgbmedbaaGreat
/- Copies: lists, records: both sides. -/
namespace Go.Proofs.YtphmpimgbmedbaaGreat
open Go.RowKit
open Go.Lib (hid)
theorem row9_back {w : World} {b : Nat} {E : TypeId} {fr : Nat × Nat} {u0 u1 u2 u3 u4 u5 u6 u7 u8 : Value} (v0 v1 v2 v3 v4 v5 v6 v7 v8 : Value) (h : w.heap[b]? = some (.cells #[u0, u1, u2, u3, u4, u5, u6, u7, u8] E fr)) :
  (((((((((w.setCell ⟨b, 0, none⟩ (v0)).setCell ⟨b, 1, none⟩ (v1)).setCell ⟨b, 2, none⟩ (v2)).setCell ⟨b, 3, none⟩ (v3)).setCell ⟨b, 4, none⟩ (v4)).setCell ⟨b, 5, none⟩ (v5)).setCell ⟨b, 6, none⟩ (v6)).setCell ⟨b, 7, none⟩ (v7)).setCell ⟨b, 8, none⟩ (v8)).heap[b]? = some (.cells #[v0, v1, v2, v3, v4, v5, v6, v7, v8] E fr) := by
 have e : (((((((((w.setCell ⟨b, 0, none⟩ (v0)).setCell ⟨b, 1, none⟩ (v1)).setCell ⟨b, 2, none⟩ (v2)).setCell ⟨b, 3, none⟩ (v3)).setCell ⟨b, 4, none⟩ (v4)).setCell ⟨b, 5, none⟩ (v5)).setCell ⟨b, 6, none⟩ (v6)).setCell ⟨b, 7, none⟩ (v7)).setCell ⟨b, 8, none⟩ (v8)) = w.setCells b 0 [v0, v1, v2, v3, v4, v5, v6, v7, v8] := rfl
 rw [e, setCells_heap [v0, v1, v2, v3, v4, v5, v6, v7, v8] 0 w _ h]
 simp [setRow]
set_option maxHeartbeats 400000 in
theorem cpyB_any (a : Option Addr) (la ca : Nat) (xs : List UInt8) (f : List Nat) (w : World) (ha : byteL.sl w a la ca xs f) (hz : la ≤ 140737488355327) :
  Calls Tryz.prog 141 #[.slice a la ca] w (NewSl byteL xs w) := by
 obtain ⟨K, _⟩ := kindB
 have HA := hid ha
 have HZ := hid hz
 have hn := fun w => Lib.run_eql_slice_nil (P := Tryz.prog) w 62 5 a la ca 0 0 Tryz.underlying62
 clear ha hz
 cases a with
 | none =>
  obtain rfl : xs = [] := by apply List.eq_nil_of_length_eq_zero; have := HA.out.1; have := HA.out.2.1; have := HA.out.2.2.2.1 rfl; omega
  go_enter Tryz.func141, Tryz.ntmps141
  go_wp2
  go_ret
  exact ⟨none, 0, [], rfl, nil_sl0 _ _, Fresh.nil _ _, Chg.refl _ _⟩
 | some ad =>
  have HL : Hid (([] : List UInt8).length + xs.length ≤ maxLen ∧ (([] : List UInt8).length + xs.length) * 1 ≤ 140737488355328) := by
   have := HA.out.1; have := HZ.out; have := Lay.sl_max _ HA.out
   refine ⟨?_, ?_⟩
   ·simp only [List.length_nil, maxLen]; omega
   ·simp only [List.length_nil, Nat.zero_add]; omega
  go_enter Tryz.func141, Tryz.ntmps141
  go_wp2_with (refine byteL.wpList_growS byte_flat rfl _ _ 62 rfl Tryz.underlying62 K rfl (Grow.made (Chg.refl [] w)) (Chg.refl [] _) rfl (byteL.sl_ext HA.out ((Chg.refl [] w).alloc _)) HL.out.1 HL.out.2 ?_; intro v' w' hg'; have hN := hid hg'; clear hg')
  go_ret
  obtain ⟨a', c', f', h1, h2, h3, h4⟩ := hN.out.sl
  exact ⟨a', c', f', by rw [h1]; rfl, h2, h3, h4⟩
set_option maxHeartbeats 400000 in
theorem cpyI_any (a : Option Addr) (la ca : Nat) (xs : List Int) (f : List Nat) (w : World) (ha : intL.sl w a la ca xs f) (hz : la ≤ 17592186044415) :
  Calls Tryz.prog 154 #[.slice a la ca] w (NewSl intL xs w) := by
 obtain ⟨K, _⟩ := kindI
 have HA := hid ha
 have HZ := hid hz
 have hn := fun w => Lib.run_eql_slice_nil (P := Tryz.prog) w 25 2 a la ca 0 0 Tryz.underlying25
 clear ha hz
 cases a with
 | none =>
  obtain rfl : xs = [] := by apply List.eq_nil_of_length_eq_zero; have := HA.out.1; have := HA.out.2.1; have := HA.out.2.2.2.1 rfl; omega
  go_enter Tryz.func154, Tryz.ntmps154
  go_wp2
  go_ret
  exact ⟨none, 0, [], rfl, nil_sl0 _ _, Fresh.nil _ _, Chg.refl _ _⟩
 | some ad =>
  have HL : Hid (([] : List Int).length + xs.length ≤ maxLen ∧ (([] : List Int).length + xs.length) * 8 ≤ 140737488355328) := by
   have := HA.out.1; have := HZ.out; have := Lay.sl_max _ HA.out
   refine ⟨?_, ?_⟩
   ·simp only [List.length_nil, maxLen]; omega
   ·simp only [List.length_nil, Nat.zero_add]; omega
  go_enter Tryz.func154, Tryz.ntmps154
  go_wp2_with (refine intL.wpList_growS int_flat rfl _ _ 25 rfl Tryz.underlying25 K rfl (Grow.made (Chg.refl [] w)) (Chg.refl [] _) rfl (intL.sl_ext HA.out ((Chg.refl [] w).alloc _)) HL.out.1 HL.out.2 ?_; intro v' w' hg'; have hN := hid hg'; clear hg')
  go_ret
  obtain ⟨a', c', f', h1, h2, h3, h4⟩ := hN.out.sl
  exact ⟨a', c', f', by rw [h1]; rfl, h2, h3, h4⟩
set_option maxRecDepth 100000 in
set_option maxHeartbeats 2000000 in
theorem cloneRec_any (x : Rec) (cx : Array Value) (fx : List Nat) (w : World) (hx : recL.rep w cx.toList x fx) (hz : totRec x ≤ 1048576) :
  Calls Tryz.prog 122 #[.agg cx] w (NewAgg recL x w) := by
 obtain ⟨a6, l6, c6, f6, a7, l7, c7, f7, a8, l8, c8, f8, ex, o0, o1, o2, o3, o4, o5, h6, h7, h8, -⟩ := recL_iff.1 hx
 obtain rfl := Array.toList_inj.1 (ex.trans (List.toList_toArray).symm)
 have q6 := totIs_nonneg x.rows; have q7 := totBs_nonneg x.data; have q8 := totBs_nonneg x.delta
 unfold totRec totIs totBs at hz
 unfold totIs at q6; unfold totBs at q7 q8
 have z6 : l6 ≤ 1048576 := by rw [h6.1]; omega
 have z7 : l7 ≤ 1048576 := by rw [h7.1]; omega
 have z8 : l8 ≤ 1048576 := by rw [h8.1]; omega
 have HO := hid (And.intro o0 (And.intro o1 (And.intro o2 (And.intro o3 (And.intro o4 o5)))))
 have L6 := hid h6.1.symm; have L7 := hid h7.1.symm; have L8 := hid h8.1.symm
 have H6 := hid h6; have H7 := hid h7; have H8 := hid h8
 clear hx ex hz q6 q7 q8 o0 o1 o2 o3 o4 o5 h6 h7 h8
 have g0 : Chg [] w ((w.alloc (.cells #[.int .i64 x.kind, .int .i64 x.seq, .string x.name, .int .i64 x.length, .int .i64 x.group, .int .i64 x.row, .slice a6 l6 c6, .slice a7 l7 c7, .slice a8 l8 c8] 67)).alloc (.cells #[.int .i64 0, .int .i64 0, .string ⟨#[]⟩, .int .i64 0, .int .i64 0, .int .i64 0, .slice none 0 0, .slice none 0 0, .slice none 0 0] 67)).drew := (((Chg.refl [] w).alloc _).alloc _).drew
 have B1 := hid (show ((w.alloc (.cells #[.int .i64 x.kind, .int .i64 x.seq, .string x.name, .int .i64 x.length, .int .i64 x.group, .int .i64 x.row, .slice a6 l6 c6, .slice a7 l7 c7, .slice a8 l8 c8] 67)).alloc (.cells #[.int .i64 0, .int .i64 0, .string ⟨#[]⟩, .int .i64 0, .int .i64 0, .int .i64 0, .slice none 0 0, .slice none 0 0, .slice none 0 0] 67)).drew.heap[w.heap.size]? = some (.cells #[.int .i64 x.kind, .int .i64 x.seq, .string x.name, .int .i64 x.length, .int .i64 x.group, .int .i64 x.row, .slice a6 l6 c6, .slice a7 l7 c7, .slice a8 l8 c8] 67 (0, 0)) from keep_drew (keep_alloc (new_alloc w _) _))
 have B2 := hid (show ((w.alloc (.cells #[.int .i64 x.kind, .int .i64 x.seq, .string x.name, .int .i64 x.length, .int .i64 x.group, .int .i64 x.row, .slice a6 l6 c6, .slice a7 l7 c7, .slice a8 l8 c8] 67)).alloc (.cells #[.int .i64 0, .int .i64 0, .string ⟨#[]⟩, .int .i64 0, .int .i64 0, .int .i64 0, .slice none 0 0, .slice none 0 0, .slice none 0 0] 67)).drew.heap[w.heap.size + 1]? = some (.cells #[.int .i64 0, .int .i64 0, .string ⟨#[]⟩, .int .i64 0, .int .i64 0, .int .i64 0, .slice none 0 0, .slice none 0 0, .slice none 0 0] 67 (0, 0)) from keep_drew (new_at (by simp) _))
 have hs0 : ((w.alloc (.cells #[.int .i64 x.kind, .int .i64 x.seq, .string x.name, .int .i64 x.length, .int .i64 x.group, .int .i64 x.row, .slice a6 l6 c6, .slice a7 l7 c7, .slice a8 l8 c8] 67)).alloc (.cells #[.int .i64 0, .int .i64 0, .string ⟨#[]⟩, .int .i64 0, .int .i64 0, .int .i64 0, .slice none 0 0, .slice none 0 0, .slice none 0 0] 67)).drew.heap.size = w.heap.size + 2 := by simp [World.drew]
 have G0 := hid g0
 have HS0 := hid hs0
 clear g0 hs0
 go_enter Tryz.func122, Tryz.ntmps122
 go_wp2_with fail
 obtain ⟨CC, HCI, HCO⟩ := rg_cond (fun w' => Know w.heap.size #[.int .i64 x.kind, .int .i64 x.seq, .string x.name, .int .i64 x.length, .int .i64 x.group, .int .i64 x.row, .slice a6 l6 c6, .slice a7 l7 c7, .slice a8 l8 c8] w')
 refine gg_start [10] CC (by kernel_rfl) (HCI.out _ (Know.of B1.out)) (fun hcl hS => ?_)
 refine ggT 0 hcl hS ?_; clear hcl hS; intro hcl hS
 refine ggL 1 hcl hS HCO ?_; clear hcl hS; intro hcl hS
 refine ggT 3 hcl hS ?_; clear hcl hS; intro hcl hS
 refine ggL 4 hcl hS HCO ?_; clear hcl hS; intro hcl hS
 refine ggT 6 hcl hS ?_; clear hcl hS; intro hcl hS
 refine ggL 7 hcl hS HCO ?_; clear hcl hS; intro hcl hS
 refine ggC 2 hcl rfl (by kernel_rfl) (fun K hK => ?_)
 go_simp
 go_at_call 154
 refine (cpyI_any a6 l6 c6 x.rows f6 _ (intL.sl_ext H6.out G0.out) (by omega)).mono ?_; rintro e w1 ⟨p6, d6, g6, rfl, hs, hf, hc⟩
 rw [L6.out] at hs ⊢; have HN1 := hid (And.intro hs (And.intro hf hc)); obtain ⟨-, -, A1⟩ := bk hc B1.out (by simp); obtain ⟨-, -, A2⟩ := bk hc B2.out (by simp); clear hs hf hc
 go_wp2_with fail
 refine hK.out _ _ (fun _ => HCI.out _ (Know.of A1.out)) ?_
 clear hK K hcl hS
 intro hcl hS
 try simp only [Act.put, List.setIfInBounds_toArray, List.set_cons_zero, List.set_cons_succ]
 refine ggT 9 hcl hS ?_; clear hcl hS; intro hcl hS
 refine ggC 5 hcl rfl (by kernel_rfl) (fun K hK => ?_)
 go_simp
 go_at_call 141
 refine (cpyB_any a7 l7 c7 x.data f7 _ (byteL.sl_ext H7.out (G0.out.trans0 HN1.out.2.2)) (by omega)).mono ?_; rintro e w2 ⟨p7, d7, g7, rfl, hs, hf, hc⟩
 rw [L7.out] at hs ⊢; have HN2 := hid (And.intro hs (And.intro hf hc)); obtain ⟨-, -, A3⟩ := bk hc A1.out (by simp); obtain ⟨-, -, A4⟩ := bk hc A2.out (by simp); clear hs hf hc
 go_wp2_with fail
 refine hK.out _ _ (fun _ => HCI.out _ (Know.of A3.out)) ?_
 clear hK K hcl hS
 intro hcl hS
 try simp only [Act.put, List.setIfInBounds_toArray, List.set_cons_zero, List.set_cons_succ]
 refine ggC 8 hcl rfl (by kernel_rfl) (fun K hK => ?_)
 go_simp
 go_at_call 141
 refine (cpyB_any a8 l8 c8 x.delta f8 _ (byteL.sl_ext H8.out ((G0.out.trans0 HN1.out.2.2).trans0 HN2.out.2.2)) (by omega)).mono ?_; rintro e w3 ⟨p8, d8, g8, rfl, hs, hf, hc⟩
 rw [L8.out] at hs ⊢; have HN3 := hid (And.intro hs (And.intro hf hc)); obtain ⟨e1, n1, A5⟩ := bk hc A3.out (by simp); obtain ⟨e2, n2, A6⟩ := bk hc A4.out (by simp); have fz := freeOf A5.out; have fy := freeOf A6.out; clear hs hf hc
 go_wp2_with fail
 refine hK.out _ _ (fun _ => HCI.out _ (Know.of A5.out)) ?_
 clear hK K hcl hS
 intro hcl hS
 try simp only [Act.put, List.setIfInBounds_toArray, List.set_cons_zero, List.set_cons_succ]
 refine ggC 10 hcl rfl (by kernel_rfl) (fun K hK => ?_)
 go_simp
 refine hK.out _ _ (Till.done (m := 10) (by simp) (by rfl)) ?_
 clear hK K hcl hS
 intro hcl hS
 try simp only [Act.put, List.setIfInBounds_toArray, List.set_cons_zero, List.set_cons_succ]
 refine ggT 11 hcl hS ?_; clear hcl hS; intro hcl hS
 refine ggC 12 hcl rfl (by kernel_rfl) (fun K hK => ?_)
 go_simp
 refine hK.out _ _ (Till.done (m := 10) (by simp) (by rfl)) ?_
 clear hK K hcl hS
 intro hcl hS
 try simp only [Act.put, List.setIfInBounds_toArray, List.set_cons_zero, List.set_cons_succ]
 refine ggT 13 hcl hS ?_; clear hcl hS; intro hcl hS
 refine ggC 14 hcl rfl (by kernel_rfl) (fun K hK => ?_)
 go_simp
 refine hK.out _ _ (Till.done (m := 10) (by simp) (by rfl)) ?_
 clear hK K hcl hS
 intro hcl hS
 try simp only [Act.put, List.setIfInBounds_toArray, List.set_cons_zero, List.set_cons_succ]
 refine ggEnd (by kernel_rfl) ?_ _
 go_wp2_with fail
 have hb1 : (((w3.setCell ⟨w.heap.size, 6, none⟩ (.slice p6 l6 d6)).setCell ⟨w.heap.size, 7, none⟩ (.slice p7 l7 d7)).setCell ⟨w.heap.size, 8, none⟩ (.slice p8 l8 d8)).heap[w.heap.size + 1]? = some (.cells #[.int .i64 0, .int .i64 0, .string ⟨#[]⟩, .int .i64 0, .int .i64 0, .int .i64 0, .slice none 0 0, .slice none 0 0, .slice none 0 0] 67 (0, 0)) := keep_set (keep_set (keep_set A6.out _ _ (by simp)) _ _ (by simp)) _ _ (by simp)
 have hq : ((((((((((((w3.setCell ⟨w.heap.size, 6, none⟩ (.slice p6 l6 d6)).setCell ⟨w.heap.size, 7, none⟩ (.slice p7 l7 d7)).setCell ⟨w.heap.size, 8, none⟩ (.slice p8 l8 d8)).setCell ⟨w.heap.size + 1, 0, none⟩ (.int .i64 x.kind)).setCell ⟨w.heap.size + 1, 1, none⟩ (.int .i64 x.seq)).setCell ⟨w.heap.size + 1, 2, none⟩ (.string x.name)).setCell ⟨w.heap.size + 1, 3, none⟩ (.int .i64 x.length)).setCell ⟨w.heap.size + 1, 4, none⟩ (.int .i64 x.group)).setCell ⟨w.heap.size + 1, 5, none⟩ (.int .i64 x.row)).setCell ⟨w.heap.size + 1, 6, none⟩ (.slice p6 l6 d6)).setCell ⟨w.heap.size + 1, 7, none⟩ (.slice p7 l7 d7)).setCell ⟨w.heap.size + 1, 8, none⟩ (.slice p8 l8 d8)).heap[w.heap.size + 1]? = some (.cells #[.int .i64 x.kind, .int .i64 x.seq, .string x.name, .int .i64 x.length, .int .i64 x.group, .int .i64 x.row, .slice p6 l6 d6, .slice p7 l7 d7, .slice p8 l8 d8] 67 (0, 0)) := by
  have h := row9_back (.int .i64 x.kind) (.int .i64 x.seq) (.string x.name) (.int .i64 x.length) (.int .i64 x.group) (.int .i64 x.row) (.slice p6 l6 d6) (.slice p7 l7 d7) (.slice p8 l8 d8) hb1
  exact h
 have hqc := cellsOf hq
 have s1 := HN1.out.2.2.size; have s2 := HN2.out.2.2.size; have s3 := HN3.out.2.2.size
 rw [HS0.out] at s1
 have cS : Chg [w.heap.size, w.heap.size + 1] w3 ((((((((((((w3.setCell ⟨w.heap.size, 6, none⟩ (.slice p6 l6 d6)).setCell ⟨w.heap.size, 7, none⟩ (.slice p7 l7 d7)).setCell ⟨w.heap.size, 8, none⟩ (.slice p8 l8 d8)).setCell ⟨w.heap.size + 1, 0, none⟩ (.int .i64 x.kind)).setCell ⟨w.heap.size + 1, 1, none⟩ (.int .i64 x.seq)).setCell ⟨w.heap.size + 1, 2, none⟩ (.string x.name)).setCell ⟨w.heap.size + 1, 3, none⟩ (.int .i64 x.length)).setCell ⟨w.heap.size + 1, 4, none⟩ (.int .i64 x.group)).setCell ⟨w.heap.size + 1, 5, none⟩ (.int .i64 x.row)).setCell ⟨w.heap.size + 1, 6, none⟩ (.slice p6 l6 d6)).setCell ⟨w.heap.size + 1, 7, none⟩ (.slice p7 l7 d7)).setCell ⟨w.heap.size + 1, 8, none⟩ (.slice p8 l8 d8)) := by
  iterate 12 refine Chg.setCell ?_ _ _ (.inl (by simp))
  exact Chg.refl _ _
 have nb : ∀ g (B : Nat) (W : World), w.heap.size + 2 ≤ B → Fresh B W g → ∀ b ∈ g, b ∉ [w.heap.size, w.heap.size + 1] := fun g B W hB hf b hb hm => by
  have := (hf.2 b hb).1
  simp only [List.mem_cons, List.not_mem_nil, or_false] at hm
  omega
 have n6 := nb g6 _ _ (by rw [HS0.out]; exact Nat.le_refl _) HN1.out.2.1
 have n7 := nb g7 _ _ (by omega) HN2.out.2.1
 have n8 := nb g8 _ _ (by omega) HN3.out.2.1
 have K6 := intL.sl_chg (intL.sl_ext (intL.sl_ext HN1.out.1 HN2.out.2.2) HN3.out.2.2) cS n6
 have K7 := byteL.sl_chg (byteL.sl_ext HN2.out.1 HN3.out.2.2) cS n7
 have K8 := byteL.sl_chg HN3.out.1 cS n8
 have F6 := ((HN1.out.2.1.chg HN2.out.2.2).chg HN3.out.2.2).chg cS
 have F7 := (HN2.out.2.1.chg HN3.out.2.2).chg cS
 have F8 := HN3.out.2.1.chg cS
 have l6' := HN1.out.2.1.low (Nat.le_refl _); have l7' := HN2.out.2.1.low (Nat.le_refl _)
 have hfr := (F6.append (F7.append F8 l7' (by omega)) l6' (by rw [HS0.out]; omega)).mono (C := w.heap.size) (by rw [HS0.out]; omega)
 have hch : Chg [] w ((((((((((((w3.setCell ⟨w.heap.size, 6, none⟩ (.slice p6 l6 d6)).setCell ⟨w.heap.size, 7, none⟩ (.slice p7 l7 d7)).setCell ⟨w.heap.size, 8, none⟩ (.slice p8 l8 d8)).setCell ⟨w.heap.size + 1, 0, none⟩ (.int .i64 x.kind)).setCell ⟨w.heap.size + 1, 1, none⟩ (.int .i64 x.seq)).setCell ⟨w.heap.size + 1, 2, none⟩ (.string x.name)).setCell ⟨w.heap.size + 1, 3, none⟩ (.int .i64 x.length)).setCell ⟨w.heap.size + 1, 4, none⟩ (.int .i64 x.group)).setCell ⟨w.heap.size + 1, 5, none⟩ (.int .i64 x.row)).setCell ⟨w.heap.size + 1, 6, none⟩ (.slice p6 l6 d6)).setCell ⟨w.heap.size + 1, 7, none⟩ (.slice p7 l7 d7)).setCell ⟨w.heap.size + 1, 8, none⟩ (.slice p8 l8 d8)) := (((G0.out.trans0 HN1.out.2.2).trans0 HN2.out.2.2).trans0 HN3.out.2.2).trans cS (fun y hy => .inr (by simp only [List.mem_cons, List.not_mem_nil, or_false] at hy; omega))
 refine bodyPost_ret (v := .agg #[.int .i64 x.kind, .int .i64 x.seq, .string x.name, .int .i64 x.length, .int .i64 x.group, .int .i64 x.row, .slice p6 l6 d6, .slice p7 l7 d7, .slice p8 l8 d8]) (by simp [results, Tryz.results122, go_sem, hqc]) rfl ⟨_, _, rfl, recL_iff.2 ⟨p6, l6, d6, g6, p7, l7, d7, g7, p8, l8, d8, g8, rfl, HO.out.1, HO.out.2.1, HO.out.2.2.1, HO.out.2.2.2.1, HO.out.2.2.2.2.1, HO.out.2.2.2.2.2, K6, K7, K8, rfl⟩, hfr, hch⟩
end Go.Proofs.YtphmpimgbmedbaaGreat
/- Copies: lists of records, drives: the program. -/
namespace Go.Proofs.YtphmpimgbmedbaaGreat
open Go.RowKit
open Go.Lib (hid)
set_option maxRecDepth 100000 in
set_option maxHeartbeats 2000000 in
theorem cloneRecs_any (a : Option Addr) (la ca : Nat) (xs : List Rec) (f : List Nat) (w : World) (ha : recL.sl w a la ca xs f) (hz : totL totRec xs ≤ 1048576) :
  Calls Tryz.prog 93 #[.slice a la ca] w (NewSl recL xs w) := by
 obtain ⟨K, _⟩ := kindRec
 have hlz : la ≤ 1048576 := by have := totL_len totRec_nonneg xs; rw [ha.1]; omega
 have HL := hid ha.1
 have HA := hid ha
 have HZ := hid (fun x hx => Int.le_trans (totL_mem totRec_nonneg hx) hz : ∀ x ∈ xs, totRec x ≤ 1048576)
 clear ha hz
 go_enter Tryz.func93, Tryz.ntmps93
 go_wp2_with fail
 go_loopw [3, 9] (fun vo vi wr => ∃ (k : Nat) (Wr : World), Wr = wr ∧ k ≤ la ∧ vi = .int .i64 k ∧ Grow recL 67 w wr vo (xs.take k)) (fun _ vi _ => la - (intOf vi).toNat)
 case atStart => exact ⟨0, _, rfl, by omega, rfl, by rw [List.take_zero]; exact Grow.made (Chg.refl _ _)⟩
 case round =>
  obtain ⟨k, wr, rfl, hk, rfl, hg⟩ := hrel
  by_cases hlt : k < la
  ·obtain ⟨x, b, off, a6, l6, c6, a7, l7, c7, a8, l8, c8, fq, HX, rfl, hq0, hq1, hq2, hq3, hq4, hq5, hq6, hq7, hq8, HXS⟩ := rec_at (recL.sl_ext HA.out hg.chg) hlt
   have HG := hid hg
   have HXI := hid HX.out.1
   have HXZ := hid (HZ.out x (List.mem_of_getElem? HX.out.1))
   clear hg HX
   go_wp2_with fail
   refine (cloneRec_any x #[.int .i64 x.kind, .int .i64 x.seq, .string x.name, .int .i64 x.length, .int .i64 x.group, .int .i64 x.row, .slice a6 l6 c6, .slice a7 l7 c7, .slice a8 l8 c8] fq _ (recL.ext HXS.out ((Chg.refl [] wr).alloc (.cells #[.int .i64 x.kind, .int .i64 x.seq, .string x.name, .int .i64 x.length, .int .i64 x.group, .int .i64 x.row, .slice a6 l6 c6, .slice a7 l7 c7, .slice a8 l8 c8] 67))) HXZ.out).mono ?_
   rintro e w1 ⟨cs, f1, rfl, hr, hf, hc⟩
   obtain ⟨p6, m6, d6, _, p7, m7, d7, _, p8, m8, d8, _, ex, -⟩ := recL_iff.1 hr
   obtain rfl := Array.toList_inj.1 (ex.trans (List.toList_toArray).symm)
   have HN1 := hid (And.intro hr (And.intro (hf.mono (C := wr.heap.size) (by simp)) (((Chg.refl [] wr).alloc (.cells #[.int .i64 x.kind, .int .i64 x.seq, .string x.name, .int .i64 x.length, .int .i64 x.group, .int .i64 x.row, .slice a6 l6 c6, .slice a7 l7 c7, .slice a8 l8 c8] 67)).trans0 hc)))
   have HLL : Hid ((xs.take k).length + [x].length ≤ maxLen ∧ ((xs.take k).length + [x].length) * 128 ≤ 140737488355328) := by
    refine ⟨?_, ?_⟩ <;> simp only [List.length_take, List.length_cons, List.length_nil, maxLen] <;> omega
   have HNX := hid (take_next HXI.out)
   clear ex hr hf hc hq0 hq1 hq2 hq3 hq4 hq5 hq6 hq7 hq8 HXS
   go_wp2_with (at_builtin; refine recL.wpList_grow rfl _ _ 44 rfl Tryz.underlying44 K rfl HG.out (HN1.out.2.2.alloc (.cells #[.int .i64 x.kind, .int .i64 x.seq, .string x.name, .int .i64 x.length, .int .i64 x.group, .int .i64 x.row, .slice p6 m6 d6, .slice p7 m7 d7, .slice p8 m8 d8] 67)) ⟨w1.heap.size, 0, none⟩ 1 1 [.int .i64 x.kind, .int .i64 x.seq, .string x.name, .int .i64 x.length, .int .i64 x.group, .int .i64 x.row, .slice p6 m6 d6, .slice p7 m7 d7, .slice p8 m8 d8] (ys := [x]) (f := f1) rfl rfl (new_cells w1 #[.int .i64 x.kind, .int .i64 x.seq, .string x.name, .int .i64 x.length, .int .i64 x.group, .int .i64 x.row, .slice p6 m6 d6, .slice p7 m7 d7, .slice p8 m8 d8] 67) (recL.all_single (recL.ext HN1.out.1 ((Chg.refl [] w1).alloc _))) (HN1.out.2.1.chg ((Chg.refl [] w1).alloc (.cells #[.int .i64 x.kind, .int .i64 x.seq, .string x.name, .int .i64 x.length, .int .i64 x.group, .int .i64 x.row, .slice p6 m6 d6, .slice p7 m7 d7, .slice p8 m8 d8] 67))) HLL.out.1 HLL.out.2 ?_; intro v' w' hg'; rw [← HNX.out] at hg'; have HG2 := hid hg'; clear hg')
   go_roundw
   case rel => exact ⟨k + 1, _, rfl, by omega, by go_num, HG2.out⟩
   case measure => simp [intOf]; omega
  ·obtain rfl : k = la := by omega
   rw [List.take_of_length_le (by have := HL.out; omega)] at hg
   obtain ⟨a', c', f', h1, h2, h3, h4⟩ := hg.sl
   subst h1
   have HN := hid (show NewSl recL xs w (.returned (.slice a' xs.length c')) wr from ⟨a', c', f', rfl, h2, h3, h4⟩)
   generalize xs.length = n at HN ⊢
   clear h2 h3 h4 hg
   go_wp2_with fail
   go_ret
   exact HN.out
end Go.Proofs.YtphmpimgbmedbaaGreat
/- Copies: records, blocks: the specification. -/
namespace Go.Proofs.YtphmpimgbmedbaaGreat
open Go.RowKit
open Go.Lib (hid)
set_option maxRecDepth 100000 in
set_option maxHeartbeats 2000000 in
theorem l5CopyRec_any (x : Rec) (cx : Array Value) (fx : List Nat) (w : World) (hx : recL.rep w cx.toList x fx) (hz : totRec x ≤ 1048576) :
  Calls Tryz.prog 165 #[.agg cx] w (NewAgg recL x w) := by
 obtain ⟨KI, _⟩ := kindI
 obtain ⟨KB, _⟩ := kindB
 obtain ⟨a6, l6, c6, f6, a7, l7, c7, f7, a8, l8, c8, f8, ex, o0, o1, o2, o3, o4, o5, h6, h7, h8, -⟩ := recL_iff.1 hx
 obtain rfl := Array.toList_inj.1 (ex.trans (List.toList_toArray).symm)
 have q6 := totIs_nonneg x.rows; have q7 := totBs_nonneg x.data; have q8 := totBs_nonneg x.delta
 unfold totRec totIs totBs at hz
 unfold totIs at q6; unfold totBs at q7 q8
 have z6 : l6 ≤ 1048576 := by rw [h6.1]; omega
 have z7 : l7 ≤ 1048576 := by rw [h7.1]; omega
 have z8 : l8 ≤ 1048576 := by rw [h8.1]; omega
 have HO := hid (And.intro o0 (And.intro o1 (And.intro o2 (And.intro o3 (And.intro o4 o5)))))
 have L6 := hid h6.1.symm; have L7 := hid h7.1.symm; have L8 := hid h8.1.symm
 have H6 := hid h6; have H7 := hid h7; have H8 := hid h8
 clear hx ex hz q6 q7 q8 o0 o1 o2 o3 o4 o5 h6 h7 h8
 have G0 := hid (show Chg [] w ((w.alloc (.cells #[.int .i64 x.kind, .int .i64 x.seq, .string x.name, .int .i64 x.length, .int .i64 x.group, .int .i64 x.row, .slice a6 l6 c6, .slice a7 l7 c7, .slice a8 l8 c8] 67)).alloc (.cells #[.int .i64 0, .int .i64 0, .string ⟨#[]⟩, .int .i64 0, .int .i64 0, .int .i64 0, .slice none 0 0, .slice none 0 0, .slice none 0 0] 67)) from ((Chg.refl [] w).alloc _).alloc _)
 have A0 := hid (show ((w.alloc (.cells #[.int .i64 x.kind, .int .i64 x.seq, .string x.name, .int .i64 x.length, .int .i64 x.group, .int .i64 x.row, .slice a6 l6 c6, .slice a7 l7 c7, .slice a8 l8 c8] 67)).alloc (.cells #[.int .i64 0, .int .i64 0, .string ⟨#[]⟩, .int .i64 0, .int .i64 0, .int .i64 0, .slice none 0 0, .slice none 0 0, .slice none 0 0] 67)).heap[w.heap.size]? = some (.cells #[.int .i64 x.kind, .int .i64 x.seq, .string x.name, .int .i64 x.length, .int .i64 x.group, .int .i64 x.row, .slice a6 l6 c6, .slice a7 l7 c7, .slice a8 l8 c8] 67 (0, 0)) from keep_alloc (new_alloc w _) _)
 have B0 := hid (show ((w.alloc (.cells #[.int .i64 x.kind, .int .i64 x.seq, .string x.name, .int .i64 x.length, .int .i64 x.group, .int .i64 x.row, .slice a6 l6 c6, .slice a7 l7 c7, .slice a8 l8 c8] 67)).alloc (.cells #[.int .i64 0, .int .i64 0, .string ⟨#[]⟩, .int .i64 0, .int .i64 0, .int .i64 0, .slice none 0 0, .slice none 0 0, .slice none 0 0] 67)).heap[w.heap.size + 1]? = some (.cells #[.int .i64 0, .int .i64 0, .string ⟨#[]⟩, .int .i64 0, .int .i64 0, .int .i64 0, .slice none 0 0, .slice none 0 0, .slice none 0 0] 67 (0, 0)) from new_at (by simp) _)
 have S0 := hid (show w.heap.size + 2 ≤ ((w.alloc (.cells #[.int .i64 x.kind, .int .i64 x.seq, .string x.name, .int .i64 x.length, .int .i64 x.group, .int .i64 x.row, .slice a6 l6 c6, .slice a7 l7 c7, .slice a8 l8 c8] 67)).alloc (.cells #[.int .i64 0, .int .i64 0, .string ⟨#[]⟩, .int .i64 0, .int .i64 0, .int .i64 0, .slice none 0 0, .slice none 0 0, .slice none 0 0] 67)).heap.size by simp)
 have HL6 : Hid (([] : List Int).length + x.rows.length ≤ maxLen ∧ (([] : List Int).length + x.rows.length) * 8 ≤ 140737488355328) := by
  have := L6.out
  refine ⟨?_, ?_⟩ <;> simp only [List.length_nil, maxLen] <;> omega
 have HL7 : Hid (([] : List UInt8).length + x.data.length ≤ maxLen ∧ (([] : List UInt8).length + x.data.length) * 1 ≤ 140737488355328) := by
  have := L7.out
  refine ⟨?_, ?_⟩ <;> simp only [List.length_nil, maxLen] <;> omega
 have HL8 : Hid (([] : List UInt8).length + x.delta.length ≤ maxLen ∧ (([] : List UInt8).length + x.delta.length) * 1 ≤ 140737488355328) := by
  have := L8.out
  refine ⟨?_, ?_⟩ <;> simp only [List.length_nil, maxLen] <;> omega
 go_enter Tryz.func165, Tryz.ntmps165
 go_wp2_with (at_builtin; first | (refine intL.wpList_growS int_flat rfl _ _ 25 rfl Tryz.underlying25 KI rfl (Grow.madeN (Chg.refl [] ((w.alloc (.cells #[.int .i64 x.kind, .int .i64 x.seq, .string x.name, .int .i64 x.length, .int .i64 x.group, .int .i64 x.row, .slice a6 l6 c6, .slice a7 l7 c7, .slice a8 l8 c8] 67)).alloc (.cells #[.int .i64 0, .int .i64 0, .string ⟨#[]⟩, .int .i64 0, .int .i64 0, .int .i64 0, .slice none 0 0, .slice none 0 0, .slice none 0 0] 67))) (by simp)) (Chg.refl [] _) rfl (intL.sl_ext H6.out (G0.out.alloc _)) HL6.out.1 HL6.out.2 ?_; intro v' w1 hg'; obtain ⟨p6, d6, g6, rfl, hs, hf, hc⟩ := hg'.sl; rw [List.nil_append, L6.out] at hs hg' ⊢; obtain ⟨e1, n1, A1'⟩ := bk hc A0.out (by simp); obtain ⟨-, -, B1'⟩ := bk hc B0.out (by simp); have fz1 := freeOf A1'.out; have A1 := hid (show (w1.setCell ⟨w.heap.size, 6, none⟩ (.slice p6 l6 d6)).heap[w.heap.size]? = some (.cells #[.int .i64 x.kind, .int .i64 x.seq, .string x.name, .int .i64 x.length, .int .i64 x.group, .int .i64 x.row, .slice p6 l6 d6, .slice a7 l7 c7, .slice a8 l8 c8] 67 (0, 0)) from heap_set_lit (cur := #[.int .i64 x.kind, .int .i64 x.seq, .string x.name, .int .i64 x.length, .int .i64 x.group, .int .i64 x.row, .slice a6 l6 c6, .slice a7 l7 c7, .slice a8 l8 c8]) A1'.out rfl); have B1 := hid (keep_set B1'.out ⟨w.heap.size, 6, none⟩ (.slice p6 l6 d6) (by simp)); have G1 := hid ((G0.out.trans0 hc).setCell ⟨w.heap.size, 6, none⟩ (.slice p6 l6 d6) (.inr (by simp))); have N1 := hid (And.intro hs (And.intro hf hc)); clear hs hf hc hg') | (refine byteL.wpList_growS byte_flat rfl _ _ 62 rfl Tryz.underlying62 KB rfl (Grow.madeN (Chg.refl [] (w1.setCell ⟨w.heap.size, 6, none⟩ (.slice p6 l6 d6))) (by simp)) (Chg.refl [] _) rfl (byteL.sl_ext H7.out (G1.out.alloc _)) HL7.out.1 HL7.out.2 ?_; intro v' w2 hg'; obtain ⟨p7, d7, g7, rfl, hs, hf, hc⟩ := hg'.sl; rw [List.nil_append, L7.out] at hs hg' ⊢; obtain ⟨e2, n2, A2'⟩ := bk hc A1.out (by simp); obtain ⟨-, -, B2'⟩ := bk hc B1.out (by simp); have fz2 := freeOf A2'.out; have A2 := hid (show (w2.setCell ⟨w.heap.size, 7, none⟩ (.slice p7 l7 d7)).heap[w.heap.size]? = some (.cells #[.int .i64 x.kind, .int .i64 x.seq, .string x.name, .int .i64 x.length, .int .i64 x.group, .int .i64 x.row, .slice p6 l6 d6, .slice p7 l7 d7, .slice a8 l8 c8] 67 (0, 0)) from heap_set_lit (cur := #[.int .i64 x.kind, .int .i64 x.seq, .string x.name, .int .i64 x.length, .int .i64 x.group, .int .i64 x.row, .slice p6 l6 d6, .slice a7 l7 c7, .slice a8 l8 c8]) A2'.out rfl); have B2 := hid (keep_set B2'.out ⟨w.heap.size, 7, none⟩ (.slice p7 l7 d7) (by simp)); have G2 := hid ((G1.out.trans0 hc).setCell ⟨w.heap.size, 7, none⟩ (.slice p7 l7 d7) (.inr (by simp))); have N2 := hid (And.intro hs (And.intro hf hc)); clear hs hf hc hg') | (refine byteL.wpList_growS byte_flat rfl _ _ 62 rfl Tryz.underlying62 KB rfl (Grow.madeN (Chg.refl [] (w2.setCell ⟨w.heap.size, 7, none⟩ (.slice p7 l7 d7))) (by simp)) (Chg.refl [] _) rfl (byteL.sl_ext H8.out (G2.out.alloc _)) HL8.out.1 HL8.out.2 ?_; intro v' w3 hg'; obtain ⟨p8, d8, g8, rfl, hs, hf, hc⟩ := hg'.sl; rw [List.nil_append, L8.out] at hs hg' ⊢; obtain ⟨e3, n3, A3'⟩ := bk hc A2.out (by simp); obtain ⟨k3, m3, B3'⟩ := bk hc B2.out (by simp); have fz3 := freeOf A3'.out; have A3 := hid (show (w3.setCell ⟨w.heap.size, 8, none⟩ (.slice p8 l8 d8)).heap[w.heap.size]? = some (.cells #[.int .i64 x.kind, .int .i64 x.seq, .string x.name, .int .i64 x.length, .int .i64 x.group, .int .i64 x.row, .slice p6 l6 d6, .slice p7 l7 d7, .slice p8 l8 d8] 67 (0, 0)) from heap_set_lit (cur := #[.int .i64 x.kind, .int .i64 x.seq, .string x.name, .int .i64 x.length, .int .i64 x.group, .int .i64 x.row, .slice p6 l6 d6, .slice p7 l7 d7, .slice a8 l8 c8]) A3'.out rfl); have B3 := hid (keep_set B3'.out ⟨w.heap.size, 8, none⟩ (.slice p8 l8 d8) (by simp)); have G3 := hid ((G2.out.trans0 hc).setCell ⟨w.heap.size, 8, none⟩ (.slice p8 l8 d8) (.inr (by simp))); have N3 := hid (And.intro hs (And.intro hf hc)); have z3 := freeOf B3'.out; clear hs hf hc hg'))
 have hq : ((((((((((w3.setCell ⟨w.heap.size, 8, none⟩ (.slice p8 l8 d8)).setCell ⟨w.heap.size + 1, 0, none⟩ (.int .i64 x.kind)).setCell ⟨w.heap.size + 1, 1, none⟩ (.int .i64 x.seq)).setCell ⟨w.heap.size + 1, 2, none⟩ (.string x.name)).setCell ⟨w.heap.size + 1, 3, none⟩ (.int .i64 x.length)).setCell ⟨w.heap.size + 1, 4, none⟩ (.int .i64 x.group)).setCell ⟨w.heap.size + 1, 5, none⟩ (.int .i64 x.row)).setCell ⟨w.heap.size + 1, 6, none⟩ (.slice p6 l6 d6)).setCell ⟨w.heap.size + 1, 7, none⟩ (.slice p7 l7 d7)).setCell ⟨w.heap.size + 1, 8, none⟩ (.slice p8 l8 d8)).heap[w.heap.size + 1]? = some (.cells #[.int .i64 x.kind, .int .i64 x.seq, .string x.name, .int .i64 x.length, .int .i64 x.group, .int .i64 x.row, .slice p6 l6 d6, .slice p7 l7 d7, .slice p8 l8 d8] 67 (0, 0)) := by
  have h := row9_back (.int .i64 x.kind) (.int .i64 x.seq) (.string x.name) (.int .i64 x.length) (.int .i64 x.group) (.int .i64 x.row) (.slice p6 l6 d6) (.slice p7 l7 d7) (.slice p8 l8 d8) B3.out
  exact h
 have hqc := cellsOf hq
 have D3 : Chg [w.heap.size, w.heap.size + 1] w3 ((((((((((w3.setCell ⟨w.heap.size, 8, none⟩ (.slice p8 l8 d8)).setCell ⟨w.heap.size + 1, 0, none⟩ (.int .i64 x.kind)).setCell ⟨w.heap.size + 1, 1, none⟩ (.int .i64 x.seq)).setCell ⟨w.heap.size + 1, 2, none⟩ (.string x.name)).setCell ⟨w.heap.size + 1, 3, none⟩ (.int .i64 x.length)).setCell ⟨w.heap.size + 1, 4, none⟩ (.int .i64 x.group)).setCell ⟨w.heap.size + 1, 5, none⟩ (.int .i64 x.row)).setCell ⟨w.heap.size + 1, 6, none⟩ (.slice p6 l6 d6)).setCell ⟨w.heap.size + 1, 7, none⟩ (.slice p7 l7 d7)).setCell ⟨w.heap.size + 1, 8, none⟩ (.slice p8 l8 d8)) := by
  iterate 10 refine Chg.setCell ?_ _ _ (.inl (by simp))
  exact Chg.refl _ _
 have D2 : Chg [w.heap.size, w.heap.size + 1] w2 ((((((((((w3.setCell ⟨w.heap.size, 8, none⟩ (.slice p8 l8 d8)).setCell ⟨w.heap.size + 1, 0, none⟩ (.int .i64 x.kind)).setCell ⟨w.heap.size + 1, 1, none⟩ (.int .i64 x.seq)).setCell ⟨w.heap.size + 1, 2, none⟩ (.string x.name)).setCell ⟨w.heap.size + 1, 3, none⟩ (.int .i64 x.length)).setCell ⟨w.heap.size + 1, 4, none⟩ (.int .i64 x.group)).setCell ⟨w.heap.size + 1, 5, none⟩ (.int .i64 x.row)).setCell ⟨w.heap.size + 1, 6, none⟩ (.slice p6 l6 d6)).setCell ⟨w.heap.size + 1, 7, none⟩ (.slice p7 l7 d7)).setCell ⟨w.heap.size + 1, 8, none⟩ (.slice p8 l8 d8)) := (((Chg.refl [w.heap.size, w.heap.size + 1] w2).setCell _ _ (.inl (by simp))).trans0 N3.out.2.2).trans D3 (fun y hy => .inl hy)
 have D1 : Chg [w.heap.size, w.heap.size + 1] w1 ((((((((((w3.setCell ⟨w.heap.size, 8, none⟩ (.slice p8 l8 d8)).setCell ⟨w.heap.size + 1, 0, none⟩ (.int .i64 x.kind)).setCell ⟨w.heap.size + 1, 1, none⟩ (.int .i64 x.seq)).setCell ⟨w.heap.size + 1, 2, none⟩ (.string x.name)).setCell ⟨w.heap.size + 1, 3, none⟩ (.int .i64 x.length)).setCell ⟨w.heap.size + 1, 4, none⟩ (.int .i64 x.group)).setCell ⟨w.heap.size + 1, 5, none⟩ (.int .i64 x.row)).setCell ⟨w.heap.size + 1, 6, none⟩ (.slice p6 l6 d6)).setCell ⟨w.heap.size + 1, 7, none⟩ (.slice p7 l7 d7)).setCell ⟨w.heap.size + 1, 8, none⟩ (.slice p8 l8 d8)) := (((Chg.refl [w.heap.size, w.heap.size + 1] w1).setCell _ _ (.inl (by simp))).trans0 N2.out.2.2).trans D2 (fun y hy => .inl hy)
 have s1 : w.heap.size + 2 ≤ w1.heap.size := Nat.le_trans S0.out N1.out.2.2.size
 have s2 : w1.heap.size ≤ w2.heap.size := by have := N2.out.2.2.size; simpa using this
 have f1 := N1.out.2.1.mono (C := w.heap.size + 2) S0.out
 have f2 := N2.out.2.1.mono (C := w1.heap.size) (by simp)
 have f3 := N3.out.2.1.mono (C := w2.heap.size) (by simp)
 have K6 := intL.sl_chg N1.out.1 D1 (f1.nots _ (by simp))
 have K7 := byteL.sl_chg N2.out.1 D2 (f2.nots _ (by simp; omega))
 have K8 := byteL.sl_chg N3.out.1 D3 (f3.nots _ (by simp; omega))
 have hfr := ((f1.chg D1).append ((f2.chg D2).append (f3.chg D3) f2.lts s2) f1.lts s1).mono (C := w.heap.size) (by omega)
 have hch : Chg [] w ((((((((((w3.setCell ⟨w.heap.size, 8, none⟩ (.slice p8 l8 d8)).setCell ⟨w.heap.size + 1, 0, none⟩ (.int .i64 x.kind)).setCell ⟨w.heap.size + 1, 1, none⟩ (.int .i64 x.seq)).setCell ⟨w.heap.size + 1, 2, none⟩ (.string x.name)).setCell ⟨w.heap.size + 1, 3, none⟩ (.int .i64 x.length)).setCell ⟨w.heap.size + 1, 4, none⟩ (.int .i64 x.group)).setCell ⟨w.heap.size + 1, 5, none⟩ (.int .i64 x.row)).setCell ⟨w.heap.size + 1, 6, none⟩ (.slice p6 l6 d6)).setCell ⟨w.heap.size + 1, 7, none⟩ (.slice p7 l7 d7)).setCell ⟨w.heap.size + 1, 8, none⟩ (.slice p8 l8 d8)) := (G0.out.trans0 N1.out.2.2).trans D1 (fun y hy => .inr (by simp only [List.mem_cons, List.not_mem_nil, or_false] at hy; omega))
 refine bodyPost_ret (v := .agg #[.int .i64 x.kind, .int .i64 x.seq, .string x.name, .int .i64 x.length, .int .i64 x.group, .int .i64 x.row, .slice p6 l6 d6, .slice p7 l7 d7, .slice p8 l8 d8]) (by simp [results, Tryz.results165, go_sem, hqc]) rfl ⟨_, _, rfl, recL_iff.2 ⟨p6, l6, d6, g6, p7, l7, d7, g7, p8, l8, d8, g8, rfl, HO.out.1, HO.out.2.1, HO.out.2.2.1, HO.out.2.2.2.1, HO.out.2.2.2.2.1, HO.out.2.2.2.2.2, K6, K7, K8, by simp⟩, hfr, hch⟩
set_option maxRecDepth 100000 in
set_option maxHeartbeats 2000000 in
theorem l5CopyRecs_any (a : Option Addr) (la ca : Nat) (xs : List Rec) (f : List Nat) (w : World) (ha : recL.sl w a la ca xs f) (hz : totL totRec xs ≤ 1048576) :
  Calls Tryz.prog 91 #[.slice a la ca] w (NewSl recL xs w) := by
 obtain ⟨K, _⟩ := kindRec
 have hlz : la ≤ 1048576 := by have := totL_len totRec_nonneg xs; rw [ha.1]; omega
 have HL := hid ha.1
 have HA := hid ha
 have HZ := hid (fun x hx => Int.le_trans (totL_mem totRec_nonneg hx) hz : ∀ x ∈ xs, totRec x ≤ 1048576)
 clear ha hz
 go_enter Tryz.func91, Tryz.ntmps91
 go_wp2_with fail
 go_loopw [3, 4] (fun vo vi wr => ∃ (k : Nat) (Wr : World), Wr = wr ∧ k ≤ la ∧ vi = .int .i64 k ∧ Grow recL 67 w wr vo (xs.take k)) (fun _ vi _ => la - (intOf vi).toNat)
 case atStart => exact ⟨0, _, rfl, by omega, rfl, by rw [List.take_zero]; exact Grow.made (Chg.refl _ _)⟩
 case round =>
  obtain ⟨k, wr, rfl, hk, rfl, hg⟩ := hrel
  by_cases hlt : k < la
  ·obtain ⟨x, b, off, a6, l6, c6, a7, l7, c7, a8, l8, c8, fq, HX, rfl, hq0, hq1, hq2, hq3, hq4, hq5, hq6, hq7, hq8, HXS⟩ := rec_at (recL.sl_ext HA.out hg.chg) hlt
   have HG := hid hg
   have HXI := hid HX.out.1
   have HXZ := hid (HZ.out x (List.mem_of_getElem? HX.out.1))
   clear hg HX
   go_wp2_with fail
   refine (l5CopyRec_any x #[.int .i64 x.kind, .int .i64 x.seq, .string x.name, .int .i64 x.length, .int .i64 x.group, .int .i64 x.row, .slice a6 l6 c6, .slice a7 l7 c7, .slice a8 l8 c8] fq _ HXS.out HXZ.out).mono ?_
   rintro e w1 ⟨cs, f1, rfl, hr, hf, hc⟩
   obtain ⟨p6, m6, d6, _, p7, m7, d7, _, p8, m8, d8, _, ex, -⟩ := recL_iff.1 hr
   obtain rfl := Array.toList_inj.1 (ex.trans (List.toList_toArray).symm)
   have HN1 := hid (And.intro hr (And.intro hf hc))
   have HLL : Hid ((xs.take k).length + [x].length ≤ maxLen ∧ ((xs.take k).length + [x].length) * 128 ≤ 140737488355328) := by
    refine ⟨?_, ?_⟩ <;> simp only [List.length_take, List.length_cons, List.length_nil, maxLen] <;> omega
   have HNX := hid (take_next HXI.out)
   clear ex hr hf hc hq0 hq1 hq2 hq3 hq4 hq5 hq6 hq7 hq8 HXS
   go_wp2_with (at_builtin; refine recL.wpList_grow rfl _ _ 44 rfl Tryz.underlying44 K rfl HG.out (HN1.out.2.2.alloc (.cells #[.int .i64 x.kind, .int .i64 x.seq, .string x.name, .int .i64 x.length, .int .i64 x.group, .int .i64 x.row, .slice p6 m6 d6, .slice p7 m7 d7, .slice p8 m8 d8] 67)) ⟨w1.heap.size, 0, none⟩ 1 1 [.int .i64 x.kind, .int .i64 x.seq, .string x.name, .int .i64 x.length, .int .i64 x.group, .int .i64 x.row, .slice p6 m6 d6, .slice p7 m7 d7, .slice p8 m8 d8] (ys := [x]) (f := f1) rfl rfl (new_cells w1 #[.int .i64 x.kind, .int .i64 x.seq, .string x.name, .int .i64 x.length, .int .i64 x.group, .int .i64 x.row, .slice p6 m6 d6, .slice p7 m7 d7, .slice p8 m8 d8] 67) (recL.all_single (recL.ext HN1.out.1 ((Chg.refl [] w1).alloc _))) (HN1.out.2.1.chg ((Chg.refl [] w1).alloc (.cells #[.int .i64 x.kind, .int .i64 x.seq, .string x.name, .int .i64 x.length, .int .i64 x.group, .int .i64 x.row, .slice p6 m6 d6, .slice p7 m7 d7, .slice p8 m8 d8] 67))) HLL.out.1 HLL.out.2 ?_; intro v' w' hg'; rw [← HNX.out] at hg'; have HG2 := hid hg'; clear hg')
   go_roundw
   case rel => exact ⟨k + 1, _, rfl, by omega, by go_num, HG2.out⟩
   case measure => simp [intOf]; omega
  ·obtain rfl : k = la := by omega
   rw [List.take_of_length_le (by have := HL.out; omega)] at hg
   obtain ⟨a', c', f', h1, h2, h3, h4⟩ := hg.sl
   subst h1
   have HN := hid (show NewSl recL xs w (.returned (.slice a' xs.length c')) wr from ⟨a', c', f', rfl, h2, h3, h4⟩)
   generalize xs.length = n at HN ⊢
   clear h2 h3 h4 hg
   go_wp2_with fail
   go_ret
   exact HN.out
end Go.Proofs.YtphmpimgbmedbaaGreat
/- What is wrong with a world: the reference. -/
namespace Go.Proofs.YtphmpimgbmedbaaGreat
open Go.RowKit
open Go.Lib (hid)
theorem ck {a b : World} {bl o : Nat} {v : Value} (hc : Hid (Chg [] a b)) (h : Hid (a.cell? ⟨bl, o, none⟩ = some v)) (hl : Hid (bl < a.heap.size)) : b.cell? ⟨bl, o, none⟩ = some v ∧ bl < b.heap.size :=
 ⟨cellKeep hc.out h.out hl.out, Nat.lt_of_lt_of_le hl.out hc.out.size⟩
theorem apart_c (a : Option Addr) (la ca : Nat) (xs : List Int) (f : List Nat) (m : Int) (w : World) (ha : intL.sl w a la ca xs f) :
  Calls Tryz.prog 118 #[.slice a la ca, .int .i64 m] w fun e w' => e = .returned (.bool (pb (Apart m xs))) ∧ Chg [] w w' := l5Apart_any a la ca xs f m w ha
set_option maxRecDepth 100000 in
set_option maxHeartbeats 4000000 in
theorem l5Built_any (x : Wld) (hs : x.shape.ok) (cx : Array Value) (fx : List Nat) (w : World) (hx : wldL.rep w cx.toList x fx) :
  Calls Tryz.prog 117 #[.agg cx] w fun e w' => e = .returned (.bool (pb x.built)) ∧ Chg [] w w' := by
 obtain ⟨a10, l10, c10, f10, a11, l11, c11, f11, a12, l12, c12, f12, ex, o1, o2, o3, o4, o5, o6, o7, o8, o9, h10, h11, h12, o13, o14, -⟩ := wldL_iff.1 hx
 clear o1 o2 o3 o4 o5 o6 o7 o8 o9
 obtain rfl := Array.toList_inj.1 (ex.trans (List.toList_toArray).symm)
 clear ex
 have q10 := drvL.slice.sl_max h10; have q11 := intL.sl_max h11; have q12 := tapL.sl_max h12
 have H10 := hid h10; have H11 := hid h11; have H12 := hid h12
 have HX := hid hx
 have Z10 := hid h10.1; have Z11 := hid h11.1; have Z12 := hid h12.1
 clear h10 h11 h12 hx
 have hal := hs.all; have hdr := hs.drives; have hrw := hs.rows
 have HS := hid hs
 clear hs
 have HC : Hid (Chg [] w w) := Chg.refl _ _
 by_cases h1 : (l10 : Int) = x.shape.all
 rotate_left
 ·have HR := hid (show pb x.built = false from pb_false (fun h => h1 (by rw [Z10.out]; exact h.1)))
  have e1 : ((l10 : Int) != x.shape.all) = true := by simp; exact h1
  clear h1
  go_enter Tryz.func117, Tryz.ntmps117
  go_wp2_with fail
  obtain ⟨SS1, HSI1, HSO1⟩ := rg_cond (fun w' => Know (w.heap.size) #[.int .i64 x.shape.groups, .int .i64 x.shape.column, .int .i64 x.shape.data, .int .i64 x.shape.spare, .int .i64 x.shape.rows, .int .i64 x.shape.cap, .int .i64 x.shape.batch, .int .i64 x.shape.queue, .int .i64 x.shape.stage, .slice a10 l10 c10, .slice a11 l11 c11, .slice a12 l12 c12, .int .i64 x.writes, .int .i64 x.stop, .bool x.down] w' ∧ Know (w.heap.size + 1) #[.int .i64 x.shape.groups, .int .i64 x.shape.column, .int .i64 x.shape.data, .int .i64 x.shape.spare, .int .i64 x.shape.rows, .int .i64 x.shape.cap, .int .i64 x.shape.batch, .int .i64 x.shape.queue, .int .i64 x.shape.stage] w')
  have hS0 := HSI1.out (((w.alloc (.cells #[.int .i64 x.shape.groups, .int .i64 x.shape.column, .int .i64 x.shape.data, .int .i64 x.shape.spare, .int .i64 x.shape.rows, .int .i64 x.shape.cap, .int .i64 x.shape.batch, .int .i64 x.shape.queue, .int .i64 x.shape.stage, .slice a10 l10 c10, .slice a11 l11 c11, .slice a12 l12 c12, .int .i64 x.writes, .int .i64 x.stop, .bool x.down] 34)).alloc (.cells #[.int .i64 x.shape.groups, .int .i64 x.shape.column, .int .i64 x.shape.data, .int .i64 x.shape.spare, .int .i64 x.shape.rows, .int .i64 x.shape.cap, .int .i64 x.shape.batch, .int .i64 x.shape.queue, .int .i64 x.shape.stage] 30)).drew) ⟨(Know.of (by refine keep_drew ?_; refine keep_alloc ?_ _; exact new_at (by simp) _)), (Know.of (by refine keep_drew ?_; exact new_at (by simp) _))⟩
  refine rg_start SS1 (by kernel_rfl) hS0 ?_
  refine rgT 0 hS0 ?_
  refine rgL 1 hS0 HSO1 ?_
  refine rgT 2 hS0 ?_
  refine rgL 3 hS0 HSO1 ?_
  refine rg_call 4 rfl (by kernel_rfl) (fun K hK => ?_)
  go_simp
  go_at_call 100
  refine (l5All_any x.shape HS.out _).mono ?_
  rintro e w1 ⟨rfl, hc⟩
  obtain ⟨cW, lW, HBW⟩ := bk hc (b := w.heap.size) (keep_drew (keep_alloc (new_at (by simp) _) _)) (by simp)
  obtain ⟨cS, lS, HBS⟩ := bk hc (b := w.heap.size + 1) (keep_drew (new_at (by simp) _)) (by simp)
  have h := Chg.trans0 (Chg.drew (Chg.alloc (Chg.alloc HC.out _) _)) hc; clear HC; have HC := hid h; clear h
  clear hc
  go_wp2_with fail
  refine hK.out _ _ (HSI1.out _ ⟨cW, cS⟩) (fun hS1 => ?_)
  clear hK K
  try simp only [Act.put, List.setIfInBounds_toArray, List.set_cons_zero, List.set_cons_succ]
  refine rgT 5 hS1 ?_
  refine wpAnyH_done (by kernel_rfl) ?_ _
  go_wp2_with fail
  go_ret
  exact ⟨ret_bool HR.out.symm, HC.out⟩
 obtain ⟨_, bg, og, _, _, _, _, _, rfl, _, _⟩ := slc_at H10.out (show 0 < l10 by omega)
 have e1 : ((l10 : Int) != x.shape.all) = false := by simp; exact h1
 have HL1 := hid h1
 clear h1
 go_enter Tryz.func117, Tryz.ntmps117
 go_wp2_with fail
 obtain ⟨SS1, HSI1, HSO1⟩ := rg_cond (fun w' => Know (w.heap.size) #[.int .i64 x.shape.groups, .int .i64 x.shape.column, .int .i64 x.shape.data, .int .i64 x.shape.spare, .int .i64 x.shape.rows, .int .i64 x.shape.cap, .int .i64 x.shape.batch, .int .i64 x.shape.queue, .int .i64 x.shape.stage, .slice (some ⟨bg, og, none⟩) l10 c10, .slice a11 l11 c11, .slice a12 l12 c12, .int .i64 x.writes, .int .i64 x.stop, .bool x.down] w' ∧ Know (w.heap.size + 1) #[.int .i64 x.shape.groups, .int .i64 x.shape.column, .int .i64 x.shape.data, .int .i64 x.shape.spare, .int .i64 x.shape.rows, .int .i64 x.shape.cap, .int .i64 x.shape.batch, .int .i64 x.shape.queue, .int .i64 x.shape.stage] w')
 have hS0 := HSI1.out (((w.alloc (.cells #[.int .i64 x.shape.groups, .int .i64 x.shape.column, .int .i64 x.shape.data, .int .i64 x.shape.spare, .int .i64 x.shape.rows, .int .i64 x.shape.cap, .int .i64 x.shape.batch, .int .i64 x.shape.queue, .int .i64 x.shape.stage, .slice (some ⟨bg, og, none⟩) l10 c10, .slice a11 l11 c11, .slice a12 l12 c12, .int .i64 x.writes, .int .i64 x.stop, .bool x.down] 34)).alloc (.cells #[.int .i64 x.shape.groups, .int .i64 x.shape.column, .int .i64 x.shape.data, .int .i64 x.shape.spare, .int .i64 x.shape.rows, .int .i64 x.shape.cap, .int .i64 x.shape.batch, .int .i64 x.shape.queue, .int .i64 x.shape.stage] 30)).drew) ⟨(Know.of (by refine keep_drew ?_; refine keep_alloc ?_ _; exact new_at (by simp) _)), (Know.of (by refine keep_drew ?_; exact new_at (by simp) _))⟩
 refine rg_start SS1 (by kernel_rfl) hS0 ?_
 refine rgT 0 hS0 ?_
 refine rgL 1 hS0 HSO1 ?_
 refine rgT 2 hS0 ?_
 refine rgL 3 hS0 HSO1 ?_
 refine rg_call 4 rfl (by kernel_rfl) (fun K hK => ?_)
 go_simp
 go_at_call 100
 refine (l5All_any x.shape HS.out _).mono ?_
 rintro e w1 ⟨rfl, hc⟩
 obtain ⟨cW, lW, HBW⟩ := bk hc (b := w.heap.size) (keep_drew (keep_alloc (new_at (by simp) _) _)) (by simp)
 obtain ⟨cS, lS, HBS⟩ := bk hc (b := w.heap.size + 1) (keep_drew (new_at (by simp) _)) (by simp)
 have h := Chg.trans0 (Chg.drew (Chg.alloc (Chg.alloc HC.out _) _)) hc; clear HC; have HC := hid h; clear h
 clear hc
 go_wp2_with fail
 refine hK.out _ _ (HSI1.out _ ⟨cW, cS⟩) (fun hS1 => ?_)
 clear hK K
 try simp only [Act.put, List.setIfInBounds_toArray, List.set_cons_zero, List.set_cons_succ]
 refine rgT 5 hS1 ?_
 refine wpAnyH_done (by kernel_rfl) ?_ _
 go_wp2_with fail
 go_loopw [4] (fun i wr => ∃ (k : Nat) (Wr : World), Wr = wr ∧ k ≤ l10 ∧ i = .int .i64 k ∧ Hid (∀ (j : Nat) y, j < k → x.groups[j]? = some y → GrpOk x.shape y) ∧ Chg [] w wr ∧ wr.heap[w.heap.size]? = some (.cells #[.int .i64 x.shape.groups, .int .i64 x.shape.column, .int .i64 x.shape.data, .int .i64 x.shape.spare, .int .i64 x.shape.rows, .int .i64 x.shape.cap, .int .i64 x.shape.batch, .int .i64 x.shape.queue, .int .i64 x.shape.stage, .slice (some ⟨bg, og, none⟩) l10 c10, .slice a11 l11 c11, .slice a12 l12 c12, .int .i64 x.writes, .int .i64 x.stop, .bool x.down] 34 (0, 0)) ∧ wr.heap[w.heap.size + 1]? = some (.cells #[.int .i64 x.shape.groups, .int .i64 x.shape.column, .int .i64 x.shape.data, .int .i64 x.shape.spare, .int .i64 x.shape.rows, .int .i64 x.shape.cap, .int .i64 x.shape.batch, .int .i64 x.shape.queue, .int .i64 x.shape.stage] 30 (0, 0))) (fun i _ => l10 - (intOf i).toNat)
 case atStart => exact ⟨0, _, rfl, by omega, rfl, hid (fun j y hj => by omega), HC.out, HBW.out, HBS.out⟩
 case round =>
  clear HBW cW lW HBS cS lS
  clear HC
  obtain ⟨k, w2, rfl, hk, rfl, HPk, hc, hbW, hbS⟩ := hrel
  have cW := cellsOf hbW; have lW := ltOf hbW; have HBW := hid hbW; clear hbW
  have cS := cellsOf hbS; have lS := ltOf hbS; have HBS := hid hbS; clear hbS
  have HC := hid hc; clear hc
  by_cases hlt : k < l10
  rotate_left
  ·obtain rfl : k = l10 := by omega
   have HR := hid (show pb x.built = true from pb_true ⟨by rw [← Z10.out]; exact HL1.out, fun y hy => by
    obtain ⟨j, hj, rfl⟩ := List.getElem_of_mem hy
    exact HPk.out j _ (by have := Z10.out; omega) (List.getElem?_eq_getElem hj)⟩)
   go_wp2_with fail
   go_ret
   exact ⟨ret_bool HR.out.symm, HC.out⟩
  obtain ⟨y, b', o', A, ly, C, fy, HY, e', hcy, HYS⟩ := slc_at H10.out hlt
  obtain ⟨rfl, rfl⟩ : bg = b' ∧ og = o' := by simpa using e'
  have hmy := drvL.sl_max HYS.out
  have ZY := hid HYS.out.1
  have HYI := hid HY.out.1
  clear e'
  have HKg := hid (show w.cell? ⟨bg, og + k, none⟩ = some (.slice A ly C) from hcy); have HLg := hid (show bg < w.heap.size from Lay.sl_lt _ H10.out _ HY.out.2.1)
  obtain ⟨kg, jg⟩ := ck HC HKg HLg
  clear hcy HY
  by_cases h2 : (ly : Int) = x.shape.drives
  rotate_left
  ·have HR := hid (show pb x.built = false from pb_false (fun h => h2 (by rw [ZY.out]; exact (h.2 y (List.mem_of_getElem? HYI.out)).1)))
   have e2 : ((ly : Int) != x.shape.drives) = true := by simp; exact h2
   clear h2
   go_wp2_with fail
   obtain ⟨SS2, HSI2, HSO2⟩ := rg_cond (fun w' => Know (w.heap.size) #[.int .i64 x.shape.groups, .int .i64 x.shape.column, .int .i64 x.shape.data, .int .i64 x.shape.spare, .int .i64 x.shape.rows, .int .i64 x.shape.cap, .int .i64 x.shape.batch, .int .i64 x.shape.queue, .int .i64 x.shape.stage, .slice (some ⟨bg, og, none⟩) l10 c10, .slice a11 l11 c11, .slice a12 l12 c12, .int .i64 x.writes, .int .i64 x.stop, .bool x.down] w' ∧ Know (w.heap.size + 1) #[.int .i64 x.shape.groups, .int .i64 x.shape.column, .int .i64 x.shape.data, .int .i64 x.shape.spare, .int .i64 x.shape.rows, .int .i64 x.shape.cap, .int .i64 x.shape.batch, .int .i64 x.shape.queue, .int .i64 x.shape.stage] w' ∧ w'.cell? ⟨bg, og + k, none⟩ = some (.slice A ly C))
   have hS0 := HSI2.out (w2.drew) ⟨(Know.of (by refine keep_drew ?_; exact HBW.out)), (Know.of (by refine keep_drew ?_; exact HBS.out)), (cellKeep (Chg.drew HC.out) HKg.out HLg.out)⟩
   refine rg_start SS2 (by kernel_rfl) hS0 ?_
   refine rgT 0 hS0 ?_
   refine rgL 1 hS0 HSO2 ?_
   refine rgT 2 hS0 ?_
   refine rgT 3 hS0 ?_
   refine rgL 4 hS0 HSO2 ?_
   refine rgT 5 hS0 ?_
   refine rgL 6 hS0 HSO2 ?_
   refine rg_call 7 rfl (by kernel_rfl) (fun K hK => ?_)
   go_simp
   go_at_call 191
   refine (l5Drives_any x.shape HS.out _).mono ?_
   rintro e w3 ⟨rfl, hc⟩
   have h := bk hc (keep_drew HBW.out) (by simp); clear HBW cW lW; obtain ⟨cW, lW, HBW⟩ := h
   have h := bk hc (keep_drew HBS.out) (by simp); clear HBS cS lS; obtain ⟨cS, lS, HBS⟩ := h
   have h := Chg.trans0 (Chg.drew HC.out) hc; clear HC; have HC := hid h; clear h
   clear hc
   clear kg jg; obtain ⟨kg, jg⟩ := ck HC HKg HLg
   go_wp2_with fail
   refine hK.out _ _ (HSI2.out _ ⟨cW, cS, (cellKeep HC.out HKg.out HLg.out)⟩) (fun hS1 => ?_)
   clear hK K
   try simp only [Act.put, List.setIfInBounds_toArray, List.set_cons_zero, List.set_cons_succ]
   refine rgT 8 hS1 ?_
   refine wpAnyH_done (by kernel_rfl) ?_ _
   go_wp2_with fail
   go_ret
   exact ⟨ret_bool HR.out.symm, HC.out⟩
  obtain ⟨_, bd, od, _, _, _, _, _, rfl, _, _, _⟩ := drive_at HYS.out (show 0 < ly by omega)
  have e2 : ((ly : Int) != x.shape.drives) = false := by simp; exact h2
  have HL2 := hid h2
  clear h2
  go_wp2_with fail
  obtain ⟨SS2, HSI2, HSO2⟩ := rg_cond (fun w' => Know (w.heap.size) #[.int .i64 x.shape.groups, .int .i64 x.shape.column, .int .i64 x.shape.data, .int .i64 x.shape.spare, .int .i64 x.shape.rows, .int .i64 x.shape.cap, .int .i64 x.shape.batch, .int .i64 x.shape.queue, .int .i64 x.shape.stage, .slice (some ⟨bg, og, none⟩) l10 c10, .slice a11 l11 c11, .slice a12 l12 c12, .int .i64 x.writes, .int .i64 x.stop, .bool x.down] w' ∧ Know (w.heap.size + 1) #[.int .i64 x.shape.groups, .int .i64 x.shape.column, .int .i64 x.shape.data, .int .i64 x.shape.spare, .int .i64 x.shape.rows, .int .i64 x.shape.cap, .int .i64 x.shape.batch, .int .i64 x.shape.queue, .int .i64 x.shape.stage] w' ∧ w'.cell? ⟨bg, og + k, none⟩ = some (.slice (some ⟨bd, od, none⟩) ly C))
  have hS0 := HSI2.out (w2.drew) ⟨(Know.of (by refine keep_drew ?_; exact HBW.out)), (Know.of (by refine keep_drew ?_; exact HBS.out)), (cellKeep (Chg.drew HC.out) HKg.out HLg.out)⟩
  refine rg_start SS2 (by kernel_rfl) hS0 ?_
  refine rgT 0 hS0 ?_
  refine rgL 1 hS0 HSO2 ?_
  refine rgT 2 hS0 ?_
  refine rgT 3 hS0 ?_
  refine rgL 4 hS0 HSO2 ?_
  refine rgT 5 hS0 ?_
  refine rgL 6 hS0 HSO2 ?_
  refine rg_call 7 rfl (by kernel_rfl) (fun K hK => ?_)
  go_simp
  go_at_call 191
  refine (l5Drives_any x.shape HS.out _).mono ?_
  rintro e w3 ⟨rfl, hc⟩
  have h := bk hc (keep_drew HBW.out) (by simp); clear HBW cW lW; obtain ⟨cW, lW, HBW⟩ := h
  have h := bk hc (keep_drew HBS.out) (by simp); clear HBS cS lS; obtain ⟨cS, lS, HBS⟩ := h
  have h := Chg.trans0 (Chg.drew HC.out) hc; clear HC; have HC := hid h; clear h
  clear hc
  clear kg jg; obtain ⟨kg, jg⟩ := ck HC HKg HLg
  go_wp2_with fail
  refine hK.out _ _ (HSI2.out _ ⟨cW, cS, (cellKeep HC.out HKg.out HLg.out)⟩) (fun hS1 => ?_)
  clear hK K
  try simp only [Act.put, List.setIfInBounds_toArray, List.set_cons_zero, List.set_cons_succ]
  refine rgT 8 hS1 ?_
  refine wpAnyH_done (by kernel_rfl) ?_ _
  go_wp2_with fail
  go_loopw [5] (fun i wr => ∃ (m : Nat) (Wr : World), Wr = wr ∧ m ≤ ly ∧ i = .int .i64 m ∧ Hid (∀ (j : Nat) d, j < m → y[j]? = some d → d.okAt x.shape) ∧ Chg [] w wr ∧ wr.heap[w.heap.size]? = some (.cells #[.int .i64 x.shape.groups, .int .i64 x.shape.column, .int .i64 x.shape.data, .int .i64 x.shape.spare, .int .i64 x.shape.rows, .int .i64 x.shape.cap, .int .i64 x.shape.batch, .int .i64 x.shape.queue, .int .i64 x.shape.stage, .slice (some ⟨bg, og, none⟩) l10 c10, .slice a11 l11 c11, .slice a12 l12 c12, .int .i64 x.writes, .int .i64 x.stop, .bool x.down] 34 (0, 0)) ∧ wr.heap[w.heap.size + 1]? = some (.cells #[.int .i64 x.shape.groups, .int .i64 x.shape.column, .int .i64 x.shape.data, .int .i64 x.shape.spare, .int .i64 x.shape.rows, .int .i64 x.shape.cap, .int .i64 x.shape.batch, .int .i64 x.shape.queue, .int .i64 x.shape.stage] 30 (0, 0))) (fun i _ => ly - (intOf i).toNat)
  case atStart => exact ⟨0, _, rfl, by omega, rfl, hid (fun j y hj => by omega), HC.out, HBW.out, HBS.out⟩
  case round =>
   clear kg jg
   clear HBW cW lW HBS cS lS
   clear HC
   obtain ⟨m, w4, rfl, hm, rfl, HPm, hc, hbW, hbS⟩ := hrel
   have cW := cellsOf hbW; have lW := ltOf hbW; have HBW := hid hbW; clear hbW
   have cS := cellsOf hbS; have lS := ltOf hbS; have HBS := hid hbS; clear hbS
   have HC := hid hc; clear hc
   obtain ⟨kg, jg⟩ := ck HC HKg HLg
   by_cases hlt2 : m < ly
   rotate_left
   ·obtain rfl : m = ly := by omega
    have HP2 := hid (show ∀ (j : Nat) z, j < k + 1 → x.groups[j]? = some z → GrpOk x.shape z from fun j z hj hz => by
     by_cases e : j = k
     ·subst e
      rw [Option.some.inj (hz.symm.trans HYI.out)]
      exact ⟨by rw [← ZY.out]; exact HL2.out, fun d hd => by
       obtain ⟨i, hi, rfl⟩ := List.getElem_of_mem hd
       exact HPm.out i _ (by have := ZY.out; omega) (List.getElem?_eq_getElem hi)⟩
     ·exact HPk.out j z (by omega) hz)
    go_wp2_with fail
    go_roundw
    case rel => exact ⟨k + 1, _, rfl, by omega, by go_num, HP2, HC.out, HBW.out, HBS.out⟩
    case measure => simp [intOf]; omega
   obtain ⟨d, b2, o2, a1, l1, c1, fd, HD, e2', hcd0, hcd1, HDS⟩ := drive_at HYS.out hlt2
   obtain ⟨rfl, rfl⟩ : bd = b2 ∧ od = o2 := by simpa using e2'
   obtain ⟨_, _, _, fb, exb, hbl, -⟩ := drvL_iff.1 HDS.out
   obtain ⟨q1, q2, q3⟩ := Value.slice.inj (List.cons.inj (List.cons.inj exb).2).1
   subst q1 q2 q3
   have hmb := blkL.sl_max hbl
   have ZB := hid hbl.1
   have HBL := hid hbl
   have HDI := hid HD.out.1
   clear e2' hcd0
   have HKd := hid (show w.cell? ⟨bd, od + m * 2 + 1, none⟩ = some (.slice a1 l1 c1) from hcd1); have HLd := hid (show bd < w.heap.size from Lay.sl_lt _ HYS.out _ HD.out.2.1)
   obtain ⟨kd, jd⟩ := ck HC HKd HLd
   clear hcd1 exb hbl HD HDS
   by_cases h3 : (l1 : Int) = x.shape.rows
   rotate_left
   ·have HR := hid (show pb x.built = false from pb_false (fun h => h3 (by rw [ZB.out]; exact ((h.2 y (List.mem_of_getElem? HYI.out)).2 d (List.mem_of_getElem? HDI.out)).1)))
    have e3 : ((l1 : Int) != x.shape.rows) = true := by simp; exact h3
    clear h3
    go_wp2_with fail
    go_ret
    exact ⟨ret_bool HR.out.symm, HC.out⟩
   obtain ⟨_, bb, ob, _, _, _, _, _, rfl, _, _, _⟩ := block_at HBL.out (show 0 < l1 by omega)
   have e3 : ((l1 : Int) != x.shape.rows) = false := by simp; exact h3
   have HL3 := hid h3
   clear h3
   go_wp2_with fail
   go_loopw [7] (fun i wr => ∃ (p : Nat) (Wr : World), Wr = wr ∧ p ≤ l1 ∧ i = .int .i64 p ∧ Hid (∀ (j : Nat) b, j < p → d.blocks[j]? = some b → b.ok) ∧ Chg [] w wr ∧ wr.heap[w.heap.size]? = some (.cells #[.int .i64 x.shape.groups, .int .i64 x.shape.column, .int .i64 x.shape.data, .int .i64 x.shape.spare, .int .i64 x.shape.rows, .int .i64 x.shape.cap, .int .i64 x.shape.batch, .int .i64 x.shape.queue, .int .i64 x.shape.stage, .slice (some ⟨bg, og, none⟩) l10 c10, .slice a11 l11 c11, .slice a12 l12 c12, .int .i64 x.writes, .int .i64 x.stop, .bool x.down] 34 (0, 0)) ∧ wr.heap[w.heap.size + 1]? = some (.cells #[.int .i64 x.shape.groups, .int .i64 x.shape.column, .int .i64 x.shape.data, .int .i64 x.shape.spare, .int .i64 x.shape.rows, .int .i64 x.shape.cap, .int .i64 x.shape.batch, .int .i64 x.shape.queue, .int .i64 x.shape.stage] 30 (0, 0))) (fun i _ => l1 - (intOf i).toNat)
   case atStart => exact ⟨0, _, rfl, by omega, rfl, hid (fun j y hj => by omega), HC.out, HBW.out, HBS.out⟩
   case round =>
    clear kg jg kd jd
    clear HBW cW lW HBS cS lS
    clear HC
    obtain ⟨p, w5, rfl, hp, rfl, HPp, hc, hbW, hbS⟩ := hrel
    have cW := cellsOf hbW; have lW := ltOf hbW; have HBW := hid hbW; clear hbW
    have cS := cellsOf hbS; have lS := ltOf hbS; have HBS := hid hbS; clear hbS
    have HC := hid hc; clear hc
    obtain ⟨kg, jg⟩ := ck HC HKg HLg
    obtain ⟨kd, jd⟩ := ck HC HKd HLd
    by_cases hlt3 : p < l1
    rotate_left
    ·obtain rfl : p = l1 := by omega
     have HP3 := hid (show ∀ (j : Nat) z, j < m + 1 → y[j]? = some z → z.okAt x.shape from fun j z hj hz => by
      by_cases e : j = m
      ·subst e
       rw [Option.some.inj (hz.symm.trans HDI.out)]
       exact ⟨by rw [← ZB.out]; exact HL3.out, fun d hd => by
        obtain ⟨i, hi, rfl⟩ := List.getElem_of_mem hd
        exact HPp.out i _ (by have := ZB.out; omega) (List.getElem?_eq_getElem hi)⟩
      ·exact HPm.out j z (by omega) hz)
     go_wp2_with fail
     go_roundw
     case rel => exact ⟨m + 1, _, rfl, by omega, by go_num, HP3, HC.out, HBW.out, HBS.out⟩
     case measure => simp [intOf]; omega
    obtain ⟨z, b3, o3, a2, l2, c2, f2, HZ, e3', hb0, hb1, HBS⟩ := block_at HBL.out hlt3
    obtain ⟨rfl, rfl⟩ : bb = b3 ∧ ob = o3 := by simpa using e3'
    obtain ⟨_, _, _, _, exz, -, hbz, -⟩ := blkL_iff.1 HBS.out
    obtain ⟨q1, q2, q3⟩ := Value.slice.inj (List.cons.inj (List.cons.inj exz).2).1
    subst q1 q2 q3
    have hmz := byteL.sl_max hbz
    have ZZ := hid hbz.1
    have HZI := hid HZ.out.1
    clear e3'
    have HKs := hid (show w.cell? ⟨bb, ob + p * 2, none⟩ = some (.int .i64 z.stamp) from hb0); have HLs := hid (show bb < w.heap.size from Lay.sl_lt _ HBL.out _ HZ.out.2.1)
    obtain ⟨ks, js⟩ := ck HC HKs HLs
    have HKq := hid (show w.cell? ⟨bb, ob + p * 2 + 1, none⟩ = some (.slice a2 l2 c2) from hb1); have HLq := hid (show bb < w.heap.size from Lay.sl_lt _ HBL.out _ HZ.out.2.1)
    obtain ⟨kq, jq⟩ := ck HC HKq HLq
    clear hb0 hb1 exz hbz HZ HBS
    by_cases h4 : 0 ≤ z.stamp ∧ z.stamp ≤ 1000000000
    rotate_left
    ·have HR := hid (show pb x.built = false from pb_false (fun h => (fun hk => h4 hk.1) (((h.2 y (List.mem_of_getElem? HYI.out)).2 d (List.mem_of_getElem? HDI.out)).2 z (List.mem_of_getElem? HZI.out))))
     have hi4 := inB_neq h4
     clear h4
     go_wp2_with fail
     refine (l1In_c z.stamp 0 1000000000 _).mono ?_
     rintro e w6 ⟨rfl, hc⟩
     rw [hi4]
     have h := bk hc HBW.out (by simp); clear HBW cW lW; obtain ⟨cW, lW, HBW⟩ := h
     have h := bk hc HBS.out (by simp); clear HBS cS lS; obtain ⟨cS, lS, HBS⟩ := h
     replace HC := hct HC hc
     clear hc
     clear kg jg; obtain ⟨kg, jg⟩ := ck HC HKg HLg
     clear kd jd; obtain ⟨kd, jd⟩ := ck HC HKd HLd
     clear ks js; obtain ⟨ks, js⟩ := ck HC HKs HLs
     clear kq jq; obtain ⟨kq, jq⟩ := ck HC HKq HLq
     go_wp2_with fail
     go_ret
     exact ⟨ret_bool HR.out.symm, HC.out⟩
    have hi4 := inB_eq h4.1 h4.2
    have HI4 := hid h4
    clear h4
    by_cases h5 : l2 = 4
    rotate_left
    ·have HR := hid (show pb x.built = false from pb_false (fun h => (fun hk => h5 (by rw [ZZ.out]; exact hk.2)) (((h.2 y (List.mem_of_getElem? HYI.out)).2 d (List.mem_of_getElem? HDI.out)).2 z (List.mem_of_getElem? HZI.out))))
     have e5 : ((l2 : Int) != 4) = true := by simp; omega
     clear h5
     go_wp2_with fail
     refine (l1In_c z.stamp 0 1000000000 _).mono ?_
     rintro e w6 ⟨rfl, hc⟩
     rw [hi4]
     have h := bk hc HBW.out (by simp); clear HBW cW lW; obtain ⟨cW, lW, HBW⟩ := h
     have h := bk hc HBS.out (by simp); clear HBS cS lS; obtain ⟨cS, lS, HBS⟩ := h
     replace HC := hct HC hc
     clear hc
     clear kg jg; obtain ⟨kg, jg⟩ := ck HC HKg HLg
     clear kd jd; obtain ⟨kd, jd⟩ := ck HC HKd HLd
     clear ks js; obtain ⟨ks, js⟩ := ck HC HKs HLs
     clear kq jq; obtain ⟨kq, jq⟩ := ck HC HKq HLq
     go_wp2_with fail
     go_ret
     exact ⟨ret_bool HR.out.symm, HC.out⟩
    have e5 : ((l2 : Int) != 4) = false := by simp; omega
    have HP4 := hid (show ∀ (j : Nat) b, j < p + 1 → d.blocks[j]? = some b → b.ok from fun j b hj hb => by
     by_cases e : j = p
     ·subst e; rw [Option.some.inj (hb.symm.trans HZI.out)]; exact ⟨HI4.out, by rw [← ZZ.out]; exact h5⟩
     ·exact HPp.out j b (by omega) hb)
    clear h5
    go_wp2_with fail
    refine (l1In_c z.stamp 0 1000000000 _).mono ?_
    rintro e w6 ⟨rfl, hc⟩
    rw [hi4]
    have h := bk hc HBW.out (by simp); clear HBW cW lW; obtain ⟨cW, lW, HBW⟩ := h
    have h := bk hc HBS.out (by simp); clear HBS cS lS; obtain ⟨cS, lS, HBS⟩ := h
    replace HC := hct HC hc
    clear hc
    clear kg jg; obtain ⟨kg, jg⟩ := ck HC HKg HLg
    clear kd jd; obtain ⟨kd, jd⟩ := ck HC HKd HLd
    clear ks js; obtain ⟨ks, js⟩ := ck HC HKs HLs
    clear kq jq; obtain ⟨kq, jq⟩ := ck HC HKq HLq
    go_wp2_with fail
    go_roundw
    case rel => exact ⟨p + 1, _, rfl, by omega, by go_num, HP4, HC.out, HBW.out, HBS.out⟩
    case measure => simp [intOf]; omega
end Go.Proofs.YtphmpimgbmedbaaGreat
