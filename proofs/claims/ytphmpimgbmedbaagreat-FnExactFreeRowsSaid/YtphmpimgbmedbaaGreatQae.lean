/- Several texts in one. -/
import Derived.Test.YtphmpimgbmedbaaGreatRows
import Derived.Test.YtphmpimgbmedbaaGreatQac
set_option maxRecDepth 100000
set_option maxHeartbeats 8000000
namespace Go.Proofs.YtphmpimgbmedbaaGreat
open Go.RowKit
open Go.Lib (hid)
theorem i64z : q1t 0 := ⟨by omega, by omega⟩
theorem maxz : (⟨#[]⟩ : ByteArray).size ≤ maxLen := by unfold maxLen; show 0 ≤ _; omega
theorem q7g {α : Type} (L : Lay α) (w : World) : L.sl w none 0 0 [] [] := ⟨rfl, Nat.le_refl _, by unfold maxLen; omega, fun _ => rfl, .inl ⟨rfl, rfl⟩⟩
theorem q2e {b y : Nat} : ∀ (vs : List Value) (o : Nat) (w : World), q4h w y → q4h (w.setCells b o vs) y := by
 intro vs
 induction vs with
 | nil => intro o w h; exact h
 | cons v vs ih => intro o w h; exact ih (o + 1) _ (h.setCell ⟨b, o, none⟩ v)
theorem q7a {α : Type} {xs : List α} {k n : Nat} {x z : α} (hx : xs[k]? = some x) (hn : n = xs.length) : (xs.take k ++ List.replicate (n - k) z).set k x = xs.take (k + 1) ++ List.replicate (n - (k + 1)) z := by
 have hk := (List.getElem?_eq_some_iff.1 hx).1
 have hl : (xs.take k).length = k := by rw [List.length_take]; omega
 rw [List.set_append_right _ _ (by omega), hl, Nat.sub_self, q1d hx, show n - k = (n - (k + 1)) + 1 by omega, List.replicate_succ, List.set_cons_zero]
 simp
theorem q4v {w : World} {a : Option Addr} {len cap : Nat} {xs : List Blk} {fp : List Nat} (h : blkL.sl w a len cap xs fp) {i : Nat} (hi : i < len) :
  ∃ (x : Blk) (b off : Nat) (a1 : Option Addr) (l1 c1 : Nat) (f : List Nat), Hid (xs[i]? = some x ∧ b ∈ fp ∧ (∀ y ∈ f, y ∈ fp)) ∧ a = some ⟨b, off, none⟩ ∧ w.cell? ⟨b, off + i * 2, none⟩ = some (.int .i64 x.stamp) ∧ w.cell? ⟨b, off + i * 2 + 1, none⟩ = some (.slice a1 l1 c1) ∧ Hid (blkL.rep w [.int .i64 x.stamp, .slice a1 l1 c1] x f) := by
 obtain ⟨x, b, off, c, f, hx, ha, hb, hc, hr, hf⟩ := blkL.sl_at h hi
 obtain ⟨a1, l1, c1, _, ex, -⟩ := q2z.1 hr
 subst ex
 refine ⟨x, b, off, a1, l1, c1, f, ⟨hx, hb, hf⟩, ha, hc 0 (by decide), hc 1 (by decide), hr⟩
def zBlk : Blk := ⟨0, []⟩
theorem zBlk_rep (w : World) : blkL.rep w (.agg #[.int .i64 0, .slice none 0 0] : Value).cells.toList zBlk [] := q2z.2 ⟨none, 0, 0, [], rfl, i64z, q7g _ _, rfl⟩
theorem infoBlock : (Tryz.prog.info? 76).map (fun i => (i.zero, i.size, i.bytes)) = some (some (.agg #[.int .i64 0, .slice none 0 0]), 2, 32) := by kernel_rfl
theorem kindBlock : ∃ K : Kind Tryz.prog 76 blkL.n 32, K.z = .agg #[.int .i64 0, .slice none 0 0] := by
 obtain ⟨i0, hi, hz0, hz1, hz2⟩ := info_parts infoBlock
 exact ⟨⟨i0, .agg #[.int .i64 0, .slice none 0 0], hi, hz0, hz1, hz2, rfl⟩, rfl⟩
theorem makeBlock (n : Nat) (hn : n ≤ 1048576) (w : World) :
  (Instr.makeSlice 80 (.int .i64 (n : Int)) (.int .i64 (n : Int))).run Tryz.prog w = .ok (.slice (some ⟨w.heap.size, 0, none⟩) n n) (w.alloc (.cells (zrow (.agg #[.int .i64 0, .slice none 0 0]) (n * 2)) 76)) := by
 obtain ⟨K, hK⟩ := kindBlock
 rw [← hK]
 exact q5i Tryz.underlying80 K n (by omega) (by omega) w
theorem toBlock_any (x : Blk) (cx : Array Value) (fx : List Nat) (w : World) (hx : blkL.rep w cx.toList x fx) (hz : q2u x ≤ 1048576) :
  Calls Tryz.prog 289 #[.agg cx] w (q6q blkL x w) := by
 obtain ⟨a1, l1, c1, f1, ex, o0, h1, -⟩ := q2z.1 hx
 clear hx
 obtain ⟨v0, v1⟩ := x
 simp only at ex o0 h1
 obtain rfl := Array.toList_inj.1 (ex.trans (List.toList_toArray).symm)
 clear ex
 have HO := hid (o0)
 have z1 : l1 ≤ 1048576 := by unfold q2u q3t at hz; simp only at hz; rw [h1.1]; omega
 have H1 := hid h1; have HL1 := hid (show v1.length = l1 from h1.1.symm); clear h1
 clear hz o0
 go_enter Tryz.func289, Tryz.ntmps289
 go_wp2_with fail
 refine (toB_any a1 l1 c1 v1 f1 _ (q0q.sl_ext H1.out (by refine Chg.alloc ?_ _; refine Chg.alloc ?_ _; refine Chg.alloc ?_ _; exact Chg.refl _ _)) z1).mono ?_
 rintro e w1 ⟨b1, d1, g1, rfl, hs, hf, hc⟩
 rw [HL1.out] at hs ⊢
 have HS1 := hid hs; clear hs
 have hP := hc.keep0 (b := w.heap.size) (q0b (q0b (q0d (by simp) _) _) _)
 have hQ := hc.keep0 (b := w.heap.size + 1) (q0b (q0d (by simp) _) _)
 have hR := hc.keep0 (b := w.heap.size + 1 + 1) (q0d (by simp) _)
 have HD1 := hid (q0r.nots hf [w.heap.size, w.heap.size + 1, w.heap.size + 1 + 1] (by intro b hb; simp only [List.mem_cons, List.not_mem_nil, or_false] at hb; rcases hb with rfl | rfl | rfl <;> simp <;> omega)); have HF1 := hid hf; clear hf
 have cP := cellsOf hP; have lP := ltOf hP; have fP := q0l hP; have HBP := hid hP; clear hP
 have cQ := cellsOf hQ; have lQ := ltOf hQ; have fQ := q0l hQ; have HBQ := hid hQ; clear hQ
 have cR := cellsOf hR; have lR := ltOf hR; have fR := q0l hR; have HBR := hid hR; clear hR
 have HC1 := hid hc; clear hc
 go_wp2_with fail
 have hq : ((((w1.setCell ⟨w.heap.size + 1 + 1, 1, none⟩ (.slice b1 l1 d1)).setCell ⟨w.heap.size + 1, 0, none⟩ (.int .i64 v0)).setCell ⟨w.heap.size + 1, 1, none⟩ (.slice b1 l1 d1))).heap[w.heap.size + 1]? = some (.cells #[.int .i64 v0, .slice b1 l1 d1] 76) := (by refine q0f (cur := #[.int .i64 v0, .slice none 0 0]) ?_ rfl; refine q0f (cur := #[.int .i64 0, .slice none 0 0]) ?_ rfl; refine q0p ?_ _ _ (show w.heap.size + 1 ≠ w.heap.size + 1 + 1 by omega); exact HBQ.out)
 have hqc := cellsOf hq
 have hch : Chg [] w (((w1.setCell ⟨w.heap.size + 1 + 1, 1, none⟩ (.slice b1 l1 d1)).setCell ⟨w.heap.size + 1, 0, none⟩ (.int .i64 v0)).setCell ⟨w.heap.size + 1, 1, none⟩ (.slice b1 l1 d1)) := by refine Chg.setCell ?_ _ _ (.inr (by simp <;> omega)); refine Chg.setCell ?_ _ _ (.inr (by simp <;> omega)); refine Chg.setCell ?_ _ _ (.inr (by simp <;> omega)); refine Chg.trans0 ?_ HC1.out; refine Chg.alloc ?_ _; refine Chg.alloc ?_ _; refine Chg.alloc ?_ _; exact Chg.refl _ _
 have k1 : Chg [w.heap.size, w.heap.size + 1, w.heap.size + 1 + 1] w1 (((w1.setCell ⟨w.heap.size + 1 + 1, 1, none⟩ (.slice b1 l1 d1)).setCell ⟨w.heap.size + 1, 0, none⟩ (.int .i64 v0)).setCell ⟨w.heap.size + 1, 1, none⟩ (.slice b1 l1 d1)) := by refine Chg.setCell ?_ _ _ (.inl (by simp)); refine Chg.setCell ?_ _ _ (.inl (by simp)); refine Chg.setCell ?_ _ _ (.inl (by simp)); exact Chg.refl _ _
 have K1 := q0q.sl_chg HS1.out k1 HD1.out
 have F1 := q0r.chg HF1.out k1
 have hfr := q0r.mono F1 (show w.heap.size ≤ _ from (by have s1 := HC1.out.size; simp at s1 ⊢ <;> omega))
 refine bodyPost_ret (v := .agg #[.int .i64 v0, .slice b1 l1 d1]) (by simp [results, Tryz.results289, go_sem, hqc]) rfl ⟨_, _, rfl, q2z.2 ⟨b1, l1, d1, g1, rfl, HO.out, K1, rfl⟩, hfr, hch⟩
theorem toBlockS_any (a : Option Addr) (la ca : Nat) (xs : List Blk) (f : List Nat) (w : World) (ha : blkL.sl w a la ca xs f) (hz : totL q2u xs ≤ 1048576) :
  Calls Tryz.prog 265 #[.slice a la ca] w (q5e blkL xs w) := by
 have hlz : la ≤ 1048576 := by have := q7n q2s xs; rw [ha.1]; omega
 have hmk := makeBlock la hlz
 have hl := hid ha.1
 have HA := hid ha
 have HZ := hid (fun x hx => Int.le_trans (q7m q2s hx) hz : ∀ x ∈ xs, q2u x ≤ 1048576)
 clear ha hz
 go_enter Tryz.func265, Tryz.ntmps265
 go_wp2
 go_loopw [4] (fun i wr => ∃ (k : Nat) (fp : List Nat), k ≤ la ∧ i = .int .i64 k ∧ blkL.sl wr (some ⟨w.heap.size, 0, none⟩) la la (xs.take k ++ List.replicate (la - k) zBlk) fp ∧ q0r w.heap.size wr fp ∧ w.heap.size ∈ fp ∧ Chg [] w wr) (fun i _ => la - (intOf i).toNat)
 case atStart => exact ⟨0, [w.heap.size], by omega, rfl, by have h := blkL.sl_zrow w 76 la (by omega) (zBlk_rep _); rw [show la * blkL.n = la * 2 from rfl] at h; simpa using h, q6p w _ _, by simp, (Chg.refl [] w).alloc _⟩
 case round =>
  obtain ⟨k, fp, hk, rfl, hs, hf, hw, hc⟩ := hrel
  by_cases hlt : k < la
  ·obtain ⟨x, b, o, a1, l1, c1, fx, HX, rfl, hc0, hc1, HXS⟩ := q4v (blkL.sl_ext HA.out hc) hlt
   have HS := hid (And.intro hs (And.intro hf (And.intro hw hc)))
   clear hs hf hw hc
   have hlw : w.heap.size < wr.heap.size := Lay.sl_lt _ HS.out.1 _ HS.out.2.2.1
   go_wp2_with fail
   refine (toBlock_any x #[.int .i64 x.stamp, .slice a1 l1 c1] fx _ HXS.out (HZ.out x (List.mem_of_getElem? HX.out.1))).mono ?_
   rintro e w1 ⟨cs, f1, rfl, hr1, hf1, hc1⟩
   obtain ⟨p1, m1, d1, _, ex, -⟩ := q2z.1 hr1
   obtain rfl := Array.toList_inj.1 (ex.trans (List.toList_toArray).symm)
   clear ex
   have hfz : ∀ j, w1.frozen? ⟨w.heap.size, j, none⟩ = false := by obtain ⟨cur, E, h⟩ := hc1.loose _ (HS.out.2.1.2 _ HS.out.2.2.1).2; exact q0l h
   obtain ⟨y, b', o', _, _, _, fy, _, e', hd0, hd1, _⟩ := q4v (blkL.sl_ext HS.out.1 hc1) hlt
   obtain ⟨rfl, rfl⟩ : b' = w.heap.size ∧ o' = 0 := by simpa using e'.symm
   simp only [Nat.zero_add] at hd0 hd1
   have hlt1 := Nat.lt_of_lt_of_le hlw hc1.size
   obtain ⟨fp', hp, hm, hnd, hin, -⟩ := blkL.sl_putN (blkL.sl_ext HS.out.1 hc1) HS.out.2.1.1 hlt hr1 (fun y hy hy' => Nat.lt_irrefl _ (Nat.lt_of_lt_of_le (Lay.sl_lt _ HS.out.1 y hy') (hf1.2 y hy).1)) hf1.1
   rw [show 0 + k * blkL.n = k * 2 from Nat.zero_add _, q7a HX.out.1 hl.out] at hp
   have hfr : q0r w.heap.size (w1.setCells w.heap.size (k * 2) [.int .i64 x.stamp, .slice p1 m1 d1]) fp' := ⟨hnd, fun y hy => by
    rcases hm y hy with h | h
    ·exact ⟨(HS.out.2.1.2 y h).1, q2e _ _ _ (hc1.loose y (HS.out.2.1.2 y h).2)⟩
    ·exact ⟨Nat.le_trans HS.out.2.2.2.size (hf1.2 y h).1, q2e _ _ _ (hf1.2 y h).2⟩⟩
   have HN := hid (And.intro hp (And.intro hfr (And.intro hin (Chg.setCells (.inr (Nat.le_refl _)) [.int .i64 x.stamp, .slice p1 m1 d1] (k * 2) (HS.out.2.2.2.trans0 hc1)))))
   clear hp hfr hin hm hnd hr1 hf1 hc1 HS e'
   go_wp2_with fail
   go_roundw
   case rel => exact ⟨k + 1, fp', by omega, by go_num, HN.out.1, HN.out.2.1, HN.out.2.2.1, HN.out.2.2.2⟩
   case measure => simp [intOf]; omega
  ·have hkl : k = la := by omega
   subst hkl
   have hN : q5e blkL xs w (.returned (.slice (some ⟨w.heap.size, 0, none⟩) k k)) wr := by
    rw [List.take_of_length_le (by have := hl.out; omega), Nat.sub_self, List.replicate_zero, List.append_nil] at hs
    rw [hl.out] at hs ⊢
    exact ⟨_, _, _, rfl, hs, hf, hc⟩
   have HN := hid hN
   clear hN hs hf hw hc
   go_wp2
   go_ret
   exact HN.out
theorem q4r {w : World} {a : Option Addr} {len cap : Nat} {xs : List Drv} {fp : List Nat} (h : drvL.sl w a len cap xs fp) {i : Nat} (hi : i < len) :
  ∃ (x : Drv) (b off : Nat) (a1 : Option Addr) (l1 c1 : Nat) (f : List Nat), Hid (xs[i]? = some x ∧ b ∈ fp ∧ (∀ y ∈ f, y ∈ fp)) ∧ a = some ⟨b, off, none⟩ ∧ w.cell? ⟨b, off + i * 2, none⟩ = some (.bool x.wiped) ∧ w.cell? ⟨b, off + i * 2 + 1, none⟩ = some (.slice a1 l1 c1) ∧ Hid (drvL.rep w [.bool x.wiped, .slice a1 l1 c1] x f) := by
 obtain ⟨x, b, off, c, f, hx, ha, hb, hc, hr, hf⟩ := drvL.sl_at h hi
 obtain ⟨a1, l1, c1, _, ex, -⟩ := q2y.1 hr
 subst ex
 refine ⟨x, b, off, a1, l1, c1, f, ⟨hx, hb, hf⟩, ha, hc 0 (by decide), hc 1 (by decide), hr⟩
def zDrv : Drv := ⟨false, []⟩
theorem zDrv_rep (w : World) : drvL.rep w (.agg #[.bool false, .slice none 0 0] : Value).cells.toList zDrv [] := q2y.2 ⟨none, 0, 0, [], rfl, q7g _ _, rfl⟩
theorem infoDrive : (Tryz.prog.info? 82).map (fun i => (i.zero, i.size, i.bytes)) = some (some (.agg #[.bool false, .slice none 0 0]), 2, 32) := by kernel_rfl
theorem kindDrive : ∃ K : Kind Tryz.prog 82 drvL.n 32, K.z = .agg #[.bool false, .slice none 0 0] := by
 obtain ⟨i0, hi, hz0, hz1, hz2⟩ := info_parts infoDrive
 exact ⟨⟨i0, .agg #[.bool false, .slice none 0 0], hi, hz0, hz1, hz2, rfl⟩, rfl⟩
theorem makeDrive (n : Nat) (hn : n ≤ 1048576) (w : World) :
  (Instr.makeSlice 83 (.int .i64 (n : Int)) (.int .i64 (n : Int))).run Tryz.prog w = .ok (.slice (some ⟨w.heap.size, 0, none⟩) n n) (w.alloc (.cells (zrow (.agg #[.bool false, .slice none 0 0]) (n * 2)) 82)) := by
 obtain ⟨K, hK⟩ := kindDrive
 rw [← hK]
 exact q5i Tryz.underlying83 K n (by omega) (by omega) w
theorem toDrive_any (x : Drv) (cx : Array Value) (fx : List Nat) (w : World) (hx : drvL.rep w cx.toList x fx) (hz : q1p x ≤ 1048576) :
  Calls Tryz.prog 228 #[.agg cx] w (q6q drvL x w) := by
 obtain ⟨a1, l1, c1, f1, ex, h1, -⟩ := q2y.1 hx
 clear hx
 obtain ⟨v0, v1⟩ := x
 simp only at ex h1
 obtain rfl := Array.toList_inj.1 (ex.trans (List.toList_toArray).symm)
 clear ex
 have z1 : totL q2u v1 ≤ 1048576 := by unfold q1p at hz; simp only at hz; omega
 have H1 := hid h1; have HL1 := hid (show v1.length = l1 from h1.1.symm); clear h1
 clear hz
 go_enter Tryz.func228, Tryz.ntmps228
 go_wp2_with fail
 refine (toBlockS_any a1 l1 c1 v1 f1 _ (blkL.sl_ext H1.out (by refine Chg.alloc ?_ _; refine Chg.alloc ?_ _; refine Chg.alloc ?_ _; exact Chg.refl _ _)) z1).mono ?_
 rintro e w1 ⟨b1, d1, g1, rfl, hs, hf, hc⟩
 rw [HL1.out] at hs ⊢
 have HS1 := hid hs; clear hs
 have hP := hc.keep0 (b := w.heap.size) (q0b (q0b (q0d (by simp) _) _) _)
 have hQ := hc.keep0 (b := w.heap.size + 1) (q0b (q0d (by simp) _) _)
 have hR := hc.keep0 (b := w.heap.size + 1 + 1) (q0d (by simp) _)
 have HD1 := hid (q0r.nots hf [w.heap.size, w.heap.size + 1, w.heap.size + 1 + 1] (by intro b hb; simp only [List.mem_cons, List.not_mem_nil, or_false] at hb; rcases hb with rfl | rfl | rfl <;> simp <;> omega)); have HF1 := hid hf; clear hf
 have cP := cellsOf hP; have lP := ltOf hP; have fP := q0l hP; have HBP := hid hP; clear hP
 have cQ := cellsOf hQ; have lQ := ltOf hQ; have fQ := q0l hQ; have HBQ := hid hQ; clear hQ
 have cR := cellsOf hR; have lR := ltOf hR; have fR := q0l hR; have HBR := hid hR; clear hR
 have HC1 := hid hc; clear hc
 go_wp2_with fail
 have hq : ((((w1.setCell ⟨w.heap.size + 1 + 1, 1, none⟩ (.slice b1 l1 d1)).setCell ⟨w.heap.size + 1, 0, none⟩ (.bool v0)).setCell ⟨w.heap.size + 1, 1, none⟩ (.slice b1 l1 d1))).heap[w.heap.size + 1]? = some (.cells #[.bool v0, .slice b1 l1 d1] 82) := (by refine q0f (cur := #[.bool v0, .slice none 0 0]) ?_ rfl; refine q0f (cur := #[.bool false, .slice none 0 0]) ?_ rfl; refine q0p ?_ _ _ (show w.heap.size + 1 ≠ w.heap.size + 1 + 1 by omega); exact HBQ.out)
 have hqc := cellsOf hq
 have hch : Chg [] w (((w1.setCell ⟨w.heap.size + 1 + 1, 1, none⟩ (.slice b1 l1 d1)).setCell ⟨w.heap.size + 1, 0, none⟩ (.bool v0)).setCell ⟨w.heap.size + 1, 1, none⟩ (.slice b1 l1 d1)) := by refine Chg.setCell ?_ _ _ (.inr (by simp <;> omega)); refine Chg.setCell ?_ _ _ (.inr (by simp <;> omega)); refine Chg.setCell ?_ _ _ (.inr (by simp <;> omega)); refine Chg.trans0 ?_ HC1.out; refine Chg.alloc ?_ _; refine Chg.alloc ?_ _; refine Chg.alloc ?_ _; exact Chg.refl _ _
 have k1 : Chg [w.heap.size, w.heap.size + 1, w.heap.size + 1 + 1] w1 (((w1.setCell ⟨w.heap.size + 1 + 1, 1, none⟩ (.slice b1 l1 d1)).setCell ⟨w.heap.size + 1, 0, none⟩ (.bool v0)).setCell ⟨w.heap.size + 1, 1, none⟩ (.slice b1 l1 d1)) := by refine Chg.setCell ?_ _ _ (.inl (by simp)); refine Chg.setCell ?_ _ _ (.inl (by simp)); refine Chg.setCell ?_ _ _ (.inl (by simp)); exact Chg.refl _ _
 have K1 := blkL.sl_chg HS1.out k1 HD1.out
 have F1 := q0r.chg HF1.out k1
 have hfr := q0r.mono F1 (show w.heap.size ≤ _ from (by have s1 := HC1.out.size; simp at s1 ⊢ <;> omega))
 refine bodyPost_ret (v := .agg #[.bool v0, .slice b1 l1 d1]) (by simp [results, Tryz.results228, go_sem, hqc]) rfl ⟨_, _, rfl, q2y.2 ⟨b1, l1, d1, g1, rfl, K1, rfl⟩, hfr, hch⟩
theorem toDriveS_any (a : Option Addr) (la ca : Nat) (xs : List Drv) (f : List Nat) (w : World) (ha : drvL.sl w a la ca xs f) (hz : totL q1p xs ≤ 1048576) :
  Calls Tryz.prog 152 #[.slice a la ca] w (q5e drvL xs w) := by
 have hlz : la ≤ 1048576 := by have := q7n q1h xs; rw [ha.1]; omega
 have hmk := makeDrive la hlz
 have hl := hid ha.1
 have HA := hid ha
 have HZ := hid (fun x hx => Int.le_trans (q7m q1h hx) hz : ∀ x ∈ xs, q1p x ≤ 1048576)
 clear ha hz
 go_enter Tryz.func152, Tryz.ntmps152
 go_wp2
 go_loopw [4] (fun i wr => ∃ (k : Nat) (fp : List Nat), k ≤ la ∧ i = .int .i64 k ∧ drvL.sl wr (some ⟨w.heap.size, 0, none⟩) la la (xs.take k ++ List.replicate (la - k) zDrv) fp ∧ q0r w.heap.size wr fp ∧ w.heap.size ∈ fp ∧ Chg [] w wr) (fun i _ => la - (intOf i).toNat)
 case atStart => exact ⟨0, [w.heap.size], by omega, rfl, by have h := drvL.sl_zrow w 82 la (by omega) (zDrv_rep _); rw [show la * drvL.n = la * 2 from rfl] at h; simpa using h, q6p w _ _, by simp, (Chg.refl [] w).alloc _⟩
 case round =>
  obtain ⟨k, fp, hk, rfl, hs, hf, hw, hc⟩ := hrel
  by_cases hlt : k < la
  ·obtain ⟨x, b, o, a1, l1, c1, fx, HX, rfl, hc0, hc1, HXS⟩ := q4r (drvL.sl_ext HA.out hc) hlt
   have HS := hid (And.intro hs (And.intro hf (And.intro hw hc)))
   clear hs hf hw hc
   have hlw : w.heap.size < wr.heap.size := Lay.sl_lt _ HS.out.1 _ HS.out.2.2.1
   go_wp2_with fail
   refine (toDrive_any x #[.bool x.wiped, .slice a1 l1 c1] fx _ HXS.out (HZ.out x (List.mem_of_getElem? HX.out.1))).mono ?_
   rintro e w1 ⟨cs, f1, rfl, hr1, hf1, hc1⟩
   obtain ⟨p1, m1, d1, _, ex, -⟩ := q2y.1 hr1
   obtain rfl := Array.toList_inj.1 (ex.trans (List.toList_toArray).symm)
   clear ex
   have hfz : ∀ j, w1.frozen? ⟨w.heap.size, j, none⟩ = false := by obtain ⟨cur, E, h⟩ := hc1.loose _ (HS.out.2.1.2 _ HS.out.2.2.1).2; exact q0l h
   obtain ⟨y, b', o', _, _, _, fy, _, e', hd0, hd1, _⟩ := q4r (drvL.sl_ext HS.out.1 hc1) hlt
   obtain ⟨rfl, rfl⟩ : b' = w.heap.size ∧ o' = 0 := by simpa using e'.symm
   simp only [Nat.zero_add] at hd0 hd1
   have hlt1 := Nat.lt_of_lt_of_le hlw hc1.size
   obtain ⟨fp', hp, hm, hnd, hin, -⟩ := drvL.sl_putN (drvL.sl_ext HS.out.1 hc1) HS.out.2.1.1 hlt hr1 (fun y hy hy' => Nat.lt_irrefl _ (Nat.lt_of_lt_of_le (Lay.sl_lt _ HS.out.1 y hy') (hf1.2 y hy).1)) hf1.1
   rw [show 0 + k * drvL.n = k * 2 from Nat.zero_add _, q7a HX.out.1 hl.out] at hp
   have hfr : q0r w.heap.size (w1.setCells w.heap.size (k * 2) [.bool x.wiped, .slice p1 m1 d1]) fp' := ⟨hnd, fun y hy => by
    rcases hm y hy with h | h
    ·exact ⟨(HS.out.2.1.2 y h).1, q2e _ _ _ (hc1.loose y (HS.out.2.1.2 y h).2)⟩
    ·exact ⟨Nat.le_trans HS.out.2.2.2.size (hf1.2 y h).1, q2e _ _ _ (hf1.2 y h).2⟩⟩
   have HN := hid (And.intro hp (And.intro hfr (And.intro hin (Chg.setCells (.inr (Nat.le_refl _)) [.bool x.wiped, .slice p1 m1 d1] (k * 2) (HS.out.2.2.2.trans0 hc1)))))
   clear hp hfr hin hm hnd hr1 hf1 hc1 HS e'
   go_wp2_with fail
   go_roundw
   case rel => exact ⟨k + 1, fp', by omega, by go_num, HN.out.1, HN.out.2.1, HN.out.2.2.1, HN.out.2.2.2⟩
   case measure => simp [intOf]; omega
  ·have hkl : k = la := by omega
   subst hkl
   have hN : q5e drvL xs w (.returned (.slice (some ⟨w.heap.size, 0, none⟩) k k)) wr := by
    rw [List.take_of_length_le (by have := hl.out; omega), Nat.sub_self, List.replicate_zero, List.append_nil] at hs
    rw [hl.out] at hs ⊢
    exact ⟨_, _, _, rfl, hs, hf, hc⟩
   have HN := hid hN
   clear hN hs hf hw hc
   go_wp2
   go_ret
   exact HN.out
theorem infoDS : (Tryz.prog.info? 83).map (fun i => (i.zero, i.size, i.bytes)) = some (some (.slice none 0 0), 1, 24) := by kernel_rfl
theorem kindDS : ∃ K : Kind Tryz.prog 83 drvL.slice.n 24, K.z = .slice none 0 0 := by
 obtain ⟨i0, hi, hz0, hz1, hz2⟩ := info_parts infoDS
 exact ⟨⟨i0, .slice none 0 0, hi, hz0, hz1, hz2, rfl⟩, rfl⟩
theorem makeDS (n : Nat) (hn : n ≤ 1048576) (w : World) :
  (Instr.makeSlice 31 (.int .i64 (n : Int)) (.int .i64 (n : Int))).run Tryz.prog w = .ok (.slice (some ⟨w.heap.size, 0, none⟩) n n) (w.alloc (.cells (zrow (.slice none 0 0) n) 83)) := by
 obtain ⟨K, hK⟩ := kindDS
 rw [← hK]
 have := q5i Tryz.underlying31 K n (by omega) (by omega) w
 rw [show n * drvL.slice.n = n from Nat.mul_one n] at this
 exact this
theorem z1m (a : Option Addr) (la ca : Nat) (xs : List (List Drv)) (f : List Nat) (w : World) (ha : drvL.slice.sl w a la ca xs f) (hz : totL (totL q1p) xs ≤ 1048576) :
  Calls Tryz.prog 75 #[.slice a la ca] w (q5e drvL.slice xs w) := by
 have hlz : la ≤ 1048576 := by have := q7n (q0v q1h) xs; rw [ha.1]; omega
 have hmk := makeDS la hlz
 have hl := hid ha.1
 have HA := hid ha
 have HZ := hid (fun x hx => Int.le_trans (q7m (q0v q1h) hx) hz : ∀ x ∈ xs, totL q1p x ≤ 1048576)
 clear ha hz
 go_enter Tryz.func75, Tryz.ntmps75
 go_wp2
 go_loopw [4] (fun i wr => ∃ (k : Nat) (fp : List Nat), k ≤ la ∧ i = .int .i64 k ∧ drvL.slice.sl wr (some ⟨w.heap.size, 0, none⟩) la la (xs.take k ++ List.replicate (la - k) []) fp ∧ q0r w.heap.size wr fp ∧ w.heap.size ∈ fp ∧ Chg [] w wr) (fun i _ => la - (intOf i).toNat)
 case atStart => exact ⟨0, [w.heap.size], by omega, rfl, by simpa using slc_zrow drvL w 83 la (by omega), q6p w _ _, by simp, (Chg.refl [] w).alloc _⟩
 case round =>
  obtain ⟨k, fp, hk, rfl, hs, hf, hw, hc⟩ := hrel
  by_cases hlt : k < la
  ·obtain ⟨x, b, o, A, lx, C, fx, HX, rfl, hcx, HXS⟩ := q7r (drvL.slice.sl_ext HA.out hc) hlt
   have HLX := hid HXS.out.1
   have HS := hid (And.intro hs (And.intro hf (And.intro hw hc)))
   clear hs hf hw hc
   go_wp2_with fail
   refine (toDriveS_any A lx C x fx _ HXS.out (HZ.out x (List.mem_of_getElem? HX.out.1))).mono ?_
   rintro e w1 ⟨a1, c1, f1, rfl, hs1, hf1, hc1⟩
   rw [← HLX.out] at hs1 ⊢
   have hfz : w1.frozen? ⟨w.heap.size, k, none⟩ = false := by obtain ⟨cur, E, h⟩ := hc1.loose _ (HS.out.2.1.2 _ HS.out.2.2.1).2; exact q0l h _
   have hold : ∃ y b' o' A' l' C' f', Hid ((xs.take k ++ List.replicate (la - k) [])[k]? = some y ∧ b' ∈ fp ∧ (∀ y ∈ f', y ∈ fp)) ∧ (some ⟨w.heap.size, 0, none⟩ : Option Addr) = some ⟨b', o', none⟩ ∧ w1.cell? ⟨b', o' + k, none⟩ = some (.slice A' l' C') ∧ Hid (drvL.sl w1 A' l' C' y f') := q7r (drvL.slice.sl_ext HS.out.1 hc1) hlt
   obtain ⟨y, b', o', A', l', C', f', _, e', hco, _⟩ := hold
   obtain ⟨rfl, rfl⟩ : b' = w.heap.size ∧ o' = 0 := by simpa using e'.symm
   rw [Nat.zero_add] at hco
   have hlt1 := ltOf (o := _) (hc1.keep0 (show _ = some _ from (Array.getElem?_eq_some_iff.2 ⟨Lay.sl_lt _ HS.out.1 _ HS.out.2.2.1, rfl⟩)))
   obtain ⟨fp', hp, hm, hnd⟩ := drvL.slice.sl_put rfl (drvL.slice.sl_ext HS.out.1 hc1) HS.out.2.1.1 hlt (v := .slice a1 lx c1) (x' := x) (f' := f1) ⟨a1, lx, c1, rfl, hs1⟩ (fun y hy hy' => Nat.lt_irrefl _ (Nat.lt_of_lt_of_le (Lay.sl_lt _ HS.out.1 y hy') (hf1.2 y hy).1)) hf1.1
   rw [Nat.zero_add, copyL_next HX.out.1 hl.out] at hp
   have hfr : q0r w.heap.size (w1.setCell ⟨w.heap.size, k, none⟩ (.slice a1 lx c1)) fp' := ⟨hnd, fun y hy => by
    rcases hm y hy with h | h
    ·exact ⟨(HS.out.2.1.2 y h).1, (hc1.loose y (HS.out.2.1.2 y h).2).setCell _ _⟩
    ·exact ⟨Nat.le_trans HS.out.2.2.2.size (hf1.2 y h).1, (hf1.2 y h).2.setCell _ _⟩⟩
   have hin : w.heap.size ∈ fp' := by
    obtain ⟨_, _, _, _, ⟨h0, _⟩ | ⟨b, off, cur, E, fr, fps, hb, _, _, rfl⟩⟩ := hp
    ·exfalso; have h5 := congrArg List.length h0; rw [List.length_append, List.length_replicate, List.length_take, List.length_nil] at h5; have h6 := hl.out; omega
    ·simp at hb; simp [hb.1]
   have HN := hid (And.intro hp (And.intro hfr (And.intro hin ((HS.out.2.2.2.trans0 hc1).setCell ⟨w.heap.size, k, none⟩ (.slice a1 lx c1) (.inr (Nat.le_refl _))))))
   clear hp hfr hin hm hnd hs1 hf1 hc1 HS e'
   go_wp2_with fail
   go_roundw
   case rel => exact ⟨k + 1, fp', by omega, by go_num, HN.out.1, HN.out.2.1, HN.out.2.2.1, HN.out.2.2.2⟩
   case measure => simp [intOf]; omega
  ·have hkl : k = la := by omega
   subst hkl
   have hN : q5e drvL.slice xs w (.returned (.slice (some ⟨w.heap.size, 0, none⟩) k k)) wr := by
    rw [List.take_of_length_le (by have := hl.out; omega), Nat.sub_self, List.replicate_zero, List.append_nil] at hs
    rw [hl.out] at hs ⊢
    exact ⟨_, _, _, rfl, hs, hf, hc⟩
   have HN := hid hN
   clear hN hs hf hw hc
   go_wp2
   go_ret
   exact HN.out
theorem q4q {w : World} {a : Option Addr} {len cap : Nat} {xs : List Rec} {fp : List Nat} (h : recL.sl w a len cap xs fp) {i : Nat} (hi : i < len) :
  ∃ (x : Rec) (b off : Nat) (a6 : Option Addr) (l6 c6 : Nat) (a7 : Option Addr) (l7 c7 : Nat) (a8 : Option Addr) (l8 c8 : Nat) (f : List Nat), Hid (xs[i]? = some x ∧ b ∈ fp ∧ (∀ y ∈ f, y ∈ fp)) ∧ a = some ⟨b, off, none⟩ ∧ w.cell? ⟨b, off + i * 9, none⟩ = some (.int .i64 x.kind) ∧ w.cell? ⟨b, off + i * 9 + 1, none⟩ = some (.int .i64 x.seq) ∧ w.cell? ⟨b, off + i * 9 + 2, none⟩ = some (.string x.name) ∧ w.cell? ⟨b, off + i * 9 + 3, none⟩ = some (.int .i64 x.length) ∧ w.cell? ⟨b, off + i * 9 + 4, none⟩ = some (.int .i64 x.group) ∧ w.cell? ⟨b, off + i * 9 + 5, none⟩ = some (.int .i64 x.row) ∧ w.cell? ⟨b, off + i * 9 + 6, none⟩ = some (.slice a6 l6 c6) ∧ w.cell? ⟨b, off + i * 9 + 7, none⟩ = some (.slice a7 l7 c7) ∧ w.cell? ⟨b, off + i * 9 + 8, none⟩ = some (.slice a8 l8 c8) ∧ Hid (recL.rep w [.int .i64 x.kind, .int .i64 x.seq, .string x.name, .int .i64 x.length, .int .i64 x.group, .int .i64 x.row, .slice a6 l6 c6, .slice a7 l7 c7, .slice a8 l8 c8] x f) := by
 obtain ⟨x, b, off, c, f, hx, ha, hb, hc, hr, hf⟩ := recL.sl_at h hi
 obtain ⟨a6, l6, c6, _, a7, l7, c7, _, a8, l8, c8, _, ex, -⟩ := q0m.1 hr
 subst ex
 refine ⟨x, b, off, a6, l6, c6, a7, l7, c7, a8, l8, c8, f, ⟨hx, hb, hf⟩, ha, hc 0 (by decide), hc 1 (by decide), hc 2 (by decide), hc 3 (by decide), hc 4 (by decide), hc 5 (by decide), hc 6 (by decide), hc 7 (by decide), hc 8 (by decide), hr⟩
def zRec : Rec := ⟨0, 0, ⟨#[]⟩, 0, 0, 0, [], [], []⟩
theorem zRec_rep (w : World) : recL.rep w (.agg #[.int .i64 0, .int .i64 0, .string ⟨#[]⟩, .int .i64 0, .int .i64 0, .int .i64 0, .slice none 0 0, .slice none 0 0, .slice none 0 0] : Value).cells.toList zRec [] := q0m.2 ⟨none, 0, 0, [], none, 0, 0, [], none, 0, 0, [], rfl, i64z, i64z, maxz, i64z, i64z, i64z, q7g _ _, q7g _ _, q7g _ _, rfl⟩
theorem infoRec : (Tryz.prog.info? 67).map (fun i => (i.zero, i.size, i.bytes)) = some (some (.agg #[.int .i64 0, .int .i64 0, .string ⟨#[]⟩, .int .i64 0, .int .i64 0, .int .i64 0, .slice none 0 0, .slice none 0 0, .slice none 0 0]), 9, 128) := by kernel_rfl
theorem z0g : ∃ K : Kind Tryz.prog 67 recL.n 128, K.z = .agg #[.int .i64 0, .int .i64 0, .string ⟨#[]⟩, .int .i64 0, .int .i64 0, .int .i64 0, .slice none 0 0, .slice none 0 0, .slice none 0 0] := by
 obtain ⟨i0, hi, hz0, hz1, hz2⟩ := info_parts infoRec
 exact ⟨⟨i0, .agg #[.int .i64 0, .int .i64 0, .string ⟨#[]⟩, .int .i64 0, .int .i64 0, .int .i64 0, .slice none 0 0, .slice none 0 0, .slice none 0 0], hi, hz0, hz1, hz2, rfl⟩, rfl⟩
theorem makeRec (n : Nat) (hn : n ≤ 1048576) (w : World) :
  (Instr.makeSlice 44 (.int .i64 (n : Int)) (.int .i64 (n : Int))).run Tryz.prog w = .ok (.slice (some ⟨w.heap.size, 0, none⟩) n n) (w.alloc (.cells (zrow (.agg #[.int .i64 0, .int .i64 0, .string ⟨#[]⟩, .int .i64 0, .int .i64 0, .int .i64 0, .slice none 0 0, .slice none 0 0, .slice none 0 0]) (n * 9)) 67)) := by
 obtain ⟨K, hK⟩ := z0g
 rw [← hK]
 exact q5i Tryz.underlying44 K n (by omega) (by omega) w
theorem toRecS_any (a : Option Addr) (la ca : Nat) (xs : List Rec) (f : List Nat) (w : World) (ha : recL.sl w a la ca xs f) (hz : totL q2m xs ≤ 1048576) :
  Calls Tryz.prog 229 #[.slice a la ca] w (q5e recL xs w) := by
 have hlz : la ≤ 1048576 := by have := q7n q2l xs; rw [ha.1]; omega
 have hmk := makeRec la hlz
 have hl := hid ha.1
 have HA := hid ha
 have HZ := hid (fun x hx => Int.le_trans (q7m q2l hx) hz : ∀ x ∈ xs, q2m x ≤ 1048576)
 clear ha hz
 go_enter Tryz.func229, Tryz.ntmps229
 go_wp2
 go_loopw [4] (fun i wr => ∃ (k : Nat) (fp : List Nat), k ≤ la ∧ i = .int .i64 k ∧ recL.sl wr (some ⟨w.heap.size, 0, none⟩) la la (xs.take k ++ List.replicate (la - k) zRec) fp ∧ q0r w.heap.size wr fp ∧ w.heap.size ∈ fp ∧ Chg [] w wr) (fun i _ => la - (intOf i).toNat)
 case atStart => exact ⟨0, [w.heap.size], by omega, rfl, by have h := recL.sl_zrow w 67 la (by omega) (zRec_rep _); rw [show la * recL.n = la * 9 from rfl] at h; simpa using h, q6p w _ _, by simp, (Chg.refl [] w).alloc _⟩
 case round =>
  obtain ⟨k, fp, hk, rfl, hs, hf, hw, hc⟩ := hrel
  by_cases hlt : k < la
  ·obtain ⟨x, b, o, a6, l6, c6, a7, l7, c7, a8, l8, c8, fx, HX, rfl, hc0, hc1, hc2, hc3, hc4, hc5, hc6, hc7, hc8, HXS⟩ := q4q (recL.sl_ext HA.out hc) hlt
   have HS := hid (And.intro hs (And.intro hf (And.intro hw hc)))
   clear hs hf hw hc
   have hlw : w.heap.size < wr.heap.size := Lay.sl_lt _ HS.out.1 _ HS.out.2.2.1
   go_wp2_with fail
   refine (toRec_any x #[.int .i64 x.kind, .int .i64 x.seq, .string x.name, .int .i64 x.length, .int .i64 x.group, .int .i64 x.row, .slice a6 l6 c6, .slice a7 l7 c7, .slice a8 l8 c8] fx _ HXS.out (HZ.out x (List.mem_of_getElem? HX.out.1))).mono ?_
   rintro e w1 ⟨cs, f1, rfl, hr1, hf1, hc1⟩
   obtain ⟨p6, m6, d6, _, p7, m7, d7, _, p8, m8, d8, _, ex, -⟩ := q0m.1 hr1
   obtain rfl := Array.toList_inj.1 (ex.trans (List.toList_toArray).symm)
   clear ex
   have hfz : ∀ j, w1.frozen? ⟨w.heap.size, j, none⟩ = false := by obtain ⟨cur, E, h⟩ := hc1.loose _ (HS.out.2.1.2 _ HS.out.2.2.1).2; exact q0l h
   obtain ⟨y, b', o', _, _, _, _, _, _, _, _, _, fy, _, e', hd0, hd1, hd2, hd3, hd4, hd5, hd6, hd7, hd8, _⟩ := q4q (recL.sl_ext HS.out.1 hc1) hlt
   obtain ⟨rfl, rfl⟩ : b' = w.heap.size ∧ o' = 0 := by simpa using e'.symm
   simp only [Nat.zero_add] at hd0 hd1 hd2 hd3 hd4 hd5 hd6 hd7 hd8
   have hlt1 := Nat.lt_of_lt_of_le hlw hc1.size
   obtain ⟨fp', hp, hm, hnd, hin, -⟩ := recL.sl_putN (recL.sl_ext HS.out.1 hc1) HS.out.2.1.1 hlt hr1 (fun y hy hy' => Nat.lt_irrefl _ (Nat.lt_of_lt_of_le (Lay.sl_lt _ HS.out.1 y hy') (hf1.2 y hy).1)) hf1.1
   rw [show 0 + k * recL.n = k * 9 from Nat.zero_add _, q7a HX.out.1 hl.out] at hp
   have hfr : q0r w.heap.size (w1.setCells w.heap.size (k * 9) [.int .i64 x.kind, .int .i64 x.seq, .string x.name, .int .i64 x.length, .int .i64 x.group, .int .i64 x.row, .slice p6 m6 d6, .slice p7 m7 d7, .slice p8 m8 d8]) fp' := ⟨hnd, fun y hy => by
    rcases hm y hy with h | h
    ·exact ⟨(HS.out.2.1.2 y h).1, q2e _ _ _ (hc1.loose y (HS.out.2.1.2 y h).2)⟩
    ·exact ⟨Nat.le_trans HS.out.2.2.2.size (hf1.2 y h).1, q2e _ _ _ (hf1.2 y h).2⟩⟩
   have HN := hid (And.intro hp (And.intro hfr (And.intro hin (Chg.setCells (.inr (Nat.le_refl _)) [.int .i64 x.kind, .int .i64 x.seq, .string x.name, .int .i64 x.length, .int .i64 x.group, .int .i64 x.row, .slice p6 m6 d6, .slice p7 m7 d7, .slice p8 m8 d8] (k * 9) (HS.out.2.2.2.trans0 hc1)))))
   clear hp hfr hin hm hnd hr1 hf1 hc1 HS e'
   go_wp2_with fail
   go_roundw
   case rel => exact ⟨k + 1, fp', by omega, by go_num, HN.out.1, HN.out.2.1, HN.out.2.2.1, HN.out.2.2.2⟩
   case measure => simp [intOf]; omega
  ·have hkl : k = la := by omega
   subst hkl
   have hN : q5e recL xs w (.returned (.slice (some ⟨w.heap.size, 0, none⟩) k k)) wr := by
    rw [List.take_of_length_le (by have := hl.out; omega), Nat.sub_self, List.replicate_zero, List.append_nil] at hs
    rw [hl.out] at hs ⊢
    exact ⟨_, _, _, rfl, hs, hf, hc⟩
   have HN := hid hN
   clear hN hs hf hw hc
   go_wp2
   go_ret
   exact HN.out
theorem q2i {w : World} {a : Option Addr} {len cap : Nat} {xs : List Tap} {fp : List Nat} (h : tapL.sl w a len cap xs fp) {i : Nat} (hi : i < len) :
  ∃ (x : Tap) (b off : Nat) (a1 : Option Addr) (l1 c1 : Nat) (f : List Nat), Hid (xs[i]? = some x ∧ b ∈ fp ∧ (∀ y ∈ f, y ∈ fp)) ∧ a = some ⟨b, off, none⟩ ∧ w.cell? ⟨b, off + i * 2, none⟩ = some (.bool x.wiped) ∧ w.cell? ⟨b, off + i * 2 + 1, none⟩ = some (.slice a1 l1 c1) ∧ Hid (tapL.rep w [.bool x.wiped, .slice a1 l1 c1] x f) := by
 obtain ⟨x, b, off, c, f, hx, ha, hb, hc, hr, hf⟩ := tapL.sl_at h hi
 obtain ⟨a1, l1, c1, _, ex, -⟩ := q1k.1 hr
 subst ex
 refine ⟨x, b, off, a1, l1, c1, f, ⟨hx, hb, hf⟩, ha, hc 0 (by decide), hc 1 (by decide), hr⟩
def zTap : Tap := ⟨false, []⟩
theorem zTap_rep (w : World) : tapL.rep w (.agg #[.bool false, .slice none 0 0] : Value).cells.toList zTap [] := q1k.2 ⟨none, 0, 0, [], rfl, q7g _ _, rfl⟩
theorem infoTape : (Tryz.prog.info? 69).map (fun i => (i.zero, i.size, i.bytes)) = some (some (.agg #[.bool false, .slice none 0 0]), 2, 32) := by kernel_rfl
theorem kindTape : ∃ K : Kind Tryz.prog 69 tapL.n 32, K.z = .agg #[.bool false, .slice none 0 0] := by
 obtain ⟨i0, hi, hz0, hz1, hz2⟩ := info_parts infoTape
 exact ⟨⟨i0, .agg #[.bool false, .slice none 0 0], hi, hz0, hz1, hz2, rfl⟩, rfl⟩
theorem makeTape (n : Nat) (hn : n ≤ 1048576) (w : World) :
  (Instr.makeSlice 32 (.int .i64 (n : Int)) (.int .i64 (n : Int))).run Tryz.prog w = .ok (.slice (some ⟨w.heap.size, 0, none⟩) n n) (w.alloc (.cells (zrow (.agg #[.bool false, .slice none 0 0]) (n * 2)) 69)) := by
 obtain ⟨K, hK⟩ := kindTape
 rw [← hK]
 exact q5i Tryz.underlying32 K n (by omega) (by omega) w
theorem toTape_any (x : Tap) (cx : Array Value) (fx : List Nat) (w : World) (hx : tapL.rep w cx.toList x fx) (hz : q2n x ≤ 1048576) :
  Calls Tryz.prog 153 #[.agg cx] w (q6q tapL x w) := by
 obtain ⟨a1, l1, c1, f1, ex, h1, -⟩ := q1k.1 hx
 clear hx
 obtain ⟨v0, v1⟩ := x
 simp only at ex h1
 obtain rfl := Array.toList_inj.1 (ex.trans (List.toList_toArray).symm)
 clear ex
 have z1 : totL q2m v1 ≤ 1048576 := by unfold q2n at hz; simp only at hz; omega
 have H1 := hid h1; have HL1 := hid (show v1.length = l1 from h1.1.symm); clear h1
 clear hz
 go_enter Tryz.func153, Tryz.ntmps153
 go_wp2_with fail
 refine (toRecS_any a1 l1 c1 v1 f1 _ (recL.sl_ext H1.out (by refine Chg.alloc ?_ _; refine Chg.alloc ?_ _; refine Chg.alloc ?_ _; exact Chg.refl _ _)) z1).mono ?_
 rintro e w1 ⟨b1, d1, g1, rfl, hs, hf, hc⟩
 rw [HL1.out] at hs ⊢
 have HS1 := hid hs; clear hs
 have hP := hc.keep0 (b := w.heap.size) (q0b (q0b (q0d (by simp) _) _) _)
 have hQ := hc.keep0 (b := w.heap.size + 1) (q0b (q0d (by simp) _) _)
 have hR := hc.keep0 (b := w.heap.size + 1 + 1) (q0d (by simp) _)
 have HD1 := hid (q0r.nots hf [w.heap.size, w.heap.size + 1, w.heap.size + 1 + 1] (by intro b hb; simp only [List.mem_cons, List.not_mem_nil, or_false] at hb; rcases hb with rfl | rfl | rfl <;> simp <;> omega)); have HF1 := hid hf; clear hf
 have cP := cellsOf hP; have lP := ltOf hP; have fP := q0l hP; have HBP := hid hP; clear hP
 have cQ := cellsOf hQ; have lQ := ltOf hQ; have fQ := q0l hQ; have HBQ := hid hQ; clear hQ
 have cR := cellsOf hR; have lR := ltOf hR; have fR := q0l hR; have HBR := hid hR; clear hR
 have HC1 := hid hc; clear hc
 go_wp2_with fail
 have hq : ((((w1.setCell ⟨w.heap.size + 1 + 1, 1, none⟩ (.slice b1 l1 d1)).setCell ⟨w.heap.size + 1, 0, none⟩ (.bool v0)).setCell ⟨w.heap.size + 1, 1, none⟩ (.slice b1 l1 d1))).heap[w.heap.size + 1]? = some (.cells #[.bool v0, .slice b1 l1 d1] 69) := (by refine q0f (cur := #[.bool v0, .slice none 0 0]) ?_ rfl; refine q0f (cur := #[.bool false, .slice none 0 0]) ?_ rfl; refine q0p ?_ _ _ (show w.heap.size + 1 ≠ w.heap.size + 1 + 1 by omega); exact HBQ.out)
 have hqc := cellsOf hq
 have hch : Chg [] w (((w1.setCell ⟨w.heap.size + 1 + 1, 1, none⟩ (.slice b1 l1 d1)).setCell ⟨w.heap.size + 1, 0, none⟩ (.bool v0)).setCell ⟨w.heap.size + 1, 1, none⟩ (.slice b1 l1 d1)) := by refine Chg.setCell ?_ _ _ (.inr (by simp <;> omega)); refine Chg.setCell ?_ _ _ (.inr (by simp <;> omega)); refine Chg.setCell ?_ _ _ (.inr (by simp <;> omega)); refine Chg.trans0 ?_ HC1.out; refine Chg.alloc ?_ _; refine Chg.alloc ?_ _; refine Chg.alloc ?_ _; exact Chg.refl _ _
 have k1 : Chg [w.heap.size, w.heap.size + 1, w.heap.size + 1 + 1] w1 (((w1.setCell ⟨w.heap.size + 1 + 1, 1, none⟩ (.slice b1 l1 d1)).setCell ⟨w.heap.size + 1, 0, none⟩ (.bool v0)).setCell ⟨w.heap.size + 1, 1, none⟩ (.slice b1 l1 d1)) := by refine Chg.setCell ?_ _ _ (.inl (by simp)); refine Chg.setCell ?_ _ _ (.inl (by simp)); refine Chg.setCell ?_ _ _ (.inl (by simp)); exact Chg.refl _ _
 have K1 := recL.sl_chg HS1.out k1 HD1.out
 have F1 := q0r.chg HF1.out k1
 have hfr := q0r.mono F1 (show w.heap.size ≤ _ from (by have s1 := HC1.out.size; simp at s1 ⊢ <;> omega))
 refine bodyPost_ret (v := .agg #[.bool v0, .slice b1 l1 d1]) (by simp [results, Tryz.results153, go_sem, hqc]) rfl ⟨_, _, rfl, q1k.2 ⟨b1, l1, d1, g1, rfl, K1, rfl⟩, hfr, hch⟩
theorem toTapeS_any (a : Option Addr) (la ca : Nat) (xs : List Tap) (f : List Nat) (w : World) (ha : tapL.sl w a la ca xs f) (hz : totL q2n xs ≤ 1048576) :
  Calls Tryz.prog 77 #[.slice a la ca] w (q5e tapL xs w) := by
 have hlz : la ≤ 1048576 := by have := q7n q1y xs; rw [ha.1]; omega
 have hmk := makeTape la hlz
 have hl := hid ha.1
 have HA := hid ha
 have HZ := hid (fun x hx => Int.le_trans (q7m q1y hx) hz : ∀ x ∈ xs, q2n x ≤ 1048576)
 clear ha hz
 go_enter Tryz.func77, Tryz.ntmps77
 go_wp2
 go_loopw [4] (fun i wr => ∃ (k : Nat) (fp : List Nat), k ≤ la ∧ i = .int .i64 k ∧ tapL.sl wr (some ⟨w.heap.size, 0, none⟩) la la (xs.take k ++ List.replicate (la - k) zTap) fp ∧ q0r w.heap.size wr fp ∧ w.heap.size ∈ fp ∧ Chg [] w wr) (fun i _ => la - (intOf i).toNat)
 case atStart => exact ⟨0, [w.heap.size], by omega, rfl, by have h := tapL.sl_zrow w 69 la (by omega) (zTap_rep _); rw [show la * tapL.n = la * 2 from rfl] at h; simpa using h, q6p w _ _, by simp, (Chg.refl [] w).alloc _⟩
 case round =>
  obtain ⟨k, fp, hk, rfl, hs, hf, hw, hc⟩ := hrel
  by_cases hlt : k < la
  ·obtain ⟨x, b, o, a1, l1, c1, fx, HX, rfl, hc0, hc1, HXS⟩ := q2i (tapL.sl_ext HA.out hc) hlt
   have HS := hid (And.intro hs (And.intro hf (And.intro hw hc)))
   clear hs hf hw hc
   have hlw : w.heap.size < wr.heap.size := Lay.sl_lt _ HS.out.1 _ HS.out.2.2.1
   go_wp2_with fail
   refine (toTape_any x #[.bool x.wiped, .slice a1 l1 c1] fx _ HXS.out (HZ.out x (List.mem_of_getElem? HX.out.1))).mono ?_
   rintro e w1 ⟨cs, f1, rfl, hr1, hf1, hc1⟩
   obtain ⟨p1, m1, d1, _, ex, -⟩ := q1k.1 hr1
   obtain rfl := Array.toList_inj.1 (ex.trans (List.toList_toArray).symm)
   clear ex
   have hfz : ∀ j, w1.frozen? ⟨w.heap.size, j, none⟩ = false := by obtain ⟨cur, E, h⟩ := hc1.loose _ (HS.out.2.1.2 _ HS.out.2.2.1).2; exact q0l h
   obtain ⟨y, b', o', _, _, _, fy, _, e', hd0, hd1, _⟩ := q2i (tapL.sl_ext HS.out.1 hc1) hlt
   obtain ⟨rfl, rfl⟩ : b' = w.heap.size ∧ o' = 0 := by simpa using e'.symm
   simp only [Nat.zero_add] at hd0 hd1
   have hlt1 := Nat.lt_of_lt_of_le hlw hc1.size
   obtain ⟨fp', hp, hm, hnd, hin, -⟩ := tapL.sl_putN (tapL.sl_ext HS.out.1 hc1) HS.out.2.1.1 hlt hr1 (fun y hy hy' => Nat.lt_irrefl _ (Nat.lt_of_lt_of_le (Lay.sl_lt _ HS.out.1 y hy') (hf1.2 y hy).1)) hf1.1
   rw [show 0 + k * tapL.n = k * 2 from Nat.zero_add _, q7a HX.out.1 hl.out] at hp
   have hfr : q0r w.heap.size (w1.setCells w.heap.size (k * 2) [.bool x.wiped, .slice p1 m1 d1]) fp' := ⟨hnd, fun y hy => by
    rcases hm y hy with h | h
    ·exact ⟨(HS.out.2.1.2 y h).1, q2e _ _ _ (hc1.loose y (HS.out.2.1.2 y h).2)⟩
    ·exact ⟨Nat.le_trans HS.out.2.2.2.size (hf1.2 y h).1, q2e _ _ _ (hf1.2 y h).2⟩⟩
   have HN := hid (And.intro hp (And.intro hfr (And.intro hin (Chg.setCells (.inr (Nat.le_refl _)) [.bool x.wiped, .slice p1 m1 d1] (k * 2) (HS.out.2.2.2.trans0 hc1)))))
   clear hp hfr hin hm hnd hr1 hf1 hc1 HS e'
   go_wp2_with fail
   go_roundw
   case rel => exact ⟨k + 1, fp', by omega, by go_num, HN.out.1, HN.out.2.1, HN.out.2.2.1, HN.out.2.2.2⟩
   case measure => simp [intOf]; omega
  ·have hkl : k = la := by omega
   subst hkl
   have hN : q5e tapL xs w (.returned (.slice (some ⟨w.heap.size, 0, none⟩) k k)) wr := by
    rw [List.take_of_length_le (by have := hl.out; omega), Nat.sub_self, List.replicate_zero, List.append_nil] at hs
    rw [hl.out] at hs ⊢
    exact ⟨_, _, _, rfl, hs, hf, hc⟩
   have HN := hid hN
   clear hN hs hf hw hc
   go_wp2
   go_ret
   exact HN.out
theorem cell_same {w w' : World} {b o : Nat} (h : w'.heap[b]? = w.heap[b]?) : w'.cell? ⟨b, o, none⟩ = w.cell? ⟨b, o, none⟩ := by simp only [World.cell?, h]
theorem q4h.free {w : World} {b : Nat} (h : q4h w b) : ∀ j, w.frozen? ⟨b, j, none⟩ = false := by obtain ⟨cur, E, h⟩ := h; exact q0l h
theorem Lay.sl_modb {α : Type} (L : Lay α) {w : World} {b off len cap : Nat} {xs : List α} {fp : List Nat} (h : L.sl w (some ⟨b, off, none⟩) len cap xs fp) (nd : fp.Nodup) {i : Nat} (hi : i < len) :
  ∃ x c f, xs[i]? = some x ∧ b ∈ fp ∧ (∀ j, j < L.n → w.cell? ⟨b, off + i * L.n + j, none⟩ = c[j]?) ∧ L.rep w c x f ∧ (∀ y ∈ f, y ∈ fp) ∧ f.Nodup ∧ b ∉ f ∧
   ∀ w' x', L.rep w' c x' f → (∀ y ∈ fp, y ∉ f → w'.heap[y]? = w.heap[y]?) → L.sl w' (some ⟨b, off, none⟩) len cap (xs.set i x') fp := by
 obtain ⟨h1, h2, h3, h4, ⟨rfl, rfl⟩ | ⟨b', off', cur, E, fr, fps, ha, hb, hall, rfl⟩⟩ := h
 ·simp at h1; omega
 ·simp only [Option.some.injEq, Addr.mk.injEq, and_true] at ha
  obtain ⟨rfl, rfl⟩ := ha
  have hx : xs[i]? = some (xs[i]'(by omega)) := List.getElem?_eq_getElem _
  obtain ⟨c, f, f1, f2, rfl, hc, hr, hm⟩ := L.all_mod hall hx
  have nd1 := List.nodup_cons.1 nd
  have nd2 := List.nodup_append.1 nd1.2
  have nd3 := List.nodup_append.1 nd2.1
  refine ⟨_, c, f, hx, by simp, fun j hj => ?_, hr, fun y hy => by simp [hy], nd3.2.1, fun hbf => nd1.1 (by simp [hbf]), fun w' x' hr' hk => ⟨by simpa using h1, h2, h3, h4, .inr ⟨b, off, cur, E, fr, _, rfl, ?_, hm w' x' hr' ?_, rfl⟩⟩⟩
  ·rw [cell_of_row w b _ cur E fr hb, ← hc j hj, List.getElem?_take_of_lt, List.getElem?_drop]
   ·simp [Nat.add_assoc]
   ·calc i * L.n + j < i * L.n + L.n := by omega
     _ = (i + 1) * L.n := by rw [Nat.add_mul, Nat.one_mul]
     _ ≤ len * L.n := Nat.mul_le_mul_right _ (by omega)
  ·rw [hk b (by simp) (fun hbf => nd1.1 (by simp [hbf]))]; exact hb
  ·intro y hy
   refine hk y (by rcases hy with hy | hy <;> simp [hy]) (fun hyf => ?_)
   rcases hy with hy | hy
   ·exact nd3.2.2 y hy y hyf rfl
   ·exact nd2.2.2 y (by simp [hyf]) y hy rfl
theorem block_set0 {w w' : World} {c : List Value} {x : Blk} {f : List Nat} (h : blkL.rep w c x f) (hk : ∀ b ∈ f, w'.heap[b]? = w.heap[b]?) (v : Int) (hv : q1t v) : blkL.rep w' (c.set 0 (.int .i64 v)) { x with stamp := v } f := by
 obtain ⟨a1, l1, c1, f1, ex, hv0, h1, hf⟩ := q2z.1 (blkL.keep h hk)
 subst ex
 exact q2z.2 ⟨a1, l1, c1, f1, rfl, hv, h1, hf⟩
theorem block_store0 {w : World} {b off len cap : Nat} {xs : List Blk} {fp : List Nat} (h : blkL.sl w (some ⟨b, off, none⟩) len cap xs fp) (nd : fp.Nodup) {i : Nat} {x : Blk} (hx : xs[i]? = some x) (v : Int) (hv : q1t v) :
  blkL.sl (w.setCell ⟨b, off + i * 2, none⟩ (.int .i64 v)) (some ⟨b, off, none⟩) len cap (xs.set i { x with stamp := v }) fp := by
 have := blkL.sl_store h nd (i := i) (j := 0) (x := x) (x' := { x with stamp := v }) (v := .int .i64 v) hx (by decide) (fun c f hr hb => block_set0 hr (fun y hy => Below.heap_setCell _ _ _ _ (fun e => hb (by have e' : y = b := e; exact e' ▸ hy))) v hv)
 exact this
theorem drive_set0 {w w' : World} {c : List Value} {x : Drv} {f : List Nat} (h : drvL.rep w c x f) (hk : ∀ b ∈ f, w'.heap[b]? = w.heap[b]?) (v : Bool) : drvL.rep w' (c.set 0 (.bool v)) { x with wiped := v } f := by
 obtain ⟨a1, l1, c1, f1, ex, h1, hf⟩ := q2y.1 (drvL.keep h hk)
 subst ex
 exact q2y.2 ⟨a1, l1, c1, f1, rfl, h1, hf⟩
theorem drive_store0 {w : World} {b off len cap : Nat} {xs : List Drv} {fp : List Nat} (h : drvL.sl w (some ⟨b, off, none⟩) len cap xs fp) (nd : fp.Nodup) {i : Nat} {x : Drv} (hx : xs[i]? = some x) (v : Bool) :
  drvL.sl (w.setCell ⟨b, off + i * 2, none⟩ (.bool v)) (some ⟨b, off, none⟩) len cap (xs.set i { x with wiped := v }) fp := by
 have := drvL.sl_store h nd (i := i) (j := 0) (x := x) (x' := { x with wiped := v }) (v := .bool v) hx (by decide) (fun c f hr hb => drive_set0 hr (fun y hy => Below.heap_setCell _ _ _ _ (fun e => hb (by have e' : y = b := e; exact e' ▸ hy))) v)
 exact this
theorem rec_set0 {w w' : World} {c : List Value} {x : Rec} {f : List Nat} (h : recL.rep w c x f) (hk : ∀ b ∈ f, w'.heap[b]? = w.heap[b]?) (v : Int) (hv : q1t v) : recL.rep w' (c.set 0 (.int .i64 v)) { x with kind := v } f := by
 obtain ⟨a6, l6, c6, f6, a7, l7, c7, f7, a8, l8, c8, f8, ex, hv0, o1, o2, o3, o4, o5, h6, h7, h8, hf⟩ := q0m.1 (recL.keep h hk)
 subst ex
 exact q0m.2 ⟨a6, l6, c6, f6, a7, l7, c7, f7, a8, l8, c8, f8, rfl, hv, o1, o2, o3, o4, o5, h6, h7, h8, hf⟩
theorem rec_store0 {w : World} {b off len cap : Nat} {xs : List Rec} {fp : List Nat} (h : recL.sl w (some ⟨b, off, none⟩) len cap xs fp) (nd : fp.Nodup) {i : Nat} {x : Rec} (hx : xs[i]? = some x) (v : Int) (hv : q1t v) :
  recL.sl (w.setCell ⟨b, off + i * 9, none⟩ (.int .i64 v)) (some ⟨b, off, none⟩) len cap (xs.set i { x with kind := v }) fp := by
 have := recL.sl_store h nd (i := i) (j := 0) (x := x) (x' := { x with kind := v }) (v := .int .i64 v) hx (by decide) (fun c f hr hb => rec_set0 hr (fun y hy => Below.heap_setCell _ _ _ _ (fun e => hb (by have e' : y = b := e; exact e' ▸ hy))) v hv)
 exact this
theorem rec_set1 {w w' : World} {c : List Value} {x : Rec} {f : List Nat} (h : recL.rep w c x f) (hk : ∀ b ∈ f, w'.heap[b]? = w.heap[b]?) (v : Int) (hv : q1t v) : recL.rep w' (c.set 1 (.int .i64 v)) { x with seq := v } f := by
 obtain ⟨a6, l6, c6, f6, a7, l7, c7, f7, a8, l8, c8, f8, ex, o0, hv0, o2, o3, o4, o5, h6, h7, h8, hf⟩ := q0m.1 (recL.keep h hk)
 subst ex
 exact q0m.2 ⟨a6, l6, c6, f6, a7, l7, c7, f7, a8, l8, c8, f8, rfl, o0, hv, o2, o3, o4, o5, h6, h7, h8, hf⟩
theorem rec_store1 {w : World} {b off len cap : Nat} {xs : List Rec} {fp : List Nat} (h : recL.sl w (some ⟨b, off, none⟩) len cap xs fp) (nd : fp.Nodup) {i : Nat} {x : Rec} (hx : xs[i]? = some x) (v : Int) (hv : q1t v) :
  recL.sl (w.setCell ⟨b, off + i * 9 + 1, none⟩ (.int .i64 v)) (some ⟨b, off, none⟩) len cap (xs.set i { x with seq := v }) fp := by
 have := recL.sl_store h nd (i := i) (j := 1) (x := x) (x' := { x with seq := v }) (v := .int .i64 v) hx (by decide) (fun c f hr hb => rec_set1 hr (fun y hy => Below.heap_setCell _ _ _ _ (fun e => hb (by have e' : y = b := e; exact e' ▸ hy))) v hv)
 exact this
theorem rec_set2 {w w' : World} {c : List Value} {x : Rec} {f : List Nat} (h : recL.rep w c x f) (hk : ∀ b ∈ f, w'.heap[b]? = w.heap[b]?) (v : ByteArray) (hv : v.size ≤ maxLen) : recL.rep w' (c.set 2 (.string v)) { x with name := v } f := by
 obtain ⟨a6, l6, c6, f6, a7, l7, c7, f7, a8, l8, c8, f8, ex, o0, o1, hv0, o3, o4, o5, h6, h7, h8, hf⟩ := q0m.1 (recL.keep h hk)
 subst ex
 exact q0m.2 ⟨a6, l6, c6, f6, a7, l7, c7, f7, a8, l8, c8, f8, rfl, o0, o1, hv, o3, o4, o5, h6, h7, h8, hf⟩
theorem rec_store2 {w : World} {b off len cap : Nat} {xs : List Rec} {fp : List Nat} (h : recL.sl w (some ⟨b, off, none⟩) len cap xs fp) (nd : fp.Nodup) {i : Nat} {x : Rec} (hx : xs[i]? = some x) (v : ByteArray) (hv : v.size ≤ maxLen) :
  recL.sl (w.setCell ⟨b, off + i * 9 + 2, none⟩ (.string v)) (some ⟨b, off, none⟩) len cap (xs.set i { x with name := v }) fp := by
 have := recL.sl_store h nd (i := i) (j := 2) (x := x) (x' := { x with name := v }) (v := .string v) hx (by decide) (fun c f hr hb => rec_set2 hr (fun y hy => Below.heap_setCell _ _ _ _ (fun e => hb (by have e' : y = b := e; exact e' ▸ hy))) v hv)
 exact this
theorem rec_set3 {w w' : World} {c : List Value} {x : Rec} {f : List Nat} (h : recL.rep w c x f) (hk : ∀ b ∈ f, w'.heap[b]? = w.heap[b]?) (v : Int) (hv : q1t v) : recL.rep w' (c.set 3 (.int .i64 v)) { x with length := v } f := by
 obtain ⟨a6, l6, c6, f6, a7, l7, c7, f7, a8, l8, c8, f8, ex, o0, o1, o2, hv0, o4, o5, h6, h7, h8, hf⟩ := q0m.1 (recL.keep h hk)
 subst ex
 exact q0m.2 ⟨a6, l6, c6, f6, a7, l7, c7, f7, a8, l8, c8, f8, rfl, o0, o1, o2, hv, o4, o5, h6, h7, h8, hf⟩
theorem rec_store3 {w : World} {b off len cap : Nat} {xs : List Rec} {fp : List Nat} (h : recL.sl w (some ⟨b, off, none⟩) len cap xs fp) (nd : fp.Nodup) {i : Nat} {x : Rec} (hx : xs[i]? = some x) (v : Int) (hv : q1t v) :
  recL.sl (w.setCell ⟨b, off + i * 9 + 3, none⟩ (.int .i64 v)) (some ⟨b, off, none⟩) len cap (xs.set i { x with length := v }) fp := by
 have := recL.sl_store h nd (i := i) (j := 3) (x := x) (x' := { x with length := v }) (v := .int .i64 v) hx (by decide) (fun c f hr hb => rec_set3 hr (fun y hy => Below.heap_setCell _ _ _ _ (fun e => hb (by have e' : y = b := e; exact e' ▸ hy))) v hv)
 exact this
theorem rec_set4 {w w' : World} {c : List Value} {x : Rec} {f : List Nat} (h : recL.rep w c x f) (hk : ∀ b ∈ f, w'.heap[b]? = w.heap[b]?) (v : Int) (hv : q1t v) : recL.rep w' (c.set 4 (.int .i64 v)) { x with group := v } f := by
 obtain ⟨a6, l6, c6, f6, a7, l7, c7, f7, a8, l8, c8, f8, ex, o0, o1, o2, o3, hv0, o5, h6, h7, h8, hf⟩ := q0m.1 (recL.keep h hk)
 subst ex
 exact q0m.2 ⟨a6, l6, c6, f6, a7, l7, c7, f7, a8, l8, c8, f8, rfl, o0, o1, o2, o3, hv, o5, h6, h7, h8, hf⟩
theorem rec_store4 {w : World} {b off len cap : Nat} {xs : List Rec} {fp : List Nat} (h : recL.sl w (some ⟨b, off, none⟩) len cap xs fp) (nd : fp.Nodup) {i : Nat} {x : Rec} (hx : xs[i]? = some x) (v : Int) (hv : q1t v) :
  recL.sl (w.setCell ⟨b, off + i * 9 + 4, none⟩ (.int .i64 v)) (some ⟨b, off, none⟩) len cap (xs.set i { x with group := v }) fp := by
 have := recL.sl_store h nd (i := i) (j := 4) (x := x) (x' := { x with group := v }) (v := .int .i64 v) hx (by decide) (fun c f hr hb => rec_set4 hr (fun y hy => Below.heap_setCell _ _ _ _ (fun e => hb (by have e' : y = b := e; exact e' ▸ hy))) v hv)
 exact this
theorem rec_set5 {w w' : World} {c : List Value} {x : Rec} {f : List Nat} (h : recL.rep w c x f) (hk : ∀ b ∈ f, w'.heap[b]? = w.heap[b]?) (v : Int) (hv : q1t v) : recL.rep w' (c.set 5 (.int .i64 v)) { x with row := v } f := by
 obtain ⟨a6, l6, c6, f6, a7, l7, c7, f7, a8, l8, c8, f8, ex, o0, o1, o2, o3, o4, hv0, h6, h7, h8, hf⟩ := q0m.1 (recL.keep h hk)
 subst ex
 exact q0m.2 ⟨a6, l6, c6, f6, a7, l7, c7, f7, a8, l8, c8, f8, rfl, o0, o1, o2, o3, o4, hv, h6, h7, h8, hf⟩
theorem rec_store5 {w : World} {b off len cap : Nat} {xs : List Rec} {fp : List Nat} (h : recL.sl w (some ⟨b, off, none⟩) len cap xs fp) (nd : fp.Nodup) {i : Nat} {x : Rec} (hx : xs[i]? = some x) (v : Int) (hv : q1t v) :
  recL.sl (w.setCell ⟨b, off + i * 9 + 5, none⟩ (.int .i64 v)) (some ⟨b, off, none⟩) len cap (xs.set i { x with row := v }) fp := by
 have := recL.sl_store h nd (i := i) (j := 5) (x := x) (x' := { x with row := v }) (v := .int .i64 v) hx (by decide) (fun c f hr hb => rec_set5 hr (fun y hy => Below.heap_setCell _ _ _ _ (fun e => hb (by have e' : y = b := e; exact e' ▸ hy))) v hv)
 exact this
theorem tape_set0 {w w' : World} {c : List Value} {x : Tap} {f : List Nat} (h : tapL.rep w c x f) (hk : ∀ b ∈ f, w'.heap[b]? = w.heap[b]?) (v : Bool) : tapL.rep w' (c.set 0 (.bool v)) { x with wiped := v } f := by
 obtain ⟨a1, l1, c1, f1, ex, h1, hf⟩ := q1k.1 (tapL.keep h hk)
 subst ex
 exact q1k.2 ⟨a1, l1, c1, f1, rfl, h1, hf⟩
theorem tape_store0 {w : World} {b off len cap : Nat} {xs : List Tap} {fp : List Nat} (h : tapL.sl w (some ⟨b, off, none⟩) len cap xs fp) (nd : fp.Nodup) {i : Nat} {x : Tap} (hx : xs[i]? = some x) (v : Bool) :
  tapL.sl (w.setCell ⟨b, off + i * 2, none⟩ (.bool v)) (some ⟨b, off, none⟩) len cap (xs.set i { x with wiped := v }) fp := by
 have := tapL.sl_store h nd (i := i) (j := 0) (x := x) (x' := { x with wiped := v }) (v := .bool v) hx (by decide) (fun c f hr hb => tape_set0 hr (fun y hy => Below.heap_setCell _ _ _ _ (fun e => hb (by have e' : y = b := e; exact e' ▸ hy))) v)
 exact this
theorem mdigits_zero : ∀ (n : Nat) (out : ByteArray), q4e n 0 out = out
 | 0, _ => rfl
 | n + 1, out => by unfold q4e; rw [if_pos rfl]
theorem mdigits_step {n k : Nat} {out : ByteArray} (h : 0 < k) : q4e (n + 1) k out = q4e n (k / 10) (ByteArray.mk #[(UInt8.ofNat (48 + k % 10))] ++ out) := by
 conv => lhs; unfold q4e
 rw [if_neg (by omega)]
theorem q8v : ∀ (n k : Nat) (out : ByteArray), (q4e n k out).size ≤ out.size + n
 | 0, _, out => Nat.le_refl _
 | n + 1, k, out => by
  unfold q4e
  split
  ·omega
  ·have := q8v n (k / 10) (ByteArray.mk #[(UInt8.ofNat (48 + k % 10))] ++ out)
   rw [ByteArray.size_append] at this
   have e : (ByteArray.mk #[UInt8.ofNat (48 + k % 10)]).size = 1 := rfl
   omega
theorem mtext_max (k : Int) : (mtext k).size ≤ maxLen := by
 unfold mtext
 split
 ·show 2 ≤ _; simp [maxLen]
 ·rw [ByteArray.size_append]
  have h1 := q8v 20 k.toNat (ByteArray.mk #[])
  have h2 : (ByteArray.mk #[] : ByteArray).size = 0 := rfl
  have h3 : (ByteArray.mk #[109] : ByteArray).size = 1 := rfl
  simp only [maxLen]; omega
theorem markText_any (k : Int) (hk : 0 ≤ k) (hk2 : k ≤ 9223372036854775807) (w : World) :
  Calls Tryz.prog 174 #[.int .i64 k] w fun e w' => e = .returned (.string (mtext k)) ∧ Chg [] w w' := by
 by_cases h0 : k ≤ 0
 ·have HM := hid (show mtext k = ⟨#[109, 48]⟩ from if_pos h0)
  go_enter Tryz.func174, Tryz.ntmps174
  go_wp2_with fail
  go_ret
  exact ⟨by rw [HM.out]; rfl, Chg.refl _ _⟩
 ·obtain ⟨m, rfl⟩ := Int.eq_ofNat_of_zero_le hk
  have HM := hid (show mtext (m : Int) = ⟨#[109]⟩ ++ q4e 20 m ⟨#[]⟩ from if_neg h0)
  have hm0 : 0 < m := by omega
  have H20 := hid (show m < 10 ^ 20 by have h10 : (10 : Nat) ^ 20 = 100000000000000000000 := (by decide); omega)
  go_enter Tryz.func174, Tryz.ntmps174
  go_wp2_with fail
  go_loopw [0, 3] (fun v0 v3 wr => ∃ (n kk : Nat) (out : ByteArray) (Wr : World), Wr = wr ∧ v0 = .int .i64 kk ∧ v3 = .string out ∧ kk ≤ m ∧ Hid (q4e n kk out = q4e 20 m ⟨#[]⟩ ∧ kk < 10 ^ n) ∧ out.size + n ≤ 20 ∧ Chg [] w wr) (fun v0 _ _ => (intOf v0).toNat)
  case atStart => exact ⟨20, m, ⟨#[]⟩, _, rfl, rfl, rfl, by omega, ⟨rfl, H20.out⟩, by show 0 + 20 ≤ 20; omega, Chg.refl _ _⟩
  case round =>
   obtain ⟨n, kk, out, wr, rfl, rfl, rfl, hkm, HN, hs, hc⟩ := hrel
   have HC := hid hc
   clear hc
   by_cases hz : kk = 0
   ·subst hz
    have HO := hid (show out = q4e 20 m ⟨#[]⟩ by rw [← HN.out.1, mdigits_zero])
    go_wp2_with fail
    go_ret
    exact ⟨by rw [HM.out, ← HO.out]; rfl, HC.out⟩
   ·obtain ⟨n', rfl⟩ : ∃ n', n = n' + 1 := ⟨n - 1, by
     cases n with
     | zero => have := HN.out.2; simp at this; omega
     | succ n => rfl⟩
    have hr : ((kk : Int)).tmod 10 = ((kk % 10 : Nat) : Int) := by rw [Int.tmod_eq_emod_of_nonneg (by omega)]; omega
    have hq : ((kk : Int)).tdiv 10 = ((kk / 10 : Nat) : Int) := by rw [Int.tdiv_eq_ediv_of_nonneg (by omega)]; omega
    have hd : kk % 10 < 10 := Nat.mod_lt _ (by omega)
    have HST := hid (mdigits_step (n := n') (out := out) (show 0 < kk by omega))
    have HQ10 := hid (show kk / 10 < 10 ^ n' by
     have := HN.out.2
     rw [Nat.pow_succ] at this
     exact Nat.div_lt_of_lt_mul (by omega))
    have hkl : kk / 10 < kk := Nat.div_lt_self (by omega) (by omega)
    generalize kk / 10 = q at hq HST HQ10 hkl
    generalize kk % 10 = d at hr hd HST
    have hw8 : IntKind.u8.wrap (48 + (d : Int)) = 48 + (d : Int) := IntWalk.u8_in _ (by omega)
    obtain ⟨y, hy⟩ : ∃ y : UInt8, y = UInt8.ofNat (48 + d) := ⟨_, rfl⟩
    have hyn : 48 + (d : Int) = (y.toNat : Int) := by rw [hy, UInt8.toNat_ofNat']; omega
    rw [← hy] at HST
    have hcv : ∀ w : World, (convert 62 9 (.slice (some ⟨w.heap.size, 0, none⟩) 1 1)).run Tryz.prog (w.alloc (.cells #[.int .u8 (48 + (d : Int))] 5)) = .ok (.string ⟨#[y]⟩) (w.alloc (.cells #[.int .u8 (48 + (d : Int))] 5)) := fun w =>
     run_convert_bytes_back _ _ _ _ ⟨w.heap.size, 0, none⟩ 1 [y] Tryz.underlying62 Tryz.underlying5 Tryz.underlying9 (fun j hj => by
      have : j = 0 := by simpa using hj
      subst this
      rw [hyn]
      exact q7v _ _ _ 0 _ rfl)
    have hsz : (⟨#[y]⟩ : ByteArray).size = 1 := rfl
    have hss : ((⟨#[y]⟩ : ByteArray) ++ out).size = 1 + out.size := by rw [ByteArray.size_append, hsz]
    have HSS := hid hss
    clear hy hyn hss
    go_wp2_with fail
    go_roundw
    case rel => exact ⟨n', q, ⟨#[y]⟩ ++ out, _, rfl, by go_num, rfl, by omega, ⟨by rw [← HST.out]; exact HN.out.1, HQ10.out⟩, by rw [HSS.out]; omega, HC.out.alloc _⟩
    case measure => simp [intOf]; omega
theorem z0x (a : Option Addr) (la ca : Nat) (xs : List Blk) (f : List Nat) (k : Int) (w : World) (ha : blkL.sl w a la ca xs f) (hf : q0r 0 w f) (hk : 0 ≤ k) (hk2 : k + sumI q3j xs ≤ 4611686018427387904) :
  Calls Tryz.prog 232 #[.slice a la ca, .int .i64 k] w fun e w' => e = .returned (.int .i64 (k + sumI q3j xs)) ∧ blkL.sl w' a la ca (q2h q3j z2a xs k) f ∧ Chg f w w' := by
 have hm := blkL.sl_max ha
 have hl := hid ha.1
 have HF := hid hf
 have HK := hid hk2
 go_enter Tryz.func232, Tryz.ntmps232
 go_wp2
 go_loopw [1, 5] (fun u v wr => ∃ (i : Nat) (z : Int), i ≤ la ∧ u = .int .i64 z ∧ Hid (z = k + sumI q3j (xs.take i)) ∧ v = .int .i64 i ∧ blkL.sl wr a la ca (q2h q3j z2a (xs.take i) k ++ xs.drop i) f ∧ Chg f w wr) (fun _ v _ => la - (intOf v).toNat)
 case atStart => exact ⟨0, k, by omega, rfl, by show k = k + 0; omega, rfl, by simpa [q2h] using ha, Chg.refl _ _⟩
 case round =>
  clear ha hf hk2
  obtain ⟨i, z, hi, rfl, HZ, rfl, hs, hc⟩ := hrel
  by_cases hlt : i < la
  ·obtain ⟨x0, b, off, _, _, _, _, HX, rfl, hc0, hc1, HXS⟩ := q4v hs hlt
   have hxi := q6n HX.out.1
   have HXI := hid hxi
   have hz0 : 0 ≤ z := by rw [HZ.out]; have := q0w q4u (xs.take i); omega
   have hz1 : z + q3j x0 ≤ 4611686018427387904 := by
    have h1 := q5l q4u hxi
    rw [HZ.out]; have := HK.out; omega
   have hcx : q3j x0 = 1 + q3t x0.bytes := rfl
   have hin : 0 ≤ q3t x0.bytes := q1g _
   have HZO := hid (show q1t z from ⟨by omega, by omega⟩)
   have hst := block_store0 hs HF.out.1 HX.out.1 z HZO.out
   have hcs : Chg f wr (wr.setCell ⟨b, off + i * 2, none⟩ (.int .i64 z)) := (Chg.refl f wr).setCell _ _ (.inl HX.out.2.1)
   have hfb : ∀ j, wr.frozen? ⟨b, j, none⟩ = false := by obtain ⟨cur, E, h⟩ := hc.loose b (HF.out.2 b HX.out.2.1).2; exact q0l h
   have hlb : b < wr.heap.size := Lay.sl_lt _ hs _ HX.out.2.1
   obtain ⟨x2, b2, o2, cs, fx, hx2, e2, hb2, hcx2, hrep, hfx, hndx, hmod⟩ := blkL.sl_mod hst HF.out.1 hlt
   obtain ⟨rfl, rfl⟩ : b = b2 ∧ off = o2 := by simpa using e2
   have hlen : i < (q2h q3j z2a (xs.take i) k ++ xs.drop i).length := (List.getElem?_eq_some_iff.1 HX.out.1).1
   rw [List.getElem?_set_self hlen] at hx2
   obtain rfl := Option.some.inj hx2
   obtain ⟨a1, l1, c1, f1, ex, -, h1, e1⟩ := q2z.1 hrep
   replace h1 : q0q.sl _ a1 l1 c1 x0.bytes f1 := h1
   subst ex
   subst e1
   have hc1' : wr.cell? ⟨b, off + i * 2 + 1, none⟩ = some (.slice a1 l1 c1) := by
    have h5 := hcx2 1 (by decide)
    rw [show off + i * blkL.n + 1 = off + i * 2 + 1 from rfl, World.cell?_setCell_other _ _ _ _ (by intro h; have := congrArg Addr.off h; simp at this)] at h5
    exact h5
   have HI := hid (z0c a1 l1 c1 x0.bytes fx (z + 1) _ h1 ⟨hndx, fun y hy => ⟨Nat.zero_le _, hcs.loose y (hc.loose y (HF.out.2 y (hfx y hy)).2)⟩⟩ (by omega) (by have := h1.1; unfold q3t at hcx; omega))
   have HL1 := hid h1.1
   have HMOD := hid (fun w' (h : q0q.sl w' a1 l1 c1 (q4a (z + 1) x0.bytes.length) fx) (hk : ∀ y ∈ f, y ∉ fx → w'.heap[y]? = (wr.setCell ⟨b, off + i * 2, none⟩ (.int .i64 z)).heap[y]?) => hmod w' (⟨z, q4a (z + 1) x0.bytes.length⟩ : Blk) (q2z.2 ⟨a1, l1, c1, fx, rfl, HZO.out, h, rfl⟩) hk)
   have HSUB := hid hfx
   have HCS := hid (hc.trans hcs (fun x hx => .inl hx))
   have HLT := hid (fun y hy => Lay.sl_lt _ hst y hy : ∀ y ∈ f, y < _)
   have HZ2 := hid (show z + 1 + q3t x0.bytes = k + sumI q3j (xs.take (i + 1)) by rw [q3a hxi, HZ.out, hcx]; omega)
   have HMN := hid (q5r (cnt := q3j) (mk := z2a) k hxi)
   have hz2 : z + 1 ≤ 4611686018427387904 := by omega
   clear hc1 hs hst hcs hmod hfx hndx hcx2 hrep h1 hx2 e2 hb2 hlen hxi hc hcx HXS HX HXI hz1 hin
   go_wp2_with fail
   refine HI.out.mono ?_
   rintro e w1 ⟨rfl, hs1, hc1⟩
   have hs2 := HMOD.out w1 (by rw [HL1.out] at hs1 ⊢; exact hs1) (fun y hy hny => hc1.block y (HLT.out y hy) hny)
   rw [List.set_set, show (⟨z, q4a (z + 1) x0.bytes.length⟩ : Blk) = z2a (k + sumI q3j (xs.take i)) x0 by rw [← HZ.out]; rfl, HMN.out] at hs2
   have HN := hid (And.intro hs2 (HCS.out.trans hc1 (fun y hy => .inl (HSUB.out y hy))))
   clear hs1 hs2 hc1
   go_wp2_with fail
   go_roundw
   case rel => exact ⟨i + 1, _, by omega, rfl, by show z + 1 + (l1 : Int) = _; rw [← HZ2.out, HL1.out]; rfl, by go_num, HN.out.1, HN.out.2⟩
   case measure => simp [intOf]; omega
  ·have hil : i = la := by omega
   subst hil
   rw [List.take_of_length_le (by have := hl.out; omega), List.drop_of_length_le (by have := hl.out; omega), List.append_nil] at hs
   rw [List.take_of_length_le (by have := hl.out; omega)] at HZ
   have HN := hid (And.intro hs hc)
   clear hs hc
   go_wp2
   go_ret
   exact ⟨q0e HZ.out, HN.out⟩
theorem z0w (a : Option Addr) (la ca : Nat) (xs : List Drv) (f : List Nat) (k : Int) (w : World) (ha : drvL.sl w a la ca xs f) (hf : q0r 0 w f) (hk : 0 ≤ k) (hk2 : k + sumI q3i xs ≤ 4611686018427387904) :
  Calls Tryz.prog 162 #[.slice a la ca, .int .i64 k] w fun e w' => e = .returned (.int .i64 (k + sumI q3i xs)) ∧ drvL.sl w' a la ca (q2h q3i mkDrv xs k) f ∧ Chg f w w' := by
 have hm := drvL.sl_max ha
 have hl := hid ha.1
 have HF := hid hf
 have HK := hid hk2
 go_enter Tryz.func162, Tryz.ntmps162
 go_wp2
 go_loopw [1, 5] (fun u v wr => ∃ (i : Nat) (z : Int), i ≤ la ∧ u = .int .i64 z ∧ Hid (z = k + sumI q3i (xs.take i)) ∧ v = .int .i64 i ∧ drvL.sl wr a la ca (q2h q3i mkDrv (xs.take i) k ++ xs.drop i) f ∧ Chg f w wr) (fun _ v _ => la - (intOf v).toNat)
 case atStart => exact ⟨0, k, by omega, rfl, by show k = k + 0; omega, rfl, by simpa [q2h] using ha, Chg.refl _ _⟩
 case round =>
  clear ha hf hk2
  obtain ⟨i, z, hi, rfl, HZ, rfl, hs, hc⟩ := hrel
  by_cases hlt : i < la
  ·obtain ⟨x0, b, off, _, _, _, _, HX, rfl, hc0, hc1, HXS⟩ := q4r hs hlt
   have hxi := q6n HX.out.1
   have HXI := hid hxi
   have hz0 : 0 ≤ z := by rw [HZ.out]; have := q0w q6a (xs.take i); omega
   have hz1 : z + q3i x0 ≤ 4611686018427387904 := by
    have h1 := q5l q6a hxi
    rw [HZ.out]; have := HK.out; omega
   have hcx : q3i x0 = 1 + sumI q3j x0.blocks := rfl
   have hin : 0 ≤ sumI q3j x0.blocks := q0w q4u _
   have HZO := hid (show q1t z from ⟨by omega, by omega⟩)
   have hst := drive_store0 hs HF.out.1 HX.out.1 (z % 3 == 0)
   have hcs : Chg f wr (wr.setCell ⟨b, off + i * 2, none⟩ (.bool (z % 3 == 0))) := (Chg.refl f wr).setCell _ _ (.inl HX.out.2.1)
   have hfb : ∀ j, wr.frozen? ⟨b, j, none⟩ = false := by obtain ⟨cur, E, h⟩ := hc.loose b (HF.out.2 b HX.out.2.1).2; exact q0l h
   have hlb : b < wr.heap.size := Lay.sl_lt _ hs _ HX.out.2.1
   obtain ⟨x2, b2, o2, cs, fx, hx2, e2, hb2, hcx2, hrep, hfx, hndx, hmod⟩ := drvL.sl_mod hst HF.out.1 hlt
   obtain ⟨rfl, rfl⟩ : b = b2 ∧ off = o2 := by simpa using e2
   have hlen : i < (q2h q3i mkDrv (xs.take i) k ++ xs.drop i).length := (List.getElem?_eq_some_iff.1 HX.out.1).1
   rw [List.getElem?_set_self hlen] at hx2
   obtain rfl := Option.some.inj hx2
   obtain ⟨a1, l1, c1, f1, ex, h1, e1⟩ := q2y.1 hrep
   replace h1 : blkL.sl _ a1 l1 c1 x0.blocks f1 := h1
   subst ex
   subst e1
   have hc1' : wr.cell? ⟨b, off + i * 2 + 1, none⟩ = some (.slice a1 l1 c1) := by
    have h5 := hcx2 1 (by decide)
    rw [show off + i * drvL.n + 1 = off + i * 2 + 1 from rfl, World.cell?_setCell_other _ _ _ _ (by intro h; have := congrArg Addr.off h; simp at this)] at h5
    exact h5
   have HI := hid (z0x a1 l1 c1 x0.blocks fx (z + 1) _ h1 ⟨hndx, fun y hy => ⟨Nat.zero_le _, hcs.loose y (hc.loose y (HF.out.2 y (hfx y hy)).2)⟩⟩ (by omega) (by omega))
   have HL1 := hid h1.1
   have HMOD := hid (fun w' (h : blkL.sl w' a1 l1 c1 (q2h q3j z2a x0.blocks (z + 1)) fx) (hk : ∀ y ∈ f, y ∉ fx → w'.heap[y]? = (wr.setCell ⟨b, off + i * 2, none⟩ (.bool (z % 3 == 0))).heap[y]?) => hmod w' (⟨(z % 3 == 0), q2h q3j z2a x0.blocks (z + 1)⟩ : Drv) (q2y.2 ⟨a1, l1, c1, fx, rfl, h, rfl⟩) hk)
   have HSUB := hid hfx
   have HCS := hid (hc.trans hcs (fun x hx => .inl hx))
   have HLT := hid (fun y hy => Lay.sl_lt _ hst y hy : ∀ y ∈ f, y < _)
   have HZ2 := hid (show z + 1 + sumI q3j x0.blocks = k + sumI q3i (xs.take (i + 1)) by rw [q3a hxi, HZ.out, hcx]; omega)
   have HMN := hid (q5r (cnt := q3i) (mk := mkDrv) k hxi)
   have hz2 : z + 1 ≤ 4611686018427387904 := by omega
   clear hc1 hs hst hcs hmod hfx hndx hcx2 hrep h1 hx2 e2 hb2 hlen hxi hc hcx HXS HX HXI hz1 hin
   go_wp2_with fail
   refine HI.out.mono ?_
   rintro e w1 ⟨rfl, hs1, hc1⟩
   have hs2 := HMOD.out w1 hs1 (fun y hy hny => hc1.block y (HLT.out y hy) hny)
   rw [List.set_set, show (⟨(z % 3 == 0), q2h q3j z2a x0.blocks (z + 1)⟩ : Drv) = mkDrv (k + sumI q3i (xs.take i)) x0 by rw [← HZ.out]; rfl, HMN.out] at hs2
   have HN := hid (And.intro hs2 (HCS.out.trans hc1 (fun y hy => .inl (HSUB.out y hy))))
   clear hs1 hs2 hc1
   go_wp2_with fail
   go_roundw
   case rel => exact ⟨i + 1, _, by omega, rfl, by exact HZ2.out, by go_num, HN.out.1, HN.out.2⟩
   case measure => simp [intOf]; omega
  ·have hil : i = la := by omega
   subst hil
   rw [List.take_of_length_le (by have := hl.out; omega), List.drop_of_length_le (by have := hl.out; omega), List.append_nil] at hs
   rw [List.take_of_length_le (by have := hl.out; omega)] at HZ
   have HN := hid (And.intro hs hc)
   clear hs hc
   go_wp2
   go_ret
   exact ⟨q0e HZ.out, HN.out⟩
theorem z0b (a : Option Addr) (la ca : Nat) (xs : List (List Drv)) (f : List Nat) (k : Int) (w : World) (ha : drvL.slice.sl w a la ca xs f) (hf : q0r 0 w f) (hk : 0 ≤ k) (hk2 : k + sumI q3f xs ≤ 4611686018427387904) :
  Calls Tryz.prog 87 #[.slice a la ca, .int .i64 k] w fun e w' => e = .returned (.int .i64 (k + sumI q3f xs)) ∧ drvL.slice.sl w' a la ca (q2h q3f mkDrvs xs k) f ∧ Chg f w w' := by
 have hm := drvL.slice.sl_max ha
 have hl := hid ha.1
 have HF := hid hf
 have HK := hid hk2
 go_enter Tryz.func87, Tryz.ntmps87
 go_wp2
 go_loopw [1, 5] (fun u v wr => ∃ (i : Nat) (z : Int), i ≤ la ∧ u = .int .i64 z ∧ Hid (z = k + sumI q3f (xs.take i)) ∧ v = .int .i64 i ∧ drvL.slice.sl wr a la ca (q2h q3f mkDrvs (xs.take i) k ++ xs.drop i) f ∧ Chg f w wr) (fun _ v _ => la - (intOf v).toNat)
 case atStart => exact ⟨0, k, by omega, rfl, by show k = k + 0; omega, rfl, by simpa [q2h] using ha, Chg.refl _ _⟩
 case round =>
  clear ha hf hk2
  obtain ⟨i, z, hi, rfl, HZ, rfl, hs, hc⟩ := hrel
  by_cases hlt : i < la
  ·obtain ⟨x, b, o, cs, fx, hx, rfl, hb, hcx, ⟨A, lx, C, rfl, hxs⟩, hfx, hndx, hmod⟩ := drvL.slice.sl_mod hs HF.out.1 hlt
   have hcx' := hcx 0 drvL.slice.pos
   rw [show o + i * drvL.slice.n + 0 = o + i by simp [Lay.slice]] at hcx'
   have hxi := q6n hx
   have HX := hid hxi
   have hz0 : 0 ≤ z := by rw [HZ.out]; have := q0w q4k (xs.take i); omega
   have hz1 : z + q3f x ≤ 4611686018427387904 := by
    have h1 := q5l q4k hxi
    rw [HZ.out]; have := HK.out; omega
   have HM := hid (fun w' (h : drvL.sl w' A lx C (mkDrvs z x) fx) (hk : ∀ y ∈ f, y ∉ fx → w'.heap[y]? = wr.heap[y]?) => hmod w' (mkDrvs z x) ⟨A, lx, C, rfl, h⟩ hk)
   have HXS := hid (z0w A lx C x fx z wr hxs ⟨hndx, fun y hy => ⟨Nat.zero_le _, hc.loose y (HF.out.2 y (hfx y hy)).2⟩⟩ hz0 hz1)
   have HSub := hid hfx
   have HC := hid hc
   have HLT := hid (drvL.slice.sl_lt hs)
   have HZ2 := hid (show z + sumI q3i x = k + sumI q3f (xs.take (i + 1)) by rw [q3a hxi, HZ.out]; show _ + sumI q3i x = k + (_ + sumI q3i x); omega)
   clear hcx hxs hmod hfx hndx hs hx hxi hc
   go_wp2_with fail
   refine HXS.out.mono ?_
   rintro e w1 ⟨rfl, hs1, hc1⟩
   have hs2 := HM.out w1 hs1 (fun y hy hny => hc1.block y (HLT.out y hy) hny)
   rw [HZ.out, q5r k HX.out] at hs2
   have HN := hid (And.intro hs2 (HC.out.trans hc1 (fun y hy => .inl (HSub.out y hy))))
   clear hs1 hs2 hc1
   go_wp2_with fail
   go_roundw
   case rel => exact ⟨i + 1, _, by omega, rfl, HZ2.out, by go_num, HN.out.1, HN.out.2⟩
   case measure => simp [intOf]; omega
  ·have hil : i = la := by omega
   subst hil
   rw [List.take_of_length_le (by have := hl.out; omega), List.drop_of_length_le (by have := hl.out; omega), List.append_nil] at hs
   rw [List.take_of_length_le (by have := hl.out; omega)] at HZ
   have HN := hid (And.intro hs hc)
   clear hs hc
   go_wp2
   go_ret
   exact ⟨q0e HZ.out, HN.out⟩
theorem markRecS_any (a : Option Addr) (la ca : Nat) (xs : List Rec) (f : List Nat) (k : Int) (w : World) (ha : recL.sl w a la ca xs f) (hf : q0r 0 w f) (hk : 0 ≤ k) (hk2 : k + sumI q2r xs ≤ 4611686018427387904) :
  Calls Tryz.prog 96 #[.slice a la ca, .int .i64 k] w fun e w' => e = .returned (.int .i64 (k + sumI q2r xs)) ∧ recL.sl w' a la ca (q2h q2r q8l xs k) f ∧ Chg f w w' := by
 have hm := recL.sl_max ha
 have hl := hid ha.1
 have HF := hid hf
 have HK := hid hk2
 go_enter Tryz.func96, Tryz.ntmps96
 go_wp2
 go_loopw [1, 5] (fun u v wr => ∃ (i : Nat) (z : Int), i ≤ la ∧ u = .int .i64 z ∧ Hid (z = k + sumI q2r (xs.take i)) ∧ v = .int .i64 i ∧ recL.sl wr a la ca (q2h q2r q8l (xs.take i) k ++ xs.drop i) f ∧ Chg f w wr) (fun _ v _ => la - (intOf v).toNat)
 case atStart => exact ⟨0, k, by omega, rfl, by show k = k + 0; omega, rfl, by simpa [q2h] using ha, Chg.refl _ _⟩
 case round =>
  clear ha hf hk2
  obtain ⟨i, z, hi, rfl, HZ, rfl, hs, hc⟩ := hrel
  by_cases hlt : i < la
  ·obtain ⟨x0, b, off, _, _, _, _, _, _, _, _, _, _, HX, rfl, hc0, hc1, -, -, -, -, -, -, -, -⟩ := q4q hs hlt
   have hxi := q6n HX.out.1
   have hz0 : 0 ≤ z := by rw [HZ.out]; have := q0w q4t (xs.take i); omega
   have hz1 : z + q2r x0 ≤ 4611686018427387904 := by
    have h1 := q5l q4t hxi
    rw [HZ.out]; have := HK.out; omega
   have hcx : q2r x0 = 6 + q3x x0.rows + q3t x0.data + q3t x0.delta := rfl
   have hi1 := q1v x0.rows
   have hi2 := q1g x0.data
   have hi3 := q1g x0.delta
   have hlen : i < (q2h q2r q8l (xs.take i) k ++ xs.drop i).length := (List.getElem?_eq_some_iff.1 HX.out.1).1
   have HZ2 := hid (show z + 6 + q3x x0.rows + q3t x0.data + q3t x0.delta = k + sumI q2r (xs.take (i + 1)) by rw [q3a hxi, HZ.out, hcx]; omega)
   have HMN := hid (q5r (cnt := q2r) (mk := q8l) k hxi)
   have HZO := hid (fun (d : Int) (h1 : 0 ≤ d) (h2 : d ≤ 6) => (⟨by omega, by omega⟩ : q1t (z + d)))
   have hst := rec_store1 (rec_store0 hs HF.out.1 HX.out.1 z ⟨by omega, by omega⟩) HF.out.1 (List.getElem?_set_self hlen) (z + 1) ⟨by omega, by omega⟩
   rw [List.set_set] at hst
   have hfb : ∀ j, wr.frozen? ⟨b, j, none⟩ = false := (hc.loose b (HF.out.2 b HX.out.2.1).2).free
   have hlb : b < wr.heap.size := Lay.sl_lt _ hs _ HX.out.2.1
   have HB := hid HX.out.2.1
   have HS1 := hid hst
   have HC1 := hid (hc.trans (((Chg.refl f wr).setCell ⟨b, off + i * 9, none⟩ (.int .i64 z) (.inl HX.out.2.1)).setCell ⟨b, off + i * 9 + 1, none⟩ (.int .i64 (z + 1)) (.inl HX.out.2.1)) (fun x hx => .inl hx))
   have hz2 : z + 6 ≤ 4611686018427387904 := by omega
   have HBD := hid (And.intro hz1 hcx)
   have HN3 := hid (And.intro hi1 (And.intro hi2 hi3))
   have HLEN := hid hlen
   clear hs hst hc HX hz1 hcx hi1 hi2 hi3 hlen hxi
   go_wp2_with fail
   refine (markText_any (z + 1 + 1) (by omega) (by omega) _).mono ?_
   rintro e w3 ⟨rfl, hc3⟩
   have hs3 := recL.sl_ext HS1.out hc3
   obtain ⟨y, b', off', _, _, _, _, _, _, _, _, _, _, HY, e', -, -, hd2, hd3, hd4, hd5, -, -, -, -⟩ := q4q hs3 hlt
   obtain ⟨rfl, rfl⟩ : b = b' ∧ off = off' := by simpa using e'
   have hy : some y = some { x0 with kind := z, seq := z + 1 } := HY.out.1.symm.trans (List.getElem?_set_self HLEN.out)
   obtain rfl := Option.some.inj hy
   have hlb3 : b < w3.heap.size := Lay.sl_lt _ hs3 _ HB.out
   have hlo3 := hc3.loose b (HC1.out.loose b (HF.out.2 b HB.out).2)
   have hfb3 := hlo3.free
   have g2 := rec_store2 hs3 HF.out.1 HY.out.1 (mtext (z + 1 + 1)) (mtext_max _)
   have hlen2 : i < ((q2h q2r q8l (xs.take i) k ++ xs.drop i).set i { x0 with kind := z, seq := z + 1 }).length := by rw [List.length_set]; exact HLEN.out
   have g3 := rec_store3 g2 HF.out.1 (List.getElem?_set_self hlen2) (z + 1 + 1 + 1) ⟨by omega, by omega⟩
   rw [List.set_set] at g3
   have g4 := rec_store4 g3 HF.out.1 (List.getElem?_set_self hlen2) (z + 1 + 1 + 1 + 1) ⟨by omega, by omega⟩
   rw [List.set_set] at g4
   have g5 := rec_store5 g4 HF.out.1 (List.getElem?_set_self hlen2) (z + 1 + 1 + 1 + 1 + 1) ⟨by omega, by omega⟩
   rw [List.set_set, List.set_set] at g5
   obtain ⟨x8, cs, fx, hx8, -, hcx, hrep, hfx, hndx, hbx, hmod⟩ := recL.sl_modb g5 HF.out.1 hlt
   rw [List.getElem?_set_self HLEN.out] at hx8
   obtain rfl := Option.some.inj hx8
   obtain ⟨a6, l6, c6, f6, a7, l7, c7, f7, a8, l8, c8, f8, ex, o0, o1, o2, o3, o4, o5, h6, h7, h8, e1⟩ := q0m.1 hrep
   subst ex e1
   replace h6 : intL.sl _ a6 l6 c6 x0.rows f6 := h6
   replace h7 : q0q.sl _ a7 l7 c7 x0.data f7 := h7
   replace h8 : q0q.sl _ a8 l8 c8 x0.delta f8 := h8
   obtain ⟨w7, hw7⟩ : ∃ w7, w7 = (((w3.setCell ⟨b, off + i * 9 + 2, none⟩ (.string (mtext (z + 1 + 1)))).setCell ⟨b, off + i * 9 + 3, none⟩ (.int .i64 (z + 1 + 1 + 1))).setCell ⟨b, off + i * 9 + 4, none⟩ (.int .i64 (z + 1 + 1 + 1 + 1))).setCell ⟨b, off + i * 9 + 5, none⟩ (.int .i64 (z + 1 + 1 + 1 + 1 + 1)) := ⟨_, rfl⟩
   rw [← hw7] at h6 h7 h8 hcx hmod g5
   have hc7 : Chg f w3 w7 := by rw [hw7]; exact ((((Chg.refl f w3).setCell _ _ (.inl HB.out)).setCell _ _ (.inl HB.out)).setCell _ _ (.inl HB.out)).setCell _ _ (.inl HB.out)
   have k6 : w7.cell? ⟨b, off + i * 9 + 6, none⟩ = some (.slice a6 l6 c6) := hcx 6 (by decide)
   have k7 : w7.cell? ⟨b, off + i * 9 + 7, none⟩ = some (.slice a7 l7 c7) := hcx 7 (by decide)
   have k8 : w7.cell? ⟨b, off + i * 9 + 8, none⟩ = some (.slice a8 l8 c8) := hcx 8 (by decide)
   have oth : ∀ j, 6 ≤ j → w7.cell? ⟨b, off + i * 9 + j, none⟩ = w3.cell? ⟨b, off + i * 9 + j, none⟩ := by
    intro j hj
    have ne : ∀ d, d < 6 → (⟨b, off + i * 9 + j, none⟩ : Addr) ≠ ⟨b, off + i * 9 + d, none⟩ := by intro d hd h; have := congrArg Addr.off h; simp at this; omega
    rw [hw7, World.cell?_setCell_other _ _ _ _ (ne 5 (by omega)).symm, World.cell?_setCell_other _ _ _ _ (ne 4 (by omega)).symm, World.cell?_setCell_other _ _ _ _ (ne 3 (by omega)).symm, World.cell?_setCell_other _ _ _ _ (ne 2 (by omega)).symm]
   have m6 := (oth 6 (by omega)).symm.trans k6
   have ndA := List.nodup_append.1 hndx
   have ndB := List.nodup_append.1 ndA.2.1
   have d67 : ∀ y ∈ f7, y ∉ f6 := fun y hy hy6 => ndA.2.2 y hy6 y (by simp [hy]) rfl
   have d68 : ∀ y ∈ f8, y ∉ f6 := fun y hy hy6 => ndA.2.2 y hy6 y (by simp [hy]) rfl
   have d78 : ∀ y ∈ f8, y ∉ f7 := fun y hy hy7 => ndB.2.2 y hy7 y hy rfl
   have hlo7 : ∀ y ∈ f, q4h w7 y := fun y hy => hc7.loose y (hc3.loose y (HC1.out.loose y (HF.out.2 y hy).2))
   have hL6 := h6.1; have hL7 := h7.1; have hL8 := h8.1
   have t6 : q3x x0.rows = (l6 : Int) := by unfold q3x; rw [hL6]
   have t7 : q3t x0.data = (l7 : Int) := by unfold q3t; rw [hL7]
   have t8 : q3t x0.delta = (l8 : Int) := by unfold q3t; rw [hL8]
   have hbd : z + 6 + l6 + l7 + l8 ≤ 4611686018427387904 := by have := HBD.out.1; have := HBD.out.2; omega
   have HI6 := hid (z0a a6 l6 c6 x0.rows f6 (z + 1 + 1 + 1 + 1 + 1 + 1) w7 h6 ⟨ndA.1, fun y hy => ⟨Nat.zero_le _, hlo7 y (hfx y (by simp [hy]))⟩⟩ (by omega) (by omega))
   have H7 := hid h7; have H8 := hid h8
   have HLO := hid hlo7
   have HFX := hid hfx
   have HBX := hid hbx
   have HD := hid (And.intro d67 (And.intro d68 d78))
   have HND := hid (And.intro ndA.1 (And.intro ndB.1 ndB.2.1))
   have HK78 := hid (And.intro k7 k8)
   have HC7 := hid ((HC1.out.trans0 hc3).trans hc7 (fun x hx => .inl hx))
   have HLT := hid (fun y hy => Lay.sl_lt _ g5 y hy : ∀ y ∈ f, y < w7.heap.size)
   have HMOD := hid (fun w' (h6 : intL.sl w' a6 l6 c6 (q3h (z + 6) x0.rows.length) f6) (h7 : q0q.sl w' a7 l7 c7 (q4a (z + 6 + q3x x0.rows) x0.data.length) f7) (h8 : q0q.sl w' a8 l8 c8 (q4a (z + 6 + q3x x0.rows + q3t x0.data) x0.delta.length) f8) (hk : ∀ y ∈ f, y ∉ f6 ++ (f7 ++ f8) → w'.heap[y]? = w7.heap[y]?) =>
    hmod w' (q8l z x0) (q0m.2 ⟨a6, l6, c6, f6, a7, l7, c7, f7, a8, l8, c8, f8, (by unfold q8l; simp only [show z + 1 + 1 = z + 2 by omega, show z + 2 + 1 = z + 3 by omega, show z + 3 + 1 = z + 4 by omega, show z + 4 + 1 = z + 5 by omega]), o0, o1, mtext_max _, HZO.out 3 (by omega) (by omega), HZO.out 4 (by omega) (by omega), HZO.out 5 (by omega) (by omega), h6, h7, h8, rfl⟩) hk)
   have HT := hid (And.intro t6 (And.intro t7 t8))
   have HLL := hid (And.intro hL6 (And.intro hL7 hL8))
   have HW7 := hid hw7
   have hlb7 := HLT.out b HB.out
   rw [hw7] at HI6
   clear hw7 hs3 e' HY hy g2 g3 g4 g5 hcx hrep hfx hndx hbx hmod o0 o1 o2 o3 o4 o5 h6 h7 h8 k6 k7 k8 oth ndA ndB d67 d68 d78 hlo7 hL6 hL7 hL8 t6 t7 t8 hlen2 hc3 hc7 hlo3 hc0 hc1 hfb hlb
   go_wp2_with fail
   refine HI6.out.mono ?_
   rintro e w8 ⟨rfl, hs6, hc8⟩
   rw [← HW7.out] at hc8
   have e8 : ∀ j, w8.cell? ⟨b, off + i * 9 + j, none⟩ = w7.cell? ⟨b, off + i * 9 + j, none⟩ := fun j => cell_same (hc8.block b hlb7 (fun h => HBX.out (by simp [h])))
   have m7 := (e8 7).trans HK78.out.1
   have H7' := hid (q0q.sl_chg H7.out hc8 (fun y hy => HD.out.1 y hy))
   have H8' := hid (q0q.sl_chg H8.out hc8 (fun y hy => HD.out.2.1 y hy))
   have m8' := hid ((e8 8).trans HK78.out.2)
   have hlb8 : b < w8.heap.size := Nat.lt_of_lt_of_le hlb7 hc8.size
   have HI7 := hid (z0c a7 l7 c7 x0.data f7 (z + 1 + 1 + 1 + 1 + 1 + 1 + l6) w8 H7'.out ⟨HND.out.2.1, fun y hy => ⟨Nat.zero_le _, hc8.loose y (HLO.out y (HFX.out y (by simp [hy])))⟩⟩ (by omega) (by omega))
   have HS6 := hid hs6
   have HC8 := hid hc8
   clear hs6 hc8 e8 m6 hd2 hd3 hd4 hd5 hfb3
   go_wp2_with fail
   refine HI7.out.mono ?_
   rintro e w9 ⟨rfl, hs7, hc9⟩
   have e9 : ∀ j, w9.cell? ⟨b, off + i * 9 + j, none⟩ = w8.cell? ⟨b, off + i * 9 + j, none⟩ := fun j => cell_same (hc9.block b hlb8 (fun h => HBX.out (by simp [h])))
   have m8 := (e9 8).trans m8'.out
   have H8'' := hid (q0q.sl_chg H8'.out hc9 (fun y hy => HD.out.2.2 y hy))
   have H6' := hid (intL.sl_chg HS6.out hc9 (fun y hy hy7 => HD.out.1 y hy7 hy))
   have hlb9 : b < w9.heap.size := Nat.lt_of_lt_of_le hlb8 hc9.size
   have HI8 := hid (z0c a8 l8 c8 x0.delta f8 (z + 1 + 1 + 1 + 1 + 1 + 1 + l6 + l7) w9 H8''.out ⟨HND.out.2.2, fun y hy => ⟨Nat.zero_le _, hc9.loose y (HC8.out.loose y (HLO.out y (HFX.out y (by simp [hy]))))⟩⟩ (by omega) (by omega))
   have HS7 := hid hs7
   have HC9 := hid hc9
   clear hs7 hc9 e9 m7
   go_wp2_with fail
   refine HI8.out.mono ?_
   rintro e w10 ⟨rfl, hs8, hc10⟩
   have r6 := intL.sl_chg H6'.out hc10 (fun y hy hy8 => HD.out.2.1 y hy8 hy)
   have r7 := q0q.sl_chg HS7.out hc10 (fun y hy hy8 => HD.out.2.2 y hy8 hy)
   have hfin := HMOD.out w10 (by rw [← HLL.out.1, show z + 6 = z + 1 + 1 + 1 + 1 + 1 + 1 by omega]; exact r6) (by rw [← HLL.out.2.1, HT.out.1, show z + 6 + (l6 : Int) = z + 1 + 1 + 1 + 1 + 1 + 1 + l6 by omega]; exact r7)
    (by rw [← HLL.out.2.2, HT.out.1, HT.out.2.1, show z + 6 + (l6 : Int) + l7 = z + 1 + 1 + 1 + 1 + 1 + 1 + l6 + l7 by omega]; exact hs8) (fun y hy hny => by
     have hlt7 := HLT.out y hy
     rw [hc10.block y (Nat.lt_of_lt_of_le hlt7 (Nat.le_trans HC8.out.size HC9.out.size)) (fun h => hny (by simp [h])), HC9.out.block y (Nat.lt_of_lt_of_le hlt7 HC8.out.size) (fun h => hny (by simp [h])), HC8.out.block y hlt7 (fun h => hny (by simp [h]))])
   rw [List.set_set, show q8l z x0 = q8l (k + sumI q2r (xs.take i)) x0 by rw [← HZ.out], HMN.out] at hfin
   have hch := (((HC7.out.trans HC8.out (fun y hy => .inl (HFX.out y (by simp [hy])))).trans HC9.out (fun y hy => .inl (HFX.out y (by simp [hy])))).trans hc10 (fun y hy => .inl (HFX.out y (by simp [hy]))))
   have HN := hid (And.intro hfin hch)
   have HZ3 := hid (show z + 1 + 1 + 1 + 1 + 1 + 1 + (l6 : Int) + l7 + l8 = k + sumI q2r (xs.take (i + 1)) by rw [← HZ2.out, HT.out.1, HT.out.2.1, HT.out.2.2]; omega)
   clear hs8 hc10 r6 r7 hfin hch m8
   go_wp2_with fail
   go_roundw
   case rel => exact ⟨i + 1, _, by omega, rfl, HZ3, by go_num, HN.out.1, HN.out.2⟩
   case measure => simp [intOf]; omega
  ·have hil : i = la := by omega
   subst hil
   rw [List.take_of_length_le (by have := hl.out; omega), List.drop_of_length_le (by have := hl.out; omega), List.append_nil] at hs
   rw [List.take_of_length_le (by have := hl.out; omega)] at HZ
   have HN := hid (And.intro hs hc)
   clear hs hc
   go_wp2
   go_ret
   exact ⟨q0e HZ.out, HN.out⟩
theorem z2c (a : Option Addr) (la ca : Nat) (xs : List Tap) (f : List Nat) (k : Int) (w : World) (ha : tapL.sl w a la ca xs f) (hf : q0r 0 w f) (hk : 0 ≤ k) (hk2 : k + sumI q3s xs ≤ 4611686018427387904) :
  Calls Tryz.prog 89 #[.slice a la ca, .int .i64 k] w fun e w' => e = .returned (.int .i64 (k + sumI q3s xs)) ∧ tapL.sl w' a la ca (q2h q3s mkTap xs k) f ∧ Chg f w w' := by
 have hm := tapL.sl_max ha
 have hl := hid ha.1
 have HF := hid hf
 have HK := hid hk2
 go_enter Tryz.func89, Tryz.ntmps89
 go_wp2
 go_loopw [1, 5] (fun u v wr => ∃ (i : Nat) (z : Int), i ≤ la ∧ u = .int .i64 z ∧ Hid (z = k + sumI q3s (xs.take i)) ∧ v = .int .i64 i ∧ tapL.sl wr a la ca (q2h q3s mkTap (xs.take i) k ++ xs.drop i) f ∧ Chg f w wr) (fun _ v _ => la - (intOf v).toNat)
 case atStart => exact ⟨0, k, by omega, rfl, by show k = k + 0; omega, rfl, by simpa [q2h] using ha, Chg.refl _ _⟩
 case round =>
  clear ha hf hk2
  obtain ⟨i, z, hi, rfl, HZ, rfl, hs, hc⟩ := hrel
  by_cases hlt : i < la
  ·obtain ⟨x0, b, off, _, _, _, _, HX, rfl, hc0, hc1, HXS⟩ := q2i hs hlt
   have hxi := q6n HX.out.1
   have HXI := hid hxi
   have hz0 : 0 ≤ z := by rw [HZ.out]; have := q0w q4s (xs.take i); omega
   have hz1 : z + q3s x0 ≤ 4611686018427387904 := by
    have h1 := q5l q4s hxi
    rw [HZ.out]; have := HK.out; omega
   have hcx : q3s x0 = 1 + sumI q2r x0.recs := rfl
   have hin : 0 ≤ sumI q2r x0.recs := q0w q4t _
   have HZO := hid (show q1t z from ⟨by omega, by omega⟩)
   have hst := tape_store0 hs HF.out.1 HX.out.1 (z % 3 == 0)
   have hcs : Chg f wr (wr.setCell ⟨b, off + i * 2, none⟩ (.bool (z % 3 == 0))) := (Chg.refl f wr).setCell _ _ (.inl HX.out.2.1)
   have hfb : ∀ j, wr.frozen? ⟨b, j, none⟩ = false := by obtain ⟨cur, E, h⟩ := hc.loose b (HF.out.2 b HX.out.2.1).2; exact q0l h
   have hlb : b < wr.heap.size := Lay.sl_lt _ hs _ HX.out.2.1
   obtain ⟨x2, b2, o2, cs, fx, hx2, e2, hb2, hcx2, hrep, hfx, hndx, hmod⟩ := tapL.sl_mod hst HF.out.1 hlt
   obtain ⟨rfl, rfl⟩ : b = b2 ∧ off = o2 := by simpa using e2
   have hlen : i < (q2h q3s mkTap (xs.take i) k ++ xs.drop i).length := (List.getElem?_eq_some_iff.1 HX.out.1).1
   rw [List.getElem?_set_self hlen] at hx2
   obtain rfl := Option.some.inj hx2
   obtain ⟨a1, l1, c1, f1, ex, h1, e1⟩ := q1k.1 hrep
   replace h1 : recL.sl _ a1 l1 c1 x0.recs f1 := h1
   subst ex
   subst e1
   have hc1' : wr.cell? ⟨b, off + i * 2 + 1, none⟩ = some (.slice a1 l1 c1) := by
    have h5 := hcx2 1 (by decide)
    rw [show off + i * tapL.n + 1 = off + i * 2 + 1 from rfl, World.cell?_setCell_other _ _ _ _ (by intro h; have := congrArg Addr.off h; simp at this)] at h5
    exact h5
   have HI := hid (markRecS_any a1 l1 c1 x0.recs fx (z + 1) _ h1 ⟨hndx, fun y hy => ⟨Nat.zero_le _, hcs.loose y (hc.loose y (HF.out.2 y (hfx y hy)).2)⟩⟩ (by omega) (by omega))
   have HL1 := hid h1.1
   have HMOD := hid (fun w' (h : recL.sl w' a1 l1 c1 (q2h q2r q8l x0.recs (z + 1)) fx) (hk : ∀ y ∈ f, y ∉ fx → w'.heap[y]? = (wr.setCell ⟨b, off + i * 2, none⟩ (.bool (z % 3 == 0))).heap[y]?) => hmod w' (⟨(z % 3 == 0), q2h q2r q8l x0.recs (z + 1)⟩ : Tap) (q1k.2 ⟨a1, l1, c1, fx, rfl, h, rfl⟩) hk)
   have HSUB := hid hfx
   have HCS := hid (hc.trans hcs (fun x hx => .inl hx))
   have HLT := hid (fun y hy => Lay.sl_lt _ hst y hy : ∀ y ∈ f, y < _)
   have HZ2 := hid (show z + 1 + sumI q2r x0.recs = k + sumI q3s (xs.take (i + 1)) by rw [q3a hxi, HZ.out, hcx]; omega)
   have HMN := hid (q5r (cnt := q3s) (mk := mkTap) k hxi)
   have hz2 : z + 1 ≤ 4611686018427387904 := by omega
   clear hc1 hs hst hcs hmod hfx hndx hcx2 hrep h1 hx2 e2 hb2 hlen hxi hc hcx HXS HX HXI hz1 hin
   go_wp2_with fail
   refine HI.out.mono ?_
   rintro e w1 ⟨rfl, hs1, hc1⟩
   have hs2 := HMOD.out w1 hs1 (fun y hy hny => hc1.block y (HLT.out y hy) hny)
   rw [List.set_set, show (⟨(z % 3 == 0), q2h q2r q8l x0.recs (z + 1)⟩ : Tap) = mkTap (k + sumI q3s (xs.take i)) x0 by rw [← HZ.out]; rfl, HMN.out] at hs2
   have HN := hid (And.intro hs2 (HCS.out.trans hc1 (fun y hy => .inl (HSUB.out y hy))))
   clear hs1 hs2 hc1
   go_wp2_with fail
   go_roundw
   case rel => exact ⟨i + 1, _, by omega, rfl, by exact HZ2.out, by go_num, HN.out.1, HN.out.2⟩
   case measure => simp [intOf]; omega
  ·have hil : i = la := by omega
   subst hil
   rw [List.take_of_length_le (by have := hl.out; omega), List.drop_of_length_le (by have := hl.out; omega), List.append_nil] at hs
   rw [List.take_of_length_le (by have := hl.out; omega)] at HZ
   have HN := hid (And.intro hs hc)
   clear hs hc
   go_wp2
   go_ret
   exact ⟨q0e HZ.out, HN.out⟩
end Go.Proofs.YtphmpimgbmedbaaGreat
