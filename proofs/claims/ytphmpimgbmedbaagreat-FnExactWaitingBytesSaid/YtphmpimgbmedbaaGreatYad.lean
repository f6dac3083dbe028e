/- Several texts in one. -/
import Derived.Test.YtphmpimgbmedbaaGreatRows
import Derived.Test.YtphmpimgbmedbaaGreatYac
import Derived.Test.YtphmpimgbmedbaaGreatYaa
import Derived.Deep.RegionLaw
import Derived.Laws.BytesArg
import Derived.Deep.RegionHeld
namespace Go.Proofs.YtphmpimgbmedbaaGreat
open Go.RowKit
open Go.Lib (hid)
theorem i64z : i64ok 0 := ⟨by omega, by omega⟩
theorem maxz : (⟨#[]⟩ : ByteArray).size ≤ maxLen := by unfold maxLen; show 0 ≤ _; omega
theorem nil_sl0 {α : Type} (L : Lay α) (w : World) : L.sl w none 0 0 [] [] := ⟨rfl, Nat.le_refl _, by unfold maxLen; omega, fun _ => rfl, .inl ⟨rfl, rfl⟩⟩
theorem loose_setCells {b y : Nat} : ∀ (vs : List Value) (o : Nat) (w : World), Loose w y → Loose (w.setCells b o vs) y := by
 intro vs
 induction vs with
 | nil => intro o w h; exact h
 | cons v vs ih => intro o w h; exact ih (o + 1) _ (h.setCell ⟨b, o, none⟩ v)
theorem copyE_next {α : Type} {xs : List α} {k n : Nat} {x z : α} (hx : xs[k]? = some x) (hn : n = xs.length) : (xs.take k ++ List.replicate (n - k) z).set k x = xs.take (k + 1) ++ List.replicate (n - (k + 1)) z := by
 have hk := (List.getElem?_eq_some_iff.1 hx).1
 have hl : (xs.take k).length = k := by rw [List.length_take]; omega
 rw [List.set_append_right _ _ (by omega), hl, Nat.sub_self, take_next hx, show n - k = (n - (k + 1)) + 1 by omega, List.replicate_succ, List.set_cons_zero]
 simp
theorem block_at {w : World} {a : Option Addr} {len cap : Nat} {xs : List Blk} {fp : List Nat} (h : blkL.sl w a len cap xs fp) {i : Nat} (hi : i < len) :
  ∃ (x : Blk) (b off : Nat) (a1 : Option Addr) (l1 c1 : Nat) (f : List Nat), Hid (xs[i]? = some x ∧ b ∈ fp ∧ (∀ y ∈ f, y ∈ fp)) ∧ a = some ⟨b, off, none⟩ ∧ w.cell? ⟨b, off + i * 2, none⟩ = some (.int .i64 x.stamp) ∧ w.cell? ⟨b, off + i * 2 + 1, none⟩ = some (.slice a1 l1 c1) ∧ Hid (blkL.rep w [.int .i64 x.stamp, .slice a1 l1 c1] x f) := by
 obtain ⟨x, b, off, c, f, hx, ha, hb, hc, hr, hf⟩ := blkL.sl_at h hi
 obtain ⟨a1, l1, c1, _, ex, -⟩ := blkL_iff.1 hr
 subst ex
 refine ⟨x, b, off, a1, l1, c1, f, ⟨hx, hb, hf⟩, ha, hc 0 (by decide), hc 1 (by decide), hr⟩
def zBlk : Blk := ⟨0, []⟩
theorem zBlk_rep (w : World) : blkL.rep w (.agg #[.int .i64 0, .slice none 0 0] : Value).cells.toList zBlk [] := blkL_iff.2 ⟨none, 0, 0, [], rfl, i64z, nil_sl0 _ _, rfl⟩
theorem infoBlock : (Tryz.prog.info? 76).map (fun i => (i.zero, i.size, i.bytes)) = some (some (.agg #[.int .i64 0, .slice none 0 0]), 2, 32) := by kernel_rfl
theorem kindBlock : ∃ K : Kind Tryz.prog 76 blkL.n 32, K.z = .agg #[.int .i64 0, .slice none 0 0] := by
 obtain ⟨i0, hi, hz0, hz1, hz2⟩ := info_parts infoBlock
 exact ⟨⟨i0, .agg #[.int .i64 0, .slice none 0 0], hi, hz0, hz1, hz2, rfl⟩, rfl⟩
theorem makeBlock (n : Nat) (hn : n ≤ 1048576) (w : World) :
  (Instr.makeSlice 80 (.int .i64 (n : Int)) (.int .i64 (n : Int))).run Tryz.prog w = .ok (.slice (some ⟨w.heap.size, 0, none⟩) n n) (w.alloc (.cells (zrow (.agg #[.int .i64 0, .slice none 0 0]) (n * 2)) 76)) := by
 obtain ⟨K, hK⟩ := kindBlock
 rw [← hK]
 exact make_row Tryz.underlying80 K n (by omega) (by omega) w
set_option maxRecDepth 100000 in
set_option maxHeartbeats 2000000 in
theorem toBlock_any (x : Blk) (cx : Array Value) (fx : List Nat) (w : World) (hx : blkL.rep w cx.toList x fx) (hz : totBlk x ≤ 1048576) :
  Calls Tryz.prog 289 #[.agg cx] w (NewAgg blkL x w) := by
 obtain ⟨a1, l1, c1, f1, ex, o0, h1, -⟩ := blkL_iff.1 hx
 clear hx
 obtain ⟨v0, v1⟩ := x
 simp only at ex o0 h1
 obtain rfl := Array.toList_inj.1 (ex.trans (List.toList_toArray).symm)
 clear ex
 have HO := hid (o0)
 have z1 : l1 ≤ 1048576 := by unfold totBlk totBs at hz; simp only at hz; rw [h1.1]; omega
 have H1 := hid h1; have HL1 := hid (show v1.length = l1 from h1.1.symm); clear h1
 clear hz o0
 go_enter Tryz.func289, Tryz.ntmps289
 go_wp2_with fail
 refine (toB_any a1 l1 c1 v1 f1 _ (byteL.sl_ext H1.out (by refine Chg.alloc ?_ _; refine Chg.alloc ?_ _; refine Chg.alloc ?_ _; exact Chg.refl _ _)) z1).mono ?_
 rintro e w1 ⟨b1, d1, g1, rfl, hs, hf, hc⟩
 rw [HL1.out] at hs ⊢
 have HS1 := hid hs; clear hs
 have hP := hc.keep0 (b := w.heap.size) (keep_alloc (keep_alloc (new_at (by simp) _) _) _)
 have hQ := hc.keep0 (b := w.heap.size + 1) (keep_alloc (new_at (by simp) _) _)
 have hR := hc.keep0 (b := w.heap.size + 1 + 1) (new_at (by simp) _)
 have HD1 := hid (Fresh.nots hf [w.heap.size, w.heap.size + 1, w.heap.size + 1 + 1] (by intro b hb; simp only [List.mem_cons, List.not_mem_nil, or_false] at hb; rcases hb with rfl | rfl | rfl <;> simp <;> omega)); have HF1 := hid hf; clear hf
 have cP := cellsOf hP; have lP := ltOf hP; have fP := freeOf hP; have HBP := hid hP; clear hP
 have cQ := cellsOf hQ; have lQ := ltOf hQ; have fQ := freeOf hQ; have HBQ := hid hQ; clear hQ
 have cR := cellsOf hR; have lR := ltOf hR; have fR := freeOf hR; have HBR := hid hR; clear hR
 have HC1 := hid hc; clear hc
 go_wp2_with fail
 have hq : ((((w1.setCell ⟨w.heap.size + 1 + 1, 1, none⟩ (.slice b1 l1 d1)).setCell ⟨w.heap.size + 1, 0, none⟩ (.int .i64 v0)).setCell ⟨w.heap.size + 1, 1, none⟩ (.slice b1 l1 d1))).heap[w.heap.size + 1]? = some (.cells #[.int .i64 v0, .slice b1 l1 d1] 76) := (by refine heap_set_lit (cur := #[.int .i64 v0, .slice none 0 0]) ?_ rfl; refine heap_set_lit (cur := #[.int .i64 0, .slice none 0 0]) ?_ rfl; refine keep_set ?_ _ _ (show w.heap.size + 1 ≠ w.heap.size + 1 + 1 by omega); exact HBQ.out)
 have hqc := cellsOf hq
 have hch : Chg [] w (((w1.setCell ⟨w.heap.size + 1 + 1, 1, none⟩ (.slice b1 l1 d1)).setCell ⟨w.heap.size + 1, 0, none⟩ (.int .i64 v0)).setCell ⟨w.heap.size + 1, 1, none⟩ (.slice b1 l1 d1)) := by refine Chg.setCell ?_ _ _ (.inr (by simp <;> omega)); refine Chg.setCell ?_ _ _ (.inr (by simp <;> omega)); refine Chg.setCell ?_ _ _ (.inr (by simp <;> omega)); refine Chg.trans0 ?_ HC1.out; refine Chg.alloc ?_ _; refine Chg.alloc ?_ _; refine Chg.alloc ?_ _; exact Chg.refl _ _
 have k1 : Chg [w.heap.size, w.heap.size + 1, w.heap.size + 1 + 1] w1 (((w1.setCell ⟨w.heap.size + 1 + 1, 1, none⟩ (.slice b1 l1 d1)).setCell ⟨w.heap.size + 1, 0, none⟩ (.int .i64 v0)).setCell ⟨w.heap.size + 1, 1, none⟩ (.slice b1 l1 d1)) := by refine Chg.setCell ?_ _ _ (.inl (by simp)); refine Chg.setCell ?_ _ _ (.inl (by simp)); refine Chg.setCell ?_ _ _ (.inl (by simp)); exact Chg.refl _ _
 have K1 := byteL.sl_chg HS1.out k1 HD1.out
 have F1 := Fresh.chg HF1.out k1
 have hfr := Fresh.mono F1 (show w.heap.size ≤ _ from (by have s1 := HC1.out.size; simp at s1 ⊢ <;> omega))
 refine bodyPost_ret (v := .agg #[.int .i64 v0, .slice b1 l1 d1]) (by simp [results, Tryz.results289, go_sem, hqc]) rfl ⟨_, _, rfl, blkL_iff.2 ⟨b1, l1, d1, g1, rfl, HO.out, K1, rfl⟩, hfr, hch⟩
set_option maxRecDepth 100000 in
set_option maxHeartbeats 2000000 in
theorem toBlockS_any (a : Option Addr) (la ca : Nat) (xs : List Blk) (f : List Nat) (w : World) (ha : blkL.sl w a la ca xs f) (hz : totL totBlk xs ≤ 1048576) :
  Calls Tryz.prog 265 #[.slice a la ca] w (NewSl blkL xs w) := by
 have hlz : la ≤ 1048576 := by have := totL_len totBlk_nonneg xs; rw [ha.1]; omega
 have hmk := makeBlock la hlz
 have hl := hid ha.1
 have HA := hid ha
 have HZ := hid (fun x hx => Int.le_trans (totL_mem totBlk_nonneg hx) hz : ∀ x ∈ xs, totBlk x ≤ 1048576)
 clear ha hz
 go_enter Tryz.func265, Tryz.ntmps265
 go_wp2
 go_loopw [4] (fun i wr => ∃ (k : Nat) (fp : List Nat), k ≤ la ∧ i = .int .i64 k ∧ blkL.sl wr (some ⟨w.heap.size, 0, none⟩) la la (xs.take k ++ List.replicate (la - k) zBlk) fp ∧ Fresh w.heap.size wr fp ∧ w.heap.size ∈ fp ∧ Chg [] w wr) (fun i _ => la - (intOf i).toNat)
 case atStart => exact ⟨0, [w.heap.size], by omega, rfl, by have h := blkL.sl_zrow w 76 la (by omega) (zBlk_rep _); rw [show la * blkL.n = la * 2 from rfl] at h; simpa using h, fresh_new w _ _, by simp, (Chg.refl [] w).alloc _⟩
 case round =>
  obtain ⟨k, fp, hk, rfl, hs, hf, hw, hc⟩ := hrel
  by_cases hlt : k < la
  ·obtain ⟨x, b, o, a1, l1, c1, fx, HX, rfl, hc0, hc1, HXS⟩ := block_at (blkL.sl_ext HA.out hc) hlt
   have HS := hid (And.intro hs (And.intro hf (And.intro hw hc)))
   clear hs hf hw hc
   have hlw : w.heap.size < wr.heap.size := Lay.sl_lt _ HS.out.1 _ HS.out.2.2.1
   go_wp2_with fail
   refine (toBlock_any x #[.int .i64 x.stamp, .slice a1 l1 c1] fx _ HXS.out (HZ.out x (List.mem_of_getElem? HX.out.1))).mono ?_
   rintro e w1 ⟨cs, f1, rfl, hr1, hf1, hc1⟩
   obtain ⟨p1, m1, d1, _, ex, -⟩ := blkL_iff.1 hr1
   obtain rfl := Array.toList_inj.1 (ex.trans (List.toList_toArray).symm)
   clear ex
   have hfz : ∀ j, w1.frozen? ⟨w.heap.size, j, none⟩ = false := by obtain ⟨cur, E, h⟩ := hc1.loose _ (HS.out.2.1.2 _ HS.out.2.2.1).2; exact freeOf h
   obtain ⟨y, b', o', _, _, _, fy, _, e', hd0, hd1, _⟩ := block_at (blkL.sl_ext HS.out.1 hc1) hlt
   obtain ⟨rfl, rfl⟩ : b' = w.heap.size ∧ o' = 0 := by simpa using e'.symm
   simp only [Nat.zero_add] at hd0 hd1
   have hlt1 := Nat.lt_of_lt_of_le hlw hc1.size
   obtain ⟨fp', hp, hm, hnd, hin, -⟩ := blkL.sl_putN (blkL.sl_ext HS.out.1 hc1) HS.out.2.1.1 hlt hr1 (fun y hy hy' => Nat.lt_irrefl _ (Nat.lt_of_lt_of_le (Lay.sl_lt _ HS.out.1 y hy') (hf1.2 y hy).1)) hf1.1
   rw [show 0 + k * blkL.n = k * 2 from Nat.zero_add _, copyE_next HX.out.1 hl.out] at hp
   have hfr : Fresh w.heap.size (w1.setCells w.heap.size (k * 2) [.int .i64 x.stamp, .slice p1 m1 d1]) fp' := ⟨hnd, fun y hy => by
    rcases hm y hy with h | h
    ·exact ⟨(HS.out.2.1.2 y h).1, loose_setCells _ _ _ (hc1.loose y (HS.out.2.1.2 y h).2)⟩
    ·exact ⟨Nat.le_trans HS.out.2.2.2.size (hf1.2 y h).1, loose_setCells _ _ _ (hf1.2 y h).2⟩⟩
   have HN := hid (And.intro hp (And.intro hfr (And.intro hin (Chg.setCells (.inr (Nat.le_refl _)) [.int .i64 x.stamp, .slice p1 m1 d1] (k * 2) (HS.out.2.2.2.trans0 hc1)))))
   clear hp hfr hin hm hnd hr1 hf1 hc1 HS e'
   go_wp2_with fail
   go_roundw
   case rel => exact ⟨k + 1, fp', by omega, by go_num, HN.out.1, HN.out.2.1, HN.out.2.2.1, HN.out.2.2.2⟩
   case measure => simp [intOf]; omega
  ·have hkl : k = la := by omega
   subst hkl
   have hN : NewSl blkL xs w (.returned (.slice (some ⟨w.heap.size, 0, none⟩) k k)) wr := by
    rw [List.take_of_length_le (by have := hl.out; omega), Nat.sub_self, List.replicate_zero, List.append_nil] at hs
    rw [hl.out] at hs ⊢
    exact ⟨_, _, _, rfl, hs, hf, hc⟩
   have HN := hid hN
   clear hN hs hf hw hc
   go_wp2
   go_ret
   exact HN.out
theorem drive_at {w : World} {a : Option Addr} {len cap : Nat} {xs : List Drv} {fp : List Nat} (h : drvL.sl w a len cap xs fp) {i : Nat} (hi : i < len) :
  ∃ (x : Drv) (b off : Nat) (a1 : Option Addr) (l1 c1 : Nat) (f : List Nat), Hid (xs[i]? = some x ∧ b ∈ fp ∧ (∀ y ∈ f, y ∈ fp)) ∧ a = some ⟨b, off, none⟩ ∧ w.cell? ⟨b, off + i * 2, none⟩ = some (.bool x.wiped) ∧ w.cell? ⟨b, off + i * 2 + 1, none⟩ = some (.slice a1 l1 c1) ∧ Hid (drvL.rep w [.bool x.wiped, .slice a1 l1 c1] x f) := by
 obtain ⟨x, b, off, c, f, hx, ha, hb, hc, hr, hf⟩ := drvL.sl_at h hi
 obtain ⟨a1, l1, c1, _, ex, -⟩ := drvL_iff.1 hr
 subst ex
 refine ⟨x, b, off, a1, l1, c1, f, ⟨hx, hb, hf⟩, ha, hc 0 (by decide), hc 1 (by decide), hr⟩
def zDrv : Drv := ⟨false, []⟩
theorem zDrv_rep (w : World) : drvL.rep w (.agg #[.bool false, .slice none 0 0] : Value).cells.toList zDrv [] := drvL_iff.2 ⟨none, 0, 0, [], rfl, nil_sl0 _ _, rfl⟩
theorem infoDrive : (Tryz.prog.info? 82).map (fun i => (i.zero, i.size, i.bytes)) = some (some (.agg #[.bool false, .slice none 0 0]), 2, 32) := by kernel_rfl
theorem kindDrive : ∃ K : Kind Tryz.prog 82 drvL.n 32, K.z = .agg #[.bool false, .slice none 0 0] := by
 obtain ⟨i0, hi, hz0, hz1, hz2⟩ := info_parts infoDrive
 exact ⟨⟨i0, .agg #[.bool false, .slice none 0 0], hi, hz0, hz1, hz2, rfl⟩, rfl⟩
theorem makeDrive (n : Nat) (hn : n ≤ 1048576) (w : World) :
  (Instr.makeSlice 83 (.int .i64 (n : Int)) (.int .i64 (n : Int))).run Tryz.prog w = .ok (.slice (some ⟨w.heap.size, 0, none⟩) n n) (w.alloc (.cells (zrow (.agg #[.bool false, .slice none 0 0]) (n * 2)) 82)) := by
 obtain ⟨K, hK⟩ := kindDrive
 rw [← hK]
 exact make_row Tryz.underlying83 K n (by omega) (by omega) w
set_option maxRecDepth 100000 in
set_option maxHeartbeats 2000000 in
theorem toDrive_any (x : Drv) (cx : Array Value) (fx : List Nat) (w : World) (hx : drvL.rep w cx.toList x fx) (hz : totDrv x ≤ 1048576) :
  Calls Tryz.prog 228 #[.agg cx] w (NewAgg drvL x w) := by
 obtain ⟨a1, l1, c1, f1, ex, h1, -⟩ := drvL_iff.1 hx
 clear hx
 obtain ⟨v0, v1⟩ := x
 simp only at ex h1
 obtain rfl := Array.toList_inj.1 (ex.trans (List.toList_toArray).symm)
 clear ex
 have z1 : totL totBlk v1 ≤ 1048576 := by unfold totDrv at hz; simp only at hz; omega
 have H1 := hid h1; have HL1 := hid (show v1.length = l1 from h1.1.symm); clear h1
 clear hz
 go_enter Tryz.func228, Tryz.ntmps228
 go_wp2_with fail
 refine (toBlockS_any a1 l1 c1 v1 f1 _ (blkL.sl_ext H1.out (by refine Chg.alloc ?_ _; refine Chg.alloc ?_ _; refine Chg.alloc ?_ _; exact Chg.refl _ _)) z1).mono ?_
 rintro e w1 ⟨b1, d1, g1, rfl, hs, hf, hc⟩
 rw [HL1.out] at hs ⊢
 have HS1 := hid hs; clear hs
 have hP := hc.keep0 (b := w.heap.size) (keep_alloc (keep_alloc (new_at (by simp) _) _) _)
 have hQ := hc.keep0 (b := w.heap.size + 1) (keep_alloc (new_at (by simp) _) _)
 have hR := hc.keep0 (b := w.heap.size + 1 + 1) (new_at (by simp) _)
 have HD1 := hid (Fresh.nots hf [w.heap.size, w.heap.size + 1, w.heap.size + 1 + 1] (by intro b hb; simp only [List.mem_cons, List.not_mem_nil, or_false] at hb; rcases hb with rfl | rfl | rfl <;> simp <;> omega)); have HF1 := hid hf; clear hf
 have cP := cellsOf hP; have lP := ltOf hP; have fP := freeOf hP; have HBP := hid hP; clear hP
 have cQ := cellsOf hQ; have lQ := ltOf hQ; have fQ := freeOf hQ; have HBQ := hid hQ; clear hQ
 have cR := cellsOf hR; have lR := ltOf hR; have fR := freeOf hR; have HBR := hid hR; clear hR
 have HC1 := hid hc; clear hc
 go_wp2_with fail
 have hq : ((((w1.setCell ⟨w.heap.size + 1 + 1, 1, none⟩ (.slice b1 l1 d1)).setCell ⟨w.heap.size + 1, 0, none⟩ (.bool v0)).setCell ⟨w.heap.size + 1, 1, none⟩ (.slice b1 l1 d1))).heap[w.heap.size + 1]? = some (.cells #[.bool v0, .slice b1 l1 d1] 82) := (by refine heap_set_lit (cur := #[.bool v0, .slice none 0 0]) ?_ rfl; refine heap_set_lit (cur := #[.bool false, .slice none 0 0]) ?_ rfl; refine keep_set ?_ _ _ (show w.heap.size + 1 ≠ w.heap.size + 1 + 1 by omega); exact HBQ.out)
 have hqc := cellsOf hq
 have hch : Chg [] w (((w1.setCell ⟨w.heap.size + 1 + 1, 1, none⟩ (.slice b1 l1 d1)).setCell ⟨w.heap.size + 1, 0, none⟩ (.bool v0)).setCell ⟨w.heap.size + 1, 1, none⟩ (.slice b1 l1 d1)) := by refine Chg.setCell ?_ _ _ (.inr (by simp <;> omega)); refine Chg.setCell ?_ _ _ (.inr (by simp <;> omega)); refine Chg.setCell ?_ _ _ (.inr (by simp <;> omega)); refine Chg.trans0 ?_ HC1.out; refine Chg.alloc ?_ _; refine Chg.alloc ?_ _; refine Chg.alloc ?_ _; exact Chg.refl _ _
 have k1 : Chg [w.heap.size, w.heap.size + 1, w.heap.size + 1 + 1] w1 (((w1.setCell ⟨w.heap.size + 1 + 1, 1, none⟩ (.slice b1 l1 d1)).setCell ⟨w.heap.size + 1, 0, none⟩ (.bool v0)).setCell ⟨w.heap.size + 1, 1, none⟩ (.slice b1 l1 d1)) := by refine Chg.setCell ?_ _ _ (.inl (by simp)); refine Chg.setCell ?_ _ _ (.inl (by simp)); refine Chg.setCell ?_ _ _ (.inl (by simp)); exact Chg.refl _ _
 have K1 := blkL.sl_chg HS1.out k1 HD1.out
 have F1 := Fresh.chg HF1.out k1
 have hfr := Fresh.mono F1 (show w.heap.size ≤ _ from (by have s1 := HC1.out.size; simp at s1 ⊢ <;> omega))
 refine bodyPost_ret (v := .agg #[.bool v0, .slice b1 l1 d1]) (by simp [results, Tryz.results228, go_sem, hqc]) rfl ⟨_, _, rfl, drvL_iff.2 ⟨b1, l1, d1, g1, rfl, K1, rfl⟩, hfr, hch⟩
set_option maxRecDepth 100000 in
set_option maxHeartbeats 2000000 in
theorem toDriveS_any (a : Option Addr) (la ca : Nat) (xs : List Drv) (f : List Nat) (w : World) (ha : drvL.sl w a la ca xs f) (hz : totL totDrv xs ≤ 1048576) :
  Calls Tryz.prog 152 #[.slice a la ca] w (NewSl drvL xs w) := by
 have hlz : la ≤ 1048576 := by have := totL_len totDrv_nonneg xs; rw [ha.1]; omega
 have hmk := makeDrive la hlz
 have hl := hid ha.1
 have HA := hid ha
 have HZ := hid (fun x hx => Int.le_trans (totL_mem totDrv_nonneg hx) hz : ∀ x ∈ xs, totDrv x ≤ 1048576)
 clear ha hz
 go_enter Tryz.func152, Tryz.ntmps152
 go_wp2
 go_loopw [4] (fun i wr => ∃ (k : Nat) (fp : List Nat), k ≤ la ∧ i = .int .i64 k ∧ drvL.sl wr (some ⟨w.heap.size, 0, none⟩) la la (xs.take k ++ List.replicate (la - k) zDrv) fp ∧ Fresh w.heap.size wr fp ∧ w.heap.size ∈ fp ∧ Chg [] w wr) (fun i _ => la - (intOf i).toNat)
 case atStart => exact ⟨0, [w.heap.size], by omega, rfl, by have h := drvL.sl_zrow w 82 la (by omega) (zDrv_rep _); rw [show la * drvL.n = la * 2 from rfl] at h; simpa using h, fresh_new w _ _, by simp, (Chg.refl [] w).alloc _⟩
 case round =>
  obtain ⟨k, fp, hk, rfl, hs, hf, hw, hc⟩ := hrel
  by_cases hlt : k < la
  ·obtain ⟨x, b, o, a1, l1, c1, fx, HX, rfl, hc0, hc1, HXS⟩ := drive_at (drvL.sl_ext HA.out hc) hlt
   have HS := hid (And.intro hs (And.intro hf (And.intro hw hc)))
   clear hs hf hw hc
   have hlw : w.heap.size < wr.heap.size := Lay.sl_lt _ HS.out.1 _ HS.out.2.2.1
   go_wp2_with fail
   refine (toDrive_any x #[.bool x.wiped, .slice a1 l1 c1] fx _ HXS.out (HZ.out x (List.mem_of_getElem? HX.out.1))).mono ?_
   rintro e w1 ⟨cs, f1, rfl, hr1, hf1, hc1⟩
   obtain ⟨p1, m1, d1, _, ex, -⟩ := drvL_iff.1 hr1
   obtain rfl := Array.toList_inj.1 (ex.trans (List.toList_toArray).symm)
   clear ex
   have hfz : ∀ j, w1.frozen? ⟨w.heap.size, j, none⟩ = false := by obtain ⟨cur, E, h⟩ := hc1.loose _ (HS.out.2.1.2 _ HS.out.2.2.1).2; exact freeOf h
   obtain ⟨y, b', o', _, _, _, fy, _, e', hd0, hd1, _⟩ := drive_at (drvL.sl_ext HS.out.1 hc1) hlt
   obtain ⟨rfl, rfl⟩ : b' = w.heap.size ∧ o' = 0 := by simpa using e'.symm
   simp only [Nat.zero_add] at hd0 hd1
   have hlt1 := Nat.lt_of_lt_of_le hlw hc1.size
   obtain ⟨fp', hp, hm, hnd, hin, -⟩ := drvL.sl_putN (drvL.sl_ext HS.out.1 hc1) HS.out.2.1.1 hlt hr1 (fun y hy hy' => Nat.lt_irrefl _ (Nat.lt_of_lt_of_le (Lay.sl_lt _ HS.out.1 y hy') (hf1.2 y hy).1)) hf1.1
   rw [show 0 + k * drvL.n = k * 2 from Nat.zero_add _, copyE_next HX.out.1 hl.out] at hp
   have hfr : Fresh w.heap.size (w1.setCells w.heap.size (k * 2) [.bool x.wiped, .slice p1 m1 d1]) fp' := ⟨hnd, fun y hy => by
    rcases hm y hy with h | h
    ·exact ⟨(HS.out.2.1.2 y h).1, loose_setCells _ _ _ (hc1.loose y (HS.out.2.1.2 y h).2)⟩
    ·exact ⟨Nat.le_trans HS.out.2.2.2.size (hf1.2 y h).1, loose_setCells _ _ _ (hf1.2 y h).2⟩⟩
   have HN := hid (And.intro hp (And.intro hfr (And.intro hin (Chg.setCells (.inr (Nat.le_refl _)) [.bool x.wiped, .slice p1 m1 d1] (k * 2) (HS.out.2.2.2.trans0 hc1)))))
   clear hp hfr hin hm hnd hr1 hf1 hc1 HS e'
   go_wp2_with fail
   go_roundw
   case rel => exact ⟨k + 1, fp', by omega, by go_num, HN.out.1, HN.out.2.1, HN.out.2.2.1, HN.out.2.2.2⟩
   case measure => simp [intOf]; omega
  ·have hkl : k = la := by omega
   subst hkl
   have hN : NewSl drvL xs w (.returned (.slice (some ⟨w.heap.size, 0, none⟩) k k)) wr := by
    rw [List.take_of_length_le (by have := hl.out; omega), Nat.sub_self, List.replicate_zero, List.append_nil] at hs
    rw [hl.out] at hs ⊢
    exact ⟨_, _, _, rfl, hs, hf, hc⟩
   have HN := hid hN
   clear hN hs hf hw hc
   go_wp2
   go_ret
   exact HN.out
theorem infoDS : (Tryz.prog.info? 83).map (fun i => (i.zero, i.size, i.bytes)) = some (some (.slice none 0 0), 1, 24) := by kernel_rfl
theorem kindDS : ∃ K : Kind Tryz.prog 83 drvL.slice.n 24, K.z = .slice none 0 0 := by
 obtain ⟨i0, hi, hz0, hz1, hz2⟩ := info_parts infoDS
 exact ⟨⟨i0, .slice none 0 0, hi, hz0, hz1, hz2, rfl⟩, rfl⟩
theorem makeDS (n : Nat) (hn : n ≤ 1048576) (w : World) :
  (Instr.makeSlice 31 (.int .i64 (n : Int)) (.int .i64 (n : Int))).run Tryz.prog w = .ok (.slice (some ⟨w.heap.size, 0, none⟩) n n) (w.alloc (.cells (zrow (.slice none 0 0) n) 83)) := by
 obtain ⟨K, hK⟩ := kindDS
 rw [← hK]
 have := make_row Tryz.underlying31 K n (by omega) (by omega) w
 rw [show n * drvL.slice.n = n from Nat.mul_one n] at this
 exact this
set_option maxRecDepth 100000 in
set_option maxHeartbeats 1000000 in
theorem toDriveSS_any (a : Option Addr) (la ca : Nat) (xs : List (List Drv)) (f : List Nat) (w : World) (ha : drvL.slice.sl w a la ca xs f) (hz : totL (totL totDrv) xs ≤ 1048576) :
  Calls Tryz.prog 75 #[.slice a la ca] w (NewSl drvL.slice xs w) := by
 have hlz : la ≤ 1048576 := by have := totL_len (totL_nonneg totDrv_nonneg) xs; rw [ha.1]; omega
 have hmk := makeDS la hlz
 have hl := hid ha.1
 have HA := hid ha
 have HZ := hid (fun x hx => Int.le_trans (totL_mem (totL_nonneg totDrv_nonneg) hx) hz : ∀ x ∈ xs, totL totDrv x ≤ 1048576)
 clear ha hz
 go_enter Tryz.func75, Tryz.ntmps75
 go_wp2
 go_loopw [4] (fun i wr => ∃ (k : Nat) (fp : List Nat), k ≤ la ∧ i = .int .i64 k ∧ drvL.slice.sl wr (some ⟨w.heap.size, 0, none⟩) la la (xs.take k ++ List.replicate (la - k) []) fp ∧ Fresh w.heap.size wr fp ∧ w.heap.size ∈ fp ∧ Chg [] w wr) (fun i _ => la - (intOf i).toNat)
 case atStart => exact ⟨0, [w.heap.size], by omega, rfl, by simpa using slc_zrow drvL w 83 la (by omega), fresh_new w _ _, by simp, (Chg.refl [] w).alloc _⟩
 case round =>
  obtain ⟨k, fp, hk, rfl, hs, hf, hw, hc⟩ := hrel
  by_cases hlt : k < la
  ·obtain ⟨x, b, o, A, lx, C, fx, HX, rfl, hcx, HXS⟩ := slc_at (drvL.slice.sl_ext HA.out hc) hlt
   have HLX := hid HXS.out.1
   have HS := hid (And.intro hs (And.intro hf (And.intro hw hc)))
   clear hs hf hw hc
   go_wp2_with fail
   refine (toDriveS_any A lx C x fx _ HXS.out (HZ.out x (List.mem_of_getElem? HX.out.1))).mono ?_
   rintro e w1 ⟨a1, c1, f1, rfl, hs1, hf1, hc1⟩
   rw [← HLX.out] at hs1 ⊢
   have hfz : w1.frozen? ⟨w.heap.size, k, none⟩ = false := by obtain ⟨cur, E, h⟩ := hc1.loose _ (HS.out.2.1.2 _ HS.out.2.2.1).2; exact freeOf h _
   have hold : ∃ y b' o' A' l' C' f', Hid ((xs.take k ++ List.replicate (la - k) [])[k]? = some y ∧ b' ∈ fp ∧ (∀ y ∈ f', y ∈ fp)) ∧ (some ⟨w.heap.size, 0, none⟩ : Option Addr) = some ⟨b', o', none⟩ ∧ w1.cell? ⟨b', o' + k, none⟩ = some (.slice A' l' C') ∧ Hid (drvL.sl w1 A' l' C' y f') := slc_at (drvL.slice.sl_ext HS.out.1 hc1) hlt
   obtain ⟨y, b', o', A', l', C', f', _, e', hco, _⟩ := hold
   obtain ⟨rfl, rfl⟩ : b' = w.heap.size ∧ o' = 0 := by simpa using e'.symm
   rw [Nat.zero_add] at hco
   have hlt1 := ltOf (o := _) (hc1.keep0 (show _ = some _ from (Array.getElem?_eq_some_iff.2 ⟨Lay.sl_lt _ HS.out.1 _ HS.out.2.2.1, rfl⟩)))
   obtain ⟨fp', hp, hm, hnd⟩ := drvL.slice.sl_put rfl (drvL.slice.sl_ext HS.out.1 hc1) HS.out.2.1.1 hlt (v := .slice a1 lx c1) (x' := x) (f' := f1) ⟨a1, lx, c1, rfl, hs1⟩ (fun y hy hy' => Nat.lt_irrefl _ (Nat.lt_of_lt_of_le (Lay.sl_lt _ HS.out.1 y hy') (hf1.2 y hy).1)) hf1.1
   rw [Nat.zero_add, copyL_next HX.out.1 hl.out] at hp
   have hfr : Fresh w.heap.size (w1.setCell ⟨w.heap.size, k, none⟩ (.slice a1 lx c1)) fp' := ⟨hnd, fun y hy => by
    rcases hm y hy with h | h
    ·exact ⟨(HS.out.2.1.2 y h).1, (hc1.loose y (HS.out.2.1.2 y h).2).setCell _ _⟩
    ·exact ⟨Nat.le_trans HS.out.2.2.2.size (hf1.2 y h).1, (hf1.2 y h).2.setCell _ _⟩⟩
   have hin : w.heap.size ∈ fp' := by
    obtain ⟨_, _, _, _, ⟨h0, _⟩ | ⟨b, off, cur, E, fr, fps, hb, _, _, rfl⟩⟩ := hp
    ·exfalso; have h5 := congrArg List.length h0; rw [List.length_append, List.length_replicate, List.length_take, List.length_nil] at h5; have h6 := hl.out; omega
    ·simp at hb; simp [hb.1]
   have HN := hid (And.intro hp (And.intro hfr (And.intro hin ((HS.out.2.2.2.trans0 hc1).setCell ⟨w.heap.size, k, none⟩ (.slice a1 lx c1) (.inr (Nat.le_refl _))))))
   clear hp hfr hin hm hnd hs1 hf1 hc1 HS e'
   go_wp2_with fail
   go_roundw
   case rel => exact ⟨k + 1, fp', by omega, by go_num, HN.out.1, HN.out.2.1, HN.out.2.2.1, HN.out.2.2.2⟩
   case measure => simp [intOf]; omega
  ·have hkl : k = la := by omega
   subst hkl
   have hN : NewSl drvL.slice xs w (.returned (.slice (some ⟨w.heap.size, 0, none⟩) k k)) wr := by
    rw [List.take_of_length_le (by have := hl.out; omega), Nat.sub_self, List.replicate_zero, List.append_nil] at hs
    rw [hl.out] at hs ⊢
    exact ⟨_, _, _, rfl, hs, hf, hc⟩
   have HN := hid hN
   clear hN hs hf hw hc
   go_wp2
   go_ret
   exact HN.out
theorem rec_at {w : World} {a : Option Addr} {len cap : Nat} {xs : List Rec} {fp : List Nat} (h : recL.sl w a len cap xs fp) {i : Nat} (hi : i < len) :
  ∃ (x : Rec) (b off : Nat) (a6 : Option Addr) (l6 c6 : Nat) (a7 : Option Addr) (l7 c7 : Nat) (a8 : Option Addr) (l8 c8 : Nat) (f : List Nat), Hid (xs[i]? = some x ∧ b ∈ fp ∧ (∀ y ∈ f, y ∈ fp)) ∧ a = some ⟨b, off, none⟩ ∧ w.cell? ⟨b, off + i * 9, none⟩ = some (.int .i64 x.kind) ∧ w.cell? ⟨b, off + i * 9 + 1, none⟩ = some (.int .i64 x.seq) ∧ w.cell? ⟨b, off + i * 9 + 2, none⟩ = some (.string x.name) ∧ w.cell? ⟨b, off + i * 9 + 3, none⟩ = some (.int .i64 x.length) ∧ w.cell? ⟨b, off + i * 9 + 4, none⟩ = some (.int .i64 x.group) ∧ w.cell? ⟨b, off + i * 9 + 5, none⟩ = some (.int .i64 x.row) ∧ w.cell? ⟨b, off + i * 9 + 6, none⟩ = some (.slice a6 l6 c6) ∧ w.cell? ⟨b, off + i * 9 + 7, none⟩ = some (.slice a7 l7 c7) ∧ w.cell? ⟨b, off + i * 9 + 8, none⟩ = some (.slice a8 l8 c8) ∧ Hid (recL.rep w [.int .i64 x.kind, .int .i64 x.seq, .string x.name, .int .i64 x.length, .int .i64 x.group, .int .i64 x.row, .slice a6 l6 c6, .slice a7 l7 c7, .slice a8 l8 c8] x f) := by
 obtain ⟨x, b, off, c, f, hx, ha, hb, hc, hr, hf⟩ := recL.sl_at h hi
 obtain ⟨a6, l6, c6, _, a7, l7, c7, _, a8, l8, c8, _, ex, -⟩ := recL_iff.1 hr
 subst ex
 refine ⟨x, b, off, a6, l6, c6, a7, l7, c7, a8, l8, c8, f, ⟨hx, hb, hf⟩, ha, hc 0 (by decide), hc 1 (by decide), hc 2 (by decide), hc 3 (by decide), hc 4 (by decide), hc 5 (by decide), hc 6 (by decide), hc 7 (by decide), hc 8 (by decide), hr⟩
def zRec : Rec := ⟨0, 0, ⟨#[]⟩, 0, 0, 0, [], [], []⟩
theorem zRec_rep (w : World) : recL.rep w (.agg #[.int .i64 0, .int .i64 0, .string ⟨#[]⟩, .int .i64 0, .int .i64 0, .int .i64 0, .slice none 0 0, .slice none 0 0, .slice none 0 0] : Value).cells.toList zRec [] := recL_iff.2 ⟨none, 0, 0, [], none, 0, 0, [], none, 0, 0, [], rfl, i64z, i64z, maxz, i64z, i64z, i64z, nil_sl0 _ _, nil_sl0 _ _, nil_sl0 _ _, rfl⟩
theorem infoRec : (Tryz.prog.info? 67).map (fun i => (i.zero, i.size, i.bytes)) = some (some (.agg #[.int .i64 0, .int .i64 0, .string ⟨#[]⟩, .int .i64 0, .int .i64 0, .int .i64 0, .slice none 0 0, .slice none 0 0, .slice none 0 0]), 9, 128) := by kernel_rfl
theorem kindRec : ∃ K : Kind Tryz.prog 67 recL.n 128, K.z = .agg #[.int .i64 0, .int .i64 0, .string ⟨#[]⟩, .int .i64 0, .int .i64 0, .int .i64 0, .slice none 0 0, .slice none 0 0, .slice none 0 0] := by
 obtain ⟨i0, hi, hz0, hz1, hz2⟩ := info_parts infoRec
 exact ⟨⟨i0, .agg #[.int .i64 0, .int .i64 0, .string ⟨#[]⟩, .int .i64 0, .int .i64 0, .int .i64 0, .slice none 0 0, .slice none 0 0, .slice none 0 0], hi, hz0, hz1, hz2, rfl⟩, rfl⟩
theorem makeRec (n : Nat) (hn : n ≤ 1048576) (w : World) :
  (Instr.makeSlice 44 (.int .i64 (n : Int)) (.int .i64 (n : Int))).run Tryz.prog w = .ok (.slice (some ⟨w.heap.size, 0, none⟩) n n) (w.alloc (.cells (zrow (.agg #[.int .i64 0, .int .i64 0, .string ⟨#[]⟩, .int .i64 0, .int .i64 0, .int .i64 0, .slice none 0 0, .slice none 0 0, .slice none 0 0]) (n * 9)) 67)) := by
 obtain ⟨K, hK⟩ := kindRec
 rw [← hK]
 exact make_row Tryz.underlying44 K n (by omega) (by omega) w
set_option maxRecDepth 100000 in
set_option maxHeartbeats 2000000 in
theorem toRecS_any (a : Option Addr) (la ca : Nat) (xs : List Rec) (f : List Nat) (w : World) (ha : recL.sl w a la ca xs f) (hz : totL totRec xs ≤ 1048576) :
  Calls Tryz.prog 229 #[.slice a la ca] w (NewSl recL xs w) := by
 have hlz : la ≤ 1048576 := by have := totL_len totRec_nonneg xs; rw [ha.1]; omega
 have hmk := makeRec la hlz
 have hl := hid ha.1
 have HA := hid ha
 have HZ := hid (fun x hx => Int.le_trans (totL_mem totRec_nonneg hx) hz : ∀ x ∈ xs, totRec x ≤ 1048576)
 clear ha hz
 go_enter Tryz.func229, Tryz.ntmps229
 go_wp2
 go_loopw [4] (fun i wr => ∃ (k : Nat) (fp : List Nat), k ≤ la ∧ i = .int .i64 k ∧ recL.sl wr (some ⟨w.heap.size, 0, none⟩) la la (xs.take k ++ List.replicate (la - k) zRec) fp ∧ Fresh w.heap.size wr fp ∧ w.heap.size ∈ fp ∧ Chg [] w wr) (fun i _ => la - (intOf i).toNat)
 case atStart => exact ⟨0, [w.heap.size], by omega, rfl, by have h := recL.sl_zrow w 67 la (by omega) (zRec_rep _); rw [show la * recL.n = la * 9 from rfl] at h; simpa using h, fresh_new w _ _, by simp, (Chg.refl [] w).alloc _⟩
 case round =>
  obtain ⟨k, fp, hk, rfl, hs, hf, hw, hc⟩ := hrel
  by_cases hlt : k < la
  ·obtain ⟨x, b, o, a6, l6, c6, a7, l7, c7, a8, l8, c8, fx, HX, rfl, hc0, hc1, hc2, hc3, hc4, hc5, hc6, hc7, hc8, HXS⟩ := rec_at (recL.sl_ext HA.out hc) hlt
   have HS := hid (And.intro hs (And.intro hf (And.intro hw hc)))
   clear hs hf hw hc
   have hlw : w.heap.size < wr.heap.size := Lay.sl_lt _ HS.out.1 _ HS.out.2.2.1
   go_wp2_with fail
   refine (toRec_any x #[.int .i64 x.kind, .int .i64 x.seq, .string x.name, .int .i64 x.length, .int .i64 x.group, .int .i64 x.row, .slice a6 l6 c6, .slice a7 l7 c7, .slice a8 l8 c8] fx _ HXS.out (HZ.out x (List.mem_of_getElem? HX.out.1))).mono ?_
   rintro e w1 ⟨cs, f1, rfl, hr1, hf1, hc1⟩
   obtain ⟨p6, m6, d6, _, p7, m7, d7, _, p8, m8, d8, _, ex, -⟩ := recL_iff.1 hr1
   obtain rfl := Array.toList_inj.1 (ex.trans (List.toList_toArray).symm)
   clear ex
   have hfz : ∀ j, w1.frozen? ⟨w.heap.size, j, none⟩ = false := by obtain ⟨cur, E, h⟩ := hc1.loose _ (HS.out.2.1.2 _ HS.out.2.2.1).2; exact freeOf h
   obtain ⟨y, b', o', _, _, _, _, _, _, _, _, _, fy, _, e', hd0, hd1, hd2, hd3, hd4, hd5, hd6, hd7, hd8, _⟩ := rec_at (recL.sl_ext HS.out.1 hc1) hlt
   obtain ⟨rfl, rfl⟩ : b' = w.heap.size ∧ o' = 0 := by simpa using e'.symm
   simp only [Nat.zero_add] at hd0 hd1 hd2 hd3 hd4 hd5 hd6 hd7 hd8
   have hlt1 := Nat.lt_of_lt_of_le hlw hc1.size
   obtain ⟨fp', hp, hm, hnd, hin, -⟩ := recL.sl_putN (recL.sl_ext HS.out.1 hc1) HS.out.2.1.1 hlt hr1 (fun y hy hy' => Nat.lt_irrefl _ (Nat.lt_of_lt_of_le (Lay.sl_lt _ HS.out.1 y hy') (hf1.2 y hy).1)) hf1.1
   rw [show 0 + k * recL.n = k * 9 from Nat.zero_add _, copyE_next HX.out.1 hl.out] at hp
   have hfr : Fresh w.heap.size (w1.setCells w.heap.size (k * 9) [.int .i64 x.kind, .int .i64 x.seq, .string x.name, .int .i64 x.length, .int .i64 x.group, .int .i64 x.row, .slice p6 m6 d6, .slice p7 m7 d7, .slice p8 m8 d8]) fp' := ⟨hnd, fun y hy => by
    rcases hm y hy with h | h
    ·exact ⟨(HS.out.2.1.2 y h).1, loose_setCells _ _ _ (hc1.loose y (HS.out.2.1.2 y h).2)⟩
    ·exact ⟨Nat.le_trans HS.out.2.2.2.size (hf1.2 y h).1, loose_setCells _ _ _ (hf1.2 y h).2⟩⟩
   have HN := hid (And.intro hp (And.intro hfr (And.intro hin (Chg.setCells (.inr (Nat.le_refl _)) [.int .i64 x.kind, .int .i64 x.seq, .string x.name, .int .i64 x.length, .int .i64 x.group, .int .i64 x.row, .slice p6 m6 d6, .slice p7 m7 d7, .slice p8 m8 d8] (k * 9) (HS.out.2.2.2.trans0 hc1)))))
   clear hp hfr hin hm hnd hr1 hf1 hc1 HS e'
   go_wp2_with fail
   go_roundw
   case rel => exact ⟨k + 1, fp', by omega, by go_num, HN.out.1, HN.out.2.1, HN.out.2.2.1, HN.out.2.2.2⟩
   case measure => simp [intOf]; omega
  ·have hkl : k = la := by omega
   subst hkl
   have hN : NewSl recL xs w (.returned (.slice (some ⟨w.heap.size, 0, none⟩) k k)) wr := by
    rw [List.take_of_length_le (by have := hl.out; omega), Nat.sub_self, List.replicate_zero, List.append_nil] at hs
    rw [hl.out] at hs ⊢
    exact ⟨_, _, _, rfl, hs, hf, hc⟩
   have HN := hid hN
   clear hN hs hf hw hc
   go_wp2
   go_ret
   exact HN.out
theorem tape_at {w : World} {a : Option Addr} {len cap : Nat} {xs : List Tap} {fp : List Nat} (h : tapL.sl w a len cap xs fp) {i : Nat} (hi : i < len) :
  ∃ (x : Tap) (b off : Nat) (a1 : Option Addr) (l1 c1 : Nat) (f : List Nat), Hid (xs[i]? = some x ∧ b ∈ fp ∧ (∀ y ∈ f, y ∈ fp)) ∧ a = some ⟨b, off, none⟩ ∧ w.cell? ⟨b, off + i * 2, none⟩ = some (.bool x.wiped) ∧ w.cell? ⟨b, off + i * 2 + 1, none⟩ = some (.slice a1 l1 c1) ∧ Hid (tapL.rep w [.bool x.wiped, .slice a1 l1 c1] x f) := by
 obtain ⟨x, b, off, c, f, hx, ha, hb, hc, hr, hf⟩ := tapL.sl_at h hi
 obtain ⟨a1, l1, c1, _, ex, -⟩ := tapL_iff.1 hr
 subst ex
 refine ⟨x, b, off, a1, l1, c1, f, ⟨hx, hb, hf⟩, ha, hc 0 (by decide), hc 1 (by decide), hr⟩
def zTap : Tap := ⟨false, []⟩
theorem zTap_rep (w : World) : tapL.rep w (.agg #[.bool false, .slice none 0 0] : Value).cells.toList zTap [] := tapL_iff.2 ⟨none, 0, 0, [], rfl, nil_sl0 _ _, rfl⟩
theorem infoTape : (Tryz.prog.info? 69).map (fun i => (i.zero, i.size, i.bytes)) = some (some (.agg #[.bool false, .slice none 0 0]), 2, 32) := by kernel_rfl
theorem kindTape : ∃ K : Kind Tryz.prog 69 tapL.n 32, K.z = .agg #[.bool false, .slice none 0 0] := by
 obtain ⟨i0, hi, hz0, hz1, hz2⟩ := info_parts infoTape
 exact ⟨⟨i0, .agg #[.bool false, .slice none 0 0], hi, hz0, hz1, hz2, rfl⟩, rfl⟩
theorem makeTape (n : Nat) (hn : n ≤ 1048576) (w : World) :
  (Instr.makeSlice 32 (.int .i64 (n : Int)) (.int .i64 (n : Int))).run Tryz.prog w = .ok (.slice (some ⟨w.heap.size, 0, none⟩) n n) (w.alloc (.cells (zrow (.agg #[.bool false, .slice none 0 0]) (n * 2)) 69)) := by
 obtain ⟨K, hK⟩ := kindTape
 rw [← hK]
 exact make_row Tryz.underlying32 K n (by omega) (by omega) w
set_option maxRecDepth 100000 in
set_option maxHeartbeats 2000000 in
theorem toTape_any (x : Tap) (cx : Array Value) (fx : List Nat) (w : World) (hx : tapL.rep w cx.toList x fx) (hz : totTap x ≤ 1048576) :
  Calls Tryz.prog 153 #[.agg cx] w (NewAgg tapL x w) := by
 obtain ⟨a1, l1, c1, f1, ex, h1, -⟩ := tapL_iff.1 hx
 clear hx
 obtain ⟨v0, v1⟩ := x
 simp only at ex h1
 obtain rfl := Array.toList_inj.1 (ex.trans (List.toList_toArray).symm)
 clear ex
 have z1 : totL totRec v1 ≤ 1048576 := by unfold totTap at hz; simp only at hz; omega
 have H1 := hid h1; have HL1 := hid (show v1.length = l1 from h1.1.symm); clear h1
 clear hz
 go_enter Tryz.func153, Tryz.ntmps153
 go_wp2_with fail
 refine (toRecS_any a1 l1 c1 v1 f1 _ (recL.sl_ext H1.out (by refine Chg.alloc ?_ _; refine Chg.alloc ?_ _; refine Chg.alloc ?_ _; exact Chg.refl _ _)) z1).mono ?_
 rintro e w1 ⟨b1, d1, g1, rfl, hs, hf, hc⟩
 rw [HL1.out] at hs ⊢
 have HS1 := hid hs; clear hs
 have hP := hc.keep0 (b := w.heap.size) (keep_alloc (keep_alloc (new_at (by simp) _) _) _)
 have hQ := hc.keep0 (b := w.heap.size + 1) (keep_alloc (new_at (by simp) _) _)
 have hR := hc.keep0 (b := w.heap.size + 1 + 1) (new_at (by simp) _)
 have HD1 := hid (Fresh.nots hf [w.heap.size, w.heap.size + 1, w.heap.size + 1 + 1] (by intro b hb; simp only [List.mem_cons, List.not_mem_nil, or_false] at hb; rcases hb with rfl | rfl | rfl <;> simp <;> omega)); have HF1 := hid hf; clear hf
 have cP := cellsOf hP; have lP := ltOf hP; have fP := freeOf hP; have HBP := hid hP; clear hP
 have cQ := cellsOf hQ; have lQ := ltOf hQ; have fQ := freeOf hQ; have HBQ := hid hQ; clear hQ
 have cR := cellsOf hR; have lR := ltOf hR; have fR := freeOf hR; have HBR := hid hR; clear hR
 have HC1 := hid hc; clear hc
 go_wp2_with fail
 have hq : ((((w1.setCell ⟨w.heap.size + 1 + 1, 1, none⟩ (.slice b1 l1 d1)).setCell ⟨w.heap.size + 1, 0, none⟩ (.bool v0)).setCell ⟨w.heap.size + 1, 1, none⟩ (.slice b1 l1 d1))).heap[w.heap.size + 1]? = some (.cells #[.bool v0, .slice b1 l1 d1] 69) := (by refine heap_set_lit (cur := #[.bool v0, .slice none 0 0]) ?_ rfl; refine heap_set_lit (cur := #[.bool false, .slice none 0 0]) ?_ rfl; refine keep_set ?_ _ _ (show w.heap.size + 1 ≠ w.heap.size + 1 + 1 by omega); exact HBQ.out)
 have hqc := cellsOf hq
 have hch : Chg [] w (((w1.setCell ⟨w.heap.size + 1 + 1, 1, none⟩ (.slice b1 l1 d1)).setCell ⟨w.heap.size + 1, 0, none⟩ (.bool v0)).setCell ⟨w.heap.size + 1, 1, none⟩ (.slice b1 l1 d1)) := by refine Chg.setCell ?_ _ _ (.inr (by simp <;> omega)); refine Chg.setCell ?_ _ _ (.inr (by simp <;> omega)); refine Chg.setCell ?_ _ _ (.inr (by simp <;> omega)); refine Chg.trans0 ?_ HC1.out; refine Chg.alloc ?_ _; refine Chg.alloc ?_ _; refine Chg.alloc ?_ _; exact Chg.refl _ _
 have k1 : Chg [w.heap.size, w.heap.size + 1, w.heap.size + 1 + 1] w1 (((w1.setCell ⟨w.heap.size + 1 + 1, 1, none⟩ (.slice b1 l1 d1)).setCell ⟨w.heap.size + 1, 0, none⟩ (.bool v0)).setCell ⟨w.heap.size + 1, 1, none⟩ (.slice b1 l1 d1)) := by refine Chg.setCell ?_ _ _ (.inl (by simp)); refine Chg.setCell ?_ _ _ (.inl (by simp)); refine Chg.setCell ?_ _ _ (.inl (by simp)); exact Chg.refl _ _
 have K1 := recL.sl_chg HS1.out k1 HD1.out
 have F1 := Fresh.chg HF1.out k1
 have hfr := Fresh.mono F1 (show w.heap.size ≤ _ from (by have s1 := HC1.out.size; simp at s1 ⊢ <;> omega))
 refine bodyPost_ret (v := .agg #[.bool v0, .slice b1 l1 d1]) (by simp [results, Tryz.results153, go_sem, hqc]) rfl ⟨_, _, rfl, tapL_iff.2 ⟨b1, l1, d1, g1, rfl, K1, rfl⟩, hfr, hch⟩
set_option maxRecDepth 100000 in
set_option maxHeartbeats 2000000 in
theorem toTapeS_any (a : Option Addr) (la ca : Nat) (xs : List Tap) (f : List Nat) (w : World) (ha : tapL.sl w a la ca xs f) (hz : totL totTap xs ≤ 1048576) :
  Calls Tryz.prog 77 #[.slice a la ca] w (NewSl tapL xs w) := by
 have hlz : la ≤ 1048576 := by have := totL_len totTap_nonneg xs; rw [ha.1]; omega
 have hmk := makeTape la hlz
 have hl := hid ha.1
 have HA := hid ha
 have HZ := hid (fun x hx => Int.le_trans (totL_mem totTap_nonneg hx) hz : ∀ x ∈ xs, totTap x ≤ 1048576)
 clear ha hz
 go_enter Tryz.func77, Tryz.ntmps77
 go_wp2
 go_loopw [4] (fun i wr => ∃ (k : Nat) (fp : List Nat), k ≤ la ∧ i = .int .i64 k ∧ tapL.sl wr (some ⟨w.heap.size, 0, none⟩) la la (xs.take k ++ List.replicate (la - k) zTap) fp ∧ Fresh w.heap.size wr fp ∧ w.heap.size ∈ fp ∧ Chg [] w wr) (fun i _ => la - (intOf i).toNat)
 case atStart => exact ⟨0, [w.heap.size], by omega, rfl, by have h := tapL.sl_zrow w 69 la (by omega) (zTap_rep _); rw [show la * tapL.n = la * 2 from rfl] at h; simpa using h, fresh_new w _ _, by simp, (Chg.refl [] w).alloc _⟩
 case round =>
  obtain ⟨k, fp, hk, rfl, hs, hf, hw, hc⟩ := hrel
  by_cases hlt : k < la
  ·obtain ⟨x, b, o, a1, l1, c1, fx, HX, rfl, hc0, hc1, HXS⟩ := tape_at (tapL.sl_ext HA.out hc) hlt
   have HS := hid (And.intro hs (And.intro hf (And.intro hw hc)))
   clear hs hf hw hc
   have hlw : w.heap.size < wr.heap.size := Lay.sl_lt _ HS.out.1 _ HS.out.2.2.1
   go_wp2_with fail
   refine (toTape_any x #[.bool x.wiped, .slice a1 l1 c1] fx _ HXS.out (HZ.out x (List.mem_of_getElem? HX.out.1))).mono ?_
   rintro e w1 ⟨cs, f1, rfl, hr1, hf1, hc1⟩
   obtain ⟨p1, m1, d1, _, ex, -⟩ := tapL_iff.1 hr1
   obtain rfl := Array.toList_inj.1 (ex.trans (List.toList_toArray).symm)
   clear ex
   have hfz : ∀ j, w1.frozen? ⟨w.heap.size, j, none⟩ = false := by obtain ⟨cur, E, h⟩ := hc1.loose _ (HS.out.2.1.2 _ HS.out.2.2.1).2; exact freeOf h
   obtain ⟨y, b', o', _, _, _, fy, _, e', hd0, hd1, _⟩ := tape_at (tapL.sl_ext HS.out.1 hc1) hlt
   obtain ⟨rfl, rfl⟩ : b' = w.heap.size ∧ o' = 0 := by simpa using e'.symm
   simp only [Nat.zero_add] at hd0 hd1
   have hlt1 := Nat.lt_of_lt_of_le hlw hc1.size
   obtain ⟨fp', hp, hm, hnd, hin, -⟩ := tapL.sl_putN (tapL.sl_ext HS.out.1 hc1) HS.out.2.1.1 hlt hr1 (fun y hy hy' => Nat.lt_irrefl _ (Nat.lt_of_lt_of_le (Lay.sl_lt _ HS.out.1 y hy') (hf1.2 y hy).1)) hf1.1
   rw [show 0 + k * tapL.n = k * 2 from Nat.zero_add _, copyE_next HX.out.1 hl.out] at hp
   have hfr : Fresh w.heap.size (w1.setCells w.heap.size (k * 2) [.bool x.wiped, .slice p1 m1 d1]) fp' := ⟨hnd, fun y hy => by
    rcases hm y hy with h | h
    ·exact ⟨(HS.out.2.1.2 y h).1, loose_setCells _ _ _ (hc1.loose y (HS.out.2.1.2 y h).2)⟩
    ·exact ⟨Nat.le_trans HS.out.2.2.2.size (hf1.2 y h).1, loose_setCells _ _ _ (hf1.2 y h).2⟩⟩
   have HN := hid (And.intro hp (And.intro hfr (And.intro hin (Chg.setCells (.inr (Nat.le_refl _)) [.bool x.wiped, .slice p1 m1 d1] (k * 2) (HS.out.2.2.2.trans0 hc1)))))
   clear hp hfr hin hm hnd hr1 hf1 hc1 HS e'
   go_wp2_with fail
   go_roundw
   case rel => exact ⟨k + 1, fp', by omega, by go_num, HN.out.1, HN.out.2.1, HN.out.2.2.1, HN.out.2.2.2⟩
   case measure => simp [intOf]; omega
  ·have hkl : k = la := by omega
   subst hkl
   have hN : NewSl tapL xs w (.returned (.slice (some ⟨w.heap.size, 0, none⟩) k k)) wr := by
    rw [List.take_of_length_le (by have := hl.out; omega), Nat.sub_self, List.replicate_zero, List.append_nil] at hs
    rw [hl.out] at hs ⊢
    exact ⟨_, _, _, rfl, hs, hf, hc⟩
   have HN := hid hN
   clear hN hs hf hw hc
   go_wp2
   go_ret
   exact HN.out
def Shp.cells (s : Shp) : Array Value := #[.int .i64 s.groups, .int .i64 s.column, .int .i64 s.data, .int .i64 s.spare, .int .i64 s.rows, .int .i64 s.cap, .int .i64 s.batch, .int .i64 s.queue, .int .i64 s.stage]
def inB (n a b : Int) : Bool := decide (a ≤ n) && decide (n ≤ b)
theorem inB_true {n a b : Int} (h : inB n a b = true) : a ≤ n ∧ n ≤ b := by simpa [inB] using h
theorem inB_false {n a b : Int} (h : inB n a b = false) : ¬ (a ≤ n ∧ n ≤ b) := by
 intro ⟨h1, h2⟩; simp [inB, h1, h2] at h
theorem inB_eq {n a b : Int} (h1 : a ≤ n) (h2 : n ≤ b) : inB n a b = true := by simp [inB, h1, h2]
theorem inB_neq {n a b : Int} (h : ¬ (a ≤ n ∧ n ≤ b)) : inB n a b = false := by
 cases e : inB n a b
 ·rfl
 ·exact absurd (inB_true e) h
def Shp.ok (s : Shp) : Prop := (1 ≤ s.groups ∧ s.groups ≤ 4) ∧ (0 ≤ s.column ∧ s.column ≤ 2) ∧ (1 ≤ s.data ∧ s.data ≤ 3) ∧ (0 ≤ s.spare ∧ s.spare ≤ 2) ∧ (1 ≤ s.rows ∧ s.rows ≤ 6) ∧ (1 ≤ s.cap ∧ s.cap ≤ 6) ∧ (1 ≤ s.batch ∧ s.batch ≤ 4) ∧ (1 ≤ s.queue ∧ s.queue ≤ 6) ∧ (0 ≤ s.stage ∧ s.stage ≤ 400)
instance (s : Shp) : Decidable s.ok := by unfold Shp.ok; infer_instance
def Shp.fault (s : Shp) : Int := if s.ok then 0 else 3
theorem Shp.fault_of {s : Shp} (h1 : inB s.groups 1 4 = true) (h2 : inB s.column 0 2 = true) (h3 : inB s.data 1 3 = true) (h4 : inB s.spare 0 2 = true) (h5 : inB s.rows 1 6 = true)
  (h6 : inB s.cap 1 6 = true) (h7 : inB s.batch 1 4 = true) (h8 : inB s.queue 1 6 = true) (h9 : inB s.stage 0 400 = true) : (0 : Int) = s.fault := by
 rw [Shp.fault, if_pos ⟨inB_true h1, inB_true h2, inB_true h3, inB_true h4, inB_true h5, inB_true h6, inB_true h7, inB_true h8, inB_true h9⟩]
theorem Shp.fault_no {s : Shp} (h : inB s.groups 1 4 = false ∨ inB s.column 0 2 = false ∨ inB s.data 1 3 = false ∨ inB s.spare 0 2 = false ∨ inB s.rows 1 6 = false
  ∨ inB s.cap 1 6 = false ∨ inB s.batch 1 4 = false ∨ inB s.queue 1 6 = false ∨ inB s.stage 0 400 = false) : (3 : Int) = s.fault := by
 rw [Shp.fault, if_neg]
 rintro ⟨g1, g2, g3, g4, g5, g6, g7, g8, g9⟩
 rcases h with h | h | h | h | h | h | h | h | h <;> exact absurd (by assumption) (inB_false h)
set_option maxHeartbeats 400000 in
theorem inside_any (n a b : Int) (w : World) :
  Calls Tryz.prog 147 #[.int .i64 n, .int .i64 a, .int .i64 b] w fun e w' => e = .returned (.bool (inB n a b)) ∧ w = w' := by
 by_cases h : a ≤ n
 ·have H := hid (show decide (n ≤ b) = inB n a b by simp [inB, h])
  go_enter Tryz.func147, Tryz.ntmps147
  go_wp2
  go_ret
  exact ⟨ret_bool H.out, rfl⟩
 ·have H := hid (show false = inB n a b by simp [inB, h])
  go_enter Tryz.func147, Tryz.ntmps147
  go_wp2
  go_ret
  exact ⟨ret_bool H.out, rfl⟩
set_option maxHeartbeats 400000 in
theorem l1In_any (n a b : Int) (w : World) :
  Calls Tryz.prog 70 #[.int .i64 n, .int .i64 a, .int .i64 b] w fun e w' => e = .returned (.bool (inB n a b)) ∧ w = w' := by
 by_cases h : a ≤ n
 ·have H := hid (show decide (n ≤ b) = inB n a b by simp [inB, h])
  go_enter Tryz.func70, Tryz.ntmps70
  go_wp2
  go_ret
  exact ⟨ret_bool H.out, rfl⟩
 ·have H := hid (show false = inB n a b by simp [inB, h])
  go_enter Tryz.func70, Tryz.ntmps70
  go_wp2
  go_ret
  exact ⟨ret_bool H.out, rfl⟩
set_option maxHeartbeats 1000000 in
theorem impl_shape (s : Shp) (w : World) :
  Calls Tryz.prog 124 #[.agg s.cells] w fun e w' => e = .returned (.int .i64 s.fault) ∧ w.alloc (.cells s.cells 30) = w' := by
 have HY := hid (@Shp.fault_of s)
 have HN := hid (@Shp.fault_no s)
 generalize s.fault = F at HY HN ⊢
 obtain ⟨g, c, d, p, r, q, b, u, t⟩ := s
 simp only [Shp.cells] at HY HN ⊢
 go_enter Tryz.func124, Tryz.ntmps124
 go_wp2_with (go_at_call 147; refine (inside_any _ _ _ _).mono ?_; rintro e w' ⟨rfl, rfl⟩)
 all_goals go_ret
 all_goals refine ⟨?_, rfl⟩
 all_goals simp only [Bool.not_eq_true, Bool.not_eq_true', Bool.not_eq_false'] at *
 all_goals first
  | exact ret_int (HY.out ‹_› ‹_› ‹_› ‹_› ‹_› ‹_› ‹_› ‹_› ‹_›)
  | exact ret_int (HN.out (by simp [*]))
set_option maxHeartbeats 400000 in
theorem l3Shape_any (a b : Int) (w : World) :
  Calls Tryz.prog 189 #[.int .i64 a, .int .i64 b] w fun e w' => e = .returned (.bool (inB a 1 4 && inB b 0 2)) ∧ w = w' := by
 go_enter Tryz.func189, Tryz.ntmps189
 go_wp2_with (go_at_call 70; refine (l1In_any _ _ _ _).mono ?_; rintro e w' ⟨rfl, rfl⟩)
 all_goals go_ret
 all_goals refine ⟨?_, rfl⟩
 all_goals simp only [Bool.not_eq_true] at *
 all_goals exact ret_bool (by simp [*])
set_option maxHeartbeats 400000 in
theorem l2Shape_any (a b : Int) (w : World) :
  Calls Tryz.prog 190 #[.int .i64 a, .int .i64 b] w fun e w' => e = .returned (.bool (inB a 1 3 && inB b 0 2)) ∧ w = w' := by
 go_enter Tryz.func190, Tryz.ntmps190
 go_wp2_with (go_at_call 70; refine (l1In_any _ _ _ _).mono ?_; rintro e w' ⟨rfl, rfl⟩)
 all_goals go_ret
 all_goals refine ⟨?_, rfl⟩
 all_goals simp only [Bool.not_eq_true] at *
 all_goals exact ret_bool (by simp [*])
def inBs (a p q b r s : Int) : Bool := inB a p q && inB b r s
theorem inBs_true {a p q b r s : Int} (h : inBs a p q b r s = true) : inB a p q = true ∧ inB b r s = true := by simpa [inBs] using h
theorem inBs_false {a p q b r s : Int} (h : inBs a p q b r s = false) : inB a p q = false ∨ inB b r s = false := by
 cases e : inB a p q <;> simp [inBs, e] at h ⊢
 exact h
theorem Shp.fault_ofs {s : Shp} (h1 : inBs s.groups 1 4 s.column 0 2 = true) (h3 : inBs s.data 1 3 s.spare 0 2 = true) (h5 : inB s.rows 1 6 = true)
  (h6 : inB s.cap 1 6 = true) (h7 : inB s.batch 1 4 = true) (h8 : inB s.queue 1 6 = true) (h9 : inB s.stage 0 400 = true) : (0 : Int) = s.fault :=
 Shp.fault_of (inBs_true h1).1 (inBs_true h1).2 (inBs_true h3).1 (inBs_true h3).2 h5 h6 h7 h8 h9
theorem Shp.fault_nos {s : Shp} (h : inBs s.groups 1 4 s.column 0 2 = false ∨ inBs s.data 1 3 s.spare 0 2 = false ∨ inB s.rows 1 6 = false
  ∨ inB s.cap 1 6 = false ∨ inB s.batch 1 4 = false ∨ inB s.queue 1 6 = false ∨ inB s.stage 0 400 = false) : (3 : Int) = s.fault := by
 rcases h with h | h | h | h | h | h | h
 ·rcases inBs_false h with h | h <;> exact Shp.fault_no (by simp [h])
 ·rcases inBs_false h with h | h <;> exact Shp.fault_no (by simp [h])
 all_goals exact Shp.fault_no (by simp [h])
theorem l3Shape_s (a b : Int) (w : World) :
  Calls Tryz.prog 189 #[.int .i64 a, .int .i64 b] w fun e w' => e = .returned (.bool (inBs a 1 4 b 0 2)) ∧ w = w' := l3Shape_any a b w
theorem l2Shape_s (a b : Int) (w : World) :
  Calls Tryz.prog 190 #[.int .i64 a, .int .i64 b] w fun e w' => e = .returned (.bool (inBs a 1 3 b 0 2)) ∧ w = w' := l2Shape_any a b w
set_option maxHeartbeats 1000000 in
theorem spec_shape (s : Shp) (w : World) :
  Calls Tryz.prog 116 #[.agg s.cells] w fun e w' => e = .returned (.int .i64 s.fault) ∧ w.alloc (.cells s.cells 30) = w' := by
 have HY := hid (@Shp.fault_ofs s)
 have HN := hid (@Shp.fault_nos s)
 generalize s.fault = F at HY HN ⊢
 obtain ⟨g, c, d, p, r, q, b, u, t⟩ := s
 simp only [Shp.cells] at HY HN ⊢
 go_enter Tryz.func116, Tryz.ntmps116
 go_wp2_with (first | (go_at_call 70; refine (l1In_any _ _ _ _).mono ?_; rintro e w' ⟨rfl, rfl⟩) | (go_at_call 189; refine (l3Shape_s _ _ _).mono ?_; rintro e w' ⟨rfl, rfl⟩) | (go_at_call 190; refine (l2Shape_s _ _ _).mono ?_; rintro e w' ⟨rfl, rfl⟩))
 all_goals go_ret
 all_goals refine ⟨?_, rfl⟩
 all_goals simp only [Bool.not_eq_true, Bool.not_eq_true', Bool.not_eq_false'] at *
 all_goals first
  | exact ret_int (HY.out (by simp [*]) (by simp [*]) (by simp [*]) (by simp [*]) (by simp [*]) (by simp [*]) (by simp [*]))
  | exact ret_int (HN.out (by simp [*]))
set_option maxHeartbeats 400000 in
theorem toShape_any (s : Shp) (w : World) :
  Calls Tryz.prog 74 #[.agg s.cells] w fun e w' => e = .returned (.agg s.cells) ∧ Chg [] w w' := by
 obtain ⟨g, c, d, p, r, q, b, u, t⟩ := s
 simp only [Shp.cells]
 go_enter Tryz.func74, Tryz.ntmps74
 go_wp2
 go_returns
 exact ⟨rfl, by repeat (first | exact Chg.refl _ _ | refine Chg.alloc ?_ _ | refine Chg.drew ?_)⟩
theorem impl_shapeC (s : Shp) (w : World) :
  Calls Tryz.prog 124 #[.agg s.cells] w fun e w' => e = .returned (.int .i64 s.fault) ∧ Chg [] w w' :=
 (impl_shape s w).mono fun _ _ ⟨h1, h2⟩ => ⟨h1, h2 ▸ (Chg.refl [] w).alloc _⟩
theorem spec_shapeC (s : Shp) (w : World) :
  Calls Tryz.prog 116 #[.agg s.cells] w fun e w' => e = .returned (.int .i64 s.fault) ∧ Chg [] w w' :=
 (spec_shape s w).mono fun _ _ ⟨h1, h2⟩ => ⟨h1, h2 ▸ (Chg.refl [] w).alloc _⟩
def Good (k : Nat) (c : Int) : Prop := (97 ≤ c ∧ c ≤ 122) ∨ (k ≠ 0 ∧ 48 ≤ c ∧ c ≤ 57)
def NameOk (s : ByteArray) : Prop := (1 ≤ s.size ∧ s.size ≤ 8) ∧ ∀ (k : Nat) (h : k < s.size), Good k (s[k].toNat : Int)
open Classical in
noncomputable def nameFault (s : ByteArray) : Int := if NameOk s then 0 else 5
theorem name_bad {s : ByteArray} {k : Nat} (h : k < s.size) (hb : ¬ Good k (s[k].toNat : Int)) : (5 : Int) = nameFault s := by
  rw [nameFault, if_neg (fun hn => hb (hn.2 k h))]
theorem name_len {s : ByteArray} (h : ¬ (1 ≤ s.size ∧ s.size ≤ 8)) : (5 : Int) = nameFault s := by
  rw [nameFault, if_neg (fun hn => h hn.1)]
theorem name_good {s : ByteArray} (h : 1 ≤ s.size ∧ s.size ≤ 8) (hg : ∀ (k : Nat) (h : k < s.size), Good k (s[k].toNat : Int)) : (0 : Int) = nameFault s := by
  rw [nameFault, if_pos ⟨h, hg⟩]
def GoodTo (s : ByteArray) (k : Nat) : Prop := ∀ (j : Nat) (h : j < s.size), j < k → Good j (s[j].toNat : Int)
theorem goodTo_next {s : ByteArray} {k : Nat} (h : GoodTo s k) (hk : k < s.size) (hg : Good k (s[k].toNat : Int)) : GoodTo s (k + 1) := by
  intro j hj hjk
  by_cases e : j = k
  · subst e; exact hg
  · exact h j hj (by omega)
theorem goodTo_all {s : ByteArray} {k : Nat} (h : GoodTo s k) (hk : s.size ≤ k) : ∀ (k : Nat) (h : k < s.size), Good k (s[k].toNat : Int) := fun j hj => h j hj (by omega)
set_option maxHeartbeats 1000000 in
theorem impl_name (s : ByteArray) (hs : s.size ≤ maxLen) (w : World) :
    Calls Tryz.prog 125 #[.string s] w fun e w' => e = .returned (.int .i64 (nameFault s)) ∧ w = w' := by
  unfold maxLen at hs
  go_enter Tryz.func125, Tryz.ntmps125
  go_wp2
  go_loop [3, 4, 7] (fun _ _ i => ∃ k : Nat, k ≤ s.size ∧ GoodTo s k ∧ i = .int .i64 k) (fun _ _ i => s.size - (intOf i).toNat)
  case atStart => exact ⟨0, by omega, fun j _ h => by omega, rfl⟩
  case round =>
    obtain ⟨k, hk, hg, rfl⟩ := hrel
    by_cases hlt : k < s.size
    · have HB : Hid (¬ Good k (s[k].toNat : Int) → (5 : Int) = nameFault s) := fun hb => name_bad hlt hb
      have HG : Hid (Good k (s[k].toNat : Int) → GoodTo s (k + 1)) := fun h => goodTo_next hg hlt h
      clear hg
      have hc : (s[k].toNat : Int) < 48 ∨ (48 ≤ (s[k].toNat : Int) ∧ (s[k].toNat : Int) ≤ 57) ∨ (57 < (s[k].toNat : Int) ∧ (s[k].toNat : Int) < 97) ∨ (97 ≤ (s[k].toNat : Int) ∧ (s[k].toNat : Int) ≤ 122) ∨ 122 < (s[k].toNat : Int) := by omega
      by_cases h0 : k = 0
      · subst h0
        rcases hc with hc | ⟨hc, hc2⟩ | ⟨hc, hc2⟩ | ⟨hc, hc2⟩ | hc
        all_goals
          go_wp2
          all_goals first
            | (go_round
               case rel => exact ⟨1, by omega, HG.out (by unfold Good; omega), rfl⟩
               case measure => simp [intOf]; omega)
            | (go_ret; exact ⟨ret_int (HB.out (by unfold Good; omega)), rfl⟩)
            | (exfalso; simp_all; done)
            | (exfalso; simp_all; omega)
      · have hk0 : (((k : Nat) : Int) == 0) = false := by rw [beq_eq_false_iff_ne]; omega
        rcases hc with hc | ⟨hc, hc2⟩ | ⟨hc, hc2⟩ | ⟨hc, hc2⟩ | hc
        all_goals
          go_wp2
          all_goals first
            | (go_round
               case rel => exact ⟨k + 1, by omega, HG.out (by unfold Good; omega), by go_num⟩
               case measure => simp [intOf]; omega)
            | (go_ret; exact ⟨ret_int (HB.out (by unfold Good; omega)), rfl⟩)
            | (exfalso; simp_all; done)
            | (exfalso; simp_all; omega)
    · have ha := goodTo_all hg (by omega)
      by_cases hl : 1 ≤ s.size ∧ s.size ≤ 8
      · have H := hid (name_good hl ha)
        obtain ⟨hl1, hl2⟩ := hl
        clear ha hg
        have a1 : (1 : Int) ≤ (s.size : Int) := by omega
        have a2 : (s.size : Int) ≤ 8 := by omega
        go_wp2
        go_ret
        exact ⟨ret_int H.out, rfl⟩
      · have H := hid (name_len hl)
        clear ha hg
        by_cases a1 : (1 : Int) ≤ (s.size : Int)
        · have a2 : (8 : Int) < (s.size : Int) := by omega
          have d1 : decide ((s.size : Int) ≤ 8) = false := by simp; omega
          clear hl
          go_wp2
          go_ret
          exact ⟨ret_int H.out, rfl⟩
        · clear hl
          go_wp2
          go_ret
          exact ⟨ret_int H.out, rfl⟩
set_option maxHeartbeats 1000000 in
theorem spec_name (s : ByteArray) (hs : s.size ≤ maxLen) (w : World) :
    Calls Tryz.prog 192 #[.string s] w fun e w' => e = .returned (.int .i64 (nameFault s)) ∧ w = w' := by
  unfold maxLen at hs
  by_cases hl : 1 ≤ s.size ∧ s.size ≤ 8
  · have hlt : 0 < s.size := by omega
    have a1 : (1 : Int) ≤ (s.size : Int) := by omega
    have a2 : (s.size : Int) ≤ 8 := by omega
    have hc : (s[0].toNat : Int) < 97 ∨ 122 < (s[0].toNat : Int) ∨ (97 ≤ (s[0].toNat : Int) ∧ (s[0].toNat : Int) ≤ 122) := by omega
    rcases hc with hc | hc | ⟨hc1, hc2⟩
    · have H := hid (name_bad hlt (by unfold Good; omega))
      clear hl
      go_enter Tryz.func192, Tryz.ntmps192
      go_wp2
      go_ret
      exact ⟨ret_int H.out, rfl⟩
    · have H := hid (name_bad hlt (by unfold Good; omega))
      clear hl
      go_enter Tryz.func192, Tryz.ntmps192
      go_wp2
      go_ret
      exact ⟨ret_int H.out, rfl⟩
    · have hl' := hid hl
      have hc' : Hid (97 ≤ (s[0].toNat : Int) ∧ (s[0].toNat : Int) ≤ 122) := ⟨hc1, hc2⟩
      clear hl
      go_enter Tryz.func192, Tryz.ntmps192
      go_wp2
      clear hc1 hc2
      go_loop [3] (fun i => ∃ k : Nat, k ≤ s.size ∧ GoodTo s k ∧ i = .int .i64 k) (fun i => s.size - (intOf i).toNat)
      case atStart => exact ⟨0, by omega, fun j _ h => by omega, rfl⟩
      case round =>
        obtain ⟨k, hk, hg, rfl⟩ := hrel
        by_cases hlt : k < s.size
        · have HB : Hid (¬ Good k (s[k].toNat : Int) → (5 : Int) = nameFault s) := fun hb => name_bad hlt hb
          have HG : Hid (Good k (s[k].toNat : Int) → GoodTo s (k + 1)) := fun h => goodTo_next hg hlt h
          clear hg
          have hc : (s[k].toNat : Int) < 48 ∨ (48 ≤ (s[k].toNat : Int) ∧ (s[k].toNat : Int) ≤ 57) ∨ (57 < (s[k].toNat : Int) ∧ (s[k].toNat : Int) < 97) ∨ (97 ≤ (s[k].toNat : Int) ∧ (s[k].toNat : Int) ≤ 122) ∨ 122 < (s[k].toNat : Int) := by omega
          by_cases h0 : k = 0
          · subst h0
            obtain ⟨hc1, hc2⟩ := hc'.out
            have hgood : GoodTo s 1 := HG.out (by unfold Good; omega)
            clear hc
            go_wp2
            go_round
            case rel => exact ⟨1, by omega, hgood, rfl⟩
            case measure => simp [intOf]; omega
          · rcases hc with hc | ⟨hc, hc2⟩ | ⟨hc, hc2⟩ | ⟨hc, hc2⟩ | hc
            all_goals
              go_wp2
              all_goals first
                | (go_round
                   case rel => exact ⟨k + 1, by omega, HG.out (by unfold Good; omega), by go_num⟩
                   case measure => simp [intOf]; omega)
                | (go_ret; exact ⟨ret_int (HB.out (by unfold Good; omega)), rfl⟩)
                | (exfalso; simp_all; done)
                | (exfalso; simp_all; omega)
        · have H := hid (name_good hl'.out (goodTo_all hg (by omega)))
          clear hg
          go_wp2
          go_ret
          exact ⟨ret_int H.out, rfl⟩
  · have H := hid (name_len hl)
    by_cases a1 : (1 : Int) ≤ (s.size : Int)
    · have a2 : (8 : Int) < (s.size : Int) := by omega
      clear hl
      go_enter Tryz.func192, Tryz.ntmps192
      go_wp2
      go_ret
      exact ⟨ret_int H.out, rfl⟩
    · clear hl
      go_enter Tryz.func192, Tryz.ntmps192
      go_wp2
      go_ret
      exact ⟨ret_int H.out, rfl⟩
/-! ### FactorOf -/
/-! ### PartsFor -/
def partsV (d n : Int) : Int × Int := if n < 1 then (0, 6) else if 12 * d < n then (0, 2) else ((n + 4 * d - 1) / (4 * d), 0)
def Shp.parts (s : Shp) (n : Int) : Int × Int := if s.ok then ((partsV s.data n).2, (partsV s.data n).1) else (3, 0)
set_option maxHeartbeats 1000000 in
theorem parts_any (s : Shp) (n : Int) (hd : 1 ≤ s.data) (hd2 : s.data ≤ 3) (hn : i64ok n) (w : World) :
  Calls Tryz.prog 283 #[.agg s.cells, .int .i64 n] w fun e w' => e = .returned (.tuple #[.int .i64 (partsV s.data n).1, .int .i64 (partsV s.data n).2]) ∧ Chg [] w w' := by
 obtain ⟨hn1, hn2⟩ := hn
 obtain ⟨g, c, d, p, r', q, b, u, t⟩ := s
 simp only at hd hd2 ⊢
 have h : d = 1 ∨ d = 2 ∨ d = 3 := by omega
 clear hd hd2
 rcases h with rfl | rfl | rfl
 ·simp only [Shp.cells]
  by_cases h1 : n < 1
  ·have HR := hid (show partsV 1 n = (0, 6) by rw [partsV, if_pos h1])
   generalize partsV 1 n = r at HR ⊢
   go_enter Tryz.func283, Tryz.ntmps283
   go_wp2
   go_ret2
   exact ⟨by rw [HR.out]; rfl, by repeat (first | exact Chg.refl _ _ | refine Chg.alloc ?_ _ | refine Chg.drewN ?_ _ | refine Chg.drew ?_)⟩
  ·by_cases h2 : 12 < n
   ·have HR := hid (show partsV 1 n = (0, 2) by rw [partsV, if_neg h1, if_pos (by omega)])
    generalize partsV 1 n = r at HR ⊢
    go_enter Tryz.func283, Tryz.ntmps283
    go_wp2
    go_ret2
    exact ⟨by rw [HR.out]; rfl, by repeat (first | exact Chg.refl _ _ | refine Chg.alloc ?_ _ | refine Chg.drewN ?_ _ | refine Chg.drew ?_)⟩
   ·have HR := hid (show partsV 1 n = ((n - 1) / 4 + 1, 0) by rw [partsV, if_neg h1, if_neg (by omega)]; exact Prod.ext (by show _ / _ = _; omega) rfl)
    generalize partsV 1 n = r at HR ⊢
    go_enter Tryz.func283, Tryz.ntmps283
    go_wp2
    go_ret2
    exact ⟨by rw [HR.out]; rfl, by repeat (first | exact Chg.refl _ _ | refine Chg.alloc ?_ _ | refine Chg.drewN ?_ _ | refine Chg.drew ?_)⟩
 ·simp only [Shp.cells]
  by_cases h1 : n < 1
  ·have HR := hid (show partsV 2 n = (0, 6) by rw [partsV, if_pos h1])
   generalize partsV 2 n = r at HR ⊢
   go_enter Tryz.func283, Tryz.ntmps283
   go_wp2
   go_ret2
   exact ⟨by rw [HR.out]; rfl, by repeat (first | exact Chg.refl _ _ | refine Chg.alloc ?_ _ | refine Chg.drewN ?_ _ | refine Chg.drew ?_)⟩
  ·by_cases h2 : 24 < n
   ·have HR := hid (show partsV 2 n = (0, 2) by rw [partsV, if_neg h1, if_pos (by omega)])
    generalize partsV 2 n = r at HR ⊢
    go_enter Tryz.func283, Tryz.ntmps283
    go_wp2
    go_ret2
    exact ⟨by rw [HR.out]; rfl, by repeat (first | exact Chg.refl _ _ | refine Chg.alloc ?_ _ | refine Chg.drewN ?_ _ | refine Chg.drew ?_)⟩
   ·have HR := hid (show partsV 2 n = ((n - 1) / 8 + 1, 0) by rw [partsV, if_neg h1, if_neg (by omega)]; exact Prod.ext (by show _ / _ = _; omega) rfl)
    generalize partsV 2 n = r at HR ⊢
    go_enter Tryz.func283, Tryz.ntmps283
    go_wp2
    go_ret2
    exact ⟨by rw [HR.out]; rfl, by repeat (first | exact Chg.refl _ _ | refine Chg.alloc ?_ _ | refine Chg.drewN ?_ _ | refine Chg.drew ?_)⟩
 ·simp only [Shp.cells]
  by_cases h1 : n < 1
  ·have HR := hid (show partsV 3 n = (0, 6) by rw [partsV, if_pos h1])
   generalize partsV 3 n = r at HR ⊢
   go_enter Tryz.func283, Tryz.ntmps283
   go_wp2
   go_ret2
   exact ⟨by rw [HR.out]; rfl, by repeat (first | exact Chg.refl _ _ | refine Chg.alloc ?_ _ | refine Chg.drewN ?_ _ | refine Chg.drew ?_)⟩
  ·by_cases h2 : 36 < n
   ·have HR := hid (show partsV 3 n = (0, 2) by rw [partsV, if_neg h1, if_pos (by omega)])
    generalize partsV 3 n = r at HR ⊢
    go_enter Tryz.func283, Tryz.ntmps283
    go_wp2
    go_ret2
    exact ⟨by rw [HR.out]; rfl, by repeat (first | exact Chg.refl _ _ | refine Chg.alloc ?_ _ | refine Chg.drewN ?_ _ | refine Chg.drew ?_)⟩
   ·have HR := hid (show partsV 3 n = ((n - 1) / 12 + 1, 0) by rw [partsV, if_neg h1, if_neg (by omega)]; exact Prod.ext (by show _ / _ = _; omega) rfl)
    generalize partsV 3 n = r at HR ⊢
    go_enter Tryz.func283, Tryz.ntmps283
    go_wp2
    go_ret2
    exact ⟨by rw [HR.out]; rfl, by repeat (first | exact Chg.refl _ _ | refine Chg.alloc ?_ _ | refine Chg.drewN ?_ _ | refine Chg.drew ?_)⟩
set_option maxHeartbeats 1000000 in
theorem l4Long_any (s : Shp) (n : Int) (hd : 1 ≤ s.data) (hd2 : s.data ≤ 3) (hn : i64ok n) (w : World) :
  Calls Tryz.prog 248 #[.agg s.cells, .int .i64 n] w fun e w' => e = .returned (.int .i64 (partsV s.data n).2) ∧ Chg [] w w' := by
 obtain ⟨hn1, hn2⟩ := hn
 obtain ⟨g, c, d, p, r', q, b, u, t⟩ := s
 simp only at hd hd2 ⊢
 have h : d = 1 ∨ d = 2 ∨ d = 3 := by omega
 clear hd hd2
 rcases h with rfl | rfl | rfl
 ·simp only [Shp.cells]
  by_cases h1 : n < 1
  ·have HR := hid (show partsV 1 n = (0, 6) by rw [partsV, if_pos h1])
   generalize partsV 1 n = r at HR ⊢
   go_enter Tryz.func248, Tryz.ntmps248
   go_wp2
   go_ret
   exact ⟨by rw [HR.out]; rfl, by repeat (first | exact Chg.refl _ _ | refine Chg.alloc ?_ _ | refine Chg.drewN ?_ _ | refine Chg.drew ?_)⟩
  ·by_cases h2 : 12 < n
   ·have HR := hid (show partsV 1 n = (0, 2) by rw [partsV, if_neg h1, if_pos (by omega)])
    generalize partsV 1 n = r at HR ⊢
    go_enter Tryz.func248, Tryz.ntmps248
    go_wp2
    go_ret
    exact ⟨by rw [HR.out]; rfl, by repeat (first | exact Chg.refl _ _ | refine Chg.alloc ?_ _ | refine Chg.drewN ?_ _ | refine Chg.drew ?_)⟩
   ·have HR := hid (show partsV 1 n = ((n - 1) / 4 + 1, 0) by rw [partsV, if_neg h1, if_neg (by omega)]; exact Prod.ext (by show _ / _ = _; omega) rfl)
    generalize partsV 1 n = r at HR ⊢
    go_enter Tryz.func248, Tryz.ntmps248
    go_wp2
    go_ret
    exact ⟨by rw [HR.out]; rfl, by repeat (first | exact Chg.refl _ _ | refine Chg.alloc ?_ _ | refine Chg.drewN ?_ _ | refine Chg.drew ?_)⟩
 ·simp only [Shp.cells]
  by_cases h1 : n < 1
  ·have HR := hid (show partsV 2 n = (0, 6) by rw [partsV, if_pos h1])
   generalize partsV 2 n = r at HR ⊢
   go_enter Tryz.func248, Tryz.ntmps248
   go_wp2
   go_ret
   exact ⟨by rw [HR.out]; rfl, by repeat (first | exact Chg.refl _ _ | refine Chg.alloc ?_ _ | refine Chg.drewN ?_ _ | refine Chg.drew ?_)⟩
  ·by_cases h2 : 24 < n
   ·have HR := hid (show partsV 2 n = (0, 2) by rw [partsV, if_neg h1, if_pos (by omega)])
    generalize partsV 2 n = r at HR ⊢
    go_enter Tryz.func248, Tryz.ntmps248
    go_wp2
    go_ret
    exact ⟨by rw [HR.out]; rfl, by repeat (first | exact Chg.refl _ _ | refine Chg.alloc ?_ _ | refine Chg.drewN ?_ _ | refine Chg.drew ?_)⟩
   ·have HR := hid (show partsV 2 n = ((n - 1) / 8 + 1, 0) by rw [partsV, if_neg h1, if_neg (by omega)]; exact Prod.ext (by show _ / _ = _; omega) rfl)
    generalize partsV 2 n = r at HR ⊢
    go_enter Tryz.func248, Tryz.ntmps248
    go_wp2
    go_ret
    exact ⟨by rw [HR.out]; rfl, by repeat (first | exact Chg.refl _ _ | refine Chg.alloc ?_ _ | refine Chg.drewN ?_ _ | refine Chg.drew ?_)⟩
 ·simp only [Shp.cells]
  by_cases h1 : n < 1
  ·have HR := hid (show partsV 3 n = (0, 6) by rw [partsV, if_pos h1])
   generalize partsV 3 n = r at HR ⊢
   go_enter Tryz.func248, Tryz.ntmps248
   go_wp2
   go_ret
   exact ⟨by rw [HR.out]; rfl, by repeat (first | exact Chg.refl _ _ | refine Chg.alloc ?_ _ | refine Chg.drewN ?_ _ | refine Chg.drew ?_)⟩
  ·by_cases h2 : 36 < n
   ·have HR := hid (show partsV 3 n = (0, 2) by rw [partsV, if_neg h1, if_pos (by omega)])
    generalize partsV 3 n = r at HR ⊢
    go_enter Tryz.func248, Tryz.ntmps248
    go_wp2
    go_ret
    exact ⟨by rw [HR.out]; rfl, by repeat (first | exact Chg.refl _ _ | refine Chg.alloc ?_ _ | refine Chg.drewN ?_ _ | refine Chg.drew ?_)⟩
   ·have HR := hid (show partsV 3 n = ((n - 1) / 12 + 1, 0) by rw [partsV, if_neg h1, if_neg (by omega)]; exact Prod.ext (by show _ / _ = _; omega) rfl)
    generalize partsV 3 n = r at HR ⊢
    go_enter Tryz.func248, Tryz.ntmps248
    go_wp2
    go_ret
    exact ⟨by rw [HR.out]; rfl, by repeat (first | exact Chg.refl _ _ | refine Chg.alloc ?_ _ | refine Chg.drewN ?_ _ | refine Chg.drew ?_)⟩
set_option maxHeartbeats 400000 in
theorem l4Wide_any (s : Shp) (hd : 1 ≤ s.data) (hd2 : s.data ≤ 3) (w : World) :
  Calls Tryz.prog 194 #[.agg s.cells] w fun e w' => e = .returned (.int .i64 (s.data * 4)) ∧ w.alloc (.cells s.cells 30) = w' := by
 obtain ⟨g, c, d, p, r', q, b, u, t⟩ := s
 simp only [Shp.cells] at *
 go_enter Tryz.func194, Tryz.ntmps194
 go_wp2
 go_ret
 exact ⟨rfl, rfl⟩
theorem parts_wrap (n k : Int) (hn : 0 ≤ n) (hn2 : n ≤ 1000000000) (hk : 1 ≤ k) (hk2 : k ≤ 12) : IntKind.i64.wrap ((IntKind.i64.wrap (IntKind.i64.wrap (n + k) - 1)).tdiv k) = (n + k - 1) / k := by
 rw [IntWalk.i64_in (n + k) ⟨by omega, by omega⟩, IntWalk.i64_in (n + k - 1) ⟨by omega, by omega⟩, Int.tdiv_eq_ediv_of_nonneg (by omega)]
 have h1 : 0 ≤ (n + k - 1) / k := Int.ediv_nonneg (by omega) (by omega)
 have h2 : (n + k - 1) / k ≤ n + k - 1 := Int.ediv_le_self _ (by omega)
 exact IntWalk.i64_in _ ⟨by omega, by omega⟩
set_option maxRecDepth 100000 in
set_option maxHeartbeats 1000000 in
theorem l4Parts_any (s : Shp) (n : Int) (hd : 1 ≤ s.data) (hd2 : s.data ≤ 3) (hn : 0 ≤ n) (hn2 : n ≤ 1000000000) (w : World) :
  Calls Tryz.prog 249 #[.agg s.cells, .int .i64 n] w fun e w' => e = .returned (.int .i64 ((n + 4 * s.data - 1) / (4 * s.data))) ∧ Chg [] w w' := by
 have HW := hid (l4Wide_any s hd hd2)
 obtain ⟨g, c, d, p, r', q, b, u, t⟩ := s
 simp only [Shp.cells] at *
 have h : d = 1 ∨ d = 2 ∨ d = 3 := by omega
 clear hd hd2
 rcases h with rfl | rfl | rfl
 all_goals
  go_enter Tryz.func249, Tryz.ntmps249
  go_wp2_with fail
  go_region_law (go_simp; go_at_call 194; refine (HW.out _).mono ?_; rintro e w' ⟨rfl, rfl⟩)
  all_goals (go_wp2; go_ret)
  all_goals refine ⟨ret_int ?_, by repeat (first | exact Chg.refl _ _ | refine Chg.alloc ?_ _ | refine Chg.drewN ?_ _ | refine Chg.drew ?_)⟩
  all_goals (first | rw [parts_wrap n 4 (by omega) (by omega) (by omega) (by omega)] | rw [parts_wrap n 8 (by omega) (by omega) (by omega) (by omega)] | rw [parts_wrap n 12 (by omega) (by omega) (by omega) (by omega)])
  all_goals rfl
theorem partsV_cases (d n : Int) (h : 1 ≤ d) (h2 : d ≤ 3) : partsV d n = (0, 6) ∨ partsV d n = (0, 2) ∨ (partsV d n = ((n + 4 * d - 1) / (4 * d), 0) ∧ 1 ≤ n ∧ n ≤ 36) := by
 unfold partsV; split
 ·exact .inl rfl
 ·split
  ·exact .inr (.inl rfl)
  ·exact .inr (.inr ⟨rfl, by omega, by omega⟩)
/-! ### HomeOf -/
theorem take_ne {α : Type} {xs ys : List α} {k : Nat} {x y : α} (hx : xs[k]? = some x) (hy : ys[k]? = some y) (h : x ≠ y) : xs ≠ ys := fun e => by
 subst e; exact h (Option.some.inj (hx.symm.trans hy))
noncomputable def sameV {α : Type} (x y : α) : Bool := @decide (x = y) (Classical.propDecidable _)
theorem sameV_true {α : Type} {x y : α} (h : x = y) : sameV x y = true := by unfold sameV; simp [h]
theorem sameV_false {α : Type} {x y : α} (h : x ≠ y) : sameV x y = false := by unfold sameV; simp [h]
set_option maxRecDepth 100000 in
set_option maxHeartbeats 1000000 in
theorem l6Nums_any (a b : Option Addr) (la ca lb cb : Nat) (xs ys : List Int) (f g : List Nat) (w : World) (ha : intL.sl w a la ca xs f) (hb : intL.sl w b lb cb ys g) :
  Calls Tryz.prog 269 #[.slice a la ca, .slice b lb cb] w fun e w' => e = .returned (.bool (sameV xs ys)) ∧ Chg [] w w' := by
 have hma := intL.sl_max ha
 have hmb := intL.sl_max hb
 have HLA := hid ha.1
 have HLB := hid hb.1
 have HA := hid ha
 have HB := hid hb
 clear ha hb
 by_cases hl : la = lb
 ·subst hl
  have hne : ((la : Int) != (la : Int)) = false := by simp
  go_enter Tryz.func269, Tryz.ntmps269
  go_wp2
  go_loopw [5] (fun i wr => ∃ k : Nat, k ≤ la ∧ i = .int .i64 k ∧ Chg [] w wr ∧ Hid (xs.take k = ys.take k)) (fun i _ => la - (intOf i).toNat)
  case atStart => exact ⟨0, by omega, rfl, Chg.refl _ _, rfl⟩
  case round =>
   obtain ⟨k, hk, rfl, hc, HT⟩ := hrel
   by_cases hlt : k < la
   ·obtain ⟨x, b1, o1, HX, rfl, hcx, _⟩ := int_at (intL.sl_ext HA.out hc) hlt
    obtain ⟨y, b2, o2, HY, rfl, hcy, _⟩ := int_at (intL.sl_ext HB.out hc) hlt
    by_cases heq : x = y
    ·have HT2 := hid (show xs.take (k + 1) = ys.take (k + 1) by rw [take_next HX.out.1, take_next HY.out.1, HT.out, heq])
     subst heq
     have hxx : (x != x) = false := by simp
     have HC := hid hc
     clear hc
     go_wp2_with fail
     go_region
     all_goals (try go_wp2)
     all_goals
      go_roundw
      case rel => exact ⟨k + 1, by omega, by go_num, HC.out.drew, HT2⟩
      case measure => simp [intOf]; omega
    ·have HF := hid (sameV_false (take_ne HX.out.1 HY.out.1 heq))
     have hxx : (x != y) = true := by rw [bne_iff_ne]; exact heq
     have HC := hid hc
     clear hc heq
     go_wp2_with fail
     go_region
     all_goals (try go_wp2)
     all_goals
      go_ret
      exact ⟨by rw [HF.out]; rfl, HC.out.drew⟩
   ·have hkl : k = la := by omega
    subst hkl
    have HF := hid (sameV_true (show xs = ys by rw [← List.take_of_length_le (l := xs) (i := k) (by have := HLA.out; omega), HT.out, List.take_of_length_le (by have := HLB.out; omega)]))
    have HC := hid hc
    clear hc
    go_wp2
    go_ret
    exact ⟨by rw [HF.out]; rfl, HC.out⟩
 ·have hne : ((la : Int) != (lb : Int)) = true := by rw [bne_iff_ne]; omega
  have HF := hid (sameV_false (show xs ≠ ys from fun e => hl (by rw [HLA.out, HLB.out, e])))
  clear hl
  go_enter Tryz.func269, Tryz.ntmps269
  go_wp2
  go_ret
  exact ⟨by rw [HF.out]; rfl, Chg.refl _ _⟩
set_option maxRecDepth 100000 in
set_option maxHeartbeats 1000000 in
theorem slEq_any (a b : Option Addr) (la ca lb cb : Nat) (xs ys : List Int) (f g : List Nat) (w : World) (ha : intL.sl w a la ca xs f) (hb : intL.sl w b lb cb ys g) :
  Calls Tryz.prog 203 #[.slice a la ca, .slice b lb cb] w fun e w' => e = .returned (.bool (sameV xs ys)) ∧ Chg [] w w' := by
 have hma := intL.sl_max ha
 have hmb := intL.sl_max hb
 have HLA := hid ha.1
 have HLB := hid hb.1
 have HA := hid ha
 have HB := hid hb
 clear ha hb
 by_cases hl : la = lb
 ·subst hl
  have hne : ((la : Int) != (la : Int)) = false := by simp
  go_enter Tryz.func203, Tryz.ntmps203
  go_wp2
  go_loopw [13] (fun i wr => ∃ k : Nat, k ≤ la ∧ i = .int .i64 k ∧ Chg [] w wr ∧ Hid (xs.take k = ys.take k)) (fun i _ => la - (intOf i).toNat)
  case atStart => exact ⟨0, by omega, rfl, Chg.refl _ _, rfl⟩
  case round =>
   obtain ⟨k, hk, rfl, hc, HT⟩ := hrel
   by_cases hlt : k < la
   ·obtain ⟨x, b1, o1, HX, rfl, hcx, _⟩ := int_at (intL.sl_ext HA.out hc) hlt
    obtain ⟨y, b2, o2, HY, rfl, hcy, _⟩ := int_at (intL.sl_ext HB.out hc) hlt
    by_cases heq : x = y
    ·have HT2 := hid (show xs.take (k + 1) = ys.take (k + 1) by rw [take_next HX.out.1, take_next HY.out.1, HT.out, heq])
     subst heq
     have hxx : (x != x) = false := by simp
     have HC := hid hc
     clear hc
     go_wp2_with fail
     go_region
     all_goals (try go_wp2)
     all_goals
      go_roundw
      case rel => exact ⟨k + 1, by omega, by go_num, HC.out.drew, HT2⟩
      case measure => simp [intOf]; omega
    ·have HF := hid (sameV_false (take_ne HX.out.1 HY.out.1 heq))
     have hxx : (x != y) = true := by rw [bne_iff_ne]; exact heq
     have HC := hid hc
     clear hc heq
     go_wp2_with fail
     go_region
     all_goals (try go_wp2)
     all_goals
      go_ret
      exact ⟨by rw [HF.out]; rfl, HC.out.drew⟩
   ·have hkl : k = la := by omega
    subst hkl
    have HF := hid (sameV_true (show xs = ys by rw [← List.take_of_length_le (l := xs) (i := k) (by have := HLA.out; omega), HT.out, List.take_of_length_le (by have := HLB.out; omega)]))
    have HC := hid hc
    clear hc
    go_wp2
    go_ret
    exact ⟨by rw [HF.out]; rfl, HC.out⟩
 ·have hne : ((la : Int) != (lb : Int)) = true := by rw [bne_iff_ne]; omega
  have HF := hid (sameV_false (show xs ≠ ys from fun e => hl (by rw [HLA.out, HLB.out, e])))
  clear hl
  go_enter Tryz.func203, Tryz.ntmps203
  go_wp2
  go_ret
  exact ⟨by rw [HF.out]; rfl, Chg.refl _ _⟩
set_option maxRecDepth 100000 in
set_option maxHeartbeats 1000000 in
theorem l2Same_any (a b : Option Addr) (la ca lb cb : Nat) (xs ys : List UInt8) (f g : List Nat) (w : World) (ha : byteL.sl w a la ca xs f) (hb : byteL.sl w b lb cb ys g) :
  Calls Tryz.prog 270 #[.slice a la ca, .slice b lb cb] w fun e w' => e = .returned (.bool (sameV xs ys)) ∧ Chg [] w w' := by
 have hma := byteL.sl_max ha
 have hmb := byteL.sl_max hb
 have HLA := hid ha.1
 have HLB := hid hb.1
 have HA := hid ha
 have HB := hid hb
 clear ha hb
 by_cases hl : la = lb
 ·subst hl
  have hne : ((la : Int) != (la : Int)) = false := by simp
  go_enter Tryz.func270, Tryz.ntmps270
  go_wp2
  go_loopw [5] (fun i wr => ∃ k : Nat, k ≤ la ∧ i = .int .i64 k ∧ Chg [] w wr ∧ Hid (xs.take k = ys.take k)) (fun i _ => la - (intOf i).toNat)
  case atStart => exact ⟨0, by omega, rfl, Chg.refl _ _, rfl⟩
  case round =>
   obtain ⟨k, hk, rfl, hc, HT⟩ := hrel
   by_cases hlt : k < la
   ·obtain ⟨x, X, b1, o1, HX, rfl, hcx, _, _⟩ := byte_at (byteL.sl_ext HA.out hc) hlt
    obtain ⟨y, Y, b2, o2, HY, rfl, hcy, _, _⟩ := byte_at (byteL.sl_ext HB.out hc) hlt
    by_cases heq : x = y
    ·have HT2 := hid (show xs.take (k + 1) = ys.take (k + 1) by rw [take_next HX.out.1, take_next HY.out.1, HT.out, heq])
     have hXY : X = Y := by rw [HX.out.2.1, HY.out.2.1, heq]
     subst hXY
     have hxx : (X != X) = false := by simp
     have HC := hid hc
     clear hc
     go_wp2_with fail
     go_region
     all_goals (try go_wp2)
     all_goals
      go_roundw
      case rel => exact ⟨k + 1, by omega, by go_num, HC.out.drew, HT2⟩
      case measure => simp [intOf]; omega
    ·have HF := hid (sameV_false (take_ne HX.out.1 HY.out.1 heq))
     have hxx : (X != Y) = true := by rw [bne_iff_ne]; intro e; exact heq (UInt8.toNat_inj.1 (by have h1 := HX.out.2.1; have h2 := HY.out.2.1; omega))
     have HC := hid hc
     clear hc heq
     go_wp2_with fail
     go_region
     all_goals (try go_wp2)
     all_goals
      go_ret
      exact ⟨by rw [HF.out]; rfl, HC.out.drew⟩
   ·have hkl : k = la := by omega
    subst hkl
    have HF := hid (sameV_true (show xs = ys by rw [← List.take_of_length_le (l := xs) (i := k) (by have := HLA.out; omega), HT.out, List.take_of_length_le (by have := HLB.out; omega)]))
    have HC := hid hc
    clear hc
    go_wp2
    go_ret
    exact ⟨by rw [HF.out]; rfl, HC.out⟩
 ·have hne : ((la : Int) != (lb : Int)) = true := by rw [bne_iff_ne]; omega
  have HF := hid (sameV_false (show xs ≠ ys from fun e => hl (by rw [HLA.out, HLB.out, e])))
  clear hl
  go_enter Tryz.func270, Tryz.ntmps270
  go_wp2
  go_ret
  exact ⟨by rw [HF.out]; rfl, Chg.refl _ _⟩
theorem toList_inj {s t : ByteArray} (h : s.toList = t.toList) : s = t := by
 rw [ByteArray.toList_eq, ByteArray.toList_eq] at h
 exact ByteArray.ext (Array.toList_inj.1 h)
theorem sl_convert {P : Program} {w : World} {a : Option Addr} {la ca : Nat} {xs : List UInt8} {f : List Nat} (h : byteL.sl w a la ca xs f) (src e dst : TypeId)
  (hs : P.underlying src = some (.slice e)) (he : P.underlying e = some (.int .u8)) (hd : P.underlying dst = some .string) :
  (convert src dst (.slice a la ca)).run P w = .ok (.string ⟨xs.toArray⟩) w := by
 have hl := h.1
 by_cases h0 : la = 0
 ·subst h0
  obtain rfl : xs = [] := List.eq_nil_of_length_eq_zero hl.symm
  rw [run_convert_bytes_string w src dst e _ 0 ca hs he hd]
  cases a <;> simp [Conv.bytesToString, loadCells]
  all_goals rfl
 ·obtain ⟨x, X, b, o, _, rfl, _, _, _⟩ := byte_at h (i := 0) (by omega)
  have := run_convert_bytes_arg (P := P) w src e hs he b o la ca (xs.map fun x => (x.toNat : Int)) (by simp [hl]) (fun i hi => by
   obtain ⟨y, Y, b', o', HY, e', hc, _, _⟩ := byte_at h hi
   obtain ⟨rfl, rfl⟩ : b = b' ∧ o = o' := by simpa using e'
   rw [hc, HY.out.2.1, List.getD_eq_getElem?_getD, List.getElem?_map, HY.out.1]
   rfl) dst hd
  rw [this]
  congr 3
  unfold strOfNums
  congr 2
  rw [List.map_map]
  exact List.map_id'' (fun y => by simp) xs
set_option maxHeartbeats 400000 in
theorem byEq_any (a b : Option Addr) (la ca lb cb : Nat) (xs ys : List UInt8) (f g : List Nat) (w : World) (ha : byteL.sl w a la ca xs f) (hb : byteL.sl w b lb cb ys g) :
  Calls Tryz.prog 204 #[.slice a la ca, .slice b lb cb] w fun e w' => e = .returned (.bool (sameV xs ys)) ∧ Chg [] w w' := by
 have h1 := sl_convert ha 62 5 9 Tryz.underlying62 Tryz.underlying5 Tryz.underlying9
 have h2 := sl_convert hb 62 5 9 Tryz.underlying62 Tryz.underlying5 Tryz.underlying9
 obtain ⟨s, hs⟩ : ∃ s : ByteArray, (⟨xs.toArray⟩ : ByteArray) = s := ⟨_, rfl⟩
 obtain ⟨t, ht⟩ : ∃ s : ByteArray, (⟨ys.toArray⟩ : ByteArray) = s := ⟨_, rfl⟩
 have hst : s = t ↔ xs = ys := by
  rw [← hs, ← ht]
  constructor
  ·intro h; have h2 := congrArg (fun z : ByteArray => z.data.toList) h; exact h2
  ·intro h; rw [h]
 rw [hs] at h1
 rw [ht] at h2
 have HST := hid hst
 clear ha hb hs ht hst
 by_cases heq : s = t
 ·have HF := hid (sameV_true (HST.out.1 heq))
  subst heq
  go_enter Tryz.func204, Tryz.ntmps204
  go_wp2
  go_ret
  exact ⟨by rw [HF.out]; first | rfl | simp, Chg.refl _ _⟩
 ·have hbt : (s.toList == t.toList) = false := by rw [beq_eq_false_iff_ne]; exact fun h => heq (toList_inj h)
  have HF := hid (sameV_false (fun h => heq (HST.out.2 h)))
  go_enter Tryz.func204, Tryz.ntmps204
  go_wp2
  go_ret
  exact ⟨by rw [HF.out]; first | rfl | simp, Chg.refl _ _⟩
theorem new_two (w : World) (x y : Obj) : ((w.alloc x).alloc y).heap[w.heap.size + 1]? = some y := by
 have h := new_alloc (w.alloc x) y
 simpa using h
end Go.Proofs.YtphmpimgbmedbaaGreat
namespace Go.Proofs.YtphmpimgbmedbaaGreat
open Go.RowKit
open Go.Lib (hid)
def Know (b : Nat) (cs : Array Value) (w : World) : Prop := ∀ j, w.cell? ⟨b, j, none⟩ = cs[j]?
theorem Know.of {w : World} {b : Nat} {cs : Array Value} {E : TypeId} {fr : Nat × Nat} (hb : w.heap[b]? = some (.cells cs E fr)) : Know b cs w := fun j => cell_of_row w b j cs E fr hb
theorem cellKeep {w w' : World} (hc : Chg [] w w') {b o : Nat} {v : Value} (h : w.cell? ⟨b, o, none⟩ = some v) (hb : b < w.heap.size) : w'.cell? ⟨b, o, none⟩ = some v := (hc.facts.1 b o hb).trans h
section
variable {P : Program} {ops : Array Oper} {Q : Exit → Act → World → Prop} {md : Region.Mode} {S : World → Prop} {fuel : Nat} {listed : Array Bool} {a : Act} {w : World}
theorem rg_start {id : Nat} (S : World → Prop) (hm : P.follows .mixedOrders = true) (hS : S w.drew) (h : wpAnyH P .any ops Q S ops.size (Array.replicate ops.size false) a w.drew) : (Code.region id ops true).wp P Q a w :=
 wp_region_held_drew hm hS (fun _ => h)
theorem get_toList {i : Nat} {oi : Oper} (h : ops.toList[i]? = some oi) : ops[i]? = some oi := by simpa using h
theorem rg_take (i : Nat) {oi : Oper} {v : Value} (hi : ops.toList[i]? = some oi) (hc : (Region.noSelect ops && Region.free md ops listed i && (Region.ready md ops listed).contains i) = true)
  (hQ : ∀ c a w, Q (.panic c) (a.put oi.dst v) w → Q (.panic c) a w) (hS : S w) (hw : Region.wanted oi (yielded ops a.tmps) = true) (hy : ∀ w, S w → (execOp a.eval oi).run P w = .ok (.value v) w)
  (h : wpAnyH P md ops Q S fuel (listed.setIfInBounds i true) (a.put oi.dst v) w) : wpAnyH P md ops Q S (fuel + 1) listed a w := by
 simp only [Bool.and_eq_true] at hc
 exact wpAnyH_take (get_toList hi) hc.1.1 hc.1.2 hc.2 hQ (.inl ⟨hw, hy⟩) hS h
theorem rg_skip (i : Nat) {oi : Oper} (hi : ops.toList[i]? = some oi) (hc : (Region.noSelect ops && Region.free md ops listed i && (Region.ready md ops listed).contains i) = true)
  (hQ : ∀ c a w, Q (.panic c) (a.put oi.dst undef) w → Q (.panic c) a w) (hS : S w) (hw : Region.wanted oi (yielded ops a.tmps) = false)
  (h : wpAnyH P md ops Q S fuel (listed.setIfInBounds i true) (a.put oi.dst undef) w) : wpAnyH P md ops Q S (fuel + 1) listed a w := by
 simp only [Bool.and_eq_true] at hc
 exact wpAnyH_take (get_toList hi) hc.1.1 hc.1.2 hc.2 hQ (.inr ⟨hw, rfl⟩) hS h
theorem rg_call (i : Nat) {oi : Oper} (hi : ops.toList[i]? = some oi) (hr : Region.ready md ops listed = [i])
  (h : ∀ K' : Act → World → Prop, Shut (∀ a w, S w → (S w → wpAnyH P md ops Q S fuel (listed.setIfInBounds i true) a w) → K' a w) → if Region.wanted oi (yielded ops a.tmps) = true then Oper.wp P oi a w K' Q else K' (a.put oi.dst undef) w) :
  wpAnyH P md ops Q S (fuel + 1) listed a w :=
 wpAnyH_ready hr (by simp) (AllReadyH.cons (get_toList hi) h AllReadyH.nil)
theorem rgT (i : Nat) {oi : Oper} {v : Value} {a' : Act} (hS : S w) (h : wpAnyH P md ops Q S fuel (listed.setIfInBounds i true) a' w) (hi : ops.toList[i]? = some oi := by rfl)
  (hc : (Region.noSelect ops && Region.free md ops listed i && (Region.ready md ops listed).contains i) = true := by kernel_rfl)
  (hQ : ∀ c a w, Q (.panic c) (a.put oi.dst v) w → Q (.panic c) a w := by exact fun _ _ _ h => h) (hw : Region.wanted oi (yielded ops a.tmps) = true := by rfl)
  (hy : ∀ w : World, (execOp a.eval oi).run P w = .ok (.value v) w := by intro w; go_simp; (try with_reducible rfl))
  (ha : a.put oi.dst v = a' := by (try simp only [Act.put, pA, pB, pC]); (try rfl)) : wpAnyH P md ops Q S (fuel + 1) listed a w :=
 rg_take i hi hc hQ hS hw (fun w _ => hy w) (ha ▸ h)
theorem rgL (i : Nat) {S' : World → Prop} {oi : Oper} {v : Value} {a' : Act} (hS : S w) (hSO : Hid (∀ w, S w → S' w)) (h : wpAnyH P md ops Q S fuel (listed.setIfInBounds i true) a' w) (hi : ops.toList[i]? = some oi := by rfl)
  (hc : (Region.noSelect ops && Region.free md ops listed i && (Region.ready md ops listed).contains i) = true := by kernel_rfl)
  (hQ : ∀ c a w, Q (.panic c) (a.put oi.dst v) w → Q (.panic c) a w := by exact fun _ _ _ h => h) (hw : Region.wanted oi (yielded ops a.tmps) = true := by rfl)
  (hy : ∀ w : World, S' w → (execOp a.eval oi).run P w = .ok (.value v) w := by intro w hSw; (try unfold Know at hSw); go_simp; (try with_reducible rfl))
  (ha : a.put oi.dst v = a' := by (try simp only [Act.put, pA, pB, pC]); (try rfl)) : wpAnyH P md ops Q S (fuel + 1) listed a w :=
 rg_take i hi hc hQ hS hw (fun w h => hy w (hSO.out w h)) (ha ▸ h)
theorem rgS (i : Nat) {oi : Oper} {a' : Act} (hS : S w) (h : wpAnyH P md ops Q S fuel (listed.setIfInBounds i true) a' w) (hi : ops.toList[i]? = some oi := by rfl)
  (hc : (Region.noSelect ops && Region.free md ops listed i && (Region.ready md ops listed).contains i) = true := by kernel_rfl)
  (hQ : ∀ c a w, Q (.panic c) (a.put oi.dst undef) w → Q (.panic c) a w := by exact fun _ _ _ h => h) (hw : Region.wanted oi (yielded ops a.tmps) = false := by rfl)
  (ha : a.put oi.dst undef = a' := by (try simp only [Act.put, pA, pB, pC]); (try rfl)) : wpAnyH P md ops Q S (fuel + 1) listed a w :=
 rg_skip i hi hc hQ hS hw (ha ▸ h)
theorem rg_cond (S : World → Prop) : ∃ S1 : World → Prop, Hid (∀ w, S w → S1 w) ∧ Hid (∀ w, S1 w → S w) := ⟨S, fun _ h => h, fun _ h => h⟩
/-! short words for what is kept behind a call -/
theorem bk {S : List Nat} {w w' : World} {b : Nat} {cs : Array Value} {E : TypeId} (hc : Chg S w w') (h : w.heap[b]? = some (.cells cs E (0, 0))) (hS : b ∉ S) : (∀ j, w'.cell? ⟨b, j, none⟩ = cs[j]?) ∧ b < w'.heap.size ∧ Hid (w'.heap[b]? = some (.cells cs E (0, 0))) :=
 ⟨cellsOf (hc.keepb h hS), ltOf (hc.keepb h hS), hc.keepb h hS⟩
theorem bk0 {w w' : World} {b : Nat} {cs : Array Value} {E : TypeId} (hc : Chg [] w w') (h : w.heap[b]? = some (.cells cs E (0, 0))) : (∀ j, w'.cell? ⟨b, j, none⟩ = cs[j]?) ∧ b < w'.heap.size ∧ Hid (w'.heap[b]? = some (.cells cs E (0, 0))) := bk hc h (by simp)
theorem hct {a b c : World} (h : Hid (Chg [] a b)) (hc : Chg [] b c) : Hid (Chg [] a c) := h.out.trans0 hc
theorem hsl {α : Type} {L : Lay α} {w w' : World} {a : Option Addr} {len cap : Nat} {xs : List α} {fp : List Nat} (h : Hid (L.sl w a len cap xs fp)) (hc : Chg [] w w') : Hid (L.sl w' a len cap xs fp) := L.sl_ext h.out hc
theorem hre {α : Type} {L : Lay α} {w w' : World} {cs : List Value} {x : α} {fp : List Nat} (h : Hid (L.rep w cs x fp)) (hc : Chg [] w w') : Hid (L.rep w' cs x fp) := L.ext h.out hc
end
end Go.Proofs.YtphmpimgbmedbaaGreat
namespace Go.Proofs.YtphmpimgbmedbaaGreat
open Go.RowKit
open Go.Lib (hid)
theorem Loose.free {w : World} {b : Nat} (h : Loose w b) : ∀ j, w.frozen? ⟨b, j, none⟩ = false := by obtain ⟨cur, E, h⟩ := h; exact freeOf h

end Go.Proofs.YtphmpimgbmedbaaGreat
