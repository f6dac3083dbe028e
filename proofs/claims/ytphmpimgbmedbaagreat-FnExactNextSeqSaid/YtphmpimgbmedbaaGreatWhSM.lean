import Derived.Test.YtphmpimgbmedbaaGreatRows
import Derived.Test.YtphmpimgbmedbaaGreatWhTM
import Derived.Test.YtphmpimgbmedbaaGreatPutM
/- The laws' helpers at structures of the world. -/
namespace Go.Proofs.YtphmpimgbmedbaaGreat
open Go.RowKit

theorem i64z : i64ok 0 := ⟨by omega, by omega⟩
theorem maxz : (⟨#[]⟩ : ByteArray).size ≤ maxLen := by unfold maxLen; show 0 ≤ _; omega
theorem nil_sl0 {α : Type} (L : Lay α) (w : World) : L.sl w none 0 0 [] [] := ⟨rfl, Nat.le_refl _, by unfold maxLen; omega, fun _ => rfl, .inl ⟨rfl, rfl⟩⟩
theorem loose_setCells {b y : Nat} : ∀ (vs : List Value) (o : Nat) (w : World), Loose w y → Loose (w.setCells b o vs) y := by
  intro vs
  induction vs with
  | nil => intro o w h; exact h
  | cons v vs ih => intro o w h; exact ih (o + 1) _ (h.setCell ⟨b, o, none⟩ v)
theorem copyE_next {α : Type} {xs : List α} {k n : Nat} {x z : α} (hx : xs[k]? = some x) (hn : n = xs.length) : (xs.take k ++ List.replicate (n - k) z).set k x = xs.take (k + 1) ++ List.replicate (n - (k + 1)) z := by
  have hk := (List.getElem?_eq_some_iff.1 hx).1
  have hl : (xs.take k).length = k := by rw [List.length_take]; omega
  rw [List.set_append_right _ _ (by omega), hl, Nat.sub_self, take_next hx, show n - k = (n - (k + 1)) + 1 by omega, List.replicate_succ, List.set_cons_zero]
  simp


theorem block_at {w : World} {a : Option Addr} {len cap : Nat} {xs : List Blk} {fp : List Nat} (h : blkL.sl w a len cap xs fp) {i : Nat} (hi : i < len) :
    ∃ (x : Blk) (b off : Nat) (a1 : Option Addr) (l1 c1 : Nat) (f : List Nat), RowKit.Hid (xs[i]? = some x ∧ b ∈ fp ∧ (∀ y ∈ f, y ∈ fp)) ∧ a = some ⟨b, off, none⟩ ∧ w.cell? ⟨b, off + i * 2, none⟩ = some (.int .i64 x.stamp) ∧ w.cell? ⟨b, off + i * 2 + 1, none⟩ = some (.slice a1 l1 c1) ∧ RowKit.Hid (blkL.rep w [.int .i64 x.stamp, .slice a1 l1 c1] x f) := by
  obtain ⟨x, b, off, c, f, hx, ha, hb, hc, hr, hf⟩ := blkL.sl_at h hi
  obtain ⟨a1, l1, c1, _, ex, -⟩ := blkL_iff.1 hr
  subst ex
  refine ⟨x, b, off, a1, l1, c1, f, ⟨hx, hb, hf⟩, ha, hc 0 (by decide), hc 1 (by decide), hr⟩


def zBlk : Blk := ⟨0, []⟩
theorem zBlk_rep (w : World) : blkL.rep w (.agg #[.int .i64 0, .slice none 0 0] : Value).cells.toList zBlk [] := blkL_iff.2 ⟨none, 0, 0, [], rfl, i64z, nil_sl0 _ _, rfl⟩
theorem infoBlock : (Tryz.prog.info? 76).map (fun i => (i.zero, i.size, i.bytes)) = some (some (.agg #[.int .i64 0, .slice none 0 0]), 2, 32) := by kernel_rfl
theorem kindBlock : ∃ K : Kind Tryz.prog 76 blkL.n 32, K.z = .agg #[.int .i64 0, .slice none 0 0] := by
  obtain ⟨i0, hi, hz0, hz1, hz2⟩ := info_parts infoBlock
  exact ⟨⟨i0, .agg #[.int .i64 0, .slice none 0 0], hi, hz0, hz1, hz2, rfl⟩, rfl⟩
theorem makeBlock (n : Nat) (hn : n ≤ 1048576) (w : World) :
    (Instr.makeSlice 80 (.int .i64 (n : Int)) (.int .i64 (n : Int))).run Tryz.prog w = .ok (.slice (some ⟨w.heap.size, 0, none⟩) n n) (w.alloc (.cells (zrow (.agg #[.int .i64 0, .slice none 0 0]) (n * 2)) 76)) := by
  obtain ⟨K, hK⟩ := kindBlock
  rw [← hK]
  exact make_row Tryz.underlying80 K n (by omega) (by omega) w

set_option maxRecDepth 100000 in
set_option maxHeartbeats 2000000 in
theorem toBlock_any (x : Blk) (cx : Array Value) (fx : List Nat) (w : World) (hx : blkL.rep w cx.toList x fx) (hz : totBlk x ≤ 1048576) :
    Calls Tryz.prog 289 #[.agg cx] w (NewAgg blkL x w) := by
  obtain ⟨a1, l1, c1, f1, ex, o0, h1, -⟩ := blkL_iff.1 hx
  clear hx
  obtain ⟨v0, v1⟩ := x
  simp only at ex o0 h1
  obtain rfl := Array.toList_inj.1 (ex.trans (List.toList_toArray).symm)
  clear ex
  have HO := Lib.hid (o0)
  have z1 : l1 ≤ 1048576 := by unfold totBlk totBs at hz; simp only at hz; rw [h1.1]; omega
  have H1 := Lib.hid h1; have HL1 := Lib.hid (show v1.length = l1 from h1.1.symm); clear h1
  clear hz o0
  go_enter Tryz.func289, Tryz.ntmps289
  go_wp2_with fail
  refine (toB_any a1 l1 c1 v1 f1 _ (byteL.sl_ext H1.out (by refine Chg.alloc ?_ _; refine Chg.alloc ?_ _; refine Chg.alloc ?_ _; exact Chg.refl _ _)) z1).mono ?_
  rintro e w1 ⟨b1, d1, g1, rfl, hs, hf, hc⟩
  rw [HL1.out] at hs ⊢
  have HS1 := Lib.hid hs; clear hs
  have hP := hc.keep0 (b := w.heap.size) (keep_alloc (keep_alloc (new_at (by simp) _) _) _)
  have hQ := hc.keep0 (b := w.heap.size + 1) (keep_alloc (new_at (by simp) _) _)
  have hR := hc.keep0 (b := w.heap.size + 1 + 1) (new_at (by simp) _)
  have HD1 := Lib.hid (Fresh.nots hf [w.heap.size, w.heap.size + 1, w.heap.size + 1 + 1] (by intro b hb; simp only [List.mem_cons, List.not_mem_nil, or_false] at hb; rcases hb with rfl | rfl | rfl <;> simp <;> omega)); have HF1 := Lib.hid hf; clear hf
  have cP := cellsOf hP; have lP := ltOf hP; have fP := freeOf hP; have HBP := Lib.hid hP; clear hP
  have cQ := cellsOf hQ; have lQ := ltOf hQ; have fQ := freeOf hQ; have HBQ := Lib.hid hQ; clear hQ
  have cR := cellsOf hR; have lR := ltOf hR; have fR := freeOf hR; have HBR := Lib.hid hR; clear hR
  have HC1 := Lib.hid hc; clear hc
  go_wp2_with fail
  have hq : ((((w1.setCell ⟨w.heap.size + 1 + 1, 1, none⟩ (.slice b1 l1 d1)).setCell ⟨w.heap.size + 1, 0, none⟩ (.int .i64 v0)).setCell ⟨w.heap.size + 1, 1, none⟩ (.slice b1 l1 d1))).heap[w.heap.size + 1]? = some (.cells #[.int .i64 v0, .slice b1 l1 d1] 76) := (by refine heap_set_lit (cur := #[.int .i64 v0, .slice none 0 0]) ?_ rfl; refine heap_set_lit (cur := #[.int .i64 0, .slice none 0 0]) ?_ rfl; refine keep_set ?_ _ _ (show w.heap.size + 1 ≠ w.heap.size + 1 + 1 by omega); exact HBQ.out)
  have hqc := cellsOf hq
  have hch : Chg [] w (((w1.setCell ⟨w.heap.size + 1 + 1, 1, none⟩ (.slice b1 l1 d1)).setCell ⟨w.heap.size + 1, 0, none⟩ (.int .i64 v0)).setCell ⟨w.heap.size + 1, 1, none⟩ (.slice b1 l1 d1)) := by refine Chg.setCell ?_ _ _ (.inr (by simp <;> omega)); refine Chg.setCell ?_ _ _ (.inr (by simp <;> omega)); refine Chg.setCell ?_ _ _ (.inr (by simp <;> omega)); refine Chg.trans0 ?_ HC1.out; refine Chg.alloc ?_ _; refine Chg.alloc ?_ _; refine Chg.alloc ?_ _; exact Chg.refl _ _
  have k1 : Chg [w.heap.size, w.heap.size + 1, w.heap.size + 1 + 1] w1 (((w1.setCell ⟨w.heap.size + 1 + 1, 1, none⟩ (.slice b1 l1 d1)).setCell ⟨w.heap.size + 1, 0, none⟩ (.int .i64 v0)).setCell ⟨w.heap.size + 1, 1, none⟩ (.slice b1 l1 d1)) := by refine Chg.setCell ?_ _ _ (.inl (by simp)); refine Chg.setCell ?_ _ _ (.inl (by simp)); refine Chg.setCell ?_ _ _ (.inl (by simp)); exact Chg.refl _ _
  have K1 := byteL.sl_chg HS1.out k1 HD1.out
  have F1 := Fresh.chg HF1.out k1
  have hfr := Fresh.mono F1 (show w.heap.size ≤ _ from (by have s1 := HC1.out.size; simp at s1 ⊢ <;> omega))
  refine bodyPost_ret (v := .agg #[.int .i64 v0, .slice b1 l1 d1]) (by simp [results, Tryz.results289, go_sem, hqc]) rfl ⟨_, _, rfl, blkL_iff.2 ⟨b1, l1, d1, g1, rfl, HO.out, K1, rfl⟩, hfr, hch⟩


set_option maxRecDepth 100000 in
set_option maxHeartbeats 2000000 in
theorem toBlockS_any (a : Option Addr) (la ca : Nat) (xs : List Blk) (f : List Nat) (w : World) (ha : blkL.sl w a la ca xs f) (hz : totL totBlk xs ≤ 1048576) :
    Calls Tryz.prog 265 #[.slice a la ca] w (NewSl blkL xs w) := by
  have hlz : la ≤ 1048576 := by have := totL_len totBlk_nonneg xs; rw [ha.1]; omega
  have hmk := makeBlock la hlz
  have hl := Lib.hid ha.1
  have HA := Lib.hid ha
  have HZ := Lib.hid (fun x hx => Int.le_trans (totL_mem totBlk_nonneg hx) hz : ∀ x ∈ xs, totBlk x ≤ 1048576)
  clear ha hz
  go_enter Tryz.func265, Tryz.ntmps265
  go_wp2
  go_loopw [4] (fun i wr => ∃ (k : Nat) (fp : List Nat), k ≤ la ∧ i = .int .i64 k ∧ blkL.sl wr (some ⟨w.heap.size, 0, none⟩) la la (xs.take k ++ List.replicate (la - k) zBlk) fp ∧ Fresh w.heap.size wr fp ∧ w.heap.size ∈ fp ∧ Chg [] w wr) (fun i _ => la - (intOf i).toNat)
  case atStart => exact ⟨0, [w.heap.size], by omega, rfl, by have h := blkL.sl_zrow w 76 la (by omega) (zBlk_rep _); rw [show la * blkL.n = la * 2 from rfl] at h; simpa using h, fresh_new w _ _, by simp, (Chg.refl [] w).alloc _⟩
  case round =>
    obtain ⟨k, fp, hk, rfl, hs, hf, hw, hc⟩ := hrel
    by_cases hlt : k < la
    · obtain ⟨x, b, o, a1, l1, c1, fx, HX, rfl, hc0, hc1, HXS⟩ := block_at (blkL.sl_ext HA.out hc) hlt
      have HS := Lib.hid (And.intro hs (And.intro hf (And.intro hw hc)))
      clear hs hf hw hc
      have hlw : w.heap.size < wr.heap.size := Lay.sl_lt _ HS.out.1 _ HS.out.2.2.1
      go_wp2_with fail
      refine (toBlock_any x #[.int .i64 x.stamp, .slice a1 l1 c1] fx _ HXS.out (HZ.out x (List.mem_of_getElem? HX.out.1))).mono ?_
      rintro e w1 ⟨cs, f1, rfl, hr1, hf1, hc1⟩
      obtain ⟨p1, m1, d1, _, ex, -⟩ := blkL_iff.1 hr1
      obtain rfl := Array.toList_inj.1 (ex.trans (List.toList_toArray).symm)
      clear ex
      have hfz : ∀ j, w1.frozen? ⟨w.heap.size, j, none⟩ = false := by obtain ⟨cur, E, h⟩ := hc1.loose _ (HS.out.2.1.2 _ HS.out.2.2.1).2; exact freeOf h
      obtain ⟨y, b', o', _, _, _, fy, _, e', hd0, hd1, _⟩ := block_at (blkL.sl_ext HS.out.1 hc1) hlt
      obtain ⟨rfl, rfl⟩ : b' = w.heap.size ∧ o' = 0 := by simpa using e'.symm
      simp only [Nat.zero_add] at hd0 hd1
      have hlt1 := Nat.lt_of_lt_of_le hlw hc1.size
      obtain ⟨fp', hp, hm, hnd, hin, -⟩ := blkL.sl_putN (blkL.sl_ext HS.out.1 hc1) HS.out.2.1.1 hlt hr1 (fun y hy hy' => Nat.lt_irrefl _ (Nat.lt_of_lt_of_le (Lay.sl_lt _ HS.out.1 y hy') (hf1.2 y hy).1)) hf1.1
      rw [show 0 + k * blkL.n = k * 2 from Nat.zero_add _, copyE_next HX.out.1 hl.out] at hp
      have hfr : Fresh w.heap.size (w1.setCells w.heap.size (k * 2) [.int .i64 x.stamp, .slice p1 m1 d1]) fp' := ⟨hnd, fun y hy => by
        rcases hm y hy with h | h
        · exact ⟨(HS.out.2.1.2 y h).1, loose_setCells _ _ _ (hc1.loose y (HS.out.2.1.2 y h).2)⟩
        · exact ⟨Nat.le_trans HS.out.2.2.2.size (hf1.2 y h).1, loose_setCells _ _ _ (hf1.2 y h).2⟩⟩
      have HN := Lib.hid (And.intro hp (And.intro hfr (And.intro hin (Chg.setCells (.inr (Nat.le_refl _)) [.int .i64 x.stamp, .slice p1 m1 d1] (k * 2) (HS.out.2.2.2.trans0 hc1)))))
      clear hp hfr hin hm hnd hr1 hf1 hc1 HS e'
      go_wp2_with fail
      go_roundw
      case rel => exact ⟨k + 1, fp', by omega, by go_num, HN.out.1, HN.out.2.1, HN.out.2.2.1, HN.out.2.2.2⟩
      case measure => simp [intOf]; omega
    · have hkl : k = la := by omega
      subst hkl
      have hN : NewSl blkL xs w (.returned (.slice (some ⟨w.heap.size, 0, none⟩) k k)) wr := by
        rw [List.take_of_length_le (by have := hl.out; omega), Nat.sub_self, List.replicate_zero, List.append_nil] at hs
        rw [hl.out] at hs ⊢
        exact ⟨_, _, _, rfl, hs, hf, hc⟩
      have HN := Lib.hid hN
      clear hN hs hf hw hc
      go_wp2
      go_ret
      exact HN.out


theorem drive_at {w : World} {a : Option Addr} {len cap : Nat} {xs : List Drv} {fp : List Nat} (h : drvL.sl w a len cap xs fp) {i : Nat} (hi : i < len) :
    ∃ (x : Drv) (b off : Nat) (a1 : Option Addr) (l1 c1 : Nat) (f : List Nat), RowKit.Hid (xs[i]? = some x ∧ b ∈ fp ∧ (∀ y ∈ f, y ∈ fp)) ∧ a = some ⟨b, off, none⟩ ∧ w.cell? ⟨b, off + i * 2, none⟩ = some (.bool x.wiped) ∧ w.cell? ⟨b, off + i * 2 + 1, none⟩ = some (.slice a1 l1 c1) ∧ RowKit.Hid (drvL.rep w [.bool x.wiped, .slice a1 l1 c1] x f) := by
  obtain ⟨x, b, off, c, f, hx, ha, hb, hc, hr, hf⟩ := drvL.sl_at h hi
  obtain ⟨a1, l1, c1, _, ex, -⟩ := drvL_iff.1 hr
  subst ex
  refine ⟨x, b, off, a1, l1, c1, f, ⟨hx, hb, hf⟩, ha, hc 0 (by decide), hc 1 (by decide), hr⟩


def zDrv : Drv := ⟨false, []⟩
theorem zDrv_rep (w : World) : drvL.rep w (.agg #[.bool false, .slice none 0 0] : Value).cells.toList zDrv [] := drvL_iff.2 ⟨none, 0, 0, [], rfl, nil_sl0 _ _, rfl⟩
theorem infoDrive : (Tryz.prog.info? 82).map (fun i => (i.zero, i.size, i.bytes)) = some (some (.agg #[.bool false, .slice none 0 0]), 2, 32) := by kernel_rfl
theorem kindDrive : ∃ K : Kind Tryz.prog 82 drvL.n 32, K.z = .agg #[.bool false, .slice none 0 0] := by
  obtain ⟨i0, hi, hz0, hz1, hz2⟩ := info_parts infoDrive
  exact ⟨⟨i0, .agg #[.bool false, .slice none 0 0], hi, hz0, hz1, hz2, rfl⟩, rfl⟩
theorem makeDrive (n : Nat) (hn : n ≤ 1048576) (w : World) :
    (Instr.makeSlice 83 (.int .i64 (n : Int)) (.int .i64 (n : Int))).run Tryz.prog w = .ok (.slice (some ⟨w.heap.size, 0, none⟩) n n) (w.alloc (.cells (zrow (.agg #[.bool false, .slice none 0 0]) (n * 2)) 82)) := by
  obtain ⟨K, hK⟩ := kindDrive
  rw [← hK]
  exact make_row Tryz.underlying83 K n (by omega) (by omega) w

set_option maxRecDepth 100000 in
set_option maxHeartbeats 2000000 in
theorem toDrive_any (x : Drv) (cx : Array Value) (fx : List Nat) (w : World) (hx : drvL.rep w cx.toList x fx) (hz : totDrv x ≤ 1048576) :
    Calls Tryz.prog 228 #[.agg cx] w (NewAgg drvL x w) := by
  obtain ⟨a1, l1, c1, f1, ex, h1, -⟩ := drvL_iff.1 hx
  clear hx
  obtain ⟨v0, v1⟩ := x
  simp only at ex h1
  obtain rfl := Array.toList_inj.1 (ex.trans (List.toList_toArray).symm)
  clear ex
  have z1 : totL totBlk v1 ≤ 1048576 := by unfold totDrv at hz; simp only at hz; omega
  have H1 := Lib.hid h1; have HL1 := Lib.hid (show v1.length = l1 from h1.1.symm); clear h1
  clear hz
  go_enter Tryz.func228, Tryz.ntmps228
  go_wp2_with fail
  refine (toBlockS_any a1 l1 c1 v1 f1 _ (blkL.sl_ext H1.out (by refine Chg.alloc ?_ _; refine Chg.alloc ?_ _; refine Chg.alloc ?_ _; exact Chg.refl _ _)) z1).mono ?_
  rintro e w1 ⟨b1, d1, g1, rfl, hs, hf, hc⟩
  rw [HL1.out] at hs ⊢
  have HS1 := Lib.hid hs; clear hs
  have hP := hc.keep0 (b := w.heap.size) (keep_alloc (keep_alloc (new_at (by simp) _) _) _)
  have hQ := hc.keep0 (b := w.heap.size + 1) (keep_alloc (new_at (by simp) _) _)
  have hR := hc.keep0 (b := w.heap.size + 1 + 1) (new_at (by simp) _)
  have HD1 := Lib.hid (Fresh.nots hf [w.heap.size, w.heap.size + 1, w.heap.size + 1 + 1] (by intro b hb; simp only [List.mem_cons, List.not_mem_nil, or_false] at hb; rcases hb with rfl | rfl | rfl <;> simp <;> omega)); have HF1 := Lib.hid hf; clear hf
  have cP := cellsOf hP; have lP := ltOf hP; have fP := freeOf hP; have HBP := Lib.hid hP; clear hP
  have cQ := cellsOf hQ; have lQ := ltOf hQ; have fQ := freeOf hQ; have HBQ := Lib.hid hQ; clear hQ
  have cR := cellsOf hR; have lR := ltOf hR; have fR := freeOf hR; have HBR := Lib.hid hR; clear hR
  have HC1 := Lib.hid hc; clear hc
  go_wp2_with fail
  have hq : ((((w1.setCell ⟨w.heap.size + 1 + 1, 1, none⟩ (.slice b1 l1 d1)).setCell ⟨w.heap.size + 1, 0, none⟩ (.bool v0)).setCell ⟨w.heap.size + 1, 1, none⟩ (.slice b1 l1 d1))).heap[w.heap.size + 1]? = some (.cells #[.bool v0, .slice b1 l1 d1] 82) := (by refine heap_set_lit (cur := #[.bool v0, .slice none 0 0]) ?_ rfl; refine heap_set_lit (cur := #[.bool false, .slice none 0 0]) ?_ rfl; refine keep_set ?_ _ _ (show w.heap.size + 1 ≠ w.heap.size + 1 + 1 by omega); exact HBQ.out)
  have hqc := cellsOf hq
  have hch : Chg [] w (((w1.setCell ⟨w.heap.size + 1 + 1, 1, none⟩ (.slice b1 l1 d1)).setCell ⟨w.heap.size + 1, 0, none⟩ (.bool v0)).setCell ⟨w.heap.size + 1, 1, none⟩ (.slice b1 l1 d1)) := by refine Chg.setCell ?_ _ _ (.inr (by simp <;> omega)); refine Chg.setCell ?_ _ _ (.inr (by simp <;> omega)); refine Chg.setCell ?_ _ _ (.inr (by simp <;> omega)); refine Chg.trans0 ?_ HC1.out; refine Chg.alloc ?_ _; refine Chg.alloc ?_ _; refine Chg.alloc ?_ _; exact Chg.refl _ _
  have k1 : Chg [w.heap.size, w.heap.size + 1, w.heap.size + 1 + 1] w1 (((w1.setCell ⟨w.heap.size + 1 + 1, 1, none⟩ (.slice b1 l1 d1)).setCell ⟨w.heap.size + 1, 0, none⟩ (.bool v0)).setCell ⟨w.heap.size + 1, 1, none⟩ (.slice b1 l1 d1)) := by refine Chg.setCell ?_ _ _ (.inl (by simp)); refine Chg.setCell ?_ _ _ (.inl (by simp)); refine Chg.setCell ?_ _ _ (.inl (by simp)); exact Chg.refl _ _
  have K1 := blkL.sl_chg HS1.out k1 HD1.out
  have F1 := Fresh.chg HF1.out k1
  have hfr := Fresh.mono F1 (show w.heap.size ≤ _ from (by have s1 := HC1.out.size; simp at s1 ⊢ <;> omega))
  refine bodyPost_ret (v := .agg #[.bool v0, .slice b1 l1 d1]) (by simp [results, Tryz.results228, go_sem, hqc]) rfl ⟨_, _, rfl, drvL_iff.2 ⟨b1, l1, d1, g1, rfl, K1, rfl⟩, hfr, hch⟩


set_option maxRecDepth 100000 in
set_option maxHeartbeats 2000000 in
theorem toDriveS_any (a : Option Addr) (la ca : Nat) (xs : List Drv) (f : List Nat) (w : World) (ha : drvL.sl w a la ca xs f) (hz : totL totDrv xs ≤ 1048576) :
    Calls Tryz.prog 152 #[.slice a la ca] w (NewSl drvL xs w) := by
  have hlz : la ≤ 1048576 := by have := totL_len totDrv_nonneg xs; rw [ha.1]; omega
  have hmk := makeDrive la hlz
  have hl := Lib.hid ha.1
  have HA := Lib.hid ha
  have HZ := Lib.hid (fun x hx => Int.le_trans (totL_mem totDrv_nonneg hx) hz : ∀ x ∈ xs, totDrv x ≤ 1048576)
  clear ha hz
  go_enter Tryz.func152, Tryz.ntmps152
  go_wp2
  go_loopw [4] (fun i wr => ∃ (k : Nat) (fp : List Nat), k ≤ la ∧ i = .int .i64 k ∧ drvL.sl wr (some ⟨w.heap.size, 0, none⟩) la la (xs.take k ++ List.replicate (la - k) zDrv) fp ∧ Fresh w.heap.size wr fp ∧ w.heap.size ∈ fp ∧ Chg [] w wr) (fun i _ => la - (intOf i).toNat)
  case atStart => exact ⟨0, [w.heap.size], by omega, rfl, by have h := drvL.sl_zrow w 82 la (by omega) (zDrv_rep _); rw [show la * drvL.n = la * 2 from rfl] at h; simpa using h, fresh_new w _ _, by simp, (Chg.refl [] w).alloc _⟩
  case round =>
    obtain ⟨k, fp, hk, rfl, hs, hf, hw, hc⟩ := hrel
    by_cases hlt : k < la
    · obtain ⟨x, b, o, a1, l1, c1, fx, HX, rfl, hc0, hc1, HXS⟩ := drive_at (drvL.sl_ext HA.out hc) hlt
      have HS := Lib.hid (And.intro hs (And.intro hf (And.intro hw hc)))
      clear hs hf hw hc
      have hlw : w.heap.size < wr.heap.size := Lay.sl_lt _ HS.out.1 _ HS.out.2.2.1
      go_wp2_with fail
      refine (toDrive_any x #[.bool x.wiped, .slice a1 l1 c1] fx _ HXS.out (HZ.out x (List.mem_of_getElem? HX.out.1))).mono ?_
      rintro e w1 ⟨cs, f1, rfl, hr1, hf1, hc1⟩
      obtain ⟨p1, m1, d1, _, ex, -⟩ := drvL_iff.1 hr1
      obtain rfl := Array.toList_inj.1 (ex.trans (List.toList_toArray).symm)
      clear ex
      have hfz : ∀ j, w1.frozen? ⟨w.heap.size, j, none⟩ = false := by obtain ⟨cur, E, h⟩ := hc1.loose _ (HS.out.2.1.2 _ HS.out.2.2.1).2; exact freeOf h
      obtain ⟨y, b', o', _, _, _, fy, _, e', hd0, hd1, _⟩ := drive_at (drvL.sl_ext HS.out.1 hc1) hlt
      obtain ⟨rfl, rfl⟩ : b' = w.heap.size ∧ o' = 0 := by simpa using e'.symm
      simp only [Nat.zero_add] at hd0 hd1
      have hlt1 := Nat.lt_of_lt_of_le hlw hc1.size
      obtain ⟨fp', hp, hm, hnd, hin, -⟩ := drvL.sl_putN (drvL.sl_ext HS.out.1 hc1) HS.out.2.1.1 hlt hr1 (fun y hy hy' => Nat.lt_irrefl _ (Nat.lt_of_lt_of_le (Lay.sl_lt _ HS.out.1 y hy') (hf1.2 y hy).1)) hf1.1
      rw [show 0 + k * drvL.n = k * 2 from Nat.zero_add _, copyE_next HX.out.1 hl.out] at hp
      have hfr : Fresh w.heap.size (w1.setCells w.heap.size (k * 2) [.bool x.wiped, .slice p1 m1 d1]) fp' := ⟨hnd, fun y hy => by
        rcases hm y hy with h | h
        · exact ⟨(HS.out.2.1.2 y h).1, loose_setCells _ _ _ (hc1.loose y (HS.out.2.1.2 y h).2)⟩
        · exact ⟨Nat.le_trans HS.out.2.2.2.size (hf1.2 y h).1, loose_setCells _ _ _ (hf1.2 y h).2⟩⟩
      have HN := Lib.hid (And.intro hp (And.intro hfr (And.intro hin (Chg.setCells (.inr (Nat.le_refl _)) [.bool x.wiped, .slice p1 m1 d1] (k * 2) (HS.out.2.2.2.trans0 hc1)))))
      clear hp hfr hin hm hnd hr1 hf1 hc1 HS e'
      go_wp2_with fail
      go_roundw
      case rel => exact ⟨k + 1, fp', by omega, by go_num, HN.out.1, HN.out.2.1, HN.out.2.2.1, HN.out.2.2.2⟩
      case measure => simp [intOf]; omega
    · have hkl : k = la := by omega
      subst hkl
      have hN : NewSl drvL xs w (.returned (.slice (some ⟨w.heap.size, 0, none⟩) k k)) wr := by
        rw [List.take_of_length_le (by have := hl.out; omega), Nat.sub_self, List.replicate_zero, List.append_nil] at hs
        rw [hl.out] at hs ⊢
        exact ⟨_, _, _, rfl, hs, hf, hc⟩
      have HN := Lib.hid hN
      clear hN hs hf hw hc
      go_wp2
      go_ret
      exact HN.out


theorem infoDS : (Tryz.prog.info? 83).map (fun i => (i.zero, i.size, i.bytes)) = some (some (.slice none 0 0), 1, 24) := by kernel_rfl
theorem kindDS : ∃ K : Kind Tryz.prog 83 drvL.slice.n 24, K.z = .slice none 0 0 := by
  obtain ⟨i0, hi, hz0, hz1, hz2⟩ := info_parts infoDS
  exact ⟨⟨i0, .slice none 0 0, hi, hz0, hz1, hz2, rfl⟩, rfl⟩
theorem makeDS (n : Nat) (hn : n ≤ 1048576) (w : World) :
    (Instr.makeSlice 31 (.int .i64 (n : Int)) (.int .i64 (n : Int))).run Tryz.prog w = .ok (.slice (some ⟨w.heap.size, 0, none⟩) n n) (w.alloc (.cells (zrow (.slice none 0 0) n) 83)) := by
  obtain ⟨K, hK⟩ := kindDS
  rw [← hK]
  have := make_row Tryz.underlying31 K n (by omega) (by omega) w
  rw [show n * drvL.slice.n = n from Nat.mul_one n] at this
  exact this
set_option maxRecDepth 100000 in
set_option maxHeartbeats 1000000 in
theorem toDriveSS_any (a : Option Addr) (la ca : Nat) (xs : List (List Drv)) (f : List Nat) (w : World) (ha : drvL.slice.sl w a la ca xs f) (hz : totL (totL totDrv) xs ≤ 1048576) :
    Calls Tryz.prog 75 #[.slice a la ca] w (NewSl drvL.slice xs w) := by
  have hlz : la ≤ 1048576 := by have := totL_len (totL_nonneg totDrv_nonneg) xs; rw [ha.1]; omega
  have hmk := makeDS la hlz
  have hl := Lib.hid ha.1
  have HA := Lib.hid ha
  have HZ := Lib.hid (fun x hx => Int.le_trans (totL_mem (totL_nonneg totDrv_nonneg) hx) hz : ∀ x ∈ xs, totL totDrv x ≤ 1048576)
  clear ha hz
  go_enter Tryz.func75, Tryz.ntmps75
  go_wp2
  go_loopw [4] (fun i wr => ∃ (k : Nat) (fp : List Nat), k ≤ la ∧ i = .int .i64 k ∧ drvL.slice.sl wr (some ⟨w.heap.size, 0, none⟩) la la (xs.take k ++ List.replicate (la - k) []) fp ∧ Fresh w.heap.size wr fp ∧ w.heap.size ∈ fp ∧ Chg [] w wr) (fun i _ => la - (intOf i).toNat)
  case atStart => exact ⟨0, [w.heap.size], by omega, rfl, by simpa using slc_zrow drvL w 83 la (by omega), fresh_new w _ _, by simp, (Chg.refl [] w).alloc _⟩
  case round =>
    obtain ⟨k, fp, hk, rfl, hs, hf, hw, hc⟩ := hrel
    by_cases hlt : k < la
    · obtain ⟨x, b, o, A, lx, C, fx, HX, rfl, hcx, HXS⟩ := slc_at (drvL.slice.sl_ext HA.out hc) hlt
      have HLX := Lib.hid HXS.out.1
      have HS := Lib.hid (And.intro hs (And.intro hf (And.intro hw hc)))
      clear hs hf hw hc
      go_wp2_with fail
      refine (toDriveS_any A lx C x fx _ HXS.out (HZ.out x (List.mem_of_getElem? HX.out.1))).mono ?_
      rintro e w1 ⟨a1, c1, f1, rfl, hs1, hf1, hc1⟩
      rw [← HLX.out] at hs1 ⊢
      have hfz : w1.frozen? ⟨w.heap.size, k, none⟩ = false := by obtain ⟨cur, E, h⟩ := hc1.loose _ (HS.out.2.1.2 _ HS.out.2.2.1).2; exact freeOf h _
      have hold : ∃ y b' o' A' l' C' f', RowKit.Hid ((xs.take k ++ List.replicate (la - k) [])[k]? = some y ∧ b' ∈ fp ∧ (∀ y ∈ f', y ∈ fp)) ∧ (some ⟨w.heap.size, 0, none⟩ : Option Addr) = some ⟨b', o', none⟩ ∧ w1.cell? ⟨b', o' + k, none⟩ = some (.slice A' l' C') ∧ RowKit.Hid (drvL.sl w1 A' l' C' y f') := slc_at (drvL.slice.sl_ext HS.out.1 hc1) hlt
      obtain ⟨y, b', o', A', l', C', f', _, e', hco, _⟩ := hold
      obtain ⟨rfl, rfl⟩ : b' = w.heap.size ∧ o' = 0 := by simpa using e'.symm
      rw [Nat.zero_add] at hco
      have hlt1 := ltOf (o := _) (hc1.keep0 (show _ = some _ from (Array.getElem?_eq_some_iff.2 ⟨Lay.sl_lt _ HS.out.1 _ HS.out.2.2.1, rfl⟩)))
      obtain ⟨fp', hp, hm, hnd⟩ := drvL.slice.sl_put rfl (drvL.slice.sl_ext HS.out.1 hc1) HS.out.2.1.1 hlt (v := .slice a1 lx c1) (x' := x) (f' := f1) ⟨a1, lx, c1, rfl, hs1⟩ (fun y hy hy' => Nat.lt_irrefl _ (Nat.lt_of_lt_of_le (Lay.sl_lt _ HS.out.1 y hy') (hf1.2 y hy).1)) hf1.1
      rw [Nat.zero_add, copyL_next HX.out.1 hl.out] at hp
      have hfr : Fresh w.heap.size (w1.setCell ⟨w.heap.size, k, none⟩ (.slice a1 lx c1)) fp' := ⟨hnd, fun y hy => by
        rcases hm y hy with h | h
        · exact ⟨(HS.out.2.1.2 y h).1, (hc1.loose y (HS.out.2.1.2 y h).2).setCell _ _⟩
        · exact ⟨Nat.le_trans HS.out.2.2.2.size (hf1.2 y h).1, (hf1.2 y h).2.setCell _ _⟩⟩
      have hin : w.heap.size ∈ fp' := by
        obtain ⟨_, _, _, _, ⟨h0, _⟩ | ⟨b, off, cur, E, fr, fps, hb, _, _, rfl⟩⟩ := hp
        · exfalso; have h5 := congrArg List.length h0; rw [List.length_append, List.length_replicate, List.length_take, List.length_nil] at h5; have h6 := hl.out; omega
        · simp at hb; simp [hb.1]
      have HN := Lib.hid (And.intro hp (And.intro hfr (And.intro hin ((HS.out.2.2.2.trans0 hc1).setCell ⟨w.heap.size, k, none⟩ (.slice a1 lx c1) (.inr (Nat.le_refl _))))))
      clear hp hfr hin hm hnd hs1 hf1 hc1 HS e'
      go_wp2_with fail
      go_roundw
      case rel => exact ⟨k + 1, fp', by omega, by go_num, HN.out.1, HN.out.2.1, HN.out.2.2.1, HN.out.2.2.2⟩
      case measure => simp [intOf]; omega
    · have hkl : k = la := by omega
      subst hkl
      have hN : NewSl drvL.slice xs w (.returned (.slice (some ⟨w.heap.size, 0, none⟩) k k)) wr := by
        rw [List.take_of_length_le (by have := hl.out; omega), Nat.sub_self, List.replicate_zero, List.append_nil] at hs
        rw [hl.out] at hs ⊢
        exact ⟨_, _, _, rfl, hs, hf, hc⟩
      have HN := Lib.hid hN
      clear hN hs hf hw hc
      go_wp2
      go_ret
      exact HN.out


theorem rec_at {w : World} {a : Option Addr} {len cap : Nat} {xs : List Rec} {fp : List Nat} (h : recL.sl w a len cap xs fp) {i : Nat} (hi : i < len) :
    ∃ (x : Rec) (b off : Nat) (a6 : Option Addr) (l6 c6 : Nat) (a7 : Option Addr) (l7 c7 : Nat) (a8 : Option Addr) (l8 c8 : Nat) (f : List Nat), RowKit.Hid (xs[i]? = some x ∧ b ∈ fp ∧ (∀ y ∈ f, y ∈ fp)) ∧ a = some ⟨b, off, none⟩ ∧ w.cell? ⟨b, off + i * 9, none⟩ = some (.int .i64 x.kind) ∧ w.cell? ⟨b, off + i * 9 + 1, none⟩ = some (.int .i64 x.seq) ∧ w.cell? ⟨b, off + i * 9 + 2, none⟩ = some (.string x.name) ∧ w.cell? ⟨b, off + i * 9 + 3, none⟩ = some (.int .i64 x.length) ∧ w.cell? ⟨b, off + i * 9 + 4, none⟩ = some (.int .i64 x.group) ∧ w.cell? ⟨b, off + i * 9 + 5, none⟩ = some (.int .i64 x.row) ∧ w.cell? ⟨b, off + i * 9 + 6, none⟩ = some (.slice a6 l6 c6) ∧ w.cell? ⟨b, off + i * 9 + 7, none⟩ = some (.slice a7 l7 c7) ∧ w.cell? ⟨b, off + i * 9 + 8, none⟩ = some (.slice a8 l8 c8) ∧ RowKit.Hid (recL.rep w [.int .i64 x.kind, .int .i64 x.seq, .string x.name, .int .i64 x.length, .int .i64 x.group, .int .i64 x.row, .slice a6 l6 c6, .slice a7 l7 c7, .slice a8 l8 c8] x f) := by
  obtain ⟨x, b, off, c, f, hx, ha, hb, hc, hr, hf⟩ := recL.sl_at h hi
  obtain ⟨a6, l6, c6, _, a7, l7, c7, _, a8, l8, c8, _, ex, -⟩ := recL_iff.1 hr
  subst ex
  refine ⟨x, b, off, a6, l6, c6, a7, l7, c7, a8, l8, c8, f, ⟨hx, hb, hf⟩, ha, hc 0 (by decide), hc 1 (by decide), hc 2 (by decide), hc 3 (by decide), hc 4 (by decide), hc 5 (by decide), hc 6 (by decide), hc 7 (by decide), hc 8 (by decide), hr⟩


def zRec : Rec := ⟨0, 0, ⟨#[]⟩, 0, 0, 0, [], [], []⟩
theorem zRec_rep (w : World) : recL.rep w (.agg #[.int .i64 0, .int .i64 0, .string ⟨#[]⟩, .int .i64 0, .int .i64 0, .int .i64 0, .slice none 0 0, .slice none 0 0, .slice none 0 0] : Value).cells.toList zRec [] := recL_iff.2 ⟨none, 0, 0, [], none, 0, 0, [], none, 0, 0, [], rfl, i64z, i64z, maxz, i64z, i64z, i64z, nil_sl0 _ _, nil_sl0 _ _, nil_sl0 _ _, rfl⟩
theorem infoRec : (Tryz.prog.info? 67).map (fun i => (i.zero, i.size, i.bytes)) = some (some (.agg #[.int .i64 0, .int .i64 0, .string ⟨#[]⟩, .int .i64 0, .int .i64 0, .int .i64 0, .slice none 0 0, .slice none 0 0, .slice none 0 0]), 9, 128) := by kernel_rfl
theorem kindRec : ∃ K : Kind Tryz.prog 67 recL.n 128, K.z = .agg #[.int .i64 0, .int .i64 0, .string ⟨#[]⟩, .int .i64 0, .int .i64 0, .int .i64 0, .slice none 0 0, .slice none 0 0, .slice none 0 0] := by
  obtain ⟨i0, hi, hz0, hz1, hz2⟩ := info_parts infoRec
  exact ⟨⟨i0, .agg #[.int .i64 0, .int .i64 0, .string ⟨#[]⟩, .int .i64 0, .int .i64 0, .int .i64 0, .slice none 0 0, .slice none 0 0, .slice none 0 0], hi, hz0, hz1, hz2, rfl⟩, rfl⟩
theorem makeRec (n : Nat) (hn : n ≤ 1048576) (w : World) :
    (Instr.makeSlice 44 (.int .i64 (n : Int)) (.int .i64 (n : Int))).run Tryz.prog w = .ok (.slice (some ⟨w.heap.size, 0, none⟩) n n) (w.alloc (.cells (zrow (.agg #[.int .i64 0, .int .i64 0, .string ⟨#[]⟩, .int .i64 0, .int .i64 0, .int .i64 0, .slice none 0 0, .slice none 0 0, .slice none 0 0]) (n * 9)) 67)) := by
  obtain ⟨K, hK⟩ := kindRec
  rw [← hK]
  exact make_row Tryz.underlying44 K n (by omega) (by omega) w


set_option maxRecDepth 100000 in
set_option maxHeartbeats 2000000 in
theorem toRecS_any (a : Option Addr) (la ca : Nat) (xs : List Rec) (f : List Nat) (w : World) (ha : recL.sl w a la ca xs f) (hz : totL totRec xs ≤ 1048576) :
    Calls Tryz.prog 229 #[.slice a la ca] w (NewSl recL xs w) := by
  have hlz : la ≤ 1048576 := by have := totL_len totRec_nonneg xs; rw [ha.1]; omega
  have hmk := makeRec la hlz
  have hl := Lib.hid ha.1
  have HA := Lib.hid ha
  have HZ := Lib.hid (fun x hx => Int.le_trans (totL_mem totRec_nonneg hx) hz : ∀ x ∈ xs, totRec x ≤ 1048576)
  clear ha hz
  go_enter Tryz.func229, Tryz.ntmps229
  go_wp2
  go_loopw [4] (fun i wr => ∃ (k : Nat) (fp : List Nat), k ≤ la ∧ i = .int .i64 k ∧ recL.sl wr (some ⟨w.heap.size, 0, none⟩) la la (xs.take k ++ List.replicate (la - k) zRec) fp ∧ Fresh w.heap.size wr fp ∧ w.heap.size ∈ fp ∧ Chg [] w wr) (fun i _ => la - (intOf i).toNat)
  case atStart => exact ⟨0, [w.heap.size], by omega, rfl, by have h := recL.sl_zrow w 67 la (by omega) (zRec_rep _); rw [show la * recL.n = la * 9 from rfl] at h; simpa using h, fresh_new w _ _, by simp, (Chg.refl [] w).alloc _⟩
  case round =>
    obtain ⟨k, fp, hk, rfl, hs, hf, hw, hc⟩ := hrel
    by_cases hlt : k < la
    · obtain ⟨x, b, o, a6, l6, c6, a7, l7, c7, a8, l8, c8, fx, HX, rfl, hc0, hc1, hc2, hc3, hc4, hc5, hc6, hc7, hc8, HXS⟩ := rec_at (recL.sl_ext HA.out hc) hlt
      have HS := Lib.hid (And.intro hs (And.intro hf (And.intro hw hc)))
      clear hs hf hw hc
      have hlw : w.heap.size < wr.heap.size := Lay.sl_lt _ HS.out.1 _ HS.out.2.2.1
      go_wp2_with fail
      refine (toRec_any x #[.int .i64 x.kind, .int .i64 x.seq, .string x.name, .int .i64 x.length, .int .i64 x.group, .int .i64 x.row, .slice a6 l6 c6, .slice a7 l7 c7, .slice a8 l8 c8] fx _ HXS.out (HZ.out x (List.mem_of_getElem? HX.out.1))).mono ?_
      rintro e w1 ⟨cs, f1, rfl, hr1, hf1, hc1⟩
      obtain ⟨p6, m6, d6, _, p7, m7, d7, _, p8, m8, d8, _, ex, -⟩ := recL_iff.1 hr1
      obtain rfl := Array.toList_inj.1 (ex.trans (List.toList_toArray).symm)
      clear ex
      have hfz : ∀ j, w1.frozen? ⟨w.heap.size, j, none⟩ = false := by obtain ⟨cur, E, h⟩ := hc1.loose _ (HS.out.2.1.2 _ HS.out.2.2.1).2; exact freeOf h
      obtain ⟨y, b', o', _, _, _, _, _, _, _, _, _, fy, _, e', hd0, hd1, hd2, hd3, hd4, hd5, hd6, hd7, hd8, _⟩ := rec_at (recL.sl_ext HS.out.1 hc1) hlt
      obtain ⟨rfl, rfl⟩ : b' = w.heap.size ∧ o' = 0 := by simpa using e'.symm
      simp only [Nat.zero_add] at hd0 hd1 hd2 hd3 hd4 hd5 hd6 hd7 hd8
      have hlt1 := Nat.lt_of_lt_of_le hlw hc1.size
      obtain ⟨fp', hp, hm, hnd, hin, -⟩ := recL.sl_putN (recL.sl_ext HS.out.1 hc1) HS.out.2.1.1 hlt hr1 (fun y hy hy' => Nat.lt_irrefl _ (Nat.lt_of_lt_of_le (Lay.sl_lt _ HS.out.1 y hy') (hf1.2 y hy).1)) hf1.1
      rw [show 0 + k * recL.n = k * 9 from Nat.zero_add _, copyE_next HX.out.1 hl.out] at hp
      have hfr : Fresh w.heap.size (w1.setCells w.heap.size (k * 9) [.int .i64 x.kind, .int .i64 x.seq, .string x.name, .int .i64 x.length, .int .i64 x.group, .int .i64 x.row, .slice p6 m6 d6, .slice p7 m7 d7, .slice p8 m8 d8]) fp' := ⟨hnd, fun y hy => by
        rcases hm y hy with h | h
        · exact ⟨(HS.out.2.1.2 y h).1, loose_setCells _ _ _ (hc1.loose y (HS.out.2.1.2 y h).2)⟩
        · exact ⟨Nat.le_trans HS.out.2.2.2.size (hf1.2 y h).1, loose_setCells _ _ _ (hf1.2 y h).2⟩⟩
      have HN := Lib.hid (And.intro hp (And.intro hfr (And.intro hin (Chg.setCells (.inr (Nat.le_refl _)) [.int .i64 x.kind, .int .i64 x.seq, .string x.name, .int .i64 x.length, .int .i64 x.group, .int .i64 x.row, .slice p6 m6 d6, .slice p7 m7 d7, .slice p8 m8 d8] (k * 9) (HS.out.2.2.2.trans0 hc1)))))
      clear hp hfr hin hm hnd hr1 hf1 hc1 HS e'
      go_wp2_with fail
      go_roundw
      case rel => exact ⟨k + 1, fp', by omega, by go_num, HN.out.1, HN.out.2.1, HN.out.2.2.1, HN.out.2.2.2⟩
      case measure => simp [intOf]; omega
    · have hkl : k = la := by omega
      subst hkl
      have hN : NewSl recL xs w (.returned (.slice (some ⟨w.heap.size, 0, none⟩) k k)) wr := by
        rw [List.take_of_length_le (by have := hl.out; omega), Nat.sub_self, List.replicate_zero, List.append_nil] at hs
        rw [hl.out] at hs ⊢
        exact ⟨_, _, _, rfl, hs, hf, hc⟩
      have HN := Lib.hid hN
      clear hN hs hf hw hc
      go_wp2
      go_ret
      exact HN.out


theorem tape_at {w : World} {a : Option Addr} {len cap : Nat} {xs : List Tap} {fp : List Nat} (h : tapL.sl w a len cap xs fp) {i : Nat} (hi : i < len) :
    ∃ (x : Tap) (b off : Nat) (a1 : Option Addr) (l1 c1 : Nat) (f : List Nat), RowKit.Hid (xs[i]? = some x ∧ b ∈ fp ∧ (∀ y ∈ f, y ∈ fp)) ∧ a = some ⟨b, off, none⟩ ∧ w.cell? ⟨b, off + i * 2, none⟩ = some (.bool x.wiped) ∧ w.cell? ⟨b, off + i * 2 + 1, none⟩ = some (.slice a1 l1 c1) ∧ RowKit.Hid (tapL.rep w [.bool x.wiped, .slice a1 l1 c1] x f) := by
  obtain ⟨x, b, off, c, f, hx, ha, hb, hc, hr, hf⟩ := tapL.sl_at h hi
  obtain ⟨a1, l1, c1, _, ex, -⟩ := tapL_iff.1 hr
  subst ex
  refine ⟨x, b, off, a1, l1, c1, f, ⟨hx, hb, hf⟩, ha, hc 0 (by decide), hc 1 (by decide), hr⟩


def zTap : Tap := ⟨false, []⟩
theorem zTap_rep (w : World) : tapL.rep w (.agg #[.bool false, .slice none 0 0] : Value).cells.toList zTap [] := tapL_iff.2 ⟨none, 0, 0, [], rfl, nil_sl0 _ _, rfl⟩
theorem infoTape : (Tryz.prog.info? 69).map (fun i => (i.zero, i.size, i.bytes)) = some (some (.agg #[.bool false, .slice none 0 0]), 2, 32) := by kernel_rfl
theorem kindTape : ∃ K : Kind Tryz.prog 69 tapL.n 32, K.z = .agg #[.bool false, .slice none 0 0] := by
  obtain ⟨i0, hi, hz0, hz1, hz2⟩ := info_parts infoTape
  exact ⟨⟨i0, .agg #[.bool false, .slice none 0 0], hi, hz0, hz1, hz2, rfl⟩, rfl⟩
theorem makeTape (n : Nat) (hn : n ≤ 1048576) (w : World) :
    (Instr.makeSlice 32 (.int .i64 (n : Int)) (.int .i64 (n : Int))).run Tryz.prog w = .ok (.slice (some ⟨w.heap.size, 0, none⟩) n n) (w.alloc (.cells (zrow (.agg #[.bool false, .slice none 0 0]) (n * 2)) 69)) := by
  obtain ⟨K, hK⟩ := kindTape
  rw [← hK]
  exact make_row Tryz.underlying32 K n (by omega) (by omega) w

set_option maxRecDepth 100000 in
set_option maxHeartbeats 2000000 in
theorem toTape_any (x : Tap) (cx : Array Value) (fx : List Nat) (w : World) (hx : tapL.rep w cx.toList x fx) (hz : totTap x ≤ 1048576) :
    Calls Tryz.prog 153 #[.agg cx] w (NewAgg tapL x w) := by
  obtain ⟨a1, l1, c1, f1, ex, h1, -⟩ := tapL_iff.1 hx
  clear hx
  obtain ⟨v0, v1⟩ := x
  simp only at ex h1
  obtain rfl := Array.toList_inj.1 (ex.trans (List.toList_toArray).symm)
  clear ex
  have z1 : totL totRec v1 ≤ 1048576 := by unfold totTap at hz; simp only at hz; omega
  have H1 := Lib.hid h1; have HL1 := Lib.hid (show v1.length = l1 from h1.1.symm); clear h1
  clear hz
  go_enter Tryz.func153, Tryz.ntmps153
  go_wp2_with fail
  refine (toRecS_any a1 l1 c1 v1 f1 _ (recL.sl_ext H1.out (by refine Chg.alloc ?_ _; refine Chg.alloc ?_ _; refine Chg.alloc ?_ _; exact Chg.refl _ _)) z1).mono ?_
  rintro e w1 ⟨b1, d1, g1, rfl, hs, hf, hc⟩
  rw [HL1.out] at hs ⊢
  have HS1 := Lib.hid hs; clear hs
  have hP := hc.keep0 (b := w.heap.size) (keep_alloc (keep_alloc (new_at (by simp) _) _) _)
  have hQ := hc.keep0 (b := w.heap.size + 1) (keep_alloc (new_at (by simp) _) _)
  have hR := hc.keep0 (b := w.heap.size + 1 + 1) (new_at (by simp) _)
  have HD1 := Lib.hid (Fresh.nots hf [w.heap.size, w.heap.size + 1, w.heap.size + 1 + 1] (by intro b hb; simp only [List.mem_cons, List.not_mem_nil, or_false] at hb; rcases hb with rfl | rfl | rfl <;> simp <;> omega)); have HF1 := Lib.hid hf; clear hf
  have cP := cellsOf hP; have lP := ltOf hP; have fP := freeOf hP; have HBP := Lib.hid hP; clear hP
  have cQ := cellsOf hQ; have lQ := ltOf hQ; have fQ := freeOf hQ; have HBQ := Lib.hid hQ; clear hQ
  have cR := cellsOf hR; have lR := ltOf hR; have fR := freeOf hR; have HBR := Lib.hid hR; clear hR
  have HC1 := Lib.hid hc; clear hc
  go_wp2_with fail
  have hq : ((((w1.setCell ⟨w.heap.size + 1 + 1, 1, none⟩ (.slice b1 l1 d1)).setCell ⟨w.heap.size + 1, 0, none⟩ (.bool v0)).setCell ⟨w.heap.size + 1, 1, none⟩ (.slice b1 l1 d1))).heap[w.heap.size + 1]? = some (.cells #[.bool v0, .slice b1 l1 d1] 69) := (by refine heap_set_lit (cur := #[.bool v0, .slice none 0 0]) ?_ rfl; refine heap_set_lit (cur := #[.bool false, .slice none 0 0]) ?_ rfl; refine keep_set ?_ _ _ (show w.heap.size + 1 ≠ w.heap.size + 1 + 1 by omega); exact HBQ.out)
  have hqc := cellsOf hq
  have hch : Chg [] w (((w1.setCell ⟨w.heap.size + 1 + 1, 1, none⟩ (.slice b1 l1 d1)).setCell ⟨w.heap.size + 1, 0, none⟩ (.bool v0)).setCell ⟨w.heap.size + 1, 1, none⟩ (.slice b1 l1 d1)) := by refine Chg.setCell ?_ _ _ (.inr (by simp <;> omega)); refine Chg.setCell ?_ _ _ (.inr (by simp <;> omega)); refine Chg.setCell ?_ _ _ (.inr (by simp <;> omega)); refine Chg.trans0 ?_ HC1.out; refine Chg.alloc ?_ _; refine Chg.alloc ?_ _; refine Chg.alloc ?_ _; exact Chg.refl _ _
  have k1 : Chg [w.heap.size, w.heap.size + 1, w.heap.size + 1 + 1] w1 (((w1.setCell ⟨w.heap.size + 1 + 1, 1, none⟩ (.slice b1 l1 d1)).setCell ⟨w.heap.size + 1, 0, none⟩ (.bool v0)).setCell ⟨w.heap.size + 1, 1, none⟩ (.slice b1 l1 d1)) := by refine Chg.setCell ?_ _ _ (.inl (by simp)); refine Chg.setCell ?_ _ _ (.inl (by simp)); refine Chg.setCell ?_ _ _ (.inl (by simp)); exact Chg.refl _ _
  have K1 := recL.sl_chg HS1.out k1 HD1.out
  have F1 := Fresh.chg HF1.out k1
  have hfr := Fresh.mono F1 (show w.heap.size ≤ _ from (by have s1 := HC1.out.size; simp at s1 ⊢ <;> omega))
  refine bodyPost_ret (v := .agg #[.bool v0, .slice b1 l1 d1]) (by simp [results, Tryz.results153, go_sem, hqc]) rfl ⟨_, _, rfl, tapL_iff.2 ⟨b1, l1, d1, g1, rfl, K1, rfl⟩, hfr, hch⟩


set_option maxRecDepth 100000 in
set_option maxHeartbeats 2000000 in
theorem toTapeS_any (a : Option Addr) (la ca : Nat) (xs : List Tap) (f : List Nat) (w : World) (ha : tapL.sl w a la ca xs f) (hz : totL totTap xs ≤ 1048576) :
    Calls Tryz.prog 77 #[.slice a la ca] w (NewSl tapL xs w) := by
  have hlz : la ≤ 1048576 := by have := totL_len totTap_nonneg xs; rw [ha.1]; omega
  have hmk := makeTape la hlz
  have hl := Lib.hid ha.1
  have HA := Lib.hid ha
  have HZ := Lib.hid (fun x hx => Int.le_trans (totL_mem totTap_nonneg hx) hz : ∀ x ∈ xs, totTap x ≤ 1048576)
  clear ha hz
  go_enter Tryz.func77, Tryz.ntmps77
  go_wp2
  go_loopw [4] (fun i wr => ∃ (k : Nat) (fp : List Nat), k ≤ la ∧ i = .int .i64 k ∧ tapL.sl wr (some ⟨w.heap.size, 0, none⟩) la la (xs.take k ++ List.replicate (la - k) zTap) fp ∧ Fresh w.heap.size wr fp ∧ w.heap.size ∈ fp ∧ Chg [] w wr) (fun i _ => la - (intOf i).toNat)
  case atStart => exact ⟨0, [w.heap.size], by omega, rfl, by have h := tapL.sl_zrow w 69 la (by omega) (zTap_rep _); rw [show la * tapL.n = la * 2 from rfl] at h; simpa using h, fresh_new w _ _, by simp, (Chg.refl [] w).alloc _⟩
  case round =>
    obtain ⟨k, fp, hk, rfl, hs, hf, hw, hc⟩ := hrel
    by_cases hlt : k < la
    · obtain ⟨x, b, o, a1, l1, c1, fx, HX, rfl, hc0, hc1, HXS⟩ := tape_at (tapL.sl_ext HA.out hc) hlt
      have HS := Lib.hid (And.intro hs (And.intro hf (And.intro hw hc)))
      clear hs hf hw hc
      have hlw : w.heap.size < wr.heap.size := Lay.sl_lt _ HS.out.1 _ HS.out.2.2.1
      go_wp2_with fail
      refine (toTape_any x #[.bool x.wiped, .slice a1 l1 c1] fx _ HXS.out (HZ.out x (List.mem_of_getElem? HX.out.1))).mono ?_
      rintro e w1 ⟨cs, f1, rfl, hr1, hf1, hc1⟩
      obtain ⟨p1, m1, d1, _, ex, -⟩ := tapL_iff.1 hr1
      obtain rfl := Array.toList_inj.1 (ex.trans (List.toList_toArray).symm)
      clear ex
      have hfz : ∀ j, w1.frozen? ⟨w.heap.size, j, none⟩ = false := by obtain ⟨cur, E, h⟩ := hc1.loose _ (HS.out.2.1.2 _ HS.out.2.2.1).2; exact freeOf h
      obtain ⟨y, b', o', _, _, _, fy, _, e', hd0, hd1, _⟩ := tape_at (tapL.sl_ext HS.out.1 hc1) hlt
      obtain ⟨rfl, rfl⟩ : b' = w.heap.size ∧ o' = 0 := by simpa using e'.symm
      simp only [Nat.zero_add] at hd0 hd1
      have hlt1 := Nat.lt_of_lt_of_le hlw hc1.size
      obtain ⟨fp', hp, hm, hnd, hin, -⟩ := tapL.sl_putN (tapL.sl_ext HS.out.1 hc1) HS.out.2.1.1 hlt hr1 (fun y hy hy' => Nat.lt_irrefl _ (Nat.lt_of_lt_of_le (Lay.sl_lt _ HS.out.1 y hy') (hf1.2 y hy).1)) hf1.1
      rw [show 0 + k * tapL.n = k * 2 from Nat.zero_add _, copyE_next HX.out.1 hl.out] at hp
      have hfr : Fresh w.heap.size (w1.setCells w.heap.size (k * 2) [.bool x.wiped, .slice p1 m1 d1]) fp' := ⟨hnd, fun y hy => by
        rcases hm y hy with h | h
        · exact ⟨(HS.out.2.1.2 y h).1, loose_setCells _ _ _ (hc1.loose y (HS.out.2.1.2 y h).2)⟩
        · exact ⟨Nat.le_trans HS.out.2.2.2.size (hf1.2 y h).1, loose_setCells _ _ _ (hf1.2 y h).2⟩⟩
      have HN := Lib.hid (And.intro hp (And.intro hfr (And.intro hin (Chg.setCells (.inr (Nat.le_refl _)) [.bool x.wiped, .slice p1 m1 d1] (k * 2) (HS.out.2.2.2.trans0 hc1)))))
      clear hp hfr hin hm hnd hr1 hf1 hc1 HS e'
      go_wp2_with fail
      go_roundw
      case rel => exact ⟨k + 1, fp', by omega, by go_num, HN.out.1, HN.out.2.1, HN.out.2.2.1, HN.out.2.2.2⟩
      case measure => simp [intOf]; omega
    · have hkl : k = la := by omega
      subst hkl
      have hN : NewSl tapL xs w (.returned (.slice (some ⟨w.heap.size, 0, none⟩) k k)) wr := by
        rw [List.take_of_length_le (by have := hl.out; omega), Nat.sub_self, List.replicate_zero, List.append_nil] at hs
        rw [hl.out] at hs ⊢
        exact ⟨_, _, _, rfl, hs, hf, hc⟩
      have HN := Lib.hid hN
      clear hN hs hf hw hc
      go_wp2
      go_ret
      exact HN.out

end Go.Proofs.YtphmpimgbmedbaaGreat
