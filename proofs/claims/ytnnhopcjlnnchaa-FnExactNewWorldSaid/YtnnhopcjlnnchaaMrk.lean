
/- The marks that a law lays into a world, and what it finds of them again. -/
import Derived.Test.YtnnhopcjlnnchaaFst
import Derived.Test.YtnnhopcjlnnchaaHelp
namespace Go.Proofs.Ytnnhopcjlnnchaa
open Go.RowKit

theorem mdigits_zero : ∀ (n : Nat) (out : ByteArray), mdigits n 0 out = out
  | 0, _ => rfl
  | n + 1, out => by unfold mdigits; rw [if_pos rfl]
theorem mdigits_step {n k : Nat} {out : ByteArray} (h : 0 < k) : mdigits (n + 1) k out = mdigits n (k / 10) (ByteArray.mk #[(UInt8.ofNat (48 + k % 10))] ++ out) := by
  conv => lhs; unfold mdigits
  rw [if_neg (by omega)]
theorem mdigits_size : ∀ (n k : Nat) (out : ByteArray), (mdigits n k out).size ≤ out.size + n
  | 0, _, out => Nat.le_refl _
  | n + 1, k, out => by
    unfold mdigits
    split
    · omega
    · have := mdigits_size n (k / 10) (ByteArray.mk #[(UInt8.ofNat (48 + k % 10))] ++ out)
      rw [ByteArray.size_append] at this
      have e : (ByteArray.mk #[UInt8.ofNat (48 + k % 10)]).size = 1 := rfl
      omega
theorem mtext_max (k : Int) : (mtext k).size ≤ maxLen := by
  unfold mtext
  split
  · show 2 ≤ _; simp [maxLen]
  · rw [ByteArray.size_append]
    have h1 := mdigits_size 20 k.toNat (ByteArray.mk #[])
    have h2 : (ByteArray.mk #[] : ByteArray).size = 0 := rfl
    have h3 : (ByteArray.mk #[109] : ByteArray).size = 1 := rfl
    simp only [maxLen]; omega

set_option maxRecDepth 100000 in
set_option maxHeartbeats 1000000 in
theorem markText_any (k : Int) (hk : 0 ≤ k) (hk2 : k ≤ 9223372036854775807) (w : World) :
    Calls Try.prog 103 #[.int .i64 k] w fun e w' => e = .returned (.string (mtext k)) ∧ Chg [] w w' := by
  by_cases h0 : k ≤ 0
  · have HM := Lib.hid (show mtext k = ⟨#[109, 48]⟩ from if_pos h0)
    go_enter Try.func103, Try.ntmps103
    go_wp2_with fail
    go_ret
    exact ⟨by rw [HM.out]; rfl, Chg.refl _ _⟩
  · obtain ⟨m, rfl⟩ := Int.eq_ofNat_of_zero_le hk
    have HM := Lib.hid (show mtext (m : Int) = ⟨#[109]⟩ ++ mdigits 20 m ⟨#[]⟩ from if_neg h0)
    have hm0 : 0 < m := by omega
    have H20 := Lib.hid (show m < 10 ^ 20 by have h10 : (10 : Nat) ^ 20 = 100000000000000000000 := by decide
                                             omega)
    go_enter Try.func103, Try.ntmps103
    go_wp2_with fail
    go_loopw [0, 3] (fun v0 v3 wr => ∃ (n kk : Nat) (out : ByteArray) (Wr : World), Wr = wr ∧ v0 = .int .i64 kk ∧ v3 = .string out ∧ kk ≤ m ∧ RowKit.Hid (mdigits n kk out = mdigits 20 m ⟨#[]⟩ ∧ kk < 10 ^ n) ∧ out.size + n ≤ 20 ∧ Chg [] w wr) (fun v0 _ _ => (intOf v0).toNat)
    case atStart => exact ⟨20, m, ⟨#[]⟩, _, rfl, rfl, rfl, by omega, ⟨rfl, H20.out⟩, by show 0 + 20 ≤ 20; omega, Chg.refl _ _⟩
    case round =>
      obtain ⟨n, kk, out, wr, rfl, rfl, rfl, hkm, HN, hs, hc⟩ := hrel
      have HC := Lib.hid hc
      clear hc
      by_cases hz : kk = 0
      · subst hz
        have HO := Lib.hid (show out = mdigits 20 m ⟨#[]⟩ by rw [← HN.out.1, mdigits_zero])
        go_wp2_with fail
        go_ret
        exact ⟨by rw [HM.out, ← HO.out]; rfl, HC.out⟩
      · obtain ⟨n', rfl⟩ : ∃ n', n = n' + 1 := ⟨n - 1, by
          cases n with
          | zero => have := HN.out.2; simp at this; omega
          | succ n => rfl⟩
        have hr : ((kk : Int)).tmod 10 = ((kk % 10 : Nat) : Int) := by rw [Int.tmod_eq_emod_of_nonneg (by omega)]; omega
        have hq : ((kk : Int)).tdiv 10 = ((kk / 10 : Nat) : Int) := by rw [Int.tdiv_eq_ediv_of_nonneg (by omega)]; omega
        have hd : kk % 10 < 10 := Nat.mod_lt _ (by omega)
        have HST := Lib.hid (mdigits_step (n := n') (out := out) (show 0 < kk by omega))
        have HQ10 := Lib.hid (show kk / 10 < 10 ^ n' by
          have := HN.out.2
          rw [Nat.pow_succ] at this
          exact Nat.div_lt_of_lt_mul (by omega))
        have hkl : kk / 10 < kk := Nat.div_lt_self (by omega) (by omega)
        generalize kk / 10 = q at hq HST HQ10 hkl
        generalize kk % 10 = d at hr hd HST
        have hw8 : IntKind.u8.wrap (48 + (d : Int)) = 48 + (d : Int) := IntWalk.u8_in _ (by omega)
        obtain ⟨y, hy⟩ : ∃ y : UInt8, y = UInt8.ofNat (48 + d) := ⟨_, rfl⟩
        have hyn : 48 + (d : Int) = (y.toNat : Int) := by rw [hy, UInt8.toNat_ofNat']; omega
        rw [← hy] at HST
        have hcv : ∀ w : World, (convert 64 9 (.slice (some ⟨w.heap.size, 0, none⟩) 1 1)).run Try.prog (w.alloc (.cells #[.int .u8 (48 + (d : Int))] 5)) = .ok (.string ⟨#[y]⟩) (w.alloc (.cells #[.int .u8 (48 + (d : Int))] 5)) := fun w =>
          run_convert_bytes_back _ _ _ _ ⟨w.heap.size, 0, none⟩ 1 [y] Try.underlying64 Try.underlying5 Try.underlying9 (fun j hj => by
            have : j = 0 := by simpa using hj
            subst this
            rw [hyn]
            exact new_cell _ _ _ 0 _ rfl)
        have hsz : (⟨#[y]⟩ : ByteArray).size = 1 := rfl
        have hss : ((⟨#[y]⟩ : ByteArray) ++ out).size = 1 + out.size := by rw [ByteArray.size_append, hsz]
        have HSS := Lib.hid hss
        clear hy hyn hss
        go_wp2_with fail
        go_roundw
        case rel => exact ⟨n', q, ⟨#[y]⟩ ++ out, _, rfl, by go_num, rfl, by omega, ⟨by rw [← HST.out]; exact HN.out.1, HQ10.out⟩, by rw [HSS.out]; omega, HC.out.alloc _⟩
        case measure => simp [intOf]; omega


set_option maxRecDepth 100000 in
set_option maxHeartbeats 2000000 in
theorem markBlockS_any (a : Option Addr) (la ca : Nat) (xs : List Blk) (f : List Nat) (k : Int) (w : World) (ha : blkL.sl w a la ca xs f) (hf : Fresh 0 w f) (hk : 0 ≤ k) (hk2 : k + sumI cntBlk xs ≤ 4611686018427387904) :
    Calls Try.prog 102 #[.slice a la ca, .int .i64 k] w fun e w' => e = .returned (.int .i64 (k + sumI cntBlk xs)) ∧ blkL.sl w' a la ca (markL cntBlk mkBlk xs k) f ∧ Chg f w w' := by
  have hm := blkL.sl_max ha
  have hl := Lib.hid ha.1
  have HF := Lib.hid hf
  have HK := Lib.hid hk2
  go_enter Try.func102, Try.ntmps102
  go_wp2
  go_loopw [1, 5] (fun u v wr => ∃ (i : Nat) (z : Int), i ≤ la ∧ u = .int .i64 z ∧ RowKit.Hid (z = k + sumI cntBlk (xs.take i)) ∧ v = .int .i64 i ∧ blkL.sl wr a la ca (markL cntBlk mkBlk (xs.take i) k ++ xs.drop i) f ∧ Chg f w wr) (fun _ v _ => la - (intOf v).toNat)
  case atStart => exact ⟨0, k, by omega, rfl, by show k = k + 0; omega, rfl, by simpa [markL] using ha, Chg.refl _ _⟩
  case round =>
    clear ha hf hk2
    obtain ⟨i, z, hi, rfl, HZ, rfl, hs, hc⟩ := hrel
    by_cases hlt : i < la
    · obtain ⟨x0, b, off, _, _, _, _, HX, rfl, hc0, hc1, HXS⟩ := block_at hs hlt
      have hxi := markL_old HX.out.1
      have HXI := Lib.hid hxi
      have hz0 : 0 ≤ z := by rw [HZ.out]; have := sumI_nonneg cntBlk_nonneg (xs.take i); omega
      have hz1 : z + cntBlk x0 ≤ 4611686018427387904 := by
        have h1 := sumI_at cntBlk_nonneg hxi
        rw [HZ.out]; have := HK.out; omega
      have hcx : cntBlk x0 = 1 + totBs x0.bytes := rfl
      have hin : 0 ≤ totBs x0.bytes := totBs_nonneg _
      have HZO := Lib.hid (show i64ok z from ⟨by omega, by omega⟩)
      have hst := block_store0 hs HF.out.1 HX.out.1 z HZO.out
      have hcs : Chg f wr (wr.setCell ⟨b, off + i * 2, none⟩ (.int .i64 z)) := (Chg.refl f wr).setCell _ _ (.inl HX.out.2.1)
      have hfb : ∀ j, wr.frozen? ⟨b, j, none⟩ = false := by obtain ⟨cur, E, h⟩ := hc.loose b (HF.out.2 b HX.out.2.1).2; exact freeOf h
      have hlb : b < wr.heap.size := Lay.sl_lt _ hs _ HX.out.2.1
      obtain ⟨x2, b2, o2, cs, fx, hx2, e2, hb2, hcx2, hrep, hfx, hndx, hmod⟩ := blkL.sl_mod hst HF.out.1 hlt
      obtain ⟨rfl, rfl⟩ : b = b2 ∧ off = o2 := by simpa using e2
      have hlen : i < (markL cntBlk mkBlk (xs.take i) k ++ xs.drop i).length := (List.getElem?_eq_some_iff.1 HX.out.1).1
      rw [List.getElem?_set_self hlen] at hx2
      obtain rfl := Option.some.inj hx2
      obtain ⟨a1, l1, c1, f1, ex, -, h1, e1⟩ := blkL_iff.1 hrep
      replace h1 : byteL.sl _ a1 l1 c1 x0.bytes f1 := h1
      subst ex
      subst e1
      have hc1' : wr.cell? ⟨b, off + i * 2 + 1, none⟩ = some (.slice a1 l1 c1) := by
        have h5 := hcx2 1 (by decide)
        rw [show off + i * blkL.n + 1 = off + i * 2 + 1 from rfl, World.cell?_setCell_other _ _ _ _ (by intro h; have := congrArg Addr.off h; simp at this)] at h5
        exact h5
      have HI := Lib.hid (markB_any a1 l1 c1 x0.bytes fx (z + 1) _ h1 ⟨hndx, fun y hy => ⟨Nat.zero_le _, hcs.loose y (hc.loose y (HF.out.2 y (hfx y hy)).2)⟩⟩ (by omega) (by have := h1.1; unfold totBs at hcx; omega))
      have HL1 := Lib.hid h1.1
      have HMOD := Lib.hid (fun w' (h : byteL.sl w' a1 l1 c1 (markBL (z + 1) x0.bytes.length) fx) (hk : ∀ y ∈ f, y ∉ fx → w'.heap[y]? = (wr.setCell ⟨b, off + i * 2, none⟩ (.int .i64 z)).heap[y]?) => hmod w' (⟨z, markBL (z + 1) x0.bytes.length⟩ : Blk) (blkL_iff.2 ⟨a1, l1, c1, fx, rfl, HZO.out, h, rfl⟩) hk)
      have HSUB := Lib.hid hfx
      have HCS := Lib.hid (hc.trans hcs (fun x hx => .inl hx))
      have HLT := Lib.hid (fun y hy => Lay.sl_lt _ hst y hy : ∀ y ∈ f, y < _)
      have HZ2 := Lib.hid (show z + 1 + totBs x0.bytes = k + sumI cntBlk (xs.take (i + 1)) by rw [sumI_take hxi, HZ.out, hcx]; omega)
      have HMN := Lib.hid (markL_next (cnt := cntBlk) (mk := mkBlk) k hxi)
      have hz2 : z + 1 ≤ 4611686018427387904 := by omega
      clear hc1 hs hst hcs hmod hfx hndx hcx2 hrep h1 hx2 e2 hb2 hlen hxi hc hcx HXS HX HXI hz1 hin
      go_wp2_with fail
      refine HI.out.mono ?_
      rintro e w1 ⟨rfl, hs1, hc1⟩
      have hs2 := HMOD.out w1 (by rw [HL1.out] at hs1 ⊢; exact hs1) (fun y hy hny => hc1.block y (HLT.out y hy) hny)
      rw [List.set_set, show (⟨z, markBL (z + 1) x0.bytes.length⟩ : Blk) = mkBlk (k + sumI cntBlk (xs.take i)) x0 by rw [← HZ.out]; rfl, HMN.out] at hs2
      have HN := Lib.hid (And.intro hs2 (HCS.out.trans hc1 (fun y hy => .inl (HSUB.out y hy))))
      clear hs1 hs2 hc1
      go_wp2_with fail
      go_roundw
      case rel => exact ⟨i + 1, _, by omega, rfl, by show z + 1 + (l1 : Int) = _; rw [← HZ2.out, HL1.out]; rfl, by go_num, HN.out.1, HN.out.2⟩
      case measure => simp [intOf]; omega
    · have hil : i = la := by omega
      subst hil
      rw [List.take_of_length_le (by have := hl.out; omega), List.drop_of_length_le (by have := hl.out; omega), List.append_nil] at hs
      rw [List.take_of_length_le (by have := hl.out; omega)] at HZ
      have HN := Lib.hid (And.intro hs hc)
      clear hs hc
      go_wp2
      go_ret
      exact ⟨ret_int HZ.out, HN.out⟩


set_option maxRecDepth 100000 in
set_option maxHeartbeats 2000000 in
theorem markDriveS_any (a : Option Addr) (la ca : Nat) (xs : List Drv) (f : List Nat) (k : Int) (w : World) (ha : drvL.sl w a la ca xs f) (hf : Fresh 0 w f) (hk : 0 ≤ k) (hk2 : k + sumI cntDrv xs ≤ 4611686018427387904) :
    Calls Try.prog 79 #[.slice a la ca, .int .i64 k] w fun e w' => e = .returned (.int .i64 (k + sumI cntDrv xs)) ∧ drvL.sl w' a la ca (markL cntDrv mkDrv xs k) f ∧ Chg f w w' := by
  have hm := drvL.sl_max ha
  have hl := Lib.hid ha.1
  have HF := Lib.hid hf
  have HK := Lib.hid hk2
  go_enter Try.func79, Try.ntmps79
  go_wp2
  go_loopw [1, 5] (fun u v wr => ∃ (i : Nat) (z : Int), i ≤ la ∧ u = .int .i64 z ∧ RowKit.Hid (z = k + sumI cntDrv (xs.take i)) ∧ v = .int .i64 i ∧ drvL.sl wr a la ca (markL cntDrv mkDrv (xs.take i) k ++ xs.drop i) f ∧ Chg f w wr) (fun _ v _ => la - (intOf v).toNat)
  case atStart => exact ⟨0, k, by omega, rfl, by show k = k + 0; omega, rfl, by simpa [markL] using ha, Chg.refl _ _⟩
  case round =>
    clear ha hf hk2
    obtain ⟨i, z, hi, rfl, HZ, rfl, hs, hc⟩ := hrel
    by_cases hlt : i < la
    · obtain ⟨x0, b, off, _, _, _, _, HX, rfl, hc0, hc1, HXS⟩ := drive_at hs hlt
      have hxi := markL_old HX.out.1
      have HXI := Lib.hid hxi
      have hz0 : 0 ≤ z := by rw [HZ.out]; have := sumI_nonneg cntDrv_nonneg (xs.take i); omega
      have hz1 : z + cntDrv x0 ≤ 4611686018427387904 := by
        have h1 := sumI_at cntDrv_nonneg hxi
        rw [HZ.out]; have := HK.out; omega
      have hcx : cntDrv x0 = 1 + sumI cntBlk x0.blocks := rfl
      have hin : 0 ≤ sumI cntBlk x0.blocks := sumI_nonneg cntBlk_nonneg _
      have HZO := Lib.hid (show i64ok z from ⟨by omega, by omega⟩)
      have hst := drive_store0 hs HF.out.1 HX.out.1 (z % 3 == 0)
      have hcs : Chg f wr (wr.setCell ⟨b, off + i * 2, none⟩ (.bool (z % 3 == 0))) := (Chg.refl f wr).setCell _ _ (.inl HX.out.2.1)
      have hfb : ∀ j, wr.frozen? ⟨b, j, none⟩ = false := by obtain ⟨cur, E, h⟩ := hc.loose b (HF.out.2 b HX.out.2.1).2; exact freeOf h
      have hlb : b < wr.heap.size := Lay.sl_lt _ hs _ HX.out.2.1
      obtain ⟨x2, b2, o2, cs, fx, hx2, e2, hb2, hcx2, hrep, hfx, hndx, hmod⟩ := drvL.sl_mod hst HF.out.1 hlt
      obtain ⟨rfl, rfl⟩ : b = b2 ∧ off = o2 := by simpa using e2
      have hlen : i < (markL cntDrv mkDrv (xs.take i) k ++ xs.drop i).length := (List.getElem?_eq_some_iff.1 HX.out.1).1
      rw [List.getElem?_set_self hlen] at hx2
      obtain rfl := Option.some.inj hx2
      obtain ⟨a1, l1, c1, f1, ex, h1, e1⟩ := drvL_iff.1 hrep
      replace h1 : blkL.sl _ a1 l1 c1 x0.blocks f1 := h1
      subst ex
      subst e1
      have hc1' : wr.cell? ⟨b, off + i * 2 + 1, none⟩ = some (.slice a1 l1 c1) := by
        have h5 := hcx2 1 (by decide)
        rw [show off + i * drvL.n + 1 = off + i * 2 + 1 from rfl, World.cell?_setCell_other _ _ _ _ (by intro h; have := congrArg Addr.off h; simp at this)] at h5
        exact h5
      have HI := Lib.hid (markBlockS_any a1 l1 c1 x0.blocks fx (z + 1) _ h1 ⟨hndx, fun y hy => ⟨Nat.zero_le _, hcs.loose y (hc.loose y (HF.out.2 y (hfx y hy)).2)⟩⟩ (by omega) (by omega))
      have HL1 := Lib.hid h1.1
      have HMOD := Lib.hid (fun w' (h : blkL.sl w' a1 l1 c1 (markL cntBlk mkBlk x0.blocks (z + 1)) fx) (hk : ∀ y ∈ f, y ∉ fx → w'.heap[y]? = (wr.setCell ⟨b, off + i * 2, none⟩ (.bool (z % 3 == 0))).heap[y]?) => hmod w' (⟨(z % 3 == 0), markL cntBlk mkBlk x0.blocks (z + 1)⟩ : Drv) (drvL_iff.2 ⟨a1, l1, c1, fx, rfl, h, rfl⟩) hk)
      have HSUB := Lib.hid hfx
      have HCS := Lib.hid (hc.trans hcs (fun x hx => .inl hx))
      have HLT := Lib.hid (fun y hy => Lay.sl_lt _ hst y hy : ∀ y ∈ f, y < _)
      have HZ2 := Lib.hid (show z + 1 + sumI cntBlk x0.blocks = k + sumI cntDrv (xs.take (i + 1)) by rw [sumI_take hxi, HZ.out, hcx]; omega)
      have HMN := Lib.hid (markL_next (cnt := cntDrv) (mk := mkDrv) k hxi)
      have hz2 : z + 1 ≤ 4611686018427387904 := by omega
      clear hc1 hs hst hcs hmod hfx hndx hcx2 hrep h1 hx2 e2 hb2 hlen hxi hc hcx HXS HX HXI hz1 hin
      go_wp2_with fail
      refine HI.out.mono ?_
      rintro e w1 ⟨rfl, hs1, hc1⟩
      have hs2 := HMOD.out w1 hs1 (fun y hy hny => hc1.block y (HLT.out y hy) hny)
      rw [List.set_set, show (⟨(z % 3 == 0), markL cntBlk mkBlk x0.blocks (z + 1)⟩ : Drv) = mkDrv (k + sumI cntDrv (xs.take i)) x0 by rw [← HZ.out]; rfl, HMN.out] at hs2
      have HN := Lib.hid (And.intro hs2 (HCS.out.trans hc1 (fun y hy => .inl (HSUB.out y hy))))
      clear hs1 hs2 hc1
      go_wp2_with fail
      go_roundw
      case rel => exact ⟨i + 1, _, by omega, rfl, by exact HZ2.out, by go_num, HN.out.1, HN.out.2⟩
      case measure => simp [intOf]; omega
    · have hil : i = la := by omega
      subst hil
      rw [List.take_of_length_le (by have := hl.out; omega), List.drop_of_length_le (by have := hl.out; omega), List.append_nil] at hs
      rw [List.take_of_length_le (by have := hl.out; omega)] at HZ
      have HN := Lib.hid (And.intro hs hc)
      clear hs hc
      go_wp2
      go_ret
      exact ⟨ret_int HZ.out, HN.out⟩


set_option maxRecDepth 100000 in
set_option maxHeartbeats 1000000 in
theorem markDriveSS_any (a : Option Addr) (la ca : Nat) (xs : List (List Drv)) (f : List Nat) (k : Int) (w : World) (ha : drvL.slice.sl w a la ca xs f) (hf : Fresh 0 w f) (hk : 0 ≤ k) (hk2 : k + sumI cntDrvs xs ≤ 4611686018427387904) :
    Calls Try.prog 47 #[.slice a la ca, .int .i64 k] w fun e w' => e = .returned (.int .i64 (k + sumI cntDrvs xs)) ∧ drvL.slice.sl w' a la ca (markL cntDrvs mkDrvs xs k) f ∧ Chg f w w' := by
  have hm := drvL.slice.sl_max ha
  have hl := Lib.hid ha.1
  have HF := Lib.hid hf
  have HK := Lib.hid hk2
  go_enter Try.func47, Try.ntmps47
  go_wp2
  go_loopw [1, 5] (fun u v wr => ∃ (i : Nat) (z : Int), i ≤ la ∧ u = .int .i64 z ∧ RowKit.Hid (z = k + sumI cntDrvs (xs.take i)) ∧ v = .int .i64 i ∧ drvL.slice.sl wr a la ca (markL cntDrvs mkDrvs (xs.take i) k ++ xs.drop i) f ∧ Chg f w wr) (fun _ v _ => la - (intOf v).toNat)
  case atStart => exact ⟨0, k, by omega, rfl, by show k = k + 0; omega, rfl, by simpa [markL] using ha, Chg.refl _ _⟩
  case round =>
    clear ha hf hk2
    obtain ⟨i, z, hi, rfl, HZ, rfl, hs, hc⟩ := hrel
    by_cases hlt : i < la
    · obtain ⟨x, b, o, cs, fx, hx, rfl, hb, hcx, ⟨A, lx, C, rfl, hxs⟩, hfx, hndx, hmod⟩ := drvL.slice.sl_mod hs HF.out.1 hlt
      have hcx' := hcx 0 drvL.slice.pos
      rw [show o + i * drvL.slice.n + 0 = o + i by simp [Lay.slice]] at hcx'
      have hxi := markL_old hx
      have HX := Lib.hid hxi
      have hz0 : 0 ≤ z := by rw [HZ.out]; have := sumI_nonneg cntDrvs_nonneg (xs.take i); omega
      have hz1 : z + cntDrvs x ≤ 4611686018427387904 := by
        have h1 := sumI_at cntDrvs_nonneg hxi
        rw [HZ.out]; have := HK.out; omega
      have HM := Lib.hid (fun w' (h : drvL.sl w' A lx C (mkDrvs z x) fx) (hk : ∀ y ∈ f, y ∉ fx → w'.heap[y]? = wr.heap[y]?) => hmod w' (mkDrvs z x) ⟨A, lx, C, rfl, h⟩ hk)
      have HXS := Lib.hid (markDriveS_any A lx C x fx z wr hxs ⟨hndx, fun y hy => ⟨Nat.zero_le _, hc.loose y (HF.out.2 y (hfx y hy)).2⟩⟩ hz0 hz1)
      have HSub := Lib.hid hfx
      have HC := Lib.hid hc
      have HLT := Lib.hid (drvL.slice.sl_lt hs)
      have HZ2 := Lib.hid (show z + sumI cntDrv x = k + sumI cntDrvs (xs.take (i + 1)) by rw [sumI_take hxi, HZ.out]; show _ + sumI cntDrv x = k + (_ + sumI cntDrv x); omega)
      clear hcx hxs hmod hfx hndx hs hx hxi hc
      go_wp2_with fail
      refine HXS.out.mono ?_
      rintro e w1 ⟨rfl, hs1, hc1⟩
      have hs2 := HM.out w1 hs1 (fun y hy hny => hc1.block y (HLT.out y hy) hny)
      rw [HZ.out, markL_next k HX.out] at hs2
      have HN := Lib.hid (And.intro hs2 (HC.out.trans hc1 (fun y hy => .inl (HSub.out y hy))))
      clear hs1 hs2 hc1
      go_wp2_with fail
      go_roundw
      case rel => exact ⟨i + 1, _, by omega, rfl, HZ2.out, by go_num, HN.out.1, HN.out.2⟩
      case measure => simp [intOf]; omega
    · have hil : i = la := by omega
      subst hil
      rw [List.take_of_length_le (by have := hl.out; omega), List.drop_of_length_le (by have := hl.out; omega), List.append_nil] at hs
      rw [List.take_of_length_le (by have := hl.out; omega)] at HZ
      have HN := Lib.hid (And.intro hs hc)
      clear hs hc
      go_wp2
      go_ret
      exact ⟨ret_int HZ.out, HN.out⟩


set_option maxRecDepth 100000 in
set_option maxHeartbeats 4000000 in
theorem markRecS_any (a : Option Addr) (la ca : Nat) (xs : List Rec) (f : List Nat) (k : Int) (w : World) (ha : recL.sl w a la ca xs f) (hf : Fresh 0 w f) (hk : 0 ≤ k) (hk2 : k + sumI cntRec xs ≤ 4611686018427387904) :
    Calls Try.prog 80 #[.slice a la ca, .int .i64 k] w fun e w' => e = .returned (.int .i64 (k + sumI cntRec xs)) ∧ recL.sl w' a la ca (markL cntRec mkRec xs k) f ∧ Chg f w w' := by
  have hm := recL.sl_max ha
  have hl := Lib.hid ha.1
  have HF := Lib.hid hf
  have HK := Lib.hid hk2
  go_enter Try.func80, Try.ntmps80
  go_wp2
  go_loopw [1, 5] (fun u v wr => ∃ (i : Nat) (z : Int), i ≤ la ∧ u = .int .i64 z ∧ RowKit.Hid (z = k + sumI cntRec (xs.take i)) ∧ v = .int .i64 i ∧ recL.sl wr a la ca (markL cntRec mkRec (xs.take i) k ++ xs.drop i) f ∧ Chg f w wr) (fun _ v _ => la - (intOf v).toNat)
  case atStart => exact ⟨0, k, by omega, rfl, by show k = k + 0; omega, rfl, by simpa [markL] using ha, Chg.refl _ _⟩
  case round =>
    clear ha hf hk2
    obtain ⟨i, z, hi, rfl, HZ, rfl, hs, hc⟩ := hrel
    by_cases hlt : i < la
    · obtain ⟨x0, b, off, _, _, _, _, _, _, _, _, _, _, HX, rfl, hc0, hc1, -, -, -, -, -, -, -, -⟩ := rec_at hs hlt
      have hxi := markL_old HX.out.1
      have hz0 : 0 ≤ z := by rw [HZ.out]; have := sumI_nonneg cntRec_nonneg (xs.take i); omega
      have hz1 : z + cntRec x0 ≤ 4611686018427387904 := by
        have h1 := sumI_at cntRec_nonneg hxi
        rw [HZ.out]; have := HK.out; omega
      have hcx : cntRec x0 = 6 + totIs x0.rows + totBs x0.data + totBs x0.delta := rfl
      have hi1 := totIs_nonneg x0.rows
      have hi2 := totBs_nonneg x0.data
      have hi3 := totBs_nonneg x0.delta
      have hlen : i < (markL cntRec mkRec (xs.take i) k ++ xs.drop i).length := (List.getElem?_eq_some_iff.1 HX.out.1).1
      have HZ2 := Lib.hid (show z + 6 + totIs x0.rows + totBs x0.data + totBs x0.delta = k + sumI cntRec (xs.take (i + 1)) by rw [sumI_take hxi, HZ.out, hcx]; omega)
      have HMN := Lib.hid (markL_next (cnt := cntRec) (mk := mkRec) k hxi)
      have HZO := Lib.hid (fun (d : Int) (h1 : 0 ≤ d) (h2 : d ≤ 6) => (⟨by omega, by omega⟩ : i64ok (z + d)))
      have hst := rec_store1 (rec_store0 hs HF.out.1 HX.out.1 z ⟨by omega, by omega⟩) HF.out.1 (List.getElem?_set_self hlen) (z + 1) ⟨by omega, by omega⟩
      rw [List.set_set] at hst
      have hfb : ∀ j, wr.frozen? ⟨b, j, none⟩ = false := (hc.loose b (HF.out.2 b HX.out.2.1).2).free
      have hlb : b < wr.heap.size := Lay.sl_lt _ hs _ HX.out.2.1
      have HB := Lib.hid HX.out.2.1
      have HS1 := Lib.hid hst
      have HC1 := Lib.hid (hc.trans (((Chg.refl f wr).setCell ⟨b, off + i * 9, none⟩ (.int .i64 z) (.inl HX.out.2.1)).setCell ⟨b, off + i * 9 + 1, none⟩ (.int .i64 (z + 1)) (.inl HX.out.2.1)) (fun x hx => .inl hx))
      have hz2 : z + 6 ≤ 4611686018427387904 := by omega
      have HBD := Lib.hid (And.intro hz1 hcx)
      have HN3 := Lib.hid (And.intro hi1 (And.intro hi2 hi3))
      have HLEN := Lib.hid hlen
      clear hs hst hc HX hz1 hcx hi1 hi2 hi3 hlen hxi
      go_wp2_with fail
      refine (markText_any (z + 1 + 1) (by omega) (by omega) _).mono ?_
      rintro e w3 ⟨rfl, hc3⟩
      have hs3 := recL.sl_ext HS1.out hc3
      obtain ⟨y, b', off', _, _, _, _, _, _, _, _, _, _, HY, e', -, -, hd2, hd3, hd4, hd5, -, -, -, -⟩ := rec_at hs3 hlt
      obtain ⟨rfl, rfl⟩ : b = b' ∧ off = off' := by simpa using e'
      have hy : some y = some { x0 with kind := z, seq := z + 1 } := HY.out.1.symm.trans (List.getElem?_set_self HLEN.out)
      obtain rfl := Option.some.inj hy
      have hlb3 : b < w3.heap.size := Lay.sl_lt _ hs3 _ HB.out
      have hlo3 := hc3.loose b (HC1.out.loose b (HF.out.2 b HB.out).2)
      have hfb3 := hlo3.free
      have g2 := rec_store2 hs3 HF.out.1 HY.out.1 (mtext (z + 1 + 1)) (mtext_max _)
      have hlen2 : i < ((markL cntRec mkRec (xs.take i) k ++ xs.drop i).set i { x0 with kind := z, seq := z + 1 }).length := by rw [List.length_set]; exact HLEN.out
      have g3 := rec_store3 g2 HF.out.1 (List.getElem?_set_self hlen2) (z + 1 + 1 + 1) ⟨by omega, by omega⟩
      rw [List.set_set] at g3
      have g4 := rec_store4 g3 HF.out.1 (List.getElem?_set_self hlen2) (z + 1 + 1 + 1 + 1) ⟨by omega, by omega⟩
      rw [List.set_set] at g4
      have g5 := rec_store5 g4 HF.out.1 (List.getElem?_set_self hlen2) (z + 1 + 1 + 1 + 1 + 1) ⟨by omega, by omega⟩
      rw [List.set_set, List.set_set] at g5
      obtain ⟨x8, cs, fx, hx8, -, hcx, hrep, hfx, hndx, hbx, hmod⟩ := recL.sl_modb g5 HF.out.1 hlt
      rw [List.getElem?_set_self HLEN.out] at hx8
      obtain rfl := Option.some.inj hx8
      obtain ⟨a6, l6, c6, f6, a7, l7, c7, f7, a8, l8, c8, f8, ex, o0, o1, o2, o3, o4, o5, h6, h7, h8, e1⟩ := recL_iff.1 hrep
      subst ex e1
      replace h6 : intL.sl _ a6 l6 c6 x0.rows f6 := h6
      replace h7 : byteL.sl _ a7 l7 c7 x0.data f7 := h7
      replace h8 : byteL.sl _ a8 l8 c8 x0.delta f8 := h8
      obtain ⟨w7, hw7⟩ : ∃ w7, w7 = (((w3.setCell ⟨b, off + i * 9 + 2, none⟩ (.string (mtext (z + 1 + 1)))).setCell ⟨b, off + i * 9 + 3, none⟩ (.int .i64 (z + 1 + 1 + 1))).setCell ⟨b, off + i * 9 + 4, none⟩ (.int .i64 (z + 1 + 1 + 1 + 1))).setCell ⟨b, off + i * 9 + 5, none⟩ (.int .i64 (z + 1 + 1 + 1 + 1 + 1)) := ⟨_, rfl⟩
      rw [← hw7] at h6 h7 h8 hcx hmod g5
      have hc7 : Chg f w3 w7 := by rw [hw7]; exact ((((Chg.refl f w3).setCell _ _ (.inl HB.out)).setCell _ _ (.inl HB.out)).setCell _ _ (.inl HB.out)).setCell _ _ (.inl HB.out)
      have k6 : w7.cell? ⟨b, off + i * 9 + 6, none⟩ = some (.slice a6 l6 c6) := hcx 6 (by decide)
      have k7 : w7.cell? ⟨b, off + i * 9 + 7, none⟩ = some (.slice a7 l7 c7) := hcx 7 (by decide)
      have k8 : w7.cell? ⟨b, off + i * 9 + 8, none⟩ = some (.slice a8 l8 c8) := hcx 8 (by decide)
      have oth : ∀ j, 6 ≤ j → w7.cell? ⟨b, off + i * 9 + j, none⟩ = w3.cell? ⟨b, off + i * 9 + j, none⟩ := by
        intro j hj
        have ne : ∀ d, d < 6 → (⟨b, off + i * 9 + j, none⟩ : Addr) ≠ ⟨b, off + i * 9 + d, none⟩ := by intro d hd h; have := congrArg Addr.off h; simp at this; omega
        rw [hw7, World.cell?_setCell_other _ _ _ _ (ne 5 (by omega)).symm, World.cell?_setCell_other _ _ _ _ (ne 4 (by omega)).symm, World.cell?_setCell_other _ _ _ _ (ne 3 (by omega)).symm, World.cell?_setCell_other _ _ _ _ (ne 2 (by omega)).symm]
      have m6 := (oth 6 (by omega)).symm.trans k6
      have ndA := List.nodup_append.1 hndx
      have ndB := List.nodup_append.1 ndA.2.1
      have d67 : ∀ y ∈ f7, y ∉ f6 := fun y hy hy6 => ndA.2.2 y hy6 y (by simp [hy]) rfl
      have d68 : ∀ y ∈ f8, y ∉ f6 := fun y hy hy6 => ndA.2.2 y hy6 y (by simp [hy]) rfl
      have d78 : ∀ y ∈ f8, y ∉ f7 := fun y hy hy7 => ndB.2.2 y hy7 y hy rfl
      have hlo7 : ∀ y ∈ f, Loose w7 y := fun y hy => hc7.loose y (hc3.loose y (HC1.out.loose y (HF.out.2 y hy).2))
      have hL6 := h6.1; have hL7 := h7.1; have hL8 := h8.1
      have t6 : totIs x0.rows = (l6 : Int) := by unfold totIs; rw [hL6]
      have t7 : totBs x0.data = (l7 : Int) := by unfold totBs; rw [hL7]
      have t8 : totBs x0.delta = (l8 : Int) := by unfold totBs; rw [hL8]
      have hbd : z + 6 + l6 + l7 + l8 ≤ 4611686018427387904 := by have := HBD.out.1; have := HBD.out.2; omega
      have HI6 := Lib.hid (markI_any a6 l6 c6 x0.rows f6 (z + 1 + 1 + 1 + 1 + 1 + 1) w7 h6 ⟨ndA.1, fun y hy => ⟨Nat.zero_le _, hlo7 y (hfx y (by simp [hy]))⟩⟩ (by omega) (by omega))
      have H7 := Lib.hid h7; have H8 := Lib.hid h8
      have HLO := Lib.hid hlo7
      have HFX := Lib.hid hfx
      have HBX := Lib.hid hbx
      have HD := Lib.hid (And.intro d67 (And.intro d68 d78))
      have HND := Lib.hid (And.intro ndA.1 (And.intro ndB.1 ndB.2.1))
      have HK78 := Lib.hid (And.intro k7 k8)
      have HC7 := Lib.hid ((HC1.out.trans0 hc3).trans hc7 (fun x hx => .inl hx))
      have HLT := Lib.hid (fun y hy => Lay.sl_lt _ g5 y hy : ∀ y ∈ f, y < w7.heap.size)
      have HMOD := Lib.hid (fun w' (h6 : intL.sl w' a6 l6 c6 (markIL (z + 6) x0.rows.length) f6) (h7 : byteL.sl w' a7 l7 c7 (markBL (z + 6 + totIs x0.rows) x0.data.length) f7) (h8 : byteL.sl w' a8 l8 c8 (markBL (z + 6 + totIs x0.rows + totBs x0.data) x0.delta.length) f8) (hk : ∀ y ∈ f, y ∉ f6 ++ (f7 ++ f8) → w'.heap[y]? = w7.heap[y]?) =>
        hmod w' (mkRec z x0) (recL_iff.2 ⟨a6, l6, c6, f6, a7, l7, c7, f7, a8, l8, c8, f8, (by unfold mkRec; simp only [show z + 1 + 1 = z + 2 by omega, show z + 2 + 1 = z + 3 by omega, show z + 3 + 1 = z + 4 by omega, show z + 4 + 1 = z + 5 by omega]), o0, o1, mtext_max _, HZO.out 3 (by omega) (by omega), HZO.out 4 (by omega) (by omega), HZO.out 5 (by omega) (by omega), h6, h7, h8, rfl⟩) hk)
      have HT := Lib.hid (And.intro t6 (And.intro t7 t8))
      have HLL := Lib.hid (And.intro hL6 (And.intro hL7 hL8))
      have HW7 := Lib.hid hw7
      have hlb7 := HLT.out b HB.out
      rw [hw7] at HI6
      clear hw7 hs3 e' HY hy g2 g3 g4 g5 hcx hrep hfx hndx hbx hmod o0 o1 o2 o3 o4 o5 h6 h7 h8 k6 k7 k8 oth ndA ndB d67 d68 d78 hlo7 hL6 hL7 hL8 t6 t7 t8 hlen2 hc3 hc7 hlo3 hc0 hc1 hfb hlb
      go_wp2_with fail
      refine HI6.out.mono ?_
      rintro e w8 ⟨rfl, hs6, hc8⟩
      rw [← HW7.out] at hc8
      have e8 : ∀ j, w8.cell? ⟨b, off + i * 9 + j, none⟩ = w7.cell? ⟨b, off + i * 9 + j, none⟩ := fun j => cell_same (hc8.block b hlb7 (fun h => HBX.out (by simp [h])))
      have m7 := (e8 7).trans HK78.out.1
      have H7' := Lib.hid (byteL.sl_chg H7.out hc8 (fun y hy => HD.out.1 y hy))
      have H8' := Lib.hid (byteL.sl_chg H8.out hc8 (fun y hy => HD.out.2.1 y hy))
      have m8' := Lib.hid ((e8 8).trans HK78.out.2)
      have hlb8 : b < w8.heap.size := Nat.lt_of_lt_of_le hlb7 hc8.size
      have HI7 := Lib.hid (markB_any a7 l7 c7 x0.data f7 (z + 1 + 1 + 1 + 1 + 1 + 1 + l6) w8 H7'.out ⟨HND.out.2.1, fun y hy => ⟨Nat.zero_le _, hc8.loose y (HLO.out y (HFX.out y (by simp [hy])))⟩⟩ (by omega) (by omega))
      have HS6 := Lib.hid hs6
      have HC8 := Lib.hid hc8
      clear hs6 hc8 e8 m6 hd2 hd3 hd4 hd5 hfb3
      go_wp2_with fail
      refine HI7.out.mono ?_
      rintro e w9 ⟨rfl, hs7, hc9⟩
      have e9 : ∀ j, w9.cell? ⟨b, off + i * 9 + j, none⟩ = w8.cell? ⟨b, off + i * 9 + j, none⟩ := fun j => cell_same (hc9.block b hlb8 (fun h => HBX.out (by simp [h])))
      have m8 := (e9 8).trans m8'.out
      have H8'' := Lib.hid (byteL.sl_chg H8'.out hc9 (fun y hy => HD.out.2.2 y hy))
      have H6' := Lib.hid (intL.sl_chg HS6.out hc9 (fun y hy hy7 => HD.out.1 y hy7 hy))
      have hlb9 : b < w9.heap.size := Nat.lt_of_lt_of_le hlb8 hc9.size
      have HI8 := Lib.hid (markB_any a8 l8 c8 x0.delta f8 (z + 1 + 1 + 1 + 1 + 1 + 1 + l6 + l7) w9 H8''.out ⟨HND.out.2.2, fun y hy => ⟨Nat.zero_le _, hc9.loose y (HC8.out.loose y (HLO.out y (HFX.out y (by simp [hy]))))⟩⟩ (by omega) (by omega))
      have HS7 := Lib.hid hs7
      have HC9 := Lib.hid hc9
      clear hs7 hc9 e9 m7
      go_wp2_with fail
      refine HI8.out.mono ?_
      rintro e w10 ⟨rfl, hs8, hc10⟩
      have r6 := intL.sl_chg H6'.out hc10 (fun y hy hy8 => HD.out.2.1 y hy8 hy)
      have r7 := byteL.sl_chg HS7.out hc10 (fun y hy hy8 => HD.out.2.2 y hy8 hy)
      have hfin := HMOD.out w10 (by rw [← HLL.out.1, show z + 6 = z + 1 + 1 + 1 + 1 + 1 + 1 by omega]; exact r6) (by rw [← HLL.out.2.1, HT.out.1, show z + 6 + (l6 : Int) = z + 1 + 1 + 1 + 1 + 1 + 1 + l6 by omega]; exact r7)
        (by rw [← HLL.out.2.2, HT.out.1, HT.out.2.1, show z + 6 + (l6 : Int) + l7 = z + 1 + 1 + 1 + 1 + 1 + 1 + l6 + l7 by omega]; exact hs8) (fun y hy hny => by
          have hlt7 := HLT.out y hy
          rw [hc10.block y (Nat.lt_of_lt_of_le hlt7 (Nat.le_trans HC8.out.size HC9.out.size)) (fun h => hny (by simp [h])), HC9.out.block y (Nat.lt_of_lt_of_le hlt7 HC8.out.size) (fun h => hny (by simp [h])), HC8.out.block y hlt7 (fun h => hny (by simp [h]))])
      rw [List.set_set, show mkRec z x0 = mkRec (k + sumI cntRec (xs.take i)) x0 by rw [← HZ.out], HMN.out] at hfin
      have hch := (((HC7.out.trans HC8.out (fun y hy => .inl (HFX.out y (by simp [hy])))).trans HC9.out (fun y hy => .inl (HFX.out y (by simp [hy])))).trans hc10 (fun y hy => .inl (HFX.out y (by simp [hy]))))
      have HN := Lib.hid (And.intro hfin hch)
      have HZ3 := Lib.hid (show z + 1 + 1 + 1 + 1 + 1 + 1 + (l6 : Int) + l7 + l8 = k + sumI cntRec (xs.take (i + 1)) by rw [← HZ2.out, HT.out.1, HT.out.2.1, HT.out.2.2]; omega)
      clear hs8 hc10 r6 r7 hfin hch m8
      go_wp2_with fail
      go_roundw
      case rel => exact ⟨i + 1, _, by omega, rfl, HZ3, by go_num, HN.out.1, HN.out.2⟩
      case measure => simp [intOf]; omega
    · have hil : i = la := by omega
      subst hil
      rw [List.take_of_length_le (by have := hl.out; omega), List.drop_of_length_le (by have := hl.out; omega), List.append_nil] at hs
      rw [List.take_of_length_le (by have := hl.out; omega)] at HZ
      have HN := Lib.hid (And.intro hs hc)
      clear hs hc
      go_wp2
      go_ret
      exact ⟨ret_int HZ.out, HN.out⟩


set_option maxRecDepth 100000 in
set_option maxHeartbeats 2000000 in
theorem markTapeS_any (a : Option Addr) (la ca : Nat) (xs : List Tap) (f : List Nat) (k : Int) (w : World) (ha : tapL.sl w a la ca xs f) (hf : Fresh 0 w f) (hk : 0 ≤ k) (hk2 : k + sumI cntTap xs ≤ 4611686018427387904) :
    Calls Try.prog 49 #[.slice a la ca, .int .i64 k] w fun e w' => e = .returned (.int .i64 (k + sumI cntTap xs)) ∧ tapL.sl w' a la ca (markL cntTap mkTap xs k) f ∧ Chg f w w' := by
  have hm := tapL.sl_max ha
  have hl := Lib.hid ha.1
  have HF := Lib.hid hf
  have HK := Lib.hid hk2
  go_enter Try.func49, Try.ntmps49
  go_wp2
  go_loopw [1, 5] (fun u v wr => ∃ (i : Nat) (z : Int), i ≤ la ∧ u = .int .i64 z ∧ RowKit.Hid (z = k + sumI cntTap (xs.take i)) ∧ v = .int .i64 i ∧ tapL.sl wr a la ca (markL cntTap mkTap (xs.take i) k ++ xs.drop i) f ∧ Chg f w wr) (fun _ v _ => la - (intOf v).toNat)
  case atStart => exact ⟨0, k, by omega, rfl, by show k = k + 0; omega, rfl, by simpa [markL] using ha, Chg.refl _ _⟩
  case round =>
    clear ha hf hk2
    obtain ⟨i, z, hi, rfl, HZ, rfl, hs, hc⟩ := hrel
    by_cases hlt : i < la
    · obtain ⟨x0, b, off, _, _, _, _, HX, rfl, hc0, hc1, HXS⟩ := tape_at hs hlt
      have hxi := markL_old HX.out.1
      have HXI := Lib.hid hxi
      have hz0 : 0 ≤ z := by rw [HZ.out]; have := sumI_nonneg cntTap_nonneg (xs.take i); omega
      have hz1 : z + cntTap x0 ≤ 4611686018427387904 := by
        have h1 := sumI_at cntTap_nonneg hxi
        rw [HZ.out]; have := HK.out; omega
      have hcx : cntTap x0 = 1 + sumI cntRec x0.recs := rfl
      have hin : 0 ≤ sumI cntRec x0.recs := sumI_nonneg cntRec_nonneg _
      have HZO := Lib.hid (show i64ok z from ⟨by omega, by omega⟩)
      have hst := tape_store0 hs HF.out.1 HX.out.1 (z % 3 == 0)
      have hcs : Chg f wr (wr.setCell ⟨b, off + i * 2, none⟩ (.bool (z % 3 == 0))) := (Chg.refl f wr).setCell _ _ (.inl HX.out.2.1)
      have hfb : ∀ j, wr.frozen? ⟨b, j, none⟩ = false := by obtain ⟨cur, E, h⟩ := hc.loose b (HF.out.2 b HX.out.2.1).2; exact freeOf h
      have hlb : b < wr.heap.size := Lay.sl_lt _ hs _ HX.out.2.1
      obtain ⟨x2, b2, o2, cs, fx, hx2, e2, hb2, hcx2, hrep, hfx, hndx, hmod⟩ := tapL.sl_mod hst HF.out.1 hlt
      obtain ⟨rfl, rfl⟩ : b = b2 ∧ off = o2 := by simpa using e2
      have hlen : i < (markL cntTap mkTap (xs.take i) k ++ xs.drop i).length := (List.getElem?_eq_some_iff.1 HX.out.1).1
      rw [List.getElem?_set_self hlen] at hx2
      obtain rfl := Option.some.inj hx2
      obtain ⟨a1, l1, c1, f1, ex, h1, e1⟩ := tapL_iff.1 hrep
      replace h1 : recL.sl _ a1 l1 c1 x0.recs f1 := h1
      subst ex
      subst e1
      have hc1' : wr.cell? ⟨b, off + i * 2 + 1, none⟩ = some (.slice a1 l1 c1) := by
        have h5 := hcx2 1 (by decide)
        rw [show off + i * tapL.n + 1 = off + i * 2 + 1 from rfl, World.cell?_setCell_other _ _ _ _ (by intro h; have := congrArg Addr.off h; simp at this)] at h5
        exact h5
      have HI := Lib.hid (markRecS_any a1 l1 c1 x0.recs fx (z + 1) _ h1 ⟨hndx, fun y hy => ⟨Nat.zero_le _, hcs.loose y (hc.loose y (HF.out.2 y (hfx y hy)).2)⟩⟩ (by omega) (by omega))
      have HL1 := Lib.hid h1.1
      have HMOD := Lib.hid (fun w' (h : recL.sl w' a1 l1 c1 (markL cntRec mkRec x0.recs (z + 1)) fx) (hk : ∀ y ∈ f, y ∉ fx → w'.heap[y]? = (wr.setCell ⟨b, off + i * 2, none⟩ (.bool (z % 3 == 0))).heap[y]?) => hmod w' (⟨(z % 3 == 0), markL cntRec mkRec x0.recs (z + 1)⟩ : Tap) (tapL_iff.2 ⟨a1, l1, c1, fx, rfl, h, rfl⟩) hk)
      have HSUB := Lib.hid hfx
      have HCS := Lib.hid (hc.trans hcs (fun x hx => .inl hx))
      have HLT := Lib.hid (fun y hy => Lay.sl_lt _ hst y hy : ∀ y ∈ f, y < _)
      have HZ2 := Lib.hid (show z + 1 + sumI cntRec x0.recs = k + sumI cntTap (xs.take (i + 1)) by rw [sumI_take hxi, HZ.out, hcx]; omega)
      have HMN := Lib.hid (markL_next (cnt := cntTap) (mk := mkTap) k hxi)
      have hz2 : z + 1 ≤ 4611686018427387904 := by omega
      clear hc1 hs hst hcs hmod hfx hndx hcx2 hrep h1 hx2 e2 hb2 hlen hxi hc hcx HXS HX HXI hz1 hin
      go_wp2_with fail
      refine HI.out.mono ?_
      rintro e w1 ⟨rfl, hs1, hc1⟩
      have hs2 := HMOD.out w1 hs1 (fun y hy hny => hc1.block y (HLT.out y hy) hny)
      rw [List.set_set, show (⟨(z % 3 == 0), markL cntRec mkRec x0.recs (z + 1)⟩ : Tap) = mkTap (k + sumI cntTap (xs.take i)) x0 by rw [← HZ.out]; rfl, HMN.out] at hs2
      have HN := Lib.hid (And.intro hs2 (HCS.out.trans hc1 (fun y hy => .inl (HSUB.out y hy))))
      clear hs1 hs2 hc1
      go_wp2_with fail
      go_roundw
      case rel => exact ⟨i + 1, _, by omega, rfl, by exact HZ2.out, by go_num, HN.out.1, HN.out.2⟩
      case measure => simp [intOf]; omega
    · have hil : i = la := by omega
      subst hil
      rw [List.take_of_length_le (by have := hl.out; omega), List.drop_of_length_le (by have := hl.out; omega), List.append_nil] at hs
      rw [List.take_of_length_le (by have := hl.out; omega)] at HZ
      have HN := Lib.hid (And.intro hs hc)
      clear hs hc
      go_wp2
      go_ret
      exact ⟨ret_int HZ.out, HN.out⟩

end Go.Proofs.Ytnnhopcjlnnchaa
