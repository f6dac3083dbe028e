/- Several texts in one. -/
import Derived.Test.YtnnhopcjlnnchaaGreatMb
import Derived.Test.YtnnhopcjlnnchaaGreatWra
import Derived.Test.YtnnhopcjlnnchaaGreatPut
import Derived.Test.YtnnhopcjlnnchaaGreatMc
/- An element of a slice that changes, also with other memory than before; footprints exchanged. No function of the program in sight. -/
namespace Go.Proofs.YtnnhopcjlnnchaaGreat
open Go.RowKit

theorem Lay.all_modN {α : Type} (L : Lay α) {w : World} {x : α} : ∀ {xs : List α} {i : Nat} {cs : List Value} {fps : List Nat}, L.all w cs xs fps → xs[i]? = some x →
    ∃ c f f1 f2, fps = f1 ++ f ++ f2 ∧ (∀ j, j < L.n → cs[i * L.n + j]? = c[j]?) ∧ L.rep w c x f ∧
      ∀ w' x' f', L.rep w' c x' f' → (∀ y, (y ∈ f1 ∨ y ∈ f2) → w'.heap[y]? = w.heap[y]?) → L.all w' cs (xs.set i x') (f1 ++ f' ++ f2) := by
  intro xs
  induction xs with
  | nil => intro i cs fps _ hx; simp at hx
  | cons y ys ih =>
    intro i cs fps h hx
    obtain ⟨c1, c2, f1, f2, rfl, rfl, h1, h2⟩ := h
    have hl := L.len h1
    cases i with
    | zero =>
      simp at hx
      subst hx
      refine ⟨c1, f1, [], f2, by simp, fun j hj => by rw [Nat.zero_mul, Nat.zero_add, List.getElem?_append_left (by omega)], h1, fun w' x' f' hr hk => ⟨c1, c2, f', f2, rfl, by simp, hr, L.all_keep h2 (fun y hy => hk y (.inr hy))⟩⟩
    | succ i =>
      obtain ⟨c, f, g1, g2, rfl, hc, hr, hm⟩ := ih h2 (by simpa using hx)
      refine ⟨c, f, f1 ++ g1, g2, by simp, fun j hj => ?_, hr, fun w' x' f' hr' hk => ⟨c1, c2, f1, _, rfl, by simp, L.keep h1 (fun y hy => hk y (.inl (by simp [hy]))), hm w' x' f' hr' (fun y hy => hk y (by rcases hy with hy | hy; exact .inl (by simp [hy]); exact .inr hy))⟩⟩
      have e : (i + 1) * L.n + j = c1.length + (i * L.n + j) := by rw [Nat.add_mul, Nat.one_mul, hl]; omega
      rw [e, List.getElem?_append_right (by omega), Nat.add_sub_cancel_left, hc j hj]
/-- an element of a slice may change in its own blocks and may get others -/
theorem Lay.sl_modN {α : Type} (L : Lay α) {w : World} {b off len cap : Nat} {xs : List α} {fp : List Nat} (h : L.sl w (some ⟨b, off, none⟩) len cap xs fp) (nd : fp.Nodup) {i : Nat} (hi : i < len) :
    ∃ x c f, xs[i]? = some x ∧ b ∈ fp ∧ (∀ j, j < L.n → w.cell? ⟨b, off + i * L.n + j, none⟩ = c[j]?) ∧ L.rep w c x f ∧ (∀ y ∈ f, y ∈ fp) ∧ f.Nodup ∧ b ∉ f ∧
      ∀ w' x' f', L.rep w' c x' f' → f'.Nodup → (∀ y ∈ f', y ∈ f ∨ y ∉ fp) → (∀ y ∈ fp, y ∉ f → w'.heap[y]? = w.heap[y]?) →
        ∃ fp', L.sl w' (some ⟨b, off, none⟩) len cap (xs.set i x') fp' ∧ fp'.Nodup ∧ ∀ y ∈ fp', (y ∈ fp ∧ y ∉ f) ∨ y ∈ f' := by
  obtain ⟨h1, h2, h3, h4, ⟨rfl, rfl⟩ | ⟨b', off', cur, E, fr, fps, ha, hb, hall, rfl⟩⟩ := h
  · simp at h1; omega
  · simp only [Option.some.injEq, Addr.mk.injEq, and_true] at ha
    obtain ⟨rfl, rfl⟩ := ha
    have hx : xs[i]? = some (xs[i]'(by omega)) := List.getElem?_eq_getElem _
    obtain ⟨c, f, f1, f2, rfl, hc, hr, hm⟩ := L.all_modN hall hx
    have nd1 := List.nodup_cons.1 nd
    have nd2 := List.nodup_append.1 nd1.2
    have nd3 := List.nodup_append.1 nd2.1
    have hf1 : ∀ y ∈ f1, y ∉ f := fun y hy hyf => nd3.2.2 y hy y hyf rfl
    have hf2 : ∀ y ∈ f2, y ∉ f := fun y hy hyf => nd2.2.2 y (by simp [hyf]) y hy rfl
    have hbf : b ∉ f := fun hbf => nd1.1 (by simp [hbf])
    refine ⟨_, c, f, hx, by simp, fun j hj => ?_, hr, fun y hy => by simp [hy], nd3.2.1, hbf, fun w' x' f' hr' ndf hd hk => ⟨b :: (f1 ++ f' ++ f2), ⟨by simpa using h1, h2, h3, h4, .inr ⟨b, off, cur, E, fr, _, rfl, ?_, hm w' x' f' hr' ?_, rfl⟩⟩, ?_, ?_⟩⟩
    · rw [cell_of_row w b _ cur E fr hb, ← hc j hj, List.getElem?_take_of_lt, List.getElem?_drop]
      · simp [Nat.add_assoc]
      · calc i * L.n + j < i * L.n + L.n := by omega
          _ = (i + 1) * L.n := by rw [Nat.add_mul, Nat.one_mul]
          _ ≤ len * L.n := Nat.mul_le_mul_right _ (by omega)
    · rw [hk b (by simp) hbf]; exact hb
    · intro y hy
      refine hk y (by rcases hy with hy | hy <;> simp [hy]) (fun hyf => ?_)
      rcases hy with hy | hy
      · exact hf1 y hy hyf
      · exact hf2 y hy hyf
    · have d1 : ∀ y ∈ f', y ∉ f1 := fun y hy h1 => by
        rcases hd y hy with h | h
        · exact hf1 y h1 h
        · exact h (by simp [h1])
      have d2 : ∀ y ∈ f', y ∉ f2 := fun y hy h1 => by
        rcases hd y hy with h | h
        · exact hf2 y h1 h
        · exact h (by simp [h1])
      have db : b ∉ f' := fun hy => by
        rcases hd b hy with h | h
        · exact hbf h
        · exact h (by simp)
      refine List.nodup_cons.2 ⟨fun hm => ?_, List.nodup_append.2 ⟨List.nodup_append.2 ⟨nd3.1, ndf, fun y hy z hz e => d1 z hz (e ▸ hy)⟩, nd2.2.1, fun y hy z hz e => ?_⟩⟩
      · rw [List.mem_append, List.mem_append] at hm
        rcases hm with (hm | hm) | hm
        · exact nd1.1 (by simp [hm])
        · exact db hm
        · exact nd1.1 (by simp [hm])
      · subst e
        rcases List.mem_append.1 hy with hy | hy
        · exact nd2.2.2 y (by simp [hy]) y hz rfl
        · exact d2 y hy hz
    · intro y hy
      simp only [List.mem_cons, List.mem_append] at hy
      rcases hy with rfl | (hy | hy) | hy
      · exact .inl ⟨by simp, hbf⟩
      · exact .inl ⟨by simp [hy], hf1 y hy⟩
      · exact .inr hy
      · exact .inl ⟨by simp [hy], hf2 y hy⟩
theorem Fresh.swap3 {B : Nat} {w : World} {a b c c' : List Nat} (h : Fresh B w (a ++ (b ++ (c ++ [])))) (nd : c'.Nodup) (hc : ∀ y ∈ c', y ∈ c ∨ (y ∉ a ++ (b ++ (c ++ [])) ∧ B ≤ y ∧ Loose w y)) : Fresh B w (a ++ (b ++ (c' ++ []))) := by
  obtain ⟨h1, h2⟩ := h
  rw [List.append_nil] at h1 h2 hc ⊢
  obtain ⟨na, nbc, dabc⟩ := List.nodup_append.1 h1
  obtain ⟨nb, nc, dbc⟩ := List.nodup_append.1 nbc
  refine ⟨List.nodup_append.2 ⟨na, List.nodup_append.2 ⟨nb, nd, fun y hy z hz e => ?_⟩, fun y hy z hz e => ?_⟩, fun y hy => ?_⟩
  · subst e
    rcases hc y hz with h | ⟨h, -⟩
    · exact dbc y hy y h rfl
    · exact h (by simp [hy])
  · subst e
    rcases List.mem_append.1 hz with hz | hz
    · exact dabc y hy y (by simp [hz]) rfl
    · rcases hc y hz with h | ⟨h, -⟩
      · exact dabc y hy y (by simp [h]) rfl
      · exact h (by simp [hy])
  · rcases List.mem_append.1 hy with hy | hy
    · exact h2 y (by simp [hy])
    · rcases List.mem_append.1 hy with hy | hy
      · exact h2 y (by simp [hy])
      · rcases hc y hy with h | ⟨_, h, h'⟩
        · exact h2 y (by simp [h])
        · exact ⟨h, h'⟩
theorem Fresh.swap1 {B : Nat} {w : World} {a a' r : List Nat} (h : Fresh B w (a ++ r)) (nd : a'.Nodup) (hc : ∀ y ∈ a', y ∈ a ∨ (y ∉ a ++ r ∧ B ≤ y ∧ Loose w y)) : Fresh B w (a' ++ r) := by
  obtain ⟨h1, h2⟩ := h
  obtain ⟨na, nr, dar⟩ := List.nodup_append.1 h1
  refine ⟨List.nodup_append.2 ⟨nd, nr, fun y hy z hz e => ?_⟩, fun y hy => ?_⟩
  · subst e
    rcases hc y hy with h | ⟨h, -⟩
    · exact dar y h y hz rfl
    · exact h (by simp [hz])
  · rcases List.mem_append.1 hy with hy | hy
    · rcases hc y hy with h | ⟨_, h, h'⟩
      · exact h2 y (by simp [h])
      · exact ⟨h, h'⟩
    · exact h2 y (by simp [hy])
end Go.Proofs.YtnnhopcjlnnchaaGreat

/- WipeTape: both sides. -/
namespace Go.Proofs.YtnnhopcjlnnchaaGreat
open Go.RowKit

theorem wipeTR_bad {x : Wld} {s : Int} (h : ¬ x.fault = 0) : wipeTR x s = ⟨x.fault, zWld⟩ := if_pos h
theorem wipeTR_out {x : Wld} {s : Int} (h : x.fault = 0) (h2 : ¬ (0 ≤ s ∧ s ≤ 1)) : wipeTR x s = ⟨3, zWld⟩ := by unfold wipeTR; rw [if_neg (fun g => g h), if_pos (pb_false (P := isTape s) h2)]
theorem wipeTR_ok {x : Wld} {s : Nat} (h : x.fault = 0) (h2 : (0 : Int) ≤ (s : Int) ∧ (s : Int) ≤ 1) : wipeTR x s = ⟨0, { x with tapes := x.tapes.set s ⟨true, []⟩ }⟩ := by
  unfold wipeTR
  rw [if_neg (fun g => g h), if_neg (by rw [pb_true (P := isTape (s : Int)) h2]; simp)]
  unfold Wld.setTape
  rw [Int.toNat_natCast]
theorem fault_tapes {x : Wld} (h : x.fault = 0) : x.tapes.length = 2 := by
  refine Classical.byContradiction (fun hn => ?_)
  unfold Wld.fault at h
  rw [pb_false (P := x.built ∧ x.onOk ∧ x.tapes.length = 2) (fun g => hn g.2.2)] at h
  split at h <;> simp at h
theorem isTape_any (s : Int) (w : World) : Calls Tryz.prog 83 #[.int .i64 s] w fun e w' => e = .returned (.bool (inB s 0 1)) ∧ w = w' := by
  go_enter Tryz.func83, Tryz.ntmps83
  go_wp2_with fail
  refine (inside_any s 0 1 _).mono ?_
  rintro e w' ⟨rfl, rfl⟩
  go_wp2_with fail
  go_ret
  exact ⟨rfl, rfl⟩

set_option maxRecDepth 100000 in
set_option maxHeartbeats 8000000 in
theorem impl_WipeTape (x : Wld) (cx : Array Value) (fx : List Nat) (s : Int) (w : World) (hx : wldL.rep w cx.toList x fx) (hz : totWld x ≤ 1048576) (os : i64ok s) :
    Calls Tryz.prog 28 #[.agg cx, .int .i64 s] w (NewAgg wrsL (wipeTR x s) w) := by
  obtain ⟨a10, l10, c10, _, a11, l11, c11, f11, a12, l12, c12, _, ex, -, -, -, -, -, -, -, -, -, h10, h11, h12, oo13, oo14, -⟩ := wldL_iff.1 hx
  obtain rfl := Array.toList_inj.1 (ex.trans (List.toList_toArray).symm)
  have HW := Lib.hid hx; have HZ := Lib.hid hz; have H10 := Lib.hid h10; have H11 := Lib.hid h11; have H12 := Lib.hid h12; have HOO := Lib.hid (And.intro oo13 oo14)
  have hl11 : l11 ≤ 1048576 := by have h := h11.1; have q10 := totL_nonneg (totL_nonneg totDrv_nonneg) x.groups; have q12 := totL_nonneg totTap_nonneg x.tapes; unfold totWld totIs at hz; omega
  clear hx ex hz h10 h11 h12 oo13 oo14
  have G0 := Lib.hid (show Chg [] w ((w.alloc (.cells #[.int .i64 x.shape.groups, .int .i64 x.shape.column, .int .i64 x.shape.data, .int .i64 x.shape.spare, .int .i64 x.shape.rows, .int .i64 x.shape.cap, .int .i64 x.shape.batch, .int .i64 x.shape.queue, .int .i64 x.shape.stage, .slice a10 l10 c10, .slice a11 l11 c11, .slice a12 l12 c12, .int .i64 x.writes, .int .i64 x.stop, .bool x.down] 40)).alloc (.cells #[.int .i64 0, .int .i64 0, .int .i64 0, .int .i64 0, .int .i64 0, .int .i64 0, .int .i64 0, .int .i64 0, .int .i64 0, .int .i64 0, .slice none 0 0, .slice none 0 0, .slice none 0 0, .int .i64 0, .int .i64 0, .bool false] 48)) from (Chg.alloc (Chg.alloc (Chg.refl [] w) _) _))
  have B0 := Lib.hid (show ((w.alloc (.cells #[.int .i64 x.shape.groups, .int .i64 x.shape.column, .int .i64 x.shape.data, .int .i64 x.shape.spare, .int .i64 x.shape.rows, .int .i64 x.shape.cap, .int .i64 x.shape.batch, .int .i64 x.shape.queue, .int .i64 x.shape.stage, .slice a10 l10 c10, .slice a11 l11 c11, .slice a12 l12 c12, .int .i64 x.writes, .int .i64 x.stop, .bool x.down] 40)).alloc (.cells #[.int .i64 0, .int .i64 0, .int .i64 0, .int .i64 0, .int .i64 0, .int .i64 0, .int .i64 0, .int .i64 0, .int .i64 0, .int .i64 0, .slice none 0 0, .slice none 0 0, .slice none 0 0, .int .i64 0, .int .i64 0, .bool false] 48)).heap[w.heap.size]? = some (.cells #[.int .i64 x.shape.groups, .int .i64 x.shape.column, .int .i64 x.shape.data, .int .i64 x.shape.spare, .int .i64 x.shape.rows, .int .i64 x.shape.cap, .int .i64 x.shape.batch, .int .i64 x.shape.queue, .int .i64 x.shape.stage, .slice a10 l10 c10, .slice a11 l11 c11, .slice a12 l12 c12, .int .i64 x.writes, .int .i64 x.stop, .bool x.down] 40 (0, 0)) from keep_alloc (new_alloc w _) _)
  have B1 := Lib.hid (show ((w.alloc (.cells #[.int .i64 x.shape.groups, .int .i64 x.shape.column, .int .i64 x.shape.data, .int .i64 x.shape.spare, .int .i64 x.shape.rows, .int .i64 x.shape.cap, .int .i64 x.shape.batch, .int .i64 x.shape.queue, .int .i64 x.shape.stage, .slice a10 l10 c10, .slice a11 l11 c11, .slice a12 l12 c12, .int .i64 x.writes, .int .i64 x.stop, .bool x.down] 40)).alloc (.cells #[.int .i64 0, .int .i64 0, .int .i64 0, .int .i64 0, .int .i64 0, .int .i64 0, .int .i64 0, .int .i64 0, .int .i64 0, .int .i64 0, .slice none 0 0, .slice none 0 0, .slice none 0 0, .int .i64 0, .int .i64 0, .bool false] 48)).heap[w.heap.size + 1]? = some (.cells #[.int .i64 0, .int .i64 0, .int .i64 0, .int .i64 0, .int .i64 0, .int .i64 0, .int .i64 0, .int .i64 0, .int .i64 0, .int .i64 0, .slice none 0 0, .slice none 0 0, .slice none 0 0, .int .i64 0, .int .i64 0, .bool false] 48 (0, 0)) from new_at (by simp) _)
  go_enter Tryz.func28, Tryz.ntmps28
  obtain ⟨q, hq⟩ : ∃ q, q = x.fault := ⟨_, rfl⟩
  have HQ := Lib.hid hq; clear hq
  go_wp2_with (first | (refine load_wide rfl _ 40 rfl rfl infoWd Tryz.underlying40 B0.out rfl ?_))
  refine (impl_WorldFault x #[.int .i64 x.shape.groups, .int .i64 x.shape.column, .int .i64 x.shape.data, .int .i64 x.shape.spare, .int .i64 x.shape.rows, .int .i64 x.shape.cap, .int .i64 x.shape.batch, .int .i64 x.shape.queue, .int .i64 x.shape.stage, .slice a10 l10 c10, .slice a11 l11 c11, .slice a12 l12 c12, .int .i64 x.writes, .int .i64 x.stop, .bool x.down] fx _ (wldL.ext HW.out G0.out)).mono ?_
  rintro e w1 ⟨rfl, hc⟩
  rw [← HQ.out]
  obtain ⟨c0, n0, A0_1⟩ := bk hc B0.out (by simp)
  obtain ⟨c1, n1, A1_1⟩ := bk hc B1.out (by simp)
  have G1 := Lib.hid (G0.out.trans0 hc)
  have fz := freeOf A1_1.out
  clear hc
  have hqk : i64ok q := by rw [HQ.out]; exact fault_i64 x
  by_cases hq0 : q = 0
  · subst hq0
    have hf0 : x.fault = 0 := HQ.out.symm
    by_cases hin : 0 ≤ s ∧ s ≤ 1
    · have HI := Lib.hid (show inB s 0 1 = true by simp [inB, hin.1, hin.2])
      go_wp2_with (first | (refine load_wide rfl _ 40 rfl rfl infoWd Tryz.underlying40 A0_1.out rfl ?_))
      refine (isTape_any s _).mono ?_
      rintro e w' ⟨rfl, rfl⟩
      rw [HI.out]
      go_wp2_with (first | (refine load_wide rfl _ 40 rfl rfl infoWd Tryz.underlying40 A0_1.out rfl ?_))
      refine (cloneWorld_any x #[.int .i64 x.shape.groups, .int .i64 x.shape.column, .int .i64 x.shape.data, .int .i64 x.shape.spare, .int .i64 x.shape.rows, .int .i64 x.shape.cap, .int .i64 x.shape.batch, .int .i64 x.shape.queue, .int .i64 x.shape.stage, .slice a10 l10 c10, .slice a11 l11 c11, .slice a12 l12 c12, .int .i64 x.writes, .int .i64 x.stop, .bool x.down] fx _ (wldL.ext HW.out G1.out) HZ.out).mono ?_
      rintro e w2 ⟨cs2, f2, rfl, hs, hf, hc⟩
      obtain ⟨p10, m10, d10, g10, p11, m11, d11, g11, p12, m12, d12, g12, ex, o1, o2, o3, o4, o5, o6, o7, o8, o9, K10, K11, K12, o13, o14, rfl⟩ := wldL_iff.1 hs
      obtain rfl := Array.toList_inj.1 (ex.trans (List.toList_toArray).symm)
      have HO := Lib.hid (And.intro o1 (And.intro o2 (And.intro o3 (And.intro o4 (And.intro o5 (And.intro o6 (And.intro o7 (And.intro o8 (And.intro o9 (And.intro o13 o14))))))))))
      have HK := Lib.hid (And.intro K10 (And.intro K11 K12)); have HF := Lib.hid hf; have HFn := Lib.hid (fun b hb => (hf.2 b hb).1); have nR0 := n1
      clear hs ex K10 K11 K12 o1 o2 o3 o4 o5 o6 o7 o8 o9 o13 o14 hf
      clear c0 n0
      obtain ⟨c0, n0, A0_2⟩ := bk hc A0_1.out (by simp)
      clear c1 n1
      obtain ⟨c1, n1, A1_2⟩ := bk hc A1_1.out (by simp)
      have G2 := Lib.hid (G1.out.trans0 hc)
      clear fz; have fz := freeOf A1_2.out
      clear hc
      go_upto_region 7 with (refine store_wide rfl _ _ 40 rfl rfl rfl infoWd (new_alloc _ _) rfl rfl rfl ?_; intro w3 hm hc0)
      have hc : Chg [] w2 w3 := ((Chg.refl [] w2).alloc _).trans hc0 (fun y hy => .inr (by rw [List.mem_singleton] at hy; omega)); clear hc0
      have HM := Lib.hid hm; have cm := cellsOf hm; have nm := ltOf hm; have fm := freeOf hm; have nR : w.heap.size + 1 < w2.heap.size := n1; clear hm
      have hF := HF.out.lts; have HKe := Lib.hid (And.intro (drvL.slice.sl_ext HK.out.1 hc) (And.intro (intL.sl_ext HK.out.2.1 hc) (tapL.sl_ext HK.out.2.2 hc))); have HFe := Lib.hid ((HF.out.mono (C := w.heap.size) G1.out.size).chg hc)
      have HFl := Lib.hid hF; clear hF
      clear c0 n0
      obtain ⟨c0, n0, A0_3⟩ := bk hc A0_2.out (by simp)
      clear c1 n1
      obtain ⟨c1, n1, A1_3⟩ := bk hc A1_2.out (by simp)
      have G3 := Lib.hid (G2.out.trans0 hc)
      clear fz; have fz := freeOf A1_3.out
      clear hc
      obtain ⟨t, rfl⟩ : ∃ t : Nat, s = t := ⟨s.toNat, by omega⟩
      have ht2 : t < m12 := by have := HKe.out.2.2.1; rw [fault_tapes hf0] at this; omega
      obtain ⟨y, b, off, a2, l2, c2, f2, HY, rfl, hy0, hy1, -⟩ := tape_at HKe.out.2.2 ht2
      have hb12 : b ∈ g12 := HY.out.2.1
      have hbm := HFl.out b (by simp [hb12]); have hbn := HFn.out b (by simp [hb12]); have hbl := Nat.lt_trans hbm nm
      have hbf : ∀ j, w3.frozen? ⟨b, j, none⟩ = false := (HFe.out.2 b (by simp [hb12])).2.free
      have hc : Chg [b] w3 ((w3.setCell ⟨b, off + t * 2, none⟩ (.bool true)).setCell ⟨b, off + t * 2 + 1, none⟩ (.slice none 0 0)) := ((Chg.refl _ _).setCell _ _ (.inl (by simp))).setCell _ _ (.inl (by simp))
      have hR := Lib.hid (hc.keepb A1_3.out (by simp; omega))
      have nd := List.nodup_append.1 HFe.out.1; have nd2 := List.nodup_append.1 nd.2.1; have nd3 := List.nodup_append.1 nd2.2.1
      have hn10 : ∀ y ∈ g10, y ∉ [b] := fun y hy hm => nd.2.2 y hy b (by simp [hb12]) (List.mem_singleton.1 hm)
      have hn11 : ∀ y ∈ g11, y ∉ [b] := fun y hy hm => nd2.2.2 y hy b (by simp [hb12]) (List.mem_singleton.1 hm)
      obtain ⟨fp', hS, hsub, hnd, -, -⟩ := tapL.sl_putN HKe.out.2.2 nd3.1 (i := t) ht2 (vs := [.bool true, .slice none 0 0]) (x' := ⟨true, []⟩) (f' := []) (tapL_iff.2 ⟨none, 0, 0, [], rfl, nil_sl0 _ _, rfl⟩) (by simp) List.nodup_nil
      have hsub2 : ∀ y ∈ fp', y ∈ g12 := fun y hy => by rcases hsub y hy with h | h; exact h; simp at h
      obtain ⟨o1, o2, o3, o4, o5, o6, o7, o8, o9, o13, o14⟩ := HO.out
      have hall : ∀ y ∈ g10 ++ (g11 ++ (fp' ++ [])), y ∈ g10 ++ (g11 ++ (g12 ++ [])) := fun y hy => by simp only [List.mem_append, List.not_mem_nil, or_false] at hy ⊢; rcases hy with h | h | h; exact .inl h; exact .inr (.inl h); exact .inr (.inr (hsub2 y h))
      have HE := Lib.hid (And.intro (show wldL.rep ((w3.setCell ⟨b, off + t * 2, none⟩ (.bool true)).setCell ⟨b, off + t * 2 + 1, none⟩ (.slice none 0 0)) [.int .i64 x.shape.groups, .int .i64 x.shape.column, .int .i64 x.shape.data, .int .i64 x.shape.spare, .int .i64 x.shape.rows, .int .i64 x.shape.cap, .int .i64 x.shape.batch, .int .i64 x.shape.queue, .int .i64 x.shape.stage, .slice p10 m10 d10, .slice p11 m11 d11, .slice (some ⟨b, off, none⟩) m12 d12, .int .i64 x.writes, .int .i64 x.stop, .bool x.down] _ _ from (wldL_iff.2 ⟨p10, m10, d10, g10, p11, m11, d11, g11, _, m12, d12, fp', rfl, o1, o2, o3, o4, o5, o6, o7, o8, o9, drvL.slice.sl_chg HKe.out.1 hc hn10, intL.sl_chg HKe.out.2.1 hc hn11, hS, o13, o14, rfl⟩ : wldL.rep _ _ ({ x with tapes := x.tapes.set t ⟨true, []⟩ }) _)) (And.intro (show Fresh w.heap.size ((w3.setCell ⟨b, off + t * 2, none⟩ (.bool true)).setCell ⟨b, off + t * 2 + 1, none⟩ (.slice none 0 0)) (g10 ++ (g11 ++ (fp' ++ []))) from (HFe.out.chg hc).swap3 hnd (fun y hy => .inl (hsub2 y hy))) (And.intro (show Chg [] w ((w3.setCell ⟨b, off + t * 2, none⟩ (.bool true)).setCell ⟨b, off + t * 2 + 1, none⟩ (.slice none 0 0)) from G3.out.trans hc (fun y hy => .inr (by rw [List.mem_singleton] at hy; have := G1.out.size; omega))) (show w.heap.size + 1 ∉ g10 ++ (g11 ++ (fp' ++ [])) from fun hy => by have := HFn.out _ (hall _ hy); omega))))
      have HRR := Lib.hid hR.out; have HMR := Lib.hid (show ((w3.setCell ⟨b, off + t * 2, none⟩ (.bool true)).setCell ⟨b, off + t * 2 + 1, none⟩ (.slice none 0 0)).heap[w2.heap.size]? = some (.cells #[.int .i64 x.shape.groups, .int .i64 x.shape.column, .int .i64 x.shape.data, .int .i64 x.shape.spare, .int .i64 x.shape.rows, .int .i64 x.shape.cap, .int .i64 x.shape.batch, .int .i64 x.shape.queue, .int .i64 x.shape.stage, .slice p10 m10 d10, .slice p11 m11 d11, .slice (some ⟨b, off, none⟩) m12 d12, .int .i64 x.writes, .int .i64 x.stop, .bool x.down] 40 (0, 0)) from hc.keepb HM.out (by simp; omega))
      clear o1 o2 o3 o4 o5 o6 o7 o8 o9 o13 o14 hc hn10 hn11 hS hsub hsub2 hnd hall nd nd2 nd3
      go_wp2_with (first | (refine load_wide rfl _ 40 rfl rfl infoWd Tryz.underlying40 HMR.out rfl ?_) | (refine store_wide rfl _ _ 48 rfl rfl rfl infoWR HRR.out rfl rfl rfl ?_; intro w9 hb9 hc9; have HB9 := Lib.hid hb9; have HC9 := Lib.hid hc9; clear hb9 hc9))
      refine bodyPost_ret (v := .agg #[.int .i64 0, .int .i64 x.shape.groups, .int .i64 x.shape.column, .int .i64 x.shape.data, .int .i64 x.shape.spare, .int .i64 x.shape.rows, .int .i64 x.shape.cap, .int .i64 x.shape.batch, .int .i64 x.shape.queue, .int .i64 x.shape.stage, .slice p10 m10 d10, .slice p11 m11 d11, .slice (some ⟨b, off, none⟩) m12 d12, .int .i64 x.writes, .int .i64 x.stop, .bool x.down]) (results_wide _ _ Tryz.results28 rfl infoWR Tryz.underlying48 HB9.out rfl) rfl (fin9 (0) (i64z) (wipeTR x t) (wipeTR_ok hf0 hin) HE.out.1 rfl HE.out.2.1 HE.out.2.2.1 HC9.out HE.out.2.2.2 (by omega))
    · have HI := Lib.hid (show inB s 0 1 = false by unfold inB; simp; omega)
      go_wp2_with (first | (refine load_wide rfl _ 40 rfl rfl infoWd Tryz.underlying40 A0_1.out rfl ?_))
      refine (isTape_any s _).mono ?_
      rintro e w' ⟨rfl, rfl⟩
      rw [HI.out]
      go_wp2_with (first | (refine store_wide rfl _ _ 48 rfl rfl rfl infoWR A1_1.out rfl rfl rfl ?_; intro w9 hb9 hc9; have HB9 := Lib.hid hb9; have HC9 := Lib.hid hc9; clear hb9 hc9))
      refine bodyPost_ret (v := .agg #[.int .i64 (3), .int .i64 0, .int .i64 0, .int .i64 0, .int .i64 0, .int .i64 0, .int .i64 0, .int .i64 0, .int .i64 0, .int .i64 0, .slice none 0 0, .slice none 0 0, .slice none 0 0, .int .i64 0, .int .i64 0, .bool false]) (results_wide _ _ Tryz.results28 rfl infoWR Tryz.underlying48 HB9.out rfl) rfl (bad9 (3) (⟨by omega, by omega⟩) (wipeTR x s) (wipeTR_out hf0 hin) G1.out HC9.out (by omega))
  · have hb : ((q : Int) != 0) = true := by simpa using hq0
    go_wp2_with (first | (refine store_wide rfl _ _ 48 rfl rfl rfl infoWR A1_1.out rfl rfl rfl ?_; intro w9 hb9 hc9; have HB9 := Lib.hid hb9; have HC9 := Lib.hid hc9; clear hb9 hc9))
    refine bodyPost_ret (v := .agg #[.int .i64 (q), .int .i64 0, .int .i64 0, .int .i64 0, .int .i64 0, .int .i64 0, .int .i64 0, .int .i64 0, .int .i64 0, .int .i64 0, .slice none 0 0, .slice none 0 0, .slice none 0 0, .int .i64 0, .int .i64 0, .bool false]) (results_wide _ _ Tryz.results28 rfl infoWR Tryz.underlying48 HB9.out rfl) rfl (bad9 (q) (hqk) (wipeTR x s) (by rw [wipeTR_bad (by rw [← HQ.out]; exact hq0), ← HQ.out]) G1.out HC9.out (by omega))
set_option maxRecDepth 100000 in
set_option maxHeartbeats 8000000 in
theorem spec_WipeTape (x : Wld) (cx : Array Value) (fx : List Nat) (s : Int) (w : World) (hx : wldL.rep w cx.toList x fx) (hz : totWld x ≤ 1048576) (os : i64ok s) :
    Calls Tryz.prog 27 #[.agg cx, .int .i64 s] w (NewAgg wrsL (wipeTR x s) w) := by
  obtain ⟨a10, l10, c10, _, a11, l11, c11, f11, a12, l12, c12, _, ex, -, -, -, -, -, -, -, -, -, h10, h11, h12, oo13, oo14, -⟩ := wldL_iff.1 hx
  obtain rfl := Array.toList_inj.1 (ex.trans (List.toList_toArray).symm)
  have HW := Lib.hid hx; have HZ := Lib.hid hz; have H10 := Lib.hid h10; have H11 := Lib.hid h11; have H12 := Lib.hid h12; have HOO := Lib.hid (And.intro oo13 oo14)
  have hl11 : l11 ≤ 1048576 := by have h := h11.1; have q10 := totL_nonneg (totL_nonneg totDrv_nonneg) x.groups; have q12 := totL_nonneg totTap_nonneg x.tapes; unfold totWld totIs at hz; omega
  clear hx ex hz h10 h11 h12 oo13 oo14
  have G0 := Lib.hid (show Chg [] w ((w.alloc (.cells #[.int .i64 x.shape.groups, .int .i64 x.shape.column, .int .i64 x.shape.data, .int .i64 x.shape.spare, .int .i64 x.shape.rows, .int .i64 x.shape.cap, .int .i64 x.shape.batch, .int .i64 x.shape.queue, .int .i64 x.shape.stage, .slice a10 l10 c10, .slice a11 l11 c11, .slice a12 l12 c12, .int .i64 x.writes, .int .i64 x.stop, .bool x.down] 40)).alloc (.cells #[.int .i64 0, .int .i64 0, .int .i64 0, .int .i64 0, .int .i64 0, .int .i64 0, .int .i64 0, .int .i64 0, .int .i64 0, .int .i64 0, .slice none 0 0, .slice none 0 0, .slice none 0 0, .int .i64 0, .int .i64 0, .bool false] 48)) from (Chg.alloc (Chg.alloc (Chg.refl [] w) _) _))
  have B0 := Lib.hid (show ((w.alloc (.cells #[.int .i64 x.shape.groups, .int .i64 x.shape.column, .int .i64 x.shape.data, .int .i64 x.shape.spare, .int .i64 x.shape.rows, .int .i64 x.shape.cap, .int .i64 x.shape.batch, .int .i64 x.shape.queue, .int .i64 x.shape.stage, .slice a10 l10 c10, .slice a11 l11 c11, .slice a12 l12 c12, .int .i64 x.writes, .int .i64 x.stop, .bool x.down] 40)).alloc (.cells #[.int .i64 0, .int .i64 0, .int .i64 0, .int .i64 0, .int .i64 0, .int .i64 0, .int .i64 0, .int .i64 0, .int .i64 0, .int .i64 0, .slice none 0 0, .slice none 0 0, .slice none 0 0, .int .i64 0, .int .i64 0, .bool false] 48)).heap[w.heap.size]? = some (.cells #[.int .i64 x.shape.groups, .int .i64 x.shape.column, .int .i64 x.shape.data, .int .i64 x.shape.spare, .int .i64 x.shape.rows, .int .i64 x.shape.cap, .int .i64 x.shape.batch, .int .i64 x.shape.queue, .int .i64 x.shape.stage, .slice a10 l10 c10, .slice a11 l11 c11, .slice a12 l12 c12, .int .i64 x.writes, .int .i64 x.stop, .bool x.down] 40 (0, 0)) from keep_alloc (new_alloc w _) _)
  have B1 := Lib.hid (show ((w.alloc (.cells #[.int .i64 x.shape.groups, .int .i64 x.shape.column, .int .i64 x.shape.data, .int .i64 x.shape.spare, .int .i64 x.shape.rows, .int .i64 x.shape.cap, .int .i64 x.shape.batch, .int .i64 x.shape.queue, .int .i64 x.shape.stage, .slice a10 l10 c10, .slice a11 l11 c11, .slice a12 l12 c12, .int .i64 x.writes, .int .i64 x.stop, .bool x.down] 40)).alloc (.cells #[.int .i64 0, .int .i64 0, .int .i64 0, .int .i64 0, .int .i64 0, .int .i64 0, .int .i64 0, .int .i64 0, .int .i64 0, .int .i64 0, .slice none 0 0, .slice none 0 0, .slice none 0 0, .int .i64 0, .int .i64 0, .bool false] 48)).heap[w.heap.size + 1]? = some (.cells #[.int .i64 0, .int .i64 0, .int .i64 0, .int .i64 0, .int .i64 0, .int .i64 0, .int .i64 0, .int .i64 0, .int .i64 0, .int .i64 0, .slice none 0 0, .slice none 0 0, .slice none 0 0, .int .i64 0, .int .i64 0, .bool false] 48 (0, 0)) from new_at (by simp) _)
  go_enter Tryz.func27, Tryz.ntmps27
  obtain ⟨q, hq⟩ : ∃ q, q = x.fault := ⟨_, rfl⟩
  have HQ := Lib.hid hq; clear hq
  go_wp2_with (first | (refine load_wide rfl _ 40 rfl rfl infoWd Tryz.underlying40 B0.out rfl ?_))
  refine (spec_WorldFault x #[.int .i64 x.shape.groups, .int .i64 x.shape.column, .int .i64 x.shape.data, .int .i64 x.shape.spare, .int .i64 x.shape.rows, .int .i64 x.shape.cap, .int .i64 x.shape.batch, .int .i64 x.shape.queue, .int .i64 x.shape.stage, .slice a10 l10 c10, .slice a11 l11 c11, .slice a12 l12 c12, .int .i64 x.writes, .int .i64 x.stop, .bool x.down] fx _ (wldL.ext HW.out G0.out)).mono ?_
  rintro e w1 ⟨rfl, hc⟩
  rw [← HQ.out]
  obtain ⟨c0, n0, A0_1⟩ := bk hc B0.out (by simp)
  obtain ⟨c1, n1, A1_1⟩ := bk hc B1.out (by simp)
  have G1 := Lib.hid (G0.out.trans0 hc)
  have fz := freeOf A1_1.out
  clear hc
  have hqk : i64ok q := by rw [HQ.out]; exact fault_i64 x
  by_cases hq0 : q = 0
  · subst hq0
    have hf0 : x.fault = 0 := HQ.out.symm
    by_cases hin : 0 ≤ s ∧ s ≤ 1
    · have HI := Lib.hid (show inB s 0 1 = true by simp [inB, hin.1, hin.2])
      go_wp2_with (first | (refine load_wide rfl _ 40 rfl rfl infoWd Tryz.underlying40 A0_1.out rfl ?_))
      refine (l1In_any s 0 1 _).mono ?_
      rintro e w' ⟨rfl, rfl⟩
      rw [HI.out]
      go_wp2_with (first | (refine load_wide rfl _ 40 rfl rfl infoWd Tryz.underlying40 A0_1.out rfl ?_))
      refine (l5Copy_any x #[.int .i64 x.shape.groups, .int .i64 x.shape.column, .int .i64 x.shape.data, .int .i64 x.shape.spare, .int .i64 x.shape.rows, .int .i64 x.shape.cap, .int .i64 x.shape.batch, .int .i64 x.shape.queue, .int .i64 x.shape.stage, .slice a10 l10 c10, .slice a11 l11 c11, .slice a12 l12 c12, .int .i64 x.writes, .int .i64 x.stop, .bool x.down] fx _ (wldL.ext HW.out G1.out) HZ.out).mono ?_
      rintro e w2 ⟨cs2, f2, rfl, hs, hf, hc⟩
      obtain ⟨p10, m10, d10, g10, p11, m11, d11, g11, p12, m12, d12, g12, ex, o1, o2, o3, o4, o5, o6, o7, o8, o9, K10, K11, K12, o13, o14, rfl⟩ := wldL_iff.1 hs
      obtain rfl := Array.toList_inj.1 (ex.trans (List.toList_toArray).symm)
      have HO := Lib.hid (And.intro o1 (And.intro o2 (And.intro o3 (And.intro o4 (And.intro o5 (And.intro o6 (And.intro o7 (And.intro o8 (And.intro o9 (And.intro o13 o14))))))))))
      have HK := Lib.hid (And.intro K10 (And.intro K11 K12)); have HF := Lib.hid hf; have HFn := Lib.hid (fun b hb => (hf.2 b hb).1); have nR0 := n1
      clear hs ex K10 K11 K12 o1 o2 o3 o4 o5 o6 o7 o8 o9 o13 o14 hf
      clear c0 n0
      obtain ⟨c0, n0, A0_2⟩ := bk hc A0_1.out (by simp)
      clear c1 n1
      obtain ⟨c1, n1, A1_2⟩ := bk hc A1_1.out (by simp)
      have G2 := Lib.hid (G1.out.trans0 hc)
      clear fz; have fz := freeOf A1_2.out
      clear hc
      go_upto_region 7 with (refine store_wide rfl _ _ 40 rfl rfl rfl infoWd (new_alloc _ _) rfl rfl rfl ?_; intro w3 hm hc0)
      have hc : Chg [] w2 w3 := ((Chg.refl [] w2).alloc _).trans hc0 (fun y hy => .inr (by rw [List.mem_singleton] at hy; omega)); clear hc0
      have HM := Lib.hid hm; have cm := cellsOf hm; have nm := ltOf hm; have fm := freeOf hm; have nR : w.heap.size + 1 < w2.heap.size := n1; clear hm
      have hF := HF.out.lts; have HKe := Lib.hid (And.intro (drvL.slice.sl_ext HK.out.1 hc) (And.intro (intL.sl_ext HK.out.2.1 hc) (tapL.sl_ext HK.out.2.2 hc))); have HFe := Lib.hid ((HF.out.mono (C := w.heap.size) G1.out.size).chg hc)
      have HFl := Lib.hid hF; clear hF
      clear c0 n0
      obtain ⟨c0, n0, A0_3⟩ := bk hc A0_2.out (by simp)
      clear c1 n1
      obtain ⟨c1, n1, A1_3⟩ := bk hc A1_2.out (by simp)
      have G3 := Lib.hid (G2.out.trans0 hc)
      clear fz; have fz := freeOf A1_3.out
      clear hc
      obtain ⟨t, rfl⟩ : ∃ t : Nat, s = t := ⟨s.toNat, by omega⟩
      have ht2 : t < m12 := by have := HKe.out.2.2.1; rw [fault_tapes hf0] at this; omega
      obtain ⟨y, b, off, a2, l2, c2, f2, HY, rfl, hy0, hy1, -⟩ := tape_at HKe.out.2.2 ht2
      have hb12 : b ∈ g12 := HY.out.2.1
      have hbm := HFl.out b (by simp [hb12]); have hbn := HFn.out b (by simp [hb12]); have hbl := Nat.lt_trans hbm nm
      have hbf : ∀ j, w3.frozen? ⟨b, j, none⟩ = false := (HFe.out.2 b (by simp [hb12])).2.free
      have hc : Chg [b] w3 ((w3.setCell ⟨b, off + t * 2, none⟩ (.bool true)).setCell ⟨b, off + t * 2 + 1, none⟩ (.slice none 0 0)) := ((Chg.refl _ _).setCell _ _ (.inl (by simp))).setCell _ _ (.inl (by simp))
      have hR := Lib.hid (hc.keepb A1_3.out (by simp; omega))
      have nd := List.nodup_append.1 HFe.out.1; have nd2 := List.nodup_append.1 nd.2.1; have nd3 := List.nodup_append.1 nd2.2.1
      have hn10 : ∀ y ∈ g10, y ∉ [b] := fun y hy hm => nd.2.2 y hy b (by simp [hb12]) (List.mem_singleton.1 hm)
      have hn11 : ∀ y ∈ g11, y ∉ [b] := fun y hy hm => nd2.2.2 y hy b (by simp [hb12]) (List.mem_singleton.1 hm)
      obtain ⟨fp', hS, hsub, hnd, -, -⟩ := tapL.sl_putN HKe.out.2.2 nd3.1 (i := t) ht2 (vs := [.bool true, .slice none 0 0]) (x' := ⟨true, []⟩) (f' := []) (tapL_iff.2 ⟨none, 0, 0, [], rfl, nil_sl0 _ _, rfl⟩) (by simp) List.nodup_nil
      have hsub2 : ∀ y ∈ fp', y ∈ g12 := fun y hy => by rcases hsub y hy with h | h; exact h; simp at h
      obtain ⟨o1, o2, o3, o4, o5, o6, o7, o8, o9, o13, o14⟩ := HO.out
      have hall : ∀ y ∈ g10 ++ (g11 ++ (fp' ++ [])), y ∈ g10 ++ (g11 ++ (g12 ++ [])) := fun y hy => by simp only [List.mem_append, List.not_mem_nil, or_false] at hy ⊢; rcases hy with h | h | h; exact .inl h; exact .inr (.inl h); exact .inr (.inr (hsub2 y h))
      have HE := Lib.hid (And.intro (show wldL.rep ((w3.setCell ⟨b, off + t * 2, none⟩ (.bool true)).setCell ⟨b, off + t * 2 + 1, none⟩ (.slice none 0 0)) [.int .i64 x.shape.groups, .int .i64 x.shape.column, .int .i64 x.shape.data, .int .i64 x.shape.spare, .int .i64 x.shape.rows, .int .i64 x.shape.cap, .int .i64 x.shape.batch, .int .i64 x.shape.queue, .int .i64 x.shape.stage, .slice p10 m10 d10, .slice p11 m11 d11, .slice (some ⟨b, off, none⟩) m12 d12, .int .i64 x.writes, .int .i64 x.stop, .bool x.down] _ _ from (wldL_iff.2 ⟨p10, m10, d10, g10, p11, m11, d11, g11, _, m12, d12, fp', rfl, o1, o2, o3, o4, o5, o6, o7, o8, o9, drvL.slice.sl_chg HKe.out.1 hc hn10, intL.sl_chg HKe.out.2.1 hc hn11, hS, o13, o14, rfl⟩ : wldL.rep _ _ ({ x with tapes := x.tapes.set t ⟨true, []⟩ }) _)) (And.intro (show Fresh w.heap.size ((w3.setCell ⟨b, off + t * 2, none⟩ (.bool true)).setCell ⟨b, off + t * 2 + 1, none⟩ (.slice none 0 0)) (g10 ++ (g11 ++ (fp' ++ []))) from (HFe.out.chg hc).swap3 hnd (fun y hy => .inl (hsub2 y hy))) (And.intro (show Chg [] w ((w3.setCell ⟨b, off + t * 2, none⟩ (.bool true)).setCell ⟨b, off + t * 2 + 1, none⟩ (.slice none 0 0)) from G3.out.trans hc (fun y hy => .inr (by rw [List.mem_singleton] at hy; have := G1.out.size; omega))) (show w.heap.size + 1 ∉ g10 ++ (g11 ++ (fp' ++ [])) from fun hy => by have := HFn.out _ (hall _ hy); omega))))
      have HRR := Lib.hid hR.out; have HMR := Lib.hid (show ((w3.setCell ⟨b, off + t * 2, none⟩ (.bool true)).setCell ⟨b, off + t * 2 + 1, none⟩ (.slice none 0 0)).heap[w2.heap.size]? = some (.cells #[.int .i64 x.shape.groups, .int .i64 x.shape.column, .int .i64 x.shape.data, .int .i64 x.shape.spare, .int .i64 x.shape.rows, .int .i64 x.shape.cap, .int .i64 x.shape.batch, .int .i64 x.shape.queue, .int .i64 x.shape.stage, .slice p10 m10 d10, .slice p11 m11 d11, .slice (some ⟨b, off, none⟩) m12 d12, .int .i64 x.writes, .int .i64 x.stop, .bool x.down] 40 (0, 0)) from hc.keepb HM.out (by simp; omega))
      clear o1 o2 o3 o4 o5 o6 o7 o8 o9 o13 o14 hc hn10 hn11 hS hsub hsub2 hnd hall nd nd2 nd3
      go_wp2_with (first | (refine load_wide rfl _ 40 rfl rfl infoWd Tryz.underlying40 HMR.out rfl ?_) | (refine store_wide rfl _ _ 48 rfl rfl rfl infoWR HRR.out rfl rfl rfl ?_; intro w9 hb9 hc9; have HB9 := Lib.hid hb9; have HC9 := Lib.hid hc9; clear hb9 hc9))
      refine bodyPost_ret (v := .agg #[.int .i64 0, .int .i64 x.shape.groups, .int .i64 x.shape.column, .int .i64 x.shape.data, .int .i64 x.shape.spare, .int .i64 x.shape.rows, .int .i64 x.shape.cap, .int .i64 x.shape.batch, .int .i64 x.shape.queue, .int .i64 x.shape.stage, .slice p10 m10 d10, .slice p11 m11 d11, .slice (some ⟨b, off, none⟩) m12 d12, .int .i64 x.writes, .int .i64 x.stop, .bool x.down]) (results_wide _ _ Tryz.results27 rfl infoWR Tryz.underlying48 HB9.out rfl) rfl (fin9 (0) (i64z) (wipeTR x t) (wipeTR_ok hf0 hin) HE.out.1 rfl HE.out.2.1 HE.out.2.2.1 HC9.out HE.out.2.2.2 (by omega))
    · have HI := Lib.hid (show inB s 0 1 = false by unfold inB; simp; omega)
      go_wp2_with (first | (refine load_wide rfl _ 40 rfl rfl infoWd Tryz.underlying40 A0_1.out rfl ?_))
      refine (l1In_any s 0 1 _).mono ?_
      rintro e w' ⟨rfl, rfl⟩
      rw [HI.out]
      go_wp2_with (first | (refine store_wide rfl _ _ 48 rfl rfl rfl infoWR A1_1.out rfl rfl rfl ?_; intro w9 hb9 hc9; have HB9 := Lib.hid hb9; have HC9 := Lib.hid hc9; clear hb9 hc9))
      refine bodyPost_ret (v := .agg #[.int .i64 (3), .int .i64 0, .int .i64 0, .int .i64 0, .int .i64 0, .int .i64 0, .int .i64 0, .int .i64 0, .int .i64 0, .int .i64 0, .slice none 0 0, .slice none 0 0, .slice none 0 0, .int .i64 0, .int .i64 0, .bool false]) (results_wide _ _ Tryz.results27 rfl infoWR Tryz.underlying48 HB9.out rfl) rfl (bad9 (3) (⟨by omega, by omega⟩) (wipeTR x s) (wipeTR_out hf0 hin) G1.out HC9.out (by omega))
  · have hb : ((q : Int) != 0) = true := by simpa using hq0
    go_wp2_with (first | (refine store_wide rfl _ _ 48 rfl rfl rfl infoWR A1_1.out rfl rfl rfl ?_; intro w9 hb9 hc9; have HB9 := Lib.hid hb9; have HC9 := Lib.hid hc9; clear hb9 hc9))
    refine bodyPost_ret (v := .agg #[.int .i64 (q), .int .i64 0, .int .i64 0, .int .i64 0, .int .i64 0, .int .i64 0, .int .i64 0, .int .i64 0, .int .i64 0, .int .i64 0, .slice none 0 0, .slice none 0 0, .slice none 0 0, .int .i64 0, .int .i64 0, .bool false]) (results_wide _ _ Tryz.results27 rfl infoWR Tryz.underlying48 HB9.out rfl) rfl (bad9 (q) (hqk) (wipeTR x s) (by rw [wipeTR_bad (by rw [← HQ.out]; exact hq0), ← HQ.out]) G1.out HC9.out (by omega))
end Go.Proofs.YtnnhopcjlnnchaaGreat
