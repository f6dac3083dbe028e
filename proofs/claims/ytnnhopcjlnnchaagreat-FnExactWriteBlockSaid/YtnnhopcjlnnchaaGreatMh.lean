/- Several texts in one. -/
import Derived.Test.YtnnhopcjlnnchaaGreatMb
import Derived.Test.YtnnhopcjlnnchaaGreatWra
import Derived.Test.YtnnhopcjlnnchaaGreatPut
import Derived.Test.YtnnhopcjlnnchaaGreatMw
import Derived.Test.YtnnhopcjlnnchaaGreatReg
/- An element of a slice that changes, also with other memory than before; footprints exchanged. No function of the program in sight. -/
namespace Go.Proofs.YtnnhopcjlnnchaaGreat
open Go.RowKit

theorem Lay.all_modN {α : Type} (L : Lay α) {w : World} {x : α} : ∀ {xs : List α} {i : Nat} {cs : List Value} {fps : List Nat}, L.all w cs xs fps → xs[i]? = some x →
  ∃ c f f1 f2, fps = f1 ++ f ++ f2 ∧ (∀ j, j < L.n → cs[i * L.n + j]? = c[j]?) ∧ L.rep w c x f ∧
   ∀ w' x' f', L.rep w' c x' f' → (∀ y, (y ∈ f1 ∨ y ∈ f2) → w'.heap[y]? = w.heap[y]?) → L.all w' cs (xs.set i x') (f1 ++ f' ++ f2) := by
 intro xs
 induction xs with
 | nil => intro i cs fps _ hx; simp at hx
 | cons y ys ih =>
  intro i cs fps h hx
  obtain ⟨c1, c2, f1, f2, rfl, rfl, h1, h2⟩ := h
  have hl := L.len h1
  cases i with
  | zero =>
   simp at hx
   subst hx
   refine ⟨c1, f1, [], f2, by simp, fun j hj => by rw [Nat.zero_mul, Nat.zero_add, List.getElem?_append_left (by omega)], h1, fun w' x' f' hr hk => ⟨c1, c2, f', f2, rfl, by simp, hr, L.all_keep h2 (fun y hy => hk y (.inr hy))⟩⟩
  | succ i =>
   obtain ⟨c, f, g1, g2, rfl, hc, hr, hm⟩ := ih h2 (by simpa using hx)
   refine ⟨c, f, f1 ++ g1, g2, by simp, fun j hj => ?_, hr, fun w' x' f' hr' hk => ⟨c1, c2, f1, _, rfl, by simp, L.keep h1 (fun y hy => hk y (.inl (by simp [hy]))), hm w' x' f' hr' (fun y hy => hk y (by rcases hy with hy | hy; exact .inl (by simp [hy]); exact .inr hy))⟩⟩
   have e : (i + 1) * L.n + j = c1.length + (i * L.n + j) := by rw [Nat.add_mul, Nat.one_mul, hl]; omega
   rw [e, List.getElem?_append_right (by omega), Nat.add_sub_cancel_left, hc j hj]
/-- an element of a slice may change in its own blocks and may get others -/
theorem Lay.sl_modN {α : Type} (L : Lay α) {w : World} {b off len cap : Nat} {xs : List α} {fp : List Nat} (h : L.sl w (some ⟨b, off, none⟩) len cap xs fp) (nd : fp.Nodup) {i : Nat} (hi : i < len) :
  ∃ x c f, xs[i]? = some x ∧ b ∈ fp ∧ (∀ j, j < L.n → w.cell? ⟨b, off + i * L.n + j, none⟩ = c[j]?) ∧ L.rep w c x f ∧ (∀ y ∈ f, y ∈ fp) ∧ f.Nodup ∧ b ∉ f ∧
   ∀ w' x' f', L.rep w' c x' f' → f'.Nodup → (∀ y ∈ f', y ∈ f ∨ y ∉ fp) → (∀ y ∈ fp, y ∉ f → w'.heap[y]? = w.heap[y]?) →
    ∃ fp', L.sl w' (some ⟨b, off, none⟩) len cap (xs.set i x') fp' ∧ fp'.Nodup ∧ ∀ y ∈ fp', (y ∈ fp ∧ y ∉ f) ∨ y ∈ f' := by
 obtain ⟨h1, h2, h3, h4, ⟨rfl, rfl⟩ | ⟨b', off', cur, E, fr, fps, ha, hb, hall, rfl⟩⟩ := h
 ·simp at h1; omega
 ·simp only [Option.some.injEq, Addr.mk.injEq, and_true] at ha
  obtain ⟨rfl, rfl⟩ := ha
  have hx : xs[i]? = some (xs[i]'(by omega)) := List.getElem?_eq_getElem _
  obtain ⟨c, f, f1, f2, rfl, hc, hr, hm⟩ := L.all_modN hall hx
  have nd1 := List.nodup_cons.1 nd
  have nd2 := List.nodup_append.1 nd1.2
  have nd3 := List.nodup_append.1 nd2.1
  have hf1 : ∀ y ∈ f1, y ∉ f := fun y hy hyf => nd3.2.2 y hy y hyf rfl
  have hf2 : ∀ y ∈ f2, y ∉ f := fun y hy hyf => nd2.2.2 y (by simp [hyf]) y hy rfl
  have hbf : b ∉ f := fun hbf => nd1.1 (by simp [hbf])
  refine ⟨_, c, f, hx, by simp, fun j hj => ?_, hr, fun y hy => by simp [hy], nd3.2.1, hbf, fun w' x' f' hr' ndf hd hk => ⟨b :: (f1 ++ f' ++ f2), ⟨by simpa using h1, h2, h3, h4, .inr ⟨b, off, cur, E, fr, _, rfl, ?_, hm w' x' f' hr' ?_, rfl⟩⟩, ?_, ?_⟩⟩
  ·rw [cell_of_row w b _ cur E fr hb, ← hc j hj, List.getElem?_take_of_lt, List.getElem?_drop]
   ·simp [Nat.add_assoc]
   ·calc i * L.n + j < i * L.n + L.n := by omega
     _ = (i + 1) * L.n := by rw [Nat.add_mul, Nat.one_mul]
     _ ≤ len * L.n := Nat.mul_le_mul_right _ (by omega)
  ·rw [hk b (by simp) hbf]; exact hb
  ·intro y hy
   refine hk y (by rcases hy with hy | hy <;> simp [hy]) (fun hyf => ?_)
   rcases hy with hy | hy
   ·exact hf1 y hy hyf
   ·exact hf2 y hy hyf
  ·have d1 : ∀ y ∈ f', y ∉ f1 := fun y hy h1 => by
    rcases hd y hy with h | h
    ·exact hf1 y h1 h
    ·exact h (by simp [h1])
   have d2 : ∀ y ∈ f', y ∉ f2 := fun y hy h1 => by
    rcases hd y hy with h | h
    ·exact hf2 y h1 h
    ·exact h (by simp [h1])
   have db : b ∉ f' := fun hy => by
    rcases hd b hy with h | h
    ·exact hbf h
    ·exact h (by simp)
   refine List.nodup_cons.2 ⟨fun hm => ?_, List.nodup_append.2 ⟨List.nodup_append.2 ⟨nd3.1, ndf, fun y hy z hz e => d1 z hz (e ▸ hy)⟩, nd2.2.1, fun y hy z hz e => ?_⟩⟩
   ·rw [List.mem_append, List.mem_append] at hm
    rcases hm with (hm | hm) | hm
    ·exact nd1.1 (by simp [hm])
    ·exact db hm
    ·exact nd1.1 (by simp [hm])
   ·subst e
    rcases List.mem_append.1 hy with hy | hy
    ·exact nd2.2.2 y (by simp [hy]) y hz rfl
    ·exact d2 y hy hz
  ·intro y hy
   simp only [List.mem_cons, List.mem_append] at hy
   rcases hy with rfl | (hy | hy) | hy
   ·exact .inl ⟨by simp, hbf⟩
   ·exact .inl ⟨by simp [hy], hf1 y hy⟩
   ·exact .inr hy
   ·exact .inl ⟨by simp [hy], hf2 y hy⟩
theorem Fresh.swap1 {B : Nat} {w : World} {a a' r : List Nat} (h : Fresh B w (a ++ r)) (nd : a'.Nodup) (hc : ∀ y ∈ a', y ∈ a ∨ (y ∉ a ++ r ∧ B ≤ y ∧ Loose w y)) : Fresh B w (a' ++ r) := by
 obtain ⟨h1, h2⟩ := h
 obtain ⟨na, nr, dar⟩ := List.nodup_append.1 h1
 refine ⟨List.nodup_append.2 ⟨nd, nr, fun y hy z hz e => ?_⟩, fun y hy => ?_⟩
 ·subst e
  rcases hc y hy with h | ⟨h, -⟩
  ·exact dar y h y hz rfl
  ·exact h (by simp [hz])
 ·rcases List.mem_append.1 hy with hy | hy
  ·rcases hc y hy with h | ⟨_, h, h'⟩
   ·exact h2 y (by simp [h])
   ·exact ⟨h, h'⟩
  ·exact h2 y (by simp [hy])
end Go.Proofs.YtnnhopcjlnnchaaGreat

/- Numbers that are in range, groups that are on: both sides. -/
namespace Go.Proofs.YtnnhopcjlnnchaaGreat
open Go.RowKit

set_option maxHeartbeats 1000000 in
theorem st_isGroup_any (x : Shp) (hs : x.ok) (g : Int) (w : World) :
  Calls Tryz.prog 63 #[.agg #[.int .i64 x.groups, .int .i64 x.column, .int .i64 x.data, .int .i64 x.spare, .int .i64 x.rows, .int .i64 x.cap, .int .i64 x.batch, .int .i64 x.queue, .int .i64 x.stage], .int .i64 g] w fun e w' => e = .returned (.bool (inB g 0 (x.all - 1))) ∧ Chg [] w w' := by
 have h1 := hs.all
 go_enter Tryz.func63, Tryz.ntmps63
 go_wp2_with fail
 refine (all_any x hs _).mono ?_
 rintro e w1 ⟨rfl, hc⟩
 have HC := Lib.hid (((Chg.refl [] w).alloc _).trans0 hc)
 clear hc
 go_wp2_with fail
 refine (inside_any g 0 (x.all - 1) _).mono ?_
 rintro e w' ⟨rfl, rfl⟩
 go_wp2_with fail
 go_ret
 exact ⟨rfl, HC.out⟩
set_option maxHeartbeats 1000000 in
theorem st_isDrive_any (x : Shp) (hs : x.ok) (g : Int) (w : World) :
  Calls Tryz.prog 64 #[.agg #[.int .i64 x.groups, .int .i64 x.column, .int .i64 x.data, .int .i64 x.spare, .int .i64 x.rows, .int .i64 x.cap, .int .i64 x.batch, .int .i64 x.queue, .int .i64 x.stage], .int .i64 g] w fun e w' => e = .returned (.bool (inB g 0 (x.drives - 1))) ∧ Chg [] w w' := by
 have h1 := hs.drives
 go_enter Tryz.func64, Tryz.ntmps64
 go_wp2_with fail
 refine (drives_any x hs _).mono ?_
 rintro e w1 ⟨rfl, hc⟩
 have HC := Lib.hid (((Chg.refl [] w).alloc _).trans0 hc)
 clear hc
 go_wp2_with fail
 refine (inside_any g 0 (x.drives - 1) _).mono ?_
 rintro e w' ⟨rfl, rfl⟩
 go_wp2_with fail
 go_ret
 exact ⟨rfl, HC.out⟩
set_option maxHeartbeats 1000000 in
theorem st_isRow_any (x : Shp) (hs : x.ok) (g : Int) (w : World) :
  Calls Tryz.prog 65 #[.agg #[.int .i64 x.groups, .int .i64 x.column, .int .i64 x.data, .int .i64 x.spare, .int .i64 x.rows, .int .i64 x.cap, .int .i64 x.batch, .int .i64 x.queue, .int .i64 x.stage], .int .i64 g] w fun e w' => e = .returned (.bool (inB g 0 (x.rows - 1))) ∧ Chg [] w w' := by
 have h1 := hs.rows
 go_enter Tryz.func65, Tryz.ntmps65
 go_wp2_with fail
 refine (inside_any g 0 (x.rows - 1) _).mono ?_
 rintro e w' ⟨rfl, rfl⟩
 go_wp2_with fail
 go_ret
 exact ⟨rfl, (Chg.refl [] w).alloc _⟩
set_option maxHeartbeats 2000000 in
theorem l5Place_any (x : Shp) (hs : x.ok) (g d r : Int) (w : World) :
  Calls Tryz.prog 55 #[.agg #[.int .i64 x.groups, .int .i64 x.column, .int .i64 x.data, .int .i64 x.spare, .int .i64 x.rows, .int .i64 x.cap, .int .i64 x.batch, .int .i64 x.queue, .int .i64 x.stage], .int .i64 g, .int .i64 d, .int .i64 r] w fun e w' => e = .returned (.bool (inB g 0 (x.all - 1) && inB d 0 (x.drives - 1) && inB r 0 (x.rows - 1))) ∧ Chg [] w w' := by
 have h1 := hs.all; have h2 := hs.drives; have h3 := hs.rows
 have B0 := Lib.hid (new_alloc w (.cells #[.int .i64 x.groups, .int .i64 x.column, .int .i64 x.data, .int .i64 x.spare, .int .i64 x.rows, .int .i64 x.cap, .int .i64 x.batch, .int .i64 x.queue, .int .i64 x.stage] 36))
 go_enter Tryz.func55, Tryz.ntmps55
 go_wp2_with fail
 refine (l5All_any x hs _).mono ?_
 rintro e w1 ⟨rfl, hc⟩
 obtain ⟨c0, n0, A0⟩ := bk hc B0.out (by simp)
 have HC := Lib.hid (((Chg.refl [] w).alloc _).trans0 hc)
 clear hc
 go_wp2_with fail
 refine (l1In_any g 0 (x.all - 1) _).mono ?_
 rintro e w' ⟨rfl, rfl⟩
 cases hA : inB g 0 (x.all - 1)
 ·go_wp2_with fail
  go_ret
  exact ⟨by simp [hA], HC.out⟩
 ·go_wp2_with fail
  refine (l5Drives_any x hs _).mono ?_
  rintro e w2 ⟨rfl, hc⟩
  clear c0 n0
  obtain ⟨c0, n0, A1⟩ := bk hc A0.out (by simp)
  have HC2 := Lib.hid (HC.out.trans0 hc)
  clear hc
  go_wp2_with fail
  refine (l1In_any d 0 (x.drives - 1) _).mono ?_
  rintro e w' ⟨rfl, rfl⟩
  cases hB : inB d 0 (x.drives - 1)
  ·go_wp2_with fail
   go_ret
   exact ⟨by simp [hA, hB], HC2.out⟩
  ·go_wp2_with fail
   refine (l1In_any r 0 (x.rows - 1) _).mono ?_
   rintro e w' ⟨rfl, rfl⟩
   go_wp2_with fail
   go_ret
   exact ⟨by simp [hA, hB], HC2.out⟩
set_option maxHeartbeats 1000000 in
theorem st_isOn_any (b : Nat) {u0 u1 u2 u3 u4 u5 u6 u7 u8 u9 u11 u12 u13 u14 : Value} (a : Option Addr) (la ca : Nat) (xs : List Int) (f : List Nat) (g : Int) (w : World) (h : w.heap[b]? = some (.cells #[u0, u1, u2, u3, u4, u5, u6, u7, u8, u9, .slice a la ca, u11, u12, u13, u14] 40 (0, 0))) (ha : intL.sl w a la ca xs f) :
  Calls Tryz.prog 66 #[.pointer (some ⟨b, 0, none⟩), .int .i64 g] w fun e w' => e = .returned (.bool (pb (g ∈ xs))) ∧ w = w' := by
 have cb := cellsOf h; have nb := ltOf h
 have HA := Lib.hid ha
 clear h ha
 go_enter Tryz.func66, Tryz.ntmps66
 go_wp2_with fail
 refine (containsI_any a la ca xs f g _ HA.out).mono ?_
 rintro e w' ⟨rfl, rfl⟩
 go_wp2_with fail
 go_ret
 exact ⟨rfl, rfl⟩
/-- the marks of a block's own bytes -/
def mvB1 (k : Int) (x : Blk) : Blk := ⟨x.stamp, markBL k x.bytes.length⟩
set_option maxHeartbeats 2000000 in
theorem markBlock_any (x : Blk) (cx : Array Value) (fx : List Nat) (k : Int) (w : World) (hx : blkL.rep w cx.toList x fx) (hf : Fresh 0 w fx) (hk : 0 ≤ k) (hk2 : k + (x.bytes.length : Int) ≤ 4611686018427387904) :
  Calls Tryz.prog 44 #[.agg cx, .int .i64 k] w fun e w' => e = .returned (.int .i64 (k + (x.bytes.length : Int))) ∧ blkL.rep w' cx.toList (mvB1 k x) fx ∧ Chg fx w w' := by
 obtain ⟨a1, l1, c1, f1, ex, o0, h1, hff⟩ := blkL_iff.1 hx
 obtain rfl := Array.toList_inj.1 (ex.trans (List.toList_toArray).symm)
 obtain rfl : fx = f1 := by simpa using hff
 have HL := Lib.hid h1.1
 have H1 := Lib.hid h1; have HF := Lib.hid hf; have HO := Lib.hid o0
 rw [← h1.1] at hk2
 rw [← h1.1]
 clear hx ex h1 hf hff o0
 go_enter Tryz.func44, Tryz.ntmps44
 go_wp2_with fail
 have g0 : Chg [] w (w.alloc (.cells #[.int .i64 x.stamp, .slice a1 l1 c1] 32)) := (Chg.refl [] w).alloc _
 refine (markB_any a1 l1 c1 x.bytes fx k _ (byteL.sl_ext H1.out g0) (HF.out.chg g0) hk hk2).mono ?_
 rintro e w1 ⟨rfl, hs1, hc1⟩
 have HN := Lib.hid (And.intro (blkL_iff.2 ⟨a1, l1, c1, fx, rfl, HO.out, by show byteL.sl w1 a1 l1 c1 (markBL k x.bytes.length) fx; rw [← HL.out]; exact hs1, by simp⟩ : blkL.rep w1 [.int .i64 x.stamp, .slice a1 l1 c1] (mvB1 k x) fx) ((g0.mono (T := fx) (by simp)).trans hc1 (fun x hx => .inl hx)))
 clear hs1 hc1 g0
 go_wp2_with fail
 go_ret
 exact ⟨rfl, HN.out.1, HN.out.2⟩
end Go.Proofs.YtnnhopcjlnnchaaGreat

/- Raw writes: both sides. -/
namespace Go.Proofs.YtnnhopcjlnnchaaGreat
open Go.RowKit

set_option maxHeartbeats 2000000 in
theorem raw_fail (m : Nat) (F : Value) {u0 u1 u2 u3 u4 u5 u6 u7 u8 u9 u10 u11 u14 : Value} {wr st : Int} (w : World) (h : w.heap[m]? = some (.cells #[u0, u1, u2, u3, u4, u5, u6, u7, u8, u9, u10, u11, .int .i64 wr, .int .i64 st, u14] 40 (0, 0))) (h1 : st ≠ -1) (h2 : st ≤ wr) :
  Calls Tryz.prog 135 #[.pointer (some ⟨m, 0, none⟩), F] w fun e w' => e = .returned (.bool false) ∧ w'.heap[m]? = some (.cells #[u0, u1, u2, u3, u4, u5, u6, u7, u8, u9, .slice none 0 0, u11, .int .i64 wr, .int .i64 st, .bool true] 40 (0, 0)) ∧ Chg [m] w w' := by
 have hne : ((st : Int) != -1) = true := by simpa using h1
 have HM := Lib.hid h
 clear h
 go_enter Tryz.func135, Tryz.ntmps135
 go_wp2_with fail
 obtain ⟨SS1, HSI1, HSO1⟩ := rg_cond (fun w' => Know m #[u0, u1, u2, u3, u4, u5, u6, u7, u8, u9, u10, u11, .int .i64 wr, .int .i64 st, u14] w')
 have hS0 := HSI1.out _ (Know.of (keep_drew HM.out))
 refine rg_start SS1 (by kernel_rfl) hS0 ?_
 refine rgT 0 hS0 ?_
 refine rgT 1 hS0 ?_
 refine rgT 2 hS0 ?_
 refine rgL 3 hS0 HSO1 ?_
 refine rgT 4 hS0 ?_
 refine rgT 5 hS0 ?_
 refine rgT 6 hS0 ?_
 refine rgT 7 hS0 ?_
 refine rgT 8 hS0 ?_
 refine rgL 9 hS0 HSO1 ?_
 refine rgT 10 hS0 ?_
 refine rgT 11 hS0 ?_
 refine rgT 12 hS0 ?_
 refine rgL 13 hS0 HSO1 ?_
 refine rgT 14 hS0 ?_
 refine rgT 15 hS0 ?_
 refine wpAnyH_done (by kernel_rfl) ?_ _
 go_wp2_with fail
 refine (cut_any m _ (keep_drew HM.out)).mono ?_
 rintro e w' ⟨rfl, hm, hc⟩
 have HN := Lib.hid (And.intro hm hc)
 clear hm hc
 go_wp2_with fail
 go_ret
 exact ⟨rfl, HN.out.1, ((Chg.refl [m] w).drew).trans HN.out.2 (fun y hy => .inl hy)⟩
end Go.Proofs.YtnnhopcjlnnchaaGreat

/- Raw writes: trust, wrote, l5Raw. -/
namespace Go.Proofs.YtnnhopcjlnnchaaGreat
open Go.RowKit

set_option maxHeartbeats 2000000 in
theorem wrote_false (s0 s1 s2 s3 s4 s5 s6 s7 s8 wr st : Int) (a10 a11 a12 : Option Addr) (l10 c10 l11 c11 l12 c12 : Nat) (dn : Bool) (w : World) :
  Calls Tryz.prog 94 #[.agg #[.int .i64 s0, .int .i64 s1, .int .i64 s2, .int .i64 s3, .int .i64 s4, .int .i64 s5, .int .i64 s6, .int .i64 s7, .int .i64 s8, .slice a10 l10 c10, .slice a11 l11 c11, .slice a12 l12 c12, .int .i64 wr, .int .i64 st, .bool dn], .bool false] w fun e w' => e = .returned (.agg #[.int .i64 9, .int .i64 s0, .int .i64 s1, .int .i64 s2, .int .i64 s3, .int .i64 s4, .int .i64 s5, .int .i64 s6, .int .i64 s7, .int .i64 s8, .slice a10 l10 c10, .slice a11 l11 c11, .slice a12 l12 c12, .int .i64 wr, .int .i64 st, .bool dn]) ∧ Chg [] w w' := by
 have B0 := Lib.hid (show ((w.alloc (.cells #[.int .i64 s0, .int .i64 s1, .int .i64 s2, .int .i64 s3, .int .i64 s4, .int .i64 s5, .int .i64 s6, .int .i64 s7, .int .i64 s8, .slice a10 l10 c10, .slice a11 l11 c11, .slice a12 l12 c12, .int .i64 wr, .int .i64 st, .bool dn] 40)).alloc (.cells #[.int .i64 0, .int .i64 0, .int .i64 0, .int .i64 0, .int .i64 0, .int .i64 0, .int .i64 0, .int .i64 0, .int .i64 0, .int .i64 0, .slice none 0 0, .slice none 0 0, .slice none 0 0, .int .i64 0, .int .i64 0, .bool false] 48)).heap[w.heap.size]? = some (.cells #[.int .i64 s0, .int .i64 s1, .int .i64 s2, .int .i64 s3, .int .i64 s4, .int .i64 s5, .int .i64 s6, .int .i64 s7, .int .i64 s8, .slice a10 l10 c10, .slice a11 l11 c11, .slice a12 l12 c12, .int .i64 wr, .int .i64 st, .bool dn] 40 (0, 0)) from keep_alloc (new_alloc w _) _)
 have B1 := Lib.hid (show ((w.alloc (.cells #[.int .i64 s0, .int .i64 s1, .int .i64 s2, .int .i64 s3, .int .i64 s4, .int .i64 s5, .int .i64 s6, .int .i64 s7, .int .i64 s8, .slice a10 l10 c10, .slice a11 l11 c11, .slice a12 l12 c12, .int .i64 wr, .int .i64 st, .bool dn] 40)).alloc (.cells #[.int .i64 0, .int .i64 0, .int .i64 0, .int .i64 0, .int .i64 0, .int .i64 0, .int .i64 0, .int .i64 0, .int .i64 0, .int .i64 0, .slice none 0 0, .slice none 0 0, .slice none 0 0, .int .i64 0, .int .i64 0, .bool false] 48)).heap[w.heap.size + 1]? = some (.cells #[.int .i64 0, .int .i64 0, .int .i64 0, .int .i64 0, .int .i64 0, .int .i64 0, .int .i64 0, .int .i64 0, .int .i64 0, .int .i64 0, .slice none 0 0, .slice none 0 0, .slice none 0 0, .int .i64 0, .int .i64 0, .bool false] 48 (0, 0)) from new_at (by simp) _)
 go_enter Tryz.func94, Tryz.ntmps94
 go_wp2_with (first | (refine load_wide rfl _ 40 rfl rfl infoWd Tryz.underlying40 B0.out rfl ?_) | (refine store_wide rfl _ _ 48 rfl rfl rfl infoWR B1.out rfl rfl rfl ?_; intro w9 hb9 hc9; have HB9 := Lib.hid hb9; have HC9 := Lib.hid hc9; clear hb9 hc9))
 refine bodyPost_ret (v := .agg #[.int .i64 9, .int .i64 s0, .int .i64 s1, .int .i64 s2, .int .i64 s3, .int .i64 s4, .int .i64 s5, .int .i64 s6, .int .i64 s7, .int .i64 s8, .slice a10 l10 c10, .slice a11 l11 c11, .slice a12 l12 c12, .int .i64 wr, .int .i64 st, .bool dn]) (results_wide _ _ Tryz.results94 rfl infoWR Tryz.underlying48 HB9.out rfl) rfl ⟨rfl, ?_⟩
 exact (((Chg.refl [] w).alloc _).alloc _).trans HC9.out (fun y hy => .inr (by rw [List.mem_singleton] at hy; omega))

set_option maxHeartbeats 2000000 in
theorem wrote_true (s0 s1 s2 s3 s4 s5 s6 s7 s8 wr st : Int) (a10 a11 a12 : Option Addr) (l10 c10 l11 c11 l12 c12 : Nat) (dn : Bool) (w : World) :
  Calls Tryz.prog 94 #[.agg #[.int .i64 s0, .int .i64 s1, .int .i64 s2, .int .i64 s3, .int .i64 s4, .int .i64 s5, .int .i64 s6, .int .i64 s7, .int .i64 s8, .slice a10 l10 c10, .slice a11 l11 c11, .slice a12 l12 c12, .int .i64 wr, .int .i64 st, .bool dn], .bool true] w fun e w' => e = .returned (.agg #[.int .i64 0, .int .i64 s0, .int .i64 s1, .int .i64 s2, .int .i64 s3, .int .i64 s4, .int .i64 s5, .int .i64 s6, .int .i64 s7, .int .i64 s8, .slice a10 l10 c10, .slice a11 l11 c11, .slice a12 l12 c12, .int .i64 wr, .int .i64 st, .bool dn]) ∧ Chg [] w w' := by
 have B0 := Lib.hid (show ((w.alloc (.cells #[.int .i64 s0, .int .i64 s1, .int .i64 s2, .int .i64 s3, .int .i64 s4, .int .i64 s5, .int .i64 s6, .int .i64 s7, .int .i64 s8, .slice a10 l10 c10, .slice a11 l11 c11, .slice a12 l12 c12, .int .i64 wr, .int .i64 st, .bool dn] 40)).alloc (.cells #[.int .i64 0, .int .i64 0, .int .i64 0, .int .i64 0, .int .i64 0, .int .i64 0, .int .i64 0, .int .i64 0, .int .i64 0, .int .i64 0, .slice none 0 0, .slice none 0 0, .slice none 0 0, .int .i64 0, .int .i64 0, .bool false] 48)).heap[w.heap.size]? = some (.cells #[.int .i64 s0, .int .i64 s1, .int .i64 s2, .int .i64 s3, .int .i64 s4, .int .i64 s5, .int .i64 s6, .int .i64 s7, .int .i64 s8, .slice a10 l10 c10, .slice a11 l11 c11, .slice a12 l12 c12, .int .i64 wr, .int .i64 st, .bool dn] 40 (0, 0)) from keep_alloc (new_alloc w _) _)
 have B1 := Lib.hid (show ((w.alloc (.cells #[.int .i64 s0, .int .i64 s1, .int .i64 s2, .int .i64 s3, .int .i64 s4, .int .i64 s5, .int .i64 s6, .int .i64 s7, .int .i64 s8, .slice a10 l10 c10, .slice a11 l11 c11, .slice a12 l12 c12, .int .i64 wr, .int .i64 st, .bool dn] 40)).alloc (.cells #[.int .i64 0, .int .i64 0, .int .i64 0, .int .i64 0, .int .i64 0, .int .i64 0, .int .i64 0, .int .i64 0, .int .i64 0, .int .i64 0, .slice none 0 0, .slice none 0 0, .slice none 0 0, .int .i64 0, .int .i64 0, .bool false] 48)).heap[w.heap.size + 1]? = some (.cells #[.int .i64 0, .int .i64 0, .int .i64 0, .int .i64 0, .int .i64 0, .int .i64 0, .int .i64 0, .int .i64 0, .int .i64 0, .int .i64 0, .slice none 0 0, .slice none 0 0, .slice none 0 0, .int .i64 0, .int .i64 0, .bool false] 48 (0, 0)) from new_at (by simp) _)
 go_enter Tryz.func94, Tryz.ntmps94
 go_wp2_with (first | (refine load_wide rfl _ 40 rfl rfl infoWd Tryz.underlying40 B0.out rfl ?_) | (refine store_wide rfl _ _ 48 rfl rfl rfl infoWR B1.out rfl rfl rfl ?_; intro w9 hb9 hc9; have HB9 := Lib.hid hb9; have HC9 := Lib.hid hc9; clear hb9 hc9))
 refine bodyPost_ret (v := .agg #[.int .i64 0, .int .i64 s0, .int .i64 s1, .int .i64 s2, .int .i64 s3, .int .i64 s4, .int .i64 s5, .int .i64 s6, .int .i64 s7, .int .i64 s8, .slice a10 l10 c10, .slice a11 l11 c11, .slice a12 l12 c12, .int .i64 wr, .int .i64 st, .bool dn]) (results_wide _ _ Tryz.results94 rfl infoWR Tryz.underlying48 HB9.out rfl) rfl ⟨rfl, ?_⟩
 exact (((Chg.refl [] w).alloc _).alloc _).trans HC9.out (fun y hy => .inr (by rw [List.mem_singleton] at hy; omega))

set_option maxHeartbeats 2000000 in
theorem l5Raw_fail (m : Nat) {u0 u1 u2 u3 u4 u5 u6 u7 u8 u9 u10 u11 : Value} {wr st : Int} (w : World) (h : w.heap[m]? = some (.cells #[u0, u1, u2, u3, u4, u5, u6, u7, u8, u9, u10, u11, .int .i64 wr, .int .i64 st, .bool false] 40 (0, 0))) (h1 : st ≠ -1 ∧ st ≤ wr) :
  Calls Tryz.prog 92 #[.pointer (some ⟨m, 0, none⟩)] w fun e w' => e = .returned (.bool false) ∧ w'.heap[m]? = some (.cells #[u0, u1, u2, u3, u4, u5, u6, u7, u8, u9, .slice none 0 0, u11, .int .i64 wr, .int .i64 st, .bool true] 40 (0, 0)) ∧ Chg [m] w w' := by
 have hne : ((st : Int) != -1) = true := by simpa using h1.1
 have hle := h1.2
 have HM := Lib.hid h; have H1 := Lib.hid h1
 have cm := cellsOf h; have nm := ltOf h; have fm := freeOf h
 clear h h1
 go_enter Tryz.func92, Tryz.ntmps92
 go_wp2_with fail
 obtain ⟨SS1, HSI1, HSO1⟩ := rg_cond (fun w' => Know m #[u0, u1, u2, u3, u4, u5, u6, u7, u8, u9, u10, u11, .int .i64 wr, .int .i64 st, .bool false] w')
 have hS0 := HSI1.out _ (Know.of (keep_drew HM.out))
 refine rg_start SS1 (by kernel_rfl) hS0 ?_
 refine rgT 0 hS0 ?_
 refine rgT 1 hS0 ?_
 refine rgT 2 hS0 ?_
 refine rgL 3 hS0 HSO1 ?_
 refine rgT 4 hS0 ?_
 refine rgT 5 hS0 ?_
 refine rgT 6 hS0 ?_
 refine rgT 7 hS0 ?_
 refine rgT 8 hS0 ?_
 refine rgL 9 hS0 HSO1 ?_
 refine rgT 10 hS0 ?_
 refine rgT 11 hS0 ?_
 refine rgT 12 hS0 ?_
 refine rgL 13 hS0 HSO1 ?_
 refine rgT 14 hS0 ?_
 refine rgT 15 hS0 ?_
 refine wpAnyH_done (by kernel_rfl) ?_ _
 go_wp2_with fail
 go_ret
 exact ⟨rfl, heap_set_lit (heap_set_lit (keep_drew HM.out) rfl) rfl, (((Chg.refl [m] w).drew).setCell _ _ (.inl (by simp))).setCell _ _ (.inl (by simp))⟩

set_option maxHeartbeats 2000000 in
theorem l5Raw_ok1 (m : Nat) {u0 u1 u2 u3 u4 u5 u6 u7 u8 u9 u10 u11 : Value} {wr st : Int} (w : World) (h : w.heap[m]? = some (.cells #[u0, u1, u2, u3, u4, u5, u6, u7, u8, u9, u10, u11, .int .i64 wr, .int .i64 st, .bool false] 40 (0, 0))) (h1 : st = -1) (hw : 0 ≤ wr ∧ wr ≤ 1000000000) :
  Calls Tryz.prog 92 #[.pointer (some ⟨m, 0, none⟩)] w fun e w' => e = .returned (.bool true) ∧ w' = w.drew.setCell ⟨m, 12, none⟩ (.int .i64 (wr + 1)) := by
 have hne : ((st : Int) != -1) = false := by simp [h1]
 have HM := Lib.hid h; have H1 := Lib.hid h1
 have cm := cellsOf h; have nm := ltOf h; have fm := freeOf h
 clear h h1
 go_enter Tryz.func92, Tryz.ntmps92
 go_wp2_with fail
 obtain ⟨SS1, HSI1, HSO1⟩ := rg_cond (fun w' => Know m #[u0, u1, u2, u3, u4, u5, u6, u7, u8, u9, u10, u11, .int .i64 wr, .int .i64 st, .bool false] w')
 have hS0 := HSI1.out _ (Know.of (keep_drew HM.out))
 refine rg_start SS1 (by kernel_rfl) hS0 ?_
 refine rgT 0 hS0 ?_
 refine rgT 1 hS0 ?_
 refine rgT 2 hS0 ?_
 refine rgL 3 hS0 HSO1 ?_
 refine rgT 4 hS0 ?_
 refine rgT 5 hS0 ?_
 refine rgS 6 hS0 ?_
 refine rgS 7 hS0 ?_
 refine rgS 8 hS0 ?_
 refine rgS 9 hS0 ?_
 refine rgS 10 hS0 ?_
 refine rgS 11 hS0 ?_
 refine rgS 12 hS0 ?_
 refine rgS 13 hS0 ?_
 refine rgS 14 hS0 ?_
 refine rgT 15 hS0 ?_
 refine wpAnyH_done (by kernel_rfl) ?_ _
 go_wp2_with fail
 go_ret
 exact ⟨rfl, rfl⟩

set_option maxHeartbeats 2000000 in
theorem l5Raw_ok2 (m : Nat) {u0 u1 u2 u3 u4 u5 u6 u7 u8 u9 u10 u11 : Value} {wr st : Int} (w : World) (h : w.heap[m]? = some (.cells #[u0, u1, u2, u3, u4, u5, u6, u7, u8, u9, u10, u11, .int .i64 wr, .int .i64 st, .bool false] 40 (0, 0))) (h1 : st ≠ -1 ∧ wr < st) (hw : 0 ≤ wr ∧ wr ≤ 1000000000) :
  Calls Tryz.prog 92 #[.pointer (some ⟨m, 0, none⟩)] w fun e w' => e = .returned (.bool true) ∧ w' = w.drew.setCell ⟨m, 12, none⟩ (.int .i64 (wr + 1)) := by
 have hne : ((st : Int) != -1) = true := by simpa using h1.1
 have hlt : ¬ st ≤ wr := by omega
 have HM := Lib.hid h; have H1 := Lib.hid h1
 have cm := cellsOf h; have nm := ltOf h; have fm := freeOf h
 clear h h1
 go_enter Tryz.func92, Tryz.ntmps92
 go_wp2_with fail
 obtain ⟨SS1, HSI1, HSO1⟩ := rg_cond (fun w' => Know m #[u0, u1, u2, u3, u4, u5, u6, u7, u8, u9, u10, u11, .int .i64 wr, .int .i64 st, .bool false] w')
 have hS0 := HSI1.out _ (Know.of (keep_drew HM.out))
 refine rg_start SS1 (by kernel_rfl) hS0 ?_
 refine rgT 0 hS0 ?_
 refine rgT 1 hS0 ?_
 refine rgT 2 hS0 ?_
 refine rgL 3 hS0 HSO1 ?_
 refine rgT 4 hS0 ?_
 refine rgT 5 hS0 ?_
 refine rgT 6 hS0 ?_
 refine rgT 7 hS0 ?_
 refine rgT 8 hS0 ?_
 refine rgL 9 hS0 HSO1 ?_
 refine rgT 10 hS0 ?_
 refine rgT 11 hS0 ?_
 refine rgT 12 hS0 ?_
 refine rgL 13 hS0 HSO1 ?_
 refine rgT 14 hS0 ?_
 refine rgT 15 hS0 ?_
 refine wpAnyH_done (by kernel_rfl) ?_ _
 go_wp2_with fail
 go_ret
 exact ⟨rfl, rfl⟩
end Go.Proofs.YtnnhopcjlnnchaaGreat

/- Raw writes: writeBlock. -/
namespace Go.Proofs.YtnnhopcjlnnchaaGreat
open Go.RowKit

set_option maxHeartbeats 4000000 in
theorem writeb_c (m nb n1 n2 n3 n4 b off b2 off2 b3 off3 tg td tr m10 d10 l C l3 c3 lb cb : Nat) (ab : Option Addr) (sp : Int) (bs : List UInt8) (fb : List Nat) {u0 u1 u2 u3 u4 u5 u6 u7 u8 u10 u11 u14 : Value} {wr st : Int} {v0 v1 : Value} {E0 E1 E2 E3 E4 : TypeId} (w : World) (hb0 : w.heap[nb]? = some (.cells #[.int .i64 sp, .slice ab lb cb] E0 (0, 0))) (h1 : w.heap[n1]? = some (.cells #[.pointer (some ⟨m, 0, none⟩)] E1 (0, 0))) (h2 : w.heap[n2]? = some (.cells #[.int .i64 tg] E2 (0, 0))) (h3 : w.heap[n3]? = some (.cells #[.int .i64 td] E3 (0, 0))) (h4 : w.heap[n4]? = some (.cells #[.int .i64 tr] E4 (0, 0)))
  (h : w.heap[m]? = some (.cells #[u0, u1, u2, u3, u4, u5, u6, u7, u8, .slice (some ⟨b, off, none⟩) m10 d10, u10, u11, .int .i64 wr, .int .i64 st, u14] 40 (0, 0))) (hc : w.cell? ⟨b, off + tg, none⟩ = some (.slice (some ⟨b2, off2, none⟩) l C)) (hd : w.cell? ⟨b2, off2 + td * 2 + 1, none⟩ = some (.slice (some ⟨b3, off3, none⟩) l3 c3)) (htg : tg < m10) (htd : td < l) (htr : tr < l3) (hbl : b < w.heap.size) (hbl2 : b2 < w.heap.size)
  (hv0 : w.cell? ⟨b3, off3 + tr * 2, none⟩ = some v0) (hv1 : w.cell? ⟨b3, off3 + tr * 2 + 1, none⟩ = some v1) (hlo : Loose w b3) (hs : byteL.sl w ab lb cb bs fb) (hlb : lb ≤ 1048576) :
  Calls Tryz.prog 137 #[.pointer (some ⟨nb, 0, none⟩), .pointer (some ⟨n1, 0, none⟩), .pointer (some ⟨n2, 0, none⟩), .pointer (some ⟨n3, 0, none⟩), .pointer (some ⟨n4, 0, none⟩)] w fun e w' => e = .returned (.tuple #[]) ∧ ∃ p4 d4 g4 wz, Chg [] w wz ∧ byteL.sl wz p4 lb d4 bs g4 ∧ Fresh w.heap.size wz g4 ∧ w' = (wz.setCell ⟨b3, off3 + tr * 2, none⟩ (.int .i64 sp)).setCell ⟨b3, off3 + tr * 2 + 1, none⟩ (.slice p4 lb d4) := by
 have HB := Lib.hid hb0; have H1 := Lib.hid h1; have H2 := Lib.hid h2; have H3 := Lib.hid h3; have H4 := Lib.hid h4; have HM := Lib.hid h; have HC := Lib.hid hc; have HD := Lib.hid hd; have HV0 := Lib.hid hv0; have HV1 := Lib.hid hv1; have HLo := Lib.hid hlo; have HS := Lib.hid hs; have LB := Lib.hid hs.1.symm
 have hbl3 := hlo.lt
 clear hb0 h1 h2 h3 h4 h hc hd hv0 hv1 hlo hs
 go_enter Tryz.func137, Tryz.ntmps137
 go_wp2_with fail
 obtain ⟨CC, HCI, HCO⟩ := rg_cond (fun w' => Know nb #[.int .i64 sp, .slice ab lb cb] w' ∧ Know n1 #[.pointer (some ⟨m, 0, none⟩)] w' ∧ Know n2 #[.int .i64 tg] w' ∧ Know n3 #[.int .i64 td] w' ∧ Know n4 #[.int .i64 tr] w' ∧ Know m #[u0, u1, u2, u3, u4, u5, u6, u7, u8, .slice (some ⟨b, off, none⟩) m10 d10, u10, u11, .int .i64 wr, .int .i64 st, u14] w' ∧ w'.cell? ⟨b, off + tg, none⟩ = some (.slice (some ⟨b2, off2, none⟩) l C) ∧ w'.cell? ⟨b2, off2 + td * 2 + 1, none⟩ = some (.slice (some ⟨b3, off3, none⟩) l3 c3))
 refine gg_start [19] CC (by kernel_rfl) (HCI.out _ ⟨(Know.of (keep_drew HB.out)), (Know.of (keep_drew H1.out)), (Know.of (keep_drew H2.out)), (Know.of (keep_drew H3.out)), (Know.of (keep_drew H4.out)), (Know.of (keep_drew HM.out)), HC.out, HD.out⟩) (fun hcl hS => ?_)
 refine ggL 0 hcl hS HCO ?_; clear hcl hS; intro hcl hS
 refine ggT 1 hcl hS ?_; clear hcl hS; intro hcl hS
 refine ggT 2 hcl hS ?_; clear hcl hS; intro hcl hS
 refine ggL 3 hcl hS HCO ?_; clear hcl hS; intro hcl hS
 refine ggL 4 hcl hS HCO ?_; clear hcl hS; intro hcl hS
 refine ggT 5 hcl hS ?_; clear hcl hS; intro hcl hS
 refine ggL 6 hcl hS HCO ?_; clear hcl hS; intro hcl hS
 refine ggL 7 hcl hS HCO ?_; clear hcl hS; intro hcl hS
 refine ggT 8 hcl hS ?_; clear hcl hS; intro hcl hS
 refine ggT 9 hcl hS ?_; clear hcl hS; intro hcl hS
 refine ggL 10 hcl hS HCO ?_; clear hcl hS; intro hcl hS
 refine ggL 11 hcl hS HCO ?_; clear hcl hS; intro hcl hS
 refine ggT 12 hcl hS ?_; clear hcl hS; intro hcl hS
 refine ggL 13 hcl hS HCO ?_; clear hcl hS; intro hcl hS
 refine ggT 14 hcl hS ?_; clear hcl hS; intro hcl hS
 refine ggL 15 hcl hS HCO ?_; clear hcl hS; intro hcl hS
 refine ggC 16 hcl rfl (by kernel_rfl) (fun K hK => ?_)
 go_simp
 go_at_call 67
 refine (cpyB_any ab lb cb bs fb _ (byteL.sl_ext HS.out ((Chg.refl [] w).drew)) (by omega)).mono ?_; rintro e w8 ⟨p4, d4, g4, rfl, hs, hf, hc⟩
 rw [LB.out] at hs ⊢; have HN1 := Lib.hid (And.intro hs (And.intro (hf.mono (C := w.heap.size) (Nat.le_refl _)) (((Chg.refl [] w).drew).trans0 hc))); obtain ⟨-, -, F0⟩ := bk hc (keep_drew HB.out) (by simp); obtain ⟨-, -, F1⟩ := bk hc (keep_drew H1.out) (by simp); obtain ⟨-, -, F2⟩ := bk hc (keep_drew H2.out) (by simp); obtain ⟨-, -, F3⟩ := bk hc (keep_drew H3.out) (by simp); obtain ⟨-, -, F4⟩ := bk hc (keep_drew H4.out) (by simp); obtain ⟨-, -, F5⟩ := bk hc (keep_drew HM.out) (by simp); have k1 := cellKeep HN1.out.2.2 HC.out hbl; have k2 := cellKeep HN1.out.2.2 HD.out hbl2; have k3 := cellKeep HN1.out.2.2 HV0.out hbl3; have k4 := cellKeep HN1.out.2.2 HV1.out hbl3; have fz := (HN1.out.2.2.loose b3 HLo.out).free; have ql := HN1.out.2.2.size; have hl8 : b3 < w8.heap.size := Nat.lt_of_lt_of_le hbl3 ql; clear hs hf hc
 go_wp2_with fail
 refine hK.out _ _ (fun _ => HCI.out _ ⟨(Know.of F0.out), (Know.of F1.out), (Know.of F2.out), (Know.of F3.out), (Know.of F4.out), (Know.of F5.out), k1, k2⟩) ?_
 clear hK K hcl hS
 intro hcl hS
 try simp only [Act.put, List.setIfInBounds_toArray, List.set_cons_zero, List.set_cons_succ]
 refine ggT 17 hcl hS ?_; clear hcl hS; intro hcl hS
 refine ggT 18 hcl hS ?_; clear hcl hS; intro hcl hS
 refine ggC 19 hcl rfl (by kernel_rfl) (fun K hK => ?_)
 go_simp
 refine hK.out _ _ (Till.done (m := 19) (by simp) (by rfl)) ?_
 clear hK K hcl hS
 intro hcl hS
 try simp only [Act.put, List.setIfInBounds_toArray, List.set_cons_zero, List.set_cons_succ]
 refine ggEnd (by kernel_rfl) ?_ _
 go_wp2_with fail
 refine bodyPost_end (v := .tuple #[]) (by simp [results, Tryz.results137, go_sem]) rfl ⟨rfl, p4, d4, g4, w8, HN1.out.2.2, HN1.out.1, HN1.out.2.1, rfl⟩

set_option maxHeartbeats 2000000 in
theorem rawb_ok1 (m : Nat) (c0 c1 c2 c3 c4 : Value) {u0 u1 u2 u3 u4 u5 u6 u7 u8 u9 u10 u11 u14 : Value} {wr st : Int} (w : World) (R : World → Prop) (h : w.heap[m]? = some (.cells #[u0, u1, u2, u3, u4, u5, u6, u7, u8, u9, u10, u11, .int .i64 wr, .int .i64 st, u14] 40 (0, 0))) (h1 : st = -1) (hw : 0 ≤ wr ∧ wr ≤ 1000000000)
  (hF : Calls Tryz.prog 137 #[c0, c1, c2, c3, c4] w.drew fun e w' => e = .returned (.tuple #[]) ∧ R w') (hR : ∀ w', R w' → w'.heap[m]? = some (.cells #[u0, u1, u2, u3, u4, u5, u6, u7, u8, u9, u10, u11, .int .i64 wr, .int .i64 st, u14] 40 (0, 0))) :
  Calls Tryz.prog 135 #[.pointer (some ⟨m, 0, none⟩), .func (.func 137) #[] #[c0, c1, c2, c3, c4]] w fun e w' => e = .returned (.bool true) ∧ ∃ w1, R w1 ∧ w' = w1.setCell ⟨m, 12, none⟩ (.int .i64 (wr + 1)) := by
 have hne : ((st : Int) != -1) = false := by simp [h1]
 have HM := Lib.hid h; have HRR := Lib.hid hR; have HFF := Lib.hid hF
 have H1 := Lib.hid h1
 clear h hR hF h1
 go_enter Tryz.func135, Tryz.ntmps135
 go_wp2_with fail
 obtain ⟨SS1, HSI1, HSO1⟩ := rg_cond (fun w' => Know m #[u0, u1, u2, u3, u4, u5, u6, u7, u8, u9, u10, u11, .int .i64 wr, .int .i64 st, u14] w')
 have hS0 := HSI1.out _ (Know.of (keep_drew HM.out))
 refine rg_start SS1 (by kernel_rfl) hS0 ?_
 refine rgT 0 hS0 ?_
 refine rgT 1 hS0 ?_
 refine rgT 2 hS0 ?_
 refine rgL 3 hS0 HSO1 ?_
 refine rgT 4 hS0 ?_
 refine rgT 5 hS0 ?_
 refine rgS 6 hS0 ?_
 refine rgS 7 hS0 ?_
 refine rgS 8 hS0 ?_
 refine rgS 9 hS0 ?_
 refine rgS 10 hS0 ?_
 refine rgS 11 hS0 ?_
 refine rgS 12 hS0 ?_
 refine rgS 13 hS0 ?_
 refine rgS 14 hS0 ?_
 refine rgT 15 hS0 ?_
 refine wpAnyH_done (by kernel_rfl) ?_ _
 go_wp2_with fail
 refine HFF.out.mono ?_
 rintro e w1 ⟨rfl, hr⟩
 have hm1 := HRR.out w1 hr
 have HR1 := Lib.hid hr
 have cm := cellsOf hm1; have nm := ltOf hm1; have fm := freeOf hm1
 clear hm1 hr
 go_wp2_with fail
 go_ret
 exact ⟨rfl, w1, HR1.out, rfl⟩

set_option maxHeartbeats 2000000 in
theorem rawb_ok2 (m : Nat) (c0 c1 c2 c3 c4 : Value) {u0 u1 u2 u3 u4 u5 u6 u7 u8 u9 u10 u11 u14 : Value} {wr st : Int} (w : World) (R : World → Prop) (h : w.heap[m]? = some (.cells #[u0, u1, u2, u3, u4, u5, u6, u7, u8, u9, u10, u11, .int .i64 wr, .int .i64 st, u14] 40 (0, 0))) (h1 : st ≠ -1 ∧ wr < st) (hw : 0 ≤ wr ∧ wr ≤ 1000000000)
  (hF : Calls Tryz.prog 137 #[c0, c1, c2, c3, c4] w.drew fun e w' => e = .returned (.tuple #[]) ∧ R w') (hR : ∀ w', R w' → w'.heap[m]? = some (.cells #[u0, u1, u2, u3, u4, u5, u6, u7, u8, u9, u10, u11, .int .i64 wr, .int .i64 st, u14] 40 (0, 0))) :
  Calls Tryz.prog 135 #[.pointer (some ⟨m, 0, none⟩), .func (.func 137) #[] #[c0, c1, c2, c3, c4]] w fun e w' => e = .returned (.bool true) ∧ ∃ w1, R w1 ∧ w' = w1.setCell ⟨m, 12, none⟩ (.int .i64 (wr + 1)) := by
 have hne : ((st : Int) != -1) = true := by simpa using h1.1
 have hlt : ¬ st ≤ wr := by omega
 have HM := Lib.hid h; have HRR := Lib.hid hR; have HFF := Lib.hid hF
 have H1 := Lib.hid h1
 clear h hR hF h1
 go_enter Tryz.func135, Tryz.ntmps135
 go_wp2_with fail
 obtain ⟨SS1, HSI1, HSO1⟩ := rg_cond (fun w' => Know m #[u0, u1, u2, u3, u4, u5, u6, u7, u8, u9, u10, u11, .int .i64 wr, .int .i64 st, u14] w')
 have hS0 := HSI1.out _ (Know.of (keep_drew HM.out))
 refine rg_start SS1 (by kernel_rfl) hS0 ?_
 refine rgT 0 hS0 ?_
 refine rgT 1 hS0 ?_
 refine rgT 2 hS0 ?_
 refine rgL 3 hS0 HSO1 ?_
 refine rgT 4 hS0 ?_
 refine rgT 5 hS0 ?_
 refine rgT 6 hS0 ?_
 refine rgT 7 hS0 ?_
 refine rgT 8 hS0 ?_
 refine rgL 9 hS0 HSO1 ?_
 refine rgT 10 hS0 ?_
 refine rgT 11 hS0 ?_
 refine rgT 12 hS0 ?_
 refine rgL 13 hS0 HSO1 ?_
 refine rgT 14 hS0 ?_
 refine rgT 15 hS0 ?_
 refine wpAnyH_done (by kernel_rfl) ?_ _
 go_wp2_with fail
 refine HFF.out.mono ?_
 rintro e w1 ⟨rfl, hr⟩
 have hm1 := HRR.out w1 hr
 have HR1 := Lib.hid hr
 have cm := cellsOf hm1; have nm := ltOf hm1; have fm := freeOf hm1
 clear hm1 hr
 go_wp2_with fail
 go_ret
 exact ⟨rfl, w1, HR1.out, rfl⟩

set_option maxHeartbeats 2000000 in
theorem writeb_fail (m : Nat) (tg td tr : Int) (ab : Option Addr) (lb cb : Nat) (sp : Int) {u0 u1 u2 u3 u4 u5 u6 u7 u8 u9 u10 u11 u14 : Value} {wr st : Int} (w : World) (h : w.heap[m]? = some (.cells #[u0, u1, u2, u3, u4, u5, u6, u7, u8, u9, u10, u11, .int .i64 wr, .int .i64 st, u14] 40 (0, 0))) (h1 : st ≠ -1) (h2 : st ≤ wr) :
  Calls Tryz.prog 98 #[.pointer (some ⟨m, 0, none⟩), .int .i64 tg, .int .i64 td, .int .i64 tr, .agg #[.int .i64 sp, .slice ab lb cb]] w fun e w' => e = .returned (.bool false) ∧ w'.heap[m]? = some (.cells #[u0, u1, u2, u3, u4, u5, u6, u7, u8, u9, .slice none 0 0, u11, .int .i64 wr, .int .i64 st, .bool true] 40 (0, 0)) ∧ Chg [m] w w' := by
 have HM := Lib.hid h
 clear h
 go_enter Tryz.func98, Tryz.ntmps98
 go_wp2_with fail
 refine (raw_fail m _ _ (keep_alloc (keep_alloc (keep_alloc (keep_alloc (keep_alloc HM.out _) _) _) _) _) h1 h2).mono ?_
 rintro e w' ⟨rfl, hm, hc⟩
 have HN := Lib.hid (And.intro hm ((((((((Chg.refl [m] w).alloc _).alloc _).alloc _).alloc _).alloc _)).trans hc (fun y hy => .inl hy)))
 clear hm hc
 go_wp2_with fail
 go_ret
 exact ⟨rfl, HN.out.1, HN.out.2⟩
set_option maxHeartbeats 4000000 in
theorem writeb_ok (m b off b2 off2 b3 off3 tg td tr m10 d10 l C l3 c3 lb cb : Nat) (ab : Option Addr) (sp : Int) (bs : List UInt8) (fb : List Nat) {u0 u1 u2 u3 u4 u5 u6 u7 u8 u10 u11 u14 : Value} {wr st : Int} {v0 v1 : Value} (w : World) (h : w.heap[m]? = some (.cells #[u0, u1, u2, u3, u4, u5, u6, u7, u8, .slice (some ⟨b, off, none⟩) m10 d10, u10, u11, .int .i64 wr, .int .i64 st, u14] 40 (0, 0))) (h1 : st = -1 ∨ st ≠ -1 ∧ wr < st) (hw : 0 ≤ wr ∧ wr ≤ 1000000000)
  (hc : w.cell? ⟨b, off + tg, none⟩ = some (.slice (some ⟨b2, off2, none⟩) l C)) (hd : w.cell? ⟨b2, off2 + td * 2 + 1, none⟩ = some (.slice (some ⟨b3, off3, none⟩) l3 c3)) (htg : tg < m10) (htd : td < l) (htr : tr < l3) (hbl : b < w.heap.size) (hbl2 : b2 < w.heap.size)
  (hv0 : w.cell? ⟨b3, off3 + tr * 2, none⟩ = some v0) (hv1 : w.cell? ⟨b3, off3 + tr * 2 + 1, none⟩ = some v1) (hlo : Loose w b3) (hbm : b3 ≠ m) (hs : byteL.sl w ab lb cb bs fb) (hlb : lb ≤ 1048576) :
  Calls Tryz.prog 98 #[.pointer (some ⟨m, 0, none⟩), .int .i64 tg, .int .i64 td, .int .i64 tr, .agg #[.int .i64 sp, .slice ab lb cb]] w fun e w' => e = .returned (.bool true) ∧ ∃ p4 d4 g4 wz, Chg [] w wz ∧ byteL.sl wz p4 lb d4 bs g4 ∧ Fresh w.heap.size wz g4 ∧ w' = ((wz.setCell ⟨b3, off3 + tr * 2, none⟩ (.int .i64 sp)).setCell ⟨b3, off3 + tr * 2 + 1, none⟩ (.slice p4 lb d4)).setCell ⟨m, 12, none⟩ (.int .i64 (wr + 1)) := by
 have G0 := Lib.hid (show Chg [] w (((((w.alloc (.cells #[.pointer (some ⟨m, 0, none⟩)] 106)).alloc (.cells #[.int .i64 tg] 2)).alloc (.cells #[.int .i64 td] 2)).alloc (.cells #[.int .i64 tr] 2)).alloc (.cells #[.int .i64 sp, .slice ab lb cb] 32)) from (((((Chg.refl [] w).alloc _).alloc _).alloc _).alloc _).alloc _)
 have B0 := Lib.hid (show (((((w.alloc (.cells #[.pointer (some ⟨m, 0, none⟩)] 106)).alloc (.cells #[.int .i64 tg] 2)).alloc (.cells #[.int .i64 td] 2)).alloc (.cells #[.int .i64 tr] 2)).alloc (.cells #[.int .i64 sp, .slice ab lb cb] 32)).heap[w.heap.size]? = some (.cells #[.pointer (some ⟨m, 0, none⟩)] 106 (0, 0)) from keep_alloc (keep_alloc (keep_alloc (keep_alloc (new_alloc w _) _) _) _) _)
 have B1 := Lib.hid (show (((((w.alloc (.cells #[.pointer (some ⟨m, 0, none⟩)] 106)).alloc (.cells #[.int .i64 tg] 2)).alloc (.cells #[.int .i64 td] 2)).alloc (.cells #[.int .i64 tr] 2)).alloc (.cells #[.int .i64 sp, .slice ab lb cb] 32)).heap[w.heap.size + 1]? = some (.cells #[.int .i64 tg] 2 (0, 0)) from keep_alloc (keep_alloc (keep_alloc (new_at (by simp) _) _) _) _)
 have B2 := Lib.hid (show (((((w.alloc (.cells #[.pointer (some ⟨m, 0, none⟩)] 106)).alloc (.cells #[.int .i64 tg] 2)).alloc (.cells #[.int .i64 td] 2)).alloc (.cells #[.int .i64 tr] 2)).alloc (.cells #[.int .i64 sp, .slice ab lb cb] 32)).heap[w.heap.size + 2]? = some (.cells #[.int .i64 td] 2 (0, 0)) from keep_alloc (keep_alloc (new_at (by simp) _) _) _)
 have B3 := Lib.hid (show (((((w.alloc (.cells #[.pointer (some ⟨m, 0, none⟩)] 106)).alloc (.cells #[.int .i64 tg] 2)).alloc (.cells #[.int .i64 td] 2)).alloc (.cells #[.int .i64 tr] 2)).alloc (.cells #[.int .i64 sp, .slice ab lb cb] 32)).heap[w.heap.size + 3]? = some (.cells #[.int .i64 tr] 2 (0, 0)) from keep_alloc (new_at (by simp) _) _)
 have B4 := Lib.hid (show (((((w.alloc (.cells #[.pointer (some ⟨m, 0, none⟩)] 106)).alloc (.cells #[.int .i64 tg] 2)).alloc (.cells #[.int .i64 td] 2)).alloc (.cells #[.int .i64 tr] 2)).alloc (.cells #[.int .i64 sp, .slice ab lb cb] 32)).heap[w.heap.size + 4]? = some (.cells #[.int .i64 sp, .slice ab lb cb] 32 (0, 0)) from new_at (by simp) _)
 have HM := Lib.hid (show (((((w.alloc (.cells #[.pointer (some ⟨m, 0, none⟩)] 106)).alloc (.cells #[.int .i64 tg] 2)).alloc (.cells #[.int .i64 td] 2)).alloc (.cells #[.int .i64 tr] 2)).alloc (.cells #[.int .i64 sp, .slice ab lb cb] 32)).heap[m]? = some (.cells #[u0, u1, u2, u3, u4, u5, u6, u7, u8, .slice (some ⟨b, off, none⟩) m10 d10, u10, u11, .int .i64 wr, .int .i64 st, u14] 40 (0, 0)) from keep_alloc (keep_alloc (keep_alloc (keep_alloc (keep_alloc h _) _) _) _) _)
 have GD := G0.out.drew
 have HF := Lib.hid (writeb_c m (w.heap.size + 4) w.heap.size (w.heap.size + 1) (w.heap.size + 2) (w.heap.size + 3) b off b2 off2 b3 off3 tg td tr m10 d10 l C l3 c3 lb cb ab sp bs fb (((((w.alloc (.cells #[.pointer (some ⟨m, 0, none⟩)] 106)).alloc (.cells #[.int .i64 tg] 2)).alloc (.cells #[.int .i64 td] 2)).alloc (.cells #[.int .i64 tr] 2)).alloc (.cells #[.int .i64 sp, .slice ab lb cb] 32)).drew (keep_drew B4.out) (keep_drew B0.out) (keep_drew B1.out) (keep_drew B2.out) (keep_drew B3.out) (keep_drew HM.out) (cellKeep GD hc hbl) (cellKeep GD hd hbl2) htg htd htr (Nat.lt_of_lt_of_le hbl GD.size) (Nat.lt_of_lt_of_le hbl2 GD.size) (cellKeep GD hv0 hlo.lt) (cellKeep GD hv1 hlo.lt) (GD.loose b3 hlo) (byteL.sl_ext hs GD) hlb)
 have HR := Lib.hid (show ∀ w' : World, (∃ p4 d4 g4 wz, Chg [] (((((w.alloc (.cells #[.pointer (some ⟨m, 0, none⟩)] 106)).alloc (.cells #[.int .i64 tg] 2)).alloc (.cells #[.int .i64 td] 2)).alloc (.cells #[.int .i64 tr] 2)).alloc (.cells #[.int .i64 sp, .slice ab lb cb] 32)).drew wz ∧ byteL.sl wz p4 lb d4 bs g4 ∧ Fresh (((((w.alloc (.cells #[.pointer (some ⟨m, 0, none⟩)] 106)).alloc (.cells #[.int .i64 tg] 2)).alloc (.cells #[.int .i64 td] 2)).alloc (.cells #[.int .i64 tr] 2)).alloc (.cells #[.int .i64 sp, .slice ab lb cb] 32)).drew.heap.size wz g4 ∧ w' = (wz.setCell ⟨b3, off3 + tr * 2, none⟩ (.int .i64 sp)).setCell ⟨b3, off3 + tr * 2 + 1, none⟩ (.slice p4 lb d4)) → w'.heap[m]? = some (.cells #[u0, u1, u2, u3, u4, u5, u6, u7, u8, .slice (some ⟨b, off, none⟩) m10 d10, u10, u11, .int .i64 wr, .int .i64 st, u14] 40 (0, 0)) from by
  rintro w' ⟨p4, d4, g4, wz, hcz, -, -, rfl⟩
  exact keep_set (keep_set (hcz.keep0 (keep_drew HM.out)) _ _ (fun e => hbm e.symm)) _ _ (fun e => hbm e.symm))
 have HGD := Lib.hid GD
 clear h hc hd hv0 hv1 hlo hs GD
 go_enter Tryz.func98, Tryz.ntmps98
 go_wp2_with fail
 rcases h1 with h1 | h1
 ·refine (rawb_ok1 m _ _ _ _ _ _ _ HM.out h1 hw HF.out HR.out).mono ?_
  rintro e w' ⟨rfl, w1, ⟨p4, d4, g4, wz, q1, q2, q3, rfl⟩, rfl⟩
  have HN := Lib.hid (And.intro (HGD.out.trans0 q1) (And.intro q2 (q3.mono (C := w.heap.size) HGD.out.size)))
  clear q1 q2 q3
  go_wp2_with fail
  go_ret
  exact ⟨rfl, p4, d4, g4, wz, HN.out.1, HN.out.2.1, HN.out.2.2, rfl⟩
 ·refine (rawb_ok2 m _ _ _ _ _ _ _ HM.out h1 hw HF.out HR.out).mono ?_
  rintro e w' ⟨rfl, w1, ⟨p4, d4, g4, wz, q1, q2, q3, rfl⟩, rfl⟩
  have HN := Lib.hid (And.intro (HGD.out.trans0 q1) (And.intro q2 (q3.mono (C := w.heap.size) HGD.out.size)))
  clear q1 q2 q3
  go_wp2_with fail
  go_ret
  exact ⟨rfl, p4, d4, g4, wz, HN.out.1, HN.out.2.1, HN.out.2.2, rfl⟩
end Go.Proofs.YtnnhopcjlnnchaaGreat

/- The blocks of a drive in a slice may change. No function of the program in sight. -/
namespace Go.Proofs.YtnnhopcjlnnchaaGreat
open Go.RowKit

theorem drv_mod {w : World} {b off len cap : Nat} {xs : List Drv} {fp : List Nat} (h : drvL.sl w (some ⟨b, off, none⟩) len cap xs fp) (nd : fp.Nodup) {i : Nat} (hi : i < len) :
  ∃ D A l C f, xs[i]? = some D ∧ w.cell? ⟨b, off + i * 2, none⟩ = some (.bool D.wiped) ∧ w.cell? ⟨b, off + i * 2 + 1, none⟩ = some (.slice A l C) ∧ blkL.sl w A l C D.blocks f ∧ (∀ y ∈ f, y ∈ fp) ∧ f.Nodup ∧ b ∉ f ∧ b ∈ fp ∧
   ∀ w' bs f', blkL.sl w' A l C bs f' → f'.Nodup → (∀ y ∈ f', y ∈ f ∨ y ∉ fp) → (∀ y ∈ fp, y ∉ f → w'.heap[y]? = w.heap[y]?) →
    ∃ fp', drvL.sl w' (some ⟨b, off, none⟩) len cap (xs.set i { D with blocks := bs }) fp' ∧ fp'.Nodup ∧ ∀ y ∈ fp', (y ∈ fp ∧ y ∉ f) ∨ y ∈ f' := by
 obtain ⟨D, c, f, hx, hb, hc, hr, hf, hfn, hbf, hup⟩ := drvL.sl_modN h nd hi
 obtain ⟨A, l, C, f1, rfl, hs, hff⟩ := drvL_iff.1 hr
 obtain rfl : f = f1 := by simpa using hff
 exact ⟨D, A, l, C, f, hx, hc 0 (by decide), hc 1 (by decide), hs, hf, hfn, hbf, hb, fun w' bs f' h1 => hup w' { D with blocks := bs } f' (drvL_iff.2 ⟨A, l, C, f', rfl, h1, by simp⟩)⟩
end Go.Proofs.YtnnhopcjlnnchaaGreat

/- WriteBlock: both sides. -/
namespace Go.Proofs.YtnnhopcjlnnchaaGreat
open Go.RowKit

theorem up_parts {x : Wld} (h : x.up = 0) : x.fault = 0 ∧ x.down = false ∧ x.built ∧ x.nums ∧ x.shape.ok := by
 have hf : x.fault = 0 := by
  unfold Wld.up at h
  split at h
  ·assumption
  ·exact h
 have hd : x.down = false := by
  unfold Wld.up at h
  rw [if_pos hf] at h
  cases hd : x.down
  ·rfl
  ·rw [if_pos hd] at h; omega
 refine ⟨hf, hd, Classical.byContradiction (fun hn => ?_), Classical.byContradiction (fun hn => ?_), rows_ok hf⟩
 ·unfold Wld.fault at hf
  rw [pb_false (P := x.built ∧ x.onOk ∧ x.tapes.length = 2) (fun g => hn g.1)] at hf
  split at hf <;> simp at hf
 ·unfold Wld.fault at hf
  rw [pb_false (P := x.nums) hn] at hf
  simp only [Bool.false_eq_true, if_false] at hf
  split at hf
  ·split at hf
   ·split at hf
    ·omega
    ·contradiction
   ·omega
  ·omega
/-- an element of a slice of slices may change -/
theorem slc_mod {α : Type} {M : Lay α} {w : World} {b off len cap : Nat} {xs : List (List α)} {fp : List Nat} (h : M.slice.sl w (some ⟨b, off, none⟩) len cap xs fp) (nd : fp.Nodup) {i : Nat} (hi : i < len) :
  ∃ x A l C f, xs[i]? = some x ∧ w.cell? ⟨b, off + i, none⟩ = some (.slice A l C) ∧ M.sl w A l C x f ∧ (∀ y ∈ f, y ∈ fp) ∧ f.Nodup ∧ b ∉ f ∧ b ∈ fp ∧
   ∀ w' x' f', M.sl w' A l C x' f' → f'.Nodup → (∀ y ∈ f', y ∈ f ∨ y ∉ fp) → (∀ y ∈ fp, y ∉ f → w'.heap[y]? = w.heap[y]?) →
    ∃ fp', M.slice.sl w' (some ⟨b, off, none⟩) len cap (xs.set i x') fp' ∧ fp'.Nodup ∧ ∀ y ∈ fp', (y ∈ fp ∧ y ∉ f) ∨ y ∈ f' := by
 obtain ⟨x, c, f, hx, hb, hc, ⟨A, l, C, rfl, hs⟩, hf, hfn, hbf, hup⟩ := M.slice.sl_modN h nd hi
 have h0 := hc 0 M.slice.pos
 rw [show off + i * M.slice.n + 0 = off + i by simp [Lay.slice]] at h0
 exact ⟨x, A, l, C, f, hx, h0, hs, hf, hfn, hbf, hb, fun w' x' f' h1 => hup w' x' f' ⟨A, l, C, rfl, h1⟩⟩

theorem writeR_bad {x : Wld} {g d r : Int} {y : Blk} (h : ¬ x.up = 0) : writeR x g d r y = ⟨x.up, zWld⟩ := if_pos h
theorem writeR_out {x : Wld} {g d r : Int} {y : Blk} (h : x.up = 0) (h2 : ¬ ((0 ≤ g ∧ g ≤ x.shape.all - 1) ∧ (0 ≤ d ∧ d ≤ x.shape.drives - 1) ∧ (0 ≤ r ∧ r ≤ x.shape.rows - 1))) : writeR x g d r y = ⟨3, zWld⟩ := by unfold writeR; rw [if_neg (fun g => g h), if_pos (pb_false (P := x.isGroup g ∧ x.isDrive d ∧ x.isRow r) h2)]
theorem writeR_form {x : Wld} {g d r : Int} {y : Blk} (h : x.up = 0) (h2 : ((0 ≤ g ∧ g ≤ x.shape.all - 1) ∧ (0 ≤ d ∧ d ≤ x.shape.drives - 1) ∧ (0 ≤ r ∧ r ≤ x.shape.rows - 1))) (h3 : ¬ y.ok) : writeR x g d r y = ⟨1, zWld⟩ := by unfold writeR; rw [if_neg (fun g => g h), if_neg (by rw [pb_true (P := x.isGroup g ∧ x.isDrive d ∧ x.isRow r) h2]; simp), if_pos (pb_false h3)]
theorem writeR_off {x : Wld} {g d r : Int} {y : Blk} (h : x.up = 0) (h2 : ((0 ≤ g ∧ g ≤ x.shape.all - 1) ∧ (0 ≤ d ∧ d ≤ x.shape.drives - 1) ∧ (0 ≤ r ∧ r ≤ x.shape.rows - 1))) (h3 : y.ok) (h4 : ¬ g ∈ x.on) : writeR x g d r y = ⟨8, zWld⟩ := by unfold writeR; rw [if_neg (fun g => g h), if_neg (by rw [pb_true (P := x.isGroup g ∧ x.isDrive d ∧ x.isRow r) h2]; simp), if_neg (by rw [pb_true h3]; simp), if_pos (pb_false h4)]
theorem writeR_fail {x : Wld} {g d r : Int} {y : Blk} (h : x.up = 0) (h2 : ((0 ≤ g ∧ g ≤ x.shape.all - 1) ∧ (0 ≤ d ∧ d ≤ x.shape.drives - 1) ∧ (0 ≤ r ∧ r ≤ x.shape.rows - 1))) (h3 : y.ok) (h4 : g ∈ x.on) (h5 : x.stop ≠ -1 ∧ x.stop ≤ x.writes) : writeR x g d r y = ⟨9, x.cut⟩ := by unfold writeR; rw [if_neg (fun g => g h), if_neg (by rw [pb_true (P := x.isGroup g ∧ x.isDrive d ∧ x.isRow r) h2]; simp), if_neg (by rw [pb_true h3]; simp), if_neg (by rw [pb_true h4]; simp)]; exact if_pos h5
theorem writeR_ok {x : Wld} {g d r : Nat} {y : Blk} {G : List Drv} {D : Drv} (h : x.up = 0) (h2 : (0 ≤ (g : Int) ∧ (g : Int) ≤ x.shape.all - 1) ∧ (0 ≤ (d : Int) ∧ (d : Int) ≤ x.shape.drives - 1) ∧ (0 ≤ (r : Int) ∧ (r : Int) ≤ x.shape.rows - 1)) (h3 : y.ok) (h4 : (g : Int) ∈ x.on) (h5 : ¬ (x.stop ≠ -1 ∧ x.stop ≤ x.writes)) (hG : x.groups[g]? = some G) (hD : G[d]? = some D) : writeR x g d r y = ⟨0, { x with groups := x.groups.set g (G.set d { D with blocks := D.blocks.set r y }), writes := x.writes + 1 }⟩ := by
 unfold writeR
 rw [if_neg (fun g => g h), if_neg (by rw [pb_true (P := x.isGroup g ∧ x.isDrive d ∧ x.isRow r) h2]; simp), if_neg (by rw [pb_true h3]; simp), if_neg (by rw [pb_true h4]; simp)]
 unfold Wld.raw
 rw [if_neg h5]
 have hG2 : x.groups.getD g [] = G := by rw [List.getD_eq_getElem?_getD, hG]; rfl
 have hD2 : G.getD d ⟨false, []⟩ = D := by rw [List.getD_eq_getElem?_getD, hD]; rfl
 show (⟨0, { x with groups := x.groups.set g ((x.groups.getD g []).set d { ((x.groups.getD g []).getD d ⟨false, []⟩) with blocks := ((x.groups.getD g []).getD d ⟨false, []⟩).blocks.set r y }), writes := x.writes + 1 }⟩ : WRes) = _
 rw [hG2, hD2]

set_option maxRecDepth 100000 in
set_option maxHeartbeats 8000000 in
theorem impl_WriteBlock (x : Wld) (cx : Array Value) (fx : List Nat) (g : Int) (d : Int) (r : Int) (y : Blk) (cy : Array Value) (fy : List Nat) (w : World) (hx : wldL.rep w cx.toList x fx) (hz : totWld x ≤ 1048576) (og : i64ok g) (od : i64ok d) (or : i64ok r) (hy : blkL.rep w cy.toList y fy) (hzy : totBlk y ≤ 1048576) :
  Calls Tryz.prog 42 #[.agg cx, .int .i64 g, .int .i64 d, .int .i64 r, .agg cy] w (NewAgg wrsL (writeR x g d r y) w) := by
 obtain ⟨a10, l10, c10, _, a11, l11, c11, f11, a12, l12, c12, _, ex, -, -, -, -, -, -, -, -, -, h10, h11, h12, oo13, oo14, -⟩ := wldL_iff.1 hx
 obtain rfl := Array.toList_inj.1 (ex.trans (List.toList_toArray).symm)
 have HW := Lib.hid hx; have HZ := Lib.hid hz; have H10 := Lib.hid h10; have H11 := Lib.hid h11; have H12 := Lib.hid h12; have HOO := Lib.hid (And.intro oo13 oo14)
 have hl11 : l11 ≤ 1048576 := by have h := h11.1; have q10 := totL_nonneg (totL_nonneg totDrv_nonneg) x.groups; have q12 := totL_nonneg totTap_nonneg x.tapes; unfold totWld totIs at hz; omega
 clear hx ex hz h10 h11 h12 oo13 oo14
 obtain ⟨ab, lb, cb, fb, exy, oky, hbb, -⟩ := blkL_iff.1 hy
 obtain rfl := Array.toList_inj.1 (exy.trans (List.toList_toArray).symm)
 have hlb : lb ≤ 1048576 := by have := hbb.1; unfold totBlk totBs at hzy; omega
 have HY := Lib.hid hy; have HBB := Lib.hid hbb; have HOY := Lib.hid oky; have HZY := Lib.hid hzy
 clear hy exy oky hbb hzy
 have G0 := Lib.hid (show Chg [] w (((w.alloc (.cells #[.int .i64 x.shape.groups, .int .i64 x.shape.column, .int .i64 x.shape.data, .int .i64 x.shape.spare, .int .i64 x.shape.rows, .int .i64 x.shape.cap, .int .i64 x.shape.batch, .int .i64 x.shape.queue, .int .i64 x.shape.stage, .slice a10 l10 c10, .slice a11 l11 c11, .slice a12 l12 c12, .int .i64 x.writes, .int .i64 x.stop, .bool x.down] 40)).alloc (.cells #[.int .i64 y.stamp, .slice ab lb cb] 32)).alloc (.cells #[.int .i64 0, .int .i64 0, .int .i64 0, .int .i64 0, .int .i64 0, .int .i64 0, .int .i64 0, .int .i64 0, .int .i64 0, .int .i64 0, .slice none 0 0, .slice none 0 0, .slice none 0 0, .int .i64 0, .int .i64 0, .bool false] 48)) from (Chg.alloc (Chg.alloc (Chg.alloc (Chg.refl [] w) _) _) _))
 have B0 := Lib.hid (show (((w.alloc (.cells #[.int .i64 x.shape.groups, .int .i64 x.shape.column, .int .i64 x.shape.data, .int .i64 x.shape.spare, .int .i64 x.shape.rows, .int .i64 x.shape.cap, .int .i64 x.shape.batch, .int .i64 x.shape.queue, .int .i64 x.shape.stage, .slice a10 l10 c10, .slice a11 l11 c11, .slice a12 l12 c12, .int .i64 x.writes, .int .i64 x.stop, .bool x.down] 40)).alloc (.cells #[.int .i64 y.stamp, .slice ab lb cb] 32)).alloc (.cells #[.int .i64 0, .int .i64 0, .int .i64 0, .int .i64 0, .int .i64 0, .int .i64 0, .int .i64 0, .int .i64 0, .int .i64 0, .int .i64 0, .slice none 0 0, .slice none 0 0, .slice none 0 0, .int .i64 0, .int .i64 0, .bool false] 48)).heap[w.heap.size]? = some (.cells #[.int .i64 x.shape.groups, .int .i64 x.shape.column, .int .i64 x.shape.data, .int .i64 x.shape.spare, .int .i64 x.shape.rows, .int .i64 x.shape.cap, .int .i64 x.shape.batch, .int .i64 x.shape.queue, .int .i64 x.shape.stage, .slice a10 l10 c10, .slice a11 l11 c11, .slice a12 l12 c12, .int .i64 x.writes, .int .i64 x.stop, .bool x.down] 40 (0, 0)) from keep_alloc (keep_alloc (new_alloc w _) _) _)
 have B1 := Lib.hid (show (((w.alloc (.cells #[.int .i64 x.shape.groups, .int .i64 x.shape.column, .int .i64 x.shape.data, .int .i64 x.shape.spare, .int .i64 x.shape.rows, .int .i64 x.shape.cap, .int .i64 x.shape.batch, .int .i64 x.shape.queue, .int .i64 x.shape.stage, .slice a10 l10 c10, .slice a11 l11 c11, .slice a12 l12 c12, .int .i64 x.writes, .int .i64 x.stop, .bool x.down] 40)).alloc (.cells #[.int .i64 y.stamp, .slice ab lb cb] 32)).alloc (.cells #[.int .i64 0, .int .i64 0, .int .i64 0, .int .i64 0, .int .i64 0, .int .i64 0, .int .i64 0, .int .i64 0, .int .i64 0, .int .i64 0, .slice none 0 0, .slice none 0 0, .slice none 0 0, .int .i64 0, .int .i64 0, .bool false] 48)).heap[w.heap.size + 1]? = some (.cells #[.int .i64 y.stamp, .slice ab lb cb] 32 (0, 0)) from keep_alloc (new_at (by simp) _) _)
 have B2 := Lib.hid (show (((w.alloc (.cells #[.int .i64 x.shape.groups, .int .i64 x.shape.column, .int .i64 x.shape.data, .int .i64 x.shape.spare, .int .i64 x.shape.rows, .int .i64 x.shape.cap, .int .i64 x.shape.batch, .int .i64 x.shape.queue, .int .i64 x.shape.stage, .slice a10 l10 c10, .slice a11 l11 c11, .slice a12 l12 c12, .int .i64 x.writes, .int .i64 x.stop, .bool x.down] 40)).alloc (.cells #[.int .i64 y.stamp, .slice ab lb cb] 32)).alloc (.cells #[.int .i64 0, .int .i64 0, .int .i64 0, .int .i64 0, .int .i64 0, .int .i64 0, .int .i64 0, .int .i64 0, .int .i64 0, .int .i64 0, .slice none 0 0, .slice none 0 0, .slice none 0 0, .int .i64 0, .int .i64 0, .bool false] 48)).heap[w.heap.size + 2]? = some (.cells #[.int .i64 0, .int .i64 0, .int .i64 0, .int .i64 0, .int .i64 0, .int .i64 0, .int .i64 0, .int .i64 0, .int .i64 0, .int .i64 0, .slice none 0 0, .slice none 0 0, .slice none 0 0, .int .i64 0, .int .i64 0, .bool false] 48 (0, 0)) from new_at (by simp) _)
 go_enter Tryz.func42, Tryz.ntmps42
 obtain ⟨q, hq⟩ : ∃ q, q = x.up := ⟨_, rfl⟩
 have HQ := Lib.hid hq; clear hq
 go_wp2_with (first | (refine load_wide rfl _ 40 rfl rfl infoWd Tryz.underlying40 B0.out rfl ?_))
 refine (upFault_any x #[.int .i64 x.shape.groups, .int .i64 x.shape.column, .int .i64 x.shape.data, .int .i64 x.shape.spare, .int .i64 x.shape.rows, .int .i64 x.shape.cap, .int .i64 x.shape.batch, .int .i64 x.shape.queue, .int .i64 x.shape.stage, .slice a10 l10 c10, .slice a11 l11 c11, .slice a12 l12 c12, .int .i64 x.writes, .int .i64 x.stop, .bool x.down] fx _ (wldL.ext HW.out G0.out)).mono ?_
 rintro e w1 ⟨rfl, hc⟩
 rw [← HQ.out]
 obtain ⟨c0, n0, A0_1⟩ := bk hc B0.out (by simp)
 obtain ⟨c1, n1, A1_1⟩ := bk hc B1.out (by simp)
 obtain ⟨c2, n2, A2_1⟩ := bk hc B2.out (by simp)
 have G1 := Lib.hid (G0.out.trans0 hc)
 have fz := freeOf A2_1.out
 clear hc
 have hqk : i64ok q := by rw [HQ.out]; exact up_i64 x
 by_cases hq0 : q = 0
 ·subst hq0
  have hf0 : x.up = 0 := HQ.out.symm
  obtain ⟨-, hdn0, hbt0, hnu0, hok⟩ := up_parts hf0
  have hdn := Lib.hid hdn0; have HBT := Lib.hid hbt0; have HNU := Lib.hid hnu0; clear hdn0 hbt0 hnu0
  by_cases hg : 0 ≤ g ∧ g ≤ x.shape.all - 1
  ·have HIg := Lib.hid (show inB g 0 (x.shape.all - 1) = true by simp [inB, hg.1, hg.2])
   go_wp2_with (first | (refine load_wide rfl _ 40 rfl rfl infoWd Tryz.underlying40 A0_1.out rfl ?_))
   refine (st_isGroup_any x.shape hok g _).mono ?_
   rintro e w2 ⟨rfl, hc⟩
   rw [HIg.out]
   clear c0 n0
   obtain ⟨c0, n0, A0_2⟩ := bk hc A0_1.out (by simp)
   clear c1 n1
   obtain ⟨c1, n1, A1_2⟩ := bk hc A1_1.out (by simp)
   clear c2 n2
   obtain ⟨c2, n2, A2_2⟩ := bk hc A2_1.out (by simp)
   have G2 := Lib.hid (G1.out.trans0 hc)
   clear fz; have fz := freeOf A2_2.out
   clear hc
   by_cases hd : 0 ≤ d ∧ d ≤ x.shape.drives - 1
   ·have HId := Lib.hid (show inB d 0 (x.shape.drives - 1) = true by simp [inB, hd.1, hd.2])
    go_wp2_with (first | (refine load_wide rfl _ 40 rfl rfl infoWd Tryz.underlying40 A0_2.out rfl ?_))
    refine (st_isDrive_any x.shape hok d _).mono ?_
    rintro e w3 ⟨rfl, hc⟩
    rw [HId.out]
    clear c0 n0
    obtain ⟨c0, n0, A0_3⟩ := bk hc A0_2.out (by simp)
    clear c1 n1
    obtain ⟨c1, n1, A1_3⟩ := bk hc A1_2.out (by simp)
    clear c2 n2
    obtain ⟨c2, n2, A2_3⟩ := bk hc A2_2.out (by simp)
    have G3 := Lib.hid (G2.out.trans0 hc)
    clear fz; have fz := freeOf A2_3.out
    clear hc
    by_cases hr : 0 ≤ r ∧ r ≤ x.shape.rows - 1
    ·have HIr := Lib.hid (show inB r 0 (x.shape.rows - 1) = true by simp [inB, hr.1, hr.2])
     go_wp2_with (first | (refine load_wide rfl _ 40 rfl rfl infoWd Tryz.underlying40 A0_3.out rfl ?_))
     refine (st_isRow_any x.shape hok r _).mono ?_
     rintro e w4 ⟨rfl, hc⟩
     rw [HIr.out]
     clear c0 n0
     obtain ⟨c0, n0, A0_4⟩ := bk hc A0_3.out (by simp)
     clear c1 n1
     obtain ⟨c1, n1, A1_4⟩ := bk hc A1_3.out (by simp)
     clear c2 n2
     obtain ⟨c2, n2, A2_4⟩ := bk hc A2_3.out (by simp)
     have G4 := Lib.hid (G3.out.trans0 hc)
     clear fz; have fz := freeOf A2_4.out
     clear hc
     have h2 := And.intro hg (And.intro hd hr)
     by_cases hyo : y.ok
     ·go_wp2_with (first | (refine load_wide rfl _ 40 rfl rfl infoWd Tryz.underlying40 A0_4.out rfl ?_))
      refine (blockOK_any y ab lb cb fy _ (blkL.ext HY.out G4.out)).mono ?_
      rintro e w5 ⟨rfl, hc⟩
      rw [pb_true hyo]
      clear c0 n0
      obtain ⟨c0, n0, A0_5⟩ := bk hc A0_4.out (by simp)
      clear c1 n1
      obtain ⟨c1, n1, A1_5⟩ := bk hc A1_4.out (by simp)
      clear c2 n2
      obtain ⟨c2, n2, A2_5⟩ := bk hc A2_4.out (by simp)
      have G5 := Lib.hid (G4.out.trans0 hc)
      clear fz; have fz := freeOf A2_5.out
      clear hc
      by_cases hon : g ∈ x.on
      ·go_wp2_with (first | (refine load_wide rfl _ 40 rfl rfl infoWd Tryz.underlying40 A0_5.out rfl ?_))
       refine (st_isOn_any w.heap.size a11 l11 c11 x.on f11 g _ A0_5.out (intL.sl_ext H11.out G5.out)).mono ?_
       rintro e w' ⟨rfl, rfl⟩
       rw [pb_true hon]
       go_wp2_with (first | (refine load_wide rfl _ 40 rfl rfl infoWd Tryz.underlying40 A0_5.out rfl ?_))
       refine (cloneWorld_any x #[.int .i64 x.shape.groups, .int .i64 x.shape.column, .int .i64 x.shape.data, .int .i64 x.shape.spare, .int .i64 x.shape.rows, .int .i64 x.shape.cap, .int .i64 x.shape.batch, .int .i64 x.shape.queue, .int .i64 x.shape.stage, .slice a10 l10 c10, .slice a11 l11 c11, .slice a12 l12 c12, .int .i64 x.writes, .int .i64 x.stop, .bool x.down] fx _ (wldL.ext HW.out G5.out) HZ.out).mono ?_
       rintro e w6 ⟨cs2, f2, rfl, hs, hf, hc⟩
       obtain ⟨p10, m10, d10, g10, p11, m11, d11, g11, p12, m12, d12, g12, ex, o1, o2, o3, o4, o5, o6, o7, o8, o9, K10, K11, K12, o13, o14, rfl⟩ := wldL_iff.1 hs
       obtain rfl := Array.toList_inj.1 (ex.trans (List.toList_toArray).symm)
       have HO := Lib.hid (And.intro o1 (And.intro o2 (And.intro o3 (And.intro o4 (And.intro o5 (And.intro o6 (And.intro o7 (And.intro o8 (And.intro o9 (And.intro o13 o14))))))))))
       have HK := Lib.hid (And.intro K10 (And.intro K11 K12)); have HF := Lib.hid hf; have HFn := Lib.hid (fun b hb => (hf.2 b hb).1); have nR0 := n2
       clear hs ex K10 K11 K12 o1 o2 o3 o4 o5 o6 o7 o8 o9 o13 o14 hf
       clear c0 n0
       obtain ⟨c0, n0, A0_6⟩ := bk hc A0_5.out (by simp)
       clear c1 n1
       obtain ⟨c1, n1, A1_6⟩ := bk hc A1_5.out (by simp)
       clear c2 n2
       obtain ⟨c2, n2, A2_6⟩ := bk hc A2_5.out (by simp)
       have G6 := Lib.hid (G5.out.trans0 hc)
       clear fz; have fz := freeOf A2_6.out
       clear hc
       go_upto_region 11 with (refine store_wide rfl _ _ 40 rfl rfl rfl infoWd (new_alloc _ _) rfl rfl rfl ?_; intro w7 hm hc0)
       have hc : Chg [] w6 w7 := ((Chg.refl [] w6).alloc _).trans hc0 (fun y hy => .inr (by rw [List.mem_singleton] at hy; omega)); clear hc0
       have HM := Lib.hid hm; have cm := cellsOf hm; have nm := ltOf hm; have fm := freeOf hm; have nR : w.heap.size + 2 < w6.heap.size := n2; clear hm
       have hF := HF.out.lts; have HKe := Lib.hid (And.intro (drvL.slice.sl_ext HK.out.1 hc) (And.intro (intL.sl_ext HK.out.2.1 hc) (tapL.sl_ext HK.out.2.2 hc))); have HFe := Lib.hid ((HF.out.mono (C := w.heap.size) G5.out.size).chg hc)
       have HFl := Lib.hid hF; clear hF
       clear c0 n0
       obtain ⟨c0, n0, A0_7⟩ := bk hc A0_6.out (by simp)
       clear c1 n1
       obtain ⟨c1, n1, A1_7⟩ := bk hc A1_6.out (by simp)
       clear c2 n2
       obtain ⟨c2, n2, A2_7⟩ := bk hc A2_6.out (by simp)
       have G7 := Lib.hid (G6.out.trans0 hc)
       clear fz; have fz := freeOf A2_7.out
       clear hc
       by_cases hst : x.stop ≠ -1 ∧ x.stop ≤ x.writes
       ·have HST := Lib.hid hst; clear hst
        go_wp2_with fail
        refine (writeb_fail w6.heap.size g d r ab lb cb y.stamp w7 HM.out HST.out.1 HST.out.2).mono ?_
        rintro e w7 ⟨rfl, hm, hc⟩
        have hR := Lib.hid (hc.keepb A2_7.out (by simp; omega))
        have hnm : ∀ y ∈ g10 ++ (g11 ++ (g12 ++ [])), y ∉ [w6.heap.size] := fun y hy hm => by have := HFl.out y hy; rw [List.mem_singleton] at hm; omega
        obtain ⟨o1, o2, o3, o4, o5, o6, o7, o8, o9, o13, o14⟩ := HO.out
        have hsub : (g10 ++ ([] ++ (g12 ++ []))).Sublist (g10 ++ (g11 ++ (g12 ++ []))) := (List.Sublist.refl g10).append ((List.nil_sublist g11).append (List.Sublist.refl _))
        have HE := Lib.hid (And.intro (show wldL.rep w7 [.int .i64 x.shape.groups, .int .i64 x.shape.column, .int .i64 x.shape.data, .int .i64 x.shape.spare, .int .i64 x.shape.rows, .int .i64 x.shape.cap, .int .i64 x.shape.batch, .int .i64 x.shape.queue, .int .i64 x.shape.stage, .slice p10 m10 d10, .slice none 0 0, .slice p12 m12 d12, .int .i64 x.writes, .int .i64 x.stop, .bool true] _ _ from (wldL_iff.2 ⟨p10, m10, d10, g10, none, 0, 0, [], p12, m12, d12, g12, rfl, o1, o2, o3, o4, o5, o6, o7, o8, o9, drvL.slice.sl_chg HKe.out.1 hc (fun y hy => hnm y (by simp [hy])), nil_sl0 _ _, tapL.sl_chg HKe.out.2.2 hc (fun y hy => hnm y (by simp [hy])), o13, o14, rfl⟩ : wldL.rep _ _ x.cut _)) (And.intro (show Fresh w.heap.size w7 (g10 ++ ([] ++ (g12 ++ []))) from (HFe.out.chg hc).sub hsub) (And.intro (show Chg [] w w7 from G7.out.trans hc (fun y hy => .inr (by rw [List.mem_singleton] at hy; omega))) (show w.heap.size + 2 ∉ g10 ++ ([] ++ (g12 ++ [])) from fun hy => by have := HFn.out _ (hsub.subset hy); omega))))
        have HRR := Lib.hid hR.out; have HMR := Lib.hid (show w7.heap[w6.heap.size]? = some (.cells #[.int .i64 x.shape.groups, .int .i64 x.shape.column, .int .i64 x.shape.data, .int .i64 x.shape.spare, .int .i64 x.shape.rows, .int .i64 x.shape.cap, .int .i64 x.shape.batch, .int .i64 x.shape.queue, .int .i64 x.shape.stage, .slice p10 m10 d10, .slice none 0 0, .slice p12 m12 d12, .int .i64 x.writes, .int .i64 x.stop, .bool true] 40 (0, 0)) from hm)
        clear o1 o2 o3 o4 o5 o6 o7 o8 o9 o13 o14 hc hnm hsub hm cm nm fm
        go_wp2_with (refine load_wide rfl _ 40 rfl rfl infoWd Tryz.underlying40 HMR.out rfl ?_)
        refine (wrote_false _ _ _ _ _ _ _ _ _ _ _ _ _ _ _ _ _ _ _ _ _ _).mono ?_
        rintro e w8 ⟨rfl, hc8⟩
        have HE8 := Lib.hid (And.intro (wldL.ext HE.out.1 hc8) (And.intro (HE.out.2.1.chg hc8) (And.intro (HE.out.2.2.1.trans0 hc8) HE.out.2.2.2))); have HR8 := Lib.hid (hc8.keep0 HRR.out); clear hc8
        go_wp2_with (first | (refine store_wide rfl _ _ 48 rfl rfl rfl infoWR HR8.out rfl rfl rfl ?_; intro w9 hb9 hc9; have HB9 := Lib.hid hb9; have HC9 := Lib.hid hc9; clear hb9 hc9))
        refine bodyPost_ret (v := .agg #[.int .i64 9, .int .i64 x.shape.groups, .int .i64 x.shape.column, .int .i64 x.shape.data, .int .i64 x.shape.spare, .int .i64 x.shape.rows, .int .i64 x.shape.cap, .int .i64 x.shape.batch, .int .i64 x.shape.queue, .int .i64 x.shape.stage, .slice p10 m10 d10, .slice none 0 0, .slice p12 m12 d12, .int .i64 x.writes, .int .i64 x.stop, .bool true]) (results_wide _ _ Tryz.results42 rfl infoWR Tryz.underlying48 HB9.out rfl) rfl (fin9 9 ⟨by omega, by omega⟩ (writeR x g d r y) (writeR_fail hf0 h2 hyo hon HST.out) HE8.out.1 rfl HE8.out.2.1 HE8.out.2.2.1 HC9.out HE8.out.2.2.2 (by omega))
       ·have HST := Lib.hid hst; clear hst
        obtain ⟨tg, rfl⟩ : ∃ t : Nat, g = t := ⟨g.toNat, by omega⟩
        obtain ⟨td, rfl⟩ : ∃ t : Nat, d = t := ⟨d.toNat, by omega⟩
        obtain ⟨tr, rfl⟩ : ∃ t : Nat, r = t := ⟨r.toNat, by omega⟩
        have htg : tg < m10 := by have h1 := HKe.out.1.1; have h2 := HBT.out.1; omega
        obtain ⟨-, b, off, -, -, -, -, -, rfl, -, -⟩ := slc_at HKe.out.1 htg
        have nd := List.nodup_append.1 HFe.out.1
        obtain ⟨G, A, l, C, f, hGx, hcx, hGS, hfs, hfn, hbf, hb10, hup⟩ := slc_mod HKe.out.1 nd.1 htg
        have hGo := HBT.out.2 G (List.mem_of_getElem? hGx)
        have htd : td < l := by have h1 := hGS.1; have h2 := hGo.1; omega
        obtain ⟨-, b2, off2, -, -, -, -, -, rfl, -, -, -⟩ := drive_at hGS htd
        obtain ⟨D, A2, l2, C2, f2, hDx, -, hcd, hBS, hfs2, hfn2, hbf2, hb2, hup2⟩ := drv_mod hGS hfn htd
        have htr : tr < l2 := by have h1 := hBS.1; have h2 := (hGo.2 D (List.mem_of_getElem? hDx)).1; omega
        obtain ⟨B, b3, off3, a3, l3, c3, f3, HY3, rfl, hz0, hz1, -⟩ := block_at hBS htr
        have hb3 : b3 ∈ f2 := HY3.out.2.1
        have hb310 : b3 ∈ g10 := hfs b3 (hfs2 b3 hb3)
        have hb3m := HFl.out b3 (by simp [hb310]); have hbm := HFl.out b (by simp [hb10]); have hb2m := HFl.out b2 (by simp [hfs b2 hb2]); have hbn3 := HFn.out b3 (by simp [hb310])
        have hbl : b < w7.heap.size := Nat.lt_trans hbm nm; have hbl2 : b2 < w7.heap.size := Nat.lt_trans hb2m nm
        have hlo := (HFe.out.2 b3 (by simp [hb310])).2
        have hsto : x.stop = -1 ∨ x.stop ≠ -1 ∧ x.writes < x.stop := by have := HST.out; omega
        have hmb3 : ¬ w6.heap.size = b3 := by omega
        have hltg : ∀ y ∈ g10, y < w7.heap.size := fun y hy => Nat.lt_trans (HFl.out y (by simp [hy])) nm
        have hnmm : ∀ y ∈ g10 ++ (g11 ++ (g12 ++ [])), y ≠ w6.heap.size := fun y hy e => by have := HFl.out y hy; omega
        go_wp2_with fail
        refine (writeb_ok w6.heap.size b off b2 off2 b3 off3 tg td tr m10 d10 l C l2 C2 lb cb ab y.stamp y.bytes fb w7 HM.out hsto HNU.out.1 hcx hcd htg htd htr hbl hbl2 hz0 hz1 hlo (fun e => hmb3 e.symm) (byteL.sl_ext HBB.out G7.out) hlb).mono ?_
        rintro e w7 ⟨rfl, p4, d4, g4, wz, hcz, h4s, h4f, rfl⟩
        have hcW : Chg [b3, w6.heap.size] w7 (((wz.setCell ⟨b3, off3 + tr * 2, none⟩ (.int .i64 y.stamp)).setCell ⟨b3, off3 + tr * 2 + 1, none⟩ (.slice p4 lb d4)).setCell ⟨w6.heap.size, 12, none⟩ (.int .i64 (x.writes + 1))) := (((hcz.mono (T := [b3, w6.heap.size]) (by simp)).setCell _ _ (.inl (by simp))).setCell _ _ (.inl (by simp))).setCell _ _ (.inl (by simp))
        obtain ⟨fi, hSi, hsubi, hndi, -, -⟩ := blkL.sl_putN (blkL.sl_ext hBS hcz) hfn2 (i := tr) htr (vs := [.int .i64 y.stamp, .slice p4 lb d4]) (x' := y) (f' := g4) (blkL_iff.2 ⟨p4, lb, d4, g4, rfl, HOY.out, h4s, by simp⟩) (fun z hz hzf => absurd (h4f.2 z hz).1 (Nat.not_le.2 (hltg z (hfs z (hfs2 z hzf))))) h4f.1
        have hfil : ∀ z ∈ fi, z ≠ w6.heap.size := fun z hz e => by rcases hsubi z hz with h | h; exact hnmm z (by simp [hfs z (hfs2 z h)]) e; have := (h4f.2 z h).1; omega
        have hSW := blkL.sl_chg hSi ((Chg.refl [w6.heap.size] _).setCell ⟨w6.heap.size, 12, none⟩ (.int .i64 (x.writes + 1)) (.inl (by simp))) (fun z hz hm => hfil z hz (List.mem_singleton.1 hm))
        have hkeep : ∀ z ∈ g10, z ≠ b3 → (((wz.setCell ⟨b3, off3 + tr * 2, none⟩ (.int .i64 y.stamp)).setCell ⟨b3, off3 + tr * 2 + 1, none⟩ (.slice p4 lb d4)).setCell ⟨w6.heap.size, 12, none⟩ (.int .i64 (x.writes + 1))).heap[z]? = w7.heap[z]? := fun z hz h => hcW.block z (hltg z hz) (fun hm => by simp only [List.mem_cons, List.not_mem_nil, or_false] at hm; rcases hm with e | e; exact h e; exact hnmm z (by simp [hz]) e)
        obtain ⟨fj, hSj, hndj, hsubj⟩ := hup2 (((wz.setCell ⟨b3, off3 + tr * 2, none⟩ (.int .i64 y.stamp)).setCell ⟨b3, off3 + tr * 2 + 1, none⟩ (.slice p4 lb d4)).setCell ⟨w6.heap.size, 12, none⟩ (.int .i64 (x.writes + 1))) (D.blocks.set tr y) fi hSW hndi (fun z hz => by rcases hsubi z hz with h | h; exact .inl h; exact .inr (fun hf => absurd (h4f.2 z h).1 (Nat.not_le.2 (hltg z (hfs z hf))))) (fun z hz hzf => hkeep z (hfs z hz) (fun e => hzf (e ▸ hb3)))
        have hj : ∀ z ∈ fj, z ∈ f ∨ z ∈ g4 := fun z hz => by rcases hsubj z hz with ⟨h, -⟩ | h; exact .inl h; rcases hsubi z h with h | h; exact .inl (hfs2 z h); exact .inr h
        obtain ⟨fp', hS, hnd, hsub⟩ := hup (((wz.setCell ⟨b3, off3 + tr * 2, none⟩ (.int .i64 y.stamp)).setCell ⟨b3, off3 + tr * 2 + 1, none⟩ (.slice p4 lb d4)).setCell ⟨w6.heap.size, 12, none⟩ (.int .i64 (x.writes + 1))) (G.set td { D with blocks := D.blocks.set tr y }) fj hSj hndj (fun z hz => by rcases hj z hz with h | h; exact .inl h; exact .inr (fun hg => absurd (h4f.2 z h).1 (Nat.not_le.2 (hltg z hg)))) (fun z hz hzf => hkeep z hz (fun e => hzf (e ▸ hfs2 b3 hb3)))
        have hp : ∀ z ∈ fp', z ∈ g10 ∨ z ∈ g4 := fun z hz => by rcases hsub z hz with ⟨h, -⟩ | h; exact .inl h; rcases hj z h with h | h; exact .inl (hfs z h); exact .inr h
        have hn11 : ∀ y ∈ g11, y ∉ [b3, w6.heap.size] := fun y hy hm => by simp only [List.mem_cons, List.not_mem_nil, or_false] at hm; rcases hm with h | h; exact nd.2.2 b3 hb310 y (by simp [hy]) h.symm; exact hnmm y (by simp [hy]) h
        have hn12 : ∀ y ∈ g12, y ∉ [b3, w6.heap.size] := fun y hy hm => by simp only [List.mem_cons, List.not_mem_nil, or_false] at hm; rcases hm with h | h; exact nd.2.2 b3 hb310 y (by simp [hy]) h.symm; exact hnmm y (by simp [hy]) h
        have hFW : Fresh w.heap.size (((wz.setCell ⟨b3, off3 + tr * 2, none⟩ (.int .i64 y.stamp)).setCell ⟨b3, off3 + tr * 2 + 1, none⟩ (.slice p4 lb d4)).setCell ⟨w6.heap.size, 12, none⟩ (.int .i64 (x.writes + 1))) (fp' ++ (g11 ++ (g12 ++ []))) := (HFe.out.chg hcW).swap1 hnd (fun z hz => by rcases hp z hz with h | h; exact .inl h; exact .inr ⟨fun hall => absurd (h4f.2 z h).1 (Nat.not_le.2 (Nat.lt_trans (HFl.out z hall) nm)), Nat.le_trans G7.out.size (h4f.2 z h).1, (((h4f.chg ((Chg.refl [b3] wz).setCell ⟨b3, off3 + tr * 2, none⟩ (.int .i64 y.stamp) (.inl (by simp)))).chg ((Chg.refl [b3] _).setCell ⟨b3, off3 + tr * 2 + 1, none⟩ (.slice p4 lb d4) (.inl (by simp)))).chg ((Chg.refl [w6.heap.size] _).setCell ⟨w6.heap.size, 12, none⟩ (.int .i64 (x.writes + 1)) (.inl (by simp)))).2 z h |>.2⟩)
        have hRn : w.heap.size + 2 ∉ fp' ++ (g11 ++ (g12 ++ [])) := fun hy => by
         rcases List.mem_append.1 hy with hy | hy
         ·rcases hp _ hy with h | h
          ·have := HFn.out (w.heap.size + 2) (by simp [h]); omega
          ·have := (h4f.2 _ h).1; omega
         ·have := HFn.out (w.heap.size + 2) (by simp only [List.mem_append] at hy ⊢; exact .inr hy); omega
        obtain ⟨o1, o2, o3, o4, o5, o6, o7, o8, o9, o13, o14⟩ := HO.out
        have ow : i64ok (x.writes + 1) := by have := HNU.out.1; constructor <;> omega
        have HE := Lib.hid (And.intro (show wldL.rep (((wz.setCell ⟨b3, off3 + tr * 2, none⟩ (.int .i64 y.stamp)).setCell ⟨b3, off3 + tr * 2 + 1, none⟩ (.slice p4 lb d4)).setCell ⟨w6.heap.size, 12, none⟩ (.int .i64 (x.writes + 1))) [.int .i64 x.shape.groups, .int .i64 x.shape.column, .int .i64 x.shape.data, .int .i64 x.shape.spare, .int .i64 x.shape.rows, .int .i64 x.shape.cap, .int .i64 x.shape.batch, .int .i64 x.shape.queue, .int .i64 x.shape.stage, .slice (some ⟨b, off, none⟩) m10 d10, .slice p11 m11 d11, .slice p12 m12 d12, .int .i64 (x.writes + 1), .int .i64 x.stop, .bool x.down] _ _ from (wldL_iff.2 ⟨_, m10, d10, fp', p11, m11, d11, g11, p12, m12, d12, g12, rfl, o1, o2, o3, o4, o5, o6, o7, o8, o9, hS, intL.sl_chg HKe.out.2.1 hcW hn11, tapL.sl_chg HKe.out.2.2 hcW hn12, ow, o14, rfl⟩ : wldL.rep _ _ ({ x with groups := x.groups.set tg (G.set td { D with blocks := D.blocks.set tr y }), writes := x.writes + 1 }) _)) (And.intro (show Fresh w.heap.size (((wz.setCell ⟨b3, off3 + tr * 2, none⟩ (.int .i64 y.stamp)).setCell ⟨b3, off3 + tr * 2 + 1, none⟩ (.slice p4 lb d4)).setCell ⟨w6.heap.size, 12, none⟩ (.int .i64 (x.writes + 1))) (fp' ++ (g11 ++ (g12 ++ []))) from hFW) (And.intro (show Chg [] w (((wz.setCell ⟨b3, off3 + tr * 2, none⟩ (.int .i64 y.stamp)).setCell ⟨b3, off3 + tr * 2 + 1, none⟩ (.slice p4 lb d4)).setCell ⟨w6.heap.size, 12, none⟩ (.int .i64 (x.writes + 1))) from G7.out.trans hcW (fun y hy => .inr (by have := G5.out.size; simp only [List.mem_cons, List.not_mem_nil, or_false] at hy; omega))) (show w.heap.size + 2 ∉ fp' ++ (g11 ++ (g12 ++ [])) from hRn))))
        have HRR := Lib.hid (hcW.keepb A2_7.out (by simp; omega)); have HMR := Lib.hid (show (((wz.setCell ⟨b3, off3 + tr * 2, none⟩ (.int .i64 y.stamp)).setCell ⟨b3, off3 + tr * 2 + 1, none⟩ (.slice p4 lb d4)).setCell ⟨w6.heap.size, 12, none⟩ (.int .i64 (x.writes + 1))).heap[w6.heap.size]? = some (.cells #[.int .i64 x.shape.groups, .int .i64 x.shape.column, .int .i64 x.shape.data, .int .i64 x.shape.spare, .int .i64 x.shape.rows, .int .i64 x.shape.cap, .int .i64 x.shape.batch, .int .i64 x.shape.queue, .int .i64 x.shape.stage, .slice (some ⟨b, off, none⟩) m10 d10, .slice p11 m11 d11, .slice p12 m12 d12, .int .i64 (x.writes + 1), .int .i64 x.stop, .bool x.down] 40 (0, 0)) from heap_set_lit (cur := #[.int .i64 x.shape.groups, .int .i64 x.shape.column, .int .i64 x.shape.data, .int .i64 x.shape.spare, .int .i64 x.shape.rows, .int .i64 x.shape.cap, .int .i64 x.shape.batch, .int .i64 x.shape.queue, .int .i64 x.shape.stage, .slice (some ⟨b, off, none⟩) m10 d10, .slice p11 m11 d11, .slice p12 m12 d12, .int .i64 x.writes, .int .i64 x.stop, .bool x.down]) (keep_set (keep_set (hcz.keep0 HM.out) _ _ hmb3) _ _ hmb3) rfl)
        have HGX := Lib.hid hGx; have HDX := Lib.hid hDx
        clear o1 o2 o3 o4 o5 o6 o7 o8 o9 o13 o14 hcW hn11 hn12 hS hsub hnd hSi hsubi hndi hfil hSW hkeep hSj hndj hsubj hj hp hFW hRn hltg hnmm nd hup hup2 hGS hBS hfs hfs2 hfn hfn2 hbf hbf2 hb10 hb2 hGx hDx hGo ow hcx hcd hz0 hz1 hlo h4s h4f hcz
        go_wp2_with (refine load_wide rfl _ 40 rfl rfl infoWd Tryz.underlying40 HMR.out rfl ?_)
        refine (wrote_true _ _ _ _ _ _ _ _ _ _ _ _ _ _ _ _ _ _ _ _ _ _).mono ?_
        rintro e w8 ⟨rfl, hc8⟩
        have HE8 := Lib.hid (And.intro (wldL.ext HE.out.1 hc8) (And.intro (HE.out.2.1.chg hc8) (And.intro (HE.out.2.2.1.trans0 hc8) HE.out.2.2.2))); have HR8 := Lib.hid (hc8.keep0 HRR.out); clear hc8
        go_wp2_with (first | (refine store_wide rfl _ _ 48 rfl rfl rfl infoWR HR8.out rfl rfl rfl ?_; intro w9 hb9 hc9; have HB9 := Lib.hid hb9; have HC9 := Lib.hid hc9; clear hb9 hc9))
        refine bodyPost_ret (v := .agg #[.int .i64 0, .int .i64 x.shape.groups, .int .i64 x.shape.column, .int .i64 x.shape.data, .int .i64 x.shape.spare, .int .i64 x.shape.rows, .int .i64 x.shape.cap, .int .i64 x.shape.batch, .int .i64 x.shape.queue, .int .i64 x.shape.stage, .slice (some ⟨b, off, none⟩) m10 d10, .slice p11 m11 d11, .slice p12 m12 d12, .int .i64 (x.writes + 1), .int .i64 x.stop, .bool x.down]) (results_wide _ _ Tryz.results42 rfl infoWR Tryz.underlying48 HB9.out rfl) rfl (fin9 0 ⟨by omega, by omega⟩ (writeR x tg td tr y) (writeR_ok hf0 h2 hyo hon HST.out HGX.out HDX.out) HE8.out.1 rfl HE8.out.2.1 HE8.out.2.2.1 HC9.out HE8.out.2.2.2 (by omega))
      ·go_wp2_with (first | (refine load_wide rfl _ 40 rfl rfl infoWd Tryz.underlying40 A0_5.out rfl ?_))
       refine (st_isOn_any w.heap.size a11 l11 c11 x.on f11 g _ A0_5.out (intL.sl_ext H11.out G5.out)).mono ?_
       rintro e w' ⟨rfl, rfl⟩
       rw [pb_false hon]
       go_wp2_with (first | (refine store_wide rfl _ _ 48 rfl rfl rfl infoWR A2_5.out rfl rfl rfl ?_; intro w9 hb9 hc9; have HB9 := Lib.hid hb9; have HC9 := Lib.hid hc9; clear hb9 hc9))
       refine bodyPost_ret (v := .agg #[.int .i64 (8), .int .i64 0, .int .i64 0, .int .i64 0, .int .i64 0, .int .i64 0, .int .i64 0, .int .i64 0, .int .i64 0, .int .i64 0, .slice none 0 0, .slice none 0 0, .slice none 0 0, .int .i64 0, .int .i64 0, .bool false]) (results_wide _ _ Tryz.results42 rfl infoWR Tryz.underlying48 HB9.out rfl) rfl (bad9 (8) (⟨by omega, by omega⟩) (writeR x g d r y) (writeR_off hf0 h2 hyo hon) G5.out HC9.out (by omega))
     ·go_wp2_with (first | (refine load_wide rfl _ 40 rfl rfl infoWd Tryz.underlying40 A0_4.out rfl ?_))
      refine (blockOK_any y ab lb cb fy _ (blkL.ext HY.out G4.out)).mono ?_
      rintro e w5 ⟨rfl, hc⟩
      rw [pb_false hyo]
      clear c0 n0
      obtain ⟨c0, n0, A0_5⟩ := bk hc A0_4.out (by simp)
      clear c1 n1
      obtain ⟨c1, n1, A1_5⟩ := bk hc A1_4.out (by simp)
      clear c2 n2
      obtain ⟨c2, n2, A2_5⟩ := bk hc A2_4.out (by simp)
      have G5 := Lib.hid (G4.out.trans0 hc)
      clear fz; have fz := freeOf A2_5.out
      clear hc
      go_wp2_with (first | (refine store_wide rfl _ _ 48 rfl rfl rfl infoWR A2_5.out rfl rfl rfl ?_; intro w9 hb9 hc9; have HB9 := Lib.hid hb9; have HC9 := Lib.hid hc9; clear hb9 hc9))
      refine bodyPost_ret (v := .agg #[.int .i64 (1), .int .i64 0, .int .i64 0, .int .i64 0, .int .i64 0, .int .i64 0, .int .i64 0, .int .i64 0, .int .i64 0, .int .i64 0, .slice none 0 0, .slice none 0 0, .slice none 0 0, .int .i64 0, .int .i64 0, .bool false]) (results_wide _ _ Tryz.results42 rfl infoWR Tryz.underlying48 HB9.out rfl) rfl (bad9 (1) (⟨by omega, by omega⟩) (writeR x g d r y) (writeR_form hf0 h2 hyo) G5.out HC9.out (by omega))
    ·have HIr := Lib.hid (show inB r 0 (x.shape.rows - 1) = false by unfold inB; simp; omega)
     go_wp2_with (first | (refine load_wide rfl _ 40 rfl rfl infoWd Tryz.underlying40 A0_3.out rfl ?_))
     refine (st_isRow_any x.shape hok r _).mono ?_
     rintro e w4 ⟨rfl, hc⟩
     rw [HIr.out]
     clear c0 n0
     obtain ⟨c0, n0, A0_4⟩ := bk hc A0_3.out (by simp)
     clear c1 n1
     obtain ⟨c1, n1, A1_4⟩ := bk hc A1_3.out (by simp)
     clear c2 n2
     obtain ⟨c2, n2, A2_4⟩ := bk hc A2_3.out (by simp)
     have G4 := Lib.hid (G3.out.trans0 hc)
     clear fz; have fz := freeOf A2_4.out
     clear hc
     go_wp2_with (first | (refine store_wide rfl _ _ 48 rfl rfl rfl infoWR A2_4.out rfl rfl rfl ?_; intro w9 hb9 hc9; have HB9 := Lib.hid hb9; have HC9 := Lib.hid hc9; clear hb9 hc9))
     refine bodyPost_ret (v := .agg #[.int .i64 (3), .int .i64 0, .int .i64 0, .int .i64 0, .int .i64 0, .int .i64 0, .int .i64 0, .int .i64 0, .int .i64 0, .int .i64 0, .slice none 0 0, .slice none 0 0, .slice none 0 0, .int .i64 0, .int .i64 0, .bool false]) (results_wide _ _ Tryz.results42 rfl infoWR Tryz.underlying48 HB9.out rfl) rfl (bad9 (3) (⟨by omega, by omega⟩) (writeR x g d r y) (writeR_out hf0 (fun h => hr h.2.2)) G4.out HC9.out (by omega))
   ·have HId := Lib.hid (show inB d 0 (x.shape.drives - 1) = false by unfold inB; simp; omega)
    go_wp2_with (first | (refine load_wide rfl _ 40 rfl rfl infoWd Tryz.underlying40 A0_2.out rfl ?_))
    refine (st_isDrive_any x.shape hok d _).mono ?_
    rintro e w3 ⟨rfl, hc⟩
    rw [HId.out]
    clear c0 n0
    obtain ⟨c0, n0, A0_3⟩ := bk hc A0_2.out (by simp)
    clear c1 n1
    obtain ⟨c1, n1, A1_3⟩ := bk hc A1_2.out (by simp)
    clear c2 n2
    obtain ⟨c2, n2, A2_3⟩ := bk hc A2_2.out (by simp)
    have G3 := Lib.hid (G2.out.trans0 hc)
    clear fz; have fz := freeOf A2_3.out
    clear hc
    go_wp2_with (first | (refine store_wide rfl _ _ 48 rfl rfl rfl infoWR A2_3.out rfl rfl rfl ?_; intro w9 hb9 hc9; have HB9 := Lib.hid hb9; have HC9 := Lib.hid hc9; clear hb9 hc9))
    refine bodyPost_ret (v := .agg #[.int .i64 (3), .int .i64 0, .int .i64 0, .int .i64 0, .int .i64 0, .int .i64 0, .int .i64 0, .int .i64 0, .int .i64 0, .int .i64 0, .slice none 0 0, .slice none 0 0, .slice none 0 0, .int .i64 0, .int .i64 0, .bool false]) (results_wide _ _ Tryz.results42 rfl infoWR Tryz.underlying48 HB9.out rfl) rfl (bad9 (3) (⟨by omega, by omega⟩) (writeR x g d r y) (writeR_out hf0 (fun h => hd h.2.1)) G3.out HC9.out (by omega))
  ·have HIg := Lib.hid (show inB g 0 (x.shape.all - 1) = false by unfold inB; simp; omega)
   go_wp2_with (first | (refine load_wide rfl _ 40 rfl rfl infoWd Tryz.underlying40 A0_1.out rfl ?_))
   refine (st_isGroup_any x.shape hok g _).mono ?_
   rintro e w2 ⟨rfl, hc⟩
   rw [HIg.out]
   clear c0 n0
   obtain ⟨c0, n0, A0_2⟩ := bk hc A0_1.out (by simp)
   clear c1 n1
   obtain ⟨c1, n1, A1_2⟩ := bk hc A1_1.out (by simp)
   clear c2 n2
   obtain ⟨c2, n2, A2_2⟩ := bk hc A2_1.out (by simp)
   have G2 := Lib.hid (G1.out.trans0 hc)
   clear fz; have fz := freeOf A2_2.out
   clear hc
   go_wp2_with (first | (refine store_wide rfl _ _ 48 rfl rfl rfl infoWR A2_2.out rfl rfl rfl ?_; intro w9 hb9 hc9; have HB9 := Lib.hid hb9; have HC9 := Lib.hid hc9; clear hb9 hc9))
   refine bodyPost_ret (v := .agg #[.int .i64 (3), .int .i64 0, .int .i64 0, .int .i64 0, .int .i64 0, .int .i64 0, .int .i64 0, .int .i64 0, .int .i64 0, .int .i64 0, .slice none 0 0, .slice none 0 0, .slice none 0 0, .int .i64 0, .int .i64 0, .bool false]) (results_wide _ _ Tryz.results42 rfl infoWR Tryz.underlying48 HB9.out rfl) rfl (bad9 (3) (⟨by omega, by omega⟩) (writeR x g d r y) (writeR_out hf0 (fun h => hg h.1)) G2.out HC9.out (by omega))
 ·have hb : ((q : Int) != 0) = true := by simpa using hq0
  go_wp2_with (first | (refine store_wide rfl _ _ 48 rfl rfl rfl infoWR A2_1.out rfl rfl rfl ?_; intro w9 hb9 hc9; have HB9 := Lib.hid hb9; have HC9 := Lib.hid hc9; clear hb9 hc9))
  refine bodyPost_ret (v := .agg #[.int .i64 (q), .int .i64 0, .int .i64 0, .int .i64 0, .int .i64 0, .int .i64 0, .int .i64 0, .int .i64 0, .int .i64 0, .int .i64 0, .slice none 0 0, .slice none 0 0, .slice none 0 0, .int .i64 0, .int .i64 0, .bool false]) (results_wide _ _ Tryz.results42 rfl infoWR Tryz.underlying48 HB9.out rfl) rfl (bad9 (q) (hqk) (writeR x g d r y) (by rw [writeR_bad (by rw [← HQ.out]; exact hq0), ← HQ.out]) G1.out HC9.out (by omega))
end Go.Proofs.YtnnhopcjlnnchaaGreat

/- WriteBlock: the specification. -/
namespace Go.Proofs.YtnnhopcjlnnchaaGreat
open Go.RowKit

theorem cellKeep3 {S : List Nat} {w w' : World} (hc : Chg S w w') {b o : Nat} {v : Value} (h : w.cell? ⟨b, o, none⟩ = some v) (hb : b < w.heap.size) (hS : b ∉ S) : w'.cell? ⟨b, o, none⟩ = some v := by
 rw [cell_same (hc.block b hb hS)]; exact h

set_option maxRecDepth 100000 in
set_option maxHeartbeats 8000000 in
theorem spec_WriteBlock (x : Wld) (cx : Array Value) (fx : List Nat) (g : Int) (d : Int) (r : Int) (y : Blk) (cy : Array Value) (fy : List Nat) (w : World) (hx : wldL.rep w cx.toList x fx) (hz : totWld x ≤ 1048576) (og : i64ok g) (od : i64ok d) (or : i64ok r) (hy : blkL.rep w cy.toList y fy) (hzy : totBlk y ≤ 1048576) :
  Calls Tryz.prog 40 #[.agg cx, .int .i64 g, .int .i64 d, .int .i64 r, .agg cy] w (NewAgg wrsL (writeR x g d r y) w) := by
 obtain ⟨a10, l10, c10, _, a11, l11, c11, f11, a12, l12, c12, _, ex, -, -, -, -, -, -, -, -, -, h10, h11, h12, oo13, oo14, -⟩ := wldL_iff.1 hx
 obtain rfl := Array.toList_inj.1 (ex.trans (List.toList_toArray).symm)
 have HW := Lib.hid hx; have HZ := Lib.hid hz; have H10 := Lib.hid h10; have H11 := Lib.hid h11; have H12 := Lib.hid h12; have HOO := Lib.hid (And.intro oo13 oo14)
 have hl11 : l11 ≤ 1048576 := by have h := h11.1; have q10 := totL_nonneg (totL_nonneg totDrv_nonneg) x.groups; have q12 := totL_nonneg totTap_nonneg x.tapes; unfold totWld totIs at hz; omega
 clear hx ex hz h10 h11 h12 oo13 oo14
 obtain ⟨ab, lb, cb, fb, exy, oky, hbb, -⟩ := blkL_iff.1 hy
 obtain rfl := Array.toList_inj.1 (exy.trans (List.toList_toArray).symm)
 have hlb : lb ≤ 1048576 := by have := hbb.1; unfold totBlk totBs at hzy; omega
 have HY := Lib.hid hy; have HBB := Lib.hid hbb; have HOY := Lib.hid oky; have HZY := Lib.hid hzy
 clear hy exy oky hbb hzy
 have G0 := Lib.hid (show Chg [] w (((w.alloc (.cells #[.int .i64 x.shape.groups, .int .i64 x.shape.column, .int .i64 x.shape.data, .int .i64 x.shape.spare, .int .i64 x.shape.rows, .int .i64 x.shape.cap, .int .i64 x.shape.batch, .int .i64 x.shape.queue, .int .i64 x.shape.stage, .slice a10 l10 c10, .slice a11 l11 c11, .slice a12 l12 c12, .int .i64 x.writes, .int .i64 x.stop, .bool x.down] 40)).alloc (.cells #[.int .i64 y.stamp, .slice ab lb cb] 32)).alloc (.cells #[.int .i64 0, .int .i64 0, .int .i64 0, .int .i64 0, .int .i64 0, .int .i64 0, .int .i64 0, .int .i64 0, .int .i64 0, .int .i64 0, .slice none 0 0, .slice none 0 0, .slice none 0 0, .int .i64 0, .int .i64 0, .bool false] 48)) from (Chg.alloc (Chg.alloc (Chg.alloc (Chg.refl [] w) _) _) _))
 have B0 := Lib.hid (show (((w.alloc (.cells #[.int .i64 x.shape.groups, .int .i64 x.shape.column, .int .i64 x.shape.data, .int .i64 x.shape.spare, .int .i64 x.shape.rows, .int .i64 x.shape.cap, .int .i64 x.shape.batch, .int .i64 x.shape.queue, .int .i64 x.shape.stage, .slice a10 l10 c10, .slice a11 l11 c11, .slice a12 l12 c12, .int .i64 x.writes, .int .i64 x.stop, .bool x.down] 40)).alloc (.cells #[.int .i64 y.stamp, .slice ab lb cb] 32)).alloc (.cells #[.int .i64 0, .int .i64 0, .int .i64 0, .int .i64 0, .int .i64 0, .int .i64 0, .int .i64 0, .int .i64 0, .int .i64 0, .int .i64 0, .slice none 0 0, .slice none 0 0, .slice none 0 0, .int .i64 0, .int .i64 0, .bool false] 48)).heap[w.heap.size]? = some (.cells #[.int .i64 x.shape.groups, .int .i64 x.shape.column, .int .i64 x.shape.data, .int .i64 x.shape.spare, .int .i64 x.shape.rows, .int .i64 x.shape.cap, .int .i64 x.shape.batch, .int .i64 x.shape.queue, .int .i64 x.shape.stage, .slice a10 l10 c10, .slice a11 l11 c11, .slice a12 l12 c12, .int .i64 x.writes, .int .i64 x.stop, .bool x.down] 40 (0, 0)) from keep_alloc (keep_alloc (new_alloc w _) _) _)
 have B1 := Lib.hid (show (((w.alloc (.cells #[.int .i64 x.shape.groups, .int .i64 x.shape.column, .int .i64 x.shape.data, .int .i64 x.shape.spare, .int .i64 x.shape.rows, .int .i64 x.shape.cap, .int .i64 x.shape.batch, .int .i64 x.shape.queue, .int .i64 x.shape.stage, .slice a10 l10 c10, .slice a11 l11 c11, .slice a12 l12 c12, .int .i64 x.writes, .int .i64 x.stop, .bool x.down] 40)).alloc (.cells #[.int .i64 y.stamp, .slice ab lb cb] 32)).alloc (.cells #[.int .i64 0, .int .i64 0, .int .i64 0, .int .i64 0, .int .i64 0, .int .i64 0, .int .i64 0, .int .i64 0, .int .i64 0, .int .i64 0, .slice none 0 0, .slice none 0 0, .slice none 0 0, .int .i64 0, .int .i64 0, .bool false] 48)).heap[w.heap.size + 1]? = some (.cells #[.int .i64 y.stamp, .slice ab lb cb] 32 (0, 0)) from keep_alloc (new_at (by simp) _) _)
 have B2 := Lib.hid (show (((w.alloc (.cells #[.int .i64 x.shape.groups, .int .i64 x.shape.column, .int .i64 x.shape.data, .int .i64 x.shape.spare, .int .i64 x.shape.rows, .int .i64 x.shape.cap, .int .i64 x.shape.batch, .int .i64 x.shape.queue, .int .i64 x.shape.stage, .slice a10 l10 c10, .slice a11 l11 c11, .slice a12 l12 c12, .int .i64 x.writes, .int .i64 x.stop, .bool x.down] 40)).alloc (.cells #[.int .i64 y.stamp, .slice ab lb cb] 32)).alloc (.cells #[.int .i64 0, .int .i64 0, .int .i64 0, .int .i64 0, .int .i64 0, .int .i64 0, .int .i64 0, .int .i64 0, .int .i64 0, .int .i64 0, .slice none 0 0, .slice none 0 0, .slice none 0 0, .int .i64 0, .int .i64 0, .bool false] 48)).heap[w.heap.size + 2]? = some (.cells #[.int .i64 0, .int .i64 0, .int .i64 0, .int .i64 0, .int .i64 0, .int .i64 0, .int .i64 0, .int .i64 0, .int .i64 0, .int .i64 0, .slice none 0 0, .slice none 0 0, .slice none 0 0, .int .i64 0, .int .i64 0, .bool false] 48 (0, 0)) from new_at (by simp) _)
 go_enter Tryz.func40, Tryz.ntmps40
 obtain ⟨q, hq⟩ : ∃ q, q = x.up := ⟨_, rfl⟩
 have HQ := Lib.hid hq; clear hq
 go_wp2_with (first | (refine load_wide rfl _ 40 rfl rfl infoWd Tryz.underlying40 B0.out rfl ?_))
 refine (l5Asked_any x #[.int .i64 x.shape.groups, .int .i64 x.shape.column, .int .i64 x.shape.data, .int .i64 x.shape.spare, .int .i64 x.shape.rows, .int .i64 x.shape.cap, .int .i64 x.shape.batch, .int .i64 x.shape.queue, .int .i64 x.shape.stage, .slice a10 l10 c10, .slice a11 l11 c11, .slice a12 l12 c12, .int .i64 x.writes, .int .i64 x.stop, .bool x.down] fx _ (wldL.ext HW.out G0.out)).mono ?_
 rintro e w1 ⟨rfl, hc⟩
 rw [← HQ.out]
 obtain ⟨c0, n0, A0_1⟩ := bk hc B0.out (by simp)
 obtain ⟨c1, n1, A1_1⟩ := bk hc B1.out (by simp)
 obtain ⟨c2, n2, A2_1⟩ := bk hc B2.out (by simp)
 have G1 := Lib.hid (G0.out.trans0 hc)
 have fz := freeOf A2_1.out
 clear hc
 have hqk : i64ok q := by rw [HQ.out]; exact up_i64 x
 by_cases hq0 : q = 0
 ·subst hq0
  have hf0 : x.up = 0 := HQ.out.symm
  obtain ⟨-, hdn0, hbt0, hnu0, hok⟩ := up_parts hf0
  have hdn := Lib.hid hdn0; have HBT := Lib.hid hbt0; have HNU := Lib.hid hnu0; clear hdn0 hbt0 hnu0
  by_cases h2 : ((0 ≤ g ∧ g ≤ x.shape.all - 1) ∧ (0 ≤ d ∧ d ≤ x.shape.drives - 1) ∧ (0 ≤ r ∧ r ≤ x.shape.rows - 1))
  ·obtain ⟨hg, hd, hr⟩ := h2
   have h2 := And.intro hg (And.intro hd hr)
   have HI := Lib.hid (show (inB g 0 (x.shape.all - 1) && inB d 0 (x.shape.drives - 1) && inB r 0 (x.shape.rows - 1)) = true by simp [inB, hg.1, hg.2, hd.1, hd.2, hr.1, hr.2])
   go_wp2_with (first | (refine load_wide rfl _ 40 rfl rfl infoWd Tryz.underlying40 A0_1.out rfl ?_))
   refine (l5Place_any x.shape hok g d r _).mono ?_
   rintro e w2 ⟨rfl, hc⟩
   rw [HI.out]
   clear c0 n0
   obtain ⟨c0, n0, A0_2⟩ := bk hc A0_1.out (by simp)
   clear c1 n1
   obtain ⟨c1, n1, A1_2⟩ := bk hc A1_1.out (by simp)
   clear c2 n2
   obtain ⟨c2, n2, A2_2⟩ := bk hc A2_1.out (by simp)
   have G2 := Lib.hid (G1.out.trans0 hc)
   clear fz; have fz := freeOf A2_2.out
   clear hc
   by_cases hsp : 0 ≤ y.stamp ∧ y.stamp ≤ 1000000000
   ·have HIS := Lib.hid (show inB y.stamp 0 1000000000 = true by simp [inB, hsp.1, hsp.2])
    go_wp2_with (first | (refine load_wide rfl _ 40 rfl rfl infoWd Tryz.underlying40 A0_2.out rfl ?_))
    refine (l1In_any y.stamp 0 1000000000 _).mono ?_
    rintro e w' ⟨rfl, rfl⟩
    rw [HIS.out]
    by_cases hl4 : lb = 4
    ·have hyo : y.ok := ⟨hsp, by have := HBB.out.1; omega⟩
     have hne : ((lb : Int) != 4) = false := by simp [hl4]
     have HL4 := Lib.hid hl4; clear hl4 hsp
     by_cases hon : g ∈ x.on
     ·go_wp2_with (first | (refine load_wide rfl _ 40 rfl rfl infoWd Tryz.underlying40 A0_2.out rfl ?_))
      refine (l1Has_any a11 l11 c11 x.on f11 g _ (intL.sl_ext H11.out G2.out)).mono ?_
      rintro e w' ⟨rfl, rfl⟩
      rw [pb_true hon]
      go_wp2_with (first | (refine load_wide rfl _ 40 rfl rfl infoWd Tryz.underlying40 A0_2.out rfl ?_))
      refine (l5Copy_any x #[.int .i64 x.shape.groups, .int .i64 x.shape.column, .int .i64 x.shape.data, .int .i64 x.shape.spare, .int .i64 x.shape.rows, .int .i64 x.shape.cap, .int .i64 x.shape.batch, .int .i64 x.shape.queue, .int .i64 x.shape.stage, .slice a10 l10 c10, .slice a11 l11 c11, .slice a12 l12 c12, .int .i64 x.writes, .int .i64 x.stop, .bool x.down] fx _ (wldL.ext HW.out G2.out) HZ.out).mono ?_
      rintro e w3 ⟨cs2, f2, rfl, hs, hf, hc⟩
      obtain ⟨p10, m10, d10, g10, p11, m11, d11, g11, p12, m12, d12, g12, ex, o1, o2, o3, o4, o5, o6, o7, o8, o9, K10, K11, K12, o13, o14, rfl⟩ := wldL_iff.1 hs
      obtain rfl := Array.toList_inj.1 (ex.trans (List.toList_toArray).symm)
      have HO := Lib.hid (And.intro o1 (And.intro o2 (And.intro o3 (And.intro o4 (And.intro o5 (And.intro o6 (And.intro o7 (And.intro o8 (And.intro o9 (And.intro o13 o14))))))))))
      have HK := Lib.hid (And.intro K10 (And.intro K11 K12)); have HF := Lib.hid hf; have HFn := Lib.hid (fun b hb => (hf.2 b hb).1); have nR0 := n2
      clear hs ex K10 K11 K12 o1 o2 o3 o4 o5 o6 o7 o8 o9 o13 o14 hf
      clear c0 n0
      obtain ⟨c0, n0, A0_3⟩ := bk hc A0_2.out (by simp)
      clear c1 n1
      obtain ⟨c1, n1, A1_3⟩ := bk hc A1_2.out (by simp)
      clear c2 n2
      obtain ⟨c2, n2, A2_3⟩ := bk hc A2_2.out (by simp)
      have G3 := Lib.hid (G2.out.trans0 hc)
      clear fz; have fz := freeOf A2_3.out
      clear hc
      go_upto_region 11 with (refine store_wide rfl _ _ 40 rfl rfl rfl infoWd (new_alloc _ _) rfl rfl rfl ?_; intro w4 hm hc0)
      have hc : Chg [] w3 w4 := ((Chg.refl [] w3).alloc _).trans hc0 (fun y hy => .inr (by rw [List.mem_singleton] at hy; omega)); clear hc0
      have HM := Lib.hid hm; have cm := cellsOf hm; have nm := ltOf hm; have fm := freeOf hm; have nR : w.heap.size + 2 < w3.heap.size := n2; clear hm
      have hF := HF.out.lts; have HKe := Lib.hid (And.intro (drvL.slice.sl_ext HK.out.1 hc) (And.intro (intL.sl_ext HK.out.2.1 hc) (tapL.sl_ext HK.out.2.2 hc))); have HFe := Lib.hid ((HF.out.mono (C := w.heap.size) G2.out.size).chg hc)
      have HFl := Lib.hid hF; clear hF
      clear c0 n0
      obtain ⟨c0, n0, A0_4⟩ := bk hc A0_3.out (by simp)
      clear c1 n1
      obtain ⟨c1, n1, A1_4⟩ := bk hc A1_3.out (by simp)
      clear c2 n2
      obtain ⟨c2, n2, A2_4⟩ := bk hc A2_3.out (by simp)
      have G4 := Lib.hid (G3.out.trans0 hc)
      clear fz; have fz := freeOf A2_4.out
      clear hc
      by_cases hst : x.stop ≠ -1 ∧ x.stop ≤ x.writes
      ·have HST := Lib.hid hst; clear hst
       go_wp2_with fail
       have HM2 := Lib.hid (show w4.heap[w3.heap.size]? = some (.cells #[.int .i64 x.shape.groups, .int .i64 x.shape.column, .int .i64 x.shape.data, .int .i64 x.shape.spare, .int .i64 x.shape.rows, .int .i64 x.shape.cap, .int .i64 x.shape.batch, .int .i64 x.shape.queue, .int .i64 x.shape.stage, .slice p10 m10 d10, .slice p11 m11 d11, .slice p12 m12 d12, .int .i64 x.writes, .int .i64 x.stop, .bool false] 40 (0, 0)) from by have h := HM.out; rw [hdn.out] at h; exact h)
       refine (l5Raw_fail w3.heap.size w4 HM2.out HST.out).mono ?_
       rintro e w7 ⟨rfl, hm, hc⟩
       have hR := Lib.hid (hc.keepb A2_4.out (by simp; omega))
       have hnm : ∀ y ∈ g10 ++ (g11 ++ (g12 ++ [])), y ∉ [w3.heap.size] := fun y hy hm => by have := HFl.out y hy; rw [List.mem_singleton] at hm; omega
       obtain ⟨o1, o2, o3, o4, o5, o6, o7, o8, o9, o13, o14⟩ := HO.out
       have hsub : (g10 ++ ([] ++ (g12 ++ []))).Sublist (g10 ++ (g11 ++ (g12 ++ []))) := (List.Sublist.refl g10).append ((List.nil_sublist g11).append (List.Sublist.refl _))
       have HE := Lib.hid (And.intro (show wldL.rep w7 [.int .i64 x.shape.groups, .int .i64 x.shape.column, .int .i64 x.shape.data, .int .i64 x.shape.spare, .int .i64 x.shape.rows, .int .i64 x.shape.cap, .int .i64 x.shape.batch, .int .i64 x.shape.queue, .int .i64 x.shape.stage, .slice p10 m10 d10, .slice none 0 0, .slice p12 m12 d12, .int .i64 x.writes, .int .i64 x.stop, .bool true] _ _ from (wldL_iff.2 ⟨p10, m10, d10, g10, none, 0, 0, [], p12, m12, d12, g12, rfl, o1, o2, o3, o4, o5, o6, o7, o8, o9, drvL.slice.sl_chg HKe.out.1 hc (fun y hy => hnm y (by simp [hy])), nil_sl0 _ _, tapL.sl_chg HKe.out.2.2 hc (fun y hy => hnm y (by simp [hy])), o13, o14, rfl⟩ : wldL.rep _ _ x.cut _)) (And.intro (show Fresh w.heap.size w7 (g10 ++ ([] ++ (g12 ++ []))) from (HFe.out.chg hc).sub hsub) (And.intro (show Chg [] w w7 from G4.out.trans hc (fun y hy => .inr (by rw [List.mem_singleton] at hy; omega))) (show w.heap.size + 2 ∉ g10 ++ ([] ++ (g12 ++ [])) from fun hy => by have := HFn.out _ (hsub.subset hy); omega))))
       have HRR := Lib.hid hR.out; have HMR := Lib.hid (show w7.heap[w3.heap.size]? = some (.cells #[.int .i64 x.shape.groups, .int .i64 x.shape.column, .int .i64 x.shape.data, .int .i64 x.shape.spare, .int .i64 x.shape.rows, .int .i64 x.shape.cap, .int .i64 x.shape.batch, .int .i64 x.shape.queue, .int .i64 x.shape.stage, .slice p10 m10 d10, .slice none 0 0, .slice p12 m12 d12, .int .i64 x.writes, .int .i64 x.stop, .bool true] 40 (0, 0)) from hm)
       clear o1 o2 o3 o4 o5 o6 o7 o8 o9 o13 o14 hc hnm hsub hm cm nm fm
       go_wp2_with (first | (refine load_wide rfl _ 40 rfl rfl infoWd Tryz.underlying40 HMR.out rfl ?_) | (refine store_wide rfl _ _ 48 rfl rfl rfl infoWR HRR.out rfl rfl rfl ?_; intro w9 hb9 hc9; have HB9 := Lib.hid hb9; have HC9 := Lib.hid hc9; clear hb9 hc9))
       refine bodyPost_ret (v := .agg #[.int .i64 (9), .int .i64 x.shape.groups, .int .i64 x.shape.column, .int .i64 x.shape.data, .int .i64 x.shape.spare, .int .i64 x.shape.rows, .int .i64 x.shape.cap, .int .i64 x.shape.batch, .int .i64 x.shape.queue, .int .i64 x.shape.stage, .slice p10 m10 d10, .slice none 0 0, .slice p12 m12 d12, .int .i64 x.writes, .int .i64 x.stop, .bool true]) (results_wide _ _ Tryz.results40 rfl infoWR Tryz.underlying48 HB9.out rfl) rfl (fin9 (9) (⟨by omega, by omega⟩) (writeR x g d r y) (writeR_fail hf0 h2 hyo hon HST.out) HE.out.1 rfl HE.out.2.1 HE.out.2.2.1 HC9.out HE.out.2.2.2 (by omega))
      ·have HST := Lib.hid hst; clear hst
       obtain ⟨tg, rfl⟩ : ∃ t : Nat, g = t := ⟨g.toNat, by omega⟩
       obtain ⟨td, rfl⟩ : ∃ t : Nat, d = t := ⟨d.toNat, by omega⟩
       obtain ⟨tr, rfl⟩ : ∃ t : Nat, r = t := ⟨r.toNat, by omega⟩
       have htg : tg < m10 := by have h1 := HKe.out.1.1; have h2 := HBT.out.1; omega
       obtain ⟨-, b, off, -, -, -, -, -, rfl, -, -⟩ := slc_at HKe.out.1 htg
       have nd := List.nodup_append.1 HFe.out.1
       obtain ⟨G, A, l, C, f, hGx, hcx, hGS, hfs, hfn, hbf, hb10, hup⟩ := slc_mod HKe.out.1 nd.1 htg
       have hGo := HBT.out.2 G (List.mem_of_getElem? hGx)
       have htd : td < l := by have h1 := hGS.1; have h2 := hGo.1; omega
       obtain ⟨-, b2, off2, -, -, -, -, -, rfl, -, -, -⟩ := drive_at hGS htd
       obtain ⟨D, A2, l2, C2, f2, hDx, -, hcd, hBS, hfs2, hfn2, hbf2, hb2, hup2⟩ := drv_mod hGS hfn htd
       have htr : tr < l2 := by have h1 := hBS.1; have h2 := (hGo.2 D (List.mem_of_getElem? hDx)).1; omega
       obtain ⟨B, b3, off3, a3, l3, c3, f3, HY3, rfl, hz0, hz1, -⟩ := block_at hBS htr
       have hb3 : b3 ∈ f2 := HY3.out.2.1
       have hb310 : b3 ∈ g10 := hfs b3 (hfs2 b3 hb3)
       have hb3m := HFl.out b3 (by simp [hb310]); have hbm := HFl.out b (by simp [hb10]); have hb2m := HFl.out b2 (by simp [hfs b2 hb2]); have hbn3 := HFn.out b3 (by simp [hb310])
       have hbl : b < w4.heap.size := Nat.lt_trans hbm nm; have hbl2 : b2 < w4.heap.size := Nat.lt_trans hb2m nm
       have hlo := (HFe.out.2 b3 (by simp [hb310])).2
       have hsto : x.stop = -1 ∨ x.stop ≠ -1 ∧ x.writes < x.stop := by have := HST.out; omega
       have hmb3 : ¬ w3.heap.size = b3 := by omega
       have hltg : ∀ y ∈ g10, y < w4.heap.size := fun y hy => Nat.lt_trans (HFl.out y (by simp [hy])) nm
       have hnmm : ∀ y ∈ g10 ++ (g11 ++ (g12 ++ [])), y ≠ w3.heap.size := fun y hy e => by have := HFl.out y hy; omega
       have hbbm : b ≠ w3.heap.size := by omega
       have hbb2m : b2 ≠ w3.heap.size := by omega
       have HM2 := Lib.hid (show w4.heap[w3.heap.size]? = some (.cells #[.int .i64 x.shape.groups, .int .i64 x.shape.column, .int .i64 x.shape.data, .int .i64 x.shape.spare, .int .i64 x.shape.rows, .int .i64 x.shape.cap, .int .i64 x.shape.batch, .int .i64 x.shape.queue, .int .i64 x.shape.stage, .slice (some ⟨b, off, none⟩) m10 d10, .slice p11 m11 d11, .slice p12 m12 d12, .int .i64 x.writes, .int .i64 x.stop, .bool false] 40 (0, 0)) from by have h := HM.out; rw [hdn.out] at h; exact h)
       have HRAW := Lib.hid (show Calls Tryz.prog 92 #[.pointer (some ⟨w3.heap.size, 0, none⟩)] w4 fun e w' => e = .returned (.bool true) ∧ w' = w4.drew.setCell ⟨w3.heap.size, 12, none⟩ (.int .i64 (x.writes + 1)) from by rcases hsto with h | h; exact l5Raw_ok1 w3.heap.size w4 HM2.out h HNU.out.1; exact l5Raw_ok2 w3.heap.size w4 HM2.out h HNU.out.1)
       go_wp2_with fail
       refine HRAW.out.mono ?_
       rintro e w6 ⟨rfl, hw6⟩
       have hm6 : w6.heap[w3.heap.size]? = some (.cells #[.int .i64 x.shape.groups, .int .i64 x.shape.column, .int .i64 x.shape.data, .int .i64 x.shape.spare, .int .i64 x.shape.rows, .int .i64 x.shape.cap, .int .i64 x.shape.batch, .int .i64 x.shape.queue, .int .i64 x.shape.stage, .slice (some ⟨b, off, none⟩) m10 d10, .slice p11 m11 d11, .slice p12 m12 d12, .int .i64 (x.writes + 1), .int .i64 x.stop, .bool x.down] 40 (0, 0)) := by rw [hw6]; exact heap_set_lit (cur := #[.int .i64 x.shape.groups, .int .i64 x.shape.column, .int .i64 x.shape.data, .int .i64 x.shape.spare, .int .i64 x.shape.rows, .int .i64 x.shape.cap, .int .i64 x.shape.batch, .int .i64 x.shape.queue, .int .i64 x.shape.stage, .slice (some ⟨b, off, none⟩) m10 d10, .slice p11 m11 d11, .slice p12 m12 d12, .int .i64 x.writes, .int .i64 x.stop, .bool x.down]) (keep_drew HM.out) rfl
       have hc6 : Chg [w3.heap.size] w4 w6 := by rw [hw6]; exact ((Chg.refl _ _).drew).setCell _ _ (.inl (by simp))
       have HM6 := Lib.hid hm6; have HC6 := Lib.hid hc6; have NM0 := Lib.hid nm; clear hw6 cm nm fm
       have nm := ltOf hm6; have cm := cellsOf hm6; have fm := freeOf hm6
       have A16 := Lib.hid (hc6.keepb A1_4.out (by simp; omega)); have A26 := Lib.hid (hc6.keepb A2_4.out (by simp; omega))
       have hcx6 := cellKeep3 hc6 hcx hbl (by simpa using hbbm); have hcd6 := cellKeep3 hc6 hcd hbl2 (by simpa using hbb2m); have hz06 := cellKeep3 hc6 hz0 hlo.lt (by simpa using fun e => hmb3 e.symm); have hz16 := cellKeep3 hc6 hz1 hlo.lt (by simpa using fun e => hmb3 e.symm)
       have HLO6 := Lib.hid (hc6.loose b3 hlo); have hl36 := hlo.lt; have ql6 := hc6.size
       have HY6 := Lib.hid (blkL.chg (blkL.ext HY.out G4.out) hc6 (fun z hz hm => by have h1 := blkL.lt HY.out z hz; have h2 := G2.out.size; rw [List.mem_singleton] at hm; omega))
       have K1 := Lib.hid hcx6; have K2 := Lib.hid hcd6; have K3 := Lib.hid hz06; have K4 := Lib.hid hz16; clear hm6 hc6
       go_wp2_with fail
       obtain ⟨CC, HCI, HCO⟩ := rg_cond (fun w' => Know (w.heap.size + 1) #[.int .i64 y.stamp, .slice ab lb cb] w' ∧ Know (w3.heap.size) #[.int .i64 x.shape.groups, .int .i64 x.shape.column, .int .i64 x.shape.data, .int .i64 x.shape.spare, .int .i64 x.shape.rows, .int .i64 x.shape.cap, .int .i64 x.shape.batch, .int .i64 x.shape.queue, .int .i64 x.shape.stage, .slice (some ⟨b, off, none⟩) m10 d10, .slice p11 m11 d11, .slice p12 m12 d12, .int .i64 (x.writes + 1), .int .i64 x.stop, .bool x.down] w' ∧ w'.cell? ⟨b, off + tg, none⟩ = some (.slice (some ⟨b2, off2, none⟩) l C) ∧ w'.cell? ⟨b2, off2 + td * 2 + 1, none⟩ = some (.slice (some ⟨b3, off3, none⟩) l2 C2))
       refine gg_start [13] CC (by kernel_rfl) (HCI.out _ ⟨(Know.of (keep_drew A16.out)), (Know.of (keep_drew HM6.out)), K1.out, K2.out⟩) (fun hcl hS => ?_)
       refine ggT 0 hcl hS ?_; clear hcl hS; intro hcl hS
       refine ggL 1 hcl hS HCO ?_; clear hcl hS; intro hcl hS
       refine ggT 2 hcl hS ?_; clear hcl hS; intro hcl hS
       refine ggT 3 hcl hS ?_; clear hcl hS; intro hcl hS
       refine ggL 4 hcl hS HCO ?_; clear hcl hS; intro hcl hS
       refine ggT 5 hcl hS ?_; clear hcl hS; intro hcl hS
       refine ggT 6 hcl hS ?_; clear hcl hS; intro hcl hS
       refine ggT 7 hcl hS ?_; clear hcl hS; intro hcl hS
       refine ggL 8 hcl hS HCO ?_; clear hcl hS; intro hcl hS
       refine ggT 9 hcl hS ?_; clear hcl hS; intro hcl hS
       refine ggL 10 hcl hS HCO ?_; clear hcl hS; intro hcl hS
       refine ggC 11 hcl rfl (by kernel_rfl) (fun K hK => ?_)
       go_simp
       go_at_call 57
       refine (l5CopyBlock_any y #[.int .i64 y.stamp, .slice ab lb cb] fy _ (blkL.ext HY6.out ((Chg.refl [] w6).drew)) HZY.out).mono ?_; rintro e w9 ⟨cs, g4, rfl, hs, hf, hc⟩
       obtain ⟨p4, lq, d4, _, ex, -⟩ := blkL_iff.1 hs; obtain rfl := Array.toList_inj.1 (ex.trans (List.toList_toArray).symm); have HN1 := Lib.hid (And.intro hs (And.intro (hf.mono (C := w6.heap.size) (Nat.le_refl _)) (((Chg.refl [] w6).drew).trans0 hc))); obtain ⟨-, -, F1⟩ := bk hc (keep_drew A16.out) (by simp); obtain ⟨cm9, nm9, F2⟩ := bk hc (keep_drew HM6.out) (by simp); obtain ⟨-, -, F3⟩ := bk hc (keep_drew A26.out) (by simp); have k1 := cellKeep HN1.out.2.2 K1.out (Nat.lt_of_lt_of_le hbl ql6); have k2 := cellKeep HN1.out.2.2 K2.out (Nat.lt_of_lt_of_le hbl2 ql6); have k3 := cellKeep HN1.out.2.2 K3.out (Nat.lt_of_lt_of_le hl36 ql6); have k4 := cellKeep HN1.out.2.2 K4.out (Nat.lt_of_lt_of_le hl36 ql6); have fb9 := (HN1.out.2.2.loose b3 HLO6.out).free; have ql := HN1.out.2.2.size; have hbl9 : b3 < w9.heap.size := Nat.lt_of_lt_of_le (Nat.lt_of_lt_of_le hl36 ql6) ql; clear hs hf hc ex
       go_wp2_with fail
       refine hK.out _ _ (fun _ => HCI.out _ ⟨(Know.of F1.out), (Know.of F2.out), k1, k2⟩) ?_
       clear hK K hcl hS
       intro hcl hS
       try simp only [Act.put, List.setIfInBounds_toArray, List.set_cons_zero, List.set_cons_succ]
       refine ggT 12 hcl hS ?_; clear hcl hS; intro hcl hS
       refine ggC 13 hcl rfl (by kernel_rfl) (fun K hK => ?_)
       go_simp
       refine hK.out _ _ (Till.done (m := 13) (by simp) (by rfl)) ?_
       clear hK K hcl hS
       intro hcl hS
       try simp only [Act.put, List.setIfInBounds_toArray, List.set_cons_zero, List.set_cons_succ]
       refine ggEnd (by kernel_rfl) ?_ _
       have hge : ∀ z ∈ g4, w4.heap.size ≤ z := fun z hz => Nat.le_trans HC6.out.size (HN1.out.2.1.2 z hz).1
       have hc9W : Chg [b3] w9 ((w9.setCell ⟨b3, off3 + tr * 2, none⟩ (.int .i64 y.stamp)).setCell ⟨b3, off3 + tr * 2 + 1, none⟩ (.slice p4 lq d4)) := ((Chg.refl _ _).setCell _ _ (.inl (by simp))).setCell _ _ (.inl (by simp))
       have hcW : Chg [b3, w3.heap.size] w4 ((w9.setCell ⟨b3, off3 + tr * 2, none⟩ (.int .i64 y.stamp)).setCell ⟨b3, off3 + tr * 2 + 1, none⟩ (.slice p4 lq d4)) := (((HC6.out.mono (T := [b3, w3.heap.size]) (by simp)).trans0 HN1.out.2.2).setCell _ _ (.inl (by simp))).setCell _ _ (.inl (by simp))
       obtain ⟨fi, hSi, hsubi, hndi, -, -⟩ := blkL.sl_putN (blkL.sl_ext (blkL.sl_chg hBS HC6.out (fun z hz hm => hnmm z (by simp [hfs z (hfs2 z hz)]) (List.mem_singleton.1 hm))) HN1.out.2.2) hfn2 (i := tr) htr (vs := [.int .i64 y.stamp, .slice p4 lq d4]) (x' := y) (f' := g4) HN1.out.1 (fun z hz hzf => absurd (hge z hz) (Nat.not_le.2 (hltg z (hfs z (hfs2 z hzf))))) HN1.out.2.1.1
       have hkeep : ∀ z ∈ g10, z ≠ b3 → ((w9.setCell ⟨b3, off3 + tr * 2, none⟩ (.int .i64 y.stamp)).setCell ⟨b3, off3 + tr * 2 + 1, none⟩ (.slice p4 lq d4)).heap[z]? = w4.heap[z]? := fun z hz h => hcW.block z (hltg z hz) (fun hm => by simp only [List.mem_cons, List.not_mem_nil, or_false] at hm; rcases hm with e | e; exact h e; exact hnmm z (by simp [hz]) e)
       obtain ⟨fj, hSj, hndj, hsubj⟩ := hup2 ((w9.setCell ⟨b3, off3 + tr * 2, none⟩ (.int .i64 y.stamp)).setCell ⟨b3, off3 + tr * 2 + 1, none⟩ (.slice p4 lq d4)) (D.blocks.set tr y) fi hSi hndi (fun z hz => by rcases hsubi z hz with h | h; exact .inl h; exact .inr (fun hf => absurd (hge z h) (Nat.not_le.2 (hltg z (hfs z hf))))) (fun z hz hzf => hkeep z (hfs z hz) (fun e => hzf (e ▸ hb3)))
       have hj : ∀ z ∈ fj, z ∈ f ∨ z ∈ g4 := fun z hz => by rcases hsubj z hz with ⟨h, -⟩ | h; exact .inl h; rcases hsubi z h with h | h; exact .inl (hfs2 z h); exact .inr h
       obtain ⟨fp', hS, hnd, hsub⟩ := hup ((w9.setCell ⟨b3, off3 + tr * 2, none⟩ (.int .i64 y.stamp)).setCell ⟨b3, off3 + tr * 2 + 1, none⟩ (.slice p4 lq d4)) (G.set td { D with blocks := D.blocks.set tr y }) fj hSj hndj (fun z hz => by rcases hj z hz with h | h; exact .inl h; exact .inr (fun hg => absurd (hge z h) (Nat.not_le.2 (hltg z hg)))) (fun z hz hzf => hkeep z hz (fun e => hzf (e ▸ hfs2 b3 hb3)))
       have hp : ∀ z ∈ fp', z ∈ g10 ∨ z ∈ g4 := fun z hz => by rcases hsub z hz with ⟨h, -⟩ | h; exact .inl h; rcases hj z h with h | h; exact .inl (hfs z h); exact .inr h
       have hn11 : ∀ y ∈ g11, y ∉ [b3, w3.heap.size] := fun y hy hm => by simp only [List.mem_cons, List.not_mem_nil, or_false] at hm; rcases hm with h | h; exact nd.2.2 b3 hb310 y (by simp [hy]) h.symm; exact hnmm y (by simp [hy]) h
       have hn12 : ∀ y ∈ g12, y ∉ [b3, w3.heap.size] := fun y hy hm => by simp only [List.mem_cons, List.not_mem_nil, or_false] at hm; rcases hm with h | h; exact nd.2.2 b3 hb310 y (by simp [hy]) h.symm; exact hnmm y (by simp [hy]) h
       have hFW : Fresh w.heap.size ((w9.setCell ⟨b3, off3 + tr * 2, none⟩ (.int .i64 y.stamp)).setCell ⟨b3, off3 + tr * 2 + 1, none⟩ (.slice p4 lq d4)) (fp' ++ (g11 ++ (g12 ++ []))) := (HFe.out.chg hcW).swap1 hnd (fun z hz => by rcases hp z hz with h | h; exact .inl h; exact .inr ⟨fun hall => absurd (hge z h) (Nat.not_le.2 (Nat.lt_trans (HFl.out z hall) NM0.out)), Nat.le_trans G4.out.size (hge z h), ((HN1.out.2.1.chg hc9W).2 z h).2⟩)
       have hRn : w.heap.size + 2 ∉ fp' ++ (g11 ++ (g12 ++ [])) := fun hy => by
        rcases List.mem_append.1 hy with hy | hy
        ·rcases hp _ hy with h | h
         ·have := HFn.out (w.heap.size + 2) (by simp [h]); omega
         ·have := hge _ h; have := NM0.out; omega
        ·have := HFn.out (w.heap.size + 2) (by simp only [List.mem_append] at hy ⊢; exact .inr hy); omega
       obtain ⟨o1, o2, o3, o4, o5, o6, o7, o8, o9, o13, o14⟩ := HO.out
       have ow : i64ok (x.writes + 1) := by have := HNU.out.1; constructor <;> omega
       have HE := Lib.hid (And.intro (show wldL.rep ((w9.setCell ⟨b3, off3 + tr * 2, none⟩ (.int .i64 y.stamp)).setCell ⟨b3, off3 + tr * 2 + 1, none⟩ (.slice p4 lq d4)) [.int .i64 x.shape.groups, .int .i64 x.shape.column, .int .i64 x.shape.data, .int .i64 x.shape.spare, .int .i64 x.shape.rows, .int .i64 x.shape.cap, .int .i64 x.shape.batch, .int .i64 x.shape.queue, .int .i64 x.shape.stage, .slice (some ⟨b, off, none⟩) m10 d10, .slice p11 m11 d11, .slice p12 m12 d12, .int .i64 (x.writes + 1), .int .i64 x.stop, .bool x.down] _ _ from (wldL_iff.2 ⟨_, m10, d10, fp', p11, m11, d11, g11, p12, m12, d12, g12, rfl, o1, o2, o3, o4, o5, o6, o7, o8, o9, hS, intL.sl_chg HKe.out.2.1 hcW hn11, tapL.sl_chg HKe.out.2.2 hcW hn12, ow, o14, rfl⟩ : wldL.rep _ _ ({ x with groups := x.groups.set tg (G.set td { D with blocks := D.blocks.set tr y }), writes := x.writes + 1 }) _)) (And.intro (show Fresh w.heap.size ((w9.setCell ⟨b3, off3 + tr * 2, none⟩ (.int .i64 y.stamp)).setCell ⟨b3, off3 + tr * 2 + 1, none⟩ (.slice p4 lq d4)) (fp' ++ (g11 ++ (g12 ++ []))) from hFW) (And.intro (show Chg [] w ((w9.setCell ⟨b3, off3 + tr * 2, none⟩ (.int .i64 y.stamp)).setCell ⟨b3, off3 + tr * 2 + 1, none⟩ (.slice p4 lq d4)) from G4.out.trans hcW (fun y hy => .inr (by have := G2.out.size; simp only [List.mem_cons, List.not_mem_nil, or_false] at hy; omega))) (show w.heap.size + 2 ∉ fp' ++ (g11 ++ (g12 ++ [])) from hRn))))
       have HRR := Lib.hid (hc9W.keepb F3.out (by simp; omega)); have HMR := Lib.hid (show ((w9.setCell ⟨b3, off3 + tr * 2, none⟩ (.int .i64 y.stamp)).setCell ⟨b3, off3 + tr * 2 + 1, none⟩ (.slice p4 lq d4)).heap[w3.heap.size]? = some (.cells #[.int .i64 x.shape.groups, .int .i64 x.shape.column, .int .i64 x.shape.data, .int .i64 x.shape.spare, .int .i64 x.shape.rows, .int .i64 x.shape.cap, .int .i64 x.shape.batch, .int .i64 x.shape.queue, .int .i64 x.shape.stage, .slice (some ⟨b, off, none⟩) m10 d10, .slice p11 m11 d11, .slice p12 m12 d12, .int .i64 (x.writes + 1), .int .i64 x.stop, .bool x.down] 40 (0, 0)) from hc9W.keepb F2.out (by simp; omega))
       have HGX := Lib.hid hGx; have HDX := Lib.hid hDx
       clear o1 o2 o3 o4 o5 o6 o7 o8 o9 o13 o14 hcW hc9W hge hn11 hn12 hS hsub hnd hSi hsubi hndi hkeep hSj hndj hsubj hj hp hFW hRn hltg hnmm nd hup hup2 hGS hBS hfs hfs2 hfn hfn2 hbf hbf2 hb10 hb2 hGx hDx hGo ow hcx hcd hz0 hz1 hlo
       go_upto_region 14 with fail
       go_wp2_with (first | (refine load_wide rfl _ 40 rfl rfl infoWd Tryz.underlying40 HMR.out rfl ?_) | (refine store_wide rfl _ _ 48 rfl rfl rfl infoWR HRR.out rfl rfl rfl ?_; intro w9 hb9 hc9; have HB9 := Lib.hid hb9; have HC9 := Lib.hid hc9; clear hb9 hc9))
       refine bodyPost_ret (v := .agg #[.int .i64 0, .int .i64 x.shape.groups, .int .i64 x.shape.column, .int .i64 x.shape.data, .int .i64 x.shape.spare, .int .i64 x.shape.rows, .int .i64 x.shape.cap, .int .i64 x.shape.batch, .int .i64 x.shape.queue, .int .i64 x.shape.stage, .slice (some ⟨b, off, none⟩) m10 d10, .slice p11 m11 d11, .slice p12 m12 d12, .int .i64 (x.writes + 1), .int .i64 x.stop, .bool x.down]) (results_wide _ _ Tryz.results40 rfl infoWR Tryz.underlying48 HB9.out rfl) rfl (fin9 (0) (i64z) (writeR x tg td tr y) (writeR_ok hf0 h2 hyo hon HST.out HGX.out HDX.out) HE.out.1 rfl HE.out.2.1 HE.out.2.2.1 HC9.out HE.out.2.2.2 (by omega))
     ·go_wp2_with (first | (refine load_wide rfl _ 40 rfl rfl infoWd Tryz.underlying40 A0_2.out rfl ?_))
      refine (l1Has_any a11 l11 c11 x.on f11 g _ (intL.sl_ext H11.out G2.out)).mono ?_
      rintro e w' ⟨rfl, rfl⟩
      rw [pb_false hon]
      go_wp2_with (first | (refine store_wide rfl _ _ 48 rfl rfl rfl infoWR A2_2.out rfl rfl rfl ?_; intro w9 hb9 hc9; have HB9 := Lib.hid hb9; have HC9 := Lib.hid hc9; clear hb9 hc9))
      refine bodyPost_ret (v := .agg #[.int .i64 (8), .int .i64 0, .int .i64 0, .int .i64 0, .int .i64 0, .int .i64 0, .int .i64 0, .int .i64 0, .int .i64 0, .int .i64 0, .slice none 0 0, .slice none 0 0, .slice none 0 0, .int .i64 0, .int .i64 0, .bool false]) (results_wide _ _ Tryz.results40 rfl infoWR Tryz.underlying48 HB9.out rfl) rfl (bad9 (8) (⟨by omega, by omega⟩) (writeR x g d r y) (writeR_off hf0 h2 hyo hon) G2.out HC9.out (by omega))
    ·have hyo : ¬ y.ok := fun h => hl4 (by have := HBB.out.1; have := h.2; omega)
     have hne : ((lb : Int) != 4) = true := by simp; omega
     go_wp2_with (first | (refine store_wide rfl _ _ 48 rfl rfl rfl infoWR A2_2.out rfl rfl rfl ?_; intro w9 hb9 hc9; have HB9 := Lib.hid hb9; have HC9 := Lib.hid hc9; clear hb9 hc9))
     refine bodyPost_ret (v := .agg #[.int .i64 (1), .int .i64 0, .int .i64 0, .int .i64 0, .int .i64 0, .int .i64 0, .int .i64 0, .int .i64 0, .int .i64 0, .int .i64 0, .slice none 0 0, .slice none 0 0, .slice none 0 0, .int .i64 0, .int .i64 0, .bool false]) (results_wide _ _ Tryz.results40 rfl infoWR Tryz.underlying48 HB9.out rfl) rfl (bad9 (1) (⟨by omega, by omega⟩) (writeR x g d r y) (writeR_form hf0 h2 hyo) G2.out HC9.out (by omega))
   ·have HIS := Lib.hid (show inB y.stamp 0 1000000000 = false by unfold inB; simp; omega)
    go_wp2_with (first | (refine load_wide rfl _ 40 rfl rfl infoWd Tryz.underlying40 A0_2.out rfl ?_))
    refine (l1In_any y.stamp 0 1000000000 _).mono ?_
    rintro e w' ⟨rfl, rfl⟩
    rw [HIS.out]
    have hyo : ¬ y.ok := fun h => hsp h.1
    go_wp2_with (first | (refine store_wide rfl _ _ 48 rfl rfl rfl infoWR A2_2.out rfl rfl rfl ?_; intro w9 hb9 hc9; have HB9 := Lib.hid hb9; have HC9 := Lib.hid hc9; clear hb9 hc9))
    refine bodyPost_ret (v := .agg #[.int .i64 (1), .int .i64 0, .int .i64 0, .int .i64 0, .int .i64 0, .int .i64 0, .int .i64 0, .int .i64 0, .int .i64 0, .int .i64 0, .slice none 0 0, .slice none 0 0, .slice none 0 0, .int .i64 0, .int .i64 0, .bool false]) (results_wide _ _ Tryz.results40 rfl infoWR Tryz.underlying48 HB9.out rfl) rfl (bad9 (1) (⟨by omega, by omega⟩) (writeR x g d r y) (writeR_form hf0 h2 hyo) G2.out HC9.out (by omega))
  ·have HI := Lib.hid (show (inB g 0 (x.shape.all - 1) && inB d 0 (x.shape.drives - 1) && inB r 0 (x.shape.rows - 1)) = false by unfold inB; simp; omega)
   go_wp2_with (first | (refine load_wide rfl _ 40 rfl rfl infoWd Tryz.underlying40 A0_1.out rfl ?_))
   refine (l5Place_any x.shape hok g d r _).mono ?_
   rintro e w2 ⟨rfl, hc⟩
   rw [HI.out]
   clear c0 n0
   obtain ⟨c0, n0, A0_2⟩ := bk hc A0_1.out (by simp)
   clear c1 n1
   obtain ⟨c1, n1, A1_2⟩ := bk hc A1_1.out (by simp)
   clear c2 n2
   obtain ⟨c2, n2, A2_2⟩ := bk hc A2_1.out (by simp)
   have G2 := Lib.hid (G1.out.trans0 hc)
   clear fz; have fz := freeOf A2_2.out
   clear hc
   go_wp2_with (first | (refine store_wide rfl _ _ 48 rfl rfl rfl infoWR A2_2.out rfl rfl rfl ?_; intro w9 hb9 hc9; have HB9 := Lib.hid hb9; have HC9 := Lib.hid hc9; clear hb9 hc9))
   refine bodyPost_ret (v := .agg #[.int .i64 (3), .int .i64 0, .int .i64 0, .int .i64 0, .int .i64 0, .int .i64 0, .int .i64 0, .int .i64 0, .int .i64 0, .int .i64 0, .slice none 0 0, .slice none 0 0, .slice none 0 0, .int .i64 0, .int .i64 0, .bool false]) (results_wide _ _ Tryz.results40 rfl infoWR Tryz.underlying48 HB9.out rfl) rfl (bad9 (3) (⟨by omega, by omega⟩) (writeR x g d r y) (writeR_out hf0 h2) G2.out HC9.out (by omega))
 ·have hb : ((q : Int) != 0) = true := by simpa using hq0
  go_wp2_with (first | (refine store_wide rfl _ _ 48 rfl rfl rfl infoWR A2_1.out rfl rfl rfl ?_; intro w9 hb9 hc9; have HB9 := Lib.hid hb9; have HC9 := Lib.hid hc9; clear hb9 hc9))
  refine bodyPost_ret (v := .agg #[.int .i64 (q), .int .i64 0, .int .i64 0, .int .i64 0, .int .i64 0, .int .i64 0, .int .i64 0, .int .i64 0, .int .i64 0, .int .i64 0, .slice none 0 0, .slice none 0 0, .slice none 0 0, .int .i64 0, .int .i64 0, .bool false]) (results_wide _ _ Tryz.results40 rfl infoWR Tryz.underlying48 HB9.out rfl) rfl (bad9 (q) (hqk) (writeR x g d r y) (by rw [writeR_bad (by rw [← HQ.out]; exact hq0), ← HQ.out]) G1.out HC9.out (by omega))
end Go.Proofs.YtnnhopcjlnnchaaGreat

/- A region that draws its order, with two operations that may come next; a structure stored in it. No function of the program in sight. -/
namespace Go.Proofs.YtnnhopcjlnnchaaGreat
open Go.RowKit

section
variable {P : Program} {ops : Array Oper} {Q : Exit → Act → World → Prop} {md : Region.Mode} {S : World → Prop} {fuel : Nat} {listed : Array Bool} {a : Act} {w : World}
theorem rg_call2 (i j : Nat) {oi oj : Oper} (hi : ops.toList[i]? = some oi) (hj : ops.toList[j]? = some oj) (hr : Region.ready md ops listed = [i, j])
  (h : ∀ K' : Act → World → Prop, Shut (∀ a w, S w → (S w → wpAnyH P md ops Q S fuel (listed.setIfInBounds i true) a w) → K' a w) → if Region.wanted oi (yielded ops a.tmps) = true then Oper.wp P oi a w K' Q else K' (a.put oi.dst undef) w)
  (h2 : ∀ K' : Act → World → Prop, Shut (∀ a w, S w → (S w → wpAnyH P md ops Q S fuel (listed.setIfInBounds j true) a w) → K' a w) → if Region.wanted oj (yielded ops a.tmps) = true then Oper.wp P oj a w K' Q else K' (a.put oj.dst undef) w) :
  wpAnyH P md ops Q S (fuel + 1) listed a w :=
 wpAnyH_ready hr (by simp) (AllReadyH.cons (get_toList hi) h (AllReadyH.cons (get_toList hj) h2 AllReadyH.nil))
theorem store_step {o : Oper} {Kc : Act → World → Prop} {R : Prop} {b : Nat} {cs vs : Array Value} {E : TypeId} {n : Nat} (hgd : o.guard = none) (p v : Operand) (t : TypeId)
  (hop : o.op = .store t p v) (hp : a.eval p = .pointer (some ⟨b, 0, none⟩)) (hv : a.eval v = .agg vs) (hi : (P.info? t).map (fun i => i.size) = some n) (h : w.heap[b]? = some (.cells cs E (0, 0)))
  (hn : vs.size = n) (hs : cs.size = n) (hone : vs.toList.all Value.oneCell' = true)
  (hk : ∀ w', w'.heap[b]? = some (.cells vs E (0, 0)) → Chg [b] w w' → Kc (a.put o.dst undef) w') : if Region.wanted o (yielded ops a.tmps) = true then Oper.wp P o a w Kc Q else R := by
 have hw : Region.wanted o (yielded ops a.tmps) = true := by simp [Region.wanted, hgd]
 rw [if_pos hw]
 exact store_wp p v t hop hp hv hi h hn hs hone hk
end
end Go.Proofs.YtnnhopcjlnnchaaGreat
