/- Several texts in one. -/
import Derived.Test.YtnnhopcjlnnchaaGreatMb
import Derived.Test.YtnnhopcjlnnchaaGreatWra
import Derived.Test.YtnnhopcjlnnchaaGreatPut
import Derived.Test.YtnnhopcjlnnchaaGreatMc
import Derived.Test.YtnnhopcjlnnchaaGreatKep
import Derived.Test.YtnnhopcjlnnchaaGreatMa
import Derived.Test.YtnnhopcjlnnchaaGreatShape
import Derived.Test.YtnnhopcjlnnchaaGreatRfb
import Derived.Test.YtnnhopcjlnnchaaGreatWhS
/- An element of a slice that changes, also with other memory than before; footprints exchanged. No function of the program in sight. -/
namespace Go.Proofs.YtnnhopcjlnnchaaGreat
open Go.RowKit

theorem Lay.all_modN {α : Type} (L : Lay α) {w : World} {x : α} : ∀ {xs : List α} {i : Nat} {cs : List Value} {fps : List Nat}, L.all w cs xs fps → xs[i]? = some x →
    ∃ c f f1 f2, fps = f1 ++ f ++ f2 ∧ (∀ j, j < L.n → cs[i * L.n + j]? = c[j]?) ∧ L.rep w c x f ∧
      ∀ w' x' f', L.rep w' c x' f' → (∀ y, (y ∈ f1 ∨ y ∈ f2) → w'.heap[y]? = w.heap[y]?) → L.all w' cs (xs.set i x') (f1 ++ f' ++ f2) := by
  intro xs
  induction xs with
  | nil => intro i cs fps _ hx; simp at hx
  | cons y ys ih =>
    intro i cs fps h hx
    obtain ⟨c1, c2, f1, f2, rfl, rfl, h1, h2⟩ := h
    have hl := L.len h1
    cases i with
    | zero =>
      simp at hx
      subst hx
      refine ⟨c1, f1, [], f2, by simp, fun j hj => by rw [Nat.zero_mul, Nat.zero_add, List.getElem?_append_left (by omega)], h1, fun w' x' f' hr hk => ⟨c1, c2, f', f2, rfl, by simp, hr, L.all_keep h2 (fun y hy => hk y (.inr hy))⟩⟩
    | succ i =>
      obtain ⟨c, f, g1, g2, rfl, hc, hr, hm⟩ := ih h2 (by simpa using hx)
      refine ⟨c, f, f1 ++ g1, g2, by simp, fun j hj => ?_, hr, fun w' x' f' hr' hk => ⟨c1, c2, f1, _, rfl, by simp, L.keep h1 (fun y hy => hk y (.inl (by simp [hy]))), hm w' x' f' hr' (fun y hy => hk y (by rcases hy with hy | hy; exact .inl (by simp [hy]); exact .inr hy))⟩⟩
      have e : (i + 1) * L.n + j = c1.length + (i * L.n + j) := by rw [Nat.add_mul, Nat.one_mul, hl]; omega
      rw [e, List.getElem?_append_right (by omega), Nat.add_sub_cancel_left, hc j hj]
/-- an element of a slice may change in its own blocks and may get others -/
theorem Lay.sl_modN {α : Type} (L : Lay α) {w : World} {b off len cap : Nat} {xs : List α} {fp : List Nat} (h : L.sl w (some ⟨b, off, none⟩) len cap xs fp) (nd : fp.Nodup) {i : Nat} (hi : i < len) :
    ∃ x c f, xs[i]? = some x ∧ b ∈ fp ∧ (∀ j, j < L.n → w.cell? ⟨b, off + i * L.n + j, none⟩ = c[j]?) ∧ L.rep w c x f ∧ (∀ y ∈ f, y ∈ fp) ∧ f.Nodup ∧ b ∉ f ∧
      ∀ w' x' f', L.rep w' c x' f' → f'.Nodup → (∀ y ∈ f', y ∈ f ∨ y ∉ fp) → (∀ y ∈ fp, y ∉ f → w'.heap[y]? = w.heap[y]?) →
        ∃ fp', L.sl w' (some ⟨b, off, none⟩) len cap (xs.set i x') fp' ∧ fp'.Nodup ∧ ∀ y ∈ fp', (y ∈ fp ∧ y ∉ f) ∨ y ∈ f' := by
  obtain ⟨h1, h2, h3, h4, ⟨rfl, rfl⟩ | ⟨b', off', cur, E, fr, fps, ha, hb, hall, rfl⟩⟩ := h
  · simp at h1; omega
  · simp only [Option.some.injEq, Addr.mk.injEq, and_true] at ha
    obtain ⟨rfl, rfl⟩ := ha
    have hx : xs[i]? = some (xs[i]'(by omega)) := List.getElem?_eq_getElem _
    obtain ⟨c, f, f1, f2, rfl, hc, hr, hm⟩ := L.all_modN hall hx
    have nd1 := List.nodup_cons.1 nd
    have nd2 := List.nodup_append.1 nd1.2
    have nd3 := List.nodup_append.1 nd2.1
    have hf1 : ∀ y ∈ f1, y ∉ f := fun y hy hyf => nd3.2.2 y hy y hyf rfl
    have hf2 : ∀ y ∈ f2, y ∉ f := fun y hy hyf => nd2.2.2 y (by simp [hyf]) y hy rfl
    have hbf : b ∉ f := fun hbf => nd1.1 (by simp [hbf])
    refine ⟨_, c, f, hx, by simp, fun j hj => ?_, hr, fun y hy => by simp [hy], nd3.2.1, hbf, fun w' x' f' hr' ndf hd hk => ⟨b :: (f1 ++ f' ++ f2), ⟨by simpa using h1, h2, h3, h4, .inr ⟨b, off, cur, E, fr, _, rfl, ?_, hm w' x' f' hr' ?_, rfl⟩⟩, ?_, ?_⟩⟩
    · rw [cell_of_row w b _ cur E fr hb, ← hc j hj, List.getElem?_take_of_lt, List.getElem?_drop]
      · simp [Nat.add_assoc]
      · calc i * L.n + j < i * L.n + L.n := by omega
          _ = (i + 1) * L.n := by rw [Nat.add_mul, Nat.one_mul]
          _ ≤ len * L.n := Nat.mul_le_mul_right _ (by omega)
    · rw [hk b (by simp) hbf]; exact hb
    · intro y hy
      refine hk y (by rcases hy with hy | hy <;> simp [hy]) (fun hyf => ?_)
      rcases hy with hy | hy
      · exact hf1 y hy hyf
      · exact hf2 y hy hyf
    · have d1 : ∀ y ∈ f', y ∉ f1 := fun y hy h1 => by
        rcases hd y hy with h | h
        · exact hf1 y h1 h
        · exact h (by simp [h1])
      have d2 : ∀ y ∈ f', y ∉ f2 := fun y hy h1 => by
        rcases hd y hy with h | h
        · exact hf2 y h1 h
        · exact h (by simp [h1])
      have db : b ∉ f' := fun hy => by
        rcases hd b hy with h | h
        · exact hbf h
        · exact h (by simp)
      refine List.nodup_cons.2 ⟨fun hm => ?_, List.nodup_append.2 ⟨List.nodup_append.2 ⟨nd3.1, ndf, fun y hy z hz e => d1 z hz (e ▸ hy)⟩, nd2.2.1, fun y hy z hz e => ?_⟩⟩
      · rw [List.mem_append, List.mem_append] at hm
        rcases hm with (hm | hm) | hm
        · exact nd1.1 (by simp [hm])
        · exact db hm
        · exact nd1.1 (by simp [hm])
      · subst e
        rcases List.mem_append.1 hy with hy | hy
        · exact nd2.2.2 y (by simp [hy]) y hz rfl
        · exact d2 y hy hz
    · intro y hy
      simp only [List.mem_cons, List.mem_append] at hy
      rcases hy with rfl | (hy | hy) | hy
      · exact .inl ⟨by simp, hbf⟩
      · exact .inl ⟨by simp [hy], hf1 y hy⟩
      · exact .inr hy
      · exact .inl ⟨by simp [hy], hf2 y hy⟩
theorem Fresh.swap3 {B : Nat} {w : World} {a b c c' : List Nat} (h : Fresh B w (a ++ (b ++ (c ++ [])))) (nd : c'.Nodup) (hc : ∀ y ∈ c', y ∈ c ∨ (y ∉ a ++ (b ++ (c ++ [])) ∧ B ≤ y ∧ Loose w y)) : Fresh B w (a ++ (b ++ (c' ++ []))) := by
  obtain ⟨h1, h2⟩ := h
  rw [List.append_nil] at h1 h2 hc ⊢
  obtain ⟨na, nbc, dabc⟩ := List.nodup_append.1 h1
  obtain ⟨nb, nc, dbc⟩ := List.nodup_append.1 nbc
  refine ⟨List.nodup_append.2 ⟨na, List.nodup_append.2 ⟨nb, nd, fun y hy z hz e => ?_⟩, fun y hy z hz e => ?_⟩, fun y hy => ?_⟩
  · subst e
    rcases hc y hz with h | ⟨h, -⟩
    · exact dbc y hy y h rfl
    · exact h (by simp [hy])
  · subst e
    rcases List.mem_append.1 hz with hz | hz
    · exact dabc y hy y (by simp [hz]) rfl
    · rcases hc y hz with h | ⟨h, -⟩
      · exact dabc y hy y (by simp [h]) rfl
      · exact h (by simp [hy])
  · rcases List.mem_append.1 hy with hy | hy
    · exact h2 y (by simp [hy])
    · rcases List.mem_append.1 hy with hy | hy
      · exact h2 y (by simp [hy])
      · rcases hc y hy with h | ⟨_, h, h'⟩
        · exact h2 y (by simp [h])
        · exact ⟨h, h'⟩
theorem Fresh.swap1 {B : Nat} {w : World} {a a' r : List Nat} (h : Fresh B w (a ++ r)) (nd : a'.Nodup) (hc : ∀ y ∈ a', y ∈ a ∨ (y ∉ a ++ r ∧ B ≤ y ∧ Loose w y)) : Fresh B w (a' ++ r) := by
  obtain ⟨h1, h2⟩ := h
  obtain ⟨na, nr, dar⟩ := List.nodup_append.1 h1
  refine ⟨List.nodup_append.2 ⟨nd, nr, fun y hy z hz e => ?_⟩, fun y hy => ?_⟩
  · subst e
    rcases hc y hy with h | ⟨h, -⟩
    · exact dar y h y hz rfl
    · exact h (by simp [hz])
  · rcases List.mem_append.1 hy with hy | hy
    · rcases hc y hy with h | ⟨_, h, h'⟩
      · exact h2 y (by simp [h])
      · exact ⟨h, h'⟩
    · exact h2 y (by simp [hy])
end Go.Proofs.YtnnhopcjlnnchaaGreat

/- Numbers that are in range, groups that are on: both sides. -/
namespace Go.Proofs.YtnnhopcjlnnchaaGreat
open Go.RowKit

set_option maxHeartbeats 1000000 in
theorem st_isGroup_any (x : Shp) (hs : x.ok) (g : Int) (w : World) :
    Calls Tryz.prog 63 #[.agg #[.int .i64 x.groups, .int .i64 x.column, .int .i64 x.data, .int .i64 x.spare, .int .i64 x.rows, .int .i64 x.cap, .int .i64 x.batch, .int .i64 x.queue, .int .i64 x.stage], .int .i64 g] w fun e w' => e = .returned (.bool (inB g 0 (x.all - 1))) ∧ Chg [] w w' := by
  have h1 := hs.all
  go_enter Tryz.func63, Tryz.ntmps63
  go_wp2_with fail
  refine (all_any x hs _).mono ?_
  rintro e w1 ⟨rfl, hc⟩
  have HC := Lib.hid (((Chg.refl [] w).alloc _).trans0 hc)
  clear hc
  go_wp2_with fail
  refine (inside_any g 0 (x.all - 1) _).mono ?_
  rintro e w' ⟨rfl, rfl⟩
  go_wp2_with fail
  go_ret
  exact ⟨rfl, HC.out⟩
set_option maxHeartbeats 1000000 in
theorem st_isDrive_any (x : Shp) (hs : x.ok) (g : Int) (w : World) :
    Calls Tryz.prog 64 #[.agg #[.int .i64 x.groups, .int .i64 x.column, .int .i64 x.data, .int .i64 x.spare, .int .i64 x.rows, .int .i64 x.cap, .int .i64 x.batch, .int .i64 x.queue, .int .i64 x.stage], .int .i64 g] w fun e w' => e = .returned (.bool (inB g 0 (x.drives - 1))) ∧ Chg [] w w' := by
  have h1 := hs.drives
  go_enter Tryz.func64, Tryz.ntmps64
  go_wp2_with fail
  refine (drives_any x hs _).mono ?_
  rintro e w1 ⟨rfl, hc⟩
  have HC := Lib.hid (((Chg.refl [] w).alloc _).trans0 hc)
  clear hc
  go_wp2_with fail
  refine (inside_any g 0 (x.drives - 1) _).mono ?_
  rintro e w' ⟨rfl, rfl⟩
  go_wp2_with fail
  go_ret
  exact ⟨rfl, HC.out⟩
set_option maxHeartbeats 1000000 in
theorem st_isRow_any (x : Shp) (hs : x.ok) (g : Int) (w : World) :
    Calls Tryz.prog 65 #[.agg #[.int .i64 x.groups, .int .i64 x.column, .int .i64 x.data, .int .i64 x.spare, .int .i64 x.rows, .int .i64 x.cap, .int .i64 x.batch, .int .i64 x.queue, .int .i64 x.stage], .int .i64 g] w fun e w' => e = .returned (.bool (inB g 0 (x.rows - 1))) ∧ Chg [] w w' := by
  have h1 := hs.rows
  go_enter Tryz.func65, Tryz.ntmps65
  go_wp2_with fail
  refine (inside_any g 0 (x.rows - 1) _).mono ?_
  rintro e w' ⟨rfl, rfl⟩
  go_wp2_with fail
  go_ret
  exact ⟨rfl, (Chg.refl [] w).alloc _⟩
set_option maxHeartbeats 2000000 in
theorem l5Place_any (x : Shp) (hs : x.ok) (g d r : Int) (w : World) :
    Calls Tryz.prog 55 #[.agg #[.int .i64 x.groups, .int .i64 x.column, .int .i64 x.data, .int .i64 x.spare, .int .i64 x.rows, .int .i64 x.cap, .int .i64 x.batch, .int .i64 x.queue, .int .i64 x.stage], .int .i64 g, .int .i64 d, .int .i64 r] w fun e w' => e = .returned (.bool (inB g 0 (x.all - 1) && inB d 0 (x.drives - 1) && inB r 0 (x.rows - 1))) ∧ Chg [] w w' := by
  have h1 := hs.all; have h2 := hs.drives; have h3 := hs.rows
  have B0 := Lib.hid (new_alloc w (.cells #[.int .i64 x.groups, .int .i64 x.column, .int .i64 x.data, .int .i64 x.spare, .int .i64 x.rows, .int .i64 x.cap, .int .i64 x.batch, .int .i64 x.queue, .int .i64 x.stage] 36))
  go_enter Tryz.func55, Tryz.ntmps55
  go_wp2_with fail
  refine (l5All_any x hs _).mono ?_
  rintro e w1 ⟨rfl, hc⟩
  obtain ⟨c0, n0, A0⟩ := bk hc B0.out (by simp)
  have HC := Lib.hid (((Chg.refl [] w).alloc _).trans0 hc)
  clear hc
  go_wp2_with fail
  refine (l1In_any g 0 (x.all - 1) _).mono ?_
  rintro e w' ⟨rfl, rfl⟩
  cases hA : inB g 0 (x.all - 1)
  · go_wp2_with fail
    go_ret
    exact ⟨by simp [hA], HC.out⟩
  · go_wp2_with fail
    refine (l5Drives_any x hs _).mono ?_
    rintro e w2 ⟨rfl, hc⟩
    clear c0 n0
    obtain ⟨c0, n0, A1⟩ := bk hc A0.out (by simp)
    have HC2 := Lib.hid (HC.out.trans0 hc)
    clear hc
    go_wp2_with fail
    refine (l1In_any d 0 (x.drives - 1) _).mono ?_
    rintro e w' ⟨rfl, rfl⟩
    cases hB : inB d 0 (x.drives - 1)
    · go_wp2_with fail
      go_ret
      exact ⟨by simp [hA, hB], HC2.out⟩
    · go_wp2_with fail
      refine (l1In_any r 0 (x.rows - 1) _).mono ?_
      rintro e w' ⟨rfl, rfl⟩
      go_wp2_with fail
      go_ret
      exact ⟨by simp [hA, hB], HC2.out⟩
set_option maxHeartbeats 1000000 in
theorem st_isOn_any (b : Nat) {u0 u1 u2 u3 u4 u5 u6 u7 u8 u9 u11 u12 u13 u14 : Value} (a : Option Addr) (la ca : Nat) (xs : List Int) (f : List Nat) (g : Int) (w : World) (h : w.heap[b]? = some (.cells #[u0, u1, u2, u3, u4, u5, u6, u7, u8, u9, .slice a la ca, u11, u12, u13, u14] 40 (0, 0))) (ha : intL.sl w a la ca xs f) :
    Calls Tryz.prog 66 #[.pointer (some ⟨b, 0, none⟩), .int .i64 g] w fun e w' => e = .returned (.bool (pb (g ∈ xs))) ∧ w = w' := by
  have cb := cellsOf h; have nb := ltOf h
  have HA := Lib.hid ha
  clear h ha
  go_enter Tryz.func66, Tryz.ntmps66
  go_wp2_with fail
  refine (containsI_any a la ca xs f g _ HA.out).mono ?_
  rintro e w' ⟨rfl, rfl⟩
  go_wp2_with fail
  go_ret
  exact ⟨rfl, rfl⟩
theorem brs_open {w : World} {cx : Array Value} {x : BRes} {fp : List Nat} (h : brsL.rep w cx.toList x fp) : ∃ (a : Option Addr) (l c : Nat), cx = #[.int .i64 x.code, .int .i64 x.block.stamp, .slice a l c] ∧ i64ok x.code ∧ blkL.rep w [.int .i64 x.block.stamp, .slice a l c] x.block fp := by
  obtain ⟨rest, ex, hcode, hw⟩ := brsL_iff.1 h
  obtain ⟨a, l, c, f, e2, _⟩ := blkL_iff.1 hw
  subst e2
  exact ⟨a, l, c, Array.toList_inj.1 ex, hcode, hw⟩
set_option maxHeartbeats 2000000 in
theorem eqBlockResult_any (x : BRes) (cx cy : Array Value) (fx fy : List Nat) (w : World) (hx : brsL.rep w cx.toList x fx) (hy : brsL.rep w cy.toList x fy) :
    Calls Tryz.prog 17 #[.agg cx, .agg cy] w fun e w' => e = .returned (.bool true) ∧ Chg [] w w' := by
  obtain ⟨a, l, c, rfl, -, h1⟩ := brs_open hx
  obtain ⟨b, m, d, rfl, -, h2⟩ := brs_open hy
  have hcc : ((x.code : Int) != x.code) = false := by simp
  have H1 := Lib.hid h1; have H2 := Lib.hid h2
  clear hx hy h1 h2
  go_enter Tryz.func17, Tryz.ntmps17
  go_wp2_with fail
  refine (eqBlock_any x.block #[.int .i64 x.block.stamp, .slice a l c] #[.int .i64 x.block.stamp, .slice b m d] fx fy _ (blkL.ext H1.out ?_) (blkL.ext H2.out ?_)).mono ?_
  · exact ((Chg.refl [] w).alloc _).alloc _
  · exact ((Chg.refl [] w).alloc _).alloc _
  rintro e w1 ⟨rfl, hc1⟩
  have HC1 := Lib.hid ((((Chg.refl [] w).alloc _).alloc _).trans0 hc1)
  clear hc1
  go_wp2_with fail
  go_ret
  exact ⟨rfl, HC1.out⟩
/-- the marks of a block's own bytes -/
def mvB1 (k : Int) (x : Blk) : Blk := ⟨x.stamp, markBL k x.bytes.length⟩
set_option maxHeartbeats 2000000 in
theorem markBlock_any (x : Blk) (cx : Array Value) (fx : List Nat) (k : Int) (w : World) (hx : blkL.rep w cx.toList x fx) (hf : Fresh 0 w fx) (hk : 0 ≤ k) (hk2 : k + (x.bytes.length : Int) ≤ 4611686018427387904) :
    Calls Tryz.prog 44 #[.agg cx, .int .i64 k] w fun e w' => e = .returned (.int .i64 (k + (x.bytes.length : Int))) ∧ blkL.rep w' cx.toList (mvB1 k x) fx ∧ Chg fx w w' := by
  obtain ⟨a1, l1, c1, f1, ex, o0, h1, hff⟩ := blkL_iff.1 hx
  obtain rfl := Array.toList_inj.1 (ex.trans (List.toList_toArray).symm)
  obtain rfl : fx = f1 := by simpa using hff
  have HL := Lib.hid h1.1
  have H1 := Lib.hid h1; have HF := Lib.hid hf; have HO := Lib.hid o0
  rw [← h1.1] at hk2
  rw [← h1.1]
  clear hx ex h1 hf hff o0
  go_enter Tryz.func44, Tryz.ntmps44
  go_wp2_with fail
  have g0 : Chg [] w (w.alloc (.cells #[.int .i64 x.stamp, .slice a1 l1 c1] 32)) := (Chg.refl [] w).alloc _
  refine (markB_any a1 l1 c1 x.bytes fx k _ (byteL.sl_ext H1.out g0) (HF.out.chg g0) hk hk2).mono ?_
  rintro e w1 ⟨rfl, hs1, hc1⟩
  have HN := Lib.hid (And.intro (blkL_iff.2 ⟨a1, l1, c1, fx, rfl, HO.out, by show byteL.sl w1 a1 l1 c1 (markBL k x.bytes.length) fx; rw [← HL.out]; exact hs1, by simp⟩ : blkL.rep w1 [.int .i64 x.stamp, .slice a1 l1 c1] (mvB1 k x) fx) ((g0.mono (T := fx) (by simp)).trans hc1 (fun x hx => .inl hx)))
  clear hs1 hc1 g0
  go_wp2_with fail
  go_ret
  exact ⟨rfl, HN.out.1, HN.out.2⟩
set_option maxHeartbeats 2000000 in
theorem markBlockResult_any (x : BRes) (cx : Array Value) (fx : List Nat) (k : Int) (w : World) (hx : brsL.rep w cx.toList x fx) (hf : Fresh 0 w fx) (hk : 0 ≤ k) (hk2 : k + (x.block.bytes.length : Int) ≤ 4611686018427387904) :
    Calls Tryz.prog 20 #[.agg cx, .int .i64 k] w fun e w' => e = .returned (.int .i64 (k + (x.block.bytes.length : Int))) ∧ brsL.rep w' cx.toList ⟨x.code, mvB1 k x.block⟩ fx ∧ Chg fx w w' := by
  obtain ⟨a, l, c, rfl, hcode, h1⟩ := brs_open hx
  have H1 := Lib.hid h1; have HF := Lib.hid hf; have HC0 := Lib.hid hcode; have HK := Lib.hid hk2
  clear hx h1 hf hcode hk2
  go_enter Tryz.func20, Tryz.ntmps20
  go_wp2_with fail
  have g0 : Chg [] w (w.alloc (.cells #[.int .i64 x.code, .int .i64 x.block.stamp, .slice a l c] 34)) := (Chg.refl [] w).alloc _
  refine (markBlock_any x.block #[.int .i64 x.block.stamp, .slice a l c] fx k _ (blkL.ext H1.out g0) (HF.out.chg g0) hk HK.out).mono ?_
  rintro e w1 ⟨rfl, hs1, hc1⟩
  have HN := Lib.hid (And.intro (brsL_iff.2 ⟨_, rfl, HC0.out, hs1⟩ : brsL.rep w1 [.int .i64 x.code, .int .i64 x.block.stamp, .slice a l c] ⟨x.code, mvB1 k x.block⟩ fx) ((g0.mono (T := fx) (by simp)).trans hc1 (fun x hx => .inl hx)))
  clear hs1 hc1 g0
  go_wp2_with fail
  go_ret
  exact ⟨rfl, HN.out.1, HN.out.2⟩
set_option maxHeartbeats 2000000 in
theorem heldBlock_any (x : Blk) (cx : Array Value) (fx : List Nat) (k : Int) (w : World) (hx : blkL.rep w cx.toList (mvB1 k x) fx) (hk : 0 ≤ k) (hk2 : k + (x.bytes.length : Int) ≤ 4611686018427387904) :
    Calls Tryz.prog 75 #[.agg cx, .int .i64 k] w fun e w' => e = .returned (.int .i64 (k + (x.bytes.length : Int))) ∧ Chg [] w w' := by
  obtain ⟨a1, l1, c1, f1, ex, o0, h1, -⟩ := blkL_iff.1 hx
  obtain rfl := Array.toList_inj.1 (ex.trans (List.toList_toArray).symm)
  have hl : l1 = x.bytes.length := by rw [h1.1]; show (markBL k x.bytes.length).length = _; rw [markBL_length]
  have h2 : byteL.sl w a1 l1 c1 (markBL k l1) f1 := by rw [hl] at h1 ⊢; exact h1
  rw [← hl] at hk2 ⊢
  have H1 := Lib.hid h2
  have hn : ¬ (k + (l1 : Int) < 0) := by omega
  clear hx ex h1 h2 o0 hl
  go_enter Tryz.func75, Tryz.ntmps75
  go_wp2_with fail
  have g0 : Chg [] w (w.alloc (.cells #[.int .i64 (mvB1 k x).stamp, .slice a1 l1 c1] 32)) := (Chg.refl [] w).alloc _
  refine (heldB_any a1 l1 c1 f1 k _ (byteL.sl_ext H1.out g0) hk hk2).mono ?_
  rintro e w1 ⟨rfl, hc1⟩
  have HC1 := Lib.hid (g0.trans0 hc1)
  clear hc1 g0
  go_wp2_with fail
  go_ret
  exact ⟨rfl, HC1.out⟩
set_option maxHeartbeats 2000000 in
theorem heldBlockResult_any (x : BRes) (cx : Array Value) (fx : List Nat) (k : Int) (w : World) (hx : brsL.rep w cx.toList ⟨x.code, mvB1 k x.block⟩ fx) (hk : 0 ≤ k) (hk2 : k + (x.block.bytes.length : Int) ≤ 4611686018427387904) :
    Calls Tryz.prog 21 #[.agg cx, .int .i64 k] w fun e w' => e = .returned (.int .i64 (k + (x.block.bytes.length : Int))) ∧ Chg [] w w' := by
  obtain ⟨a, l, c, rfl, -, h1⟩ := brs_open hx
  have H1 := Lib.hid h1; have HK := Lib.hid hk2
  have hn : ¬ (k + (x.block.bytes.length : Int) < 0) := by omega
  clear hx h1 hk2
  go_enter Tryz.func21, Tryz.ntmps21
  go_wp2_with fail
  have g0 : Chg [] w (w.alloc (.cells #[.int .i64 x.code, .int .i64 (mvB1 k x.block).stamp, .slice a l c] 34)) := (Chg.refl [] w).alloc _
  refine (heldBlock_any x.block #[.int .i64 (mvB1 k x.block).stamp, .slice a l c] fx k _ (blkL.ext H1.out g0) hk HK.out).mono ?_
  rintro e w1 ⟨rfl, hc1⟩
  have HC1 := Lib.hid (g0.trans0 hc1)
  clear hc1 g0
  go_wp2_with fail
  go_ret
  exact ⟨rfl, HC1.out⟩
end Go.Proofs.YtnnhopcjlnnchaaGreat

/- Blank blocks: a row of them, filled one by one. No function of the program in sight. -/
namespace Go.Proofs.YtnnhopcjlnnchaaGreat
open Go.RowKit

theorem setCell_same {w : World} {b o : Nat} {v : Value} (h : w.cell? ⟨b, o, none⟩ = some v) : w.setCell ⟨b, o, none⟩ v = w := by
  unfold World.cell? at h
  unfold World.setCell
  have e : (w.heap.modify b fun
      | .cells c elem frozen => .cells (if (none : Option Value).isSome then c else c.setIfInBounds o v) elem frozen
      | o => o) = w.heap := by
    apply Array.ext_getElem?
    intro j
    rw [Array.getElem?_modify]
    by_cases e : b = j
    · subst e
      simp only [if_true]
      cases hb : w.heap[b]? with
      | none => rfl
      | some x =>
        simp only [hb] at h
        cases x <;> simp at h ⊢
        rename_i c E fr
        apply Array.ext_getElem?
        intro i
        rw [Array.getElem?_setIfInBounds]
        by_cases e2 : o = i
        · subst e2
          simp [h]
          exact (Array.getElem?_eq_some_iff.1 h).1
        · rw [if_neg e2]
    · rw [if_neg e]
  cases w
  simp only at e ⊢
  congr 1

def bblk : Blk := ⟨0, [0, 0, 0, 0]⟩
def BlankTo (w wr : World) (b n k : Nat) : Prop :=
  ∃ ms : List Nat, ms.length = k ∧ RowAt blkL wr b 0 (ms.map (fun m => (bblk, [m])) ++ List.replicate (n - k) (zBlk, [])) ∧ Fresh w.heap.size wr (b :: ms) ∧ Chg [] w wr
theorem BlankTo.start {w : World} {E : TypeId} {cur : Array Value} (n : Nat) (h : blkL.sl (w.alloc (.cells cur E)) (some ⟨w.heap.size, 0, none⟩) n n (List.replicate n zBlk) [w.heap.size]) : BlankTo w (w.alloc (.cells cur E)) w.heap.size n 0 := by
  have hlo : Loose (w.alloc (.cells cur E)) w.heap.size := ⟨_, _, new_alloc w _⟩
  obtain ⟨ps, h1, h2, h3⟩ := blkL.sl_row h hlo ⟨[], rfl, by simp⟩
  have h4 : ps = List.replicate n (zBlk, []) := by
    apply List.eq_replicate_iff.2
    have hl := congrArg List.length h2
    simp only [List.length_map, List.length_replicate] at hl
    refine ⟨hl, fun p hp => ?_⟩
    have e1 : p.1 = zBlk := by
      have : p.1 ∈ ps.map (·.1) := List.mem_map_of_mem hp
      rw [h2] at this
      exact List.eq_of_mem_replicate this
    have e2 : p.2 = [] := by
      have e3 := (List.cons.inj h3).2
      rw [List.eq_nil_iff_forall_not_mem]
      intro y hy
      have : y ∈ ps.flatMap (·.2) := List.mem_flatMap.2 ⟨p, hp, hy⟩
      rw [← e3] at this
      simp at this
    exact Prod.ext e1 e2
  subst h4
  exact ⟨[], rfl, by simpa using h1, ⟨by simp, fun b hb => by simp at hb; subst hb; exact ⟨Nat.le_refl _, hlo⟩⟩, (Chg.refl [] w).alloc _⟩
theorem BlankTo.next {w wr w2 : World} {b n k m : Nat} (h : BlankTo w wr b n k) (hk : k < n) (hc : Chg [] wr w2) (hm : byteL.sl w2 (some ⟨m, 0, none⟩) 4 4 [0, 0, 0, 0] [m]) (hf : Fresh wr.heap.size w2 [m]) :
    BlankTo w (w2.setCell ⟨b, k * 2 + 1, none⟩ (.slice (some ⟨m, 0, none⟩) 4 4)) b n (k + 1) := by
  obtain ⟨ms, h1, h2, h3, h4⟩ := h
  have r2 := h2.ext hc
  have hlen : (ms.map (fun m => (bblk, [m])) ++ List.replicate (n - k) (zBlk, ([] : List Nat))).length = n := by simp; omega
  obtain ⟨p, c, hp, hrep, hnb, hcell⟩ := r2.at (i := k) (by rw [hlen]; exact hk)
  have hpe : p = (zBlk, []) := by
    rw [List.getElem?_append_right (by simp; omega)] at hp
    have := List.mem_of_getElem? hp
    exact List.eq_of_mem_replicate this
  subst hpe
  obtain ⟨a', l', c', f', rfl, -, -, -⟩ := blkL_iff.1 hrep
  have h0 : w2.cell? ⟨b, k * 2, none⟩ = some (.int .i64 0) := by
    have h5 : w2.cell? ⟨b, 0 + k * 2 + 0, none⟩ = some (.int .i64 0) := hcell 0 (by decide)
    rw [Nat.zero_add, Nat.add_zero] at h5
    exact h5
  have hbm : b ≠ m := fun e => by have := (hf.2 m (by simp)).1; have := h2.lt; omega
  have hput := r2.put (i := k) (by rw [hlen]; exact hk) (x := bblk) (c := [.int .i64 0, .slice (some ⟨m, 0, none⟩) 4 4]) (f := [m]) (blkL_iff.2 ⟨_, _, _, _, rfl, i64z, hm, rfl⟩) (by simpa using hbm)
  have ew : w2.setCells b (0 + k * blkL.n) [.int .i64 0, .slice (some ⟨m, 0, none⟩) 4 4] = w2.setCell ⟨b, k * 2 + 1, none⟩ (.slice (some ⟨m, 0, none⟩) 4 4) := by
    show (w2.setCell ⟨b, 0 + k * 2, none⟩ _).setCell ⟨b, 0 + k * 2 + 1, none⟩ _ = _
    rw [Nat.zero_add, setCell_same h0]
  rw [ew] at hput
  have es : (ms.map (fun m => (bblk, [m])) ++ List.replicate (n - k) (zBlk, ([] : List Nat))).set k (bblk, [m]) = (ms ++ [m]).map (fun m => (bblk, [m])) ++ List.replicate (n - (k + 1)) (zBlk, []) := by
    rw [List.set_append_right _ _ (by simp; omega), List.length_map, h1, Nat.sub_self, show n - k = (n - (k + 1)) + 1 by omega, List.replicate_succ, List.set_cons_zero, List.map_append]
    simp
  rw [es] at hput
  have cS : Chg [b] w2 (w2.setCell ⟨b, k * 2 + 1, none⟩ (.slice (some ⟨m, 0, none⟩) 4 4)) := (Chg.refl _ _).setCell _ _ (.inl (by simp))
  refine ⟨ms ++ [m], by simp [h1], hput, ?_, ?_⟩
  · have := (h3.chg hc).append hf h3.lts h4.size
    exact (show Fresh w.heap.size w2 (b :: (ms ++ [m])) from this).chg cS
  · exact (h4.trans0 hc).setCell _ _ (.inr (h3.2 b (by simp)).1)
theorem BlankTo.cells {w wr : World} {b n k : Nat} (h : BlankTo w wr b n k) (hk : k < n) : (∃ v, wr.cell? ⟨b, k * 2 + 1, none⟩ = some v) ∧ b < wr.heap.size ∧ ∀ j, wr.frozen? ⟨b, j, none⟩ = false := by
  obtain ⟨ms, h1, h2, h3, h4⟩ := h
  have hlen : (ms.map (fun m => (bblk, [m])) ++ List.replicate (n - k) (zBlk, ([] : List Nat))).length = n := by simp; omega
  obtain ⟨p, c, hp, hrep, hnb, hcell⟩ := h2.at (i := k) (by rw [hlen]; exact hk)
  obtain ⟨a', l', c', f', rfl, -, -, -⟩ := blkL_iff.1 hrep
  have h5 : wr.cell? ⟨b, 0 + k * 2 + 1, none⟩ = some (.slice a' l' c') := hcell 1 (by decide)
  rw [Nat.zero_add] at h5
  exact ⟨⟨_, h5⟩, h2.lt, h2.free⟩
theorem BlankTo.last {w wr : World} {b n : Nat} (h : BlankTo w wr b n n) (hn : n ≤ maxLen) : NewSl blkL (List.replicate n bblk) w (.returned (.slice (some ⟨b, 0, none⟩) n n)) wr := by
  obtain ⟨ms, h1, h2, h3, h4⟩ := h
  rw [Nat.sub_self, List.replicate_zero, List.append_nil] at h2
  have := h2.sl (len := n) (cap := n) (by simp [h1]) (Nat.le_refl _) hn
  have e1 : (ms.map (fun m => (bblk, [m]))).map (·.1) = List.replicate n bblk := by
    rw [List.map_map, ← h1]
    exact List.map_const' ..
  have e2 : (ms.map (fun m => (bblk, [m]))).flatMap (·.2) = ms := by
    rw [List.flatMap_map]
    simp
  rw [e1, e2] at this
  exact ⟨some ⟨b, 0, none⟩, n, _, by simp, by simpa using this, h3, h4⟩
end Go.Proofs.YtnnhopcjlnnchaaGreat

/- Blank blocks and drives, a new world: both sides. -/
namespace Go.Proofs.YtnnhopcjlnnchaaGreat
open Go.RowKit

theorem newR_bad {x : Shp} (h : ¬ x.fault = 0) : newR x = ⟨x.fault, zWld⟩ := if_neg h
theorem newR_ok {x : Shp} (h : x.fault = 0) : newR x = ⟨0, newWld x⟩ := if_pos h
theorem rep_next {α : Type} (n : Nat) (x : α) : List.replicate n x ++ [x] = List.replicate (n + 1) x := (List.replicate_succ' ..).symm

set_option maxRecDepth 100000 in
set_option maxHeartbeats 2000000 in
theorem blank_any (n : Nat) (w : World) (hn : n ≤ 1000) :
    Calls Tryz.prog 86 #[.int .i64 n] w (NewSl blkL (List.replicate n bblk) w) := by
  have hmk := makeBlock n (by omega)
  have hmb : ∀ w : World, (Instr.makeSlice 30 (.int .i64 4) (.int .i64 4)).run Tryz.prog w = .ok (.slice (some ⟨w.heap.size, 0, none⟩) 4 4) (w.alloc (.cells (zrow (.int .u8 0) 4) 5)) := fun w => make_bytes 4 (by omega) w
  go_enter Tryz.func86, Tryz.ntmps86
  go_wp2_with fail
  go_loopw [9] (fun vk wr => ∃ (k : Nat) (Wr : World), Wr = wr ∧ k ≤ n ∧ vk = .int .i64 k ∧ BlankTo w wr w.heap.size n k) (fun vk _ => n - (intOf vk).toNat)
  case atStart => exact ⟨0, _, rfl, by omega, rfl, BlankTo.start n (blkL.sl_zrow (z := .agg #[.int .i64 0, .slice none 0 0]) w 32 n (by omega) (zBlk_rep _))⟩
  case round =>
    obtain ⟨k, wr, rfl, hk, rfl, hg⟩ := hrel
    by_cases hlt : k < n
    · obtain ⟨⟨v1, hb1⟩, hb2, hb3⟩ := hg.cells hlt
      have HG := Lib.hid hg; clear hg
      go_wp2_with fail
      go_roundw
      case rel => exact ⟨k + 1, _, rfl, by omega, by go_num, by have h := HG.out.next hlt ((Chg.refl _ _).alloc _) (byte_zrow wr 5 4 (by omega)) (fresh_new _ _ _); rw [World.setCell_alloc_past _ _ _ _ hb2] at h; exact h⟩
      case measure => simp [intOf]; omega
    · obtain rfl : k = n := by omega
      have HN := Lib.hid (hg.last (by unfold maxLen; omega)); clear hg
      go_wp2_with fail
      go_ret
      have hl : (List.replicate k bblk).length = k := by simp
      exact HN.out

theorem blank_x {x : Shp} {n : Nat} (h : x.rows = n) (hn : n ≤ 1000) (w : World) : Calls Tryz.prog 86 #[.int .i64 x.rows] w (NewSl blkL (List.replicate n bblk) w) := by
  rw [h]; exact blank_any n w hn

set_option maxRecDepth 100000 in
set_option maxHeartbeats 2000000 in
theorem l5Blank_any (w : World) : Calls Tryz.prog 132 #[] w (NewAgg blkL bblk w) := by
  have hmb : ∀ w : World, (Instr.makeSlice 30 (.int .i64 4) (.int .i64 4)).run Tryz.prog w = .ok (.slice (some ⟨w.heap.size, 0, none⟩) 4 4) (w.alloc (.cells (zrow (.int .u8 0) 4) 5)) := fun w => make_bytes 4 (by omega) w
  go_enter Tryz.func132, Tryz.ntmps132
  go_wp2_with fail
  have hsl := byte_zrow (w.alloc (.cells #[.int .i64 0, .slice (some ⟨w.heap.size + 1, 0, none⟩) 4 4] 32)) 5 4 (by omega)
  have hsz : (w.alloc (.cells #[.int .i64 0, .slice (some ⟨w.heap.size + 1, 0, none⟩) 4 4] 32)).heap.size = w.heap.size + 1 := by simp
  have hb := (fresh_new (w.alloc (.cells #[.int .i64 0, .slice (some ⟨w.heap.size + 1, 0, none⟩) 4 4] 32)) (zrow (.int .u8 0) 4) 5)
  rw [hsz] at hb hsl
  refine bodyPost_ret (v := .agg #[.int .i64 0, .slice (some ⟨w.heap.size + 1, 0, none⟩) 4 4]) (by simp [results, Tryz.results132, go_sem]) rfl ⟨_, _, rfl, blkL_iff.2 ⟨_, _, _, _, rfl, i64z, hsl, rfl⟩, ?_, ?_⟩
  · exact hb.mono (by omega)
  · exact ((Chg.refl [] w).alloc _).alloc _

set_option maxRecDepth 100000 in
set_option maxHeartbeats 4000000 in
theorem l5Fresh_any (x : Shp) (n : Nat) (w : World) (hx : x.rows = n) (hn : n ≤ 1000) :
    Calls Tryz.prog 85 #[.agg #[.int .i64 x.groups, .int .i64 x.column, .int .i64 x.data, .int .i64 x.spare, .int .i64 x.rows, .int .i64 x.cap, .int .i64 x.batch, .int .i64 x.queue, .int .i64 x.stage]] w (NewAgg drvL (freshDrv n) w) := by
  obtain ⟨KB, _⟩ := kindBlock
  have HX := Lib.hid hx
  clear hx
  have G0 := Lib.hid (show Chg [] w (((w.alloc (.cells #[.int .i64 x.groups, .int .i64 x.column, .int .i64 x.data, .int .i64 x.spare, .int .i64 x.rows, .int .i64 x.cap, .int .i64 x.batch, .int .i64 x.queue, .int .i64 x.stage] 36)).alloc (.cells #[.bool false, .slice none 0 0] 81)).alloc (.cells #[.bool false, .slice none 0 0] 81)) from (((Chg.refl [] w).alloc _).alloc _).alloc _)
  have B0 := Lib.hid (show (((w.alloc (.cells #[.int .i64 x.groups, .int .i64 x.column, .int .i64 x.data, .int .i64 x.spare, .int .i64 x.rows, .int .i64 x.cap, .int .i64 x.batch, .int .i64 x.queue, .int .i64 x.stage] 36)).alloc (.cells #[.bool false, .slice none 0 0] 81)).alloc (.cells #[.bool false, .slice none 0 0] 81)).heap[w.heap.size]? = some (.cells #[.int .i64 x.groups, .int .i64 x.column, .int .i64 x.data, .int .i64 x.spare, .int .i64 x.rows, .int .i64 x.cap, .int .i64 x.batch, .int .i64 x.queue, .int .i64 x.stage] 36 (0, 0)) from keep_alloc (keep_alloc (new_alloc w _) _) _)
  have B1 := Lib.hid (show (((w.alloc (.cells #[.int .i64 x.groups, .int .i64 x.column, .int .i64 x.data, .int .i64 x.spare, .int .i64 x.rows, .int .i64 x.cap, .int .i64 x.batch, .int .i64 x.queue, .int .i64 x.stage] 36)).alloc (.cells #[.bool false, .slice none 0 0] 81)).alloc (.cells #[.bool false, .slice none 0 0] 81)).heap[w.heap.size + 1]? = some (.cells #[.bool false, .slice none 0 0] 81 (0, 0)) from keep_alloc (new_at (by simp) _) _)
  have B2 := Lib.hid (show (((w.alloc (.cells #[.int .i64 x.groups, .int .i64 x.column, .int .i64 x.data, .int .i64 x.spare, .int .i64 x.rows, .int .i64 x.cap, .int .i64 x.batch, .int .i64 x.queue, .int .i64 x.stage] 36)).alloc (.cells #[.bool false, .slice none 0 0] 81)).alloc (.cells #[.bool false, .slice none 0 0] 81)).heap[w.heap.size + 2]? = some (.cells #[.bool false, .slice none 0 0] 81 (0, 0)) from new_at (by simp) _)
  go_enter Tryz.func85, Tryz.ntmps85
  go_wp2_with fail
  go_loopw [4] (fun vi wr => ∃ (k : Nat) (v : Value) (Wr : World), Wr = wr ∧ k ≤ n ∧ vi = .int .i64 k ∧ GrowC blkL 32 (w.heap.size + 3) wr v (List.replicate k bblk) ∧ wr.heap[w.heap.size]? = some (.cells #[.int .i64 x.groups, .int .i64 x.column, .int .i64 x.data, .int .i64 x.spare, .int .i64 x.rows, .int .i64 x.cap, .int .i64 x.batch, .int .i64 x.queue, .int .i64 x.stage] 36 (0, 0)) ∧ wr.heap[w.heap.size + 1]? = some (.cells #[.bool false, .slice none 0 0] 81 (0, 0)) ∧ wr.heap[w.heap.size + 2]? = some (.cells #[.bool false, v] 81 (0, 0)) ∧ Chg [] w wr) (fun vi _ => n - (intOf vi).toNat)
  case atStart => exact ⟨0, .slice none 0 0, _, rfl, by omega, rfl, GrowC.nil (by simp), B0.out, B1.out, B2.out, G0.out⟩
  case round =>
    clear G0 B0 B1 B2
    obtain ⟨k, v, wr, rfl, hk, rfl, hg, hb0, hb1, hb2, hc⟩ := hrel
    have c0 := cellsOf hb0; have n0 := ltOf hb0
    have B0 := Lib.hid hb0; have B1 := Lib.hid hb1; have B2 := Lib.hid hb2
    by_cases hlt : k < n
    · have hle : ((k : Int) < x.rows) := by have := HX.out; omega
      have HG := Lib.hid hg; have HC := Lib.hid hc
      have lw : w.heap.size + 2 < wr.heap.size := ltOf hb2
      have HLL : RowKit.Hid ((List.replicate k bblk).length + [bblk].length ≤ maxLen ∧ ((List.replicate k bblk).length + [bblk].length) * 32 ≤ 140737488355328) := by
        refine ⟨?_, ?_⟩ <;> simp only [List.length_replicate, List.length_cons, List.length_nil, maxLen] <;> omega
      clear hg hc hb0 hb1 hb2
      go_wp2_with fail
      obtain ⟨CC, HCI, HCO⟩ := rg_cond (fun w' => Know (w.heap.size + 2) #[.bool false, v] w')
      refine gg_start [4] CC (by kernel_rfl) (HCI.out _ (Know.of (keep_drew B2.out))) (fun hcl hS => ?_)
      refine ggT 0 hcl hS ?_; clear hcl hS; intro hcl hS
      refine ggL 1 hcl hS HCO ?_; clear hcl hS; intro hcl hS
      refine ggC 2 hcl rfl (by kernel_rfl) (fun K hK => ?_)
      go_simp
      go_at_call 132
      refine (l5Blank_any _).mono ?_; rintro e w3 ⟨cs, g3, rfl, hs, hf, hc⟩
      obtain ⟨p3, m3, d3, _, ex, -⟩ := blkL_iff.1 hs; obtain rfl := Array.toList_inj.1 (ex.trans (List.toList_toArray).symm)
      have HN1 := Lib.hid (And.intro hs (And.intro (hf.mono (C := wr.heap.size) (Nat.le_refl _)) (((Chg.refl [] wr).drew).trans0 hc))); obtain ⟨-, -, F2⟩ := bk hc (keep_drew B2.out) (by simp); clear hs hf hc ex
      go_wp2_with fail
      refine hK.out _ _ (fun _ => HCI.out _ (Know.of F2.out)) ?_
      clear hK K hcl hS
      intro hcl hS
      try simp only [Act.put, List.setIfInBounds_toArray, List.set_cons_zero, List.set_cons_succ]
      refine ggC 3 hcl rfl (by kernel_rfl) (fun K hK => ?_)
      go_simp
      refine hK.out _ _ (fun _ => HCI.out _ (Know.of (keep_alloc F2.out _))) ?_
      clear hK K hcl hS
      intro hcl hS
      try simp only [Act.put, List.setIfInBounds_toArray, List.set_cons_zero, List.set_cons_succ]
      refine ggC 4 hcl rfl (by kernel_rfl) (fun K hK => ?_)
      refine GrowB.step rfl _ _ 79 rfl Tryz.underlying79 KB rfl (HG.out.b.ext (HN1.out.2.2.alloc (.cells #[.int .i64 bblk.stamp, .slice p3 m3 d3] 32))) ⟨w3.heap.size, 0, none⟩ 1 1 [.int .i64 bblk.stamp, .slice p3 m3 d3] (ys := [bblk]) (f := g3) rfl rfl (new_cells w3 #[.int .i64 bblk.stamp, .slice p3 m3 d3] 32) (blkL.all_single (blkL.ext HN1.out.1 ((Chg.refl [] w3).alloc _))) (HN1.out.2.1.chg ((Chg.refl [] w3).alloc _)) HLL.out.1 HLL.out.2 ?_
      intro v' w4 hg' hup
      rw [rep_next] at hg'
      obtain ⟨pv, lv, cv, rfl⟩ : ∃ a l c, v' = Value.slice a l c := by obtain ⟨a, c, f, h, -⟩ := hg'.sl; exact ⟨a, _, c, h⟩
      have HG2 := Lib.hid hg'; have HU := Lib.hid hup
      have F6 := Lib.hid ((hup.low (w.heap.size + 2) (by omega)).trans (keep_alloc F2.out _)); have k6 := cellsOf F6.out; have n6 := ltOf F6.out; have z6 := freeOf F6.out
      have Q0 := Lib.hid ((hup.low w.heap.size (by omega)).trans (keep_alloc (HN1.out.2.2.keep0 B0.out) _)); have Q1 := Lib.hid ((hup.low (w.heap.size + 1) (by omega)).trans (keep_alloc (HN1.out.2.2.keep0 B1.out) _)); clear hg' hup
      refine hK.out _ _ (Till.done (m := 4) (by simp) (by rfl)) ?_
      clear hK K hcl hS
      intro hcl hS
      try simp only [Act.put, List.setIfInBounds_toArray, List.set_cons_zero, List.set_cons_succ]
      refine ggT 5 hcl hS ?_; clear hcl hS; intro hcl hS
      refine ggC 6 hcl rfl (by kernel_rfl) (fun K hK => ?_)
      go_simp
      refine hK.out _ _ (Till.done (m := 4) (by simp) (by rfl)) ?_
      clear hK K hcl hS
      intro hcl hS
      try simp only [Act.put, List.setIfInBounds_toArray, List.set_cons_zero, List.set_cons_succ]
      refine ggEnd (by kernel_rfl) ?_ _
      have r1 := HG2.out.chg ((Chg.refl [w.heap.size + 2] w4).setCell ⟨w.heap.size + 2, 1, none⟩ (.slice pv lv cv) (.inl (by simp))) (by simp)
      have r2 := keep_set Q0.out ⟨w.heap.size + 2, 1, none⟩ (.slice pv lv cv) (by simp)
      have r3 := keep_set Q1.out ⟨w.heap.size + 2, 1, none⟩ (.slice pv lv cv) (by simp)
      have r4 : (w4.setCell ⟨w.heap.size + 2, 1, none⟩ (.slice pv lv cv)).heap[w.heap.size + 2]? = some (.cells #[.bool false, .slice pv lv cv] 81 (0, 0)) := heap_set_lit (cur := #[.bool false, v]) F6.out rfl
      have r5 := (HU.out.chg ((HC.out.trans0 HN1.out.2.2).alloc (.cells #[.int .i64 bblk.stamp, .slice p3 m3 d3] 32)) (by omega)).setCell ⟨w.heap.size + 2, 1, none⟩ (.slice pv lv cv) (.inr (by simp))
      have HR := Lib.hid (And.intro r1 (And.intro r2 (And.intro r3 (And.intro r4 r5))))
      clear r1 r2 r3 r4 r5
      go_wp2_with fail
      go_roundw
      case rel => exact ⟨k + 1, .slice pv lv cv, _, rfl, by omega, by go_num, HR.out.1, HR.out.2.1, HR.out.2.2.1, HR.out.2.2.2.1, HR.out.2.2.2.2⟩
      case measure => simp [intOf]; omega
    · obtain rfl : k = n := by omega
      have hle : ¬ ((k : Int) < x.rows) := by have := HX.out; omega
      obtain ⟨p1, d1, g1, rfl, hs, hf⟩ := hg.sl
      rw [List.length_replicate] at hs hb2 B2
      have cb2 := cellsOf hb2; have lb2 := ltOf hb2
      have hlb1 := ltOf hb1; have fz := freeOf hb1; have cb1 := cellsOf hb1
      have hq := row2_back (.bool false) (.slice p1 k d1) hb1
      have hqc := cellsOf hq
      have cS : Chg [w.heap.size + 1] wr ((wr.setCell ⟨w.heap.size + 1, 0, none⟩ (.bool false)).setCell ⟨w.heap.size + 1, 1, none⟩ (.slice p1 k d1)) := ((Chg.refl _ wr).setCell _ _ (.inl (by simp))).setCell _ _ (.inl (by simp))
      have hns : ∀ y ∈ g1, y ∉ [w.heap.size + 1] := fun y hy hm => by have := (hf.2 y hy).1; rw [List.mem_singleton] at hm; omega
      have K1 := blkL.sl_chg hs cS hns
      have F1 := (hf.mono (C := w.heap.size) (by omega)).chg cS
      have hch := hc.trans cS (fun y hy => .inr (by rw [List.mem_singleton] at hy; omega))
      have HN := Lib.hid (show NewAgg drvL (freshDrv k) w (.returned (.agg #[.bool false, .slice p1 k d1])) _ from ⟨_, _, rfl, drvL_iff.2 ⟨p1, k, d1, g1, rfl, K1, rfl⟩, F1, hch⟩)
      have HQC := Lib.hid hqc
      clear hs hf hb1 hb2 hc hg hq hqc cS hns K1 F1 hch
      go_wp2_with fail
      have hqc := HQC.out
      refine bodyPost_ret (v := .agg #[.bool false, .slice p1 k d1]) (by simp [results, Tryz.results85, go_sem, hqc]) rfl HN.out
end Go.Proofs.YtnnhopcjlnnchaaGreat

/- WipeDrive: both sides. -/
namespace Go.Proofs.YtnnhopcjlnnchaaGreat
open Go.RowKit

theorem wipeDR_bad {x : Wld} {g d : Int} (h : ¬ x.fault = 0) : wipeDR x g d = ⟨x.fault, zWld⟩ := if_pos h
theorem wipeDR_out {x : Wld} {g d : Int} (h : x.fault = 0) (h2 : ¬ ((0 ≤ g ∧ g ≤ x.shape.all - 1) ∧ (0 ≤ d ∧ d ≤ x.shape.drives - 1))) : wipeDR x g d = ⟨3, zWld⟩ := by unfold wipeDR; rw [if_neg (fun g => g h), if_pos (pb_false (P := x.isGroup g ∧ x.isDrive d) h2)]
theorem wipeDR_ok {x : Wld} {g d n : Nat} {G : List Drv} (h : x.fault = 0) (h2 : (0 ≤ (g : Int) ∧ (g : Int) ≤ x.shape.all - 1) ∧ (0 ≤ (d : Int) ∧ (d : Int) ≤ x.shape.drives - 1)) (hG : x.groups[g]? = some G) (hn : x.shape.rows = n) : wipeDR x g d = ⟨0, { x with groups := x.groups.set g (G.set d ⟨true, List.replicate n bblk⟩) }⟩ := by
  unfold wipeDR
  rw [if_neg (fun g => g h), if_neg (by rw [pb_true (P := x.isGroup g ∧ x.isDrive d) h2]; simp)]
  unfold Wld.setDrive
  rw [Int.toNat_natCast, Int.toNat_natCast, hn, Int.toNat_natCast, List.getD_eq_getElem?_getD, hG]
  rfl
theorem fault_built {x : Wld} (h : x.fault = 0) : x.built := by
  refine Classical.byContradiction (fun hn => ?_)
  unfold Wld.fault at h
  rw [pb_false (P := x.built ∧ x.onOk ∧ x.tapes.length = 2) (fun g => hn g.1)] at h
  split at h <;> simp at h
/-- an element of a slice of slices may change -/
theorem slc_mod {α : Type} {M : Lay α} {w : World} {b off len cap : Nat} {xs : List (List α)} {fp : List Nat} (h : M.slice.sl w (some ⟨b, off, none⟩) len cap xs fp) (nd : fp.Nodup) {i : Nat} (hi : i < len) :
    ∃ x A l C f, xs[i]? = some x ∧ w.cell? ⟨b, off + i, none⟩ = some (.slice A l C) ∧ M.sl w A l C x f ∧ (∀ y ∈ f, y ∈ fp) ∧ f.Nodup ∧ b ∉ f ∧ b ∈ fp ∧
      ∀ w' x' f', M.sl w' A l C x' f' → f'.Nodup → (∀ y ∈ f', y ∈ f ∨ y ∉ fp) → (∀ y ∈ fp, y ∉ f → w'.heap[y]? = w.heap[y]?) →
        ∃ fp', M.slice.sl w' (some ⟨b, off, none⟩) len cap (xs.set i x') fp' ∧ fp'.Nodup ∧ ∀ y ∈ fp', (y ∈ fp ∧ y ∉ f) ∨ y ∈ f' := by
  obtain ⟨x, c, f, hx, hb, hc, ⟨A, l, C, rfl, hs⟩, hf, hfn, hbf, hup⟩ := M.slice.sl_modN h nd hi
  have h0 := hc 0 M.slice.pos
  rw [show off + i * M.slice.n + 0 = off + i by simp [Lay.slice]] at h0
  exact ⟨x, A, l, C, f, hx, h0, hs, hf, hfn, hbf, hb, fun w' x' f' h1 => hup w' x' f' ⟨A, l, C, rfl, h1⟩⟩

set_option maxRecDepth 100000 in
set_option maxHeartbeats 8000000 in
theorem impl_WipeDrive (x : Wld) (cx : Array Value) (fx : List Nat) (g : Int) (d : Int) (w : World) (hx : wldL.rep w cx.toList x fx) (hz : totWld x ≤ 1048576) (og : i64ok g) (od : i64ok d) :
    Calls Tryz.prog 32 #[.agg cx, .int .i64 g, .int .i64 d] w (NewAgg wrsL (wipeDR x g d) w) := by
  obtain ⟨a10, l10, c10, _, a11, l11, c11, f11, a12, l12, c12, _, ex, -, -, -, -, -, -, -, -, -, h10, h11, h12, oo13, oo14, -⟩ := wldL_iff.1 hx
  obtain rfl := Array.toList_inj.1 (ex.trans (List.toList_toArray).symm)
  have HW := Lib.hid hx; have HZ := Lib.hid hz; have H10 := Lib.hid h10; have H11 := Lib.hid h11; have H12 := Lib.hid h12; have HOO := Lib.hid (And.intro oo13 oo14)
  have hl11 : l11 ≤ 1048576 := by have h := h11.1; have q10 := totL_nonneg (totL_nonneg totDrv_nonneg) x.groups; have q12 := totL_nonneg totTap_nonneg x.tapes; unfold totWld totIs at hz; omega
  clear hx ex hz h10 h11 h12 oo13 oo14
  have G0 := Lib.hid (show Chg [] w ((w.alloc (.cells #[.int .i64 x.shape.groups, .int .i64 x.shape.column, .int .i64 x.shape.data, .int .i64 x.shape.spare, .int .i64 x.shape.rows, .int .i64 x.shape.cap, .int .i64 x.shape.batch, .int .i64 x.shape.queue, .int .i64 x.shape.stage, .slice a10 l10 c10, .slice a11 l11 c11, .slice a12 l12 c12, .int .i64 x.writes, .int .i64 x.stop, .bool x.down] 40)).alloc (.cells #[.int .i64 0, .int .i64 0, .int .i64 0, .int .i64 0, .int .i64 0, .int .i64 0, .int .i64 0, .int .i64 0, .int .i64 0, .int .i64 0, .slice none 0 0, .slice none 0 0, .slice none 0 0, .int .i64 0, .int .i64 0, .bool false] 48)) from (Chg.alloc (Chg.alloc (Chg.refl [] w) _) _))
  have B0 := Lib.hid (show ((w.alloc (.cells #[.int .i64 x.shape.groups, .int .i64 x.shape.column, .int .i64 x.shape.data, .int .i64 x.shape.spare, .int .i64 x.shape.rows, .int .i64 x.shape.cap, .int .i64 x.shape.batch, .int .i64 x.shape.queue, .int .i64 x.shape.stage, .slice a10 l10 c10, .slice a11 l11 c11, .slice a12 l12 c12, .int .i64 x.writes, .int .i64 x.stop, .bool x.down] 40)).alloc (.cells #[.int .i64 0, .int .i64 0, .int .i64 0, .int .i64 0, .int .i64 0, .int .i64 0, .int .i64 0, .int .i64 0, .int .i64 0, .int .i64 0, .slice none 0 0, .slice none 0 0, .slice none 0 0, .int .i64 0, .int .i64 0, .bool false] 48)).heap[w.heap.size]? = some (.cells #[.int .i64 x.shape.groups, .int .i64 x.shape.column, .int .i64 x.shape.data, .int .i64 x.shape.spare, .int .i64 x.shape.rows, .int .i64 x.shape.cap, .int .i64 x.shape.batch, .int .i64 x.shape.queue, .int .i64 x.shape.stage, .slice a10 l10 c10, .slice a11 l11 c11, .slice a12 l12 c12, .int .i64 x.writes, .int .i64 x.stop, .bool x.down] 40 (0, 0)) from keep_alloc (new_alloc w _) _)
  have B1 := Lib.hid (show ((w.alloc (.cells #[.int .i64 x.shape.groups, .int .i64 x.shape.column, .int .i64 x.shape.data, .int .i64 x.shape.spare, .int .i64 x.shape.rows, .int .i64 x.shape.cap, .int .i64 x.shape.batch, .int .i64 x.shape.queue, .int .i64 x.shape.stage, .slice a10 l10 c10, .slice a11 l11 c11, .slice a12 l12 c12, .int .i64 x.writes, .int .i64 x.stop, .bool x.down] 40)).alloc (.cells #[.int .i64 0, .int .i64 0, .int .i64 0, .int .i64 0, .int .i64 0, .int .i64 0, .int .i64 0, .int .i64 0, .int .i64 0, .int .i64 0, .slice none 0 0, .slice none 0 0, .slice none 0 0, .int .i64 0, .int .i64 0, .bool false] 48)).heap[w.heap.size + 1]? = some (.cells #[.int .i64 0, .int .i64 0, .int .i64 0, .int .i64 0, .int .i64 0, .int .i64 0, .int .i64 0, .int .i64 0, .int .i64 0, .int .i64 0, .slice none 0 0, .slice none 0 0, .slice none 0 0, .int .i64 0, .int .i64 0, .bool false] 48 (0, 0)) from new_at (by simp) _)
  go_enter Tryz.func32, Tryz.ntmps32
  obtain ⟨q, hq⟩ : ∃ q, q = x.fault := ⟨_, rfl⟩
  have HQ := Lib.hid hq; clear hq
  go_wp2_with (first | (refine load_wide rfl _ 40 rfl rfl infoWd Tryz.underlying40 B0.out rfl ?_))
  refine (impl_WorldFault x #[.int .i64 x.shape.groups, .int .i64 x.shape.column, .int .i64 x.shape.data, .int .i64 x.shape.spare, .int .i64 x.shape.rows, .int .i64 x.shape.cap, .int .i64 x.shape.batch, .int .i64 x.shape.queue, .int .i64 x.shape.stage, .slice a10 l10 c10, .slice a11 l11 c11, .slice a12 l12 c12, .int .i64 x.writes, .int .i64 x.stop, .bool x.down] fx _ (wldL.ext HW.out G0.out)).mono ?_
  rintro e w1 ⟨rfl, hc⟩
  rw [← HQ.out]
  obtain ⟨c0, n0, A0_1⟩ := bk hc B0.out (by simp)
  obtain ⟨c1, n1, A1_1⟩ := bk hc B1.out (by simp)
  have G1 := Lib.hid (G0.out.trans0 hc)
  have fz := freeOf A1_1.out
  clear hc
  have hqk : i64ok q := by rw [HQ.out]; exact fault_i64 x
  by_cases hq0 : q = 0
  · subst hq0
    have hf0 : x.fault = 0 := HQ.out.symm
    have hok := rows_ok hf0
    by_cases hg : 0 ≤ g ∧ g ≤ x.shape.all - 1
    · have HI := Lib.hid (show inB g 0 (x.shape.all - 1) = true by simp [inB, hg.1, hg.2])
      go_wp2_with (first | (refine load_wide rfl _ 40 rfl rfl infoWd Tryz.underlying40 A0_1.out rfl ?_))
      refine (st_isGroup_any x.shape hok g _).mono ?_
      rintro e w2 ⟨rfl, hc⟩
      rw [HI.out]
      clear c0 n0
      obtain ⟨c0, n0, A0_2⟩ := bk hc A0_1.out (by simp)
      clear c1 n1
      obtain ⟨c1, n1, A1_2⟩ := bk hc A1_1.out (by simp)
      have G2 := Lib.hid (G1.out.trans0 hc)
      clear fz; have fz := freeOf A1_2.out
      clear hc
      by_cases hd : 0 ≤ d ∧ d ≤ x.shape.drives - 1
      · have HJ := Lib.hid (show inB d 0 (x.shape.drives - 1) = true by simp [inB, hd.1, hd.2])
        go_wp2_with (first | (refine load_wide rfl _ 40 rfl rfl infoWd Tryz.underlying40 A0_2.out rfl ?_))
        refine (st_isDrive_any x.shape hok d _).mono ?_
        rintro e w3 ⟨rfl, hc⟩
        rw [HJ.out]
        clear c0 n0
        obtain ⟨c0, n0, A0_3⟩ := bk hc A0_2.out (by simp)
        clear c1 n1
        obtain ⟨c1, n1, A1_3⟩ := bk hc A1_2.out (by simp)
        have G3 := Lib.hid (G2.out.trans0 hc)
        clear fz; have fz := freeOf A1_3.out
        clear hc
        go_wp2_with (first | (refine load_wide rfl _ 40 rfl rfl infoWd Tryz.underlying40 A0_3.out rfl ?_))
        refine (cloneWorld_any x #[.int .i64 x.shape.groups, .int .i64 x.shape.column, .int .i64 x.shape.data, .int .i64 x.shape.spare, .int .i64 x.shape.rows, .int .i64 x.shape.cap, .int .i64 x.shape.batch, .int .i64 x.shape.queue, .int .i64 x.shape.stage, .slice a10 l10 c10, .slice a11 l11 c11, .slice a12 l12 c12, .int .i64 x.writes, .int .i64 x.stop, .bool x.down] fx _ (wldL.ext HW.out G3.out) HZ.out).mono ?_
        rintro e w4 ⟨cs2, f2, rfl, hs, hf, hc⟩
        obtain ⟨p10, m10, d10, g10, p11, m11, d11, g11, p12, m12, d12, g12, ex, o1, o2, o3, o4, o5, o6, o7, o8, o9, K10, K11, K12, o13, o14, rfl⟩ := wldL_iff.1 hs
        obtain rfl := Array.toList_inj.1 (ex.trans (List.toList_toArray).symm)
        have HO := Lib.hid (And.intro o1 (And.intro o2 (And.intro o3 (And.intro o4 (And.intro o5 (And.intro o6 (And.intro o7 (And.intro o8 (And.intro o9 (And.intro o13 o14))))))))))
        have HK := Lib.hid (And.intro K10 (And.intro K11 K12)); have HF := Lib.hid hf; have HFn := Lib.hid (fun b hb => (hf.2 b hb).1); have nR0 := n1
        clear hs ex K10 K11 K12 o1 o2 o3 o4 o5 o6 o7 o8 o9 o13 o14 hf
        clear c0 n0
        obtain ⟨c0, n0, A0_4⟩ := bk hc A0_3.out (by simp)
        clear c1 n1
        obtain ⟨c1, n1, A1_4⟩ := bk hc A1_3.out (by simp)
        have G4 := Lib.hid (G3.out.trans0 hc)
        clear fz; have fz := freeOf A1_4.out
        clear hc
        go_upto_region 7 with (refine store_wide rfl _ _ 40 rfl rfl rfl infoWd (new_alloc _ _) rfl rfl rfl ?_; intro w5 hm hc0)
        have hc : Chg [] w4 w5 := ((Chg.refl [] w4).alloc _).trans hc0 (fun y hy => .inr (by rw [List.mem_singleton] at hy; omega)); clear hc0
        have HM := Lib.hid hm; have cm := cellsOf hm; have nm := ltOf hm; have fm := freeOf hm; have nR : w.heap.size + 1 < w4.heap.size := n1; clear hm
        have hF := HF.out.lts; have HKe := Lib.hid (And.intro (drvL.slice.sl_ext HK.out.1 hc) (And.intro (intL.sl_ext HK.out.2.1 hc) (tapL.sl_ext HK.out.2.2 hc))); have HFe := Lib.hid ((HF.out.mono (C := w.heap.size) G3.out.size).chg hc)
        have HFl := Lib.hid hF; clear hF
        clear c0 n0
        obtain ⟨c0, n0, A0_5⟩ := bk hc A0_4.out (by simp)
        clear c1 n1
        obtain ⟨c1, n1, A1_5⟩ := bk hc A1_4.out (by simp)
        have G5 := Lib.hid (G4.out.trans0 hc)
        clear fz; have fz := freeOf A1_5.out
        clear hc
        obtain ⟨tg, rfl⟩ : ∃ t : Nat, g = t := ⟨g.toNat, by omega⟩
        obtain ⟨td, rfl⟩ : ∃ t : Nat, d = t := ⟨d.toNat, by omega⟩
        have hbt := fault_built hf0
        have htg : tg < m10 := by have h1 := HKe.out.1.1; have h2 := hbt.1; omega
        obtain ⟨nr, hnr⟩ : ∃ n : Nat, x.shape.rows = n := ⟨x.shape.rows.toNat, by have := hok.rows; omega⟩
        have hnr6 : nr ≤ 6 := by have := hok.rows; omega
        obtain ⟨-, b, off, -, -, -, -, -, rfl, -, -⟩ := slc_at HKe.out.1 htg
        have nd := List.nodup_append.1 HFe.out.1
        obtain ⟨G, A, l, C, f, hGx, hcx, hGS, hfs, hfn, hbf, hb10, hup⟩ := slc_mod HKe.out.1 nd.1 htg
        have htd : td < l := by have h1 := hGS.1; have h2 := (hbt.2 G (List.mem_of_getElem? hGx)).1; omega
        obtain ⟨D, b2, off2, a2, l2, c2, f2, HY, rfl, hy0, hy1, -⟩ := drive_at hGS htd
        have hb2 : b2 ∈ f := HY.out.2.1
        have hb2m := HFl.out b2 (by simp [hfs b2 hb2]); have hbm := HFl.out b (by simp [hb10])
        have hbl : b < w5.heap.size := Nat.lt_trans hbm nm; have hbl2 : b2 < w5.heap.size := Nat.lt_trans hb2m nm
        have HLo := Lib.hid (HFe.out.2 b2 (by simp [hfs b2 hb2])).2
        have K1 := Lib.hid hcx; have K2 := Lib.hid hy0; have K3 := Lib.hid hy1; have HUP := Lib.hid hup; have HGS := Lib.hid hGS; have HGX := Lib.hid hGx; have HFS := Lib.hid hfs; have HNR := Lib.hid hnr; have HBF := Lib.hid (And.intro hfn (And.intro hbf hb10)); have HB2 := Lib.hid hb2; have HBT := Lib.hid hbt; have HND := Lib.hid nd
        clear hcx hy0 hy1 hup hGS hGx hfs hnr hfn hbf hb10 hb2 hbt nd
        go_wp2_with fail
        obtain ⟨CC, HCI, HCO⟩ := rg_cond (fun w' => Know w.heap.size #[.int .i64 x.shape.groups, .int .i64 x.shape.column, .int .i64 x.shape.data, .int .i64 x.shape.spare, .int .i64 x.shape.rows, .int .i64 x.shape.cap, .int .i64 x.shape.batch, .int .i64 x.shape.queue, .int .i64 x.shape.stage, .slice a10 l10 c10, .slice a11 l11 c11, .slice a12 l12 c12, .int .i64 x.writes, .int .i64 x.stop, .bool x.down] w' ∧ Know (w4.heap.size) #[.int .i64 x.shape.groups, .int .i64 x.shape.column, .int .i64 x.shape.data, .int .i64 x.shape.spare, .int .i64 x.shape.rows, .int .i64 x.shape.cap, .int .i64 x.shape.batch, .int .i64 x.shape.queue, .int .i64 x.shape.stage, .slice (some ⟨b, off, none⟩) m10 d10, .slice p11 m11 d11, .slice p12 m12 d12, .int .i64 x.writes, .int .i64 x.stop, .bool x.down] w' ∧ w'.cell? ⟨b, off + tg, none⟩ = some (.slice (some ⟨b2, off2, none⟩) l C))
        refine gg_start [12] CC (by kernel_rfl) (HCI.out _ ⟨(Know.of (keep_drew A0_5.out)), (Know.of (keep_drew HM.out)), K1.out⟩) (fun hcl hS => ?_)
        refine ggT 0 hcl hS ?_; clear hcl hS; intro hcl hS
        refine ggL 1 hcl hS HCO ?_; clear hcl hS; intro hcl hS
        refine ggT 2 hcl hS ?_; clear hcl hS; intro hcl hS
        refine ggT 3 hcl hS ?_; clear hcl hS; intro hcl hS
        refine ggL 4 hcl hS HCO ?_; clear hcl hS; intro hcl hS
        refine ggT 5 hcl hS ?_; clear hcl hS; intro hcl hS
        refine ggT 6 hcl hS ?_; clear hcl hS; intro hcl hS
        refine ggT 7 hcl hS ?_; clear hcl hS; intro hcl hS
        refine ggL 8 hcl hS HCO ?_; clear hcl hS; intro hcl hS
        refine ggC 9 hcl rfl (by kernel_rfl) (fun K hK => ?_)
        go_simp
        go_at_call 86
        refine (blank_x (x := x.shape) HNR.out (by omega) _).mono ?_; rintro e w9 ⟨p3, d3, g3, rfl, hs, hf, hc⟩
        rw [List.length_replicate] at hs ⊢
        have HN1 := Lib.hid (And.intro hs (And.intro (hf.mono (C := w5.heap.size) (Nat.le_refl _)) (((Chg.refl [] w5).drew).trans0 hc))); obtain ⟨-, -, F1⟩ := bk hc (keep_drew A0_5.out) (by simp); obtain ⟨cm9, nm9, F2⟩ := bk hc (keep_drew HM.out) (by simp); obtain ⟨-, -, F3⟩ := bk hc (keep_drew A1_5.out) (by simp); have k1 := cellKeep HN1.out.2.2 K1.out hbl; have k2 := cellKeep HN1.out.2.2 K2.out hbl2; have k3 := cellKeep HN1.out.2.2 K3.out hbl2; have fb := (HN1.out.2.2.loose b2 HLo.out).free; have ql := HN1.out.2.2.size; have hbl9 : b2 < w9.heap.size := Nat.lt_of_lt_of_le hbl2 ql; clear hs hf hc
        go_wp2_with fail
        refine hK.out _ _ (fun _ => HCI.out _ ⟨(Know.of F1.out), (Know.of F2.out), k1⟩) ?_
        clear hK K hcl hS
        intro hcl hS
        try simp only [Act.put, List.setIfInBounds_toArray, List.set_cons_zero, List.set_cons_succ]
        refine ggT 10 hcl hS ?_; clear hcl hS; intro hcl hS
        refine ggT 11 hcl hS ?_; clear hcl hS; intro hcl hS
        refine ggC 12 hcl rfl (by kernel_rfl) (fun K hK => ?_)
        go_simp
        refine hK.out _ _ (Till.done (m := 12) (by simp) (by rfl)) ?_
        clear hK K hcl hS
        intro hcl hS
        try simp only [Act.put, List.setIfInBounds_toArray, List.set_cons_zero, List.set_cons_succ]
        refine ggEnd (by kernel_rfl) ?_ _
        have hlt : ∀ y ∈ g10, y < w5.heap.size := fun y hy => Nat.lt_trans (HFl.out y (by simp [hy])) nm
        obtain ⟨fi, hSi, hsubi, hndi, -, -⟩ := drvL.sl_putN (drvL.sl_ext HGS.out HN1.out.2.2) HBF.out.1 (i := td) htd (vs := [.bool true, .slice p3 nr d3]) (x' := (⟨true, List.replicate nr bblk⟩ : Drv)) (f' := g3) (drvL_iff.2 ⟨p3, nr, d3, g3, rfl, HN1.out.1, by simp⟩) (fun y hy hyf => absurd (HN1.out.2.1.2 y hy).1 (Nat.not_le.2 (hlt y (HFS.out y hyf)))) HN1.out.2.1.1
        have hcW : Chg [b2] w9 ((w9.setCell ⟨b2, off2 + td * 2, none⟩ (.bool true)).setCell ⟨b2, off2 + td * 2 + 1, none⟩ (.slice p3 nr d3)) := (((Chg.refl _ _).setCell _ _ (.inl (by simp))).setCell _ _ (.inl (by simp)))
        obtain ⟨fp', hS, hnd, hsub⟩ := HUP.out ((w9.setCell ⟨b2, off2 + td * 2, none⟩ (.bool true)).setCell ⟨b2, off2 + td * 2 + 1, none⟩ (.slice p3 nr d3)) (G.set td (⟨true, List.replicate nr bblk⟩ : Drv)) fi hSi hndi (fun y hy => by rcases hsubi y hy with h | h; exact .inl h; exact .inr (fun h10 => absurd (HN1.out.2.1.2 y h).1 (Nat.not_le.2 (hlt y h10)))) (fun y hy hyf => (hcW.block y (Nat.lt_of_lt_of_le (hlt y hy) ql) (fun hm => hyf (by rw [List.mem_singleton] at hm; exact hm ▸ HB2.out))).trans (HN1.out.2.2.block y (hlt y hy) (by simp)))
        have hb210 : b2 ∈ g10 := HFS.out b2 HB2.out
        have hn11 : ∀ y ∈ g11, y ∉ [b2] := fun y hy hm => HND.out.2.2 b2 hb210 y (by simp [hy]) (List.mem_singleton.1 hm).symm
        have hn12 : ∀ y ∈ g12, y ∉ [b2] := fun y hy hm => HND.out.2.2 b2 hb210 y (by simp [hy]) (List.mem_singleton.1 hm).symm
        have hFW : Fresh w.heap.size ((w9.setCell ⟨b2, off2 + td * 2, none⟩ (.bool true)).setCell ⟨b2, off2 + td * 2 + 1, none⟩ (.slice p3 nr d3)) (fp' ++ (g11 ++ (g12 ++ []))) := ((HFe.out.chg HN1.out.2.2).chg hcW).swap1 hnd (fun y hy => by rcases hsub y hy with ⟨h, -⟩ | h; exact .inl h; rcases hsubi y h with h | h; exact .inl (HFS.out y h); exact .inr ⟨fun hall => absurd (HN1.out.2.1.2 y h).1 (Nat.not_le.2 (Nat.lt_trans (HFl.out y hall) nm)), Nat.le_trans G5.out.size (HN1.out.2.1.2 y h).1, ((HN1.out.2.1.chg hcW).2 y h).2⟩)
        have hbn2 := HFn.out b2 (by simp [hb210])
        have hwb2 := (HFe.out.2 b2 (by simp [hb210])).1
        have hRn : w.heap.size + 1 ∉ fp' ++ (g11 ++ (g12 ++ [])) := fun hy => by
          rcases List.mem_append.1 hy with hy | hy
          · rcases hsub _ hy with ⟨h, -⟩ | h
            · have := HFn.out (w.heap.size + 1) (by simp [h]); omega
            · rcases hsubi _ h with h | h
              · have := HFn.out (w.heap.size + 1) (by simp [HFS.out _ h]); omega
              · have := (HN1.out.2.1.2 _ h).1; omega
          · have := HFn.out (w.heap.size + 1) (by simp only [List.mem_append] at hy ⊢; exact .inr hy); omega
        obtain ⟨o1, o2, o3, o4, o5, o6, o7, o8, o9, o13, o14⟩ := HO.out
        have HE := Lib.hid (And.intro (show wldL.rep ((w9.setCell ⟨b2, off2 + td * 2, none⟩ (.bool true)).setCell ⟨b2, off2 + td * 2 + 1, none⟩ (.slice p3 nr d3)) [.int .i64 x.shape.groups, .int .i64 x.shape.column, .int .i64 x.shape.data, .int .i64 x.shape.spare, .int .i64 x.shape.rows, .int .i64 x.shape.cap, .int .i64 x.shape.batch, .int .i64 x.shape.queue, .int .i64 x.shape.stage, .slice (some ⟨b, off, none⟩) m10 d10, .slice p11 m11 d11, .slice p12 m12 d12, .int .i64 x.writes, .int .i64 x.stop, .bool x.down] _ _ from (wldL_iff.2 ⟨_, m10, d10, fp', p11, m11, d11, g11, p12, m12, d12, g12, rfl, o1, o2, o3, o4, o5, o6, o7, o8, o9, hS, intL.sl_chg (intL.sl_ext HKe.out.2.1 HN1.out.2.2) hcW hn11, tapL.sl_chg (tapL.sl_ext HKe.out.2.2 HN1.out.2.2) hcW hn12, o13, o14, rfl⟩ : wldL.rep _ _ ({ x with groups := x.groups.set tg (G.set td (⟨true, List.replicate nr bblk⟩ : Drv)) }) _)) (And.intro (show Fresh w.heap.size ((w9.setCell ⟨b2, off2 + td * 2, none⟩ (.bool true)).setCell ⟨b2, off2 + td * 2 + 1, none⟩ (.slice p3 nr d3)) (fp' ++ (g11 ++ (g12 ++ []))) from hFW) (And.intro (show Chg [] w ((w9.setCell ⟨b2, off2 + td * 2, none⟩ (.bool true)).setCell ⟨b2, off2 + td * 2 + 1, none⟩ (.slice p3 nr d3)) from (G5.out.trans0 HN1.out.2.2).trans hcW (fun y hy => .inr (by rw [List.mem_singleton] at hy; omega))) (show w.heap.size + 1 ∉ fp' ++ (g11 ++ (g12 ++ [])) from hRn))))
        have HRR := Lib.hid (hcW.keepb F3.out (by simp; omega)); have HMR := Lib.hid (show ((w9.setCell ⟨b2, off2 + td * 2, none⟩ (.bool true)).setCell ⟨b2, off2 + td * 2 + 1, none⟩ (.slice p3 nr d3)).heap[w4.heap.size]? = some (.cells #[.int .i64 x.shape.groups, .int .i64 x.shape.column, .int .i64 x.shape.data, .int .i64 x.shape.spare, .int .i64 x.shape.rows, .int .i64 x.shape.cap, .int .i64 x.shape.batch, .int .i64 x.shape.queue, .int .i64 x.shape.stage, .slice (some ⟨b, off, none⟩) m10 d10, .slice p11 m11 d11, .slice p12 m12 d12, .int .i64 x.writes, .int .i64 x.stop, .bool x.down] 40 (0, 0)) from hcW.keepb F2.out (by simp; omega))
        clear o1 o2 o3 o4 o5 o6 o7 o8 o9 o13 o14 hcW hn11 hn12 hS hsub hsubi hndi hnd hSi hFW hRn hlt
        go_wp2_with (first | (refine load_wide rfl _ 40 rfl rfl infoWd Tryz.underlying40 HMR.out rfl ?_) | (refine store_wide rfl _ _ 48 rfl rfl rfl infoWR HRR.out rfl rfl rfl ?_; intro w9 hb9 hc9; have HB9 := Lib.hid hb9; have HC9 := Lib.hid hc9; clear hb9 hc9))
        refine bodyPost_ret (v := .agg #[.int .i64 0, .int .i64 x.shape.groups, .int .i64 x.shape.column, .int .i64 x.shape.data, .int .i64 x.shape.spare, .int .i64 x.shape.rows, .int .i64 x.shape.cap, .int .i64 x.shape.batch, .int .i64 x.shape.queue, .int .i64 x.shape.stage, .slice (some ⟨b, off, none⟩) m10 d10, .slice p11 m11 d11, .slice p12 m12 d12, .int .i64 x.writes, .int .i64 x.stop, .bool x.down]) (results_wide _ _ Tryz.results32 rfl infoWR Tryz.underlying48 HB9.out rfl) rfl (fin9 (0) (i64z) (wipeDR x tg td) (wipeDR_ok hf0 ⟨hg, hd⟩ HGX.out HNR.out) HE.out.1 rfl HE.out.2.1 HE.out.2.2.1 HC9.out HE.out.2.2.2 (by omega))
      · have HJ := Lib.hid (show inB d 0 (x.shape.drives - 1) = false by unfold inB; simp; omega)
        go_wp2_with (first | (refine load_wide rfl _ 40 rfl rfl infoWd Tryz.underlying40 A0_2.out rfl ?_))
        refine (st_isDrive_any x.shape hok d _).mono ?_
        rintro e w3 ⟨rfl, hc⟩
        rw [HJ.out]
        clear c0 n0
        obtain ⟨c0, n0, A0_3⟩ := bk hc A0_2.out (by simp)
        clear c1 n1
        obtain ⟨c1, n1, A1_3⟩ := bk hc A1_2.out (by simp)
        have G3 := Lib.hid (G2.out.trans0 hc)
        clear fz; have fz := freeOf A1_3.out
        clear hc
        go_wp2_with (first | (refine store_wide rfl _ _ 48 rfl rfl rfl infoWR A1_3.out rfl rfl rfl ?_; intro w9 hb9 hc9; have HB9 := Lib.hid hb9; have HC9 := Lib.hid hc9; clear hb9 hc9))
        refine bodyPost_ret (v := .agg #[.int .i64 (3), .int .i64 0, .int .i64 0, .int .i64 0, .int .i64 0, .int .i64 0, .int .i64 0, .int .i64 0, .int .i64 0, .int .i64 0, .slice none 0 0, .slice none 0 0, .slice none 0 0, .int .i64 0, .int .i64 0, .bool false]) (results_wide _ _ Tryz.results32 rfl infoWR Tryz.underlying48 HB9.out rfl) rfl (bad9 (3) (⟨by omega, by omega⟩) (wipeDR x g d) (wipeDR_out hf0 (fun h => hd h.2)) G3.out HC9.out (by omega))
    · have HI := Lib.hid (show inB g 0 (x.shape.all - 1) = false by unfold inB; simp; omega)
      go_wp2_with (first | (refine load_wide rfl _ 40 rfl rfl infoWd Tryz.underlying40 A0_1.out rfl ?_))
      refine (st_isGroup_any x.shape hok g _).mono ?_
      rintro e w2 ⟨rfl, hc⟩
      rw [HI.out]
      clear c0 n0
      obtain ⟨c0, n0, A0_2⟩ := bk hc A0_1.out (by simp)
      clear c1 n1
      obtain ⟨c1, n1, A1_2⟩ := bk hc A1_1.out (by simp)
      have G2 := Lib.hid (G1.out.trans0 hc)
      clear fz; have fz := freeOf A1_2.out
      clear hc
      go_wp2_with (first | (refine store_wide rfl _ _ 48 rfl rfl rfl infoWR A1_2.out rfl rfl rfl ?_; intro w9 hb9 hc9; have HB9 := Lib.hid hb9; have HC9 := Lib.hid hc9; clear hb9 hc9))
      refine bodyPost_ret (v := .agg #[.int .i64 (3), .int .i64 0, .int .i64 0, .int .i64 0, .int .i64 0, .int .i64 0, .int .i64 0, .int .i64 0, .int .i64 0, .int .i64 0, .slice none 0 0, .slice none 0 0, .slice none 0 0, .int .i64 0, .int .i64 0, .bool false]) (results_wide _ _ Tryz.results32 rfl infoWR Tryz.underlying48 HB9.out rfl) rfl (bad9 (3) (⟨by omega, by omega⟩) (wipeDR x g d) (wipeDR_out hf0 (fun h => hg h.1)) G2.out HC9.out (by omega))
  · have hb : ((q : Int) != 0) = true := by simpa using hq0
    go_wp2_with (first | (refine store_wide rfl _ _ 48 rfl rfl rfl infoWR A1_1.out rfl rfl rfl ?_; intro w9 hb9 hc9; have HB9 := Lib.hid hb9; have HC9 := Lib.hid hc9; clear hb9 hc9))
    refine bodyPost_ret (v := .agg #[.int .i64 (q), .int .i64 0, .int .i64 0, .int .i64 0, .int .i64 0, .int .i64 0, .int .i64 0, .int .i64 0, .int .i64 0, .int .i64 0, .slice none 0 0, .slice none 0 0, .slice none 0 0, .int .i64 0, .int .i64 0, .bool false]) (results_wide _ _ Tryz.results32 rfl infoWR Tryz.underlying48 HB9.out rfl) rfl (bad9 (q) (hqk) (wipeDR x g d) (by rw [wipeDR_bad (by rw [← HQ.out]; exact hq0), ← HQ.out]) G1.out HC9.out (by omega))
set_option maxRecDepth 100000 in
set_option maxHeartbeats 8000000 in
theorem spec_WipeDrive (x : Wld) (cx : Array Value) (fx : List Nat) (g : Int) (d : Int) (w : World) (hx : wldL.rep w cx.toList x fx) (hz : totWld x ≤ 1048576) (og : i64ok g) (od : i64ok d) :
    Calls Tryz.prog 31 #[.agg cx, .int .i64 g, .int .i64 d] w (NewAgg wrsL (wipeDR x g d) w) := by
  obtain ⟨a10, l10, c10, _, a11, l11, c11, f11, a12, l12, c12, _, ex, -, -, -, -, -, -, -, -, -, h10, h11, h12, oo13, oo14, -⟩ := wldL_iff.1 hx
  obtain rfl := Array.toList_inj.1 (ex.trans (List.toList_toArray).symm)
  have HW := Lib.hid hx; have HZ := Lib.hid hz; have H10 := Lib.hid h10; have H11 := Lib.hid h11; have H12 := Lib.hid h12; have HOO := Lib.hid (And.intro oo13 oo14)
  have hl11 : l11 ≤ 1048576 := by have h := h11.1; have q10 := totL_nonneg (totL_nonneg totDrv_nonneg) x.groups; have q12 := totL_nonneg totTap_nonneg x.tapes; unfold totWld totIs at hz; omega
  clear hx ex hz h10 h11 h12 oo13 oo14
  have G0 := Lib.hid (show Chg [] w ((w.alloc (.cells #[.int .i64 x.shape.groups, .int .i64 x.shape.column, .int .i64 x.shape.data, .int .i64 x.shape.spare, .int .i64 x.shape.rows, .int .i64 x.shape.cap, .int .i64 x.shape.batch, .int .i64 x.shape.queue, .int .i64 x.shape.stage, .slice a10 l10 c10, .slice a11 l11 c11, .slice a12 l12 c12, .int .i64 x.writes, .int .i64 x.stop, .bool x.down] 40)).alloc (.cells #[.int .i64 0, .int .i64 0, .int .i64 0, .int .i64 0, .int .i64 0, .int .i64 0, .int .i64 0, .int .i64 0, .int .i64 0, .int .i64 0, .slice none 0 0, .slice none 0 0, .slice none 0 0, .int .i64 0, .int .i64 0, .bool false] 48)) from (Chg.alloc (Chg.alloc (Chg.refl [] w) _) _))
  have B0 := Lib.hid (show ((w.alloc (.cells #[.int .i64 x.shape.groups, .int .i64 x.shape.column, .int .i64 x.shape.data, .int .i64 x.shape.spare, .int .i64 x.shape.rows, .int .i64 x.shape.cap, .int .i64 x.shape.batch, .int .i64 x.shape.queue, .int .i64 x.shape.stage, .slice a10 l10 c10, .slice a11 l11 c11, .slice a12 l12 c12, .int .i64 x.writes, .int .i64 x.stop, .bool x.down] 40)).alloc (.cells #[.int .i64 0, .int .i64 0, .int .i64 0, .int .i64 0, .int .i64 0, .int .i64 0, .int .i64 0, .int .i64 0, .int .i64 0, .int .i64 0, .slice none 0 0, .slice none 0 0, .slice none 0 0, .int .i64 0, .int .i64 0, .bool false] 48)).heap[w.heap.size]? = some (.cells #[.int .i64 x.shape.groups, .int .i64 x.shape.column, .int .i64 x.shape.data, .int .i64 x.shape.spare, .int .i64 x.shape.rows, .int .i64 x.shape.cap, .int .i64 x.shape.batch, .int .i64 x.shape.queue, .int .i64 x.shape.stage, .slice a10 l10 c10, .slice a11 l11 c11, .slice a12 l12 c12, .int .i64 x.writes, .int .i64 x.stop, .bool x.down] 40 (0, 0)) from keep_alloc (new_alloc w _) _)
  have B1 := Lib.hid (show ((w.alloc (.cells #[.int .i64 x.shape.groups, .int .i64 x.shape.column, .int .i64 x.shape.data, .int .i64 x.shape.spare, .int .i64 x.shape.rows, .int .i64 x.shape.cap, .int .i64 x.shape.batch, .int .i64 x.shape.queue, .int .i64 x.shape.stage, .slice a10 l10 c10, .slice a11 l11 c11, .slice a12 l12 c12, .int .i64 x.writes, .int .i64 x.stop, .bool x.down] 40)).alloc (.cells #[.int .i64 0, .int .i64 0, .int .i64 0, .int .i64 0, .int .i64 0, .int .i64 0, .int .i64 0, .int .i64 0, .int .i64 0, .int .i64 0, .slice none 0 0, .slice none 0 0, .slice none 0 0, .int .i64 0, .int .i64 0, .bool false] 48)).heap[w.heap.size + 1]? = some (.cells #[.int .i64 0, .int .i64 0, .int .i64 0, .int .i64 0, .int .i64 0, .int .i64 0, .int .i64 0, .int .i64 0, .int .i64 0, .int .i64 0, .slice none 0 0, .slice none 0 0, .slice none 0 0, .int .i64 0, .int .i64 0, .bool false] 48 (0, 0)) from new_at (by simp) _)
  go_enter Tryz.func31, Tryz.ntmps31
  obtain ⟨q, hq⟩ : ∃ q, q = x.fault := ⟨_, rfl⟩
  have HQ := Lib.hid hq; clear hq
  go_wp2_with (first | (refine load_wide rfl _ 40 rfl rfl infoWd Tryz.underlying40 B0.out rfl ?_))
  refine (spec_WorldFault x #[.int .i64 x.shape.groups, .int .i64 x.shape.column, .int .i64 x.shape.data, .int .i64 x.shape.spare, .int .i64 x.shape.rows, .int .i64 x.shape.cap, .int .i64 x.shape.batch, .int .i64 x.shape.queue, .int .i64 x.shape.stage, .slice a10 l10 c10, .slice a11 l11 c11, .slice a12 l12 c12, .int .i64 x.writes, .int .i64 x.stop, .bool x.down] fx _ (wldL.ext HW.out G0.out)).mono ?_
  rintro e w1 ⟨rfl, hc⟩
  rw [← HQ.out]
  obtain ⟨c0, n0, A0_1⟩ := bk hc B0.out (by simp)
  obtain ⟨c1, n1, A1_1⟩ := bk hc B1.out (by simp)
  have G1 := Lib.hid (G0.out.trans0 hc)
  have fz := freeOf A1_1.out
  clear hc
  have hqk : i64ok q := by rw [HQ.out]; exact fault_i64 x
  by_cases hq0 : q = 0
  · subst hq0
    have hf0 : x.fault = 0 := HQ.out.symm
    have hok := rows_ok hf0; have hrr := hok.rows
    by_cases hgd : (0 ≤ g ∧ g ≤ x.shape.all - 1) ∧ (0 ≤ d ∧ d ≤ x.shape.drives - 1)
    · obtain ⟨hg, hd⟩ := hgd
      have HI := Lib.hid (show (inB g 0 (x.shape.all - 1) && inB d 0 (x.shape.drives - 1) && inB 0 0 (x.shape.rows - 1)) = true by simp [inB, hg.1, hg.2, hd.1, hd.2]; omega)
      go_wp2_with (first | (refine load_wide rfl _ 40 rfl rfl infoWd Tryz.underlying40 A0_1.out rfl ?_))
      refine (l5Place_any x.shape hok g d 0 _).mono ?_
      rintro e w2 ⟨rfl, hc⟩
      rw [HI.out]
      clear c0 n0
      obtain ⟨c0, n0, A0_2⟩ := bk hc A0_1.out (by simp)
      clear c1 n1
      obtain ⟨c1, n1, A1_2⟩ := bk hc A1_1.out (by simp)
      have G2 := Lib.hid (G1.out.trans0 hc)
      clear fz; have fz := freeOf A1_2.out
      clear hc
      go_wp2_with (first | (refine load_wide rfl _ 40 rfl rfl infoWd Tryz.underlying40 A0_2.out rfl ?_))
      refine (l5Copy_any x #[.int .i64 x.shape.groups, .int .i64 x.shape.column, .int .i64 x.shape.data, .int .i64 x.shape.spare, .int .i64 x.shape.rows, .int .i64 x.shape.cap, .int .i64 x.shape.batch, .int .i64 x.shape.queue, .int .i64 x.shape.stage, .slice a10 l10 c10, .slice a11 l11 c11, .slice a12 l12 c12, .int .i64 x.writes, .int .i64 x.stop, .bool x.down] fx _ (wldL.ext HW.out G2.out) HZ.out).mono ?_
      rintro e w3 ⟨cs2, f2, rfl, hs, hf, hc⟩
      obtain ⟨p10, m10, d10, g10, p11, m11, d11, g11, p12, m12, d12, g12, ex, o1, o2, o3, o4, o5, o6, o7, o8, o9, K10, K11, K12, o13, o14, rfl⟩ := wldL_iff.1 hs
      obtain rfl := Array.toList_inj.1 (ex.trans (List.toList_toArray).symm)
      have HO := Lib.hid (And.intro o1 (And.intro o2 (And.intro o3 (And.intro o4 (And.intro o5 (And.intro o6 (And.intro o7 (And.intro o8 (And.intro o9 (And.intro o13 o14))))))))))
      have HK := Lib.hid (And.intro K10 (And.intro K11 K12)); have HF := Lib.hid hf; have HFn := Lib.hid (fun b hb => (hf.2 b hb).1); have nR0 := n1
      clear hs ex K10 K11 K12 o1 o2 o3 o4 o5 o6 o7 o8 o9 o13 o14 hf
      clear c0 n0
      obtain ⟨c0, n0, A0_3⟩ := bk hc A0_2.out (by simp)
      clear c1 n1
      obtain ⟨c1, n1, A1_3⟩ := bk hc A1_2.out (by simp)
      have G3 := Lib.hid (G2.out.trans0 hc)
      clear fz; have fz := freeOf A1_3.out
      clear hc
      go_upto_region 7 with (refine store_wide rfl _ _ 40 rfl rfl rfl infoWd (new_alloc _ _) rfl rfl rfl ?_; intro w4 hm hc0)
      have hc : Chg [] w3 w4 := ((Chg.refl [] w3).alloc _).trans hc0 (fun y hy => .inr (by rw [List.mem_singleton] at hy; omega)); clear hc0
      have HM := Lib.hid hm; have cm := cellsOf hm; have nm := ltOf hm; have fm := freeOf hm; have nR : w.heap.size + 1 < w3.heap.size := n1; clear hm
      have hF := HF.out.lts; have HKe := Lib.hid (And.intro (drvL.slice.sl_ext HK.out.1 hc) (And.intro (intL.sl_ext HK.out.2.1 hc) (tapL.sl_ext HK.out.2.2 hc))); have HFe := Lib.hid ((HF.out.mono (C := w.heap.size) G2.out.size).chg hc)
      have HFl := Lib.hid hF; clear hF
      clear c0 n0
      obtain ⟨c0, n0, A0_4⟩ := bk hc A0_3.out (by simp)
      clear c1 n1
      obtain ⟨c1, n1, A1_4⟩ := bk hc A1_3.out (by simp)
      have G4 := Lib.hid (G3.out.trans0 hc)
      clear fz; have fz := freeOf A1_4.out
      clear hc
      obtain ⟨tg, rfl⟩ : ∃ t : Nat, g = t := ⟨g.toNat, by omega⟩
      obtain ⟨td, rfl⟩ : ∃ t : Nat, d = t := ⟨d.toNat, by omega⟩
      have hbt := fault_built hf0
      have htg : tg < m10 := by have h1 := HKe.out.1.1; have h2 := hbt.1; omega
      obtain ⟨nr, hnr⟩ : ∃ n : Nat, x.shape.rows = n := ⟨x.shape.rows.toNat, by have := hok.rows; omega⟩
      have hnr6 : nr ≤ 6 := by have := hok.rows; omega
      obtain ⟨-, b, off, -, -, -, -, -, rfl, -, -⟩ := slc_at HKe.out.1 htg
      have nd := List.nodup_append.1 HFe.out.1
      obtain ⟨G, A, l, C, f, hGx, hcx, hGS, hfs, hfn, hbf, hb10, hup⟩ := slc_mod HKe.out.1 nd.1 htg
      have htd : td < l := by have h1 := hGS.1; have h2 := (hbt.2 G (List.mem_of_getElem? hGx)).1; omega
      obtain ⟨D, b2, off2, a2, l2, c2, f2, HY, rfl, hy0, hy1, -⟩ := drive_at hGS htd
      have hb2 : b2 ∈ f := HY.out.2.1
      have hb2m := HFl.out b2 (by simp [hfs b2 hb2]); have hbm := HFl.out b (by simp [hb10])
      have hbl : b < w4.heap.size := Nat.lt_trans hbm nm; have hbl2 : b2 < w4.heap.size := Nat.lt_trans hb2m nm
      have HLo := Lib.hid (HFe.out.2 b2 (by simp [hfs b2 hb2])).2
      have K1 := Lib.hid hcx; have K2 := Lib.hid hy0; have K3 := Lib.hid hy1; have HUP := Lib.hid hup; have HGS := Lib.hid hGS; have HGX := Lib.hid hGx; have HFS := Lib.hid hfs; have HNR := Lib.hid hnr; have HBF := Lib.hid (And.intro hfn (And.intro hbf hb10)); have HB2 := Lib.hid hb2; have HBT := Lib.hid hbt; have HND := Lib.hid nd
      clear hcx hy0 hy1 hup hGS hGx hfs hnr hfn hbf hb10 hb2 hbt nd
      go_wp2_with fail
      obtain ⟨CC, HCI, HCO⟩ := rg_cond (fun w' => Know w.heap.size #[.int .i64 x.shape.groups, .int .i64 x.shape.column, .int .i64 x.shape.data, .int .i64 x.shape.spare, .int .i64 x.shape.rows, .int .i64 x.shape.cap, .int .i64 x.shape.batch, .int .i64 x.shape.queue, .int .i64 x.shape.stage, .slice a10 l10 c10, .slice a11 l11 c11, .slice a12 l12 c12, .int .i64 x.writes, .int .i64 x.stop, .bool x.down] w' ∧ Know (w3.heap.size) #[.int .i64 x.shape.groups, .int .i64 x.shape.column, .int .i64 x.shape.data, .int .i64 x.shape.spare, .int .i64 x.shape.rows, .int .i64 x.shape.cap, .int .i64 x.shape.batch, .int .i64 x.shape.queue, .int .i64 x.shape.stage, .slice (some ⟨b, off, none⟩) m10 d10, .slice p11 m11 d11, .slice p12 m12 d12, .int .i64 x.writes, .int .i64 x.stop, .bool x.down] w' ∧ w'.cell? ⟨b, off + tg, none⟩ = some (.slice (some ⟨b2, off2, none⟩) l C))
      refine gg_start [10] CC (by kernel_rfl) (HCI.out _ ⟨(Know.of (keep_drew A0_4.out)), (Know.of (keep_drew HM.out)), K1.out⟩) (fun hcl hS => ?_)
      refine ggT 0 hcl hS ?_; clear hcl hS; intro hcl hS
      refine ggL 1 hcl hS HCO ?_; clear hcl hS; intro hcl hS
      refine ggT 2 hcl hS ?_; clear hcl hS; intro hcl hS
      refine ggT 3 hcl hS ?_; clear hcl hS; intro hcl hS
      refine ggL 4 hcl hS HCO ?_; clear hcl hS; intro hcl hS
      refine ggT 5 hcl hS ?_; clear hcl hS; intro hcl hS
      refine ggT 6 hcl hS ?_; clear hcl hS; intro hcl hS
      refine ggL 7 hcl hS HCO ?_; clear hcl hS; intro hcl hS
      refine ggC 8 hcl rfl (by kernel_rfl) (fun K hK => ?_)
      go_simp
      go_at_call 85
      refine (l5Fresh_any x.shape nr _ HNR.out (by omega)).mono ?_; rintro e w9 ⟨cs, g3, rfl, hs0, hf, hc⟩
      obtain ⟨p3, m3, d3, _, ex, -⟩ := drvL_iff.1 hs0; obtain rfl := Array.toList_inj.1 (ex.trans (List.toList_toArray).symm); have hs := hs0
      have HN1 := Lib.hid (And.intro hs (And.intro (hf.mono (C := w4.heap.size) (Nat.le_refl _)) (((Chg.refl [] w4).drew).trans0 hc))); obtain ⟨-, -, F1⟩ := bk hc (keep_drew A0_4.out) (by simp); obtain ⟨cm9, nm9, F2⟩ := bk hc (keep_drew HM.out) (by simp); obtain ⟨-, -, F3⟩ := bk hc (keep_drew A1_4.out) (by simp); have k1 := cellKeep HN1.out.2.2 K1.out hbl; have k2 := cellKeep HN1.out.2.2 K2.out hbl2; have k3 := cellKeep HN1.out.2.2 K3.out hbl2; have fb := (HN1.out.2.2.loose b2 HLo.out).free; have ql := HN1.out.2.2.size; have hbl9 : b2 < w9.heap.size := Nat.lt_of_lt_of_le hbl2 ql; clear hs hf hc ex hs0
      go_wp2_with fail
      refine hK.out _ _ (fun _ => HCI.out _ ⟨(Know.of F1.out), (Know.of F2.out), k1⟩) ?_
      clear hK K hcl hS
      intro hcl hS
      try simp only [Act.put, List.setIfInBounds_toArray, List.set_cons_zero, List.set_cons_succ]
      refine ggT 9 hcl hS ?_; clear hcl hS; intro hcl hS
      refine ggC 10 hcl rfl (by kernel_rfl) (fun K hK => ?_)
      go_simp
      refine hK.out _ _ (Till.done (m := 10) (by simp) (by rfl)) ?_
      clear hK K hcl hS
      intro hcl hS
      try simp only [Act.put, List.setIfInBounds_toArray, List.set_cons_zero, List.set_cons_succ]
      refine ggEnd (by kernel_rfl) ?_ _
      have hlt : ∀ y ∈ g10, y < w4.heap.size := fun y hy => Nat.lt_trans (HFl.out y (by simp [hy])) nm
      obtain ⟨fi, hSi, hsubi, hndi, -, -⟩ := drvL.sl_putN (drvL.sl_ext HGS.out HN1.out.2.2) HBF.out.1 (i := td) htd (vs := [.bool (freshDrv nr).wiped, .slice p3 m3 d3]) (x' := (freshDrv nr)) (f' := g3) HN1.out.1 (fun y hy hyf => absurd (HN1.out.2.1.2 y hy).1 (Nat.not_le.2 (hlt y (HFS.out y hyf)))) HN1.out.2.1.1
      have htd2 : (G.set td (freshDrv nr))[td]? = some (freshDrv nr) := by rw [List.getElem?_set_self (by have := HGS.out.1; omega)]
      have hSi2 := drive_store0 hSi hndi htd2 true; rw [List.set_set] at hSi2
      have hcW : Chg [b2] w9 (((w9.setCell ⟨b2, off2 + td * 2, none⟩ (.bool (freshDrv nr).wiped)).setCell ⟨b2, off2 + td * 2 + 1, none⟩ (.slice p3 m3 d3)).setCell ⟨b2, off2 + td * 2, none⟩ (.bool true)) := ((((Chg.refl _ _).setCell _ _ (.inl (by simp))).setCell _ _ (.inl (by simp))).setCell _ _ (.inl (by simp)))
      obtain ⟨fp', hS, hnd, hsub⟩ := HUP.out (((w9.setCell ⟨b2, off2 + td * 2, none⟩ (.bool (freshDrv nr).wiped)).setCell ⟨b2, off2 + td * 2 + 1, none⟩ (.slice p3 m3 d3)).setCell ⟨b2, off2 + td * 2, none⟩ (.bool true)) (G.set td (⟨true, List.replicate nr bblk⟩ : Drv)) fi hSi2 hndi (fun y hy => by rcases hsubi y hy with h | h; exact .inl h; exact .inr (fun h10 => absurd (HN1.out.2.1.2 y h).1 (Nat.not_le.2 (hlt y h10)))) (fun y hy hyf => (hcW.block y (Nat.lt_of_lt_of_le (hlt y hy) ql) (fun hm => hyf (by rw [List.mem_singleton] at hm; exact hm ▸ HB2.out))).trans (HN1.out.2.2.block y (hlt y hy) (by simp)))
      have hb210 : b2 ∈ g10 := HFS.out b2 HB2.out
      have hn11 : ∀ y ∈ g11, y ∉ [b2] := fun y hy hm => HND.out.2.2 b2 hb210 y (by simp [hy]) (List.mem_singleton.1 hm).symm
      have hn12 : ∀ y ∈ g12, y ∉ [b2] := fun y hy hm => HND.out.2.2 b2 hb210 y (by simp [hy]) (List.mem_singleton.1 hm).symm
      have hFW : Fresh w.heap.size (((w9.setCell ⟨b2, off2 + td * 2, none⟩ (.bool (freshDrv nr).wiped)).setCell ⟨b2, off2 + td * 2 + 1, none⟩ (.slice p3 m3 d3)).setCell ⟨b2, off2 + td * 2, none⟩ (.bool true)) (fp' ++ (g11 ++ (g12 ++ []))) := ((HFe.out.chg HN1.out.2.2).chg hcW).swap1 hnd (fun y hy => by rcases hsub y hy with ⟨h, -⟩ | h; exact .inl h; rcases hsubi y h with h | h; exact .inl (HFS.out y h); exact .inr ⟨fun hall => absurd (HN1.out.2.1.2 y h).1 (Nat.not_le.2 (Nat.lt_trans (HFl.out y hall) nm)), Nat.le_trans G4.out.size (HN1.out.2.1.2 y h).1, ((HN1.out.2.1.chg hcW).2 y h).2⟩)
      have hbn2 := HFn.out b2 (by simp [hb210])
      have hwb2 := (HFe.out.2 b2 (by simp [hb210])).1
      have hRn : w.heap.size + 1 ∉ fp' ++ (g11 ++ (g12 ++ [])) := fun hy => by
        rcases List.mem_append.1 hy with hy | hy
        · rcases hsub _ hy with ⟨h, -⟩ | h
          · have := HFn.out (w.heap.size + 1) (by simp [h]); omega
          · rcases hsubi _ h with h | h
            · have := HFn.out (w.heap.size + 1) (by simp [HFS.out _ h]); omega
            · have := (HN1.out.2.1.2 _ h).1; omega
        · have := HFn.out (w.heap.size + 1) (by simp only [List.mem_append] at hy ⊢; exact .inr hy); omega
      obtain ⟨o1, o2, o3, o4, o5, o6, o7, o8, o9, o13, o14⟩ := HO.out
      have HE := Lib.hid (And.intro (show wldL.rep (((w9.setCell ⟨b2, off2 + td * 2, none⟩ (.bool (freshDrv nr).wiped)).setCell ⟨b2, off2 + td * 2 + 1, none⟩ (.slice p3 m3 d3)).setCell ⟨b2, off2 + td * 2, none⟩ (.bool true)) [.int .i64 x.shape.groups, .int .i64 x.shape.column, .int .i64 x.shape.data, .int .i64 x.shape.spare, .int .i64 x.shape.rows, .int .i64 x.shape.cap, .int .i64 x.shape.batch, .int .i64 x.shape.queue, .int .i64 x.shape.stage, .slice (some ⟨b, off, none⟩) m10 d10, .slice p11 m11 d11, .slice p12 m12 d12, .int .i64 x.writes, .int .i64 x.stop, .bool x.down] _ _ from (wldL_iff.2 ⟨_, m10, d10, fp', p11, m11, d11, g11, p12, m12, d12, g12, rfl, o1, o2, o3, o4, o5, o6, o7, o8, o9, hS, intL.sl_chg (intL.sl_ext HKe.out.2.1 HN1.out.2.2) hcW hn11, tapL.sl_chg (tapL.sl_ext HKe.out.2.2 HN1.out.2.2) hcW hn12, o13, o14, rfl⟩ : wldL.rep _ _ ({ x with groups := x.groups.set tg (G.set td (⟨true, List.replicate nr bblk⟩ : Drv)) }) _)) (And.intro (show Fresh w.heap.size (((w9.setCell ⟨b2, off2 + td * 2, none⟩ (.bool (freshDrv nr).wiped)).setCell ⟨b2, off2 + td * 2 + 1, none⟩ (.slice p3 m3 d3)).setCell ⟨b2, off2 + td * 2, none⟩ (.bool true)) (fp' ++ (g11 ++ (g12 ++ []))) from hFW) (And.intro (show Chg [] w (((w9.setCell ⟨b2, off2 + td * 2, none⟩ (.bool (freshDrv nr).wiped)).setCell ⟨b2, off2 + td * 2 + 1, none⟩ (.slice p3 m3 d3)).setCell ⟨b2, off2 + td * 2, none⟩ (.bool true)) from (G4.out.trans0 HN1.out.2.2).trans hcW (fun y hy => .inr (by rw [List.mem_singleton] at hy; omega))) (show w.heap.size + 1 ∉ fp' ++ (g11 ++ (g12 ++ [])) from hRn))))
      have HRR := Lib.hid (hcW.keepb F3.out (by simp; omega)); have HMR := Lib.hid (show (((w9.setCell ⟨b2, off2 + td * 2, none⟩ (.bool (freshDrv nr).wiped)).setCell ⟨b2, off2 + td * 2 + 1, none⟩ (.slice p3 m3 d3)).setCell ⟨b2, off2 + td * 2, none⟩ (.bool true)).heap[w3.heap.size]? = some (.cells #[.int .i64 x.shape.groups, .int .i64 x.shape.column, .int .i64 x.shape.data, .int .i64 x.shape.spare, .int .i64 x.shape.rows, .int .i64 x.shape.cap, .int .i64 x.shape.batch, .int .i64 x.shape.queue, .int .i64 x.shape.stage, .slice (some ⟨b, off, none⟩) m10 d10, .slice p11 m11 d11, .slice p12 m12 d12, .int .i64 x.writes, .int .i64 x.stop, .bool x.down] 40 (0, 0)) from hcW.keepb F2.out (by simp; omega))
      clear o1 o2 o3 o4 o5 o6 o7 o8 o9 o13 o14 hcW hn11 hn12 hS hsub hsubi hndi hnd hSi hFW hRn hlt hSi2 htd2
      have ebb : ¬ b = b2 := fun e => HBF.out.2.1 (e ▸ HB2.out)
      have emb : ¬ w3.heap.size = b2 := by omega
      go_wp2_with (first | (refine load_wide rfl _ 40 rfl rfl infoWd Tryz.underlying40 HMR.out rfl ?_) | (refine store_wide rfl _ _ 48 rfl rfl rfl infoWR HRR.out rfl rfl rfl ?_; intro w9 hb9 hc9; have HB9 := Lib.hid hb9; have HC9 := Lib.hid hc9; clear hb9 hc9))
      refine bodyPost_ret (v := .agg #[.int .i64 0, .int .i64 x.shape.groups, .int .i64 x.shape.column, .int .i64 x.shape.data, .int .i64 x.shape.spare, .int .i64 x.shape.rows, .int .i64 x.shape.cap, .int .i64 x.shape.batch, .int .i64 x.shape.queue, .int .i64 x.shape.stage, .slice (some ⟨b, off, none⟩) m10 d10, .slice p11 m11 d11, .slice p12 m12 d12, .int .i64 x.writes, .int .i64 x.stop, .bool x.down]) (results_wide _ _ Tryz.results31 rfl infoWR Tryz.underlying48 HB9.out rfl) rfl (fin9 (0) (i64z) (wipeDR x tg td) (wipeDR_ok hf0 ⟨hg, hd⟩ HGX.out HNR.out) HE.out.1 rfl HE.out.2.1 HE.out.2.2.1 HC9.out HE.out.2.2.2 (by omega))
    · have HI := Lib.hid (show (inB g 0 (x.shape.all - 1) && inB d 0 (x.shape.drives - 1) && inB 0 0 (x.shape.rows - 1)) = false by unfold inB; simp; omega)
      go_wp2_with (first | (refine load_wide rfl _ 40 rfl rfl infoWd Tryz.underlying40 A0_1.out rfl ?_))
      refine (l5Place_any x.shape hok g d 0 _).mono ?_
      rintro e w2 ⟨rfl, hc⟩
      rw [HI.out]
      clear c0 n0
      obtain ⟨c0, n0, A0_2⟩ := bk hc A0_1.out (by simp)
      clear c1 n1
      obtain ⟨c1, n1, A1_2⟩ := bk hc A1_1.out (by simp)
      have G2 := Lib.hid (G1.out.trans0 hc)
      clear fz; have fz := freeOf A1_2.out
      clear hc
      go_wp2_with (first | (refine store_wide rfl _ _ 48 rfl rfl rfl infoWR A1_2.out rfl rfl rfl ?_; intro w9 hb9 hc9; have HB9 := Lib.hid hb9; have HC9 := Lib.hid hc9; clear hb9 hc9))
      refine bodyPost_ret (v := .agg #[.int .i64 (3), .int .i64 0, .int .i64 0, .int .i64 0, .int .i64 0, .int .i64 0, .int .i64 0, .int .i64 0, .int .i64 0, .int .i64 0, .slice none 0 0, .slice none 0 0, .slice none 0 0, .int .i64 0, .int .i64 0, .bool false]) (results_wide _ _ Tryz.results31 rfl infoWR Tryz.underlying48 HB9.out rfl) rfl (bad9 (3) (⟨by omega, by omega⟩) (wipeDR x g d) (wipeDR_out hf0 (hgd)) G2.out HC9.out (by omega))
  · have hb : ((q : Int) != 0) = true := by simpa using hq0
    go_wp2_with (first | (refine store_wide rfl _ _ 48 rfl rfl rfl infoWR A1_1.out rfl rfl rfl ?_; intro w9 hb9 hc9; have HB9 := Lib.hid hb9; have HC9 := Lib.hid hc9; clear hb9 hc9))
    refine bodyPost_ret (v := .agg #[.int .i64 (q), .int .i64 0, .int .i64 0, .int .i64 0, .int .i64 0, .int .i64 0, .int .i64 0, .int .i64 0, .int .i64 0, .int .i64 0, .slice none 0 0, .slice none 0 0, .slice none 0 0, .int .i64 0, .int .i64 0, .bool false]) (results_wide _ _ Tryz.results31 rfl infoWR Tryz.underlying48 HB9.out rfl) rfl (bad9 (q) (hqk) (wipeDR x g d) (by rw [wipeDR_bad (by rw [← HQ.out]; exact hq0), ← HQ.out]) G1.out HC9.out (by omega))
end Go.Proofs.YtnnhopcjlnnchaaGreat
