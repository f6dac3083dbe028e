/- Several texts in one. -/
import Derived.Test.YtnnhopcjlnnchaaGreatMb
import Derived.Test.YtnnhopcjlnnchaaGreatWra
import Derived.Test.YtnnhopcjlnnchaaGreatPut
import Derived.Test.YtnnhopcjlnnchaaGreatMc
/- An element of a slice that changes, also with other memory than before; footprints exchanged. No function of the program in sight. -/
namespace Go.Proofs.YtnnhopcjlnnchaaGreat
open Go.RowKit

theorem Lay.all_modN {α : Type} (L : Lay α) {w : World} {x : α} : ∀ {xs : List α} {i : Nat} {cs : List Value} {fps : List Nat}, L.all w cs xs fps → xs[i]? = some x →
    ∃ c f f1 f2, fps = f1 ++ f ++ f2 ∧ (∀ j, j < L.n → cs[i * L.n + j]? = c[j]?) ∧ L.rep w c x f ∧
      ∀ w' x' f', L.rep w' c x' f' → (∀ y, (y ∈ f1 ∨ y ∈ f2) → w'.heap[y]? = w.heap[y]?) → L.all w' cs (xs.set i x') (f1 ++ f' ++ f2) := by
  intro xs
  induction xs with
  | nil => intro i cs fps _ hx; simp at hx
  | cons y ys ih =>
    intro i cs fps h hx
    obtain ⟨c1, c2, f1, f2, rfl, rfl, h1, h2⟩ := h
    have hl := L.len h1
    cases i with
    | zero =>
      simp at hx
      subst hx
      refine ⟨c1, f1, [], f2, by simp, fun j hj => by rw [Nat.zero_mul, Nat.zero_add, List.getElem?_append_left (by omega)], h1, fun w' x' f' hr hk => ⟨c1, c2, f', f2, rfl, by simp, hr, L.all_keep h2 (fun y hy => hk y (.inr hy))⟩⟩
    | succ i =>
      obtain ⟨c, f, g1, g2, rfl, hc, hr, hm⟩ := ih h2 (by simpa using hx)
      refine ⟨c, f, f1 ++ g1, g2, by simp, fun j hj => ?_, hr, fun w' x' f' hr' hk => ⟨c1, c2, f1, _, rfl, by simp, L.keep h1 (fun y hy => hk y (.inl (by simp [hy]))), hm w' x' f' hr' (fun y hy => hk y (by rcases hy with hy | hy; exact .inl (by simp [hy]); exact .inr hy))⟩⟩
      have e : (i + 1) * L.n + j = c1.length + (i * L.n + j) := by rw [Nat.add_mul, Nat.one_mul, hl]; omega
      rw [e, List.getElem?_append_right (by omega), Nat.add_sub_cancel_left, hc j hj]
/-- an element of a slice may change in its own blocks and may get others -/
theorem Lay.sl_modN {α : Type} (L : Lay α) {w : World} {b off len cap : Nat} {xs : List α} {fp : List Nat} (h : L.sl w (some ⟨b, off, none⟩) len cap xs fp) (nd : fp.Nodup) {i : Nat} (hi : i < len) :
    ∃ x c f, xs[i]? = some x ∧ b ∈ fp ∧ (∀ j, j < L.n → w.cell? ⟨b, off + i * L.n + j, none⟩ = c[j]?) ∧ L.rep w c x f ∧ (∀ y ∈ f, y ∈ fp) ∧ f.Nodup ∧ b ∉ f ∧
      ∀ w' x' f', L.rep w' c x' f' → f'.Nodup → (∀ y ∈ f', y ∈ f ∨ y ∉ fp) → (∀ y ∈ fp, y ∉ f → w'.heap[y]? = w.heap[y]?) →
        ∃ fp', L.sl w' (some ⟨b, off, none⟩) len cap (xs.set i x') fp' ∧ fp'.Nodup ∧ ∀ y ∈ fp', (y ∈ fp ∧ y ∉ f) ∨ y ∈ f' := by
  obtain ⟨h1, h2, h3, h4, ⟨rfl, rfl⟩ | ⟨b', off', cur, E, fr, fps, ha, hb, hall, rfl⟩⟩ := h
  · simp at h1; omega
  · simp only [Option.some.injEq, Addr.mk.injEq, and_true] at ha
    obtain ⟨rfl, rfl⟩ := ha
    have hx : xs[i]? = some (xs[i]'(by omega)) := List.getElem?_eq_getElem _
    obtain ⟨c, f, f1, f2, rfl, hc, hr, hm⟩ := L.all_modN hall hx
    have nd1 := List.nodup_cons.1 nd
    have nd2 := List.nodup_append.1 nd1.2
    have nd3 := List.nodup_append.1 nd2.1
    have hf1 : ∀ y ∈ f1, y ∉ f := fun y hy hyf => nd3.2.2 y hy y hyf rfl
    have hf2 : ∀ y ∈ f2, y ∉ f := fun y hy hyf => nd2.2.2 y (by simp [hyf]) y hy rfl
    have hbf : b ∉ f := fun hbf => nd1.1 (by simp [hbf])
    refine ⟨_, c, f, hx, by simp, fun j hj => ?_, hr, fun y hy => by simp [hy], nd3.2.1, hbf, fun w' x' f' hr' ndf hd hk => ⟨b :: (f1 ++ f' ++ f2), ⟨by simpa using h1, h2, h3, h4, .inr ⟨b, off, cur, E, fr, _, rfl, ?_, hm w' x' f' hr' ?_, rfl⟩⟩, ?_, ?_⟩⟩
    · rw [cell_of_row w b _ cur E fr hb, ← hc j hj, List.getElem?_take_of_lt, List.getElem?_drop]
      · simp [Nat.add_assoc]
      · calc i * L.n + j < i * L.n + L.n := by omega
          _ = (i + 1) * L.n := by rw [Nat.add_mul, Nat.one_mul]
          _ ≤ len * L.n := Nat.mul_le_mul_right _ (by omega)
    · rw [hk b (by simp) hbf]; exact hb
    · intro y hy
      refine hk y (by rcases hy with hy | hy <;> simp [hy]) (fun hyf => ?_)
      rcases hy with hy | hy
      · exact hf1 y hy hyf
      · exact hf2 y hy hyf
    · have d1 : ∀ y ∈ f', y ∉ f1 := fun y hy h1 => by
        rcases hd y hy with h | h
        · exact hf1 y h1 h
        · exact h (by simp [h1])
      have d2 : ∀ y ∈ f', y ∉ f2 := fun y hy h1 => by
        rcases hd y hy with h | h
        · exact hf2 y h1 h
        · exact h (by simp [h1])
      have db : b ∉ f' := fun hy => by
        rcases hd b hy with h | h
        · exact hbf h
        · exact h (by simp)
      refine List.nodup_cons.2 ⟨fun hm => ?_, List.nodup_append.2 ⟨List.nodup_append.2 ⟨nd3.1, ndf, fun y hy z hz e => d1 z hz (e ▸ hy)⟩, nd2.2.1, fun y hy z hz e => ?_⟩⟩
      · rw [List.mem_append, List.mem_append] at hm
        rcases hm with (hm | hm) | hm
        · exact nd1.1 (by simp [hm])
        · exact db hm
        · exact nd1.1 (by simp [hm])
      · subst e
        rcases List.mem_append.1 hy with hy | hy
        · exact nd2.2.2 y (by simp [hy]) y hz rfl
        · exact d2 y hy hz
    · intro y hy
      simp only [List.mem_cons, List.mem_append] at hy
      rcases hy with rfl | (hy | hy) | hy
      · exact .inl ⟨by simp, hbf⟩
      · exact .inl ⟨by simp [hy], hf1 y hy⟩
      · exact .inr hy
      · exact .inl ⟨by simp [hy], hf2 y hy⟩
theorem Fresh.swap3 {B : Nat} {w : World} {a b c c' : List Nat} (h : Fresh B w (a ++ (b ++ (c ++ [])))) (nd : c'.Nodup) (hc : ∀ y ∈ c', y ∈ c ∨ (y ∉ a ++ (b ++ (c ++ [])) ∧ B ≤ y ∧ Loose w y)) : Fresh B w (a ++ (b ++ (c' ++ []))) := by
  obtain ⟨h1, h2⟩ := h
  rw [List.append_nil] at h1 h2 hc ⊢
  obtain ⟨na, nbc, dabc⟩ := List.nodup_append.1 h1
  obtain ⟨nb, nc, dbc⟩ := List.nodup_append.1 nbc
  refine ⟨List.nodup_append.2 ⟨na, List.nodup_append.2 ⟨nb, nd, fun y hy z hz e => ?_⟩, fun y hy z hz e => ?_⟩, fun y hy => ?_⟩
  · subst e
    rcases hc y hz with h | ⟨h, -⟩
    · exact dbc y hy y h rfl
    · exact h (by simp [hy])
  · subst e
    rcases List.mem_append.1 hz with hz | hz
    · exact dabc y hy y (by simp [hz]) rfl
    · rcases hc y hz with h | ⟨h, -⟩
      · exact dabc y hy y (by simp [h]) rfl
      · exact h (by simp [hy])
  · rcases List.mem_append.1 hy with hy | hy
    · exact h2 y (by simp [hy])
    · rcases List.mem_append.1 hy with hy | hy
      · exact h2 y (by simp [hy])
      · rcases hc y hy with h | ⟨_, h, h'⟩
        · exact h2 y (by simp [h])
        · exact ⟨h, h'⟩
theorem Fresh.swap1 {B : Nat} {w : World} {a a' r : List Nat} (h : Fresh B w (a ++ r)) (nd : a'.Nodup) (hc : ∀ y ∈ a', y ∈ a ∨ (y ∉ a ++ r ∧ B ≤ y ∧ Loose w y)) : Fresh B w (a' ++ r) := by
  obtain ⟨h1, h2⟩ := h
  obtain ⟨na, nr, dar⟩ := List.nodup_append.1 h1
  refine ⟨List.nodup_append.2 ⟨nd, nr, fun y hy z hz e => ?_⟩, fun y hy => ?_⟩
  · subst e
    rcases hc y hy with h | ⟨h, -⟩
    · exact dar y h y hz rfl
    · exact h (by simp [hz])
  · rcases List.mem_append.1 hy with hy | hy
    · rcases hc y hy with h | ⟨_, h, h'⟩
      · exact h2 y (by simp [h])
      · exact ⟨h, h'⟩
    · exact h2 y (by simp [hy])
end Go.Proofs.YtnnhopcjlnnchaaGreat

/- Numbers that are in range, groups that are on: both sides. -/
namespace Go.Proofs.YtnnhopcjlnnchaaGreat
open Go.RowKit

set_option maxHeartbeats 1000000 in
theorem st_isGroup_any (x : Shp) (hs : x.ok) (g : Int) (w : World) :
    Calls Tryz.prog 63 #[.agg #[.int .i64 x.groups, .int .i64 x.column, .int .i64 x.data, .int .i64 x.spare, .int .i64 x.rows, .int .i64 x.cap, .int .i64 x.batch, .int .i64 x.queue, .int .i64 x.stage], .int .i64 g] w fun e w' => e = .returned (.bool (inB g 0 (x.all - 1))) ∧ Chg [] w w' := by
  have h1 := hs.all
  go_enter Tryz.func63, Tryz.ntmps63
  go_wp2_with fail
  refine (all_any x hs _).mono ?_
  rintro e w1 ⟨rfl, hc⟩
  have HC := Lib.hid (((Chg.refl [] w).alloc _).trans0 hc)
  clear hc
  go_wp2_with fail
  refine (inside_any g 0 (x.all - 1) _).mono ?_
  rintro e w' ⟨rfl, rfl⟩
  go_wp2_with fail
  go_ret
  exact ⟨rfl, HC.out⟩
set_option maxHeartbeats 1000000 in
theorem st_isDrive_any (x : Shp) (hs : x.ok) (g : Int) (w : World) :
    Calls Tryz.prog 64 #[.agg #[.int .i64 x.groups, .int .i64 x.column, .int .i64 x.data, .int .i64 x.spare, .int .i64 x.rows, .int .i64 x.cap, .int .i64 x.batch, .int .i64 x.queue, .int .i64 x.stage], .int .i64 g] w fun e w' => e = .returned (.bool (inB g 0 (x.drives - 1))) ∧ Chg [] w w' := by
  have h1 := hs.drives
  go_enter Tryz.func64, Tryz.ntmps64
  go_wp2_with fail
  refine (drives_any x hs _).mono ?_
  rintro e w1 ⟨rfl, hc⟩
  have HC := Lib.hid (((Chg.refl [] w).alloc _).trans0 hc)
  clear hc
  go_wp2_with fail
  refine (inside_any g 0 (x.drives - 1) _).mono ?_
  rintro e w' ⟨rfl, rfl⟩
  go_wp2_with fail
  go_ret
  exact ⟨rfl, HC.out⟩
set_option maxHeartbeats 1000000 in
theorem st_isRow_any (x : Shp) (hs : x.ok) (g : Int) (w : World) :
    Calls Tryz.prog 65 #[.agg #[.int .i64 x.groups, .int .i64 x.column, .int .i64 x.data, .int .i64 x.spare, .int .i64 x.rows, .int .i64 x.cap, .int .i64 x.batch, .int .i64 x.queue, .int .i64 x.stage], .int .i64 g] w fun e w' => e = .returned (.bool (inB g 0 (x.rows - 1))) ∧ Chg [] w w' := by
  have h1 := hs.rows
  go_enter Tryz.func65, Tryz.ntmps65
  go_wp2_with fail
  refine (inside_any g 0 (x.rows - 1) _).mono ?_
  rintro e w' ⟨rfl, rfl⟩
  go_wp2_with fail
  go_ret
  exact ⟨rfl, (Chg.refl [] w).alloc _⟩
set_option maxHeartbeats 2000000 in
theorem l5Place_any (x : Shp) (hs : x.ok) (g d r : Int) (w : World) :
    Calls Tryz.prog 55 #[.agg #[.int .i64 x.groups, .int .i64 x.column, .int .i64 x.data, .int .i64 x.spare, .int .i64 x.rows, .int .i64 x.cap, .int .i64 x.batch, .int .i64 x.queue, .int .i64 x.stage], .int .i64 g, .int .i64 d, .int .i64 r] w fun e w' => e = .returned (.bool (inB g 0 (x.all - 1) && inB d 0 (x.drives - 1) && inB r 0 (x.rows - 1))) ∧ Chg [] w w' := by
  have h1 := hs.all; have h2 := hs.drives; have h3 := hs.rows
  have B0 := Lib.hid (new_alloc w (.cells #[.int .i64 x.groups, .int .i64 x.column, .int .i64 x.data, .int .i64 x.spare, .int .i64 x.rows, .int .i64 x.cap, .int .i64 x.batch, .int .i64 x.queue, .int .i64 x.stage] 36))
  go_enter Tryz.func55, Tryz.ntmps55
  go_wp2_with fail
  refine (l5All_any x hs _).mono ?_
  rintro e w1 ⟨rfl, hc⟩
  obtain ⟨c0, n0, A0⟩ := bk hc B0.out (by simp)
  have HC := Lib.hid (((Chg.refl [] w).alloc _).trans0 hc)
  clear hc
  go_wp2_with fail
  refine (l1In_any g 0 (x.all - 1) _).mono ?_
  rintro e w' ⟨rfl, rfl⟩
  cases hA : inB g 0 (x.all - 1)
  · go_wp2_with fail
    go_ret
    exact ⟨by simp [hA], HC.out⟩
  · go_wp2_with fail
    refine (l5Drives_any x hs _).mono ?_
    rintro e w2 ⟨rfl, hc⟩
    clear c0 n0
    obtain ⟨c0, n0, A1⟩ := bk hc A0.out (by simp)
    have HC2 := Lib.hid (HC.out.trans0 hc)
    clear hc
    go_wp2_with fail
    refine (l1In_any d 0 (x.drives - 1) _).mono ?_
    rintro e w' ⟨rfl, rfl⟩
    cases hB : inB d 0 (x.drives - 1)
    · go_wp2_with fail
      go_ret
      exact ⟨by simp [hA, hB], HC2.out⟩
    · go_wp2_with fail
      refine (l1In_any r 0 (x.rows - 1) _).mono ?_
      rintro e w' ⟨rfl, rfl⟩
      go_wp2_with fail
      go_ret
      exact ⟨by simp [hA, hB], HC2.out⟩
set_option maxHeartbeats 1000000 in
theorem st_isOn_any (b : Nat) {u0 u1 u2 u3 u4 u5 u6 u7 u8 u9 u11 u12 u13 u14 : Value} (a : Option Addr) (la ca : Nat) (xs : List Int) (f : List Nat) (g : Int) (w : World) (h : w.heap[b]? = some (.cells #[u0, u1, u2, u3, u4, u5, u6, u7, u8, u9, .slice a la ca, u11, u12, u13, u14] 40 (0, 0))) (ha : intL.sl w a la ca xs f) :
    Calls Tryz.prog 66 #[.pointer (some ⟨b, 0, none⟩), .int .i64 g] w fun e w' => e = .returned (.bool (pb (g ∈ xs))) ∧ w = w' := by
  have cb := cellsOf h; have nb := ltOf h
  have HA := Lib.hid ha
  clear h ha
  go_enter Tryz.func66, Tryz.ntmps66
  go_wp2_with fail
  refine (containsI_any a la ca xs f g _ HA.out).mono ?_
  rintro e w' ⟨rfl, rfl⟩
  go_wp2_with fail
  go_ret
  exact ⟨rfl, rfl⟩
theorem brs_open {w : World} {cx : Array Value} {x : BRes} {fp : List Nat} (h : brsL.rep w cx.toList x fp) : ∃ (a : Option Addr) (l c : Nat), cx = #[.int .i64 x.code, .int .i64 x.block.stamp, .slice a l c] ∧ i64ok x.code ∧ blkL.rep w [.int .i64 x.block.stamp, .slice a l c] x.block fp := by
  obtain ⟨rest, ex, hcode, hw⟩ := brsL_iff.1 h
  obtain ⟨a, l, c, f, e2, _⟩ := blkL_iff.1 hw
  subst e2
  exact ⟨a, l, c, Array.toList_inj.1 ex, hcode, hw⟩
set_option maxHeartbeats 2000000 in
theorem eqBlockResult_any (x : BRes) (cx cy : Array Value) (fx fy : List Nat) (w : World) (hx : brsL.rep w cx.toList x fx) (hy : brsL.rep w cy.toList x fy) :
    Calls Tryz.prog 17 #[.agg cx, .agg cy] w fun e w' => e = .returned (.bool true) ∧ Chg [] w w' := by
  obtain ⟨a, l, c, rfl, -, h1⟩ := brs_open hx
  obtain ⟨b, m, d, rfl, -, h2⟩ := brs_open hy
  have hcc : ((x.code : Int) != x.code) = false := by simp
  have H1 := Lib.hid h1; have H2 := Lib.hid h2
  clear hx hy h1 h2
  go_enter Tryz.func17, Tryz.ntmps17
  go_wp2_with fail
  refine (eqBlock_any x.block #[.int .i64 x.block.stamp, .slice a l c] #[.int .i64 x.block.stamp, .slice b m d] fx fy _ (blkL.ext H1.out ?_) (blkL.ext H2.out ?_)).mono ?_
  · exact ((Chg.refl [] w).alloc _).alloc _
  · exact ((Chg.refl [] w).alloc _).alloc _
  rintro e w1 ⟨rfl, hc1⟩
  have HC1 := Lib.hid ((((Chg.refl [] w).alloc _).alloc _).trans0 hc1)
  clear hc1
  go_wp2_with fail
  go_ret
  exact ⟨rfl, HC1.out⟩
/-- the marks of a block's own bytes -/
def mvB1 (k : Int) (x : Blk) : Blk := ⟨x.stamp, markBL k x.bytes.length⟩
set_option maxHeartbeats 2000000 in
theorem markBlock_any (x : Blk) (cx : Array Value) (fx : List Nat) (k : Int) (w : World) (hx : blkL.rep w cx.toList x fx) (hf : Fresh 0 w fx) (hk : 0 ≤ k) (hk2 : k + (x.bytes.length : Int) ≤ 4611686018427387904) :
    Calls Tryz.prog 44 #[.agg cx, .int .i64 k] w fun e w' => e = .returned (.int .i64 (k + (x.bytes.length : Int))) ∧ blkL.rep w' cx.toList (mvB1 k x) fx ∧ Chg fx w w' := by
  obtain ⟨a1, l1, c1, f1, ex, o0, h1, hff⟩ := blkL_iff.1 hx
  obtain rfl := Array.toList_inj.1 (ex.trans (List.toList_toArray).symm)
  obtain rfl : fx = f1 := by simpa using hff
  have HL := Lib.hid h1.1
  have H1 := Lib.hid h1; have HF := Lib.hid hf; have HO := Lib.hid o0
  rw [← h1.1] at hk2
  rw [← h1.1]
  clear hx ex h1 hf hff o0
  go_enter Tryz.func44, Tryz.ntmps44
  go_wp2_with fail
  have g0 : Chg [] w (w.alloc (.cells #[.int .i64 x.stamp, .slice a1 l1 c1] 32)) := (Chg.refl [] w).alloc _
  refine (markB_any a1 l1 c1 x.bytes fx k _ (byteL.sl_ext H1.out g0) (HF.out.chg g0) hk hk2).mono ?_
  rintro e w1 ⟨rfl, hs1, hc1⟩
  have HN := Lib.hid (And.intro (blkL_iff.2 ⟨a1, l1, c1, fx, rfl, HO.out, by show byteL.sl w1 a1 l1 c1 (markBL k x.bytes.length) fx; rw [← HL.out]; exact hs1, by simp⟩ : blkL.rep w1 [.int .i64 x.stamp, .slice a1 l1 c1] (mvB1 k x) fx) ((g0.mono (T := fx) (by simp)).trans hc1 (fun x hx => .inl hx)))
  clear hs1 hc1 g0
  go_wp2_with fail
  go_ret
  exact ⟨rfl, HN.out.1, HN.out.2⟩
set_option maxHeartbeats 2000000 in
theorem markBlockResult_any (x : BRes) (cx : Array Value) (fx : List Nat) (k : Int) (w : World) (hx : brsL.rep w cx.toList x fx) (hf : Fresh 0 w fx) (hk : 0 ≤ k) (hk2 : k + (x.block.bytes.length : Int) ≤ 4611686018427387904) :
    Calls Tryz.prog 20 #[.agg cx, .int .i64 k] w fun e w' => e = .returned (.int .i64 (k + (x.block.bytes.length : Int))) ∧ brsL.rep w' cx.toList ⟨x.code, mvB1 k x.block⟩ fx ∧ Chg fx w w' := by
  obtain ⟨a, l, c, rfl, hcode, h1⟩ := brs_open hx
  have H1 := Lib.hid h1; have HF := Lib.hid hf; have HC0 := Lib.hid hcode; have HK := Lib.hid hk2
  clear hx h1 hf hcode hk2
  go_enter Tryz.func20, Tryz.ntmps20
  go_wp2_with fail
  have g0 : Chg [] w (w.alloc (.cells #[.int .i64 x.code, .int .i64 x.block.stamp, .slice a l c] 34)) := (Chg.refl [] w).alloc _
  refine (markBlock_any x.block #[.int .i64 x.block.stamp, .slice a l c] fx k _ (blkL.ext H1.out g0) (HF.out.chg g0) hk HK.out).mono ?_
  rintro e w1 ⟨rfl, hs1, hc1⟩
  have HN := Lib.hid (And.intro (brsL_iff.2 ⟨_, rfl, HC0.out, hs1⟩ : brsL.rep w1 [.int .i64 x.code, .int .i64 x.block.stamp, .slice a l c] ⟨x.code, mvB1 k x.block⟩ fx) ((g0.mono (T := fx) (by simp)).trans hc1 (fun x hx => .inl hx)))
  clear hs1 hc1 g0
  go_wp2_with fail
  go_ret
  exact ⟨rfl, HN.out.1, HN.out.2⟩
set_option maxHeartbeats 2000000 in
theorem heldBlock_any (x : Blk) (cx : Array Value) (fx : List Nat) (k : Int) (w : World) (hx : blkL.rep w cx.toList (mvB1 k x) fx) (hk : 0 ≤ k) (hk2 : k + (x.bytes.length : Int) ≤ 4611686018427387904) :
    Calls Tryz.prog 75 #[.agg cx, .int .i64 k] w fun e w' => e = .returned (.int .i64 (k + (x.bytes.length : Int))) ∧ Chg [] w w' := by
  obtain ⟨a1, l1, c1, f1, ex, o0, h1, -⟩ := blkL_iff.1 hx
  obtain rfl := Array.toList_inj.1 (ex.trans (List.toList_toArray).symm)
  have hl : l1 = x.bytes.length := by rw [h1.1]; show (markBL k x.bytes.length).length = _; rw [markBL_length]
  have h2 : byteL.sl w a1 l1 c1 (markBL k l1) f1 := by rw [hl] at h1 ⊢; exact h1
  rw [← hl] at hk2 ⊢
  have H1 := Lib.hid h2
  have hn : ¬ (k + (l1 : Int) < 0) := by omega
  clear hx ex h1 h2 o0 hl
  go_enter Tryz.func75, Tryz.ntmps75
  go_wp2_with fail
  have g0 : Chg [] w (w.alloc (.cells #[.int .i64 (mvB1 k x).stamp, .slice a1 l1 c1] 32)) := (Chg.refl [] w).alloc _
  refine (heldB_any a1 l1 c1 f1 k _ (byteL.sl_ext H1.out g0) hk hk2).mono ?_
  rintro e w1 ⟨rfl, hc1⟩
  have HC1 := Lib.hid (g0.trans0 hc1)
  clear hc1 g0
  go_wp2_with fail
  go_ret
  exact ⟨rfl, HC1.out⟩
set_option maxHeartbeats 2000000 in
theorem heldBlockResult_any (x : BRes) (cx : Array Value) (fx : List Nat) (k : Int) (w : World) (hx : brsL.rep w cx.toList ⟨x.code, mvB1 k x.block⟩ fx) (hk : 0 ≤ k) (hk2 : k + (x.block.bytes.length : Int) ≤ 4611686018427387904) :
    Calls Tryz.prog 21 #[.agg cx, .int .i64 k] w fun e w' => e = .returned (.int .i64 (k + (x.block.bytes.length : Int))) ∧ Chg [] w w' := by
  obtain ⟨a, l, c, rfl, -, h1⟩ := brs_open hx
  have H1 := Lib.hid h1; have HK := Lib.hid hk2
  have hn : ¬ (k + (x.block.bytes.length : Int) < 0) := by omega
  clear hx h1 hk2
  go_enter Tryz.func21, Tryz.ntmps21
  go_wp2_with fail
  have g0 : Chg [] w (w.alloc (.cells #[.int .i64 x.code, .int .i64 (mvB1 k x.block).stamp, .slice a l c] 34)) := (Chg.refl [] w).alloc _
  refine (heldBlock_any x.block #[.int .i64 (mvB1 k x.block).stamp, .slice a l c] fx k _ (blkL.ext H1.out g0) hk HK.out).mono ?_
  rintro e w1 ⟨rfl, hc1⟩
  have HC1 := Lib.hid (g0.trans0 hc1)
  clear hc1 g0
  go_wp2_with fail
  go_ret
  exact ⟨rfl, HC1.out⟩
end Go.Proofs.YtnnhopcjlnnchaaGreat

/- A code and a block handed back. -/
namespace Go.Proofs.YtnnhopcjlnnchaaGreat
open Go.RowKit

theorem brs_z (w : World) (q : Int) (h : i64ok q) : brsL.rep w (#[.int .i64 q, .int .i64 0, .slice none 0 0] : Array Value).toList ⟨q, ⟨0, []⟩⟩ [] :=
  brsL_iff.2 ⟨_, rfl, h, blkL_iff.2 ⟨none, 0, 0, [], rfl, i64z, nil_sl0 _ _, rfl⟩⟩
theorem badB9 {w w1 w9 : World} {b : Nat} (q : Int) (hq : i64ok q) (r : BRes) (hr : r = ⟨q, ⟨0, []⟩⟩) (hc : Chg [] w w1) (hc9 : Chg [b] w1 w9) (hb : w.heap.size ≤ b) :
    NewAgg brsL r w (.returned (.agg #[.int .i64 q, .int .i64 0, .slice none 0 0])) w9 :=
  ⟨_, [], rfl, by rw [hr]; exact brs_z _ q hq, Fresh.nil _ _, hc.trans hc9 (fun y hy => .inr (by rw [List.mem_singleton] at hy; omega))⟩
theorem finB9 {w w1 w9 : World} {b : Nat} {y : Blk} {f : List Nat} {cs : Array Value} {c : List Value} (r : BRes) (hrr : r = ⟨0, y⟩) (hr : blkL.rep w1 c y f) (hcs : cs.toList = .int .i64 0 :: c) (hf : Fresh w.heap.size w1 f) (hc : Chg [] w w1) (hc9 : Chg [b] w1 w9) (hn : b ∉ f) (hb : w.heap.size ≤ b) :
    NewAgg brsL r w (.returned (.agg cs)) w9 :=
  ⟨_, f, rfl, by rw [hrr, hcs]; exact brsL_iff.2 ⟨_, rfl, i64z, blkL.chg hr hc9 (fun y hy hm => hn (by rw [List.mem_singleton] at hm; exact hm ▸ hy))⟩, hf.chg hc9, hc.trans hc9 (fun y hy => .inr (by rw [List.mem_singleton] at hy; omega))⟩
theorem infoBR : (Tryz.prog.info? 34).map (fun i => i.size) = some 3 := by kernel_rfl
end Go.Proofs.YtnnhopcjlnnchaaGreat

/- ReadBlock: both sides. -/
namespace Go.Proofs.YtnnhopcjlnnchaaGreat
open Go.RowKit

theorem up_fault {x : Wld} (h : x.up = 0) : x.fault = 0 := by
  unfold Wld.up at h
  split at h
  · assumption
  · exact h
theorem readR_bad {x : Wld} {g d r : Int} (h : ¬ x.up = 0) : readR x g d r = ⟨x.up, ⟨0, []⟩⟩ := if_pos h
theorem readR_out {x : Wld} {g d r : Int} (h : x.up = 0) (h2 : ¬ ((0 ≤ g ∧ g ≤ x.shape.all - 1) ∧ (0 ≤ d ∧ d ≤ x.shape.drives - 1) ∧ (0 ≤ r ∧ r ≤ x.shape.rows - 1))) : readR x g d r = ⟨3, ⟨0, []⟩⟩ := by
  unfold readR; rw [if_neg (fun g => g h), if_pos (pb_false (P := x.isGroup g ∧ x.isDrive d ∧ x.isRow r) h2)]; rfl
theorem readR_off {x : Wld} {g d r : Int} (h : x.up = 0) (h2 : (0 ≤ g ∧ g ≤ x.shape.all - 1) ∧ (0 ≤ d ∧ d ≤ x.shape.drives - 1) ∧ (0 ≤ r ∧ r ≤ x.shape.rows - 1)) (h3 : ¬ g ∈ x.on) : readR x g d r = ⟨8, ⟨0, []⟩⟩ := by
  unfold readR; rw [if_neg (fun g => g h), if_neg (by rw [pb_true (P := x.isGroup g ∧ x.isDrive d ∧ x.isRow r) h2]; simp), if_pos (pb_false h3)]; rfl
theorem drive_is {x : Wld} {g d : Nat} {G : List Drv} {D : Drv} (hG : x.groups[g]? = some G) (hD : G[d]? = some D) : x.drive (g : Int) (d : Int) = D := by
  unfold Wld.drive
  rw [Int.toNat_natCast, Int.toNat_natCast, List.getD_eq_getElem?_getD, List.getD_eq_getElem?_getD, hG]
  show (G[d]?).getD _ = D
  rw [hD]; rfl
theorem readR_wiped {x : Wld} {g d : Nat} {r : Int} {G : List Drv} {D : Drv} (h : x.up = 0) (h2 : (0 ≤ (g : Int) ∧ (g : Int) ≤ x.shape.all - 1) ∧ (0 ≤ (d : Int) ∧ (d : Int) ≤ x.shape.drives - 1) ∧ (0 ≤ r ∧ r ≤ x.shape.rows - 1)) (h3 : (g : Int) ∈ x.on) (hG : x.groups[g]? = some G) (hD : G[d]? = some D) (h4 : D.wiped = true) : readR x g d r = ⟨12, ⟨0, []⟩⟩ := by
  unfold readR; rw [if_neg (fun g => g h), if_neg (by rw [pb_true (P := x.isGroup g ∧ x.isDrive d ∧ x.isRow r) h2]; simp), if_neg (by rw [pb_true h3]; simp), drive_is hG hD, if_pos h4]; rfl
theorem readR_ok {x : Wld} {g d r : Nat} {G : List Drv} {D : Drv} {B : Blk} (h : x.up = 0) (h2 : (0 ≤ (g : Int) ∧ (g : Int) ≤ x.shape.all - 1) ∧ (0 ≤ (d : Int) ∧ (d : Int) ≤ x.shape.drives - 1) ∧ (0 ≤ (r : Int) ∧ (r : Int) ≤ x.shape.rows - 1)) (h3 : (g : Int) ∈ x.on) (hG : x.groups[g]? = some G) (hD : G[d]? = some D) (hB : D.blocks[r]? = some B) (h4 : D.wiped = false) : readR x g d r = ⟨0, B⟩ := by
  unfold readR; rw [if_neg (fun g => g h), if_neg (by rw [pb_true (P := x.isGroup g ∧ x.isDrive d ∧ x.isRow r) h2]; simp), if_neg (by rw [pb_true h3]; simp), drive_is hG hD, if_neg (by rw [h4]; simp), Int.toNat_natCast, List.getD_eq_getElem?_getD, hB]; rfl
theorem cntReadR (x : Wld) (g d r : Int) : ((readR x g d r).block.bytes.length : Int) ≤ cntWld x + 3 := by
  have h := cntWld_nonneg x
  have h1 := cntDrive_le x g d
  have h2 := sumI_getD_le cntBlk_nonneg (x.drive g d).blocks r.toNat zBlk0
  have h3 : cntBlk zBlk0 = 1 := rfl
  have h4 : cntDrv (x.drive g d) = 1 + sumI cntBlk (x.drive g d).blocks := rfl
  have h5 : cntBlk ((x.drive g d).blocks.getD r.toNat zBlk0) = 1 + (((x.drive g d).blocks.getD r.toNat zBlk0).bytes.length : Int) := rfl
  have h6 : ((zBlk0.bytes.length : Nat) : Int) = 0 := rfl
  unfold readR
  repeat' split
  all_goals (try simp only []); omega
theorem up_built {x : Wld} (h : x.up = 0) : x.built ∧ x.shape.ok := by
  have hf := up_fault h
  refine ⟨Classical.byContradiction (fun hn => ?_), rows_ok hf⟩
  unfold Wld.fault at hf
  rw [pb_false (P := x.built ∧ x.onOk ∧ x.tapes.length = 2) (fun g => hn g.1)] at hf
  split at hf <;> simp at hf

set_option maxRecDepth 100000 in
set_option maxHeartbeats 8000000 in
theorem impl_ReadBlock (x : Wld) (cx : Array Value) (fx : List Nat) (g : Int) (d : Int) (r : Int) (w : World) (hx : wldL.rep w cx.toList x fx) (hz : totWld x ≤ 1048576) (og : i64ok g) (od : i64ok d) (or : i64ok r) :
    Calls Tryz.prog 16 #[.agg cx, .int .i64 g, .int .i64 d, .int .i64 r] w (NewAgg brsL (readR x g d r) w) := by
  obtain ⟨a10, l10, c10, _, a11, l11, c11, f11, a12, l12, c12, _, ex, -, -, -, -, -, -, -, -, -, h10, h11, h12, oo13, oo14, -⟩ := wldL_iff.1 hx
  obtain rfl := Array.toList_inj.1 (ex.trans (List.toList_toArray).symm)
  have HW := Lib.hid hx; have HZ := Lib.hid hz; have H10 := Lib.hid h10; have H11 := Lib.hid h11; have H12 := Lib.hid h12; have HOO := Lib.hid (And.intro oo13 oo14)
  have hl11 : l11 ≤ 1048576 := by have h := h11.1; have q10 := totL_nonneg (totL_nonneg totDrv_nonneg) x.groups; have q12 := totL_nonneg totTap_nonneg x.tapes; unfold totWld totIs at hz; omega
  clear hx ex hz h10 h11 h12 oo13 oo14
  have G0 := Lib.hid (show Chg [] w ((w.alloc (.cells #[.int .i64 x.shape.groups, .int .i64 x.shape.column, .int .i64 x.shape.data, .int .i64 x.shape.spare, .int .i64 x.shape.rows, .int .i64 x.shape.cap, .int .i64 x.shape.batch, .int .i64 x.shape.queue, .int .i64 x.shape.stage, .slice a10 l10 c10, .slice a11 l11 c11, .slice a12 l12 c12, .int .i64 x.writes, .int .i64 x.stop, .bool x.down] 40)).alloc (.cells #[.int .i64 0, .int .i64 0, .slice none 0 0] 34)) from (Chg.alloc (Chg.alloc (Chg.refl [] w) _) _))
  have B0 := Lib.hid (show ((w.alloc (.cells #[.int .i64 x.shape.groups, .int .i64 x.shape.column, .int .i64 x.shape.data, .int .i64 x.shape.spare, .int .i64 x.shape.rows, .int .i64 x.shape.cap, .int .i64 x.shape.batch, .int .i64 x.shape.queue, .int .i64 x.shape.stage, .slice a10 l10 c10, .slice a11 l11 c11, .slice a12 l12 c12, .int .i64 x.writes, .int .i64 x.stop, .bool x.down] 40)).alloc (.cells #[.int .i64 0, .int .i64 0, .slice none 0 0] 34)).heap[w.heap.size]? = some (.cells #[.int .i64 x.shape.groups, .int .i64 x.shape.column, .int .i64 x.shape.data, .int .i64 x.shape.spare, .int .i64 x.shape.rows, .int .i64 x.shape.cap, .int .i64 x.shape.batch, .int .i64 x.shape.queue, .int .i64 x.shape.stage, .slice a10 l10 c10, .slice a11 l11 c11, .slice a12 l12 c12, .int .i64 x.writes, .int .i64 x.stop, .bool x.down] 40 (0, 0)) from keep_alloc (new_alloc w _) _)
  have B1 := Lib.hid (show ((w.alloc (.cells #[.int .i64 x.shape.groups, .int .i64 x.shape.column, .int .i64 x.shape.data, .int .i64 x.shape.spare, .int .i64 x.shape.rows, .int .i64 x.shape.cap, .int .i64 x.shape.batch, .int .i64 x.shape.queue, .int .i64 x.shape.stage, .slice a10 l10 c10, .slice a11 l11 c11, .slice a12 l12 c12, .int .i64 x.writes, .int .i64 x.stop, .bool x.down] 40)).alloc (.cells #[.int .i64 0, .int .i64 0, .slice none 0 0] 34)).heap[w.heap.size + 1]? = some (.cells #[.int .i64 0, .int .i64 0, .slice none 0 0] 34 (0, 0)) from new_at (by simp) _)
  go_enter Tryz.func16, Tryz.ntmps16
  obtain ⟨q, hq⟩ : ∃ q, q = x.up := ⟨_, rfl⟩
  have HQ := Lib.hid hq; clear hq
  go_wp2_with (first | (refine load_wide rfl _ 40 rfl rfl infoWd Tryz.underlying40 B0.out rfl ?_))
  refine (upFault_any x #[.int .i64 x.shape.groups, .int .i64 x.shape.column, .int .i64 x.shape.data, .int .i64 x.shape.spare, .int .i64 x.shape.rows, .int .i64 x.shape.cap, .int .i64 x.shape.batch, .int .i64 x.shape.queue, .int .i64 x.shape.stage, .slice a10 l10 c10, .slice a11 l11 c11, .slice a12 l12 c12, .int .i64 x.writes, .int .i64 x.stop, .bool x.down] fx _ (wldL.ext HW.out G0.out)).mono ?_
  rintro e w1 ⟨rfl, hc⟩
  rw [← HQ.out]
  obtain ⟨c0, n0, A0_1⟩ := bk hc B0.out (by simp)
  obtain ⟨c1, n1, A1_1⟩ := bk hc B1.out (by simp)
  have G1 := Lib.hid (G0.out.trans0 hc)
  have fz := freeOf A1_1.out
  clear hc
  have hqk : i64ok q := by rw [HQ.out]; exact up_i64 x
  by_cases hq0 : q = 0
  · subst hq0
    have hf0 : x.up = 0 := HQ.out.symm
    have hok := (up_built hf0).2
    by_cases hg : 0 ≤ g ∧ g ≤ x.shape.all - 1
    · have HIg := Lib.hid (show inB g 0 (x.shape.all - 1) = true by simp [inB, hg.1, hg.2])
      go_wp2_with (first | (refine load_wide rfl _ 40 rfl rfl infoWd Tryz.underlying40 A0_1.out rfl ?_))
      refine (st_isGroup_any x.shape hok g _).mono ?_
      rintro e w2 ⟨rfl, hc⟩
      rw [HIg.out]
      clear c0 n0
      obtain ⟨c0, n0, A0_2⟩ := bk hc A0_1.out (by simp)
      clear c1 n1
      obtain ⟨c1, n1, A1_2⟩ := bk hc A1_1.out (by simp)
      have G2 := Lib.hid (G1.out.trans0 hc)
      clear fz; have fz := freeOf A1_2.out
      clear hc
      by_cases hd : 0 ≤ d ∧ d ≤ x.shape.drives - 1
      · have HId := Lib.hid (show inB d 0 (x.shape.drives - 1) = true by simp [inB, hd.1, hd.2])
        go_wp2_with (first | (refine load_wide rfl _ 40 rfl rfl infoWd Tryz.underlying40 A0_2.out rfl ?_))
        refine (st_isDrive_any x.shape hok d _).mono ?_
        rintro e w3 ⟨rfl, hc⟩
        rw [HId.out]
        clear c0 n0
        obtain ⟨c0, n0, A0_3⟩ := bk hc A0_2.out (by simp)
        clear c1 n1
        obtain ⟨c1, n1, A1_3⟩ := bk hc A1_2.out (by simp)
        have G3 := Lib.hid (G2.out.trans0 hc)
        clear fz; have fz := freeOf A1_3.out
        clear hc
        by_cases hr : 0 ≤ r ∧ r ≤ x.shape.rows - 1
        · have HIr := Lib.hid (show inB r 0 (x.shape.rows - 1) = true by simp [inB, hr.1, hr.2])
          go_wp2_with (first | (refine load_wide rfl _ 40 rfl rfl infoWd Tryz.underlying40 A0_3.out rfl ?_))
          refine (st_isRow_any x.shape hok r _).mono ?_
          rintro e w4 ⟨rfl, hc⟩
          rw [HIr.out]
          clear c0 n0
          obtain ⟨c0, n0, A0_4⟩ := bk hc A0_3.out (by simp)
          clear c1 n1
          obtain ⟨c1, n1, A1_4⟩ := bk hc A1_3.out (by simp)
          have G4 := Lib.hid (G3.out.trans0 hc)
          clear fz; have fz := freeOf A1_4.out
          clear hc
          have h2 := And.intro hg (And.intro hd hr)
          by_cases hon : g ∈ x.on
          · go_wp2_with (first | (refine load_wide rfl _ 40 rfl rfl infoWd Tryz.underlying40 A0_4.out rfl ?_))
            refine (st_isOn_any w.heap.size a11 l11 c11 x.on f11 g _ A0_4.out (intL.sl_ext H11.out G4.out)).mono ?_
            rintro e w' ⟨rfl, rfl⟩
            rw [pb_true hon]
            obtain ⟨tg, rfl⟩ : ∃ t : Nat, g = t := ⟨g.toNat, by omega⟩
            obtain ⟨td, rfl⟩ : ∃ t : Nat, d = t := ⟨d.toNat, by omega⟩
            obtain ⟨tr, rfl⟩ : ∃ t : Nat, r = t := ⟨r.toNat, by omega⟩
            have hbt := (up_built hf0).1
            have htg : tg < l10 := by have h1 := H10.out.1; have h2 := hbt.1; omega
            obtain ⟨G, b, off, A, l, C, f, HX, rfl, hcx, HXS⟩ := slc_at (drvL.slice.sl_ext H10.out G4.out) htg
            have hGo := hbt.2 G (List.mem_of_getElem? HX.out.1)
            have htd : td < l := by have h1 := HXS.out.1; have h2 := hGo.1; omega
            obtain ⟨D, b2, off2, a2, l2, c2, f2, HY, rfl, hy0, hy1, HYS⟩ := drive_at HXS.out htd
            have hDo := hGo.2 D (List.mem_of_getElem? HY.out.1)
            obtain ⟨_, _, _, _, exd, hyb, -⟩ := drvL_iff.1 HYS.out
            obtain ⟨q1, q2, q3⟩ := Value.slice.inj (List.cons.inj (List.cons.inj exd).2).1
            subst q1 q2 q3
            have hz10 : totL (totL totDrv) x.groups ≤ 1048576 := by have := HZ.out; have q11 := totIs_nonneg x.on; have q12 := totL_nonneg totTap_nonneg x.tapes; unfold totWld at this; omega
            have hzD : totDrv D ≤ 1048576 := Int.le_trans (totL_mem totDrv_nonneg (List.mem_of_getElem? HY.out.1)) (Int.le_trans (totL_mem (totL_nonneg totDrv_nonneg) (List.mem_of_getElem? HX.out.1)) hz10)
            have HGX := Lib.hid HX.out.1; have HDX := Lib.hid HY.out.1; have HYB := Lib.hid hyb
            have htr : tr < l2 := by have h1 := hyb.1; have h2 := hDo.1; omega
            clear hbt hGo hDo HX HXS HY HYS exd hyb hz10
            by_cases hw : D.wiped = true
            · simp only [hw] at hy0
              go_wp2_with (first | (refine store_wide rfl _ _ 34 rfl rfl rfl infoBR A1_4.out rfl rfl rfl ?_; intro w9 hb9 hc9; have HB9 := Lib.hid hb9; have HC9 := Lib.hid hc9; clear hb9 hc9))
              refine bodyPost_ret (v := .agg #[.int .i64 (12), .int .i64 0, .slice none 0 0]) (results_wide _ _ Tryz.results16 rfl infoBR Tryz.underlying34 HB9.out rfl) rfl (badB9 (12) (⟨by omega, by omega⟩) (readR x tg td tr) (readR_wiped hf0 h2 hon HGX.out HDX.out hw) G4.out HC9.out (by omega))
            · have hw2 : D.wiped = false := by simpa using hw
              simp only [hw2] at hy0
              obtain ⟨B, b3, off3, a3, l3, c3, f3, HB, rfl, hz0, hz1, HBS⟩ := block_at HYB.out htr
              have HBX := Lib.hid HB.out.1
              have hzB : totBlk B ≤ 1048576 := Int.le_trans (totL_mem totBlk_nonneg (List.mem_of_getElem? HB.out.1)) hzD
              obtain ⟨_, _, _, fb, exb, hok, hbb, hff⟩ := blkL_iff.1 HBS.out
              obtain ⟨q1, q2, q3⟩ := Value.slice.inj (List.cons.inj (List.cons.inj exb).2).1
              subst q1 q2 q3
              have hl3 : l3 ≤ 1048576 := by have h1 := hbb.1; unfold totBlk totBs at hzB; omega
              have HBB := Lib.hid hbb; have HOK := Lib.hid hok; have LB := Lib.hid hbb.1.symm; have HZB := Lib.hid hzB
              clear exb hok hbb hff HB hzB hzD
              go_wp2_with fail
              have G9 := Lib.hid (((Chg.refl [] w4).alloc (.cells #[.int .i64 B.stamp, .slice a3 l3 c3] 32)).drew)
              obtain ⟨CC, HCI, HCO⟩ := rg_cond (fun w' => Know w4.heap.size #[.int .i64 B.stamp, .slice a3 l3 c3] w')
              refine gg_start [7] CC (by kernel_rfl) (HCI.out _ (Know.of (keep_drew (new_alloc w4 _)))) (fun hcl hS => ?_)
              refine ggT 0 hcl hS ?_; clear hcl hS; intro hcl hS
              refine ggL 1 hcl hS HCO ?_; clear hcl hS; intro hcl hS
              refine ggT 2 hcl hS ?_; clear hcl hS; intro hcl hS
              refine ggL 3 hcl hS HCO ?_; clear hcl hS; intro hcl hS
              refine ggC 4 hcl rfl (by kernel_rfl) (fun K hK => ?_)
              go_simp
              go_at_call 67
              refine (cpyB_any a3 l3 c3 B.bytes fb _ (byteL.sl_ext HBB.out G9.out) (by omega)).mono ?_; rintro e w8 ⟨p4, d4, g4, rfl, hs, hf, hc⟩
              rw [LB.out] at hs ⊢; have HN1 := Lib.hid (And.intro hs (And.intro (hf.mono (C := w4.heap.size) (by simp [World.drew])) (G9.out.trans0 hc))); obtain ⟨-, -, F1⟩ := bk hc (keep_drew (new_alloc w4 _)) (by simp); obtain ⟨cR, nR8, F2⟩ := bk hc (keep_drew (keep_alloc A1_4.out _)) (by simp); have fR := freeOf F2.out; clear hs hf hc
              go_wp2_with fail
              refine hK.out _ _ (fun _ => HCI.out _ (Know.of F1.out)) ?_
              clear hK K hcl hS
              intro hcl hS
              try simp only [Act.put, List.setIfInBounds_toArray, List.set_cons_zero, List.set_cons_succ]
              refine ggT 5 hcl hS ?_; clear hcl hS; intro hcl hS
              refine ggT 6 hcl hS ?_; clear hcl hS; intro hcl hS
              refine ggC 7 hcl rfl (by kernel_rfl) (fun K hK => ?_)
              go_simp
              refine hK.out _ _ (Till.done (m := 7) (by simp) (by rfl)) ?_
              clear hK K hcl hS
              intro hcl hS
              try simp only [Act.put, List.setIfInBounds_toArray, List.set_cons_zero, List.set_cons_succ]
              refine ggEnd (by kernel_rfl) ?_ _
              have hq : (((w8.setCell ⟨w.heap.size + 1, 0, none⟩ (.int .i64 0)).setCell ⟨w.heap.size + 1, 1, none⟩ (.int .i64 B.stamp)).setCell ⟨w.heap.size + 1, 2, none⟩ (.slice p4 l3 d4)).heap[w.heap.size + 1]? = some (.cells #[.int .i64 0, .int .i64 B.stamp, .slice p4 l3 d4] 34 (0, 0)) := heap_set_lit (cur := #[.int .i64 0, .int .i64 B.stamp, .slice none 0 0]) (heap_set_lit (cur := #[.int .i64 0, .int .i64 0, .slice none 0 0]) (heap_set_lit (cur := #[.int .i64 0, .int .i64 0, .slice none 0 0]) F2.out rfl) rfl) rfl
              have hc9 : Chg [w.heap.size + 1] w8 (((w8.setCell ⟨w.heap.size + 1, 0, none⟩ (.int .i64 0)).setCell ⟨w.heap.size + 1, 1, none⟩ (.int .i64 B.stamp)).setCell ⟨w.heap.size + 1, 2, none⟩ (.slice p4 l3 d4)) := (((Chg.refl _ _).setCell _ _ (.inl (by simp))).setCell _ _ (.inl (by simp))).setCell _ _ (.inl (by simp))
              have HE := Lib.hid (And.intro (blkL_iff.2 ⟨p4, l3, d4, g4, rfl, HOK.out, HN1.out.1, by simp⟩ : blkL.rep w8 [.int .i64 B.stamp, .slice p4 l3 d4] B g4) (And.intro (HN1.out.2.1.mono (C := w.heap.size) G4.out.size) (And.intro (G4.out.trans0 HN1.out.2.2) (show w.heap.size + 1 ∉ g4 from fun hy => by have := (HN1.out.2.1.2 _ hy).1; omega))))
              have HQ9 := Lib.hid hq; have HC9 := Lib.hid hc9; clear hq hc9
              go_wp2_with fail
              refine bodyPost_ret (v := .agg #[.int .i64 0, .int .i64 B.stamp, .slice p4 l3 d4]) (results_wide _ _ Tryz.results16 rfl infoBR Tryz.underlying34 HQ9.out rfl) rfl (finB9 _ (readR_ok hf0 h2 hon HGX.out HDX.out HBX.out hw2) HE.out.1 rfl HE.out.2.1 HE.out.2.2.1 HC9.out HE.out.2.2.2 (by omega))
          · go_wp2_with (first | (refine load_wide rfl _ 40 rfl rfl infoWd Tryz.underlying40 A0_4.out rfl ?_))
            refine (st_isOn_any w.heap.size a11 l11 c11 x.on f11 g _ A0_4.out (intL.sl_ext H11.out G4.out)).mono ?_
            rintro e w' ⟨rfl, rfl⟩
            rw [pb_false hon]
            go_wp2_with (first | (refine store_wide rfl _ _ 34 rfl rfl rfl infoBR A1_4.out rfl rfl rfl ?_; intro w9 hb9 hc9; have HB9 := Lib.hid hb9; have HC9 := Lib.hid hc9; clear hb9 hc9))
            refine bodyPost_ret (v := .agg #[.int .i64 (8), .int .i64 0, .slice none 0 0]) (results_wide _ _ Tryz.results16 rfl infoBR Tryz.underlying34 HB9.out rfl) rfl (badB9 (8) (⟨by omega, by omega⟩) (readR x g d r) (readR_off hf0 h2 hon) G4.out HC9.out (by omega))
        · have HIr := Lib.hid (show inB r 0 (x.shape.rows - 1) = false by unfold inB; simp; omega)
          go_wp2_with (first | (refine load_wide rfl _ 40 rfl rfl infoWd Tryz.underlying40 A0_3.out rfl ?_))
          refine (st_isRow_any x.shape hok r _).mono ?_
          rintro e w4 ⟨rfl, hc⟩
          rw [HIr.out]
          clear c0 n0
          obtain ⟨c0, n0, A0_4⟩ := bk hc A0_3.out (by simp)
          clear c1 n1
          obtain ⟨c1, n1, A1_4⟩ := bk hc A1_3.out (by simp)
          have G4 := Lib.hid (G3.out.trans0 hc)
          clear fz; have fz := freeOf A1_4.out
          clear hc
          go_wp2_with (first | (refine store_wide rfl _ _ 34 rfl rfl rfl infoBR A1_4.out rfl rfl rfl ?_; intro w9 hb9 hc9; have HB9 := Lib.hid hb9; have HC9 := Lib.hid hc9; clear hb9 hc9))
          refine bodyPost_ret (v := .agg #[.int .i64 (3), .int .i64 0, .slice none 0 0]) (results_wide _ _ Tryz.results16 rfl infoBR Tryz.underlying34 HB9.out rfl) rfl (badB9 (3) (⟨by omega, by omega⟩) (readR x g d r) (readR_out hf0 (fun h => hr h.2.2)) G4.out HC9.out (by omega))
      · have HId := Lib.hid (show inB d 0 (x.shape.drives - 1) = false by unfold inB; simp; omega)
        go_wp2_with (first | (refine load_wide rfl _ 40 rfl rfl infoWd Tryz.underlying40 A0_2.out rfl ?_))
        refine (st_isDrive_any x.shape hok d _).mono ?_
        rintro e w3 ⟨rfl, hc⟩
        rw [HId.out]
        clear c0 n0
        obtain ⟨c0, n0, A0_3⟩ := bk hc A0_2.out (by simp)
        clear c1 n1
        obtain ⟨c1, n1, A1_3⟩ := bk hc A1_2.out (by simp)
        have G3 := Lib.hid (G2.out.trans0 hc)
        clear fz; have fz := freeOf A1_3.out
        clear hc
        go_wp2_with (first | (refine store_wide rfl _ _ 34 rfl rfl rfl infoBR A1_3.out rfl rfl rfl ?_; intro w9 hb9 hc9; have HB9 := Lib.hid hb9; have HC9 := Lib.hid hc9; clear hb9 hc9))
        refine bodyPost_ret (v := .agg #[.int .i64 (3), .int .i64 0, .slice none 0 0]) (results_wide _ _ Tryz.results16 rfl infoBR Tryz.underlying34 HB9.out rfl) rfl (badB9 (3) (⟨by omega, by omega⟩) (readR x g d r) (readR_out hf0 (fun h => hd h.2.1)) G3.out HC9.out (by omega))
    · have HIg := Lib.hid (show inB g 0 (x.shape.all - 1) = false by unfold inB; simp; omega)
      go_wp2_with (first | (refine load_wide rfl _ 40 rfl rfl infoWd Tryz.underlying40 A0_1.out rfl ?_))
      refine (st_isGroup_any x.shape hok g _).mono ?_
      rintro e w2 ⟨rfl, hc⟩
      rw [HIg.out]
      clear c0 n0
      obtain ⟨c0, n0, A0_2⟩ := bk hc A0_1.out (by simp)
      clear c1 n1
      obtain ⟨c1, n1, A1_2⟩ := bk hc A1_1.out (by simp)
      have G2 := Lib.hid (G1.out.trans0 hc)
      clear fz; have fz := freeOf A1_2.out
      clear hc
      go_wp2_with (first | (refine store_wide rfl _ _ 34 rfl rfl rfl infoBR A1_2.out rfl rfl rfl ?_; intro w9 hb9 hc9; have HB9 := Lib.hid hb9; have HC9 := Lib.hid hc9; clear hb9 hc9))
      refine bodyPost_ret (v := .agg #[.int .i64 (3), .int .i64 0, .slice none 0 0]) (results_wide _ _ Tryz.results16 rfl infoBR Tryz.underlying34 HB9.out rfl) rfl (badB9 (3) (⟨by omega, by omega⟩) (readR x g d r) (readR_out hf0 (fun h => hg h.1)) G2.out HC9.out (by omega))
  · have hb : ((q : Int) != 0) = true := by simpa using hq0
    go_wp2_with (first | (refine store_wide rfl _ _ 34 rfl rfl rfl infoBR A1_1.out rfl rfl rfl ?_; intro w9 hb9 hc9; have HB9 := Lib.hid hb9; have HC9 := Lib.hid hc9; clear hb9 hc9))
    refine bodyPost_ret (v := .agg #[.int .i64 (q), .int .i64 0, .slice none 0 0]) (results_wide _ _ Tryz.results16 rfl infoBR Tryz.underlying34 HB9.out rfl) rfl (badB9 (q) (hqk) (readR x g d r) (by rw [readR_bad (by rw [← HQ.out]; exact hq0), ← HQ.out]) G1.out HC9.out (by omega))
set_option maxRecDepth 100000 in
set_option maxHeartbeats 8000000 in
theorem spec_ReadBlock (x : Wld) (cx : Array Value) (fx : List Nat) (g : Int) (d : Int) (r : Int) (w : World) (hx : wldL.rep w cx.toList x fx) (hz : totWld x ≤ 1048576) (og : i64ok g) (od : i64ok d) (or : i64ok r) :
    Calls Tryz.prog 14 #[.agg cx, .int .i64 g, .int .i64 d, .int .i64 r] w (NewAgg brsL (readR x g d r) w) := by
  obtain ⟨a10, l10, c10, _, a11, l11, c11, f11, a12, l12, c12, _, ex, -, -, -, -, -, -, -, -, -, h10, h11, h12, oo13, oo14, -⟩ := wldL_iff.1 hx
  obtain rfl := Array.toList_inj.1 (ex.trans (List.toList_toArray).symm)
  have HW := Lib.hid hx; have HZ := Lib.hid hz; have H10 := Lib.hid h10; have H11 := Lib.hid h11; have H12 := Lib.hid h12; have HOO := Lib.hid (And.intro oo13 oo14)
  have hl11 : l11 ≤ 1048576 := by have h := h11.1; have q10 := totL_nonneg (totL_nonneg totDrv_nonneg) x.groups; have q12 := totL_nonneg totTap_nonneg x.tapes; unfold totWld totIs at hz; omega
  clear hx ex hz h10 h11 h12 oo13 oo14
  have G0 := Lib.hid (show Chg [] w ((w.alloc (.cells #[.int .i64 x.shape.groups, .int .i64 x.shape.column, .int .i64 x.shape.data, .int .i64 x.shape.spare, .int .i64 x.shape.rows, .int .i64 x.shape.cap, .int .i64 x.shape.batch, .int .i64 x.shape.queue, .int .i64 x.shape.stage, .slice a10 l10 c10, .slice a11 l11 c11, .slice a12 l12 c12, .int .i64 x.writes, .int .i64 x.stop, .bool x.down] 40)).alloc (.cells #[.int .i64 0, .int .i64 0, .slice none 0 0] 34)) from (Chg.alloc (Chg.alloc (Chg.refl [] w) _) _))
  have B0 := Lib.hid (show ((w.alloc (.cells #[.int .i64 x.shape.groups, .int .i64 x.shape.column, .int .i64 x.shape.data, .int .i64 x.shape.spare, .int .i64 x.shape.rows, .int .i64 x.shape.cap, .int .i64 x.shape.batch, .int .i64 x.shape.queue, .int .i64 x.shape.stage, .slice a10 l10 c10, .slice a11 l11 c11, .slice a12 l12 c12, .int .i64 x.writes, .int .i64 x.stop, .bool x.down] 40)).alloc (.cells #[.int .i64 0, .int .i64 0, .slice none 0 0] 34)).heap[w.heap.size]? = some (.cells #[.int .i64 x.shape.groups, .int .i64 x.shape.column, .int .i64 x.shape.data, .int .i64 x.shape.spare, .int .i64 x.shape.rows, .int .i64 x.shape.cap, .int .i64 x.shape.batch, .int .i64 x.shape.queue, .int .i64 x.shape.stage, .slice a10 l10 c10, .slice a11 l11 c11, .slice a12 l12 c12, .int .i64 x.writes, .int .i64 x.stop, .bool x.down] 40 (0, 0)) from keep_alloc (new_alloc w _) _)
  have B1 := Lib.hid (show ((w.alloc (.cells #[.int .i64 x.shape.groups, .int .i64 x.shape.column, .int .i64 x.shape.data, .int .i64 x.shape.spare, .int .i64 x.shape.rows, .int .i64 x.shape.cap, .int .i64 x.shape.batch, .int .i64 x.shape.queue, .int .i64 x.shape.stage, .slice a10 l10 c10, .slice a11 l11 c11, .slice a12 l12 c12, .int .i64 x.writes, .int .i64 x.stop, .bool x.down] 40)).alloc (.cells #[.int .i64 0, .int .i64 0, .slice none 0 0] 34)).heap[w.heap.size + 1]? = some (.cells #[.int .i64 0, .int .i64 0, .slice none 0 0] 34 (0, 0)) from new_at (by simp) _)
  go_enter Tryz.func14, Tryz.ntmps14
  obtain ⟨q, hq⟩ : ∃ q, q = x.up := ⟨_, rfl⟩
  have HQ := Lib.hid hq; clear hq
  go_wp2_with (first | (refine load_wide rfl _ 40 rfl rfl infoWd Tryz.underlying40 B0.out rfl ?_))
  refine (l5Asked_any x #[.int .i64 x.shape.groups, .int .i64 x.shape.column, .int .i64 x.shape.data, .int .i64 x.shape.spare, .int .i64 x.shape.rows, .int .i64 x.shape.cap, .int .i64 x.shape.batch, .int .i64 x.shape.queue, .int .i64 x.shape.stage, .slice a10 l10 c10, .slice a11 l11 c11, .slice a12 l12 c12, .int .i64 x.writes, .int .i64 x.stop, .bool x.down] fx _ (wldL.ext HW.out G0.out)).mono ?_
  rintro e w1 ⟨rfl, hc⟩
  rw [← HQ.out]
  obtain ⟨c0, n0, A0_1⟩ := bk hc B0.out (by simp)
  obtain ⟨c1, n1, A1_1⟩ := bk hc B1.out (by simp)
  have G1 := Lib.hid (G0.out.trans0 hc)
  have fz := freeOf A1_1.out
  clear hc
  have hqk : i64ok q := by rw [HQ.out]; exact up_i64 x
  by_cases hq0 : q = 0
  · subst hq0
    have hf0 : x.up = 0 := HQ.out.symm
    have hok := (up_built hf0).2
    by_cases h2 : (0 ≤ g ∧ g ≤ x.shape.all - 1) ∧ (0 ≤ d ∧ d ≤ x.shape.drives - 1) ∧ (0 ≤ r ∧ r ≤ x.shape.rows - 1)
    · have HI := Lib.hid (show (inB g 0 (x.shape.all - 1) && inB d 0 (x.shape.drives - 1) && inB r 0 (x.shape.rows - 1)) = true by obtain ⟨⟨h21, h22⟩, ⟨h23, h24⟩, h25, h26⟩ := h2; simp [inB, h21, h22, h23, h24, h25, h26])
      go_wp2_with (first | (refine load_wide rfl _ 40 rfl rfl infoWd Tryz.underlying40 A0_1.out rfl ?_))
      refine (l5Place_any x.shape hok g d r _).mono ?_
      rintro e w2 ⟨rfl, hc⟩
      rw [HI.out]
      clear c0 n0
      obtain ⟨c0, n0, A0_2⟩ := bk hc A0_1.out (by simp)
      clear c1 n1
      obtain ⟨c1, n1, A1_2⟩ := bk hc A1_1.out (by simp)
      have G2 := Lib.hid (G1.out.trans0 hc)
      clear fz; have fz := freeOf A1_2.out
      clear hc
      by_cases hon : g ∈ x.on
      · go_wp2_with (first | (refine load_wide rfl _ 40 rfl rfl infoWd Tryz.underlying40 A0_2.out rfl ?_))
        refine (l1Has_any a11 l11 c11 x.on f11 g _ (intL.sl_ext H11.out G2.out)).mono ?_
        rintro e w' ⟨rfl, rfl⟩
        rw [pb_true hon]
        obtain ⟨tg, rfl⟩ : ∃ t : Nat, g = t := ⟨g.toNat, by omega⟩
        obtain ⟨td, rfl⟩ : ∃ t : Nat, d = t := ⟨d.toNat, by omega⟩
        obtain ⟨tr, rfl⟩ : ∃ t : Nat, r = t := ⟨r.toNat, by omega⟩
        have hbt := (up_built hf0).1
        have htg : tg < l10 := by have h1 := H10.out.1; have h2 := hbt.1; omega
        obtain ⟨G, b, off, A, l, C, f, HX, rfl, hcx, HXS⟩ := slc_at (drvL.slice.sl_ext H10.out G2.out) htg
        have hGo := hbt.2 G (List.mem_of_getElem? HX.out.1)
        have htd : td < l := by have h1 := HXS.out.1; have h2 := hGo.1; omega
        obtain ⟨D, b2, off2, a2, l2, c2, f2, HY, rfl, hy0, hy1, HYS⟩ := drive_at HXS.out htd
        have hDo := hGo.2 D (List.mem_of_getElem? HY.out.1)
        obtain ⟨_, _, _, _, exd, hyb, -⟩ := drvL_iff.1 HYS.out
        obtain ⟨q1, q2, q3⟩ := Value.slice.inj (List.cons.inj (List.cons.inj exd).2).1
        subst q1 q2 q3
        have hz10 : totL (totL totDrv) x.groups ≤ 1048576 := by have := HZ.out; have q11 := totIs_nonneg x.on; have q12 := totL_nonneg totTap_nonneg x.tapes; unfold totWld at this; omega
        have hzD : totDrv D ≤ 1048576 := Int.le_trans (totL_mem totDrv_nonneg (List.mem_of_getElem? HY.out.1)) (Int.le_trans (totL_mem (totL_nonneg totDrv_nonneg) (List.mem_of_getElem? HX.out.1)) hz10)
        have HGX := Lib.hid HX.out.1; have HDX := Lib.hid HY.out.1; have HYB := Lib.hid hyb
        have htr : tr < l2 := by have h1 := hyb.1; have h2 := hDo.1; omega
        clear hbt hGo hDo HX HXS HY HYS exd hyb hz10
        by_cases hw : D.wiped = true
        · simp only [hw] at hy0
          go_wp2_with (first | (refine store_wide rfl _ _ 34 rfl rfl rfl infoBR A1_2.out rfl rfl rfl ?_; intro w9 hb9 hc9; have HB9 := Lib.hid hb9; have HC9 := Lib.hid hc9; clear hb9 hc9))
          refine bodyPost_ret (v := .agg #[.int .i64 (12), .int .i64 0, .slice none 0 0]) (results_wide _ _ Tryz.results14 rfl infoBR Tryz.underlying34 HB9.out rfl) rfl (badB9 (12) (⟨by omega, by omega⟩) (readR x tg td tr) (readR_wiped hf0 h2 hon HGX.out HDX.out hw) G2.out HC9.out (by omega))
        · have hw2 : D.wiped = false := by simpa using hw
          simp only [hw2] at hy0
          obtain ⟨B, b3, off3, a3, l3, c3, f3, HB, rfl, hz0, hz1, HBS⟩ := block_at HYB.out htr
          have HBX := Lib.hid HB.out.1
          have hzB : totBlk B ≤ 1048576 := Int.le_trans (totL_mem totBlk_nonneg (List.mem_of_getElem? HB.out.1)) hzD
          obtain ⟨_, _, _, fb, exb, hok, hbb, hff⟩ := blkL_iff.1 HBS.out
          obtain ⟨q1, q2, q3⟩ := Value.slice.inj (List.cons.inj (List.cons.inj exb).2).1
          subst q1 q2 q3
          have hl3 : l3 ≤ 1048576 := by have h1 := hbb.1; unfold totBlk totBs at hzB; omega
          have HBB := Lib.hid hbb; have HOK := Lib.hid hok; have LB := Lib.hid hbb.1.symm; have HZB := Lib.hid hzB
          clear exb hok hbb hff HB hzB hzD
          go_wp2_with fail
          refine (l5CopyBlock_any B #[.int .i64 B.stamp, .slice a3 l3 c3] f3 _ HBS.out HZB.out).mono ?_; rintro e w8 ⟨cs, g4, rfl, hs, hf, hc⟩
          obtain ⟨p4, m4, d4, _, ex, -⟩ := blkL_iff.1 hs; obtain rfl := Array.toList_inj.1 (ex.trans (List.toList_toArray).symm)
          obtain ⟨-, nR8, F2⟩ := bk hc A1_2.out (by simp)
          have HE := Lib.hid (And.intro hs (And.intro (hf.mono (C := w.heap.size) G2.out.size) (And.intro (G2.out.trans0 hc) (show w.heap.size + 1 ∉ g4 from fun hy => by have := (hf.2 _ hy).1; omega))))
          clear hs hf hc ex
          go_wp2_with (first | (refine store_wide rfl _ _ 34 rfl rfl rfl infoBR F2.out rfl rfl rfl ?_; intro w9 hb9 hc9; have HB9 := Lib.hid hb9; have HC9 := Lib.hid hc9; clear hb9 hc9))
          refine bodyPost_ret (v := .agg #[.int .i64 0, .int .i64 B.stamp, .slice p4 m4 d4]) (results_wide _ _ Tryz.results14 rfl infoBR Tryz.underlying34 HB9.out rfl) rfl (finB9 _ (readR_ok hf0 h2 hon HGX.out HDX.out HBX.out hw2) HE.out.1 rfl HE.out.2.1 HE.out.2.2.1 HC9.out HE.out.2.2.2 (by omega))
      · go_wp2_with (first | (refine load_wide rfl _ 40 rfl rfl infoWd Tryz.underlying40 A0_2.out rfl ?_))
        refine (l1Has_any a11 l11 c11 x.on f11 g _ (intL.sl_ext H11.out G2.out)).mono ?_
        rintro e w' ⟨rfl, rfl⟩
        rw [pb_false hon]
        go_wp2_with (first | (refine store_wide rfl _ _ 34 rfl rfl rfl infoBR A1_2.out rfl rfl rfl ?_; intro w9 hb9 hc9; have HB9 := Lib.hid hb9; have HC9 := Lib.hid hc9; clear hb9 hc9))
        refine bodyPost_ret (v := .agg #[.int .i64 (8), .int .i64 0, .slice none 0 0]) (results_wide _ _ Tryz.results14 rfl infoBR Tryz.underlying34 HB9.out rfl) rfl (badB9 (8) (⟨by omega, by omega⟩) (readR x g d r) (readR_off hf0 h2 hon) G2.out HC9.out (by omega))
    · have HI := Lib.hid (show (inB g 0 (x.shape.all - 1) && inB d 0 (x.shape.drives - 1) && inB r 0 (x.shape.rows - 1)) = false by unfold inB; simp; omega)
      go_wp2_with (first | (refine load_wide rfl _ 40 rfl rfl infoWd Tryz.underlying40 A0_1.out rfl ?_))
      refine (l5Place_any x.shape hok g d r _).mono ?_
      rintro e w2 ⟨rfl, hc⟩
      rw [HI.out]
      clear c0 n0
      obtain ⟨c0, n0, A0_2⟩ := bk hc A0_1.out (by simp)
      clear c1 n1
      obtain ⟨c1, n1, A1_2⟩ := bk hc A1_1.out (by simp)
      have G2 := Lib.hid (G1.out.trans0 hc)
      clear fz; have fz := freeOf A1_2.out
      clear hc
      go_wp2_with (first | (refine store_wide rfl _ _ 34 rfl rfl rfl infoBR A1_2.out rfl rfl rfl ?_; intro w9 hb9 hc9; have HB9 := Lib.hid hb9; have HC9 := Lib.hid hc9; clear hb9 hc9))
      refine bodyPost_ret (v := .agg #[.int .i64 (3), .int .i64 0, .slice none 0 0]) (results_wide _ _ Tryz.results14 rfl infoBR Tryz.underlying34 HB9.out rfl) rfl (badB9 (3) (⟨by omega, by omega⟩) (readR x g d r) (readR_out hf0 h2) G2.out HC9.out (by omega))
  · have hb : ((q : Int) != 0) = true := by simpa using hq0
    go_wp2_with (first | (refine store_wide rfl _ _ 34 rfl rfl rfl infoBR A1_1.out rfl rfl rfl ?_; intro w9 hb9 hc9; have HB9 := Lib.hid hb9; have HC9 := Lib.hid hc9; clear hb9 hc9))
    refine bodyPost_ret (v := .agg #[.int .i64 (q), .int .i64 0, .slice none 0 0]) (results_wide _ _ Tryz.results14 rfl infoBR Tryz.underlying34 HB9.out rfl) rfl (badB9 (q) (hqk) (readR x g d r) (by rw [readR_bad (by rw [← HQ.out]; exact hq0), ← HQ.out]) G1.out HC9.out (by omega))
end Go.Proofs.YtnnhopcjlnnchaaGreat
