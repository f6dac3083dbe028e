/- Several texts in one. -/
import Derived.Test.YtnnhopcjlnnchaaGreatMb
import Derived.Test.YtnnhopcjlnnchaaGreatWra
import Derived.Test.YtnnhopcjlnnchaaGreatPut
import Derived.Test.YtnnhopcjlnnchaaGreatMc
/- An element of a slice that changes, also with other memory than before; footprints exchanged. No function of the program in sight. -/
namespace Go.Proofs.YtnnhopcjlnnchaaGreat
open Go.RowKit

theorem Lay.all_modN {α : Type} (L : Lay α) {w : World} {x : α} : ∀ {xs : List α} {i : Nat} {cs : List Value} {fps : List Nat}, L.all w cs xs fps → xs[i]? = some x →
    ∃ c f f1 f2, fps = f1 ++ f ++ f2 ∧ (∀ j, j < L.n → cs[i * L.n + j]? = c[j]?) ∧ L.rep w c x f ∧
      ∀ w' x' f', L.rep w' c x' f' → (∀ y, (y ∈ f1 ∨ y ∈ f2) → w'.heap[y]? = w.heap[y]?) → L.all w' cs (xs.set i x') (f1 ++ f' ++ f2) := by
  intro xs
  induction xs with
  | nil => intro i cs fps _ hx; simp at hx
  | cons y ys ih =>
    intro i cs fps h hx
    obtain ⟨c1, c2, f1, f2, rfl, rfl, h1, h2⟩ := h
    have hl := L.len h1
    cases i with
    | zero =>
      simp at hx
      subst hx
      refine ⟨c1, f1, [], f2, by simp, fun j hj => by rw [Nat.zero_mul, Nat.zero_add, List.getElem?_append_left (by omega)], h1, fun w' x' f' hr hk => ⟨c1, c2, f', f2, rfl, by simp, hr, L.all_keep h2 (fun y hy => hk y (.inr hy))⟩⟩
    | succ i =>
      obtain ⟨c, f, g1, g2, rfl, hc, hr, hm⟩ := ih h2 (by simpa using hx)
      refine ⟨c, f, f1 ++ g1, g2, by simp, fun j hj => ?_, hr, fun w' x' f' hr' hk => ⟨c1, c2, f1, _, rfl, by simp, L.keep h1 (fun y hy => hk y (.inl (by simp [hy]))), hm w' x' f' hr' (fun y hy => hk y (by rcases hy with hy | hy; exact .inl (by simp [hy]); exact .inr hy))⟩⟩
      have e : (i + 1) * L.n + j = c1.length + (i * L.n + j) := by rw [Nat.add_mul, Nat.one_mul, hl]; omega
      rw [e, List.getElem?_append_right (by omega), Nat.add_sub_cancel_left, hc j hj]
/-- an element of a slice may change in its own blocks and may get others -/
theorem Lay.sl_modN {α : Type} (L : Lay α) {w : World} {b off len cap : Nat} {xs : List α} {fp : List Nat} (h : L.sl w (some ⟨b, off, none⟩) len cap xs fp) (nd : fp.Nodup) {i : Nat} (hi : i < len) :
    ∃ x c f, xs[i]? = some x ∧ b ∈ fp ∧ (∀ j, j < L.n → w.cell? ⟨b, off + i * L.n + j, none⟩ = c[j]?) ∧ L.rep w c x f ∧ (∀ y ∈ f, y ∈ fp) ∧ f.Nodup ∧ b ∉ f ∧
      ∀ w' x' f', L.rep w' c x' f' → f'.Nodup → (∀ y ∈ f', y ∈ f ∨ y ∉ fp) → (∀ y ∈ fp, y ∉ f → w'.heap[y]? = w.heap[y]?) →
        ∃ fp', L.sl w' (some ⟨b, off, none⟩) len cap (xs.set i x') fp' ∧ fp'.Nodup ∧ ∀ y ∈ fp', (y ∈ fp ∧ y ∉ f) ∨ y ∈ f' := by
  obtain ⟨h1, h2, h3, h4, ⟨rfl, rfl⟩ | ⟨b', off', cur, E, fr, fps, ha, hb, hall, rfl⟩⟩ := h
  · simp at h1; omega
  · simp only [Option.some.injEq, Addr.mk.injEq, and_true] at ha
    obtain ⟨rfl, rfl⟩ := ha
    have hx : xs[i]? = some (xs[i]'(by omega)) := List.getElem?_eq_getElem _
    obtain ⟨c, f, f1, f2, rfl, hc, hr, hm⟩ := L.all_modN hall hx
    have nd1 := List.nodup_cons.1 nd
    have nd2 := List.nodup_append.1 nd1.2
    have nd3 := List.nodup_append.1 nd2.1
    have hf1 : ∀ y ∈ f1, y ∉ f := fun y hy hyf => nd3.2.2 y hy y hyf rfl
    have hf2 : ∀ y ∈ f2, y ∉ f := fun y hy hyf => nd2.2.2 y (by simp [hyf]) y hy rfl
    have hbf : b ∉ f := fun hbf => nd1.1 (by simp [hbf])
    refine ⟨_, c, f, hx, by simp, fun j hj => ?_, hr, fun y hy => by simp [hy], nd3.2.1, hbf, fun w' x' f' hr' ndf hd hk => ⟨b :: (f1 ++ f' ++ f2), ⟨by simpa using h1, h2, h3, h4, .inr ⟨b, off, cur, E, fr, _, rfl, ?_, hm w' x' f' hr' ?_, rfl⟩⟩, ?_, ?_⟩⟩
    · rw [cell_of_row w b _ cur E fr hb, ← hc j hj, List.getElem?_take_of_lt, List.getElem?_drop]
      · simp [Nat.add_assoc]
      · calc i * L.n + j < i * L.n + L.n := by omega
          _ = (i + 1) * L.n := by rw [Nat.add_mul, Nat.one_mul]
          _ ≤ len * L.n := Nat.mul_le_mul_right _ (by omega)
    · rw [hk b (by simp) hbf]; exact hb
    · intro y hy
      refine hk y (by rcases hy with hy | hy <;> simp [hy]) (fun hyf => ?_)
      rcases hy with hy | hy
      · exact hf1 y hy hyf
      · exact hf2 y hy hyf
    · have d1 : ∀ y ∈ f', y ∉ f1 := fun y hy h1 => by
        rcases hd y hy with h | h
        · exact hf1 y h1 h
        · exact h (by simp [h1])
      have d2 : ∀ y ∈ f', y ∉ f2 := fun y hy h1 => by
        rcases hd y hy with h | h
        · exact hf2 y h1 h
        · exact h (by simp [h1])
      have db : b ∉ f' := fun hy => by
        rcases hd b hy with h | h
        · exact hbf h
        · exact h (by simp)
      refine List.nodup_cons.2 ⟨fun hm => ?_, List.nodup_append.2 ⟨List.nodup_append.2 ⟨nd3.1, ndf, fun y hy z hz e => d1 z hz (e ▸ hy)⟩, nd2.2.1, fun y hy z hz e => ?_⟩⟩
      · rw [List.mem_append, List.mem_append] at hm
        rcases hm with (hm | hm) | hm
        · exact nd1.1 (by simp [hm])
        · exact db hm
        · exact nd1.1 (by simp [hm])
      · subst e
        rcases List.mem_append.1 hy with hy | hy
        · exact nd2.2.2 y (by simp [hy]) y hz rfl
        · exact d2 y hy hz
    · intro y hy
      simp only [List.mem_cons, List.mem_append] at hy
      rcases hy with rfl | (hy | hy) | hy
      · exact .inl ⟨by simp, hbf⟩
      · exact .inl ⟨by simp [hy], hf1 y hy⟩
      · exact .inr hy
      · exact .inl ⟨by simp [hy], hf2 y hy⟩
theorem Fresh.swap3 {B : Nat} {w : World} {a b c c' : List Nat} (h : Fresh B w (a ++ (b ++ (c ++ [])))) (nd : c'.Nodup) (hc : ∀ y ∈ c', y ∈ c ∨ (y ∉ a ++ (b ++ (c ++ [])) ∧ B ≤ y ∧ Loose w y)) : Fresh B w (a ++ (b ++ (c' ++ []))) := by
  obtain ⟨h1, h2⟩ := h
  rw [List.append_nil] at h1 h2 hc ⊢
  obtain ⟨na, nbc, dabc⟩ := List.nodup_append.1 h1
  obtain ⟨nb, nc, dbc⟩ := List.nodup_append.1 nbc
  refine ⟨List.nodup_append.2 ⟨na, List.nodup_append.2 ⟨nb, nd, fun y hy z hz e => ?_⟩, fun y hy z hz e => ?_⟩, fun y hy => ?_⟩
  · subst e
    rcases hc y hz with h | ⟨h, -⟩
    · exact dbc y hy y h rfl
    · exact h (by simp [hy])
  · subst e
    rcases List.mem_append.1 hz with hz | hz
    · exact dabc y hy y (by simp [hz]) rfl
    · rcases hc y hz with h | ⟨h, -⟩
      · exact dabc y hy y (by simp [h]) rfl
      · exact h (by simp [hy])
  · rcases List.mem_append.1 hy with hy | hy
    · exact h2 y (by simp [hy])
    · rcases List.mem_append.1 hy with hy | hy
      · exact h2 y (by simp [hy])
      · rcases hc y hy with h | ⟨_, h, h'⟩
        · exact h2 y (by simp [h])
        · exact ⟨h, h'⟩
theorem Fresh.swap1 {B : Nat} {w : World} {a a' r : List Nat} (h : Fresh B w (a ++ r)) (nd : a'.Nodup) (hc : ∀ y ∈ a', y ∈ a ∨ (y ∉ a ++ r ∧ B ≤ y ∧ Loose w y)) : Fresh B w (a' ++ r) := by
  obtain ⟨h1, h2⟩ := h
  obtain ⟨na, nr, dar⟩ := List.nodup_append.1 h1
  refine ⟨List.nodup_append.2 ⟨nd, nr, fun y hy z hz e => ?_⟩, fun y hy => ?_⟩
  · subst e
    rcases hc y hy with h | ⟨h, -⟩
    · exact dar y h y hz rfl
    · exact h (by simp [hz])
  · rcases List.mem_append.1 hy with hy | hy
    · rcases hc y hy with h | ⟨_, h, h'⟩
      · exact h2 y (by simp [h])
      · exact ⟨h, h'⟩
    · exact h2 y (by simp [hy])
end Go.Proofs.YtnnhopcjlnnchaaGreat

/- Numbers that are in range, groups that are on: both sides. -/
namespace Go.Proofs.YtnnhopcjlnnchaaGreat
open Go.RowKit

set_option maxHeartbeats 1000000 in
theorem st_isGroup_any (x : Shp) (hs : x.ok) (g : Int) (w : World) :
    Calls Tryz.prog 63 #[.agg #[.int .i64 x.groups, .int .i64 x.column, .int .i64 x.data, .int .i64 x.spare, .int .i64 x.rows, .int .i64 x.cap, .int .i64 x.batch, .int .i64 x.queue, .int .i64 x.stage], .int .i64 g] w fun e w' => e = .returned (.bool (inB g 0 (x.all - 1))) ∧ Chg [] w w' := by
  have h1 := hs.all
  go_enter Tryz.func63, Tryz.ntmps63
  go_wp2_with fail
  refine (all_any x hs _).mono ?_
  rintro e w1 ⟨rfl, hc⟩
  have HC := Lib.hid (((Chg.refl [] w).alloc _).trans0 hc)
  clear hc
  go_wp2_with fail
  refine (inside_any g 0 (x.all - 1) _).mono ?_
  rintro e w' ⟨rfl, rfl⟩
  go_wp2_with fail
  go_ret
  exact ⟨rfl, HC.out⟩
set_option maxHeartbeats 1000000 in
theorem st_isDrive_any (x : Shp) (hs : x.ok) (g : Int) (w : World) :
    Calls Tryz.prog 64 #[.agg #[.int .i64 x.groups, .int .i64 x.column, .int .i64 x.data, .int .i64 x.spare, .int .i64 x.rows, .int .i64 x.cap, .int .i64 x.batch, .int .i64 x.queue, .int .i64 x.stage], .int .i64 g] w fun e w' => e = .returned (.bool (inB g 0 (x.drives - 1))) ∧ Chg [] w w' := by
  have h1 := hs.drives
  go_enter Tryz.func64, Tryz.ntmps64
  go_wp2_with fail
  refine (drives_any x hs _).mono ?_
  rintro e w1 ⟨rfl, hc⟩
  have HC := Lib.hid (((Chg.refl [] w).alloc _).trans0 hc)
  clear hc
  go_wp2_with fail
  refine (inside_any g 0 (x.drives - 1) _).mono ?_
  rintro e w' ⟨rfl, rfl⟩
  go_wp2_with fail
  go_ret
  exact ⟨rfl, HC.out⟩
set_option maxHeartbeats 1000000 in
theorem st_isRow_any (x : Shp) (hs : x.ok) (g : Int) (w : World) :
    Calls Tryz.prog 65 #[.agg #[.int .i64 x.groups, .int .i64 x.column, .int .i64 x.data, .int .i64 x.spare, .int .i64 x.rows, .int .i64 x.cap, .int .i64 x.batch, .int .i64 x.queue, .int .i64 x.stage], .int .i64 g] w fun e w' => e = .returned (.bool (inB g 0 (x.rows - 1))) ∧ Chg [] w w' := by
  have h1 := hs.rows
  go_enter Tryz.func65, Tryz.ntmps65
  go_wp2_with fail
  refine (inside_any g 0 (x.rows - 1) _).mono ?_
  rintro e w' ⟨rfl, rfl⟩
  go_wp2_with fail
  go_ret
  exact ⟨rfl, (Chg.refl [] w).alloc _⟩
set_option maxHeartbeats 2000000 in
theorem l5Place_any (x : Shp) (hs : x.ok) (g d r : Int) (w : World) :
    Calls Tryz.prog 55 #[.agg #[.int .i64 x.groups, .int .i64 x.column, .int .i64 x.data, .int .i64 x.spare, .int .i64 x.rows, .int .i64 x.cap, .int .i64 x.batch, .int .i64 x.queue, .int .i64 x.stage], .int .i64 g, .int .i64 d, .int .i64 r] w fun e w' => e = .returned (.bool (inB g 0 (x.all - 1) && inB d 0 (x.drives - 1) && inB r 0 (x.rows - 1))) ∧ Chg [] w w' := by
  have h1 := hs.all; have h2 := hs.drives; have h3 := hs.rows
  have B0 := Lib.hid (new_alloc w (.cells #[.int .i64 x.groups, .int .i64 x.column, .int .i64 x.data, .int .i64 x.spare, .int .i64 x.rows, .int .i64 x.cap, .int .i64 x.batch, .int .i64 x.queue, .int .i64 x.stage] 36))
  go_enter Tryz.func55, Tryz.ntmps55
  go_wp2_with fail
  refine (l5All_any x hs _).mono ?_
  rintro e w1 ⟨rfl, hc⟩
  obtain ⟨c0, n0, A0⟩ := bk hc B0.out (by simp)
  have HC := Lib.hid (((Chg.refl [] w).alloc _).trans0 hc)
  clear hc
  go_wp2_with fail
  refine (l1In_any g 0 (x.all - 1) _).mono ?_
  rintro e w' ⟨rfl, rfl⟩
  cases hA : inB g 0 (x.all - 1)
  · go_wp2_with fail
    go_ret
    exact ⟨by simp [hA], HC.out⟩
  · go_wp2_with fail
    refine (l5Drives_any x hs _).mono ?_
    rintro e w2 ⟨rfl, hc⟩
    clear c0 n0
    obtain ⟨c0, n0, A1⟩ := bk hc A0.out (by simp)
    have HC2 := Lib.hid (HC.out.trans0 hc)
    clear hc
    go_wp2_with fail
    refine (l1In_any d 0 (x.drives - 1) _).mono ?_
    rintro e w' ⟨rfl, rfl⟩
    cases hB : inB d 0 (x.drives - 1)
    · go_wp2_with fail
      go_ret
      exact ⟨by simp [hA, hB], HC2.out⟩
    · go_wp2_with fail
      refine (l1In_any r 0 (x.rows - 1) _).mono ?_
      rintro e w' ⟨rfl, rfl⟩
      go_wp2_with fail
      go_ret
      exact ⟨by simp [hA, hB], HC2.out⟩
set_option maxHeartbeats 1000000 in
theorem st_isOn_any (b : Nat) {u0 u1 u2 u3 u4 u5 u6 u7 u8 u9 u11 u12 u13 u14 : Value} (a : Option Addr) (la ca : Nat) (xs : List Int) (f : List Nat) (g : Int) (w : World) (h : w.heap[b]? = some (.cells #[u0, u1, u2, u3, u4, u5, u6, u7, u8, u9, .slice a la ca, u11, u12, u13, u14] 40 (0, 0))) (ha : intL.sl w a la ca xs f) :
    Calls Tryz.prog 66 #[.pointer (some ⟨b, 0, none⟩), .int .i64 g] w fun e w' => e = .returned (.bool (pb (g ∈ xs))) ∧ w = w' := by
  have cb := cellsOf h; have nb := ltOf h
  have HA := Lib.hid ha
  clear h ha
  go_enter Tryz.func66, Tryz.ntmps66
  go_wp2_with fail
  refine (containsI_any a la ca xs f g _ HA.out).mono ?_
  rintro e w' ⟨rfl, rfl⟩
  go_wp2_with fail
  go_ret
  exact ⟨rfl, rfl⟩
theorem brs_open {w : World} {cx : Array Value} {x : BRes} {fp : List Nat} (h : brsL.rep w cx.toList x fp) : ∃ (a : Option Addr) (l c : Nat), cx = #[.int .i64 x.code, .int .i64 x.block.stamp, .slice a l c] ∧ i64ok x.code ∧ blkL.rep w [.int .i64 x.block.stamp, .slice a l c] x.block fp := by
  obtain ⟨rest, ex, hcode, hw⟩ := brsL_iff.1 h
  obtain ⟨a, l, c, f, e2, _⟩ := blkL_iff.1 hw
  subst e2
  exact ⟨a, l, c, Array.toList_inj.1 ex, hcode, hw⟩
set_option maxHeartbeats 2000000 in
theorem eqBlockResult_any (x : BRes) (cx cy : Array Value) (fx fy : List Nat) (w : World) (hx : brsL.rep w cx.toList x fx) (hy : brsL.rep w cy.toList x fy) :
    Calls Tryz.prog 17 #[.agg cx, .agg cy] w fun e w' => e = .returned (.bool true) ∧ Chg [] w w' := by
  obtain ⟨a, l, c, rfl, -, h1⟩ := brs_open hx
  obtain ⟨b, m, d, rfl, -, h2⟩ := brs_open hy
  have hcc : ((x.code : Int) != x.code) = false := by simp
  have H1 := Lib.hid h1; have H2 := Lib.hid h2
  clear hx hy h1 h2
  go_enter Tryz.func17, Tryz.ntmps17
  go_wp2_with fail
  refine (eqBlock_any x.block #[.int .i64 x.block.stamp, .slice a l c] #[.int .i64 x.block.stamp, .slice b m d] fx fy _ (blkL.ext H1.out ?_) (blkL.ext H2.out ?_)).mono ?_
  · exact ((Chg.refl [] w).alloc _).alloc _
  · exact ((Chg.refl [] w).alloc _).alloc _
  rintro e w1 ⟨rfl, hc1⟩
  have HC1 := Lib.hid ((((Chg.refl [] w).alloc _).alloc _).trans0 hc1)
  clear hc1
  go_wp2_with fail
  go_ret
  exact ⟨rfl, HC1.out⟩
/-- the marks of a block's own bytes -/
def mvB1 (k : Int) (x : Blk) : Blk := ⟨x.stamp, markBL k x.bytes.length⟩
set_option maxHeartbeats 2000000 in
theorem markBlock_any (x : Blk) (cx : Array Value) (fx : List Nat) (k : Int) (w : World) (hx : blkL.rep w cx.toList x fx) (hf : Fresh 0 w fx) (hk : 0 ≤ k) (hk2 : k + (x.bytes.length : Int) ≤ 4611686018427387904) :
    Calls Tryz.prog 44 #[.agg cx, .int .i64 k] w fun e w' => e = .returned (.int .i64 (k + (x.bytes.length : Int))) ∧ blkL.rep w' cx.toList (mvB1 k x) fx ∧ Chg fx w w' := by
  obtain ⟨a1, l1, c1, f1, ex, o0, h1, hff⟩ := blkL_iff.1 hx
  obtain rfl := Array.toList_inj.1 (ex.trans (List.toList_toArray).symm)
  obtain rfl : fx = f1 := by simpa using hff
  have HL := Lib.hid h1.1
  have H1 := Lib.hid h1; have HF := Lib.hid hf; have HO := Lib.hid o0
  rw [← h1.1] at hk2
  rw [← h1.1]
  clear hx ex h1 hf hff o0
  go_enter Tryz.func44, Tryz.ntmps44
  go_wp2_with fail
  have g0 : Chg [] w (w.alloc (.cells #[.int .i64 x.stamp, .slice a1 l1 c1] 32)) := (Chg.refl [] w).alloc _
  refine (markB_any a1 l1 c1 x.bytes fx k _ (byteL.sl_ext H1.out g0) (HF.out.chg g0) hk hk2).mono ?_
  rintro e w1 ⟨rfl, hs1, hc1⟩
  have HN := Lib.hid (And.intro (blkL_iff.2 ⟨a1, l1, c1, fx, rfl, HO.out, by show byteL.sl w1 a1 l1 c1 (markBL k x.bytes.length) fx; rw [← HL.out]; exact hs1, by simp⟩ : blkL.rep w1 [.int .i64 x.stamp, .slice a1 l1 c1] (mvB1 k x) fx) ((g0.mono (T := fx) (by simp)).trans hc1 (fun x hx => .inl hx)))
  clear hs1 hc1 g0
  go_wp2_with fail
  go_ret
  exact ⟨rfl, HN.out.1, HN.out.2⟩
set_option maxHeartbeats 2000000 in
theorem markBlockResult_any (x : BRes) (cx : Array Value) (fx : List Nat) (k : Int) (w : World) (hx : brsL.rep w cx.toList x fx) (hf : Fresh 0 w fx) (hk : 0 ≤ k) (hk2 : k + (x.block.bytes.length : Int) ≤ 4611686018427387904) :
    Calls Tryz.prog 20 #[.agg cx, .int .i64 k] w fun e w' => e = .returned (.int .i64 (k + (x.block.bytes.length : Int))) ∧ brsL.rep w' cx.toList ⟨x.code, mvB1 k x.block⟩ fx ∧ Chg fx w w' := by
  obtain ⟨a, l, c, rfl, hcode, h1⟩ := brs_open hx
  have H1 := Lib.hid h1; have HF := Lib.hid hf; have HC0 := Lib.hid hcode; have HK := Lib.hid hk2
  clear hx h1 hf hcode hk2
  go_enter Tryz.func20, Tryz.ntmps20
  go_wp2_with fail
  have g0 : Chg [] w (w.alloc (.cells #[.int .i64 x.code, .int .i64 x.block.stamp, .slice a l c] 34)) := (Chg.refl [] w).alloc _
  refine (markBlock_any x.block #[.int .i64 x.block.stamp, .slice a l c] fx k _ (blkL.ext H1.out g0) (HF.out.chg g0) hk HK.out).mono ?_
  rintro e w1 ⟨rfl, hs1, hc1⟩
  have HN := Lib.hid (And.intro (brsL_iff.2 ⟨_, rfl, HC0.out, hs1⟩ : brsL.rep w1 [.int .i64 x.code, .int .i64 x.block.stamp, .slice a l c] ⟨x.code, mvB1 k x.block⟩ fx) ((g0.mono (T := fx) (by simp)).trans hc1 (fun x hx => .inl hx)))
  clear hs1 hc1 g0
  go_wp2_with fail
  go_ret
  exact ⟨rfl, HN.out.1, HN.out.2⟩
set_option maxHeartbeats 2000000 in
theorem heldBlock_any (x : Blk) (cx : Array Value) (fx : List Nat) (k : Int) (w : World) (hx : blkL.rep w cx.toList (mvB1 k x) fx) (hk : 0 ≤ k) (hk2 : k + (x.bytes.length : Int) ≤ 4611686018427387904) :
    Calls Tryz.prog 75 #[.agg cx, .int .i64 k] w fun e w' => e = .returned (.int .i64 (k + (x.bytes.length : Int))) ∧ Chg [] w w' := by
  obtain ⟨a1, l1, c1, f1, ex, o0, h1, -⟩ := blkL_iff.1 hx
  obtain rfl := Array.toList_inj.1 (ex.trans (List.toList_toArray).symm)
  have hl : l1 = x.bytes.length := by rw [h1.1]; show (markBL k x.bytes.length).length = _; rw [markBL_length]
  have h2 : byteL.sl w a1 l1 c1 (markBL k l1) f1 := by rw [hl] at h1 ⊢; exact h1
  rw [← hl] at hk2 ⊢
  have H1 := Lib.hid h2
  have hn : ¬ (k + (l1 : Int) < 0) := by omega
  clear hx ex h1 h2 o0 hl
  go_enter Tryz.func75, Tryz.ntmps75
  go_wp2_with fail
  have g0 : Chg [] w (w.alloc (.cells #[.int .i64 (mvB1 k x).stamp, .slice a1 l1 c1] 32)) := (Chg.refl [] w).alloc _
  refine (heldB_any a1 l1 c1 f1 k _ (byteL.sl_ext H1.out g0) hk hk2).mono ?_
  rintro e w1 ⟨rfl, hc1⟩
  have HC1 := Lib.hid (g0.trans0 hc1)
  clear hc1 g0
  go_wp2_with fail
  go_ret
  exact ⟨rfl, HC1.out⟩
set_option maxHeartbeats 2000000 in
theorem heldBlockResult_any (x : BRes) (cx : Array Value) (fx : List Nat) (k : Int) (w : World) (hx : brsL.rep w cx.toList ⟨x.code, mvB1 k x.block⟩ fx) (hk : 0 ≤ k) (hk2 : k + (x.block.bytes.length : Int) ≤ 4611686018427387904) :
    Calls Tryz.prog 21 #[.agg cx, .int .i64 k] w fun e w' => e = .returned (.int .i64 (k + (x.block.bytes.length : Int))) ∧ Chg [] w w' := by
  obtain ⟨a, l, c, rfl, -, h1⟩ := brs_open hx
  have H1 := Lib.hid h1; have HK := Lib.hid hk2
  have hn : ¬ (k + (x.block.bytes.length : Int) < 0) := by omega
  clear hx h1 hk2
  go_enter Tryz.func21, Tryz.ntmps21
  go_wp2_with fail
  have g0 : Chg [] w (w.alloc (.cells #[.int .i64 x.code, .int .i64 (mvB1 k x.block).stamp, .slice a l c] 34)) := (Chg.refl [] w).alloc _
  refine (heldBlock_any x.block #[.int .i64 (mvB1 k x.block).stamp, .slice a l c] fx k _ (blkL.ext H1.out g0) hk HK.out).mono ?_
  rintro e w1 ⟨rfl, hc1⟩
  have HC1 := Lib.hid (g0.trans0 hc1)
  clear hc1 g0
  go_wp2_with fail
  go_ret
  exact ⟨rfl, HC1.out⟩
end Go.Proofs.YtnnhopcjlnnchaaGreat

/- Raw writes: both sides. -/
namespace Go.Proofs.YtnnhopcjlnnchaaGreat
open Go.RowKit

theorem infoWd2 : (Tryz.prog.info? 40).map (fun i => i.size) = some 15 := by kernel_rfl
set_option maxHeartbeats 2000000 in
theorem raw_fail (m : Nat) (F : Value) {u0 u1 u2 u3 u4 u5 u6 u7 u8 u9 u10 u11 u14 : Value} {wr st : Int} (w : World) (h : w.heap[m]? = some (.cells #[u0, u1, u2, u3, u4, u5, u6, u7, u8, u9, u10, u11, .int .i64 wr, .int .i64 st, u14] 40 (0, 0))) (h1 : st ≠ -1) (h2 : st ≤ wr) :
    Calls Tryz.prog 135 #[.pointer (some ⟨m, 0, none⟩), F] w fun e w' => e = .returned (.bool false) ∧ w'.heap[m]? = some (.cells #[u0, u1, u2, u3, u4, u5, u6, u7, u8, u9, .slice none 0 0, u11, .int .i64 wr, .int .i64 st, .bool true] 40 (0, 0)) ∧ Chg [m] w w' := by
  have hne : ((st : Int) != -1) = true := by simpa using h1
  have HM := Lib.hid h
  clear h
  go_enter Tryz.func135, Tryz.ntmps135
  go_wp2_with fail
  obtain ⟨SS1, HSI1, HSO1⟩ := rg_cond (fun w' => Know m #[u0, u1, u2, u3, u4, u5, u6, u7, u8, u9, u10, u11, .int .i64 wr, .int .i64 st, u14] w')
  have hS0 := HSI1.out _ (Know.of (keep_drew HM.out))
  refine rg_start SS1 (by kernel_rfl) hS0 ?_
  refine rgT 0 hS0 ?_
  refine rgT 1 hS0 ?_
  refine rgT 2 hS0 ?_
  refine rgL 3 hS0 HSO1 ?_
  refine rgT 4 hS0 ?_
  refine rgT 5 hS0 ?_
  refine rgT 6 hS0 ?_
  refine rgT 7 hS0 ?_
  refine rgT 8 hS0 ?_
  refine rgL 9 hS0 HSO1 ?_
  refine rgT 10 hS0 ?_
  refine rgT 11 hS0 ?_
  refine rgT 12 hS0 ?_
  refine rgL 13 hS0 HSO1 ?_
  refine rgT 14 hS0 ?_
  refine rgT 15 hS0 ?_
  refine wpAnyH_done (by kernel_rfl) ?_ _
  go_wp2_with fail
  refine (cut_any m _ (keep_drew HM.out)).mono ?_
  rintro e w' ⟨rfl, hm, hc⟩
  have HN := Lib.hid (And.intro hm hc)
  clear hm hc
  go_wp2_with fail
  go_ret
  exact ⟨rfl, HN.out.1, ((Chg.refl [m] w).drew).trans HN.out.2 (fun y hy => .inl hy)⟩
set_option maxHeartbeats 2000000 in
theorem trust_c (m n0 n1 n2 b off b2 off2 tg td m10 d10 l C : Nat) {u0 u1 u2 u3 u4 u5 u6 u7 u8 u10 u11 u14 : Value} {wr st : Int} {v : Value} {E0 E1 E2 : TypeId} (w : World) (h0 : w.heap[n0]? = some (.cells #[.pointer (some ⟨m, 0, none⟩)] E0 (0, 0))) (h1 : w.heap[n1]? = some (.cells #[.int .i64 tg] E1 (0, 0))) (h2 : w.heap[n2]? = some (.cells #[.int .i64 td] E2 (0, 0)))
    (h : w.heap[m]? = some (.cells #[u0, u1, u2, u3, u4, u5, u6, u7, u8, .slice (some ⟨b, off, none⟩) m10 d10, u10, u11, .int .i64 wr, .int .i64 st, u14] 40 (0, 0))) (hc : w.cell? ⟨b, off + tg, none⟩ = some (.slice (some ⟨b2, off2, none⟩) l C)) (htg : tg < m10) (htd : td < l) (hv : w.cell? ⟨b2, off2 + td * 2, none⟩ = some v) (hfz : ∀ j, w.frozen? ⟨b2, j, none⟩ = false) :
    Calls Tryz.prog 136 #[.pointer (some ⟨n0, 0, none⟩), .pointer (some ⟨n1, 0, none⟩), .pointer (some ⟨n2, 0, none⟩)] w fun e w' => e = .returned (.tuple #[]) ∧ w' = w.drew.setCell ⟨b2, off2 + td * 2, none⟩ (.bool false) := by
  have H0 := Lib.hid h0; have H1 := Lib.hid h1; have H2 := Lib.hid h2; have HM := Lib.hid h; have HC := Lib.hid hc
  clear h0 h1 h2 h
  go_enter Tryz.func136, Tryz.ntmps136
  go_wp2_with fail
  obtain ⟨CC, HCI, HCO⟩ := rg_cond (fun w' => Know n0 #[.pointer (some ⟨m, 0, none⟩)] w' ∧ Know n1 #[.int .i64 tg] w' ∧ Know n2 #[.int .i64 td] w' ∧ Know m #[u0, u1, u2, u3, u4, u5, u6, u7, u8, .slice (some ⟨b, off, none⟩) m10 d10, u10, u11, .int .i64 wr, .int .i64 st, u14] w' ∧ w'.cell? ⟨b, off + tg, none⟩ = some (.slice (some ⟨b2, off2, none⟩) l C))
  refine gg_start [10] CC (by kernel_rfl) (HCI.out _ ⟨(Know.of (keep_drew H0.out)), (Know.of (keep_drew H1.out)), (Know.of (keep_drew H2.out)), (Know.of (keep_drew HM.out)), HC.out⟩) (fun hcl hS => ?_)
  refine ggL 0 hcl hS HCO ?_; clear hcl hS; intro hcl hS
  refine ggT 1 hcl hS ?_; clear hcl hS; intro hcl hS
  refine ggT 2 hcl hS ?_; clear hcl hS; intro hcl hS
  refine ggL 3 hcl hS HCO ?_; clear hcl hS; intro hcl hS
  refine ggL 4 hcl hS HCO ?_; clear hcl hS; intro hcl hS
  refine ggT 5 hcl hS ?_; clear hcl hS; intro hcl hS
  refine ggL 6 hcl hS HCO ?_; clear hcl hS; intro hcl hS
  refine ggL 7 hcl hS HCO ?_; clear hcl hS; intro hcl hS
  refine ggT 8 hcl hS ?_; clear hcl hS; intro hcl hS
  refine ggT 9 hcl hS ?_; clear hcl hS; intro hcl hS
  refine ggC 10 hcl rfl (by kernel_rfl) (fun K hK => ?_)
  go_simp
  refine hK.out _ _ (Till.done (m := 10) (by simp) (by rfl)) ?_
  clear hK K hcl hS
  intro hcl hS
  try simp only [Act.put, List.setIfInBounds_toArray, List.set_cons_zero, List.set_cons_succ]
  refine ggEnd (by kernel_rfl) ?_ _
  go_wp2_with fail
  refine bodyPost_end (v := .tuple #[]) (by simp [results, Tryz.results136, go_sem]) rfl ⟨rfl, rfl⟩

set_option maxHeartbeats 2000000 in
theorem raw_ok1 (m : Nat) (c0 c1 c2 : Value) {u0 u1 u2 u3 u4 u5 u6 u7 u8 u9 u10 u11 u14 : Value} {wr st : Int} (w W1 : World) (h : w.heap[m]? = some (.cells #[u0, u1, u2, u3, u4, u5, u6, u7, u8, u9, u10, u11, .int .i64 wr, .int .i64 st, u14] 40 (0, 0))) (h1 : st = -1) (hw : 0 ≤ wr ∧ wr ≤ 1000000000)
    (hF : Calls Tryz.prog 136 #[c0, c1, c2] w.drew fun e w' => e = .returned (.tuple #[]) ∧ w' = W1) (hm1 : W1.heap[m]? = some (.cells #[u0, u1, u2, u3, u4, u5, u6, u7, u8, u9, u10, u11, .int .i64 wr, .int .i64 st, u14] 40 (0, 0))) :
    Calls Tryz.prog 135 #[.pointer (some ⟨m, 0, none⟩), .func (.func 136) #[] #[c0, c1, c2]] w fun e w' => e = .returned (.bool true) ∧ w' = W1.setCell ⟨m, 12, none⟩ (.int .i64 (wr + 1)) := by
  have hne : ((st : Int) != -1) = false := by simp [h1]
  have HM := Lib.hid h; have HM1 := Lib.hid hm1; have HFF := Lib.hid hF
  have H1 := Lib.hid h1
  clear h hm1 hF h1
  go_enter Tryz.func135, Tryz.ntmps135
  go_wp2_with fail
  obtain ⟨SS1, HSI1, HSO1⟩ := rg_cond (fun w' => Know m #[u0, u1, u2, u3, u4, u5, u6, u7, u8, u9, u10, u11, .int .i64 wr, .int .i64 st, u14] w')
  have hS0 := HSI1.out _ (Know.of (keep_drew HM.out))
  refine rg_start SS1 (by kernel_rfl) hS0 ?_
  refine rgT 0 hS0 ?_
  refine rgT 1 hS0 ?_
  refine rgT 2 hS0 ?_
  refine rgL 3 hS0 HSO1 ?_
  refine rgT 4 hS0 ?_
  refine rgT 5 hS0 ?_
  refine rgS 6 hS0 ?_
  refine rgS 7 hS0 ?_
  refine rgS 8 hS0 ?_
  refine rgS 9 hS0 ?_
  refine rgS 10 hS0 ?_
  refine rgS 11 hS0 ?_
  refine rgS 12 hS0 ?_
  refine rgS 13 hS0 ?_
  refine rgS 14 hS0 ?_
  refine rgT 15 hS0 ?_
  refine wpAnyH_done (by kernel_rfl) ?_ _
  go_wp2_with fail
  refine HFF.out.mono ?_
  rintro e w' ⟨rfl, rfl⟩
  have cm := cellsOf HM1.out; have nm := ltOf HM1.out; have fm := freeOf HM1.out
  go_wp2_with fail
  go_ret
  exact ⟨rfl, rfl⟩

set_option maxHeartbeats 2000000 in
theorem raw_ok2 (m : Nat) (c0 c1 c2 : Value) {u0 u1 u2 u3 u4 u5 u6 u7 u8 u9 u10 u11 u14 : Value} {wr st : Int} (w W1 : World) (h : w.heap[m]? = some (.cells #[u0, u1, u2, u3, u4, u5, u6, u7, u8, u9, u10, u11, .int .i64 wr, .int .i64 st, u14] 40 (0, 0))) (h1 : st ≠ -1 ∧ wr < st) (hw : 0 ≤ wr ∧ wr ≤ 1000000000)
    (hF : Calls Tryz.prog 136 #[c0, c1, c2] w.drew fun e w' => e = .returned (.tuple #[]) ∧ w' = W1) (hm1 : W1.heap[m]? = some (.cells #[u0, u1, u2, u3, u4, u5, u6, u7, u8, u9, u10, u11, .int .i64 wr, .int .i64 st, u14] 40 (0, 0))) :
    Calls Tryz.prog 135 #[.pointer (some ⟨m, 0, none⟩), .func (.func 136) #[] #[c0, c1, c2]] w fun e w' => e = .returned (.bool true) ∧ w' = W1.setCell ⟨m, 12, none⟩ (.int .i64 (wr + 1)) := by
  have hne : ((st : Int) != -1) = true := by simpa using h1.1
  have hlt : ¬ st ≤ wr := by omega
  have HM := Lib.hid h; have HM1 := Lib.hid hm1; have HFF := Lib.hid hF
  have H1 := Lib.hid h1
  clear h hm1 hF h1
  go_enter Tryz.func135, Tryz.ntmps135
  go_wp2_with fail
  obtain ⟨SS1, HSI1, HSO1⟩ := rg_cond (fun w' => Know m #[u0, u1, u2, u3, u4, u5, u6, u7, u8, u9, u10, u11, .int .i64 wr, .int .i64 st, u14] w')
  have hS0 := HSI1.out _ (Know.of (keep_drew HM.out))
  refine rg_start SS1 (by kernel_rfl) hS0 ?_
  refine rgT 0 hS0 ?_
  refine rgT 1 hS0 ?_
  refine rgT 2 hS0 ?_
  refine rgL 3 hS0 HSO1 ?_
  refine rgT 4 hS0 ?_
  refine rgT 5 hS0 ?_
  refine rgT 6 hS0 ?_
  refine rgT 7 hS0 ?_
  refine rgT 8 hS0 ?_
  refine rgL 9 hS0 HSO1 ?_
  refine rgT 10 hS0 ?_
  refine rgT 11 hS0 ?_
  refine rgT 12 hS0 ?_
  refine rgL 13 hS0 HSO1 ?_
  refine rgT 14 hS0 ?_
  refine rgT 15 hS0 ?_
  refine wpAnyH_done (by kernel_rfl) ?_ _
  go_wp2_with fail
  refine HFF.out.mono ?_
  rintro e w' ⟨rfl, rfl⟩
  have cm := cellsOf HM1.out; have nm := ltOf HM1.out; have fm := freeOf HM1.out
  go_wp2_with fail
  go_ret
  exact ⟨rfl, rfl⟩
end Go.Proofs.YtnnhopcjlnnchaaGreat

/- Raw writes: trust, wrote, l5Raw. -/
namespace Go.Proofs.YtnnhopcjlnnchaaGreat
open Go.RowKit

set_option maxHeartbeats 2000000 in
theorem trust_fail (m : Nat) (tg td : Int) {u0 u1 u2 u3 u4 u5 u6 u7 u8 u9 u10 u11 u14 : Value} {wr st : Int} (w : World) (h : w.heap[m]? = some (.cells #[u0, u1, u2, u3, u4, u5, u6, u7, u8, u9, u10, u11, .int .i64 wr, .int .i64 st, u14] 40 (0, 0))) (h1 : st ≠ -1) (h2 : st ≤ wr) :
    Calls Tryz.prog 93 #[.pointer (some ⟨m, 0, none⟩), .int .i64 tg, .int .i64 td] w fun e w' => e = .returned (.bool false) ∧ w'.heap[m]? = some (.cells #[u0, u1, u2, u3, u4, u5, u6, u7, u8, u9, .slice none 0 0, u11, .int .i64 wr, .int .i64 st, .bool true] 40 (0, 0)) ∧ Chg [m] w w' := by
  have HM := Lib.hid h
  clear h
  go_enter Tryz.func93, Tryz.ntmps93
  go_wp2_with fail
  refine (raw_fail m _ _ (keep_alloc (keep_alloc (keep_alloc HM.out _) _) _) h1 h2).mono ?_
  rintro e w' ⟨rfl, hm, hc⟩
  have HN := Lib.hid (And.intro hm ((((((Chg.refl [m] w).alloc _).alloc _).alloc _)).trans hc (fun y hy => .inl hy)))
  clear hm hc
  go_wp2_with fail
  go_ret
  exact ⟨rfl, HN.out.1, HN.out.2⟩
set_option maxHeartbeats 4000000 in
theorem trust_ok (m b off b2 off2 tg td m10 d10 l C : Nat) {u0 u1 u2 u3 u4 u5 u6 u7 u8 u10 u11 u14 : Value} {wr st : Int} {v : Value} (w : World) (h : w.heap[m]? = some (.cells #[u0, u1, u2, u3, u4, u5, u6, u7, u8, .slice (some ⟨b, off, none⟩) m10 d10, u10, u11, .int .i64 wr, .int .i64 st, u14] 40 (0, 0))) (h1 : st = -1 ∨ st ≠ -1 ∧ wr < st) (hw : 0 ≤ wr ∧ wr ≤ 1000000000)
    (hc : w.cell? ⟨b, off + tg, none⟩ = some (.slice (some ⟨b2, off2, none⟩) l C)) (htg : tg < m10) (htd : td < l) (hb : b < w.heap.size) (hv : w.cell? ⟨b2, off2 + td * 2, none⟩ = some v) (hlo : Loose w b2) (hbm : b2 ≠ m) :
    Calls Tryz.prog 93 #[.pointer (some ⟨m, 0, none⟩), .int .i64 tg, .int .i64 td] w fun e w' => e = .returned (.bool true) ∧ ∃ wz, Chg [] w wz ∧ w' = (wz.setCell ⟨b2, off2 + td * 2, none⟩ (.bool false)).setCell ⟨m, 12, none⟩ (.int .i64 (wr + 1)) := by
  have G0 := Lib.hid (show Chg [] w (((w.alloc (.cells #[.pointer (some ⟨m, 0, none⟩)] 106)).alloc (.cells #[.int .i64 tg] 2)).alloc (.cells #[.int .i64 td] 2)) from (((Chg.refl [] w).alloc _).alloc _).alloc _)
  have B0 := Lib.hid (show (((w.alloc (.cells #[.pointer (some ⟨m, 0, none⟩)] 106)).alloc (.cells #[.int .i64 tg] 2)).alloc (.cells #[.int .i64 td] 2)).heap[w.heap.size]? = some (.cells #[.pointer (some ⟨m, 0, none⟩)] 106 (0, 0)) from keep_alloc (keep_alloc (new_alloc w _) _) _)
  have B1 := Lib.hid (show (((w.alloc (.cells #[.pointer (some ⟨m, 0, none⟩)] 106)).alloc (.cells #[.int .i64 tg] 2)).alloc (.cells #[.int .i64 td] 2)).heap[w.heap.size + 1]? = some (.cells #[.int .i64 tg] 2 (0, 0)) from keep_alloc (new_at (by simp) _) _)
  have B2 := Lib.hid (show (((w.alloc (.cells #[.pointer (some ⟨m, 0, none⟩)] 106)).alloc (.cells #[.int .i64 tg] 2)).alloc (.cells #[.int .i64 td] 2)).heap[w.heap.size + 2]? = some (.cells #[.int .i64 td] 2 (0, 0)) from new_at (by simp) _)
  have HM := Lib.hid (show (((w.alloc (.cells #[.pointer (some ⟨m, 0, none⟩)] 106)).alloc (.cells #[.int .i64 tg] 2)).alloc (.cells #[.int .i64 td] 2)).heap[m]? = some (.cells #[u0, u1, u2, u3, u4, u5, u6, u7, u8, .slice (some ⟨b, off, none⟩) m10 d10, u10, u11, .int .i64 wr, .int .i64 st, u14] 40 (0, 0)) from keep_alloc (keep_alloc (keep_alloc h _) _) _)
  have HF := Lib.hid (trust_c m w.heap.size (w.heap.size + 1) (w.heap.size + 2) b off b2 off2 tg td m10 d10 l C (((w.alloc (.cells #[.pointer (some ⟨m, 0, none⟩)] 106)).alloc (.cells #[.int .i64 tg] 2)).alloc (.cells #[.int .i64 td] 2)).drew (keep_drew B0.out) (keep_drew B1.out) (keep_drew B2.out) (keep_drew HM.out) (cellKeep (G0.out.drew) hc hb) htg htd (cellKeep (G0.out.drew) hv hlo.lt) (G0.out.drew.loose b2 hlo).free)
  have H1 := Lib.hid (keep_set (keep_drew (keep_drew HM.out)) ⟨b2, off2 + td * 2, none⟩ (.bool false) (fun e => hbm e.symm))
  clear h hc hv hlo
  go_enter Tryz.func93, Tryz.ntmps93
  go_wp2_with fail
  rcases h1 with h1 | h1
  · refine (raw_ok1 m _ _ _ _ _ HM.out h1 hw HF.out H1.out).mono ?_
    rintro e w' ⟨rfl, rfl⟩
    go_wp2_with fail
    go_ret
    exact ⟨rfl, _, G0.out.drew.drew, rfl⟩
  · refine (raw_ok2 m _ _ _ _ _ HM.out h1 hw HF.out H1.out).mono ?_
    rintro e w' ⟨rfl, rfl⟩
    go_wp2_with fail
    go_ret
    exact ⟨rfl, _, G0.out.drew.drew, rfl⟩

set_option maxHeartbeats 2000000 in
theorem wrote_false (s0 s1 s2 s3 s4 s5 s6 s7 s8 wr st : Int) (a10 a11 a12 : Option Addr) (l10 c10 l11 c11 l12 c12 : Nat) (dn : Bool) (w : World) :
    Calls Tryz.prog 94 #[.agg #[.int .i64 s0, .int .i64 s1, .int .i64 s2, .int .i64 s3, .int .i64 s4, .int .i64 s5, .int .i64 s6, .int .i64 s7, .int .i64 s8, .slice a10 l10 c10, .slice a11 l11 c11, .slice a12 l12 c12, .int .i64 wr, .int .i64 st, .bool dn], .bool false] w fun e w' => e = .returned (.agg #[.int .i64 9, .int .i64 s0, .int .i64 s1, .int .i64 s2, .int .i64 s3, .int .i64 s4, .int .i64 s5, .int .i64 s6, .int .i64 s7, .int .i64 s8, .slice a10 l10 c10, .slice a11 l11 c11, .slice a12 l12 c12, .int .i64 wr, .int .i64 st, .bool dn]) ∧ Chg [] w w' := by
  have B0 := Lib.hid (show ((w.alloc (.cells #[.int .i64 s0, .int .i64 s1, .int .i64 s2, .int .i64 s3, .int .i64 s4, .int .i64 s5, .int .i64 s6, .int .i64 s7, .int .i64 s8, .slice a10 l10 c10, .slice a11 l11 c11, .slice a12 l12 c12, .int .i64 wr, .int .i64 st, .bool dn] 40)).alloc (.cells #[.int .i64 0, .int .i64 0, .int .i64 0, .int .i64 0, .int .i64 0, .int .i64 0, .int .i64 0, .int .i64 0, .int .i64 0, .int .i64 0, .slice none 0 0, .slice none 0 0, .slice none 0 0, .int .i64 0, .int .i64 0, .bool false] 48)).heap[w.heap.size]? = some (.cells #[.int .i64 s0, .int .i64 s1, .int .i64 s2, .int .i64 s3, .int .i64 s4, .int .i64 s5, .int .i64 s6, .int .i64 s7, .int .i64 s8, .slice a10 l10 c10, .slice a11 l11 c11, .slice a12 l12 c12, .int .i64 wr, .int .i64 st, .bool dn] 40 (0, 0)) from keep_alloc (new_alloc w _) _)
  have B1 := Lib.hid (show ((w.alloc (.cells #[.int .i64 s0, .int .i64 s1, .int .i64 s2, .int .i64 s3, .int .i64 s4, .int .i64 s5, .int .i64 s6, .int .i64 s7, .int .i64 s8, .slice a10 l10 c10, .slice a11 l11 c11, .slice a12 l12 c12, .int .i64 wr, .int .i64 st, .bool dn] 40)).alloc (.cells #[.int .i64 0, .int .i64 0, .int .i64 0, .int .i64 0, .int .i64 0, .int .i64 0, .int .i64 0, .int .i64 0, .int .i64 0, .int .i64 0, .slice none 0 0, .slice none 0 0, .slice none 0 0, .int .i64 0, .int .i64 0, .bool false] 48)).heap[w.heap.size + 1]? = some (.cells #[.int .i64 0, .int .i64 0, .int .i64 0, .int .i64 0, .int .i64 0, .int .i64 0, .int .i64 0, .int .i64 0, .int .i64 0, .int .i64 0, .slice none 0 0, .slice none 0 0, .slice none 0 0, .int .i64 0, .int .i64 0, .bool false] 48 (0, 0)) from new_at (by simp) _)
  go_enter Tryz.func94, Tryz.ntmps94
  go_wp2_with (first | (refine load_wide rfl _ 40 rfl rfl infoWd Tryz.underlying40 B0.out rfl ?_) | (refine store_wide rfl _ _ 48 rfl rfl rfl infoWR B1.out rfl rfl rfl ?_; intro w9 hb9 hc9; have HB9 := Lib.hid hb9; have HC9 := Lib.hid hc9; clear hb9 hc9))
  refine bodyPost_ret (v := .agg #[.int .i64 9, .int .i64 s0, .int .i64 s1, .int .i64 s2, .int .i64 s3, .int .i64 s4, .int .i64 s5, .int .i64 s6, .int .i64 s7, .int .i64 s8, .slice a10 l10 c10, .slice a11 l11 c11, .slice a12 l12 c12, .int .i64 wr, .int .i64 st, .bool dn]) (results_wide _ _ Tryz.results94 rfl infoWR Tryz.underlying48 HB9.out rfl) rfl ⟨rfl, ?_⟩
  exact (((Chg.refl [] w).alloc _).alloc _).trans HC9.out (fun y hy => .inr (by rw [List.mem_singleton] at hy; omega))

set_option maxHeartbeats 2000000 in
theorem wrote_true (s0 s1 s2 s3 s4 s5 s6 s7 s8 wr st : Int) (a10 a11 a12 : Option Addr) (l10 c10 l11 c11 l12 c12 : Nat) (dn : Bool) (w : World) :
    Calls Tryz.prog 94 #[.agg #[.int .i64 s0, .int .i64 s1, .int .i64 s2, .int .i64 s3, .int .i64 s4, .int .i64 s5, .int .i64 s6, .int .i64 s7, .int .i64 s8, .slice a10 l10 c10, .slice a11 l11 c11, .slice a12 l12 c12, .int .i64 wr, .int .i64 st, .bool dn], .bool true] w fun e w' => e = .returned (.agg #[.int .i64 0, .int .i64 s0, .int .i64 s1, .int .i64 s2, .int .i64 s3, .int .i64 s4, .int .i64 s5, .int .i64 s6, .int .i64 s7, .int .i64 s8, .slice a10 l10 c10, .slice a11 l11 c11, .slice a12 l12 c12, .int .i64 wr, .int .i64 st, .bool dn]) ∧ Chg [] w w' := by
  have B0 := Lib.hid (show ((w.alloc (.cells #[.int .i64 s0, .int .i64 s1, .int .i64 s2, .int .i64 s3, .int .i64 s4, .int .i64 s5, .int .i64 s6, .int .i64 s7, .int .i64 s8, .slice a10 l10 c10, .slice a11 l11 c11, .slice a12 l12 c12, .int .i64 wr, .int .i64 st, .bool dn] 40)).alloc (.cells #[.int .i64 0, .int .i64 0, .int .i64 0, .int .i64 0, .int .i64 0, .int .i64 0, .int .i64 0, .int .i64 0, .int .i64 0, .int .i64 0, .slice none 0 0, .slice none 0 0, .slice none 0 0, .int .i64 0, .int .i64 0, .bool false] 48)).heap[w.heap.size]? = some (.cells #[.int .i64 s0, .int .i64 s1, .int .i64 s2, .int .i64 s3, .int .i64 s4, .int .i64 s5, .int .i64 s6, .int .i64 s7, .int .i64 s8, .slice a10 l10 c10, .slice a11 l11 c11, .slice a12 l12 c12, .int .i64 wr, .int .i64 st, .bool dn] 40 (0, 0)) from keep_alloc (new_alloc w _) _)
  have B1 := Lib.hid (show ((w.alloc (.cells #[.int .i64 s0, .int .i64 s1, .int .i64 s2, .int .i64 s3, .int .i64 s4, .int .i64 s5, .int .i64 s6, .int .i64 s7, .int .i64 s8, .slice a10 l10 c10, .slice a11 l11 c11, .slice a12 l12 c12, .int .i64 wr, .int .i64 st, .bool dn] 40)).alloc (.cells #[.int .i64 0, .int .i64 0, .int .i64 0, .int .i64 0, .int .i64 0, .int .i64 0, .int .i64 0, .int .i64 0, .int .i64 0, .int .i64 0, .slice none 0 0, .slice none 0 0, .slice none 0 0, .int .i64 0, .int .i64 0, .bool false] 48)).heap[w.heap.size + 1]? = some (.cells #[.int .i64 0, .int .i64 0, .int .i64 0, .int .i64 0, .int .i64 0, .int .i64 0, .int .i64 0, .int .i64 0, .int .i64 0, .int .i64 0, .slice none 0 0, .slice none 0 0, .slice none 0 0, .int .i64 0, .int .i64 0, .bool false] 48 (0, 0)) from new_at (by simp) _)
  go_enter Tryz.func94, Tryz.ntmps94
  go_wp2_with (first | (refine load_wide rfl _ 40 rfl rfl infoWd Tryz.underlying40 B0.out rfl ?_) | (refine store_wide rfl _ _ 48 rfl rfl rfl infoWR B1.out rfl rfl rfl ?_; intro w9 hb9 hc9; have HB9 := Lib.hid hb9; have HC9 := Lib.hid hc9; clear hb9 hc9))
  refine bodyPost_ret (v := .agg #[.int .i64 0, .int .i64 s0, .int .i64 s1, .int .i64 s2, .int .i64 s3, .int .i64 s4, .int .i64 s5, .int .i64 s6, .int .i64 s7, .int .i64 s8, .slice a10 l10 c10, .slice a11 l11 c11, .slice a12 l12 c12, .int .i64 wr, .int .i64 st, .bool dn]) (results_wide _ _ Tryz.results94 rfl infoWR Tryz.underlying48 HB9.out rfl) rfl ⟨rfl, ?_⟩
  exact (((Chg.refl [] w).alloc _).alloc _).trans HC9.out (fun y hy => .inr (by rw [List.mem_singleton] at hy; omega))

set_option maxHeartbeats 2000000 in
theorem l5Raw_fail (m : Nat) {u0 u1 u2 u3 u4 u5 u6 u7 u8 u9 u10 u11 : Value} {wr st : Int} (w : World) (h : w.heap[m]? = some (.cells #[u0, u1, u2, u3, u4, u5, u6, u7, u8, u9, u10, u11, .int .i64 wr, .int .i64 st, .bool false] 40 (0, 0))) (h1 : st ≠ -1 ∧ st ≤ wr) :
    Calls Tryz.prog 92 #[.pointer (some ⟨m, 0, none⟩)] w fun e w' => e = .returned (.bool false) ∧ w'.heap[m]? = some (.cells #[u0, u1, u2, u3, u4, u5, u6, u7, u8, u9, .slice none 0 0, u11, .int .i64 wr, .int .i64 st, .bool true] 40 (0, 0)) ∧ Chg [m] w w' := by
  have hne : ((st : Int) != -1) = true := by simpa using h1.1
  have hle := h1.2
  have HM := Lib.hid h; have H1 := Lib.hid h1
  have cm := cellsOf h; have nm := ltOf h; have fm := freeOf h
  clear h h1
  go_enter Tryz.func92, Tryz.ntmps92
  go_wp2_with fail
  obtain ⟨SS1, HSI1, HSO1⟩ := rg_cond (fun w' => Know m #[u0, u1, u2, u3, u4, u5, u6, u7, u8, u9, u10, u11, .int .i64 wr, .int .i64 st, .bool false] w')
  have hS0 := HSI1.out _ (Know.of (keep_drew HM.out))
  refine rg_start SS1 (by kernel_rfl) hS0 ?_
  refine rgT 0 hS0 ?_
  refine rgT 1 hS0 ?_
  refine rgT 2 hS0 ?_
  refine rgL 3 hS0 HSO1 ?_
  refine rgT 4 hS0 ?_
  refine rgT 5 hS0 ?_
  refine rgT 6 hS0 ?_
  refine rgT 7 hS0 ?_
  refine rgT 8 hS0 ?_
  refine rgL 9 hS0 HSO1 ?_
  refine rgT 10 hS0 ?_
  refine rgT 11 hS0 ?_
  refine rgT 12 hS0 ?_
  refine rgL 13 hS0 HSO1 ?_
  refine rgT 14 hS0 ?_
  refine rgT 15 hS0 ?_
  refine wpAnyH_done (by kernel_rfl) ?_ _
  go_wp2_with fail
  go_ret
  exact ⟨rfl, heap_set_lit (heap_set_lit (keep_drew HM.out) rfl) rfl, (((Chg.refl [m] w).drew).setCell _ _ (.inl (by simp))).setCell _ _ (.inl (by simp))⟩

set_option maxHeartbeats 2000000 in
theorem l5Raw_ok1 (m : Nat) {u0 u1 u2 u3 u4 u5 u6 u7 u8 u9 u10 u11 : Value} {wr st : Int} (w : World) (h : w.heap[m]? = some (.cells #[u0, u1, u2, u3, u4, u5, u6, u7, u8, u9, u10, u11, .int .i64 wr, .int .i64 st, .bool false] 40 (0, 0))) (h1 : st = -1) (hw : 0 ≤ wr ∧ wr ≤ 1000000000) :
    Calls Tryz.prog 92 #[.pointer (some ⟨m, 0, none⟩)] w fun e w' => e = .returned (.bool true) ∧ w' = w.drew.setCell ⟨m, 12, none⟩ (.int .i64 (wr + 1)) := by
  have hne : ((st : Int) != -1) = false := by simp [h1]
  have HM := Lib.hid h; have H1 := Lib.hid h1
  have cm := cellsOf h; have nm := ltOf h; have fm := freeOf h
  clear h h1
  go_enter Tryz.func92, Tryz.ntmps92
  go_wp2_with fail
  obtain ⟨SS1, HSI1, HSO1⟩ := rg_cond (fun w' => Know m #[u0, u1, u2, u3, u4, u5, u6, u7, u8, u9, u10, u11, .int .i64 wr, .int .i64 st, .bool false] w')
  have hS0 := HSI1.out _ (Know.of (keep_drew HM.out))
  refine rg_start SS1 (by kernel_rfl) hS0 ?_
  refine rgT 0 hS0 ?_
  refine rgT 1 hS0 ?_
  refine rgT 2 hS0 ?_
  refine rgL 3 hS0 HSO1 ?_
  refine rgT 4 hS0 ?_
  refine rgT 5 hS0 ?_
  refine rgS 6 hS0 ?_
  refine rgS 7 hS0 ?_
  refine rgS 8 hS0 ?_
  refine rgS 9 hS0 ?_
  refine rgS 10 hS0 ?_
  refine rgS 11 hS0 ?_
  refine rgS 12 hS0 ?_
  refine rgS 13 hS0 ?_
  refine rgS 14 hS0 ?_
  refine rgT 15 hS0 ?_
  refine wpAnyH_done (by kernel_rfl) ?_ _
  go_wp2_with fail
  go_ret
  exact ⟨rfl, rfl⟩

set_option maxHeartbeats 2000000 in
theorem l5Raw_ok2 (m : Nat) {u0 u1 u2 u3 u4 u5 u6 u7 u8 u9 u10 u11 : Value} {wr st : Int} (w : World) (h : w.heap[m]? = some (.cells #[u0, u1, u2, u3, u4, u5, u6, u7, u8, u9, u10, u11, .int .i64 wr, .int .i64 st, .bool false] 40 (0, 0))) (h1 : st ≠ -1 ∧ wr < st) (hw : 0 ≤ wr ∧ wr ≤ 1000000000) :
    Calls Tryz.prog 92 #[.pointer (some ⟨m, 0, none⟩)] w fun e w' => e = .returned (.bool true) ∧ w' = w.drew.setCell ⟨m, 12, none⟩ (.int .i64 (wr + 1)) := by
  have hne : ((st : Int) != -1) = true := by simpa using h1.1
  have hlt : ¬ st ≤ wr := by omega
  have HM := Lib.hid h; have H1 := Lib.hid h1
  have cm := cellsOf h; have nm := ltOf h; have fm := freeOf h
  clear h h1
  go_enter Tryz.func92, Tryz.ntmps92
  go_wp2_with fail
  obtain ⟨SS1, HSI1, HSO1⟩ := rg_cond (fun w' => Know m #[u0, u1, u2, u3, u4, u5, u6, u7, u8, u9, u10, u11, .int .i64 wr, .int .i64 st, .bool false] w')
  have hS0 := HSI1.out _ (Know.of (keep_drew HM.out))
  refine rg_start SS1 (by kernel_rfl) hS0 ?_
  refine rgT 0 hS0 ?_
  refine rgT 1 hS0 ?_
  refine rgT 2 hS0 ?_
  refine rgL 3 hS0 HSO1 ?_
  refine rgT 4 hS0 ?_
  refine rgT 5 hS0 ?_
  refine rgT 6 hS0 ?_
  refine rgT 7 hS0 ?_
  refine rgT 8 hS0 ?_
  refine rgL 9 hS0 HSO1 ?_
  refine rgT 10 hS0 ?_
  refine rgT 11 hS0 ?_
  refine rgT 12 hS0 ?_
  refine rgL 13 hS0 HSO1 ?_
  refine rgT 14 hS0 ?_
  refine rgT 15 hS0 ?_
  refine wpAnyH_done (by kernel_rfl) ?_ _
  go_wp2_with fail
  go_ret
  exact ⟨rfl, rfl⟩
end Go.Proofs.YtnnhopcjlnnchaaGreat

/- TrustDrive: both sides. -/
namespace Go.Proofs.YtnnhopcjlnnchaaGreat
open Go.RowKit

theorem up_parts {x : Wld} (h : x.up = 0) : x.fault = 0 ∧ x.down = false ∧ x.built ∧ x.nums ∧ x.shape.ok := by
  have hf : x.fault = 0 := by
    unfold Wld.up at h
    split at h
    · assumption
    · exact h
  have hd : x.down = false := by
    unfold Wld.up at h
    rw [if_pos hf] at h
    cases hd : x.down
    · rfl
    · rw [if_pos hd] at h; omega
  refine ⟨hf, hd, Classical.byContradiction (fun hn => ?_), Classical.byContradiction (fun hn => ?_), rows_ok hf⟩
  · unfold Wld.fault at hf
    rw [pb_false (P := x.built ∧ x.onOk ∧ x.tapes.length = 2) (fun g => hn g.1)] at hf
    split at hf <;> simp at hf
  · unfold Wld.fault at hf
    rw [pb_false (P := x.nums) hn] at hf
    simp only [Bool.false_eq_true, if_false] at hf
    split at hf
    · split at hf
      · split at hf
        · omega
        · contradiction
      · omega
    · omega
theorem trustR_bad {x : Wld} {g d : Int} (h : ¬ x.up = 0) : trustR x g d = ⟨x.up, zWld⟩ := if_pos h
theorem trustR_out {x : Wld} {g d : Int} (h : x.up = 0) (h2 : ¬ ((0 ≤ g ∧ g ≤ x.shape.all - 1) ∧ (0 ≤ d ∧ d ≤ x.shape.drives - 1))) : trustR x g d = ⟨3, zWld⟩ := by unfold trustR; rw [if_neg (fun g => g h), if_pos (pb_false (P := x.isGroup g ∧ x.isDrive d) h2)]
theorem trustR_off {x : Wld} {g d : Int} (h : x.up = 0) (h2 : ((0 ≤ g ∧ g ≤ x.shape.all - 1) ∧ (0 ≤ d ∧ d ≤ x.shape.drives - 1))) (h3 : ¬ g ∈ x.on) : trustR x g d = ⟨8, zWld⟩ := by unfold trustR; rw [if_neg (fun g => g h), if_neg (by rw [pb_true (P := x.isGroup g ∧ x.isDrive d) h2]; simp), if_pos (pb_false h3)]
theorem trustR_fail {x : Wld} {g d : Int} (h : x.up = 0) (h2 : ((0 ≤ g ∧ g ≤ x.shape.all - 1) ∧ (0 ≤ d ∧ d ≤ x.shape.drives - 1))) (h3 : g ∈ x.on) (h4 : x.stop ≠ -1 ∧ x.stop ≤ x.writes) : trustR x g d = ⟨9, x.cut⟩ := by unfold trustR; rw [if_neg (fun g => g h), if_neg (by rw [pb_true (P := x.isGroup g ∧ x.isDrive d) h2]; simp), if_neg (by rw [pb_true h3]; simp)]; exact if_pos h4
theorem trustR_ok {x : Wld} {g d : Nat} {G : List Drv} {D : Drv} (h : x.up = 0) (h2 : (0 ≤ (g : Int) ∧ (g : Int) ≤ x.shape.all - 1) ∧ (0 ≤ (d : Int) ∧ (d : Int) ≤ x.shape.drives - 1)) (h3 : (g : Int) ∈ x.on) (h4 : ¬ (x.stop ≠ -1 ∧ x.stop ≤ x.writes)) (hG : x.groups[g]? = some G) (hD : G[d]? = some D) : trustR x g d = ⟨0, { x with groups := x.groups.set g (G.set d { D with wiped := false }), writes := x.writes + 1 }⟩ := by
  unfold trustR
  rw [if_neg (fun g => g h), if_neg (by rw [pb_true (P := x.isGroup g ∧ x.isDrive d) h2]; simp), if_neg (by rw [pb_true h3]; simp)]
  unfold Wld.raw
  rw [if_neg h4]
  have hG2 : x.groups.getD g [] = G := by rw [List.getD_eq_getElem?_getD, hG]; rfl
  have hD2 : G.getD d ⟨false, []⟩ = D := by rw [List.getD_eq_getElem?_getD, hD]; rfl
  show (⟨0, { x with groups := x.groups.set g ((x.groups.getD g []).set d { ((x.groups.getD g []).getD d ⟨false, []⟩) with wiped := false }), writes := x.writes + 1 }⟩ : WRes) = _
  rw [hG2, hD2]

/-- an element of a slice of slices may change -/
theorem slc_mod {α : Type} {M : Lay α} {w : World} {b off len cap : Nat} {xs : List (List α)} {fp : List Nat} (h : M.slice.sl w (some ⟨b, off, none⟩) len cap xs fp) (nd : fp.Nodup) {i : Nat} (hi : i < len) :
    ∃ x A l C f, xs[i]? = some x ∧ w.cell? ⟨b, off + i, none⟩ = some (.slice A l C) ∧ M.sl w A l C x f ∧ (∀ y ∈ f, y ∈ fp) ∧ f.Nodup ∧ b ∉ f ∧ b ∈ fp ∧
      ∀ w' x' f', M.sl w' A l C x' f' → f'.Nodup → (∀ y ∈ f', y ∈ f ∨ y ∉ fp) → (∀ y ∈ fp, y ∉ f → w'.heap[y]? = w.heap[y]?) →
        ∃ fp', M.slice.sl w' (some ⟨b, off, none⟩) len cap (xs.set i x') fp' ∧ fp'.Nodup ∧ ∀ y ∈ fp', (y ∈ fp ∧ y ∉ f) ∨ y ∈ f' := by
  obtain ⟨x, c, f, hx, hb, hc, ⟨A, l, C, rfl, hs⟩, hf, hfn, hbf, hup⟩ := M.slice.sl_modN h nd hi
  have h0 := hc 0 M.slice.pos
  rw [show off + i * M.slice.n + 0 = off + i by simp [Lay.slice]] at h0
  exact ⟨x, A, l, C, f, hx, h0, hs, hf, hfn, hbf, hb, fun w' x' f' h1 => hup w' x' f' ⟨A, l, C, rfl, h1⟩⟩

theorem cellKeep2 {S : List Nat} {w w' : World} (hc : Chg S w w') {b o : Nat} {v : Value} (h : w.cell? ⟨b, o, none⟩ = some v) (hb : b < w.heap.size) (hS : b ∉ S) : w'.cell? ⟨b, o, none⟩ = some v := by
  rw [cell_same (hc.block b hb hS)]; exact h

set_option maxRecDepth 100000 in
set_option maxHeartbeats 8000000 in
theorem impl_TrustDrive (x : Wld) (cx : Array Value) (fx : List Nat) (g : Int) (d : Int) (w : World) (hx : wldL.rep w cx.toList x fx) (hz : totWld x ≤ 1048576) (og : i64ok g) (od : i64ok d) :
    Calls Tryz.prog 38 #[.agg cx, .int .i64 g, .int .i64 d] w (NewAgg wrsL (trustR x g d) w) := by
  obtain ⟨a10, l10, c10, _, a11, l11, c11, f11, a12, l12, c12, _, ex, -, -, -, -, -, -, -, -, -, h10, h11, h12, oo13, oo14, -⟩ := wldL_iff.1 hx
  obtain rfl := Array.toList_inj.1 (ex.trans (List.toList_toArray).symm)
  have HW := Lib.hid hx; have HZ := Lib.hid hz; have H10 := Lib.hid h10; have H11 := Lib.hid h11; have H12 := Lib.hid h12; have HOO := Lib.hid (And.intro oo13 oo14)
  have hl11 : l11 ≤ 1048576 := by have h := h11.1; have q10 := totL_nonneg (totL_nonneg totDrv_nonneg) x.groups; have q12 := totL_nonneg totTap_nonneg x.tapes; unfold totWld totIs at hz; omega
  clear hx ex hz h10 h11 h12 oo13 oo14
  have G0 := Lib.hid (show Chg [] w ((w.alloc (.cells #[.int .i64 x.shape.groups, .int .i64 x.shape.column, .int .i64 x.shape.data, .int .i64 x.shape.spare, .int .i64 x.shape.rows, .int .i64 x.shape.cap, .int .i64 x.shape.batch, .int .i64 x.shape.queue, .int .i64 x.shape.stage, .slice a10 l10 c10, .slice a11 l11 c11, .slice a12 l12 c12, .int .i64 x.writes, .int .i64 x.stop, .bool x.down] 40)).alloc (.cells #[.int .i64 0, .int .i64 0, .int .i64 0, .int .i64 0, .int .i64 0, .int .i64 0, .int .i64 0, .int .i64 0, .int .i64 0, .int .i64 0, .slice none 0 0, .slice none 0 0, .slice none 0 0, .int .i64 0, .int .i64 0, .bool false] 48)) from (Chg.alloc (Chg.alloc (Chg.refl [] w) _) _))
  have B0 := Lib.hid (show ((w.alloc (.cells #[.int .i64 x.shape.groups, .int .i64 x.shape.column, .int .i64 x.shape.data, .int .i64 x.shape.spare, .int .i64 x.shape.rows, .int .i64 x.shape.cap, .int .i64 x.shape.batch, .int .i64 x.shape.queue, .int .i64 x.shape.stage, .slice a10 l10 c10, .slice a11 l11 c11, .slice a12 l12 c12, .int .i64 x.writes, .int .i64 x.stop, .bool x.down] 40)).alloc (.cells #[.int .i64 0, .int .i64 0, .int .i64 0, .int .i64 0, .int .i64 0, .int .i64 0, .int .i64 0, .int .i64 0, .int .i64 0, .int .i64 0, .slice none 0 0, .slice none 0 0, .slice none 0 0, .int .i64 0, .int .i64 0, .bool false] 48)).heap[w.heap.size]? = some (.cells #[.int .i64 x.shape.groups, .int .i64 x.shape.column, .int .i64 x.shape.data, .int .i64 x.shape.spare, .int .i64 x.shape.rows, .int .i64 x.shape.cap, .int .i64 x.shape.batch, .int .i64 x.shape.queue, .int .i64 x.shape.stage, .slice a10 l10 c10, .slice a11 l11 c11, .slice a12 l12 c12, .int .i64 x.writes, .int .i64 x.stop, .bool x.down] 40 (0, 0)) from keep_alloc (new_alloc w _) _)
  have B1 := Lib.hid (show ((w.alloc (.cells #[.int .i64 x.shape.groups, .int .i64 x.shape.column, .int .i64 x.shape.data, .int .i64 x.shape.spare, .int .i64 x.shape.rows, .int .i64 x.shape.cap, .int .i64 x.shape.batch, .int .i64 x.shape.queue, .int .i64 x.shape.stage, .slice a10 l10 c10, .slice a11 l11 c11, .slice a12 l12 c12, .int .i64 x.writes, .int .i64 x.stop, .bool x.down] 40)).alloc (.cells #[.int .i64 0, .int .i64 0, .int .i64 0, .int .i64 0, .int .i64 0, .int .i64 0, .int .i64 0, .int .i64 0, .int .i64 0, .int .i64 0, .slice none 0 0, .slice none 0 0, .slice none 0 0, .int .i64 0, .int .i64 0, .bool false] 48)).heap[w.heap.size + 1]? = some (.cells #[.int .i64 0, .int .i64 0, .int .i64 0, .int .i64 0, .int .i64 0, .int .i64 0, .int .i64 0, .int .i64 0, .int .i64 0, .int .i64 0, .slice none 0 0, .slice none 0 0, .slice none 0 0, .int .i64 0, .int .i64 0, .bool false] 48 (0, 0)) from new_at (by simp) _)
  go_enter Tryz.func38, Tryz.ntmps38
  obtain ⟨q, hq⟩ : ∃ q, q = x.up := ⟨_, rfl⟩
  have HQ := Lib.hid hq; clear hq
  go_wp2_with (first | (refine load_wide rfl _ 40 rfl rfl infoWd Tryz.underlying40 B0.out rfl ?_))
  refine (upFault_any x #[.int .i64 x.shape.groups, .int .i64 x.shape.column, .int .i64 x.shape.data, .int .i64 x.shape.spare, .int .i64 x.shape.rows, .int .i64 x.shape.cap, .int .i64 x.shape.batch, .int .i64 x.shape.queue, .int .i64 x.shape.stage, .slice a10 l10 c10, .slice a11 l11 c11, .slice a12 l12 c12, .int .i64 x.writes, .int .i64 x.stop, .bool x.down] fx _ (wldL.ext HW.out G0.out)).mono ?_
  rintro e w1 ⟨rfl, hc⟩
  rw [← HQ.out]
  obtain ⟨c0, n0, A0_1⟩ := bk hc B0.out (by simp)
  obtain ⟨c1, n1, A1_1⟩ := bk hc B1.out (by simp)
  have G1 := Lib.hid (G0.out.trans0 hc)
  have fz := freeOf A1_1.out
  clear hc
  have hqk : i64ok q := by rw [HQ.out]; exact up_i64 x
  by_cases hq0 : q = 0
  · subst hq0
    have hf0 : x.up = 0 := HQ.out.symm
    obtain ⟨-, hdn0, hbt0, hnu0, hok⟩ := up_parts hf0
    have hdn := Lib.hid hdn0; have HBT := Lib.hid hbt0; have HNU := Lib.hid hnu0; clear hdn0 hbt0 hnu0
    by_cases hg : 0 ≤ g ∧ g ≤ x.shape.all - 1
    · have HI := Lib.hid (show inB g 0 (x.shape.all - 1) = true by simp [inB, hg.1, hg.2])
      go_wp2_with (first | (refine load_wide rfl _ 40 rfl rfl infoWd Tryz.underlying40 A0_1.out rfl ?_))
      refine (st_isGroup_any x.shape hok g _).mono ?_
      rintro e w2 ⟨rfl, hc⟩
      rw [HI.out]
      clear c0 n0
      obtain ⟨c0, n0, A0_2⟩ := bk hc A0_1.out (by simp)
      clear c1 n1
      obtain ⟨c1, n1, A1_2⟩ := bk hc A1_1.out (by simp)
      have G2 := Lib.hid (G1.out.trans0 hc)
      clear fz; have fz := freeOf A1_2.out
      clear hc
      by_cases hd : 0 ≤ d ∧ d ≤ x.shape.drives - 1
      · have HJ := Lib.hid (show inB d 0 (x.shape.drives - 1) = true by simp [inB, hd.1, hd.2])
        go_wp2_with (first | (refine load_wide rfl _ 40 rfl rfl infoWd Tryz.underlying40 A0_2.out rfl ?_))
        refine (st_isDrive_any x.shape hok d _).mono ?_
        rintro e w3 ⟨rfl, hc⟩
        rw [HJ.out]
        clear c0 n0
        obtain ⟨c0, n0, A0_3⟩ := bk hc A0_2.out (by simp)
        clear c1 n1
        obtain ⟨c1, n1, A1_3⟩ := bk hc A1_2.out (by simp)
        have G3 := Lib.hid (G2.out.trans0 hc)
        clear fz; have fz := freeOf A1_3.out
        clear hc
        by_cases hon : g ∈ x.on
        · go_wp2_with (first | (refine load_wide rfl _ 40 rfl rfl infoWd Tryz.underlying40 A0_3.out rfl ?_))
          refine (st_isOn_any w.heap.size a11 l11 c11 x.on f11 g _ A0_3.out (intL.sl_ext H11.out G3.out)).mono ?_
          rintro e w' ⟨rfl, rfl⟩
          rw [pb_true hon]
          go_wp2_with (first | (refine load_wide rfl _ 40 rfl rfl infoWd Tryz.underlying40 A0_3.out rfl ?_))
          refine (cloneWorld_any x #[.int .i64 x.shape.groups, .int .i64 x.shape.column, .int .i64 x.shape.data, .int .i64 x.shape.spare, .int .i64 x.shape.rows, .int .i64 x.shape.cap, .int .i64 x.shape.batch, .int .i64 x.shape.queue, .int .i64 x.shape.stage, .slice a10 l10 c10, .slice a11 l11 c11, .slice a12 l12 c12, .int .i64 x.writes, .int .i64 x.stop, .bool x.down] fx _ (wldL.ext HW.out G3.out) HZ.out).mono ?_
          rintro e w4 ⟨cs2, f2, rfl, hs, hf, hc⟩
          obtain ⟨p10, m10, d10, g10, p11, m11, d11, g11, p12, m12, d12, g12, ex, o1, o2, o3, o4, o5, o6, o7, o8, o9, K10, K11, K12, o13, o14, rfl⟩ := wldL_iff.1 hs
          obtain rfl := Array.toList_inj.1 (ex.trans (List.toList_toArray).symm)
          have HO := Lib.hid (And.intro o1 (And.intro o2 (And.intro o3 (And.intro o4 (And.intro o5 (And.intro o6 (And.intro o7 (And.intro o8 (And.intro o9 (And.intro o13 o14))))))))))
          have HK := Lib.hid (And.intro K10 (And.intro K11 K12)); have HF := Lib.hid hf; have HFn := Lib.hid (fun b hb => (hf.2 b hb).1); have nR0 := n1
          clear hs ex K10 K11 K12 o1 o2 o3 o4 o5 o6 o7 o8 o9 o13 o14 hf
          clear c0 n0
          obtain ⟨c0, n0, A0_4⟩ := bk hc A0_3.out (by simp)
          clear c1 n1
          obtain ⟨c1, n1, A1_4⟩ := bk hc A1_3.out (by simp)
          have G4 := Lib.hid (G3.out.trans0 hc)
          clear fz; have fz := freeOf A1_4.out
          clear hc
          go_upto_region 9 with (refine store_wide rfl _ _ 40 rfl rfl rfl infoWd (new_alloc _ _) rfl rfl rfl ?_; intro w5 hm hc0)
          have hc : Chg [] w4 w5 := ((Chg.refl [] w4).alloc _).trans hc0 (fun y hy => .inr (by rw [List.mem_singleton] at hy; omega)); clear hc0
          have HM := Lib.hid hm; have cm := cellsOf hm; have nm := ltOf hm; have fm := freeOf hm; have nR : w.heap.size + 1 < w4.heap.size := n1; clear hm
          have hF := HF.out.lts; have HKe := Lib.hid (And.intro (drvL.slice.sl_ext HK.out.1 hc) (And.intro (intL.sl_ext HK.out.2.1 hc) (tapL.sl_ext HK.out.2.2 hc))); have HFe := Lib.hid ((HF.out.mono (C := w.heap.size) G3.out.size).chg hc)
          have HFl := Lib.hid hF; clear hF
          clear c0 n0
          obtain ⟨c0, n0, A0_5⟩ := bk hc A0_4.out (by simp)
          clear c1 n1
          obtain ⟨c1, n1, A1_5⟩ := bk hc A1_4.out (by simp)
          have G5 := Lib.hid (G4.out.trans0 hc)
          clear fz; have fz := freeOf A1_5.out
          clear hc
          by_cases hst : x.stop ≠ -1 ∧ x.stop ≤ x.writes
          · have HST := Lib.hid hst; clear hst
            go_wp2_with fail
            refine (trust_fail w4.heap.size g d w5 HM.out HST.out.1 HST.out.2).mono ?_
            rintro e w7 ⟨rfl, hm, hc⟩
            have hR := Lib.hid (hc.keepb A1_5.out (by simp; omega))
            have hnm : ∀ y ∈ g10 ++ (g11 ++ (g12 ++ [])), y ∉ [w4.heap.size] := fun y hy hm => by have := HFl.out y hy; rw [List.mem_singleton] at hm; omega
            obtain ⟨o1, o2, o3, o4, o5, o6, o7, o8, o9, o13, o14⟩ := HO.out
            have hsub : (g10 ++ ([] ++ (g12 ++ []))).Sublist (g10 ++ (g11 ++ (g12 ++ []))) := (List.Sublist.refl g10).append ((List.nil_sublist g11).append (List.Sublist.refl _))
            have HE := Lib.hid (And.intro (show wldL.rep w7 [.int .i64 x.shape.groups, .int .i64 x.shape.column, .int .i64 x.shape.data, .int .i64 x.shape.spare, .int .i64 x.shape.rows, .int .i64 x.shape.cap, .int .i64 x.shape.batch, .int .i64 x.shape.queue, .int .i64 x.shape.stage, .slice p10 m10 d10, .slice none 0 0, .slice p12 m12 d12, .int .i64 x.writes, .int .i64 x.stop, .bool true] _ _ from (wldL_iff.2 ⟨p10, m10, d10, g10, none, 0, 0, [], p12, m12, d12, g12, rfl, o1, o2, o3, o4, o5, o6, o7, o8, o9, drvL.slice.sl_chg HKe.out.1 hc (fun y hy => hnm y (by simp [hy])), nil_sl0 _ _, tapL.sl_chg HKe.out.2.2 hc (fun y hy => hnm y (by simp [hy])), o13, o14, rfl⟩ : wldL.rep _ _ x.cut _)) (And.intro (show Fresh w.heap.size w7 (g10 ++ ([] ++ (g12 ++ []))) from (HFe.out.chg hc).sub hsub) (And.intro (show Chg [] w w7 from G5.out.trans hc (fun y hy => .inr (by rw [List.mem_singleton] at hy; omega))) (show w.heap.size + 1 ∉ g10 ++ ([] ++ (g12 ++ [])) from fun hy => by have := HFn.out _ (hsub.subset hy); omega))))
            have HRR := Lib.hid hR.out; have HMR := Lib.hid (show w7.heap[w4.heap.size]? = some (.cells #[.int .i64 x.shape.groups, .int .i64 x.shape.column, .int .i64 x.shape.data, .int .i64 x.shape.spare, .int .i64 x.shape.rows, .int .i64 x.shape.cap, .int .i64 x.shape.batch, .int .i64 x.shape.queue, .int .i64 x.shape.stage, .slice p10 m10 d10, .slice none 0 0, .slice p12 m12 d12, .int .i64 x.writes, .int .i64 x.stop, .bool true] 40 (0, 0)) from hm)
            clear o1 o2 o3 o4 o5 o6 o7 o8 o9 o13 o14 hc hnm hsub hm cm nm fm
            go_wp2_with (refine load_wide rfl _ 40 rfl rfl infoWd Tryz.underlying40 HMR.out rfl ?_)
            refine (wrote_false _ _ _ _ _ _ _ _ _ _ _ _ _ _ _ _ _ _ _ _ _ _).mono ?_
            rintro e w8 ⟨rfl, hc8⟩
            have HE8 := Lib.hid (And.intro (wldL.ext HE.out.1 hc8) (And.intro (HE.out.2.1.chg hc8) (And.intro (HE.out.2.2.1.trans0 hc8) HE.out.2.2.2))); have HR8 := Lib.hid (hc8.keep0 HRR.out); clear hc8
            go_wp2_with (first | (refine store_wide rfl _ _ 48 rfl rfl rfl infoWR HR8.out rfl rfl rfl ?_; intro w9 hb9 hc9; have HB9 := Lib.hid hb9; have HC9 := Lib.hid hc9; clear hb9 hc9))
            refine bodyPost_ret (v := .agg #[.int .i64 9, .int .i64 x.shape.groups, .int .i64 x.shape.column, .int .i64 x.shape.data, .int .i64 x.shape.spare, .int .i64 x.shape.rows, .int .i64 x.shape.cap, .int .i64 x.shape.batch, .int .i64 x.shape.queue, .int .i64 x.shape.stage, .slice p10 m10 d10, .slice none 0 0, .slice p12 m12 d12, .int .i64 x.writes, .int .i64 x.stop, .bool true]) (results_wide _ _ Tryz.results38 rfl infoWR Tryz.underlying48 HB9.out rfl) rfl (fin9 9 ⟨by omega, by omega⟩ (trustR x g d) (trustR_fail hf0 ⟨hg, hd⟩ hon HST.out) HE8.out.1 rfl HE8.out.2.1 HE8.out.2.2.1 HC9.out HE8.out.2.2.2 (by omega))
          · have HST := Lib.hid hst; clear hst
            obtain ⟨tg, rfl⟩ : ∃ t : Nat, g = t := ⟨g.toNat, by omega⟩
            obtain ⟨td, rfl⟩ : ∃ t : Nat, d = t := ⟨d.toNat, by omega⟩
            have htg : tg < m10 := by have h1 := HKe.out.1.1; have h2 := HBT.out.1; omega
            obtain ⟨-, b, off, -, -, -, -, -, rfl, -, -⟩ := slc_at HKe.out.1 htg
            have nd := List.nodup_append.1 HFe.out.1
            obtain ⟨G, A, l, C, f, hGx, hcx, hGS, hfs, hfn, hbf, hb10, hup⟩ := slc_mod HKe.out.1 nd.1 htg
            have htd : td < l := by have h1 := hGS.1; have h2 := (HBT.out.2 G (List.mem_of_getElem? hGx)).1; omega
            obtain ⟨D, b2, off2, a2, l2, c2, f2, HY, rfl, hy0, hy1, -⟩ := drive_at hGS htd
            have hb2 : b2 ∈ f := HY.out.2.1
            have hDx := HY.out.1
            have hb2m := HFl.out b2 (by simp [hfs b2 hb2]); have hbm := HFl.out b (by simp [hb10]); have hbn2 := HFn.out b2 (by simp [hfs b2 hb2])
            have hbl : b < w5.heap.size := Nat.lt_trans hbm nm; have hbl2 : b2 < w5.heap.size := Nat.lt_trans hb2m nm
            have hlo := (HFe.out.2 b2 (by simp [hfs b2 hb2])).2
            have hsto : x.stop = -1 ∨ x.stop ≠ -1 ∧ x.writes < x.stop := by have := HST.out; omega
            have hmb2 : ¬ w4.heap.size = b2 := by omega
            have hbb2 : ¬ b = b2 := fun e => hbf (e ▸ hb2)
            have hltg : ∀ y ∈ g10, y < w5.heap.size := fun y hy => Nat.lt_trans (HFl.out y (by simp [hy])) nm
            have hnmm : ∀ y ∈ g10 ++ (g11 ++ (g12 ++ [])), y ≠ w4.heap.size := fun y hy e => by have := HFl.out y hy; omega
            go_wp2_with fail
            refine (trust_ok w4.heap.size b off b2 off2 tg td m10 d10 l C w5 HM.out hsto HNU.out.1 hcx htg htd hbl hy0 hlo (fun e => hmb2 e.symm)).mono ?_
            rintro e w7 ⟨rfl, wz, hcz, rfl⟩
            have hcW : Chg [b2, w4.heap.size] w5 ((wz.setCell ⟨b2, off2 + td * 2, none⟩ (.bool false)).setCell ⟨w4.heap.size, 12, none⟩ (.int .i64 (x.writes + 1))) := ((hcz.mono (T := [b2, w4.heap.size]) (by simp)).setCell _ _ (.inl (by simp))).setCell _ _ (.inl (by simp))
            have hin := drvL.sl_chg (drive_store0 (drvL.sl_ext hGS hcz) hfn hDx false) ((Chg.refl [w4.heap.size] _).setCell ⟨w4.heap.size, 12, none⟩ (.int .i64 (x.writes + 1)) (.inl (by simp))) (fun y hy hm => hnmm y (by simp [hfs y hy]) (List.mem_singleton.1 hm))
            have hmW : ((wz.setCell ⟨b2, off2 + td * 2, none⟩ (.bool false)).setCell ⟨w4.heap.size, 12, none⟩ (.int .i64 (x.writes + 1))).heap[w4.heap.size]? = some (.cells #[.int .i64 x.shape.groups, .int .i64 x.shape.column, .int .i64 x.shape.data, .int .i64 x.shape.spare, .int .i64 x.shape.rows, .int .i64 x.shape.cap, .int .i64 x.shape.batch, .int .i64 x.shape.queue, .int .i64 x.shape.stage, .slice (some ⟨b, off, none⟩) m10 d10, .slice p11 m11 d11, .slice p12 m12 d12, .int .i64 (x.writes + 1), .int .i64 x.stop, .bool x.down] 40 (0, 0)) := heap_set_lit (cur := #[.int .i64 x.shape.groups, .int .i64 x.shape.column, .int .i64 x.shape.data, .int .i64 x.shape.spare, .int .i64 x.shape.rows, .int .i64 x.shape.cap, .int .i64 x.shape.batch, .int .i64 x.shape.queue, .int .i64 x.shape.stage, .slice (some ⟨b, off, none⟩) m10 d10, .slice p11 m11 d11, .slice p12 m12 d12, .int .i64 x.writes, .int .i64 x.stop, .bool x.down]) (keep_set (hcz.keep0 HM.out) _ _ hmb2) rfl
            obtain ⟨fp', hS, hnd, hsub⟩ := hup ((wz.setCell ⟨b2, off2 + td * 2, none⟩ (.bool false)).setCell ⟨w4.heap.size, 12, none⟩ (.int .i64 (x.writes + 1))) (G.set td { D with wiped := false }) f hin hfn (fun y hy => .inl hy) (fun y hy hyf => hcW.block y (hltg y hy) (fun hm => by simp only [List.mem_cons, List.not_mem_nil, or_false] at hm; rcases hm with h | h; exact hyf (h ▸ hb2); exact hnmm y (by simp [hy]) h))
            have hsub2 : ∀ y ∈ fp', y ∈ g10 := fun y hy => by rcases hsub y hy with ⟨h, -⟩ | h; exact h; exact hfs y h
            have hb210 := hfs b2 hb2
            have hn11 : ∀ y ∈ g11, y ∉ [b2, w4.heap.size] := fun y hy hm => by simp only [List.mem_cons, List.not_mem_nil, or_false] at hm; rcases hm with h | h; exact nd.2.2 b2 hb210 y (by simp [hy]) h.symm; exact hnmm y (by simp [hy]) h
            have hn12 : ∀ y ∈ g12, y ∉ [b2, w4.heap.size] := fun y hy hm => by simp only [List.mem_cons, List.not_mem_nil, or_false] at hm; rcases hm with h | h; exact nd.2.2 b2 hb210 y (by simp [hy]) h.symm; exact hnmm y (by simp [hy]) h
            obtain ⟨o1, o2, o3, o4, o5, o6, o7, o8, o9, o13, o14⟩ := HO.out
            have ow : i64ok (x.writes + 1) := by have := HNU.out.1; constructor <;> omega
            have hall : ∀ y ∈ fp' ++ (g11 ++ (g12 ++ [])), y ∈ g10 ++ (g11 ++ (g12 ++ [])) := fun y hy => by rcases List.mem_append.1 hy with h | h; exact List.mem_append.2 (.inl (hsub2 y h)); exact List.mem_append.2 (.inr h)
            have HE := Lib.hid (And.intro (show wldL.rep ((wz.setCell ⟨b2, off2 + td * 2, none⟩ (.bool false)).setCell ⟨w4.heap.size, 12, none⟩ (.int .i64 (x.writes + 1))) [.int .i64 x.shape.groups, .int .i64 x.shape.column, .int .i64 x.shape.data, .int .i64 x.shape.spare, .int .i64 x.shape.rows, .int .i64 x.shape.cap, .int .i64 x.shape.batch, .int .i64 x.shape.queue, .int .i64 x.shape.stage, .slice (some ⟨b, off, none⟩) m10 d10, .slice p11 m11 d11, .slice p12 m12 d12, .int .i64 (x.writes + 1), .int .i64 x.stop, .bool x.down] _ _ from (wldL_iff.2 ⟨_, m10, d10, fp', p11, m11, d11, g11, p12, m12, d12, g12, rfl, o1, o2, o3, o4, o5, o6, o7, o8, o9, hS, intL.sl_chg HKe.out.2.1 hcW hn11, tapL.sl_chg HKe.out.2.2 hcW hn12, ow, o14, rfl⟩ : wldL.rep _ _ ({ x with groups := x.groups.set tg (G.set td { D with wiped := false }), writes := x.writes + 1 }) _)) (And.intro (show Fresh w.heap.size ((wz.setCell ⟨b2, off2 + td * 2, none⟩ (.bool false)).setCell ⟨w4.heap.size, 12, none⟩ (.int .i64 (x.writes + 1))) (fp' ++ (g11 ++ (g12 ++ []))) from (HFe.out.chg hcW).swap1 hnd (fun y hy => .inl (hsub2 y hy))) (And.intro (show Chg [] w ((wz.setCell ⟨b2, off2 + td * 2, none⟩ (.bool false)).setCell ⟨w4.heap.size, 12, none⟩ (.int .i64 (x.writes + 1))) from G5.out.trans hcW (fun y hy => .inr (by have := G3.out.size; simp only [List.mem_cons, List.not_mem_nil, or_false] at hy; omega))) (show w.heap.size + 1 ∉ fp' ++ (g11 ++ (g12 ++ [])) from fun hy => by have := HFn.out _ (hall _ hy); omega))))
            have HRR := Lib.hid (hcW.keepb A1_5.out (by simp; omega)); have HMR := Lib.hid (show ((wz.setCell ⟨b2, off2 + td * 2, none⟩ (.bool false)).setCell ⟨w4.heap.size, 12, none⟩ (.int .i64 (x.writes + 1))).heap[w4.heap.size]? = some (.cells #[.int .i64 x.shape.groups, .int .i64 x.shape.column, .int .i64 x.shape.data, .int .i64 x.shape.spare, .int .i64 x.shape.rows, .int .i64 x.shape.cap, .int .i64 x.shape.batch, .int .i64 x.shape.queue, .int .i64 x.shape.stage, .slice (some ⟨b, off, none⟩) m10 d10, .slice p11 m11 d11, .slice p12 m12 d12, .int .i64 (x.writes + 1), .int .i64 x.stop, .bool x.down] 40 (0, 0)) from hmW)
            have HGX := Lib.hid hGx; have HDX := Lib.hid hDx
            clear o1 o2 o3 o4 o5 o6 o7 o8 o9 o13 o14 hcW hn11 hn12 hS hsub hsub2 hnd hall hin hmW hltg hnmm nd hup hGS hfs hfn hbf hb10 hGx hDx ow
            clear hcx hy0 hy1 hlo
            go_wp2_with (refine load_wide rfl _ 40 rfl rfl infoWd Tryz.underlying40 HMR.out rfl ?_)
            refine (wrote_true _ _ _ _ _ _ _ _ _ _ _ _ _ _ _ _ _ _ _ _ _ _).mono ?_
            rintro e w8 ⟨rfl, hc8⟩
            have HE8 := Lib.hid (And.intro (wldL.ext HE.out.1 hc8) (And.intro (HE.out.2.1.chg hc8) (And.intro (HE.out.2.2.1.trans0 hc8) HE.out.2.2.2))); have HR8 := Lib.hid (hc8.keep0 HRR.out); clear hc8
            go_wp2_with (first | (refine store_wide rfl _ _ 48 rfl rfl rfl infoWR HR8.out rfl rfl rfl ?_; intro w9 hb9 hc9; have HB9 := Lib.hid hb9; have HC9 := Lib.hid hc9; clear hb9 hc9))
            refine bodyPost_ret (v := .agg #[.int .i64 0, .int .i64 x.shape.groups, .int .i64 x.shape.column, .int .i64 x.shape.data, .int .i64 x.shape.spare, .int .i64 x.shape.rows, .int .i64 x.shape.cap, .int .i64 x.shape.batch, .int .i64 x.shape.queue, .int .i64 x.shape.stage, .slice (some ⟨b, off, none⟩) m10 d10, .slice p11 m11 d11, .slice p12 m12 d12, .int .i64 (x.writes + 1), .int .i64 x.stop, .bool x.down]) (results_wide _ _ Tryz.results38 rfl infoWR Tryz.underlying48 HB9.out rfl) rfl (fin9 0 ⟨by omega, by omega⟩ (trustR x tg td) (trustR_ok hf0 ⟨hg, hd⟩ hon HST.out HGX.out HDX.out) HE8.out.1 rfl HE8.out.2.1 HE8.out.2.2.1 HC9.out HE8.out.2.2.2 (by omega))
        · go_wp2_with (first | (refine load_wide rfl _ 40 rfl rfl infoWd Tryz.underlying40 A0_3.out rfl ?_))
          refine (st_isOn_any w.heap.size a11 l11 c11 x.on f11 g _ A0_3.out (intL.sl_ext H11.out G3.out)).mono ?_
          rintro e w' ⟨rfl, rfl⟩
          rw [pb_false hon]
          go_wp2_with (first | (refine store_wide rfl _ _ 48 rfl rfl rfl infoWR A1_3.out rfl rfl rfl ?_; intro w9 hb9 hc9; have HB9 := Lib.hid hb9; have HC9 := Lib.hid hc9; clear hb9 hc9))
          refine bodyPost_ret (v := .agg #[.int .i64 (8), .int .i64 0, .int .i64 0, .int .i64 0, .int .i64 0, .int .i64 0, .int .i64 0, .int .i64 0, .int .i64 0, .int .i64 0, .slice none 0 0, .slice none 0 0, .slice none 0 0, .int .i64 0, .int .i64 0, .bool false]) (results_wide _ _ Tryz.results38 rfl infoWR Tryz.underlying48 HB9.out rfl) rfl (bad9 (8) (⟨by omega, by omega⟩) (trustR x g d) (trustR_off hf0 ⟨hg, hd⟩ hon) G3.out HC9.out (by omega))
      · have HJ := Lib.hid (show inB d 0 (x.shape.drives - 1) = false by unfold inB; simp; omega)
        go_wp2_with (first | (refine load_wide rfl _ 40 rfl rfl infoWd Tryz.underlying40 A0_2.out rfl ?_))
        refine (st_isDrive_any x.shape hok d _).mono ?_
        rintro e w3 ⟨rfl, hc⟩
        rw [HJ.out]
        clear c0 n0
        obtain ⟨c0, n0, A0_3⟩ := bk hc A0_2.out (by simp)
        clear c1 n1
        obtain ⟨c1, n1, A1_3⟩ := bk hc A1_2.out (by simp)
        have G3 := Lib.hid (G2.out.trans0 hc)
        clear fz; have fz := freeOf A1_3.out
        clear hc
        go_wp2_with (first | (refine store_wide rfl _ _ 48 rfl rfl rfl infoWR A1_3.out rfl rfl rfl ?_; intro w9 hb9 hc9; have HB9 := Lib.hid hb9; have HC9 := Lib.hid hc9; clear hb9 hc9))
        refine bodyPost_ret (v := .agg #[.int .i64 (3), .int .i64 0, .int .i64 0, .int .i64 0, .int .i64 0, .int .i64 0, .int .i64 0, .int .i64 0, .int .i64 0, .int .i64 0, .slice none 0 0, .slice none 0 0, .slice none 0 0, .int .i64 0, .int .i64 0, .bool false]) (results_wide _ _ Tryz.results38 rfl infoWR Tryz.underlying48 HB9.out rfl) rfl (bad9 (3) (⟨by omega, by omega⟩) (trustR x g d) (trustR_out hf0 (fun h => hd h.2)) G3.out HC9.out (by omega))
    · have HI := Lib.hid (show inB g 0 (x.shape.all - 1) = false by unfold inB; simp; omega)
      go_wp2_with (first | (refine load_wide rfl _ 40 rfl rfl infoWd Tryz.underlying40 A0_1.out rfl ?_))
      refine (st_isGroup_any x.shape hok g _).mono ?_
      rintro e w2 ⟨rfl, hc⟩
      rw [HI.out]
      clear c0 n0
      obtain ⟨c0, n0, A0_2⟩ := bk hc A0_1.out (by simp)
      clear c1 n1
      obtain ⟨c1, n1, A1_2⟩ := bk hc A1_1.out (by simp)
      have G2 := Lib.hid (G1.out.trans0 hc)
      clear fz; have fz := freeOf A1_2.out
      clear hc
      go_wp2_with (first | (refine store_wide rfl _ _ 48 rfl rfl rfl infoWR A1_2.out rfl rfl rfl ?_; intro w9 hb9 hc9; have HB9 := Lib.hid hb9; have HC9 := Lib.hid hc9; clear hb9 hc9))
      refine bodyPost_ret (v := .agg #[.int .i64 (3), .int .i64 0, .int .i64 0, .int .i64 0, .int .i64 0, .int .i64 0, .int .i64 0, .int .i64 0, .int .i64 0, .int .i64 0, .slice none 0 0, .slice none 0 0, .slice none 0 0, .int .i64 0, .int .i64 0, .bool false]) (results_wide _ _ Tryz.results38 rfl infoWR Tryz.underlying48 HB9.out rfl) rfl (bad9 (3) (⟨by omega, by omega⟩) (trustR x g d) (trustR_out hf0 (fun h => hg h.1)) G2.out HC9.out (by omega))
  · have hb : ((q : Int) != 0) = true := by simpa using hq0
    go_wp2_with (first | (refine store_wide rfl _ _ 48 rfl rfl rfl infoWR A1_1.out rfl rfl rfl ?_; intro w9 hb9 hc9; have HB9 := Lib.hid hb9; have HC9 := Lib.hid hc9; clear hb9 hc9))
    refine bodyPost_ret (v := .agg #[.int .i64 (q), .int .i64 0, .int .i64 0, .int .i64 0, .int .i64 0, .int .i64 0, .int .i64 0, .int .i64 0, .int .i64 0, .int .i64 0, .slice none 0 0, .slice none 0 0, .slice none 0 0, .int .i64 0, .int .i64 0, .bool false]) (results_wide _ _ Tryz.results38 rfl infoWR Tryz.underlying48 HB9.out rfl) rfl (bad9 (q) (hqk) (trustR x g d) (by rw [trustR_bad (by rw [← HQ.out]; exact hq0), ← HQ.out]) G1.out HC9.out (by omega))
set_option maxRecDepth 100000 in
set_option maxHeartbeats 8000000 in
theorem spec_TrustDrive (x : Wld) (cx : Array Value) (fx : List Nat) (g : Int) (d : Int) (w : World) (hx : wldL.rep w cx.toList x fx) (hz : totWld x ≤ 1048576) (og : i64ok g) (od : i64ok d) :
    Calls Tryz.prog 37 #[.agg cx, .int .i64 g, .int .i64 d] w (NewAgg wrsL (trustR x g d) w) := by
  obtain ⟨a10, l10, c10, _, a11, l11, c11, f11, a12, l12, c12, _, ex, -, -, -, -, -, -, -, -, -, h10, h11, h12, oo13, oo14, -⟩ := wldL_iff.1 hx
  obtain rfl := Array.toList_inj.1 (ex.trans (List.toList_toArray).symm)
  have HW := Lib.hid hx; have HZ := Lib.hid hz; have H10 := Lib.hid h10; have H11 := Lib.hid h11; have H12 := Lib.hid h12; have HOO := Lib.hid (And.intro oo13 oo14)
  have hl11 : l11 ≤ 1048576 := by have h := h11.1; have q10 := totL_nonneg (totL_nonneg totDrv_nonneg) x.groups; have q12 := totL_nonneg totTap_nonneg x.tapes; unfold totWld totIs at hz; omega
  clear hx ex hz h10 h11 h12 oo13 oo14
  have G0 := Lib.hid (show Chg [] w ((w.alloc (.cells #[.int .i64 x.shape.groups, .int .i64 x.shape.column, .int .i64 x.shape.data, .int .i64 x.shape.spare, .int .i64 x.shape.rows, .int .i64 x.shape.cap, .int .i64 x.shape.batch, .int .i64 x.shape.queue, .int .i64 x.shape.stage, .slice a10 l10 c10, .slice a11 l11 c11, .slice a12 l12 c12, .int .i64 x.writes, .int .i64 x.stop, .bool x.down] 40)).alloc (.cells #[.int .i64 0, .int .i64 0, .int .i64 0, .int .i64 0, .int .i64 0, .int .i64 0, .int .i64 0, .int .i64 0, .int .i64 0, .int .i64 0, .slice none 0 0, .slice none 0 0, .slice none 0 0, .int .i64 0, .int .i64 0, .bool false] 48)) from (Chg.alloc (Chg.alloc (Chg.refl [] w) _) _))
  have B0 := Lib.hid (show ((w.alloc (.cells #[.int .i64 x.shape.groups, .int .i64 x.shape.column, .int .i64 x.shape.data, .int .i64 x.shape.spare, .int .i64 x.shape.rows, .int .i64 x.shape.cap, .int .i64 x.shape.batch, .int .i64 x.shape.queue, .int .i64 x.shape.stage, .slice a10 l10 c10, .slice a11 l11 c11, .slice a12 l12 c12, .int .i64 x.writes, .int .i64 x.stop, .bool x.down] 40)).alloc (.cells #[.int .i64 0, .int .i64 0, .int .i64 0, .int .i64 0, .int .i64 0, .int .i64 0, .int .i64 0, .int .i64 0, .int .i64 0, .int .i64 0, .slice none 0 0, .slice none 0 0, .slice none 0 0, .int .i64 0, .int .i64 0, .bool false] 48)).heap[w.heap.size]? = some (.cells #[.int .i64 x.shape.groups, .int .i64 x.shape.column, .int .i64 x.shape.data, .int .i64 x.shape.spare, .int .i64 x.shape.rows, .int .i64 x.shape.cap, .int .i64 x.shape.batch, .int .i64 x.shape.queue, .int .i64 x.shape.stage, .slice a10 l10 c10, .slice a11 l11 c11, .slice a12 l12 c12, .int .i64 x.writes, .int .i64 x.stop, .bool x.down] 40 (0, 0)) from keep_alloc (new_alloc w _) _)
  have B1 := Lib.hid (show ((w.alloc (.cells #[.int .i64 x.shape.groups, .int .i64 x.shape.column, .int .i64 x.shape.data, .int .i64 x.shape.spare, .int .i64 x.shape.rows, .int .i64 x.shape.cap, .int .i64 x.shape.batch, .int .i64 x.shape.queue, .int .i64 x.shape.stage, .slice a10 l10 c10, .slice a11 l11 c11, .slice a12 l12 c12, .int .i64 x.writes, .int .i64 x.stop, .bool x.down] 40)).alloc (.cells #[.int .i64 0, .int .i64 0, .int .i64 0, .int .i64 0, .int .i64 0, .int .i64 0, .int .i64 0, .int .i64 0, .int .i64 0, .int .i64 0, .slice none 0 0, .slice none 0 0, .slice none 0 0, .int .i64 0, .int .i64 0, .bool false] 48)).heap[w.heap.size + 1]? = some (.cells #[.int .i64 0, .int .i64 0, .int .i64 0, .int .i64 0, .int .i64 0, .int .i64 0, .int .i64 0, .int .i64 0, .int .i64 0, .int .i64 0, .slice none 0 0, .slice none 0 0, .slice none 0 0, .int .i64 0, .int .i64 0, .bool false] 48 (0, 0)) from new_at (by simp) _)
  go_enter Tryz.func37, Tryz.ntmps37
  obtain ⟨q, hq⟩ : ∃ q, q = x.up := ⟨_, rfl⟩
  have HQ := Lib.hid hq; clear hq
  go_wp2_with (first | (refine load_wide rfl _ 40 rfl rfl infoWd Tryz.underlying40 B0.out rfl ?_))
  refine (l5Asked_any x #[.int .i64 x.shape.groups, .int .i64 x.shape.column, .int .i64 x.shape.data, .int .i64 x.shape.spare, .int .i64 x.shape.rows, .int .i64 x.shape.cap, .int .i64 x.shape.batch, .int .i64 x.shape.queue, .int .i64 x.shape.stage, .slice a10 l10 c10, .slice a11 l11 c11, .slice a12 l12 c12, .int .i64 x.writes, .int .i64 x.stop, .bool x.down] fx _ (wldL.ext HW.out G0.out)).mono ?_
  rintro e w1 ⟨rfl, hc⟩
  rw [← HQ.out]
  obtain ⟨c0, n0, A0_1⟩ := bk hc B0.out (by simp)
  obtain ⟨c1, n1, A1_1⟩ := bk hc B1.out (by simp)
  have G1 := Lib.hid (G0.out.trans0 hc)
  have fz := freeOf A1_1.out
  clear hc
  have hqk : i64ok q := by rw [HQ.out]; exact up_i64 x
  by_cases hq0 : q = 0
  · subst hq0
    have hf0 : x.up = 0 := HQ.out.symm
    obtain ⟨-, hdn0, hbt0, hnu0, hok⟩ := up_parts hf0
    have hdn := Lib.hid hdn0; have HBT := Lib.hid hbt0; have HNU := Lib.hid hnu0; clear hdn0 hbt0 hnu0
    have hrr := hok.rows
    by_cases hgd : (0 ≤ g ∧ g ≤ x.shape.all - 1) ∧ (0 ≤ d ∧ d ≤ x.shape.drives - 1)
    · obtain ⟨hg, hd⟩ := hgd
      have HI := Lib.hid (show (inB g 0 (x.shape.all - 1) && inB d 0 (x.shape.drives - 1) && inB 0 0 (x.shape.rows - 1)) = true by simp [inB, hg.1, hg.2, hd.1, hd.2]; omega)
      go_wp2_with (first | (refine load_wide rfl _ 40 rfl rfl infoWd Tryz.underlying40 A0_1.out rfl ?_))
      refine (l5Place_any x.shape hok g d 0 _).mono ?_
      rintro e w2 ⟨rfl, hc⟩
      rw [HI.out]
      clear c0 n0
      obtain ⟨c0, n0, A0_2⟩ := bk hc A0_1.out (by simp)
      clear c1 n1
      obtain ⟨c1, n1, A1_2⟩ := bk hc A1_1.out (by simp)
      have G2 := Lib.hid (G1.out.trans0 hc)
      clear fz; have fz := freeOf A1_2.out
      clear hc
      by_cases hon : g ∈ x.on
      · go_wp2_with (first | (refine load_wide rfl _ 40 rfl rfl infoWd Tryz.underlying40 A0_2.out rfl ?_))
        refine (l1Has_any a11 l11 c11 x.on f11 g _ (intL.sl_ext H11.out G2.out)).mono ?_
        rintro e w' ⟨rfl, rfl⟩
        rw [pb_true hon]
        go_wp2_with (first | (refine load_wide rfl _ 40 rfl rfl infoWd Tryz.underlying40 A0_2.out rfl ?_))
        refine (l5Copy_any x #[.int .i64 x.shape.groups, .int .i64 x.shape.column, .int .i64 x.shape.data, .int .i64 x.shape.spare, .int .i64 x.shape.rows, .int .i64 x.shape.cap, .int .i64 x.shape.batch, .int .i64 x.shape.queue, .int .i64 x.shape.stage, .slice a10 l10 c10, .slice a11 l11 c11, .slice a12 l12 c12, .int .i64 x.writes, .int .i64 x.stop, .bool x.down] fx _ (wldL.ext HW.out G2.out) HZ.out).mono ?_
        rintro e w3 ⟨cs2, f2, rfl, hs, hf, hc⟩
        obtain ⟨p10, m10, d10, g10, p11, m11, d11, g11, p12, m12, d12, g12, ex, o1, o2, o3, o4, o5, o6, o7, o8, o9, K10, K11, K12, o13, o14, rfl⟩ := wldL_iff.1 hs
        obtain rfl := Array.toList_inj.1 (ex.trans (List.toList_toArray).symm)
        have HO := Lib.hid (And.intro o1 (And.intro o2 (And.intro o3 (And.intro o4 (And.intro o5 (And.intro o6 (And.intro o7 (And.intro o8 (And.intro o9 (And.intro o13 o14))))))))))
        have HK := Lib.hid (And.intro K10 (And.intro K11 K12)); have HF := Lib.hid hf; have HFn := Lib.hid (fun b hb => (hf.2 b hb).1); have nR0 := n1
        clear hs ex K10 K11 K12 o1 o2 o3 o4 o5 o6 o7 o8 o9 o13 o14 hf
        clear c0 n0
        obtain ⟨c0, n0, A0_3⟩ := bk hc A0_2.out (by simp)
        clear c1 n1
        obtain ⟨c1, n1, A1_3⟩ := bk hc A1_2.out (by simp)
        have G3 := Lib.hid (G2.out.trans0 hc)
        clear fz; have fz := freeOf A1_3.out
        clear hc
        go_upto_region 9 with (refine store_wide rfl _ _ 40 rfl rfl rfl infoWd (new_alloc _ _) rfl rfl rfl ?_; intro w4 hm hc0)
        have hc : Chg [] w3 w4 := ((Chg.refl [] w3).alloc _).trans hc0 (fun y hy => .inr (by rw [List.mem_singleton] at hy; omega)); clear hc0
        have HM := Lib.hid hm; have cm := cellsOf hm; have nm := ltOf hm; have fm := freeOf hm; have nR : w.heap.size + 1 < w3.heap.size := n1; clear hm
        have hF := HF.out.lts; have HKe := Lib.hid (And.intro (drvL.slice.sl_ext HK.out.1 hc) (And.intro (intL.sl_ext HK.out.2.1 hc) (tapL.sl_ext HK.out.2.2 hc))); have HFe := Lib.hid ((HF.out.mono (C := w.heap.size) G2.out.size).chg hc)
        have HFl := Lib.hid hF; clear hF
        clear c0 n0
        obtain ⟨c0, n0, A0_4⟩ := bk hc A0_3.out (by simp)
        clear c1 n1
        obtain ⟨c1, n1, A1_4⟩ := bk hc A1_3.out (by simp)
        have G4 := Lib.hid (G3.out.trans0 hc)
        clear fz; have fz := freeOf A1_4.out
        clear hc
        by_cases hst : x.stop ≠ -1 ∧ x.stop ≤ x.writes
        · have HST := Lib.hid hst; clear hst
          go_wp2_with fail
          have HM2 := Lib.hid (show w4.heap[w3.heap.size]? = some (.cells #[.int .i64 x.shape.groups, .int .i64 x.shape.column, .int .i64 x.shape.data, .int .i64 x.shape.spare, .int .i64 x.shape.rows, .int .i64 x.shape.cap, .int .i64 x.shape.batch, .int .i64 x.shape.queue, .int .i64 x.shape.stage, .slice p10 m10 d10, .slice p11 m11 d11, .slice p12 m12 d12, .int .i64 x.writes, .int .i64 x.stop, .bool false] 40 (0, 0)) from by have h := HM.out; rw [hdn.out] at h; exact h)
          refine (l5Raw_fail w3.heap.size w4 HM2.out HST.out).mono ?_
          rintro e w7 ⟨rfl, hm, hc⟩
          have hR := Lib.hid (hc.keepb A1_4.out (by simp; omega))
          have hnm : ∀ y ∈ g10 ++ (g11 ++ (g12 ++ [])), y ∉ [w3.heap.size] := fun y hy hm => by have := HFl.out y hy; rw [List.mem_singleton] at hm; omega
          obtain ⟨o1, o2, o3, o4, o5, o6, o7, o8, o9, o13, o14⟩ := HO.out
          have hsub : (g10 ++ ([] ++ (g12 ++ []))).Sublist (g10 ++ (g11 ++ (g12 ++ []))) := (List.Sublist.refl g10).append ((List.nil_sublist g11).append (List.Sublist.refl _))
          have HE := Lib.hid (And.intro (show wldL.rep w7 [.int .i64 x.shape.groups, .int .i64 x.shape.column, .int .i64 x.shape.data, .int .i64 x.shape.spare, .int .i64 x.shape.rows, .int .i64 x.shape.cap, .int .i64 x.shape.batch, .int .i64 x.shape.queue, .int .i64 x.shape.stage, .slice p10 m10 d10, .slice none 0 0, .slice p12 m12 d12, .int .i64 x.writes, .int .i64 x.stop, .bool true] _ _ from (wldL_iff.2 ⟨p10, m10, d10, g10, none, 0, 0, [], p12, m12, d12, g12, rfl, o1, o2, o3, o4, o5, o6, o7, o8, o9, drvL.slice.sl_chg HKe.out.1 hc (fun y hy => hnm y (by simp [hy])), nil_sl0 _ _, tapL.sl_chg HKe.out.2.2 hc (fun y hy => hnm y (by simp [hy])), o13, o14, rfl⟩ : wldL.rep _ _ x.cut _)) (And.intro (show Fresh w.heap.size w7 (g10 ++ ([] ++ (g12 ++ []))) from (HFe.out.chg hc).sub hsub) (And.intro (show Chg [] w w7 from G4.out.trans hc (fun y hy => .inr (by rw [List.mem_singleton] at hy; omega))) (show w.heap.size + 1 ∉ g10 ++ ([] ++ (g12 ++ [])) from fun hy => by have := HFn.out _ (hsub.subset hy); omega))))
          have HRR := Lib.hid hR.out; have HMR := Lib.hid (show w7.heap[w3.heap.size]? = some (.cells #[.int .i64 x.shape.groups, .int .i64 x.shape.column, .int .i64 x.shape.data, .int .i64 x.shape.spare, .int .i64 x.shape.rows, .int .i64 x.shape.cap, .int .i64 x.shape.batch, .int .i64 x.shape.queue, .int .i64 x.shape.stage, .slice p10 m10 d10, .slice none 0 0, .slice p12 m12 d12, .int .i64 x.writes, .int .i64 x.stop, .bool true] 40 (0, 0)) from hm)
          clear o1 o2 o3 o4 o5 o6 o7 o8 o9 o13 o14 hc hnm hsub hm cm nm fm
          go_wp2_with (first | (refine load_wide rfl _ 40 rfl rfl infoWd Tryz.underlying40 HMR.out rfl ?_) | (refine store_wide rfl _ _ 48 rfl rfl rfl infoWR HRR.out rfl rfl rfl ?_; intro w9 hb9 hc9; have HB9 := Lib.hid hb9; have HC9 := Lib.hid hc9; clear hb9 hc9))
          refine bodyPost_ret (v := .agg #[.int .i64 (9), .int .i64 x.shape.groups, .int .i64 x.shape.column, .int .i64 x.shape.data, .int .i64 x.shape.spare, .int .i64 x.shape.rows, .int .i64 x.shape.cap, .int .i64 x.shape.batch, .int .i64 x.shape.queue, .int .i64 x.shape.stage, .slice p10 m10 d10, .slice none 0 0, .slice p12 m12 d12, .int .i64 x.writes, .int .i64 x.stop, .bool true]) (results_wide _ _ Tryz.results37 rfl infoWR Tryz.underlying48 HB9.out rfl) rfl (fin9 (9) (⟨by omega, by omega⟩) (trustR x g d) (trustR_fail hf0 ⟨hg, hd⟩ hon HST.out) HE.out.1 rfl HE.out.2.1 HE.out.2.2.1 HC9.out HE.out.2.2.2 (by omega))
        · have HST := Lib.hid hst; clear hst
          obtain ⟨tg, rfl⟩ : ∃ t : Nat, g = t := ⟨g.toNat, by omega⟩
          obtain ⟨td, rfl⟩ : ∃ t : Nat, d = t := ⟨d.toNat, by omega⟩
          have htg : tg < m10 := by have h1 := HKe.out.1.1; have h2 := HBT.out.1; omega
          obtain ⟨-, b, off, -, -, -, -, -, rfl, -, -⟩ := slc_at HKe.out.1 htg
          have nd := List.nodup_append.1 HFe.out.1
          obtain ⟨G, A, l, C, f, hGx, hcx, hGS, hfs, hfn, hbf, hb10, hup⟩ := slc_mod HKe.out.1 nd.1 htg
          have htd : td < l := by have h1 := hGS.1; have h2 := (HBT.out.2 G (List.mem_of_getElem? hGx)).1; omega
          obtain ⟨D, b2, off2, a2, l2, c2, f2, HY, rfl, hy0, hy1, -⟩ := drive_at hGS htd
          have hb2 : b2 ∈ f := HY.out.2.1
          have hDx := HY.out.1
          have hb2m := HFl.out b2 (by simp [hfs b2 hb2]); have hbm := HFl.out b (by simp [hb10]); have hbn2 := HFn.out b2 (by simp [hfs b2 hb2])
          have hbl : b < w4.heap.size := Nat.lt_trans hbm nm; have hbl2 : b2 < w4.heap.size := Nat.lt_trans hb2m nm
          have hlo := (HFe.out.2 b2 (by simp [hfs b2 hb2])).2
          have hsto : x.stop = -1 ∨ x.stop ≠ -1 ∧ x.writes < x.stop := by have := HST.out; omega
          have hmb2 : ¬ w3.heap.size = b2 := by omega
          have hbb2 : ¬ b = b2 := fun e => hbf (e ▸ hb2)
          have hltg : ∀ y ∈ g10, y < w4.heap.size := fun y hy => Nat.lt_trans (HFl.out y (by simp [hy])) nm
          have hnmm : ∀ y ∈ g10 ++ (g11 ++ (g12 ++ [])), y ≠ w3.heap.size := fun y hy e => by have := HFl.out y hy; omega
          have HM2 := Lib.hid (show w4.heap[w3.heap.size]? = some (.cells #[.int .i64 x.shape.groups, .int .i64 x.shape.column, .int .i64 x.shape.data, .int .i64 x.shape.spare, .int .i64 x.shape.rows, .int .i64 x.shape.cap, .int .i64 x.shape.batch, .int .i64 x.shape.queue, .int .i64 x.shape.stage, .slice (some ⟨b, off, none⟩) m10 d10, .slice p11 m11 d11, .slice p12 m12 d12, .int .i64 x.writes, .int .i64 x.stop, .bool false] 40 (0, 0)) from by have h := HM.out; rw [hdn.out] at h; exact h)
          have HRAW := Lib.hid (show Calls Tryz.prog 92 #[.pointer (some ⟨w3.heap.size, 0, none⟩)] w4 fun e w' => e = .returned (.bool true) ∧ w' = w4.drew.setCell ⟨w3.heap.size, 12, none⟩ (.int .i64 (x.writes + 1)) from by rcases hsto with h | h; exact l5Raw_ok1 w3.heap.size w4 HM2.out h HNU.out.1; exact l5Raw_ok2 w3.heap.size w4 HM2.out h HNU.out.1)
          go_wp2_with fail
          refine HRAW.out.mono ?_
          rintro e w6 ⟨rfl, hw6⟩
          have hm6 : w6.heap[w3.heap.size]? = some (.cells #[.int .i64 x.shape.groups, .int .i64 x.shape.column, .int .i64 x.shape.data, .int .i64 x.shape.spare, .int .i64 x.shape.rows, .int .i64 x.shape.cap, .int .i64 x.shape.batch, .int .i64 x.shape.queue, .int .i64 x.shape.stage, .slice (some ⟨b, off, none⟩) m10 d10, .slice p11 m11 d11, .slice p12 m12 d12, .int .i64 (x.writes + 1), .int .i64 x.stop, .bool x.down] 40 (0, 0)) := by rw [hw6]; exact heap_set_lit (cur := #[.int .i64 x.shape.groups, .int .i64 x.shape.column, .int .i64 x.shape.data, .int .i64 x.shape.spare, .int .i64 x.shape.rows, .int .i64 x.shape.cap, .int .i64 x.shape.batch, .int .i64 x.shape.queue, .int .i64 x.shape.stage, .slice (some ⟨b, off, none⟩) m10 d10, .slice p11 m11 d11, .slice p12 m12 d12, .int .i64 x.writes, .int .i64 x.stop, .bool x.down]) (keep_drew HM.out) rfl
          have hc6 : Chg [w3.heap.size] w4 w6 := by rw [hw6]; exact ((Chg.refl _ _).drew).setCell _ _ (.inl (by simp))
          clear hw6 cm nm fm
          have cm := cellsOf hm6; have nm := ltOf hm6; have fm := freeOf hm6
          have hcx6 := cellKeep2 hc6 hcx hbl (fun h => hnmm b (by simp [hb10]) (List.mem_singleton.1 h)); have hy6 := cellKeep2 hc6 hy0 hbl2 (fun h => hmb2 (List.mem_singleton.1 h).symm)
          have hf6 := (hc6.loose b2 hlo).free; have hbl6 : b < w6.heap.size := Nat.lt_of_lt_of_le hbl hc6.size; have hbl26 : b2 < w6.heap.size := Nat.lt_of_lt_of_le hbl2 hc6.size
          have hcW : Chg [b2, w3.heap.size] w4 (w6.setCell ⟨b2, off2 + td * 2, none⟩ (.bool false)) := (hc6.mono (T := [b2, w3.heap.size]) (by simp)).setCell _ _ (.inl (by simp))
          have hin := drive_store0 (drvL.sl_chg hGS hc6 (fun y hy hm => hnmm y (by simp [hfs y hy]) (List.mem_singleton.1 hm))) hfn hDx false
          have hmW : (w6.setCell ⟨b2, off2 + td * 2, none⟩ (.bool false)).heap[w3.heap.size]? = some (.cells #[.int .i64 x.shape.groups, .int .i64 x.shape.column, .int .i64 x.shape.data, .int .i64 x.shape.spare, .int .i64 x.shape.rows, .int .i64 x.shape.cap, .int .i64 x.shape.batch, .int .i64 x.shape.queue, .int .i64 x.shape.stage, .slice (some ⟨b, off, none⟩) m10 d10, .slice p11 m11 d11, .slice p12 m12 d12, .int .i64 (x.writes + 1), .int .i64 x.stop, .bool x.down] 40 (0, 0)) := keep_set hm6 _ _ hmb2
          obtain ⟨fp', hS, hnd, hsub⟩ := hup (w6.setCell ⟨b2, off2 + td * 2, none⟩ (.bool false)) (G.set td { D with wiped := false }) f hin hfn (fun y hy => .inl hy) (fun y hy hyf => hcW.block y (hltg y hy) (fun hm => by simp only [List.mem_cons, List.not_mem_nil, or_false] at hm; rcases hm with h | h; exact hyf (h ▸ hb2); exact hnmm y (by simp [hy]) h))
          have hsub2 : ∀ y ∈ fp', y ∈ g10 := fun y hy => by rcases hsub y hy with ⟨h, -⟩ | h; exact h; exact hfs y h
          have hb210 := hfs b2 hb2
          have hn11 : ∀ y ∈ g11, y ∉ [b2, w3.heap.size] := fun y hy hm => by simp only [List.mem_cons, List.not_mem_nil, or_false] at hm; rcases hm with h | h; exact nd.2.2 b2 hb210 y (by simp [hy]) h.symm; exact hnmm y (by simp [hy]) h
          have hn12 : ∀ y ∈ g12, y ∉ [b2, w3.heap.size] := fun y hy hm => by simp only [List.mem_cons, List.not_mem_nil, or_false] at hm; rcases hm with h | h; exact nd.2.2 b2 hb210 y (by simp [hy]) h.symm; exact hnmm y (by simp [hy]) h
          obtain ⟨o1, o2, o3, o4, o5, o6, o7, o8, o9, o13, o14⟩ := HO.out
          have ow : i64ok (x.writes + 1) := by have := HNU.out.1; constructor <;> omega
          have hall : ∀ y ∈ fp' ++ (g11 ++ (g12 ++ [])), y ∈ g10 ++ (g11 ++ (g12 ++ [])) := fun y hy => by rcases List.mem_append.1 hy with h | h; exact List.mem_append.2 (.inl (hsub2 y h)); exact List.mem_append.2 (.inr h)
          have HE := Lib.hid (And.intro (show wldL.rep (w6.setCell ⟨b2, off2 + td * 2, none⟩ (.bool false)) [.int .i64 x.shape.groups, .int .i64 x.shape.column, .int .i64 x.shape.data, .int .i64 x.shape.spare, .int .i64 x.shape.rows, .int .i64 x.shape.cap, .int .i64 x.shape.batch, .int .i64 x.shape.queue, .int .i64 x.shape.stage, .slice (some ⟨b, off, none⟩) m10 d10, .slice p11 m11 d11, .slice p12 m12 d12, .int .i64 (x.writes + 1), .int .i64 x.stop, .bool x.down] _ _ from (wldL_iff.2 ⟨_, m10, d10, fp', p11, m11, d11, g11, p12, m12, d12, g12, rfl, o1, o2, o3, o4, o5, o6, o7, o8, o9, hS, intL.sl_chg HKe.out.2.1 hcW hn11, tapL.sl_chg HKe.out.2.2 hcW hn12, ow, o14, rfl⟩ : wldL.rep _ _ ({ x with groups := x.groups.set tg (G.set td { D with wiped := false }), writes := x.writes + 1 }) _)) (And.intro (show Fresh w.heap.size (w6.setCell ⟨b2, off2 + td * 2, none⟩ (.bool false)) (fp' ++ (g11 ++ (g12 ++ []))) from (HFe.out.chg hcW).swap1 hnd (fun y hy => .inl (hsub2 y hy))) (And.intro (show Chg [] w (w6.setCell ⟨b2, off2 + td * 2, none⟩ (.bool false)) from G4.out.trans hcW (fun y hy => .inr (by have := G2.out.size; simp only [List.mem_cons, List.not_mem_nil, or_false] at hy; omega))) (show w.heap.size + 1 ∉ fp' ++ (g11 ++ (g12 ++ [])) from fun hy => by have := HFn.out _ (hall _ hy); omega))))
          have HRR := Lib.hid (hcW.keepb A1_4.out (by simp; omega)); have HMR := Lib.hid (show (w6.setCell ⟨b2, off2 + td * 2, none⟩ (.bool false)).heap[w3.heap.size]? = some (.cells #[.int .i64 x.shape.groups, .int .i64 x.shape.column, .int .i64 x.shape.data, .int .i64 x.shape.spare, .int .i64 x.shape.rows, .int .i64 x.shape.cap, .int .i64 x.shape.batch, .int .i64 x.shape.queue, .int .i64 x.shape.stage, .slice (some ⟨b, off, none⟩) m10 d10, .slice p11 m11 d11, .slice p12 m12 d12, .int .i64 (x.writes + 1), .int .i64 x.stop, .bool x.down] 40 (0, 0)) from hmW)
          have HGX := Lib.hid hGx; have HDX := Lib.hid hDx
          clear o1 o2 o3 o4 o5 o6 o7 o8 o9 o13 o14 hcW hn11 hn12 hS hsub hsub2 hnd hall hin hmW hltg hnmm nd hup hGS hfs hfn hbf hb10 hGx hDx ow
          clear hcx hy0 hy1 hlo
          go_upto_region 12 with fail
          go_wp2_with (first | (refine load_wide rfl _ 40 rfl rfl infoWd Tryz.underlying40 HMR.out rfl ?_) | (refine store_wide rfl _ _ 48 rfl rfl rfl infoWR HRR.out rfl rfl rfl ?_; intro w9 hb9 hc9; have HB9 := Lib.hid hb9; have HC9 := Lib.hid hc9; clear hb9 hc9))
          refine bodyPost_ret (v := .agg #[.int .i64 0, .int .i64 x.shape.groups, .int .i64 x.shape.column, .int .i64 x.shape.data, .int .i64 x.shape.spare, .int .i64 x.shape.rows, .int .i64 x.shape.cap, .int .i64 x.shape.batch, .int .i64 x.shape.queue, .int .i64 x.shape.stage, .slice (some ⟨b, off, none⟩) m10 d10, .slice p11 m11 d11, .slice p12 m12 d12, .int .i64 (x.writes + 1), .int .i64 x.stop, .bool x.down]) (results_wide _ _ Tryz.results37 rfl infoWR Tryz.underlying48 HB9.out rfl) rfl (fin9 (0) (i64z) (trustR x tg td) (trustR_ok hf0 ⟨hg, hd⟩ hon HST.out HGX.out HDX.out) HE.out.1 rfl HE.out.2.1 HE.out.2.2.1 HC9.out HE.out.2.2.2 (by omega))
      · go_wp2_with (first | (refine load_wide rfl _ 40 rfl rfl infoWd Tryz.underlying40 A0_2.out rfl ?_))
        refine (l1Has_any a11 l11 c11 x.on f11 g _ (intL.sl_ext H11.out G2.out)).mono ?_
        rintro e w' ⟨rfl, rfl⟩
        rw [pb_false hon]
        go_wp2_with (first | (refine store_wide rfl _ _ 48 rfl rfl rfl infoWR A1_2.out rfl rfl rfl ?_; intro w9 hb9 hc9; have HB9 := Lib.hid hb9; have HC9 := Lib.hid hc9; clear hb9 hc9))
        refine bodyPost_ret (v := .agg #[.int .i64 (8), .int .i64 0, .int .i64 0, .int .i64 0, .int .i64 0, .int .i64 0, .int .i64 0, .int .i64 0, .int .i64 0, .int .i64 0, .slice none 0 0, .slice none 0 0, .slice none 0 0, .int .i64 0, .int .i64 0, .bool false]) (results_wide _ _ Tryz.results37 rfl infoWR Tryz.underlying48 HB9.out rfl) rfl (bad9 (8) (⟨by omega, by omega⟩) (trustR x g d) (trustR_off hf0 ⟨hg, hd⟩ hon) G2.out HC9.out (by omega))
    · have HI := Lib.hid (show (inB g 0 (x.shape.all - 1) && inB d 0 (x.shape.drives - 1) && inB 0 0 (x.shape.rows - 1)) = false by unfold inB; simp; omega)
      go_wp2_with (first | (refine load_wide rfl _ 40 rfl rfl infoWd Tryz.underlying40 A0_1.out rfl ?_))
      refine (l5Place_any x.shape hok g d 0 _).mono ?_
      rintro e w2 ⟨rfl, hc⟩
      rw [HI.out]
      clear c0 n0
      obtain ⟨c0, n0, A0_2⟩ := bk hc A0_1.out (by simp)
      clear c1 n1
      obtain ⟨c1, n1, A1_2⟩ := bk hc A1_1.out (by simp)
      have G2 := Lib.hid (G1.out.trans0 hc)
      clear fz; have fz := freeOf A1_2.out
      clear hc
      go_wp2_with (first | (refine store_wide rfl _ _ 48 rfl rfl rfl infoWR A1_2.out rfl rfl rfl ?_; intro w9 hb9 hc9; have HB9 := Lib.hid hb9; have HC9 := Lib.hid hc9; clear hb9 hc9))
      refine bodyPost_ret (v := .agg #[.int .i64 (3), .int .i64 0, .int .i64 0, .int .i64 0, .int .i64 0, .int .i64 0, .int .i64 0, .int .i64 0, .int .i64 0, .int .i64 0, .slice none 0 0, .slice none 0 0, .slice none 0 0, .int .i64 0, .int .i64 0, .bool false]) (results_wide _ _ Tryz.results37 rfl infoWR Tryz.underlying48 HB9.out rfl) rfl (bad9 (3) (⟨by omega, by omega⟩) (trustR x g d) (trustR_out hf0 hgd) G2.out HC9.out (by omega))
  · have hb : ((q : Int) != 0) = true := by simpa using hq0
    go_wp2_with (first | (refine store_wide rfl _ _ 48 rfl rfl rfl infoWR A1_1.out rfl rfl rfl ?_; intro w9 hb9 hc9; have HB9 := Lib.hid hb9; have HC9 := Lib.hid hc9; clear hb9 hc9))
    refine bodyPost_ret (v := .agg #[.int .i64 (q), .int .i64 0, .int .i64 0, .int .i64 0, .int .i64 0, .int .i64 0, .int .i64 0, .int .i64 0, .int .i64 0, .int .i64 0, .slice none 0 0, .slice none 0 0, .slice none 0 0, .int .i64 0, .int .i64 0, .bool false]) (results_wide _ _ Tryz.results37 rfl infoWR Tryz.underlying48 HB9.out rfl) rfl (bad9 (q) (hqk) (trustR x g d) (by rw [trustR_bad (by rw [← HQ.out]; exact hq0), ← HQ.out]) G1.out HC9.out (by omega))
end Go.Proofs.YtnnhopcjlnnchaaGreat
