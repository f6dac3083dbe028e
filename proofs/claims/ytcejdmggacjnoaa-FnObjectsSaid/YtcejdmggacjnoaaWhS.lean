
/- The laws' helpers at structures of the world. -/
import Derived.Test.YtcejdmggacjnoaaRows
import Derived.Test.YtcejdmggacjnoaaWhT
import Derived.Test.YtcejdmggacjnoaaPut
namespace Go.Proofs.Ytcejdmggacjnoaa
open Go.RowKit

theorem i64z : i64ok 0 := ⟨by omega, by omega⟩
theorem maxz : (⟨#[]⟩ : ByteArray).size ≤ maxLen := by unfold maxLen; show 0 ≤ _; omega
theorem nil_sl0 {α : Type} (L : Lay α) (w : World) : L.sl w none 0 0 [] [] := ⟨rfl, Nat.le_refl _, by unfold maxLen; omega, fun _ => rfl, .inl ⟨rfl, rfl⟩⟩
theorem loose_setCells {b y : Nat} : ∀ (vs : List Value) (o : Nat) (w : World), Loose w y → Loose (w.setCells b o vs) y := by
  intro vs
  induction vs with
  | nil => intro o w h; exact h
  | cons v vs ih => intro o w h; exact ih (o + 1) _ (h.setCell ⟨b, o, none⟩ v)
theorem copyE_next {α : Type} {xs : List α} {k n : Nat} {x z : α} (hx : xs[k]? = some x) (hn : n = xs.length) : (xs.take k ++ List.replicate (n - k) z).set k x = xs.take (k + 1) ++ List.replicate (n - (k + 1)) z := by
  have hk := (List.getElem?_eq_some_iff.1 hx).1
  have hl : (xs.take k).length = k := by rw [List.length_take]; omega
  rw [List.set_append_right _ _ (by omega), hl, Nat.sub_self, take_next hx, show n - k = (n - (k + 1)) + 1 by omega, List.replicate_succ, List.set_cons_zero]
  simp


theorem block_at {w : World} {a : Option Addr} {len cap : Nat} {xs : List Blk} {fp : List Nat} (h : blkL.sl w a len cap xs fp) {i : Nat} (hi : i < len) :
    ∃ (x : Blk) (b off : Nat) (a1 : Option Addr) (l1 c1 : Nat) (f : List Nat), RowKit.Hid (xs[i]? = some x ∧ b ∈ fp ∧ (∀ y ∈ f, y ∈ fp)) ∧ a = some ⟨b, off, none⟩ ∧ w.cell? ⟨b, off + i * 2, none⟩ = some (.int .i64 x.stamp) ∧ w.cell? ⟨b, off + i * 2 + 1, none⟩ = some (.slice a1 l1 c1) ∧ RowKit.Hid (blkL.rep w [.int .i64 x.stamp, .slice a1 l1 c1] x f) := by
  obtain ⟨x, b, off, c, f, hx, ha, hb, hc, hr, hf⟩ := blkL.sl_at h hi
  obtain ⟨a1, l1, c1, _, ex, -⟩ := blkL_iff.1 hr
  subst ex
  refine ⟨x, b, off, a1, l1, c1, f, ⟨hx, hb, hf⟩, ha, hc 0 (by decide), hc 1 (by decide), hr⟩


def zBlk : Blk := ⟨0, []⟩
theorem zBlk_rep (w : World) : blkL.rep w (.agg #[.int .i64 0, .slice none 0 0] : Value).cells.toList zBlk [] := blkL_iff.2 ⟨none, 0, 0, [], rfl, i64z, nil_sl0 _ _, rfl⟩
theorem drive_at {w : World} {a : Option Addr} {len cap : Nat} {xs : List Drv} {fp : List Nat} (h : drvL.sl w a len cap xs fp) {i : Nat} (hi : i < len) :
    ∃ (x : Drv) (b off : Nat) (a1 : Option Addr) (l1 c1 : Nat) (f : List Nat), RowKit.Hid (xs[i]? = some x ∧ b ∈ fp ∧ (∀ y ∈ f, y ∈ fp)) ∧ a = some ⟨b, off, none⟩ ∧ w.cell? ⟨b, off + i * 2, none⟩ = some (.bool x.wiped) ∧ w.cell? ⟨b, off + i * 2 + 1, none⟩ = some (.slice a1 l1 c1) ∧ RowKit.Hid (drvL.rep w [.bool x.wiped, .slice a1 l1 c1] x f) := by
  obtain ⟨x, b, off, c, f, hx, ha, hb, hc, hr, hf⟩ := drvL.sl_at h hi
  obtain ⟨a1, l1, c1, _, ex, -⟩ := drvL_iff.1 hr
  subst ex
  refine ⟨x, b, off, a1, l1, c1, f, ⟨hx, hb, hf⟩, ha, hc 0 (by decide), hc 1 (by decide), hr⟩


def zDrv : Drv := ⟨false, []⟩
theorem zDrv_rep (w : World) : drvL.rep w (.agg #[.bool false, .slice none 0 0] : Value).cells.toList zDrv [] := drvL_iff.2 ⟨none, 0, 0, [], rfl, nil_sl0 _ _, rfl⟩
theorem rec_at {w : World} {a : Option Addr} {len cap : Nat} {xs : List Rec} {fp : List Nat} (h : recL.sl w a len cap xs fp) {i : Nat} (hi : i < len) :
    ∃ (x : Rec) (b off : Nat) (a6 : Option Addr) (l6 c6 : Nat) (a7 : Option Addr) (l7 c7 : Nat) (a8 : Option Addr) (l8 c8 : Nat) (f : List Nat), RowKit.Hid (xs[i]? = some x ∧ b ∈ fp ∧ (∀ y ∈ f, y ∈ fp)) ∧ a = some ⟨b, off, none⟩ ∧ w.cell? ⟨b, off + i * 9, none⟩ = some (.int .i64 x.kind) ∧ w.cell? ⟨b, off + i * 9 + 1, none⟩ = some (.int .i64 x.seq) ∧ w.cell? ⟨b, off + i * 9 + 2, none⟩ = some (.string x.name) ∧ w.cell? ⟨b, off + i * 9 + 3, none⟩ = some (.int .i64 x.length) ∧ w.cell? ⟨b, off + i * 9 + 4, none⟩ = some (.int .i64 x.group) ∧ w.cell? ⟨b, off + i * 9 + 5, none⟩ = some (.int .i64 x.row) ∧ w.cell? ⟨b, off + i * 9 + 6, none⟩ = some (.slice a6 l6 c6) ∧ w.cell? ⟨b, off + i * 9 + 7, none⟩ = some (.slice a7 l7 c7) ∧ w.cell? ⟨b, off + i * 9 + 8, none⟩ = some (.slice a8 l8 c8) ∧ RowKit.Hid (recL.rep w [.int .i64 x.kind, .int .i64 x.seq, .string x.name, .int .i64 x.length, .int .i64 x.group, .int .i64 x.row, .slice a6 l6 c6, .slice a7 l7 c7, .slice a8 l8 c8] x f) := by
  obtain ⟨x, b, off, c, f, hx, ha, hb, hc, hr, hf⟩ := recL.sl_at h hi
  obtain ⟨a6, l6, c6, _, a7, l7, c7, _, a8, l8, c8, _, ex, -⟩ := recL_iff.1 hr
  subst ex
  refine ⟨x, b, off, a6, l6, c6, a7, l7, c7, a8, l8, c8, f, ⟨hx, hb, hf⟩, ha, hc 0 (by decide), hc 1 (by decide), hc 2 (by decide), hc 3 (by decide), hc 4 (by decide), hc 5 (by decide), hc 6 (by decide), hc 7 (by decide), hc 8 (by decide), hr⟩


def zRec : Rec := ⟨0, 0, ⟨#[]⟩, 0, 0, 0, [], [], []⟩
theorem zRec_rep (w : World) : recL.rep w (.agg #[.int .i64 0, .int .i64 0, .string ⟨#[]⟩, .int .i64 0, .int .i64 0, .int .i64 0, .slice none 0 0, .slice none 0 0, .slice none 0 0] : Value).cells.toList zRec [] := recL_iff.2 ⟨none, 0, 0, [], none, 0, 0, [], none, 0, 0, [], rfl, i64z, i64z, maxz, i64z, i64z, i64z, nil_sl0 _ _, nil_sl0 _ _, nil_sl0 _ _, rfl⟩
theorem tape_at {w : World} {a : Option Addr} {len cap : Nat} {xs : List Tap} {fp : List Nat} (h : tapL.sl w a len cap xs fp) {i : Nat} (hi : i < len) :
    ∃ (x : Tap) (b off : Nat) (a1 : Option Addr) (l1 c1 : Nat) (f : List Nat), RowKit.Hid (xs[i]? = some x ∧ b ∈ fp ∧ (∀ y ∈ f, y ∈ fp)) ∧ a = some ⟨b, off, none⟩ ∧ w.cell? ⟨b, off + i * 2, none⟩ = some (.bool x.wiped) ∧ w.cell? ⟨b, off + i * 2 + 1, none⟩ = some (.slice a1 l1 c1) ∧ RowKit.Hid (tapL.rep w [.bool x.wiped, .slice a1 l1 c1] x f) := by
  obtain ⟨x, b, off, c, f, hx, ha, hb, hc, hr, hf⟩ := tapL.sl_at h hi
  obtain ⟨a1, l1, c1, _, ex, -⟩ := tapL_iff.1 hr
  subst ex
  refine ⟨x, b, off, a1, l1, c1, f, ⟨hx, hb, hf⟩, ha, hc 0 (by decide), hc 1 (by decide), hr⟩


def zTap : Tap := ⟨false, []⟩
theorem zTap_rep (w : World) : tapL.rep w (.agg #[.bool false, .slice none 0 0] : Value).cells.toList zTap [] := tapL_iff.2 ⟨none, 0, 0, [], rfl, nil_sl0 _ _, rfl⟩
end Go.Proofs.Ytcejdmggacjnoaa
