
/- Parts of slices; EqualFunc over lists of bytes. -/
import Derived.Test.YtcejdmggacjnoaaRows
import Derived.Test.YtcejdmggacjnoaaSam
import Derived.Test.YtcejdmggacjnoaaBss
namespace Go.Proofs.Ytcejdmggacjnoaa
open Go.RowKit

theorem Lay.sl_take {α : Type} (L : Lay α) {w : World} {a : Option Addr} {len cap : Nat} {xs : List α} {fp : List Nat} (h : L.sl w a len cap xs fp) {n : Nat} (hn : n ≤ len) :
    ∃ f', (∀ b ∈ f', b ∈ fp) ∧ L.sl w a n cap (xs.take n) f' := by
  obtain ⟨h1, h2, h3, h4, ⟨rfl, rfl⟩ | ⟨b, off, cur, E, fr, fps, rfl, hb, hall, rfl⟩⟩ := h
  · simp only [List.length_nil] at h1
    obtain rfl : n = 0 := by omega
    exact ⟨[], by simp, rfl, by omega, h3, h4, .inl ⟨rfl, rfl⟩⟩
  · have hsp : L.all w ((cur.toList.drop off).take (len * L.n)) (xs.take n ++ xs.drop n) fps := by rw [List.take_append_drop]; exact hall
    obtain ⟨f1, f2, rfl, k1, k2⟩ := L.all_split hsp
    have hl : (xs.take n).length = n := by rw [List.length_take]; omega
    rw [hl, List.take_take, Nat.min_eq_left (Nat.mul_le_mul_right _ hn)] at k1
    exact ⟨b :: f1, by intro x hx; rcases List.mem_cons.1 hx with rfl | hx <;> simp [*], hl.symm, by omega, h3, h4, .inr ⟨b, off, cur, E, fr, f1, rfl, hb, k1, rfl⟩⟩
theorem Lay.sl_drop {α : Type} (L : Lay α) {w : World} {b off len cap : Nat} {xs : List α} {fp : List Nat} (h : L.sl w (some ⟨b, off, none⟩) len cap xs fp) {n : Nat} (hn : n ≤ len) :
    ∃ f', (∀ b ∈ f', b ∈ fp) ∧ L.sl w (some ⟨b, off + n * L.n, none⟩) (len - n) (cap - n) (xs.drop n) f' := by
  obtain ⟨h1, h2, h3, h4, ⟨rfl, rfl⟩ | ⟨b', off', cur, E, fr, fps, ha, hb, hall, rfl⟩⟩ := h
  · simp only [List.length_nil] at h1
    obtain rfl : n = 0 := by omega
    exact ⟨[], by simp, by simp; omega, by omega, by omega, (fun h => by cases h), .inl ⟨by simp, rfl⟩⟩
  · cases ha
    have hsp : L.all w ((cur.toList.drop off).take (len * L.n)) (xs.take n ++ xs.drop n) fps := by rw [List.take_append_drop]; exact hall
    obtain ⟨f1, f2, rfl, k1, k2⟩ := L.all_split hsp
    have hl : (xs.take n).length = n := by rw [List.length_take]; omega
    rw [hl, List.drop_take, List.drop_drop, ← Nat.sub_mul] at k2
    exact ⟨b :: f2, by intro x hx; rcases List.mem_cons.1 hx with rfl | hx <;> simp [*], by rw [List.length_drop]; omega, by omega, by omega, (fun h => by cases h), .inr ⟨b, _, cur, E, fr, f2, rfl, hb, k2, rfl⟩⟩
theorem Lay.sl_none {α : Type} (L : Lay α) (w : World) (a : Option Addr) : L.sl w a 0 0 [] [] := ⟨rfl, by omega, by simp [maxLen], fun _ => rfl, .inl ⟨rfl, rfl⟩⟩

end Go.Proofs.Ytcejdmggacjnoaa
