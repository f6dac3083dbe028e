/- The walks of the two CauchyG: a table of bytes, row after row. -/
import Derived.Test.YtjoffgndejoecaaRows
import Derived.Test.YtjoffgndejoecaaLsr
import Derived.Test.YtjoffgndejoecaaNum
import Derived.Deep.RegionLaw
namespace Go.Proofs.Ytjoffgndejoecaa
open Go.RowKit

/-- the first t bytes of the table of rows of m bytes -/
def cauT (m t : Nat) : List UInt8 := (List.range t).map (fun x => cau ((x / m : Nat) : Int) ((x % m : Nat) : Int))
theorem cauT_length (m t : Nat) : (cauT m t).length = t := by simp [cauT]
theorem cauT_next {k l m : Nat} (h : l < m) : cauT m (k * m + (l + 1)) = cauT m (k * m + l) ++ [cau (k : Int) (l : Int)] := by
  have h1 : (k * m + l) / m = k := by rw [Nat.mul_comm, Nat.mul_add_div (by omega), Nat.div_eq_of_lt h, Nat.add_zero]
  have h2 : (k * m + l) % m = l := by rw [Nat.mul_comm, Nat.mul_add_mod, Nat.mod_eq_of_lt h]
  rw [← Nat.add_assoc]
  unfold cauT
  rw [List.range_succ, List.map_append]
  simp only [List.map_cons, List.map_nil, h1, h2]
def cauRes (r c : Int) : Int × List UInt8 := if inB r 0 16 && inB c 1 16 then (0, cauT c.toNat (r.toNat * c.toNat)) else (3, [])
theorem cauRes_len (r c : Int) : (cauRes r c).2.length ≤ 256 := by
  unfold cauRes; split
  · rename_i h
    have h1 := inB_true (Bool.and_eq_true_iff.1 h).1
    have h2 := inB_true (Bool.and_eq_true_iff.1 h).2
    show (cauT _ _).length ≤ 256
    rw [cauT_length]
    exact Nat.mul_le_mul (show r.toNat ≤ 16 by omega) (show c.toNat ≤ 16 by omega)
  · simp
theorem head_next {N : Nat} {wr : World} {h h' : Option Nat} (hh : ∀ g, h = some g → N ≤ g) (hN : N ≤ wr.heap.size) (hh' : h' = h ∨ h' = some wr.heap.size) : ∀ g, h' = some g → N ≤ g := by
  intro g hg
  rcases hh' with rfl | rfl
  · exact hh g hg
  · cases hg; exact hN
/-- a new list is stored as a call's result -/
theorem NewRes.store {L : Lay UInt8} {r : Int × List UInt8} {xs : List UInt8} {w wr w2 : World} {o : Obj} {a : Option Addr} {cap : Nat} {fp : List Nat} (hr : r = (0, xs)) (hs : L.sl wr a xs.length cap xs fp)
    (hf : Fresh (w.alloc o).heap.size wr fp) (hc : Chg [] (w.alloc o) wr) (h2 : ∃ v u, w2 = (wr.setCell ⟨w.heap.size, 0, none⟩ v).setCell ⟨w.heap.size, 1, none⟩ u) :
    NewRes L r w (.returned (.agg #[.int .i64 0, .slice a xs.length cap])) w2 := by
  obtain ⟨v, u, rfl⟩ := h2
  have hc2 : Chg [w.heap.size] wr ((wr.setCell ⟨w.heap.size, 0, none⟩ v).setCell ⟨w.heap.size, 1, none⟩ u) := ((Chg.refl _ wr).setCell _ _ (.inl (by simp))).setCell _ _ (.inl (by simp))
  have hfw : ∀ b ∈ fp, b ∉ [w.heap.size] := fun b hb hb' => by have := (hf.2 b hb).1; simp at this hb'; omega
  rw [hr]
  exact ⟨a, cap, fp, rfl, L.sl_chg hs hc2 hfw, (hf.mono (by simp)).chg hc2, (((Chg.refl [] w).alloc _).trans0 hc).trans hc2 (fun x hx => .inr (by simp at hx; omega))⟩


set_option maxRecDepth 100000 in
set_option maxHeartbeats 1000000 in
theorem impl_cauchyG (r c : Int) (w : World) :
    Calls Try.prog 43 #[.int .i64 r, .int .i64 c] w (NewRes byteL (cauRes r c) w) := by
  obtain ⟨K, _⟩ := kindB
  cases h1 : inB r 0 16
  · have HR := Lib.hid (show cauRes r c = (3, []) by rw [cauRes, h1]; rfl)
    have H1 := Lib.hid h1
    clear h1
    go_enter Try.func43, Try.ntmps43
    go_wp2_with (go_at_call 74; refine (inside_any _ _ _ _).mono ?_; rintro e w' ⟨rfl, rfl⟩; rw [H1.out])
    refine bodyPost_ret (v := .agg #[.int .i64 3, .slice none 0 0]) (by simp [results, Try.results43, go_sem]) rfl ?_
    exact NewRes.code byteL HR.out (by repeat (first | exact Chg.refl _ _ | refine Chg.alloc ?_ _))
  · cases h2 : inB c 1 16
    · have HR := Lib.hid (show cauRes r c = (3, []) by rw [cauRes, h1, h2]; rfl)
      have H1 := Lib.hid h1
      have H2 := Lib.hid h2
      clear h1 h2
      go_enter Try.func43, Try.ntmps43
      go_wp2_with (go_at_call 74; refine (inside_any _ _ _ _).mono ?_; rintro e w' ⟨rfl, rfl⟩; first | rw [H1.out] | rw [H2.out])
      refine bodyPost_ret (v := .agg #[.int .i64 3, .slice none 0 0]) (by simp [results, Try.results43, go_sem]) rfl ?_
      exact NewRes.code byteL HR.out (by repeat (first | exact Chg.refl _ _ | refine Chg.alloc ?_ _))
    · obtain ⟨_, _⟩ := inB_true h1
      obtain ⟨_, _⟩ := inB_true h2
      obtain ⟨n, rfl⟩ : ∃ n : Nat, r = n := ⟨r.toNat, by omega⟩
      obtain ⟨m, rfl⟩ : ∃ m : Nat, c = m := ⟨c.toNat, by omega⟩
      have HR := Lib.hid (show cauRes n m = (0, cauT m (n * m)) by rw [cauRes, h1, h2]; rfl)
      have H1 := Lib.hid h1
      have H2 := Lib.hid h2
      clear h1 h2
      go_enter Try.func43, Try.ntmps43
      go_wp2_with (go_at_call 74; refine (inside_any _ _ _ _).mono ?_; rintro e w' ⟨rfl, rfl⟩; first | rw [H1.out] | rw [H2.out])
      have lA := ltOf (new_alloc w (.cells #[.int .i64 0, .slice none 0 0] 45))
      go_loopw [5, 19] (fun v i wr => ∃ (k : Nat) (h : Option Nat), k ≤ n ∧ i = .int .i64 k ∧ byteL.os 5 wr v (cauT m (k * m)) h [] ∧ Chg [] (w.alloc (.cells #[.int .i64 0, .slice none 0 0] 45)) wr ∧ (∀ g, h = some g → w.heap.size + 1 ≤ g)) (fun _ i _ => n - (intOf i).toNat)
      case atStart => exact ⟨0, some (w.heap.size + 1), by omega, rfl, by rw [Nat.zero_mul, show cauT m 0 = [] from rfl]; simpa using byteL.os_made 5 (w.alloc (.cells #[.int .i64 0, .slice none 0 0] 45)) #[] 0 (by simp [maxLen]) rfl, (Chg.refl [] _).alloc _, by simp⟩
      case round =>
        obtain ⟨k, h, hk, rfl, ho, hc, hh⟩ := hrel
        by_cases hlt : k < n
        · have HC := Lib.hid hc; have HO := Lib.hid ho; have HH := Lib.hid hh
          clear hc ho hh
          go_wp2_with fail
          go_loopw [5, 23] (fun v j wr => ∃ (l : Nat) (h : Option Nat), l ≤ m ∧ j = .int .i64 l ∧ byteL.os 5 wr v (cauT m (k * m + l)) h [] ∧ Chg [] (w.alloc (.cells #[.int .i64 0, .slice none 0 0] 45)) wr ∧ (∀ g, h = some g → w.heap.size + 1 ≤ g)) (fun _ j _ => m - (intOf j).toNat)
          case atStart => exact ⟨0, h, by omega, rfl, HO.out, HC.out, HH.out⟩
          case round =>
            obtain ⟨l, h2, hl, rfl, ho, hc, hh⟩ := hrel
            by_cases hlt2 : l < m
            · clear HC HO HH
              have HC := Lib.hid hc; have HO := Lib.hid ho; have HH := Lib.hid hh
              clear hc ho hh
              rename_i wr
              have HE := Lib.hid (cauT_next (k := k) hlt2)
              have HL : RowKit.Hid ((cauT m (k * m + l)).length + [cau (k : Int) (l : Int)].length ≤ maxLen ∧ ((cauT m (k * m + l)).length + [cau (k : Int) (l : Int)].length) * 1 ≤ 140737488355328) := by
                have hkm : k * m ≤ 16 * 16 := Nat.mul_le_mul (by omega) (by omega)
                rw [cauT_length]
                refine ⟨?_, ?_⟩ <;> simp only [List.length_cons, List.length_nil, maxLen] <;> omega
              go_wp2_with (first | (go_at_call 87; refine (cauchy_any _ _ (by omega) (by omega) (by omega) (by omega) _).mono ?_; rintro e w' ⟨rfl, rfl⟩) | (refine byteL.wpList_append rfl _ _ 22 rfl Try.underlying22 K rfl (byteL.os_alloc HO.out _) ⟨wr.heap.size, 0, none⟩ 1 1 [.int .u8 ((cau (k : Int) (l : Int)).toNat : Int)] (ys := [cau (k : Int) (l : Int)]) (f := []) rfl rfl (new_cell _ _ _) (byte_all1 rfl) (by simp) HL.out.1 HL.out.2 ?_; intro v' w' h' ho' hh' hc'; rw [← HE.out] at ho'; have hN := Lib.hid (And.intro ho' (And.intro (head_next HH.out (by have := HC.out.size; simp at this ⊢; omega) hh') (os_chg (fun g hg => by have := HH.out g hg; simpa using this) (HC.out.alloc _) hc'))); clear ho' hh' hc'))
              go_roundw
              case rel => exact ⟨l + 1, _, by omega, by go_num, hN.out.1, hN.out.2.2, hN.out.2.1⟩
              case measure => simp [intOf]; omega
            · have hl2 : l = m := by omega
              subst hl2
              have HN := Lib.hid (And.intro (show byteL.os 5 _ _ (cauT l ((k + 1) * l)) h2 [] by rw [Nat.succ_mul]; exact ho) (And.intro hc hh))
              clear ho hc hh
              go_wp2_with fail
              go_roundw
              case rel => exact ⟨k + 1, h2, by omega, by go_num, HN.out.1, HN.out.2.1, HN.out.2.2⟩
              case measure => simp [intOf]; omega
        · have hkn : k = n := by omega
          subst hkn
          rename_i wr
          have hB := hc.keep0 (new_alloc _ _); have cB := cellsOf hB; have fB := freeOf hB; have lB := ltOf hB
          obtain ⟨a, cap, fp, he, hs, hf, hc⟩ := byteL.os_new ho byte_flat hc (fun g hg => by have := hh g hg; simpa using this)
          cases he
          have HN := Lib.hid (fun w2 => NewRes.store (w2 := w2) HR.out hs hf hc)
          generalize (cauT m (k * m)).length = L at HN ⊢
          clear hs hc hf ho hh hB
          go_wp2_with fail
          refine bodyPost_ret (v := .agg #[.int .i64 0, .slice a L cap]) (by simp [results, Try.results43, go_sem, cB]) rfl ?_
          exact HN.out _ ⟨_, _, rfl⟩


set_option maxRecDepth 100000 in
set_option maxHeartbeats 1000000 in
theorem spec_cauchyG (r c : Int) (w : World) :
    Calls Try.prog 42 #[.int .i64 r, .int .i64 c] w (NewRes byteL (cauRes r c) w) := by
  obtain ⟨K, _⟩ := kindB
  cases h1 : inB r 0 16
  · have HR := Lib.hid (show cauRes r c = (3, []) by rw [cauRes, h1]; rfl)
    have H1 := Lib.hid h1
    clear h1
    go_enter Try.func42, Try.ntmps42
    go_wp2_with (go_at_call 71; refine (l1In_any _ _ _ _).mono ?_; rintro e w' ⟨rfl, rfl⟩; rw [H1.out])
    refine bodyPost_ret (v := .agg #[.int .i64 3, .slice none 0 0]) (by simp [results, Try.results42, go_sem]) rfl ?_
    exact NewRes.code byteL HR.out (by repeat (first | exact Chg.refl _ _ | refine Chg.alloc ?_ _))
  · cases h2 : inB c 1 16
    · have HR := Lib.hid (show cauRes r c = (3, []) by rw [cauRes, h1, h2]; rfl)
      have H1 := Lib.hid h1
      have H2 := Lib.hid h2
      clear h1 h2
      go_enter Try.func42, Try.ntmps42
      go_wp2_with (go_at_call 71; refine (l1In_any _ _ _ _).mono ?_; rintro e w' ⟨rfl, rfl⟩; first | rw [H1.out] | rw [H2.out])
      refine bodyPost_ret (v := .agg #[.int .i64 3, .slice none 0 0]) (by simp [results, Try.results42, go_sem]) rfl ?_
      exact NewRes.code byteL HR.out (by repeat (first | exact Chg.refl _ _ | refine Chg.alloc ?_ _))
    · obtain ⟨_, _⟩ := inB_true h1
      obtain ⟨_, _⟩ := inB_true h2
      obtain ⟨n, rfl⟩ : ∃ n : Nat, r = n := ⟨r.toNat, by omega⟩
      obtain ⟨m, rfl⟩ : ∃ m : Nat, c = m := ⟨c.toNat, by omega⟩
      have HR := Lib.hid (show cauRes n m = (0, cauT m (n * m)) by rw [cauRes, h1, h2]; rfl)
      have H1 := Lib.hid h1
      have H2 := Lib.hid h2
      clear h1 h2
      go_enter Try.func42, Try.ntmps42
      go_wp2_with (go_at_call 71; refine (l1In_any _ _ _ _).mono ?_; rintro e w' ⟨rfl, rfl⟩; first | rw [H1.out] | rw [H2.out])
      go_loopw [6] (fun i wr => ∃ (k : Nat) (h : Option Nat) (v : Value), k ≤ n ∧ i = .int .i64 k ∧ byteL.os 5 wr v (cauT m (k * m)) h [] ∧ Chg [] (w.alloc (.cells #[.int .i64 0, .slice none 0 0] 45)) wr ∧ (∀ g, h = some g → w.heap.size + 2 ≤ g) ∧ wr.heap[w.heap.size + 1]? = some (.cells #[.int .i64 0, v] 45)) (fun i _ => n - (intOf i).toNat)
      case atStart => exact ⟨0, none, .slice none 0 0, by omega, rfl, by rw [Nat.zero_mul]; exact byteL.os_nil _ _, (Chg.refl [] _).alloc _, by simp, new_alloc2 _ _ _⟩
      case round =>
        obtain ⟨k, h, v, hk, rfl, ho, hc, hh, hB⟩ := hrel
        by_cases hlt : k < n
        · have HN := Lib.hid (And.intro ho (And.intro hc (And.intro hh hB)))
          clear ho hc hh hB
          go_wp2_with fail
          go_loopw [7] (fun j wr => ∃ (l : Nat) (h : Option Nat) (v : Value), l ≤ m ∧ j = .int .i64 l ∧ byteL.os 5 wr v (cauT m (k * m + l)) h [] ∧ Chg [] (w.alloc (.cells #[.int .i64 0, .slice none 0 0] 45)) wr ∧ (∀ g, h = some g → w.heap.size + 2 ≤ g) ∧ wr.heap[w.heap.size + 1]? = some (.cells #[.int .i64 0, v] 45)) (fun j _ => m - (intOf j).toNat)
          case atStart => exact ⟨0, h, v, by omega, rfl, HN.out.1, HN.out.2.1, HN.out.2.2.1, HN.out.2.2.2⟩
          case round =>
            clear HN
            rename_i wr
            obtain ⟨l, h2, v2, hl, rfl, ho, hc, hh, hB⟩ := hrel
            by_cases hlt2 : l < m
            · have cB := cellsOf hB; have fB := freeOf hB; have lB := ltOf hB
              have HC := Lib.hid hc; have HO := Lib.hid ho; have HH := Lib.hid hh; have HB := Lib.hid hB
              have HNB := Lib.hid (fun hx => by have := hh (w.heap.size + 1) (by simpa using hx); omega : w.heap.size + 1 ∉ h2.toList)
              clear hc ho hh hB
              have HE := Lib.hid (cauT_next (k := k) hlt2)
              have HL : RowKit.Hid ((cauT m (k * m + l)).length + [cau (k : Int) (l : Int)].length ≤ maxLen ∧ ((cauT m (k * m + l)).length + [cau (k : Int) (l : Int)].length) * 1 ≤ 140737488355328) := by
                have hkm : k * m ≤ 16 * 16 := Nat.mul_le_mul (by omega) (by omega)
                rw [cauT_length]
                refine ⟨?_, ?_⟩ <;> simp only [List.length_cons, List.length_nil, maxLen] <;> omega
              go_wp2_with fail
              go_region_law (first | (go_simp; go_at_call 72; refine (l1Cauchy_any _ _ (by omega) (by omega) (by omega) (by omega) _).mono ?_; rintro e w' ⟨rfl, rfl⟩) | (refine byteL.step_append rfl _ _ 22 rfl Try.underlying22 K rfl (byteL.os_alloc (byteL.os_drew HO.out) _) ⟨wr.heap.size, 0, none⟩ 1 1 [.int .u8 ((cau (k : Int) (l : Int)).toNat : Int)] (ys := [cau (k : Int) (l : Int)]) (f := []) rfl rfl (new_cell _ _ _) (byte_all1 rfl) (by simp) HL.out.1 HL.out.2 ?_; intro v' w' h' ho' hh' hc'; obtain ⟨a', L', cap', hv'⟩ : ∃ a L c, v' = .slice a L c := by { obtain ⟨a, c, h⟩ := byteL.os_len ho'; exact ⟨_, _, _, h⟩ }; subst hv'; have hB' := hc'.keepb (keep_alloc (w := wr.drew) HB.out _) HNB.out; clear cB fB lB; have cB := cellsOf hB'; have fB := freeOf hB'; have lB := ltOf hB'; have HB' := Lib.hid hB'; clear hB'))
              all_goals
                rw [← HE.out] at ho'
                have hH := head_next HH.out (by have := ltOf HB.out; simp; omega) hh'
                have hC := os_chg (fun g hg => by have := HH.out g hg; simp; omega) (HC.out.drew.alloc _) hc'
                have hN := Lib.hid (And.intro ho' (And.intro hH hC))
                clear ho' hh' hc' hH hC
                go_wp2
                go_roundw
                case rel => exact ⟨l + 1, _, _, by omega, by go_num, byteL.os_chg hN.out.1 ((Chg.refl [w.heap.size + 1] _).setCell _ _ (.inl (by simp))) (fun g hg => by have := hN.out.2.1 g hg; simp; omega) (by simp), hN.out.2.2.setCell _ _ (.inr (by simp)), hN.out.2.1, heap_setCell_same HB'.out⟩
                case measure => simp [intOf]; omega
            · have hl2 : l = m := by omega
              subst hl2
              have HN := Lib.hid (And.intro (show byteL.os 5 _ _ (cauT l ((k + 1) * l)) h2 [] by rw [Nat.succ_mul]; exact ho) (And.intro hc (And.intro hh hB)))
              clear ho hc hh hB
              go_wp2_with fail
              go_roundw
              case rel => exact ⟨k + 1, h2, v2, by omega, by go_num, HN.out.1, HN.out.2.1, HN.out.2.2.1, HN.out.2.2.2⟩
              case measure => simp [intOf]; omega
        · have hkn : k = n := by omega
          subst hkn
          have hA := hc.keep0 (new_alloc _ _); have cA := cellsOf hA; have fA := freeOf hA; have lA := ltOf hA
          have cB := cellsOf hB; have fB := freeOf hB; have lB := ltOf hB
          obtain ⟨a, cap, fp, he, hs, hf, hc⟩ := byteL.os_new ho byte_flat hc (fun g hg => by have := hh g hg; simp; omega)
          cases he
          have HN := Lib.hid (fun w2 => NewRes.store (w2 := w2) HR.out hs hf hc)
          generalize (cauT m (k * m)).length = L at HN cB ⊢
          clear hs hc hf ho hh hB hA
          go_wp2_with fail
          refine bodyPost_ret (v := .agg #[.int .i64 0, .slice a L cap]) (by simp [results, Try.results42, go_sem, cA, cB]) rfl ?_
          exact HN.out _ ⟨_, _, rfl⟩


end Go.Proofs.Ytjoffgndejoecaa
