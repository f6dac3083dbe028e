
/- A slice that a call owns, grown by zero elements: 'append(xs, make([]T, n)...)'. No function of the program in sight. -/
import Derived.Lib.AppendZeros
import Derived.Lib.AppendZerosOnto
import Derived.Test.YtcejdmggacjnoaaGrw
namespace Go.Proofs.Ytcejdmggacjnoaa
open Go.RowKit

section
variable {α : Type} (L : Lay α) {P : Program} {E : TypeId} {bytes : Nat} {w : World} {v : Value} {xs : List α} {h : Option Nat} {fps : List Nat}
theorem zeros_all {z : Value} {x0 : α} (K : L.n = z.cells.size) (hz : ∀ w : World, L.rep w z.cells.toList x0 []) (w : World) (k : Nat) : L.all w (Builtin.zeroCells z.cells k).toList (List.replicate k x0) [] := by
  have := L.all_zrow w (hz w) k
  unfold zrow at this
  rw [K] at this
  exact this
theorem Lay.run_appendZ {x0 : α} {kq kn : IntKind} (t tn ty : TypeId) (ht : P.underlying t = some (.slice E)) (htn : P.underlying tn = some (.int kn)) (K : Kind P E L.n bytes) (hz : ∀ w : World, L.rep w K.z.cells.toList x0 []) (ho : L.os E w v xs h fps)
    (k : Nat) (h63 : xs.length + k ≤ maxLen) (hbytes : (xs.length + k) * bytes ≤ 140737488355328) :
    ∃ v' w' h', (Builtin.append_ #[t, tn] ty #[v, .int kq k]).run P w = .ok v' w' ∧ L.os E w' v' (xs ++ List.replicate k x0) h' fps ∧ (h' = h ∨ h' = some w.heap.size) ∧ Chg h.toList w w' := by
  have hsmall : xs.length + k ≤ 9223372036854775807 := by simp only [maxLen] at h63; omega
  have hpos : 0 < K.i.size := by rw [K.size]; exact L.pos
  have hbytes' : (xs.length + k) * K.i.bytes ≤ 140737488355328 := by rw [K.byt]; exact hbytes
  have hkb : k * K.i.bytes ≤ 140737488355328 := Nat.le_trans (Nat.mul_le_mul_right _ (by omega)) hbytes'
  have hw : IntKind.i64.wrap (k : Int) = k := by rw [IntKind.wrap_i64]; omega
  have h48i : ¬ (281474976710656 < (k : Int) * (K.i.bytes : Int)) := by rw [← Int.natCast_mul]; omega
  have hw0 : IntKind.i64.wrap (0 : Int) = 0 := by rw [IntKind.wrap_i64]; rfl
  have hneg : ¬ ((k : Int) < 0) := by omega
  have hZ := zeros_all L K.zc.symm hz
  rcases ho with ⟨rfl, rfl, rfl, rfl⟩ | ⟨g, cap, cur, rfl, rfl, hg, hnc, hcm, hcs, hold, hgf⟩
  · by_cases hk : k = 0
    · subst hk
      refine ⟨.slice none 0 0, w, none, ?_, L.os_nil E w, .inl rfl, Chg.refl _ _⟩
      simp [Builtin.append_, run_underlying ht, run_underlying htn, sizeOf, typeInfo, K.info, asInt, asIntOf, hw0]
    · have hr := Lib.run_append_nil_zeros (P := P) w t tn ty E K.i K.z kq kn ht htn K.info K.zero k (by omega) hpos (by simp at hsmall; omega) (by omega)
      refine ⟨_, _, some w.heap.size, hr, ?_, .inr rfl, ((Chg.refl _ w).drew).alloc _⟩
      refine .inr ⟨w.heap.size, grownCap w k 0 E, _, by simp, rfl, new_alloc w.drew _, by simpa using grownCap_ge w k 0 E, by simpa using grownCap_le_maxLen w k 0 E (by simpa using h63), ?_, ?_, by simp⟩
      · have hge := grownCap_ge w k 0 E
        simp only [Array.size_append, size_zeroCells, K.zc, ← Nat.add_mul]
        congr 1
        omega
      · have hl := L.all_len (hZ w k)
        rw [List.length_replicate] at hl
        simp only [List.nil_append, Array.toList_append, List.length_replicate]
        rw [← hl, List.take_left]
        exact hZ _ k
  · have hold' := L.all_len hold
    by_cases hroom : xs.length + k ≤ cap
    · by_cases hk : k = 0
      · subst hk
        refine ⟨.slice (some ⟨g, 0, none⟩) xs.length cap, w, some g, ?_, ?_, .inl rfl, Chg.refl _ _⟩
        rotate_left
        · rw [List.replicate_zero, List.append_nil]
          exact .inr ⟨g, cap, cur, rfl, rfl, hg, hnc, hcm, hcs, hold, hgf⟩
        · simp [Builtin.append_, run_underlying ht, run_underlying htn, sizeOf, typeInfo, K.info, asInt, asIntOf, hw0, hnc, storeCells]
      · have hns : ¬ (k * K.i.size = 0) := Nat.mul_ne_zero hk (by omega)
        have hl := L.all_len (hZ w k)
        rw [List.length_replicate] at hl
        have hfit : xs.length * K.i.size + (Builtin.zeroCells K.z.cells k).toList.length ≤ cur.size := by rw [K.size, hl, hcs, ← Nat.add_mul]; exact Nat.mul_le_mul_right _ hroom
        have hst := run_storeCells_at P g (xs.length * K.i.size) E (Builtin.zeroCells K.z.cells k).toList 0 cur w hg (by simpa using hfit) (L.all_one (hZ w k))
        simp only [Nat.add_zero] at hst
        have hlt := ltOf hg
        have hgs : ∀ b, b ≠ g → (w.setRow g (cur.toList.take (xs.length * K.i.size) ++ (Builtin.zeroCells K.z.cells k).toList ++ cur.toList.drop (xs.length * K.i.size + (Builtin.zeroCells K.z.cells k).toList.length)).toArray).heap[b]? = w.heap[b]? := fun b hb => setRow_other w g b _ hb
        refine ⟨.slice (some ⟨g, 0, none⟩) (xs.length + k) cap, w.setRow g ((cur.toList.take (xs.length * K.i.size) ++ (Builtin.zeroCells K.z.cells k).toList ++ cur.toList.drop (xs.length * K.i.size + (Builtin.zeroCells K.z.cells k).toList.length)).toArray), some g, ?_, ?_, .inl rfl, ⟨rfl, rfl, rfl, by simp [World.setRow], fun b _ hb => hgs b (by simpa using hb), fun b hb => by
          by_cases e : b = g
          · subst e; exact ⟨_, E, setRow_heap w b cur _ E _ hg⟩
          · obtain ⟨c2, E2, h2⟩ := hb
            exact ⟨c2, E2, by rw [hgs b e]; exact h2⟩⟩⟩
        rotate_left
        · refine .inr ⟨g, cap, _, by simp, rfl, setRow_heap w g cur _ E _ hg, by simpa using hroom, hcm, ?_, ?_, hgf⟩
          · simp only [List.size_toArray, List.length_append, List.length_take, List.length_drop, Array.length_toList]
            simp only [Array.length_toList] at hfit
            omega
          · rw [K.size]
            have e : (xs ++ List.replicate k x0).length * L.n = (cur.toList.take (xs.length * L.n) ++ (Builtin.zeroCells K.z.cells k).toList).length := by
              rw [List.length_append, List.length_append, List.length_replicate, hold', hl, Nat.add_mul]
            have e2 : (cur.toList.take (xs.length * L.n) ++ (Builtin.zeroCells K.z.cells k).toList ++ cur.toList.drop (xs.length * L.n + (Builtin.zeroCells K.z.cells k).toList.length)).take ((xs ++ List.replicate k x0).length * L.n) = cur.toList.take (xs.length * L.n) ++ (Builtin.zeroCells K.z.cells k).toList := by
              rw [e, List.take_left]
            rw [e2]
            rw [K.size] at hgs
            have := L.all_append (L.all_keep hold (fun b hb => hgs b (fun e => hgf (e ▸ hb)))) (hZ _ k)
            rwa [List.append_nil] at this
        · simp [Builtin.append_, run_underlying ht, run_underlying htn, sizeOf, typeInfo, zeroValue, K.info, K.zero, asInt, asIntOf, hw, hneg, h48i, hns, hroom, Addr.add_lit, hst]
    · have hk : 0 < k := by omega
      have holds : ∀ j u, (cur.toList.take (xs.length * L.n))[j]? = some u → w.cell? ((⟨g, 0, none⟩ : Addr).add j) = some u := by
        intro j u hu
        have hadd : (⟨g, 0, none⟩ : Addr).add j = ⟨g, j, none⟩ := by unfold Addr.add; split <;> simp_all
        rw [hadd, cell_of_row w g j cur E (0, 0) hg]
        rw [List.getElem?_take] at hu
        split at hu
        · simpa using hu
        · cases hu
      have hfc := run_firstCells_some (P := P) w.drew K.i.size xs.length ⟨g, 0, none⟩ xs.length cap (cur.toList.take (xs.length * L.n)) (by rw [K.size]; exact hold') (by simpa using holds)
      have hr := Lib.run_append_grow_zeros (P := P) w t tn ty E K.i K.z kq kn ht htn K.info K.zero (some ⟨g, 0, none⟩) xs.length cap (cur.toList.take (xs.length * L.n)) hfc k hk hpos (by omega) (by omega) (by omega) (growslice_fits (by omega) hbytes')
      refine ⟨_, _, some w.heap.size, hr, ?_, .inr rfl, ((Chg.refl _ w).drew).alloc _⟩
      refine .inr ⟨w.heap.size, grownCap w (xs.length + k) cap E, _, by simp, rfl, new_alloc w.drew _, by simpa using grownCap_ge w (xs.length + k) cap E, by simpa using grownCap_le_maxLen w (xs.length + k) cap E h63, ?_, ?_, ?_⟩
      · have hge := grownCap_ge w (xs.length + k) cap E
        simp only [Array.size_append, List.size_toArray, size_zeroCells, K.zc, hold', ← Nat.add_mul]
        congr 1
        omega
      · have hl := L.all_len (hZ w k)
        rw [List.length_replicate] at hl
        have e : (xs ++ List.replicate k x0).length * L.n = (cur.toList.take (xs.length * L.n) ++ (Builtin.zeroCells K.z.cells k).toList).length := by
          rw [List.length_append, List.length_append, List.length_replicate, hold', hl, Nat.add_mul]
        simp only [Array.toList_append]
        rw [e, List.take_left]
        have := L.all_append (L.all_keep hold (fun b hb => Below.heap_alloc w.drew (.cells ((cur.toList.take (xs.length * L.n)).toArray ++ Builtin.zeroCells K.z.cells k ++ Builtin.zeroCells K.z.cells (grownCap w (xs.length + k) cap E - (xs.length + k))) E) b (L.all_lt hold b hb))) (hZ (w.drew.alloc (.cells ((cur.toList.take (xs.length * L.n)).toArray ++ Builtin.zeroCells K.z.cells k ++ Builtin.zeroCells K.z.cells (grownCap w (xs.length + k) cap E - (xs.length + k))) E)) k)
        rwa [List.append_nil] at this
      · intro hb
        have := L.all_lt hold _ hb; omega
variable {wr w3 : World}
theorem Lay.run_growZ {x0 : α} {kq kn : IntKind} (t tn ty : TypeId) (ht : P.underlying t = some (.slice E)) (htn : P.underlying tn = some (.int kn)) (K : Kind P E L.n bytes) (hz : ∀ w : World, L.rep w K.z.cells.toList x0 []) (hg : Grow L E w wr v xs) (c3 : Chg [] wr w3)
    (k : Nat) (h63 : xs.length + k ≤ maxLen) (hbytes : (xs.length + k) * bytes ≤ 140737488355328) :
    ∃ v' w', (Builtin.append_ #[t, tn] ty #[v, .int kq k]).run P w3 = .ok v' w' ∧ Grow L E w w' v' (xs ++ List.replicate k x0) := by
  obtain ⟨h, fps, ho, fr, hc⟩ := hg
  obtain ⟨v', w', h', hr, ho', hh', hc'⟩ := L.run_appendZ (kq := kq) t tn ty ht htn K hz (L.os_ext ho c3) k h63 hbytes
  refine ⟨v', w', hr, h', fps, ho', ?_, (hc.trans0 c3).trans hc' (fun b hb => .inr (fr.2 b (List.mem_append.2 (.inl hb))).1)⟩
  have := fr.grow hc.size (Fresh.nil wr.heap.size w3) c3 hh' hc' (L.os_loose ho')
  rwa [List.append_nil] at this
theorem Lay.wp_growZ {x0 : α} {kq kn : IntKind} {o : Oper} {a : Act} {Kc : Act → World → Prop} {Q : Exit → Act → World → Prop} (s x : Operand) (t tn : TypeId)
    (hop : o.op = .call { callee := .builtin .append, args := #[s, x], argTypes := #[t, tn] }) (ht : P.underlying t = some (.slice E)) (htn : P.underlying tn = some (.int kn)) (K : Kind P E L.n bytes) (hz : ∀ w : World, L.rep w K.z.cells.toList x0 [])
    (hs : a.eval s = v) (hg : Grow L E w wr v xs) (c3 : Chg [] wr w3)
    (k : Nat) (hx : a.eval x = .int kq k) (h63 : xs.length + k ≤ maxLen) (hbytes : (xs.length + k) * bytes ≤ 140737488355328)
    (hk : ∀ v' w', Grow L E w w' v' (xs ++ List.replicate k x0) → Kc (a.put o.dst v') w') : o.wp P a w3 Kc Q := by
  obtain ⟨v', w', hr, h2⟩ := L.run_growZ (kq := kq) t tn o.type ht htn K hz hg c3 k h63 hbytes
  exact Lib.wp_append_run w3 s x t tn hop _ _ hs hx v' w' hr (hk v' w' h2)
theorem Lay.wpList_growZ {x0 : α} {kq kn : IntKind} {ops : Array Oper} {rest : List Oper} {o : Oper} {a : Act} {Q : Exit → Act → World → Prop} (hgd : o.guard = none) (s x : Operand) (t tn : TypeId)
    (hop : o.op = .call { callee := .builtin .append, args := #[s, x], argTypes := #[t, tn] }) (ht : P.underlying t = some (.slice E)) (htn : P.underlying tn = some (.int kn)) (K : Kind P E L.n bytes) (hz : ∀ w : World, L.rep w K.z.cells.toList x0 [])
    (hs : a.eval s = v) (hg : Grow L E w wr v xs) (c3 : Chg [] wr w3)
    (k : Nat) (hx : a.eval x = .int kq k) (h63 : xs.length + k ≤ maxLen) (hbytes : (xs.length + k) * bytes ≤ 140737488355328)
    (hk : ∀ v' w', Grow L E w w' v' (xs ++ List.replicate k x0) → wpList P ops Q rest (a.put o.dst v') w') : wpList P ops Q (o :: rest) a w3 :=
  wpList_plain hgd fun _ hK => L.wp_growZ s x t tn hop ht htn K hz hs hg c3 k hx h63 hbytes fun v' w' h1 => hK _ _ (hk v' w' h1)
theorem Lay.step_growZ {x0 : α} {kq kn : IntKind} {ops : Array Oper} {o : Oper} {a : Act} {Kc : Act → World → Prop} {Q : Exit → Act → World → Prop} {R : Prop} (hgd : o.guard = none) (s x : Operand) (t tn : TypeId)
    (hop : o.op = .call { callee := .builtin .append, args := #[s, x], argTypes := #[t, tn] }) (ht : P.underlying t = some (.slice E)) (htn : P.underlying tn = some (.int kn)) (K : Kind P E L.n bytes) (hz : ∀ w : World, L.rep w K.z.cells.toList x0 [])
    (hs : a.eval s = v) (hg : Grow L E w wr v xs) (c3 : Chg [] wr w3)
    (k : Nat) (hx : a.eval x = .int kq k) (h63 : xs.length + k ≤ maxLen) (hbytes : (xs.length + k) * bytes ≤ 140737488355328)
    (hk : ∀ v' w', Grow L E w w' v' (xs ++ List.replicate k x0) → Kc (a.put o.dst v') w') :
    if Region.wanted o (yielded ops a.tmps) = true then Oper.wp P o a w3 Kc Q else R := by
  have hw : Region.wanted o (yielded ops a.tmps) = true := by simp [Region.wanted, hgd]
  rw [if_pos hw]
  exact L.wp_growZ s x t tn hop ht htn K hz hs hg c3 k hx h63 hbytes hk
end
end Go.Proofs.Ytcejdmggacjnoaa
