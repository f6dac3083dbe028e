
/- Slices grown element by element, all of it new memory. No function of the program in sight. -/
import Derived.Test.YtcejdmggacjnoaaKep
import Derived.Test.YtcejdmggacjnoaaLsr
namespace Go.Proofs.Ytcejdmggacjnoaa
open Go.RowKit

theorem Fresh.lts {B : Nat} {w : World} {fp : List Nat} (h : Fresh B w fp) : ∀ b ∈ fp, b < w.heap.size := fun b hb => (h.2 b hb).2.lt
theorem Lay.os_loose {α : Type} (L : Lay α) {E : TypeId} {w : World} {v : Value} {xs : List α} {h : Option Nat} {fps : List Nat} (ho : L.os E w v xs h fps) : ∀ g, h = some g → Loose w g := by
  rcases ho with ⟨_, _, rfl, _⟩ | ⟨g, cap, cur, _, rfl, hg, _⟩
  · intro g hg; cases hg
  · intro g' hg'; cases hg'; exact ⟨_, _, hg⟩

theorem Fresh.grow {B : Nat} {wr w3 w4 : World} {h h' : Option Nat} {fps f : List Nat} (fr : Fresh B wr (h.toList ++ fps)) (hB : B ≤ wr.heap.size) (ff : Fresh wr.heap.size w3 f) (c3 : Chg [] wr w3)
    (hh : h' = h ∨ h' = some w3.heap.size) (c4 : Chg h.toList w3 w4) (hl : ∀ g, h' = some g → Loose w4 g) : Fresh B w4 (h'.toList ++ (fps ++ f)) := by
  have f3 := fr.chg c3
  have f4 := f3.chg c4
  have g4 := ff.chg c4
  have nd := List.nodup_append.1 fr.1
  have dj : ∀ a ∈ h.toList ++ fps, ∀ b ∈ f, a ≠ b := fun a ha b hb e => by have h1 := fr.lts a ha; have h2 := (ff.2 b hb).1; omega
  rcases hh with rfl | rfl
  · rw [← List.append_assoc]
    exact ⟨List.nodup_append.2 ⟨fr.1, ff.1, dj⟩, fun b hb => by
      rcases List.mem_append.1 hb with hb | hb
      · exact f4.2 b hb
      · exact ⟨Nat.le_trans hB (g4.2 b hb).1, (g4.2 b hb).2⟩⟩
  · refine ⟨?_, fun b hb => ?_⟩
    · rw [Option.toList_some, List.singleton_append, List.nodup_cons]
      refine ⟨fun hb => ?_, List.nodup_append.2 ⟨nd.2.1, ff.1, fun a ha b hb => dj a (List.mem_append.2 (.inr ha)) b hb⟩⟩
      rcases List.mem_append.1 hb with hb | hb
      · have := f3.lts _ (List.mem_append.2 (.inr hb)); omega
      · have := ff.lts _ hb; omega
    · rw [Option.toList_some, List.singleton_append, List.mem_cons] at hb
      rcases hb with rfl | hb
      · exact ⟨Nat.le_trans hB c3.size, hl _ rfl⟩
      · rcases List.mem_append.1 hb with hb | hb
        · exact f4.2 b (List.mem_append.2 (.inr hb))
        · exact ⟨Nat.le_trans hB (g4.2 b hb).1, (g4.2 b hb).2⟩

/-- a slice that a call builds, all of it memory of its own -/
def Grow {α : Type} (L : Lay α) (E : TypeId) (w wr : World) (v : Value) (xs : List α) : Prop :=
  ∃ h fps, L.os E wr v xs h fps ∧ Fresh w.heap.size wr (h.toList ++ fps) ∧ Chg [] w wr

section
variable {α : Type} {L : Lay α} {E : TypeId} {w wr w' : World} {v : Value} {xs : List α}
theorem Grow.nil (hc : Chg [] w wr) : Grow L E w wr (.slice none 0 0) [] := ⟨none, [], Lay.os_nil _ _ _, Fresh.nil _ _, hc⟩
theorem Grow.made (hc : Chg [] w wr) : Grow L E w (wr.alloc (.cells #[] E)) (.slice (some ⟨wr.heap.size, 0, none⟩) 0 0) [] :=
  ⟨some wr.heap.size, [], Lay.os_made _ _ _ _ _ (by simp [maxLen]) (by simp), ⟨by simp, fun b hb => by simp at hb; subst hb; exact ⟨hc.size, _, _, new_alloc wr _⟩⟩, hc.alloc _⟩
theorem Grow.madeN {n : Nat} (hc : Chg [] w wr) (hn : n = wr.heap.size) : Grow L E w (wr.alloc (.cells #[] E)) (.slice (some ⟨n, 0, none⟩) 0 0) [] := by subst hn; exact Grow.made hc
theorem Grow.ext (h : Grow L E w wr v xs) (hc : Chg [] wr w') : Grow L E w w' v xs := by
  obtain ⟨hd, fps, ho, hf, hch⟩ := h
  exact ⟨hd, fps, L.os_ext ho hc, hf.chg hc, hch.trans0 hc⟩
theorem Grow.chg (h : Grow L E w wr v xs) : Chg [] w wr := by obtain ⟨_, _, _, _, h⟩ := h; exact h
theorem Grow.new (h : Grow L E w wr v xs) : NewSl L xs w (.returned v) wr := by
  obtain ⟨hd, fps, ho, hf, hch⟩ := h
  obtain ⟨a, cap, rfl, hs⟩ := L.os_sl ho
  exact ⟨a, cap, _, rfl, hs, hf, hch⟩
theorem Grow.sl (h : Grow L E w wr v xs) : ∃ a cap fp, v = .slice a xs.length cap ∧ L.sl wr a xs.length cap xs fp ∧ Fresh w.heap.size wr fp ∧ Chg [] w wr := by
  obtain ⟨hd, fps, ho, hf, hch⟩ := h
  obtain ⟨a, cap, rfl, hs⟩ := L.os_sl ho
  exact ⟨a, cap, _, rfl, hs, hf, hch⟩
theorem Grow.since {w0 : World} (h : Grow L E w wr v xs) (hc : Chg [] w0 w) : Grow L E w0 wr v xs := by
  obtain ⟨hd, fps, ho, hf, hch⟩ := h
  exact ⟨hd, fps, ho, hf.mono hc.size, hc.trans0 hch⟩
end

section
variable {α : Type} (L : Lay α) {P : Program} {E : TypeId} {bytes : Nat} {w wr w3 : World} {v : Value} {xs ys : List α} {f : List Nat}
theorem Lay.wp_grow {o : Oper} {a : Act} {Kc : Act → World → Prop} {Q : Exit → Act → World → Prop} (s x : Operand) (t : TypeId)
    (hop : o.op = .call { callee := .builtin .append, args := #[s, x], argTypes := #[t, t] }) (ht : P.underlying t = some (.slice E)) (K : Kind P E L.n bytes)
    (hs : a.eval s = v) (hg : Grow L E w wr v xs) (c3 : Chg [] wr w3)
    (ad : Addr) (m c : Nat) (news : List Value) (hx : a.eval x = .slice (some ad) m c) (hm : m = ys.length) (hnews : ∀ j u, news[j]? = some u → w3.cell? (ad.add j) = some u) (hall : L.all w3 news ys f) (ff : Fresh wr.heap.size w3 f)
    (h63 : xs.length + ys.length ≤ maxLen) (hbytes : (xs.length + ys.length) * bytes ≤ 140737488355328)
    (hk : ∀ v' w', Grow L E w w' v' (xs ++ ys) → Kc (a.put o.dst v') w') : o.wp P a w3 Kc Q := by
  obtain ⟨h, fps, ho, fr, hc⟩ := hg
  have hlt := L.os_lt ho
  refine L.wp_append s x t hop ht K hs (L.os_ext ho c3) ad m c news hx hm hnews hall (fun g hg hf => ?_) h63 hbytes (fun v' w' h' ho' hh' hc' => hk _ _ ⟨h', fps ++ f, ho', fr.grow hc.size ff c3 hh' hc' (L.os_loose ho'), ?_⟩)
  · have := hlt.1 g hg; have := (ff.2 g hf).1; omega
  · exact (hc.trans0 c3).trans hc' (fun b hb => .inr (by
      have := (fr.2 b (List.mem_append.2 (.inl hb))).1; exact this))
theorem Lay.wpList_grow {ops : Array Oper} {rest : List Oper} {o : Oper} {a : Act} {Q : Exit → Act → World → Prop} (hgd : o.guard = none) (s x : Operand) (t : TypeId)
    (hop : o.op = .call { callee := .builtin .append, args := #[s, x], argTypes := #[t, t] }) (ht : P.underlying t = some (.slice E)) (K : Kind P E L.n bytes)
    (hs : a.eval s = v) (hg : Grow L E w wr v xs) (c3 : Chg [] wr w3)
    (ad : Addr) (m c : Nat) (news : List Value) (hx : a.eval x = .slice (some ad) m c) (hm : m = ys.length) (hnews : ∀ j u, news[j]? = some u → w3.cell? (ad.add j) = some u) (hall : L.all w3 news ys f) (ff : Fresh wr.heap.size w3 f)
    (h63 : xs.length + ys.length ≤ maxLen) (hbytes : (xs.length + ys.length) * bytes ≤ 140737488355328)
    (hk : ∀ v' w', Grow L E w w' v' (xs ++ ys) → wpList P ops Q rest (a.put o.dst v') w') : wpList P ops Q (o :: rest) a w3 :=
  wpList_plain hgd fun _ hK => L.wp_grow s x t hop ht K hs hg c3 ad m c news hx hm hnews hall ff h63 hbytes fun v' w' h1 => hK _ _ (hk v' w' h1)
theorem Lay.step_grow {ops : Array Oper} {o : Oper} {a : Act} {Kc : Act → World → Prop} {Q : Exit → Act → World → Prop} {R : Prop} (hgd : o.guard = none) (s x : Operand) (t : TypeId)
    (hop : o.op = .call { callee := .builtin .append, args := #[s, x], argTypes := #[t, t] }) (ht : P.underlying t = some (.slice E)) (K : Kind P E L.n bytes)
    (hs : a.eval s = v) (hg : Grow L E w wr v xs) (c3 : Chg [] wr w3)
    (ad : Addr) (m c : Nat) (news : List Value) (hx : a.eval x = .slice (some ad) m c) (hm : m = ys.length) (hnews : ∀ j u, news[j]? = some u → w3.cell? (ad.add j) = some u) (hall : L.all w3 news ys f) (ff : Fresh wr.heap.size w3 f)
    (h63 : xs.length + ys.length ≤ maxLen) (hbytes : (xs.length + ys.length) * bytes ≤ 140737488355328)
    (hk : ∀ v' w', Grow L E w w' v' (xs ++ ys) → Kc (a.put o.dst v') w') :
    if Region.wanted o (yielded ops a.tmps) = true then Oper.wp P o a w3 Kc Q else R := by
  have hw : Region.wanted o (yielded ops a.tmps) = true := by simp [Region.wanted, hgd]
  rw [if_pos hw]
  exact L.wp_grow s x t hop ht K hs hg c3 ad m c news hx hm hnews hall ff h63 hbytes hk
end

/-- the cells of a new row -/
theorem new_cells (w : World) (cs : Array Value) (E : TypeId) : ∀ j u, cs.toList[j]? = some u → (w.alloc (.cells cs E)).cell? ((⟨w.heap.size, 0, none⟩ : Addr).add j) = some u := by
  intro j u hu
  have hadd : (⟨w.heap.size, 0, none⟩ : Addr).add j = ⟨w.heap.size, j, none⟩ := by unfold Addr.add; split <;> simp_all
  rw [hadd, cellsOf (new_alloc w _)]
  simpa using hu
/-- one element of a slice of slices -/
theorem slc_all1 {α : Type} {M : Lay α} {w : World} {a : Option Addr} {c : Nat} {x : List α} {f : List Nat} (h : M.sl w a x.length c x f) : M.slice.all w [.slice a x.length c] [x] f :=
  M.slice.all_single ⟨a, _, c, rfl, h⟩

theorem NewRes.storeG {α : Type} {L : Lay α} {r : Int × List α} {xs : List α} {w wr w2 : World} {o : Obj} {a : Option Addr} {cap : Nat} {fp : List Nat} (hr : r = (0, xs)) (hs : L.sl wr a xs.length cap xs fp)
    (hf : Fresh (w.alloc o).heap.size wr fp) (hc : Chg [] (w.alloc o) wr) (h2 : ∃ v u, w2 = (wr.setCell ⟨w.heap.size, 0, none⟩ v).setCell ⟨w.heap.size, 1, none⟩ u) :
    NewRes L r w (.returned (.agg #[.int .i64 0, .slice a xs.length cap])) w2 := by
  obtain ⟨v, u, rfl⟩ := h2
  have hc2 : Chg [w.heap.size] wr ((wr.setCell ⟨w.heap.size, 0, none⟩ v).setCell ⟨w.heap.size, 1, none⟩ u) := ((Chg.refl _ wr).setCell _ _ (.inl (by simp))).setCell _ _ (.inl (by simp))
  have hfw : ∀ b ∈ fp, b ∉ [w.heap.size] := fun b hb hb' => by have := (hf.2 b hb).1; simp at this hb'; omega
  rw [hr]
  exact ⟨a, cap, fp, rfl, L.sl_chg hs hc2 hfw, (hf.mono (by simp)).chg hc2, (((Chg.refl [] w).alloc _).trans0 hc).trans hc2 (fun x hx => .inr (by simp at hx; omega))⟩
section
variable {α : Type} (L : Lay α) {P : Program} {E : TypeId} {bytes : Nat} {w wr w3 : World} {v : Value} {xs ys : List α} {h : Option Nat} {f fps : List Nat}
theorem Lay.run_append_none (t ty : TypeId) (ht : P.underlying t = some (.slice E)) (K : Kind P E L.n bytes) (ho : L.os E w v xs h fps) : (Builtin.append_ #[t, t] ty #[v, .slice none 0 0]).run P w = .ok v w := by
  rcases ho with ⟨rfl, _⟩ | ⟨g, cap, cur, rfl, _, _, hnc, _⟩
  · simp [Builtin.append_, run_underlying ht, sizeOf, typeInfo, K.info, Builtin.lenOf, Builtin.firstCells]
  · simp [Builtin.append_, run_underlying ht, sizeOf, typeInfo, K.info, Builtin.lenOf, Builtin.firstCells, hnc, storeCells]
/-- a whole slice of plain cells appended: 'append(out, list...)' -/
theorem Lay.run_growS (hL : L.flat) (t ty : TypeId) (ht : P.underlying t = some (.slice E)) (K : Kind P E L.n bytes) (hg : Grow L E w wr v xs) (c3 : Chg [] wr w3)
    {a : Option Addr} {len cap : Nat} (hs : L.sl w3 a len cap ys f)
    (h63 : xs.length + ys.length ≤ maxLen) (hbytes : (xs.length + ys.length) * bytes ≤ 140737488355328) :
    ∃ v' w', (Builtin.append_ #[t, t] ty #[v, .slice a len cap]).run P w3 = .ok v' w' ∧ Grow L E w w' v' (xs ++ ys) := by
  obtain ⟨h, fps, ho, fr, hc⟩ := hg
  cases a with
  | none =>
    have h0 : cap = 0 := hs.2.2.2.1 rfl
    have h1 : len = 0 := by have := hs.2.1; omega
    have h2 : ys = [] := List.eq_nil_of_length_eq_zero (by have := hs.1; omega)
    subst h0 h1 h2
    exact ⟨v, w3, L.run_append_none t ty ht K (L.os_ext ho c3), by rw [List.append_nil]; exact ⟨h, fps, L.os_ext ho c3, fr.chg c3, hc.trans0 c3⟩⟩
  | some ad =>
    obtain ⟨news, fy, hnews, hall, hsub⟩ := L.sl_cells hs
    have hfy := Lay.flat_all hL hall
    subst hfy
    have hlen := hs.1
    subst hlen
    obtain ⟨v', w', h', hr, ho', hh', hc', hl⟩ := L.run_append t ty ht K (L.os_ext ho c3) ad cap news hnews hall (by simp) h63 hbytes
    refine ⟨v', w', hr, h', fps ++ [], ho', fr.grow hc.size (Fresh.nil _ _) c3 hh' hc' (L.os_loose ho'), (hc.trans0 c3).trans hc' (fun b hb => .inr ?_)⟩
    exact (fr.2 b (List.mem_append.2 (.inl hb))).1
theorem Lay.wp_growS (hL : L.flat) {o : Oper} {a : Act} {Kc : Act → World → Prop} {Q : Exit → Act → World → Prop} (s x : Operand) (t : TypeId)
    (hop : o.op = .call { callee := .builtin .append, args := #[s, x], argTypes := #[t, t] }) (ht : P.underlying t = some (.slice E)) (K : Kind P E L.n bytes)
    (hs : a.eval s = v) (hg : Grow L E w wr v xs) (c3 : Chg [] wr w3)
    {ad : Option Addr} {m c : Nat} (hx : a.eval x = .slice ad m c) (hsl : L.sl w3 ad m c ys f)
    (h63 : xs.length + ys.length ≤ maxLen) (hbytes : (xs.length + ys.length) * bytes ≤ 140737488355328)
    (hk : ∀ v' w', Grow L E w w' v' (xs ++ ys) → Kc (a.put o.dst v') w') : o.wp P a w3 Kc Q := by
  obtain ⟨v', w', hr, h2⟩ := L.run_growS hL (P := P) t o.type ht K hg c3 hsl h63 hbytes
  unfold Oper.wp execOp
  simp only [hop, resolve, invoke, builtin, Sem.run_bind, Sem.run_pure, Result.andThen_ok, List.map_toArray, List.map_cons, List.map_nil, hs, hx, hr]
  exact hk v' w' h2
theorem Lay.wpList_growS (hL : L.flat) {ops : Array Oper} {rest : List Oper} {o : Oper} {a : Act} {Q : Exit → Act → World → Prop} (hgd : o.guard = none) (s x : Operand) (t : TypeId)
    (hop : o.op = .call { callee := .builtin .append, args := #[s, x], argTypes := #[t, t] }) (ht : P.underlying t = some (.slice E)) (K : Kind P E L.n bytes)
    (hs : a.eval s = v) (hg : Grow L E w wr v xs) (c3 : Chg [] wr w3)
    {ad : Option Addr} {m c : Nat} (hx : a.eval x = .slice ad m c) (hsl : L.sl w3 ad m c ys f)
    (h63 : xs.length + ys.length ≤ maxLen) (hbytes : (xs.length + ys.length) * bytes ≤ 140737488355328)
    (hk : ∀ v' w', Grow L E w w' v' (xs ++ ys) → wpList P ops Q rest (a.put o.dst v') w') : wpList P ops Q (o :: rest) a w3 :=
  wpList_plain hgd fun _ hK => L.wp_growS hL s x t hop ht K hs hg c3 hx hsl h63 hbytes fun v' w' h1 => hK _ _ (hk v' w' h1)
theorem Lay.step_growS (hL : L.flat) {ops : Array Oper} {o : Oper} {a : Act} {Kc : Act → World → Prop} {Q : Exit → Act → World → Prop} {R : Prop} (hgd : o.guard = none) (s x : Operand) (t : TypeId)
    (hop : o.op = .call { callee := .builtin .append, args := #[s, x], argTypes := #[t, t] }) (ht : P.underlying t = some (.slice E)) (K : Kind P E L.n bytes)
    (hs : a.eval s = v) (hg : Grow L E w wr v xs) (c3 : Chg [] wr w3)
    {ad : Option Addr} {m c : Nat} (hx : a.eval x = .slice ad m c) (hsl : L.sl w3 ad m c ys f)
    (h63 : xs.length + ys.length ≤ maxLen) (hbytes : (xs.length + ys.length) * bytes ≤ 140737488355328)
    (hk : ∀ v' w', Grow L E w w' v' (xs ++ ys) → Kc (a.put o.dst v') w') :
    if Region.wanted o (yielded ops a.tmps) = true then Oper.wp P o a w3 Kc Q else R := by
  have hw : Region.wanted o (yielded ops a.tmps) = true := by simp [Region.wanted, hgd]
  rw [if_pos hw]
  exact L.wp_growS hL s x t hop ht K hs hg c3 hx hsl h63 hbytes hk
end
/-- a slice grown of bytes, as an element -/
theorem Grow.bytes {E : TypeId} {w wr : World} {v : Value} {xs : List UInt8} (h : Grow byteL E w wr v xs) : ∃ a c f, v = .slice a xs.length c ∧ byteL.sl wr a xs.length c xs f ∧ Fresh w.heap.size wr f ∧ Chg [] w wr := by
  obtain ⟨a, c, f, h1, h2, h3, h4⟩ := h.sl
  exact ⟨a, c, f, h1, h2, h3, h4⟩
end Go.Proofs.Ytcejdmggacjnoaa
