
/- An object cut: the loop over the iterator of Chunk. -/
import Derived.Test.YtcejdmggacjnoaaChj
import Derived.Test.YtcejdmggacjnoaaSub
namespace Go.Proofs.Ytcejdmggacjnoaa
open Go.RowKit

attribute [local go_sem] Oper.semAt_some

set_option maxHeartbeats 400000 in
theorem chunk_any (a : Option Addr) (len cap k : Nat) (hk : 1 ≤ k) (w : World) :
    Calls Try.prog 42 #[.slice a len cap, .int .i64 k] w fun e w' => e = .returned (.func (.func 55) #[] #[.pointer (some ⟨w.heap.size, 0, none⟩), .pointer (some ⟨w.heap.size + 1, 0, none⟩)]) ∧ w' = (w.alloc (.cells #[.slice a len cap] 24)).alloc (.cells #[.int .i64 k] 3) := by
  go_enter Try.func42, Try.ntmps42
  have h1 : ¬ (k : Int) < 1 := by omega
  go_wp2_with fail
  go_ret
  exact ⟨rfl, rfl⟩
section
variable {α : Type} (L : Lay α) {P : Program} {E : TypeId} {bytes : Nat} {w : World} {v : Value} {xs ys : List α} {h : Option Nat} {f fps : List Nat}
/-- an append inside a fence -/
theorem Lay.wpListIn_app {F : Fence} {nF : Nat} {ops : Array Oper} {rest : List Oper} {o : Oper} {a : Act} {Q : Exit → Act → World → Prop} (hgd : o.guard = none) (s x : Operand) (t : TypeId)
    (hop : o.op = .call { callee := .builtin .append, args := #[s, x], argTypes := #[t, t] }) (ht : P.underlying t = some (.slice E)) (K : Kind P E L.n bytes)
    (hs : a.eval s = v) (ho : L.os E w v xs h fps)
    (ad : Addr) (m c : Nat) (news : List Value) (hx : a.eval x = .slice (some ad) m c) (hm : m = ys.length) (hnews : ∀ j u, news[j]? = some u → w.cell? (ad.add j) = some u) (hall : L.all w news ys f) (hf : ∀ g, h = some g → g ∉ f)
    (h63 : xs.length + ys.length ≤ maxLen) (hbytes : (xs.length + ys.length) * bytes ≤ 140737488355328)
    (hk : ∀ v' w' h', L.os E w' v' (xs ++ ys) h' (fps ++ f) → (h' = h ∨ h' = some w.heap.size) → Chg h.toList w w' → wpListIn F nF P ops Q rest (a.put o.dst v') w') : wpListIn F nF P ops Q (o :: rest) a w := by
  subst hm
  refine wpListIn_plain hgd fun K' hK' => ?_
  obtain ⟨v', w', h', hr, h2, h3, h4, _⟩ := L.run_append (P := P) t o.type ht K ho ad c news hnews hall hf h63 hbytes
  unfold Oper.wpIn
  refine ⟨by simp [Oper.about, hop, resolve, Target.leads, Sem.run_pure], ?_⟩
  rw [Oper.semAt_plain F _ _ (by rw [hop]; intro c hc'; cases hc')]
  simp [execOp, hop, resolve, invoke, builtin, hs, hx, hr, Result.andThen]
  exact hK' _ _ (hk v' w' h' h2 h3 h4)
end
theorem row_new {w : World} {cs : List Value} {ys : List UInt8} {k : Nat} (E : TypeId) (h : byteL.all w cs ys []) (hy : ys.length = k) (hk : k ≤ maxLen) : byteL.sl (w.alloc (.cells cs.toArray E)) (some ⟨w.heap.size, 0, none⟩) k k ys [w.heap.size] := by
  have hc : cs.length = k := by have := byteL.all_len h; simp [byteL] at this; omega
  refine ⟨hy.symm, Nat.le_refl _, hk, (fun h => by cases h), .inr ⟨w.heap.size, 0, _, E, (0, 0), [], rfl, new_alloc w _, ?_, rfl⟩⟩
  have e : (cs.toArray.toList.drop 0).take (k * byteL.n) = cs := by simp [byteL]; rw [← hc, List.take_length]
  rw [e]
  exact byteL.all_keep h (fun y hy => by cases hy)
theorem zbytes_all (w : World) : ∀ n, byteL.all w (List.replicate n (.int .u8 0)) (List.replicate n 0) []
  | 0 => ⟨rfl, rfl⟩
  | n + 1 => ⟨[.int .u8 0], List.replicate n (.int .u8 0), [], [], rfl, rfl, ⟨rfl, rfl⟩, zbytes_all w n⟩
theorem partL_take (xs : List UInt8) (k j : Nat) : (xs.drop (j * k)).take (min k (xs.length - j * k)) = partL xs k j := by
  unfold partL
  rw [← List.length_drop, ← List.take_eq_take_min]
theorem slc_one {w : World} {A : Option Addr} {l C : Nat} {y : List UInt8} {f : List Nat} (h : byteL.sl w A l C y f) : byteL.slice.all w [.slice A l C] [y] f := byteL.slice.all_single ⟨A, l, C, rfl, h⟩
/-- a part, copied into a new row -/
theorem part_copy {w w1 : World} {b off len cap k j : Nat} {xs : List UInt8} {f : List Nat} (ha : byteL.sl w (some ⟨b, off, none⟩) len cap xs f) (hc : Chg [] w w1) (hj : j * k < len) (hk : 1 ≤ k) (hk2 : k ≤ 12) :
    ∃ cs : List Value, (∀ ty, (Builtin.copy_ #[24, 24] ty #[.slice (some ⟨w1.heap.size, 0, none⟩) k k, .slice (some ⟨b, off + j * k, none⟩) (min k (len - j * k)) (min k (len - j * k))]).run Try.prog (w1.alloc (.cells (zrow (.int .u8 0) k) 5)) = .ok (goInt ((min k (len - j * k) : Nat) : Int)) (w1.alloc (.cells cs.toArray 5))) ∧
      byteL.sl (w1.alloc (.cells cs.toArray 5)) (some ⟨w1.heap.size, 0, none⟩) k k (rowL xs k j) [w1.heap.size] := by
  have hb := byteL.sl_ext ha (hc.alloc (.cells (zrow (.int .u8 0) k) 5))
  obtain ⟨f1, _, h1⟩ := byteL.sl_drop hb (n := j * k) (by omega)
  obtain ⟨f2, _, h2⟩ := byteL.sl_take h1 (n := min k (len - j * k)) (Nat.min_le_right _ _)
  have e0 : off + j * k * byteL.n = off + j * k := by simp [byteL]
  rw [e0] at h2
  have hlx : len = xs.length := ha.1
  have ep : (xs.drop (j * k)).take (min k (len - j * k)) = partL xs k j := by rw [hlx]; exact partL_take xs k j
  rw [ep] at h2
  obtain ⟨cs, f3, hcs, hall, _⟩ := byteL.sl_cells h2
  obtain rfl := Lay.flat_all byte_flat hall
  have hcl : cs.length = min k (len - j * k) := by have := byteL.all_len hall; simp [byteL, partL_length, ← hlx] at this; omega
  have hz : (zrow (.int .u8 0) k).toList = List.replicate k (.int .u8 0) := by
    apply List.ext_getElem
    · simp [zrow, madeCells, Value.cells]
    · intro i h1 h2; simp [zrow, madeCells, Value.cells, Nat.mod_one]
  refine ⟨cs ++ List.replicate (k - min k (len - j * k)) (.int .u8 0), fun ty => ?_, ?_⟩
  · have hr := run_copy_row (P := Try.prog) (w1.alloc (.cells (zrow (.int .u8 0) k) 5)) 24 24 ty 5 w1.heap.size 0 k k ⟨b, off + j * k, none⟩ (min k (len - j * k)) (min k (len - j * k)) (zrow (.int .u8 0) k) 5 cs Try.underlying24 (by have := infoB; cases h : Try.prog.info? 5 with | none => rw [h] at this; simp at this | some i => rw [h] at this; simp at this ⊢; exact this.2.1) (new_alloc w1 _) (by rw [hcl]; show _ = min _ k; omega) hcs (by rw [← Array.length_toList, hz, List.length_replicate]; omega) (byteL.all_one hall)
    rw [World.setRow_alloc_new, hz, hcl] at hr
    rw [hr]
    simp
  · refine row_new 5 ?_ (rowL_length _ _ _) (by simp only [maxLen]; omega)
    unfold rowL
    rw [partL_length, ← hlx]
    exact byteL.all_append (f1 := []) (f2 := []) (byteL.all_keep (w := (w1.alloc (.cells (zrow (.int .u8 0) k) 5))) hall (fun y hy => by cases hy)) (zbytes_all _ _)
theorem news2 (w : World) (o : Obj) (x : Value) (E : TypeId) : ∀ j u, [x][j]? = some u → ((w.alloc o).alloc (.cells #[x] E)).cell? ((⟨w.heap.size + 1, 0, none⟩ : Addr).add j) = some u := by
  have h0 := new_cell (w.alloc o) x E
  have e : (w.alloc o).heap.size = w.heap.size + 1 := by simp
  rw [e] at h0
  exact h0
theorem not_new {n : Nat} {V w4 : World} {hd : Option Nat} {fps : List Nat} (h : Fresh n V (hd.toList ++ fps)) (hc : Chg [] V w4) : ∀ g, hd = some g → g ∉ [w4.heap.size] := fun g hg hm => by
  rw [List.mem_singleton] at hm
  have h1 := h.lts g (List.mem_append.2 (.inl (by simp [hg])))
  have h2 := hc.size
  omega
/-- rows collected in a box -/
def Coll (n0 Bo n1 : Nat) (W : World) (xs : List (List UInt8)) : Prop := ∃ v h fps, W.heap[Bo]? = some (.cells #[v] 25 (0, 0)) ∧ byteL.slice.os 24 W v xs h fps ∧ Fresh n0 W (h.toList ++ fps) ∧ Bo ∉ h.toList ++ fps ∧ n1 ≤ W.heap.size ∧ ∀ g, h = some g → g + 1 = Bo ∨ n1 ≤ g
theorem Coll.keep {n0 Bo n1 : Nat} {W W' : World} {xs : List (List UInt8)} (h : Coll n0 Bo n1 W xs) (hz : W.heap.size ≤ W'.heap.size) (hk : ∀ (k : Nat) (o : Obj), W.heap[k]? = some o → o.isCells = true → W'.heap[k]? = W.heap[k]?) : Coll n0 Bo n1 W' xs := by
  obtain ⟨v, hd, fps, h1, h2, h3, h4, h5, h6⟩ := h
  have hl : ∀ y ∈ hd.toList ++ fps, W'.heap[y]? = W.heap[y]? := fun y hy => by
    obtain ⟨cur, E, e⟩ := (h3.2 y hy).2
    exact hk y _ e rfl
  refine ⟨v, hd, fps, by rw [hk Bo _ h1 rfl]; exact h1, byteL.slice.os_keep h2 (fun g hg => hl g (List.mem_append.2 (.inl (by simp [hg])))) (fun b hb => hl b (List.mem_append.2 (.inr hb))), ⟨h3.1, fun y hy => ⟨(h3.2 y hy).1, ?_⟩⟩, h4, Nat.le_trans h5 hz, h6⟩
  obtain ⟨cur, E, e⟩ := (h3.2 y hy).2
  exact ⟨cur, E, by rw [hl y hy]; exact e⟩
theorem below_chg {w W : World} (h : Below w.heap.size w W) : Chg [] w W := ⟨h.os, h.tape, h.output, h.size, fun k hk _ => h.block k hk, fun k ⟨cur, E, e⟩ => ⟨cur, E, (h.block k (Array.getElem?_eq_some_iff.1 e).1).trans e⟩⟩
theorem chg_below {S : List Nat} {w W W' : World} {n : Nat} (h : Below n w W) (hc : Chg S W W') (hn : n ≤ W.heap.size) (hS : ∀ x ∈ S, n ≤ x) : Below n w W' :=
  ⟨hc.os.trans h.os, hc.tape.trans h.tape, hc.output.trans h.output, Nat.le_trans h.size hc.size, fun k hk => (hc.block k (by omega) (fun hm => by have := hS k hm; omega)).trans (h.block k hk)⟩
theorem chg_keeps {S : List Nat} {W W' : World} (hc : Chg S W W') (hS : ∀ x ∈ S, Loose W x) (B : Nat) : KeepsFrom B W W' :=
  ⟨hc.size, fun k o _ hk ho => (hc.block k (Array.getElem?_eq_some_iff.1 hk).1 (fun hm => by
    obtain ⟨cur, E, e⟩ := hS k hm
    rw [hk] at e; cases e; cases ho)).trans hk⟩
theorem below_drew_cells {w W : World} {n q : Nat} (h : Below n w W) (hq : q < n) {o : Obj} (e : w.heap[q]? = some o) : W.heap[q]? = some o := (h.block q hq).trans e
theorem coll_next {n0 Bo n1 : Nat} {V W6 w' : World} {v v' : Value} {xs : List (List UInt8)} {y : List UInt8} {hd h' : Option Nat} {fps : List Nat} {r : Nat} (hbo : V.heap[Bo]? = some (.cells #[v] 25 (0, 0))) (hb6 : w'.heap[Bo]? = some (.cells #[v] 25 (0, 0)))
    (hfr : Fresh n0 V (hd.toList ++ fps)) (hno : Bo ∉ hd.toList ++ fps) (hhd : ∀ g, hd = some g → g + 1 = Bo ∨ n1 ≤ g) (hnv : n1 ≤ V.heap.size) (hn0 : n0 ≤ V.heap.size) (hbn : Bo < n1) (c46 : Chg [] V W6) (hr : Fresh V.heap.size W6 [r])
    (ho : byteL.slice.os 24 w' v' (xs ++ [y]) h' (fps ++ [r])) (hh : h' = hd ∨ h' = some W6.heap.size) (hch : Chg hd.toList W6 w') :
    KeepsFrom n1 V (w'.setCell ⟨Bo, 0, none⟩ v') ∧ Kps n1 Bo V (w'.setCell ⟨Bo, 0, none⟩ v') ∧ Coll n0 Bo n1 (w'.setCell ⟨Bo, 0, none⟩ v') (xs ++ [y]) ∧ Chg (Bo :: hd.toList) V (w'.setCell ⟨Bo, 0, none⟩ v') := by
  have cV : Chg (Bo :: hd.toList) V w' := (c46.mono (T := Bo :: hd.toList) (by simp)).trans hch (fun x hx => .inl (List.mem_cons_of_mem _ hx))
  have cF : Chg (Bo :: hd.toList) V (w'.setCell ⟨Bo, 0, none⟩ v') := cV.setCell _ _ (.inl (by simp))
  have hrs := hr.lts r (by simp)
  have hrv := (hr.2 r (by simp)).1
  have hBo := ltOf hbo
  have hW6 := c46.size
  have cB : Chg [Bo] w' (w'.setCell ⟨Bo, 0, none⟩ v') := (Chg.refl _ w').setCell _ _ (.inl (by simp))
  have hgr := hfr.grow hn0 hr c46 hh hch (byteL.slice.os_loose ho)
  have hnb : Bo ∉ h'.toList ++ (fps ++ [r]) := fun hm => by
    rcases List.mem_append.1 hm with hm | hm
    · rcases hh with rfl | rfl
      · exact hno (List.mem_append.2 (.inl hm))
      · simp at hm; omega
    · rcases List.mem_append.1 hm with hm | hm
      · exact hno (List.mem_append.2 (.inr hm))
      · rw [List.mem_singleton] at hm; omega
  refine ⟨chg_keeps cF (fun x hx => ?_) _, fun q hq hq2 => cF.block q (by omega) (fun hm => ?_), ⟨v', h', fps ++ [r], heap_set_lit (cur := #[v]) hb6 rfl, byteL.slice.os_chg ho cB (fun g hg hm => hnb ?_) (fun b hb hm => hnb ?_), hgr.chg cB, hnb, Nat.le_trans hnv cF.size, fun g hg => ?_⟩, cF⟩
  · rcases List.mem_cons.1 hx with rfl | hx
    · exact ⟨_, _, hbo⟩
    · exact (hfr.2 x (List.mem_append.2 (.inl hx))).2
  · rcases List.mem_cons.1 hm with rfl | hm
    · omega
    · cases hd with
      | none => cases hm
      | some g => simp at hm; subst hm; rcases hhd q rfl with h | h <;> omega
  · rw [List.mem_singleton] at hm; subst hm; exact List.mem_append.2 (.inl (by simp [hg]))
  · rw [List.mem_singleton] at hm; subst hm; exact List.mem_append.2 (.inr hb)
  · rcases hh with rfl | rfl
    · exact hhd g hg
    · cases hg; exact .inr (by omega)
theorem fresh_r {V w4 : World} {o1 : Obj} {cs : Array Value} {E : TypeId} (hc : Chg [] V w4) : Fresh V.heap.size ((w4.alloc (.cells cs E)).alloc o1) [w4.heap.size] :=
  ⟨by simp, fun b hb => by rw [List.mem_singleton] at hb; subst hb; exact ⟨hc.size, cs, E, keep_alloc (new_alloc w4 _) _⟩⟩
theorem chunk_stops (b off len cap k m n1 Bo : Nat) (hk : 1 ≤ k) (hk2 : k ≤ 12) (hlen : len ≤ 1000000) (hcap : len ≤ cap) (hcm : cap ≤ maxLen) (hm : ∀ j, j * k < len ↔ j < m) (w1 w2 : World)
    (hw : w2 = (w1.alloc (.cells #[.slice (some ⟨b, off, none⟩) len cap] 24)).alloc (.cells #[.int .i64 k] 3)) (hn1 : n1 = w2.heap.size) (hBo : Bo < w1.heap.size) :
    SeqStopsK Fence.wide 2 Try.prog 55 #[.pointer (some ⟨w1.heap.size, 0, none⟩), .pointer (some ⟨w1.heap.size + 1, 0, none⟩)]
      (fun x : Fin m => #[.slice (some ⟨b, off + x.1 * k, none⟩) (min k (len - x.1 * k)) (min k (len - x.1 * k))]) (Kps n1 Bo) (fun ys => ys.map (·.1) = List.range m) (fun _ => True) m w2 := by
  have hsz : w2.heap.size = w1.heap.size + 2 := by rw [hw]; simp
  intro l J Jx W hW hJ hJx hY h0
  have e1 : W.cell? ⟨w1.heap.size, 0, none⟩ = some (.slice (some ⟨b, off, none⟩) len cap) := (World.cell?_of_block (hW.block _ (by show w1.heap.size < _; omega))).trans (by rw [hw]; exact cellsOf (keep_alloc (new_alloc w1 _) _) 0)
  have e2 : W.cell? ⟨w1.heap.size + 1, 0, none⟩ = some (.int .i64 k) := (World.cell?_of_block (hW.block _ (by show w1.heap.size + 1 < _; omega))).trans (by rw [hw]; exact cellsOf (new_alloc2 w1 _ _) 0)
  exact chunk1_in Fence.wide 2 trivial rfl (by omega) l w1.heap.size (w1.heap.size + 1) b off len cap k m n1 Bo hk hk2 hlen hcap hcm hm ⟨by omega, by omega⟩ ⟨by omega, by omega⟩ J Jx
    (fun s V hs => hJ s V V.drew none hs ⟨rfl, rfl, rfl, Nat.le_refl _, fun _ _ _ => rfl⟩ (fun r e => by cases e)) hY W e1 e2 h0
theorem put_end {V : World} {D : Nat} (h : V.heap[D]? = some (.deferred (some []))) (y : Nat) (hy : Loose V y) : (V.putObj D (.deferred none)).heap[y]? = V.heap[y]? :=
  World.putObj_heap_other (fun e => by
    obtain ⟨cur, E, h1⟩ := hy
    subst e
    rw [h] at h1; cases h1)
theorem put_chg {w V : World} {D : Nat} {o : Obj} (h : Below w.heap.size w V) (hD : w.heap.size ≤ D) : Chg [] w (V.putObj D o) :=
  Chg.of_below ⟨h.os, h.tape, h.output, by simpa [World.putObj] using h.size, fun k hk => (World.putObj_heap_other (by omega)).trans (h.block k hk)⟩
set_option maxRecDepth 100000 in
set_option maxHeartbeats 4000000 in
theorem split_any (s : Shp) (hs : s.ok) (k : Nat) (hkw : s.wide = (k : Int)) (b off len cap m : Nat) (xs : List UInt8) (f : List Nat) (w : World) (ha : byteL.sl w (some ⟨b, off, none⟩) len cap xs f) (hl2 : len ≤ 36) (hm : ∀ j, j * k < len ↔ j < m) (hm9 : m ≤ 36) :
    Calls Try.prog 22 #[.agg s.cells, .slice (some ⟨b, off, none⟩) len cap] w (NewSl byteL.slice ((List.range m).map (rowL xs k)) w) := by
  have hk4 := hs.wide
  have hk1 : 1 ≤ k := by omega
  have hk12 : k ≤ 12 := by omega
  have hcap := ha.2.1; have hcm := ha.2.2.1
  have HA := Lib.hid ha
  have HW := Lib.hid (rowLength_any s hs)
  obtain ⟨KLL, _⟩ := kindLL
  rw [hkw] at HW
  obtain ⟨sc, hsc⟩ : ∃ sc, sc = s.cells := ⟨_, rfl⟩
  rw [← hsc] at HW ⊢
  obtain ⟨g, c, d, p, r, q, bb, u, t⟩ := s
  simp only [Shp.cells] at hsc
  subst hsc
  clear hkw hs hk4 ha
  refine (callsIn_wide (n := 3)).1 ?_
  refine callsIn_of_wp_marks Try.func22 rfl trivial ?_ rfl
  simp only [Try.ntmps22, List.size_toArray, List.length_cons, List.length_nil, Nat.reduceAdd, Nat.reduceSub, Array.replicate_succ, Array.replicate_zero, List.push_toArray, List.append_toArray, List.nil_append, List.cons_append]
  gi_wp2_with (first
    | (refine ⟨trivial, ?_⟩; gi_at_call 34; refine (callsIn_wide.2 (HW.out _)).mono ?_; rintro e w1 ⟨rfl, hc⟩; have HC1 := Lib.hid hc; clear hc)
    | (refine ⟨trivial, ?_⟩; gi_at_call 42; refine (callsIn_wide.2 (chunk_any _ _ _ k hk1 _)).mono ?_; rintro e w' ⟨rfl, rfl⟩))
  have HB0 := Lib.hid (HC1.out.keep0 (keep_alloc (keep_alloc (new_alloc w _) _) _))
  have HB5 := Lib.hid (HC1.out.keep0 (new_at (b := w.heap.size + 1 + 1) (by simp) _ : (((w.alloc (.cells #[.int .i64 g, .int .i64 c, .int .i64 d, .int .i64 p, .int .i64 r, .int .i64 q, .int .i64 bb, .int .i64 u, .int .i64 t] 29)).alloc (.cells #[] 24)).alloc (.cells #[.slice (some ⟨w.heap.size + 1, 0, none⟩) 0 0] 25)).heap[w.heap.size + 1 + 1]? = some (.cells #[.slice (some ⟨w.heap.size + 1, 0, none⟩) 0 0] 25 (0, 0))))
  have hr0 := byteL.slice.os_made 24 (w.alloc (.cells #[.int .i64 g, .int .i64 c, .int .i64 d, .int .i64 p, .int .i64 r, .int .i64 q, .int .i64 bb, .int .i64 u, .int .i64 t] 29)) #[] 0 (by simp [maxLen]) (by simp)
  rw [show (w.alloc (.cells #[.int .i64 g, .int .i64 c, .int .i64 d, .int .i64 p, .int .i64 r, .int .i64 q, .int .i64 bb, .int .i64 u, .int .i64 t] 29)).heap.size = w.heap.size + 1 by simp] at hr0
  have HR0 := Lib.hid (byteL.slice.os_ext (byteL.slice.os_ext hr0 ((Chg.refl [] _).alloc (.cells #[.slice (some ⟨w.heap.size + 1, 0, none⟩) 0 0] 25))) HC1.out)
  clear hr0
  have HG := Lib.hid (show Chg [] w w1 from ((((Chg.refl [] w).alloc _).alloc _).alloc _).trans0 HC1.out)
  have hws : w.heap.size + 3 ≤ w1.heap.size := by have := HC1.out.size; simpa using this
  obtain ⟨w2, hw2⟩ : ∃ w2, w2 = (w1.alloc (.cells #[.slice (some ⟨b, off, none⟩) len cap] 24)).alloc (.cells #[.int .i64 k] 3) := ⟨_, rfl⟩
  have HC2 := Lib.hid (show Chg [] w1 w2 by rw [hw2]; exact ((Chg.refl [] w1).alloc _).alloc _)
  have hsz2 : w1.heap.size ≤ w2.heap.size := HC2.out.size
  rw [← hw2]
  refine wpIn_rangeFunc_ownG rfl (by omega) (gf := 55) (lb := #[.pointer (some ⟨w1.heap.size, 0, none⟩), .pointer (some ⟨w1.heap.size + 1, 0, none⟩)]) rfl trivial (enters_of Try.func55 (by kernel_rfl) rfl)
    (chunk_stops b off len cap k m w2.heap.size (w.heap.size + 1 + 1) hk1 hk12 (by omega) hcap hcm hm w1 w2 hw2 rfl (by omega)) (fun h1 h2 => h1.trans h2) (fun V l o o' hl hV _ _ q hq _ => World.putObj_heap_other (by omega)) (Below.refl _ _) (fun _ => rfl)
    (fun pre V => (Coll w.heap.size (w.heap.size + 1 + 1) w2.heap.size V (pre.map (fun x : Fin m => rowL xs k x.1)) ∧ V.heap[w.heap.size]? = some (.cells #[.int .i64 g, .int .i64 c, .int .i64 d, .int .i64 p, .int .i64 r, .int .i64 q, .int .i64 bb, .int .i64 u, .int .i64 t] 29 (0, 0))) ∧ Below w.heap.size w V)
    (fun _ _ _ => False)
    (OwnFrom.and (fun pre V V' row hs hg hr => ⟨hs.1.keep hg.size (fun q o ho hc => grownBy_keeps_cells hg (fun r e => (hr r e).2) ho hc), (grownBy_keeps_cells hg (fun r e => (hr r e).2) hs.2 rfl).trans hs.2⟩) (ownFrom_below (Nat.le_refl _) (by omega)))
    (fun _ _ _ _ _ hs _ _ => hs)
    ⟨⟨⟨_, _, _, HC2.out.keep0 HB5.out, byteL.slice.os_ext HR0.out HC2.out, ⟨by simp, fun y hy => by
        simp at hy
        subst hy
        exact ⟨by omega, _, _, HC2.out.keep0 (HC1.out.keep0 (keep_alloc (new_at (b := w.heap.size + 1) (by simp) _) _))⟩⟩, by simp, Nat.le_refl _, fun g hg => .inl (by cases hg; omega)⟩, HC2.out.keep0 HB0.out⟩, chg_below (chg_below (Below.refl _ w) HG.out (Nat.le_refl _) (by simp)) HC2.out (by omega) (by simp)⟩
    (fun x => { tmps := #[.agg #[.int .i64 g, .int .i64 c, .int .i64 d, .int .i64 p, .int .i64 r, .int .i64 q, .int .i64 bb, .int .i64 u, .int .i64 t], .slice (some ⟨b, off, none⟩) len cap, .pointer (some ⟨w.heap.size, 0, none⟩), undef, .slice none 0 0, .pointer (some ⟨w.heap.size + 1 + 1, 0, none⟩), .slice (some ⟨b, off + x.1 * k, none⟩) (min k (len - x.1 * k)) (min k (len - x.1 * k)), undef, .slice (some ⟨w.heap.size + 1, 0, none⟩) 0 0, .slice (some ⟨b, off, none⟩) len cap, .agg #[.int .i64 g, .int .i64 c, .int .i64 d, .int .i64 p, .int .i64 r, .int .i64 q, .int .i64 bb, .int .i64 u, .int .i64 t], .int .i64 k, .func (.func 55) #[] #[.pointer (some ⟨w1.heap.size, 0, none⟩), .pointer (some ⟨w1.heap.size + 1, 0, none⟩)], .slice (some ⟨b, off + x.1 * k, none⟩) (min k (len - x.1 * k)) (min k (len - x.1 * k)), undef, undef, undef, undef, undef, undef, undef, undef, undef, undef, undef], defers := [] }) ?assign ?body ?done ?stop
  case assign =>
    intro l x V K hK
    gi_wp2
    exact hK
  case body =>
    rintro l pre x V ⟨⟨⟨v, hd, fps, hbo, hos, hfr, hno, hnv, hhd⟩, hbox⟩, hB⟩ hlt
    obtain ⟨a9, c9, rfl⟩ := byteL.slice.os_len hos
    obtain ⟨pn, hpn⟩ : ∃ pn, pn = (pre.map (fun x : Fin m => rowL xs k x.1)).length := ⟨_, rfl⟩
    rw [← hpn] at hbo hos
    have hpm : pn < 36 := by rw [hpn, List.length_map]; omega
    have cA := cellsOf hbox; have lA := ltOf hbox; have cO := cellsOf hbo; have lO := ltOf hbo; have fO := freeOf hbo
    have hx := (hm x.1).2 x.2
    have hmk : ∀ W : World, (Instr.makeSlice 24 (.int .i64 (k : Int)) (.int .i64 (k : Int))).run Try.prog W = .ok (.slice (some ⟨W.heap.size, 0, none⟩) k k) (W.alloc (.cells (zrow (.int .u8 0) k) 5)) := fun W => make_bytes k (by omega) W
    have HBO := Lib.hid hbo; have HOS := Lib.hid hos; have HFR := Lib.hid hfr; have HNO := Lib.hid hno; have HBB := Lib.hid hB; have HHD := Lib.hid hhd; have HBX := Lib.hid hbox; have HPN := Lib.hid hpn
    have HLL := Lib.hid (show (pre.map (fun x : Fin m => rowL xs k x.1)).length + [rowL xs k x.1].length ≤ maxLen ∧ ((pre.map (fun x : Fin m => rowL xs k x.1)).length + [rowL xs k x.1].length) * 24 ≤ 140737488355328 by rw [← hpn]; simp only [List.length_singleton, maxLen]; omega)
    have hn1 : 1 ≤ 3 - 1 - 1 := by omega
    clear hbo hos hfr hno hB hhd hbox hpn
    have lV := lO
    gi_wp2_with (first
      | (refine ⟨trivial, ?_⟩; gi_at_call 34; refine (CallsIn.inRound l (callsIn_wide.2 (HW.out _))).mono ?_; rintro e w4 ⟨rfl, hc⟩; have HC4 := Lib.hid hc; clear hc; obtain ⟨cs, hcp, hrow⟩ := part_copy HA.out ((below_chg HBB.out).trans0 HC4.out) hx hk1 hk12; have HROW := Lib.hid hrow; clear hrow; have hb4 := HC4.out.keep0 HBO.out; clear cO fO lO; have cO := cellsOf hb4; have lO := ltOf hb4; have fO := freeOf hb4; have HB4 := Lib.hid hb4; clear hb4)
      | (gi_at_builtin; refine byteL.slice.wpListIn_app rfl _ _ 25 rfl Try.underlying25 KLL rfl (byteL.slice.os_ext HOS.out ((HC4.out.alloc _).alloc _)) ⟨w4.heap.size + 1, 0, none⟩ 1 1 [.slice (some ⟨w4.heap.size, 0, none⟩) k k] (ys := [rowL xs k x.1]) (f := [w4.heap.size]) rfl rfl (news2 w4 _ _ _) (slc_one (byteL.sl_ext HROW.out ((Chg.refl [] _).alloc _))) (not_new HFR.out HC4.out) HLL.out.1 HLL.out.2 ?_; intro v' w' h' ho hh hch; obtain ⟨a6, c6, rfl⟩ := byteL.slice.os_len ho; have hb6 := hch.keepb (keep_alloc (keep_alloc HB4.out _) _) (fun hm => HNO.out (List.mem_append.2 (.inl hm))); clear cO lO fO; have cO := cellsOf hb6; have lO := ltOf hb6; have fO := freeOf hb6; have HB6 := Lib.hid hb6; clear hb6; have HO := Lib.hid ho; have HH := Lib.hid hh; have HCH := Lib.hid hch; clear ho hh hch; simp only [List.length_append, List.length_map, List.length_singleton]))
    have hvs := HBB.out.size
    obtain ⟨q1, q2, q3, q4⟩ := coll_next HBO.out HB6.out HFR.out HNO.out HHD.out hnv hvs (by omega) ((HC4.out.alloc _).alloc _) (fresh_r HC4.out) HO.out HH.out HCH.out
    have hv6 : (pre.map (fun x : Fin m => rowL xs k x.1) ++ [rowL xs k x.1]).length = pre.length + 1 := by simp
    rw [hv6] at q1 q2 q3 q4
    refine ⟨q1, q2, ⟨by rw [List.map_append]; exact q3, ?_⟩, chg_below HBB.out q4 hvs (fun x hx => ?_)⟩
    · refine (q4.block _ lA (fun hm => ?_)).trans HBX.out
      rcases List.mem_cons.1 hm with h | h
      · omega
      · cases hd with
        | none => cases h
        | some g => simp at h; rcases HHD.out g rfl with h2 | h2 <;> omega
    · rcases List.mem_cons.1 hx with rfl | h
      · omega
      · exact (HFR.out.2 x (List.mem_append.2 (.inl h))).1
  case done =>
    rintro D ys V hD hys ⟨⟨⟨v, hd, fps, hbo, hos, hfr, hno, hnv, hhd⟩, -⟩, hB⟩ hK
    obtain ⟨a9, c9, rfl⟩ := byteL.slice.os_len hos
    have e : (ys.map (fun x : Fin m => rowL xs k x.1)) = (List.range m).map (rowL xs k) := by rw [← hys, List.map_map]; rfl
    rw [e] at hos hbo
    have cO := cellsOf hbo; have lO := ltOf hbo; have fO := freeOf hbo
    obtain ⟨a7, c7, e7, hsl⟩ := byteL.slice.os_sl hos
    have HS := Lib.hid hsl; have HF := Lib.hid hfr; have HB := Lib.hid hB; have HD := Lib.hid hK; have HO := Lib.hid hos; have HE := Lib.hid e7
    have HSZ := Lib.hid (show w.heap.size ≤ D by have := HG.out.size; omega)
    clear hbo hos hfr hno hnv hhd hB hK hsl e e7
    gi_wp2
    refine ⟨by simp, .inl ⟨_, _, rfl, run_takeDeferred HD.out, ?_⟩⟩
    refine ⟨.slice a9 m c9, by simp [results, Try.results22, go_sem], ?_⟩
    obtain ⟨rfl, -, rfl⟩ := Value.slice.inj HE.out
    have hk := fun y hy => put_end HD.out y (HF.out.2 y hy).2
    refine ⟨a9, c9, _, by rw [List.length_map, List.length_range], byteL.slice.sl_keep HS.out hk, ⟨HF.out.1, fun y hy => ⟨(HF.out.2 y hy).1, ?_⟩⟩, ?_⟩
    · obtain ⟨cur, E, e⟩ := (HF.out.2 y hy).2
      exact ⟨cur, E, (hk y hy).trans e⟩
    · exact put_chg HB.out HSZ.out
  case stop =>
    rintro D c pre V _ _ h _
    exact h.elim
end Go.Proofs.Ytcejdmggacjnoaa
