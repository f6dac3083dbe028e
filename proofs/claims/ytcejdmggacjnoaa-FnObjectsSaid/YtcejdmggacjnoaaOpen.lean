
/- From the form's own reading of an argument to a layout: what was read lies in memory as the layout says. No function of the program in sight. -/
import Derived.Test.YtcejdmggacjnoaaRep
import Derived.ChangeArms
namespace Go.Proofs.Ytcejdmggacjnoaa
open Go.RowKit

/-- whatever is read at a type lies as the layout says -/
def Opens {α : Type} (P : Program) (T : TypeId) (L : Lay α) : Prop :=
  P.cellsOf T = L.n ∧ ∀ (H : Type) (enc : TypeId × Value → H) (W : World) (fuel : Nat) (cs : List Value) (x : DataW H × List MemPlace),
    DataW.trod enc P W 0 (fun _ => true) true fuel T cs = some x → ∃ a fp, L.rep W cs a fp

theorem opens_byte {P : Program} {T : TypeId} (hT : P.underlying T = some (.int .u8)) (hc : P.cellsOf T = 1) : Opens P T byteL := by
  refine ⟨hc, fun H enc W fuel cs x h => ?_⟩
  obtain ⟨n, hcs, _, hw⟩ := DataW.trod_int hT h
  simp only [Lit.wf, Bool.and_eq_true, decide_eq_true_eq] at hw
  have h1 : (0 : Int) ≤ n := hw.1
  have h2 : n ≤ 255 := hw.2
  refine ⟨UInt8.ofNat n.toNat, [], ?_, rfl⟩
  rw [hcs]
  congr 2
  rw [UInt8.toNat_ofNat']
  omega

theorem opens_int {P : Program} {T : TypeId} (hT : P.underlying T = some (.int .i64)) (hc : P.cellsOf T = 1) : Opens P T intL := by
  refine ⟨hc, fun H enc W fuel cs x h => ?_⟩
  obtain ⟨n, hcs, _, hw⟩ := DataW.trod_int hT h
  simp only [Lit.wf, Bool.and_eq_true, decide_eq_true_eq] at hw
  exact ⟨n, [], hcs, ⟨hw.1, hw.2⟩, rfl⟩

theorem opens_bool {P : Program} {T : TypeId} (hT : P.underlying T = some .bool) (hc : P.cellsOf T = 1) : Opens P T boolL := by
  refine ⟨hc, fun H enc W fuel cs x h => ?_⟩
  obtain ⟨b, hcs, _⟩ := DataW.trod_bool hT h
  exact ⟨b, [], hcs, rfl⟩

theorem opens_str {P : Program} {T : TypeId} (hT : P.underlying T = some .string) (hc : P.cellsOf T = 1) : Opens P T strL := by
  refine ⟨hc, fun H enc W fuel cs x h => ?_⟩
  obtain ⟨s, hcs, _, hs⟩ := DataW.trod_string hT h
  exact ⟨s, [], hcs, hs, rfl⟩

theorem opens_slice {α : Type} {L : Lay α} {P : Program} {T E : TypeId} (hT : P.underlying T = some (.slice E)) (hc : P.cellsOf T = 1) (hE : Opens P E L) : Opens P T L.slice := by
  refine ⟨hc, fun H enc W fuel cs x h => ?_⟩
  rcases DataW.trod_slice hT h with ⟨hcs, _⟩ | ⟨a, len, cap, elems, rest, n, _, hcs, _, _, hl, hm, hlen, hel, _, _⟩
  · exact ⟨[], [], none, 0, 0, hcs, rfl, by omega, by simp [maxLen], fun _ => rfl, .inl ⟨rfl, rfl⟩⟩
  · by_cases h0 : len = 0
    · subst h0
      exact ⟨[], [], some a, 0, cap, hcs, rfl, hl, hm, (fun h => by cases h), .inl ⟨rfl, rfl⟩⟩
    · rw [hE.1] at hel
      have hcell : ∀ i, i < len → ∃ c y, W.cells? 0 (a.add (i * L.n)) L.n = some c ∧ DataW.trod enc P W 0 (fun _ => true) true n E c = some y := by
        intro i hi
        have h1 := hel i hi
        rw [List.getElem?_eq_getElem (by omega)] at h1
        obtain ⟨c, h2, h3⟩ := Option.bind_eq_some_iff.1 h1
        exact ⟨c, _, h2, h3⟩
      have cells_get : ∀ (b : Addr) (c : List Value), W.cells? 0 b L.n = some c → c.length = L.n ∧ ∀ j, j < L.n → W.cell? (b.add j) = c[j]? := by
        intro b c h
        unfold World.cells? at h
        rw [if_pos (Nat.zero_le _)] at h
        exact ⟨by simpa using mapM_some_length h, fun j hj => mapM_some_get h j j (by simp [hj])⟩
      obtain ⟨c0, y0, hc0, _⟩ := hcell 0 (by omega)
      have hz := (cells_get _ _ hc0).2 0 L.pos
      have hz' : W.cell? a = c0[0]? := by simpa [Addr.add] using hz
      rw [List.getElem?_eq_getElem (by rw [(cells_get _ _ hc0).1]; exact L.pos)] at hz'
      have hspot : a.spot = none := World.cell?_spot hz'
      obtain ⟨b, off, spot⟩ := a
      simp only at hspot
      subst hspot
      obtain ⟨cur, F, fr, hb⟩ : ∃ cur F fr, W.heap[b]? = some (.cells cur F fr) := by
        simp only [World.cell?] at hz'
        split at hz' <;> simp_all
      have hadd : ∀ i j, ((⟨b, off, none⟩ : Addr).add i).add j = ⟨b, off + i + j, none⟩ := by
        intro i j
        unfold Addr.add
        split <;> split <;> simp_all
      have key : ∀ k, k ≤ len → ∃ xs fps, xs.length = k ∧ L.all W ((cur.toList.drop off).take (k * L.n)) xs fps := by
        intro k
        induction k with
        | zero => intro _; exact ⟨[], [], rfl, by simp [Lay.all]⟩
        | succ k ih =>
          intro hk
          obtain ⟨xs, fps, hx, hall⟩ := ih (by omega)
          obtain ⟨c, y, hc, hy⟩ := hcell k (by omega)
          obtain ⟨hcl, hcg⟩ := cells_get _ _ hc
          obtain ⟨v, f, hr⟩ := hE.2 H enc W n c y hy
          refine ⟨xs ++ [v], fps ++ f, by simp [hx], ?_⟩
          have e : (cur.toList.drop off).take ((k + 1) * L.n) = (cur.toList.drop off).take (k * L.n) ++ c := by
            rw [Nat.add_mul, Nat.one_mul, List.take_add]
            congr 1
            apply List.ext_getElem?
            intro j
            by_cases hj : j < L.n
            · have := hcg j hj
              rw [hadd, cell_of_row W b _ cur F fr hb] at this
              rw [List.getElem?_take_of_lt hj, List.getElem?_drop, List.getElem?_drop, ← this]
              simp [Nat.add_assoc]
            · rw [List.getElem?_eq_none (by simp; omega), List.getElem?_eq_none (by omega)]
          rw [e]
          exact L.all_append hall (L.all_single hr)
      obtain ⟨xs, fps, hx, hall⟩ := key len (Nat.le_refl _)
      exact ⟨xs, b :: fps, some ⟨b, off, none⟩, len, cap, hcs, hx.symm, hl, hm, (fun h => by cases h), .inr ⟨b, off, cur, F, fr, fps, rfl, hb, hall, rfl⟩⟩

/-- the fields of a struct, one behind the other from a place on -/
def OpensF {α : Type} (P : Program) (fs : List Field) (off : Nat) (L : Lay α) : Prop :=
  ∀ (H : Type) (enc : TypeId × Value → H) (W : World) (fuel : Nat) (cs : List Value),
    (∀ f ∈ fs, ∃ x, DataW.trod enc P W 0 (fun _ => true) true fuel f.type ((cs.drop f.offset).take (P.cellsOf f.type)) = some x) → ∃ a fp, L.rep W ((cs.drop off).take L.n) a fp

theorem opensF_last {α : Type} {L : Lay α} {P : Program} {f : Field} (h : Opens P f.type L) : OpensF P [f] f.offset L := by
  intro H enc W fuel cs hf
  obtain ⟨x, hx⟩ := hf f (by simp)
  rw [h.1] at hx
  exact h.2 H enc W fuel _ x hx

theorem opensF_cons {α β : Type} {L : Lay α} {M : Lay β} {P : Program} {f : Field} {fs : List Field} (h : Opens P f.type L) (hs : OpensF P fs (f.offset + L.n) M) : OpensF P (f :: fs) f.offset (L.pair M) := by
  intro H enc W fuel cs hf
  obtain ⟨x, hx⟩ := hf f (by simp)
  rw [h.1] at hx
  obtain ⟨a, f1, h1⟩ := h.2 H enc W fuel _ x hx
  obtain ⟨b, f2, h2⟩ := hs H enc W fuel cs (fun g hg => hf g (by simp [hg]))
  refine ⟨(a, b), f1 ++ f2, (cs.drop f.offset).take L.n, _, f1, f2, ?_, rfl, h1, h2⟩
  show (cs.drop f.offset).take (L.n + M.n) = _
  rw [List.take_add, List.drop_drop]

theorem opens_struct {α : Type} {L : Lay α} {P : Program} {T : TypeId} {fs : Array Field} (hT : P.underlying T = some (.struct fs)) (hc : P.cellsOf T = L.n) (h : OpensF P fs.toList 0 L) : Opens P T L := by
  refine ⟨hc, fun H enc W fuel cs x hx => ?_⟩
  obtain ⟨xs, n, _, _, hl, hlen, hf⟩ := DataW.trod_struct hT hx
  obtain ⟨a, fp, hr⟩ := h H enc W n cs (fun f hf' => by
    obtain ⟨i, hi, he⟩ := List.getElem_of_mem hf'
    have hi' : i < fs.size := by simpa using hi
    have := hf i f (by rw [Array.getElem?_eq_getElem hi']; congr 1)
    rw [List.getElem?_eq_getElem (by omega)] at this
    exact ⟨_, this⟩)
  refine ⟨a, fp, ?_⟩
  rw [List.drop_zero, List.take_of_length_le (by omega)] at hr
  exact hr

theorem opens_via {α β : Type} {L : Lay α} {P : Program} {T : TypeId} (h : Opens P T L) (f : β → α) (g : α → β) (hfg : ∀ y, f (g y) = y) : Opens P T (L.via f) := by
  refine ⟨h.1, fun H enc W fuel cs x hx => ?_⟩
  obtain ⟨a, fp, hr⟩ := h.2 H enc W fuel cs x hx
  refine ⟨g a, fp, ?_⟩
  show L.rep W cs (f (g a)) fp
  rw [hfg]; exact hr

theorem Opens.trod {α : Type} {L : Lay α} {P : Program} {T : TypeId} (h : Opens P T L) {H : Type} {enc : TypeId × Value → H} {W : World} {v : Value} {d : DataW H} {ps : List MemPlace}
    (hd : DataW.Trod enc P W 0 (fun _ => true) true T v d ps) : ∃ a fp, L.rep W v.cells.toList a fp := by
  obtain ⟨fuel, hf⟩ := hd
  exact h.2 H enc W fuel _ _ hf

end Go.Proofs.Ytcejdmggacjnoaa
