/- Several texts in one. -/
import Derived.Test.YtphmpimgbmedbaaGreatRep
import Derived.ChangeArms
import Derived.Test.YtphmpimgbmedbaaGreatRows
/- From the form's own reading of an argument to a layout: what was read lies in memory as the layout says. No function of the program in sight. -/
namespace Go.Proofs.YtphmpimgbmedbaaGreat
open Go.RowKit

/-- whatever is read at a type lies as the layout says -/
def Opens {α : Type} (P : Program) (T : TypeId) (L : Lay α) : Prop :=
  P.cellsOf T = L.n ∧ ∀ (H : Type) (enc : TypeId × Value → H) (W : World) (fuel : Nat) (cs : List Value) (x : DataW H × List MemPlace),
    DataW.trod enc P W 0 (fun _ => true) true fuel T cs = some x → ∃ a fp, L.rep W cs a fp

theorem opens_byte {P : Program} {T : TypeId} (hT : P.underlying T = some (.int .u8)) (hc : P.cellsOf T = 1) : Opens P T byteL := by
  refine ⟨hc, fun H enc W fuel cs x h => ?_⟩
  obtain ⟨n, hcs, _, hw⟩ := DataW.trod_int hT h
  simp only [Lit.wf, Bool.and_eq_true, decide_eq_true_eq] at hw
  have h1 : (0 : Int) ≤ n := hw.1
  have h2 : n ≤ 255 := hw.2
  refine ⟨UInt8.ofNat n.toNat, [], ?_, rfl⟩
  rw [hcs]
  congr 2
  rw [UInt8.toNat_ofNat']
  omega

theorem opens_int {P : Program} {T : TypeId} (hT : P.underlying T = some (.int .i64)) (hc : P.cellsOf T = 1) : Opens P T intL := by
  refine ⟨hc, fun H enc W fuel cs x h => ?_⟩
  obtain ⟨n, hcs, _, hw⟩ := DataW.trod_int hT h
  simp only [Lit.wf, Bool.and_eq_true, decide_eq_true_eq] at hw
  exact ⟨n, [], hcs, ⟨hw.1, hw.2⟩, rfl⟩

theorem opens_bool {P : Program} {T : TypeId} (hT : P.underlying T = some .bool) (hc : P.cellsOf T = 1) : Opens P T boolL := by
  refine ⟨hc, fun H enc W fuel cs x h => ?_⟩
  obtain ⟨b, hcs, _⟩ := DataW.trod_bool hT h
  exact ⟨b, [], hcs, rfl⟩

theorem opens_str {P : Program} {T : TypeId} (hT : P.underlying T = some .string) (hc : P.cellsOf T = 1) : Opens P T strL := by
  refine ⟨hc, fun H enc W fuel cs x h => ?_⟩
  obtain ⟨s, hcs, _, hs⟩ := DataW.trod_string hT h
  exact ⟨s, [], hcs, hs, rfl⟩

theorem opens_slice {α : Type} {L : Lay α} {P : Program} {T E : TypeId} (hT : P.underlying T = some (.slice E)) (hc : P.cellsOf T = 1) (hE : Opens P E L) : Opens P T L.slice := by
  refine ⟨hc, fun H enc W fuel cs x h => ?_⟩
  rcases DataW.trod_slice hT h with ⟨hcs, _⟩ | ⟨a, len, cap, elems, rest, n, _, hcs, _, _, hl, hm, hlen, hel, _, _⟩
  · exact ⟨[], [], none, 0, 0, hcs, rfl, by omega, by simp [maxLen], fun _ => rfl, .inl ⟨rfl, rfl⟩⟩
  · by_cases h0 : len = 0
    · subst h0
      exact ⟨[], [], some a, 0, cap, hcs, rfl, hl, hm, (fun h => by cases h), .inl ⟨rfl, rfl⟩⟩
    · rw [hE.1] at hel
      have hcell : ∀ i, i < len → ∃ c y, W.cells? 0 (a.add (i * L.n)) L.n = some c ∧ DataW.trod enc P W 0 (fun _ => true) true n E c = some y := by
        intro i hi
        have h1 := hel i hi
        rw [List.getElem?_eq_getElem (by omega)] at h1
        obtain ⟨c, h2, h3⟩ := Option.bind_eq_some_iff.1 h1
        exact ⟨c, _, h2, h3⟩
      have cells_get : ∀ (b : Addr) (c : List Value), W.cells? 0 b L.n = some c → c.length = L.n ∧ ∀ j, j < L.n → W.cell? (b.add j) = c[j]? := by
        intro b c h
        unfold World.cells? at h
        rw [if_pos (Nat.zero_le _)] at h
        exact ⟨by simpa using mapM_some_length h, fun j hj => mapM_some_get h j j (by simp [hj])⟩
      obtain ⟨c0, y0, hc0, _⟩ := hcell 0 (by omega)
      have hz := (cells_get _ _ hc0).2 0 L.pos
      have hz' : W.cell? a = c0[0]? := by simpa [Addr.add] using hz
      rw [List.getElem?_eq_getElem (by rw [(cells_get _ _ hc0).1]; exact L.pos)] at hz'
      have hspot : a.spot = none := World.cell?_spot hz'
      obtain ⟨b, off, spot⟩ := a
      simp only at hspot
      subst hspot
      obtain ⟨cur, F, fr, hb⟩ : ∃ cur F fr, W.heap[b]? = some (.cells cur F fr) := by
        simp only [World.cell?] at hz'
        split at hz' <;> simp_all
      have hadd : ∀ i j, ((⟨b, off, none⟩ : Addr).add i).add j = ⟨b, off + i + j, none⟩ := by
        intro i j
        unfold Addr.add
        split <;> split <;> simp_all
      have key : ∀ k, k ≤ len → ∃ xs fps, xs.length = k ∧ L.all W ((cur.toList.drop off).take (k * L.n)) xs fps := by
        intro k
        induction k with
        | zero => intro _; exact ⟨[], [], rfl, by simp [Lay.all]⟩
        | succ k ih =>
          intro hk
          obtain ⟨xs, fps, hx, hall⟩ := ih (by omega)
          obtain ⟨c, y, hc, hy⟩ := hcell k (by omega)
          obtain ⟨hcl, hcg⟩ := cells_get _ _ hc
          obtain ⟨v, f, hr⟩ := hE.2 H enc W n c y hy
          refine ⟨xs ++ [v], fps ++ f, by simp [hx], ?_⟩
          have e : (cur.toList.drop off).take ((k + 1) * L.n) = (cur.toList.drop off).take (k * L.n) ++ c := by
            rw [Nat.add_mul, Nat.one_mul, List.take_add]
            congr 1
            apply List.ext_getElem?
            intro j
            by_cases hj : j < L.n
            · have := hcg j hj
              rw [hadd, cell_of_row W b _ cur F fr hb] at this
              rw [List.getElem?_take_of_lt hj, List.getElem?_drop, List.getElem?_drop, ← this]
              simp [Nat.add_assoc]
            · rw [List.getElem?_eq_none (by simp; omega), List.getElem?_eq_none (by omega)]
          rw [e]
          exact L.all_append hall (L.all_single hr)
      obtain ⟨xs, fps, hx, hall⟩ := key len (Nat.le_refl _)
      exact ⟨xs, b :: fps, some ⟨b, off, none⟩, len, cap, hcs, hx.symm, hl, hm, (fun h => by cases h), .inr ⟨b, off, cur, F, fr, fps, rfl, hb, hall, rfl⟩⟩

/-- the fields of a struct, one behind the other from a place on -/
def OpensF {α : Type} (P : Program) (fs : List Field) (off : Nat) (L : Lay α) : Prop :=
  ∀ (H : Type) (enc : TypeId × Value → H) (W : World) (fuel : Nat) (cs : List Value),
    (∀ f ∈ fs, ∃ x, DataW.trod enc P W 0 (fun _ => true) true fuel f.type ((cs.drop f.offset).take (P.cellsOf f.type)) = some x) → ∃ a fp, L.rep W ((cs.drop off).take L.n) a fp

theorem opensF_last {α : Type} {L : Lay α} {P : Program} {f : Field} (h : Opens P f.type L) : OpensF P [f] f.offset L := by
  intro H enc W fuel cs hf
  obtain ⟨x, hx⟩ := hf f (by simp)
  rw [h.1] at hx
  exact h.2 H enc W fuel _ x hx

theorem opensF_cons {α β : Type} {L : Lay α} {M : Lay β} {P : Program} {f : Field} {fs : List Field} (h : Opens P f.type L) (hs : OpensF P fs (f.offset + L.n) M) : OpensF P (f :: fs) f.offset (L.pair M) := by
  intro H enc W fuel cs hf
  obtain ⟨x, hx⟩ := hf f (by simp)
  rw [h.1] at hx
  obtain ⟨a, f1, h1⟩ := h.2 H enc W fuel _ x hx
  obtain ⟨b, f2, h2⟩ := hs H enc W fuel cs (fun g hg => hf g (by simp [hg]))
  refine ⟨(a, b), f1 ++ f2, (cs.drop f.offset).take L.n, _, f1, f2, ?_, rfl, h1, h2⟩
  show (cs.drop f.offset).take (L.n + M.n) = _
  rw [List.take_add, List.drop_drop]

theorem opens_struct {α : Type} {L : Lay α} {P : Program} {T : TypeId} {fs : Array Field} (hT : P.underlying T = some (.struct fs)) (hc : P.cellsOf T = L.n) (h : OpensF P fs.toList 0 L) : Opens P T L := by
  refine ⟨hc, fun H enc W fuel cs x hx => ?_⟩
  obtain ⟨xs, n, _, _, hl, hlen, hf⟩ := DataW.trod_struct hT hx
  obtain ⟨a, fp, hr⟩ := h H enc W n cs (fun f hf' => by
    obtain ⟨i, hi, he⟩ := List.getElem_of_mem hf'
    have hi' : i < fs.size := by simpa using hi
    have := hf i f (by rw [Array.getElem?_eq_getElem hi']; congr 1)
    rw [List.getElem?_eq_getElem (by omega)] at this
    exact ⟨_, this⟩)
  refine ⟨a, fp, ?_⟩
  rw [List.drop_zero, List.take_of_length_le (by omega)] at hr
  exact hr

theorem opens_via {α β : Type} {L : Lay α} {P : Program} {T : TypeId} (h : Opens P T L) (f : β → α) (g : α → β) (hfg : ∀ y, f (g y) = y) : Opens P T (L.via f) := by
  refine ⟨h.1, fun H enc W fuel cs x hx => ?_⟩
  obtain ⟨a, fp, hr⟩ := h.2 H enc W fuel cs x hx
  refine ⟨g a, fp, ?_⟩
  show L.rep W cs (f (g a)) fp
  rw [hfg]; exact hr

theorem Opens.trod {α : Type} {L : Lay α} {P : Program} {T : TypeId} (h : Opens P T L) {H : Type} {enc : TypeId × Value → H} {W : World} {v : Value} {d : DataW H} {ps : List MemPlace}
    (hd : DataW.Trod enc P W 0 (fun _ => true) true T v d ps) : ∃ a fp, L.rep W v.cells.toList a fp := by
  obtain ⟨fuel, hf⟩ := hd
  exact h.2 H enc W fuel _ _ hf

end Go.Proofs.YtphmpimgbmedbaaGreat

/- The program's data as plain structures, how each lies in memory, and what that says cell by cell. No function of the program in sight. -/
namespace Go.Proofs.YtphmpimgbmedbaaGreat
open Go.RowKit

structure Shp where
  groups : Int
  column : Int
  data : Int
  spare : Int
  rows : Int
  cap : Int
  batch : Int
  queue : Int
  stage : Int

structure Blk where
  stamp : Int
  bytes : List UInt8

structure Drv where
  wiped : Bool
  blocks : List Blk

structure Rec where
  kind : Int
  seq : Int
  name : ByteArray
  length : Int
  group : Int
  row : Int
  rows : List Int
  data : List UInt8
  delta : List UInt8

structure Tap where
  wiped : Bool
  recs : List Rec

def shpT (x : Shp) : Int × Int × Int × Int × Int × Int × Int × Int × Int := (x.groups, x.column, x.data, x.spare, x.rows, x.cap, x.batch, x.queue, x.stage)
def shpU (y : Int × Int × Int × Int × Int × Int × Int × Int × Int) : Shp := ⟨y.1, y.2.1, y.2.2.1, y.2.2.2.1, y.2.2.2.2.1, y.2.2.2.2.2.1, y.2.2.2.2.2.2.1, y.2.2.2.2.2.2.2.1, y.2.2.2.2.2.2.2.2⟩
def shpL : Lay Shp := (intL.pair (intL.pair (intL.pair (intL.pair (intL.pair (intL.pair (intL.pair (intL.pair (intL))))))))).via shpT
theorem shpL_iff {w : World} {cs : List Value} {x : Shp} {fp : List Nat} : shpL.rep w cs x fp ↔ cs = [.int .i64 x.groups, .int .i64 x.column, .int .i64 x.data, .int .i64 x.spare, .int .i64 x.rows, .int .i64 x.cap, .int .i64 x.batch, .int .i64 x.queue, .int .i64 x.stage] ∧ i64ok x.groups ∧ i64ok x.column ∧ i64ok x.data ∧ i64ok x.spare ∧ i64ok x.rows ∧ i64ok x.cap ∧ i64ok x.batch ∧ i64ok x.queue ∧ i64ok x.stage ∧ fp = [] := by
  constructor
  · rintro ⟨_, _, _, _, rfl, rfl, ⟨rfl, h0, rfl⟩, _, _, _, _, rfl, rfl, ⟨rfl, h1, rfl⟩, _, _, _, _, rfl, rfl, ⟨rfl, h2, rfl⟩, _, _, _, _, rfl, rfl, ⟨rfl, h3, rfl⟩, _, _, _, _, rfl, rfl, ⟨rfl, h4, rfl⟩, _, _, _, _, rfl, rfl, ⟨rfl, h5, rfl⟩, _, _, _, _, rfl, rfl, ⟨rfl, h6, rfl⟩, _, _, _, _, rfl, rfl, ⟨rfl, h7, rfl⟩, rfl, h8, rfl⟩
    exact ⟨rfl, h0, h1, h2, h3, h4, h5, h6, h7, h8, rfl⟩
  · rintro ⟨rfl, h0, h1, h2, h3, h4, h5, h6, h7, h8, rfl⟩
    exact ⟨[_], _, [], _, rfl, rfl, ⟨rfl, h0, rfl⟩, [_], _, [], _, rfl, rfl, ⟨rfl, h1, rfl⟩, [_], _, [], _, rfl, rfl, ⟨rfl, h2, rfl⟩, [_], _, [], _, rfl, rfl, ⟨rfl, h3, rfl⟩, [_], _, [], _, rfl, rfl, ⟨rfl, h4, rfl⟩, [_], _, [], _, rfl, rfl, ⟨rfl, h5, rfl⟩, [_], _, [], _, rfl, rfl, ⟨rfl, h6, rfl⟩, [_], _, [], _, rfl, rfl, ⟨rfl, h7, rfl⟩, rfl, h8, rfl⟩

def blkT (x : Blk) : Int × (List UInt8) := (x.stamp, x.bytes)
def blkU (y : Int × (List UInt8)) : Blk := ⟨y.1, y.2⟩
def blkL : Lay Blk := (intL.pair (byteL.slice)).via blkT
theorem blkL_iff {w : World} {cs : List Value} {x : Blk} {fp : List Nat} : blkL.rep w cs x fp ↔ ∃ (a1 : Option Addr) (l1 c1 : Nat) (f1 : List Nat), cs = [.int .i64 x.stamp, .slice a1 l1 c1] ∧ i64ok x.stamp ∧ byteL.sl w a1 l1 c1 x.bytes f1 ∧ fp = f1 := by
  constructor
  · rintro ⟨_, _, _, f1, rfl, rfl, ⟨rfl, h0, rfl⟩, a1, l1, c1, rfl, h1⟩
    exact ⟨a1, l1, c1, f1, rfl, h0, h1, rfl⟩
  · rintro ⟨a1, l1, c1, f1, rfl, h0, h1, rfl⟩
    exact ⟨[_], _, [], _, rfl, rfl, ⟨rfl, h0, rfl⟩, _, _, _, rfl, h1⟩

def drvT (x : Drv) : Bool × (List Blk) := (x.wiped, x.blocks)
def drvU (y : Bool × (List Blk)) : Drv := ⟨y.1, y.2⟩
def drvL : Lay Drv := (boolL.pair (blkL.slice)).via drvT
theorem drvL_iff {w : World} {cs : List Value} {x : Drv} {fp : List Nat} : drvL.rep w cs x fp ↔ ∃ (a1 : Option Addr) (l1 c1 : Nat) (f1 : List Nat), cs = [.bool x.wiped, .slice a1 l1 c1] ∧ blkL.sl w a1 l1 c1 x.blocks f1 ∧ fp = f1 := by
  constructor
  · rintro ⟨_, _, _, f1, rfl, rfl, ⟨rfl, rfl⟩, a1, l1, c1, rfl, h1⟩
    exact ⟨a1, l1, c1, f1, rfl, h1, rfl⟩
  · rintro ⟨a1, l1, c1, f1, rfl, h1, rfl⟩
    exact ⟨[_], _, [], _, rfl, rfl, ⟨rfl, rfl⟩, _, _, _, rfl, h1⟩

def recT (x : Rec) : Int × Int × ByteArray × Int × Int × Int × (List Int) × (List UInt8) × (List UInt8) := (x.kind, x.seq, x.name, x.length, x.group, x.row, x.rows, x.data, x.delta)
def recU (y : Int × Int × ByteArray × Int × Int × Int × (List Int) × (List UInt8) × (List UInt8)) : Rec := ⟨y.1, y.2.1, y.2.2.1, y.2.2.2.1, y.2.2.2.2.1, y.2.2.2.2.2.1, y.2.2.2.2.2.2.1, y.2.2.2.2.2.2.2.1, y.2.2.2.2.2.2.2.2⟩
def recL : Lay Rec := (intL.pair (intL.pair (strL.pair (intL.pair (intL.pair (intL.pair (intL.slice.pair (byteL.slice.pair (byteL.slice))))))))).via recT
theorem recL_iff {w : World} {cs : List Value} {x : Rec} {fp : List Nat} : recL.rep w cs x fp ↔ ∃ (a6 : Option Addr) (l6 c6 : Nat) (f6 : List Nat) (a7 : Option Addr) (l7 c7 : Nat) (f7 : List Nat) (a8 : Option Addr) (l8 c8 : Nat) (f8 : List Nat), cs = [.int .i64 x.kind, .int .i64 x.seq, .string x.name, .int .i64 x.length, .int .i64 x.group, .int .i64 x.row, .slice a6 l6 c6, .slice a7 l7 c7, .slice a8 l8 c8] ∧ i64ok x.kind ∧ i64ok x.seq ∧ x.name.size ≤ maxLen ∧ i64ok x.length ∧ i64ok x.group ∧ i64ok x.row ∧ intL.sl w a6 l6 c6 x.rows f6 ∧ byteL.sl w a7 l7 c7 x.data f7 ∧ byteL.sl w a8 l8 c8 x.delta f8 ∧ fp = f6 ++ (f7 ++ (f8)) := by
  constructor
  · rintro ⟨_, _, _, _, rfl, rfl, ⟨rfl, h0, rfl⟩, _, _, _, _, rfl, rfl, ⟨rfl, h1, rfl⟩, _, _, _, _, rfl, rfl, ⟨rfl, h2, rfl⟩, _, _, _, _, rfl, rfl, ⟨rfl, h3, rfl⟩, _, _, _, _, rfl, rfl, ⟨rfl, h4, rfl⟩, _, _, _, _, rfl, rfl, ⟨rfl, h5, rfl⟩, _, _, f6, _, rfl, rfl, ⟨a6, l6, c6, rfl, h6⟩, _, _, f7, f8, rfl, rfl, ⟨a7, l7, c7, rfl, h7⟩, a8, l8, c8, rfl, h8⟩
    exact ⟨a6, l6, c6, f6, a7, l7, c7, f7, a8, l8, c8, f8, rfl, h0, h1, h2, h3, h4, h5, h6, h7, h8, rfl⟩
  · rintro ⟨a6, l6, c6, f6, a7, l7, c7, f7, a8, l8, c8, f8, rfl, h0, h1, h2, h3, h4, h5, h6, h7, h8, rfl⟩
    exact ⟨[_], _, [], _, rfl, rfl, ⟨rfl, h0, rfl⟩, [_], _, [], _, rfl, rfl, ⟨rfl, h1, rfl⟩, [_], _, [], _, rfl, rfl, ⟨rfl, h2, rfl⟩, [_], _, [], _, rfl, rfl, ⟨rfl, h3, rfl⟩, [_], _, [], _, rfl, rfl, ⟨rfl, h4, rfl⟩, [_], _, [], _, rfl, rfl, ⟨rfl, h5, rfl⟩, [_], _, f6, _, rfl, rfl, ⟨_, _, _, rfl, h6⟩, [_], _, f7, _, rfl, rfl, ⟨_, _, _, rfl, h7⟩, _, _, _, rfl, h8⟩

def tapT (x : Tap) : Bool × (List Rec) := (x.wiped, x.recs)
def tapU (y : Bool × (List Rec)) : Tap := ⟨y.1, y.2⟩
def tapL : Lay Tap := (boolL.pair (recL.slice)).via tapT
theorem tapL_iff {w : World} {cs : List Value} {x : Tap} {fp : List Nat} : tapL.rep w cs x fp ↔ ∃ (a1 : Option Addr) (l1 c1 : Nat) (f1 : List Nat), cs = [.bool x.wiped, .slice a1 l1 c1] ∧ recL.sl w a1 l1 c1 x.recs f1 ∧ fp = f1 := by
  constructor
  · rintro ⟨_, _, _, f1, rfl, rfl, ⟨rfl, rfl⟩, a1, l1, c1, rfl, h1⟩
    exact ⟨a1, l1, c1, f1, rfl, h1, rfl⟩
  · rintro ⟨a1, l1, c1, f1, rfl, h1, rfl⟩
    exact ⟨[_], _, [], _, rfl, rfl, ⟨rfl, rfl⟩, _, _, _, rfl, h1⟩

end Go.Proofs.YtphmpimgbmedbaaGreat

/- The whole machine as plain data, and how it lies in memory. No function of the program in sight. -/
namespace Go.Proofs.YtphmpimgbmedbaaGreat
open Go.RowKit

structure Wld where
  shape : Shp
  groups : List (List Drv)
  on : List Int
  tapes : List Tap
  writes : Int
  stop : Int
  down : Bool

def wldT (x : Wld) : Shp × (List (List Drv)) × (List Int) × (List Tap) × Int × Int × Bool := (x.shape, x.groups, x.on, x.tapes, x.writes, x.stop, x.down)
def wldU (y : Shp × (List (List Drv)) × (List Int) × (List Tap) × Int × Int × Bool) : Wld := ⟨y.1, y.2.1, y.2.2.1, y.2.2.2.1, y.2.2.2.2.1, y.2.2.2.2.2.1, y.2.2.2.2.2.2⟩
def wldL : Lay Wld := (shpL.pair (drvL.slice.slice.pair (intL.slice.pair (tapL.slice.pair (intL.pair (intL.pair (boolL))))))).via wldT
theorem wldL_iff {w : World} {cs : List Value} {x : Wld} {fp : List Nat} : wldL.rep w cs x fp ↔ ∃ (a10 : Option Addr) (l10 c10 : Nat) (f10 : List Nat) (a11 : Option Addr) (l11 c11 : Nat) (f11 : List Nat) (a12 : Option Addr) (l12 c12 : Nat) (f12 : List Nat), cs = [.int .i64 x.shape.groups, .int .i64 x.shape.column, .int .i64 x.shape.data, .int .i64 x.shape.spare, .int .i64 x.shape.rows, .int .i64 x.shape.cap, .int .i64 x.shape.batch, .int .i64 x.shape.queue, .int .i64 x.shape.stage, .slice a10 l10 c10, .slice a11 l11 c11, .slice a12 l12 c12, .int .i64 x.writes, .int .i64 x.stop, .bool x.down] ∧ i64ok x.shape.groups ∧ i64ok x.shape.column ∧ i64ok x.shape.data ∧ i64ok x.shape.spare ∧ i64ok x.shape.rows ∧ i64ok x.shape.cap ∧ i64ok x.shape.batch ∧ i64ok x.shape.queue ∧ i64ok x.shape.stage ∧ drvL.slice.sl w a10 l10 c10 x.groups f10 ∧ intL.sl w a11 l11 c11 x.on f11 ∧ tapL.sl w a12 l12 c12 x.tapes f12 ∧ i64ok x.writes ∧ i64ok x.stop ∧ fp = f10 ++ (f11 ++ (f12 ++ ([]))) := by
  constructor
  · rintro ⟨_, _, _, _, rfl, rfl, ⟨_, _, _, _, rfl, rfl, ⟨rfl, h1, rfl⟩, _, _, _, _, rfl, rfl, ⟨rfl, h2, rfl⟩, _, _, _, _, rfl, rfl, ⟨rfl, h3, rfl⟩, _, _, _, _, rfl, rfl, ⟨rfl, h4, rfl⟩, _, _, _, _, rfl, rfl, ⟨rfl, h5, rfl⟩, _, _, _, _, rfl, rfl, ⟨rfl, h6, rfl⟩, _, _, _, _, rfl, rfl, ⟨rfl, h7, rfl⟩, _, _, _, _, rfl, rfl, ⟨rfl, h8, rfl⟩, rfl, h9, rfl⟩, _, _, f10, _, rfl, rfl, ⟨a10, l10, c10, rfl, h10⟩, _, _, f11, _, rfl, rfl, ⟨a11, l11, c11, rfl, h11⟩, _, _, f12, _, rfl, rfl, ⟨a12, l12, c12, rfl, h12⟩, _, _, _, _, rfl, rfl, ⟨rfl, h13, rfl⟩, _, _, _, _, rfl, rfl, ⟨rfl, h14, rfl⟩, rfl, rfl⟩
    exact ⟨a10, l10, c10, f10, a11, l11, c11, f11, a12, l12, c12, f12, rfl, h1, h2, h3, h4, h5, h6, h7, h8, h9, h10, h11, h12, h13, h14, rfl⟩
  · rintro ⟨a10, l10, c10, f10, a11, l11, c11, f11, a12, l12, c12, f12, rfl, h1, h2, h3, h4, h5, h6, h7, h8, h9, h10, h11, h12, h13, h14, rfl⟩
    exact ⟨[_, _, _, _, _, _, _, _, _], _, [], _, rfl, rfl, ⟨[_], _, [], _, rfl, rfl, ⟨rfl, h1, rfl⟩, [_], _, [], _, rfl, rfl, ⟨rfl, h2, rfl⟩, [_], _, [], _, rfl, rfl, ⟨rfl, h3, rfl⟩, [_], _, [], _, rfl, rfl, ⟨rfl, h4, rfl⟩, [_], _, [], _, rfl, rfl, ⟨rfl, h5, rfl⟩, [_], _, [], _, rfl, rfl, ⟨rfl, h6, rfl⟩, [_], _, [], _, rfl, rfl, ⟨rfl, h7, rfl⟩, [_], _, [], _, rfl, rfl, ⟨rfl, h8, rfl⟩, rfl, h9, rfl⟩, [_], _, f10, _, rfl, rfl, ⟨_, _, _, rfl, h10⟩, [_], _, f11, _, rfl, rfl, ⟨_, _, _, rfl, h11⟩, [_], _, f12, _, rfl, rfl, ⟨_, _, _, rfl, h12⟩, [_], _, [], _, rfl, rfl, ⟨rfl, h13, rfl⟩, [_], _, [], _, rfl, rfl, ⟨rfl, h14, rfl⟩, rfl, rfl⟩

end Go.Proofs.YtphmpimgbmedbaaGreat

/- What is read at the types of this program lies as the layouts say. -/
namespace Go.Proofs.YtphmpimgbmedbaaGreat
open Go.RowKit

theorem u8_of_wf {v : Int} (h : (Lit.int .u8 v).wf = true) : ∃ x : UInt8, v = x.toNat := by
  simp only [Lit.wf, Bool.and_eq_true, decide_eq_true_eq] at h
  have h1 : (0 : Int) ≤ v := h.1
  have h2 : v ≤ 255 := h.2
  refine ⟨UInt8.ofNat v.toNat, ?_⟩
  rw [UInt8.toNat_ofNat']
  omega
theorem i64_of_wf {v : Int} (h : (Lit.int .i64 v).wf = true) : i64ok v := by
  simp only [Lit.wf, Bool.and_eq_true, decide_eq_true_eq] at h
  exact ⟨h.1, h.2⟩

theorem op_byte : Opens Tryz.prog 5 byteL := opens_byte Tryz.underlying5 (by kernel_rfl)
theorem op_int : Opens Tryz.prog 2 intL := opens_int Tryz.underlying2 (by kernel_rfl)
theorem op_bool : Opens Tryz.prog 4 boolL := opens_bool Tryz.underlying4 (by kernel_rfl)
theorem op_str : Opens Tryz.prog 9 strL := opens_str Tryz.underlying9 (by kernel_rfl)
theorem op_bytes : Opens Tryz.prog 62 byteL.slice := opens_slice Tryz.underlying62 (by kernel_rfl) op_byte
theorem op_ints : Opens Tryz.prog 25 intL.slice := opens_slice Tryz.underlying25 (by kernel_rfl) op_int
theorem op_shp : Opens Tryz.prog 23 shpL :=
  opens_via (opens_struct Tryz.underlying23 (by kernel_rfl) (opensF_cons op_int (opensF_cons op_int (opensF_cons op_int (opensF_cons op_int (opensF_cons op_int (opensF_cons op_int (opensF_cons op_int (opensF_cons op_int (opensF_last op_int)))))))))) shpT shpU (fun _ => rfl)
theorem op_rec : Opens Tryz.prog 226 recL :=
  opens_via (opens_struct Tryz.underlying226 (by kernel_rfl) (opensF_cons op_int (opensF_cons op_int (opensF_cons op_str (opensF_cons op_int (opensF_cons op_int (opensF_cons op_int (opensF_cons op_ints (opensF_cons op_bytes (opensF_last op_bytes)))))))))) recT recU (fun _ => rfl)
theorem op_blk : Opens Tryz.prog 246 blkL := opens_via (opens_struct Tryz.underlying246 (by kernel_rfl) (opensF_cons op_int (opensF_last op_bytes))) blkT blkU (fun _ => rfl)
theorem op_blks : Opens Tryz.prog 200 blkL.slice := opens_slice Tryz.underlying200 (by kernel_rfl) op_blk
theorem op_drv : Opens Tryz.prog 202 drvL := opens_via (opens_struct Tryz.underlying202 (by kernel_rfl) (opensF_cons op_bool (opensF_last op_blks))) drvT drvU (fun _ => rfl)
theorem op_drvs : Opens Tryz.prog 149 drvL.slice := opens_slice Tryz.underlying149 (by kernel_rfl) op_drv
theorem op_drvss : Opens Tryz.prog 24 drvL.slice.slice := opens_slice Tryz.underlying24 (by kernel_rfl) op_drvs
theorem op_recs : Opens Tryz.prog 151 recL.slice := opens_slice Tryz.underlying151 (by kernel_rfl) op_rec
theorem op_tap : Opens Tryz.prog 153 tapL := opens_via (opens_struct Tryz.underlying153 (by kernel_rfl) (opensF_cons op_bool (opensF_last op_recs))) tapT tapU (fun _ => rfl)
theorem op_taps : Opens Tryz.prog 26 tapL.slice := opens_slice Tryz.underlying26 (by kernel_rfl) op_tap
theorem op_wld : Opens Tryz.prog 28 wldL := opens_via (opens_struct Tryz.underlying28 (by kernel_rfl) (opensF_cons op_shp (opensF_cons op_drvss (opensF_cons op_ints (opensF_cons op_taps (opensF_cons op_int (opensF_cons op_int (opensF_last op_bool)))))))) wldT wldU (fun _ => rfl)
end Go.Proofs.YtphmpimgbmedbaaGreat
