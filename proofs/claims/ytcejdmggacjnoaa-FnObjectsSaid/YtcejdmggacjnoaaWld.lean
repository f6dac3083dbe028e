
/- The whole machine as plain data, and how it lies in memory. No function of the program in sight. -/
import Derived.Test.YtcejdmggacjnoaaData
namespace Go.Proofs.Ytcejdmggacjnoaa
open Go.RowKit

structure Wld where
  shape : Shp
  groups : List (List Drv)
  on : List Int
  tapes : List Tap
  writes : Int
  stop : Int
  down : Bool

def wldT (x : Wld) : Shp × (List (List Drv)) × (List Int) × (List Tap) × Int × Int × Bool := (x.shape, x.groups, x.on, x.tapes, x.writes, x.stop, x.down)
def wldU (y : Shp × (List (List Drv)) × (List Int) × (List Tap) × Int × Int × Bool) : Wld := ⟨y.1, y.2.1, y.2.2.1, y.2.2.2.1, y.2.2.2.2.1, y.2.2.2.2.2.1, y.2.2.2.2.2.2⟩
def wldL : Lay Wld := (shpL.pair (drvL.slice.slice.pair (intL.slice.pair (tapL.slice.pair (intL.pair (intL.pair (boolL))))))).via wldT
theorem wldL_iff {w : World} {cs : List Value} {x : Wld} {fp : List Nat} : wldL.rep w cs x fp ↔ ∃ (a10 : Option Addr) (l10 c10 : Nat) (f10 : List Nat) (a11 : Option Addr) (l11 c11 : Nat) (f11 : List Nat) (a12 : Option Addr) (l12 c12 : Nat) (f12 : List Nat), cs = [.int .i64 x.shape.groups, .int .i64 x.shape.column, .int .i64 x.shape.data, .int .i64 x.shape.spare, .int .i64 x.shape.rows, .int .i64 x.shape.cap, .int .i64 x.shape.batch, .int .i64 x.shape.queue, .int .i64 x.shape.stage, .slice a10 l10 c10, .slice a11 l11 c11, .slice a12 l12 c12, .int .i64 x.writes, .int .i64 x.stop, .bool x.down] ∧ i64ok x.shape.groups ∧ i64ok x.shape.column ∧ i64ok x.shape.data ∧ i64ok x.shape.spare ∧ i64ok x.shape.rows ∧ i64ok x.shape.cap ∧ i64ok x.shape.batch ∧ i64ok x.shape.queue ∧ i64ok x.shape.stage ∧ drvL.slice.sl w a10 l10 c10 x.groups f10 ∧ intL.sl w a11 l11 c11 x.on f11 ∧ tapL.sl w a12 l12 c12 x.tapes f12 ∧ i64ok x.writes ∧ i64ok x.stop ∧ fp = f10 ++ (f11 ++ (f12 ++ ([]))) := by
  constructor
  · rintro ⟨_, _, _, _, rfl, rfl, ⟨_, _, _, _, rfl, rfl, ⟨rfl, h1, rfl⟩, _, _, _, _, rfl, rfl, ⟨rfl, h2, rfl⟩, _, _, _, _, rfl, rfl, ⟨rfl, h3, rfl⟩, _, _, _, _, rfl, rfl, ⟨rfl, h4, rfl⟩, _, _, _, _, rfl, rfl, ⟨rfl, h5, rfl⟩, _, _, _, _, rfl, rfl, ⟨rfl, h6, rfl⟩, _, _, _, _, rfl, rfl, ⟨rfl, h7, rfl⟩, _, _, _, _, rfl, rfl, ⟨rfl, h8, rfl⟩, rfl, h9, rfl⟩, _, _, f10, _, rfl, rfl, ⟨a10, l10, c10, rfl, h10⟩, _, _, f11, _, rfl, rfl, ⟨a11, l11, c11, rfl, h11⟩, _, _, f12, _, rfl, rfl, ⟨a12, l12, c12, rfl, h12⟩, _, _, _, _, rfl, rfl, ⟨rfl, h13, rfl⟩, _, _, _, _, rfl, rfl, ⟨rfl, h14, rfl⟩, rfl, rfl⟩
    exact ⟨a10, l10, c10, f10, a11, l11, c11, f11, a12, l12, c12, f12, rfl, h1, h2, h3, h4, h5, h6, h7, h8, h9, h10, h11, h12, h13, h14, rfl⟩
  · rintro ⟨a10, l10, c10, f10, a11, l11, c11, f11, a12, l12, c12, f12, rfl, h1, h2, h3, h4, h5, h6, h7, h8, h9, h10, h11, h12, h13, h14, rfl⟩
    exact ⟨[_, _, _, _, _, _, _, _, _], _, [], _, rfl, rfl, ⟨[_], _, [], _, rfl, rfl, ⟨rfl, h1, rfl⟩, [_], _, [], _, rfl, rfl, ⟨rfl, h2, rfl⟩, [_], _, [], _, rfl, rfl, ⟨rfl, h3, rfl⟩, [_], _, [], _, rfl, rfl, ⟨rfl, h4, rfl⟩, [_], _, [], _, rfl, rfl, ⟨rfl, h5, rfl⟩, [_], _, [], _, rfl, rfl, ⟨rfl, h6, rfl⟩, [_], _, [], _, rfl, rfl, ⟨rfl, h7, rfl⟩, [_], _, [], _, rfl, rfl, ⟨rfl, h8, rfl⟩, rfl, h9, rfl⟩, [_], _, f10, _, rfl, rfl, ⟨_, _, _, rfl, h10⟩, [_], _, f11, _, rfl, rfl, ⟨_, _, _, rfl, h11⟩, [_], _, f12, _, rfl, rfl, ⟨_, _, _, rfl, h12⟩, [_], _, [], _, rfl, rfl, ⟨rfl, h13, rfl⟩, [_], _, [], _, rfl, rfl, ⟨rfl, h14, rfl⟩, rfl, rfl⟩

end Go.Proofs.Ytcejdmggacjnoaa
