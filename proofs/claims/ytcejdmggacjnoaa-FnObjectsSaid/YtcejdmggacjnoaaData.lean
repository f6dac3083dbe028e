
/- The program's data as plain structures, how each lies in memory, and what that says cell by cell. No function of the program in sight. -/
import Derived.Test.YtcejdmggacjnoaaOpen
namespace Go.Proofs.Ytcejdmggacjnoaa
open Go.RowKit

structure Shp where
  groups : Int
  column : Int
  data : Int
  spare : Int
  rows : Int
  cap : Int
  batch : Int
  queue : Int
  stage : Int

structure Blk where
  stamp : Int
  bytes : List UInt8

structure Drv where
  wiped : Bool
  blocks : List Blk

structure Rec where
  kind : Int
  seq : Int
  name : ByteArray
  length : Int
  group : Int
  row : Int
  rows : List Int
  data : List UInt8
  delta : List UInt8

structure Tap where
  wiped : Bool
  recs : List Rec

def shpT (x : Shp) : Int × Int × Int × Int × Int × Int × Int × Int × Int := (x.groups, x.column, x.data, x.spare, x.rows, x.cap, x.batch, x.queue, x.stage)
def shpU (y : Int × Int × Int × Int × Int × Int × Int × Int × Int) : Shp := ⟨y.1, y.2.1, y.2.2.1, y.2.2.2.1, y.2.2.2.2.1, y.2.2.2.2.2.1, y.2.2.2.2.2.2.1, y.2.2.2.2.2.2.2.1, y.2.2.2.2.2.2.2.2⟩
def shpL : Lay Shp := (intL.pair (intL.pair (intL.pair (intL.pair (intL.pair (intL.pair (intL.pair (intL.pair (intL))))))))).via shpT
theorem shpL_iff {w : World} {cs : List Value} {x : Shp} {fp : List Nat} : shpL.rep w cs x fp ↔ cs = [.int .i64 x.groups, .int .i64 x.column, .int .i64 x.data, .int .i64 x.spare, .int .i64 x.rows, .int .i64 x.cap, .int .i64 x.batch, .int .i64 x.queue, .int .i64 x.stage] ∧ i64ok x.groups ∧ i64ok x.column ∧ i64ok x.data ∧ i64ok x.spare ∧ i64ok x.rows ∧ i64ok x.cap ∧ i64ok x.batch ∧ i64ok x.queue ∧ i64ok x.stage ∧ fp = [] := by
  constructor
  · rintro ⟨_, _, _, _, rfl, rfl, ⟨rfl, h0, rfl⟩, _, _, _, _, rfl, rfl, ⟨rfl, h1, rfl⟩, _, _, _, _, rfl, rfl, ⟨rfl, h2, rfl⟩, _, _, _, _, rfl, rfl, ⟨rfl, h3, rfl⟩, _, _, _, _, rfl, rfl, ⟨rfl, h4, rfl⟩, _, _, _, _, rfl, rfl, ⟨rfl, h5, rfl⟩, _, _, _, _, rfl, rfl, ⟨rfl, h6, rfl⟩, _, _, _, _, rfl, rfl, ⟨rfl, h7, rfl⟩, rfl, h8, rfl⟩
    exact ⟨rfl, h0, h1, h2, h3, h4, h5, h6, h7, h8, rfl⟩
  · rintro ⟨rfl, h0, h1, h2, h3, h4, h5, h6, h7, h8, rfl⟩
    exact ⟨[_], _, [], _, rfl, rfl, ⟨rfl, h0, rfl⟩, [_], _, [], _, rfl, rfl, ⟨rfl, h1, rfl⟩, [_], _, [], _, rfl, rfl, ⟨rfl, h2, rfl⟩, [_], _, [], _, rfl, rfl, ⟨rfl, h3, rfl⟩, [_], _, [], _, rfl, rfl, ⟨rfl, h4, rfl⟩, [_], _, [], _, rfl, rfl, ⟨rfl, h5, rfl⟩, [_], _, [], _, rfl, rfl, ⟨rfl, h6, rfl⟩, [_], _, [], _, rfl, rfl, ⟨rfl, h7, rfl⟩, rfl, h8, rfl⟩

def blkT (x : Blk) : Int × (List UInt8) := (x.stamp, x.bytes)
def blkU (y : Int × (List UInt8)) : Blk := ⟨y.1, y.2⟩
def blkL : Lay Blk := (intL.pair (byteL.slice)).via blkT
theorem blkL_iff {w : World} {cs : List Value} {x : Blk} {fp : List Nat} : blkL.rep w cs x fp ↔ ∃ (a1 : Option Addr) (l1 c1 : Nat) (f1 : List Nat), cs = [.int .i64 x.stamp, .slice a1 l1 c1] ∧ i64ok x.stamp ∧ byteL.sl w a1 l1 c1 x.bytes f1 ∧ fp = f1 := by
  constructor
  · rintro ⟨_, _, _, f1, rfl, rfl, ⟨rfl, h0, rfl⟩, a1, l1, c1, rfl, h1⟩
    exact ⟨a1, l1, c1, f1, rfl, h0, h1, rfl⟩
  · rintro ⟨a1, l1, c1, f1, rfl, h0, h1, rfl⟩
    exact ⟨[_], _, [], _, rfl, rfl, ⟨rfl, h0, rfl⟩, _, _, _, rfl, h1⟩

def drvT (x : Drv) : Bool × (List Blk) := (x.wiped, x.blocks)
def drvU (y : Bool × (List Blk)) : Drv := ⟨y.1, y.2⟩
def drvL : Lay Drv := (boolL.pair (blkL.slice)).via drvT
theorem drvL_iff {w : World} {cs : List Value} {x : Drv} {fp : List Nat} : drvL.rep w cs x fp ↔ ∃ (a1 : Option Addr) (l1 c1 : Nat) (f1 : List Nat), cs = [.bool x.wiped, .slice a1 l1 c1] ∧ blkL.sl w a1 l1 c1 x.blocks f1 ∧ fp = f1 := by
  constructor
  · rintro ⟨_, _, _, f1, rfl, rfl, ⟨rfl, rfl⟩, a1, l1, c1, rfl, h1⟩
    exact ⟨a1, l1, c1, f1, rfl, h1, rfl⟩
  · rintro ⟨a1, l1, c1, f1, rfl, h1, rfl⟩
    exact ⟨[_], _, [], _, rfl, rfl, ⟨rfl, rfl⟩, _, _, _, rfl, h1⟩

def recT (x : Rec) : Int × Int × ByteArray × Int × Int × Int × (List Int) × (List UInt8) × (List UInt8) := (x.kind, x.seq, x.name, x.length, x.group, x.row, x.rows, x.data, x.delta)
def recU (y : Int × Int × ByteArray × Int × Int × Int × (List Int) × (List UInt8) × (List UInt8)) : Rec := ⟨y.1, y.2.1, y.2.2.1, y.2.2.2.1, y.2.2.2.2.1, y.2.2.2.2.2.1, y.2.2.2.2.2.2.1, y.2.2.2.2.2.2.2.1, y.2.2.2.2.2.2.2.2⟩
def recL : Lay Rec := (intL.pair (intL.pair (strL.pair (intL.pair (intL.pair (intL.pair (intL.slice.pair (byteL.slice.pair (byteL.slice))))))))).via recT
theorem recL_iff {w : World} {cs : List Value} {x : Rec} {fp : List Nat} : recL.rep w cs x fp ↔ ∃ (a6 : Option Addr) (l6 c6 : Nat) (f6 : List Nat) (a7 : Option Addr) (l7 c7 : Nat) (f7 : List Nat) (a8 : Option Addr) (l8 c8 : Nat) (f8 : List Nat), cs = [.int .i64 x.kind, .int .i64 x.seq, .string x.name, .int .i64 x.length, .int .i64 x.group, .int .i64 x.row, .slice a6 l6 c6, .slice a7 l7 c7, .slice a8 l8 c8] ∧ i64ok x.kind ∧ i64ok x.seq ∧ x.name.size ≤ maxLen ∧ i64ok x.length ∧ i64ok x.group ∧ i64ok x.row ∧ intL.sl w a6 l6 c6 x.rows f6 ∧ byteL.sl w a7 l7 c7 x.data f7 ∧ byteL.sl w a8 l8 c8 x.delta f8 ∧ fp = f6 ++ (f7 ++ (f8)) := by
  constructor
  · rintro ⟨_, _, _, _, rfl, rfl, ⟨rfl, h0, rfl⟩, _, _, _, _, rfl, rfl, ⟨rfl, h1, rfl⟩, _, _, _, _, rfl, rfl, ⟨rfl, h2, rfl⟩, _, _, _, _, rfl, rfl, ⟨rfl, h3, rfl⟩, _, _, _, _, rfl, rfl, ⟨rfl, h4, rfl⟩, _, _, _, _, rfl, rfl, ⟨rfl, h5, rfl⟩, _, _, f6, _, rfl, rfl, ⟨a6, l6, c6, rfl, h6⟩, _, _, f7, f8, rfl, rfl, ⟨a7, l7, c7, rfl, h7⟩, a8, l8, c8, rfl, h8⟩
    exact ⟨a6, l6, c6, f6, a7, l7, c7, f7, a8, l8, c8, f8, rfl, h0, h1, h2, h3, h4, h5, h6, h7, h8, rfl⟩
  · rintro ⟨a6, l6, c6, f6, a7, l7, c7, f7, a8, l8, c8, f8, rfl, h0, h1, h2, h3, h4, h5, h6, h7, h8, rfl⟩
    exact ⟨[_], _, [], _, rfl, rfl, ⟨rfl, h0, rfl⟩, [_], _, [], _, rfl, rfl, ⟨rfl, h1, rfl⟩, [_], _, [], _, rfl, rfl, ⟨rfl, h2, rfl⟩, [_], _, [], _, rfl, rfl, ⟨rfl, h3, rfl⟩, [_], _, [], _, rfl, rfl, ⟨rfl, h4, rfl⟩, [_], _, [], _, rfl, rfl, ⟨rfl, h5, rfl⟩, [_], _, f6, _, rfl, rfl, ⟨_, _, _, rfl, h6⟩, [_], _, f7, _, rfl, rfl, ⟨_, _, _, rfl, h7⟩, _, _, _, rfl, h8⟩

def tapT (x : Tap) : Bool × (List Rec) := (x.wiped, x.recs)
def tapU (y : Bool × (List Rec)) : Tap := ⟨y.1, y.2⟩
def tapL : Lay Tap := (boolL.pair (recL.slice)).via tapT
theorem tapL_iff {w : World} {cs : List Value} {x : Tap} {fp : List Nat} : tapL.rep w cs x fp ↔ ∃ (a1 : Option Addr) (l1 c1 : Nat) (f1 : List Nat), cs = [.bool x.wiped, .slice a1 l1 c1] ∧ recL.sl w a1 l1 c1 x.recs f1 ∧ fp = f1 := by
  constructor
  · rintro ⟨_, _, _, f1, rfl, rfl, ⟨rfl, rfl⟩, a1, l1, c1, rfl, h1⟩
    exact ⟨a1, l1, c1, f1, rfl, h1, rfl⟩
  · rintro ⟨a1, l1, c1, f1, rfl, h1, rfl⟩
    exact ⟨[_], _, [], _, rfl, rfl, ⟨rfl, rfl⟩, _, _, _, rfl, h1⟩

end Go.Proofs.Ytcejdmggacjnoaa
