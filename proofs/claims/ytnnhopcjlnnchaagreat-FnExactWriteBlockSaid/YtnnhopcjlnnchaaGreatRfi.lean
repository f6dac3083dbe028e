
/- The faults of a record: the reference. -/
import Derived.Test.YtnnhopcjlnnchaaGreatRfg
import Derived.Test.YtnnhopcjlnnchaaGreatRfh
namespace Go.Proofs.YtnnhopcjlnnchaaGreat
open Go.RowKit


theorem spec_rec (s : Shp) (hs : s.ok) (x : Rec) (cx : Array Value) (fx : List Nat) (w : World) (hx : recL.rep w cx.toList x fx) :
    Calls Tryz.prog 101 #[.agg s.cells, .agg cx] w fun e w' => e = .returned (.int .i64 (recV s x)) ∧ Chg [] w w' := by
  by_cases h : (1 ≤ x.kind ∧ x.kind ≤ 4) ∧ (1 ≤ x.seq ∧ x.seq ≤ 1000000000)
  · have h2 : x.kind = 1 ∨ x.kind = 2 ∨ x.kind = 3 ∨ x.kind = 4 := by omega
    rcases h2 with h2 | h2 | h2 | h2
    · exact spec_rec1 s hs x cx fx w hx h2 h.2
    · exact spec_rec2 s hs x cx fx w hx h2 h.2
    · exact spec_rec3 s hs x cx fx w hx h2 h.2
    · exact spec_rec4 s hs x cx fx w hx h2 h.2
  · exact spec_rec0 s hs x cx fx w hx h

end Go.Proofs.YtnnhopcjlnnchaaGreat
