/-
  No cell of these rows narrows 'for every input' (looked for: loops, veiled, ifaces, maps, wideKeys, modest, calm, conditions, laid).
  DERIVED. THE GIVEN ROWS OF THIS SEAT. 6 by the template 'for every input the law returns true; each argument reads behind the call as it read before'; 0 by the template 'total and deterministic' (their statements: YtidjjpnkoikmcaaTotals.lean).
  GIVEN WITH THE SEED: the statements are not yours to turn. If you find one false, say at which input.
  Laid BY PROGRAM, IN A SANDBOX (cutbox-rows.mjs): the forced cells as the released guide's own fill.sh prints them over the translation 13e8e60772cb62cf… (all of the seat's roots in one cut). By AI agents, Wed Nov 11 2026. No macro, syntax, notation, axiom, sorry.
-/
import Derived.Test.YtidjjpnkoikmcaaChecked
import GoSem.Claim
import GoSem.ClaimJoined
import GoSem.ClaimMapViews
import Derived.JoinedTies
import Derived.KernelRfl
namespace Go.Proofs.Ytidjjpnkoikmcaa
/- THE CELL 'sum', in the pinned program and in every row, IS THE sha256 OF THE DUMP (.gsa) THAT YtidjjpnkoikmcaaProg.lean LOADS. Nothing in Lean hashes anything: it is a label: what it is worth is what the hold of that sum in a sandbox is worth. -/
noncomputable def Try.pinned : Pinned := { name := "ytidjjpnkoikmcaa", sum := "13e8e60772cb62cf92b7651a2cdaa41ea18384025eb78443c0bb93339202c086", checked := Try.checked }
namespace Rows
def none {H : Type} : Left H := { results := [], args := [] }

/-- 'laws.FnExactConstants': WHATEVER THE INPUT: true; the input reads as it did. -/
def fnExactConstantsSpec : ChangeSpec := { name := "fnExactConstants", fn := fun _ => fun
  | [] => { results := [.lit (.bool true)], args := [] }
  | _ => none }
def fnExactConstantsRow : OpenClaim := { program := "ytidjjpnkoikmcaa", sum := "13e8e60772cb62cf92b7651a2cdaa41ea18384025eb78443c0bb93339202c086", func := "loop.example/g00089/laws.FnExactConstants", spec := "fnExactConstants", apart := false }
def FnExactConstantsSaid : Prop := fnExactConstantsRow.holds Try.pinned (OpenSpec.ofChange fnExactConstantsSpec)

/-- ITS FALSE NEIGHBOUR: 'it returns false'. Refute it at one input. -/
def fnExactConstantsWrong : ChangeSpec := { name := "fnExactConstants", fn := fun _ => fun
  | [] => { results := [.lit (.bool false)], args := [] }
  | _ => none }
def FnExactConstantsWrongFalsely : Prop := fnExactConstantsRow.holds Try.pinned (OpenSpec.ofChange fnExactConstantsWrong)

/-- 'laws.FnExactNameFault': WHATEVER THE INPUT: true; the input reads as it did. -/
def fnExactNameFaultSpec : ChangeSpec := { name := "fnExactNameFault", fn := fun _ => fun
  | [d] => { results := [.lit (.bool true)], args := [d] }
  | _ => none }
def fnExactNameFaultRow : OpenClaim := { program := "ytidjjpnkoikmcaa", sum := "13e8e60772cb62cf92b7651a2cdaa41ea18384025eb78443c0bb93339202c086", func := "loop.example/g00089/laws.FnExactNameFault", spec := "fnExactNameFault", apart := false }
def FnExactNameFaultSaid : Prop := fnExactNameFaultRow.holds Try.pinned (OpenSpec.ofChange fnExactNameFaultSpec)

/-- ITS FALSE NEIGHBOUR: 'it returns false'. Refute it at one input. -/
def fnExactNameFaultWrong : ChangeSpec := { name := "fnExactNameFault", fn := fun _ => fun
  | [d] => { results := [.lit (.bool false)], args := [d] }
  | _ => none }
def FnExactNameFaultWrongFalsely : Prop := fnExactNameFaultRow.holds Try.pinned (OpenSpec.ofChange fnExactNameFaultWrong)

/-- 'laws.FnExactMulG': WHATEVER THE INPUT: true; the input reads as it did. -/
def fnExactMulGSpec : ChangeSpec := { name := "fnExactMulG", fn := fun _ => fun
  | [d1, d2] => { results := [.lit (.bool true)], args := [d1, d2] }
  | _ => none }
def fnExactMulGRow : OpenClaim := { program := "ytidjjpnkoikmcaa", sum := "13e8e60772cb62cf92b7651a2cdaa41ea18384025eb78443c0bb93339202c086", func := "loop.example/g00089/laws.FnExactMulG", spec := "fnExactMulG", apart := false }
def FnExactMulGSaid : Prop := fnExactMulGRow.holds Try.pinned (OpenSpec.ofChange fnExactMulGSpec)

/-- ITS FALSE NEIGHBOUR: 'it returns false'. Refute it at one input. -/
def fnExactMulGWrong : ChangeSpec := { name := "fnExactMulG", fn := fun _ => fun
  | [d1, d2] => { results := [.lit (.bool false)], args := [d1, d2] }
  | _ => none }
def FnExactMulGWrongFalsely : Prop := fnExactMulGRow.holds Try.pinned (OpenSpec.ofChange fnExactMulGWrong)

/-- 'laws.FnExactShapeFault': WHATEVER THE INPUT: true; the input reads as it did. -/
def fnExactShapeFaultSpec : ChangeSpec := { name := "fnExactShapeFault", fn := fun _ => fun
  | [d] => { results := [.lit (.bool true)], args := [d] }
  | _ => none }
def fnExactShapeFaultRow : OpenClaim := { program := "ytidjjpnkoikmcaa", sum := "13e8e60772cb62cf92b7651a2cdaa41ea18384025eb78443c0bb93339202c086", func := "loop.example/g00089/laws.FnExactShapeFault", spec := "fnExactShapeFault", apart := false }
def FnExactShapeFaultSaid : Prop := fnExactShapeFaultRow.holds Try.pinned (OpenSpec.ofChange fnExactShapeFaultSpec)

/-- ITS FALSE NEIGHBOUR: 'it returns false'. Refute it at one input. -/
def fnExactShapeFaultWrong : ChangeSpec := { name := "fnExactShapeFault", fn := fun _ => fun
  | [d] => { results := [.lit (.bool false)], args := [d] }
  | _ => none }
def FnExactShapeFaultWrongFalsely : Prop := fnExactShapeFaultRow.holds Try.pinned (OpenSpec.ofChange fnExactShapeFaultWrong)

/-- 'laws.FnExactRoomOf': WHATEVER THE INPUT: true; the input reads as it did. -/
def fnExactRoomOfSpec : ChangeSpec := { name := "fnExactRoomOf", fn := fun _ => fun
  | [d] => { results := [.lit (.bool true)], args := [d] }
  | _ => none }
def fnExactRoomOfRow : OpenClaim := { program := "ytidjjpnkoikmcaa", sum := "13e8e60772cb62cf92b7651a2cdaa41ea18384025eb78443c0bb93339202c086", func := "loop.example/g00089/laws.FnExactRoomOf", spec := "fnExactRoomOf", apart := false }
def FnExactRoomOfSaid : Prop := fnExactRoomOfRow.holds Try.pinned (OpenSpec.ofChange fnExactRoomOfSpec)

/-- ITS FALSE NEIGHBOUR: 'it returns false'. Refute it at one input. -/
def fnExactRoomOfWrong : ChangeSpec := { name := "fnExactRoomOf", fn := fun _ => fun
  | [d] => { results := [.lit (.bool false)], args := [d] }
  | _ => none }
def FnExactRoomOfWrongFalsely : Prop := fnExactRoomOfRow.holds Try.pinned (OpenSpec.ofChange fnExactRoomOfWrong)

/-- 'laws.FnExactPowG': WHATEVER THE INPUT: true; the input reads as it did. -/
def fnExactPowGSpec : ChangeSpec := { name := "fnExactPowG", fn := fun _ => fun
  | [d1, d2] => { results := [.lit (.bool true)], args := [d1, d2] }
  | _ => none }
def fnExactPowGRow : OpenClaim := { program := "ytidjjpnkoikmcaa", sum := "13e8e60772cb62cf92b7651a2cdaa41ea18384025eb78443c0bb93339202c086", func := "loop.example/g00089/laws.FnExactPowG", spec := "fnExactPowG", apart := false }
def FnExactPowGSaid : Prop := fnExactPowGRow.holds Try.pinned (OpenSpec.ofChange fnExactPowGSpec)

/-- ITS FALSE NEIGHBOUR: 'it returns false'. Refute it at one input. -/
def fnExactPowGWrong : ChangeSpec := { name := "fnExactPowG", fn := fun _ => fun
  | [d1, d2] => { results := [.lit (.bool false)], args := [d1, d2] }
  | _ => none }
def FnExactPowGWrongFalsely : Prop := fnExactPowGRow.holds Try.pinned (OpenSpec.ofChange fnExactPowGWrong)

/- THE SECOND FORM. 'bulk': how many values and letters a reading holds, each counted each time it is reached (what is shared counts as often as it is met; a slice's spare places count too). A statement '..UptoSaid' is the law's where the arguments, and the package variables that the reading takes, are together of bulk at most 1048576: NARROWER than '..Said'. Prove '..Said' where nothing that the law and all that it calls make is longer than what came in: it says more and counts as full. Else prove '..UptoSaid'. A law counts once. -/
mutual
def uptoBulk {H : Type} : DataW H → Nat
  | .lit (.string bytes) => bytes.length + 1
  | .lit _ => 1
  | .nil => 1
  | .ptr d => uptoBulk d + 1
  | .slice elems spare => uptoBulkAll elems + uptoBulkAll spare + 1
  | .agg parts => uptoBulkAll parts + 1
  | .iface _ d => uptoBulk d + 1
  | .map entries => uptoBulkEntries entries + 1
  | .held _ => 1
def uptoBulkAll {H : Type} : List (DataW H) → Nat
  | [] => 0
  | d :: r => uptoBulk d + uptoBulkAll r
def uptoBulkEntries {H : Type} : List (Lit × DataW H) → Nat
  | [] => 0
  | x :: r => uptoBulkEntry x + uptoBulkEntries r
def uptoBulkEntry {H : Type} : Lit × DataW H → Nat
  | (.string bytes, d) => bytes.length + uptoBulk d + 1
  | (_, d) => uptoBulk d + 1
 end
def uptoSmall : (H : Type) → List (DataW H) → Bool := fun _ ds => decide (uptoBulkAll ds ≤ 1048576)
def OpenSpec.upto (s : _root_.Go.ChangeSpec) : _root_.Go.OpenSpec := { _root_.Go.OpenSpec.ofChange s with cond := some uptoSmall }

/-- 'laws.FnExactConstants', WHERE WHAT IT READS IS OF BULK AT MOST 1048576: true; the input reads as it did. -/
def fnExactConstantsUptoRow : OpenClaim := { program := "ytidjjpnkoikmcaa", sum := "13e8e60772cb62cf92b7651a2cdaa41ea18384025eb78443c0bb93339202c086", func := "loop.example/g00089/laws.FnExactConstants", spec := "fnExactConstants", apart := false, narrowed := true }
def FnExactConstantsUptoSaid : Prop := fnExactConstantsUptoRow.holds Try.pinned (OpenSpec.upto fnExactConstantsSpec)

/-- 'laws.FnExactNameFault', WHERE WHAT IT READS IS OF BULK AT MOST 1048576: true; the input reads as it did. -/
def fnExactNameFaultUptoRow : OpenClaim := { program := "ytidjjpnkoikmcaa", sum := "13e8e60772cb62cf92b7651a2cdaa41ea18384025eb78443c0bb93339202c086", func := "loop.example/g00089/laws.FnExactNameFault", spec := "fnExactNameFault", apart := false, narrowed := true }
def FnExactNameFaultUptoSaid : Prop := fnExactNameFaultUptoRow.holds Try.pinned (OpenSpec.upto fnExactNameFaultSpec)

/-- 'laws.FnExactMulG', WHERE WHAT IT READS IS OF BULK AT MOST 1048576: true; the input reads as it did. -/
def fnExactMulGUptoRow : OpenClaim := { program := "ytidjjpnkoikmcaa", sum := "13e8e60772cb62cf92b7651a2cdaa41ea18384025eb78443c0bb93339202c086", func := "loop.example/g00089/laws.FnExactMulG", spec := "fnExactMulG", apart := false, narrowed := true }
def FnExactMulGUptoSaid : Prop := fnExactMulGUptoRow.holds Try.pinned (OpenSpec.upto fnExactMulGSpec)

/-- 'laws.FnExactShapeFault', WHERE WHAT IT READS IS OF BULK AT MOST 1048576: true; the input reads as it did. -/
def fnExactShapeFaultUptoRow : OpenClaim := { program := "ytidjjpnkoikmcaa", sum := "13e8e60772cb62cf92b7651a2cdaa41ea18384025eb78443c0bb93339202c086", func := "loop.example/g00089/laws.FnExactShapeFault", spec := "fnExactShapeFault", apart := false, narrowed := true }
def FnExactShapeFaultUptoSaid : Prop := fnExactShapeFaultUptoRow.holds Try.pinned (OpenSpec.upto fnExactShapeFaultSpec)

/-- 'laws.FnExactRoomOf', WHERE WHAT IT READS IS OF BULK AT MOST 1048576: true; the input reads as it did. -/
def fnExactRoomOfUptoRow : OpenClaim := { program := "ytidjjpnkoikmcaa", sum := "13e8e60772cb62cf92b7651a2cdaa41ea18384025eb78443c0bb93339202c086", func := "loop.example/g00089/laws.FnExactRoomOf", spec := "fnExactRoomOf", apart := false, narrowed := true }
def FnExactRoomOfUptoSaid : Prop := fnExactRoomOfUptoRow.holds Try.pinned (OpenSpec.upto fnExactRoomOfSpec)

/-- 'laws.FnExactPowG', WHERE WHAT IT READS IS OF BULK AT MOST 1048576: true; the input reads as it did. -/
def fnExactPowGUptoRow : OpenClaim := { program := "ytidjjpnkoikmcaa", sum := "13e8e60772cb62cf92b7651a2cdaa41ea18384025eb78443c0bb93339202c086", func := "loop.example/g00089/laws.FnExactPowG", spec := "fnExactPowG", apart := false, narrowed := true }
def FnExactPowGUptoSaid : Prop := fnExactPowGUptoRow.holds Try.pinned (OpenSpec.upto fnExactPowGSpec)

end Rows
end Go.Proofs.Ytidjjpnkoikmcaa
