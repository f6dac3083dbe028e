/-
  No cell of these rows narrows 'for every input' (looked for: loops, veiled, ifaces, maps, wideKeys, modest, calm, conditions, laid).
  DERIVED. THE GIVEN ROWS OF THIS SEAT. 12 by the template 'for every input the law returns true; each argument reads behind the call as it read before'; 0 by the template 'total and deterministic' (their statements: YtlnclkjmlpipgaaTotals.lean).
  GIVEN WITH THE SEED: the statements are not yours to turn. If you find one false, say at which input.
  Laid BY PROGRAM, IN A SANDBOX (cutbox-rows.mjs): the forced cells as the released guide's own fill.sh prints them over the translation 2fd24720243e0ba6… (all of the seat's roots in one cut). By AI agents, Wed Nov 11 2026. No macro, syntax, notation, axiom, sorry.
-/
import Derived.Test.YtlnclkjmlpipgaaChecked
import GoSem.Claim
import GoSem.ClaimJoined
import GoSem.ClaimMapViews
import Derived.JoinedTies
import Derived.KernelRfl
namespace Go.Proofs.Ytlnclkjmlpipgaa
/- THE CELL 'sum', in the pinned program and in every row, IS THE sha256 OF THE DUMP (.gsa) THAT YtlnclkjmlpipgaaProg.lean LOADS. Nothing in Lean hashes anything: it is a label: what it is worth is what the hold of that sum in a sandbox is worth. -/
noncomputable def Try.pinned : Pinned := { name := "ytlnclkjmlpipgaa", sum := "2fd24720243e0ba6e2e159dcd68ed752f465d5f3f935ff63f329a8b51454f0c3", checked := Try.checked }
namespace Rows
def none {H : Type} : Left H := { results := [], args := [] }

/-- 'laws.FnField': WHATEVER THE INPUT: true; the input reads as it did. -/
def fnFieldSpec : ChangeSpec := { name := "fnField", fn := fun _ => fun
  | [d] => { results := [.lit (.bool true)], args := [d] }
  | _ => none }
def fnFieldRow : OpenClaim := { program := "ytlnclkjmlpipgaa", sum := "2fd24720243e0ba6e2e159dcd68ed752f465d5f3f935ff63f329a8b51454f0c3", func := "loop.example/g00089/laws.FnField", spec := "fnField", apart := false }
def FnFieldSaid : Prop := fnFieldRow.holds Try.pinned (OpenSpec.ofChange fnFieldSpec)

/-- ITS FALSE NEIGHBOUR: 'it returns false'. Refute it at one input. -/
def fnFieldWrong : ChangeSpec := { name := "fnField", fn := fun _ => fun
  | [d] => { results := [.lit (.bool false)], args := [d] }
  | _ => none }
def FnFieldWrongFalsely : Prop := fnFieldRow.holds Try.pinned (OpenSpec.ofChange fnFieldWrong)

/-- 'laws.FnExactSameRec': WHATEVER THE INPUT: true; the input reads as it did. -/
def fnExactSameRecSpec : ChangeSpec := { name := "fnExactSameRec", fn := fun _ => fun
  | [d1, d2] => { results := [.lit (.bool true)], args := [d1, d2] }
  | _ => none }
def fnExactSameRecRow : OpenClaim := { program := "ytlnclkjmlpipgaa", sum := "2fd24720243e0ba6e2e159dcd68ed752f465d5f3f935ff63f329a8b51454f0c3", func := "loop.example/g00089/laws.FnExactSameRec", spec := "fnExactSameRec", apart := false }
def FnExactSameRecSaid : Prop := fnExactSameRecRow.holds Try.pinned (OpenSpec.ofChange fnExactSameRecSpec)

/-- ITS FALSE NEIGHBOUR: 'it returns false'. Refute it at one input. -/
def fnExactSameRecWrong : ChangeSpec := { name := "fnExactSameRec", fn := fun _ => fun
  | [d1, d2] => { results := [.lit (.bool false)], args := [d1, d2] }
  | _ => none }
def FnExactSameRecWrongFalsely : Prop := fnExactSameRecRow.holds Try.pinned (OpenSpec.ofChange fnExactSameRecWrong)

/-- 'laws.FnExactSplitObject': WHATEVER THE INPUT: true; the input reads as it did. -/
def fnExactSplitObjectSpec : ChangeSpec := { name := "fnExactSplitObject", fn := fun _ => fun
  | [d1, d2] => { results := [.lit (.bool true)], args := [d1, d2] }
  | _ => none }
def fnExactSplitObjectRow : OpenClaim := { program := "ytlnclkjmlpipgaa", sum := "2fd24720243e0ba6e2e159dcd68ed752f465d5f3f935ff63f329a8b51454f0c3", func := "loop.example/g00089/laws.FnExactSplitObject", spec := "fnExactSplitObject", unfollowed := true, recurses := true, apart := false }
def FnExactSplitObjectSaid : Prop := fnExactSplitObjectRow.holds Try.pinned (OpenSpec.ofChange fnExactSplitObjectSpec)

/-- ITS FALSE NEIGHBOUR: 'it returns false'. Refute it at one input. -/
def fnExactSplitObjectWrong : ChangeSpec := { name := "fnExactSplitObject", fn := fun _ => fun
  | [d1, d2] => { results := [.lit (.bool false)], args := [d1, d2] }
  | _ => none }
def FnExactSplitObjectWrongFalsely : Prop := fnExactSplitObjectRow.holds Try.pinned (OpenSpec.ofChange fnExactSplitObjectWrong)

/-- 'laws.FnExactJoinObject': WHATEVER THE INPUT: true; the input reads as it did. -/
def fnExactJoinObjectSpec : ChangeSpec := { name := "fnExactJoinObject", fn := fun _ => fun
  | [d1, d2, d3] => { results := [.lit (.bool true)], args := [d1, d2, d3] }
  | _ => none }
def fnExactJoinObjectRow : OpenClaim := { program := "ytlnclkjmlpipgaa", sum := "2fd24720243e0ba6e2e159dcd68ed752f465d5f3f935ff63f329a8b51454f0c3", func := "loop.example/g00089/laws.FnExactJoinObject", spec := "fnExactJoinObject", unfollowed := true, recurses := true, apart := false }
def FnExactJoinObjectSaid : Prop := fnExactJoinObjectRow.holds Try.pinned (OpenSpec.ofChange fnExactJoinObjectSpec)

/-- ITS FALSE NEIGHBOUR: 'it returns false'. Refute it at one input. -/
def fnExactJoinObjectWrong : ChangeSpec := { name := "fnExactJoinObject", fn := fun _ => fun
  | [d1, d2, d3] => { results := [.lit (.bool false)], args := [d1, d2, d3] }
  | _ => none }
def FnExactJoinObjectWrongFalsely : Prop := fnExactJoinObjectRow.holds Try.pinned (OpenSpec.ofChange fnExactJoinObjectWrong)

/-- 'laws.FnObjects': WHATEVER THE INPUT: true; the input reads as it did. -/
def fnObjectsSpec : ChangeSpec := { name := "fnObjects", fn := fun _ => fun
  | [d] => { results := [.lit (.bool true)], args := [d] }
  | _ => none }
def fnObjectsRow : OpenClaim := { program := "ytlnclkjmlpipgaa", sum := "2fd24720243e0ba6e2e159dcd68ed752f465d5f3f935ff63f329a8b51454f0c3", func := "loop.example/g00089/laws.FnObjects", spec := "fnObjects", unfollowed := true, recurses := true, apart := false }
def FnObjectsSaid : Prop := fnObjectsRow.holds Try.pinned (OpenSpec.ofChange fnObjectsSpec)

/-- ITS FALSE NEIGHBOUR: 'it returns false'. Refute it at one input. -/
def fnObjectsWrong : ChangeSpec := { name := "fnObjects", fn := fun _ => fun
  | [d] => { results := [.lit (.bool false)], args := [d] }
  | _ => none }
def FnObjectsWrongFalsely : Prop := fnObjectsRow.holds Try.pinned (OpenSpec.ofChange fnObjectsWrong)

/-- 'laws.FnExactRankG': WHATEVER THE INPUT: true; the input reads as it did. -/
def fnExactRankGSpec : ChangeSpec := { name := "fnExactRankG", fn := fun _ => fun
  | [d] => { results := [.lit (.bool true)], args := [d] }
  | _ => none }
def fnExactRankGRow : OpenClaim := { program := "ytlnclkjmlpipgaa", sum := "2fd24720243e0ba6e2e159dcd68ed752f465d5f3f935ff63f329a8b51454f0c3", func := "loop.example/g00089/laws.FnExactRankG", spec := "fnExactRankG", unfollowed := true, recurses := true, apart := false }
def FnExactRankGSaid : Prop := fnExactRankGRow.holds Try.pinned (OpenSpec.ofChange fnExactRankGSpec)

/-- ITS FALSE NEIGHBOUR: 'it returns false'. Refute it at one input. -/
def fnExactRankGWrong : ChangeSpec := { name := "fnExactRankG", fn := fun _ => fun
  | [d] => { results := [.lit (.bool false)], args := [d] }
  | _ => none }
def FnExactRankGWrongFalsely : Prop := fnExactRankGRow.holds Try.pinned (OpenSpec.ofChange fnExactRankGWrong)

/-- 'laws.FnExactColumnFits': WHATEVER THE INPUT: true; the input reads as it did. -/
def fnExactColumnFitsSpec : ChangeSpec := { name := "fnExactColumnFits", fn := fun _ => fun
  | [d1, d2] => { results := [.lit (.bool true)], args := [d1, d2] }
  | _ => none }
def fnExactColumnFitsRow : OpenClaim := { program := "ytlnclkjmlpipgaa", sum := "2fd24720243e0ba6e2e159dcd68ed752f465d5f3f935ff63f329a8b51454f0c3", func := "loop.example/g00089/laws.FnExactColumnFits", spec := "fnExactColumnFits", unfollowed := true, recurses := true, apart := false }
def FnExactColumnFitsSaid : Prop := fnExactColumnFitsRow.holds Try.pinned (OpenSpec.ofChange fnExactColumnFitsSpec)

/-- ITS FALSE NEIGHBOUR: 'it returns false'. Refute it at one input. -/
def fnExactColumnFitsWrong : ChangeSpec := { name := "fnExactColumnFits", fn := fun _ => fun
  | [d1, d2] => { results := [.lit (.bool false)], args := [d1, d2] }
  | _ => none }
def FnExactColumnFitsWrongFalsely : Prop := fnExactColumnFitsRow.holds Try.pinned (OpenSpec.ofChange fnExactColumnFitsWrong)

/-- 'laws.FnSolves': WHATEVER THE INPUT: true; the input reads as it did. -/
def fnSolvesSpec : ChangeSpec := { name := "fnSolves", fn := fun _ => fun
  | [d] => { results := [.lit (.bool true)], args := [d] }
  | _ => none }
def fnSolvesRow : OpenClaim := { program := "ytlnclkjmlpipgaa", sum := "2fd24720243e0ba6e2e159dcd68ed752f465d5f3f935ff63f329a8b51454f0c3", func := "loop.example/g00089/laws.FnSolves", spec := "fnSolves", unfollowed := true, recurses := true, apart := false }
def FnSolvesSaid : Prop := fnSolvesRow.holds Try.pinned (OpenSpec.ofChange fnSolvesSpec)

/-- ITS FALSE NEIGHBOUR: 'it returns false'. Refute it at one input. -/
def fnSolvesWrong : ChangeSpec := { name := "fnSolves", fn := fun _ => fun
  | [d] => { results := [.lit (.bool false)], args := [d] }
  | _ => none }
def FnSolvesWrongFalsely : Prop := fnSolvesRow.holds Try.pinned (OpenSpec.ofChange fnSolvesWrong)

/-- 'laws.FnExactEncodeColumn': WHATEVER THE INPUT: true; the input reads as it did. -/
def fnExactEncodeColumnSpec : ChangeSpec := { name := "fnExactEncodeColumn", fn := fun _ => fun
  | [d1, d2] => { results := [.lit (.bool true)], args := [d1, d2] }
  | _ => none }
def fnExactEncodeColumnRow : OpenClaim := { program := "ytlnclkjmlpipgaa", sum := "2fd24720243e0ba6e2e159dcd68ed752f465d5f3f935ff63f329a8b51454f0c3", func := "loop.example/g00089/laws.FnExactEncodeColumn", spec := "fnExactEncodeColumn", unfollowed := true, recurses := true, apart := false }
def FnExactEncodeColumnSaid : Prop := fnExactEncodeColumnRow.holds Try.pinned (OpenSpec.ofChange fnExactEncodeColumnSpec)

/-- ITS FALSE NEIGHBOUR: 'it returns false'. Refute it at one input. -/
def fnExactEncodeColumnWrong : ChangeSpec := { name := "fnExactEncodeColumn", fn := fun _ => fun
  | [d1, d2] => { results := [.lit (.bool false)], args := [d1, d2] }
  | _ => none }
def FnExactEncodeColumnWrongFalsely : Prop := fnExactEncodeColumnRow.holds Try.pinned (OpenSpec.ofChange fnExactEncodeColumnWrong)

/-- 'laws.FnExactSolveG': WHATEVER THE INPUT: true; the input reads as it did. -/
def fnExactSolveGSpec : ChangeSpec := { name := "fnExactSolveG", fn := fun _ => fun
  | [d1, d2] => { results := [.lit (.bool true)], args := [d1, d2] }
  | _ => none }
def fnExactSolveGRow : OpenClaim := { program := "ytlnclkjmlpipgaa", sum := "2fd24720243e0ba6e2e159dcd68ed752f465d5f3f935ff63f329a8b51454f0c3", func := "loop.example/g00089/laws.FnExactSolveG", spec := "fnExactSolveG", unfollowed := true, recurses := true, apart := false }
def FnExactSolveGSaid : Prop := fnExactSolveGRow.holds Try.pinned (OpenSpec.ofChange fnExactSolveGSpec)

/-- ITS FALSE NEIGHBOUR: 'it returns false'. Refute it at one input. -/
def fnExactSolveGWrong : ChangeSpec := { name := "fnExactSolveG", fn := fun _ => fun
  | [d1, d2] => { results := [.lit (.bool false)], args := [d1, d2] }
  | _ => none }
def FnExactSolveGWrongFalsely : Prop := fnExactSolveGRow.holds Try.pinned (OpenSpec.ofChange fnExactSolveGWrong)

/-- 'laws.FnExactShareOf': WHATEVER THE INPUT: true; the input reads as it did. -/
def fnExactShareOfSpec : ChangeSpec := { name := "fnExactShareOf", fn := fun _ => fun
  | [d1, d2, d3, d4] => { results := [.lit (.bool true)], args := [d1, d2, d3, d4] }
  | _ => none }
def fnExactShareOfRow : OpenClaim := { program := "ytlnclkjmlpipgaa", sum := "2fd24720243e0ba6e2e159dcd68ed752f465d5f3f935ff63f329a8b51454f0c3", func := "loop.example/g00089/laws.FnExactShareOf", spec := "fnExactShareOf", apart := false }
def FnExactShareOfSaid : Prop := fnExactShareOfRow.holds Try.pinned (OpenSpec.ofChange fnExactShareOfSpec)

/-- ITS FALSE NEIGHBOUR: 'it returns false'. Refute it at one input. -/
def fnExactShareOfWrong : ChangeSpec := { name := "fnExactShareOf", fn := fun _ => fun
  | [d1, d2, d3, d4] => { results := [.lit (.bool false)], args := [d1, d2, d3, d4] }
  | _ => none }
def FnExactShareOfWrongFalsely : Prop := fnExactShareOfRow.holds Try.pinned (OpenSpec.ofChange fnExactShareOfWrong)

/-- 'laws.FnExactRecFault': WHATEVER THE INPUT: true; the input reads as it did. -/
def fnExactRecFaultSpec : ChangeSpec := { name := "fnExactRecFault", fn := fun _ => fun
  | [d1, d2] => { results := [.lit (.bool true)], args := [d1, d2] }
  | _ => none }
def fnExactRecFaultRow : OpenClaim := { program := "ytlnclkjmlpipgaa", sum := "2fd24720243e0ba6e2e159dcd68ed752f465d5f3f935ff63f329a8b51454f0c3", func := "loop.example/g00089/laws.FnExactRecFault", spec := "fnExactRecFault", unfollowed := true, recurses := true, apart := false }
def FnExactRecFaultSaid : Prop := fnExactRecFaultRow.holds Try.pinned (OpenSpec.ofChange fnExactRecFaultSpec)

/-- ITS FALSE NEIGHBOUR: 'it returns false'. Refute it at one input. -/
def fnExactRecFaultWrong : ChangeSpec := { name := "fnExactRecFault", fn := fun _ => fun
  | [d1, d2] => { results := [.lit (.bool false)], args := [d1, d2] }
  | _ => none }
def FnExactRecFaultWrongFalsely : Prop := fnExactRecFaultRow.holds Try.pinned (OpenSpec.ofChange fnExactRecFaultWrong)

/- THE SECOND FORM. 'bulk': how many values and letters a reading holds, each counted each time it is reached (what is shared counts as often as it is met; a slice's spare places count too). A statement '..UptoSaid' is the law's where the arguments, and the package variables that the reading takes, are together of bulk at most 1048576: NARROWER than '..Said'. Prove '..Said' where nothing that the law and all that it calls make is longer than what came in: it says more and counts as full. Else prove '..UptoSaid'. A law counts once. -/
mutual
def uptoBulk {H : Type} : DataW H → Nat
  | .lit (.string bytes) => bytes.length + 1
  | .lit _ => 1
  | .nil => 1
  | .ptr d => uptoBulk d + 1
  | .slice elems spare => uptoBulkAll elems + uptoBulkAll spare + 1
  | .agg parts => uptoBulkAll parts + 1
  | .iface _ d => uptoBulk d + 1
  | .map entries => uptoBulkEntries entries + 1
  | .held _ => 1
def uptoBulkAll {H : Type} : List (DataW H) → Nat
  | [] => 0
  | d :: r => uptoBulk d + uptoBulkAll r
def uptoBulkEntries {H : Type} : List (Lit × DataW H) → Nat
  | [] => 0
  | x :: r => uptoBulkEntry x + uptoBulkEntries r
def uptoBulkEntry {H : Type} : Lit × DataW H → Nat
  | (.string bytes, d) => bytes.length + uptoBulk d + 1
  | (_, d) => uptoBulk d + 1
 end
def uptoSmall : (H : Type) → List (DataW H) → Bool := fun _ ds => decide (uptoBulkAll ds ≤ 1048576)
def OpenSpec.upto (s : _root_.Go.ChangeSpec) : _root_.Go.OpenSpec := { _root_.Go.OpenSpec.ofChange s with cond := some uptoSmall }

/-- 'laws.FnField', WHERE WHAT IT READS IS OF BULK AT MOST 1048576: true; the input reads as it did. -/
def fnFieldUptoRow : OpenClaim := { program := "ytlnclkjmlpipgaa", sum := "2fd24720243e0ba6e2e159dcd68ed752f465d5f3f935ff63f329a8b51454f0c3", func := "loop.example/g00089/laws.FnField", spec := "fnField", apart := false, narrowed := true }
def FnFieldUptoSaid : Prop := fnFieldUptoRow.holds Try.pinned (OpenSpec.upto fnFieldSpec)

/-- 'laws.FnExactSameRec', WHERE WHAT IT READS IS OF BULK AT MOST 1048576: true; the input reads as it did. -/
def fnExactSameRecUptoRow : OpenClaim := { program := "ytlnclkjmlpipgaa", sum := "2fd24720243e0ba6e2e159dcd68ed752f465d5f3f935ff63f329a8b51454f0c3", func := "loop.example/g00089/laws.FnExactSameRec", spec := "fnExactSameRec", apart := false, narrowed := true }
def FnExactSameRecUptoSaid : Prop := fnExactSameRecUptoRow.holds Try.pinned (OpenSpec.upto fnExactSameRecSpec)

/-- 'laws.FnExactSplitObject', WHERE WHAT IT READS IS OF BULK AT MOST 1048576: true; the input reads as it did. -/
def fnExactSplitObjectUptoRow : OpenClaim := { program := "ytlnclkjmlpipgaa", sum := "2fd24720243e0ba6e2e159dcd68ed752f465d5f3f935ff63f329a8b51454f0c3", func := "loop.example/g00089/laws.FnExactSplitObject", spec := "fnExactSplitObject", unfollowed := true, recurses := true, apart := false, narrowed := true }
def FnExactSplitObjectUptoSaid : Prop := fnExactSplitObjectUptoRow.holds Try.pinned (OpenSpec.upto fnExactSplitObjectSpec)

/-- 'laws.FnExactJoinObject', WHERE WHAT IT READS IS OF BULK AT MOST 1048576: true; the input reads as it did. -/
def fnExactJoinObjectUptoRow : OpenClaim := { program := "ytlnclkjmlpipgaa", sum := "2fd24720243e0ba6e2e159dcd68ed752f465d5f3f935ff63f329a8b51454f0c3", func := "loop.example/g00089/laws.FnExactJoinObject", spec := "fnExactJoinObject", unfollowed := true, recurses := true, apart := false, narrowed := true }
def FnExactJoinObjectUptoSaid : Prop := fnExactJoinObjectUptoRow.holds Try.pinned (OpenSpec.upto fnExactJoinObjectSpec)

/-- 'laws.FnObjects', WHERE WHAT IT READS IS OF BULK AT MOST 1048576: true; the input reads as it did. -/
def fnObjectsUptoRow : OpenClaim := { program := "ytlnclkjmlpipgaa", sum := "2fd24720243e0ba6e2e159dcd68ed752f465d5f3f935ff63f329a8b51454f0c3", func := "loop.example/g00089/laws.FnObjects", spec := "fnObjects", unfollowed := true, recurses := true, apart := false, narrowed := true }
def FnObjectsUptoSaid : Prop := fnObjectsUptoRow.holds Try.pinned (OpenSpec.upto fnObjectsSpec)

/-- 'laws.FnExactRankG', WHERE WHAT IT READS IS OF BULK AT MOST 1048576: true; the input reads as it did. -/
def fnExactRankGUptoRow : OpenClaim := { program := "ytlnclkjmlpipgaa", sum := "2fd24720243e0ba6e2e159dcd68ed752f465d5f3f935ff63f329a8b51454f0c3", func := "loop.example/g00089/laws.FnExactRankG", spec := "fnExactRankG", unfollowed := true, recurses := true, apart := false, narrowed := true }
def FnExactRankGUptoSaid : Prop := fnExactRankGUptoRow.holds Try.pinned (OpenSpec.upto fnExactRankGSpec)

/-- 'laws.FnExactColumnFits', WHERE WHAT IT READS IS OF BULK AT MOST 1048576: true; the input reads as it did. -/
def fnExactColumnFitsUptoRow : OpenClaim := { program := "ytlnclkjmlpipgaa", sum := "2fd24720243e0ba6e2e159dcd68ed752f465d5f3f935ff63f329a8b51454f0c3", func := "loop.example/g00089/laws.FnExactColumnFits", spec := "fnExactColumnFits", unfollowed := true, recurses := true, apart := false, narrowed := true }
def FnExactColumnFitsUptoSaid : Prop := fnExactColumnFitsUptoRow.holds Try.pinned (OpenSpec.upto fnExactColumnFitsSpec)

/-- 'laws.FnSolves', WHERE WHAT IT READS IS OF BULK AT MOST 1048576: true; the input reads as it did. -/
def fnSolvesUptoRow : OpenClaim := { program := "ytlnclkjmlpipgaa", sum := "2fd24720243e0ba6e2e159dcd68ed752f465d5f3f935ff63f329a8b51454f0c3", func := "loop.example/g00089/laws.FnSolves", spec := "fnSolves", unfollowed := true, recurses := true, apart := false, narrowed := true }
def FnSolvesUptoSaid : Prop := fnSolvesUptoRow.holds Try.pinned (OpenSpec.upto fnSolvesSpec)

/-- 'laws.FnExactEncodeColumn', WHERE WHAT IT READS IS OF BULK AT MOST 1048576: true; the input reads as it did. -/
def fnExactEncodeColumnUptoRow : OpenClaim := { program := "ytlnclkjmlpipgaa", sum := "2fd24720243e0ba6e2e159dcd68ed752f465d5f3f935ff63f329a8b51454f0c3", func := "loop.example/g00089/laws.FnExactEncodeColumn", spec := "fnExactEncodeColumn", unfollowed := true, recurses := true, apart := false, narrowed := true }
def FnExactEncodeColumnUptoSaid : Prop := fnExactEncodeColumnUptoRow.holds Try.pinned (OpenSpec.upto fnExactEncodeColumnSpec)

/-- 'laws.FnExactSolveG', WHERE WHAT IT READS IS OF BULK AT MOST 1048576: true; the input reads as it did. -/
def fnExactSolveGUptoRow : OpenClaim := { program := "ytlnclkjmlpipgaa", sum := "2fd24720243e0ba6e2e159dcd68ed752f465d5f3f935ff63f329a8b51454f0c3", func := "loop.example/g00089/laws.FnExactSolveG", spec := "fnExactSolveG", unfollowed := true, recurses := true, apart := false, narrowed := true }
def FnExactSolveGUptoSaid : Prop := fnExactSolveGUptoRow.holds Try.pinned (OpenSpec.upto fnExactSolveGSpec)

/-- 'laws.FnExactShareOf', WHERE WHAT IT READS IS OF BULK AT MOST 1048576: true; the input reads as it did. -/
def fnExactShareOfUptoRow : OpenClaim := { program := "ytlnclkjmlpipgaa", sum := "2fd24720243e0ba6e2e159dcd68ed752f465d5f3f935ff63f329a8b51454f0c3", func := "loop.example/g00089/laws.FnExactShareOf", spec := "fnExactShareOf", apart := false, narrowed := true }
def FnExactShareOfUptoSaid : Prop := fnExactShareOfUptoRow.holds Try.pinned (OpenSpec.upto fnExactShareOfSpec)

/-- 'laws.FnExactRecFault', WHERE WHAT IT READS IS OF BULK AT MOST 1048576: true; the input reads as it did. -/
def fnExactRecFaultUptoRow : OpenClaim := { program := "ytlnclkjmlpipgaa", sum := "2fd24720243e0ba6e2e159dcd68ed752f465d5f3f935ff63f329a8b51454f0c3", func := "loop.example/g00089/laws.FnExactRecFault", spec := "fnExactRecFault", unfollowed := true, recurses := true, apart := false, narrowed := true }
def FnExactRecFaultUptoSaid : Prop := fnExactRecFaultUptoRow.holds Try.pinned (OpenSpec.upto fnExactRecFaultSpec)

end Rows
end Go.Proofs.Ytlnclkjmlpipgaa
