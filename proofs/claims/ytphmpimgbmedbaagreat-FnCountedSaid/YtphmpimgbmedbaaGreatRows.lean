/-
  No cell of these rows narrows 'for every input' (looked for: loops, veiled, ifaces, maps, wideKeys, modest, calm, conditions, laid).
  DERIVED. THE GIVEN ROWS OF THIS SEAT. 12 by the template 'for every input the law returns true; each argument reads behind the call as it read before'; 0 by the template 'total and deterministic' (their statements: YtphmpimgbmedbaaGreatTotals.lean).
  GIVEN WITH THE SEED: the statements are not yours to turn. If you find one false, say at which input.
  Laid BY PROGRAM, IN A SANDBOX (cutbox-rows.mjs): the forced cells as the released guide's own fill.sh prints them over the translation d094a1693255ba51… (all of the seat's roots in one cut). By AI agents, Wed Nov 11 2026. No macro, syntax, notation, axiom, sorry.
-/
import Derived.Test.YtphmpimgbmedbaaGreatChecked
import GoSem.Claim
import GoSem.ClaimJoined
import GoSem.ClaimMapViews
import Derived.JoinedTies
import Derived.KernelRfl
namespace Go.Proofs.YtphmpimgbmedbaaGreat
/- THE CELL 'sum', in the pinned program and in every row, IS THE sha256 OF THE DUMP (.gsa) THAT YtphmpimgbmedbaaGreatProg.lean LOADS. Nothing in Lean hashes anything: it is a label: what it is worth is what the hold of that sum in a sandbox is worth. -/
noncomputable def Tryz.pinned : Pinned := { name := "ytphmpimgbmedbaagreat", sum := "d094a1693255ba51df93a308870510a7b3c1be22db6ee7af33b4b4bcdf50cd63", checked := Tryz.checked }
namespace Rows
def none {H : Type} : Left H := { results := [], args := [] }

/-- 'laws.FnExactStrikeRecs': WHATEVER THE INPUT: true; the input reads as it did. -/
def fnExactStrikeRecsSpec : ChangeSpec := { name := "fnExactStrikeRecs", fn := fun _ => fun
  | [d1, d2, d3, d4] => { results := [.lit (.bool true)], args := [d1, d2, d3, d4] }
  | _ => none }
def fnExactStrikeRecsRow : OpenClaim := { program := "ytphmpimgbmedbaagreat", sum := "d094a1693255ba51df93a308870510a7b3c1be22db6ee7af33b4b4bcdf50cd63", func := "loop.example/g00089/laws.FnExactStrikeRecs", spec := "fnExactStrikeRecs", unfollowed := true, recurses := true, apart := false }
def FnExactStrikeRecsSaid : Prop := fnExactStrikeRecsRow.holds Tryz.pinned (OpenSpec.ofChange fnExactStrikeRecsSpec)

/-- ITS FALSE NEIGHBOUR: 'it returns false'. Refute it at one input. -/
def fnExactStrikeRecsWrong : ChangeSpec := { name := "fnExactStrikeRecs", fn := fun _ => fun
  | [d1, d2, d3, d4] => { results := [.lit (.bool false)], args := [d1, d2, d3, d4] }
  | _ => none }
def FnExactStrikeRecsWrongFalsely : Prop := fnExactStrikeRecsRow.holds Tryz.pinned (OpenSpec.ofChange fnExactStrikeRecsWrong)

/-- 'laws.FnExactCountedRecs': WHATEVER THE INPUT: true; the input reads as it did. -/
def fnExactCountedRecsSpec : ChangeSpec := { name := "fnExactCountedRecs", fn := fun _ => fun
  | [d] => { results := [.lit (.bool true)], args := [d] }
  | _ => none }
def fnExactCountedRecsRow : OpenClaim := { program := "ytphmpimgbmedbaagreat", sum := "d094a1693255ba51df93a308870510a7b3c1be22db6ee7af33b4b4bcdf50cd63", func := "loop.example/g00089/laws.FnExactCountedRecs", spec := "fnExactCountedRecs", unfollowed := true, recurses := true, apart := false }
def FnExactCountedRecsSaid : Prop := fnExactCountedRecsRow.holds Tryz.pinned (OpenSpec.ofChange fnExactCountedRecsSpec)

/-- ITS FALSE NEIGHBOUR: 'it returns false'. Refute it at one input. -/
def fnExactCountedRecsWrong : ChangeSpec := { name := "fnExactCountedRecs", fn := fun _ => fun
  | [d] => { results := [.lit (.bool false)], args := [d] }
  | _ => none }
def FnExactCountedRecsWrongFalsely : Prop := fnExactCountedRecsRow.holds Tryz.pinned (OpenSpec.ofChange fnExactCountedRecsWrong)

/-- 'laws.FnExactMissingRecs': WHATEVER THE INPUT: true; the input reads as it did. -/
def fnExactMissingRecsSpec : ChangeSpec := { name := "fnExactMissingRecs", fn := fun _ => fun
  | [d1, d2] => { results := [.lit (.bool true)], args := [d1, d2] }
  | _ => none }
def fnExactMissingRecsRow : OpenClaim := { program := "ytphmpimgbmedbaagreat", sum := "d094a1693255ba51df93a308870510a7b3c1be22db6ee7af33b4b4bcdf50cd63", func := "loop.example/g00089/laws.FnExactMissingRecs", spec := "fnExactMissingRecs", unfollowed := true, recurses := true, apart := false }
def FnExactMissingRecsSaid : Prop := fnExactMissingRecsRow.holds Tryz.pinned (OpenSpec.ofChange fnExactMissingRecsSpec)

/-- ITS FALSE NEIGHBOUR: 'it returns false'. Refute it at one input. -/
def fnExactMissingRecsWrong : ChangeSpec := { name := "fnExactMissingRecs", fn := fun _ => fun
  | [d1, d2] => { results := [.lit (.bool false)], args := [d1, d2] }
  | _ => none }
def FnExactMissingRecsWrongFalsely : Prop := fnExactMissingRecsRow.holds Tryz.pinned (OpenSpec.ofChange fnExactMissingRecsWrong)

/-- 'laws.FnExactUndoneAt': WHATEVER THE INPUT: true; the input reads as it did. -/
def fnExactUndoneAtSpec : ChangeSpec := { name := "fnExactUndoneAt", fn := fun _ => fun
  | [d1, d2] => { results := [.lit (.bool true)], args := [d1, d2] }
  | _ => none }
def fnExactUndoneAtRow : OpenClaim := { program := "ytphmpimgbmedbaagreat", sum := "d094a1693255ba51df93a308870510a7b3c1be22db6ee7af33b4b4bcdf50cd63", func := "loop.example/g00089/laws.FnExactUndoneAt", spec := "fnExactUndoneAt", unfollowed := true, recurses := true, apart := false }
def FnExactUndoneAtSaid : Prop := fnExactUndoneAtRow.holds Tryz.pinned (OpenSpec.ofChange fnExactUndoneAtSpec)

/-- ITS FALSE NEIGHBOUR: 'it returns false'. Refute it at one input. -/
def fnExactUndoneAtWrong : ChangeSpec := { name := "fnExactUndoneAt", fn := fun _ => fun
  | [d1, d2] => { results := [.lit (.bool false)], args := [d1, d2] }
  | _ => none }
def FnExactUndoneAtWrongFalsely : Prop := fnExactUndoneAtRow.holds Tryz.pinned (OpenSpec.ofChange fnExactUndoneAtWrong)

/-- 'laws.FnExactNextSeq': WHATEVER THE INPUT: true; the input reads as it did. -/
def fnExactNextSeqSpec : ChangeSpec := { name := "fnExactNextSeq", fn := fun _ => fun
  | [d] => { results := [.lit (.bool true)], args := [d] }
  | _ => none }
def fnExactNextSeqRow : OpenClaim := { program := "ytphmpimgbmedbaagreat", sum := "d094a1693255ba51df93a308870510a7b3c1be22db6ee7af33b4b4bcdf50cd63", func := "loop.example/g00089/laws.FnExactNextSeq", spec := "fnExactNextSeq", unfollowed := true, recurses := true, apart := false }
def FnExactNextSeqSaid : Prop := fnExactNextSeqRow.holds Tryz.pinned (OpenSpec.ofChange fnExactNextSeqSpec)

/-- ITS FALSE NEIGHBOUR: 'it returns false'. Refute it at one input. -/
def fnExactNextSeqWrong : ChangeSpec := { name := "fnExactNextSeq", fn := fun _ => fun
  | [d] => { results := [.lit (.bool false)], args := [d] }
  | _ => none }
def FnExactNextSeqWrongFalsely : Prop := fnExactNextSeqRow.holds Tryz.pinned (OpenSpec.ofChange fnExactNextSeqWrong)

/-- 'laws.FnExactSpentRecs': WHATEVER THE INPUT: true; the input reads as it did. -/
def fnExactSpentRecsSpec : ChangeSpec := { name := "fnExactSpentRecs", fn := fun _ => fun
  | [d] => { results := [.lit (.bool true)], args := [d] }
  | _ => none }
def fnExactSpentRecsRow : OpenClaim := { program := "ytphmpimgbmedbaagreat", sum := "d094a1693255ba51df93a308870510a7b3c1be22db6ee7af33b4b4bcdf50cd63", func := "loop.example/g00089/laws.FnExactSpentRecs", spec := "fnExactSpentRecs", unfollowed := true, recurses := true, apart := false }
def FnExactSpentRecsSaid : Prop := fnExactSpentRecsRow.holds Tryz.pinned (OpenSpec.ofChange fnExactSpentRecsSpec)

/-- ITS FALSE NEIGHBOUR: 'it returns false'. Refute it at one input. -/
def fnExactSpentRecsWrong : ChangeSpec := { name := "fnExactSpentRecs", fn := fun _ => fun
  | [d] => { results := [.lit (.bool false)], args := [d] }
  | _ => none }
def FnExactSpentRecsWrongFalsely : Prop := fnExactSpentRecsRow.holds Tryz.pinned (OpenSpec.ofChange fnExactSpentRecsWrong)

/-- 'laws.FnExactWaitingBytes': WHATEVER THE INPUT: true; the input reads as it did. -/
def fnExactWaitingBytesSpec : ChangeSpec := { name := "fnExactWaitingBytes", fn := fun _ => fun
  | [d] => { results := [.lit (.bool true)], args := [d] }
  | _ => none }
def fnExactWaitingBytesRow : OpenClaim := { program := "ytphmpimgbmedbaagreat", sum := "d094a1693255ba51df93a308870510a7b3c1be22db6ee7af33b4b4bcdf50cd63", func := "loop.example/g00089/laws.FnExactWaitingBytes", spec := "fnExactWaitingBytes", inPlace := ["internal/bytealg.abigen_runtime_cmpstring"], unfollowed := true, recurses := true, apart := false }
def FnExactWaitingBytesSaid : Prop := fnExactWaitingBytesRow.holds Tryz.pinned (OpenSpec.ofChange fnExactWaitingBytesSpec)

/-- ITS FALSE NEIGHBOUR: 'it returns false'. Refute it at one input. -/
def fnExactWaitingBytesWrong : ChangeSpec := { name := "fnExactWaitingBytes", fn := fun _ => fun
  | [d] => { results := [.lit (.bool false)], args := [d] }
  | _ => none }
def FnExactWaitingBytesWrongFalsely : Prop := fnExactWaitingBytesRow.holds Tryz.pinned (OpenSpec.ofChange fnExactWaitingBytesWrong)

/-- 'laws.FnExactFreeRows': WHATEVER THE INPUT: true; the input reads as it did. -/
def fnExactFreeRowsSpec : ChangeSpec := { name := "fnExactFreeRows", fn := fun _ => fun
  | [d1, d2] => { results := [.lit (.bool true)], args := [d1, d2] }
  | _ => none }
def fnExactFreeRowsRow : OpenClaim := { program := "ytphmpimgbmedbaagreat", sum := "d094a1693255ba51df93a308870510a7b3c1be22db6ee7af33b4b4bcdf50cd63", func := "loop.example/g00089/laws.FnExactFreeRows", spec := "fnExactFreeRows", inPlace := ["internal/bytealg.abigen_runtime_cmpstring"], unfollowed := true, recurses := true, apart := false }
def FnExactFreeRowsSaid : Prop := fnExactFreeRowsRow.holds Tryz.pinned (OpenSpec.ofChange fnExactFreeRowsSpec)

/-- ITS FALSE NEIGHBOUR: 'it returns false'. Refute it at one input. -/
def fnExactFreeRowsWrong : ChangeSpec := { name := "fnExactFreeRows", fn := fun _ => fun
  | [d1, d2] => { results := [.lit (.bool false)], args := [d1, d2] }
  | _ => none }
def FnExactFreeRowsWrongFalsely : Prop := fnExactFreeRowsRow.holds Tryz.pinned (OpenSpec.ofChange fnExactFreeRowsWrong)

/-- 'laws.FnCounted': WHATEVER THE INPUT: true; the input reads as it did. -/
def fnCountedSpec : ChangeSpec := { name := "fnCounted", fn := fun _ => fun
  | [d] => { results := [.lit (.bool true)], args := [d] }
  | _ => none }
def fnCountedRow : OpenClaim := { program := "ytphmpimgbmedbaagreat", sum := "d094a1693255ba51df93a308870510a7b3c1be22db6ee7af33b4b4bcdf50cd63", func := "loop.example/g00089/laws.FnCounted", spec := "fnCounted", unfollowed := true, recurses := true, apart := false }
def FnCountedSaid : Prop := fnCountedRow.holds Tryz.pinned (OpenSpec.ofChange fnCountedSpec)

/-- ITS FALSE NEIGHBOUR: 'it returns false'. Refute it at one input. -/
def fnCountedWrong : ChangeSpec := { name := "fnCounted", fn := fun _ => fun
  | [d] => { results := [.lit (.bool false)], args := [d] }
  | _ => none }
def FnCountedWrongFalsely : Prop := fnCountedRow.holds Tryz.pinned (OpenSpec.ofChange fnCountedWrong)

/-- 'laws.FnItems': WHATEVER THE INPUT: true; the input reads as it did. -/
def fnItemsSpec : ChangeSpec := { name := "fnItems", fn := fun _ => fun
  | [d] => { results := [.lit (.bool true)], args := [d] }
  | _ => none }
def fnItemsRow : OpenClaim := { program := "ytphmpimgbmedbaagreat", sum := "d094a1693255ba51df93a308870510a7b3c1be22db6ee7af33b4b4bcdf50cd63", func := "loop.example/g00089/laws.FnItems", spec := "fnItems", inPlace := ["internal/bytealg.abigen_runtime_cmpstring"], unfollowed := true, recurses := true, apart := false }
def FnItemsSaid : Prop := fnItemsRow.holds Tryz.pinned (OpenSpec.ofChange fnItemsSpec)

/-- ITS FALSE NEIGHBOUR: 'it returns false'. Refute it at one input. -/
def fnItemsWrong : ChangeSpec := { name := "fnItems", fn := fun _ => fun
  | [d] => { results := [.lit (.bool false)], args := [d] }
  | _ => none }
def FnItemsWrongFalsely : Prop := fnItemsRow.holds Tryz.pinned (OpenSpec.ofChange fnItemsWrong)

/-- 'laws.FnWrites': WHATEVER THE INPUT: true; the input reads as it did. -/
def fnWritesSpec : ChangeSpec := { name := "fnWrites", fn := fun _ => fun
  | [d] => { results := [.lit (.bool true)], args := [d] }
  | _ => none }
def fnWritesRow : OpenClaim := { program := "ytphmpimgbmedbaagreat", sum := "d094a1693255ba51df93a308870510a7b3c1be22db6ee7af33b4b4bcdf50cd63", func := "loop.example/g00089/laws.FnWrites", spec := "fnWrites", unfollowed := true, recurses := true, apart := false }
def FnWritesSaid : Prop := fnWritesRow.holds Tryz.pinned (OpenSpec.ofChange fnWritesSpec)

/-- ITS FALSE NEIGHBOUR: 'it returns false'. Refute it at one input. -/
def fnWritesWrong : ChangeSpec := { name := "fnWrites", fn := fun _ => fun
  | [d] => { results := [.lit (.bool false)], args := [d] }
  | _ => none }
def FnWritesWrongFalsely : Prop := fnWritesRow.holds Tryz.pinned (OpenSpec.ofChange fnWritesWrong)

/-- 'laws.FnSwitches': WHATEVER THE INPUT: true; the input reads as it did. -/
def fnSwitchesSpec : ChangeSpec := { name := "fnSwitches", fn := fun _ => fun
  | [d] => { results := [.lit (.bool true)], args := [d] }
  | _ => none }
def fnSwitchesRow : OpenClaim := { program := "ytphmpimgbmedbaagreat", sum := "d094a1693255ba51df93a308870510a7b3c1be22db6ee7af33b4b4bcdf50cd63", func := "loop.example/g00089/laws.FnSwitches", spec := "fnSwitches", unfollowed := true, recurses := true, apart := false }
def FnSwitchesSaid : Prop := fnSwitchesRow.holds Tryz.pinned (OpenSpec.ofChange fnSwitchesSpec)

/-- ITS FALSE NEIGHBOUR: 'it returns false'. Refute it at one input. -/
def fnSwitchesWrong : ChangeSpec := { name := "fnSwitches", fn := fun _ => fun
  | [d] => { results := [.lit (.bool false)], args := [d] }
  | _ => none }
def FnSwitchesWrongFalsely : Prop := fnSwitchesRow.holds Tryz.pinned (OpenSpec.ofChange fnSwitchesWrong)

/- THE SECOND FORM. 'bulk': how many values and letters a reading holds, each counted each time it is reached (what is shared counts as often as it is met; a slice's spare places count too). A statement '..UptoSaid' is the law's where the arguments, and the package variables that the reading takes, are together of bulk at most 1048576: NARROWER than '..Said'. Prove '..Said' where nothing that the law and all that it calls make is longer than what came in: it says more and counts as full. Else prove '..UptoSaid'. A law counts once. -/
mutual
def uptoBulk {H : Type} : DataW H → Nat
  | .lit (.string bytes) => bytes.length + 1
  | .lit _ => 1
  | .nil => 1
  | .ptr d => uptoBulk d + 1
  | .slice elems spare => uptoBulkAll elems + uptoBulkAll spare + 1
  | .agg parts => uptoBulkAll parts + 1
  | .iface _ d => uptoBulk d + 1
  | .map entries => uptoBulkEntries entries + 1
  | .held _ => 1
def uptoBulkAll {H : Type} : List (DataW H) → Nat
  | [] => 0
  | d :: r => uptoBulk d + uptoBulkAll r
def uptoBulkEntries {H : Type} : List (Lit × DataW H) → Nat
  | [] => 0
  | x :: r => uptoBulkEntry x + uptoBulkEntries r
def uptoBulkEntry {H : Type} : Lit × DataW H → Nat
  | (.string bytes, d) => bytes.length + uptoBulk d + 1
  | (_, d) => uptoBulk d + 1
 end
def uptoSmall : (H : Type) → List (DataW H) → Bool := fun _ ds => decide (uptoBulkAll ds ≤ 1048576)
def OpenSpec.upto (s : _root_.Go.ChangeSpec) : _root_.Go.OpenSpec := { _root_.Go.OpenSpec.ofChange s with cond := some uptoSmall }

/-- 'laws.FnExactStrikeRecs', WHERE WHAT IT READS IS OF BULK AT MOST 1048576: true; the input reads as it did. -/
def fnExactStrikeRecsUptoRow : OpenClaim := { program := "ytphmpimgbmedbaagreat", sum := "d094a1693255ba51df93a308870510a7b3c1be22db6ee7af33b4b4bcdf50cd63", func := "loop.example/g00089/laws.FnExactStrikeRecs", spec := "fnExactStrikeRecs", unfollowed := true, recurses := true, apart := false, narrowed := true }
def FnExactStrikeRecsUptoSaid : Prop := fnExactStrikeRecsUptoRow.holds Tryz.pinned (OpenSpec.upto fnExactStrikeRecsSpec)

/-- 'laws.FnExactCountedRecs', WHERE WHAT IT READS IS OF BULK AT MOST 1048576: true; the input reads as it did. -/
def fnExactCountedRecsUptoRow : OpenClaim := { program := "ytphmpimgbmedbaagreat", sum := "d094a1693255ba51df93a308870510a7b3c1be22db6ee7af33b4b4bcdf50cd63", func := "loop.example/g00089/laws.FnExactCountedRecs", spec := "fnExactCountedRecs", unfollowed := true, recurses := true, apart := false, narrowed := true }
def FnExactCountedRecsUptoSaid : Prop := fnExactCountedRecsUptoRow.holds Tryz.pinned (OpenSpec.upto fnExactCountedRecsSpec)

/-- 'laws.FnExactMissingRecs', WHERE WHAT IT READS IS OF BULK AT MOST 1048576: true; the input reads as it did. -/
def fnExactMissingRecsUptoRow : OpenClaim := { program := "ytphmpimgbmedbaagreat", sum := "d094a1693255ba51df93a308870510a7b3c1be22db6ee7af33b4b4bcdf50cd63", func := "loop.example/g00089/laws.FnExactMissingRecs", spec := "fnExactMissingRecs", unfollowed := true, recurses := true, apart := false, narrowed := true }
def FnExactMissingRecsUptoSaid : Prop := fnExactMissingRecsUptoRow.holds Tryz.pinned (OpenSpec.upto fnExactMissingRecsSpec)

/-- 'laws.FnExactUndoneAt', WHERE WHAT IT READS IS OF BULK AT MOST 1048576: true; the input reads as it did. -/
def fnExactUndoneAtUptoRow : OpenClaim := { program := "ytphmpimgbmedbaagreat", sum := "d094a1693255ba51df93a308870510a7b3c1be22db6ee7af33b4b4bcdf50cd63", func := "loop.example/g00089/laws.FnExactUndoneAt", spec := "fnExactUndoneAt", unfollowed := true, recurses := true, apart := false, narrowed := true }
def FnExactUndoneAtUptoSaid : Prop := fnExactUndoneAtUptoRow.holds Tryz.pinned (OpenSpec.upto fnExactUndoneAtSpec)

/-- 'laws.FnExactNextSeq', WHERE WHAT IT READS IS OF BULK AT MOST 1048576: true; the input reads as it did. -/
def fnExactNextSeqUptoRow : OpenClaim := { program := "ytphmpimgbmedbaagreat", sum := "d094a1693255ba51df93a308870510a7b3c1be22db6ee7af33b4b4bcdf50cd63", func := "loop.example/g00089/laws.FnExactNextSeq", spec := "fnExactNextSeq", unfollowed := true, recurses := true, apart := false, narrowed := true }
def FnExactNextSeqUptoSaid : Prop := fnExactNextSeqUptoRow.holds Tryz.pinned (OpenSpec.upto fnExactNextSeqSpec)

/-- 'laws.FnExactSpentRecs', WHERE WHAT IT READS IS OF BULK AT MOST 1048576: true; the input reads as it did. -/
def fnExactSpentRecsUptoRow : OpenClaim := { program := "ytphmpimgbmedbaagreat", sum := "d094a1693255ba51df93a308870510a7b3c1be22db6ee7af33b4b4bcdf50cd63", func := "loop.example/g00089/laws.FnExactSpentRecs", spec := "fnExactSpentRecs", unfollowed := true, recurses := true, apart := false, narrowed := true }
def FnExactSpentRecsUptoSaid : Prop := fnExactSpentRecsUptoRow.holds Tryz.pinned (OpenSpec.upto fnExactSpentRecsSpec)

/-- 'laws.FnExactWaitingBytes', WHERE WHAT IT READS IS OF BULK AT MOST 1048576: true; the input reads as it did. -/
def fnExactWaitingBytesUptoRow : OpenClaim := { program := "ytphmpimgbmedbaagreat", sum := "d094a1693255ba51df93a308870510a7b3c1be22db6ee7af33b4b4bcdf50cd63", func := "loop.example/g00089/laws.FnExactWaitingBytes", spec := "fnExactWaitingBytes", inPlace := ["internal/bytealg.abigen_runtime_cmpstring"], unfollowed := true, recurses := true, apart := false, narrowed := true }
def FnExactWaitingBytesUptoSaid : Prop := fnExactWaitingBytesUptoRow.holds Tryz.pinned (OpenSpec.upto fnExactWaitingBytesSpec)

/-- 'laws.FnExactFreeRows', WHERE WHAT IT READS IS OF BULK AT MOST 1048576: true; the input reads as it did. -/
def fnExactFreeRowsUptoRow : OpenClaim := { program := "ytphmpimgbmedbaagreat", sum := "d094a1693255ba51df93a308870510a7b3c1be22db6ee7af33b4b4bcdf50cd63", func := "loop.example/g00089/laws.FnExactFreeRows", spec := "fnExactFreeRows", inPlace := ["internal/bytealg.abigen_runtime_cmpstring"], unfollowed := true, recurses := true, apart := false, narrowed := true }
def FnExactFreeRowsUptoSaid : Prop := fnExactFreeRowsUptoRow.holds Tryz.pinned (OpenSpec.upto fnExactFreeRowsSpec)

/-- 'laws.FnCounted', WHERE WHAT IT READS IS OF BULK AT MOST 1048576: true; the input reads as it did. -/
def fnCountedUptoRow : OpenClaim := { program := "ytphmpimgbmedbaagreat", sum := "d094a1693255ba51df93a308870510a7b3c1be22db6ee7af33b4b4bcdf50cd63", func := "loop.example/g00089/laws.FnCounted", spec := "fnCounted", unfollowed := true, recurses := true, apart := false, narrowed := true }
def FnCountedUptoSaid : Prop := fnCountedUptoRow.holds Tryz.pinned (OpenSpec.upto fnCountedSpec)

/-- 'laws.FnItems', WHERE WHAT IT READS IS OF BULK AT MOST 1048576: true; the input reads as it did. -/
def fnItemsUptoRow : OpenClaim := { program := "ytphmpimgbmedbaagreat", sum := "d094a1693255ba51df93a308870510a7b3c1be22db6ee7af33b4b4bcdf50cd63", func := "loop.example/g00089/laws.FnItems", spec := "fnItems", inPlace := ["internal/bytealg.abigen_runtime_cmpstring"], unfollowed := true, recurses := true, apart := false, narrowed := true }
def FnItemsUptoSaid : Prop := fnItemsUptoRow.holds Tryz.pinned (OpenSpec.upto fnItemsSpec)

/-- 'laws.FnWrites', WHERE WHAT IT READS IS OF BULK AT MOST 1048576: true; the input reads as it did. -/
def fnWritesUptoRow : OpenClaim := { program := "ytphmpimgbmedbaagreat", sum := "d094a1693255ba51df93a308870510a7b3c1be22db6ee7af33b4b4bcdf50cd63", func := "loop.example/g00089/laws.FnWrites", spec := "fnWrites", unfollowed := true, recurses := true, apart := false, narrowed := true }
def FnWritesUptoSaid : Prop := fnWritesUptoRow.holds Tryz.pinned (OpenSpec.upto fnWritesSpec)

/-- 'laws.FnSwitches', WHERE WHAT IT READS IS OF BULK AT MOST 1048576: true; the input reads as it did. -/
def fnSwitchesUptoRow : OpenClaim := { program := "ytphmpimgbmedbaagreat", sum := "d094a1693255ba51df93a308870510a7b3c1be22db6ee7af33b4b4bcdf50cd63", func := "loop.example/g00089/laws.FnSwitches", spec := "fnSwitches", unfollowed := true, recurses := true, apart := false, narrowed := true }
def FnSwitchesUptoSaid : Prop := fnSwitchesUptoRow.holds Tryz.pinned (OpenSpec.upto fnSwitchesSpec)

end Rows
end Go.Proofs.YtphmpimgbmedbaaGreat
