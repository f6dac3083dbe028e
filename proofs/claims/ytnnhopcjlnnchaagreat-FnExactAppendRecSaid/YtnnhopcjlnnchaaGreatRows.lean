/-
  No cell of these rows narrows 'for every input' (looked for: loops, veiled, ifaces, maps, wideKeys, modest, calm, conditions, laid).
  DERIVED. THE GIVEN ROWS OF THIS SEAT. 10 by the template 'for every input the law returns true; each argument reads behind the call as it read before'; 0 by the template 'total and deterministic' (their statements: YtnnhopcjlnnchaaGreatTotals.lean).
  GIVEN WITH THE SEED: the statements are not yours to turn. If you find one false, say at which input.
  Laid BY PROGRAM, IN A SANDBOX (cutbox-rows.mjs): the forced cells as the released guide's own fill.sh prints them over the translation 21a80eb17e6e5f50… (all of the seat's roots in one cut). By AI agents, Wed Nov 11 2026. No macro, syntax, notation, axiom, sorry.
-/
import Derived.Test.YtnnhopcjlnnchaaGreatChecked
import GoSem.Claim
import GoSem.ClaimJoined
import GoSem.ClaimMapViews
import Derived.JoinedTies
import Derived.KernelRfl
namespace Go.Proofs.YtnnhopcjlnnchaaGreat
/- THE CELL 'sum', in the pinned program and in every row, IS THE sha256 OF THE DUMP (.gsa) THAT YtnnhopcjlnnchaaGreatProg.lean LOADS. Nothing in Lean hashes anything: it is a label: what it is worth is what the hold of that sum in a sandbox is worth. -/
noncomputable def Tryz.pinned : Pinned := { name := "ytnnhopcjlnnchaagreat", sum := "21a80eb17e6e5f5002949b9fa831c31fc99d524928934e879095147bf5f7f2da", checked := Tryz.checked }
namespace Rows
def none {H : Type} : Left H := { results := [], args := [] }

/-- 'laws.FnExactReadBlock': WHATEVER THE INPUT: true; the input reads as it did. -/
def fnExactReadBlockSpec : ChangeSpec := { name := "fnExactReadBlock", fn := fun _ => fun
  | [d1, d2, d3, d4] => { results := [.lit (.bool true)], args := [d1, d2, d3, d4] }
  | _ => none }
def fnExactReadBlockRow : OpenClaim := { program := "ytnnhopcjlnnchaagreat", sum := "21a80eb17e6e5f5002949b9fa831c31fc99d524928934e879095147bf5f7f2da", func := "loop.example/g00089/laws.FnExactReadBlock", spec := "fnExactReadBlock", unfollowed := true, recurses := true, apart := false }
def FnExactReadBlockSaid : Prop := fnExactReadBlockRow.holds Tryz.pinned (OpenSpec.ofChange fnExactReadBlockSpec)

/-- ITS FALSE NEIGHBOUR: 'it returns false'. Refute it at one input. -/
def fnExactReadBlockWrong : ChangeSpec := { name := "fnExactReadBlock", fn := fun _ => fun
  | [d1, d2, d3, d4] => { results := [.lit (.bool false)], args := [d1, d2, d3, d4] }
  | _ => none }
def FnExactReadBlockWrongFalsely : Prop := fnExactReadBlockRow.holds Tryz.pinned (OpenSpec.ofChange fnExactReadBlockWrong)

/-- 'laws.FnExactCutPower': WHATEVER THE INPUT: true; the input reads as it did. -/
def fnExactCutPowerSpec : ChangeSpec := { name := "fnExactCutPower", fn := fun _ => fun
  | [d] => { results := [.lit (.bool true)], args := [d] }
  | _ => none }
def fnExactCutPowerRow : OpenClaim := { program := "ytnnhopcjlnnchaagreat", sum := "21a80eb17e6e5f5002949b9fa831c31fc99d524928934e879095147bf5f7f2da", func := "loop.example/g00089/laws.FnExactCutPower", spec := "fnExactCutPower", unfollowed := true, recurses := true, apart := false }
def FnExactCutPowerSaid : Prop := fnExactCutPowerRow.holds Tryz.pinned (OpenSpec.ofChange fnExactCutPowerSpec)

/-- ITS FALSE NEIGHBOUR: 'it returns false'. Refute it at one input. -/
def fnExactCutPowerWrong : ChangeSpec := { name := "fnExactCutPower", fn := fun _ => fun
  | [d] => { results := [.lit (.bool false)], args := [d] }
  | _ => none }
def FnExactCutPowerWrongFalsely : Prop := fnExactCutPowerRow.holds Tryz.pinned (OpenSpec.ofChange fnExactCutPowerWrong)

/-- 'laws.FnExactWipeTape': WHATEVER THE INPUT: true; the input reads as it did. -/
def fnExactWipeTapeSpec : ChangeSpec := { name := "fnExactWipeTape", fn := fun _ => fun
  | [d1, d2] => { results := [.lit (.bool true)], args := [d1, d2] }
  | _ => none }
def fnExactWipeTapeRow : OpenClaim := { program := "ytnnhopcjlnnchaagreat", sum := "21a80eb17e6e5f5002949b9fa831c31fc99d524928934e879095147bf5f7f2da", func := "loop.example/g00089/laws.FnExactWipeTape", spec := "fnExactWipeTape", unfollowed := true, recurses := true, apart := false }
def FnExactWipeTapeSaid : Prop := fnExactWipeTapeRow.holds Tryz.pinned (OpenSpec.ofChange fnExactWipeTapeSpec)

/-- ITS FALSE NEIGHBOUR: 'it returns false'. Refute it at one input. -/
def fnExactWipeTapeWrong : ChangeSpec := { name := "fnExactWipeTape", fn := fun _ => fun
  | [d1, d2] => { results := [.lit (.bool false)], args := [d1, d2] }
  | _ => none }
def FnExactWipeTapeWrongFalsely : Prop := fnExactWipeTapeRow.holds Tryz.pinned (OpenSpec.ofChange fnExactWipeTapeWrong)

/-- 'laws.FnExactRaisePower': WHATEVER THE INPUT: true; the input reads as it did. -/
def fnExactRaisePowerSpec : ChangeSpec := { name := "fnExactRaisePower", fn := fun _ => fun
  | [d1, d2] => { results := [.lit (.bool true)], args := [d1, d2] }
  | _ => none }
def fnExactRaisePowerRow : OpenClaim := { program := "ytnnhopcjlnnchaagreat", sum := "21a80eb17e6e5f5002949b9fa831c31fc99d524928934e879095147bf5f7f2da", func := "loop.example/g00089/laws.FnExactRaisePower", spec := "fnExactRaisePower", unfollowed := true, recurses := true, apart := false }
def FnExactRaisePowerSaid : Prop := fnExactRaisePowerRow.holds Tryz.pinned (OpenSpec.ofChange fnExactRaisePowerSpec)

/-- ITS FALSE NEIGHBOUR: 'it returns false'. Refute it at one input. -/
def fnExactRaisePowerWrong : ChangeSpec := { name := "fnExactRaisePower", fn := fun _ => fun
  | [d1, d2] => { results := [.lit (.bool false)], args := [d1, d2] }
  | _ => none }
def FnExactRaisePowerWrongFalsely : Prop := fnExactRaisePowerRow.holds Tryz.pinned (OpenSpec.ofChange fnExactRaisePowerWrong)

/-- 'laws.FnExactWipeDrive': WHATEVER THE INPUT: true; the input reads as it did. -/
def fnExactWipeDriveSpec : ChangeSpec := { name := "fnExactWipeDrive", fn := fun _ => fun
  | [d1, d2, d3] => { results := [.lit (.bool true)], args := [d1, d2, d3] }
  | _ => none }
def fnExactWipeDriveRow : OpenClaim := { program := "ytnnhopcjlnnchaagreat", sum := "21a80eb17e6e5f5002949b9fa831c31fc99d524928934e879095147bf5f7f2da", func := "loop.example/g00089/laws.FnExactWipeDrive", spec := "fnExactWipeDrive", unfollowed := true, recurses := true, apart := false }
def FnExactWipeDriveSaid : Prop := fnExactWipeDriveRow.holds Tryz.pinned (OpenSpec.ofChange fnExactWipeDriveSpec)

/-- ITS FALSE NEIGHBOUR: 'it returns false'. Refute it at one input. -/
def fnExactWipeDriveWrong : ChangeSpec := { name := "fnExactWipeDrive", fn := fun _ => fun
  | [d1, d2, d3] => { results := [.lit (.bool false)], args := [d1, d2, d3] }
  | _ => none }
def FnExactWipeDriveWrongFalsely : Prop := fnExactWipeDriveRow.holds Tryz.pinned (OpenSpec.ofChange fnExactWipeDriveWrong)

/-- 'laws.FnExactSwitchOn': WHATEVER THE INPUT: true; the input reads as it did. -/
def fnExactSwitchOnSpec : ChangeSpec := { name := "fnExactSwitchOn", fn := fun _ => fun
  | [d1, d2] => { results := [.lit (.bool true)], args := [d1, d2] }
  | _ => none }
def fnExactSwitchOnRow : OpenClaim := { program := "ytnnhopcjlnnchaagreat", sum := "21a80eb17e6e5f5002949b9fa831c31fc99d524928934e879095147bf5f7f2da", func := "loop.example/g00089/laws.FnExactSwitchOn", spec := "fnExactSwitchOn", unfollowed := true, recurses := true, apart := false }
def FnExactSwitchOnSaid : Prop := fnExactSwitchOnRow.holds Tryz.pinned (OpenSpec.ofChange fnExactSwitchOnSpec)

/-- ITS FALSE NEIGHBOUR: 'it returns false'. Refute it at one input. -/
def fnExactSwitchOnWrong : ChangeSpec := { name := "fnExactSwitchOn", fn := fun _ => fun
  | [d1, d2] => { results := [.lit (.bool false)], args := [d1, d2] }
  | _ => none }
def FnExactSwitchOnWrongFalsely : Prop := fnExactSwitchOnRow.holds Tryz.pinned (OpenSpec.ofChange fnExactSwitchOnWrong)

/-- 'laws.FnExactSwitchOff': WHATEVER THE INPUT: true; the input reads as it did. -/
def fnExactSwitchOffSpec : ChangeSpec := { name := "fnExactSwitchOff", fn := fun _ => fun
  | [d1, d2] => { results := [.lit (.bool true)], args := [d1, d2] }
  | _ => none }
def fnExactSwitchOffRow : OpenClaim := { program := "ytnnhopcjlnnchaagreat", sum := "21a80eb17e6e5f5002949b9fa831c31fc99d524928934e879095147bf5f7f2da", func := "loop.example/g00089/laws.FnExactSwitchOff", spec := "fnExactSwitchOff", unfollowed := true, recurses := true, apart := false }
def FnExactSwitchOffSaid : Prop := fnExactSwitchOffRow.holds Tryz.pinned (OpenSpec.ofChange fnExactSwitchOffSpec)

/-- ITS FALSE NEIGHBOUR: 'it returns false'. Refute it at one input. -/
def fnExactSwitchOffWrong : ChangeSpec := { name := "fnExactSwitchOff", fn := fun _ => fun
  | [d1, d2] => { results := [.lit (.bool false)], args := [d1, d2] }
  | _ => none }
def FnExactSwitchOffWrongFalsely : Prop := fnExactSwitchOffRow.holds Tryz.pinned (OpenSpec.ofChange fnExactSwitchOffWrong)

/-- 'laws.FnExactTrustDrive': WHATEVER THE INPUT: true; the input reads as it did. -/
def fnExactTrustDriveSpec : ChangeSpec := { name := "fnExactTrustDrive", fn := fun _ => fun
  | [d1, d2, d3] => { results := [.lit (.bool true)], args := [d1, d2, d3] }
  | _ => none }
def fnExactTrustDriveRow : OpenClaim := { program := "ytnnhopcjlnnchaagreat", sum := "21a80eb17e6e5f5002949b9fa831c31fc99d524928934e879095147bf5f7f2da", func := "loop.example/g00089/laws.FnExactTrustDrive", spec := "fnExactTrustDrive", unfollowed := true, recurses := true, apart := false }
def FnExactTrustDriveSaid : Prop := fnExactTrustDriveRow.holds Tryz.pinned (OpenSpec.ofChange fnExactTrustDriveSpec)

/-- ITS FALSE NEIGHBOUR: 'it returns false'. Refute it at one input. -/
def fnExactTrustDriveWrong : ChangeSpec := { name := "fnExactTrustDrive", fn := fun _ => fun
  | [d1, d2, d3] => { results := [.lit (.bool false)], args := [d1, d2, d3] }
  | _ => none }
def FnExactTrustDriveWrongFalsely : Prop := fnExactTrustDriveRow.holds Tryz.pinned (OpenSpec.ofChange fnExactTrustDriveWrong)

/-- 'laws.FnExactWriteBlock': WHATEVER THE INPUT: true; the input reads as it did. -/
def fnExactWriteBlockSpec : ChangeSpec := { name := "fnExactWriteBlock", fn := fun _ => fun
  | [d1, d2, d3, d4, d5] => { results := [.lit (.bool true)], args := [d1, d2, d3, d4, d5] }
  | _ => none }
def fnExactWriteBlockRow : OpenClaim := { program := "ytnnhopcjlnnchaagreat", sum := "21a80eb17e6e5f5002949b9fa831c31fc99d524928934e879095147bf5f7f2da", func := "loop.example/g00089/laws.FnExactWriteBlock", spec := "fnExactWriteBlock", unfollowed := true, recurses := true, apart := false }
def FnExactWriteBlockSaid : Prop := fnExactWriteBlockRow.holds Tryz.pinned (OpenSpec.ofChange fnExactWriteBlockSpec)

/-- ITS FALSE NEIGHBOUR: 'it returns false'. Refute it at one input. -/
def fnExactWriteBlockWrong : ChangeSpec := { name := "fnExactWriteBlock", fn := fun _ => fun
  | [d1, d2, d3, d4, d5] => { results := [.lit (.bool false)], args := [d1, d2, d3, d4, d5] }
  | _ => none }
def FnExactWriteBlockWrongFalsely : Prop := fnExactWriteBlockRow.holds Tryz.pinned (OpenSpec.ofChange fnExactWriteBlockWrong)

/-- 'laws.FnExactAppendRec': WHATEVER THE INPUT: true; the input reads as it did. -/
def fnExactAppendRecSpec : ChangeSpec := { name := "fnExactAppendRec", fn := fun _ => fun
  | [d1, d2, d3] => { results := [.lit (.bool true)], args := [d1, d2, d3] }
  | _ => none }
def fnExactAppendRecRow : OpenClaim := { program := "ytnnhopcjlnnchaagreat", sum := "21a80eb17e6e5f5002949b9fa831c31fc99d524928934e879095147bf5f7f2da", func := "loop.example/g00089/laws.FnExactAppendRec", spec := "fnExactAppendRec", unfollowed := true, recurses := true, apart := false }
def FnExactAppendRecSaid : Prop := fnExactAppendRecRow.holds Tryz.pinned (OpenSpec.ofChange fnExactAppendRecSpec)

/-- ITS FALSE NEIGHBOUR: 'it returns false'. Refute it at one input. -/
def fnExactAppendRecWrong : ChangeSpec := { name := "fnExactAppendRec", fn := fun _ => fun
  | [d1, d2, d3] => { results := [.lit (.bool false)], args := [d1, d2, d3] }
  | _ => none }
def FnExactAppendRecWrongFalsely : Prop := fnExactAppendRecRow.holds Tryz.pinned (OpenSpec.ofChange fnExactAppendRecWrong)

/- THE SECOND FORM. 'bulk': how many values and letters a reading holds, each counted each time it is reached (what is shared counts as often as it is met; a slice's spare places count too). A statement '..UptoSaid' is the law's where the arguments, and the package variables that the reading takes, are together of bulk at most 1048576: NARROWER than '..Said'. Prove '..Said' where nothing that the law and all that it calls make is longer than what came in: it says more and counts as full. Else prove '..UptoSaid'. A law counts once. -/
mutual
def uptoBulk {H : Type} : DataW H → Nat
  | .lit (.string bytes) => bytes.length + 1
  | .lit _ => 1
  | .nil => 1
  | .ptr d => uptoBulk d + 1
  | .slice elems spare => uptoBulkAll elems + uptoBulkAll spare + 1
  | .agg parts => uptoBulkAll parts + 1
  | .iface _ d => uptoBulk d + 1
  | .map entries => uptoBulkEntries entries + 1
  | .held _ => 1
def uptoBulkAll {H : Type} : List (DataW H) → Nat
  | [] => 0
  | d :: r => uptoBulk d + uptoBulkAll r
def uptoBulkEntries {H : Type} : List (Lit × DataW H) → Nat
  | [] => 0
  | x :: r => uptoBulkEntry x + uptoBulkEntries r
def uptoBulkEntry {H : Type} : Lit × DataW H → Nat
  | (.string bytes, d) => bytes.length + uptoBulk d + 1
  | (_, d) => uptoBulk d + 1
 end
def uptoSmall : (H : Type) → List (DataW H) → Bool := fun _ ds => decide (uptoBulkAll ds ≤ 1048576)
def OpenSpec.upto (s : _root_.Go.ChangeSpec) : _root_.Go.OpenSpec := { _root_.Go.OpenSpec.ofChange s with cond := some uptoSmall }

/-- 'laws.FnExactReadBlock', WHERE WHAT IT READS IS OF BULK AT MOST 1048576: true; the input reads as it did. -/
def fnExactReadBlockUptoRow : OpenClaim := { program := "ytnnhopcjlnnchaagreat", sum := "21a80eb17e6e5f5002949b9fa831c31fc99d524928934e879095147bf5f7f2da", func := "loop.example/g00089/laws.FnExactReadBlock", spec := "fnExactReadBlock", unfollowed := true, recurses := true, apart := false, narrowed := true }
def FnExactReadBlockUptoSaid : Prop := fnExactReadBlockUptoRow.holds Tryz.pinned (OpenSpec.upto fnExactReadBlockSpec)

/-- 'laws.FnExactCutPower', WHERE WHAT IT READS IS OF BULK AT MOST 1048576: true; the input reads as it did. -/
def fnExactCutPowerUptoRow : OpenClaim := { program := "ytnnhopcjlnnchaagreat", sum := "21a80eb17e6e5f5002949b9fa831c31fc99d524928934e879095147bf5f7f2da", func := "loop.example/g00089/laws.FnExactCutPower", spec := "fnExactCutPower", unfollowed := true, recurses := true, apart := false, narrowed := true }
def FnExactCutPowerUptoSaid : Prop := fnExactCutPowerUptoRow.holds Tryz.pinned (OpenSpec.upto fnExactCutPowerSpec)

/-- 'laws.FnExactWipeTape', WHERE WHAT IT READS IS OF BULK AT MOST 1048576: true; the input reads as it did. -/
def fnExactWipeTapeUptoRow : OpenClaim := { program := "ytnnhopcjlnnchaagreat", sum := "21a80eb17e6e5f5002949b9fa831c31fc99d524928934e879095147bf5f7f2da", func := "loop.example/g00089/laws.FnExactWipeTape", spec := "fnExactWipeTape", unfollowed := true, recurses := true, apart := false, narrowed := true }
def FnExactWipeTapeUptoSaid : Prop := fnExactWipeTapeUptoRow.holds Tryz.pinned (OpenSpec.upto fnExactWipeTapeSpec)

/-- 'laws.FnExactRaisePower', WHERE WHAT IT READS IS OF BULK AT MOST 1048576: true; the input reads as it did. -/
def fnExactRaisePowerUptoRow : OpenClaim := { program := "ytnnhopcjlnnchaagreat", sum := "21a80eb17e6e5f5002949b9fa831c31fc99d524928934e879095147bf5f7f2da", func := "loop.example/g00089/laws.FnExactRaisePower", spec := "fnExactRaisePower", unfollowed := true, recurses := true, apart := false, narrowed := true }
def FnExactRaisePowerUptoSaid : Prop := fnExactRaisePowerUptoRow.holds Tryz.pinned (OpenSpec.upto fnExactRaisePowerSpec)

/-- 'laws.FnExactWipeDrive', WHERE WHAT IT READS IS OF BULK AT MOST 1048576: true; the input reads as it did. -/
def fnExactWipeDriveUptoRow : OpenClaim := { program := "ytnnhopcjlnnchaagreat", sum := "21a80eb17e6e5f5002949b9fa831c31fc99d524928934e879095147bf5f7f2da", func := "loop.example/g00089/laws.FnExactWipeDrive", spec := "fnExactWipeDrive", unfollowed := true, recurses := true, apart := false, narrowed := true }
def FnExactWipeDriveUptoSaid : Prop := fnExactWipeDriveUptoRow.holds Tryz.pinned (OpenSpec.upto fnExactWipeDriveSpec)

/-- 'laws.FnExactSwitchOn', WHERE WHAT IT READS IS OF BULK AT MOST 1048576: true; the input reads as it did. -/
def fnExactSwitchOnUptoRow : OpenClaim := { program := "ytnnhopcjlnnchaagreat", sum := "21a80eb17e6e5f5002949b9fa831c31fc99d524928934e879095147bf5f7f2da", func := "loop.example/g00089/laws.FnExactSwitchOn", spec := "fnExactSwitchOn", unfollowed := true, recurses := true, apart := false, narrowed := true }
def FnExactSwitchOnUptoSaid : Prop := fnExactSwitchOnUptoRow.holds Tryz.pinned (OpenSpec.upto fnExactSwitchOnSpec)

/-- 'laws.FnExactSwitchOff', WHERE WHAT IT READS IS OF BULK AT MOST 1048576: true; the input reads as it did. -/
def fnExactSwitchOffUptoRow : OpenClaim := { program := "ytnnhopcjlnnchaagreat", sum := "21a80eb17e6e5f5002949b9fa831c31fc99d524928934e879095147bf5f7f2da", func := "loop.example/g00089/laws.FnExactSwitchOff", spec := "fnExactSwitchOff", unfollowed := true, recurses := true, apart := false, narrowed := true }
def FnExactSwitchOffUptoSaid : Prop := fnExactSwitchOffUptoRow.holds Tryz.pinned (OpenSpec.upto fnExactSwitchOffSpec)

/-- 'laws.FnExactTrustDrive', WHERE WHAT IT READS IS OF BULK AT MOST 1048576: true; the input reads as it did. -/
def fnExactTrustDriveUptoRow : OpenClaim := { program := "ytnnhopcjlnnchaagreat", sum := "21a80eb17e6e5f5002949b9fa831c31fc99d524928934e879095147bf5f7f2da", func := "loop.example/g00089/laws.FnExactTrustDrive", spec := "fnExactTrustDrive", unfollowed := true, recurses := true, apart := false, narrowed := true }
def FnExactTrustDriveUptoSaid : Prop := fnExactTrustDriveUptoRow.holds Tryz.pinned (OpenSpec.upto fnExactTrustDriveSpec)

/-- 'laws.FnExactWriteBlock', WHERE WHAT IT READS IS OF BULK AT MOST 1048576: true; the input reads as it did. -/
def fnExactWriteBlockUptoRow : OpenClaim := { program := "ytnnhopcjlnnchaagreat", sum := "21a80eb17e6e5f5002949b9fa831c31fc99d524928934e879095147bf5f7f2da", func := "loop.example/g00089/laws.FnExactWriteBlock", spec := "fnExactWriteBlock", unfollowed := true, recurses := true, apart := false, narrowed := true }
def FnExactWriteBlockUptoSaid : Prop := fnExactWriteBlockUptoRow.holds Tryz.pinned (OpenSpec.upto fnExactWriteBlockSpec)

/-- 'laws.FnExactAppendRec', WHERE WHAT IT READS IS OF BULK AT MOST 1048576: true; the input reads as it did. -/
def fnExactAppendRecUptoRow : OpenClaim := { program := "ytnnhopcjlnnchaagreat", sum := "21a80eb17e6e5f5002949b9fa831c31fc99d524928934e879095147bf5f7f2da", func := "loop.example/g00089/laws.FnExactAppendRec", spec := "fnExactAppendRec", unfollowed := true, recurses := true, apart := false, narrowed := true }
def FnExactAppendRecUptoSaid : Prop := fnExactAppendRecUptoRow.holds Tryz.pinned (OpenSpec.upto fnExactAppendRecSpec)

end Rows
end Go.Proofs.YtnnhopcjlnnchaaGreat
