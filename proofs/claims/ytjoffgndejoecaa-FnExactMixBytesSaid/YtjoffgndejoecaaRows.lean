/-
  No cell of these rows narrows 'for every input' (looked for: loops, veiled, ifaces, maps, wideKeys, modest, calm, conditions, laid).
  DERIVED. THE GIVEN ROWS OF THIS SEAT. 12 by the template 'for every input the law returns true; each argument reads behind the call as it read before'; 0 by the template 'total and deterministic' (their statements: YtjoffgndejoecaaTotals.lean).
  GIVEN WITH THE SEED: the statements are not yours to turn. If you find one false, say at which input.
  Laid BY PROGRAM, IN A SANDBOX (cutbox-rows.mjs): the forced cells as the released guide's own fill.sh prints them over the translation 475ff40f5369d257… (all of the seat's roots in one cut). By AI agents, Wed Nov 11 2026. No macro, syntax, notation, axiom, sorry.
-/
import Derived.Test.YtjoffgndejoecaaChecked
import GoSem.Claim
import GoSem.ClaimJoined
import GoSem.ClaimMapViews
import Derived.JoinedTies
import Derived.KernelRfl
namespace Go.Proofs.Ytjoffgndejoecaa
/- THE CELL 'sum', in the pinned program and in every row, IS THE sha256 OF THE DUMP (.gsa) THAT YtjoffgndejoecaaProg.lean LOADS. Nothing in Lean hashes anything: it is a label: what it is worth is what the hold of that sum in a sandbox is worth. -/
noncomputable def Try.pinned : Pinned := { name := "ytjoffgndejoecaa", sum := "475ff40f5369d257af9d8ee705996e68c919be99a6123cfe3d6de878e4b66008", checked := Try.checked }
namespace Rows
def none {H : Type} : Left H := { results := [], args := [] }

/-- 'laws.FnField': WHATEVER THE INPUT: true; the input reads as it did. -/
def fnFieldSpec : ChangeSpec := { name := "fnField", fn := fun _ => fun
  | [d] => { results := [.lit (.bool true)], args := [d] }
  | _ => none }
def fnFieldRow : OpenClaim := { program := "ytjoffgndejoecaa", sum := "475ff40f5369d257af9d8ee705996e68c919be99a6123cfe3d6de878e4b66008", func := "loop.example/g00089/laws.FnField", spec := "fnField", apart := false }
def FnFieldSaid : Prop := fnFieldRow.holds Try.pinned (OpenSpec.ofChange fnFieldSpec)

/-- ITS FALSE NEIGHBOUR: 'it returns false'. Refute it at one input. -/
def fnFieldWrong : ChangeSpec := { name := "fnField", fn := fun _ => fun
  | [d] => { results := [.lit (.bool false)], args := [d] }
  | _ => none }
def FnFieldWrongFalsely : Prop := fnFieldRow.holds Try.pinned (OpenSpec.ofChange fnFieldWrong)

/-- 'laws.FnExactDivG': WHATEVER THE INPUT: true; the input reads as it did. -/
def fnExactDivGSpec : ChangeSpec := { name := "fnExactDivG", fn := fun _ => fun
  | [d1, d2] => { results := [.lit (.bool true)], args := [d1, d2] }
  | _ => none }
def fnExactDivGRow : OpenClaim := { program := "ytjoffgndejoecaa", sum := "475ff40f5369d257af9d8ee705996e68c919be99a6123cfe3d6de878e4b66008", func := "loop.example/g00089/laws.FnExactDivG", spec := "fnExactDivG", apart := false }
def FnExactDivGSaid : Prop := fnExactDivGRow.holds Try.pinned (OpenSpec.ofChange fnExactDivGSpec)

/-- ITS FALSE NEIGHBOUR: 'it returns false'. Refute it at one input. -/
def fnExactDivGWrong : ChangeSpec := { name := "fnExactDivG", fn := fun _ => fun
  | [d1, d2] => { results := [.lit (.bool false)], args := [d1, d2] }
  | _ => none }
def FnExactDivGWrongFalsely : Prop := fnExactDivGRow.holds Try.pinned (OpenSpec.ofChange fnExactDivGWrong)

/-- 'laws.FnExactPartsFor': WHATEVER THE INPUT: true; the input reads as it did. -/
def fnExactPartsForSpec : ChangeSpec := { name := "fnExactPartsFor", fn := fun _ => fun
  | [d1, d2] => { results := [.lit (.bool true)], args := [d1, d2] }
  | _ => none }
def fnExactPartsForRow : OpenClaim := { program := "ytjoffgndejoecaa", sum := "475ff40f5369d257af9d8ee705996e68c919be99a6123cfe3d6de878e4b66008", func := "loop.example/g00089/laws.FnExactPartsFor", spec := "fnExactPartsFor", apart := false }
def FnExactPartsForSaid : Prop := fnExactPartsForRow.holds Try.pinned (OpenSpec.ofChange fnExactPartsForSpec)

/-- ITS FALSE NEIGHBOUR: 'it returns false'. Refute it at one input. -/
def fnExactPartsForWrong : ChangeSpec := { name := "fnExactPartsFor", fn := fun _ => fun
  | [d1, d2] => { results := [.lit (.bool false)], args := [d1, d2] }
  | _ => none }
def FnExactPartsForWrongFalsely : Prop := fnExactPartsForRow.holds Try.pinned (OpenSpec.ofChange fnExactPartsForWrong)

/-- 'laws.FnExactFactorOf': WHATEVER THE INPUT: true; the input reads as it did. -/
def fnExactFactorOfSpec : ChangeSpec := { name := "fnExactFactorOf", fn := fun _ => fun
  | [d1, d2, d3, d4] => { results := [.lit (.bool true)], args := [d1, d2, d3, d4] }
  | _ => none }
def fnExactFactorOfRow : OpenClaim := { program := "ytjoffgndejoecaa", sum := "475ff40f5369d257af9d8ee705996e68c919be99a6123cfe3d6de878e4b66008", func := "loop.example/g00089/laws.FnExactFactorOf", spec := "fnExactFactorOf", apart := false }
def FnExactFactorOfSaid : Prop := fnExactFactorOfRow.holds Try.pinned (OpenSpec.ofChange fnExactFactorOfSpec)

/-- ITS FALSE NEIGHBOUR: 'it returns false'. Refute it at one input. -/
def fnExactFactorOfWrong : ChangeSpec := { name := "fnExactFactorOf", fn := fun _ => fun
  | [d1, d2, d3, d4] => { results := [.lit (.bool false)], args := [d1, d2, d3, d4] }
  | _ => none }
def FnExactFactorOfWrongFalsely : Prop := fnExactFactorOfRow.holds Try.pinned (OpenSpec.ofChange fnExactFactorOfWrong)

/-- 'laws.FnExactHomeOf': WHATEVER THE INPUT: true; the input reads as it did. -/
def fnExactHomeOfSpec : ChangeSpec := { name := "fnExactHomeOf", fn := fun _ => fun
  | [d1, d2] => { results := [.lit (.bool true)], args := [d1, d2] }
  | _ => none }
def fnExactHomeOfRow : OpenClaim := { program := "ytjoffgndejoecaa", sum := "475ff40f5369d257af9d8ee705996e68c919be99a6123cfe3d6de878e4b66008", func := "loop.example/g00089/laws.FnExactHomeOf", spec := "fnExactHomeOf", apart := false }
def FnExactHomeOfSaid : Prop := fnExactHomeOfRow.holds Try.pinned (OpenSpec.ofChange fnExactHomeOfSpec)

/-- ITS FALSE NEIGHBOUR: 'it returns false'. Refute it at one input. -/
def fnExactHomeOfWrong : ChangeSpec := { name := "fnExactHomeOf", fn := fun _ => fun
  | [d1, d2] => { results := [.lit (.bool false)], args := [d1, d2] }
  | _ => none }
def FnExactHomeOfWrongFalsely : Prop := fnExactHomeOfRow.holds Try.pinned (OpenSpec.ofChange fnExactHomeOfWrong)

/-- 'laws.FnExactScaleBytes': WHATEVER THE INPUT: true; the input reads as it did. -/
def fnExactScaleBytesSpec : ChangeSpec := { name := "fnExactScaleBytes", fn := fun _ => fun
  | [d1, d2] => { results := [.lit (.bool true)], args := [d1, d2] }
  | _ => none }
def fnExactScaleBytesRow : OpenClaim := { program := "ytjoffgndejoecaa", sum := "475ff40f5369d257af9d8ee705996e68c919be99a6123cfe3d6de878e4b66008", func := "loop.example/g00089/laws.FnExactScaleBytes", spec := "fnExactScaleBytes", apart := false }
def FnExactScaleBytesSaid : Prop := fnExactScaleBytesRow.holds Try.pinned (OpenSpec.ofChange fnExactScaleBytesSpec)

/-- ITS FALSE NEIGHBOUR: 'it returns false'. Refute it at one input. -/
def fnExactScaleBytesWrong : ChangeSpec := { name := "fnExactScaleBytes", fn := fun _ => fun
  | [d1, d2] => { results := [.lit (.bool false)], args := [d1, d2] }
  | _ => none }
def FnExactScaleBytesWrongFalsely : Prop := fnExactScaleBytesRow.holds Try.pinned (OpenSpec.ofChange fnExactScaleBytesWrong)

/-- 'laws.FnExactAddBytes': WHATEVER THE INPUT: true; the input reads as it did. -/
def fnExactAddBytesSpec : ChangeSpec := { name := "fnExactAddBytes", fn := fun _ => fun
  | [d1, d2] => { results := [.lit (.bool true)], args := [d1, d2] }
  | _ => none }
def fnExactAddBytesRow : OpenClaim := { program := "ytjoffgndejoecaa", sum := "475ff40f5369d257af9d8ee705996e68c919be99a6123cfe3d6de878e4b66008", func := "loop.example/g00089/laws.FnExactAddBytes", spec := "fnExactAddBytes", apart := false }
def FnExactAddBytesSaid : Prop := fnExactAddBytesRow.holds Try.pinned (OpenSpec.ofChange fnExactAddBytesSpec)

/-- ITS FALSE NEIGHBOUR: 'it returns false'. Refute it at one input. -/
def fnExactAddBytesWrong : ChangeSpec := { name := "fnExactAddBytes", fn := fun _ => fun
  | [d1, d2] => { results := [.lit (.bool false)], args := [d1, d2] }
  | _ => none }
def FnExactAddBytesWrongFalsely : Prop := fnExactAddBytesRow.holds Try.pinned (OpenSpec.ofChange fnExactAddBytesWrong)

/-- 'laws.FnExactAddShare': WHATEVER THE INPUT: true; the input reads as it did. -/
def fnExactAddShareSpec : ChangeSpec := { name := "fnExactAddShare", fn := fun _ => fun
  | [d1, d2, d3] => { results := [.lit (.bool true)], args := [d1, d2, d3] }
  | _ => none }
def fnExactAddShareRow : OpenClaim := { program := "ytjoffgndejoecaa", sum := "475ff40f5369d257af9d8ee705996e68c919be99a6123cfe3d6de878e4b66008", func := "loop.example/g00089/laws.FnExactAddShare", spec := "fnExactAddShare", apart := false }
def FnExactAddShareSaid : Prop := fnExactAddShareRow.holds Try.pinned (OpenSpec.ofChange fnExactAddShareSpec)

/-- ITS FALSE NEIGHBOUR: 'it returns false'. Refute it at one input. -/
def fnExactAddShareWrong : ChangeSpec := { name := "fnExactAddShare", fn := fun _ => fun
  | [d1, d2, d3] => { results := [.lit (.bool false)], args := [d1, d2, d3] }
  | _ => none }
def FnExactAddShareWrongFalsely : Prop := fnExactAddShareRow.holds Try.pinned (OpenSpec.ofChange fnExactAddShareWrong)

/-- 'laws.FnExactCauchyG': WHATEVER THE INPUT: true; the input reads as it did. -/
def fnExactCauchyGSpec : ChangeSpec := { name := "fnExactCauchyG", fn := fun _ => fun
  | [d1, d2] => { results := [.lit (.bool true)], args := [d1, d2] }
  | _ => none }
def fnExactCauchyGRow : OpenClaim := { program := "ytjoffgndejoecaa", sum := "475ff40f5369d257af9d8ee705996e68c919be99a6123cfe3d6de878e4b66008", func := "loop.example/g00089/laws.FnExactCauchyG", spec := "fnExactCauchyG", apart := false }
def FnExactCauchyGSaid : Prop := fnExactCauchyGRow.holds Try.pinned (OpenSpec.ofChange fnExactCauchyGSpec)

/-- ITS FALSE NEIGHBOUR: 'it returns false'. Refute it at one input. -/
def fnExactCauchyGWrong : ChangeSpec := { name := "fnExactCauchyG", fn := fun _ => fun
  | [d1, d2] => { results := [.lit (.bool false)], args := [d1, d2] }
  | _ => none }
def FnExactCauchyGWrongFalsely : Prop := fnExactCauchyGRow.holds Try.pinned (OpenSpec.ofChange fnExactCauchyGWrong)

/-- 'laws.FnExactSameRec': WHATEVER THE INPUT: true; the input reads as it did. -/
def fnExactSameRecSpec : ChangeSpec := { name := "fnExactSameRec", fn := fun _ => fun
  | [d1, d2] => { results := [.lit (.bool true)], args := [d1, d2] }
  | _ => none }
def fnExactSameRecRow : OpenClaim := { program := "ytjoffgndejoecaa", sum := "475ff40f5369d257af9d8ee705996e68c919be99a6123cfe3d6de878e4b66008", func := "loop.example/g00089/laws.FnExactSameRec", spec := "fnExactSameRec", apart := false }
def FnExactSameRecSaid : Prop := fnExactSameRecRow.holds Try.pinned (OpenSpec.ofChange fnExactSameRecSpec)

/-- ITS FALSE NEIGHBOUR: 'it returns false'. Refute it at one input. -/
def fnExactSameRecWrong : ChangeSpec := { name := "fnExactSameRec", fn := fun _ => fun
  | [d1, d2] => { results := [.lit (.bool false)], args := [d1, d2] }
  | _ => none }
def FnExactSameRecWrongFalsely : Prop := fnExactSameRecRow.holds Try.pinned (OpenSpec.ofChange fnExactSameRecWrong)

/-- 'laws.FnExactMixBytes': WHATEVER THE INPUT: true; the input reads as it did. -/
def fnExactMixBytesSpec : ChangeSpec := { name := "fnExactMixBytes", fn := fun _ => fun
  | [d1, d2] => { results := [.lit (.bool true)], args := [d1, d2] }
  | _ => none }
def fnExactMixBytesRow : OpenClaim := { program := "ytjoffgndejoecaa", sum := "475ff40f5369d257af9d8ee705996e68c919be99a6123cfe3d6de878e4b66008", func := "loop.example/g00089/laws.FnExactMixBytes", spec := "fnExactMixBytes", unfollowed := true, recurses := true, apart := false }
def FnExactMixBytesSaid : Prop := fnExactMixBytesRow.holds Try.pinned (OpenSpec.ofChange fnExactMixBytesSpec)

/-- ITS FALSE NEIGHBOUR: 'it returns false'. Refute it at one input. -/
def fnExactMixBytesWrong : ChangeSpec := { name := "fnExactMixBytes", fn := fun _ => fun
  | [d1, d2] => { results := [.lit (.bool false)], args := [d1, d2] }
  | _ => none }
def FnExactMixBytesWrongFalsely : Prop := fnExactMixBytesRow.holds Try.pinned (OpenSpec.ofChange fnExactMixBytesWrong)

/-- 'laws.FnExactSplitObject': WHATEVER THE INPUT: true; the input reads as it did. -/
def fnExactSplitObjectSpec : ChangeSpec := { name := "fnExactSplitObject", fn := fun _ => fun
  | [d1, d2] => { results := [.lit (.bool true)], args := [d1, d2] }
  | _ => none }
def fnExactSplitObjectRow : OpenClaim := { program := "ytjoffgndejoecaa", sum := "475ff40f5369d257af9d8ee705996e68c919be99a6123cfe3d6de878e4b66008", func := "loop.example/g00089/laws.FnExactSplitObject", spec := "fnExactSplitObject", unfollowed := true, recurses := true, apart := false }
def FnExactSplitObjectSaid : Prop := fnExactSplitObjectRow.holds Try.pinned (OpenSpec.ofChange fnExactSplitObjectSpec)

/-- ITS FALSE NEIGHBOUR: 'it returns false'. Refute it at one input. -/
def fnExactSplitObjectWrong : ChangeSpec := { name := "fnExactSplitObject", fn := fun _ => fun
  | [d1, d2] => { results := [.lit (.bool false)], args := [d1, d2] }
  | _ => none }
def FnExactSplitObjectWrongFalsely : Prop := fnExactSplitObjectRow.holds Try.pinned (OpenSpec.ofChange fnExactSplitObjectWrong)

/- THE SECOND FORM. 'bulk': how many values and letters a reading holds, each counted each time it is reached (what is shared counts as often as it is met; a slice's spare places count too). A statement '..UptoSaid' is the law's where the arguments, and the package variables that the reading takes, are together of bulk at most 1048576: NARROWER than '..Said'. Prove '..Said' where nothing that the law and all that it calls make is longer than what came in: it says more and counts as full. Else prove '..UptoSaid'. A law counts once. -/
mutual
def uptoBulk {H : Type} : DataW H → Nat
  | .lit (.string bytes) => bytes.length + 1
  | .lit _ => 1
  | .nil => 1
  | .ptr d => uptoBulk d + 1
  | .slice elems spare => uptoBulkAll elems + uptoBulkAll spare + 1
  | .agg parts => uptoBulkAll parts + 1
  | .iface _ d => uptoBulk d + 1
  | .map entries => uptoBulkEntries entries + 1
  | .held _ => 1
def uptoBulkAll {H : Type} : List (DataW H) → Nat
  | [] => 0
  | d :: r => uptoBulk d + uptoBulkAll r
def uptoBulkEntries {H : Type} : List (Lit × DataW H) → Nat
  | [] => 0
  | x :: r => uptoBulkEntry x + uptoBulkEntries r
def uptoBulkEntry {H : Type} : Lit × DataW H → Nat
  | (.string bytes, d) => bytes.length + uptoBulk d + 1
  | (_, d) => uptoBulk d + 1
 end
def uptoSmall : (H : Type) → List (DataW H) → Bool := fun _ ds => decide (uptoBulkAll ds ≤ 1048576)
def OpenSpec.upto (s : _root_.Go.ChangeSpec) : _root_.Go.OpenSpec := { _root_.Go.OpenSpec.ofChange s with cond := some uptoSmall }

/-- 'laws.FnField', WHERE WHAT IT READS IS OF BULK AT MOST 1048576: true; the input reads as it did. -/
def fnFieldUptoRow : OpenClaim := { program := "ytjoffgndejoecaa", sum := "475ff40f5369d257af9d8ee705996e68c919be99a6123cfe3d6de878e4b66008", func := "loop.example/g00089/laws.FnField", spec := "fnField", apart := false, narrowed := true }
def FnFieldUptoSaid : Prop := fnFieldUptoRow.holds Try.pinned (OpenSpec.upto fnFieldSpec)

/-- 'laws.FnExactDivG', WHERE WHAT IT READS IS OF BULK AT MOST 1048576: true; the input reads as it did. -/
def fnExactDivGUptoRow : OpenClaim := { program := "ytjoffgndejoecaa", sum := "475ff40f5369d257af9d8ee705996e68c919be99a6123cfe3d6de878e4b66008", func := "loop.example/g00089/laws.FnExactDivG", spec := "fnExactDivG", apart := false, narrowed := true }
def FnExactDivGUptoSaid : Prop := fnExactDivGUptoRow.holds Try.pinned (OpenSpec.upto fnExactDivGSpec)

/-- 'laws.FnExactPartsFor', WHERE WHAT IT READS IS OF BULK AT MOST 1048576: true; the input reads as it did. -/
def fnExactPartsForUptoRow : OpenClaim := { program := "ytjoffgndejoecaa", sum := "475ff40f5369d257af9d8ee705996e68c919be99a6123cfe3d6de878e4b66008", func := "loop.example/g00089/laws.FnExactPartsFor", spec := "fnExactPartsFor", apart := false, narrowed := true }
def FnExactPartsForUptoSaid : Prop := fnExactPartsForUptoRow.holds Try.pinned (OpenSpec.upto fnExactPartsForSpec)

/-- 'laws.FnExactFactorOf', WHERE WHAT IT READS IS OF BULK AT MOST 1048576: true; the input reads as it did. -/
def fnExactFactorOfUptoRow : OpenClaim := { program := "ytjoffgndejoecaa", sum := "475ff40f5369d257af9d8ee705996e68c919be99a6123cfe3d6de878e4b66008", func := "loop.example/g00089/laws.FnExactFactorOf", spec := "fnExactFactorOf", apart := false, narrowed := true }
def FnExactFactorOfUptoSaid : Prop := fnExactFactorOfUptoRow.holds Try.pinned (OpenSpec.upto fnExactFactorOfSpec)

/-- 'laws.FnExactHomeOf', WHERE WHAT IT READS IS OF BULK AT MOST 1048576: true; the input reads as it did. -/
def fnExactHomeOfUptoRow : OpenClaim := { program := "ytjoffgndejoecaa", sum := "475ff40f5369d257af9d8ee705996e68c919be99a6123cfe3d6de878e4b66008", func := "loop.example/g00089/laws.FnExactHomeOf", spec := "fnExactHomeOf", apart := false, narrowed := true }
def FnExactHomeOfUptoSaid : Prop := fnExactHomeOfUptoRow.holds Try.pinned (OpenSpec.upto fnExactHomeOfSpec)

/-- 'laws.FnExactScaleBytes', WHERE WHAT IT READS IS OF BULK AT MOST 1048576: true; the input reads as it did. -/
def fnExactScaleBytesUptoRow : OpenClaim := { program := "ytjoffgndejoecaa", sum := "475ff40f5369d257af9d8ee705996e68c919be99a6123cfe3d6de878e4b66008", func := "loop.example/g00089/laws.FnExactScaleBytes", spec := "fnExactScaleBytes", apart := false, narrowed := true }
def FnExactScaleBytesUptoSaid : Prop := fnExactScaleBytesUptoRow.holds Try.pinned (OpenSpec.upto fnExactScaleBytesSpec)

/-- 'laws.FnExactAddBytes', WHERE WHAT IT READS IS OF BULK AT MOST 1048576: true; the input reads as it did. -/
def fnExactAddBytesUptoRow : OpenClaim := { program := "ytjoffgndejoecaa", sum := "475ff40f5369d257af9d8ee705996e68c919be99a6123cfe3d6de878e4b66008", func := "loop.example/g00089/laws.FnExactAddBytes", spec := "fnExactAddBytes", apart := false, narrowed := true }
def FnExactAddBytesUptoSaid : Prop := fnExactAddBytesUptoRow.holds Try.pinned (OpenSpec.upto fnExactAddBytesSpec)

/-- 'laws.FnExactAddShare', WHERE WHAT IT READS IS OF BULK AT MOST 1048576: true; the input reads as it did. -/
def fnExactAddShareUptoRow : OpenClaim := { program := "ytjoffgndejoecaa", sum := "475ff40f5369d257af9d8ee705996e68c919be99a6123cfe3d6de878e4b66008", func := "loop.example/g00089/laws.FnExactAddShare", spec := "fnExactAddShare", apart := false, narrowed := true }
def FnExactAddShareUptoSaid : Prop := fnExactAddShareUptoRow.holds Try.pinned (OpenSpec.upto fnExactAddShareSpec)

/-- 'laws.FnExactCauchyG', WHERE WHAT IT READS IS OF BULK AT MOST 1048576: true; the input reads as it did. -/
def fnExactCauchyGUptoRow : OpenClaim := { program := "ytjoffgndejoecaa", sum := "475ff40f5369d257af9d8ee705996e68c919be99a6123cfe3d6de878e4b66008", func := "loop.example/g00089/laws.FnExactCauchyG", spec := "fnExactCauchyG", apart := false, narrowed := true }
def FnExactCauchyGUptoSaid : Prop := fnExactCauchyGUptoRow.holds Try.pinned (OpenSpec.upto fnExactCauchyGSpec)

/-- 'laws.FnExactSameRec', WHERE WHAT IT READS IS OF BULK AT MOST 1048576: true; the input reads as it did. -/
def fnExactSameRecUptoRow : OpenClaim := { program := "ytjoffgndejoecaa", sum := "475ff40f5369d257af9d8ee705996e68c919be99a6123cfe3d6de878e4b66008", func := "loop.example/g00089/laws.FnExactSameRec", spec := "fnExactSameRec", apart := false, narrowed := true }
def FnExactSameRecUptoSaid : Prop := fnExactSameRecUptoRow.holds Try.pinned (OpenSpec.upto fnExactSameRecSpec)

/-- 'laws.FnExactMixBytes', WHERE WHAT IT READS IS OF BULK AT MOST 1048576: true; the input reads as it did. -/
def fnExactMixBytesUptoRow : OpenClaim := { program := "ytjoffgndejoecaa", sum := "475ff40f5369d257af9d8ee705996e68c919be99a6123cfe3d6de878e4b66008", func := "loop.example/g00089/laws.FnExactMixBytes", spec := "fnExactMixBytes", unfollowed := true, recurses := true, apart := false, narrowed := true }
def FnExactMixBytesUptoSaid : Prop := fnExactMixBytesUptoRow.holds Try.pinned (OpenSpec.upto fnExactMixBytesSpec)

/-- 'laws.FnExactSplitObject', WHERE WHAT IT READS IS OF BULK AT MOST 1048576: true; the input reads as it did. -/
def fnExactSplitObjectUptoRow : OpenClaim := { program := "ytjoffgndejoecaa", sum := "475ff40f5369d257af9d8ee705996e68c919be99a6123cfe3d6de878e4b66008", func := "loop.example/g00089/laws.FnExactSplitObject", spec := "fnExactSplitObject", unfollowed := true, recurses := true, apart := false, narrowed := true }
def FnExactSplitObjectUptoSaid : Prop := fnExactSplitObjectUptoRow.holds Try.pinned (OpenSpec.upto fnExactSplitObjectSpec)

end Rows
end Go.Proofs.Ytjoffgndejoecaa
