/-
  No cell of these rows narrows 'for every input' (looked for: loops, veiled, ifaces, maps, wideKeys, modest, calm, conditions, laid).
  DERIVED. THE GIVEN ROWS OF THIS SEAT. 12 by the template 'for every input the law returns true; each argument reads behind the call as it read before'; 0 by the template 'total and deterministic' (their statements: YtfdklbimdkaaiaaTotals.lean).
  GIVEN WITH THE SEED: the statements are not yours to turn. If you find one false, say at which input.
  Laid BY PROGRAM, IN A SANDBOX (cutbox-rows.mjs): the forced cells as the released guide's own fill.sh prints them over the translation 0a4e4c82e67ce10d… (all of the seat's roots in one cut). By AI agents, Wed Nov 11 2026. No macro, syntax, notation, axiom, sorry.
-/
import Derived.Test.YtfdklbimdkaaiaaChecked
import GoSem.Claim
import GoSem.ClaimJoined
import GoSem.ClaimMapViews
import Derived.JoinedTies
import Derived.KernelRfl
namespace Go.Proofs.Ytfdklbimdkaaiaa
/- THE CELL 'sum', in the pinned program and in every row, IS THE sha256 OF THE DUMP (.gsa) THAT YtfdklbimdkaaiaaProg.lean LOADS. Nothing in Lean hashes anything: it is a label: what it is worth is what the hold of that sum in a sandbox is worth. -/
noncomputable def Try.pinned : Pinned := { name := "ytfdklbimdkaaiaa", sum := "0a4e4c82e67ce10d1a022f20f49addf946909e1e5b836bbdc37848e4543bc55f", checked := Try.checked }
namespace Rows
def none {H : Type} : Left H := { results := [], args := [] }

/-- 'laws.FnExactDeriveSeries': WHATEVER THE INPUT: true; the input reads as it did. -/
def fnExactDeriveSeriesSpec : ChangeSpec := { name := "fnExactDeriveSeries", fn := fun _ => fun
  | [d] => { results := [.lit (.bool true)], args := [d] }
  | _ => none }
def fnExactDeriveSeriesRow : OpenClaim := { program := "ytfdklbimdkaaiaa", sum := "0a4e4c82e67ce10d1a022f20f49addf946909e1e5b836bbdc37848e4543bc55f", func := "loop.example/g01152/laws.FnExactDeriveSeries", spec := "fnExactDeriveSeries", unfollowed := true, recurses := true, apart := false }
def FnExactDeriveSeriesSaid : Prop := fnExactDeriveSeriesRow.holds Try.pinned (OpenSpec.ofChange fnExactDeriveSeriesSpec)

/-- ITS FALSE NEIGHBOUR: 'it returns false'. Refute it at one input. -/
def fnExactDeriveSeriesWrong : ChangeSpec := { name := "fnExactDeriveSeries", fn := fun _ => fun
  | [d] => { results := [.lit (.bool false)], args := [d] }
  | _ => none }
def FnExactDeriveSeriesWrongFalsely : Prop := fnExactDeriveSeriesRow.holds Try.pinned (OpenSpec.ofChange fnExactDeriveSeriesWrong)

/-- 'laws.FnExactHomothetyOf': WHATEVER THE INPUT: true; the input reads as it did. -/
def fnExactHomothetyOfSpec : ChangeSpec := { name := "fnExactHomothetyOf", fn := fun _ => fun
  | [d1, d2] => { results := [.lit (.bool true)], args := [d1, d2] }
  | _ => none }
def fnExactHomothetyOfRow : OpenClaim := { program := "ytfdklbimdkaaiaa", sum := "0a4e4c82e67ce10d1a022f20f49addf946909e1e5b836bbdc37848e4543bc55f", func := "loop.example/g01152/laws.FnExactHomothetyOf", spec := "fnExactHomothetyOf", unfollowed := true, recurses := true, apart := false }
def FnExactHomothetyOfSaid : Prop := fnExactHomothetyOfRow.holds Try.pinned (OpenSpec.ofChange fnExactHomothetyOfSpec)

/-- ITS FALSE NEIGHBOUR: 'it returns false'. Refute it at one input. -/
def fnExactHomothetyOfWrong : ChangeSpec := { name := "fnExactHomothetyOf", fn := fun _ => fun
  | [d1, d2] => { results := [.lit (.bool false)], args := [d1, d2] }
  | _ => none }
def FnExactHomothetyOfWrongFalsely : Prop := fnExactHomothetyOfRow.holds Try.pinned (OpenSpec.ofChange fnExactHomothetyOfWrong)

/-- 'laws.FnExactVerschiebungOf': WHATEVER THE INPUT: true; the input reads as it did. -/
def fnExactVerschiebungOfSpec : ChangeSpec := { name := "fnExactVerschiebungOf", fn := fun _ => fun
  | [d1, d2] => { results := [.lit (.bool true)], args := [d1, d2] }
  | _ => none }
def fnExactVerschiebungOfRow : OpenClaim := { program := "ytfdklbimdkaaiaa", sum := "0a4e4c82e67ce10d1a022f20f49addf946909e1e5b836bbdc37848e4543bc55f", func := "loop.example/g01152/laws.FnExactVerschiebungOf", spec := "fnExactVerschiebungOf", unfollowed := true, recurses := true, apart := false }
def FnExactVerschiebungOfSaid : Prop := fnExactVerschiebungOfRow.holds Try.pinned (OpenSpec.ofChange fnExactVerschiebungOfSpec)

/-- ITS FALSE NEIGHBOUR: 'it returns false'. Refute it at one input. -/
def fnExactVerschiebungOfWrong : ChangeSpec := { name := "fnExactVerschiebungOf", fn := fun _ => fun
  | [d1, d2] => { results := [.lit (.bool false)], args := [d1, d2] }
  | _ => none }
def FnExactVerschiebungOfWrongFalsely : Prop := fnExactVerschiebungOfRow.holds Try.pinned (OpenSpec.ofChange fnExactVerschiebungOfWrong)

/-- 'laws.FnExactIntegrateSeries': WHATEVER THE INPUT: true; the input reads as it did. -/
def fnExactIntegrateSeriesSpec : ChangeSpec := { name := "fnExactIntegrateSeries", fn := fun _ => fun
  | [d] => { results := [.lit (.bool true)], args := [d] }
  | _ => none }
def fnExactIntegrateSeriesRow : OpenClaim := { program := "ytfdklbimdkaaiaa", sum := "0a4e4c82e67ce10d1a022f20f49addf946909e1e5b836bbdc37848e4543bc55f", func := "loop.example/g01152/laws.FnExactIntegrateSeries", spec := "fnExactIntegrateSeries", unfollowed := true, recurses := true, apart := false }
def FnExactIntegrateSeriesSaid : Prop := fnExactIntegrateSeriesRow.holds Try.pinned (OpenSpec.ofChange fnExactIntegrateSeriesSpec)

/-- ITS FALSE NEIGHBOUR: 'it returns false'. Refute it at one input. -/
def fnExactIntegrateSeriesWrong : ChangeSpec := { name := "fnExactIntegrateSeries", fn := fun _ => fun
  | [d] => { results := [.lit (.bool false)], args := [d] }
  | _ => none }
def FnExactIntegrateSeriesWrongFalsely : Prop := fnExactIntegrateSeriesRow.holds Try.pinned (OpenSpec.ofChange fnExactIntegrateSeriesWrong)

/-- 'laws.FnExactScaleSeries': WHATEVER THE INPUT: true; the input reads as it did. -/
def fnExactScaleSeriesSpec : ChangeSpec := { name := "fnExactScaleSeries", fn := fun _ => fun
  | [d1, d2] => { results := [.lit (.bool true)], args := [d1, d2] }
  | _ => none }
def fnExactScaleSeriesRow : OpenClaim := { program := "ytfdklbimdkaaiaa", sum := "0a4e4c82e67ce10d1a022f20f49addf946909e1e5b836bbdc37848e4543bc55f", func := "loop.example/g01152/laws.FnExactScaleSeries", spec := "fnExactScaleSeries", unfollowed := true, recurses := true, named := ["math/bits.divideError", "math/bits.overflowError"], apart := false }
def FnExactScaleSeriesSaid : Prop := fnExactScaleSeriesRow.holds Try.pinned (OpenSpec.ofChange fnExactScaleSeriesSpec)

/-- ITS FALSE NEIGHBOUR: 'it returns false'. Refute it at one input. -/
def fnExactScaleSeriesWrong : ChangeSpec := { name := "fnExactScaleSeries", fn := fun _ => fun
  | [d1, d2] => { results := [.lit (.bool false)], args := [d1, d2] }
  | _ => none }
def FnExactScaleSeriesWrongFalsely : Prop := fnExactScaleSeriesRow.holds Try.pinned (OpenSpec.ofChange fnExactScaleSeriesWrong)

/-- 'laws.FnExactTypicalNumerators': WHATEVER THE INPUT: true; the input reads as it did. -/
def fnExactTypicalNumeratorsSpec : ChangeSpec := { name := "fnExactTypicalNumerators", fn := fun _ => fun
  | [d1, d2, d3] => { results := [.lit (.bool true)], args := [d1, d2, d3] }
  | _ => none }
def fnExactTypicalNumeratorsRow : OpenClaim := { program := "ytfdklbimdkaaiaa", sum := "0a4e4c82e67ce10d1a022f20f49addf946909e1e5b836bbdc37848e4543bc55f", func := "loop.example/g01152/laws.FnExactTypicalNumerators", spec := "fnExactTypicalNumerators", unfollowed := true, recurses := true, named := ["math/bits.divideError", "math/bits.overflowError"], apart := false }
def FnExactTypicalNumeratorsSaid : Prop := fnExactTypicalNumeratorsRow.holds Try.pinned (OpenSpec.ofChange fnExactTypicalNumeratorsSpec)

/-- ITS FALSE NEIGHBOUR: 'it returns false'. Refute it at one input. -/
def fnExactTypicalNumeratorsWrong : ChangeSpec := { name := "fnExactTypicalNumerators", fn := fun _ => fun
  | [d1, d2, d3] => { results := [.lit (.bool false)], args := [d1, d2, d3] }
  | _ => none }
def FnExactTypicalNumeratorsWrongFalsely : Prop := fnExactTypicalNumeratorsRow.holds Try.pinned (OpenSpec.ofChange fnExactTypicalNumeratorsWrong)

/-- 'laws.FnExactPowerOfSeries': WHATEVER THE INPUT: true; the input reads as it did. -/
def fnExactPowerOfSeriesSpec : ChangeSpec := { name := "fnExactPowerOfSeries", fn := fun _ => fun
  | [d1, d2] => { results := [.lit (.bool true)], args := [d1, d2] }
  | _ => none }
def fnExactPowerOfSeriesRow : OpenClaim := { program := "ytfdklbimdkaaiaa", sum := "0a4e4c82e67ce10d1a022f20f49addf946909e1e5b836bbdc37848e4543bc55f", func := "loop.example/g01152/laws.FnExactPowerOfSeries", spec := "fnExactPowerOfSeries", unfollowed := true, recurses := true, named := ["math/bits.divideError", "math/bits.overflowError"], apart := false }
def FnExactPowerOfSeriesSaid : Prop := fnExactPowerOfSeriesRow.holds Try.pinned (OpenSpec.ofChange fnExactPowerOfSeriesSpec)

/-- ITS FALSE NEIGHBOUR: 'it returns false'. Refute it at one input. -/
def fnExactPowerOfSeriesWrong : ChangeSpec := { name := "fnExactPowerOfSeries", fn := fun _ => fun
  | [d1, d2] => { results := [.lit (.bool false)], args := [d1, d2] }
  | _ => none }
def FnExactPowerOfSeriesWrongFalsely : Prop := fnExactPowerOfSeriesRow.holds Try.pinned (OpenSpec.ofChange fnExactPowerOfSeriesWrong)

/-- 'laws.FnExactWeierstrassSeries': WHATEVER THE INPUT: true; the input reads as it did. -/
def fnExactWeierstrassSeriesSpec : ChangeSpec := { name := "fnExactWeierstrassSeries", fn := fun _ => fun
  | [d1, d2, d3] => { results := [.lit (.bool true)], args := [d1, d2, d3] }
  | _ => none }
def fnExactWeierstrassSeriesRow : OpenClaim := { program := "ytfdklbimdkaaiaa", sum := "0a4e4c82e67ce10d1a022f20f49addf946909e1e5b836bbdc37848e4543bc55f", func := "loop.example/g01152/laws.FnExactWeierstrassSeries", spec := "fnExactWeierstrassSeries", unfollowed := true, recurses := true, named := ["math/bits.divideError", "math/bits.overflowError"], apart := false }
def FnExactWeierstrassSeriesSaid : Prop := fnExactWeierstrassSeriesRow.holds Try.pinned (OpenSpec.ofChange fnExactWeierstrassSeriesSpec)

/-- ITS FALSE NEIGHBOUR: 'it returns false'. Refute it at one input. -/
def fnExactWeierstrassSeriesWrong : ChangeSpec := { name := "fnExactWeierstrassSeries", fn := fun _ => fun
  | [d1, d2, d3] => { results := [.lit (.bool false)], args := [d1, d2, d3] }
  | _ => none }
def FnExactWeierstrassSeriesWrongFalsely : Prop := fnExactWeierstrassSeriesRow.holds Try.pinned (OpenSpec.ofChange fnExactWeierstrassSeriesWrong)

/-- 'laws.FnExactInverseOfSeries': WHATEVER THE INPUT: true; the input reads as it did. -/
def fnExactInverseOfSeriesSpec : ChangeSpec := { name := "fnExactInverseOfSeries", fn := fun _ => fun
  | [d] => { results := [.lit (.bool true)], args := [d] }
  | _ => none }
def fnExactInverseOfSeriesRow : OpenClaim := { program := "ytfdklbimdkaaiaa", sum := "0a4e4c82e67ce10d1a022f20f49addf946909e1e5b836bbdc37848e4543bc55f", func := "loop.example/g01152/laws.FnExactInverseOfSeries", spec := "fnExactInverseOfSeries", unfollowed := true, recurses := true, named := ["math/bits.divideError", "math/bits.overflowError"], apart := false }
def FnExactInverseOfSeriesSaid : Prop := fnExactInverseOfSeriesRow.holds Try.pinned (OpenSpec.ofChange fnExactInverseOfSeriesSpec)

/-- ITS FALSE NEIGHBOUR: 'it returns false'. Refute it at one input. -/
def fnExactInverseOfSeriesWrong : ChangeSpec := { name := "fnExactInverseOfSeries", fn := fun _ => fun
  | [d] => { results := [.lit (.bool false)], args := [d] }
  | _ => none }
def FnExactInverseOfSeriesWrongFalsely : Prop := fnExactInverseOfSeriesRow.holds Try.pinned (OpenSpec.ofChange fnExactInverseOfSeriesWrong)

/-- 'laws.FnExactTypicalFactor': WHATEVER THE INPUT: true; the input reads as it did. -/
def fnExactTypicalFactorSpec : ChangeSpec := { name := "fnExactTypicalFactor", fn := fun _ => fun
  | [d1, d2, d3, d4, d5] => { results := [.lit (.bool true)], args := [d1, d2, d3, d4, d5] }
  | _ => none }
def fnExactTypicalFactorRow : OpenClaim := { program := "ytfdklbimdkaaiaa", sum := "0a4e4c82e67ce10d1a022f20f49addf946909e1e5b836bbdc37848e4543bc55f", func := "loop.example/g01152/laws.FnExactTypicalFactor", spec := "fnExactTypicalFactor", unfollowed := true, recurses := true, apart := false }
def FnExactTypicalFactorSaid : Prop := fnExactTypicalFactorRow.holds Try.pinned (OpenSpec.ofChange fnExactTypicalFactorSpec)

/-- ITS FALSE NEIGHBOUR: 'it returns false'. Refute it at one input. -/
def fnExactTypicalFactorWrong : ChangeSpec := { name := "fnExactTypicalFactor", fn := fun _ => fun
  | [d1, d2, d3, d4, d5] => { results := [.lit (.bool false)], args := [d1, d2, d3, d4, d5] }
  | _ => none }
def FnExactTypicalFactorWrongFalsely : Prop := fnExactTypicalFactorRow.holds Try.pinned (OpenSpec.ofChange fnExactTypicalFactorWrong)

/-- 'laws.FnExactReverseSeries': WHATEVER THE INPUT: true; the input reads as it did. -/
def fnExactReverseSeriesSpec : ChangeSpec := { name := "fnExactReverseSeries", fn := fun _ => fun
  | [d] => { results := [.lit (.bool true)], args := [d] }
  | _ => none }
def fnExactReverseSeriesRow : OpenClaim := { program := "ytfdklbimdkaaiaa", sum := "0a4e4c82e67ce10d1a022f20f49addf946909e1e5b836bbdc37848e4543bc55f", func := "loop.example/g01152/laws.FnExactReverseSeries", spec := "fnExactReverseSeries", unfollowed := true, recurses := true, named := ["math/bits.divideError", "math/bits.overflowError"], apart := false }
def FnExactReverseSeriesSaid : Prop := fnExactReverseSeriesRow.holds Try.pinned (OpenSpec.ofChange fnExactReverseSeriesSpec)

/-- ITS FALSE NEIGHBOUR: 'it returns false'. Refute it at one input. -/
def fnExactReverseSeriesWrong : ChangeSpec := { name := "fnExactReverseSeries", fn := fun _ => fun
  | [d] => { results := [.lit (.bool false)], args := [d] }
  | _ => none }
def FnExactReverseSeriesWrongFalsely : Prop := fnExactReverseSeriesRow.holds Try.pinned (OpenSpec.ofChange fnExactReverseSeriesWrong)

/-- 'laws.FnExactTypicalLogarithm': WHATEVER THE INPUT: true; the input reads as it did. -/
def fnExactTypicalLogarithmSpec : ChangeSpec := { name := "fnExactTypicalLogarithm", fn := fun _ => fun
  | [d1, d2, d3, d4] => { results := [.lit (.bool true)], args := [d1, d2, d3, d4] }
  | _ => none }
def fnExactTypicalLogarithmRow : OpenClaim := { program := "ytfdklbimdkaaiaa", sum := "0a4e4c82e67ce10d1a022f20f49addf946909e1e5b836bbdc37848e4543bc55f", func := "loop.example/g01152/laws.FnExactTypicalLogarithm", spec := "fnExactTypicalLogarithm", unfollowed := true, recurses := true, named := ["math/bits.divideError", "math/bits.overflowError"], apart := false }
def FnExactTypicalLogarithmSaid : Prop := fnExactTypicalLogarithmRow.holds Try.pinned (OpenSpec.ofChange fnExactTypicalLogarithmSpec)

/-- ITS FALSE NEIGHBOUR: 'it returns false'. Refute it at one input. -/
def fnExactTypicalLogarithmWrong : ChangeSpec := { name := "fnExactTypicalLogarithm", fn := fun _ => fun
  | [d1, d2, d3, d4] => { results := [.lit (.bool false)], args := [d1, d2, d3, d4] }
  | _ => none }
def FnExactTypicalLogarithmWrongFalsely : Prop := fnExactTypicalLogarithmRow.holds Try.pinned (OpenSpec.ofChange fnExactTypicalLogarithmWrong)

/- THE SECOND FORM. 'bulk': how many values and letters a reading holds, each counted each time it is reached (what is shared counts as often as it is met; a slice's spare places count too). A statement '..UptoSaid' is the law's where the arguments, and the package variables that the reading takes, are together of bulk at most 1048576: NARROWER than '..Said'. Prove '..Said' where nothing that the law and all that it calls make is longer than what came in: it says more and counts as full. Else prove '..UptoSaid'. A law counts once. -/
mutual
def uptoBulk {H : Type} : DataW H → Nat
  | .lit (.string bytes) => bytes.length + 1
  | .lit _ => 1
  | .nil => 1
  | .ptr d => uptoBulk d + 1
  | .slice elems spare => uptoBulkAll elems + uptoBulkAll spare + 1
  | .agg parts => uptoBulkAll parts + 1
  | .iface _ d => uptoBulk d + 1
  | .map entries => uptoBulkEntries entries + 1
  | .held _ => 1
def uptoBulkAll {H : Type} : List (DataW H) → Nat
  | [] => 0
  | d :: r => uptoBulk d + uptoBulkAll r
def uptoBulkEntries {H : Type} : List (Lit × DataW H) → Nat
  | [] => 0
  | x :: r => uptoBulkEntry x + uptoBulkEntries r
def uptoBulkEntry {H : Type} : Lit × DataW H → Nat
  | (.string bytes, d) => bytes.length + uptoBulk d + 1
  | (_, d) => uptoBulk d + 1
 end
def uptoSmall : (H : Type) → List (DataW H) → Bool := fun _ ds => decide (uptoBulkAll ds ≤ 1048576)
def OpenSpec.upto (s : _root_.Go.ChangeSpec) : _root_.Go.OpenSpec := { _root_.Go.OpenSpec.ofChange s with cond := some uptoSmall }

/-- 'laws.FnExactDeriveSeries', WHERE WHAT IT READS IS OF BULK AT MOST 1048576: true; the input reads as it did. -/
def fnExactDeriveSeriesUptoRow : OpenClaim := { program := "ytfdklbimdkaaiaa", sum := "0a4e4c82e67ce10d1a022f20f49addf946909e1e5b836bbdc37848e4543bc55f", func := "loop.example/g01152/laws.FnExactDeriveSeries", spec := "fnExactDeriveSeries", unfollowed := true, recurses := true, apart := false, narrowed := true }
def FnExactDeriveSeriesUptoSaid : Prop := fnExactDeriveSeriesUptoRow.holds Try.pinned (OpenSpec.upto fnExactDeriveSeriesSpec)

/-- 'laws.FnExactHomothetyOf', WHERE WHAT IT READS IS OF BULK AT MOST 1048576: true; the input reads as it did. -/
def fnExactHomothetyOfUptoRow : OpenClaim := { program := "ytfdklbimdkaaiaa", sum := "0a4e4c82e67ce10d1a022f20f49addf946909e1e5b836bbdc37848e4543bc55f", func := "loop.example/g01152/laws.FnExactHomothetyOf", spec := "fnExactHomothetyOf", unfollowed := true, recurses := true, apart := false, narrowed := true }
def FnExactHomothetyOfUptoSaid : Prop := fnExactHomothetyOfUptoRow.holds Try.pinned (OpenSpec.upto fnExactHomothetyOfSpec)

/-- 'laws.FnExactVerschiebungOf', WHERE WHAT IT READS IS OF BULK AT MOST 1048576: true; the input reads as it did. -/
def fnExactVerschiebungOfUptoRow : OpenClaim := { program := "ytfdklbimdkaaiaa", sum := "0a4e4c82e67ce10d1a022f20f49addf946909e1e5b836bbdc37848e4543bc55f", func := "loop.example/g01152/laws.FnExactVerschiebungOf", spec := "fnExactVerschiebungOf", unfollowed := true, recurses := true, apart := false, narrowed := true }
def FnExactVerschiebungOfUptoSaid : Prop := fnExactVerschiebungOfUptoRow.holds Try.pinned (OpenSpec.upto fnExactVerschiebungOfSpec)

/-- 'laws.FnExactIntegrateSeries', WHERE WHAT IT READS IS OF BULK AT MOST 1048576: true; the input reads as it did. -/
def fnExactIntegrateSeriesUptoRow : OpenClaim := { program := "ytfdklbimdkaaiaa", sum := "0a4e4c82e67ce10d1a022f20f49addf946909e1e5b836bbdc37848e4543bc55f", func := "loop.example/g01152/laws.FnExactIntegrateSeries", spec := "fnExactIntegrateSeries", unfollowed := true, recurses := true, apart := false, narrowed := true }
def FnExactIntegrateSeriesUptoSaid : Prop := fnExactIntegrateSeriesUptoRow.holds Try.pinned (OpenSpec.upto fnExactIntegrateSeriesSpec)

/-- 'laws.FnExactScaleSeries', WHERE WHAT IT READS IS OF BULK AT MOST 1048576: true; the input reads as it did. -/
def fnExactScaleSeriesUptoRow : OpenClaim := { program := "ytfdklbimdkaaiaa", sum := "0a4e4c82e67ce10d1a022f20f49addf946909e1e5b836bbdc37848e4543bc55f", func := "loop.example/g01152/laws.FnExactScaleSeries", spec := "fnExactScaleSeries", unfollowed := true, recurses := true, named := ["math/bits.divideError", "math/bits.overflowError"], apart := false, narrowed := true }
def FnExactScaleSeriesUptoSaid : Prop := fnExactScaleSeriesUptoRow.holds Try.pinned (OpenSpec.upto fnExactScaleSeriesSpec)

/-- 'laws.FnExactTypicalNumerators', WHERE WHAT IT READS IS OF BULK AT MOST 1048576: true; the input reads as it did. -/
def fnExactTypicalNumeratorsUptoRow : OpenClaim := { program := "ytfdklbimdkaaiaa", sum := "0a4e4c82e67ce10d1a022f20f49addf946909e1e5b836bbdc37848e4543bc55f", func := "loop.example/g01152/laws.FnExactTypicalNumerators", spec := "fnExactTypicalNumerators", unfollowed := true, recurses := true, named := ["math/bits.divideError", "math/bits.overflowError"], apart := false, narrowed := true }
def FnExactTypicalNumeratorsUptoSaid : Prop := fnExactTypicalNumeratorsUptoRow.holds Try.pinned (OpenSpec.upto fnExactTypicalNumeratorsSpec)

/-- 'laws.FnExactPowerOfSeries', WHERE WHAT IT READS IS OF BULK AT MOST 1048576: true; the input reads as it did. -/
def fnExactPowerOfSeriesUptoRow : OpenClaim := { program := "ytfdklbimdkaaiaa", sum := "0a4e4c82e67ce10d1a022f20f49addf946909e1e5b836bbdc37848e4543bc55f", func := "loop.example/g01152/laws.FnExactPowerOfSeries", spec := "fnExactPowerOfSeries", unfollowed := true, recurses := true, named := ["math/bits.divideError", "math/bits.overflowError"], apart := false, narrowed := true }
def FnExactPowerOfSeriesUptoSaid : Prop := fnExactPowerOfSeriesUptoRow.holds Try.pinned (OpenSpec.upto fnExactPowerOfSeriesSpec)

/-- 'laws.FnExactWeierstrassSeries', WHERE WHAT IT READS IS OF BULK AT MOST 1048576: true; the input reads as it did. -/
def fnExactWeierstrassSeriesUptoRow : OpenClaim := { program := "ytfdklbimdkaaiaa", sum := "0a4e4c82e67ce10d1a022f20f49addf946909e1e5b836bbdc37848e4543bc55f", func := "loop.example/g01152/laws.FnExactWeierstrassSeries", spec := "fnExactWeierstrassSeries", unfollowed := true, recurses := true, named := ["math/bits.divideError", "math/bits.overflowError"], apart := false, narrowed := true }
def FnExactWeierstrassSeriesUptoSaid : Prop := fnExactWeierstrassSeriesUptoRow.holds Try.pinned (OpenSpec.upto fnExactWeierstrassSeriesSpec)

/-- 'laws.FnExactInverseOfSeries', WHERE WHAT IT READS IS OF BULK AT MOST 1048576: true; the input reads as it did. -/
def fnExactInverseOfSeriesUptoRow : OpenClaim := { program := "ytfdklbimdkaaiaa", sum := "0a4e4c82e67ce10d1a022f20f49addf946909e1e5b836bbdc37848e4543bc55f", func := "loop.example/g01152/laws.FnExactInverseOfSeries", spec := "fnExactInverseOfSeries", unfollowed := true, recurses := true, named := ["math/bits.divideError", "math/bits.overflowError"], apart := false, narrowed := true }
def FnExactInverseOfSeriesUptoSaid : Prop := fnExactInverseOfSeriesUptoRow.holds Try.pinned (OpenSpec.upto fnExactInverseOfSeriesSpec)

/-- 'laws.FnExactTypicalFactor', WHERE WHAT IT READS IS OF BULK AT MOST 1048576: true; the input reads as it did. -/
def fnExactTypicalFactorUptoRow : OpenClaim := { program := "ytfdklbimdkaaiaa", sum := "0a4e4c82e67ce10d1a022f20f49addf946909e1e5b836bbdc37848e4543bc55f", func := "loop.example/g01152/laws.FnExactTypicalFactor", spec := "fnExactTypicalFactor", unfollowed := true, recurses := true, apart := false, narrowed := true }
def FnExactTypicalFactorUptoSaid : Prop := fnExactTypicalFactorUptoRow.holds Try.pinned (OpenSpec.upto fnExactTypicalFactorSpec)

/-- 'laws.FnExactReverseSeries', WHERE WHAT IT READS IS OF BULK AT MOST 1048576: true; the input reads as it did. -/
def fnExactReverseSeriesUptoRow : OpenClaim := { program := "ytfdklbimdkaaiaa", sum := "0a4e4c82e67ce10d1a022f20f49addf946909e1e5b836bbdc37848e4543bc55f", func := "loop.example/g01152/laws.FnExactReverseSeries", spec := "fnExactReverseSeries", unfollowed := true, recurses := true, named := ["math/bits.divideError", "math/bits.overflowError"], apart := false, narrowed := true }
def FnExactReverseSeriesUptoSaid : Prop := fnExactReverseSeriesUptoRow.holds Try.pinned (OpenSpec.upto fnExactReverseSeriesSpec)

/-- 'laws.FnExactTypicalLogarithm', WHERE WHAT IT READS IS OF BULK AT MOST 1048576: true; the input reads as it did. -/
def fnExactTypicalLogarithmUptoRow : OpenClaim := { program := "ytfdklbimdkaaiaa", sum := "0a4e4c82e67ce10d1a022f20f49addf946909e1e5b836bbdc37848e4543bc55f", func := "loop.example/g01152/laws.FnExactTypicalLogarithm", spec := "fnExactTypicalLogarithm", unfollowed := true, recurses := true, named := ["math/bits.divideError", "math/bits.overflowError"], apart := false, narrowed := true }
def FnExactTypicalLogarithmUptoSaid : Prop := fnExactTypicalLogarithmUptoRow.holds Try.pinned (OpenSpec.upto fnExactTypicalLogarithmSpec)

end Rows
end Go.Proofs.Ytfdklbimdkaaiaa
