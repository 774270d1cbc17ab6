/-
  No cell of these rows narrows 'for every input' (looked for: loops, veiled, ifaces, maps, wideKeys, modest, calm, conditions, laid).
  DERIVED. THE GIVEN ROWS OF THIS SEAT. 12 by the template 'for every input the law returns true; each argument reads behind the call as it read before'; 0 by the template 'total and deterministic' (their statements: YtipiljinloapjaaTotals.lean).
  GIVEN WITH THE SEED: the statements are not yours to turn. If you find one false, say at which input.
  Laid BY PROGRAM, IN A SANDBOX (cutbox-rows.mjs): the forced cells as the released guide's own fill.sh prints them over the translation 2e9c078360f717e5… (all of the seat's roots in one cut). By AI agents, Wed Nov 11 2026. No macro, syntax, notation, axiom, sorry.
-/
import Derived.Test.YtipiljinloapjaaChecked
import GoSem.Claim
import GoSem.ClaimJoined
import GoSem.ClaimMapViews
import Derived.JoinedTies
import Derived.KernelRfl
namespace Go.Proofs.Ytipiljinloapjaa
/- THE CELL 'sum', in the pinned program and in every row, IS THE sha256 OF THE DUMP (.gsa) THAT YtipiljinloapjaaProg.lean LOADS. Nothing in Lean hashes anything: it is a label: what it is worth is what the hold of that sum in a sandbox is worth. -/
noncomputable def Try.pinned : Pinned := { name := "ytipiljinloapjaa", sum := "2e9c078360f717e5fc16a2907f7d133b066e29c103d9fef0a8c3d2c8da18cee9", checked := Try.checked }
namespace Rows
def none {H : Type} : Left H := { results := [], args := [] }

/-- 'laws.FnExactIsUnit': WHATEVER THE INPUT: true; the input reads as it did. -/
def fnExactIsUnitSpec : ChangeSpec := { name := "fnExactIsUnit", fn := fun _ => fun
  | [d1, d2] => { results := [.lit (.bool true)], args := [d1, d2] }
  | _ => none }
def fnExactIsUnitRow : OpenClaim := { program := "ytipiljinloapjaa", sum := "2e9c078360f717e5fc16a2907f7d133b066e29c103d9fef0a8c3d2c8da18cee9", func := "loop.example/g01152/laws.FnExactIsUnit", spec := "fnExactIsUnit", unfollowed := true, recurses := true, apart := false }
def FnExactIsUnitSaid : Prop := fnExactIsUnitRow.holds Try.pinned (OpenSpec.ofChange fnExactIsUnitSpec)

/-- ITS FALSE NEIGHBOUR: 'it returns false'. Refute it at one input. -/
def fnExactIsUnitWrong : ChangeSpec := { name := "fnExactIsUnit", fn := fun _ => fun
  | [d1, d2] => { results := [.lit (.bool false)], args := [d1, d2] }
  | _ => none }
def FnExactIsUnitWrongFalsely : Prop := fnExactIsUnitRow.holds Try.pinned (OpenSpec.ofChange fnExactIsUnitWrong)

/-- 'laws.FnExactIsSeries': WHATEVER THE INPUT: true; the input reads as it did. -/
def fnExactIsSeriesSpec : ChangeSpec := { name := "fnExactIsSeries", fn := fun _ => fun
  | [d] => { results := [.lit (.bool true)], args := [d] }
  | _ => none }
def fnExactIsSeriesRow : OpenClaim := { program := "ytipiljinloapjaa", sum := "2e9c078360f717e5fc16a2907f7d133b066e29c103d9fef0a8c3d2c8da18cee9", func := "loop.example/g01152/laws.FnExactIsSeries", spec := "fnExactIsSeries", unfollowed := true, recurses := true, apart := false }
def FnExactIsSeriesSaid : Prop := fnExactIsSeriesRow.holds Try.pinned (OpenSpec.ofChange fnExactIsSeriesSpec)

/-- ITS FALSE NEIGHBOUR: 'it returns false'. Refute it at one input. -/
def fnExactIsSeriesWrong : ChangeSpec := { name := "fnExactIsSeries", fn := fun _ => fun
  | [d] => { results := [.lit (.bool false)], args := [d] }
  | _ => none }
def FnExactIsSeriesWrongFalsely : Prop := fnExactIsSeriesRow.holds Try.pinned (OpenSpec.ofChange fnExactIsSeriesWrong)

/-- 'laws.FnExactIsCurve': WHATEVER THE INPUT: true; the input reads as it did. -/
def fnExactIsCurveSpec : ChangeSpec := { name := "fnExactIsCurve", fn := fun _ => fun
  | [d] => { results := [.lit (.bool true)], args := [d] }
  | _ => none }
def fnExactIsCurveRow : OpenClaim := { program := "ytipiljinloapjaa", sum := "2e9c078360f717e5fc16a2907f7d133b066e29c103d9fef0a8c3d2c8da18cee9", func := "loop.example/g01152/laws.FnExactIsCurve", spec := "fnExactIsCurve", unfollowed := true, recurses := true, apart := false }
def FnExactIsCurveSaid : Prop := fnExactIsCurveRow.holds Try.pinned (OpenSpec.ofChange fnExactIsCurveSpec)

/-- ITS FALSE NEIGHBOUR: 'it returns false'. Refute it at one input. -/
def fnExactIsCurveWrong : ChangeSpec := { name := "fnExactIsCurve", fn := fun _ => fun
  | [d] => { results := [.lit (.bool false)], args := [d] }
  | _ => none }
def FnExactIsCurveWrongFalsely : Prop := fnExactIsCurveRow.holds Try.pinned (OpenSpec.ofChange fnExactIsCurveWrong)

/-- 'laws.FnExactPrimeFactors': WHATEVER THE INPUT: true; the input reads as it did. -/
def fnExactPrimeFactorsSpec : ChangeSpec := { name := "fnExactPrimeFactors", fn := fun _ => fun
  | [d] => { results := [.lit (.bool true)], args := [d] }
  | _ => none }
def fnExactPrimeFactorsRow : OpenClaim := { program := "ytipiljinloapjaa", sum := "2e9c078360f717e5fc16a2907f7d133b066e29c103d9fef0a8c3d2c8da18cee9", func := "loop.example/g01152/laws.FnExactPrimeFactors", spec := "fnExactPrimeFactors", apart := false }
def FnExactPrimeFactorsSaid : Prop := fnExactPrimeFactorsRow.holds Try.pinned (OpenSpec.ofChange fnExactPrimeFactorsSpec)

/-- ITS FALSE NEIGHBOUR: 'it returns false'. Refute it at one input. -/
def fnExactPrimeFactorsWrong : ChangeSpec := { name := "fnExactPrimeFactors", fn := fun _ => fun
  | [d] => { results := [.lit (.bool false)], args := [d] }
  | _ => none }
def FnExactPrimeFactorsWrongFalsely : Prop := fnExactPrimeFactorsRow.holds Try.pinned (OpenSpec.ofChange fnExactPrimeFactorsWrong)

/-- 'laws.FnExactOrderModulo': WHATEVER THE INPUT: true; the input reads as it did. -/
def fnExactOrderModuloSpec : ChangeSpec := { name := "fnExactOrderModulo", fn := fun _ => fun
  | [d1, d2] => { results := [.lit (.bool true)], args := [d1, d2] }
  | _ => none }
def fnExactOrderModuloRow : OpenClaim := { program := "ytipiljinloapjaa", sum := "2e9c078360f717e5fc16a2907f7d133b066e29c103d9fef0a8c3d2c8da18cee9", func := "loop.example/g01152/laws.FnExactOrderModulo", spec := "fnExactOrderModulo", unfollowed := true, recurses := true, apart := false }
def FnExactOrderModuloSaid : Prop := fnExactOrderModuloRow.holds Try.pinned (OpenSpec.ofChange fnExactOrderModuloSpec)

/-- ITS FALSE NEIGHBOUR: 'it returns false'. Refute it at one input. -/
def fnExactOrderModuloWrong : ChangeSpec := { name := "fnExactOrderModulo", fn := fun _ => fun
  | [d1, d2] => { results := [.lit (.bool false)], args := [d1, d2] }
  | _ => none }
def FnExactOrderModuloWrongFalsely : Prop := fnExactOrderModuloRow.holds Try.pinned (OpenSpec.ofChange fnExactOrderModuloWrong)

/-- 'laws.FnExactOrderOfSeries': WHATEVER THE INPUT: true; the input reads as it did. -/
def fnExactOrderOfSeriesSpec : ChangeSpec := { name := "fnExactOrderOfSeries", fn := fun _ => fun
  | [d] => { results := [.lit (.bool true)], args := [d] }
  | _ => none }
def fnExactOrderOfSeriesRow : OpenClaim := { program := "ytipiljinloapjaa", sum := "2e9c078360f717e5fc16a2907f7d133b066e29c103d9fef0a8c3d2c8da18cee9", func := "loop.example/g01152/laws.FnExactOrderOfSeries", spec := "fnExactOrderOfSeries", unfollowed := true, recurses := true, apart := false }
def FnExactOrderOfSeriesSaid : Prop := fnExactOrderOfSeriesRow.holds Try.pinned (OpenSpec.ofChange fnExactOrderOfSeriesSpec)

/-- ITS FALSE NEIGHBOUR: 'it returns false'. Refute it at one input. -/
def fnExactOrderOfSeriesWrong : ChangeSpec := { name := "fnExactOrderOfSeries", fn := fun _ => fun
  | [d] => { results := [.lit (.bool false)], args := [d] }
  | _ => none }
def FnExactOrderOfSeriesWrongFalsely : Prop := fnExactOrderOfSeriesRow.holds Try.pinned (OpenSpec.ofChange fnExactOrderOfSeriesWrong)

/-- 'laws.FnExactValueOfSeries': WHATEVER THE INPUT: true; the input reads as it did. -/
def fnExactValueOfSeriesSpec : ChangeSpec := { name := "fnExactValueOfSeries", fn := fun _ => fun
  | [d1, d2] => { results := [.lit (.bool true)], args := [d1, d2] }
  | _ => none }
def fnExactValueOfSeriesRow : OpenClaim := { program := "ytipiljinloapjaa", sum := "2e9c078360f717e5fc16a2907f7d133b066e29c103d9fef0a8c3d2c8da18cee9", func := "loop.example/g01152/laws.FnExactValueOfSeries", spec := "fnExactValueOfSeries", unfollowed := true, recurses := true, apart := false }
def FnExactValueOfSeriesSaid : Prop := fnExactValueOfSeriesRow.holds Try.pinned (OpenSpec.ofChange fnExactValueOfSeriesSpec)

/-- ITS FALSE NEIGHBOUR: 'it returns false'. Refute it at one input. -/
def fnExactValueOfSeriesWrong : ChangeSpec := { name := "fnExactValueOfSeries", fn := fun _ => fun
  | [d1, d2] => { results := [.lit (.bool false)], args := [d1, d2] }
  | _ => none }
def FnExactValueOfSeriesWrongFalsely : Prop := fnExactValueOfSeriesRow.holds Try.pinned (OpenSpec.ofChange fnExactValueOfSeriesWrong)

/-- 'laws.FnExactInverseModulo': WHATEVER THE INPUT: true; the input reads as it did. -/
def fnExactInverseModuloSpec : ChangeSpec := { name := "fnExactInverseModulo", fn := fun _ => fun
  | [d1, d2] => { results := [.lit (.bool true)], args := [d1, d2] }
  | _ => none }
def fnExactInverseModuloRow : OpenClaim := { program := "ytipiljinloapjaa", sum := "2e9c078360f717e5fc16a2907f7d133b066e29c103d9fef0a8c3d2c8da18cee9", func := "loop.example/g01152/laws.FnExactInverseModulo", spec := "fnExactInverseModulo", unfollowed := true, recurses := true, apart := false }
def FnExactInverseModuloSaid : Prop := fnExactInverseModuloRow.holds Try.pinned (OpenSpec.ofChange fnExactInverseModuloSpec)

/-- ITS FALSE NEIGHBOUR: 'it returns false'. Refute it at one input. -/
def fnExactInverseModuloWrong : ChangeSpec := { name := "fnExactInverseModulo", fn := fun _ => fun
  | [d1, d2] => { results := [.lit (.bool false)], args := [d1, d2] }
  | _ => none }
def FnExactInverseModuloWrongFalsely : Prop := fnExactInverseModuloRow.holds Try.pinned (OpenSpec.ofChange fnExactInverseModuloWrong)

/-- 'laws.FnExactRootsModulo': WHATEVER THE INPUT: true; the input reads as it did. -/
def fnExactRootsModuloSpec : ChangeSpec := { name := "fnExactRootsModulo", fn := fun _ => fun
  | [d1, d2] => { results := [.lit (.bool true)], args := [d1, d2] }
  | _ => none }
def fnExactRootsModuloRow : OpenClaim := { program := "ytipiljinloapjaa", sum := "2e9c078360f717e5fc16a2907f7d133b066e29c103d9fef0a8c3d2c8da18cee9", func := "loop.example/g01152/laws.FnExactRootsModulo", spec := "fnExactRootsModulo", unfollowed := true, recurses := true, apart := false }
def FnExactRootsModuloSaid : Prop := fnExactRootsModuloRow.holds Try.pinned (OpenSpec.ofChange fnExactRootsModuloSpec)

/-- ITS FALSE NEIGHBOUR: 'it returns false'. Refute it at one input. -/
def fnExactRootsModuloWrong : ChangeSpec := { name := "fnExactRootsModulo", fn := fun _ => fun
  | [d1, d2] => { results := [.lit (.bool false)], args := [d1, d2] }
  | _ => none }
def FnExactRootsModuloWrongFalsely : Prop := fnExactRootsModuloRow.holds Try.pinned (OpenSpec.ofChange fnExactRootsModuloWrong)

/-- 'laws.FnExactCutSeries': WHATEVER THE INPUT: true; the input reads as it did. -/
def fnExactCutSeriesSpec : ChangeSpec := { name := "fnExactCutSeries", fn := fun _ => fun
  | [d1, d2] => { results := [.lit (.bool true)], args := [d1, d2] }
  | _ => none }
def fnExactCutSeriesRow : OpenClaim := { program := "ytipiljinloapjaa", sum := "2e9c078360f717e5fc16a2907f7d133b066e29c103d9fef0a8c3d2c8da18cee9", func := "loop.example/g01152/laws.FnExactCutSeries", spec := "fnExactCutSeries", unfollowed := true, recurses := true, apart := false }
def FnExactCutSeriesSaid : Prop := fnExactCutSeriesRow.holds Try.pinned (OpenSpec.ofChange fnExactCutSeriesSpec)

/-- ITS FALSE NEIGHBOUR: 'it returns false'. Refute it at one input. -/
def fnExactCutSeriesWrong : ChangeSpec := { name := "fnExactCutSeries", fn := fun _ => fun
  | [d1, d2] => { results := [.lit (.bool false)], args := [d1, d2] }
  | _ => none }
def FnExactCutSeriesWrongFalsely : Prop := fnExactCutSeriesRow.holds Try.pinned (OpenSpec.ofChange fnExactCutSeriesWrong)

/-- 'laws.FnExactChangeSeries': WHATEVER THE INPUT: true; the input reads as it did. -/
def fnExactChangeSeriesSpec : ChangeSpec := { name := "fnExactChangeSeries", fn := fun _ => fun
  | [d1, d2] => { results := [.lit (.bool true)], args := [d1, d2] }
  | _ => none }
def fnExactChangeSeriesRow : OpenClaim := { program := "ytipiljinloapjaa", sum := "2e9c078360f717e5fc16a2907f7d133b066e29c103d9fef0a8c3d2c8da18cee9", func := "loop.example/g01152/laws.FnExactChangeSeries", spec := "fnExactChangeSeries", unfollowed := true, recurses := true, apart := false }
def FnExactChangeSeriesSaid : Prop := fnExactChangeSeriesRow.holds Try.pinned (OpenSpec.ofChange fnExactChangeSeriesSpec)

/-- ITS FALSE NEIGHBOUR: 'it returns false'. Refute it at one input. -/
def fnExactChangeSeriesWrong : ChangeSpec := { name := "fnExactChangeSeries", fn := fun _ => fun
  | [d1, d2] => { results := [.lit (.bool false)], args := [d1, d2] }
  | _ => none }
def FnExactChangeSeriesWrongFalsely : Prop := fnExactChangeSeriesRow.holds Try.pinned (OpenSpec.ofChange fnExactChangeSeriesWrong)

/-- 'laws.FnExactPowerModulo': WHATEVER THE INPUT: true; the input reads as it did. -/
def fnExactPowerModuloSpec : ChangeSpec := { name := "fnExactPowerModulo", fn := fun _ => fun
  | [d1, d2, d3] => { results := [.lit (.bool true)], args := [d1, d2, d3] }
  | _ => none }
def fnExactPowerModuloRow : OpenClaim := { program := "ytipiljinloapjaa", sum := "2e9c078360f717e5fc16a2907f7d133b066e29c103d9fef0a8c3d2c8da18cee9", func := "loop.example/g01152/laws.FnExactPowerModulo", spec := "fnExactPowerModulo", unfollowed := true, recurses := true, named := ["math/bits.divideError", "math/bits.overflowError"], apart := false }
def FnExactPowerModuloSaid : Prop := fnExactPowerModuloRow.holds Try.pinned (OpenSpec.ofChange fnExactPowerModuloSpec)

/-- ITS FALSE NEIGHBOUR: 'it returns false'. Refute it at one input. -/
def fnExactPowerModuloWrong : ChangeSpec := { name := "fnExactPowerModulo", fn := fun _ => fun
  | [d1, d2, d3] => { results := [.lit (.bool false)], args := [d1, d2, d3] }
  | _ => none }
def FnExactPowerModuloWrongFalsely : Prop := fnExactPowerModuloRow.holds Try.pinned (OpenSpec.ofChange fnExactPowerModuloWrong)

/- THE SECOND FORM. 'bulk': how many values and letters a reading holds, each counted each time it is reached (what is shared counts as often as it is met; a slice's spare places count too). A statement '..UptoSaid' is the law's where the arguments, and the package variables that the reading takes, are together of bulk at most 1048576: NARROWER than '..Said'. Prove '..Said' where nothing that the law and all that it calls make is longer than what came in: it says more and counts as full. Else prove '..UptoSaid'. A law counts once. -/
mutual
def uptoBulk {H : Type} : DataW H → Nat
  | .lit (.string bytes) => bytes.length + 1
  | .lit _ => 1
  | .nil => 1
  | .ptr d => uptoBulk d + 1
  | .slice elems spare => uptoBulkAll elems + uptoBulkAll spare + 1
  | .agg parts => uptoBulkAll parts + 1
  | .iface _ d => uptoBulk d + 1
  | .map entries => uptoBulkEntries entries + 1
  | .held _ => 1
def uptoBulkAll {H : Type} : List (DataW H) → Nat
  | [] => 0
  | d :: r => uptoBulk d + uptoBulkAll r
def uptoBulkEntries {H : Type} : List (Lit × DataW H) → Nat
  | [] => 0
  | x :: r => uptoBulkEntry x + uptoBulkEntries r
def uptoBulkEntry {H : Type} : Lit × DataW H → Nat
  | (.string bytes, d) => bytes.length + uptoBulk d + 1
  | (_, d) => uptoBulk d + 1
 end
def uptoSmall : (H : Type) → List (DataW H) → Bool := fun _ ds => decide (uptoBulkAll ds ≤ 1048576)
def OpenSpec.upto (s : _root_.Go.ChangeSpec) : _root_.Go.OpenSpec := { _root_.Go.OpenSpec.ofChange s with cond := some uptoSmall }

/-- 'laws.FnExactIsUnit', WHERE WHAT IT READS IS OF BULK AT MOST 1048576: true; the input reads as it did. -/
def fnExactIsUnitUptoRow : OpenClaim := { program := "ytipiljinloapjaa", sum := "2e9c078360f717e5fc16a2907f7d133b066e29c103d9fef0a8c3d2c8da18cee9", func := "loop.example/g01152/laws.FnExactIsUnit", spec := "fnExactIsUnit", unfollowed := true, recurses := true, apart := false, narrowed := true }
def FnExactIsUnitUptoSaid : Prop := fnExactIsUnitUptoRow.holds Try.pinned (OpenSpec.upto fnExactIsUnitSpec)

/-- 'laws.FnExactIsSeries', WHERE WHAT IT READS IS OF BULK AT MOST 1048576: true; the input reads as it did. -/
def fnExactIsSeriesUptoRow : OpenClaim := { program := "ytipiljinloapjaa", sum := "2e9c078360f717e5fc16a2907f7d133b066e29c103d9fef0a8c3d2c8da18cee9", func := "loop.example/g01152/laws.FnExactIsSeries", spec := "fnExactIsSeries", unfollowed := true, recurses := true, apart := false, narrowed := true }
def FnExactIsSeriesUptoSaid : Prop := fnExactIsSeriesUptoRow.holds Try.pinned (OpenSpec.upto fnExactIsSeriesSpec)

/-- 'laws.FnExactIsCurve', WHERE WHAT IT READS IS OF BULK AT MOST 1048576: true; the input reads as it did. -/
def fnExactIsCurveUptoRow : OpenClaim := { program := "ytipiljinloapjaa", sum := "2e9c078360f717e5fc16a2907f7d133b066e29c103d9fef0a8c3d2c8da18cee9", func := "loop.example/g01152/laws.FnExactIsCurve", spec := "fnExactIsCurve", unfollowed := true, recurses := true, apart := false, narrowed := true }
def FnExactIsCurveUptoSaid : Prop := fnExactIsCurveUptoRow.holds Try.pinned (OpenSpec.upto fnExactIsCurveSpec)

/-- 'laws.FnExactPrimeFactors', WHERE WHAT IT READS IS OF BULK AT MOST 1048576: true; the input reads as it did. -/
def fnExactPrimeFactorsUptoRow : OpenClaim := { program := "ytipiljinloapjaa", sum := "2e9c078360f717e5fc16a2907f7d133b066e29c103d9fef0a8c3d2c8da18cee9", func := "loop.example/g01152/laws.FnExactPrimeFactors", spec := "fnExactPrimeFactors", apart := false, narrowed := true }
def FnExactPrimeFactorsUptoSaid : Prop := fnExactPrimeFactorsUptoRow.holds Try.pinned (OpenSpec.upto fnExactPrimeFactorsSpec)

/-- 'laws.FnExactOrderModulo', WHERE WHAT IT READS IS OF BULK AT MOST 1048576: true; the input reads as it did. -/
def fnExactOrderModuloUptoRow : OpenClaim := { program := "ytipiljinloapjaa", sum := "2e9c078360f717e5fc16a2907f7d133b066e29c103d9fef0a8c3d2c8da18cee9", func := "loop.example/g01152/laws.FnExactOrderModulo", spec := "fnExactOrderModulo", unfollowed := true, recurses := true, apart := false, narrowed := true }
def FnExactOrderModuloUptoSaid : Prop := fnExactOrderModuloUptoRow.holds Try.pinned (OpenSpec.upto fnExactOrderModuloSpec)

/-- 'laws.FnExactOrderOfSeries', WHERE WHAT IT READS IS OF BULK AT MOST 1048576: true; the input reads as it did. -/
def fnExactOrderOfSeriesUptoRow : OpenClaim := { program := "ytipiljinloapjaa", sum := "2e9c078360f717e5fc16a2907f7d133b066e29c103d9fef0a8c3d2c8da18cee9", func := "loop.example/g01152/laws.FnExactOrderOfSeries", spec := "fnExactOrderOfSeries", unfollowed := true, recurses := true, apart := false, narrowed := true }
def FnExactOrderOfSeriesUptoSaid : Prop := fnExactOrderOfSeriesUptoRow.holds Try.pinned (OpenSpec.upto fnExactOrderOfSeriesSpec)

/-- 'laws.FnExactValueOfSeries', WHERE WHAT IT READS IS OF BULK AT MOST 1048576: true; the input reads as it did. -/
def fnExactValueOfSeriesUptoRow : OpenClaim := { program := "ytipiljinloapjaa", sum := "2e9c078360f717e5fc16a2907f7d133b066e29c103d9fef0a8c3d2c8da18cee9", func := "loop.example/g01152/laws.FnExactValueOfSeries", spec := "fnExactValueOfSeries", unfollowed := true, recurses := true, apart := false, narrowed := true }
def FnExactValueOfSeriesUptoSaid : Prop := fnExactValueOfSeriesUptoRow.holds Try.pinned (OpenSpec.upto fnExactValueOfSeriesSpec)

/-- 'laws.FnExactInverseModulo', WHERE WHAT IT READS IS OF BULK AT MOST 1048576: true; the input reads as it did. -/
def fnExactInverseModuloUptoRow : OpenClaim := { program := "ytipiljinloapjaa", sum := "2e9c078360f717e5fc16a2907f7d133b066e29c103d9fef0a8c3d2c8da18cee9", func := "loop.example/g01152/laws.FnExactInverseModulo", spec := "fnExactInverseModulo", unfollowed := true, recurses := true, apart := false, narrowed := true }
def FnExactInverseModuloUptoSaid : Prop := fnExactInverseModuloUptoRow.holds Try.pinned (OpenSpec.upto fnExactInverseModuloSpec)

/-- 'laws.FnExactRootsModulo', WHERE WHAT IT READS IS OF BULK AT MOST 1048576: true; the input reads as it did. -/
def fnExactRootsModuloUptoRow : OpenClaim := { program := "ytipiljinloapjaa", sum := "2e9c078360f717e5fc16a2907f7d133b066e29c103d9fef0a8c3d2c8da18cee9", func := "loop.example/g01152/laws.FnExactRootsModulo", spec := "fnExactRootsModulo", unfollowed := true, recurses := true, apart := false, narrowed := true }
def FnExactRootsModuloUptoSaid : Prop := fnExactRootsModuloUptoRow.holds Try.pinned (OpenSpec.upto fnExactRootsModuloSpec)

/-- 'laws.FnExactCutSeries', WHERE WHAT IT READS IS OF BULK AT MOST 1048576: true; the input reads as it did. -/
def fnExactCutSeriesUptoRow : OpenClaim := { program := "ytipiljinloapjaa", sum := "2e9c078360f717e5fc16a2907f7d133b066e29c103d9fef0a8c3d2c8da18cee9", func := "loop.example/g01152/laws.FnExactCutSeries", spec := "fnExactCutSeries", unfollowed := true, recurses := true, apart := false, narrowed := true }
def FnExactCutSeriesUptoSaid : Prop := fnExactCutSeriesUptoRow.holds Try.pinned (OpenSpec.upto fnExactCutSeriesSpec)

/-- 'laws.FnExactChangeSeries', WHERE WHAT IT READS IS OF BULK AT MOST 1048576: true; the input reads as it did. -/
def fnExactChangeSeriesUptoRow : OpenClaim := { program := "ytipiljinloapjaa", sum := "2e9c078360f717e5fc16a2907f7d133b066e29c103d9fef0a8c3d2c8da18cee9", func := "loop.example/g01152/laws.FnExactChangeSeries", spec := "fnExactChangeSeries", unfollowed := true, recurses := true, apart := false, narrowed := true }
def FnExactChangeSeriesUptoSaid : Prop := fnExactChangeSeriesUptoRow.holds Try.pinned (OpenSpec.upto fnExactChangeSeriesSpec)

/-- 'laws.FnExactPowerModulo', WHERE WHAT IT READS IS OF BULK AT MOST 1048576: true; the input reads as it did. -/
def fnExactPowerModuloUptoRow : OpenClaim := { program := "ytipiljinloapjaa", sum := "2e9c078360f717e5fc16a2907f7d133b066e29c103d9fef0a8c3d2c8da18cee9", func := "loop.example/g01152/laws.FnExactPowerModulo", spec := "fnExactPowerModulo", unfollowed := true, recurses := true, named := ["math/bits.divideError", "math/bits.overflowError"], apart := false, narrowed := true }
def FnExactPowerModuloUptoSaid : Prop := fnExactPowerModuloUptoRow.holds Try.pinned (OpenSpec.upto fnExactPowerModuloSpec)

end Rows
end Go.Proofs.Ytipiljinloapjaa
