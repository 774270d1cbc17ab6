/-
  No cell of these rows narrows 'for every input' (looked for: loops, veiled, ifaces, maps, wideKeys, modest, calm, conditions, laid).
  DERIVED. THE GIVEN ROWS OF THIS SEAT. 12 by the template 'for every input the law returns true; each argument reads behind the call as it read before'; 0 by the template 'total and deterministic' (their statements: YtenofgofcioffaaTotals.lean).
  GIVEN WITH THE SEED: the statements are not yours to turn. If you find one false, say at which input.
  Laid BY PROGRAM, IN A SANDBOX (cutbox-rows.mjs): the forced cells as the released guide's own fill.sh prints them over the translation af52ef5bc5d6dc76… (all of the seat's roots in one cut). By AI agents, Wed Nov 11 2026. No macro, syntax, notation, axiom, sorry.
-/
import Derived.Test.YtenofgofcioffaaChecked
import GoSem.Claim
import GoSem.ClaimJoined
import GoSem.ClaimMapViews
import Derived.JoinedTies
import Derived.KernelRfl
namespace Go.Proofs.Ytenofgofcioffaa
/- THE CELL 'sum', in the pinned program and in every row, IS THE sha256 OF THE DUMP (.gsa) THAT YtenofgofcioffaaProg.lean LOADS. Nothing in Lean hashes anything: it is a label: what it is worth is what the hold of that sum in a sandbox is worth. -/
noncomputable def Try.pinned : Pinned := { name := "ytenofgofcioffaa", sum := "af52ef5bc5d6dc76a24099da03a14943b4d9dacfe12db1ffb589fe343250844e", checked := Try.checked }
namespace Rows
def none {H : Type} : Left H := { results := [], args := [] }

/-- 'laws.FnExactIsPlane': WHATEVER THE INPUT: true; the input reads as it did. -/
def fnExactIsPlaneSpec : ChangeSpec := { name := "fnExactIsPlane", fn := fun _ => fun
  | [d] => { results := [.lit (.bool true)], args := [d] }
  | _ => none }
def fnExactIsPlaneRow : OpenClaim := { program := "ytenofgofcioffaa", sum := "af52ef5bc5d6dc76a24099da03a14943b4d9dacfe12db1ffb589fe343250844e", func := "loop.example/g01152/laws.FnExactIsPlane", spec := "fnExactIsPlane", unfollowed := true, recurses := true, apart := false }
def FnExactIsPlaneSaid : Prop := fnExactIsPlaneRow.holds Try.pinned (OpenSpec.ofChange fnExactIsPlaneSpec)

/-- ITS FALSE NEIGHBOUR: 'it returns false'. Refute it at one input. -/
def fnExactIsPlaneWrong : ChangeSpec := { name := "fnExactIsPlane", fn := fun _ => fun
  | [d] => { results := [.lit (.bool false)], args := [d] }
  | _ => none }
def FnExactIsPlaneWrongFalsely : Prop := fnExactIsPlaneRow.holds Try.pinned (OpenSpec.ofChange fnExactIsPlaneWrong)

/-- 'laws.FnExactCoordinatePlane': WHATEVER THE INPUT: true; the input reads as it did. -/
def fnExactCoordinatePlaneSpec : ChangeSpec := { name := "fnExactCoordinatePlane", fn := fun _ => fun
  | [d1, d2, d3] => { results := [.lit (.bool true)], args := [d1, d2, d3] }
  | _ => none }
def fnExactCoordinatePlaneRow : OpenClaim := { program := "ytenofgofcioffaa", sum := "af52ef5bc5d6dc76a24099da03a14943b4d9dacfe12db1ffb589fe343250844e", func := "loop.example/g01152/laws.FnExactCoordinatePlane", spec := "fnExactCoordinatePlane", apart := false }
def FnExactCoordinatePlaneSaid : Prop := fnExactCoordinatePlaneRow.holds Try.pinned (OpenSpec.ofChange fnExactCoordinatePlaneSpec)

/-- ITS FALSE NEIGHBOUR: 'it returns false'. Refute it at one input. -/
def fnExactCoordinatePlaneWrong : ChangeSpec := { name := "fnExactCoordinatePlane", fn := fun _ => fun
  | [d1, d2, d3] => { results := [.lit (.bool false)], args := [d1, d2, d3] }
  | _ => none }
def FnExactCoordinatePlaneWrongFalsely : Prop := fnExactCoordinatePlaneRow.holds Try.pinned (OpenSpec.ofChange fnExactCoordinatePlaneWrong)

/-- 'laws.FnExactCoefficientOf': WHATEVER THE INPUT: true; the input reads as it did. -/
def fnExactCoefficientOfSpec : ChangeSpec := { name := "fnExactCoefficientOf", fn := fun _ => fun
  | [d1, d2, d3] => { results := [.lit (.bool true)], args := [d1, d2, d3] }
  | _ => none }
def fnExactCoefficientOfRow : OpenClaim := { program := "ytenofgofcioffaa", sum := "af52ef5bc5d6dc76a24099da03a14943b4d9dacfe12db1ffb589fe343250844e", func := "loop.example/g01152/laws.FnExactCoefficientOf", spec := "fnExactCoefficientOf", unfollowed := true, recurses := true, apart := false }
def FnExactCoefficientOfSaid : Prop := fnExactCoefficientOfRow.holds Try.pinned (OpenSpec.ofChange fnExactCoefficientOfSpec)

/-- ITS FALSE NEIGHBOUR: 'it returns false'. Refute it at one input. -/
def fnExactCoefficientOfWrong : ChangeSpec := { name := "fnExactCoefficientOf", fn := fun _ => fun
  | [d1, d2, d3] => { results := [.lit (.bool false)], args := [d1, d2, d3] }
  | _ => none }
def FnExactCoefficientOfWrongFalsely : Prop := fnExactCoefficientOfRow.holds Try.pinned (OpenSpec.ofChange fnExactCoefficientOfWrong)

/-- 'laws.FnExactAdditiveLaw': WHATEVER THE INPUT: true; the input reads as it did. -/
def fnExactAdditiveLawSpec : ChangeSpec := { name := "fnExactAdditiveLaw", fn := fun _ => fun
  | [d1, d2] => { results := [.lit (.bool true)], args := [d1, d2] }
  | _ => none }
def fnExactAdditiveLawRow : OpenClaim := { program := "ytenofgofcioffaa", sum := "af52ef5bc5d6dc76a24099da03a14943b4d9dacfe12db1ffb589fe343250844e", func := "loop.example/g01152/laws.FnExactAdditiveLaw", spec := "fnExactAdditiveLaw", unfollowed := true, recurses := true, apart := false }
def FnExactAdditiveLawSaid : Prop := fnExactAdditiveLawRow.holds Try.pinned (OpenSpec.ofChange fnExactAdditiveLawSpec)

/-- ITS FALSE NEIGHBOUR: 'it returns false'. Refute it at one input. -/
def fnExactAdditiveLawWrong : ChangeSpec := { name := "fnExactAdditiveLaw", fn := fun _ => fun
  | [d1, d2] => { results := [.lit (.bool false)], args := [d1, d2] }
  | _ => none }
def FnExactAdditiveLawWrongFalsely : Prop := fnExactAdditiveLawRow.holds Try.pinned (OpenSpec.ofChange fnExactAdditiveLawWrong)

/-- 'laws.FnExactRowOfPlane': WHATEVER THE INPUT: true; the input reads as it did. -/
def fnExactRowOfPlaneSpec : ChangeSpec := { name := "fnExactRowOfPlane", fn := fun _ => fun
  | [d1, d2] => { results := [.lit (.bool true)], args := [d1, d2] }
  | _ => none }
def fnExactRowOfPlaneRow : OpenClaim := { program := "ytenofgofcioffaa", sum := "af52ef5bc5d6dc76a24099da03a14943b4d9dacfe12db1ffb589fe343250844e", func := "loop.example/g01152/laws.FnExactRowOfPlane", spec := "fnExactRowOfPlane", unfollowed := true, recurses := true, apart := false }
def FnExactRowOfPlaneSaid : Prop := fnExactRowOfPlaneRow.holds Try.pinned (OpenSpec.ofChange fnExactRowOfPlaneSpec)

/-- ITS FALSE NEIGHBOUR: 'it returns false'. Refute it at one input. -/
def fnExactRowOfPlaneWrong : ChangeSpec := { name := "fnExactRowOfPlane", fn := fun _ => fun
  | [d1, d2] => { results := [.lit (.bool false)], args := [d1, d2] }
  | _ => none }
def FnExactRowOfPlaneWrongFalsely : Prop := fnExactRowOfPlaneRow.holds Try.pinned (OpenSpec.ofChange fnExactRowOfPlaneWrong)

/-- 'laws.FnExactPlaneOfSeries': WHATEVER THE INPUT: true; the input reads as it did. -/
def fnExactPlaneOfSeriesSpec : ChangeSpec := { name := "fnExactPlaneOfSeries", fn := fun _ => fun
  | [d1, d2] => { results := [.lit (.bool true)], args := [d1, d2] }
  | _ => none }
def fnExactPlaneOfSeriesRow : OpenClaim := { program := "ytenofgofcioffaa", sum := "af52ef5bc5d6dc76a24099da03a14943b4d9dacfe12db1ffb589fe343250844e", func := "loop.example/g01152/laws.FnExactPlaneOfSeries", spec := "fnExactPlaneOfSeries", unfollowed := true, recurses := true, apart := false }
def FnExactPlaneOfSeriesSaid : Prop := fnExactPlaneOfSeriesRow.holds Try.pinned (OpenSpec.ofChange fnExactPlaneOfSeriesSpec)

/-- ITS FALSE NEIGHBOUR: 'it returns false'. Refute it at one input. -/
def fnExactPlaneOfSeriesWrong : ChangeSpec := { name := "fnExactPlaneOfSeries", fn := fun _ => fun
  | [d1, d2] => { results := [.lit (.bool false)], args := [d1, d2] }
  | _ => none }
def FnExactPlaneOfSeriesWrongFalsely : Prop := fnExactPlaneOfSeriesRow.holds Try.pinned (OpenSpec.ofChange fnExactPlaneOfSeriesWrong)

/-- 'laws.FnExactChangePlane': WHATEVER THE INPUT: true; the input reads as it did. -/
def fnExactChangePlaneSpec : ChangeSpec := { name := "fnExactChangePlane", fn := fun _ => fun
  | [d1, d2] => { results := [.lit (.bool true)], args := [d1, d2] }
  | _ => none }
def fnExactChangePlaneRow : OpenClaim := { program := "ytenofgofcioffaa", sum := "af52ef5bc5d6dc76a24099da03a14943b4d9dacfe12db1ffb589fe343250844e", func := "loop.example/g01152/laws.FnExactChangePlane", spec := "fnExactChangePlane", unfollowed := true, recurses := true, apart := false }
def FnExactChangePlaneSaid : Prop := fnExactChangePlaneRow.holds Try.pinned (OpenSpec.ofChange fnExactChangePlaneSpec)

/-- ITS FALSE NEIGHBOUR: 'it returns false'. Refute it at one input. -/
def fnExactChangePlaneWrong : ChangeSpec := { name := "fnExactChangePlane", fn := fun _ => fun
  | [d1, d2] => { results := [.lit (.bool false)], args := [d1, d2] }
  | _ => none }
def FnExactChangePlaneWrongFalsely : Prop := fnExactChangePlaneRow.holds Try.pinned (OpenSpec.ofChange fnExactChangePlaneWrong)

/-- 'laws.FnExactCutPlane': WHATEVER THE INPUT: true; the input reads as it did. -/
def fnExactCutPlaneSpec : ChangeSpec := { name := "fnExactCutPlane", fn := fun _ => fun
  | [d1, d2] => { results := [.lit (.bool true)], args := [d1, d2] }
  | _ => none }
def fnExactCutPlaneRow : OpenClaim := { program := "ytenofgofcioffaa", sum := "af52ef5bc5d6dc76a24099da03a14943b4d9dacfe12db1ffb589fe343250844e", func := "loop.example/g01152/laws.FnExactCutPlane", spec := "fnExactCutPlane", unfollowed := true, recurses := true, apart := false }
def FnExactCutPlaneSaid : Prop := fnExactCutPlaneRow.holds Try.pinned (OpenSpec.ofChange fnExactCutPlaneSpec)

/-- ITS FALSE NEIGHBOUR: 'it returns false'. Refute it at one input. -/
def fnExactCutPlaneWrong : ChangeSpec := { name := "fnExactCutPlane", fn := fun _ => fun
  | [d1, d2] => { results := [.lit (.bool false)], args := [d1, d2] }
  | _ => none }
def FnExactCutPlaneWrongFalsely : Prop := fnExactCutPlaneRow.holds Try.pinned (OpenSpec.ofChange fnExactCutPlaneWrong)

/-- 'laws.FnExactTurnPlane': WHATEVER THE INPUT: true; the input reads as it did. -/
def fnExactTurnPlaneSpec : ChangeSpec := { name := "fnExactTurnPlane", fn := fun _ => fun
  | [d] => { results := [.lit (.bool true)], args := [d] }
  | _ => none }
def fnExactTurnPlaneRow : OpenClaim := { program := "ytenofgofcioffaa", sum := "af52ef5bc5d6dc76a24099da03a14943b4d9dacfe12db1ffb589fe343250844e", func := "loop.example/g01152/laws.FnExactTurnPlane", spec := "fnExactTurnPlane", unfollowed := true, recurses := true, apart := false }
def FnExactTurnPlaneSaid : Prop := fnExactTurnPlaneRow.holds Try.pinned (OpenSpec.ofChange fnExactTurnPlaneSpec)

/-- ITS FALSE NEIGHBOUR: 'it returns false'. Refute it at one input. -/
def fnExactTurnPlaneWrong : ChangeSpec := { name := "fnExactTurnPlane", fn := fun _ => fun
  | [d] => { results := [.lit (.bool false)], args := [d] }
  | _ => none }
def FnExactTurnPlaneWrongFalsely : Prop := fnExactTurnPlaneRow.holds Try.pinned (OpenSpec.ofChange fnExactTurnPlaneWrong)

/-- 'laws.FnExactIsSymmetricPlane': WHATEVER THE INPUT: true; the input reads as it did. -/
def fnExactIsSymmetricPlaneSpec : ChangeSpec := { name := "fnExactIsSymmetricPlane", fn := fun _ => fun
  | [d] => { results := [.lit (.bool true)], args := [d] }
  | _ => none }
def fnExactIsSymmetricPlaneRow : OpenClaim := { program := "ytenofgofcioffaa", sum := "af52ef5bc5d6dc76a24099da03a14943b4d9dacfe12db1ffb589fe343250844e", func := "loop.example/g01152/laws.FnExactIsSymmetricPlane", spec := "fnExactIsSymmetricPlane", unfollowed := true, recurses := true, apart := false }
def FnExactIsSymmetricPlaneSaid : Prop := fnExactIsSymmetricPlaneRow.holds Try.pinned (OpenSpec.ofChange fnExactIsSymmetricPlaneSpec)

/-- ITS FALSE NEIGHBOUR: 'it returns false'. Refute it at one input. -/
def fnExactIsSymmetricPlaneWrong : ChangeSpec := { name := "fnExactIsSymmetricPlane", fn := fun _ => fun
  | [d] => { results := [.lit (.bool false)], args := [d] }
  | _ => none }
def FnExactIsSymmetricPlaneWrongFalsely : Prop := fnExactIsSymmetricPlaneRow.holds Try.pinned (OpenSpec.ofChange fnExactIsSymmetricPlaneWrong)

/-- 'laws.FnExactPartialPlane': WHATEVER THE INPUT: true; the input reads as it did. -/
def fnExactPartialPlaneSpec : ChangeSpec := { name := "fnExactPartialPlane", fn := fun _ => fun
  | [d1, d2] => { results := [.lit (.bool true)], args := [d1, d2] }
  | _ => none }
def fnExactPartialPlaneRow : OpenClaim := { program := "ytenofgofcioffaa", sum := "af52ef5bc5d6dc76a24099da03a14943b4d9dacfe12db1ffb589fe343250844e", func := "loop.example/g01152/laws.FnExactPartialPlane", spec := "fnExactPartialPlane", unfollowed := true, recurses := true, apart := false }
def FnExactPartialPlaneSaid : Prop := fnExactPartialPlaneRow.holds Try.pinned (OpenSpec.ofChange fnExactPartialPlaneSpec)

/-- ITS FALSE NEIGHBOUR: 'it returns false'. Refute it at one input. -/
def fnExactPartialPlaneWrong : ChangeSpec := { name := "fnExactPartialPlane", fn := fun _ => fun
  | [d1, d2] => { results := [.lit (.bool false)], args := [d1, d2] }
  | _ => none }
def FnExactPartialPlaneWrongFalsely : Prop := fnExactPartialPlaneRow.holds Try.pinned (OpenSpec.ofChange fnExactPartialPlaneWrong)

/-- 'laws.FnExactMultiplicativeLaw': WHATEVER THE INPUT: true; the input reads as it did. -/
def fnExactMultiplicativeLawSpec : ChangeSpec := { name := "fnExactMultiplicativeLaw", fn := fun _ => fun
  | [d1, d2, d3] => { results := [.lit (.bool true)], args := [d1, d2, d3] }
  | _ => none }
def fnExactMultiplicativeLawRow : OpenClaim := { program := "ytenofgofcioffaa", sum := "af52ef5bc5d6dc76a24099da03a14943b4d9dacfe12db1ffb589fe343250844e", func := "loop.example/g01152/laws.FnExactMultiplicativeLaw", spec := "fnExactMultiplicativeLaw", unfollowed := true, recurses := true, named := ["math/bits.divideError", "math/bits.overflowError"], apart := false }
def FnExactMultiplicativeLawSaid : Prop := fnExactMultiplicativeLawRow.holds Try.pinned (OpenSpec.ofChange fnExactMultiplicativeLawSpec)

/-- ITS FALSE NEIGHBOUR: 'it returns false'. Refute it at one input. -/
def fnExactMultiplicativeLawWrong : ChangeSpec := { name := "fnExactMultiplicativeLaw", fn := fun _ => fun
  | [d1, d2, d3] => { results := [.lit (.bool false)], args := [d1, d2, d3] }
  | _ => none }
def FnExactMultiplicativeLawWrongFalsely : Prop := fnExactMultiplicativeLawRow.holds Try.pinned (OpenSpec.ofChange fnExactMultiplicativeLawWrong)

/- THE SECOND FORM. 'bulk': how many values and letters a reading holds, each counted each time it is reached (what is shared counts as often as it is met; a slice's spare places count too). A statement '..UptoSaid' is the law's where the arguments, and the package variables that the reading takes, are together of bulk at most 1048576: NARROWER than '..Said'. Prove '..Said' where nothing that the law and all that it calls make is longer than what came in: it says more and counts as full. Else prove '..UptoSaid'. A law counts once. -/
mutual
def uptoBulk {H : Type} : DataW H → Nat
  | .lit (.string bytes) => bytes.length + 1
  | .lit _ => 1
  | .nil => 1
  | .ptr d => uptoBulk d + 1
  | .slice elems spare => uptoBulkAll elems + uptoBulkAll spare + 1
  | .agg parts => uptoBulkAll parts + 1
  | .iface _ d => uptoBulk d + 1
  | .map entries => uptoBulkEntries entries + 1
  | .held _ => 1
def uptoBulkAll {H : Type} : List (DataW H) → Nat
  | [] => 0
  | d :: r => uptoBulk d + uptoBulkAll r
def uptoBulkEntries {H : Type} : List (Lit × DataW H) → Nat
  | [] => 0
  | x :: r => uptoBulkEntry x + uptoBulkEntries r
def uptoBulkEntry {H : Type} : Lit × DataW H → Nat
  | (.string bytes, d) => bytes.length + uptoBulk d + 1
  | (_, d) => uptoBulk d + 1
 end
def uptoSmall : (H : Type) → List (DataW H) → Bool := fun _ ds => decide (uptoBulkAll ds ≤ 1048576)
def OpenSpec.upto (s : _root_.Go.ChangeSpec) : _root_.Go.OpenSpec := { _root_.Go.OpenSpec.ofChange s with cond := some uptoSmall }

/-- 'laws.FnExactIsPlane', WHERE WHAT IT READS IS OF BULK AT MOST 1048576: true; the input reads as it did. -/
def fnExactIsPlaneUptoRow : OpenClaim := { program := "ytenofgofcioffaa", sum := "af52ef5bc5d6dc76a24099da03a14943b4d9dacfe12db1ffb589fe343250844e", func := "loop.example/g01152/laws.FnExactIsPlane", spec := "fnExactIsPlane", unfollowed := true, recurses := true, apart := false, narrowed := true }
def FnExactIsPlaneUptoSaid : Prop := fnExactIsPlaneUptoRow.holds Try.pinned (OpenSpec.upto fnExactIsPlaneSpec)

/-- 'laws.FnExactCoordinatePlane', WHERE WHAT IT READS IS OF BULK AT MOST 1048576: true; the input reads as it did. -/
def fnExactCoordinatePlaneUptoRow : OpenClaim := { program := "ytenofgofcioffaa", sum := "af52ef5bc5d6dc76a24099da03a14943b4d9dacfe12db1ffb589fe343250844e", func := "loop.example/g01152/laws.FnExactCoordinatePlane", spec := "fnExactCoordinatePlane", apart := false, narrowed := true }
def FnExactCoordinatePlaneUptoSaid : Prop := fnExactCoordinatePlaneUptoRow.holds Try.pinned (OpenSpec.upto fnExactCoordinatePlaneSpec)

/-- 'laws.FnExactCoefficientOf', WHERE WHAT IT READS IS OF BULK AT MOST 1048576: true; the input reads as it did. -/
def fnExactCoefficientOfUptoRow : OpenClaim := { program := "ytenofgofcioffaa", sum := "af52ef5bc5d6dc76a24099da03a14943b4d9dacfe12db1ffb589fe343250844e", func := "loop.example/g01152/laws.FnExactCoefficientOf", spec := "fnExactCoefficientOf", unfollowed := true, recurses := true, apart := false, narrowed := true }
def FnExactCoefficientOfUptoSaid : Prop := fnExactCoefficientOfUptoRow.holds Try.pinned (OpenSpec.upto fnExactCoefficientOfSpec)

/-- 'laws.FnExactAdditiveLaw', WHERE WHAT IT READS IS OF BULK AT MOST 1048576: true; the input reads as it did. -/
def fnExactAdditiveLawUptoRow : OpenClaim := { program := "ytenofgofcioffaa", sum := "af52ef5bc5d6dc76a24099da03a14943b4d9dacfe12db1ffb589fe343250844e", func := "loop.example/g01152/laws.FnExactAdditiveLaw", spec := "fnExactAdditiveLaw", unfollowed := true, recurses := true, apart := false, narrowed := true }
def FnExactAdditiveLawUptoSaid : Prop := fnExactAdditiveLawUptoRow.holds Try.pinned (OpenSpec.upto fnExactAdditiveLawSpec)

/-- 'laws.FnExactRowOfPlane', WHERE WHAT IT READS IS OF BULK AT MOST 1048576: true; the input reads as it did. -/
def fnExactRowOfPlaneUptoRow : OpenClaim := { program := "ytenofgofcioffaa", sum := "af52ef5bc5d6dc76a24099da03a14943b4d9dacfe12db1ffb589fe343250844e", func := "loop.example/g01152/laws.FnExactRowOfPlane", spec := "fnExactRowOfPlane", unfollowed := true, recurses := true, apart := false, narrowed := true }
def FnExactRowOfPlaneUptoSaid : Prop := fnExactRowOfPlaneUptoRow.holds Try.pinned (OpenSpec.upto fnExactRowOfPlaneSpec)

/-- 'laws.FnExactPlaneOfSeries', WHERE WHAT IT READS IS OF BULK AT MOST 1048576: true; the input reads as it did. -/
def fnExactPlaneOfSeriesUptoRow : OpenClaim := { program := "ytenofgofcioffaa", sum := "af52ef5bc5d6dc76a24099da03a14943b4d9dacfe12db1ffb589fe343250844e", func := "loop.example/g01152/laws.FnExactPlaneOfSeries", spec := "fnExactPlaneOfSeries", unfollowed := true, recurses := true, apart := false, narrowed := true }
def FnExactPlaneOfSeriesUptoSaid : Prop := fnExactPlaneOfSeriesUptoRow.holds Try.pinned (OpenSpec.upto fnExactPlaneOfSeriesSpec)

/-- 'laws.FnExactChangePlane', WHERE WHAT IT READS IS OF BULK AT MOST 1048576: true; the input reads as it did. -/
def fnExactChangePlaneUptoRow : OpenClaim := { program := "ytenofgofcioffaa", sum := "af52ef5bc5d6dc76a24099da03a14943b4d9dacfe12db1ffb589fe343250844e", func := "loop.example/g01152/laws.FnExactChangePlane", spec := "fnExactChangePlane", unfollowed := true, recurses := true, apart := false, narrowed := true }
def FnExactChangePlaneUptoSaid : Prop := fnExactChangePlaneUptoRow.holds Try.pinned (OpenSpec.upto fnExactChangePlaneSpec)

/-- 'laws.FnExactCutPlane', WHERE WHAT IT READS IS OF BULK AT MOST 1048576: true; the input reads as it did. -/
def fnExactCutPlaneUptoRow : OpenClaim := { program := "ytenofgofcioffaa", sum := "af52ef5bc5d6dc76a24099da03a14943b4d9dacfe12db1ffb589fe343250844e", func := "loop.example/g01152/laws.FnExactCutPlane", spec := "fnExactCutPlane", unfollowed := true, recurses := true, apart := false, narrowed := true }
def FnExactCutPlaneUptoSaid : Prop := fnExactCutPlaneUptoRow.holds Try.pinned (OpenSpec.upto fnExactCutPlaneSpec)

/-- 'laws.FnExactTurnPlane', WHERE WHAT IT READS IS OF BULK AT MOST 1048576: true; the input reads as it did. -/
def fnExactTurnPlaneUptoRow : OpenClaim := { program := "ytenofgofcioffaa", sum := "af52ef5bc5d6dc76a24099da03a14943b4d9dacfe12db1ffb589fe343250844e", func := "loop.example/g01152/laws.FnExactTurnPlane", spec := "fnExactTurnPlane", unfollowed := true, recurses := true, apart := false, narrowed := true }
def FnExactTurnPlaneUptoSaid : Prop := fnExactTurnPlaneUptoRow.holds Try.pinned (OpenSpec.upto fnExactTurnPlaneSpec)

/-- 'laws.FnExactIsSymmetricPlane', WHERE WHAT IT READS IS OF BULK AT MOST 1048576: true; the input reads as it did. -/
def fnExactIsSymmetricPlaneUptoRow : OpenClaim := { program := "ytenofgofcioffaa", sum := "af52ef5bc5d6dc76a24099da03a14943b4d9dacfe12db1ffb589fe343250844e", func := "loop.example/g01152/laws.FnExactIsSymmetricPlane", spec := "fnExactIsSymmetricPlane", unfollowed := true, recurses := true, apart := false, narrowed := true }
def FnExactIsSymmetricPlaneUptoSaid : Prop := fnExactIsSymmetricPlaneUptoRow.holds Try.pinned (OpenSpec.upto fnExactIsSymmetricPlaneSpec)

/-- 'laws.FnExactPartialPlane', WHERE WHAT IT READS IS OF BULK AT MOST 1048576: true; the input reads as it did. -/
def fnExactPartialPlaneUptoRow : OpenClaim := { program := "ytenofgofcioffaa", sum := "af52ef5bc5d6dc76a24099da03a14943b4d9dacfe12db1ffb589fe343250844e", func := "loop.example/g01152/laws.FnExactPartialPlane", spec := "fnExactPartialPlane", unfollowed := true, recurses := true, apart := false, narrowed := true }
def FnExactPartialPlaneUptoSaid : Prop := fnExactPartialPlaneUptoRow.holds Try.pinned (OpenSpec.upto fnExactPartialPlaneSpec)

/-- 'laws.FnExactMultiplicativeLaw', WHERE WHAT IT READS IS OF BULK AT MOST 1048576: true; the input reads as it did. -/
def fnExactMultiplicativeLawUptoRow : OpenClaim := { program := "ytenofgofcioffaa", sum := "af52ef5bc5d6dc76a24099da03a14943b4d9dacfe12db1ffb589fe343250844e", func := "loop.example/g01152/laws.FnExactMultiplicativeLaw", spec := "fnExactMultiplicativeLaw", unfollowed := true, recurses := true, named := ["math/bits.divideError", "math/bits.overflowError"], apart := false, narrowed := true }
def FnExactMultiplicativeLawUptoSaid : Prop := fnExactMultiplicativeLawUptoRow.holds Try.pinned (OpenSpec.upto fnExactMultiplicativeLawSpec)

end Rows
end Go.Proofs.Ytenofgofcioffaa
