/-
  No cell of these rows narrows 'for every input' (looked for: loops, veiled, ifaces, maps, wideKeys, modest, calm, conditions, laid).
  DERIVED. THE GIVEN ROWS OF THIS SEAT. 13 by the template 'for every input the law returns true; each argument reads behind the call as it read before'; 0 by the template 'total and deterministic' (their statements: YtkkjakjopmaocaaTotals.lean).
  GIVEN WITH THE SEED: the statements are not yours to turn. If you find one false, say at which input.
  Laid BY PROGRAM, IN A SANDBOX (cutbox-rows.mjs): the forced cells as the released guide's own fill.sh prints them over the translation 8abb09f54c3c066f… (all of the seat's roots in one cut). By AI agents, Wed Nov 11 2026. No macro, syntax, notation, axiom, sorry.
-/
import Derived.Test.YtkkjakjopmaocaaChecked
import GoSem.Claim
import GoSem.ClaimJoined
import GoSem.ClaimMapViews
import Derived.JoinedTies
import Derived.KernelRfl
namespace Go.Proofs.Ytkkjakjopmaocaa
/- THE CELL 'sum', in the pinned program and in every row, IS THE sha256 OF THE DUMP (.gsa) THAT YtkkjakjopmaocaaProg.lean LOADS. Nothing in Lean hashes anything: it is a label: what it is worth is what the hold of that sum in a sandbox is worth. -/
noncomputable def Try.pinned : Pinned := { name := "ytkkjakjopmaocaa", sum := "8abb09f54c3c066f4f76b92aec31ca227b652779337d8058ce7a1ad7a65beab5", checked := Try.checked }
namespace Rows
def none {H : Type} : Left H := { results := [], args := [] }

/-- 'laws.FnExactConstants': WHATEVER THE INPUT: true; the input reads as it did. -/
def fnExactConstantsSpec : ChangeSpec := { name := "fnExactConstants", fn := fun _ => fun
  | [] => { results := [.lit (.bool true)], args := [] }
  | _ => none }
def fnExactConstantsRow : OpenClaim := { program := "ytkkjakjopmaocaa", sum := "8abb09f54c3c066f4f76b92aec31ca227b652779337d8058ce7a1ad7a65beab5", func := "loop.example/g01152/laws.FnExactConstants", spec := "fnExactConstants", apart := false }
def FnExactConstantsSaid : Prop := fnExactConstantsRow.holds Try.pinned (OpenSpec.ofChange fnExactConstantsSpec)

/-- ITS FALSE NEIGHBOUR: 'it returns false'. Refute it at one input. -/
def fnExactConstantsWrong : ChangeSpec := { name := "fnExactConstants", fn := fun _ => fun
  | [] => { results := [.lit (.bool false)], args := [] }
  | _ => none }
def FnExactConstantsWrongFalsely : Prop := fnExactConstantsRow.holds Try.pinned (OpenSpec.ofChange fnExactConstantsWrong)

/-- 'laws.FnExactIsModulus': WHATEVER THE INPUT: true; the input reads as it did. -/
def fnExactIsModulusSpec : ChangeSpec := { name := "fnExactIsModulus", fn := fun _ => fun
  | [d] => { results := [.lit (.bool true)], args := [d] }
  | _ => none }
def fnExactIsModulusRow : OpenClaim := { program := "ytkkjakjopmaocaa", sum := "8abb09f54c3c066f4f76b92aec31ca227b652779337d8058ce7a1ad7a65beab5", func := "loop.example/g01152/laws.FnExactIsModulus", spec := "fnExactIsModulus", apart := false }
def FnExactIsModulusSaid : Prop := fnExactIsModulusRow.holds Try.pinned (OpenSpec.ofChange fnExactIsModulusSpec)

/-- ITS FALSE NEIGHBOUR: 'it returns false'. Refute it at one input. -/
def fnExactIsModulusWrong : ChangeSpec := { name := "fnExactIsModulus", fn := fun _ => fun
  | [d] => { results := [.lit (.bool false)], args := [d] }
  | _ => none }
def FnExactIsModulusWrongFalsely : Prop := fnExactIsModulusRow.holds Try.pinned (OpenSpec.ofChange fnExactIsModulusWrong)

/-- 'laws.FnExactRemainderOf': WHATEVER THE INPUT: true; the input reads as it did. -/
def fnExactRemainderOfSpec : ChangeSpec := { name := "fnExactRemainderOf", fn := fun _ => fun
  | [d1, d2] => { results := [.lit (.bool true)], args := [d1, d2] }
  | _ => none }
def fnExactRemainderOfRow : OpenClaim := { program := "ytkkjakjopmaocaa", sum := "8abb09f54c3c066f4f76b92aec31ca227b652779337d8058ce7a1ad7a65beab5", func := "loop.example/g01152/laws.FnExactRemainderOf", spec := "fnExactRemainderOf", apart := false }
def FnExactRemainderOfSaid : Prop := fnExactRemainderOfRow.holds Try.pinned (OpenSpec.ofChange fnExactRemainderOfSpec)

/-- ITS FALSE NEIGHBOUR: 'it returns false'. Refute it at one input. -/
def fnExactRemainderOfWrong : ChangeSpec := { name := "fnExactRemainderOf", fn := fun _ => fun
  | [d1, d2] => { results := [.lit (.bool false)], args := [d1, d2] }
  | _ => none }
def FnExactRemainderOfWrongFalsely : Prop := fnExactRemainderOfRow.holds Try.pinned (OpenSpec.ofChange fnExactRemainderOfWrong)

/-- 'laws.FnExactIsPrimeNumber': WHATEVER THE INPUT: true; the input reads as it did. -/
def fnExactIsPrimeNumberSpec : ChangeSpec := { name := "fnExactIsPrimeNumber", fn := fun _ => fun
  | [d] => { results := [.lit (.bool true)], args := [d] }
  | _ => none }
def fnExactIsPrimeNumberRow : OpenClaim := { program := "ytkkjakjopmaocaa", sum := "8abb09f54c3c066f4f76b92aec31ca227b652779337d8058ce7a1ad7a65beab5", func := "loop.example/g01152/laws.FnExactIsPrimeNumber", spec := "fnExactIsPrimeNumber", apart := false }
def FnExactIsPrimeNumberSaid : Prop := fnExactIsPrimeNumberRow.holds Try.pinned (OpenSpec.ofChange fnExactIsPrimeNumberSpec)

/-- ITS FALSE NEIGHBOUR: 'it returns false'. Refute it at one input. -/
def fnExactIsPrimeNumberWrong : ChangeSpec := { name := "fnExactIsPrimeNumber", fn := fun _ => fun
  | [d] => { results := [.lit (.bool false)], args := [d] }
  | _ => none }
def FnExactIsPrimeNumberWrongFalsely : Prop := fnExactIsPrimeNumberRow.holds Try.pinned (OpenSpec.ofChange fnExactIsPrimeNumberWrong)

/-- 'laws.FnExactCommonDivisor': WHATEVER THE INPUT: true; the input reads as it did. -/
def fnExactCommonDivisorSpec : ChangeSpec := { name := "fnExactCommonDivisor", fn := fun _ => fun
  | [d1, d2] => { results := [.lit (.bool true)], args := [d1, d2] }
  | _ => none }
def fnExactCommonDivisorRow : OpenClaim := { program := "ytkkjakjopmaocaa", sum := "8abb09f54c3c066f4f76b92aec31ca227b652779337d8058ce7a1ad7a65beab5", func := "loop.example/g01152/laws.FnExactCommonDivisor", spec := "fnExactCommonDivisor", apart := false }
def FnExactCommonDivisorSaid : Prop := fnExactCommonDivisorRow.holds Try.pinned (OpenSpec.ofChange fnExactCommonDivisorSpec)

/-- ITS FALSE NEIGHBOUR: 'it returns false'. Refute it at one input. -/
def fnExactCommonDivisorWrong : ChangeSpec := { name := "fnExactCommonDivisor", fn := fun _ => fun
  | [d1, d2] => { results := [.lit (.bool false)], args := [d1, d2] }
  | _ => none }
def FnExactCommonDivisorWrongFalsely : Prop := fnExactCommonDivisorRow.holds Try.pinned (OpenSpec.ofChange fnExactCommonDivisorWrong)

/-- 'laws.FnExactBinomialNumber': WHATEVER THE INPUT: true; the input reads as it did. -/
def fnExactBinomialNumberSpec : ChangeSpec := { name := "fnExactBinomialNumber", fn := fun _ => fun
  | [d1, d2] => { results := [.lit (.bool true)], args := [d1, d2] }
  | _ => none }
def fnExactBinomialNumberRow : OpenClaim := { program := "ytkkjakjopmaocaa", sum := "8abb09f54c3c066f4f76b92aec31ca227b652779337d8058ce7a1ad7a65beab5", func := "loop.example/g01152/laws.FnExactBinomialNumber", spec := "fnExactBinomialNumber", apart := false }
def FnExactBinomialNumberSaid : Prop := fnExactBinomialNumberRow.holds Try.pinned (OpenSpec.ofChange fnExactBinomialNumberSpec)

/-- ITS FALSE NEIGHBOUR: 'it returns false'. Refute it at one input. -/
def fnExactBinomialNumberWrong : ChangeSpec := { name := "fnExactBinomialNumber", fn := fun _ => fun
  | [d1, d2] => { results := [.lit (.bool false)], args := [d1, d2] }
  | _ => none }
def FnExactBinomialNumberWrongFalsely : Prop := fnExactBinomialNumberRow.holds Try.pinned (OpenSpec.ofChange fnExactBinomialNumberWrong)

/-- 'laws.FnExactCountLaws': WHATEVER THE INPUT: true; the input reads as it did. -/
def fnExactCountLawsSpec : ChangeSpec := { name := "fnExactCountLaws", fn := fun _ => fun
  | [d1, d2] => { results := [.lit (.bool true)], args := [d1, d2] }
  | _ => none }
def fnExactCountLawsRow : OpenClaim := { program := "ytkkjakjopmaocaa", sum := "8abb09f54c3c066f4f76b92aec31ca227b652779337d8058ce7a1ad7a65beab5", func := "loop.example/g01152/laws.FnExactCountLaws", spec := "fnExactCountLaws", apart := false }
def FnExactCountLawsSaid : Prop := fnExactCountLawsRow.holds Try.pinned (OpenSpec.ofChange fnExactCountLawsSpec)

/-- ITS FALSE NEIGHBOUR: 'it returns false'. Refute it at one input. -/
def fnExactCountLawsWrong : ChangeSpec := { name := "fnExactCountLaws", fn := fun _ => fun
  | [d1, d2] => { results := [.lit (.bool false)], args := [d1, d2] }
  | _ => none }
def FnExactCountLawsWrongFalsely : Prop := fnExactCountLawsRow.holds Try.pinned (OpenSpec.ofChange fnExactCountLawsWrong)

/-- 'laws.FnExactCountUnits': WHATEVER THE INPUT: true; the input reads as it did. -/
def fnExactCountUnitsSpec : ChangeSpec := { name := "fnExactCountUnits", fn := fun _ => fun
  | [d] => { results := [.lit (.bool true)], args := [d] }
  | _ => none }
def fnExactCountUnitsRow : OpenClaim := { program := "ytkkjakjopmaocaa", sum := "8abb09f54c3c066f4f76b92aec31ca227b652779337d8058ce7a1ad7a65beab5", func := "loop.example/g01152/laws.FnExactCountUnits", spec := "fnExactCountUnits", apart := false }
def FnExactCountUnitsSaid : Prop := fnExactCountUnitsRow.holds Try.pinned (OpenSpec.ofChange fnExactCountUnitsSpec)

/-- ITS FALSE NEIGHBOUR: 'it returns false'. Refute it at one input. -/
def fnExactCountUnitsWrong : ChangeSpec := { name := "fnExactCountUnits", fn := fun _ => fun
  | [d] => { results := [.lit (.bool false)], args := [d] }
  | _ => none }
def FnExactCountUnitsWrongFalsely : Prop := fnExactCountUnitsRow.holds Try.pinned (OpenSpec.ofChange fnExactCountUnitsWrong)

/-- 'laws.FnExactValuationOf': WHATEVER THE INPUT: true; the input reads as it did. -/
def fnExactValuationOfSpec : ChangeSpec := { name := "fnExactValuationOf", fn := fun _ => fun
  | [d1, d2] => { results := [.lit (.bool true)], args := [d1, d2] }
  | _ => none }
def fnExactValuationOfRow : OpenClaim := { program := "ytkkjakjopmaocaa", sum := "8abb09f54c3c066f4f76b92aec31ca227b652779337d8058ce7a1ad7a65beab5", func := "loop.example/g01152/laws.FnExactValuationOf", spec := "fnExactValuationOf", apart := false }
def FnExactValuationOfSaid : Prop := fnExactValuationOfRow.holds Try.pinned (OpenSpec.ofChange fnExactValuationOfSpec)

/-- ITS FALSE NEIGHBOUR: 'it returns false'. Refute it at one input. -/
def fnExactValuationOfWrong : ChangeSpec := { name := "fnExactValuationOf", fn := fun _ => fun
  | [d1, d2] => { results := [.lit (.bool false)], args := [d1, d2] }
  | _ => none }
def FnExactValuationOfWrongFalsely : Prop := fnExactValuationOfRow.holds Try.pinned (OpenSpec.ofChange fnExactValuationOfWrong)

/-- 'laws.FnExactAddModulo': WHATEVER THE INPUT: true; the input reads as it did. -/
def fnExactAddModuloSpec : ChangeSpec := { name := "fnExactAddModulo", fn := fun _ => fun
  | [d1, d2, d3] => { results := [.lit (.bool true)], args := [d1, d2, d3] }
  | _ => none }
def fnExactAddModuloRow : OpenClaim := { program := "ytkkjakjopmaocaa", sum := "8abb09f54c3c066f4f76b92aec31ca227b652779337d8058ce7a1ad7a65beab5", func := "loop.example/g01152/laws.FnExactAddModulo", spec := "fnExactAddModulo", unfollowed := true, recurses := true, apart := false }
def FnExactAddModuloSaid : Prop := fnExactAddModuloRow.holds Try.pinned (OpenSpec.ofChange fnExactAddModuloSpec)

/-- ITS FALSE NEIGHBOUR: 'it returns false'. Refute it at one input. -/
def fnExactAddModuloWrong : ChangeSpec := { name := "fnExactAddModulo", fn := fun _ => fun
  | [d1, d2, d3] => { results := [.lit (.bool false)], args := [d1, d2, d3] }
  | _ => none }
def FnExactAddModuloWrongFalsely : Prop := fnExactAddModuloRow.holds Try.pinned (OpenSpec.ofChange fnExactAddModuloWrong)

/-- 'laws.FnExactMultiplyModulo': WHATEVER THE INPUT: true; the input reads as it did. -/
def fnExactMultiplyModuloSpec : ChangeSpec := { name := "fnExactMultiplyModulo", fn := fun _ => fun
  | [d1, d2, d3] => { results := [.lit (.bool true)], args := [d1, d2, d3] }
  | _ => none }
def fnExactMultiplyModuloRow : OpenClaim := { program := "ytkkjakjopmaocaa", sum := "8abb09f54c3c066f4f76b92aec31ca227b652779337d8058ce7a1ad7a65beab5", func := "loop.example/g01152/laws.FnExactMultiplyModulo", spec := "fnExactMultiplyModulo", unfollowed := true, recurses := true, apart := false }
def FnExactMultiplyModuloSaid : Prop := fnExactMultiplyModuloRow.holds Try.pinned (OpenSpec.ofChange fnExactMultiplyModuloSpec)

/-- ITS FALSE NEIGHBOUR: 'it returns false'. Refute it at one input. -/
def fnExactMultiplyModuloWrong : ChangeSpec := { name := "fnExactMultiplyModulo", fn := fun _ => fun
  | [d1, d2, d3] => { results := [.lit (.bool false)], args := [d1, d2, d3] }
  | _ => none }
def FnExactMultiplyModuloWrongFalsely : Prop := fnExactMultiplyModuloRow.holds Try.pinned (OpenSpec.ofChange fnExactMultiplyModuloWrong)

/-- 'laws.FnExactSolveModulo': WHATEVER THE INPUT: true; the input reads as it did. -/
def fnExactSolveModuloSpec : ChangeSpec := { name := "fnExactSolveModulo", fn := fun _ => fun
  | [d1, d2, d3] => { results := [.lit (.bool true)], args := [d1, d2, d3] }
  | _ => none }
def fnExactSolveModuloRow : OpenClaim := { program := "ytkkjakjopmaocaa", sum := "8abb09f54c3c066f4f76b92aec31ca227b652779337d8058ce7a1ad7a65beab5", func := "loop.example/g01152/laws.FnExactSolveModulo", spec := "fnExactSolveModulo", unfollowed := true, recurses := true, apart := false }
def FnExactSolveModuloSaid : Prop := fnExactSolveModuloRow.holds Try.pinned (OpenSpec.ofChange fnExactSolveModuloSpec)

/-- ITS FALSE NEIGHBOUR: 'it returns false'. Refute it at one input. -/
def fnExactSolveModuloWrong : ChangeSpec := { name := "fnExactSolveModulo", fn := fun _ => fun
  | [d1, d2, d3] => { results := [.lit (.bool false)], args := [d1, d2, d3] }
  | _ => none }
def FnExactSolveModuloWrongFalsely : Prop := fnExactSolveModuloRow.holds Try.pinned (OpenSpec.ofChange fnExactSolveModuloWrong)

/-- 'laws.FnExactBinomialDivisor': WHATEVER THE INPUT: true; the input reads as it did. -/
def fnExactBinomialDivisorSpec : ChangeSpec := { name := "fnExactBinomialDivisor", fn := fun _ => fun
  | [d] => { results := [.lit (.bool true)], args := [d] }
  | _ => none }
def fnExactBinomialDivisorRow : OpenClaim := { program := "ytkkjakjopmaocaa", sum := "8abb09f54c3c066f4f76b92aec31ca227b652779337d8058ce7a1ad7a65beab5", func := "loop.example/g01152/laws.FnExactBinomialDivisor", spec := "fnExactBinomialDivisor", apart := false }
def FnExactBinomialDivisorSaid : Prop := fnExactBinomialDivisorRow.holds Try.pinned (OpenSpec.ofChange fnExactBinomialDivisorSpec)

/-- ITS FALSE NEIGHBOUR: 'it returns false'. Refute it at one input. -/
def fnExactBinomialDivisorWrong : ChangeSpec := { name := "fnExactBinomialDivisor", fn := fun _ => fun
  | [d] => { results := [.lit (.bool false)], args := [d] }
  | _ => none }
def FnExactBinomialDivisorWrongFalsely : Prop := fnExactBinomialDivisorRow.holds Try.pinned (OpenSpec.ofChange fnExactBinomialDivisorWrong)

/- THE SECOND FORM. 'bulk': how many values and letters a reading holds, each counted each time it is reached (what is shared counts as often as it is met; a slice's spare places count too). A statement '..UptoSaid' is the law's where the arguments, and the package variables that the reading takes, are together of bulk at most 1048576: NARROWER than '..Said'. Prove '..Said' where nothing that the law and all that it calls make is longer than what came in: it says more and counts as full. Else prove '..UptoSaid'. A law counts once. -/
mutual
def uptoBulk {H : Type} : DataW H → Nat
  | .lit (.string bytes) => bytes.length + 1
  | .lit _ => 1
  | .nil => 1
  | .ptr d => uptoBulk d + 1
  | .slice elems spare => uptoBulkAll elems + uptoBulkAll spare + 1
  | .agg parts => uptoBulkAll parts + 1
  | .iface _ d => uptoBulk d + 1
  | .map entries => uptoBulkEntries entries + 1
  | .held _ => 1
def uptoBulkAll {H : Type} : List (DataW H) → Nat
  | [] => 0
  | d :: r => uptoBulk d + uptoBulkAll r
def uptoBulkEntries {H : Type} : List (Lit × DataW H) → Nat
  | [] => 0
  | x :: r => uptoBulkEntry x + uptoBulkEntries r
def uptoBulkEntry {H : Type} : Lit × DataW H → Nat
  | (.string bytes, d) => bytes.length + uptoBulk d + 1
  | (_, d) => uptoBulk d + 1
 end
def uptoSmall : (H : Type) → List (DataW H) → Bool := fun _ ds => decide (uptoBulkAll ds ≤ 1048576)
def OpenSpec.upto (s : _root_.Go.ChangeSpec) : _root_.Go.OpenSpec := { _root_.Go.OpenSpec.ofChange s with cond := some uptoSmall }

/-- 'laws.FnExactConstants', WHERE WHAT IT READS IS OF BULK AT MOST 1048576: true; the input reads as it did. -/
def fnExactConstantsUptoRow : OpenClaim := { program := "ytkkjakjopmaocaa", sum := "8abb09f54c3c066f4f76b92aec31ca227b652779337d8058ce7a1ad7a65beab5", func := "loop.example/g01152/laws.FnExactConstants", spec := "fnExactConstants", apart := false, narrowed := true }
def FnExactConstantsUptoSaid : Prop := fnExactConstantsUptoRow.holds Try.pinned (OpenSpec.upto fnExactConstantsSpec)

/-- 'laws.FnExactIsModulus', WHERE WHAT IT READS IS OF BULK AT MOST 1048576: true; the input reads as it did. -/
def fnExactIsModulusUptoRow : OpenClaim := { program := "ytkkjakjopmaocaa", sum := "8abb09f54c3c066f4f76b92aec31ca227b652779337d8058ce7a1ad7a65beab5", func := "loop.example/g01152/laws.FnExactIsModulus", spec := "fnExactIsModulus", apart := false, narrowed := true }
def FnExactIsModulusUptoSaid : Prop := fnExactIsModulusUptoRow.holds Try.pinned (OpenSpec.upto fnExactIsModulusSpec)

/-- 'laws.FnExactRemainderOf', WHERE WHAT IT READS IS OF BULK AT MOST 1048576: true; the input reads as it did. -/
def fnExactRemainderOfUptoRow : OpenClaim := { program := "ytkkjakjopmaocaa", sum := "8abb09f54c3c066f4f76b92aec31ca227b652779337d8058ce7a1ad7a65beab5", func := "loop.example/g01152/laws.FnExactRemainderOf", spec := "fnExactRemainderOf", apart := false, narrowed := true }
def FnExactRemainderOfUptoSaid : Prop := fnExactRemainderOfUptoRow.holds Try.pinned (OpenSpec.upto fnExactRemainderOfSpec)

/-- 'laws.FnExactIsPrimeNumber', WHERE WHAT IT READS IS OF BULK AT MOST 1048576: true; the input reads as it did. -/
def fnExactIsPrimeNumberUptoRow : OpenClaim := { program := "ytkkjakjopmaocaa", sum := "8abb09f54c3c066f4f76b92aec31ca227b652779337d8058ce7a1ad7a65beab5", func := "loop.example/g01152/laws.FnExactIsPrimeNumber", spec := "fnExactIsPrimeNumber", apart := false, narrowed := true }
def FnExactIsPrimeNumberUptoSaid : Prop := fnExactIsPrimeNumberUptoRow.holds Try.pinned (OpenSpec.upto fnExactIsPrimeNumberSpec)

/-- 'laws.FnExactCommonDivisor', WHERE WHAT IT READS IS OF BULK AT MOST 1048576: true; the input reads as it did. -/
def fnExactCommonDivisorUptoRow : OpenClaim := { program := "ytkkjakjopmaocaa", sum := "8abb09f54c3c066f4f76b92aec31ca227b652779337d8058ce7a1ad7a65beab5", func := "loop.example/g01152/laws.FnExactCommonDivisor", spec := "fnExactCommonDivisor", apart := false, narrowed := true }
def FnExactCommonDivisorUptoSaid : Prop := fnExactCommonDivisorUptoRow.holds Try.pinned (OpenSpec.upto fnExactCommonDivisorSpec)

/-- 'laws.FnExactBinomialNumber', WHERE WHAT IT READS IS OF BULK AT MOST 1048576: true; the input reads as it did. -/
def fnExactBinomialNumberUptoRow : OpenClaim := { program := "ytkkjakjopmaocaa", sum := "8abb09f54c3c066f4f76b92aec31ca227b652779337d8058ce7a1ad7a65beab5", func := "loop.example/g01152/laws.FnExactBinomialNumber", spec := "fnExactBinomialNumber", apart := false, narrowed := true }
def FnExactBinomialNumberUptoSaid : Prop := fnExactBinomialNumberUptoRow.holds Try.pinned (OpenSpec.upto fnExactBinomialNumberSpec)

/-- 'laws.FnExactCountLaws', WHERE WHAT IT READS IS OF BULK AT MOST 1048576: true; the input reads as it did. -/
def fnExactCountLawsUptoRow : OpenClaim := { program := "ytkkjakjopmaocaa", sum := "8abb09f54c3c066f4f76b92aec31ca227b652779337d8058ce7a1ad7a65beab5", func := "loop.example/g01152/laws.FnExactCountLaws", spec := "fnExactCountLaws", apart := false, narrowed := true }
def FnExactCountLawsUptoSaid : Prop := fnExactCountLawsUptoRow.holds Try.pinned (OpenSpec.upto fnExactCountLawsSpec)

/-- 'laws.FnExactCountUnits', WHERE WHAT IT READS IS OF BULK AT MOST 1048576: true; the input reads as it did. -/
def fnExactCountUnitsUptoRow : OpenClaim := { program := "ytkkjakjopmaocaa", sum := "8abb09f54c3c066f4f76b92aec31ca227b652779337d8058ce7a1ad7a65beab5", func := "loop.example/g01152/laws.FnExactCountUnits", spec := "fnExactCountUnits", apart := false, narrowed := true }
def FnExactCountUnitsUptoSaid : Prop := fnExactCountUnitsUptoRow.holds Try.pinned (OpenSpec.upto fnExactCountUnitsSpec)

/-- 'laws.FnExactValuationOf', WHERE WHAT IT READS IS OF BULK AT MOST 1048576: true; the input reads as it did. -/
def fnExactValuationOfUptoRow : OpenClaim := { program := "ytkkjakjopmaocaa", sum := "8abb09f54c3c066f4f76b92aec31ca227b652779337d8058ce7a1ad7a65beab5", func := "loop.example/g01152/laws.FnExactValuationOf", spec := "fnExactValuationOf", apart := false, narrowed := true }
def FnExactValuationOfUptoSaid : Prop := fnExactValuationOfUptoRow.holds Try.pinned (OpenSpec.upto fnExactValuationOfSpec)

/-- 'laws.FnExactAddModulo', WHERE WHAT IT READS IS OF BULK AT MOST 1048576: true; the input reads as it did. -/
def fnExactAddModuloUptoRow : OpenClaim := { program := "ytkkjakjopmaocaa", sum := "8abb09f54c3c066f4f76b92aec31ca227b652779337d8058ce7a1ad7a65beab5", func := "loop.example/g01152/laws.FnExactAddModulo", spec := "fnExactAddModulo", unfollowed := true, recurses := true, apart := false, narrowed := true }
def FnExactAddModuloUptoSaid : Prop := fnExactAddModuloUptoRow.holds Try.pinned (OpenSpec.upto fnExactAddModuloSpec)

/-- 'laws.FnExactMultiplyModulo', WHERE WHAT IT READS IS OF BULK AT MOST 1048576: true; the input reads as it did. -/
def fnExactMultiplyModuloUptoRow : OpenClaim := { program := "ytkkjakjopmaocaa", sum := "8abb09f54c3c066f4f76b92aec31ca227b652779337d8058ce7a1ad7a65beab5", func := "loop.example/g01152/laws.FnExactMultiplyModulo", spec := "fnExactMultiplyModulo", unfollowed := true, recurses := true, apart := false, narrowed := true }
def FnExactMultiplyModuloUptoSaid : Prop := fnExactMultiplyModuloUptoRow.holds Try.pinned (OpenSpec.upto fnExactMultiplyModuloSpec)

/-- 'laws.FnExactSolveModulo', WHERE WHAT IT READS IS OF BULK AT MOST 1048576: true; the input reads as it did. -/
def fnExactSolveModuloUptoRow : OpenClaim := { program := "ytkkjakjopmaocaa", sum := "8abb09f54c3c066f4f76b92aec31ca227b652779337d8058ce7a1ad7a65beab5", func := "loop.example/g01152/laws.FnExactSolveModulo", spec := "fnExactSolveModulo", unfollowed := true, recurses := true, apart := false, narrowed := true }
def FnExactSolveModuloUptoSaid : Prop := fnExactSolveModuloUptoRow.holds Try.pinned (OpenSpec.upto fnExactSolveModuloSpec)

/-- 'laws.FnExactBinomialDivisor', WHERE WHAT IT READS IS OF BULK AT MOST 1048576: true; the input reads as it did. -/
def fnExactBinomialDivisorUptoRow : OpenClaim := { program := "ytkkjakjopmaocaa", sum := "8abb09f54c3c066f4f76b92aec31ca227b652779337d8058ce7a1ad7a65beab5", func := "loop.example/g01152/laws.FnExactBinomialDivisor", spec := "fnExactBinomialDivisor", apart := false, narrowed := true }
def FnExactBinomialDivisorUptoSaid : Prop := fnExactBinomialDivisorUptoRow.holds Try.pinned (OpenSpec.upto fnExactBinomialDivisorSpec)

end Rows
end Go.Proofs.Ytkkjakjopmaocaa
