/-
  No cell of these rows narrows 'for every input' (looked for: loops, veiled, ifaces, maps, wideKeys, modest, calm, conditions, laid).
  DERIVED. THE GIVEN ROWS OF THIS SEAT. 6 by the template 'for every input the law returns true; each argument reads behind the call as it read before'; 0 by the template 'total and deterministic' (their statements: YtmppmnmkhfcoaaaTotals.lean).
  GIVEN WITH THE SEED: the statements are not yours to turn. If you find one false, say at which input.
  Laid BY PROGRAM, IN A SANDBOX (cutbox-rows.mjs): the forced cells as the released guide's own fill.sh prints them over the translation 71a0172ca26bcfcb… (all of the seat's roots in one cut). By AI agents, Wed Nov 11 2026. No macro, syntax, notation, axiom, sorry.
-/
import Derived.Test.YtmppmnmkhfcoaaaChecked
import GoSem.Claim
import GoSem.ClaimJoined
import GoSem.ClaimMapViews
import Derived.JoinedTies
import Derived.KernelRfl
namespace Go.Proofs.Ytmppmnmkhfcoaaa
/- THE CELL 'sum', in the pinned program and in every row, IS THE sha256 OF THE DUMP (.gsa) THAT YtmppmnmkhfcoaaaProg.lean LOADS. Nothing in Lean hashes anything: it is a label: what it is worth is what the hold of that sum in a sandbox is worth. -/
noncomputable def Try.pinned : Pinned := { name := "ytmppmnmkhfcoaaa", sum := "71a0172ca26bcfcb11ca48c82cbdc2bbb1efe68e0ba254bc55f93e3d07e9a3bf", checked := Try.checked }
namespace Rows
def none {H : Type} : Left H := { results := [], args := [] }

/-- 'laws.FnExactTangentLaw': WHATEVER THE INPUT: true; the input reads as it did. -/
def fnExactTangentLawSpec : ChangeSpec := { name := "fnExactTangentLaw", fn := fun _ => fun
  | [d1, d2, d3] => { results := [.lit (.bool true)], args := [d1, d2, d3] }
  | _ => none }
def fnExactTangentLawRow : OpenClaim := { program := "ytmppmnmkhfcoaaa", sum := "71a0172ca26bcfcb11ca48c82cbdc2bbb1efe68e0ba254bc55f93e3d07e9a3bf", func := "loop.example/g01152/laws.FnExactTangentLaw", spec := "fnExactTangentLaw", unfollowed := true, recurses := true, named := ["math/bits.divideError", "math/bits.overflowError"], apart := false }
def FnExactTangentLawSaid : Prop := fnExactTangentLawRow.holds Try.pinned (OpenSpec.ofChange fnExactTangentLawSpec)

/-- ITS FALSE NEIGHBOUR: 'it returns false'. Refute it at one input. -/
def fnExactTangentLawWrong : ChangeSpec := { name := "fnExactTangentLaw", fn := fun _ => fun
  | [d1, d2, d3] => { results := [.lit (.bool false)], args := [d1, d2, d3] }
  | _ => none }
def FnExactTangentLawWrongFalsely : Prop := fnExactTangentLawRow.holds Try.pinned (OpenSpec.ofChange fnExactTangentLawWrong)

/-- 'laws.FnExactScalePlane': WHATEVER THE INPUT: true; the input reads as it did. -/
def fnExactScalePlaneSpec : ChangeSpec := { name := "fnExactScalePlane", fn := fun _ => fun
  | [d1, d2] => { results := [.lit (.bool true)], args := [d1, d2] }
  | _ => none }
def fnExactScalePlaneRow : OpenClaim := { program := "ytmppmnmkhfcoaaa", sum := "71a0172ca26bcfcb11ca48c82cbdc2bbb1efe68e0ba254bc55f93e3d07e9a3bf", func := "loop.example/g01152/laws.FnExactScalePlane", spec := "fnExactScalePlane", unfollowed := true, recurses := true, named := ["math/bits.divideError", "math/bits.overflowError"], apart := false }
def FnExactScalePlaneSaid : Prop := fnExactScalePlaneRow.holds Try.pinned (OpenSpec.ofChange fnExactScalePlaneSpec)

/-- ITS FALSE NEIGHBOUR: 'it returns false'. Refute it at one input. -/
def fnExactScalePlaneWrong : ChangeSpec := { name := "fnExactScalePlane", fn := fun _ => fun
  | [d1, d2] => { results := [.lit (.bool false)], args := [d1, d2] }
  | _ => none }
def FnExactScalePlaneWrongFalsely : Prop := fnExactScalePlaneRow.holds Try.pinned (OpenSpec.ofChange fnExactScalePlaneWrong)

/-- 'laws.FnExactIsLaw': WHATEVER THE INPUT: true; the input reads as it did. -/
def fnExactIsLawSpec : ChangeSpec := { name := "fnExactIsLaw", fn := fun _ => fun
  | [d] => { results := [.lit (.bool true)], args := [d] }
  | _ => none }
def fnExactIsLawRow : OpenClaim := { program := "ytmppmnmkhfcoaaa", sum := "71a0172ca26bcfcb11ca48c82cbdc2bbb1efe68e0ba254bc55f93e3d07e9a3bf", func := "loop.example/g01152/laws.FnExactIsLaw", spec := "fnExactIsLaw", unfollowed := true, recurses := true, named := ["math/bits.divideError", "math/bits.overflowError"], apart := false }
def FnExactIsLawSaid : Prop := fnExactIsLawRow.holds Try.pinned (OpenSpec.ofChange fnExactIsLawSpec)

/-- ITS FALSE NEIGHBOUR: 'it returns false'. Refute it at one input. -/
def fnExactIsLawWrong : ChangeSpec := { name := "fnExactIsLaw", fn := fun _ => fun
  | [d] => { results := [.lit (.bool false)], args := [d] }
  | _ => none }
def FnExactIsLawWrongFalsely : Prop := fnExactIsLawRow.holds Try.pinned (OpenSpec.ofChange fnExactIsLawWrong)

/-- 'laws.FnExactEulerLaw': WHATEVER THE INPUT: true; the input reads as it did. -/
def fnExactEulerLawSpec : ChangeSpec := { name := "fnExactEulerLaw", fn := fun _ => fun
  | [d1, d2, d3, d4] => { results := [.lit (.bool true)], args := [d1, d2, d3, d4] }
  | _ => none }
def fnExactEulerLawRow : OpenClaim := { program := "ytmppmnmkhfcoaaa", sum := "71a0172ca26bcfcb11ca48c82cbdc2bbb1efe68e0ba254bc55f93e3d07e9a3bf", func := "loop.example/g01152/laws.FnExactEulerLaw", spec := "fnExactEulerLaw", unfollowed := true, recurses := true, named := ["math/bits.divideError", "math/bits.overflowError"], apart := false }
def FnExactEulerLawSaid : Prop := fnExactEulerLawRow.holds Try.pinned (OpenSpec.ofChange fnExactEulerLawSpec)

/-- ITS FALSE NEIGHBOUR: 'it returns false'. Refute it at one input. -/
def fnExactEulerLawWrong : ChangeSpec := { name := "fnExactEulerLaw", fn := fun _ => fun
  | [d1, d2, d3, d4] => { results := [.lit (.bool false)], args := [d1, d2, d3, d4] }
  | _ => none }
def FnExactEulerLawWrongFalsely : Prop := fnExactEulerLawRow.holds Try.pinned (OpenSpec.ofChange fnExactEulerLawWrong)

/-- 'laws.FnIntegers': WHATEVER THE INPUT: true; the input reads as it did. -/
def fnIntegersSpec : ChangeSpec := { name := "fnIntegers", fn := fun _ => fun
  | [d] => { results := [.lit (.bool true)], args := [d] }
  | _ => none }
def fnIntegersRow : OpenClaim := { program := "ytmppmnmkhfcoaaa", sum := "71a0172ca26bcfcb11ca48c82cbdc2bbb1efe68e0ba254bc55f93e3d07e9a3bf", func := "loop.example/g01152/laws.FnIntegers", spec := "fnIntegers", apart := false }
def FnIntegersSaid : Prop := fnIntegersRow.holds Try.pinned (OpenSpec.ofChange fnIntegersSpec)

/-- ITS FALSE NEIGHBOUR: 'it returns false'. Refute it at one input. -/
def fnIntegersWrong : ChangeSpec := { name := "fnIntegers", fn := fun _ => fun
  | [d] => { results := [.lit (.bool false)], args := [d] }
  | _ => none }
def FnIntegersWrongFalsely : Prop := fnIntegersRow.holds Try.pinned (OpenSpec.ofChange fnIntegersWrong)

/-- 'laws.FnModulo': WHATEVER THE INPUT: true; the input reads as it did. -/
def fnModuloSpec : ChangeSpec := { name := "fnModulo", fn := fun _ => fun
  | [d] => { results := [.lit (.bool true)], args := [d] }
  | _ => none }
def fnModuloRow : OpenClaim := { program := "ytmppmnmkhfcoaaa", sum := "71a0172ca26bcfcb11ca48c82cbdc2bbb1efe68e0ba254bc55f93e3d07e9a3bf", func := "loop.example/g01152/laws.FnModulo", spec := "fnModulo", unfollowed := true, recurses := true, named := ["math/bits.divideError", "math/bits.overflowError"], apart := false }
def FnModuloSaid : Prop := fnModuloRow.holds Try.pinned (OpenSpec.ofChange fnModuloSpec)

/-- ITS FALSE NEIGHBOUR: 'it returns false'. Refute it at one input. -/
def fnModuloWrong : ChangeSpec := { name := "fnModulo", fn := fun _ => fun
  | [d] => { results := [.lit (.bool false)], args := [d] }
  | _ => none }
def FnModuloWrongFalsely : Prop := fnModuloRow.holds Try.pinned (OpenSpec.ofChange fnModuloWrong)

/- THE SECOND FORM. 'bulk': how many values and letters a reading holds, each counted each time it is reached (what is shared counts as often as it is met; a slice's spare places count too). A statement '..UptoSaid' is the law's where the arguments, and the package variables that the reading takes, are together of bulk at most 1048576: NARROWER than '..Said'. Prove '..Said' where nothing that the law and all that it calls make is longer than what came in: it says more and counts as full. Else prove '..UptoSaid'. A law counts once. -/
mutual
def uptoBulk {H : Type} : DataW H → Nat
  | .lit (.string bytes) => bytes.length + 1
  | .lit _ => 1
  | .nil => 1
  | .ptr d => uptoBulk d + 1
  | .slice elems spare => uptoBulkAll elems + uptoBulkAll spare + 1
  | .agg parts => uptoBulkAll parts + 1
  | .iface _ d => uptoBulk d + 1
  | .map entries => uptoBulkEntries entries + 1
  | .held _ => 1
def uptoBulkAll {H : Type} : List (DataW H) → Nat
  | [] => 0
  | d :: r => uptoBulk d + uptoBulkAll r
def uptoBulkEntries {H : Type} : List (Lit × DataW H) → Nat
  | [] => 0
  | x :: r => uptoBulkEntry x + uptoBulkEntries r
def uptoBulkEntry {H : Type} : Lit × DataW H → Nat
  | (.string bytes, d) => bytes.length + uptoBulk d + 1
  | (_, d) => uptoBulk d + 1
 end
def uptoSmall : (H : Type) → List (DataW H) → Bool := fun _ ds => decide (uptoBulkAll ds ≤ 1048576)
def OpenSpec.upto (s : _root_.Go.ChangeSpec) : _root_.Go.OpenSpec := { _root_.Go.OpenSpec.ofChange s with cond := some uptoSmall }

/-- 'laws.FnExactTangentLaw', WHERE WHAT IT READS IS OF BULK AT MOST 1048576: true; the input reads as it did. -/
def fnExactTangentLawUptoRow : OpenClaim := { program := "ytmppmnmkhfcoaaa", sum := "71a0172ca26bcfcb11ca48c82cbdc2bbb1efe68e0ba254bc55f93e3d07e9a3bf", func := "loop.example/g01152/laws.FnExactTangentLaw", spec := "fnExactTangentLaw", unfollowed := true, recurses := true, named := ["math/bits.divideError", "math/bits.overflowError"], apart := false, narrowed := true }
def FnExactTangentLawUptoSaid : Prop := fnExactTangentLawUptoRow.holds Try.pinned (OpenSpec.upto fnExactTangentLawSpec)

/-- 'laws.FnExactScalePlane', WHERE WHAT IT READS IS OF BULK AT MOST 1048576: true; the input reads as it did. -/
def fnExactScalePlaneUptoRow : OpenClaim := { program := "ytmppmnmkhfcoaaa", sum := "71a0172ca26bcfcb11ca48c82cbdc2bbb1efe68e0ba254bc55f93e3d07e9a3bf", func := "loop.example/g01152/laws.FnExactScalePlane", spec := "fnExactScalePlane", unfollowed := true, recurses := true, named := ["math/bits.divideError", "math/bits.overflowError"], apart := false, narrowed := true }
def FnExactScalePlaneUptoSaid : Prop := fnExactScalePlaneUptoRow.holds Try.pinned (OpenSpec.upto fnExactScalePlaneSpec)

/-- 'laws.FnExactIsLaw', WHERE WHAT IT READS IS OF BULK AT MOST 1048576: true; the input reads as it did. -/
def fnExactIsLawUptoRow : OpenClaim := { program := "ytmppmnmkhfcoaaa", sum := "71a0172ca26bcfcb11ca48c82cbdc2bbb1efe68e0ba254bc55f93e3d07e9a3bf", func := "loop.example/g01152/laws.FnExactIsLaw", spec := "fnExactIsLaw", unfollowed := true, recurses := true, named := ["math/bits.divideError", "math/bits.overflowError"], apart := false, narrowed := true }
def FnExactIsLawUptoSaid : Prop := fnExactIsLawUptoRow.holds Try.pinned (OpenSpec.upto fnExactIsLawSpec)

/-- 'laws.FnExactEulerLaw', WHERE WHAT IT READS IS OF BULK AT MOST 1048576: true; the input reads as it did. -/
def fnExactEulerLawUptoRow : OpenClaim := { program := "ytmppmnmkhfcoaaa", sum := "71a0172ca26bcfcb11ca48c82cbdc2bbb1efe68e0ba254bc55f93e3d07e9a3bf", func := "loop.example/g01152/laws.FnExactEulerLaw", spec := "fnExactEulerLaw", unfollowed := true, recurses := true, named := ["math/bits.divideError", "math/bits.overflowError"], apart := false, narrowed := true }
def FnExactEulerLawUptoSaid : Prop := fnExactEulerLawUptoRow.holds Try.pinned (OpenSpec.upto fnExactEulerLawSpec)

/-- 'laws.FnIntegers', WHERE WHAT IT READS IS OF BULK AT MOST 1048576: true; the input reads as it did. -/
def fnIntegersUptoRow : OpenClaim := { program := "ytmppmnmkhfcoaaa", sum := "71a0172ca26bcfcb11ca48c82cbdc2bbb1efe68e0ba254bc55f93e3d07e9a3bf", func := "loop.example/g01152/laws.FnIntegers", spec := "fnIntegers", apart := false, narrowed := true }
def FnIntegersUptoSaid : Prop := fnIntegersUptoRow.holds Try.pinned (OpenSpec.upto fnIntegersSpec)

/-- 'laws.FnModulo', WHERE WHAT IT READS IS OF BULK AT MOST 1048576: true; the input reads as it did. -/
def fnModuloUptoRow : OpenClaim := { program := "ytmppmnmkhfcoaaa", sum := "71a0172ca26bcfcb11ca48c82cbdc2bbb1efe68e0ba254bc55f93e3d07e9a3bf", func := "loop.example/g01152/laws.FnModulo", spec := "fnModulo", unfollowed := true, recurses := true, named := ["math/bits.divideError", "math/bits.overflowError"], apart := false, narrowed := true }
def FnModuloUptoSaid : Prop := fnModuloUptoRow.holds Try.pinned (OpenSpec.upto fnModuloSpec)

end Rows
end Go.Proofs.Ytmppmnmkhfcoaaa
