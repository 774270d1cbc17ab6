/- Contracts over this seat's translation. Condition: each contract's own. -/
import Derived.Test.YtglbccikdglcgaaDoorD
import Derived.ProofKit
import Derived.Laws.Bits64b
import Derived.Lib.Mul64
import Derived.OpenShut
import Derived.Below
import Derived.ChangeSame
import Derived.Deep.Modes
import Derived.Lib.SmallJoins
import Derived.ChangeSlices
import Derived.WalkKit
import Derived.WalkSpells
import Derived.WalkLawsBesides
import Derived.Deep.QuietTactic
import Derived.BigQuiet
import Derived.Deep.RegionHeld3
import Derived.Deep.RegionWith
import Derived.Deep.RegionLaw
import Derived.Deep.AppendLies
import Derived.Laws.CopyOwn
import Derived.Deep.DeepCutAuto
import Derived.Deep.OwnRows
import Derived.Deep.LoopGhost
import Derived.Deep.DeepFit
import Derived.Deep.DeepMust
import Derived.Deep.Draws
import Derived.Deep.CutRange
import Derived.Maps.AppendAt
import Derived.Lib.Hide
import Derived.StillTailTactics
import Derived.Laws.MakeOwn
import Derived.Deep.Matrix
import Derived.ChangeAgain
import Derived.SizedLaws
import Derived.Handed
import Derived.Lib.SplitLaws
import Derived.Lib.ParseIntB
import Derived.Lib.ItoaMem
import Derived.Lib.Join
import Derived.Lib.IndexBytes
set_option linter.unusedVariables false
open Go Go.RowKit
namespace Go.Proofs.YtglbccikdglcgaaDoor
/-! ### The wrap of a row that lists variables, the world's shape kept -/
section
open Go.ChangeShapes Go.WideShapes
variable {H : Type} {enc : TypeId × Value → H}
theorem returnsInHanded_of_and_shaped {a : Assume} {C : Checked} {os : Os} {f : FuncId} {fn : Func} {s : ChangeSpec} {conds : List PathCond} {apart fresh handsOn again : Bool} {X : World → Array Value → Prop}
    (hX : ∀ (w w' : World) (args : Array Value), w.heap = w'.heap → X w args → X w' args)
    (own : ownKnob C.prog.godebug = none) (started : os.Started) (noInit : C.prog.inits.idxOf? f = none) (hfn : C.prog.funcs[f]? = some fn)
    (witness : ∃ (w : World) (tape : Tape) (i : Input), w.os = os ∧ (w.forCall tape i).Shaped C.prog ∧ i.vars = [] ∧ Input.okWide C.prog (w.forCall tape i) .any w.heap.size f i ∧
      ((s.pre enc C.prog fn conds apart (w.forCall tape i).memory i.args ∧ X (w.forCall tape i).memory i.args) ∧ sizedMet enc C.prog fn (OpenSpec.ofChange s) apart (w.forCall tape i).memory i.args) ∧ a.holds C.prog (lone (Frame.enter C.prog f i.args .normal) [] (w.forCall tape i)))
    (contract : ∀ (W : World) (base : Nat) (args : Array Value) (ds gs : List (DataW H)) (before : List MemPlace),
      (∀ (j : Nat) t v, fn.params[j]? = some t → args[j]? = some v → Value.okWide C.prog W .any base t v) →
      DataW.Whole enc C.prog fn.params.toList s.vars apart W args.toList ds gs before →
      conds.all (PathCond.test C.prog ⟨fn.params.toList, ds, s.plain.varTypes C.prog, gs⟩) = true →
      (DataW.weightsEach C.prog (fn.params.toList ++ s.plain.varTypes C.prog) (ds ++ gs)).all (· ≤ reachBytes) = true → X W args → W.ShapedOpen C.prog →
      a.holds C.prog (lone (Frame.enter C.prog f args .normal) [] W) →
      Calls C.prog f args W fun e W' => ∃ v, e = .returned v ∧ s.post enc C.prog fn apart fresh handsOn again W args v W') :
    ReturnsInHanded a C os f .any (fun w args => (s.pre enc C.prog fn conds apart w args ∧ X w args) ∧ sizedMet enc C.prog fn (OpenSpec.ofChange s) apart w args) (s.post enc C.prog fn apart fresh handsOn again) := by
  refine returnsInHanded_of_calls own started noInit witness ?_
  intro w tape i _ hsh _ hok hpre hholds
  obtain ⟨_, _, _, fn', hfn', _, _, _, _, hval⟩ := hok
  have e : fn' = fn := Option.some.inj (hfn'.symm.trans hfn)
  subst e
  obtain ⟨⟨⟨ds, gs, before, hw, hc⟩, hx⟩, hz⟩ := hpre
  have hw' := DataW.Whole.of_heap (w' := w.forCall tape i) (by rfl) hw
  refine (contract (w.forCall tape i) w.heap.size i.args ds gs before hval hw' hc (hz.weights hw) (hX _ _ _ (by rfl) hx) hsh hholds).mono fun e W' ⟨v, he, hp⟩ => ?_
  subst he
  exact ChangeSpec.post_blind hp
end

/-! ### The laws' walks, printed by genlaw3.py -/
set_option maxHeartbeats 4000000 in
theorem FnExactParseSeries_walk (w : World) (a0 : ByteArray) (hS : Std w) : Calls Tryd.prog 3 #[.string a0] w fun e w' => e = .returned (.bool true) ∧ Below w.heap.size w w' := by
  obtain ⟨r0, HR⟩ : ∃ r0, Hid (ParseSeriesR a0.data.toList = r0) := ⟨_, rfl⟩
  obtain ⟨⟨rm, rl⟩, rc⟩ := r0
  have hlen := ParseSeriesR_len a0.data.toList
  rw [HR.out] at hlen
  simp only at hlen
  have HSTD := Lib.hid hS
  clear hS
  by_cases hz0 : 1048576 < (a0.size : Int)
  · skip
    go_enter Tryd.func3, Tryd.ntmps3
    go_wp2
    go_ret
    exact ⟨rfl, by (repeat (first | assumption | exact Below.refl _ _ | refine Below.alloc ?_ (by first | omega | (simp; done) | (simp; omega)) _ | refine Below.setCell ?_ (by first | omega | (simp; done) | (simp; omega)) _ | refine below_drewN ?_ _))⟩
  have hl0 : (a0.size : Int) ≤ 1048576 := by omega
  go_enter Tryd.func3, Tryd.ntmps3
  go_wp2_with fail
  refine (sParseSeriesR_any _ a0 (by omega)).mono ?_
  rintro e w1 h_r
  replace h_r := h_r.of HR
  obtain ⟨A_ow, c_ow, rfl, o_ow, hb1⟩ := h_r
  have o_ow' := (o_ow.toB).mono (show w.heap.size ≤ _ from by first | exact Nat.le_refl _ | (simp; done) | (simp; omega)) (Nat.le_refl _)
  clear o_ow
  have R : Below w.heap.size w w1 := Below.trans (by (repeat (first | assumption | exact Below.refl _ _ | refine Below.alloc ?_ (by first | omega | (simp; done) | (simp; omega)) _ | refine Below.setCell ?_ (by first | omega | (simp; done) | (simp; omega)) _ | refine below_drewN ?_ _))) (hb1.mono (by first | exact Nat.le_refl _ | (simp; done) | (simp; omega)))
  have s1 : w.heap.size ≤ w1.heap.size := R.size
  have K1 : Hid (Below w.heap.size w w1) := R
  clear R hb1
  have ow : Hid (OwnB w1 w.heap.size w1.heap.size (.slice A_ow rl.length c_ow) rl) := o_ow'
  clear o_ow'
  go_wp2_with fail
  refine (iParseSeriesR_any _ a0 (by omega) ((HSTD.out.keep K1.out).keep (by (repeat (first | assumption | exact Below.refl _ _ | refine Below.alloc ?_ (by first | omega | (simp; done) | (simp; omega)) _ | refine Below.setCell ?_ (by first | omega | (simp; done) | (simp; omega)) _ | refine below_drewN ?_ _))))).mono ?_
  rintro e w2 h_r
  replace h_r := h_r.of HR
  obtain ⟨A_og, c_og, rfl, o_og, hb2⟩ := h_r
  have o_og' := (o_og.toB).mono (show (w1.heap.size + 1) ≤ _ from by first | exact Nat.le_refl _ | (simp; done) | (simp; omega)) (Nat.le_refl _)
  clear o_og
  have R : Below w1.heap.size w1 w2 := Below.trans (by (repeat (first | assumption | exact Below.refl _ _ | refine Below.alloc ?_ (by first | omega | (simp; done) | (simp; omega)) _ | refine Below.setCell ?_ (by first | omega | (simp; done) | (simp; omega)) _ | refine below_drewN ?_ _))) (hb2.mono (by first | exact Nat.le_refl _ | (simp; done) | (simp; omega)))
  have s2 : w1.heap.size ≤ w2.heap.size := R.size
  have K2 : Hid (Below w.heap.size w w2) := K1.out.trans (R.mono (by omega))
  replace ow : Hid (OwnB w2 w.heap.size w1.heap.size (.slice A_ow rl.length c_ow) rl) := ow.out.keep R
  have bw : Hid (Bx w2 w1.heap.size (.int .i64 rm) (.slice A_ow rl.length c_ow)) := ⟨by have := hb2.size; simp at this; omega, by rw [hb2.cell (by first | (simp; done) | (simp; omega))]; simp, by rw [hb2.cell (by first | (simp; done) | (simp; omega))]; simp⟩
  clear R hb2
  have og : Hid (OwnB w2 (w1.heap.size + 1) w2.heap.size (.slice A_og rl.length c_og) rl) := o_og'
  clear o_og'
  have bw_c := bw.out.2.1
  have bw_d := bw.out.2.2
  have bw_z := bw.out.1
  go_wp2_with fail
  refine (eqS_any _ rm rm _ _ _ _ (og.out.keep (by (repeat (first | assumption | exact Below.refl _ _ | refine Below.alloc ?_ (by first | omega | (simp; done) | (simp; omega)) _ | refine Below.setCell ?_ (by first | omega | (simp; done) | (simp; omega)) _ | refine below_drewN ?_ _)))).rd (ow.out.keep (by (repeat (first | assumption | exact Below.refl _ _ | refine Below.alloc ?_ (by first | omega | (simp; done) | (simp; omega)) _ | refine Below.setCell ?_ (by first | omega | (simp; done) | (simp; omega)) _ | refine below_drewN ?_ _)))).rd).mono ?_
  rintro e w3 ⟨rfl, hb3⟩
  clear bw_c bw_d bw_z
  have R : Below w2.heap.size w2 w3 := Below.trans (by (repeat (first | assumption | exact Below.refl _ _ | refine Below.alloc ?_ (by first | omega | (simp; done) | (simp; omega)) _ | refine Below.setCell ?_ (by first | omega | (simp; done) | (simp; omega)) _ | refine below_drewN ?_ _))) (hb3.mono (by first | exact Nat.le_refl _ | (simp; done) | (simp; omega)))
  have s3 : w2.heap.size ≤ w3.heap.size := R.size
  have K3 : Hid (Below w.heap.size w w3) := K2.out.trans (R.mono (by omega))
  replace bw : Hid (Bx w3 w1.heap.size (.int .i64 rm) (.slice A_ow rl.length c_ow)) := bw.out.keep R
  replace ow : Hid (OwnB w3 w.heap.size w1.heap.size (.slice A_ow rl.length c_ow) rl) := ow.out.keep R
  replace og : Hid (OwnB w3 (w1.heap.size + 1) w2.heap.size (.slice A_og rl.length c_og) rl) := og.out.keep R
  have bg : Hid (Bx w3 w2.heap.size (.int .i64 rm) (.slice A_og rl.length c_og)) := ⟨by have := hb3.size; simp at this; omega, by rw [hb3.cell (by first | (simp; done) | (simp; omega))]; simp, by rw [hb3.cell (by first | (simp; done) | (simp; omega))]; simp⟩
  clear R hb3
  have bw_c := bw.out.2.1
  have bw_d := bw.out.2.2
  have bw_z := bw.out.1
  have bg_c := bg.out.2.1
  have bg_d := bg.out.2.2
  have bg_z := bg.out.1
  go_wp2_with fail
  refine (markSB_any _ (w1.heap.size + 1) w2.heap.size rm _ rl (1) (og.out.keep (by (repeat (first | assumption | exact Below.refl _ _ | refine Below.alloc ?_ (by first | omega | (simp; done) | (simp; omega)) _ | refine Below.setCell ?_ (by first | omega | (simp; done) | (simp; omega)) _ | refine below_drewN ?_ _)))) (by omega) (by omega) (by omega)).mono ?_
  rintro e w4 ⟨rfl, o_m, hg4⟩
  clear bw_c bw_d bw_z
  clear bg_c bg_d bg_z
  have R : Within (w1.heap.size + 1) w2.heap.size w3 w4 := Within.behind (by (repeat (first | assumption | exact Below.refl _ _ | refine Below.alloc ?_ (by first | omega | (simp; done) | (simp; omega)) _ | refine Below.setCell ?_ (by first | omega | (simp; done) | (simp; omega)) _ | refine below_drewN ?_ _))) hg4
  have s4 : w3.heap.size ≤ w4.heap.size := R.2.2.2.1
  have K4 : Hid (Below w.heap.size w w4) := R.below K3.out (by omega) (by omega)
  replace bw : Hid (Bx w4 w1.heap.size (.int .i64 rm) (.slice A_ow rl.length c_ow)) := bw.out.within R (by omega)
  replace bg : Hid (Bx w4 w2.heap.size (.int .i64 rm) (.slice A_og rl.length c_og)) := bg.out.within R (by omega)
  replace ow : Hid (OwnB w4 w.heap.size w1.heap.size (.slice A_ow rl.length c_ow) rl) := ow.out.within R (by omega)
  clear R hg4
  replace og : Hid (OwnB w4 (w1.heap.size + 1) w2.heap.size (.slice A_og rl.length c_og) (marks (1) rl.length)) := o_m
  clear o_m
  have bw_c := bw.out.2.1
  have bw_d := bw.out.2.2
  have bw_z := bw.out.1
  have bg_c := bg.out.2.1
  have bg_d := bg.out.2.2
  have bg_z := bg.out.1
  go_wp2_with fail
  refine (heldSB_any _ (w1.heap.size + 1) w2.heap.size rm _ rl (1) (og.out.keep (by (repeat (first | assumption | exact Below.refl _ _ | refine Below.alloc ?_ (by first | omega | (simp; done) | (simp; omega)) _ | refine Below.setCell ?_ (by first | omega | (simp; done) | (simp; omega)) _ | refine below_drewN ?_ _)))) (by omega) (by omega) (by omega)).mono ?_
  rintro e w5 ⟨rfl, hb5⟩
  clear bw_c bw_d bw_z
  clear bg_c bg_d bg_z
  have R : Below w4.heap.size w4 w5 := Below.trans (by (repeat (first | assumption | exact Below.refl _ _ | refine Below.alloc ?_ (by first | omega | (simp; done) | (simp; omega)) _ | refine Below.setCell ?_ (by first | omega | (simp; done) | (simp; omega)) _ | refine below_drewN ?_ _))) (hb5.mono (by first | exact Nat.le_refl _ | (simp; done) | (simp; omega)))
  have s5 : w4.heap.size ≤ w5.heap.size := R.size
  have K5 : Hid (Below w.heap.size w w5) := K4.out.trans (R.mono (by omega))
  replace bw : Hid (Bx w5 w1.heap.size (.int .i64 rm) (.slice A_ow rl.length c_ow)) := bw.out.keep R
  replace bg : Hid (Bx w5 w2.heap.size (.int .i64 rm) (.slice A_og rl.length c_og)) := bg.out.keep R
  replace ow : Hid (OwnB w5 w.heap.size w1.heap.size (.slice A_ow rl.length c_ow) rl) := ow.out.keep R
  replace og : Hid (OwnB w5 (w1.heap.size + 1) w2.heap.size (.slice A_og rl.length c_og) (marks (1) rl.length)) := og.out.keep R
  clear R hb5
  have bw_c := bw.out.2.1
  have bw_d := bw.out.2.2
  have bw_z := bw.out.1
  have bg_c := bg.out.2.1
  have bg_d := bg.out.2.2
  have bg_z := bg.out.1
  go_wp2_with fail
  refine (iParseSeriesR_any _ a0 (by omega) ((HSTD.out.keep K5.out).keep (by (repeat (first | assumption | exact Below.refl _ _ | refine Below.alloc ?_ (by first | omega | (simp; done) | (simp; omega)) _ | refine Below.setCell ?_ (by first | omega | (simp; done) | (simp; omega)) _ | refine below_drewN ?_ _))))).mono ?_
  rintro e w6 h_r
  replace h_r := h_r.of HR
  obtain ⟨A_oh, c_oh, rfl, o_oh, hb6⟩ := h_r
  have o_oh' := (o_oh.toB).mono (show w5.heap.size ≤ _ from by first | exact Nat.le_refl _ | (simp; done) | (simp; omega)) (Nat.le_refl _)
  clear o_oh
  clear bw_c bw_d bw_z
  clear bg_c bg_d bg_z
  have R : Below w5.heap.size w5 w6 := Below.trans (by (repeat (first | assumption | exact Below.refl _ _ | refine Below.alloc ?_ (by first | omega | (simp; done) | (simp; omega)) _ | refine Below.setCell ?_ (by first | omega | (simp; done) | (simp; omega)) _ | refine below_drewN ?_ _))) (hb6.mono (by first | exact Nat.le_refl _ | (simp; done) | (simp; omega)))
  have s6 : w5.heap.size ≤ w6.heap.size := R.size
  have K6 : Hid (Below w.heap.size w w6) := K5.out.trans (R.mono (by omega))
  replace bw : Hid (Bx w6 w1.heap.size (.int .i64 rm) (.slice A_ow rl.length c_ow)) := bw.out.keep R
  replace bg : Hid (Bx w6 w2.heap.size (.int .i64 rm) (.slice A_og rl.length c_og)) := bg.out.keep R
  replace ow : Hid (OwnB w6 w.heap.size w1.heap.size (.slice A_ow rl.length c_ow) rl) := ow.out.keep R
  replace og : Hid (OwnB w6 (w1.heap.size + 1) w2.heap.size (.slice A_og rl.length c_og) (marks (1) rl.length)) := og.out.keep R
  clear R hb6
  have oh : Hid (OwnB w6 w5.heap.size w6.heap.size (.slice A_oh rl.length c_oh) rl) := o_oh'
  clear o_oh'
  have bw_c := bw.out.2.1
  have bw_d := bw.out.2.2
  have bw_z := bw.out.1
  have bg_c := bg.out.2.1
  have bg_d := bg.out.2.2
  have bg_z := bg.out.1
  go_wp2_with fail
  refine (eqS_any _ rm rm _ _ _ _ (oh.out.keep (by (repeat (first | assumption | exact Below.refl _ _ | refine Below.alloc ?_ (by first | omega | (simp; done) | (simp; omega)) _ | refine Below.setCell ?_ (by first | omega | (simp; done) | (simp; omega)) _ | refine below_drewN ?_ _)))).rd (ow.out.keep (by (repeat (first | assumption | exact Below.refl _ _ | refine Below.alloc ?_ (by first | omega | (simp; done) | (simp; omega)) _ | refine Below.setCell ?_ (by first | omega | (simp; done) | (simp; omega)) _ | refine below_drewN ?_ _)))).rd).mono ?_
  rintro e w7 ⟨rfl, hb7⟩
  clear bw_c bw_d bw_z
  clear bg_c bg_d bg_z
  have R : Below w6.heap.size w6 w7 := Below.trans (by (repeat (first | assumption | exact Below.refl _ _ | refine Below.alloc ?_ (by first | omega | (simp; done) | (simp; omega)) _ | refine Below.setCell ?_ (by first | omega | (simp; done) | (simp; omega)) _ | refine below_drewN ?_ _))) (hb7.mono (by first | exact Nat.le_refl _ | (simp; done) | (simp; omega)))
  have s7 : w6.heap.size ≤ w7.heap.size := R.size
  have K7 : Hid (Below w.heap.size w w7) := K6.out.trans (R.mono (by omega))
  replace bw : Hid (Bx w7 w1.heap.size (.int .i64 rm) (.slice A_ow rl.length c_ow)) := bw.out.keep R
  replace bg : Hid (Bx w7 w2.heap.size (.int .i64 rm) (.slice A_og rl.length c_og)) := bg.out.keep R
  replace ow : Hid (OwnB w7 w.heap.size w1.heap.size (.slice A_ow rl.length c_ow) rl) := ow.out.keep R
  replace og : Hid (OwnB w7 (w1.heap.size + 1) w2.heap.size (.slice A_og rl.length c_og) (marks (1) rl.length)) := og.out.keep R
  replace oh : Hid (OwnB w7 w5.heap.size w6.heap.size (.slice A_oh rl.length c_oh) rl) := oh.out.keep R
  have bh : Hid (Bx w7 w6.heap.size (.int .i64 rm) (.slice A_oh rl.length c_oh)) := ⟨by have := hb7.size; simp at this; omega, by rw [hb7.cell (by first | (simp; done) | (simp; omega))]; simp, by rw [hb7.cell (by first | (simp; done) | (simp; omega))]; simp⟩
  clear R hb7
  have bw_c := bw.out.2.1
  have bw_d := bw.out.2.2
  have bw_z := bw.out.1
  have bg_c := bg.out.2.1
  have bg_d := bg.out.2.2
  have bg_z := bg.out.1
  have bh_c := bh.out.2.1
  have bh_d := bh.out.2.2
  have bh_z := bh.out.1
  go_wp2_with fail
  refine (heldSB_any _ (w1.heap.size + 1) w2.heap.size rm _ rl (1) (og.out.keep (by (repeat (first | assumption | exact Below.refl _ _ | refine Below.alloc ?_ (by first | omega | (simp; done) | (simp; omega)) _ | refine Below.setCell ?_ (by first | omega | (simp; done) | (simp; omega)) _ | refine below_drewN ?_ _)))) (by omega) (by omega) (by omega)).mono ?_
  rintro e w8 ⟨rfl, hb8⟩
  clear bw_c bw_d bw_z
  clear bg_c bg_d bg_z
  clear bh_c bh_d bh_z
  have R : Below w7.heap.size w7 w8 := Below.trans (by (repeat (first | assumption | exact Below.refl _ _ | refine Below.alloc ?_ (by first | omega | (simp; done) | (simp; omega)) _ | refine Below.setCell ?_ (by first | omega | (simp; done) | (simp; omega)) _ | refine below_drewN ?_ _))) (hb8.mono (by first | exact Nat.le_refl _ | (simp; done) | (simp; omega)))
  have s8 : w7.heap.size ≤ w8.heap.size := R.size
  have K8 : Hid (Below w.heap.size w w8) := K7.out.trans (R.mono (by omega))
  replace bw : Hid (Bx w8 w1.heap.size (.int .i64 rm) (.slice A_ow rl.length c_ow)) := bw.out.keep R
  replace bg : Hid (Bx w8 w2.heap.size (.int .i64 rm) (.slice A_og rl.length c_og)) := bg.out.keep R
  replace bh : Hid (Bx w8 w6.heap.size (.int .i64 rm) (.slice A_oh rl.length c_oh)) := bh.out.keep R
  replace ow : Hid (OwnB w8 w.heap.size w1.heap.size (.slice A_ow rl.length c_ow) rl) := ow.out.keep R
  replace og : Hid (OwnB w8 (w1.heap.size + 1) w2.heap.size (.slice A_og rl.length c_og) (marks (1) rl.length)) := og.out.keep R
  replace oh : Hid (OwnB w8 w5.heap.size w6.heap.size (.slice A_oh rl.length c_oh) rl) := oh.out.keep R
  clear R hb8
  have bw_c := bw.out.2.1
  have bw_d := bw.out.2.2
  have bw_z := bw.out.1
  have bg_c := bg.out.2.1
  have bg_d := bg.out.2.2
  have bg_z := bg.out.1
  have bh_c := bh.out.2.1
  have bh_d := bh.out.2.2
  have bh_z := bh.out.1
  go_wp2
  go_ret
  exact ⟨rfl, K8.out⟩


end Go.Proofs.YtglbccikdglcgaaDoor
