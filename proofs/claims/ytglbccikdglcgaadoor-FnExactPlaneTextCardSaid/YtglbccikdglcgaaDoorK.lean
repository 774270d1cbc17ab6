/- Contracts over this seat's translation. Condition: each contract's own. -/
import Derived.Test.YtglbccikdglcgaaDoorJ
import Derived.ProofKit
import Derived.Laws.Bits64b
import Derived.Lib.Mul64
import Derived.OpenShut
import Derived.Below
import Derived.ChangeSame
import Derived.Deep.Modes
import Derived.Lib.SmallJoins
import Derived.ChangeSlices
import Derived.WalkKit
import Derived.WalkSpells
import Derived.WalkLawsBesides
import Derived.Deep.QuietTactic
import Derived.BigQuiet
import Derived.Deep.RegionHeld3
import Derived.Deep.RegionWith
import Derived.Deep.RegionLaw
import Derived.Deep.AppendLies
import Derived.Laws.CopyOwn
import Derived.Deep.DeepCutAuto
import Derived.Deep.OwnRows
import Derived.Deep.LoopGhost
import Derived.Deep.DeepFit
import Derived.Deep.DeepMust
import Derived.Deep.Draws
import Derived.Deep.CutRange
import Derived.Maps.AppendAt
import Derived.Lib.Hide
import Derived.StillTailTactics
import Derived.Laws.MakeOwn
import Derived.Deep.Matrix
import Derived.ChangeAgain
import Derived.SizedLaws
import Derived.Handed
import Derived.Lib.SplitLaws
import Derived.Lib.ParseIntB
import Derived.Lib.ItoaMem
import Derived.Lib.ItoaLen
import Derived.Laws.BytesArg
import Derived.Lib.Join
import Derived.Lib.IndexBytes
set_option linter.unusedVariables false
open Go Go.RowKit
namespace Go.Proofs.YtglbccikdglcgaaDoor
/-! ### The laws' walks, printed by genlaw3.py -/
set_option maxHeartbeats 4000000 in
theorem FnExactPlaneText_walk (w : World) (m0 : Int) (v0 : Value) (xs0 : List (List Int)) (hv0 : RdP w v0 xs0) (hS : Tab w) : Calls Tryd.prog 6 #[.agg #[.int .i64 m0, v0]] w fun e w' => e = .returned (.bool true) ∧ Below w.heap.size w w' := by
  obtain ⟨A0, c0, e0⟩ := hv0.form
  subst e0
  obtain ⟨r0, HR⟩ : ∃ r0, Hid (PlaneTextR m0 xs0 = r0) := ⟨_, rfl⟩
  obtain ⟨rt, rc⟩ := r0
  have HSTD := Lib.hid hS
  clear hS
  by_cases hz0 : 1048576 < ((szP xs0) : Int)
  · skip
    have HZ0 := Lib.hid (szN_lt hz0)
    go_enter Tryd.func6, Tryd.ntmps6
    go_wp2_with fail
    refine (szP_any _ m0 _ xs0 (1048576) (hv0.below (by (repeat (first | assumption | exact Below.refl _ _ | refine Below.alloc ?_ (by first | omega | (simp; done) | (simp; omega)) _ | refine Below.setCell ?_ (by first | omega | (simp; done) | (simp; omega)) _ | refine below_drewN ?_ _)))) (by omega) (by omega)).mono ?_
    rintro e w1 ⟨rfl, hb1⟩
    rw [HZ0.out]
    have R : Below w.heap.size w w1 := Below.trans (by (repeat (first | assumption | exact Below.refl _ _ | refine Below.alloc ?_ (by first | omega | (simp; done) | (simp; omega)) _ | refine Below.setCell ?_ (by first | omega | (simp; done) | (simp; omega)) _ | refine below_drewN ?_ _))) (hb1.mono (by first | exact Nat.le_refl _ | (simp; done) | (simp; omega)))
    have s1 : w.heap.size ≤ w1.heap.size := R.size
    have K1 : Hid (Below w.heap.size w w1) := R
    have b0 : Hid (Bx w1 w.heap.size (.int .i64 m0) (.slice A0 xs0.length c0)) := ⟨by have := hb1.size; simp at this; omega, by rw [hb1.cell (by first | (simp; done) | (simp; omega))]; simp, by rw [hb1.cell (by first | (simp; done) | (simp; omega))]; simp⟩
    clear R hb1
    have b0_c := b0.out.2.1
    have b0_d := b0.out.2.2
    have b0_z := b0.out.1
    go_wp2
    go_ret
    exact ⟨rfl, K1.out⟩
  have HZ0 := Lib.hid (szN_ge hz0)
  have hl0 : ((szP xs0) : Int) ≤ 1048576 := by omega
  clear hz0
  have hq0 := cntP_le_szP xs0
  have hq0' := length_le_szP xs0
  go_enter Tryd.func6, Tryd.ntmps6
  go_wp2_with fail
  refine (szP_any _ m0 _ xs0 (1048576) (hv0.below (by (repeat (first | assumption | exact Below.refl _ _ | refine Below.alloc ?_ (by first | omega | (simp; done) | (simp; omega)) _ | refine Below.setCell ?_ (by first | omega | (simp; done) | (simp; omega)) _ | refine below_drewN ?_ _)))) (by omega) (by omega)).mono ?_
  rintro e w2 ⟨rfl, hb2⟩
  rw [HZ0.out]
  have R : Below w.heap.size w w2 := Below.trans (by (repeat (first | assumption | exact Below.refl _ _ | refine Below.alloc ?_ (by first | omega | (simp; done) | (simp; omega)) _ | refine Below.setCell ?_ (by first | omega | (simp; done) | (simp; omega)) _ | refine below_drewN ?_ _))) (hb2.mono (by first | exact Nat.le_refl _ | (simp; done) | (simp; omega)))
  have s2 : w.heap.size ≤ w2.heap.size := R.size
  have K2 : Hid (Below w.heap.size w w2) := R
  have b0 : Hid (Bx w2 w.heap.size (.int .i64 m0) (.slice A0 xs0.length c0)) := ⟨by have := hb2.size; simp at this; omega, by rw [hb2.cell (by first | (simp; done) | (simp; omega))]; simp, by rw [hb2.cell (by first | (simp; done) | (simp; omega))]; simp⟩
  clear R hb2
  have b0_c := b0.out.2.1
  have b0_d := b0.out.2.2
  have b0_z := b0.out.1
  go_wp2_with fail
  refine (toP_any _ m0 _ xs0 (hv0.below K2.out) (by omega)).mono ?_
  rintro e w3 ⟨A_p0, c_p0, rfl, o_p0, hb3⟩
  clear b0_c b0_d b0_z
  have o_p0' := (o_p0).mono (show w2.heap.size ≤ _ from by first | exact Nat.le_refl _ | (simp; done) | (simp; omega)) (Nat.le_refl _)
  clear o_p0
  have R : Below w2.heap.size w2 w3 := Below.trans (by (repeat (first | assumption | exact Below.refl _ _ | refine Below.alloc ?_ (by first | omega | (simp; done) | (simp; omega)) _ | refine Below.setCell ?_ (by first | omega | (simp; done) | (simp; omega)) _ | refine below_drewN ?_ _))) (hb3.mono (by first | exact Nat.le_refl _ | (simp; done) | (simp; omega)))
  have s3 : w2.heap.size ≤ w3.heap.size := R.size
  have K3 : Hid (Below w.heap.size w w3) := K2.out.trans (R.mono (by omega))
  replace b0 : Hid (Bx w3 w.heap.size (.int .i64 m0) (.slice A0 xs0.length c0)) := b0.out.keep R
  clear R hb3
  have p0 : Hid (OwnP w3 w2.heap.size w3.heap.size (.slice A_p0 xs0.length c_p0) xs0) := o_p0'
  clear o_p0'
  have b0_c := b0.out.2.1
  have b0_d := b0.out.2.2
  have b0_z := b0.out.1
  go_wp2_with fail
  refine (sPlaneTextR_any _ m0 (.slice A_p0 xs0.length c_p0) xs0 w2.heap.size w3.heap.size (p0.out.keep (by (repeat (first | assumption | exact Below.refl _ _ | refine Below.alloc ?_ (by first | omega | (simp; done) | (simp; omega)) _ | refine Below.setCell ?_ (by first | omega | (simp; done) | (simp; omega)) _ | refine below_drewN ?_ _)))) (by omega)).mono ?_
  rintro e w4 h_r
  replace h_r := h_r.of HR
  obtain ⟨rfl, hb4⟩ := h_r
  clear b0_c b0_d b0_z
  have R : Below w3.heap.size w3 w4 := Below.trans (by (repeat (first | assumption | exact Below.refl _ _ | refine Below.alloc ?_ (by first | omega | (simp; done) | (simp; omega)) _ | refine Below.setCell ?_ (by first | omega | (simp; done) | (simp; omega)) _ | refine below_drewN ?_ _))) (hb4.mono (by first | exact Nat.le_refl _ | (simp; done) | (simp; omega)))
  have s4 : w3.heap.size ≤ w4.heap.size := R.size
  have K4 : Hid (Below w.heap.size w w4) := K3.out.trans (R.mono (by omega))
  replace b0 : Hid (Bx w4 w.heap.size (.int .i64 m0) (.slice A0 xs0.length c0)) := b0.out.keep R
  replace p0 : Hid (OwnP w4 w2.heap.size w3.heap.size (.slice A_p0 xs0.length c_p0) xs0) := p0.out.keep R
  clear R hb4
  clear p0
  have b0_c := b0.out.2.1
  have b0_d := b0.out.2.2
  have b0_z := b0.out.1
  go_wp2_with fail
  refine (toP_any _ m0 _ xs0 (hv0.below K4.out) (by omega)).mono ?_
  rintro e w5 ⟨A_x0, c_x0, rfl, o_x0, hb5⟩
  clear b0_c b0_d b0_z
  have o_x0' := (o_x0).mono (show w4.heap.size ≤ _ from by first | exact Nat.le_refl _ | (simp; done) | (simp; omega)) (Nat.le_refl _)
  clear o_x0
  have R : Below w4.heap.size w4 w5 := Below.trans (by (repeat (first | assumption | exact Below.refl _ _ | refine Below.alloc ?_ (by first | omega | (simp; done) | (simp; omega)) _ | refine Below.setCell ?_ (by first | omega | (simp; done) | (simp; omega)) _ | refine below_drewN ?_ _))) (hb5.mono (by first | exact Nat.le_refl _ | (simp; done) | (simp; omega)))
  have s5 : w4.heap.size ≤ w5.heap.size := R.size
  have K5 : Hid (Below w.heap.size w w5) := K4.out.trans (R.mono (by omega))
  replace b0 : Hid (Bx w5 w.heap.size (.int .i64 m0) (.slice A0 xs0.length c0)) := b0.out.keep R
  clear R hb5
  have x0 : Hid (OwnP w5 w4.heap.size w5.heap.size (.slice A_x0 xs0.length c_x0) xs0) := o_x0'
  clear o_x0'
  have b0_c := b0.out.2.1
  have b0_d := b0.out.2.2
  have b0_z := b0.out.1
  go_wp2_with fail
  refine (iPlaneTextR_any _ m0 (.slice A_x0 xs0.length c_x0) xs0 w4.heap.size w5.heap.size (x0.out.keep (by (repeat (first | assumption | exact Below.refl _ _ | refine Below.alloc ?_ (by first | omega | (simp; done) | (simp; omega)) _ | refine Below.setCell ?_ (by first | omega | (simp; done) | (simp; omega)) _ | refine below_drewN ?_ _)))) (by omega) ((HSTD.out.keep K5.out).keep (by (repeat (first | assumption | exact Below.refl _ _ | refine Below.alloc ?_ (by first | omega | (simp; done) | (simp; omega)) _ | refine Below.setCell ?_ (by first | omega | (simp; done) | (simp; omega)) _ | refine below_drewN ?_ _))))).mono ?_
  rintro e w6 h_r
  replace h_r := h_r.of HR
  obtain ⟨rfl, hb6⟩ := h_r
  clear b0_c b0_d b0_z
  have R : Below w5.heap.size w5 w6 := Below.trans (by (repeat (first | assumption | exact Below.refl _ _ | refine Below.alloc ?_ (by first | omega | (simp; done) | (simp; omega)) _ | refine Below.setCell ?_ (by first | omega | (simp; done) | (simp; omega)) _ | refine below_drewN ?_ _))) (hb6.mono (by first | exact Nat.le_refl _ | (simp; done) | (simp; omega)))
  have s6 : w5.heap.size ≤ w6.heap.size := R.size
  have K6 : Hid (Below w.heap.size w w6) := K5.out.trans (R.mono (by omega))
  replace b0 : Hid (Bx w6 w.heap.size (.int .i64 m0) (.slice A0 xs0.length c0)) := b0.out.keep R
  replace x0 : Hid (OwnP w6 w4.heap.size w5.heap.size (.slice A_x0 xs0.length c_x0) xs0) := x0.out.keep R
  have bx0 : Hid (Bx w6 w5.heap.size (.int .i64 m0) (.slice A_x0 xs0.length c_x0)) := ⟨by have := hb6.size; simp at this; omega, by rw [hb6.cell (by first | (simp; done) | (simp; omega))]; simp, by rw [hb6.cell (by first | (simp; done) | (simp; omega))]; simp⟩
  clear R hb6
  have b0_c := b0.out.2.1
  have b0_d := b0.out.2.2
  have b0_z := b0.out.1
  have bx0_c := bx0.out.2.1
  have bx0_d := bx0.out.2.2
  have bx0_z := bx0.out.1
  go_wp2
  clear b0_c b0_d b0_z
  clear bx0_c bx0_d bx0_z
  have L0 : Below w.heap.size w w6.drew := below_drew K6.out
  have T0 : Hid (Bx w6.drew w.heap.size (.int .i64 m0) (.slice A0 xs0.length c0) ∧ Bx w6.drew w5.heap.size (.int .i64 m0) (.slice A_x0 xs0.length c_x0) ∧ OwnP w6.drew w4.heap.size w5.heap.size (.slice A_x0 xs0.length c_x0) xs0 ∧ Below w.heap.size w w6.drew ∧ w6.heap.size ≤ w6.drew.heap.size) := ⟨b0.out, bx0.out, x0.out, L0, Nat.le_refl _⟩
  go_region_held3 (fun w' => w'.cell? ⟨w.heap.size, 0, none⟩ = some (.int .i64 m0) ∧ w'.cell? ⟨w.heap.size, 1, none⟩ = some (.slice A0 xs0.length c0) ∧ w'.cell? ⟨w5.heap.size, 0, none⟩ = some (.int .i64 m0) ∧ w'.cell? ⟨w5.heap.size, 1, none⟩ = some (.slice A_x0 xs0.length c_x0) ∧ Hid (Bx w' w.heap.size (.int .i64 m0) (.slice A0 xs0.length c0) ∧ Bx w' w5.heap.size (.int .i64 m0) (.slice A_x0 xs0.length c_x0) ∧ OwnP w' w4.heap.size w5.heap.size (.slice A_x0 xs0.length c_x0) xs0 ∧ Below w.heap.size w w' ∧ w6.heap.size ≤ w'.heap.size))
    (first | exact ⟨(T0.out.1).2.1, (T0.out.1).2.2, (T0.out.2.1).2.1, (T0.out.2.1).2.2, T0⟩ | exact ⟨(T1.out.1).2.1, (T1.out.1).2.2, (T1.out.2.1).2.1, (T1.out.2.1).2.2, T1⟩ | exact ⟨(T2.out.1).2.1, (T2.out.1).2.2, (T2.out.2.1).2.1, (T2.out.2.1).2.2, T2⟩)
    (first
      | (go_at_call 23; refine (toP_any _ m0 _ xs0 (hv0.below L0) (by omega)).mono ?_; rintro e w7 ⟨A_t, c_t, rfl, o_t, hbA⟩; have T1 : Hid (Bx w7 w.heap.size (.int .i64 m0) (.slice A0 xs0.length c0) ∧ Bx w7 w5.heap.size (.int .i64 m0) (.slice A_x0 xs0.length c_x0) ∧ OwnP w7 w4.heap.size w5.heap.size (.slice A_x0 xs0.length c_x0) xs0 ∧ Below w.heap.size w w7 ∧ w6.heap.size ≤ w7.heap.size) := ⟨(T0.out.1).keep hbA, (T0.out.2.1).keep hbA, (T0.out.2.2.1).keep hbA, (T0.out.2.2.2.1).trans (hbA.mono (Nat.le_trans (show w.heap.size ≤ w6.heap.size from by omega) (T0.out.2.2.2.2))), Nat.le_trans (T0.out.2.2.2.2) hbA.size⟩)
      | (go_at_call 14; refine (eqP_any _ m0 m0 _ _ xs0 xs0 (T1.out.2.2.1).rd o_t.rd).mono ?_; rintro e w8 ⟨rfl, hbB⟩; have T2 : Hid (Bx w8 w.heap.size (.int .i64 m0) (.slice A0 xs0.length c0) ∧ Bx w8 w5.heap.size (.int .i64 m0) (.slice A_x0 xs0.length c_x0) ∧ OwnP w8 w4.heap.size w5.heap.size (.slice A_x0 xs0.length c_x0) xs0 ∧ Below w.heap.size w w8 ∧ w6.heap.size ≤ w8.heap.size) := ⟨(T1.out.1).keep hbB, (T1.out.2.1).keep hbB, (T1.out.2.2.1).keep hbB, (T1.out.2.2.2.1).trans (hbB.mono (Nat.le_trans (show w.heap.size ≤ w6.heap.size from by omega) (T1.out.2.2.2.2))), Nat.le_trans (T1.out.2.2.2.2) hbB.size⟩))
  have s8 : w6.heap.size ≤ w8.heap.size := T2.out.2.2.2.2
  have K8 : Hid (Below w.heap.size w w8) := T2.out.2.2.2.1
  replace b0 : Hid (Bx w8 w.heap.size (.int .i64 m0) (.slice A0 xs0.length c0)) := T2.out.1
  replace bx0 : Hid (Bx w8 w5.heap.size (.int .i64 m0) (.slice A_x0 xs0.length c_x0)) := T2.out.2.1
  replace x0 : Hid (OwnP w8 w4.heap.size w5.heap.size (.slice A_x0 xs0.length c_x0) xs0) := T2.out.2.2.1
  clear T0 T1 T2 L0 o_t
  have b0_c := b0.out.2.1
  have b0_d := b0.out.2.2
  have b0_z := b0.out.1
  have bx0_c := bx0.out.2.1
  have bx0_d := bx0.out.2.2
  have bx0_z := bx0.out.1
  go_wp2
  go_ret
  exact ⟨rfl, K8.out⟩


end Go.Proofs.YtglbccikdglcgaaDoor
