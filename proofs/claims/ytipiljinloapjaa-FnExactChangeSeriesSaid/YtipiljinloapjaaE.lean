/- Contracts over this seat's translation. Condition: each contract's own. -/
import Derived.Test.YtipiljinloapjaaD
import Derived.ProofKit
import Derived.OpenShut
import Derived.Below
import Derived.ChangeSame
import Derived.Deep.Modes
import Derived.Lib.SmallJoins
import Derived.ChangeSlices
import Derived.WalkKit
import Derived.WalkSpells
import Derived.WalkLawsBesides
import Derived.Deep.QuietTactic
import Derived.BigQuiet
import Derived.Deep.RegionHeld3
import Derived.Deep.RegionWith
import Derived.Deep.RegionLaw
import Derived.Deep.AppendLies
import Derived.Laws.CopyOwn
import Derived.Deep.DeepCutAuto
import Derived.Deep.OwnRows
import Derived.Deep.LoopGhost
import Derived.Deep.DeepFit
import Derived.Deep.DeepMust
import Derived.Deep.Draws
import Derived.Deep.CutRange
import Derived.Maps.AppendAt
import Derived.Lib.Hide
import Derived.StillTailTactics
import Derived.Laws.MakeOwn
set_option linter.unusedVariables false
open Go Go.RowKit
namespace Go.Proofs.Ytipiljinloapjaa
/-! ### The laws' walks, printed by genlaw.py -/
set_option maxHeartbeats 4000000 in
theorem FnExactOrderOfSeries_walk (w : World) (m0 : Int) (v0 : Value) (xs0 : List Int) (hv0 : RdI w v0 xs0) : Calls Try.prog 8 #[.agg #[.int .i64 m0, v0]] w fun e w' => e = .returned (.bool true) ∧ Below w.heap.size w w' := by
  obtain ⟨A0, c0, e0⟩ := hv0.form
  subst e0
  obtain ⟨r0, HR⟩ : ∃ r0, Hid (OrderOfSeriesR m0 xs0 = r0) := ⟨_, rfl⟩
  obtain ⟨r, rc⟩ := r0
  by_cases hz0 : 1048576 < (xs0.length : Int)
  · skip
    have HZ0 := Lib.hid (szN_lt hz0)
    go_enter Try.func8, Try.ntmps8
    go_wp2_with fail
    refine (szS_any _ m0 _ xs0 (1048576) (hv0.below (by (repeat (first | assumption | exact Below.refl _ _ | refine Below.alloc ?_ (by first | omega | (simp; done) | (simp; omega)) _ | refine Below.setCell ?_ (by first | omega | (simp; done) | (simp; omega)) _ | refine below_drewN ?_ _)))) (by omega) (by omega)).mono ?_
    rintro e w1 ⟨rfl, hb1⟩
    rw [HZ0.out]
    have R : Below w.heap.size w w1 := Below.trans (by (repeat (first | assumption | exact Below.refl _ _ | refine Below.alloc ?_ (by first | omega | (simp; done) | (simp; omega)) _ | refine Below.setCell ?_ (by first | omega | (simp; done) | (simp; omega)) _ | refine below_drewN ?_ _))) (hb1.mono (by first | exact Nat.le_refl _ | (simp; done) | (simp; omega)))
    have s1 : w.heap.size ≤ w1.heap.size := R.size
    have K1 : Hid (Below w.heap.size w w1) := R
    have b0 : Hid (Bx w1 w.heap.size (.int .i64 m0) (.slice A0 xs0.length c0)) := ⟨by have := hb1.size; simp at this; omega, by rw [hb1.cell (by first | (simp; done) | (simp; omega))]; simp, by rw [hb1.cell (by first | (simp; done) | (simp; omega))]; simp⟩
    clear R hb1
    have b0_c := b0.out.2.1
    have b0_d := b0.out.2.2
    have b0_z := b0.out.1
    go_wp2
    go_ret
    exact ⟨rfl, K1.out⟩
  have HZ0 := Lib.hid (szN_ge hz0)
  have hl0 : (xs0.length : Int) ≤ 1048576 := by omega
  clear hz0
  go_enter Try.func8, Try.ntmps8
  go_wp2_with fail
  refine (szS_any _ m0 _ xs0 (1048576) (hv0.below (by (repeat (first | assumption | exact Below.refl _ _ | refine Below.alloc ?_ (by first | omega | (simp; done) | (simp; omega)) _ | refine Below.setCell ?_ (by first | omega | (simp; done) | (simp; omega)) _ | refine below_drewN ?_ _)))) (by omega) (by omega)).mono ?_
  rintro e w2 ⟨rfl, hb2⟩
  rw [HZ0.out]
  have R : Below w.heap.size w w2 := Below.trans (by (repeat (first | assumption | exact Below.refl _ _ | refine Below.alloc ?_ (by first | omega | (simp; done) | (simp; omega)) _ | refine Below.setCell ?_ (by first | omega | (simp; done) | (simp; omega)) _ | refine below_drewN ?_ _))) (hb2.mono (by first | exact Nat.le_refl _ | (simp; done) | (simp; omega)))
  have s2 : w.heap.size ≤ w2.heap.size := R.size
  have K2 : Hid (Below w.heap.size w w2) := R
  have b0 : Hid (Bx w2 w.heap.size (.int .i64 m0) (.slice A0 xs0.length c0)) := ⟨by have := hb2.size; simp at this; omega, by rw [hb2.cell (by first | (simp; done) | (simp; omega))]; simp, by rw [hb2.cell (by first | (simp; done) | (simp; omega))]; simp⟩
  clear R hb2
  have b0_c := b0.out.2.1
  have b0_d := b0.out.2.2
  have b0_z := b0.out.1
  go_wp2_with fail
  refine (toS_any _ m0 _ xs0 (hv0.below K2.out) (by omega)).mono ?_
  rintro e w3 ⟨A_p0, c_p0, rfl, o_p0, hb3⟩
  clear b0_c b0_d b0_z
  have o_p0' := o_p0.mono (show w2.heap.size ≤ _ from by first | exact Nat.le_refl _ | (simp; done) | (simp; omega))
  clear o_p0
  have R : Below w2.heap.size w2 w3 := Below.trans (by (repeat (first | assumption | exact Below.refl _ _ | refine Below.alloc ?_ (by first | omega | (simp; done) | (simp; omega)) _ | refine Below.setCell ?_ (by first | omega | (simp; done) | (simp; omega)) _ | refine below_drewN ?_ _))) (hb3.mono (by first | exact Nat.le_refl _ | (simp; done) | (simp; omega)))
  have s3 : w2.heap.size ≤ w3.heap.size := R.size
  have K3 : Hid (Below w.heap.size w w3) := K2.out.trans (R.mono (by omega))
  replace b0 : Hid (Bx w3 w.heap.size (.int .i64 m0) (.slice A0 xs0.length c0)) := b0.out.keep R
  clear R hb3
  have p0 : Hid (OwnI w3 w2.heap.size (.slice A_p0 xs0.length c_p0) xs0) := o_p0'
  have p0_u : Hid (∀ g, Value.ownBlock (.slice A_p0 xs0.length c_p0) = some g → w2.heap.size ≤ g ∧ g < w3.heap.size) := fun g hg => o_p0'.block_ge hg
  clear o_p0'
  have b0_c := b0.out.2.1
  have b0_d := b0.out.2.2
  have b0_z := b0.out.1
  go_wp2_with fail
  refine (sOrderOfSeriesR_any _ m0 (.slice A_p0 xs0.length c_p0) xs0 w2.heap.size (p0.out.keep (by (repeat (first | assumption | exact Below.refl _ _ | refine Below.alloc ?_ (by first | omega | (simp; done) | (simp; omega)) _ | refine Below.setCell ?_ (by first | omega | (simp; done) | (simp; omega)) _ | refine below_drewN ?_ _))) (Nat.le_refl _)) (by omega)).mono ?_
  rintro e w4 h_r
  replace h_r := h_r.of HR
  obtain ⟨rfl, hb4⟩ := h_r
  clear b0_c b0_d b0_z
  have R : Below w3.heap.size w3 w4 := Below.trans (by (repeat (first | assumption | exact Below.refl _ _ | refine Below.alloc ?_ (by first | omega | (simp; done) | (simp; omega)) _ | refine Below.setCell ?_ (by first | omega | (simp; done) | (simp; omega)) _ | refine below_drewN ?_ _))) (hb4.mono (by first | exact Nat.le_refl _ | (simp; done) | (simp; omega)))
  have s4 : w3.heap.size ≤ w4.heap.size := R.size
  have K4 : Hid (Below w.heap.size w w4) := K3.out.trans (R.mono (by omega))
  replace b0 : Hid (Bx w4 w.heap.size (.int .i64 m0) (.slice A0 xs0.length c0)) := b0.out.keep R
  replace p0 : Hid (OwnI w4 w2.heap.size (.slice A_p0 xs0.length c_p0) xs0) := p0.out.keep R (Nat.le_refl _)
  clear R hb4
  clear p0 p0_u
  have b0_c := b0.out.2.1
  have b0_d := b0.out.2.2
  have b0_z := b0.out.1
  go_wp2_with fail
  refine (toS_any _ m0 _ xs0 (hv0.below K4.out) (by omega)).mono ?_
  rintro e w5 ⟨A_x0, c_x0, rfl, o_x0, hb5⟩
  clear b0_c b0_d b0_z
  have o_x0' := o_x0.mono (show w4.heap.size ≤ _ from by first | exact Nat.le_refl _ | (simp; done) | (simp; omega))
  clear o_x0
  have R : Below w4.heap.size w4 w5 := Below.trans (by (repeat (first | assumption | exact Below.refl _ _ | refine Below.alloc ?_ (by first | omega | (simp; done) | (simp; omega)) _ | refine Below.setCell ?_ (by first | omega | (simp; done) | (simp; omega)) _ | refine below_drewN ?_ _))) (hb5.mono (by first | exact Nat.le_refl _ | (simp; done) | (simp; omega)))
  have s5 : w4.heap.size ≤ w5.heap.size := R.size
  have K5 : Hid (Below w.heap.size w w5) := K4.out.trans (R.mono (by omega))
  replace b0 : Hid (Bx w5 w.heap.size (.int .i64 m0) (.slice A0 xs0.length c0)) := b0.out.keep R
  clear R hb5
  have x0 : Hid (OwnI w5 w4.heap.size (.slice A_x0 xs0.length c_x0) xs0) := o_x0'
  have x0_u : Hid (∀ g, Value.ownBlock (.slice A_x0 xs0.length c_x0) = some g → w4.heap.size ≤ g ∧ g < w5.heap.size) := fun g hg => o_x0'.block_ge hg
  clear o_x0'
  have b0_c := b0.out.2.1
  have b0_d := b0.out.2.2
  have b0_z := b0.out.1
  go_wp2_with fail
  refine (iOrderOfSeriesR_any _ m0 (.slice A_x0 xs0.length c_x0) xs0 w4.heap.size (x0.out.keep (by (repeat (first | assumption | exact Below.refl _ _ | refine Below.alloc ?_ (by first | omega | (simp; done) | (simp; omega)) _ | refine Below.setCell ?_ (by first | omega | (simp; done) | (simp; omega)) _ | refine below_drewN ?_ _))) (Nat.le_refl _)) (by omega)).mono ?_
  rintro e w6 h_r
  replace h_r := h_r.of HR
  obtain ⟨rfl, hb6⟩ := h_r
  clear b0_c b0_d b0_z
  have R : Below w5.heap.size w5 w6 := Below.trans (by (repeat (first | assumption | exact Below.refl _ _ | refine Below.alloc ?_ (by first | omega | (simp; done) | (simp; omega)) _ | refine Below.setCell ?_ (by first | omega | (simp; done) | (simp; omega)) _ | refine below_drewN ?_ _))) (hb6.mono (by first | exact Nat.le_refl _ | (simp; done) | (simp; omega)))
  have s6 : w5.heap.size ≤ w6.heap.size := R.size
  have K6 : Hid (Below w.heap.size w w6) := K5.out.trans (R.mono (by omega))
  replace b0 : Hid (Bx w6 w.heap.size (.int .i64 m0) (.slice A0 xs0.length c0)) := b0.out.keep R
  replace x0 : Hid (OwnI w6 w4.heap.size (.slice A_x0 xs0.length c_x0) xs0) := x0.out.keep R (Nat.le_refl _)
  have bx0 : Hid (Bx w6 w5.heap.size (.int .i64 m0) (.slice A_x0 xs0.length c_x0)) := ⟨by have := hb6.size; simp at this; omega, by rw [hb6.cell (by first | (simp; done) | (simp; omega))]; simp, by rw [hb6.cell (by first | (simp; done) | (simp; omega))]; simp⟩
  clear R hb6
  have b0_c := b0.out.2.1
  have b0_d := b0.out.2.2
  have b0_z := b0.out.1
  have bx0_c := bx0.out.2.1
  have bx0_d := bx0.out.2.2
  have bx0_z := bx0.out.1
  go_wp2
  clear b0_c b0_d b0_z
  clear bx0_c bx0_d bx0_z
  have L0 : Below w.heap.size w w6.drew := below_drew K6.out
  have T0 : Hid (Bx w6.drew w.heap.size (.int .i64 m0) (.slice A0 xs0.length c0) ∧ Bx w6.drew w5.heap.size (.int .i64 m0) (.slice A_x0 xs0.length c_x0) ∧ OwnI w6.drew w4.heap.size (.slice A_x0 xs0.length c_x0) xs0 ∧ Below w.heap.size w w6.drew ∧ w6.heap.size ≤ w6.drew.heap.size) := ⟨b0.out, bx0.out, x0.out, L0, Nat.le_refl _⟩
  go_region_held3 (fun w' => w'.cell? ⟨w.heap.size, 0, none⟩ = some (.int .i64 m0) ∧ w'.cell? ⟨w.heap.size, 1, none⟩ = some (.slice A0 xs0.length c0) ∧ w'.cell? ⟨w5.heap.size, 0, none⟩ = some (.int .i64 m0) ∧ w'.cell? ⟨w5.heap.size, 1, none⟩ = some (.slice A_x0 xs0.length c_x0) ∧ Hid (Bx w' w.heap.size (.int .i64 m0) (.slice A0 xs0.length c0) ∧ Bx w' w5.heap.size (.int .i64 m0) (.slice A_x0 xs0.length c_x0) ∧ OwnI w' w4.heap.size (.slice A_x0 xs0.length c_x0) xs0 ∧ Below w.heap.size w w' ∧ w6.heap.size ≤ w'.heap.size))
    (first | exact ⟨(T0.out.1).2.1, (T0.out.1).2.2, (T0.out.2.1).2.1, (T0.out.2.1).2.2, T0⟩ | exact ⟨(T1.out.1).2.1, (T1.out.1).2.2, (T1.out.2.1).2.1, (T1.out.2.1).2.2, T1⟩ | exact ⟨(T2.out.1).2.1, (T2.out.1).2.2, (T2.out.2.1).2.1, (T2.out.2.1).2.2, T2⟩)
    (first
      | (go_at_call 19; refine (toS_any _ m0 _ xs0 (hv0.below L0) (by omega)).mono ?_; rintro e w7 ⟨A_t, c_t, rfl, o_t, hbA⟩; have T1 : Hid (Bx w7 w.heap.size (.int .i64 m0) (.slice A0 xs0.length c0) ∧ Bx w7 w5.heap.size (.int .i64 m0) (.slice A_x0 xs0.length c_x0) ∧ OwnI w7 w4.heap.size (.slice A_x0 xs0.length c_x0) xs0 ∧ Below w.heap.size w w7 ∧ w6.heap.size ≤ w7.heap.size) := ⟨(T0.out.1).keep hbA, (T0.out.2.1).keep hbA, (T0.out.2.2.1).keep hbA (Nat.le_refl _), (T0.out.2.2.2.1).trans (hbA.mono (Nat.le_trans (show w.heap.size ≤ w6.heap.size from by omega) (T0.out.2.2.2.2))), Nat.le_trans (T0.out.2.2.2.2) hbA.size⟩)
      | (go_at_call 21; refine (eqS_any _ m0 m0 _ _ xs0 xs0 (T1.out.2.2.1).rd o_t.rd).mono ?_; rintro e w8 ⟨rfl, hbB⟩; have T2 : Hid (Bx w8 w.heap.size (.int .i64 m0) (.slice A0 xs0.length c0) ∧ Bx w8 w5.heap.size (.int .i64 m0) (.slice A_x0 xs0.length c_x0) ∧ OwnI w8 w4.heap.size (.slice A_x0 xs0.length c_x0) xs0 ∧ Below w.heap.size w w8 ∧ w6.heap.size ≤ w8.heap.size) := ⟨(T1.out.1).keep hbB, (T1.out.2.1).keep hbB, (T1.out.2.2.1).keep hbB (Nat.le_refl _), (T1.out.2.2.2.1).trans (hbB.mono (Nat.le_trans (show w.heap.size ≤ w6.heap.size from by omega) (T1.out.2.2.2.2))), Nat.le_trans (T1.out.2.2.2.2) hbB.size⟩))
  have s8 : w6.heap.size ≤ w8.heap.size := T2.out.2.2.2.2
  have K8 : Hid (Below w.heap.size w w8) := T2.out.2.2.2.1
  replace b0 : Hid (Bx w8 w.heap.size (.int .i64 m0) (.slice A0 xs0.length c0)) := T2.out.1
  replace bx0 : Hid (Bx w8 w5.heap.size (.int .i64 m0) (.slice A_x0 xs0.length c_x0)) := T2.out.2.1
  replace x0 : Hid (OwnI w8 w4.heap.size (.slice A_x0 xs0.length c_x0) xs0) := T2.out.2.2.1
  clear T0 T1 T2 L0 o_t
  have b0_c := b0.out.2.1
  have b0_d := b0.out.2.2
  have b0_z := b0.out.1
  have bx0_c := bx0.out.2.1
  have bx0_d := bx0.out.2.2
  have bx0_z := bx0.out.1
  go_wp2
  go_ret
  exact ⟨rfl, K8.out⟩

set_option maxHeartbeats 4000000 in
theorem FnExactValueOfSeries_walk (w : World) (m0 : Int) (v0 : Value) (xs0 : List Int) (hv0 : RdI w v0 xs0) (a1 : Int) : Calls Try.prog 9 #[.agg #[.int .i64 m0, v0], .int .i64 a1] w fun e w' => e = .returned (.bool true) ∧ Below w.heap.size w w' := by
  obtain ⟨A0, c0, e0⟩ := hv0.form
  subst e0
  obtain ⟨r0, HR⟩ : ∃ r0, Hid (ValueOfSeriesR m0 xs0 a1 = r0) := ⟨_, rfl⟩
  obtain ⟨r, rc⟩ := r0
  by_cases hz0 : 1048576 < (xs0.length : Int)
  · skip
    have HZ0 := Lib.hid (szN_lt hz0)
    go_enter Try.func9, Try.ntmps9
    go_wp2_with fail
    refine (szS_any _ m0 _ xs0 (1048576) (hv0.below (by (repeat (first | assumption | exact Below.refl _ _ | refine Below.alloc ?_ (by first | omega | (simp; done) | (simp; omega)) _ | refine Below.setCell ?_ (by first | omega | (simp; done) | (simp; omega)) _ | refine below_drewN ?_ _)))) (by omega) (by omega)).mono ?_
    rintro e w1 ⟨rfl, hb1⟩
    rw [HZ0.out]
    have R : Below w.heap.size w w1 := Below.trans (by (repeat (first | assumption | exact Below.refl _ _ | refine Below.alloc ?_ (by first | omega | (simp; done) | (simp; omega)) _ | refine Below.setCell ?_ (by first | omega | (simp; done) | (simp; omega)) _ | refine below_drewN ?_ _))) (hb1.mono (by first | exact Nat.le_refl _ | (simp; done) | (simp; omega)))
    have s1 : w.heap.size ≤ w1.heap.size := R.size
    have K1 : Hid (Below w.heap.size w w1) := R
    have b0 : Hid (Bx w1 w.heap.size (.int .i64 m0) (.slice A0 xs0.length c0)) := ⟨by have := hb1.size; simp at this; omega, by rw [hb1.cell (by first | (simp; done) | (simp; omega))]; simp, by rw [hb1.cell (by first | (simp; done) | (simp; omega))]; simp⟩
    clear R hb1
    have b0_c := b0.out.2.1
    have b0_d := b0.out.2.2
    have b0_z := b0.out.1
    go_wp2
    go_ret
    exact ⟨rfl, K1.out⟩
  have HZ0 := Lib.hid (szN_ge hz0)
  have hl0 : (xs0.length : Int) ≤ 1048576 := by omega
  clear hz0
  go_enter Try.func9, Try.ntmps9
  go_wp2_with fail
  refine (szS_any _ m0 _ xs0 (1048576) (hv0.below (by (repeat (first | assumption | exact Below.refl _ _ | refine Below.alloc ?_ (by first | omega | (simp; done) | (simp; omega)) _ | refine Below.setCell ?_ (by first | omega | (simp; done) | (simp; omega)) _ | refine below_drewN ?_ _)))) (by omega) (by omega)).mono ?_
  rintro e w2 ⟨rfl, hb2⟩
  rw [HZ0.out]
  have R : Below w.heap.size w w2 := Below.trans (by (repeat (first | assumption | exact Below.refl _ _ | refine Below.alloc ?_ (by first | omega | (simp; done) | (simp; omega)) _ | refine Below.setCell ?_ (by first | omega | (simp; done) | (simp; omega)) _ | refine below_drewN ?_ _))) (hb2.mono (by first | exact Nat.le_refl _ | (simp; done) | (simp; omega)))
  have s2 : w.heap.size ≤ w2.heap.size := R.size
  have K2 : Hid (Below w.heap.size w w2) := R
  have b0 : Hid (Bx w2 w.heap.size (.int .i64 m0) (.slice A0 xs0.length c0)) := ⟨by have := hb2.size; simp at this; omega, by rw [hb2.cell (by first | (simp; done) | (simp; omega))]; simp, by rw [hb2.cell (by first | (simp; done) | (simp; omega))]; simp⟩
  clear R hb2
  have b0_c := b0.out.2.1
  have b0_d := b0.out.2.2
  have b0_z := b0.out.1
  go_wp2_with fail
  refine (toS_any _ m0 _ xs0 (hv0.below K2.out) (by omega)).mono ?_
  rintro e w3 ⟨A_p0, c_p0, rfl, o_p0, hb3⟩
  clear b0_c b0_d b0_z
  have o_p0' := o_p0.mono (show w2.heap.size ≤ _ from by first | exact Nat.le_refl _ | (simp; done) | (simp; omega))
  clear o_p0
  have R : Below w2.heap.size w2 w3 := Below.trans (by (repeat (first | assumption | exact Below.refl _ _ | refine Below.alloc ?_ (by first | omega | (simp; done) | (simp; omega)) _ | refine Below.setCell ?_ (by first | omega | (simp; done) | (simp; omega)) _ | refine below_drewN ?_ _))) (hb3.mono (by first | exact Nat.le_refl _ | (simp; done) | (simp; omega)))
  have s3 : w2.heap.size ≤ w3.heap.size := R.size
  have K3 : Hid (Below w.heap.size w w3) := K2.out.trans (R.mono (by omega))
  replace b0 : Hid (Bx w3 w.heap.size (.int .i64 m0) (.slice A0 xs0.length c0)) := b0.out.keep R
  clear R hb3
  have p0 : Hid (OwnI w3 w2.heap.size (.slice A_p0 xs0.length c_p0) xs0) := o_p0'
  have p0_u : Hid (∀ g, Value.ownBlock (.slice A_p0 xs0.length c_p0) = some g → w2.heap.size ≤ g ∧ g < w3.heap.size) := fun g hg => o_p0'.block_ge hg
  clear o_p0'
  have b0_c := b0.out.2.1
  have b0_d := b0.out.2.2
  have b0_z := b0.out.1
  go_wp2_with fail
  refine (sValueOfSeriesR_any _ m0 (.slice A_p0 xs0.length c_p0) xs0 a1 w2.heap.size (p0.out.keep (by (repeat (first | assumption | exact Below.refl _ _ | refine Below.alloc ?_ (by first | omega | (simp; done) | (simp; omega)) _ | refine Below.setCell ?_ (by first | omega | (simp; done) | (simp; omega)) _ | refine below_drewN ?_ _))) (Nat.le_refl _)) (by omega)).mono ?_
  rintro e w4 h_r
  replace h_r := h_r.of HR
  obtain ⟨rfl, hb4⟩ := h_r
  clear b0_c b0_d b0_z
  have R : Below w3.heap.size w3 w4 := Below.trans (by (repeat (first | assumption | exact Below.refl _ _ | refine Below.alloc ?_ (by first | omega | (simp; done) | (simp; omega)) _ | refine Below.setCell ?_ (by first | omega | (simp; done) | (simp; omega)) _ | refine below_drewN ?_ _))) (hb4.mono (by first | exact Nat.le_refl _ | (simp; done) | (simp; omega)))
  have s4 : w3.heap.size ≤ w4.heap.size := R.size
  have K4 : Hid (Below w.heap.size w w4) := K3.out.trans (R.mono (by omega))
  replace b0 : Hid (Bx w4 w.heap.size (.int .i64 m0) (.slice A0 xs0.length c0)) := b0.out.keep R
  replace p0 : Hid (OwnI w4 w2.heap.size (.slice A_p0 xs0.length c_p0) xs0) := p0.out.keep R (Nat.le_refl _)
  clear R hb4
  clear p0 p0_u
  have b0_c := b0.out.2.1
  have b0_d := b0.out.2.2
  have b0_z := b0.out.1
  go_wp2_with fail
  refine (toS_any _ m0 _ xs0 (hv0.below K4.out) (by omega)).mono ?_
  rintro e w5 ⟨A_x0, c_x0, rfl, o_x0, hb5⟩
  clear b0_c b0_d b0_z
  have o_x0' := o_x0.mono (show w4.heap.size ≤ _ from by first | exact Nat.le_refl _ | (simp; done) | (simp; omega))
  clear o_x0
  have R : Below w4.heap.size w4 w5 := Below.trans (by (repeat (first | assumption | exact Below.refl _ _ | refine Below.alloc ?_ (by first | omega | (simp; done) | (simp; omega)) _ | refine Below.setCell ?_ (by first | omega | (simp; done) | (simp; omega)) _ | refine below_drewN ?_ _))) (hb5.mono (by first | exact Nat.le_refl _ | (simp; done) | (simp; omega)))
  have s5 : w4.heap.size ≤ w5.heap.size := R.size
  have K5 : Hid (Below w.heap.size w w5) := K4.out.trans (R.mono (by omega))
  replace b0 : Hid (Bx w5 w.heap.size (.int .i64 m0) (.slice A0 xs0.length c0)) := b0.out.keep R
  clear R hb5
  have x0 : Hid (OwnI w5 w4.heap.size (.slice A_x0 xs0.length c_x0) xs0) := o_x0'
  have x0_u : Hid (∀ g, Value.ownBlock (.slice A_x0 xs0.length c_x0) = some g → w4.heap.size ≤ g ∧ g < w5.heap.size) := fun g hg => o_x0'.block_ge hg
  clear o_x0'
  have b0_c := b0.out.2.1
  have b0_d := b0.out.2.2
  have b0_z := b0.out.1
  go_wp2_with fail
  refine (iValueOfSeriesR_any _ m0 (.slice A_x0 xs0.length c_x0) xs0 a1 w4.heap.size (x0.out.keep (by (repeat (first | assumption | exact Below.refl _ _ | refine Below.alloc ?_ (by first | omega | (simp; done) | (simp; omega)) _ | refine Below.setCell ?_ (by first | omega | (simp; done) | (simp; omega)) _ | refine below_drewN ?_ _))) (Nat.le_refl _)) (by omega)).mono ?_
  rintro e w6 h_r
  replace h_r := h_r.of HR
  obtain ⟨rfl, hb6⟩ := h_r
  clear b0_c b0_d b0_z
  have R : Below w5.heap.size w5 w6 := Below.trans (by (repeat (first | assumption | exact Below.refl _ _ | refine Below.alloc ?_ (by first | omega | (simp; done) | (simp; omega)) _ | refine Below.setCell ?_ (by first | omega | (simp; done) | (simp; omega)) _ | refine below_drewN ?_ _))) (hb6.mono (by first | exact Nat.le_refl _ | (simp; done) | (simp; omega)))
  have s6 : w5.heap.size ≤ w6.heap.size := R.size
  have K6 : Hid (Below w.heap.size w w6) := K5.out.trans (R.mono (by omega))
  replace b0 : Hid (Bx w6 w.heap.size (.int .i64 m0) (.slice A0 xs0.length c0)) := b0.out.keep R
  replace x0 : Hid (OwnI w6 w4.heap.size (.slice A_x0 xs0.length c_x0) xs0) := x0.out.keep R (Nat.le_refl _)
  have bx0 : Hid (Bx w6 w5.heap.size (.int .i64 m0) (.slice A_x0 xs0.length c_x0)) := ⟨by have := hb6.size; simp at this; omega, by rw [hb6.cell (by first | (simp; done) | (simp; omega))]; simp, by rw [hb6.cell (by first | (simp; done) | (simp; omega))]; simp⟩
  clear R hb6
  have b0_c := b0.out.2.1
  have b0_d := b0.out.2.2
  have b0_z := b0.out.1
  have bx0_c := bx0.out.2.1
  have bx0_d := bx0.out.2.2
  have bx0_z := bx0.out.1
  go_wp2
  clear b0_c b0_d b0_z
  clear bx0_c bx0_d bx0_z
  have L0 : Below w.heap.size w w6.drew := below_drew K6.out
  have T0 : Hid (Bx w6.drew w.heap.size (.int .i64 m0) (.slice A0 xs0.length c0) ∧ Bx w6.drew w5.heap.size (.int .i64 m0) (.slice A_x0 xs0.length c_x0) ∧ OwnI w6.drew w4.heap.size (.slice A_x0 xs0.length c_x0) xs0 ∧ Below w.heap.size w w6.drew ∧ w6.heap.size ≤ w6.drew.heap.size) := ⟨b0.out, bx0.out, x0.out, L0, Nat.le_refl _⟩
  go_region_held3 (fun w' => w'.cell? ⟨w.heap.size, 0, none⟩ = some (.int .i64 m0) ∧ w'.cell? ⟨w.heap.size, 1, none⟩ = some (.slice A0 xs0.length c0) ∧ w'.cell? ⟨w5.heap.size, 0, none⟩ = some (.int .i64 m0) ∧ w'.cell? ⟨w5.heap.size, 1, none⟩ = some (.slice A_x0 xs0.length c_x0) ∧ Hid (Bx w' w.heap.size (.int .i64 m0) (.slice A0 xs0.length c0) ∧ Bx w' w5.heap.size (.int .i64 m0) (.slice A_x0 xs0.length c_x0) ∧ OwnI w' w4.heap.size (.slice A_x0 xs0.length c_x0) xs0 ∧ Below w.heap.size w w' ∧ w6.heap.size ≤ w'.heap.size))
    (first | exact ⟨(T0.out.1).2.1, (T0.out.1).2.2, (T0.out.2.1).2.1, (T0.out.2.1).2.2, T0⟩ | exact ⟨(T1.out.1).2.1, (T1.out.1).2.2, (T1.out.2.1).2.1, (T1.out.2.1).2.2, T1⟩ | exact ⟨(T2.out.1).2.1, (T2.out.1).2.2, (T2.out.2.1).2.1, (T2.out.2.1).2.2, T2⟩)
    (first
      | (go_at_call 19; refine (toS_any _ m0 _ xs0 (hv0.below L0) (by omega)).mono ?_; rintro e w7 ⟨A_t, c_t, rfl, o_t, hbA⟩; have T1 : Hid (Bx w7 w.heap.size (.int .i64 m0) (.slice A0 xs0.length c0) ∧ Bx w7 w5.heap.size (.int .i64 m0) (.slice A_x0 xs0.length c_x0) ∧ OwnI w7 w4.heap.size (.slice A_x0 xs0.length c_x0) xs0 ∧ Below w.heap.size w w7 ∧ w6.heap.size ≤ w7.heap.size) := ⟨(T0.out.1).keep hbA, (T0.out.2.1).keep hbA, (T0.out.2.2.1).keep hbA (Nat.le_refl _), (T0.out.2.2.2.1).trans (hbA.mono (Nat.le_trans (show w.heap.size ≤ w6.heap.size from by omega) (T0.out.2.2.2.2))), Nat.le_trans (T0.out.2.2.2.2) hbA.size⟩)
      | (go_at_call 21; refine (eqS_any _ m0 m0 _ _ xs0 xs0 (T1.out.2.2.1).rd o_t.rd).mono ?_; rintro e w8 ⟨rfl, hbB⟩; have T2 : Hid (Bx w8 w.heap.size (.int .i64 m0) (.slice A0 xs0.length c0) ∧ Bx w8 w5.heap.size (.int .i64 m0) (.slice A_x0 xs0.length c_x0) ∧ OwnI w8 w4.heap.size (.slice A_x0 xs0.length c_x0) xs0 ∧ Below w.heap.size w w8 ∧ w6.heap.size ≤ w8.heap.size) := ⟨(T1.out.1).keep hbB, (T1.out.2.1).keep hbB, (T1.out.2.2.1).keep hbB (Nat.le_refl _), (T1.out.2.2.2.1).trans (hbB.mono (Nat.le_trans (show w.heap.size ≤ w6.heap.size from by omega) (T1.out.2.2.2.2))), Nat.le_trans (T1.out.2.2.2.2) hbB.size⟩))
  have s8 : w6.heap.size ≤ w8.heap.size := T2.out.2.2.2.2
  have K8 : Hid (Below w.heap.size w w8) := T2.out.2.2.2.1
  replace b0 : Hid (Bx w8 w.heap.size (.int .i64 m0) (.slice A0 xs0.length c0)) := T2.out.1
  replace bx0 : Hid (Bx w8 w5.heap.size (.int .i64 m0) (.slice A_x0 xs0.length c_x0)) := T2.out.2.1
  replace x0 : Hid (OwnI w8 w4.heap.size (.slice A_x0 xs0.length c_x0) xs0) := T2.out.2.2.1
  clear T0 T1 T2 L0 o_t
  have b0_c := b0.out.2.1
  have b0_d := b0.out.2.2
  have b0_z := b0.out.1
  have bx0_c := bx0.out.2.1
  have bx0_d := bx0.out.2.2
  have bx0_z := bx0.out.1
  go_wp2
  go_ret
  exact ⟨rfl, K8.out⟩

set_option maxHeartbeats 4000000 in
theorem FnExactCutSeries_walk (w : World) (m0 : Int) (v0 : Value) (xs0 : List Int) (hv0 : RdI w v0 xs0) (a1 : Int) : Calls Try.prog 12 #[.agg #[.int .i64 m0, v0], .int .i64 a1] w fun e w' => e = .returned (.bool true) ∧ Below w.heap.size w w' := by
  obtain ⟨A0, c0, e0⟩ := hv0.form
  subst e0
  obtain ⟨r0, HR⟩ : ∃ r0, Hid (CutSeriesR m0 xs0 a1 = r0) := ⟨_, rfl⟩
  obtain ⟨⟨rm, rl⟩, rc⟩ := r0
  have hlen := CutSeriesR_len m0 xs0 a1
  rw [HR.out] at hlen
  simp only at hlen
  by_cases hz0 : 1048576 < (xs0.length : Int)
  · skip
    have HZ0 := Lib.hid (szN_lt hz0)
    go_enter Try.func12, Try.ntmps12
    go_wp2_with fail
    refine (szS_any _ m0 _ xs0 (1048576) (hv0.below (by (repeat (first | assumption | exact Below.refl _ _ | refine Below.alloc ?_ (by first | omega | (simp; done) | (simp; omega)) _ | refine Below.setCell ?_ (by first | omega | (simp; done) | (simp; omega)) _ | refine below_drewN ?_ _)))) (by omega) (by omega)).mono ?_
    rintro e w1 ⟨rfl, hb1⟩
    rw [HZ0.out]
    have R : Below w.heap.size w w1 := Below.trans (by (repeat (first | assumption | exact Below.refl _ _ | refine Below.alloc ?_ (by first | omega | (simp; done) | (simp; omega)) _ | refine Below.setCell ?_ (by first | omega | (simp; done) | (simp; omega)) _ | refine below_drewN ?_ _))) (hb1.mono (by first | exact Nat.le_refl _ | (simp; done) | (simp; omega)))
    have s1 : w.heap.size ≤ w1.heap.size := R.size
    have K1 : Hid (Below w.heap.size w w1) := R
    have b0 : Hid (Bx w1 w.heap.size (.int .i64 m0) (.slice A0 xs0.length c0)) := ⟨by have := hb1.size; simp at this; omega, by rw [hb1.cell (by first | (simp; done) | (simp; omega))]; simp, by rw [hb1.cell (by first | (simp; done) | (simp; omega))]; simp⟩
    clear R hb1
    have b0_c := b0.out.2.1
    have b0_d := b0.out.2.2
    have b0_z := b0.out.1
    go_wp2
    go_ret
    exact ⟨rfl, K1.out⟩
  have HZ0 := Lib.hid (szN_ge hz0)
  have hl0 : (xs0.length : Int) ≤ 1048576 := by omega
  clear hz0
  go_enter Try.func12, Try.ntmps12
  go_wp2_with fail
  refine (szS_any _ m0 _ xs0 (1048576) (hv0.below (by (repeat (first | assumption | exact Below.refl _ _ | refine Below.alloc ?_ (by first | omega | (simp; done) | (simp; omega)) _ | refine Below.setCell ?_ (by first | omega | (simp; done) | (simp; omega)) _ | refine below_drewN ?_ _)))) (by omega) (by omega)).mono ?_
  rintro e w2 ⟨rfl, hb2⟩
  rw [HZ0.out]
  have R : Below w.heap.size w w2 := Below.trans (by (repeat (first | assumption | exact Below.refl _ _ | refine Below.alloc ?_ (by first | omega | (simp; done) | (simp; omega)) _ | refine Below.setCell ?_ (by first | omega | (simp; done) | (simp; omega)) _ | refine below_drewN ?_ _))) (hb2.mono (by first | exact Nat.le_refl _ | (simp; done) | (simp; omega)))
  have s2 : w.heap.size ≤ w2.heap.size := R.size
  have K2 : Hid (Below w.heap.size w w2) := R
  have b0 : Hid (Bx w2 w.heap.size (.int .i64 m0) (.slice A0 xs0.length c0)) := ⟨by have := hb2.size; simp at this; omega, by rw [hb2.cell (by first | (simp; done) | (simp; omega))]; simp, by rw [hb2.cell (by first | (simp; done) | (simp; omega))]; simp⟩
  clear R hb2
  have b0_c := b0.out.2.1
  have b0_d := b0.out.2.2
  have b0_z := b0.out.1
  go_wp2_with fail
  refine (toS_any _ m0 _ xs0 (hv0.below K2.out) (by omega)).mono ?_
  rintro e w3 ⟨A_p0, c_p0, rfl, o_p0, hb3⟩
  clear b0_c b0_d b0_z
  have o_p0' := o_p0.mono (show w2.heap.size ≤ _ from by first | exact Nat.le_refl _ | (simp; done) | (simp; omega))
  clear o_p0
  have R : Below w2.heap.size w2 w3 := Below.trans (by (repeat (first | assumption | exact Below.refl _ _ | refine Below.alloc ?_ (by first | omega | (simp; done) | (simp; omega)) _ | refine Below.setCell ?_ (by first | omega | (simp; done) | (simp; omega)) _ | refine below_drewN ?_ _))) (hb3.mono (by first | exact Nat.le_refl _ | (simp; done) | (simp; omega)))
  have s3 : w2.heap.size ≤ w3.heap.size := R.size
  have K3 : Hid (Below w.heap.size w w3) := K2.out.trans (R.mono (by omega))
  replace b0 : Hid (Bx w3 w.heap.size (.int .i64 m0) (.slice A0 xs0.length c0)) := b0.out.keep R
  clear R hb3
  have p0 : Hid (OwnI w3 w2.heap.size (.slice A_p0 xs0.length c_p0) xs0) := o_p0'
  have p0_u : Hid (∀ g, Value.ownBlock (.slice A_p0 xs0.length c_p0) = some g → w2.heap.size ≤ g ∧ g < w3.heap.size) := fun g hg => o_p0'.block_ge hg
  clear o_p0'
  have b0_c := b0.out.2.1
  have b0_d := b0.out.2.2
  have b0_z := b0.out.1
  go_wp2_with fail
  refine (sCutSeriesR_any _ m0 (.slice A_p0 xs0.length c_p0) xs0 a1 w2.heap.size (p0.out.keep (by (repeat (first | assumption | exact Below.refl _ _ | refine Below.alloc ?_ (by first | omega | (simp; done) | (simp; omega)) _ | refine Below.setCell ?_ (by first | omega | (simp; done) | (simp; omega)) _ | refine below_drewN ?_ _))) (Nat.le_refl _)) (by omega)).mono ?_
  rintro e w4 h_r
  replace h_r := h_r.of HR
  obtain ⟨A_ow, c_ow, rfl, o_ow, hb4⟩ := h_r
  have o_ow' := o_ow.mono (show w3.heap.size ≤ _ from by first | exact Nat.le_refl _ | (simp; done) | (simp; omega))
  clear o_ow
  clear b0_c b0_d b0_z
  have R : Below w3.heap.size w3 w4 := Below.trans (by (repeat (first | assumption | exact Below.refl _ _ | refine Below.alloc ?_ (by first | omega | (simp; done) | (simp; omega)) _ | refine Below.setCell ?_ (by first | omega | (simp; done) | (simp; omega)) _ | refine below_drewN ?_ _))) (hb4.mono (by first | exact Nat.le_refl _ | (simp; done) | (simp; omega)))
  have s4 : w3.heap.size ≤ w4.heap.size := R.size
  have K4 : Hid (Below w.heap.size w w4) := K3.out.trans (R.mono (by omega))
  replace b0 : Hid (Bx w4 w.heap.size (.int .i64 m0) (.slice A0 xs0.length c0)) := b0.out.keep R
  replace p0 : Hid (OwnI w4 w2.heap.size (.slice A_p0 xs0.length c_p0) xs0) := p0.out.keep R (Nat.le_refl _)
  clear R hb4
  have ow : Hid (OwnI w4 w3.heap.size (.slice A_ow rl.length c_ow) rl) := o_ow'
  have ow_u : Hid (∀ g, Value.ownBlock (.slice A_ow rl.length c_ow) = some g → w3.heap.size ≤ g ∧ g < w4.heap.size) := fun g hg => o_ow'.block_ge hg
  clear o_ow'
  clear p0 p0_u
  have b0_c := b0.out.2.1
  have b0_d := b0.out.2.2
  have b0_z := b0.out.1
  go_wp2_with fail
  refine (toS_any _ m0 _ xs0 (hv0.below (K4.out.trans (Below.mono (by (repeat (first | assumption | exact Below.refl _ _ | refine Below.alloc ?_ (by first | omega | (simp; done) | (simp; omega)) _ | refine Below.setCell ?_ (by first | omega | (simp; done) | (simp; omega)) _ | refine below_drewN ?_ _))) (by omega)))) (by omega)).mono ?_
  rintro e w5 ⟨A_x0, c_x0, rfl, o_x0, hb5⟩
  clear b0_c b0_d b0_z
  have o_x0' := o_x0.mono (show (w4.heap.size + 1) ≤ _ from by first | exact Nat.le_refl _ | (simp; done) | (simp; omega))
  clear o_x0
  have R : Below w4.heap.size w4 w5 := Below.trans (by (repeat (first | assumption | exact Below.refl _ _ | refine Below.alloc ?_ (by first | omega | (simp; done) | (simp; omega)) _ | refine Below.setCell ?_ (by first | omega | (simp; done) | (simp; omega)) _ | refine below_drewN ?_ _))) (hb5.mono (by first | exact Nat.le_refl _ | (simp; done) | (simp; omega)))
  have s5 : w4.heap.size ≤ w5.heap.size := R.size
  have K5 : Hid (Below w.heap.size w w5) := K4.out.trans (R.mono (by omega))
  replace b0 : Hid (Bx w5 w.heap.size (.int .i64 m0) (.slice A0 xs0.length c0)) := b0.out.keep R
  replace ow : Hid (OwnI w5 w3.heap.size (.slice A_ow rl.length c_ow) rl) := ow.out.keep R (Nat.le_refl _)
  have bw : Hid (Bx w5 w4.heap.size (.int .i64 rm) (.slice A_ow rl.length c_ow)) := ⟨by have := hb5.size; simp at this; omega, by rw [hb5.cell (by first | (simp; done) | (simp; omega))]; simp, by rw [hb5.cell (by first | (simp; done) | (simp; omega))]; simp⟩
  clear R hb5
  have x0 : Hid (OwnI w5 (w4.heap.size + 1) (.slice A_x0 xs0.length c_x0) xs0) := o_x0'
  have x0_u : Hid (∀ g, Value.ownBlock (.slice A_x0 xs0.length c_x0) = some g → (w4.heap.size + 1) ≤ g ∧ g < w5.heap.size) := fun g hg => o_x0'.block_ge hg
  clear o_x0'
  have b0_c := b0.out.2.1
  have b0_d := b0.out.2.2
  have b0_z := b0.out.1
  have bw_c := bw.out.2.1
  have bw_d := bw.out.2.2
  have bw_z := bw.out.1
  go_wp2_with fail
  refine (iCutSeriesR_any _ m0 (.slice A_x0 xs0.length c_x0) xs0 a1 (w4.heap.size + 1) (x0.out.keep (by (repeat (first | assumption | exact Below.refl _ _ | refine Below.alloc ?_ (by first | omega | (simp; done) | (simp; omega)) _ | refine Below.setCell ?_ (by first | omega | (simp; done) | (simp; omega)) _ | refine below_drewN ?_ _))) (Nat.le_refl _)) (by omega)).mono ?_
  rintro e w6 h_r
  replace h_r := h_r.of HR
  obtain ⟨A_og, c_og, rfl, o_og, hb6⟩ := h_r
  have o_og' := o_og.mono (show (w5.heap.size + 1) ≤ _ from by first | exact Nat.le_refl _ | (simp; done) | (simp; omega))
  clear o_og
  clear b0_c b0_d b0_z
  clear bw_c bw_d bw_z
  have R : Below w5.heap.size w5 w6 := Below.trans (by (repeat (first | assumption | exact Below.refl _ _ | refine Below.alloc ?_ (by first | omega | (simp; done) | (simp; omega)) _ | refine Below.setCell ?_ (by first | omega | (simp; done) | (simp; omega)) _ | refine below_drewN ?_ _))) (hb6.mono (by first | exact Nat.le_refl _ | (simp; done) | (simp; omega)))
  have s6 : w5.heap.size ≤ w6.heap.size := R.size
  have K6 : Hid (Below w.heap.size w w6) := K5.out.trans (R.mono (by omega))
  replace b0 : Hid (Bx w6 w.heap.size (.int .i64 m0) (.slice A0 xs0.length c0)) := b0.out.keep R
  replace bw : Hid (Bx w6 w4.heap.size (.int .i64 rm) (.slice A_ow rl.length c_ow)) := bw.out.keep R
  replace ow : Hid (OwnI w6 w3.heap.size (.slice A_ow rl.length c_ow) rl) := ow.out.keep R (Nat.le_refl _)
  replace x0 : Hid (OwnI w6 (w4.heap.size + 1) (.slice A_x0 xs0.length c_x0) xs0) := x0.out.keep R (Nat.le_refl _)
  have bx0 : Hid (Bx w6 w5.heap.size (.int .i64 m0) (.slice A_x0 xs0.length c_x0)) := ⟨by have := hb6.size; simp at this; omega, by rw [hb6.cell (by first | (simp; done) | (simp; omega))]; simp, by rw [hb6.cell (by first | (simp; done) | (simp; omega))]; simp⟩
  clear R hb6
  have og : Hid (OwnI w6 (w5.heap.size + 1) (.slice A_og rl.length c_og) rl) := o_og'
  have og_u : Hid (∀ g, Value.ownBlock (.slice A_og rl.length c_og) = some g → (w5.heap.size + 1) ≤ g ∧ g < w6.heap.size) := fun g hg => o_og'.block_ge hg
  clear o_og'
  have b0_c := b0.out.2.1
  have b0_d := b0.out.2.2
  have b0_z := b0.out.1
  have bw_c := bw.out.2.1
  have bw_d := bw.out.2.2
  have bw_z := bw.out.1
  have bx0_c := bx0.out.2.1
  have bx0_d := bx0.out.2.2
  have bx0_z := bx0.out.1
  go_wp2_with fail
  refine (eqS_any _ rm rm _ _ _ _ (og.out.keep (by (repeat (first | assumption | exact Below.refl _ _ | refine Below.alloc ?_ (by first | omega | (simp; done) | (simp; omega)) _ | refine Below.setCell ?_ (by first | omega | (simp; done) | (simp; omega)) _ | refine below_drewN ?_ _))) (Nat.le_refl _)).rd (ow.out.keep (by (repeat (first | assumption | exact Below.refl _ _ | refine Below.alloc ?_ (by first | omega | (simp; done) | (simp; omega)) _ | refine Below.setCell ?_ (by first | omega | (simp; done) | (simp; omega)) _ | refine below_drewN ?_ _))) (Nat.le_refl _)).rd).mono ?_
  rintro e w7 ⟨rfl, hb7⟩
  clear b0_c b0_d b0_z
  clear bw_c bw_d bw_z
  clear bx0_c bx0_d bx0_z
  have R : Below w6.heap.size w6 w7 := Below.trans (by (repeat (first | assumption | exact Below.refl _ _ | refine Below.alloc ?_ (by first | omega | (simp; done) | (simp; omega)) _ | refine Below.setCell ?_ (by first | omega | (simp; done) | (simp; omega)) _ | refine below_drewN ?_ _))) (hb7.mono (by first | exact Nat.le_refl _ | (simp; done) | (simp; omega)))
  have s7 : w6.heap.size ≤ w7.heap.size := R.size
  have K7 : Hid (Below w.heap.size w w7) := K6.out.trans (R.mono (by omega))
  replace b0 : Hid (Bx w7 w.heap.size (.int .i64 m0) (.slice A0 xs0.length c0)) := b0.out.keep R
  replace bw : Hid (Bx w7 w4.heap.size (.int .i64 rm) (.slice A_ow rl.length c_ow)) := bw.out.keep R
  replace bx0 : Hid (Bx w7 w5.heap.size (.int .i64 m0) (.slice A_x0 xs0.length c_x0)) := bx0.out.keep R
  replace ow : Hid (OwnI w7 w3.heap.size (.slice A_ow rl.length c_ow) rl) := ow.out.keep R (Nat.le_refl _)
  replace x0 : Hid (OwnI w7 (w4.heap.size + 1) (.slice A_x0 xs0.length c_x0) xs0) := x0.out.keep R (Nat.le_refl _)
  replace og : Hid (OwnI w7 (w5.heap.size + 1) (.slice A_og rl.length c_og) rl) := og.out.keep R (Nat.le_refl _)
  have bg : Hid (Bx w7 w6.heap.size (.int .i64 rm) (.slice A_og rl.length c_og)) := ⟨by have := hb7.size; simp at this; omega, by rw [hb7.cell (by first | (simp; done) | (simp; omega))]; simp, by rw [hb7.cell (by first | (simp; done) | (simp; omega))]; simp⟩
  clear R hb7
  have b0_c := b0.out.2.1
  have b0_d := b0.out.2.2
  have b0_z := b0.out.1
  have bw_c := bw.out.2.1
  have bw_d := bw.out.2.2
  have bw_z := bw.out.1
  have bx0_c := bx0.out.2.1
  have bx0_d := bx0.out.2.2
  have bx0_z := bx0.out.1
  have bg_c := bg.out.2.1
  have bg_d := bg.out.2.2
  have bg_z := bg.out.1
  go_wp2
  clear b0_c b0_d b0_z
  clear bw_c bw_d bw_z
  clear bx0_c bx0_d bx0_z
  clear bg_c bg_d bg_z
  have L0 : Below w.heap.size w w7.drew := below_drew K7.out
  have T0 : Hid (Bx w7.drew w.heap.size (.int .i64 m0) (.slice A0 xs0.length c0) ∧ Bx w7.drew w4.heap.size (.int .i64 rm) (.slice A_ow rl.length c_ow) ∧ Bx w7.drew w5.heap.size (.int .i64 m0) (.slice A_x0 xs0.length c_x0) ∧ Bx w7.drew w6.heap.size (.int .i64 rm) (.slice A_og rl.length c_og) ∧ OwnI w7.drew w3.heap.size (.slice A_ow rl.length c_ow) rl ∧ OwnI w7.drew (w4.heap.size + 1) (.slice A_x0 xs0.length c_x0) xs0 ∧ OwnI w7.drew (w5.heap.size + 1) (.slice A_og rl.length c_og) rl ∧ Below w.heap.size w w7.drew ∧ w7.heap.size ≤ w7.drew.heap.size) := ⟨b0.out, bw.out, bx0.out, bg.out, ow.out, x0.out, og.out, L0, Nat.le_refl _⟩
  go_region_held3 (fun w' => w'.cell? ⟨w.heap.size, 0, none⟩ = some (.int .i64 m0) ∧ w'.cell? ⟨w.heap.size, 1, none⟩ = some (.slice A0 xs0.length c0) ∧ w'.cell? ⟨w4.heap.size, 0, none⟩ = some (.int .i64 rm) ∧ w'.cell? ⟨w4.heap.size, 1, none⟩ = some (.slice A_ow rl.length c_ow) ∧ w'.cell? ⟨w5.heap.size, 0, none⟩ = some (.int .i64 m0) ∧ w'.cell? ⟨w5.heap.size, 1, none⟩ = some (.slice A_x0 xs0.length c_x0) ∧ w'.cell? ⟨w6.heap.size, 0, none⟩ = some (.int .i64 rm) ∧ w'.cell? ⟨w6.heap.size, 1, none⟩ = some (.slice A_og rl.length c_og) ∧ Hid (Bx w' w.heap.size (.int .i64 m0) (.slice A0 xs0.length c0) ∧ Bx w' w4.heap.size (.int .i64 rm) (.slice A_ow rl.length c_ow) ∧ Bx w' w5.heap.size (.int .i64 m0) (.slice A_x0 xs0.length c_x0) ∧ Bx w' w6.heap.size (.int .i64 rm) (.slice A_og rl.length c_og) ∧ OwnI w' w3.heap.size (.slice A_ow rl.length c_ow) rl ∧ OwnI w' (w4.heap.size + 1) (.slice A_x0 xs0.length c_x0) xs0 ∧ OwnI w' (w5.heap.size + 1) (.slice A_og rl.length c_og) rl ∧ Below w.heap.size w w' ∧ w7.heap.size ≤ w'.heap.size))
    (first | exact ⟨(T0.out.1).2.1, (T0.out.1).2.2, (T0.out.2.1).2.1, (T0.out.2.1).2.2, (T0.out.2.2.1).2.1, (T0.out.2.2.1).2.2, (T0.out.2.2.2.1).2.1, (T0.out.2.2.2.1).2.2, T0⟩ | exact ⟨(T1.out.1).2.1, (T1.out.1).2.2, (T1.out.2.1).2.1, (T1.out.2.1).2.2, (T1.out.2.2.1).2.1, (T1.out.2.2.1).2.2, (T1.out.2.2.2.1).2.1, (T1.out.2.2.2.1).2.2, T1⟩ | exact ⟨(T2.out.1).2.1, (T2.out.1).2.2, (T2.out.2.1).2.1, (T2.out.2.1).2.2, (T2.out.2.2.1).2.1, (T2.out.2.2.1).2.2, (T2.out.2.2.2.1).2.1, (T2.out.2.2.2.1).2.2, T2⟩)
    (first
      | (go_at_call 19; refine (toS_any _ m0 _ xs0 (hv0.below L0) (by omega)).mono ?_; rintro e w8 ⟨A_t, c_t, rfl, o_t, hbA⟩; have T1 : Hid (Bx w8 w.heap.size (.int .i64 m0) (.slice A0 xs0.length c0) ∧ Bx w8 w4.heap.size (.int .i64 rm) (.slice A_ow rl.length c_ow) ∧ Bx w8 w5.heap.size (.int .i64 m0) (.slice A_x0 xs0.length c_x0) ∧ Bx w8 w6.heap.size (.int .i64 rm) (.slice A_og rl.length c_og) ∧ OwnI w8 w3.heap.size (.slice A_ow rl.length c_ow) rl ∧ OwnI w8 (w4.heap.size + 1) (.slice A_x0 xs0.length c_x0) xs0 ∧ OwnI w8 (w5.heap.size + 1) (.slice A_og rl.length c_og) rl ∧ Below w.heap.size w w8 ∧ w7.heap.size ≤ w8.heap.size) := ⟨(T0.out.1).keep hbA, (T0.out.2.1).keep hbA, (T0.out.2.2.1).keep hbA, (T0.out.2.2.2.1).keep hbA, (T0.out.2.2.2.2.1).keep hbA (Nat.le_refl _), (T0.out.2.2.2.2.2.1).keep hbA (Nat.le_refl _), (T0.out.2.2.2.2.2.2.1).keep hbA (Nat.le_refl _), (T0.out.2.2.2.2.2.2.2.1).trans (hbA.mono (Nat.le_trans (show w.heap.size ≤ w7.heap.size from by omega) (T0.out.2.2.2.2.2.2.2.2))), Nat.le_trans (T0.out.2.2.2.2.2.2.2.2) hbA.size⟩)
      | (go_at_call 21; refine (eqS_any _ m0 m0 _ _ xs0 xs0 (T1.out.2.2.2.2.2.1).rd o_t.rd).mono ?_; rintro e w9 ⟨rfl, hbB⟩; have T2 : Hid (Bx w9 w.heap.size (.int .i64 m0) (.slice A0 xs0.length c0) ∧ Bx w9 w4.heap.size (.int .i64 rm) (.slice A_ow rl.length c_ow) ∧ Bx w9 w5.heap.size (.int .i64 m0) (.slice A_x0 xs0.length c_x0) ∧ Bx w9 w6.heap.size (.int .i64 rm) (.slice A_og rl.length c_og) ∧ OwnI w9 w3.heap.size (.slice A_ow rl.length c_ow) rl ∧ OwnI w9 (w4.heap.size + 1) (.slice A_x0 xs0.length c_x0) xs0 ∧ OwnI w9 (w5.heap.size + 1) (.slice A_og rl.length c_og) rl ∧ Below w.heap.size w w9 ∧ w7.heap.size ≤ w9.heap.size) := ⟨(T1.out.1).keep hbB, (T1.out.2.1).keep hbB, (T1.out.2.2.1).keep hbB, (T1.out.2.2.2.1).keep hbB, (T1.out.2.2.2.2.1).keep hbB (Nat.le_refl _), (T1.out.2.2.2.2.2.1).keep hbB (Nat.le_refl _), (T1.out.2.2.2.2.2.2.1).keep hbB (Nat.le_refl _), (T1.out.2.2.2.2.2.2.2.1).trans (hbB.mono (Nat.le_trans (show w.heap.size ≤ w7.heap.size from by omega) (T1.out.2.2.2.2.2.2.2.2))), Nat.le_trans (T1.out.2.2.2.2.2.2.2.2) hbB.size⟩))
  have s9 : w7.heap.size ≤ w9.heap.size := T2.out.2.2.2.2.2.2.2.2
  have K9 : Hid (Below w.heap.size w w9) := T2.out.2.2.2.2.2.2.2.1
  replace b0 : Hid (Bx w9 w.heap.size (.int .i64 m0) (.slice A0 xs0.length c0)) := T2.out.1
  replace bw : Hid (Bx w9 w4.heap.size (.int .i64 rm) (.slice A_ow rl.length c_ow)) := T2.out.2.1
  replace bx0 : Hid (Bx w9 w5.heap.size (.int .i64 m0) (.slice A_x0 xs0.length c_x0)) := T2.out.2.2.1
  replace bg : Hid (Bx w9 w6.heap.size (.int .i64 rm) (.slice A_og rl.length c_og)) := T2.out.2.2.2.1
  replace ow : Hid (OwnI w9 w3.heap.size (.slice A_ow rl.length c_ow) rl) := T2.out.2.2.2.2.1
  replace x0 : Hid (OwnI w9 (w4.heap.size + 1) (.slice A_x0 xs0.length c_x0) xs0) := T2.out.2.2.2.2.2.1
  replace og : Hid (OwnI w9 (w5.heap.size + 1) (.slice A_og rl.length c_og) rl) := T2.out.2.2.2.2.2.2.1
  clear T0 T1 T2 L0 o_t
  have b0_c := b0.out.2.1
  have b0_d := b0.out.2.2
  have b0_z := b0.out.1
  have bw_c := bw.out.2.1
  have bw_d := bw.out.2.2
  have bw_z := bw.out.1
  have bx0_c := bx0.out.2.1
  have bx0_d := bx0.out.2.2
  have bx0_z := bx0.out.1
  have bg_c := bg.out.2.1
  have bg_d := bg.out.2.2
  have bg_z := bg.out.1
  go_wp2_with fail
  refine (markS_any _ (w4.heap.size + 1) m0 _ _ xs0.length (1) (x0.out.keep (by (repeat (first | assumption | exact Below.refl _ _ | refine Below.alloc ?_ (by first | omega | (simp; done) | (simp; omega)) _ | refine Below.setCell ?_ (by first | omega | (simp; done) | (simp; omega)) _ | refine below_drewN ?_ _))) (Nat.le_refl _)) rfl (by omega) (by omega) (by omega)).mono ?_
  rintro e w10 ⟨rfl, o_m, hg10⟩
  clear b0_c b0_d b0_z
  clear bw_c bw_d bw_z
  clear bx0_c bx0_d bx0_z
  clear bg_c bg_d bg_z
  have R : w9.grownBy w10 (Value.ownBlock (.slice A_x0 xs0.length c_x0)) := grownBy_behind (by (repeat (first | assumption | exact Below.refl _ _ | refine Below.alloc ?_ (by first | omega | (simp; done) | (simp; omega)) _ | refine Below.setCell ?_ (by first | omega | (simp; done) | (simp; omega)) _ | refine below_drewN ?_ _))) hg10
  have s10 : w9.heap.size ≤ w10.heap.size := R.size
  have K10 : Hid (Below w.heap.size w w10) := below_grownBy K9.out (by omega) R (fun g hg => by have := x0_u.out g hg; omega)
  replace b0 : Hid (Bx w10 w.heap.size (.int .i64 m0) (.slice A0 xs0.length c0)) := b0.out.grown R (fun g hg => by have := x0_u.out g hg; omega)
  replace bw : Hid (Bx w10 w4.heap.size (.int .i64 rm) (.slice A_ow rl.length c_ow)) := bw.out.grown R (fun g hg => by have := x0_u.out g hg; omega)
  replace bx0 : Hid (Bx w10 w5.heap.size (.int .i64 m0) (.slice A_x0 xs0.length c_x0)) := bx0.out.grown R (fun g hg => by have := x0_u.out g hg; omega)
  replace bg : Hid (Bx w10 w6.heap.size (.int .i64 rm) (.slice A_og rl.length c_og)) := bg.out.grown R (fun g hg => by have := x0_u.out g hg; omega)
  replace ow : Hid (OwnI w10 w3.heap.size (.slice A_ow rl.length c_ow) rl) := ow.out.grown R (fun g g' hg hg' => by have := ow_u.out g hg; have := x0_u.out g' hg'; omega)
  replace og : Hid (OwnI w10 (w5.heap.size + 1) (.slice A_og rl.length c_og) rl) := og.out.grown R (fun g g' hg hg' => by have := og_u.out g hg; have := x0_u.out g' hg'; omega)
  clear R hg10
  replace x0 : Hid (OwnI w10 (w4.heap.size + 1) (.slice A_x0 xs0.length c_x0) (marks (1) xs0.length)) := o_m
  clear o_m
  have b0_c := b0.out.2.1
  have b0_d := b0.out.2.2
  have b0_z := b0.out.1
  have bw_c := bw.out.2.1
  have bw_d := bw.out.2.2
  have bw_z := bw.out.1
  have bx0_c := bx0.out.2.1
  have bx0_d := bx0.out.2.2
  have bx0_z := bx0.out.1
  have bg_c := bg.out.2.1
  have bg_d := bg.out.2.2
  have bg_z := bg.out.1
  go_wp2_with fail
  refine (eqS_any _ rm rm _ _ _ _ (og.out.keep (by (repeat (first | assumption | exact Below.refl _ _ | refine Below.alloc ?_ (by first | omega | (simp; done) | (simp; omega)) _ | refine Below.setCell ?_ (by first | omega | (simp; done) | (simp; omega)) _ | refine below_drewN ?_ _))) (Nat.le_refl _)).rd (ow.out.keep (by (repeat (first | assumption | exact Below.refl _ _ | refine Below.alloc ?_ (by first | omega | (simp; done) | (simp; omega)) _ | refine Below.setCell ?_ (by first | omega | (simp; done) | (simp; omega)) _ | refine below_drewN ?_ _))) (Nat.le_refl _)).rd).mono ?_
  rintro e w11 ⟨rfl, hb11⟩
  clear b0_c b0_d b0_z
  clear bw_c bw_d bw_z
  clear bx0_c bx0_d bx0_z
  clear bg_c bg_d bg_z
  have R : Below w10.heap.size w10 w11 := Below.trans (by (repeat (first | assumption | exact Below.refl _ _ | refine Below.alloc ?_ (by first | omega | (simp; done) | (simp; omega)) _ | refine Below.setCell ?_ (by first | omega | (simp; done) | (simp; omega)) _ | refine below_drewN ?_ _))) (hb11.mono (by first | exact Nat.le_refl _ | (simp; done) | (simp; omega)))
  have s11 : w10.heap.size ≤ w11.heap.size := R.size
  have K11 : Hid (Below w.heap.size w w11) := K10.out.trans (R.mono (by omega))
  replace b0 : Hid (Bx w11 w.heap.size (.int .i64 m0) (.slice A0 xs0.length c0)) := b0.out.keep R
  replace bw : Hid (Bx w11 w4.heap.size (.int .i64 rm) (.slice A_ow rl.length c_ow)) := bw.out.keep R
  replace bx0 : Hid (Bx w11 w5.heap.size (.int .i64 m0) (.slice A_x0 xs0.length c_x0)) := bx0.out.keep R
  replace bg : Hid (Bx w11 w6.heap.size (.int .i64 rm) (.slice A_og rl.length c_og)) := bg.out.keep R
  replace ow : Hid (OwnI w11 w3.heap.size (.slice A_ow rl.length c_ow) rl) := ow.out.keep R (Nat.le_refl _)
  replace x0 : Hid (OwnI w11 (w4.heap.size + 1) (.slice A_x0 xs0.length c_x0) (marks (1) xs0.length)) := x0.out.keep R (Nat.le_refl _)
  replace og : Hid (OwnI w11 (w5.heap.size + 1) (.slice A_og rl.length c_og) rl) := og.out.keep R (Nat.le_refl _)
  clear R hb11
  have b0_c := b0.out.2.1
  have b0_d := b0.out.2.2
  have b0_z := b0.out.1
  have bw_c := bw.out.2.1
  have bw_d := bw.out.2.2
  have bw_z := bw.out.1
  have bx0_c := bx0.out.2.1
  have bx0_d := bx0.out.2.2
  have bx0_z := bx0.out.1
  have bg_c := bg.out.2.1
  have bg_d := bg.out.2.2
  have bg_z := bg.out.1
  go_wp2_with fail
  refine (markS_any _ (w5.heap.size + 1) rm _ _ rl.length (1) (og.out.keep (by (repeat (first | assumption | exact Below.refl _ _ | refine Below.alloc ?_ (by first | omega | (simp; done) | (simp; omega)) _ | refine Below.setCell ?_ (by first | omega | (simp; done) | (simp; omega)) _ | refine below_drewN ?_ _))) (Nat.le_refl _)) rfl (by omega) (by omega) (by omega)).mono ?_
  rintro e w12 ⟨rfl, o_m, hg12⟩
  clear b0_c b0_d b0_z
  clear bw_c bw_d bw_z
  clear bx0_c bx0_d bx0_z
  clear bg_c bg_d bg_z
  have R : w11.grownBy w12 (Value.ownBlock (.slice A_og rl.length c_og)) := grownBy_behind (by (repeat (first | assumption | exact Below.refl _ _ | refine Below.alloc ?_ (by first | omega | (simp; done) | (simp; omega)) _ | refine Below.setCell ?_ (by first | omega | (simp; done) | (simp; omega)) _ | refine below_drewN ?_ _))) hg12
  have s12 : w11.heap.size ≤ w12.heap.size := R.size
  have K12 : Hid (Below w.heap.size w w12) := below_grownBy K11.out (by omega) R (fun g hg => by have := og_u.out g hg; omega)
  replace b0 : Hid (Bx w12 w.heap.size (.int .i64 m0) (.slice A0 xs0.length c0)) := b0.out.grown R (fun g hg => by have := og_u.out g hg; omega)
  replace bw : Hid (Bx w12 w4.heap.size (.int .i64 rm) (.slice A_ow rl.length c_ow)) := bw.out.grown R (fun g hg => by have := og_u.out g hg; omega)
  replace bx0 : Hid (Bx w12 w5.heap.size (.int .i64 m0) (.slice A_x0 xs0.length c_x0)) := bx0.out.grown R (fun g hg => by have := og_u.out g hg; omega)
  replace bg : Hid (Bx w12 w6.heap.size (.int .i64 rm) (.slice A_og rl.length c_og)) := bg.out.grown R (fun g hg => by have := og_u.out g hg; omega)
  replace ow : Hid (OwnI w12 w3.heap.size (.slice A_ow rl.length c_ow) rl) := ow.out.grown R (fun g g' hg hg' => by have := ow_u.out g hg; have := og_u.out g' hg'; omega)
  replace x0 : Hid (OwnI w12 (w4.heap.size + 1) (.slice A_x0 xs0.length c_x0) (marks (1) xs0.length)) := x0.out.grown R (fun g g' hg hg' => by have := x0_u.out g hg; have := og_u.out g' hg'; omega)
  clear R hg12
  replace og : Hid (OwnI w12 (w5.heap.size + 1) (.slice A_og rl.length c_og) (marks (1) rl.length)) := o_m
  clear o_m
  have b0_c := b0.out.2.1
  have b0_d := b0.out.2.2
  have b0_z := b0.out.1
  have bw_c := bw.out.2.1
  have bw_d := bw.out.2.2
  have bw_z := bw.out.1
  have bx0_c := bx0.out.2.1
  have bx0_d := bx0.out.2.2
  have bx0_z := bx0.out.1
  have bg_c := bg.out.2.1
  have bg_d := bg.out.2.2
  have bg_z := bg.out.1
  go_wp2_with fail
  refine (heldS_any _ (w5.heap.size + 1) rm _ rl.length (1) (og.out.keep (by (repeat (first | assumption | exact Below.refl _ _ | refine Below.alloc ?_ (by first | omega | (simp; done) | (simp; omega)) _ | refine Below.setCell ?_ (by first | omega | (simp; done) | (simp; omega)) _ | refine below_drewN ?_ _))) (Nat.le_refl _)) (by omega) (by omega) (by omega)).mono ?_
  rintro e w13 ⟨rfl, hb13⟩
  clear b0_c b0_d b0_z
  clear bw_c bw_d bw_z
  clear bx0_c bx0_d bx0_z
  clear bg_c bg_d bg_z
  have R : Below w12.heap.size w12 w13 := Below.trans (by (repeat (first | assumption | exact Below.refl _ _ | refine Below.alloc ?_ (by first | omega | (simp; done) | (simp; omega)) _ | refine Below.setCell ?_ (by first | omega | (simp; done) | (simp; omega)) _ | refine below_drewN ?_ _))) (hb13.mono (by first | exact Nat.le_refl _ | (simp; done) | (simp; omega)))
  have s13 : w12.heap.size ≤ w13.heap.size := R.size
  have K13 : Hid (Below w.heap.size w w13) := K12.out.trans (R.mono (by omega))
  replace b0 : Hid (Bx w13 w.heap.size (.int .i64 m0) (.slice A0 xs0.length c0)) := b0.out.keep R
  replace bw : Hid (Bx w13 w4.heap.size (.int .i64 rm) (.slice A_ow rl.length c_ow)) := bw.out.keep R
  replace bx0 : Hid (Bx w13 w5.heap.size (.int .i64 m0) (.slice A_x0 xs0.length c_x0)) := bx0.out.keep R
  replace bg : Hid (Bx w13 w6.heap.size (.int .i64 rm) (.slice A_og rl.length c_og)) := bg.out.keep R
  replace ow : Hid (OwnI w13 w3.heap.size (.slice A_ow rl.length c_ow) rl) := ow.out.keep R (Nat.le_refl _)
  replace x0 : Hid (OwnI w13 (w4.heap.size + 1) (.slice A_x0 xs0.length c_x0) (marks (1) xs0.length)) := x0.out.keep R (Nat.le_refl _)
  replace og : Hid (OwnI w13 (w5.heap.size + 1) (.slice A_og rl.length c_og) (marks (1) rl.length)) := og.out.keep R (Nat.le_refl _)
  clear R hb13
  have b0_c := b0.out.2.1
  have b0_d := b0.out.2.2
  have b0_z := b0.out.1
  have bw_c := bw.out.2.1
  have bw_d := bw.out.2.2
  have bw_z := bw.out.1
  have bx0_c := bx0.out.2.1
  have bx0_d := bx0.out.2.2
  have bx0_z := bx0.out.1
  have bg_c := bg.out.2.1
  have bg_d := bg.out.2.2
  have bg_z := bg.out.1
  go_wp2_with fail
  refine (toS_any _ m0 _ xs0 (hv0.below K13.out) (by omega)).mono ?_
  rintro e w14 ⟨A_y0, c_y0, rfl, o_y0, hb14⟩
  clear b0_c b0_d b0_z
  clear bw_c bw_d bw_z
  clear bx0_c bx0_d bx0_z
  clear bg_c bg_d bg_z
  have o_y0' := o_y0.mono (show w13.heap.size ≤ _ from by first | exact Nat.le_refl _ | (simp; done) | (simp; omega))
  clear o_y0
  have R : Below w13.heap.size w13 w14 := Below.trans (by (repeat (first | assumption | exact Below.refl _ _ | refine Below.alloc ?_ (by first | omega | (simp; done) | (simp; omega)) _ | refine Below.setCell ?_ (by first | omega | (simp; done) | (simp; omega)) _ | refine below_drewN ?_ _))) (hb14.mono (by first | exact Nat.le_refl _ | (simp; done) | (simp; omega)))
  have s14 : w13.heap.size ≤ w14.heap.size := R.size
  have K14 : Hid (Below w.heap.size w w14) := K13.out.trans (R.mono (by omega))
  replace b0 : Hid (Bx w14 w.heap.size (.int .i64 m0) (.slice A0 xs0.length c0)) := b0.out.keep R
  replace bw : Hid (Bx w14 w4.heap.size (.int .i64 rm) (.slice A_ow rl.length c_ow)) := bw.out.keep R
  replace bx0 : Hid (Bx w14 w5.heap.size (.int .i64 m0) (.slice A_x0 xs0.length c_x0)) := bx0.out.keep R
  replace bg : Hid (Bx w14 w6.heap.size (.int .i64 rm) (.slice A_og rl.length c_og)) := bg.out.keep R
  replace ow : Hid (OwnI w14 w3.heap.size (.slice A_ow rl.length c_ow) rl) := ow.out.keep R (Nat.le_refl _)
  replace x0 : Hid (OwnI w14 (w4.heap.size + 1) (.slice A_x0 xs0.length c_x0) (marks (1) xs0.length)) := x0.out.keep R (Nat.le_refl _)
  replace og : Hid (OwnI w14 (w5.heap.size + 1) (.slice A_og rl.length c_og) (marks (1) rl.length)) := og.out.keep R (Nat.le_refl _)
  clear R hb14
  have y0 : Hid (OwnI w14 w13.heap.size (.slice A_y0 xs0.length c_y0) xs0) := o_y0'
  have y0_u : Hid (∀ g, Value.ownBlock (.slice A_y0 xs0.length c_y0) = some g → w13.heap.size ≤ g ∧ g < w14.heap.size) := fun g hg => o_y0'.block_ge hg
  clear o_y0'
  have b0_c := b0.out.2.1
  have b0_d := b0.out.2.2
  have b0_z := b0.out.1
  have bw_c := bw.out.2.1
  have bw_d := bw.out.2.2
  have bw_z := bw.out.1
  have bx0_c := bx0.out.2.1
  have bx0_d := bx0.out.2.2
  have bx0_z := bx0.out.1
  have bg_c := bg.out.2.1
  have bg_d := bg.out.2.2
  have bg_z := bg.out.1
  go_wp2_with fail
  refine (iCutSeriesR_any _ m0 (.slice A_y0 xs0.length c_y0) xs0 a1 w13.heap.size (y0.out.keep (by (repeat (first | assumption | exact Below.refl _ _ | refine Below.alloc ?_ (by first | omega | (simp; done) | (simp; omega)) _ | refine Below.setCell ?_ (by first | omega | (simp; done) | (simp; omega)) _ | refine below_drewN ?_ _))) (Nat.le_refl _)) (by omega)).mono ?_
  rintro e w15 h_r
  replace h_r := h_r.of HR
  obtain ⟨A_oh, c_oh, rfl, o_oh, hb15⟩ := h_r
  have o_oh' := o_oh.mono (show w14.heap.size ≤ _ from by first | exact Nat.le_refl _ | (simp; done) | (simp; omega))
  clear o_oh
  clear b0_c b0_d b0_z
  clear bw_c bw_d bw_z
  clear bx0_c bx0_d bx0_z
  clear bg_c bg_d bg_z
  have R : Below w14.heap.size w14 w15 := Below.trans (by (repeat (first | assumption | exact Below.refl _ _ | refine Below.alloc ?_ (by first | omega | (simp; done) | (simp; omega)) _ | refine Below.setCell ?_ (by first | omega | (simp; done) | (simp; omega)) _ | refine below_drewN ?_ _))) (hb15.mono (by first | exact Nat.le_refl _ | (simp; done) | (simp; omega)))
  have s15 : w14.heap.size ≤ w15.heap.size := R.size
  have K15 : Hid (Below w.heap.size w w15) := K14.out.trans (R.mono (by omega))
  replace b0 : Hid (Bx w15 w.heap.size (.int .i64 m0) (.slice A0 xs0.length c0)) := b0.out.keep R
  replace bw : Hid (Bx w15 w4.heap.size (.int .i64 rm) (.slice A_ow rl.length c_ow)) := bw.out.keep R
  replace bx0 : Hid (Bx w15 w5.heap.size (.int .i64 m0) (.slice A_x0 xs0.length c_x0)) := bx0.out.keep R
  replace bg : Hid (Bx w15 w6.heap.size (.int .i64 rm) (.slice A_og rl.length c_og)) := bg.out.keep R
  replace ow : Hid (OwnI w15 w3.heap.size (.slice A_ow rl.length c_ow) rl) := ow.out.keep R (Nat.le_refl _)
  replace x0 : Hid (OwnI w15 (w4.heap.size + 1) (.slice A_x0 xs0.length c_x0) (marks (1) xs0.length)) := x0.out.keep R (Nat.le_refl _)
  replace og : Hid (OwnI w15 (w5.heap.size + 1) (.slice A_og rl.length c_og) (marks (1) rl.length)) := og.out.keep R (Nat.le_refl _)
  replace y0 : Hid (OwnI w15 w13.heap.size (.slice A_y0 xs0.length c_y0) xs0) := y0.out.keep R (Nat.le_refl _)
  clear R hb15
  have oh : Hid (OwnI w15 w14.heap.size (.slice A_oh rl.length c_oh) rl) := o_oh'
  have oh_u : Hid (∀ g, Value.ownBlock (.slice A_oh rl.length c_oh) = some g → w14.heap.size ≤ g ∧ g < w15.heap.size) := fun g hg => o_oh'.block_ge hg
  clear o_oh'
  have b0_c := b0.out.2.1
  have b0_d := b0.out.2.2
  have b0_z := b0.out.1
  have bw_c := bw.out.2.1
  have bw_d := bw.out.2.2
  have bw_z := bw.out.1
  have bx0_c := bx0.out.2.1
  have bx0_d := bx0.out.2.2
  have bx0_z := bx0.out.1
  have bg_c := bg.out.2.1
  have bg_d := bg.out.2.2
  have bg_z := bg.out.1
  go_wp2_with fail
  refine (eqS_any _ rm rm _ _ _ _ (oh.out.keep (by (repeat (first | assumption | exact Below.refl _ _ | refine Below.alloc ?_ (by first | omega | (simp; done) | (simp; omega)) _ | refine Below.setCell ?_ (by first | omega | (simp; done) | (simp; omega)) _ | refine below_drewN ?_ _))) (Nat.le_refl _)).rd (ow.out.keep (by (repeat (first | assumption | exact Below.refl _ _ | refine Below.alloc ?_ (by first | omega | (simp; done) | (simp; omega)) _ | refine Below.setCell ?_ (by first | omega | (simp; done) | (simp; omega)) _ | refine below_drewN ?_ _))) (Nat.le_refl _)).rd).mono ?_
  rintro e w16 ⟨rfl, hb16⟩
  clear b0_c b0_d b0_z
  clear bw_c bw_d bw_z
  clear bx0_c bx0_d bx0_z
  clear bg_c bg_d bg_z
  have R : Below w15.heap.size w15 w16 := Below.trans (by (repeat (first | assumption | exact Below.refl _ _ | refine Below.alloc ?_ (by first | omega | (simp; done) | (simp; omega)) _ | refine Below.setCell ?_ (by first | omega | (simp; done) | (simp; omega)) _ | refine below_drewN ?_ _))) (hb16.mono (by first | exact Nat.le_refl _ | (simp; done) | (simp; omega)))
  have s16 : w15.heap.size ≤ w16.heap.size := R.size
  have K16 : Hid (Below w.heap.size w w16) := K15.out.trans (R.mono (by omega))
  replace b0 : Hid (Bx w16 w.heap.size (.int .i64 m0) (.slice A0 xs0.length c0)) := b0.out.keep R
  replace bw : Hid (Bx w16 w4.heap.size (.int .i64 rm) (.slice A_ow rl.length c_ow)) := bw.out.keep R
  replace bx0 : Hid (Bx w16 w5.heap.size (.int .i64 m0) (.slice A_x0 xs0.length c_x0)) := bx0.out.keep R
  replace bg : Hid (Bx w16 w6.heap.size (.int .i64 rm) (.slice A_og rl.length c_og)) := bg.out.keep R
  replace ow : Hid (OwnI w16 w3.heap.size (.slice A_ow rl.length c_ow) rl) := ow.out.keep R (Nat.le_refl _)
  replace x0 : Hid (OwnI w16 (w4.heap.size + 1) (.slice A_x0 xs0.length c_x0) (marks (1) xs0.length)) := x0.out.keep R (Nat.le_refl _)
  replace og : Hid (OwnI w16 (w5.heap.size + 1) (.slice A_og rl.length c_og) (marks (1) rl.length)) := og.out.keep R (Nat.le_refl _)
  replace y0 : Hid (OwnI w16 w13.heap.size (.slice A_y0 xs0.length c_y0) xs0) := y0.out.keep R (Nat.le_refl _)
  replace oh : Hid (OwnI w16 w14.heap.size (.slice A_oh rl.length c_oh) rl) := oh.out.keep R (Nat.le_refl _)
  have bh : Hid (Bx w16 w15.heap.size (.int .i64 rm) (.slice A_oh rl.length c_oh)) := ⟨by have := hb16.size; simp at this; omega, by rw [hb16.cell (by first | (simp; done) | (simp; omega))]; simp, by rw [hb16.cell (by first | (simp; done) | (simp; omega))]; simp⟩
  clear R hb16
  have b0_c := b0.out.2.1
  have b0_d := b0.out.2.2
  have b0_z := b0.out.1
  have bw_c := bw.out.2.1
  have bw_d := bw.out.2.2
  have bw_z := bw.out.1
  have bx0_c := bx0.out.2.1
  have bx0_d := bx0.out.2.2
  have bx0_z := bx0.out.1
  have bg_c := bg.out.2.1
  have bg_d := bg.out.2.2
  have bg_z := bg.out.1
  have bh_c := bh.out.2.1
  have bh_d := bh.out.2.2
  have bh_z := bh.out.1
  go_wp2_with fail
  refine (heldS_any _ (w5.heap.size + 1) rm _ rl.length (1) (og.out.keep (by (repeat (first | assumption | exact Below.refl _ _ | refine Below.alloc ?_ (by first | omega | (simp; done) | (simp; omega)) _ | refine Below.setCell ?_ (by first | omega | (simp; done) | (simp; omega)) _ | refine below_drewN ?_ _))) (Nat.le_refl _)) (by omega) (by omega) (by omega)).mono ?_
  rintro e w17 ⟨rfl, hb17⟩
  clear b0_c b0_d b0_z
  clear bw_c bw_d bw_z
  clear bx0_c bx0_d bx0_z
  clear bg_c bg_d bg_z
  clear bh_c bh_d bh_z
  have R : Below w16.heap.size w16 w17 := Below.trans (by (repeat (first | assumption | exact Below.refl _ _ | refine Below.alloc ?_ (by first | omega | (simp; done) | (simp; omega)) _ | refine Below.setCell ?_ (by first | omega | (simp; done) | (simp; omega)) _ | refine below_drewN ?_ _))) (hb17.mono (by first | exact Nat.le_refl _ | (simp; done) | (simp; omega)))
  have s17 : w16.heap.size ≤ w17.heap.size := R.size
  have K17 : Hid (Below w.heap.size w w17) := K16.out.trans (R.mono (by omega))
  replace b0 : Hid (Bx w17 w.heap.size (.int .i64 m0) (.slice A0 xs0.length c0)) := b0.out.keep R
  replace bw : Hid (Bx w17 w4.heap.size (.int .i64 rm) (.slice A_ow rl.length c_ow)) := bw.out.keep R
  replace bx0 : Hid (Bx w17 w5.heap.size (.int .i64 m0) (.slice A_x0 xs0.length c_x0)) := bx0.out.keep R
  replace bg : Hid (Bx w17 w6.heap.size (.int .i64 rm) (.slice A_og rl.length c_og)) := bg.out.keep R
  replace bh : Hid (Bx w17 w15.heap.size (.int .i64 rm) (.slice A_oh rl.length c_oh)) := bh.out.keep R
  replace ow : Hid (OwnI w17 w3.heap.size (.slice A_ow rl.length c_ow) rl) := ow.out.keep R (Nat.le_refl _)
  replace x0 : Hid (OwnI w17 (w4.heap.size + 1) (.slice A_x0 xs0.length c_x0) (marks (1) xs0.length)) := x0.out.keep R (Nat.le_refl _)
  replace og : Hid (OwnI w17 (w5.heap.size + 1) (.slice A_og rl.length c_og) (marks (1) rl.length)) := og.out.keep R (Nat.le_refl _)
  replace y0 : Hid (OwnI w17 w13.heap.size (.slice A_y0 xs0.length c_y0) xs0) := y0.out.keep R (Nat.le_refl _)
  replace oh : Hid (OwnI w17 w14.heap.size (.slice A_oh rl.length c_oh) rl) := oh.out.keep R (Nat.le_refl _)
  clear R hb17
  have b0_c := b0.out.2.1
  have b0_d := b0.out.2.2
  have b0_z := b0.out.1
  have bw_c := bw.out.2.1
  have bw_d := bw.out.2.2
  have bw_z := bw.out.1
  have bx0_c := bx0.out.2.1
  have bx0_d := bx0.out.2.2
  have bx0_z := bx0.out.1
  have bg_c := bg.out.2.1
  have bg_d := bg.out.2.2
  have bg_z := bg.out.1
  have bh_c := bh.out.2.1
  have bh_d := bh.out.2.2
  have bh_z := bh.out.1
  go_wp2
  go_ret
  exact ⟨rfl, K17.out⟩

set_option maxHeartbeats 4000000 in
theorem FnExactChangeSeries_walk (w : World) (m0 : Int) (v0 : Value) (xs0 : List Int) (hv0 : RdI w v0 xs0) (a1 : Int) : Calls Try.prog 13 #[.agg #[.int .i64 m0, v0], .int .i64 a1] w fun e w' => e = .returned (.bool true) ∧ Below w.heap.size w w' := by
  obtain ⟨A0, c0, e0⟩ := hv0.form
  subst e0
  obtain ⟨r0, HR⟩ : ∃ r0, Hid (ChangeSeriesR m0 xs0 a1 = r0) := ⟨_, rfl⟩
  obtain ⟨⟨rm, rl⟩, rc⟩ := r0
  have hlen := ChangeSeriesR_len m0 xs0 a1
  rw [HR.out] at hlen
  simp only at hlen
  by_cases hz0 : 1048576 < (xs0.length : Int)
  · skip
    have HZ0 := Lib.hid (szN_lt hz0)
    go_enter Try.func13, Try.ntmps13
    go_wp2_with fail
    refine (szS_any _ m0 _ xs0 (1048576) (hv0.below (by (repeat (first | assumption | exact Below.refl _ _ | refine Below.alloc ?_ (by first | omega | (simp; done) | (simp; omega)) _ | refine Below.setCell ?_ (by first | omega | (simp; done) | (simp; omega)) _ | refine below_drewN ?_ _)))) (by omega) (by omega)).mono ?_
    rintro e w1 ⟨rfl, hb1⟩
    rw [HZ0.out]
    have R : Below w.heap.size w w1 := Below.trans (by (repeat (first | assumption | exact Below.refl _ _ | refine Below.alloc ?_ (by first | omega | (simp; done) | (simp; omega)) _ | refine Below.setCell ?_ (by first | omega | (simp; done) | (simp; omega)) _ | refine below_drewN ?_ _))) (hb1.mono (by first | exact Nat.le_refl _ | (simp; done) | (simp; omega)))
    have s1 : w.heap.size ≤ w1.heap.size := R.size
    have K1 : Hid (Below w.heap.size w w1) := R
    have b0 : Hid (Bx w1 w.heap.size (.int .i64 m0) (.slice A0 xs0.length c0)) := ⟨by have := hb1.size; simp at this; omega, by rw [hb1.cell (by first | (simp; done) | (simp; omega))]; simp, by rw [hb1.cell (by first | (simp; done) | (simp; omega))]; simp⟩
    clear R hb1
    have b0_c := b0.out.2.1
    have b0_d := b0.out.2.2
    have b0_z := b0.out.1
    go_wp2
    go_ret
    exact ⟨rfl, K1.out⟩
  have HZ0 := Lib.hid (szN_ge hz0)
  have hl0 : (xs0.length : Int) ≤ 1048576 := by omega
  clear hz0
  go_enter Try.func13, Try.ntmps13
  go_wp2_with fail
  refine (szS_any _ m0 _ xs0 (1048576) (hv0.below (by (repeat (first | assumption | exact Below.refl _ _ | refine Below.alloc ?_ (by first | omega | (simp; done) | (simp; omega)) _ | refine Below.setCell ?_ (by first | omega | (simp; done) | (simp; omega)) _ | refine below_drewN ?_ _)))) (by omega) (by omega)).mono ?_
  rintro e w2 ⟨rfl, hb2⟩
  rw [HZ0.out]
  have R : Below w.heap.size w w2 := Below.trans (by (repeat (first | assumption | exact Below.refl _ _ | refine Below.alloc ?_ (by first | omega | (simp; done) | (simp; omega)) _ | refine Below.setCell ?_ (by first | omega | (simp; done) | (simp; omega)) _ | refine below_drewN ?_ _))) (hb2.mono (by first | exact Nat.le_refl _ | (simp; done) | (simp; omega)))
  have s2 : w.heap.size ≤ w2.heap.size := R.size
  have K2 : Hid (Below w.heap.size w w2) := R
  have b0 : Hid (Bx w2 w.heap.size (.int .i64 m0) (.slice A0 xs0.length c0)) := ⟨by have := hb2.size; simp at this; omega, by rw [hb2.cell (by first | (simp; done) | (simp; omega))]; simp, by rw [hb2.cell (by first | (simp; done) | (simp; omega))]; simp⟩
  clear R hb2
  have b0_c := b0.out.2.1
  have b0_d := b0.out.2.2
  have b0_z := b0.out.1
  go_wp2_with fail
  refine (toS_any _ m0 _ xs0 (hv0.below K2.out) (by omega)).mono ?_
  rintro e w3 ⟨A_p0, c_p0, rfl, o_p0, hb3⟩
  clear b0_c b0_d b0_z
  have o_p0' := o_p0.mono (show w2.heap.size ≤ _ from by first | exact Nat.le_refl _ | (simp; done) | (simp; omega))
  clear o_p0
  have R : Below w2.heap.size w2 w3 := Below.trans (by (repeat (first | assumption | exact Below.refl _ _ | refine Below.alloc ?_ (by first | omega | (simp; done) | (simp; omega)) _ | refine Below.setCell ?_ (by first | omega | (simp; done) | (simp; omega)) _ | refine below_drewN ?_ _))) (hb3.mono (by first | exact Nat.le_refl _ | (simp; done) | (simp; omega)))
  have s3 : w2.heap.size ≤ w3.heap.size := R.size
  have K3 : Hid (Below w.heap.size w w3) := K2.out.trans (R.mono (by omega))
  replace b0 : Hid (Bx w3 w.heap.size (.int .i64 m0) (.slice A0 xs0.length c0)) := b0.out.keep R
  clear R hb3
  have p0 : Hid (OwnI w3 w2.heap.size (.slice A_p0 xs0.length c_p0) xs0) := o_p0'
  have p0_u : Hid (∀ g, Value.ownBlock (.slice A_p0 xs0.length c_p0) = some g → w2.heap.size ≤ g ∧ g < w3.heap.size) := fun g hg => o_p0'.block_ge hg
  clear o_p0'
  have b0_c := b0.out.2.1
  have b0_d := b0.out.2.2
  have b0_z := b0.out.1
  go_wp2_with fail
  refine (sChangeSeriesR_any _ m0 (.slice A_p0 xs0.length c_p0) xs0 a1 w2.heap.size (p0.out.keep (by (repeat (first | assumption | exact Below.refl _ _ | refine Below.alloc ?_ (by first | omega | (simp; done) | (simp; omega)) _ | refine Below.setCell ?_ (by first | omega | (simp; done) | (simp; omega)) _ | refine below_drewN ?_ _))) (Nat.le_refl _)) (by omega)).mono ?_
  rintro e w4 h_r
  replace h_r := h_r.of HR
  obtain ⟨A_ow, c_ow, rfl, o_ow, hb4⟩ := h_r
  have o_ow' := o_ow.mono (show w3.heap.size ≤ _ from by first | exact Nat.le_refl _ | (simp; done) | (simp; omega))
  clear o_ow
  clear b0_c b0_d b0_z
  have R : Below w3.heap.size w3 w4 := Below.trans (by (repeat (first | assumption | exact Below.refl _ _ | refine Below.alloc ?_ (by first | omega | (simp; done) | (simp; omega)) _ | refine Below.setCell ?_ (by first | omega | (simp; done) | (simp; omega)) _ | refine below_drewN ?_ _))) (hb4.mono (by first | exact Nat.le_refl _ | (simp; done) | (simp; omega)))
  have s4 : w3.heap.size ≤ w4.heap.size := R.size
  have K4 : Hid (Below w.heap.size w w4) := K3.out.trans (R.mono (by omega))
  replace b0 : Hid (Bx w4 w.heap.size (.int .i64 m0) (.slice A0 xs0.length c0)) := b0.out.keep R
  replace p0 : Hid (OwnI w4 w2.heap.size (.slice A_p0 xs0.length c_p0) xs0) := p0.out.keep R (Nat.le_refl _)
  clear R hb4
  have ow : Hid (OwnI w4 w3.heap.size (.slice A_ow rl.length c_ow) rl) := o_ow'
  have ow_u : Hid (∀ g, Value.ownBlock (.slice A_ow rl.length c_ow) = some g → w3.heap.size ≤ g ∧ g < w4.heap.size) := fun g hg => o_ow'.block_ge hg
  clear o_ow'
  clear p0 p0_u
  have b0_c := b0.out.2.1
  have b0_d := b0.out.2.2
  have b0_z := b0.out.1
  go_wp2_with fail
  refine (toS_any _ m0 _ xs0 (hv0.below (K4.out.trans (Below.mono (by (repeat (first | assumption | exact Below.refl _ _ | refine Below.alloc ?_ (by first | omega | (simp; done) | (simp; omega)) _ | refine Below.setCell ?_ (by first | omega | (simp; done) | (simp; omega)) _ | refine below_drewN ?_ _))) (by omega)))) (by omega)).mono ?_
  rintro e w5 ⟨A_x0, c_x0, rfl, o_x0, hb5⟩
  clear b0_c b0_d b0_z
  have o_x0' := o_x0.mono (show (w4.heap.size + 1) ≤ _ from by first | exact Nat.le_refl _ | (simp; done) | (simp; omega))
  clear o_x0
  have R : Below w4.heap.size w4 w5 := Below.trans (by (repeat (first | assumption | exact Below.refl _ _ | refine Below.alloc ?_ (by first | omega | (simp; done) | (simp; omega)) _ | refine Below.setCell ?_ (by first | omega | (simp; done) | (simp; omega)) _ | refine below_drewN ?_ _))) (hb5.mono (by first | exact Nat.le_refl _ | (simp; done) | (simp; omega)))
  have s5 : w4.heap.size ≤ w5.heap.size := R.size
  have K5 : Hid (Below w.heap.size w w5) := K4.out.trans (R.mono (by omega))
  replace b0 : Hid (Bx w5 w.heap.size (.int .i64 m0) (.slice A0 xs0.length c0)) := b0.out.keep R
  replace ow : Hid (OwnI w5 w3.heap.size (.slice A_ow rl.length c_ow) rl) := ow.out.keep R (Nat.le_refl _)
  have bw : Hid (Bx w5 w4.heap.size (.int .i64 rm) (.slice A_ow rl.length c_ow)) := ⟨by have := hb5.size; simp at this; omega, by rw [hb5.cell (by first | (simp; done) | (simp; omega))]; simp, by rw [hb5.cell (by first | (simp; done) | (simp; omega))]; simp⟩
  clear R hb5
  have x0 : Hid (OwnI w5 (w4.heap.size + 1) (.slice A_x0 xs0.length c_x0) xs0) := o_x0'
  have x0_u : Hid (∀ g, Value.ownBlock (.slice A_x0 xs0.length c_x0) = some g → (w4.heap.size + 1) ≤ g ∧ g < w5.heap.size) := fun g hg => o_x0'.block_ge hg
  clear o_x0'
  have b0_c := b0.out.2.1
  have b0_d := b0.out.2.2
  have b0_z := b0.out.1
  have bw_c := bw.out.2.1
  have bw_d := bw.out.2.2
  have bw_z := bw.out.1
  go_wp2_with fail
  refine (iChangeSeriesR_any _ m0 (.slice A_x0 xs0.length c_x0) xs0 a1 (w4.heap.size + 1) (x0.out.keep (by (repeat (first | assumption | exact Below.refl _ _ | refine Below.alloc ?_ (by first | omega | (simp; done) | (simp; omega)) _ | refine Below.setCell ?_ (by first | omega | (simp; done) | (simp; omega)) _ | refine below_drewN ?_ _))) (Nat.le_refl _)) (by omega)).mono ?_
  rintro e w6 h_r
  replace h_r := h_r.of HR
  obtain ⟨A_og, c_og, rfl, o_og, hb6⟩ := h_r
  have o_og' := o_og.mono (show (w5.heap.size + 1) ≤ _ from by first | exact Nat.le_refl _ | (simp; done) | (simp; omega))
  clear o_og
  clear b0_c b0_d b0_z
  clear bw_c bw_d bw_z
  have R : Below w5.heap.size w5 w6 := Below.trans (by (repeat (first | assumption | exact Below.refl _ _ | refine Below.alloc ?_ (by first | omega | (simp; done) | (simp; omega)) _ | refine Below.setCell ?_ (by first | omega | (simp; done) | (simp; omega)) _ | refine below_drewN ?_ _))) (hb6.mono (by first | exact Nat.le_refl _ | (simp; done) | (simp; omega)))
  have s6 : w5.heap.size ≤ w6.heap.size := R.size
  have K6 : Hid (Below w.heap.size w w6) := K5.out.trans (R.mono (by omega))
  replace b0 : Hid (Bx w6 w.heap.size (.int .i64 m0) (.slice A0 xs0.length c0)) := b0.out.keep R
  replace bw : Hid (Bx w6 w4.heap.size (.int .i64 rm) (.slice A_ow rl.length c_ow)) := bw.out.keep R
  replace ow : Hid (OwnI w6 w3.heap.size (.slice A_ow rl.length c_ow) rl) := ow.out.keep R (Nat.le_refl _)
  replace x0 : Hid (OwnI w6 (w4.heap.size + 1) (.slice A_x0 xs0.length c_x0) xs0) := x0.out.keep R (Nat.le_refl _)
  have bx0 : Hid (Bx w6 w5.heap.size (.int .i64 m0) (.slice A_x0 xs0.length c_x0)) := ⟨by have := hb6.size; simp at this; omega, by rw [hb6.cell (by first | (simp; done) | (simp; omega))]; simp, by rw [hb6.cell (by first | (simp; done) | (simp; omega))]; simp⟩
  clear R hb6
  have og : Hid (OwnI w6 (w5.heap.size + 1) (.slice A_og rl.length c_og) rl) := o_og'
  have og_u : Hid (∀ g, Value.ownBlock (.slice A_og rl.length c_og) = some g → (w5.heap.size + 1) ≤ g ∧ g < w6.heap.size) := fun g hg => o_og'.block_ge hg
  clear o_og'
  have b0_c := b0.out.2.1
  have b0_d := b0.out.2.2
  have b0_z := b0.out.1
  have bw_c := bw.out.2.1
  have bw_d := bw.out.2.2
  have bw_z := bw.out.1
  have bx0_c := bx0.out.2.1
  have bx0_d := bx0.out.2.2
  have bx0_z := bx0.out.1
  go_wp2_with fail
  refine (eqS_any _ rm rm _ _ _ _ (og.out.keep (by (repeat (first | assumption | exact Below.refl _ _ | refine Below.alloc ?_ (by first | omega | (simp; done) | (simp; omega)) _ | refine Below.setCell ?_ (by first | omega | (simp; done) | (simp; omega)) _ | refine below_drewN ?_ _))) (Nat.le_refl _)).rd (ow.out.keep (by (repeat (first | assumption | exact Below.refl _ _ | refine Below.alloc ?_ (by first | omega | (simp; done) | (simp; omega)) _ | refine Below.setCell ?_ (by first | omega | (simp; done) | (simp; omega)) _ | refine below_drewN ?_ _))) (Nat.le_refl _)).rd).mono ?_
  rintro e w7 ⟨rfl, hb7⟩
  clear b0_c b0_d b0_z
  clear bw_c bw_d bw_z
  clear bx0_c bx0_d bx0_z
  have R : Below w6.heap.size w6 w7 := Below.trans (by (repeat (first | assumption | exact Below.refl _ _ | refine Below.alloc ?_ (by first | omega | (simp; done) | (simp; omega)) _ | refine Below.setCell ?_ (by first | omega | (simp; done) | (simp; omega)) _ | refine below_drewN ?_ _))) (hb7.mono (by first | exact Nat.le_refl _ | (simp; done) | (simp; omega)))
  have s7 : w6.heap.size ≤ w7.heap.size := R.size
  have K7 : Hid (Below w.heap.size w w7) := K6.out.trans (R.mono (by omega))
  replace b0 : Hid (Bx w7 w.heap.size (.int .i64 m0) (.slice A0 xs0.length c0)) := b0.out.keep R
  replace bw : Hid (Bx w7 w4.heap.size (.int .i64 rm) (.slice A_ow rl.length c_ow)) := bw.out.keep R
  replace bx0 : Hid (Bx w7 w5.heap.size (.int .i64 m0) (.slice A_x0 xs0.length c_x0)) := bx0.out.keep R
  replace ow : Hid (OwnI w7 w3.heap.size (.slice A_ow rl.length c_ow) rl) := ow.out.keep R (Nat.le_refl _)
  replace x0 : Hid (OwnI w7 (w4.heap.size + 1) (.slice A_x0 xs0.length c_x0) xs0) := x0.out.keep R (Nat.le_refl _)
  replace og : Hid (OwnI w7 (w5.heap.size + 1) (.slice A_og rl.length c_og) rl) := og.out.keep R (Nat.le_refl _)
  have bg : Hid (Bx w7 w6.heap.size (.int .i64 rm) (.slice A_og rl.length c_og)) := ⟨by have := hb7.size; simp at this; omega, by rw [hb7.cell (by first | (simp; done) | (simp; omega))]; simp, by rw [hb7.cell (by first | (simp; done) | (simp; omega))]; simp⟩
  clear R hb7
  have b0_c := b0.out.2.1
  have b0_d := b0.out.2.2
  have b0_z := b0.out.1
  have bw_c := bw.out.2.1
  have bw_d := bw.out.2.2
  have bw_z := bw.out.1
  have bx0_c := bx0.out.2.1
  have bx0_d := bx0.out.2.2
  have bx0_z := bx0.out.1
  have bg_c := bg.out.2.1
  have bg_d := bg.out.2.2
  have bg_z := bg.out.1
  go_wp2
  clear b0_c b0_d b0_z
  clear bw_c bw_d bw_z
  clear bx0_c bx0_d bx0_z
  clear bg_c bg_d bg_z
  have L0 : Below w.heap.size w w7.drew := below_drew K7.out
  have T0 : Hid (Bx w7.drew w.heap.size (.int .i64 m0) (.slice A0 xs0.length c0) ∧ Bx w7.drew w4.heap.size (.int .i64 rm) (.slice A_ow rl.length c_ow) ∧ Bx w7.drew w5.heap.size (.int .i64 m0) (.slice A_x0 xs0.length c_x0) ∧ Bx w7.drew w6.heap.size (.int .i64 rm) (.slice A_og rl.length c_og) ∧ OwnI w7.drew w3.heap.size (.slice A_ow rl.length c_ow) rl ∧ OwnI w7.drew (w4.heap.size + 1) (.slice A_x0 xs0.length c_x0) xs0 ∧ OwnI w7.drew (w5.heap.size + 1) (.slice A_og rl.length c_og) rl ∧ Below w.heap.size w w7.drew ∧ w7.heap.size ≤ w7.drew.heap.size) := ⟨b0.out, bw.out, bx0.out, bg.out, ow.out, x0.out, og.out, L0, Nat.le_refl _⟩
  go_region_held3 (fun w' => w'.cell? ⟨w.heap.size, 0, none⟩ = some (.int .i64 m0) ∧ w'.cell? ⟨w.heap.size, 1, none⟩ = some (.slice A0 xs0.length c0) ∧ w'.cell? ⟨w4.heap.size, 0, none⟩ = some (.int .i64 rm) ∧ w'.cell? ⟨w4.heap.size, 1, none⟩ = some (.slice A_ow rl.length c_ow) ∧ w'.cell? ⟨w5.heap.size, 0, none⟩ = some (.int .i64 m0) ∧ w'.cell? ⟨w5.heap.size, 1, none⟩ = some (.slice A_x0 xs0.length c_x0) ∧ w'.cell? ⟨w6.heap.size, 0, none⟩ = some (.int .i64 rm) ∧ w'.cell? ⟨w6.heap.size, 1, none⟩ = some (.slice A_og rl.length c_og) ∧ Hid (Bx w' w.heap.size (.int .i64 m0) (.slice A0 xs0.length c0) ∧ Bx w' w4.heap.size (.int .i64 rm) (.slice A_ow rl.length c_ow) ∧ Bx w' w5.heap.size (.int .i64 m0) (.slice A_x0 xs0.length c_x0) ∧ Bx w' w6.heap.size (.int .i64 rm) (.slice A_og rl.length c_og) ∧ OwnI w' w3.heap.size (.slice A_ow rl.length c_ow) rl ∧ OwnI w' (w4.heap.size + 1) (.slice A_x0 xs0.length c_x0) xs0 ∧ OwnI w' (w5.heap.size + 1) (.slice A_og rl.length c_og) rl ∧ Below w.heap.size w w' ∧ w7.heap.size ≤ w'.heap.size))
    (first | exact ⟨(T0.out.1).2.1, (T0.out.1).2.2, (T0.out.2.1).2.1, (T0.out.2.1).2.2, (T0.out.2.2.1).2.1, (T0.out.2.2.1).2.2, (T0.out.2.2.2.1).2.1, (T0.out.2.2.2.1).2.2, T0⟩ | exact ⟨(T1.out.1).2.1, (T1.out.1).2.2, (T1.out.2.1).2.1, (T1.out.2.1).2.2, (T1.out.2.2.1).2.1, (T1.out.2.2.1).2.2, (T1.out.2.2.2.1).2.1, (T1.out.2.2.2.1).2.2, T1⟩ | exact ⟨(T2.out.1).2.1, (T2.out.1).2.2, (T2.out.2.1).2.1, (T2.out.2.1).2.2, (T2.out.2.2.1).2.1, (T2.out.2.2.1).2.2, (T2.out.2.2.2.1).2.1, (T2.out.2.2.2.1).2.2, T2⟩)
    (first
      | (go_at_call 19; refine (toS_any _ m0 _ xs0 (hv0.below L0) (by omega)).mono ?_; rintro e w8 ⟨A_t, c_t, rfl, o_t, hbA⟩; have T1 : Hid (Bx w8 w.heap.size (.int .i64 m0) (.slice A0 xs0.length c0) ∧ Bx w8 w4.heap.size (.int .i64 rm) (.slice A_ow rl.length c_ow) ∧ Bx w8 w5.heap.size (.int .i64 m0) (.slice A_x0 xs0.length c_x0) ∧ Bx w8 w6.heap.size (.int .i64 rm) (.slice A_og rl.length c_og) ∧ OwnI w8 w3.heap.size (.slice A_ow rl.length c_ow) rl ∧ OwnI w8 (w4.heap.size + 1) (.slice A_x0 xs0.length c_x0) xs0 ∧ OwnI w8 (w5.heap.size + 1) (.slice A_og rl.length c_og) rl ∧ Below w.heap.size w w8 ∧ w7.heap.size ≤ w8.heap.size) := ⟨(T0.out.1).keep hbA, (T0.out.2.1).keep hbA, (T0.out.2.2.1).keep hbA, (T0.out.2.2.2.1).keep hbA, (T0.out.2.2.2.2.1).keep hbA (Nat.le_refl _), (T0.out.2.2.2.2.2.1).keep hbA (Nat.le_refl _), (T0.out.2.2.2.2.2.2.1).keep hbA (Nat.le_refl _), (T0.out.2.2.2.2.2.2.2.1).trans (hbA.mono (Nat.le_trans (show w.heap.size ≤ w7.heap.size from by omega) (T0.out.2.2.2.2.2.2.2.2))), Nat.le_trans (T0.out.2.2.2.2.2.2.2.2) hbA.size⟩)
      | (go_at_call 21; refine (eqS_any _ m0 m0 _ _ xs0 xs0 (T1.out.2.2.2.2.2.1).rd o_t.rd).mono ?_; rintro e w9 ⟨rfl, hbB⟩; have T2 : Hid (Bx w9 w.heap.size (.int .i64 m0) (.slice A0 xs0.length c0) ∧ Bx w9 w4.heap.size (.int .i64 rm) (.slice A_ow rl.length c_ow) ∧ Bx w9 w5.heap.size (.int .i64 m0) (.slice A_x0 xs0.length c_x0) ∧ Bx w9 w6.heap.size (.int .i64 rm) (.slice A_og rl.length c_og) ∧ OwnI w9 w3.heap.size (.slice A_ow rl.length c_ow) rl ∧ OwnI w9 (w4.heap.size + 1) (.slice A_x0 xs0.length c_x0) xs0 ∧ OwnI w9 (w5.heap.size + 1) (.slice A_og rl.length c_og) rl ∧ Below w.heap.size w w9 ∧ w7.heap.size ≤ w9.heap.size) := ⟨(T1.out.1).keep hbB, (T1.out.2.1).keep hbB, (T1.out.2.2.1).keep hbB, (T1.out.2.2.2.1).keep hbB, (T1.out.2.2.2.2.1).keep hbB (Nat.le_refl _), (T1.out.2.2.2.2.2.1).keep hbB (Nat.le_refl _), (T1.out.2.2.2.2.2.2.1).keep hbB (Nat.le_refl _), (T1.out.2.2.2.2.2.2.2.1).trans (hbB.mono (Nat.le_trans (show w.heap.size ≤ w7.heap.size from by omega) (T1.out.2.2.2.2.2.2.2.2))), Nat.le_trans (T1.out.2.2.2.2.2.2.2.2) hbB.size⟩))
  have s9 : w7.heap.size ≤ w9.heap.size := T2.out.2.2.2.2.2.2.2.2
  have K9 : Hid (Below w.heap.size w w9) := T2.out.2.2.2.2.2.2.2.1
  replace b0 : Hid (Bx w9 w.heap.size (.int .i64 m0) (.slice A0 xs0.length c0)) := T2.out.1
  replace bw : Hid (Bx w9 w4.heap.size (.int .i64 rm) (.slice A_ow rl.length c_ow)) := T2.out.2.1
  replace bx0 : Hid (Bx w9 w5.heap.size (.int .i64 m0) (.slice A_x0 xs0.length c_x0)) := T2.out.2.2.1
  replace bg : Hid (Bx w9 w6.heap.size (.int .i64 rm) (.slice A_og rl.length c_og)) := T2.out.2.2.2.1
  replace ow : Hid (OwnI w9 w3.heap.size (.slice A_ow rl.length c_ow) rl) := T2.out.2.2.2.2.1
  replace x0 : Hid (OwnI w9 (w4.heap.size + 1) (.slice A_x0 xs0.length c_x0) xs0) := T2.out.2.2.2.2.2.1
  replace og : Hid (OwnI w9 (w5.heap.size + 1) (.slice A_og rl.length c_og) rl) := T2.out.2.2.2.2.2.2.1
  clear T0 T1 T2 L0 o_t
  have b0_c := b0.out.2.1
  have b0_d := b0.out.2.2
  have b0_z := b0.out.1
  have bw_c := bw.out.2.1
  have bw_d := bw.out.2.2
  have bw_z := bw.out.1
  have bx0_c := bx0.out.2.1
  have bx0_d := bx0.out.2.2
  have bx0_z := bx0.out.1
  have bg_c := bg.out.2.1
  have bg_d := bg.out.2.2
  have bg_z := bg.out.1
  go_wp2_with fail
  refine (markS_any _ (w4.heap.size + 1) m0 _ _ xs0.length (1) (x0.out.keep (by (repeat (first | assumption | exact Below.refl _ _ | refine Below.alloc ?_ (by first | omega | (simp; done) | (simp; omega)) _ | refine Below.setCell ?_ (by first | omega | (simp; done) | (simp; omega)) _ | refine below_drewN ?_ _))) (Nat.le_refl _)) rfl (by omega) (by omega) (by omega)).mono ?_
  rintro e w10 ⟨rfl, o_m, hg10⟩
  clear b0_c b0_d b0_z
  clear bw_c bw_d bw_z
  clear bx0_c bx0_d bx0_z
  clear bg_c bg_d bg_z
  have R : w9.grownBy w10 (Value.ownBlock (.slice A_x0 xs0.length c_x0)) := grownBy_behind (by (repeat (first | assumption | exact Below.refl _ _ | refine Below.alloc ?_ (by first | omega | (simp; done) | (simp; omega)) _ | refine Below.setCell ?_ (by first | omega | (simp; done) | (simp; omega)) _ | refine below_drewN ?_ _))) hg10
  have s10 : w9.heap.size ≤ w10.heap.size := R.size
  have K10 : Hid (Below w.heap.size w w10) := below_grownBy K9.out (by omega) R (fun g hg => by have := x0_u.out g hg; omega)
  replace b0 : Hid (Bx w10 w.heap.size (.int .i64 m0) (.slice A0 xs0.length c0)) := b0.out.grown R (fun g hg => by have := x0_u.out g hg; omega)
  replace bw : Hid (Bx w10 w4.heap.size (.int .i64 rm) (.slice A_ow rl.length c_ow)) := bw.out.grown R (fun g hg => by have := x0_u.out g hg; omega)
  replace bx0 : Hid (Bx w10 w5.heap.size (.int .i64 m0) (.slice A_x0 xs0.length c_x0)) := bx0.out.grown R (fun g hg => by have := x0_u.out g hg; omega)
  replace bg : Hid (Bx w10 w6.heap.size (.int .i64 rm) (.slice A_og rl.length c_og)) := bg.out.grown R (fun g hg => by have := x0_u.out g hg; omega)
  replace ow : Hid (OwnI w10 w3.heap.size (.slice A_ow rl.length c_ow) rl) := ow.out.grown R (fun g g' hg hg' => by have := ow_u.out g hg; have := x0_u.out g' hg'; omega)
  replace og : Hid (OwnI w10 (w5.heap.size + 1) (.slice A_og rl.length c_og) rl) := og.out.grown R (fun g g' hg hg' => by have := og_u.out g hg; have := x0_u.out g' hg'; omega)
  clear R hg10
  replace x0 : Hid (OwnI w10 (w4.heap.size + 1) (.slice A_x0 xs0.length c_x0) (marks (1) xs0.length)) := o_m
  clear o_m
  have b0_c := b0.out.2.1
  have b0_d := b0.out.2.2
  have b0_z := b0.out.1
  have bw_c := bw.out.2.1
  have bw_d := bw.out.2.2
  have bw_z := bw.out.1
  have bx0_c := bx0.out.2.1
  have bx0_d := bx0.out.2.2
  have bx0_z := bx0.out.1
  have bg_c := bg.out.2.1
  have bg_d := bg.out.2.2
  have bg_z := bg.out.1
  go_wp2_with fail
  refine (eqS_any _ rm rm _ _ _ _ (og.out.keep (by (repeat (first | assumption | exact Below.refl _ _ | refine Below.alloc ?_ (by first | omega | (simp; done) | (simp; omega)) _ | refine Below.setCell ?_ (by first | omega | (simp; done) | (simp; omega)) _ | refine below_drewN ?_ _))) (Nat.le_refl _)).rd (ow.out.keep (by (repeat (first | assumption | exact Below.refl _ _ | refine Below.alloc ?_ (by first | omega | (simp; done) | (simp; omega)) _ | refine Below.setCell ?_ (by first | omega | (simp; done) | (simp; omega)) _ | refine below_drewN ?_ _))) (Nat.le_refl _)).rd).mono ?_
  rintro e w11 ⟨rfl, hb11⟩
  clear b0_c b0_d b0_z
  clear bw_c bw_d bw_z
  clear bx0_c bx0_d bx0_z
  clear bg_c bg_d bg_z
  have R : Below w10.heap.size w10 w11 := Below.trans (by (repeat (first | assumption | exact Below.refl _ _ | refine Below.alloc ?_ (by first | omega | (simp; done) | (simp; omega)) _ | refine Below.setCell ?_ (by first | omega | (simp; done) | (simp; omega)) _ | refine below_drewN ?_ _))) (hb11.mono (by first | exact Nat.le_refl _ | (simp; done) | (simp; omega)))
  have s11 : w10.heap.size ≤ w11.heap.size := R.size
  have K11 : Hid (Below w.heap.size w w11) := K10.out.trans (R.mono (by omega))
  replace b0 : Hid (Bx w11 w.heap.size (.int .i64 m0) (.slice A0 xs0.length c0)) := b0.out.keep R
  replace bw : Hid (Bx w11 w4.heap.size (.int .i64 rm) (.slice A_ow rl.length c_ow)) := bw.out.keep R
  replace bx0 : Hid (Bx w11 w5.heap.size (.int .i64 m0) (.slice A_x0 xs0.length c_x0)) := bx0.out.keep R
  replace bg : Hid (Bx w11 w6.heap.size (.int .i64 rm) (.slice A_og rl.length c_og)) := bg.out.keep R
  replace ow : Hid (OwnI w11 w3.heap.size (.slice A_ow rl.length c_ow) rl) := ow.out.keep R (Nat.le_refl _)
  replace x0 : Hid (OwnI w11 (w4.heap.size + 1) (.slice A_x0 xs0.length c_x0) (marks (1) xs0.length)) := x0.out.keep R (Nat.le_refl _)
  replace og : Hid (OwnI w11 (w5.heap.size + 1) (.slice A_og rl.length c_og) rl) := og.out.keep R (Nat.le_refl _)
  clear R hb11
  have b0_c := b0.out.2.1
  have b0_d := b0.out.2.2
  have b0_z := b0.out.1
  have bw_c := bw.out.2.1
  have bw_d := bw.out.2.2
  have bw_z := bw.out.1
  have bx0_c := bx0.out.2.1
  have bx0_d := bx0.out.2.2
  have bx0_z := bx0.out.1
  have bg_c := bg.out.2.1
  have bg_d := bg.out.2.2
  have bg_z := bg.out.1
  go_wp2_with fail
  refine (markS_any _ (w5.heap.size + 1) rm _ _ rl.length (1) (og.out.keep (by (repeat (first | assumption | exact Below.refl _ _ | refine Below.alloc ?_ (by first | omega | (simp; done) | (simp; omega)) _ | refine Below.setCell ?_ (by first | omega | (simp; done) | (simp; omega)) _ | refine below_drewN ?_ _))) (Nat.le_refl _)) rfl (by omega) (by omega) (by omega)).mono ?_
  rintro e w12 ⟨rfl, o_m, hg12⟩
  clear b0_c b0_d b0_z
  clear bw_c bw_d bw_z
  clear bx0_c bx0_d bx0_z
  clear bg_c bg_d bg_z
  have R : w11.grownBy w12 (Value.ownBlock (.slice A_og rl.length c_og)) := grownBy_behind (by (repeat (first | assumption | exact Below.refl _ _ | refine Below.alloc ?_ (by first | omega | (simp; done) | (simp; omega)) _ | refine Below.setCell ?_ (by first | omega | (simp; done) | (simp; omega)) _ | refine below_drewN ?_ _))) hg12
  have s12 : w11.heap.size ≤ w12.heap.size := R.size
  have K12 : Hid (Below w.heap.size w w12) := below_grownBy K11.out (by omega) R (fun g hg => by have := og_u.out g hg; omega)
  replace b0 : Hid (Bx w12 w.heap.size (.int .i64 m0) (.slice A0 xs0.length c0)) := b0.out.grown R (fun g hg => by have := og_u.out g hg; omega)
  replace bw : Hid (Bx w12 w4.heap.size (.int .i64 rm) (.slice A_ow rl.length c_ow)) := bw.out.grown R (fun g hg => by have := og_u.out g hg; omega)
  replace bx0 : Hid (Bx w12 w5.heap.size (.int .i64 m0) (.slice A_x0 xs0.length c_x0)) := bx0.out.grown R (fun g hg => by have := og_u.out g hg; omega)
  replace bg : Hid (Bx w12 w6.heap.size (.int .i64 rm) (.slice A_og rl.length c_og)) := bg.out.grown R (fun g hg => by have := og_u.out g hg; omega)
  replace ow : Hid (OwnI w12 w3.heap.size (.slice A_ow rl.length c_ow) rl) := ow.out.grown R (fun g g' hg hg' => by have := ow_u.out g hg; have := og_u.out g' hg'; omega)
  replace x0 : Hid (OwnI w12 (w4.heap.size + 1) (.slice A_x0 xs0.length c_x0) (marks (1) xs0.length)) := x0.out.grown R (fun g g' hg hg' => by have := x0_u.out g hg; have := og_u.out g' hg'; omega)
  clear R hg12
  replace og : Hid (OwnI w12 (w5.heap.size + 1) (.slice A_og rl.length c_og) (marks (1) rl.length)) := o_m
  clear o_m
  have b0_c := b0.out.2.1
  have b0_d := b0.out.2.2
  have b0_z := b0.out.1
  have bw_c := bw.out.2.1
  have bw_d := bw.out.2.2
  have bw_z := bw.out.1
  have bx0_c := bx0.out.2.1
  have bx0_d := bx0.out.2.2
  have bx0_z := bx0.out.1
  have bg_c := bg.out.2.1
  have bg_d := bg.out.2.2
  have bg_z := bg.out.1
  go_wp2_with fail
  refine (heldS_any _ (w5.heap.size + 1) rm _ rl.length (1) (og.out.keep (by (repeat (first | assumption | exact Below.refl _ _ | refine Below.alloc ?_ (by first | omega | (simp; done) | (simp; omega)) _ | refine Below.setCell ?_ (by first | omega | (simp; done) | (simp; omega)) _ | refine below_drewN ?_ _))) (Nat.le_refl _)) (by omega) (by omega) (by omega)).mono ?_
  rintro e w13 ⟨rfl, hb13⟩
  clear b0_c b0_d b0_z
  clear bw_c bw_d bw_z
  clear bx0_c bx0_d bx0_z
  clear bg_c bg_d bg_z
  have R : Below w12.heap.size w12 w13 := Below.trans (by (repeat (first | assumption | exact Below.refl _ _ | refine Below.alloc ?_ (by first | omega | (simp; done) | (simp; omega)) _ | refine Below.setCell ?_ (by first | omega | (simp; done) | (simp; omega)) _ | refine below_drewN ?_ _))) (hb13.mono (by first | exact Nat.le_refl _ | (simp; done) | (simp; omega)))
  have s13 : w12.heap.size ≤ w13.heap.size := R.size
  have K13 : Hid (Below w.heap.size w w13) := K12.out.trans (R.mono (by omega))
  replace b0 : Hid (Bx w13 w.heap.size (.int .i64 m0) (.slice A0 xs0.length c0)) := b0.out.keep R
  replace bw : Hid (Bx w13 w4.heap.size (.int .i64 rm) (.slice A_ow rl.length c_ow)) := bw.out.keep R
  replace bx0 : Hid (Bx w13 w5.heap.size (.int .i64 m0) (.slice A_x0 xs0.length c_x0)) := bx0.out.keep R
  replace bg : Hid (Bx w13 w6.heap.size (.int .i64 rm) (.slice A_og rl.length c_og)) := bg.out.keep R
  replace ow : Hid (OwnI w13 w3.heap.size (.slice A_ow rl.length c_ow) rl) := ow.out.keep R (Nat.le_refl _)
  replace x0 : Hid (OwnI w13 (w4.heap.size + 1) (.slice A_x0 xs0.length c_x0) (marks (1) xs0.length)) := x0.out.keep R (Nat.le_refl _)
  replace og : Hid (OwnI w13 (w5.heap.size + 1) (.slice A_og rl.length c_og) (marks (1) rl.length)) := og.out.keep R (Nat.le_refl _)
  clear R hb13
  have b0_c := b0.out.2.1
  have b0_d := b0.out.2.2
  have b0_z := b0.out.1
  have bw_c := bw.out.2.1
  have bw_d := bw.out.2.2
  have bw_z := bw.out.1
  have bx0_c := bx0.out.2.1
  have bx0_d := bx0.out.2.2
  have bx0_z := bx0.out.1
  have bg_c := bg.out.2.1
  have bg_d := bg.out.2.2
  have bg_z := bg.out.1
  go_wp2_with fail
  refine (toS_any _ m0 _ xs0 (hv0.below K13.out) (by omega)).mono ?_
  rintro e w14 ⟨A_y0, c_y0, rfl, o_y0, hb14⟩
  clear b0_c b0_d b0_z
  clear bw_c bw_d bw_z
  clear bx0_c bx0_d bx0_z
  clear bg_c bg_d bg_z
  have o_y0' := o_y0.mono (show w13.heap.size ≤ _ from by first | exact Nat.le_refl _ | (simp; done) | (simp; omega))
  clear o_y0
  have R : Below w13.heap.size w13 w14 := Below.trans (by (repeat (first | assumption | exact Below.refl _ _ | refine Below.alloc ?_ (by first | omega | (simp; done) | (simp; omega)) _ | refine Below.setCell ?_ (by first | omega | (simp; done) | (simp; omega)) _ | refine below_drewN ?_ _))) (hb14.mono (by first | exact Nat.le_refl _ | (simp; done) | (simp; omega)))
  have s14 : w13.heap.size ≤ w14.heap.size := R.size
  have K14 : Hid (Below w.heap.size w w14) := K13.out.trans (R.mono (by omega))
  replace b0 : Hid (Bx w14 w.heap.size (.int .i64 m0) (.slice A0 xs0.length c0)) := b0.out.keep R
  replace bw : Hid (Bx w14 w4.heap.size (.int .i64 rm) (.slice A_ow rl.length c_ow)) := bw.out.keep R
  replace bx0 : Hid (Bx w14 w5.heap.size (.int .i64 m0) (.slice A_x0 xs0.length c_x0)) := bx0.out.keep R
  replace bg : Hid (Bx w14 w6.heap.size (.int .i64 rm) (.slice A_og rl.length c_og)) := bg.out.keep R
  replace ow : Hid (OwnI w14 w3.heap.size (.slice A_ow rl.length c_ow) rl) := ow.out.keep R (Nat.le_refl _)
  replace x0 : Hid (OwnI w14 (w4.heap.size + 1) (.slice A_x0 xs0.length c_x0) (marks (1) xs0.length)) := x0.out.keep R (Nat.le_refl _)
  replace og : Hid (OwnI w14 (w5.heap.size + 1) (.slice A_og rl.length c_og) (marks (1) rl.length)) := og.out.keep R (Nat.le_refl _)
  clear R hb14
  have y0 : Hid (OwnI w14 w13.heap.size (.slice A_y0 xs0.length c_y0) xs0) := o_y0'
  have y0_u : Hid (∀ g, Value.ownBlock (.slice A_y0 xs0.length c_y0) = some g → w13.heap.size ≤ g ∧ g < w14.heap.size) := fun g hg => o_y0'.block_ge hg
  clear o_y0'
  have b0_c := b0.out.2.1
  have b0_d := b0.out.2.2
  have b0_z := b0.out.1
  have bw_c := bw.out.2.1
  have bw_d := bw.out.2.2
  have bw_z := bw.out.1
  have bx0_c := bx0.out.2.1
  have bx0_d := bx0.out.2.2
  have bx0_z := bx0.out.1
  have bg_c := bg.out.2.1
  have bg_d := bg.out.2.2
  have bg_z := bg.out.1
  go_wp2_with fail
  refine (iChangeSeriesR_any _ m0 (.slice A_y0 xs0.length c_y0) xs0 a1 w13.heap.size (y0.out.keep (by (repeat (first | assumption | exact Below.refl _ _ | refine Below.alloc ?_ (by first | omega | (simp; done) | (simp; omega)) _ | refine Below.setCell ?_ (by first | omega | (simp; done) | (simp; omega)) _ | refine below_drewN ?_ _))) (Nat.le_refl _)) (by omega)).mono ?_
  rintro e w15 h_r
  replace h_r := h_r.of HR
  obtain ⟨A_oh, c_oh, rfl, o_oh, hb15⟩ := h_r
  have o_oh' := o_oh.mono (show w14.heap.size ≤ _ from by first | exact Nat.le_refl _ | (simp; done) | (simp; omega))
  clear o_oh
  clear b0_c b0_d b0_z
  clear bw_c bw_d bw_z
  clear bx0_c bx0_d bx0_z
  clear bg_c bg_d bg_z
  have R : Below w14.heap.size w14 w15 := Below.trans (by (repeat (first | assumption | exact Below.refl _ _ | refine Below.alloc ?_ (by first | omega | (simp; done) | (simp; omega)) _ | refine Below.setCell ?_ (by first | omega | (simp; done) | (simp; omega)) _ | refine below_drewN ?_ _))) (hb15.mono (by first | exact Nat.le_refl _ | (simp; done) | (simp; omega)))
  have s15 : w14.heap.size ≤ w15.heap.size := R.size
  have K15 : Hid (Below w.heap.size w w15) := K14.out.trans (R.mono (by omega))
  replace b0 : Hid (Bx w15 w.heap.size (.int .i64 m0) (.slice A0 xs0.length c0)) := b0.out.keep R
  replace bw : Hid (Bx w15 w4.heap.size (.int .i64 rm) (.slice A_ow rl.length c_ow)) := bw.out.keep R
  replace bx0 : Hid (Bx w15 w5.heap.size (.int .i64 m0) (.slice A_x0 xs0.length c_x0)) := bx0.out.keep R
  replace bg : Hid (Bx w15 w6.heap.size (.int .i64 rm) (.slice A_og rl.length c_og)) := bg.out.keep R
  replace ow : Hid (OwnI w15 w3.heap.size (.slice A_ow rl.length c_ow) rl) := ow.out.keep R (Nat.le_refl _)
  replace x0 : Hid (OwnI w15 (w4.heap.size + 1) (.slice A_x0 xs0.length c_x0) (marks (1) xs0.length)) := x0.out.keep R (Nat.le_refl _)
  replace og : Hid (OwnI w15 (w5.heap.size + 1) (.slice A_og rl.length c_og) (marks (1) rl.length)) := og.out.keep R (Nat.le_refl _)
  replace y0 : Hid (OwnI w15 w13.heap.size (.slice A_y0 xs0.length c_y0) xs0) := y0.out.keep R (Nat.le_refl _)
  clear R hb15
  have oh : Hid (OwnI w15 w14.heap.size (.slice A_oh rl.length c_oh) rl) := o_oh'
  have oh_u : Hid (∀ g, Value.ownBlock (.slice A_oh rl.length c_oh) = some g → w14.heap.size ≤ g ∧ g < w15.heap.size) := fun g hg => o_oh'.block_ge hg
  clear o_oh'
  have b0_c := b0.out.2.1
  have b0_d := b0.out.2.2
  have b0_z := b0.out.1
  have bw_c := bw.out.2.1
  have bw_d := bw.out.2.2
  have bw_z := bw.out.1
  have bx0_c := bx0.out.2.1
  have bx0_d := bx0.out.2.2
  have bx0_z := bx0.out.1
  have bg_c := bg.out.2.1
  have bg_d := bg.out.2.2
  have bg_z := bg.out.1
  go_wp2_with fail
  refine (eqS_any _ rm rm _ _ _ _ (oh.out.keep (by (repeat (first | assumption | exact Below.refl _ _ | refine Below.alloc ?_ (by first | omega | (simp; done) | (simp; omega)) _ | refine Below.setCell ?_ (by first | omega | (simp; done) | (simp; omega)) _ | refine below_drewN ?_ _))) (Nat.le_refl _)).rd (ow.out.keep (by (repeat (first | assumption | exact Below.refl _ _ | refine Below.alloc ?_ (by first | omega | (simp; done) | (simp; omega)) _ | refine Below.setCell ?_ (by first | omega | (simp; done) | (simp; omega)) _ | refine below_drewN ?_ _))) (Nat.le_refl _)).rd).mono ?_
  rintro e w16 ⟨rfl, hb16⟩
  clear b0_c b0_d b0_z
  clear bw_c bw_d bw_z
  clear bx0_c bx0_d bx0_z
  clear bg_c bg_d bg_z
  have R : Below w15.heap.size w15 w16 := Below.trans (by (repeat (first | assumption | exact Below.refl _ _ | refine Below.alloc ?_ (by first | omega | (simp; done) | (simp; omega)) _ | refine Below.setCell ?_ (by first | omega | (simp; done) | (simp; omega)) _ | refine below_drewN ?_ _))) (hb16.mono (by first | exact Nat.le_refl _ | (simp; done) | (simp; omega)))
  have s16 : w15.heap.size ≤ w16.heap.size := R.size
  have K16 : Hid (Below w.heap.size w w16) := K15.out.trans (R.mono (by omega))
  replace b0 : Hid (Bx w16 w.heap.size (.int .i64 m0) (.slice A0 xs0.length c0)) := b0.out.keep R
  replace bw : Hid (Bx w16 w4.heap.size (.int .i64 rm) (.slice A_ow rl.length c_ow)) := bw.out.keep R
  replace bx0 : Hid (Bx w16 w5.heap.size (.int .i64 m0) (.slice A_x0 xs0.length c_x0)) := bx0.out.keep R
  replace bg : Hid (Bx w16 w6.heap.size (.int .i64 rm) (.slice A_og rl.length c_og)) := bg.out.keep R
  replace ow : Hid (OwnI w16 w3.heap.size (.slice A_ow rl.length c_ow) rl) := ow.out.keep R (Nat.le_refl _)
  replace x0 : Hid (OwnI w16 (w4.heap.size + 1) (.slice A_x0 xs0.length c_x0) (marks (1) xs0.length)) := x0.out.keep R (Nat.le_refl _)
  replace og : Hid (OwnI w16 (w5.heap.size + 1) (.slice A_og rl.length c_og) (marks (1) rl.length)) := og.out.keep R (Nat.le_refl _)
  replace y0 : Hid (OwnI w16 w13.heap.size (.slice A_y0 xs0.length c_y0) xs0) := y0.out.keep R (Nat.le_refl _)
  replace oh : Hid (OwnI w16 w14.heap.size (.slice A_oh rl.length c_oh) rl) := oh.out.keep R (Nat.le_refl _)
  have bh : Hid (Bx w16 w15.heap.size (.int .i64 rm) (.slice A_oh rl.length c_oh)) := ⟨by have := hb16.size; simp at this; omega, by rw [hb16.cell (by first | (simp; done) | (simp; omega))]; simp, by rw [hb16.cell (by first | (simp; done) | (simp; omega))]; simp⟩
  clear R hb16
  have b0_c := b0.out.2.1
  have b0_d := b0.out.2.2
  have b0_z := b0.out.1
  have bw_c := bw.out.2.1
  have bw_d := bw.out.2.2
  have bw_z := bw.out.1
  have bx0_c := bx0.out.2.1
  have bx0_d := bx0.out.2.2
  have bx0_z := bx0.out.1
  have bg_c := bg.out.2.1
  have bg_d := bg.out.2.2
  have bg_z := bg.out.1
  have bh_c := bh.out.2.1
  have bh_d := bh.out.2.2
  have bh_z := bh.out.1
  go_wp2_with fail
  refine (heldS_any _ (w5.heap.size + 1) rm _ rl.length (1) (og.out.keep (by (repeat (first | assumption | exact Below.refl _ _ | refine Below.alloc ?_ (by first | omega | (simp; done) | (simp; omega)) _ | refine Below.setCell ?_ (by first | omega | (simp; done) | (simp; omega)) _ | refine below_drewN ?_ _))) (Nat.le_refl _)) (by omega) (by omega) (by omega)).mono ?_
  rintro e w17 ⟨rfl, hb17⟩
  clear b0_c b0_d b0_z
  clear bw_c bw_d bw_z
  clear bx0_c bx0_d bx0_z
  clear bg_c bg_d bg_z
  clear bh_c bh_d bh_z
  have R : Below w16.heap.size w16 w17 := Below.trans (by (repeat (first | assumption | exact Below.refl _ _ | refine Below.alloc ?_ (by first | omega | (simp; done) | (simp; omega)) _ | refine Below.setCell ?_ (by first | omega | (simp; done) | (simp; omega)) _ | refine below_drewN ?_ _))) (hb17.mono (by first | exact Nat.le_refl _ | (simp; done) | (simp; omega)))
  have s17 : w16.heap.size ≤ w17.heap.size := R.size
  have K17 : Hid (Below w.heap.size w w17) := K16.out.trans (R.mono (by omega))
  replace b0 : Hid (Bx w17 w.heap.size (.int .i64 m0) (.slice A0 xs0.length c0)) := b0.out.keep R
  replace bw : Hid (Bx w17 w4.heap.size (.int .i64 rm) (.slice A_ow rl.length c_ow)) := bw.out.keep R
  replace bx0 : Hid (Bx w17 w5.heap.size (.int .i64 m0) (.slice A_x0 xs0.length c_x0)) := bx0.out.keep R
  replace bg : Hid (Bx w17 w6.heap.size (.int .i64 rm) (.slice A_og rl.length c_og)) := bg.out.keep R
  replace bh : Hid (Bx w17 w15.heap.size (.int .i64 rm) (.slice A_oh rl.length c_oh)) := bh.out.keep R
  replace ow : Hid (OwnI w17 w3.heap.size (.slice A_ow rl.length c_ow) rl) := ow.out.keep R (Nat.le_refl _)
  replace x0 : Hid (OwnI w17 (w4.heap.size + 1) (.slice A_x0 xs0.length c_x0) (marks (1) xs0.length)) := x0.out.keep R (Nat.le_refl _)
  replace og : Hid (OwnI w17 (w5.heap.size + 1) (.slice A_og rl.length c_og) (marks (1) rl.length)) := og.out.keep R (Nat.le_refl _)
  replace y0 : Hid (OwnI w17 w13.heap.size (.slice A_y0 xs0.length c_y0) xs0) := y0.out.keep R (Nat.le_refl _)
  replace oh : Hid (OwnI w17 w14.heap.size (.slice A_oh rl.length c_oh) rl) := oh.out.keep R (Nat.le_refl _)
  clear R hb17
  have b0_c := b0.out.2.1
  have b0_d := b0.out.2.2
  have b0_z := b0.out.1
  have bw_c := bw.out.2.1
  have bw_d := bw.out.2.2
  have bw_z := bw.out.1
  have bx0_c := bx0.out.2.1
  have bx0_d := bx0.out.2.2
  have bx0_z := bx0.out.1
  have bg_c := bg.out.2.1
  have bg_d := bg.out.2.2
  have bg_z := bg.out.1
  have bh_c := bh.out.2.1
  have bh_d := bh.out.2.2
  have bh_z := bh.out.1
  go_wp2
  go_ret
  exact ⟨rfl, K17.out⟩


end Go.Proofs.Ytipiljinloapjaa
