/- Contracts over this seat's translation. Condition: each contract's own. -/
import Derived.Test.YtfdklbimdkaaiaaL
import Derived.ProofKit
import Derived.Laws.Bits64b
import Derived.Lib.Mul64
import Derived.OpenShut
import Derived.Below
import Derived.ChangeSame
import Derived.Deep.Modes
import Derived.Lib.SmallJoins
import Derived.ChangeSlices
import Derived.WalkKit
import Derived.WalkSpells
import Derived.WalkLawsBesides
import Derived.Deep.QuietTactic
import Derived.BigQuiet
import Derived.Deep.RegionHeld3
import Derived.Deep.RegionWith
import Derived.Deep.RegionLaw
import Derived.Deep.AppendLies
import Derived.Laws.CopyOwn
import Derived.Deep.DeepCutAuto
import Derived.Deep.OwnRows
import Derived.Deep.LoopGhost
import Derived.Deep.DeepFit
import Derived.Deep.DeepMust
import Derived.Deep.Draws
import Derived.Deep.CutRange
import Derived.Maps.AppendAt
import Derived.Lib.Hide
import Derived.StillTailTactics
import Derived.Laws.MakeOwn
import Derived.Deep.Matrix
set_option linter.unusedVariables false
open Go Go.RowKit
namespace Go.Proofs.Ytfdklbimdkaaiaa
/-! ### TypicalNumerators -/
def TypicalNumeratorsR (p m : Int) (xs : List Int) : List Int × Int := if typC p m xs 1 = 0 then (nmL m p.toNat xs, 0) else ([], typC p m xs 1)
theorem TypicalNumeratorsR_len (p m : Int) (xs : List Int) : (TypicalNumeratorsR p m xs).1.length ≤ 100000 := by
  unfold TypicalNumeratorsR
  by_cases h : typC p m xs 1 = 0
  · have := (typC_zero h).2.2.2.1
    rw [if_pos h]
    simp only [length_nmL]
    omega
  · rw [if_neg h]; simp
set_option maxHeartbeats 1000000 in
theorem iTypicalNumeratorsR_any (w : World) (p m : Int) (v : Value) (xs : List Int) (B : Nat) (hv : OwnI w B v xs) (hl : xs.length ≤ 2000000) : Calls Try.prog 32 #[.int .i64 p, .int .i64 m, v] w (RetLI w (TypicalNumeratorsR p m xs)) := by
  obtain ⟨A, c, e0⟩ := hv.form
  subst e0
  by_cases hc : typC p m xs 1 = 0
  · obtain ⟨hm, hp, h1, h3, hn⟩ := typC_zero hc
    obtain ⟨q, rfl⟩ : ∃ q : Nat, p = (q : Int) := ⟨p.toNat, by omega⟩
    obtain ⟨zs, hz⟩ : ∃ zs, nmL m q xs = zs := ⟨_, rfl⟩
    have HF : TypicalNumeratorsR (q : Int) m xs = (zs, 0) := by simp only [TypicalNumeratorsR, hc, Int.toNat_natCast, hz]; simp
    rw [HF]
    have HC := Lib.hid hc
    have HZ := Lib.hid hz
    have HN := Lib.hid hn
    have hq : 2 ≤ q ∧ q ≤ 7 := by omega
    have h1' : 1 ≤ xs.length := by omega
    clear HF hc hz hn hp h1
    go_enter Try.func32, Try.ntmps32
    go_wp2_with (first | (go_at_call 72; refine (typed_any _ m 1 _ _ xs B hv hl ⟨by omega, by omega⟩).mono ?_; rintro e w1 ⟨rfl, hb1⟩; rw [HC.out]) | (go_at_call 73; refine (numerators_any q m _ _ xs zs B (hv.keep hb1 (Nat.le_refl _)) hm.1 hm.2 hq.1 hq.2 HN.out h1' h3 HZ.out).mono ?_; rintro e w2 ⟨A2, c2, rfl, o2, hb2⟩))
    go_ret2
    exact ⟨A2, c2, rfl, o2.mono hb1.size, hb1.trans (hb2.mono hb1.size)⟩
  · have HF : TypicalNumeratorsR p m xs = ([], typC p m xs 1) := by simp [TypicalNumeratorsR, hc]
    rw [HF]
    clear HF
    have h1 : (typC p m xs 1 != 0) = true := by simpa using hc
    clear hc
    go_enter Try.func32, Try.ntmps32
    go_wp2_with (go_at_call 72; refine (typed_any p m 1 _ _ xs B hv hl ⟨by omega, by omega⟩).mono ?_; rintro e w1 ⟨rfl, hb1⟩)
    go_ret2
    exact ⟨none, 0, rfl, OwnI.nil_ _ _, hb1⟩
set_option maxHeartbeats 1000000 in
theorem sTypicalNumeratorsR_any (w : World) (p m : Int) (v : Value) (xs : List Int) (B : Nat) (hv : OwnI w B v xs) (hl : xs.length ≤ 2000000) : Calls Try.prog 30 #[.int .i64 p, .int .i64 m, v] w (RetLI w (TypicalNumeratorsR p m xs)) := by
  obtain ⟨A, c, e0⟩ := hv.form
  subst e0
  by_cases hc : typC p m xs 1 = 0
  · obtain ⟨hm, hp, h1, h3, hn⟩ := typC_zero hc
    obtain ⟨q, rfl⟩ : ∃ q : Nat, p = (q : Int) := ⟨p.toNat, by omega⟩
    obtain ⟨zs, hz⟩ : ∃ zs, nmL m q xs = zs := ⟨_, rfl⟩
    have HF : TypicalNumeratorsR (q : Int) m xs = (zs, 0) := by simp only [TypicalNumeratorsR, hc, Int.toNat_natCast, hz]; simp
    rw [HF]
    have HC := Lib.hid hc
    have HZ := Lib.hid hz
    have HN := Lib.hid hn
    have hq : 2 ≤ q ∧ q ≤ 7 := by omega
    have h1' : 1 ≤ xs.length := by omega
    clear HF hc hz hn hp h1
    go_enter Try.func30, Try.ntmps30
    go_wp2_with (first | (go_at_call 70; refine (l09Code_any _ m 1 _ _ xs B hv hl ⟨by omega, by omega⟩).mono ?_; rintro e w1 ⟨rfl, hb1⟩; rw [HC.out]) | (go_at_call 71; refine (l09Numerators_any q m _ _ xs zs B (hv.keep hb1 (Nat.le_refl _)) hm.1 (by omega) hq.1 hq.2 HN.out h1' h3 HZ.out).mono ?_; rintro e w2 ⟨A2, c2, rfl, o2, hb2⟩))
    go_ret2
    exact ⟨A2, c2, rfl, o2.mono hb1.size, hb1.trans (hb2.mono hb1.size)⟩
  · have HF : TypicalNumeratorsR p m xs = ([], typC p m xs 1) := by simp [TypicalNumeratorsR, hc]
    rw [HF]
    clear HF
    have h1 : (typC p m xs 1 != 0) = true := by simpa using hc
    clear hc
    go_enter Try.func30, Try.ntmps30
    go_wp2_with (go_at_call 70; refine (l09Code_any p m 1 _ _ xs B hv hl ⟨by omega, by omega⟩).mono ?_; rintro e w1 ⟨rfl, hb1⟩)
    go_ret2
    exact ⟨none, 0, rfl, OwnI.nil_ _ _, hb1⟩

/-! ### The laws' walks, printed by genlaw.py -/
set_option maxHeartbeats 4000000 in
theorem FnExactTypicalNumerators_walk (w : World) (a0 : Int) (a1 : Int) (v2 : Value) (xs2 : List Int) (hv2 : RdI w v2 xs2) : Calls Try.prog 8 #[.int .i64 a0, .int .i64 a1, v2] w fun e w' => e = .returned (.bool true) ∧ Below w.heap.size w w' := by
  obtain ⟨A2, c2, e2⟩ := hv2.form
  subst e2
  obtain ⟨r0, HR⟩ : ∃ r0, Hid (TypicalNumeratorsR a0 a1 xs2 = r0) := ⟨_, rfl⟩
  obtain ⟨rl, rc⟩ := r0
  have hlen := TypicalNumeratorsR_len a0 a1 xs2
  rw [HR.out] at hlen
  simp only at hlen
  by_cases hz2 : 1048576 < (xs2.length : Int)
  · skip
    have hz2' : (1048576 : Int) < (xs2.length : Int) := hz2
    go_enter Try.func8, Try.ntmps8
    go_wp2
    go_ret
    exact ⟨rfl, by (repeat (first | assumption | exact Below.refl _ _ | refine Below.alloc ?_ (by first | omega | (simp; done) | (simp; omega)) _ | refine Below.setCell ?_ (by first | omega | (simp; done) | (simp; omega)) _ | refine below_drewN ?_ _))⟩
  have hl2 : (xs2.length : Int) ≤ 1048576 := by omega
  go_enter Try.func8, Try.ntmps8
  go_wp2_with fail
  refine (toL_any _ _ xs2 (hv2.below (by (repeat (first | assumption | exact Below.refl _ _ | refine Below.alloc ?_ (by first | omega | (simp; done) | (simp; omega)) _ | refine Below.setCell ?_ (by first | omega | (simp; done) | (simp; omega)) _ | refine below_drewN ?_ _)))) (by omega)).mono ?_
  rintro e w1 ⟨A_p2, c_p2, rfl, o_p2, hb1⟩
  have o_p2' := o_p2.mono (show w.heap.size ≤ _ from by first | exact Nat.le_refl _ | (simp; done) | (simp; omega))
  clear o_p2
  have R : Below w.heap.size w w1 := Below.trans (by (repeat (first | assumption | exact Below.refl _ _ | refine Below.alloc ?_ (by first | omega | (simp; done) | (simp; omega)) _ | refine Below.setCell ?_ (by first | omega | (simp; done) | (simp; omega)) _ | refine below_drewN ?_ _))) (hb1.mono (by first | exact Nat.le_refl _ | (simp; done) | (simp; omega)))
  have s1 : w.heap.size ≤ w1.heap.size := R.size
  have K1 : Hid (Below w.heap.size w w1) := R
  clear R hb1
  have p2 : Hid (OwnI w1 w.heap.size (.slice A_p2 xs2.length c_p2) xs2) := o_p2'
  have p2_u : Hid (∀ g, Value.ownBlock (.slice A_p2 xs2.length c_p2) = some g → w.heap.size ≤ g ∧ g < w1.heap.size) := fun g hg => o_p2'.block_ge hg
  clear o_p2'
  go_wp2_with fail
  refine (sTypicalNumeratorsR_any _ a0 a1 (.slice A_p2 xs2.length c_p2) xs2 w.heap.size (p2.out.keep (by (repeat (first | assumption | exact Below.refl _ _ | refine Below.alloc ?_ (by first | omega | (simp; done) | (simp; omega)) _ | refine Below.setCell ?_ (by first | omega | (simp; done) | (simp; omega)) _ | refine below_drewN ?_ _))) (Nat.le_refl _)) (by omega)).mono ?_
  rintro e w2 h_r
  replace h_r := h_r.of HR
  obtain ⟨A_ow, c_ow, rfl, o_ow, hb2⟩ := h_r
  have o_ow' := o_ow.mono (show w1.heap.size ≤ _ from by first | exact Nat.le_refl _ | (simp; done) | (simp; omega))
  clear o_ow
  have R : Below w1.heap.size w1 w2 := Below.trans (by (repeat (first | assumption | exact Below.refl _ _ | refine Below.alloc ?_ (by first | omega | (simp; done) | (simp; omega)) _ | refine Below.setCell ?_ (by first | omega | (simp; done) | (simp; omega)) _ | refine below_drewN ?_ _))) (hb2.mono (by first | exact Nat.le_refl _ | (simp; done) | (simp; omega)))
  have s2 : w1.heap.size ≤ w2.heap.size := R.size
  have K2 : Hid (Below w.heap.size w w2) := K1.out.trans (R.mono (by omega))
  replace p2 : Hid (OwnI w2 w.heap.size (.slice A_p2 xs2.length c_p2) xs2) := p2.out.keep R (Nat.le_refl _)
  clear R hb2
  have ow : Hid (OwnI w2 w1.heap.size (.slice A_ow rl.length c_ow) rl) := o_ow'
  have ow_u : Hid (∀ g, Value.ownBlock (.slice A_ow rl.length c_ow) = some g → w1.heap.size ≤ g ∧ g < w2.heap.size) := fun g hg => o_ow'.block_ge hg
  clear o_ow'
  clear p2 p2_u
  go_wp2_with fail
  refine (toL_any _ _ xs2 (hv2.below K2.out) (by omega)).mono ?_
  rintro e w3 ⟨A_x2, c_x2, rfl, o_x2, hb3⟩
  have o_x2' := o_x2.mono (show w2.heap.size ≤ _ from by first | exact Nat.le_refl _ | (simp; done) | (simp; omega))
  clear o_x2
  have R : Below w2.heap.size w2 w3 := Below.trans (by (repeat (first | assumption | exact Below.refl _ _ | refine Below.alloc ?_ (by first | omega | (simp; done) | (simp; omega)) _ | refine Below.setCell ?_ (by first | omega | (simp; done) | (simp; omega)) _ | refine below_drewN ?_ _))) (hb3.mono (by first | exact Nat.le_refl _ | (simp; done) | (simp; omega)))
  have s3 : w2.heap.size ≤ w3.heap.size := R.size
  have K3 : Hid (Below w.heap.size w w3) := K2.out.trans (R.mono (by omega))
  replace ow : Hid (OwnI w3 w1.heap.size (.slice A_ow rl.length c_ow) rl) := ow.out.keep R (Nat.le_refl _)
  clear R hb3
  have x2 : Hid (OwnI w3 w2.heap.size (.slice A_x2 xs2.length c_x2) xs2) := o_x2'
  have x2_u : Hid (∀ g, Value.ownBlock (.slice A_x2 xs2.length c_x2) = some g → w2.heap.size ≤ g ∧ g < w3.heap.size) := fun g hg => o_x2'.block_ge hg
  clear o_x2'
  go_wp2_with fail
  refine (iTypicalNumeratorsR_any _ a0 a1 (.slice A_x2 xs2.length c_x2) xs2 w2.heap.size (x2.out.keep (by (repeat (first | assumption | exact Below.refl _ _ | refine Below.alloc ?_ (by first | omega | (simp; done) | (simp; omega)) _ | refine Below.setCell ?_ (by first | omega | (simp; done) | (simp; omega)) _ | refine below_drewN ?_ _))) (Nat.le_refl _)) (by omega)).mono ?_
  rintro e w4 h_r
  replace h_r := h_r.of HR
  obtain ⟨A_og, c_og, rfl, o_og, hb4⟩ := h_r
  have o_og' := o_og.mono (show w3.heap.size ≤ _ from by first | exact Nat.le_refl _ | (simp; done) | (simp; omega))
  clear o_og
  have R : Below w3.heap.size w3 w4 := Below.trans (by (repeat (first | assumption | exact Below.refl _ _ | refine Below.alloc ?_ (by first | omega | (simp; done) | (simp; omega)) _ | refine Below.setCell ?_ (by first | omega | (simp; done) | (simp; omega)) _ | refine below_drewN ?_ _))) (hb4.mono (by first | exact Nat.le_refl _ | (simp; done) | (simp; omega)))
  have s4 : w3.heap.size ≤ w4.heap.size := R.size
  have K4 : Hid (Below w.heap.size w w4) := K3.out.trans (R.mono (by omega))
  replace ow : Hid (OwnI w4 w1.heap.size (.slice A_ow rl.length c_ow) rl) := ow.out.keep R (Nat.le_refl _)
  replace x2 : Hid (OwnI w4 w2.heap.size (.slice A_x2 xs2.length c_x2) xs2) := x2.out.keep R (Nat.le_refl _)
  clear R hb4
  have og : Hid (OwnI w4 w3.heap.size (.slice A_og rl.length c_og) rl) := o_og'
  have og_u : Hid (∀ g, Value.ownBlock (.slice A_og rl.length c_og) = some g → w3.heap.size ≤ g ∧ g < w4.heap.size) := fun g hg => o_og'.block_ge hg
  clear o_og'
  go_wp2_with fail
  refine (eqL_any _ _ _ _ _ (og.out.keep (by (repeat (first | assumption | exact Below.refl _ _ | refine Below.alloc ?_ (by first | omega | (simp; done) | (simp; omega)) _ | refine Below.setCell ?_ (by first | omega | (simp; done) | (simp; omega)) _ | refine below_drewN ?_ _))) (Nat.le_refl _)).rd (ow.out.keep (by (repeat (first | assumption | exact Below.refl _ _ | refine Below.alloc ?_ (by first | omega | (simp; done) | (simp; omega)) _ | refine Below.setCell ?_ (by first | omega | (simp; done) | (simp; omega)) _ | refine below_drewN ?_ _))) (Nat.le_refl _)).rd).mono ?_
  rintro e w5 ⟨rfl, hb5⟩
  have R : Below w4.heap.size w4 w5 := Below.trans (by (repeat (first | assumption | exact Below.refl _ _ | refine Below.alloc ?_ (by first | omega | (simp; done) | (simp; omega)) _ | refine Below.setCell ?_ (by first | omega | (simp; done) | (simp; omega)) _ | refine below_drewN ?_ _))) (hb5.mono (by first | exact Nat.le_refl _ | (simp; done) | (simp; omega)))
  have s5 : w4.heap.size ≤ w5.heap.size := R.size
  have K5 : Hid (Below w.heap.size w w5) := K4.out.trans (R.mono (by omega))
  replace ow : Hid (OwnI w5 w1.heap.size (.slice A_ow rl.length c_ow) rl) := ow.out.keep R (Nat.le_refl _)
  replace x2 : Hid (OwnI w5 w2.heap.size (.slice A_x2 xs2.length c_x2) xs2) := x2.out.keep R (Nat.le_refl _)
  replace og : Hid (OwnI w5 w3.heap.size (.slice A_og rl.length c_og) rl) := og.out.keep R (Nat.le_refl _)
  clear R hb5
  go_wp2_with fail
  refine (toL_any _ _ xs2 (hv2.below K5.out) (by omega)).mono ?_
  rintro e w7 ⟨A_t6, c_t6, rfl, o_t6, hb7⟩
  have o_t6' := o_t6.mono (show w5.heap.size ≤ _ from by first | exact Nat.le_refl _ | (simp; done) | (simp; omega))
  clear o_t6
  have R : Below w5.heap.size w5 w7 := Below.trans (by (repeat (first | assumption | exact Below.refl _ _ | refine Below.alloc ?_ (by first | omega | (simp; done) | (simp; omega)) _ | refine Below.setCell ?_ (by first | omega | (simp; done) | (simp; omega)) _ | refine below_drewN ?_ _))) (hb7.mono (by first | exact Nat.le_refl _ | (simp; done) | (simp; omega)))
  have s7 : w5.heap.size ≤ w7.heap.size := R.size
  have K7 : Hid (Below w.heap.size w w7) := K5.out.trans (R.mono (by omega))
  replace ow : Hid (OwnI w7 w1.heap.size (.slice A_ow rl.length c_ow) rl) := ow.out.keep R (Nat.le_refl _)
  replace x2 : Hid (OwnI w7 w2.heap.size (.slice A_x2 xs2.length c_x2) xs2) := x2.out.keep R (Nat.le_refl _)
  replace og : Hid (OwnI w7 w3.heap.size (.slice A_og rl.length c_og) rl) := og.out.keep R (Nat.le_refl _)
  clear R hb7
  have t6 : Hid (OwnI w7 w5.heap.size (.slice A_t6 xs2.length c_t6) xs2) := o_t6'
  have t6_u : Hid (∀ g, Value.ownBlock (.slice A_t6 xs2.length c_t6) = some g → w5.heap.size ≤ g ∧ g < w7.heap.size) := fun g hg => o_t6'.block_ge hg
  clear o_t6'
  go_wp2_with fail
  refine (eqL_any _ _ _ _ _ (x2.out.keep (by (repeat (first | assumption | exact Below.refl _ _ | refine Below.alloc ?_ (by first | omega | (simp; done) | (simp; omega)) _ | refine Below.setCell ?_ (by first | omega | (simp; done) | (simp; omega)) _ | refine below_drewN ?_ _))) (Nat.le_refl _)).rd (t6.out.keep (by (repeat (first | assumption | exact Below.refl _ _ | refine Below.alloc ?_ (by first | omega | (simp; done) | (simp; omega)) _ | refine Below.setCell ?_ (by first | omega | (simp; done) | (simp; omega)) _ | refine below_drewN ?_ _))) (Nat.le_refl _)).rd).mono ?_
  rintro e w8 ⟨rfl, hb8⟩
  have R : Below w7.heap.size w7 w8 := Below.trans (by (repeat (first | assumption | exact Below.refl _ _ | refine Below.alloc ?_ (by first | omega | (simp; done) | (simp; omega)) _ | refine Below.setCell ?_ (by first | omega | (simp; done) | (simp; omega)) _ | refine below_drewN ?_ _))) (hb8.mono (by first | exact Nat.le_refl _ | (simp; done) | (simp; omega)))
  have s8 : w7.heap.size ≤ w8.heap.size := R.size
  have K8 : Hid (Below w.heap.size w w8) := K7.out.trans (R.mono (by omega))
  replace ow : Hid (OwnI w8 w1.heap.size (.slice A_ow rl.length c_ow) rl) := ow.out.keep R (Nat.le_refl _)
  replace x2 : Hid (OwnI w8 w2.heap.size (.slice A_x2 xs2.length c_x2) xs2) := x2.out.keep R (Nat.le_refl _)
  replace og : Hid (OwnI w8 w3.heap.size (.slice A_og rl.length c_og) rl) := og.out.keep R (Nat.le_refl _)
  replace t6 : Hid (OwnI w8 w5.heap.size (.slice A_t6 xs2.length c_t6) xs2) := t6.out.keep R (Nat.le_refl _)
  clear R hb8
  clear t6 t6_u
  go_wp2_with fail
  refine (markL_any _ w2.heap.size _ _ xs2.length (1) (x2.out.keep (by (repeat (first | assumption | exact Below.refl _ _ | refine Below.alloc ?_ (by first | omega | (simp; done) | (simp; omega)) _ | refine Below.setCell ?_ (by first | omega | (simp; done) | (simp; omega)) _ | refine below_drewN ?_ _))) (Nat.le_refl _)) rfl (by omega) (by omega) (by omega)).mono ?_
  rintro e w9 ⟨rfl, o_m, hg9⟩
  have R : w8.grownBy w9 (Value.ownBlock (.slice A_x2 xs2.length c_x2)) := grownBy_behind (by (repeat (first | assumption | exact Below.refl _ _ | refine Below.alloc ?_ (by first | omega | (simp; done) | (simp; omega)) _ | refine Below.setCell ?_ (by first | omega | (simp; done) | (simp; omega)) _ | refine below_drewN ?_ _))) hg9
  have s9 : w8.heap.size ≤ w9.heap.size := R.size
  have K9 : Hid (Below w.heap.size w w9) := below_grownBy K8.out (by omega) R (fun g hg => by have := x2_u.out g hg; omega)
  replace ow : Hid (OwnI w9 w1.heap.size (.slice A_ow rl.length c_ow) rl) := ow.out.grown R (fun g g' hg hg' => by have := ow_u.out g hg; have := x2_u.out g' hg'; omega)
  replace og : Hid (OwnI w9 w3.heap.size (.slice A_og rl.length c_og) rl) := og.out.grown R (fun g g' hg hg' => by have := og_u.out g hg; have := x2_u.out g' hg'; omega)
  clear R hg9
  replace x2 : Hid (OwnI w9 w2.heap.size (.slice A_x2 xs2.length c_x2) (marks (1) xs2.length)) := o_m
  clear o_m
  go_wp2_with fail
  refine (eqL_any _ _ _ _ _ (og.out.keep (by (repeat (first | assumption | exact Below.refl _ _ | refine Below.alloc ?_ (by first | omega | (simp; done) | (simp; omega)) _ | refine Below.setCell ?_ (by first | omega | (simp; done) | (simp; omega)) _ | refine below_drewN ?_ _))) (Nat.le_refl _)).rd (ow.out.keep (by (repeat (first | assumption | exact Below.refl _ _ | refine Below.alloc ?_ (by first | omega | (simp; done) | (simp; omega)) _ | refine Below.setCell ?_ (by first | omega | (simp; done) | (simp; omega)) _ | refine below_drewN ?_ _))) (Nat.le_refl _)).rd).mono ?_
  rintro e w10 ⟨rfl, hb10⟩
  have R : Below w9.heap.size w9 w10 := Below.trans (by (repeat (first | assumption | exact Below.refl _ _ | refine Below.alloc ?_ (by first | omega | (simp; done) | (simp; omega)) _ | refine Below.setCell ?_ (by first | omega | (simp; done) | (simp; omega)) _ | refine below_drewN ?_ _))) (hb10.mono (by first | exact Nat.le_refl _ | (simp; done) | (simp; omega)))
  have s10 : w9.heap.size ≤ w10.heap.size := R.size
  have K10 : Hid (Below w.heap.size w w10) := K9.out.trans (R.mono (by omega))
  replace ow : Hid (OwnI w10 w1.heap.size (.slice A_ow rl.length c_ow) rl) := ow.out.keep R (Nat.le_refl _)
  replace x2 : Hid (OwnI w10 w2.heap.size (.slice A_x2 xs2.length c_x2) (marks (1) xs2.length)) := x2.out.keep R (Nat.le_refl _)
  replace og : Hid (OwnI w10 w3.heap.size (.slice A_og rl.length c_og) rl) := og.out.keep R (Nat.le_refl _)
  clear R hb10
  go_wp2_with fail
  refine (markL_any _ w3.heap.size _ _ rl.length (1) (og.out.keep (by (repeat (first | assumption | exact Below.refl _ _ | refine Below.alloc ?_ (by first | omega | (simp; done) | (simp; omega)) _ | refine Below.setCell ?_ (by first | omega | (simp; done) | (simp; omega)) _ | refine below_drewN ?_ _))) (Nat.le_refl _)) rfl (by omega) (by omega) (by omega)).mono ?_
  rintro e w11 ⟨rfl, o_m, hg11⟩
  have R : w10.grownBy w11 (Value.ownBlock (.slice A_og rl.length c_og)) := grownBy_behind (by (repeat (first | assumption | exact Below.refl _ _ | refine Below.alloc ?_ (by first | omega | (simp; done) | (simp; omega)) _ | refine Below.setCell ?_ (by first | omega | (simp; done) | (simp; omega)) _ | refine below_drewN ?_ _))) hg11
  have s11 : w10.heap.size ≤ w11.heap.size := R.size
  have K11 : Hid (Below w.heap.size w w11) := below_grownBy K10.out (by omega) R (fun g hg => by have := og_u.out g hg; omega)
  replace ow : Hid (OwnI w11 w1.heap.size (.slice A_ow rl.length c_ow) rl) := ow.out.grown R (fun g g' hg hg' => by have := ow_u.out g hg; have := og_u.out g' hg'; omega)
  replace x2 : Hid (OwnI w11 w2.heap.size (.slice A_x2 xs2.length c_x2) (marks (1) xs2.length)) := x2.out.grown R (fun g g' hg hg' => by have := x2_u.out g hg; have := og_u.out g' hg'; omega)
  clear R hg11
  replace og : Hid (OwnI w11 w3.heap.size (.slice A_og rl.length c_og) (marks (1) rl.length)) := o_m
  clear o_m
  go_wp2_with fail
  refine (heldL_any _ w3.heap.size _ rl.length (1) (og.out.keep (by (repeat (first | assumption | exact Below.refl _ _ | refine Below.alloc ?_ (by first | omega | (simp; done) | (simp; omega)) _ | refine Below.setCell ?_ (by first | omega | (simp; done) | (simp; omega)) _ | refine below_drewN ?_ _))) (Nat.le_refl _)) (by omega) (by omega) (by omega)).mono ?_
  rintro e w12 ⟨rfl, hb12⟩
  have R : Below w11.heap.size w11 w12 := Below.trans (by (repeat (first | assumption | exact Below.refl _ _ | refine Below.alloc ?_ (by first | omega | (simp; done) | (simp; omega)) _ | refine Below.setCell ?_ (by first | omega | (simp; done) | (simp; omega)) _ | refine below_drewN ?_ _))) (hb12.mono (by first | exact Nat.le_refl _ | (simp; done) | (simp; omega)))
  have s12 : w11.heap.size ≤ w12.heap.size := R.size
  have K12 : Hid (Below w.heap.size w w12) := K11.out.trans (R.mono (by omega))
  replace ow : Hid (OwnI w12 w1.heap.size (.slice A_ow rl.length c_ow) rl) := ow.out.keep R (Nat.le_refl _)
  replace x2 : Hid (OwnI w12 w2.heap.size (.slice A_x2 xs2.length c_x2) (marks (1) xs2.length)) := x2.out.keep R (Nat.le_refl _)
  replace og : Hid (OwnI w12 w3.heap.size (.slice A_og rl.length c_og) (marks (1) rl.length)) := og.out.keep R (Nat.le_refl _)
  clear R hb12
  go_wp2_with fail
  refine (toL_any _ _ xs2 (hv2.below K12.out) (by omega)).mono ?_
  rintro e w13 ⟨A_y2, c_y2, rfl, o_y2, hb13⟩
  have o_y2' := o_y2.mono (show w12.heap.size ≤ _ from by first | exact Nat.le_refl _ | (simp; done) | (simp; omega))
  clear o_y2
  have R : Below w12.heap.size w12 w13 := Below.trans (by (repeat (first | assumption | exact Below.refl _ _ | refine Below.alloc ?_ (by first | omega | (simp; done) | (simp; omega)) _ | refine Below.setCell ?_ (by first | omega | (simp; done) | (simp; omega)) _ | refine below_drewN ?_ _))) (hb13.mono (by first | exact Nat.le_refl _ | (simp; done) | (simp; omega)))
  have s13 : w12.heap.size ≤ w13.heap.size := R.size
  have K13 : Hid (Below w.heap.size w w13) := K12.out.trans (R.mono (by omega))
  replace ow : Hid (OwnI w13 w1.heap.size (.slice A_ow rl.length c_ow) rl) := ow.out.keep R (Nat.le_refl _)
  replace x2 : Hid (OwnI w13 w2.heap.size (.slice A_x2 xs2.length c_x2) (marks (1) xs2.length)) := x2.out.keep R (Nat.le_refl _)
  replace og : Hid (OwnI w13 w3.heap.size (.slice A_og rl.length c_og) (marks (1) rl.length)) := og.out.keep R (Nat.le_refl _)
  clear R hb13
  have y2 : Hid (OwnI w13 w12.heap.size (.slice A_y2 xs2.length c_y2) xs2) := o_y2'
  have y2_u : Hid (∀ g, Value.ownBlock (.slice A_y2 xs2.length c_y2) = some g → w12.heap.size ≤ g ∧ g < w13.heap.size) := fun g hg => o_y2'.block_ge hg
  clear o_y2'
  go_wp2_with fail
  refine (iTypicalNumeratorsR_any _ a0 a1 (.slice A_y2 xs2.length c_y2) xs2 w12.heap.size (y2.out.keep (by (repeat (first | assumption | exact Below.refl _ _ | refine Below.alloc ?_ (by first | omega | (simp; done) | (simp; omega)) _ | refine Below.setCell ?_ (by first | omega | (simp; done) | (simp; omega)) _ | refine below_drewN ?_ _))) (Nat.le_refl _)) (by omega)).mono ?_
  rintro e w14 h_r
  replace h_r := h_r.of HR
  obtain ⟨A_oh, c_oh, rfl, o_oh, hb14⟩ := h_r
  have o_oh' := o_oh.mono (show w13.heap.size ≤ _ from by first | exact Nat.le_refl _ | (simp; done) | (simp; omega))
  clear o_oh
  have R : Below w13.heap.size w13 w14 := Below.trans (by (repeat (first | assumption | exact Below.refl _ _ | refine Below.alloc ?_ (by first | omega | (simp; done) | (simp; omega)) _ | refine Below.setCell ?_ (by first | omega | (simp; done) | (simp; omega)) _ | refine below_drewN ?_ _))) (hb14.mono (by first | exact Nat.le_refl _ | (simp; done) | (simp; omega)))
  have s14 : w13.heap.size ≤ w14.heap.size := R.size
  have K14 : Hid (Below w.heap.size w w14) := K13.out.trans (R.mono (by omega))
  replace ow : Hid (OwnI w14 w1.heap.size (.slice A_ow rl.length c_ow) rl) := ow.out.keep R (Nat.le_refl _)
  replace x2 : Hid (OwnI w14 w2.heap.size (.slice A_x2 xs2.length c_x2) (marks (1) xs2.length)) := x2.out.keep R (Nat.le_refl _)
  replace og : Hid (OwnI w14 w3.heap.size (.slice A_og rl.length c_og) (marks (1) rl.length)) := og.out.keep R (Nat.le_refl _)
  replace y2 : Hid (OwnI w14 w12.heap.size (.slice A_y2 xs2.length c_y2) xs2) := y2.out.keep R (Nat.le_refl _)
  clear R hb14
  have oh : Hid (OwnI w14 w13.heap.size (.slice A_oh rl.length c_oh) rl) := o_oh'
  have oh_u : Hid (∀ g, Value.ownBlock (.slice A_oh rl.length c_oh) = some g → w13.heap.size ≤ g ∧ g < w14.heap.size) := fun g hg => o_oh'.block_ge hg
  clear o_oh'
  go_wp2_with fail
  refine (eqL_any _ _ _ _ _ (oh.out.keep (by (repeat (first | assumption | exact Below.refl _ _ | refine Below.alloc ?_ (by first | omega | (simp; done) | (simp; omega)) _ | refine Below.setCell ?_ (by first | omega | (simp; done) | (simp; omega)) _ | refine below_drewN ?_ _))) (Nat.le_refl _)).rd (ow.out.keep (by (repeat (first | assumption | exact Below.refl _ _ | refine Below.alloc ?_ (by first | omega | (simp; done) | (simp; omega)) _ | refine Below.setCell ?_ (by first | omega | (simp; done) | (simp; omega)) _ | refine below_drewN ?_ _))) (Nat.le_refl _)).rd).mono ?_
  rintro e w15 ⟨rfl, hb15⟩
  have R : Below w14.heap.size w14 w15 := Below.trans (by (repeat (first | assumption | exact Below.refl _ _ | refine Below.alloc ?_ (by first | omega | (simp; done) | (simp; omega)) _ | refine Below.setCell ?_ (by first | omega | (simp; done) | (simp; omega)) _ | refine below_drewN ?_ _))) (hb15.mono (by first | exact Nat.le_refl _ | (simp; done) | (simp; omega)))
  have s15 : w14.heap.size ≤ w15.heap.size := R.size
  have K15 : Hid (Below w.heap.size w w15) := K14.out.trans (R.mono (by omega))
  replace ow : Hid (OwnI w15 w1.heap.size (.slice A_ow rl.length c_ow) rl) := ow.out.keep R (Nat.le_refl _)
  replace x2 : Hid (OwnI w15 w2.heap.size (.slice A_x2 xs2.length c_x2) (marks (1) xs2.length)) := x2.out.keep R (Nat.le_refl _)
  replace og : Hid (OwnI w15 w3.heap.size (.slice A_og rl.length c_og) (marks (1) rl.length)) := og.out.keep R (Nat.le_refl _)
  replace y2 : Hid (OwnI w15 w12.heap.size (.slice A_y2 xs2.length c_y2) xs2) := y2.out.keep R (Nat.le_refl _)
  replace oh : Hid (OwnI w15 w13.heap.size (.slice A_oh rl.length c_oh) rl) := oh.out.keep R (Nat.le_refl _)
  clear R hb15
  go_wp2_with fail
  refine (heldL_any _ w3.heap.size _ rl.length (1) (og.out.keep (by (repeat (first | assumption | exact Below.refl _ _ | refine Below.alloc ?_ (by first | omega | (simp; done) | (simp; omega)) _ | refine Below.setCell ?_ (by first | omega | (simp; done) | (simp; omega)) _ | refine below_drewN ?_ _))) (Nat.le_refl _)) (by omega) (by omega) (by omega)).mono ?_
  rintro e w16 ⟨rfl, hb16⟩
  have R : Below w15.heap.size w15 w16 := Below.trans (by (repeat (first | assumption | exact Below.refl _ _ | refine Below.alloc ?_ (by first | omega | (simp; done) | (simp; omega)) _ | refine Below.setCell ?_ (by first | omega | (simp; done) | (simp; omega)) _ | refine below_drewN ?_ _))) (hb16.mono (by first | exact Nat.le_refl _ | (simp; done) | (simp; omega)))
  have s16 : w15.heap.size ≤ w16.heap.size := R.size
  have K16 : Hid (Below w.heap.size w w16) := K15.out.trans (R.mono (by omega))
  replace ow : Hid (OwnI w16 w1.heap.size (.slice A_ow rl.length c_ow) rl) := ow.out.keep R (Nat.le_refl _)
  replace x2 : Hid (OwnI w16 w2.heap.size (.slice A_x2 xs2.length c_x2) (marks (1) xs2.length)) := x2.out.keep R (Nat.le_refl _)
  replace og : Hid (OwnI w16 w3.heap.size (.slice A_og rl.length c_og) (marks (1) rl.length)) := og.out.keep R (Nat.le_refl _)
  replace y2 : Hid (OwnI w16 w12.heap.size (.slice A_y2 xs2.length c_y2) xs2) := y2.out.keep R (Nat.le_refl _)
  replace oh : Hid (OwnI w16 w13.heap.size (.slice A_oh rl.length c_oh) rl) := oh.out.keep R (Nat.le_refl _)
  clear R hb16
  go_wp2
  go_ret
  exact ⟨rfl, K16.out⟩


end Go.Proofs.Ytfdklbimdkaaiaa
