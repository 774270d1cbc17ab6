/- Contracts over this seat's translation. Condition: each contract's own. -/
import Derived.Test.YtipiljinloapjaaD
import Derived.ProofKit
import Derived.OpenShut
import Derived.Below
import Derived.ChangeSame
import Derived.Deep.Modes
import Derived.Lib.SmallJoins
import Derived.ChangeSlices
import Derived.WalkKit
import Derived.WalkSpells
import Derived.WalkLawsBesides
import Derived.Deep.QuietTactic
import Derived.BigQuiet
import Derived.Deep.RegionHeld3
import Derived.Deep.RegionWith
import Derived.Deep.RegionLaw
import Derived.Deep.AppendLies
import Derived.Laws.CopyOwn
import Derived.Deep.DeepCutAuto
import Derived.Deep.OwnRows
import Derived.Deep.LoopGhost
import Derived.Deep.DeepFit
import Derived.Deep.DeepMust
import Derived.Deep.Draws
import Derived.Deep.CutRange
import Derived.Maps.AppendAt
import Derived.Lib.Hide
import Derived.StillTailTactics
import Derived.Laws.MakeOwn
set_option linter.unusedVariables false
open Go Go.RowKit
namespace Go.Proofs.Ytipiljinloapjaa
/-! ### Roots of polynomials -/
theorem codeR_zeroL {m : Int} {xs : List Int} (h : codeR m xs = 0) : (2 ≤ m ∧ m ≤ 10000) ∧ (∀ k, 0 ≤ xs.getD k 0 ∧ xs.getD k 0 < m) := by
  unfold codeR at h
  cases h1 : isModB m
  · simp [h1] at h
  · cases h2 : numsB m xs
    · simp [h1, h2] at h
    · have hm := isModB_true h1
      refine ⟨hm, fun k => ?_⟩
      rcases Nat.lt_or_ge k xs.length with hk | hk
      · rw [List.getD_eq_getElem?_getD, List.getElem?_eq_getElem hk]
        unfold numsB at h2
        rw [List.all_eq_true] at h2
        exact isNumB_true (h2 _ (List.getElem_mem hk))
      · rw [List.getD_eq_getElem?_getD, List.getElem?_eq_none hk]
        simp
        omega
def rootsTo (m : Int) (xs : List Int) (k : Nat) : List Int := ((List.range k).filter fun a : Nat => horn m (a : Int) xs == 0).map fun a : Nat => (a : Int)
theorem rootsTo_succ (m : Int) (xs : List Int) (k : Nat) : rootsTo m xs (k + 1) = rootsTo m xs k ++ if (horn m (k : Int) xs == 0) = true then [(k : Int)] else [] := by
  unfold rootsTo
  rw [List.range_succ, List.filter_append, List.map_append]
  by_cases h : (horn m (k : Int) xs == 0) = true <;> simp [h]
theorem rootsTo_len (m : Int) (xs : List Int) (k : Nat) : (rootsTo m xs k).length ≤ k := by
  unfold rootsTo
  have := List.length_filter_le (fun a : Nat => horn m (a : Int) xs == 0) (List.range k)
  rw [List.length_range] at this
  simpa using this
def RootsModuloR (m : Int) (xs : List Int) : List Int × Int := if codeR m xs = 0 then (if 20 < xs.length then ([], 2) else (rootsTo m xs m.toNat, 0)) else ([], codeR m xs)
theorem RootsModuloR_len (m : Int) (xs : List Int) : (RootsModuloR m xs).1.length ≤ 100000 := by
  unfold RootsModuloR
  by_cases h : codeR m xs = 0
  · have := (codeR_zeroL h).1
    have h2 := rootsTo_len m xs m.toNat
    rw [if_pos h]
    split
    · simp
    · simp only; omega
  · rw [if_neg h]; simp
set_option maxHeartbeats 1000000 in
theorem iRootsModuloR_any (w : World) (m : Int) (v : Value) (xs : List Int) (B : Nat) (hv : OwnI w B v xs) (hl : xs.length ≤ 2000000) : Calls Try.prog 39 #[.int .i64 m, v] w (RetLI w (RootsModuloR m xs)) := by
  obtain ⟨A, c, e0⟩ := hv.form
  subst e0
  by_cases hc : codeR m xs = 0
  · obtain ⟨⟨h1, h2⟩, hn⟩ := codeR_zeroL hc
    have HN := Lib.hid hn
    have HC := Lib.hid hc
    by_cases h20 : 20 < xs.length
    · have HF : RootsModuloR m xs = ([], 2) := by simp [RootsModuloR, hc, h20]
      rw [HF]
      clear HF hc hn
      have hd : decide (20 < (xs.length : Int)) = true := by simp; omega
      go_enter Try.func39, Try.ntmps39
      go_wp2_with (go_at_call 53; refine (modular_any m _ _ xs B hv).mono ?_; rintro e w1 ⟨rfl, hb1⟩; rw [HC.out])
      go_ret2
      exact ⟨none, 0, rfl, OwnI.nil_ _ _, hb1⟩
    · have HF : RootsModuloR m xs = (rootsTo m xs m.toNat, 0) := by simp [RootsModuloR, hc, h20]
      rw [HF]
      clear HF hc hn
      have hd : decide (20 < (xs.length : Int)) = false := by simp; omega
      have hl20 : xs.length ≤ 20 := by omega
      clear h20
      go_enter Try.func39, Try.ntmps39
      go_wp2_with (go_at_call 53; refine (modular_any m _ _ xs B hv).mono ?_; rintro e w1 ⟨rfl, hb1⟩; rw [HC.out])
      have hv1 : Hid (OwnI w1 B (.slice A xs.length c) xs) := hv.keep hb1 (Nat.le_refl _)
      have z1 := hb1.size
      have K1 : Hid (Below w.heap.size w w1) := hb1
      clear hb1 hv
      go_loopw [7, 8, 20] (fun r _ s2 wr => ∃ k n g c' : Nat, (k : Int) ≤ m ∧ s2 = .int .i64 k ∧ r = .slice (some ⟨g, 0, none⟩) n c' ∧ n ≤ k ∧ Hid ((rootsTo m xs k).length = n) ∧ w1.heap.size ≤ g ∧ RowI wr g c' (rootsTo m xs k) ∧ Below w1.heap.size w1 wr) (fun _ _ s2 _ => (m - intOf s2).toNat)
      case atStart => exact ⟨0, 0, w1.heap.size, 0, by omega, rfl, rfl, Nat.le_refl _, rfl, Nat.le_refl _, RowI.lit w1 [] #[] rfl (by simp), by (repeat (first | assumption | exact Below.refl _ _ | refine Below.alloc ?_ (by first | omega | (simp; done) | (simp; omega)) _ | refine Below.setCell ?_ (by first | omega | (simp; done) | (simp; omega)) _ | refine below_drewN ?_ _))⟩
      case round =>
        obtain ⟨k, n, g, c', hk, rfl, rfl, hnk, hlen, hg, hrow, hb⟩ := hrel
        have hz := hb.size
        have hglt := hrow.lt
        by_cases hlt : (k : Int) < m
        · have HS := Lib.hid (rootsTo_succ m xs k)
          cases hr : (horn m (k : Int) xs == 0)
          · have HS2 : Hid (rootsTo m xs (k + 1) = rootsTo m xs k) := by unfold Hid; rw [HS.out, hr]; simp
            have HR := Lib.hid hr
            clear hr
            go_wp2_with (go_at_call 72; refine (valueOf_any m _ _ xs B _ (hv1.out.keep hb (Nat.le_refl _)) h1 h2 HN.out (by omega) (by omega) (by omega)).mono ?_; rintro e w2 ⟨rfl, rfl⟩; have hq := HR.out)
            go_roundw
            case rel => exact ⟨k + 1, n, g, c', by omega, by go_num, rfl, by omega, by unfold Hid; rw [HS2.out]; exact hlen.out, hg, by rw [HS2.out]; exact hrow, hb⟩
            case measure => simp [intOf]; omega
          · have HS2 : Hid (rootsTo m xs (k + 1) = rootsTo m xs k ++ [(k : Int)]) := by unfold Hid; rw [HS.out, hr]; simp
            have HR := Lib.hid hr
            clear hr
            go_wp2_with (first | (go_at_call 72; refine (valueOf_any m _ _ xs B _ (hv1.out.keep hb (Nat.le_refl _)) h1 h2 HN.out (by omega) (by omega) (by omega)).mono ?_; rintro e w2 ⟨rfl, rfl⟩; have hq := HR.out) | (at_builtin; refine wpAppend1 _ _ w1.heap.size (.slice (some ⟨g, 0, none⟩) n c') (rootsTo m xs k) n (k : Int) wr.heap.size (wr.heap.size + 1) (by rfl) (by rfl) (by rfl) (by rfl) ((hrow.alloc _).own' hg hlen.out) hlen.out (RowI.block1 _) (by omega) (by simp; omega) (by simp) ?_; intro gg cap w3 hown1 hge hgrow hat))
            go_roundw
            case rel =>
              refine ⟨k + 1, n + 1, gg, cap, by omega, by go_num, rfl, by omega, by unfold Hid; rw [HS2.out, List.length_append, hlen.out]; rfl, hge, by rw [HS2.out]; exact hown1, ?_⟩
              refine Below.grown (hb.alloc hz _) hgrow (by simp; omega) fun b hb => ?_
              simp [Value.ownBlock] at hb
              omega
            case measure => simp [intOf]; omega
        · have hkm : k = m.toNat := by omega
          have HK := Lib.hid hkm
          clear hkm
          go_wp2
          go_ret2
          refine ⟨some ⟨g, 0, none⟩, c', by rw [← HK.out, hlen.out]; rfl, ?_, K1.out.trans (hb.mono z1)⟩
          rw [← HK.out]
          exact hrow.own (by omega)
  · have HF : RootsModuloR m xs = ([], codeR m xs) := by simp [RootsModuloR, hc]
    rw [HF]
    clear HF
    have h1 : (codeR m xs != 0) = true := by simpa using hc
    clear hc
    go_enter Try.func39, Try.ntmps39
    go_wp2_with (go_at_call 53; refine (modular_any m _ _ xs B hv).mono ?_; rintro e w1 ⟨rfl, hb1⟩)
    go_ret2
    exact ⟨none, 0, rfl, OwnI.nil_ _ _, hb1⟩
set_option maxHeartbeats 1000000 in
theorem sRootsModuloR_any (w : World) (m : Int) (v : Value) (xs : List Int) (B : Nat) (hv : OwnI w B v xs) (hl : xs.length ≤ 2000000) : Calls Try.prog 37 #[.int .i64 m, v] w (RetLI w (RootsModuloR m xs)) := by
  obtain ⟨A, c, e0, hc1, hc2, hA⟩ := hv.open_
  subst e0
  unfold maxLen at hc2
  by_cases hc : codeR m xs = 0
  · obtain ⟨⟨h1, h2⟩, hn⟩ := codeR_zeroL hc
    have HN := Lib.hid hn
    have HC := Lib.hid hc
    by_cases h20 : 20 < xs.length
    · have HF : RootsModuloR m xs = ([], 2) := by simp [RootsModuloR, hc, h20]
      rw [HF]
      clear HF hc hn hA
      have hd : decide (20 < (xs.length : Int)) = true := by simp; omega
      go_enter Try.func37, Try.ntmps37
      go_wp2_with (go_at_call 51; refine (l01Code_any m _ _ xs B hv).mono ?_; rintro e w1 ⟨rfl, k1, rfl⟩; rw [HC.out])
      go_ret2
      exact ⟨none, 0, rfl, OwnI.nil_ _ _, by (repeat (first | assumption | exact Below.refl _ _ | refine Below.alloc ?_ (by first | omega | (simp; done) | (simp; omega)) _ | refine Below.setCell ?_ (by first | omega | (simp; done) | (simp; omega)) _ | refine below_drewN ?_ _))⟩
    · have HF : RootsModuloR m xs = (rootsTo m xs m.toNat, 0) := by simp [RootsModuloR, hc, h20]
      rw [HF]
      clear HF hc hn
      have hd : decide (20 < (xs.length : Int)) = false := by simp; omega
      have hl20 : xs.length ≤ 20 := by omega
      clear h20
      have HA : Hid (∀ k, k < xs.length → ∃ g, A = some ⟨g, 0, none⟩ ∧ B ≤ g ∧ g < w.heap.size ∧ w.cell? ⟨g, k, none⟩ = some (.int .i64 (xs.getD k 0)) ∧ w.frozen? ⟨g, k, none⟩ = false) := hA
      clear hA
      go_enter Try.func37, Try.ntmps37
      go_wp2_with (go_at_call 51; refine (l01Code_any m _ _ xs B hv).mono ?_; rintro e w1 ⟨rfl, k1, rfl⟩; rw [HC.out])
      go_loopw [7, 8, 9, 10] (fun r s2 _ _ wr => ∃ k n g c' : Nat, (k : Int) ≤ m ∧ s2 = .int .i64 k ∧ r = .slice (some ⟨g, 0, none⟩) n c' ∧ n ≤ k ∧ Hid ((rootsTo m xs k).length = n) ∧ w.heap.size ≤ g ∧ RowI wr g c' (rootsTo m xs k) ∧ Below w.heap.size w wr) (fun _ s2 _ _ _ => (m - intOf s2).toNat)
      case atStart => exact ⟨0, 0, w.heap.size, 0, by omega, rfl, rfl, Nat.le_refl _, rfl, Nat.le_refl _, RowI.lit (w.drewN k1) [] #[] rfl (by simp), by (repeat (first | assumption | exact Below.refl _ _ | refine Below.alloc ?_ (by first | omega | (simp; done) | (simp; omega)) _ | refine Below.setCell ?_ (by first | omega | (simp; done) | (simp; omega)) _ | refine below_drewN ?_ _))⟩
      case round =>
        obtain ⟨k, n, g, c', hk, rfl, rfl, hnk, hlen, hg, hrow, hb⟩ := hrel
        have hz := hb.size
        have hglt := hrow.lt
        by_cases hlt : (k : Int) < m
        · go_wp2
          go_loop [9, 10] (fun s1 s2 => ∃ j : Nat, j ≤ xs.length ∧ s2 = .int .i64 ((j : Int) - 1) ∧ s1 = .int .i64 (horn m (k : Int) (xs.drop j))) (fun _ s2 => (intOf s2 + 1).toNat)
          case atStart => exact ⟨xs.length, Nat.le_refl _, rfl, by simp [horn]⟩
          case round =>
            obtain ⟨j, hj, rfl, rfl⟩ := hrel
            have hb2 := horn_bd (x := (k : Int)) (show 0 < m by omega) (xs.drop j)
            rcases Nat.eq_zero_or_pos j with h0 | h0
            · subst h0
              rw [List.drop_zero] at *
              have hd0 : decide ((0 : Int) ≤ ((0 : Nat) : Int) - 1) = false := by decide
              have HS := Lib.hid (rootsTo_succ m xs k)
              cases hr : (horn m (k : Int) xs == 0)
              · have HS2 : Hid (rootsTo m xs (k + 1) = rootsTo m xs k) := by unfold Hid; rw [HS.out, hr]; simp
                go_wp2
                go_roundw
                case rel => exact ⟨k + 1, n, g, c', by omega, by go_num, rfl, by omega, by unfold Hid; rw [HS2.out]; exact hlen.out, hg, by rw [HS2.out]; exact hrow, hb⟩
                case measure => simp [intOf]; omega
              · have HS2 : Hid (rootsTo m xs (k + 1) = rootsTo m xs k ++ [(k : Int)]) := by unfold Hid; rw [HS.out, hr]; simp
                go_wp2_with (at_builtin; refine wpAppend1 _ _ w.heap.size (.slice (some ⟨g, 0, none⟩) n c') (rootsTo m xs k) n (k : Int) wr.heap.size (wr.heap.size + 1) (by rfl) (by rfl) (by rfl) (by rfl) ((hrow.alloc _).own' hg hlen.out) hlen.out (RowI.block1 _) (by omega) (by simp; omega) (by simp) ?_; intro gg cap w3 hown1 hge hgrow hat)
                go_roundw
                case rel =>
                  refine ⟨k + 1, n + 1, gg, cap, by omega, by go_num, rfl, by omega, by unfold Hid; rw [HS2.out, List.length_append, hlen.out]; rfl, hge, by rw [HS2.out]; exact hown1, ?_⟩
                  refine Below.grown (hb.alloc hz _) hgrow (by simp; omega) fun b hb => ?_
                  simp [Value.ownBlock] at hb
                  omega
                case measure => simp [intOf]; omega
            · obtain ⟨i, rfl⟩ : ∃ i, j = i + 1 := ⟨j - 1, by omega⟩
              obtain ⟨g', rfl, hg1, hg2, hcell, hfr⟩ := HA.out i (by omega)
              have hnj := HN.out i
              have HS := Lib.hid (horn_step m (k : Int) xs i (by omega))
              have hcell' : wr.cell? ⟨g', i, none⟩ = some (.int .i64 (xs.getD i 0)) := (hb.cell (p := ⟨g', i, none⟩) hg2).trans hcell
              clear hcell
              generalize xs.getD i 0 = y at *
              generalize horn m (k : Int) (xs.drop (i + 1)) = t at *
              have hp := mul_bd hb2.1 (show t ≤ 10000 by omega) (show 0 ≤ (k : Int) by omega) (show (k : Int) ≤ 10000 by omega)
              have hji : ((i + 1 : Nat) : Int) - 1 = (i : Int) := by omega
              rw [hji]
              clear hji
              have hjl : (i : Int) < (xs.length : Int) := by omega
              go_wp2
              go_round
              case rel => exact ⟨i, by omega, rfl, by rw [HS.out]⟩
              case measure => simp [intOf] <;> omega
        · have hkm : k = m.toNat := by omega
          have HK := Lib.hid hkm
          clear hkm
          go_wp2
          go_ret2
          refine ⟨some ⟨g, 0, none⟩, c', by rw [← HK.out, hlen.out]; rfl, ?_, hb⟩
          rw [← HK.out]
          exact hrow.own (by omega)
  · have HF : RootsModuloR m xs = ([], codeR m xs) := by simp [RootsModuloR, hc]
    rw [HF]
    clear HF hA
    have h1 : (codeR m xs != 0) = true := by simpa using hc
    have h2 : (codeR m xs == 0) = false := by simpa using hc
    clear hc
    go_enter Try.func37, Try.ntmps37
    go_wp2_with (go_at_call 51; refine (l01Code_any m _ _ xs B hv).mono ?_; rintro e w1 ⟨rfl, k1, rfl⟩)
    go_ret2
    exact ⟨none, 0, rfl, OwnI.nil_ _ _, by (repeat (first | assumption | exact Below.refl _ _ | refine Below.alloc ?_ (by first | omega | (simp; done) | (simp; omega)) _ | refine Below.setCell ?_ (by first | omega | (simp; done) | (simp; omega)) _ | refine below_drewN ?_ _))⟩

/-! ### The laws' walks, printed by genlaw.py -/
set_option maxHeartbeats 4000000 in
theorem FnExactRootsModulo_walk (w : World) (a0 : Int) (v1 : Value) (xs1 : List Int) (hv1 : RdI w v1 xs1) : Calls Try.prog 11 #[.int .i64 a0, v1] w fun e w' => e = .returned (.bool true) ∧ Below w.heap.size w w' := by
  obtain ⟨A1, c1, e1⟩ := hv1.form
  subst e1
  obtain ⟨r0, HR⟩ : ∃ r0, Hid (RootsModuloR a0 xs1 = r0) := ⟨_, rfl⟩
  obtain ⟨rl, rc⟩ := r0
  have hlen := RootsModuloR_len a0 xs1
  rw [HR.out] at hlen
  simp only at hlen
  by_cases hz1 : 1048576 < (xs1.length : Int)
  · skip
    have hz1' : (1048576 : Int) < (xs1.length : Int) := hz1
    go_enter Try.func11, Try.ntmps11
    go_wp2
    go_ret
    exact ⟨rfl, by (repeat (first | assumption | exact Below.refl _ _ | refine Below.alloc ?_ (by first | omega | (simp; done) | (simp; omega)) _ | refine Below.setCell ?_ (by first | omega | (simp; done) | (simp; omega)) _ | refine below_drewN ?_ _))⟩
  have hl1 : (xs1.length : Int) ≤ 1048576 := by omega
  go_enter Try.func11, Try.ntmps11
  go_wp2_with fail
  refine (toL_any _ _ xs1 (hv1.below (by (repeat (first | assumption | exact Below.refl _ _ | refine Below.alloc ?_ (by first | omega | (simp; done) | (simp; omega)) _ | refine Below.setCell ?_ (by first | omega | (simp; done) | (simp; omega)) _ | refine below_drewN ?_ _)))) (by omega)).mono ?_
  rintro e w1 ⟨A_p1, c_p1, rfl, o_p1, hb1⟩
  have o_p1' := o_p1.mono (show w.heap.size ≤ _ from by first | exact Nat.le_refl _ | (simp; done) | (simp; omega))
  clear o_p1
  have R : Below w.heap.size w w1 := Below.trans (by (repeat (first | assumption | exact Below.refl _ _ | refine Below.alloc ?_ (by first | omega | (simp; done) | (simp; omega)) _ | refine Below.setCell ?_ (by first | omega | (simp; done) | (simp; omega)) _ | refine below_drewN ?_ _))) (hb1.mono (by first | exact Nat.le_refl _ | (simp; done) | (simp; omega)))
  have s1 : w.heap.size ≤ w1.heap.size := R.size
  have K1 : Hid (Below w.heap.size w w1) := R
  clear R hb1
  have p1 : Hid (OwnI w1 w.heap.size (.slice A_p1 xs1.length c_p1) xs1) := o_p1'
  have p1_u : Hid (∀ g, Value.ownBlock (.slice A_p1 xs1.length c_p1) = some g → w.heap.size ≤ g ∧ g < w1.heap.size) := fun g hg => o_p1'.block_ge hg
  clear o_p1'
  go_wp2_with fail
  refine (sRootsModuloR_any _ a0 (.slice A_p1 xs1.length c_p1) xs1 w.heap.size (p1.out.keep (by (repeat (first | assumption | exact Below.refl _ _ | refine Below.alloc ?_ (by first | omega | (simp; done) | (simp; omega)) _ | refine Below.setCell ?_ (by first | omega | (simp; done) | (simp; omega)) _ | refine below_drewN ?_ _))) (Nat.le_refl _)) (by omega)).mono ?_
  rintro e w2 h_r
  replace h_r := h_r.of HR
  obtain ⟨A_ow, c_ow, rfl, o_ow, hb2⟩ := h_r
  have o_ow' := o_ow.mono (show w1.heap.size ≤ _ from by first | exact Nat.le_refl _ | (simp; done) | (simp; omega))
  clear o_ow
  have R : Below w1.heap.size w1 w2 := Below.trans (by (repeat (first | assumption | exact Below.refl _ _ | refine Below.alloc ?_ (by first | omega | (simp; done) | (simp; omega)) _ | refine Below.setCell ?_ (by first | omega | (simp; done) | (simp; omega)) _ | refine below_drewN ?_ _))) (hb2.mono (by first | exact Nat.le_refl _ | (simp; done) | (simp; omega)))
  have s2 : w1.heap.size ≤ w2.heap.size := R.size
  have K2 : Hid (Below w.heap.size w w2) := K1.out.trans (R.mono (by omega))
  replace p1 : Hid (OwnI w2 w.heap.size (.slice A_p1 xs1.length c_p1) xs1) := p1.out.keep R (Nat.le_refl _)
  clear R hb2
  have ow : Hid (OwnI w2 w1.heap.size (.slice A_ow rl.length c_ow) rl) := o_ow'
  have ow_u : Hid (∀ g, Value.ownBlock (.slice A_ow rl.length c_ow) = some g → w1.heap.size ≤ g ∧ g < w2.heap.size) := fun g hg => o_ow'.block_ge hg
  clear o_ow'
  clear p1 p1_u
  go_wp2_with fail
  refine (toL_any _ _ xs1 (hv1.below K2.out) (by omega)).mono ?_
  rintro e w3 ⟨A_x1, c_x1, rfl, o_x1, hb3⟩
  have o_x1' := o_x1.mono (show w2.heap.size ≤ _ from by first | exact Nat.le_refl _ | (simp; done) | (simp; omega))
  clear o_x1
  have R : Below w2.heap.size w2 w3 := Below.trans (by (repeat (first | assumption | exact Below.refl _ _ | refine Below.alloc ?_ (by first | omega | (simp; done) | (simp; omega)) _ | refine Below.setCell ?_ (by first | omega | (simp; done) | (simp; omega)) _ | refine below_drewN ?_ _))) (hb3.mono (by first | exact Nat.le_refl _ | (simp; done) | (simp; omega)))
  have s3 : w2.heap.size ≤ w3.heap.size := R.size
  have K3 : Hid (Below w.heap.size w w3) := K2.out.trans (R.mono (by omega))
  replace ow : Hid (OwnI w3 w1.heap.size (.slice A_ow rl.length c_ow) rl) := ow.out.keep R (Nat.le_refl _)
  clear R hb3
  have x1 : Hid (OwnI w3 w2.heap.size (.slice A_x1 xs1.length c_x1) xs1) := o_x1'
  have x1_u : Hid (∀ g, Value.ownBlock (.slice A_x1 xs1.length c_x1) = some g → w2.heap.size ≤ g ∧ g < w3.heap.size) := fun g hg => o_x1'.block_ge hg
  clear o_x1'
  go_wp2_with fail
  refine (iRootsModuloR_any _ a0 (.slice A_x1 xs1.length c_x1) xs1 w2.heap.size (x1.out.keep (by (repeat (first | assumption | exact Below.refl _ _ | refine Below.alloc ?_ (by first | omega | (simp; done) | (simp; omega)) _ | refine Below.setCell ?_ (by first | omega | (simp; done) | (simp; omega)) _ | refine below_drewN ?_ _))) (Nat.le_refl _)) (by omega)).mono ?_
  rintro e w4 h_r
  replace h_r := h_r.of HR
  obtain ⟨A_og, c_og, rfl, o_og, hb4⟩ := h_r
  have o_og' := o_og.mono (show w3.heap.size ≤ _ from by first | exact Nat.le_refl _ | (simp; done) | (simp; omega))
  clear o_og
  have R : Below w3.heap.size w3 w4 := Below.trans (by (repeat (first | assumption | exact Below.refl _ _ | refine Below.alloc ?_ (by first | omega | (simp; done) | (simp; omega)) _ | refine Below.setCell ?_ (by first | omega | (simp; done) | (simp; omega)) _ | refine below_drewN ?_ _))) (hb4.mono (by first | exact Nat.le_refl _ | (simp; done) | (simp; omega)))
  have s4 : w3.heap.size ≤ w4.heap.size := R.size
  have K4 : Hid (Below w.heap.size w w4) := K3.out.trans (R.mono (by omega))
  replace ow : Hid (OwnI w4 w1.heap.size (.slice A_ow rl.length c_ow) rl) := ow.out.keep R (Nat.le_refl _)
  replace x1 : Hid (OwnI w4 w2.heap.size (.slice A_x1 xs1.length c_x1) xs1) := x1.out.keep R (Nat.le_refl _)
  clear R hb4
  have og : Hid (OwnI w4 w3.heap.size (.slice A_og rl.length c_og) rl) := o_og'
  have og_u : Hid (∀ g, Value.ownBlock (.slice A_og rl.length c_og) = some g → w3.heap.size ≤ g ∧ g < w4.heap.size) := fun g hg => o_og'.block_ge hg
  clear o_og'
  go_wp2_with fail
  refine (eqL_any _ _ _ _ _ (og.out.keep (by (repeat (first | assumption | exact Below.refl _ _ | refine Below.alloc ?_ (by first | omega | (simp; done) | (simp; omega)) _ | refine Below.setCell ?_ (by first | omega | (simp; done) | (simp; omega)) _ | refine below_drewN ?_ _))) (Nat.le_refl _)).rd (ow.out.keep (by (repeat (first | assumption | exact Below.refl _ _ | refine Below.alloc ?_ (by first | omega | (simp; done) | (simp; omega)) _ | refine Below.setCell ?_ (by first | omega | (simp; done) | (simp; omega)) _ | refine below_drewN ?_ _))) (Nat.le_refl _)).rd).mono ?_
  rintro e w5 ⟨rfl, hb5⟩
  have R : Below w4.heap.size w4 w5 := Below.trans (by (repeat (first | assumption | exact Below.refl _ _ | refine Below.alloc ?_ (by first | omega | (simp; done) | (simp; omega)) _ | refine Below.setCell ?_ (by first | omega | (simp; done) | (simp; omega)) _ | refine below_drewN ?_ _))) (hb5.mono (by first | exact Nat.le_refl _ | (simp; done) | (simp; omega)))
  have s5 : w4.heap.size ≤ w5.heap.size := R.size
  have K5 : Hid (Below w.heap.size w w5) := K4.out.trans (R.mono (by omega))
  replace ow : Hid (OwnI w5 w1.heap.size (.slice A_ow rl.length c_ow) rl) := ow.out.keep R (Nat.le_refl _)
  replace x1 : Hid (OwnI w5 w2.heap.size (.slice A_x1 xs1.length c_x1) xs1) := x1.out.keep R (Nat.le_refl _)
  replace og : Hid (OwnI w5 w3.heap.size (.slice A_og rl.length c_og) rl) := og.out.keep R (Nat.le_refl _)
  clear R hb5
  go_wp2_with fail
  refine (toL_any _ _ xs1 (hv1.below K5.out) (by omega)).mono ?_
  rintro e w7 ⟨A_t6, c_t6, rfl, o_t6, hb7⟩
  have o_t6' := o_t6.mono (show w5.heap.size ≤ _ from by first | exact Nat.le_refl _ | (simp; done) | (simp; omega))
  clear o_t6
  have R : Below w5.heap.size w5 w7 := Below.trans (by (repeat (first | assumption | exact Below.refl _ _ | refine Below.alloc ?_ (by first | omega | (simp; done) | (simp; omega)) _ | refine Below.setCell ?_ (by first | omega | (simp; done) | (simp; omega)) _ | refine below_drewN ?_ _))) (hb7.mono (by first | exact Nat.le_refl _ | (simp; done) | (simp; omega)))
  have s7 : w5.heap.size ≤ w7.heap.size := R.size
  have K7 : Hid (Below w.heap.size w w7) := K5.out.trans (R.mono (by omega))
  replace ow : Hid (OwnI w7 w1.heap.size (.slice A_ow rl.length c_ow) rl) := ow.out.keep R (Nat.le_refl _)
  replace x1 : Hid (OwnI w7 w2.heap.size (.slice A_x1 xs1.length c_x1) xs1) := x1.out.keep R (Nat.le_refl _)
  replace og : Hid (OwnI w7 w3.heap.size (.slice A_og rl.length c_og) rl) := og.out.keep R (Nat.le_refl _)
  clear R hb7
  have t6 : Hid (OwnI w7 w5.heap.size (.slice A_t6 xs1.length c_t6) xs1) := o_t6'
  have t6_u : Hid (∀ g, Value.ownBlock (.slice A_t6 xs1.length c_t6) = some g → w5.heap.size ≤ g ∧ g < w7.heap.size) := fun g hg => o_t6'.block_ge hg
  clear o_t6'
  go_wp2_with fail
  refine (eqL_any _ _ _ _ _ (x1.out.keep (by (repeat (first | assumption | exact Below.refl _ _ | refine Below.alloc ?_ (by first | omega | (simp; done) | (simp; omega)) _ | refine Below.setCell ?_ (by first | omega | (simp; done) | (simp; omega)) _ | refine below_drewN ?_ _))) (Nat.le_refl _)).rd (t6.out.keep (by (repeat (first | assumption | exact Below.refl _ _ | refine Below.alloc ?_ (by first | omega | (simp; done) | (simp; omega)) _ | refine Below.setCell ?_ (by first | omega | (simp; done) | (simp; omega)) _ | refine below_drewN ?_ _))) (Nat.le_refl _)).rd).mono ?_
  rintro e w8 ⟨rfl, hb8⟩
  have R : Below w7.heap.size w7 w8 := Below.trans (by (repeat (first | assumption | exact Below.refl _ _ | refine Below.alloc ?_ (by first | omega | (simp; done) | (simp; omega)) _ | refine Below.setCell ?_ (by first | omega | (simp; done) | (simp; omega)) _ | refine below_drewN ?_ _))) (hb8.mono (by first | exact Nat.le_refl _ | (simp; done) | (simp; omega)))
  have s8 : w7.heap.size ≤ w8.heap.size := R.size
  have K8 : Hid (Below w.heap.size w w8) := K7.out.trans (R.mono (by omega))
  replace ow : Hid (OwnI w8 w1.heap.size (.slice A_ow rl.length c_ow) rl) := ow.out.keep R (Nat.le_refl _)
  replace x1 : Hid (OwnI w8 w2.heap.size (.slice A_x1 xs1.length c_x1) xs1) := x1.out.keep R (Nat.le_refl _)
  replace og : Hid (OwnI w8 w3.heap.size (.slice A_og rl.length c_og) rl) := og.out.keep R (Nat.le_refl _)
  replace t6 : Hid (OwnI w8 w5.heap.size (.slice A_t6 xs1.length c_t6) xs1) := t6.out.keep R (Nat.le_refl _)
  clear R hb8
  clear t6 t6_u
  go_wp2_with fail
  refine (markL_any _ w2.heap.size _ _ xs1.length (1) (x1.out.keep (by (repeat (first | assumption | exact Below.refl _ _ | refine Below.alloc ?_ (by first | omega | (simp; done) | (simp; omega)) _ | refine Below.setCell ?_ (by first | omega | (simp; done) | (simp; omega)) _ | refine below_drewN ?_ _))) (Nat.le_refl _)) rfl (by omega) (by omega) (by omega)).mono ?_
  rintro e w9 ⟨rfl, o_m, hg9⟩
  have R : w8.grownBy w9 (Value.ownBlock (.slice A_x1 xs1.length c_x1)) := grownBy_behind (by (repeat (first | assumption | exact Below.refl _ _ | refine Below.alloc ?_ (by first | omega | (simp; done) | (simp; omega)) _ | refine Below.setCell ?_ (by first | omega | (simp; done) | (simp; omega)) _ | refine below_drewN ?_ _))) hg9
  have s9 : w8.heap.size ≤ w9.heap.size := R.size
  have K9 : Hid (Below w.heap.size w w9) := below_grownBy K8.out (by omega) R (fun g hg => by have := x1_u.out g hg; omega)
  replace ow : Hid (OwnI w9 w1.heap.size (.slice A_ow rl.length c_ow) rl) := ow.out.grown R (fun g g' hg hg' => by have := ow_u.out g hg; have := x1_u.out g' hg'; omega)
  replace og : Hid (OwnI w9 w3.heap.size (.slice A_og rl.length c_og) rl) := og.out.grown R (fun g g' hg hg' => by have := og_u.out g hg; have := x1_u.out g' hg'; omega)
  clear R hg9
  replace x1 : Hid (OwnI w9 w2.heap.size (.slice A_x1 xs1.length c_x1) (marks (1) xs1.length)) := o_m
  clear o_m
  go_wp2_with fail
  refine (eqL_any _ _ _ _ _ (og.out.keep (by (repeat (first | assumption | exact Below.refl _ _ | refine Below.alloc ?_ (by first | omega | (simp; done) | (simp; omega)) _ | refine Below.setCell ?_ (by first | omega | (simp; done) | (simp; omega)) _ | refine below_drewN ?_ _))) (Nat.le_refl _)).rd (ow.out.keep (by (repeat (first | assumption | exact Below.refl _ _ | refine Below.alloc ?_ (by first | omega | (simp; done) | (simp; omega)) _ | refine Below.setCell ?_ (by first | omega | (simp; done) | (simp; omega)) _ | refine below_drewN ?_ _))) (Nat.le_refl _)).rd).mono ?_
  rintro e w10 ⟨rfl, hb10⟩
  have R : Below w9.heap.size w9 w10 := Below.trans (by (repeat (first | assumption | exact Below.refl _ _ | refine Below.alloc ?_ (by first | omega | (simp; done) | (simp; omega)) _ | refine Below.setCell ?_ (by first | omega | (simp; done) | (simp; omega)) _ | refine below_drewN ?_ _))) (hb10.mono (by first | exact Nat.le_refl _ | (simp; done) | (simp; omega)))
  have s10 : w9.heap.size ≤ w10.heap.size := R.size
  have K10 : Hid (Below w.heap.size w w10) := K9.out.trans (R.mono (by omega))
  replace ow : Hid (OwnI w10 w1.heap.size (.slice A_ow rl.length c_ow) rl) := ow.out.keep R (Nat.le_refl _)
  replace x1 : Hid (OwnI w10 w2.heap.size (.slice A_x1 xs1.length c_x1) (marks (1) xs1.length)) := x1.out.keep R (Nat.le_refl _)
  replace og : Hid (OwnI w10 w3.heap.size (.slice A_og rl.length c_og) rl) := og.out.keep R (Nat.le_refl _)
  clear R hb10
  go_wp2_with fail
  refine (markL_any _ w3.heap.size _ _ rl.length (1) (og.out.keep (by (repeat (first | assumption | exact Below.refl _ _ | refine Below.alloc ?_ (by first | omega | (simp; done) | (simp; omega)) _ | refine Below.setCell ?_ (by first | omega | (simp; done) | (simp; omega)) _ | refine below_drewN ?_ _))) (Nat.le_refl _)) rfl (by omega) (by omega) (by omega)).mono ?_
  rintro e w11 ⟨rfl, o_m, hg11⟩
  have R : w10.grownBy w11 (Value.ownBlock (.slice A_og rl.length c_og)) := grownBy_behind (by (repeat (first | assumption | exact Below.refl _ _ | refine Below.alloc ?_ (by first | omega | (simp; done) | (simp; omega)) _ | refine Below.setCell ?_ (by first | omega | (simp; done) | (simp; omega)) _ | refine below_drewN ?_ _))) hg11
  have s11 : w10.heap.size ≤ w11.heap.size := R.size
  have K11 : Hid (Below w.heap.size w w11) := below_grownBy K10.out (by omega) R (fun g hg => by have := og_u.out g hg; omega)
  replace ow : Hid (OwnI w11 w1.heap.size (.slice A_ow rl.length c_ow) rl) := ow.out.grown R (fun g g' hg hg' => by have := ow_u.out g hg; have := og_u.out g' hg'; omega)
  replace x1 : Hid (OwnI w11 w2.heap.size (.slice A_x1 xs1.length c_x1) (marks (1) xs1.length)) := x1.out.grown R (fun g g' hg hg' => by have := x1_u.out g hg; have := og_u.out g' hg'; omega)
  clear R hg11
  replace og : Hid (OwnI w11 w3.heap.size (.slice A_og rl.length c_og) (marks (1) rl.length)) := o_m
  clear o_m
  go_wp2_with fail
  refine (heldL_any _ w3.heap.size _ rl.length (1) (og.out.keep (by (repeat (first | assumption | exact Below.refl _ _ | refine Below.alloc ?_ (by first | omega | (simp; done) | (simp; omega)) _ | refine Below.setCell ?_ (by first | omega | (simp; done) | (simp; omega)) _ | refine below_drewN ?_ _))) (Nat.le_refl _)) (by omega) (by omega) (by omega)).mono ?_
  rintro e w12 ⟨rfl, hb12⟩
  have R : Below w11.heap.size w11 w12 := Below.trans (by (repeat (first | assumption | exact Below.refl _ _ | refine Below.alloc ?_ (by first | omega | (simp; done) | (simp; omega)) _ | refine Below.setCell ?_ (by first | omega | (simp; done) | (simp; omega)) _ | refine below_drewN ?_ _))) (hb12.mono (by first | exact Nat.le_refl _ | (simp; done) | (simp; omega)))
  have s12 : w11.heap.size ≤ w12.heap.size := R.size
  have K12 : Hid (Below w.heap.size w w12) := K11.out.trans (R.mono (by omega))
  replace ow : Hid (OwnI w12 w1.heap.size (.slice A_ow rl.length c_ow) rl) := ow.out.keep R (Nat.le_refl _)
  replace x1 : Hid (OwnI w12 w2.heap.size (.slice A_x1 xs1.length c_x1) (marks (1) xs1.length)) := x1.out.keep R (Nat.le_refl _)
  replace og : Hid (OwnI w12 w3.heap.size (.slice A_og rl.length c_og) (marks (1) rl.length)) := og.out.keep R (Nat.le_refl _)
  clear R hb12
  go_wp2_with fail
  refine (toL_any _ _ xs1 (hv1.below K12.out) (by omega)).mono ?_
  rintro e w13 ⟨A_y1, c_y1, rfl, o_y1, hb13⟩
  have o_y1' := o_y1.mono (show w12.heap.size ≤ _ from by first | exact Nat.le_refl _ | (simp; done) | (simp; omega))
  clear o_y1
  have R : Below w12.heap.size w12 w13 := Below.trans (by (repeat (first | assumption | exact Below.refl _ _ | refine Below.alloc ?_ (by first | omega | (simp; done) | (simp; omega)) _ | refine Below.setCell ?_ (by first | omega | (simp; done) | (simp; omega)) _ | refine below_drewN ?_ _))) (hb13.mono (by first | exact Nat.le_refl _ | (simp; done) | (simp; omega)))
  have s13 : w12.heap.size ≤ w13.heap.size := R.size
  have K13 : Hid (Below w.heap.size w w13) := K12.out.trans (R.mono (by omega))
  replace ow : Hid (OwnI w13 w1.heap.size (.slice A_ow rl.length c_ow) rl) := ow.out.keep R (Nat.le_refl _)
  replace x1 : Hid (OwnI w13 w2.heap.size (.slice A_x1 xs1.length c_x1) (marks (1) xs1.length)) := x1.out.keep R (Nat.le_refl _)
  replace og : Hid (OwnI w13 w3.heap.size (.slice A_og rl.length c_og) (marks (1) rl.length)) := og.out.keep R (Nat.le_refl _)
  clear R hb13
  have y1 : Hid (OwnI w13 w12.heap.size (.slice A_y1 xs1.length c_y1) xs1) := o_y1'
  have y1_u : Hid (∀ g, Value.ownBlock (.slice A_y1 xs1.length c_y1) = some g → w12.heap.size ≤ g ∧ g < w13.heap.size) := fun g hg => o_y1'.block_ge hg
  clear o_y1'
  go_wp2_with fail
  refine (iRootsModuloR_any _ a0 (.slice A_y1 xs1.length c_y1) xs1 w12.heap.size (y1.out.keep (by (repeat (first | assumption | exact Below.refl _ _ | refine Below.alloc ?_ (by first | omega | (simp; done) | (simp; omega)) _ | refine Below.setCell ?_ (by first | omega | (simp; done) | (simp; omega)) _ | refine below_drewN ?_ _))) (Nat.le_refl _)) (by omega)).mono ?_
  rintro e w14 h_r
  replace h_r := h_r.of HR
  obtain ⟨A_oh, c_oh, rfl, o_oh, hb14⟩ := h_r
  have o_oh' := o_oh.mono (show w13.heap.size ≤ _ from by first | exact Nat.le_refl _ | (simp; done) | (simp; omega))
  clear o_oh
  have R : Below w13.heap.size w13 w14 := Below.trans (by (repeat (first | assumption | exact Below.refl _ _ | refine Below.alloc ?_ (by first | omega | (simp; done) | (simp; omega)) _ | refine Below.setCell ?_ (by first | omega | (simp; done) | (simp; omega)) _ | refine below_drewN ?_ _))) (hb14.mono (by first | exact Nat.le_refl _ | (simp; done) | (simp; omega)))
  have s14 : w13.heap.size ≤ w14.heap.size := R.size
  have K14 : Hid (Below w.heap.size w w14) := K13.out.trans (R.mono (by omega))
  replace ow : Hid (OwnI w14 w1.heap.size (.slice A_ow rl.length c_ow) rl) := ow.out.keep R (Nat.le_refl _)
  replace x1 : Hid (OwnI w14 w2.heap.size (.slice A_x1 xs1.length c_x1) (marks (1) xs1.length)) := x1.out.keep R (Nat.le_refl _)
  replace og : Hid (OwnI w14 w3.heap.size (.slice A_og rl.length c_og) (marks (1) rl.length)) := og.out.keep R (Nat.le_refl _)
  replace y1 : Hid (OwnI w14 w12.heap.size (.slice A_y1 xs1.length c_y1) xs1) := y1.out.keep R (Nat.le_refl _)
  clear R hb14
  have oh : Hid (OwnI w14 w13.heap.size (.slice A_oh rl.length c_oh) rl) := o_oh'
  have oh_u : Hid (∀ g, Value.ownBlock (.slice A_oh rl.length c_oh) = some g → w13.heap.size ≤ g ∧ g < w14.heap.size) := fun g hg => o_oh'.block_ge hg
  clear o_oh'
  go_wp2_with fail
  refine (eqL_any _ _ _ _ _ (oh.out.keep (by (repeat (first | assumption | exact Below.refl _ _ | refine Below.alloc ?_ (by first | omega | (simp; done) | (simp; omega)) _ | refine Below.setCell ?_ (by first | omega | (simp; done) | (simp; omega)) _ | refine below_drewN ?_ _))) (Nat.le_refl _)).rd (ow.out.keep (by (repeat (first | assumption | exact Below.refl _ _ | refine Below.alloc ?_ (by first | omega | (simp; done) | (simp; omega)) _ | refine Below.setCell ?_ (by first | omega | (simp; done) | (simp; omega)) _ | refine below_drewN ?_ _))) (Nat.le_refl _)).rd).mono ?_
  rintro e w15 ⟨rfl, hb15⟩
  have R : Below w14.heap.size w14 w15 := Below.trans (by (repeat (first | assumption | exact Below.refl _ _ | refine Below.alloc ?_ (by first | omega | (simp; done) | (simp; omega)) _ | refine Below.setCell ?_ (by first | omega | (simp; done) | (simp; omega)) _ | refine below_drewN ?_ _))) (hb15.mono (by first | exact Nat.le_refl _ | (simp; done) | (simp; omega)))
  have s15 : w14.heap.size ≤ w15.heap.size := R.size
  have K15 : Hid (Below w.heap.size w w15) := K14.out.trans (R.mono (by omega))
  replace ow : Hid (OwnI w15 w1.heap.size (.slice A_ow rl.length c_ow) rl) := ow.out.keep R (Nat.le_refl _)
  replace x1 : Hid (OwnI w15 w2.heap.size (.slice A_x1 xs1.length c_x1) (marks (1) xs1.length)) := x1.out.keep R (Nat.le_refl _)
  replace og : Hid (OwnI w15 w3.heap.size (.slice A_og rl.length c_og) (marks (1) rl.length)) := og.out.keep R (Nat.le_refl _)
  replace y1 : Hid (OwnI w15 w12.heap.size (.slice A_y1 xs1.length c_y1) xs1) := y1.out.keep R (Nat.le_refl _)
  replace oh : Hid (OwnI w15 w13.heap.size (.slice A_oh rl.length c_oh) rl) := oh.out.keep R (Nat.le_refl _)
  clear R hb15
  go_wp2_with fail
  refine (heldL_any _ w3.heap.size _ rl.length (1) (og.out.keep (by (repeat (first | assumption | exact Below.refl _ _ | refine Below.alloc ?_ (by first | omega | (simp; done) | (simp; omega)) _ | refine Below.setCell ?_ (by first | omega | (simp; done) | (simp; omega)) _ | refine below_drewN ?_ _))) (Nat.le_refl _)) (by omega) (by omega) (by omega)).mono ?_
  rintro e w16 ⟨rfl, hb16⟩
  have R : Below w15.heap.size w15 w16 := Below.trans (by (repeat (first | assumption | exact Below.refl _ _ | refine Below.alloc ?_ (by first | omega | (simp; done) | (simp; omega)) _ | refine Below.setCell ?_ (by first | omega | (simp; done) | (simp; omega)) _ | refine below_drewN ?_ _))) (hb16.mono (by first | exact Nat.le_refl _ | (simp; done) | (simp; omega)))
  have s16 : w15.heap.size ≤ w16.heap.size := R.size
  have K16 : Hid (Below w.heap.size w w16) := K15.out.trans (R.mono (by omega))
  replace ow : Hid (OwnI w16 w1.heap.size (.slice A_ow rl.length c_ow) rl) := ow.out.keep R (Nat.le_refl _)
  replace x1 : Hid (OwnI w16 w2.heap.size (.slice A_x1 xs1.length c_x1) (marks (1) xs1.length)) := x1.out.keep R (Nat.le_refl _)
  replace og : Hid (OwnI w16 w3.heap.size (.slice A_og rl.length c_og) (marks (1) rl.length)) := og.out.keep R (Nat.le_refl _)
  replace y1 : Hid (OwnI w16 w12.heap.size (.slice A_y1 xs1.length c_y1) xs1) := y1.out.keep R (Nat.le_refl _)
  replace oh : Hid (OwnI w16 w13.heap.size (.slice A_oh rl.length c_oh) rl) := oh.out.keep R (Nat.le_refl _)
  clear R hb16
  go_wp2
  go_ret
  exact ⟨rfl, K16.out⟩


end Go.Proofs.Ytipiljinloapjaa
