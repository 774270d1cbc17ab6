/- Contracts over this seat's translation. Condition: each contract's own. -/
import Derived.Test.YtfdklbimdkaaiaaK
import Derived.ProofKit
import Derived.Laws.Bits64b
import Derived.Lib.Mul64
import Derived.OpenShut
import Derived.Below
import Derived.ChangeSame
import Derived.Deep.Modes
import Derived.Lib.SmallJoins
import Derived.ChangeSlices
import Derived.WalkKit
import Derived.WalkSpells
import Derived.WalkLawsBesides
import Derived.Deep.QuietTactic
import Derived.BigQuiet
import Derived.Deep.RegionHeld3
import Derived.Deep.RegionWith
import Derived.Deep.RegionLaw
import Derived.Deep.AppendLies
import Derived.Laws.CopyOwn
import Derived.Deep.DeepCutAuto
import Derived.Deep.OwnRows
import Derived.Deep.LoopGhost
import Derived.Deep.DeepFit
import Derived.Deep.DeepMust
import Derived.Deep.Draws
import Derived.Deep.CutRange
import Derived.Maps.AppendAt
import Derived.Lib.Hide
import Derived.StillTailTactics
import Derived.Laws.MakeOwn
import Derived.Deep.Matrix
set_option linter.unusedVariables false
open Go Go.RowKit
namespace Go.Proofs.Ytfdklbimdkaaiaa
/-! ### Typical numerators: the plain law -/
theorem nm_form (t A o B m : Int) : (t + A * (o * B % m) % m) % m = (t + (A * o % m) * B) % m := by
  rw [Int.add_emod, Int.emod_emod, ← Int.add_emod, Int.add_emod, Int.mul_emod A, Int.emod_emod, ← Int.mul_emod, ← Int.add_emod, ← Int.mul_assoc, Int.add_emod t (A * o % m * B), Int.mul_emod (A * o % m), Int.emod_emod, ← Int.mul_emod, ← Int.add_emod]
def typB (p : Int) : Bool := p == 2 || p == 3 || p == 5 || p == 7
theorem typB_true {p : Int} (h : typB p = true) : p = 2 ∨ p = 3 ∨ p = 5 ∨ p = 7 := by simpa [typB, or_assoc] using h
/-- The sum of number k, as far as i. -/
def nmS (m : Int) (p : Nat) (xs out : List Int) (k : Nat) : Nat → Int
  | 0 => 0
  | i + 1 => (nmS m p xs out k i + powN m (p : Int) (k - 1 - i) * co out i % m * powN m (co xs (k - i - 1)) (p ^ i)) % m
theorem nmS_bd {m : Int} (hm : 0 < m) (p : Nat) (xs out : List Int) (k i : Nat) : 0 ≤ nmS m p xs out k i ∧ nmS m p xs out k i < m := by
  cases i with
  | zero => simp [nmS, hm]
  | succ i => exact ⟨Int.emod_nonneg _ (by omega), Int.emod_lt_of_pos _ hm⟩
def nmTo (m : Int) (p : Nat) (xs : List Int) : Nat → List Int
  | 0 => [1 % m]
  | k + 1 => nmTo m p xs k ++ [nmS m p xs (nmTo m p xs k) (k + 1) (k + 1)]
theorem length_nmTo (m : Int) (p : Nat) (xs : List Int) (k : Nat) : (nmTo m p xs k).length = k + 1 := by
  induction k with
  | zero => rfl
  | succ k ih => simp [nmTo, ih]
theorem nmTo_num {m : Int} (hm : 0 < m) (p : Nat) (xs : List Int) (k : Nat) : NumL m (nmTo m p xs k) := by
  induction k with
  | zero =>
    intro j
    have h1 := Int.emod_nonneg (1 : Int) (show m ≠ 0 by omega)
    have h2 := Int.emod_lt_of_pos (1 : Int) hm
    cases j with
    | zero => simp only [nmTo, List.getD_cons_zero]; omega
    | succ j => simp only [nmTo, List.getD_cons_succ, List.getD_nil]; omega
  | succ k ih =>
    intro j
    simp only [nmTo, List.getD_eq_getElem?_getD, List.getElem?_append]
    split
    · have := ih j
      rw [List.getD_eq_getElem?_getD] at this
      exact this
    · have h1 := nmS_bd hm p xs (nmTo m p xs k) (k + 1) (k + 1)
      generalize nmS m p xs (nmTo m p xs k) (k + 1) (k + 1) = y at *
      rcases hk : j - (nmTo m p xs k).length with _ | j
      · simp; omega
      · simp; omega
theorem nm_step (m : Int) (p : Nat) (xs out : List Int) (k i : Nat) : (nmS m p xs out k i + powN m ((p : Int) % m) (k - 1 - i) * (co out i * powN m (co xs (k - i - 1)) (p ^ i) % m) % m) % m = nmS m p xs out k (i + 1) := by
  rw [nm_form]
  simp only [nmS, powN]
  rw [pow_mod]
def nmL (m : Int) (p : Nat) (xs : List Int) : List Int := nmTo m p xs xs.length
theorem length_nmL (m : Int) (p : Nat) (xs : List Int) : (nmL m p xs).length = xs.length + 1 := length_nmTo _ _ _ _
theorem codeR_zeroL {m : Int} {xs : List Int} (h : codeR m xs = 0) : (2 ≤ m ∧ m ≤ 10000) ∧ (∀ k, 0 ≤ xs.getD k 0 ∧ xs.getD k 0 < m) := by
  unfold codeR at h
  cases h1 : isModB m
  · simp [h1] at h
  · cases h2 : numsB m xs
    · simp [h1, h2] at h
    · have hm := isModB_true h1
      refine ⟨hm, fun k => ?_⟩
      rcases Nat.lt_or_ge k xs.length with hk | hk
      · rw [List.getD_eq_getElem?_getD, List.getElem?_eq_getElem hk]
        unfold numsB at h2
        rw [List.all_eq_true] at h2
        exact isNumB_true (h2 _ (List.getElem_mem hk))
      · rw [List.getD_eq_getElem?_getD, List.getElem?_eq_none hk]
        simp
        omega

/-! ### Typical numerators: codes -/
def typC (p m : Int) (xs : List Int) (least : Int) : Int := if isModB m = false then 1 else if typB p = false then 2 else if (xs.length : Int) < least then 2 else if 3 < xs.length then 2 else codeR m xs
theorem typC_zero {p m : Int} {xs : List Int} {least : Int} (h : typC p m xs least = 0) : (2 ≤ m ∧ m ≤ 10000) ∧ (p = 2 ∨ p = 3 ∨ p = 5 ∨ p = 7) ∧ least ≤ (xs.length : Int) ∧ xs.length ≤ 3 ∧ NumL m xs := by
  unfold typC at h
  cases h1 : isModB m
  · simp [h1] at h
  · cases h2 : typB p
    · simp [h1, h2] at h
    · by_cases h3 : (xs.length : Int) < least
      · simp [h1, h2, h3] at h
      · by_cases h4 : 3 < xs.length
        · simp [h1, h2, h3, h4] at h
        · simp [h1, h2, h3, h4] at h
          have h5 := codeR_zeroL h
          exact ⟨h5.1, typB_true h2, by omega, by omega, h5.2⟩
theorem isTypicalPrime_any (p : Int) (w : World) : Calls Try.prog 106 #[.int .i64 p] w fun e w' => e = .returned (.bool (typB p)) ∧ ∃ k, w' = w.drewN k := by
  unfold typB
  go_enter Try.func106, Try.ntmps106
  go_wp2
  all_goals go_ret
  all_goals exact ⟨by first | (simp [*]; done) | (simp; omega), 0, rfl⟩
theorem l09Prime_any (p : Int) (w : World) : Calls Try.prog 105 #[.int .i64 p] w fun e w' => e = .returned (.bool (typB p)) ∧ ∃ k, w' = w.drewN k := by
  unfold typB
  go_enter Try.func105, Try.ntmps105
  go_wp2
  all_goals go_ret
  all_goals exact ⟨by first | (simp [*]; done) | (simp; omega), 0, rfl⟩
set_option maxHeartbeats 1000000 in
theorem typed_any (p m least : Int) (w : World) (v : Value) (xs : List Int) (B : Nat) (hv : OwnI w B v xs) (hl : xs.length ≤ 2000000) (h0 : 0 ≤ least ∧ least ≤ 1) : Calls Try.prog 72 #[.int .i64 p, .int .i64 m, v, .int .i64 least] w fun e w' => e = .returned (.int .i64 (typC p m xs least)) ∧ Below w.heap.size w w' := by
  obtain ⟨A, c, e0⟩ := hv.form
  subst e0
  cases hm : isModB m
  · have HM := Lib.hid hm
    have HF : typC p m xs least = 1 := by simp [typC, hm]
    rw [HF]
    clear HF
    clear hm
    go_enter Try.func72, Try.ntmps72
    go_wp2_with (first | (go_at_call 101; refine (iIsModulus_any m _).mono ?_; rintro e w1 ⟨rfl, k1, rfl⟩; rw [HM.out]) | (go_at_call 106; refine (isTypicalPrime_any p _).mono ?_; rintro e w2 ⟨rfl, k2, rfl⟩; rw [HT.out]) | (go_at_call 107; refine (modular_any m _ _ xs B (hv.keep (by (repeat (first | assumption | exact Below.refl _ _ | refine Below.alloc ?_ (by first | omega | (simp; done) | (simp; omega)) _ | refine Below.setCell ?_ (by first | omega | (simp; done) | (simp; omega)) _ | refine below_drewN ?_ _))) (Nat.le_refl _))).mono ?_; rintro e w3 ⟨rfl, hb3⟩; have hq : Below w.heap.size w w3 := Below.trans (by (repeat (first | assumption | exact Below.refl _ _ | refine Below.alloc ?_ (by first | omega | (simp; done) | (simp; omega)) _ | refine Below.setCell ?_ (by first | omega | (simp; done) | (simp; omega)) _ | refine below_drewN ?_ _))) (hb3.mono (by simp))))
    go_ret
    exact ⟨rfl, by (repeat (first | assumption | exact Below.refl _ _ | refine Below.alloc ?_ (by first | omega | (simp; done) | (simp; omega)) _ | refine Below.setCell ?_ (by first | omega | (simp; done) | (simp; omega)) _ | refine below_drewN ?_ _))⟩
  · have HM := Lib.hid hm
    cases ht : typB p
    · have HT := Lib.hid ht
      have HF : typC p m xs least = 2 := by simp [typC, hm, ht]
      rw [HF]
      clear HF
      clear hm ht
      go_enter Try.func72, Try.ntmps72
      go_wp2_with (first | (go_at_call 101; refine (iIsModulus_any m _).mono ?_; rintro e w1 ⟨rfl, k1, rfl⟩; rw [HM.out]) | (go_at_call 106; refine (isTypicalPrime_any p _).mono ?_; rintro e w2 ⟨rfl, k2, rfl⟩; rw [HT.out]) | (go_at_call 107; refine (modular_any m _ _ xs B (hv.keep (by (repeat (first | assumption | exact Below.refl _ _ | refine Below.alloc ?_ (by first | omega | (simp; done) | (simp; omega)) _ | refine Below.setCell ?_ (by first | omega | (simp; done) | (simp; omega)) _ | refine below_drewN ?_ _))) (Nat.le_refl _))).mono ?_; rintro e w3 ⟨rfl, hb3⟩; have hq : Below w.heap.size w w3 := Below.trans (by (repeat (first | assumption | exact Below.refl _ _ | refine Below.alloc ?_ (by first | omega | (simp; done) | (simp; omega)) _ | refine Below.setCell ?_ (by first | omega | (simp; done) | (simp; omega)) _ | refine below_drewN ?_ _))) (hb3.mono (by simp))))
      go_ret
      exact ⟨rfl, by (repeat (first | assumption | exact Below.refl _ _ | refine Below.alloc ?_ (by first | omega | (simp; done) | (simp; omega)) _ | refine Below.setCell ?_ (by first | omega | (simp; done) | (simp; omega)) _ | refine below_drewN ?_ _))⟩
    · have HT := Lib.hid ht
      by_cases h1 : (xs.length : Int) < least
      · have hd1 : decide ((xs.length : Int) < least) = true := by simpa using h1
        have HF : typC p m xs least = 2 := by simp [typC, hm, ht, h1]
        rw [HF]
        clear HF
        clear hm ht h1
        go_enter Try.func72, Try.ntmps72
        go_wp2_with (first | (go_at_call 101; refine (iIsModulus_any m _).mono ?_; rintro e w1 ⟨rfl, k1, rfl⟩; rw [HM.out]) | (go_at_call 106; refine (isTypicalPrime_any p _).mono ?_; rintro e w2 ⟨rfl, k2, rfl⟩; rw [HT.out]) | (go_at_call 107; refine (modular_any m _ _ xs B (hv.keep (by (repeat (first | assumption | exact Below.refl _ _ | refine Below.alloc ?_ (by first | omega | (simp; done) | (simp; omega)) _ | refine Below.setCell ?_ (by first | omega | (simp; done) | (simp; omega)) _ | refine below_drewN ?_ _))) (Nat.le_refl _))).mono ?_; rintro e w3 ⟨rfl, hb3⟩; have hq : Below w.heap.size w w3 := Below.trans (by (repeat (first | assumption | exact Below.refl _ _ | refine Below.alloc ?_ (by first | omega | (simp; done) | (simp; omega)) _ | refine Below.setCell ?_ (by first | omega | (simp; done) | (simp; omega)) _ | refine below_drewN ?_ _))) (hb3.mono (by simp))))
        go_ret
        exact ⟨rfl, by (repeat (first | assumption | exact Below.refl _ _ | refine Below.alloc ?_ (by first | omega | (simp; done) | (simp; omega)) _ | refine Below.setCell ?_ (by first | omega | (simp; done) | (simp; omega)) _ | refine below_drewN ?_ _))⟩
      · have hd1 : decide ((xs.length : Int) < least) = false := by simpa using h1
        by_cases h3 : 3 < xs.length
        · have hd3 : decide ((3 : Int) < (xs.length : Int)) = true := by simp; omega
          have HF : typC p m xs least = 2 := by simp [typC, hm, ht, h1, h3]
          rw [HF]
          clear HF
          clear hm ht h1 h3
          go_enter Try.func72, Try.ntmps72
          go_wp2_with (first | (go_at_call 101; refine (iIsModulus_any m _).mono ?_; rintro e w1 ⟨rfl, k1, rfl⟩; rw [HM.out]) | (go_at_call 106; refine (isTypicalPrime_any p _).mono ?_; rintro e w2 ⟨rfl, k2, rfl⟩; rw [HT.out]) | (go_at_call 107; refine (modular_any m _ _ xs B (hv.keep (by (repeat (first | assumption | exact Below.refl _ _ | refine Below.alloc ?_ (by first | omega | (simp; done) | (simp; omega)) _ | refine Below.setCell ?_ (by first | omega | (simp; done) | (simp; omega)) _ | refine below_drewN ?_ _))) (Nat.le_refl _))).mono ?_; rintro e w3 ⟨rfl, hb3⟩; have hq : Below w.heap.size w w3 := Below.trans (by (repeat (first | assumption | exact Below.refl _ _ | refine Below.alloc ?_ (by first | omega | (simp; done) | (simp; omega)) _ | refine Below.setCell ?_ (by first | omega | (simp; done) | (simp; omega)) _ | refine below_drewN ?_ _))) (hb3.mono (by simp))))
          go_ret
          exact ⟨rfl, by (repeat (first | assumption | exact Below.refl _ _ | refine Below.alloc ?_ (by first | omega | (simp; done) | (simp; omega)) _ | refine Below.setCell ?_ (by first | omega | (simp; done) | (simp; omega)) _ | refine below_drewN ?_ _))⟩
        · have hd3 : decide ((3 : Int) < (xs.length : Int)) = false := by simp; omega
          have HF : typC p m xs least = codeR m xs := by simp [typC, hm, ht, h1, h3]
          rw [HF]
          clear HF
          clear hm ht h1 h3
          go_enter Try.func72, Try.ntmps72
          go_wp2_with (first | (go_at_call 101; refine (iIsModulus_any m _).mono ?_; rintro e w1 ⟨rfl, k1, rfl⟩; rw [HM.out]) | (go_at_call 106; refine (isTypicalPrime_any p _).mono ?_; rintro e w2 ⟨rfl, k2, rfl⟩; rw [HT.out]) | (go_at_call 107; refine (modular_any m _ _ xs B (hv.keep (by (repeat (first | assumption | exact Below.refl _ _ | refine Below.alloc ?_ (by first | omega | (simp; done) | (simp; omega)) _ | refine Below.setCell ?_ (by first | omega | (simp; done) | (simp; omega)) _ | refine below_drewN ?_ _))) (Nat.le_refl _))).mono ?_; rintro e w3 ⟨rfl, hb3⟩; have hq : Below w.heap.size w w3 := Below.trans (by (repeat (first | assumption | exact Below.refl _ _ | refine Below.alloc ?_ (by first | omega | (simp; done) | (simp; omega)) _ | refine Below.setCell ?_ (by first | omega | (simp; done) | (simp; omega)) _ | refine below_drewN ?_ _))) (hb3.mono (by simp))))
          go_ret
          exact ⟨rfl, hq⟩
set_option maxHeartbeats 1000000 in
theorem l09Code_any (p m least : Int) (w : World) (v : Value) (xs : List Int) (B : Nat) (hv : OwnI w B v xs) (hl : xs.length ≤ 2000000) (h0 : 0 ≤ least ∧ least ≤ 1) : Calls Try.prog 70 #[.int .i64 p, .int .i64 m, v, .int .i64 least] w fun e w' => e = .returned (.int .i64 (typC p m xs least)) ∧ Below w.heap.size w w' := by
  obtain ⟨A, c, e0⟩ := hv.form
  subst e0
  cases hm : isModB m
  · have HM := Lib.hid hm
    have HF : typC p m xs least = 1 := by simp [typC, hm]
    rw [HF]
    clear HF
    clear hm
    go_enter Try.func70, Try.ntmps70
    go_wp2_with (first | (go_at_call 99; refine (sModulus_any m _).mono ?_; rintro e w1 ⟨rfl, k1, rfl⟩; rw [HM.out]) | (go_at_call 105; refine (l09Prime_any p _).mono ?_; rintro e w2 ⟨rfl, k2, rfl⟩; rw [HT.out]) | (go_at_call 100; refine (l01Numbers_any m _ _ xs B HM.out (hv.keep (by (repeat (first | assumption | exact Below.refl _ _ | refine Below.alloc ?_ (by first | omega | (simp; done) | (simp; omega)) _ | refine Below.setCell ?_ (by first | omega | (simp; done) | (simp; omega)) _ | refine below_drewN ?_ _))) (Nat.le_refl _))).mono ?_; rintro e w3 ⟨rfl, k3, rfl⟩; rw [HN.out]))
    go_ret
    exact ⟨rfl, by (repeat (first | assumption | exact Below.refl _ _ | refine Below.alloc ?_ (by first | omega | (simp; done) | (simp; omega)) _ | refine Below.setCell ?_ (by first | omega | (simp; done) | (simp; omega)) _ | refine below_drewN ?_ _))⟩
  · have HM := Lib.hid hm
    cases ht : typB p
    · have HT := Lib.hid ht
      have HF : typC p m xs least = 2 := by simp [typC, hm, ht]
      rw [HF]
      clear HF
      clear hm ht
      go_enter Try.func70, Try.ntmps70
      go_wp2_with (first | (go_at_call 99; refine (sModulus_any m _).mono ?_; rintro e w1 ⟨rfl, k1, rfl⟩; rw [HM.out]) | (go_at_call 105; refine (l09Prime_any p _).mono ?_; rintro e w2 ⟨rfl, k2, rfl⟩; rw [HT.out]) | (go_at_call 100; refine (l01Numbers_any m _ _ xs B HM.out (hv.keep (by (repeat (first | assumption | exact Below.refl _ _ | refine Below.alloc ?_ (by first | omega | (simp; done) | (simp; omega)) _ | refine Below.setCell ?_ (by first | omega | (simp; done) | (simp; omega)) _ | refine below_drewN ?_ _))) (Nat.le_refl _))).mono ?_; rintro e w3 ⟨rfl, k3, rfl⟩; rw [HN.out]))
      go_ret
      exact ⟨rfl, by (repeat (first | assumption | exact Below.refl _ _ | refine Below.alloc ?_ (by first | omega | (simp; done) | (simp; omega)) _ | refine Below.setCell ?_ (by first | omega | (simp; done) | (simp; omega)) _ | refine below_drewN ?_ _))⟩
    · have HT := Lib.hid ht
      cases hn : numsB m xs
      · have HN := Lib.hid hn
        have HF : typC p m xs least = 2 := by simp [typC, codeR, hm, ht, hn]
        rw [HF]
        clear HF hm ht hn
        go_enter Try.func70, Try.ntmps70
        go_wp2_with (first | (go_at_call 99; refine (sModulus_any m _).mono ?_; rintro e w1 ⟨rfl, k1, rfl⟩; rw [HM.out]) | (go_at_call 105; refine (l09Prime_any p _).mono ?_; rintro e w2 ⟨rfl, k2, rfl⟩; rw [HT.out]) | (go_at_call 100; refine (l01Numbers_any m _ _ xs B HM.out (hv.keep (by (repeat (first | assumption | exact Below.refl _ _ | refine Below.alloc ?_ (by first | omega | (simp; done) | (simp; omega)) _ | refine Below.setCell ?_ (by first | omega | (simp; done) | (simp; omega)) _ | refine below_drewN ?_ _))) (Nat.le_refl _))).mono ?_; rintro e w3 ⟨rfl, k3, rfl⟩; rw [HN.out]))
        go_ret
        exact ⟨rfl, by (repeat (first | assumption | exact Below.refl _ _ | refine Below.alloc ?_ (by first | omega | (simp; done) | (simp; omega)) _ | refine Below.setCell ?_ (by first | omega | (simp; done) | (simp; omega)) _ | refine below_drewN ?_ _))⟩
      · have HN := Lib.hid hn
        by_cases h1 : (xs.length : Int) < least
        · have hd1 : decide ((xs.length : Int) < least) = true := by simpa using h1
          have HF : typC p m xs least = 2 := by simp [typC, hm, ht, h1]
          rw [HF]
          clear HF
          clear hm ht h1
          clear hn
          go_enter Try.func70, Try.ntmps70
          go_wp2_with (first | (go_at_call 99; refine (sModulus_any m _).mono ?_; rintro e w1 ⟨rfl, k1, rfl⟩; rw [HM.out]) | (go_at_call 105; refine (l09Prime_any p _).mono ?_; rintro e w2 ⟨rfl, k2, rfl⟩; rw [HT.out]) | (go_at_call 100; refine (l01Numbers_any m _ _ xs B HM.out (hv.keep (by (repeat (first | assumption | exact Below.refl _ _ | refine Below.alloc ?_ (by first | omega | (simp; done) | (simp; omega)) _ | refine Below.setCell ?_ (by first | omega | (simp; done) | (simp; omega)) _ | refine below_drewN ?_ _))) (Nat.le_refl _))).mono ?_; rintro e w3 ⟨rfl, k3, rfl⟩; rw [HN.out]))
          go_ret
          exact ⟨rfl, by (repeat (first | assumption | exact Below.refl _ _ | refine Below.alloc ?_ (by first | omega | (simp; done) | (simp; omega)) _ | refine Below.setCell ?_ (by first | omega | (simp; done) | (simp; omega)) _ | refine below_drewN ?_ _))⟩
        · have hd1 : decide ((xs.length : Int) < least) = false := by simpa using h1
          by_cases h3 : 3 < xs.length
          · have hd3 : decide ((3 : Int) < (xs.length : Int)) = true := by simp; omega
            have HF : typC p m xs least = 2 := by simp [typC, hm, ht, h1, h3]
            rw [HF]
            clear HF
            clear hm ht h1 h3
            clear hn
            go_enter Try.func70, Try.ntmps70
            go_wp2_with (first | (go_at_call 99; refine (sModulus_any m _).mono ?_; rintro e w1 ⟨rfl, k1, rfl⟩; rw [HM.out]) | (go_at_call 105; refine (l09Prime_any p _).mono ?_; rintro e w2 ⟨rfl, k2, rfl⟩; rw [HT.out]) | (go_at_call 100; refine (l01Numbers_any m _ _ xs B HM.out (hv.keep (by (repeat (first | assumption | exact Below.refl _ _ | refine Below.alloc ?_ (by first | omega | (simp; done) | (simp; omega)) _ | refine Below.setCell ?_ (by first | omega | (simp; done) | (simp; omega)) _ | refine below_drewN ?_ _))) (Nat.le_refl _))).mono ?_; rintro e w3 ⟨rfl, k3, rfl⟩; rw [HN.out]))
            go_ret
            exact ⟨rfl, by (repeat (first | assumption | exact Below.refl _ _ | refine Below.alloc ?_ (by first | omega | (simp; done) | (simp; omega)) _ | refine Below.setCell ?_ (by first | omega | (simp; done) | (simp; omega)) _ | refine below_drewN ?_ _))⟩
          · have hd3 : decide ((3 : Int) < (xs.length : Int)) = false := by simp; omega
            have HF : typC p m xs least = 0 := by simp [typC, codeR, hm, ht, h1, h3, hn]
            rw [HF]
            clear HF
            clear hm ht h1 h3 hn
            go_enter Try.func70, Try.ntmps70
            go_wp2_with (first | (go_at_call 99; refine (sModulus_any m _).mono ?_; rintro e w1 ⟨rfl, k1, rfl⟩; rw [HM.out]) | (go_at_call 105; refine (l09Prime_any p _).mono ?_; rintro e w2 ⟨rfl, k2, rfl⟩; rw [HT.out]) | (go_at_call 100; refine (l01Numbers_any m _ _ xs B HM.out (hv.keep (by (repeat (first | assumption | exact Below.refl _ _ | refine Below.alloc ?_ (by first | omega | (simp; done) | (simp; omega)) _ | refine Below.setCell ?_ (by first | omega | (simp; done) | (simp; omega)) _ | refine below_drewN ?_ _))) (Nat.le_refl _))).mono ?_; rintro e w3 ⟨rfl, k3, rfl⟩; rw [HN.out]))
            go_ret
            exact ⟨rfl, by (repeat (first | assumption | exact Below.refl _ _ | refine Below.alloc ?_ (by first | omega | (simp; done) | (simp; omega)) _ | refine Below.setCell ?_ (by first | omega | (simp; done) | (simp; omega)) _ | refine below_drewN ?_ _))⟩

/-! ### Small products by bits.Mul64 (the walk of Mul64 follows the kit's worked proof) -/
theorem maskN64 (a : Nat) (ha : a < 18446744073709551616) : bits .and .u64 (a : Int) 4294967295 = ((a % 4294967296 : Nat) : Int) := by
  have h := bits_and_u64_nat a 4294967295 ha (by omega)
  have e : a &&& 4294967295 = a % 4294967296 := Nat.and_two_pow_sub_one_eq_mod a 32
  rw [e] at h
  exact h
theorem divN64 (a : Nat) : (a : Int) / 4294967296 = ((a / 4294967296 : Nat) : Int) := by omega
theorem mulN64 (a b : Nat) : (a : Int) * (b : Int) = ((a * b : Nat) : Int) := (Int.natCast_mul a b).symm
theorem addN64 (a b : Nat) : (a : Int) + (b : Int) = ((a + b : Nat) : Int) := (Int.natCast_add a b).symm
theorem wrapN64 (a : Nat) (ha : a < 18446744073709551616) : IntKind.u64.wrap (a : Int) = (a : Int) := by rw [IntKind.wrap_u64]; omega
theorem wrapM64 (a : Nat) : IntKind.u64.wrap (a : Int) = ((a % 18446744073709551616 : Nat) : Int) := by rw [IntKind.wrap_u64]; omega
set_option maxHeartbeats 1000000 in
theorem Mul64_any (x y : Nat) (hx : x < 18446744073709551616) (hy : y < 18446744073709551616) (w : World) : Calls Try.prog 131 #[.int .u64 x, .int .u64 y] w fun e w' => e = .returned (.tuple #[.int .u64 ((x * y / 18446744073709551616 : Nat) : Int), .int .u64 ((x * y % 18446744073709551616 : Nat) : Int)]) ∧ w' = w := by
  obtain ⟨bd, bt, bw, hhi⟩ := Lib.mul64_hi x y hx hy
  have ba := Lib.half_mul_le (a := x / 4294967296) (b := y / 4294967296) (by omega) (by omega)
  have bb := Lib.half_mul_le (a := x / 4294967296) (b := y % 4294967296) (by omega) (by omega)
  have bc := Lib.half_mul_le (a := x % 4294967296) (b := y / 4294967296) (by omega) (by omega)
  have ba' : x / 4294967296 * (y / 4294967296) < 18446744073709551616 := by omega
  have bb' : x / 4294967296 * (y % 4294967296) < 18446744073709551616 := by omega
  have bc' : x % 4294967296 * (y / 4294967296) < 18446744073709551616 := by omega
  have bh1 : x / 4294967296 * (y / 4294967296) + (x / 4294967296 * (y % 4294967296) + x % 4294967296 * (y % 4294967296) / 4294967296) / 4294967296 < 18446744073709551616 := by omega
  have bh : x / 4294967296 * (y / 4294967296) + (x / 4294967296 * (y % 4294967296) + x % 4294967296 * (y % 4294967296) / 4294967296) / 4294967296 + ((x / 4294967296 * (y % 4294967296) + x % 4294967296 * (y % 4294967296) / 4294967296) % 4294967296 + x % 4294967296 * (y / 4294967296)) / 4294967296 < 18446744073709551616 := by omega
  go_enter Try.func131, Try.ntmps131
  go_wp2
  simp only [maskN64 x hx, maskN64 y hy, divN64, mulN64, addN64, wrapN64 _ bd, wrapN64 _ bb', wrapN64 _ bt, maskN64 _ bt, wrapN64 _ bc', wrapN64 _ bw, wrapN64 _ ba', wrapN64 _ bh1, wrapN64 _ bh, wrapM64 (x * y)]
  rw [hhi]
  go_ret2
  exact ⟨rfl, rfl⟩
theorem Mul64_small (a b : Nat) (w : World) (ha : a < 1048576) (hb : b < 1048576) : Calls Try.prog 131 #[.int .u64 a, .int .u64 b] w fun e w' => e = .returned (.tuple #[.int .u64 0, .int .u64 ((a * b : Nat) : Int)]) ∧ w = w' := by
  have hab : a * b < 1099511627776 := by
    have := Nat.mul_le_mul (show a ≤ 1048576 by omega) (show b ≤ 1048575 by omega)
    omega
  have e1 : a * b / 18446744073709551616 = 0 := Nat.div_eq_of_lt (by omega)
  have e2 : a * b % 18446744073709551616 = a * b := Nat.mod_eq_of_lt (by omega)
  have h := Mul64_any a b (by omega) (by omega) w
  rw [e1, e2] at h
  exact h.mono fun e w' h => ⟨h.1, h.2.symm⟩
theorem Div64_small (a : Nat) (m : Int) (w : World) (ha : (a : Int) < m) : Calls Try.prog 132 #[.int .u64 0, .int .u64 a, .int .u64 m] w fun e w' => e = .returned (.tuple #[.int .u64 0, .int .u64 a]) ∧ ∃ k, w' = w.drewN k := by
  have h1 : (m == 0) = false := by simp; omega
  have h2 : decide (m ≤ 0) = false := by simp; omega
  have h3 : ¬ m = 0 := by omega
  have v1 : (a : Int).tdiv m = 0 := by rw [Int.tdiv_eq_ediv_of_nonneg (by omega)]; exact Int.ediv_eq_zero_of_lt (by omega) (by omega)
  have v2 : (a : Int).tmod m = a := by rw [Int.tmod_eq_emod_of_nonneg (by omega)]; exact Int.emod_eq_of_lt (by omega) (by omega)
  have v3 : (a : Int) / m = 0 := Int.ediv_eq_zero_of_lt (by omega) (by omega)
  have v4 : (a : Int) % m = a := Int.emod_eq_of_lt (by omega) (by omega)
  go_enter Try.func132, Try.ntmps132
  go_wp2
  go_quiet (fail)
  go_wp2
  go_ret2
  exact ⟨by simp [*], _, rfl⟩
set_option maxHeartbeats 1000000 in
theorem mul40 (a b : Nat) (M : Int) (w : World) (ha : a < 1048576) (hb : b < 1048576) (hM1 : 1099511627776 ≤ M) (hM2 : M ≤ 1099511627776) : Calls Try.prog 104 #[.int .i64 M, .int .i64 a, .int .i64 b] w fun e w' => e = .returned (.int .i64 ((a * b : Nat) : Int)) ∧ ∃ k, w' = w.drewN k := by
  have hab : a * b < 1099511627776 := by
    have := Nat.mul_le_mul (show a ≤ 1048576 by omega) (show b ≤ 1048575 by omega)
    omega
  have w1 : IntKind.u64.wrap (a : Int) = (a : Int) := by rw [IntKind.wrap_u64]; omega
  have w2 : IntKind.u64.wrap (b : Int) = (b : Int) := by rw [IntKind.wrap_u64]; omega
  have w3 : IntKind.i64.wrap ((a * b : Nat) : Int) = ((a * b : Nat) : Int) := IntWalk.i64_in _ (by omega)
  have w4 : IntKind.u64.wrap M = M := by rw [IntKind.wrap_u64]; omega
  have hd : decide (M ≤ 3000000000) = false := by simp; omega
  obtain ⟨p, hp⟩ : ∃ p, p = a * b := ⟨_, rfl⟩
  rw [← hp] at hab w3 ⊢
  have hpM : (p : Int) < M := by omega
  have hp2 : (a : Int) * (b : Int) = (p : Int) := by rw [hp]; exact mulN64 a b
  clear hp
  go_enter Try.func104, Try.ntmps104
  go_wp2_with (first | (go_at_call 131; refine (Mul64_small a b _ ha hb).mono ?_; rintro e w1 ⟨rfl, rfl⟩) | (go_at_call 132; refine (Div64_small p M _ hpM).mono ?_; rintro e w2 ⟨rfl, k2, rfl⟩))
  go_ret
  exact ⟨rfl, _, rfl⟩
set_option maxHeartbeats 1000000 in
theorem power40 (p i : Nat) (w : World) (hp : p ≤ 7) (hi : i ≤ 2) : Calls Try.prog 108 #[.int .i64 1099511627776, .int .i64 p, .int .i64 i] w fun e w' => e = .returned (.int .i64 ((p ^ i : Nat) : Int)) ∧ ∃ k, w' = w.drewN k := by
  have hpp : p * p ≤ 49 := by
    have := Nat.mul_le_mul hp hp
    omega
  have hpi : p ^ i ≤ 49 := by
    rcases (show i = 0 ∨ i = 1 ∨ i = 2 by omega) with h | h | h
    · subst h; simp
    · subst h; rw [Nat.pow_one]; omega
    · subst h; rw [Nat.pow_two]; exact hpp
  have H1 : Hid ((1 : Int) % 1099511627776 = 1) := by unfold Hid; decide
  obtain ⟨M, hM1, hM2, hM3⟩ : ∃ M : Int, 1099511627776 ≤ M ∧ M ≤ 1099511627776 ∧ M = 1099511627776 := ⟨1099511627776, by omega, by omega, rfl⟩
  rw [← hM3] at H1 ⊢
  clear hM3
  go_enter Try.func108, Try.ntmps108
  go_wp2
  go_loopw [1, 2, 7] (fun s1 s2 s3 wr => ∃ x o j : Nat, s1 = .int .i64 x ∧ s2 = .int .i64 j ∧ s3 = .int .i64 o ∧ x ≤ 3000 ∧ o ≤ 49 ∧ j ≤ 2 ∧ (2 ≤ j → x ≤ 7) ∧ (1 ≤ j → x ≤ 49) ∧ Hid (o * x ^ j = p ^ i) ∧ ∃ k, wr = w.drewN k) (fun _ s2 _ _ => (intOf s2).toNat)
  case atStart => exact ⟨p, 1, i, rfl, rfl, (by first | rfl | rw [H1.out]; rfl), by omega, by omega, hi, fun _ => hp, fun _ => by omega, by unfold Hid; rw [Nat.one_mul], 0, rfl⟩
  case round =>
    obtain ⟨x, o, j, rfl, rfl, rfl, hx, ho, hj, hx7, hx49, hpo, k, rfl⟩ := hrel
    rcases (show j = 0 ∨ j = 1 ∨ j = 2 by omega) with rfl | rfl | rfl
    · have HF : Hid (p ^ i = o) := by
        have := hpo.out
        rw [Nat.pow_zero, Nat.mul_one] at this
        exact this.symm
      clear hpo
      go_wp2
      go_ret
      exact ⟨by rw [HF.out]; rfl, _, rfl⟩
    · have hx1 : x ≤ 49 := hx49 (by omega)
      have hox : o * x ≤ 49 := by
        have := hpo.out
        rw [Nat.pow_one] at this
        omega
      have hxx : x * x ≤ 2401 := Nat.mul_le_mul hx1 hx1
      have HF : Hid (o * x = p ^ i) := by
        have := hpo.out
        rw [Nat.pow_one] at this
        exact this
      obtain ⟨y, hy⟩ : ∃ y, y = o * x := ⟨_, rfl⟩
      obtain ⟨z, hz⟩ : ∃ z, z = x * x := ⟨_, rfl⟩
      have c1 := fun W => mul40 o x M W (by omega) (by omega) hM1 hM2
      have c2 := fun W => mul40 x x M W (by omega) (by omega) hM1 hM2
      rw [← hy] at hox HF c1
      rw [← hz] at hxx c2
      clear hpo hy hz hx49 hx7
      go_wp2_with (first | (go_at_call 104; have := k1; refine (c2 _).mono ?_; rintro e w2 ⟨rfl, k2, rfl⟩) | (go_at_call 104; refine (c1 _).mono ?_; rintro e w1 ⟨rfl, k1, rfl⟩))
      go_roundw
      case rel => exact ⟨z, y, 0, rfl, rfl, rfl, by omega, by omega, by omega, fun h => by omega, fun h => by omega, by unfold Hid; rw [Nat.pow_zero, Nat.mul_one]; exact HF.out, _, rfl⟩
      case measure => simp [intOf]
    · have hx1 : x ≤ 7 := hx7 (by omega)
      have hxx : x * x ≤ 49 := Nat.mul_le_mul hx1 hx1
      have HF : Hid (o * (x * x) = p ^ i) := by
        have := hpo.out
        rw [Nat.pow_two] at this
        exact this
      obtain ⟨z, hz⟩ : ∃ z, z = x * x := ⟨_, rfl⟩
      have c2 := fun W => mul40 x x M W (by omega) (by omega) hM1 hM2
      rw [← hz] at hxx c2 HF
      clear hpo hz hx49 hx7
      go_wp2_with (go_at_call 104; refine (c2 _).mono ?_; rintro e w2 ⟨rfl, k2, rfl⟩)
      go_roundw
      case rel => exact ⟨z, o, 1, rfl, rfl, rfl, by omega, by omega, by omega, fun h => by omega, fun h => by omega, by unfold Hid; rw [Nat.pow_one]; exact HF.out, _, rfl⟩
      case measure => simp [intOf]

/-! ### Numerators -/
theorem l01Pow_big (m a : Int) (k : Nat) (w : World) (hm : 2 ≤ m) (hm' : m ≤ 3000000000) (ha : 0 ≤ a) (ha' : a ≤ 3000000000) (hk : k ≤ 1000000000000) : Calls Try.prog 95 #[.int .i64 m, .int .i64 a, .int .i64 k] w fun e w' => e = .returned (.int .i64 (powN m a k)) ∧ ∃ n, w' = w.drewN n := by
  have H1 : Hid ((1 : Int) % m = 1) := Int.emod_eq_of_lt (by omega) (by omega)
  have hb0 := Int.emod_nonneg a (show m ≠ 0 by omega)
  have hb1 := Int.emod_lt_of_pos a (show 0 < m by omega)
  have HP : Hid (powN m (a % m) k = powN m a k) := pow_mod a m k
  obtain ⟨b, hb⟩ : ∃ b, b = a % m := ⟨_, rfl⟩
  rw [← hb] at hb0 hb1 HP
  rw [← HP.out]
  have HA : Hid (a % m = b) := hb.symm
  clear hb HP
  go_enter Try.func95, Try.ntmps95
  go_wp2_with (go_at_call 124; refine (l01Mod_any _ _ _ (by omega) (by omega)).mono ?_; rintro e w1 ⟨rfl, k1, rfl⟩; rw [HA.out])
  go_loop [1, 2, 7] (fun s1 s2 s3 => ∃ (x o : Int) (j : Nat), s1 = .int .i64 x ∧ s2 = .int .i64 j ∧ s3 = .int .i64 o ∧ 0 ≤ x ∧ x < m ∧ 0 ≤ o ∧ o < m ∧ j ≤ 1000000000000 ∧ Hid (o * x ^ j % m = powN m b k)) (fun _ s2 _ => (intOf s2).toNat)
  case atStart => exact ⟨b, 1, k, rfl, rfl, (by first | rfl | rw [H1.out]), hb0, hb1, by omega, by omega, hk, by unfold Hid powN; rw [Int.one_mul]⟩
  case round =>
    obtain ⟨x, o, j, rfl, rfl, rfl, hx, hx', ho, ho', hj, hp⟩ := hrel
    have hx2 : 0 ≤ x * x % m := Int.emod_nonneg _ (by omega)
    have hx3 : x * x % m < m := Int.emod_lt_of_pos _ (by omega)
    have ho2 : 0 ≤ o * x % m := Int.emod_nonneg _ (by omega)
    have ho3 : o * x % m < m := Int.emod_lt_of_pos _ (by omega)
    have hp1 := prod_bd ho ho' hx hx' hm'
    have hp2 := prod_bd hx hx' hx hx' hm'
    by_cases h0 : j = 0
    · subst h0
      have HF : Hid (powN m b k = o) := by
        have := hp.out
        rw [Int.pow_zero, Int.mul_one, Int.emod_eq_of_lt ho ho'] at this
        exact this.symm
      go_wp2
      go_ret
      exact ⟨by rw [HF.out]; rfl, _, rfl⟩
    · have hj0 : 0 < j := by omega
      by_cases h1 : j % 2 = 1
      · obtain ⟨i, hi⟩ : ∃ i, j = 2 * i + 1 := ⟨j / 2, by omega⟩
        subst hi
        have HE := Lib.hid (pow_odd o x m i)
        have hb1 : (((2 * i + 1 : Nat) : Int) % 2 == 1) = true := by first | (simp; done) | (simp; omega)
        have hb2 : ((2 * i + 1 : Nat) : Int) / 2 = (i : Int) := by omega
        clear h0 h1
        go_wp2
        go_round
        case rel => exact ⟨x * x % m, o * x % m, i, rfl, by first | rfl | (rw [hb2]) | (simp; done) | (simp; omega), rfl, hx2, hx3, ho2, ho3, by omega, HE.out.trans hp.out⟩
        case measure => simp [intOf]; omega
      · obtain ⟨i, hi⟩ : ∃ i, j = 2 * i := ⟨j / 2, by omega⟩
        subst hi
        have HE := Lib.hid (pow_even o x m i)
        have hb1 : (((2 * i : Nat) : Int) % 2 == 1) = false := by first | (simp; done) | (simp; omega)
        have hb2 : ((2 * i : Nat) : Int) / 2 = (i : Int) := by omega
        clear h0 h1
        go_wp2
        go_round
        case rel => exact ⟨x * x % m, o, i, rfl, by first | rfl | (rw [hb2]) | (simp; done) | (simp; omega), rfl, hx2, hx3, ho, ho', by omega, HE.out.trans hp.out⟩
        case measure => simp [intOf]; omega

set_option maxRecDepth 8000 in
set_option maxHeartbeats 4000000 in
theorem l09Numerators_any (p : Nat) (m : Int) (w : World) (v : Value) (xs zs : List Int) (B : Nat) (hv : OwnI w B v xs) (hm : 2 ≤ m) (hm' : m ≤ 1000000) (hp : 2 ≤ p) (hp' : p ≤ 7) (hn : NumL m xs) (hl0 : 1 ≤ xs.length) (hl : xs.length ≤ 3) (hz : nmL m p xs = zs) :
    Calls Try.prog 71 #[.int .i64 p, .int .i64 m, v] w (NewI w zs) := by
  obtain ⟨A, cp, e0, hc1, hc2, hA⟩ := hv.open_
  subst e0
  unfold maxLen at hc2
  have HZ : Hid (nmTo m p xs xs.length = zs) := hz
  have HN := Lib.hid hn
  have HNI := Lib.hid (nmTo_num (show 0 < m by omega) p xs)
  obtain ⟨b, rfl, hb1, hb2, hcell0, hfr0⟩ := hA 0 (by omega)
  have hcl : Hid (∀ k, k < xs.length → w.cell? ⟨b, k, none⟩ = some (.int .i64 (co xs k))) := by
    intro k hk
    obtain ⟨b', e, _, _, h, _⟩ := hA k hk
    simp at e
    subst e
    exact h
  have h1m : (1 : Int) % m = 1 := Int.emod_eq_of_lt (by omega) (by omega)
  have H1 : Hid ([(1 : Int)] = nmTo m p xs 0) := by unfold Hid; show _ = [1 % m]; rw [h1m]
  have h1t : (1 : Int).tmod m = 1 := by rw [Int.tmod_eq_emod_of_nonneg (by omega)]; exact h1m
  clear hz hn hv hA hcell0 hfr0
  go_enter Try.func71, Try.ntmps71
  go_wp2
  go_loopw [7, 8] (fun r i wr => ∃ n g c' : Nat, n ≤ xs.length ∧ r = .slice (some ⟨g, 0, none⟩) (n + 1 : Nat) c' ∧ i = .int .i64 ((n : Int) + 1) ∧ w.heap.size ≤ g ∧ RowI wr g c' (nmTo m p xs n) ∧ Below w.heap.size w wr) (fun _ i _ => xs.length + 2 - (intOf i).toNat)
  case atStart => exact ⟨0, _, 1, by omega, rfl, rfl, by simp, by rw [← H1.out]; exact RowI.lit _ [1] #[.int .i64 1] rfl (by simp [maxLen]), by (repeat (first | assumption | exact Below.refl _ _ | refine Below.alloc ?_ (by first | omega | (simp; done) | (simp; omega)) _ | refine Below.setCell ?_ (by first | omega | (simp; done) | (simp; omega)) _ | refine below_drewN ?_ _))⟩
  case round =>
    obtain ⟨n, g, c', hn, rfl, rfl, hg, hrow, hb⟩ := hrel
    have hz := hb.size
    have hglt := hrow.lt
    have HLN : Hid ((nmTo m p xs n).length = n + 1) := length_nmTo _ _ _ _
    obtain ⟨K, hK⟩ : ∃ K : Int, K = (n : Int) + 1 := ⟨_, rfl⟩
    rw [← hK]
    have HK := Lib.hid hK
    have hKa : K ≤ (n : Int) + 1 := by omega
    have hKb : (n : Int) + 1 ≤ K := by omega
    clear hK
    by_cases hlt : n < xs.length
    · have hlt1 : K ≤ (xs.length : Int) := by omega
      have HNX : Hid (nmTo m p xs (n + 1) = nmTo m p xs n ++ [nmS m p xs (nmTo m p xs n) (n + 1) (n + 1)]) := rfl
      have HLL := HNI.out n
      generalize nmTo m p xs n = L at *
      go_wp2
      go_loopw [9, 10, 11] (fun s pw i w2 => ∃ q : Nat, q ≤ n + 1 ∧ s = .int .i64 (nmS m p xs L (n + 1) q) ∧ pw = .int .i64 ((p ^ q : Nat) : Int) ∧ i = .int .i64 (q : Int) ∧ ∃ kk, w2 = wr.drewN kk) (fun _ _ i _ => n + 2 - (intOf i).toNat)
      case atStart => exact ⟨0, Nat.zero_le _, rfl, rfl, rfl, 0, rfl⟩
      case round =>
        obtain ⟨q, hq, rfl, rfl, rfl, kk, rfl⟩ := hrel
        by_cases hlt2 : q < n + 1
        · have hq1 : (q : Int) < K := by omega
          have hq0 : (0 : Int) ≤ (q : Int) := by omega
          have hq2 : (q : Int) < ((n + 1 : Nat) : Int) := by omega
          obtain ⟨z, hzq⟩ : ∃ z, z + q = n := ⟨n - q, by omega⟩
          have hx0 : wr.cell? ⟨b, z, none⟩ = some (.int .i64 (co xs z)) := (hb.cell (p := ⟨b, z, none⟩) hb2).trans (hcl.out z (by omega))
          have hy0 : wr.cell? ⟨g, q, none⟩ = some (.int .i64 (co L q)) := hrow.cell (k := q) (by rw [HLN.out]; omega)
          obtain ⟨W, hW, hWc⟩ : ∃ W, W = wr.drewN kk ∧ ∀ a, W.cell? a = wr.cell? a := ⟨_, rfl, fun _ => rfl⟩
          rw [← hW]
          have HW := Lib.hid hW
          have hx1 := (hWc _).trans hx0
          have hy1 := (hWc _).trans hy0
          clear hW hWc hx0 hy0
          have hst : (nmS m p xs L (n + 1) q + powN m (p : Int) z * co L q % m * powN m (co xs z) (p ^ q)) % m = nmS m p xs L (n + 1) (q + 1) := by
            simp only [nmS]
            rw [show n + 1 - 1 - q = z by omega, show n + 1 - q - 1 = z by omega]
          have HST := Lib.hid hst
          have hnx : 0 ≤ co xs z ∧ co xs z < m := HN.out z
          have hny : 0 ≤ co L q ∧ co L q < m := HLL q
          have hnr := nmS_bd (show 0 < m by omega) p xs L (n + 1) q
          have hpb : 1 ≤ p ^ q ∧ p ^ q ≤ 343 := by
            rcases (show q = 0 ∨ q = 1 ∨ q = 2 by omega) with h | h | h
            · subst h; simp
            · subst h; rw [Nat.pow_one]; omega
            · subst h
              rw [Nat.pow_two]
              have := Nat.mul_le_mul hp' hp'
              have := Nat.mul_le_mul hp hp
              omega
          have HPS : Hid (((p ^ q : Nat) : Int) * (p : Int) = ((p ^ (q + 1) : Nat) : Int)) := by unfold Hid; rw [Nat.pow_succ, Int.natCast_mul]
          have hA0 : 0 ≤ powN m (p : Int) z ∧ powN m (p : Int) z < m := ⟨Int.emod_nonneg _ (by omega), Int.emod_lt_of_pos _ (by omega)⟩
          have hB0 : 0 ≤ powN m (co xs z) (p ^ q) ∧ powN m (co xs z) (p ^ q) < m := ⟨Int.emod_nonneg _ (by omega), Int.emod_lt_of_pos _ (by omega)⟩
          have cA := fun W => l01Pow_big m (p : Int) z W hm (by omega) (by omega) (by omega) (by omega)
          have cB := fun W => l01Pow_big m (co xs z) (p ^ q) W hm (by omega) (by omega) (by omega) (by omega)
          obtain ⟨P, hP⟩ : ∃ P, P = p ^ q := ⟨_, rfl⟩
          rw [← hP] at hst hpb HPS hB0 cB HST ⊢
          obtain ⟨P2, hP2⟩ : ∃ P2, P2 = p ^ (q + 1) := ⟨_, rfl⟩
          rw [← hP2] at HPS
          have HP2 := Lib.hid hP2
          generalize powN m (p : Int) z = a at *
          generalize powN m (co xs z) P = c at *
          generalize co xs z = x at *
          generalize co L q = y at *
          obtain ⟨r, hr⟩ : ∃ r, r = nmS m p xs L (n + 1) q := ⟨_, rfl⟩
          rw [← hr] at hnr HST ⊢
          clear hr hst hP hP2
          have hab := mul_bd' hA0.1 (show a ≤ 1000000 by omega) hny.1 (show y ≤ 1000000 by omega)
          have hd0 := Int.emod_nonneg (a * y) (show m ≠ 0 by omega)
          have hd1 := Int.emod_lt_of_pos (a * y) (show 0 < m by omega)
          have e1 : IntKind.i64.wrap (K - 1) = K - 1 := IntWalk.i64_in _ (by omega)
          have e2 : K - 1 - (q : Int) = (z : Int) := by omega
          have e3 : IntKind.i64.wrap (z : Int) = (z : Int) := IntWalk.i64_in _ (by omega)
          have e4 : IntKind.i64.wrap (K - (q : Int)) = K - (q : Int) := IntWalk.i64_in _ (by omega)
          have e5 : K - (q : Int) - 1 = (z : Int) := by omega
          have e6 : IntKind.i64.wrap (a * y) = a * y := IntWalk.i64_in _ (by omega)
          have e7 : (a * y).tmod m = a * y % m := Int.tmod_eq_emod_of_nonneg (by omega)
          obtain ⟨d, hd⟩ : ∃ d, d = a * y % m := ⟨_, rfl⟩
          rw [← hd] at hd0 hd1 e7 HST
          clear hd
          have hdc := mul_bd' hd0 (show d ≤ 1000000 by omega) hB0.1 (show c ≤ 1000000 by omega)
          have hpp := mul_bd' (show (0 : Int) ≤ (P : Int) by omega) (show (P : Int) ≤ 343 by omega) (show (0 : Int) ≤ (p : Int) by omega) (show (p : Int) ≤ 7 by omega)
          have hz1 : (z : Int) < (xs.length : Int) := by omega
          have hz0 : (0 : Int) ≤ (z : Int) := by omega
          have hm0 : ¬ m = 0 := by omega
          have hm1 : (m == 0) = false := by simpa using hm0
          go_wp2
          go_quiet ((go_at_call 95; exact Calls.quiet_of (cA _)))
          clear cA
          go_wp2_with (go_at_call 95; refine (cB _).mono ?_; rintro e w3 ⟨rfl, k3, rfl⟩)
          go_roundw
          case rel => exact ⟨q + 1, by omega, by rw [← HST.out], by rw [← HP2.out, ← HPS.out], by go_num, _, by rw [HW.out]; exact pull_drewN _ _ _⟩
          case measure => simp [intOf]; omega
        · have hqn : Hid (q = n + 1) := by unfold Hid; omega
          have hd3 : decide ((q : Int) < K) = false := by simp; omega
          have HNX' : Hid (nmTo m p xs (n + 1) = L ++ [nmS m p xs L (n + 1) q]) := by unfold Hid; rw [HNX.out, hqn.out]
          clear HNX
          generalize nmS m p xs L (n + 1) q = r at *
          go_wp2_with (at_builtin; refine wpAppend1 _ _ w.heap.size (.slice (some ⟨g, 0, none⟩) (n + 1 : Nat) c') L (n + 1) r wr.heap.size (wr.heap.size + 1) (by rfl) (by rfl) (by rfl) (by rfl) (((hrow.drewN kk).alloc _).own' hg HLN.out) HLN.out (RowI.block1 _) (by omega) (by simp; omega) (by simp) ?_; intro gg cap w1 hown1 hge hgrow hat)
          go_roundw
          case rel =>
            refine ⟨n + 1, gg, cap, by omega, rfl, by rw [HK.out]; go_num, hge, by rw [HNX'.out]; exact hown1, ?_⟩
            refine Below.grown ((below_drewN hb kk).alloc hz _) hgrow (by simp; omega) fun b hb => ?_
            simp [Value.ownBlock] at hb
            omega
          case measure => simp [intOf]; omega
    · have hln : Hid (n = xs.length) := by unfold Hid; omega
      have hd4 : decide (K ≤ (xs.length : Int)) = false := by simp; omega
      have hR : RowI wr g c' zs := by rw [← HZ.out, ← hln.out]; exact hrow
      have hly : Hid (zs.length = n + 1) := by unfold Hid; rw [← HZ.out, ← hln.out, length_nmTo]
      go_wp2
      go_ret
      exact ⟨_, _, by rw [hly.out]; rfl, hR.own hg, hb⟩
set_option maxRecDepth 8000 in
set_option maxHeartbeats 4000000 in
theorem numerators_any (p : Nat) (m : Int) (w : World) (v : Value) (xs zs : List Int) (B : Nat) (hv : OwnI w B v xs) (hm : 2 ≤ m) (hm' : m ≤ 10000) (hp : 2 ≤ p) (hp' : p ≤ 7) (hn : NumL m xs) (hl0 : 1 ≤ xs.length) (hl : xs.length ≤ 3) (hz : nmL m p xs = zs) :
    Calls Try.prog 73 #[.int .i64 p, .int .i64 m, v] w (NewI w zs) := by
  obtain ⟨A, cp, e0, hc1, hc2, hA⟩ := hv.open_
  subst e0
  unfold maxLen at hc2
  have HZ : Hid (nmTo m p xs xs.length = zs) := hz
  have HN := Lib.hid hn
  have HNI := Lib.hid (nmTo_num (show 0 < m by omega) p xs)
  obtain ⟨b, rfl, hb1, hb2, hcell0, hfr0⟩ := hA 0 (by omega)
  have hcl : Hid (∀ k, k < xs.length → w.cell? ⟨b, k, none⟩ = some (.int .i64 (co xs k))) := by
    intro k hk
    obtain ⟨b', e, _, _, h, _⟩ := hA k hk
    simp at e
    subst e
    exact h
  have h1m : (1 : Int) % m = 1 := Int.emod_eq_of_lt (by omega) (by omega)
  have H1 : Hid ([(1 : Int)] = nmTo m p xs 0) := by unfold Hid; show _ = [1 % m]; rw [h1m]
  have h1t : (1 : Int).tmod m = 1 := by rw [Int.tmod_eq_emod_of_nonneg (by omega)]; exact h1m
  clear hz hn hv hA hcell0 hfr0
  go_enter Try.func73, Try.ntmps73
  go_wp2
  go_loopw [7, 8] (fun r i wr => ∃ n g c' : Nat, n ≤ xs.length ∧ r = .slice (some ⟨g, 0, none⟩) (n + 1 : Nat) c' ∧ i = .int .i64 ((n : Int) + 1) ∧ w.heap.size ≤ g ∧ RowI wr g c' (nmTo m p xs n) ∧ Below w.heap.size w wr) (fun _ i _ => xs.length + 2 - (intOf i).toNat)
  case atStart => exact ⟨0, _, 1, by omega, rfl, rfl, by simp, by rw [← H1.out]; exact RowI.lit _ [1] #[.int .i64 1] rfl (by simp [maxLen]), by (repeat (first | assumption | exact Below.refl _ _ | refine Below.alloc ?_ (by first | omega | (simp; done) | (simp; omega)) _ | refine Below.setCell ?_ (by first | omega | (simp; done) | (simp; omega)) _ | refine below_drewN ?_ _))⟩
  case round =>
    obtain ⟨n, g, c', hn, rfl, rfl, hg, hrow, hb⟩ := hrel
    have hz := hb.size
    have hglt := hrow.lt
    have HLN : Hid ((nmTo m p xs n).length = n + 1) := length_nmTo _ _ _ _
    obtain ⟨K, hK⟩ : ∃ K : Int, K = (n : Int) + 1 := ⟨_, rfl⟩
    rw [← hK]
    have HK := Lib.hid hK
    have hKa : K ≤ (n : Int) + 1 := by omega
    have hKb : (n : Int) + 1 ≤ K := by omega
    clear hK
    by_cases hlt : n < xs.length
    · have hlt1 : K ≤ (xs.length : Int) := by omega
      have HNX : Hid (nmTo m p xs (n + 1) = nmTo m p xs n ++ [nmS m p xs (nmTo m p xs n) (n + 1) (n + 1)]) := rfl
      have HLL := HNI.out n
      generalize nmTo m p xs n = L at *
      go_wp2
      go_loopw [9, 22] (fun s i w2 => ∃ q : Nat, q ≤ n + 1 ∧ s = .int .i64 (nmS m p xs L (n + 1) q) ∧ i = .int .i64 (q : Int) ∧ ∃ kk, w2 = wr.drewN kk) (fun _ i _ => n + 2 - (intOf i).toNat)
      case atStart => exact ⟨0, Nat.zero_le _, rfl, rfl, 0, rfl⟩
      case round =>
        obtain ⟨q, hq, rfl, rfl, kk, rfl⟩ := hrel
        by_cases hlt2 : q < n + 1
        · have hq1 : (q : Int) < K := by omega
          have hq0 : (0 : Int) ≤ (q : Int) := by omega
          have hq2 : (q : Int) < ((n + 1 : Nat) : Int) := by omega
          obtain ⟨z, hzq⟩ : ∃ z, z + q = n := ⟨n - q, by omega⟩
          have hx0 : wr.cell? ⟨b, z, none⟩ = some (.int .i64 (co xs z)) := (hb.cell (p := ⟨b, z, none⟩) hb2).trans (hcl.out z (by omega))
          have hy0 : wr.cell? ⟨g, q, none⟩ = some (.int .i64 (co L q)) := hrow.cell (k := q) (by rw [HLN.out]; omega)
          obtain ⟨W, hW, hWc⟩ : ∃ W, W = wr.drewN kk ∧ ∀ a, W.cell? a = wr.cell? a := ⟨_, rfl, fun _ => rfl⟩
          rw [← hW]
          have HW := Lib.hid hW
          have hx1 := (hWc _).trans hx0
          have hy1 := (hWc _).trans hy0
          clear hW hWc hx0 hy0
          have hst := nm_step m p xs L (n + 1) q
          rw [show n + 1 - 1 - q = z by omega, show n + 1 - q - 1 = z by omega] at hst
          have HST := Lib.hid hst
          have hnx : 0 ≤ co xs z ∧ co xs z < m := HN.out z
          have hny : 0 ≤ co L q ∧ co L q < m := HLL q
          have hnr := nmS_bd (show 0 < m by omega) p xs L (n + 1) q
          have hpb : 1 ≤ p ^ q ∧ p ^ q ≤ 343 := by
            rcases (show q = 0 ∨ q = 1 ∨ q = 2 by omega) with h | h | h
            · subst h; simp
            · subst h; rw [Nat.pow_one]; omega
            · subst h
              rw [Nat.pow_two]
              have := Nat.mul_le_mul hp' hp'
              have := Nat.mul_le_mul hp hp
              omega
          have hpm0 := Int.emod_nonneg (p : Int) (show m ≠ 0 by omega)
          have hpm1 := Int.emod_lt_of_pos (p : Int) (show 0 < m by omega)
          have hA0 : 0 ≤ powN m ((p : Int) % m) z ∧ powN m ((p : Int) % m) z < m := ⟨Int.emod_nonneg _ (by omega), Int.emod_lt_of_pos _ (by omega)⟩
          have hB0 : 0 ≤ powN m (co xs z) (p ^ q) ∧ powN m (co xs z) (p ^ q) < m := ⟨Int.emod_nonneg _ (by omega), Int.emod_lt_of_pos _ (by omega)⟩
          have cA := fun W => power_any m ((p : Int) % m) z W hm (by omega) (by omega) (by omega) (by omega)
          have cB := fun W => power_any m (co xs z) (p ^ q) W hm (by omega) (by omega) (by omega) (by omega)
          have cC := fun W => power40 p q W hp' (by omega)
          obtain ⟨P, hP⟩ : ∃ P, P = p ^ q := ⟨_, rfl⟩
          rw [← hP] at hst hpb hB0 cB cC HST
          have ep : (p : Int).tmod m = (p : Int) % m := Int.tmod_eq_emod_of_nonneg (by omega)
          obtain ⟨u, hu⟩ : ∃ u, u = (p : Int) % m := ⟨_, rfl⟩
          rw [← hu] at hA0 cA HST ep hpm0 hpm1
          generalize powN m u z = a at *
          generalize powN m (co xs z) P = c at *
          generalize co xs z = x at *
          generalize co L q = y at *
          obtain ⟨r, hr⟩ : ∃ r, r = nmS m p xs L (n + 1) q := ⟨_, rfl⟩
          rw [← hr] at hnr HST ⊢
          clear hr hst hP hu
          have ex : x.tmod m = x := by rw [Int.tmod_eq_emod_of_nonneg (by omega)]; exact Int.emod_eq_of_lt (by omega) (by omega)
          have hd0 := Int.emod_nonneg (y * c) (show m ≠ 0 by omega)
          have hd1 := Int.emod_lt_of_pos (y * c) (show 0 < m by omega)
          have cD := fun W => mul_any m y c W (by omega) (by omega) (by omega) (by omega) (by omega) (by omega)
          obtain ⟨d, hd⟩ : ∃ d, d = y * c % m := ⟨_, rfl⟩
          rw [← hd] at hd0 hd1 cD HST
          clear hd
          have cE := fun W => mul_any m a d W (by omega) (by omega) (by omega) (by omega) (by omega) (by omega)
          have hf0 := Int.emod_nonneg (a * d) (show m ≠ 0 by omega)
          have hf1 := Int.emod_lt_of_pos (a * d) (show 0 < m by omega)
          obtain ⟨f, hf⟩ : ∃ f, f = a * d % m := ⟨_, rfl⟩
          rw [← hf] at hf0 hf1 cE HST
          clear hf
          have e1 : IntKind.i64.wrap (K - 1) = K - 1 := IntWalk.i64_in _ (by omega)
          have e2 : K - 1 - (q : Int) = (z : Int) := by omega
          have e3 : IntKind.i64.wrap (z : Int) = (z : Int) := IntWalk.i64_in _ (by omega)
          have e4 : IntKind.i64.wrap (K - (q : Int)) = K - (q : Int) := IntWalk.i64_in _ (by omega)
          have e5 : K - (q : Int) - 1 = (z : Int) := by omega
          have hz1 : (z : Int) < (xs.length : Int) := by omega
          have hz0 : (0 : Int) ≤ (z : Int) := by omega
          have hm0 : ¬ m = 0 := by omega
          have hm1 : (m == 0) = false := by simpa using hm0
          have qA := fun W : World => (cA W).mono fun e w' h => (⟨h.1, 0, h.2.symm⟩ : e = _ ∧ ∃ k, w' = W.drewN k)
          have qB := fun W : World => (cB W).mono fun e w' h => (⟨h.1, 0, h.2.symm⟩ : e = _ ∧ ∃ k, w' = W.drewN k)
          have qD := fun W : World => (cD W).mono fun e w' h => (⟨h.1, 0, h.2.symm⟩ : e = _ ∧ ∃ k, w' = W.drewN k)
          clear cB cD
          go_wp2
          go_quiet ((first | (go_at_call_of 108 (Value.int IntKind.i64 m); exact Calls.quiet_of (qB _)) | (go_at_call 108; exact Calls.quiet_of (cC _)) | (go_at_call 104; exact Calls.quiet_of (qD _))))
          clear qB qD cC
          go_wp2_with (first | (go_at_call 108; refine (cA _).mono ?_; rintro e w3 ⟨rfl, rfl⟩) | (go_at_call 104; refine (cE _).mono ?_; rintro e w4 ⟨rfl, rfl⟩))
          go_roundw
          case rel => exact ⟨q + 1, by omega, by rw [← HST.out], by go_num, _, by rw [HW.out]; exact pull_drewN _ _ _⟩
          case measure => simp [intOf]; omega
        · have hqn : Hid (q = n + 1) := by unfold Hid; omega
          have hd3 : decide ((q : Int) < K) = false := by simp; omega
          have HNX' : Hid (nmTo m p xs (n + 1) = L ++ [nmS m p xs L (n + 1) q]) := by unfold Hid; rw [HNX.out, hqn.out]
          clear HNX
          generalize nmS m p xs L (n + 1) q = r at *
          go_wp2_with (at_builtin; refine wpAppend1 _ _ w.heap.size (.slice (some ⟨g, 0, none⟩) (n + 1 : Nat) c') L (n + 1) r wr.heap.size (wr.heap.size + 1) (by rfl) (by rfl) (by rfl) (by rfl) (((hrow.drewN kk).alloc _).own' hg HLN.out) HLN.out (RowI.block1 _) (by omega) (by simp; omega) (by simp) ?_; intro gg cap w1 hown1 hge hgrow hat)
          go_roundw
          case rel =>
            refine ⟨n + 1, gg, cap, by omega, rfl, by rw [HK.out]; go_num, hge, by rw [HNX'.out]; exact hown1, ?_⟩
            refine Below.grown ((below_drewN hb kk).alloc hz _) hgrow (by simp; omega) fun b hb => ?_
            simp [Value.ownBlock] at hb
            omega
          case measure => simp [intOf]; omega
    · have hln : Hid (n = xs.length) := by unfold Hid; omega
      have hd4 : decide (K ≤ (xs.length : Int)) = false := by simp; omega
      have hR : RowI wr g c' zs := by rw [← HZ.out, ← hln.out]; exact hrow
      have hly : Hid (zs.length = n + 1) := by unfold Hid; rw [← HZ.out, ← hln.out, length_nmTo]
      go_wp2
      go_ret
      exact ⟨_, _, by rw [hly.out]; rfl, hR.own hg, hb⟩

end Go.Proofs.Ytfdklbimdkaaiaa
