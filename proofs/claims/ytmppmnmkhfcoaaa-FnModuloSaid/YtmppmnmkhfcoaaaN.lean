/- Contracts over this seat's translation. Condition: each contract's own. -/
import Derived.Test.YtmppmnmkhfcoaaaB
import Derived.ProofKit
import Derived.Laws.Bits64b
import Derived.Lib.Mul64
import Derived.OpenShut
import Derived.Below
import Derived.ChangeSame
import Derived.Deep.Modes
import Derived.Lib.SmallJoins
import Derived.ChangeSlices
import Derived.WalkKit
import Derived.WalkSpells
import Derived.WalkLawsBesides
import Derived.Deep.QuietTactic
import Derived.BigQuiet
import Derived.Deep.RegionHeld3
import Derived.Deep.RegionWith
import Derived.Deep.RegionLaw
import Derived.Deep.AppendLies
import Derived.Laws.CopyOwn
import Derived.Deep.DeepCutAuto
import Derived.Deep.OwnRows
import Derived.Deep.LoopGhost
import Derived.Deep.DeepFit
import Derived.Deep.DeepMust
import Derived.Deep.Draws
import Derived.Deep.CutRange
import Derived.Maps.AppendAt
import Derived.Lib.Hide
import Derived.StillTailTactics
import Derived.Laws.MakeOwn
import Derived.Deep.Matrix
set_option linter.unusedVariables false
open Go Go.RowKit
namespace Go.Proofs.Ytmppmnmkhfcoaaa
/-! ### Exponents of prime numbers -/
def ValIs (p n : Int) (k : Nat) : Prop := ∃ y : Int, n = y * p ^ k ∧ y.tmod p ≠ 0
noncomputable def valOf (p n : Int) : Int := ((Classical.epsilon fun k : Nat => ValIs p n k : Nat) : Int)
theorem tmod_zero_iff (a p : Int) : a.tmod p = 0 ↔ p ∣ a := ⟨Int.dvd_of_tmod_eq_zero, Int.tmod_eq_zero_of_dvd⟩
theorem valIs_le {p n : Int} {j k : Nat} (hp : p ≠ 0) (hj : ValIs p n j) (hk : ValIs p n k) : k ≤ j := by
  rcases Nat.lt_or_ge j k with h | h
  · obtain ⟨y, h1, h2⟩ := hj
    obtain ⟨z, h3, h4⟩ := hk
    exfalso
    apply h2
    rw [tmod_zero_iff]
    have h5 : y * p ^ j = (z * p ^ (k - j - 1) * p) * p ^ j := by
      rw [← h1, h3, Int.mul_assoc, Int.mul_assoc, ← Int.pow_succ', ← Int.pow_add]
      congr 2
      omega
    have h6 : y = z * p ^ (k - j - 1) * p := Int.eq_of_mul_eq_mul_right (Int.pow_ne_zero hp) h5
    exact ⟨_, h6.trans (Int.mul_comm _ _)⟩
  · exact h
theorem valOf_eq {p n : Int} {k : Nat} (hp : p ≠ 0) (h : ValIs p n k) : valOf p n = k := by
  have h1 : ValIs p n (Classical.epsilon fun k : Nat => ValIs p n k) := Classical.epsilon_spec (p := fun k : Nat => ValIs p n k) ⟨k, h⟩
  unfold valOf
  have := valIs_le hp h1 h
  have := valIs_le hp h h1
  omega
theorem val_step {p n x : Int} {k : Nat} (h : n = x * p ^ k) (h0 : x.tmod p = 0) : n = x.tdiv p * p ^ (k + 1) := by
  rw [Int.pow_succ', ← Int.mul_assoc, Int.tdiv_mul_cancel ((tmod_zero_iff _ _).1 h0)]
  exact h
theorem tdiv_small {p x : Int} (hp : 2 ≤ p) (hx : x ≠ 0) (h0 : x.tmod p = 0) : x.tdiv p ≠ 0 ∧ (x.tdiv p).natAbs < x.natAbs := by
  have h1 := Int.tdiv_mul_cancel ((tmod_zero_iff _ _).1 h0)
  have h2 : x.tdiv p ≠ 0 := by
    intro h
    rw [h] at h1
    omega
  refine ⟨h2, ?_⟩
  have h3 : x.natAbs = (x.tdiv p).natAbs * p.natAbs := by rw [← Int.natAbs_mul, h1]
  have h4 : (x.tdiv p).natAbs * 2 ≤ (x.tdiv p).natAbs * p.natAbs := Nat.mul_le_mul_left _ (by omega)
  omega
theorem valuation_any (p n : Int) (w : World) (h1 : 2 ≤ p) (h2 : p ≤ 1000) (hn : n ≠ 0) (h3 : -1000000000000 ≤ n) (h4 : n ≤ 1000000000000) :
    Calls Try.prog 98 #[.int .i64 p, .int .i64 n] w fun e w' => e = .returned (.int .i64 (valOf p n)) ∧ ∃ k, w' = w.drewN k := by
  go_enter Try.func98, Try.ntmps98
  go_wp2
  go_loop [1, 5] (fun s t => ∃ (x : Int) (k : Nat), s = .int .i64 x ∧ t = .int .i64 k ∧ Hid (n = x * p ^ k) ∧ Hid (x ≠ 0) ∧ -1000000000000 ≤ x ∧ x ≤ 1000000000000 ∧ k + x.natAbs ≤ 1000000000000) (fun s _ => (intOf s).natAbs)
  case atStart => exact ⟨n, 0, rfl, rfl, by unfold Hid; simp, hn, h3, h4, by omega⟩
  case round =>
    obtain ⟨x, k, rfl, rfl, hx, hx0, h5, h6, h7⟩ := hrel
    by_cases h0 : x.tmod p = 0
    · obtain ⟨h8, h9⟩ := tdiv_small h1 hx0.out h0
      have HX := Lib.hid (val_step hx.out h0)
      have HY := Lib.hid h8
      have h10 : (x.tmod p == 0) = true := by simpa using h0
      have h11 : -1000000000000 ≤ x.tdiv p ∧ x.tdiv p ≤ 1000000000000 := by omega
      clear h0 h8
      go_wp2
      go_round
      case rel => exact ⟨x.tdiv p, k + 1, rfl, by go_num, HX.out, HY.out, h11.1, h11.2, by omega⟩
      case measure => simpa [intOf] using h9
    · have HF := Lib.hid (valOf_eq (p := p) (n := n) (by omega) ⟨x, hx.out, h0⟩)
      have h10 : (x.tmod p == 0) = false := by simpa using h0
      clear h0
      go_wp2
      go_ret
      exact ⟨by rw [HF.out]; rfl, 0, rfl⟩
theorem l01Valuation_any (p n : Int) (w : World) (h1 : 2 ≤ p) (h2 : p ≤ 1000) (hn : n ≠ 0) (h3 : -1000000000000 ≤ n) (h4 : n ≤ 1000000000000) :
    Calls Try.prog 106 #[.int .i64 p, .int .i64 n] w fun e w' => e = .returned (.int .i64 (valOf p n)) ∧ ∃ k, w' = w.drewN k := by
  go_enter Try.func106, Try.ntmps106
  go_wp2
  go_loop [1, 5] (fun s t => ∃ (x : Int) (k : Nat), s = .int .i64 x ∧ t = .int .i64 k ∧ Hid (n = x * p ^ k) ∧ Hid (x ≠ 0) ∧ -1000000000000 ≤ x ∧ x ≤ 1000000000000 ∧ k + x.natAbs ≤ 1000000000000) (fun s _ => (intOf s).natAbs)
  case atStart => exact ⟨n, 0, rfl, rfl, by unfold Hid; simp, hn, h3, h4, by omega⟩
  case round =>
    obtain ⟨x, k, rfl, rfl, hx, hx0, h5, h6, h7⟩ := hrel
    by_cases h0 : x.tmod p = 0
    · obtain ⟨h8, h9⟩ := tdiv_small h1 hx0.out h0
      have HX := Lib.hid (val_step hx.out h0)
      have HY := Lib.hid h8
      have h10 : (x.tmod p == 0) = true := by simpa using h0
      have h11 : -1000000000000 ≤ x.tdiv p ∧ x.tdiv p ≤ 1000000000000 := by omega
      clear h0 h8
      go_wp2
      go_round
      case rel => exact ⟨x.tdiv p, k + 1, rfl, by go_num, HX.out, HY.out, h11.1, h11.2, by omega⟩
      case measure => simpa [intOf] using h9
    · have HF := Lib.hid (valOf_eq (p := p) (n := n) (by omega) ⟨x, hx.out, h0⟩)
      have h10 : (x.tmod p == 0) = false := by simpa using h0
      clear h0
      go_wp2
      go_ret
      exact ⟨by rw [HF.out]; rfl, 0, rfl⟩

/-! ### The exported functions on numbers: what they return -/
def remR (m n : Int) : Int × Int := if isModB m = false then (0, 1) else if isIntB n = false then (0, 2) else (n % m, 0)
noncomputable def primeR (n : Int) : Bool × Int := if isIntB n = false then (false, 2) else (primeB n, 0)
def gcdR (a b : Int) : Int × Int := if isIntB a = false ∨ isIntB b = false then (0, 2) else ((Int.gcd a b : Int), 0)
noncomputable def valR (p n : Int) : Int × Int :=
  if 1000 < p ∨ primeB p = false ∨ isIntB n = false then (0, 2) else if n = 0 then (0, 5) else (valOf p n, 0)
def codeN (m : Int) (xs : List Int) (r : Int) : Int × Int := if codeR m xs = 0 then (r, 0) else (0, codeR m xs)
def unitsN (m : Int) (k : Nat) : Int := ((List.range k).filter fun a : Nat => unitB m (a : Int)).length
def unitsR (m : Int) : Int × Int := if isModB m = false then (0, 1) else (unitsN m m.toNat, 0)
def solveAt (m a b : Int) (x : Nat) : Bool := a * (x : Int) % m == b
def solveR (m a b : Int) : Int × Int :=
  if codeR m [a, b] = 0 then (match (List.range m.toNat).find? (solveAt m a b) with | some x => ((x : Int), 0) | none => (0, 4)) else (0, codeR m [a, b])
theorem codeR_zero2 {m a b : Int} (h : codeR m [a, b] = 0) : (2 ≤ m ∧ m ≤ 10000) ∧ (0 ≤ a ∧ a < m) ∧ (0 ≤ b ∧ b < m) := by
  unfold codeR at h
  cases h1 : isModB m
  · simp [h1] at h
  · cases h2 : numsB m [a, b]
    · simp [h1, h2] at h
    · simp only [numsB, List.all_cons, List.all_nil, Bool.and_true, Bool.and_eq_true] at h2
      exact ⟨isModB_true h1, isNumB_true h2.1, isNumB_true h2.2⟩
theorem unitsN_succ (m : Int) (k : Nat) : unitsN m (k + 1) = unitsN m k + if unitB m k = true then 1 else 0 := by
  unfold unitsN
  rw [List.range_succ, List.filter_append]
  by_cases h : unitB m k = true <;> simp [h]
theorem unitsN_le (m : Int) (k : Nat) : 0 ≤ unitsN m k ∧ unitsN m k ≤ k := by
  unfold unitsN
  have := List.length_filter_le (fun a : Nat => unitB m (a : Int)) (List.range k)
  rw [List.length_range] at this
  omega
theorem find_none_succ {p : Nat → Bool} {k : Nat} (h : (List.range k).find? p = none) (h' : p k = false) : (List.range (k + 1)).find? p = none := by
  rw [List.range_succ, List.find?_append, h]
  simp [h']
theorem find_some_at {p : Nat → Bool} {k n : Nat} (h : (List.range k).find? p = none) (h' : p k = true) (hk : k < n) : (List.range n).find? p = some k := by
  rw [List.find?_range_eq_some]
  refine ⟨h', by simpa using hk, fun j hj => ?_⟩
  rw [List.find?_range_eq_none] at h
  exact h j hj

theorem iRemainderOf_any (m n : Int) (w : World) : Calls Try.prog 57 #[.int .i64 m, .int .i64 n] w fun e w' => e = .returned (.tuple #[.int .i64 (remR m n).1, .int .i64 (remR m n).2]) ∧ Below w.heap.size w w' := by
  cases hm : isModB m
  · have HF : Hid (remR m n = (0, 1)) := by simp [Hid, remR, hm]
    have HM := Lib.hid hm
    clear hm
    go_enter Try.func57, Try.ntmps57
    go_wp2_with (go_at_call 44; refine (iIsModulus_any _ _).mono ?_; rintro e w' ⟨rfl, k', rfl⟩; rw [HM.out])
    go_ret2
    exact ⟨by rw [HF.out]; rfl, below_drewN (Below.refl _ _) _⟩
  · cases hn : isIntB n
    · have HF : Hid (remR m n = (0, 2)) := by simp [Hid, remR, hm, hn]
      have HM := Lib.hid hm
      have HI := Lib.hid hn
      clear hm hn
      go_enter Try.func57, Try.ntmps57
      go_wp2_with (first | (go_at_call 44; refine (iIsModulus_any _ _).mono ?_; rintro e w' ⟨rfl, k', rfl⟩; rw [HM.out]) | (go_at_call 96; refine (isInteger_any _ _).mono ?_; rintro e w' ⟨rfl, k'', rfl⟩; rw [HI.out]))
      go_ret2
      exact ⟨by rw [HF.out]; rfl, below_drewN (Below.refl _ _) _⟩
    · have HF : Hid (remR m n = (n % m, 0)) := by simp [Hid, remR, hm, hn]
      have hb := isModB_true hm
      have HM := Lib.hid hm
      have HI := Lib.hid hn
      clear hm hn
      go_enter Try.func57, Try.ntmps57
      go_wp2_with (first | (go_at_call 44; refine (iIsModulus_any _ _).mono ?_; rintro e w' ⟨rfl, k', rfl⟩; rw [HM.out]) | (go_at_call 96; refine (isInteger_any _ _).mono ?_; rintro e w' ⟨rfl, k'', rfl⟩; rw [HI.out]) | (go_at_call 85; refine (mod_any _ _ _ (by omega) (by omega)).mono ?_; rintro e w' ⟨rfl, k3, rfl⟩))
      go_ret2
      exact ⟨by rw [HF.out]; rfl, below_drewN (Below.refl _ _) _⟩
theorem iIsPrimeNumber_any (n : Int) (w : World) : Calls Try.prog 27 #[.int .i64 n] w fun e w' => e = .returned (.tuple #[.bool (primeR n).1, .int .i64 (primeR n).2]) ∧ Below w.heap.size w w' := by
  cases hn : isIntB n
  · have HF : Hid (primeR n = (false, 2)) := by simp [Hid, primeR, hn]
    have HI := Lib.hid hn
    clear hn
    go_enter Try.func27, Try.ntmps27
    go_wp2_with (go_at_call 96; refine (isInteger_any _ _).mono ?_; rintro e w' ⟨rfl, k'', rfl⟩; rw [HI.out])
    go_ret2
    exact ⟨by rw [HF.out]; rfl, below_drewN (Below.refl _ _) _⟩
  · have HF : Hid (primeR n = (primeB n, 0)) := by simp [Hid, primeR, hn]
    have hb := isIntB_true hn
    have HI := Lib.hid hn
    clear hn
    go_enter Try.func27, Try.ntmps27
    go_wp2_with (first | (go_at_call 96; refine (isInteger_any _ _).mono ?_; rintro e w' ⟨rfl, k'', rfl⟩; rw [HI.out]) | (go_at_call 97; refine (isPrime_any _ _ (by omega)).mono ?_; rintro e w' ⟨rfl, k3, rfl⟩))
    go_ret2
    exact ⟨by rw [HF.out]; rfl, below_drewN (Below.refl _ _) _⟩
theorem iCommonDivisor_any (a b : Int) (w : World) : Calls Try.prog 52 #[.int .i64 a, .int .i64 b] w fun e w' => e = .returned (.tuple #[.int .i64 (gcdR a b).1, .int .i64 (gcdR a b).2]) ∧ Below w.heap.size w w' := by
  cases ha : isIntB a
  · have HF : Hid (gcdR a b = (0, 2)) := by simp [Hid, gcdR, ha]
    have HA := Lib.hid ha
    clear ha
    go_enter Try.func52, Try.ntmps52
    go_wp2_with (go_at_call 96; refine (isInteger_any a _).mono ?_; rintro e w' ⟨rfl, k'', rfl⟩; rw [HA.out])
    go_ret2
    exact ⟨by rw [HF.out]; rfl, below_drewN (Below.refl _ _) _⟩
  · cases hb : isIntB b
    · have HF : Hid (gcdR a b = (0, 2)) := by simp [Hid, gcdR, ha, hb]
      have HA := Lib.hid ha
      have HB := Lib.hid hb
      clear ha hb
      go_enter Try.func52, Try.ntmps52
      go_wp2_with fail
      refine (isInteger_any a _).mono ?_
      rintro e w' ⟨rfl, k'', rfl⟩
      rw [HA.out]
      go_wp2_with fail
      refine (isInteger_any b _).mono ?_
      rintro e w' ⟨rfl, k3, rfl⟩
      rw [HB.out]
      go_wp2
      go_ret2
      exact ⟨by rw [HF.out]; rfl, below_drewN (Below.refl _ _) _⟩
    · have HF : Hid (gcdR a b = ((Int.gcd a b : Int), 0)) := by simp [Hid, gcdR, ha, hb]
      have h1 := isIntB_true ha
      have h2 := isIntB_true hb
      have HA := Lib.hid ha
      have HB := Lib.hid hb
      clear ha hb
      go_enter Try.func52, Try.ntmps52
      go_wp2_with fail
      refine (isInteger_any a _).mono ?_
      rintro e w' ⟨rfl, k'', rfl⟩
      rw [HA.out]
      go_wp2_with fail
      refine (isInteger_any b _).mono ?_
      rintro e w' ⟨rfl, k3, rfl⟩
      rw [HB.out]
      go_wp2_with (go_at_call 119; refine (gcd_any _ _ _ (by omega) (by omega) (by omega) (by omega)).mono ?_; rintro e w' ⟨rfl, k4, rfl⟩)
      go_ret2
      exact ⟨by rw [HF.out]; rfl, below_drewN (Below.refl _ _) _⟩
theorem iMultiplyModulo_any (m a b : Int) (w : World) : Calls Try.prog 46 #[.int .i64 m, .int .i64 a, .int .i64 b] w fun e w' => e = .returned (.tuple #[.int .i64 (codeN m [a, b] (a * b % m)).1, .int .i64 (codeN m [a, b] (a * b % m)).2]) ∧ Below w.heap.size w w' := by
  by_cases hc : codeR m [a, b] = 0
  · have HF : Hid ((codeN m [a, b] (a * b % m)) = (a * b % m, 0)) := by simp [Hid, codeN, hc]
    obtain ⟨⟨h1, h2⟩, ⟨h3, h4⟩, h5, h6⟩ := codeR_zero2 hc
    have h7 : 0 ≤ a * b := Int.mul_nonneg h3 h5
    have h8 : a * b ≤ 10000 * 10000 := Int.mul_le_mul (by omega) (by omega) h5 (by omega)
    have HC := Lib.hid hc
    clear hc
    go_enter Try.func46, Try.ntmps46
    go_wp2_with (go_at_call 112; refine (modular_any m _ _ [a, b] 0 (OwnI.lit2 _ a b (Nat.zero_le _))).mono ?_; rintro e w' ⟨rfl, hb⟩; rw [HC.out])
    go_ret2
    exact ⟨by rw [HF.out]; rfl, ((Below.refl _ _).alloc (Nat.le_refl _) _).trans (hb.mono (by simp))⟩
  · have HF : Hid ((codeN m [a, b] (a * b % m)) = (0, codeR m [a, b])) := by simp [Hid, codeN, hc]
    have h1 : (codeR m [a, b] != 0) = true := by simpa using hc
    clear hc
    go_enter Try.func46, Try.ntmps46
    go_wp2_with (go_at_call 112; refine (modular_any m _ _ [a, b] 0 (OwnI.lit2 _ a b (Nat.zero_le _))).mono ?_; rintro e w' ⟨rfl, hb⟩)
    go_ret2
    exact ⟨by rw [HF.out]; rfl, ((Below.refl _ _).alloc (Nat.le_refl _) _).trans (hb.mono (by simp))⟩
theorem iSolveModulo_any (m a b : Int) (w : World) : Calls Try.prog 50 #[.int .i64 m, .int .i64 a, .int .i64 b] w fun e w' => e = .returned (.tuple #[.int .i64 (solveR m a b).1, .int .i64 (solveR m a b).2]) ∧ Below w.heap.size w w' := by
  by_cases hc : codeR m [a, b] = 0
  · have HR : Hid (solveR m a b = match (List.range m.toNat).find? (solveAt m a b) with | some x => ((x : Int), 0) | none => (0, 4)) := by simp [Hid, solveR, hc]
    obtain ⟨⟨h1, h2⟩, ⟨h3, h4⟩, h5, h6⟩ := codeR_zero2 hc
    have HC := Lib.hid hc
    clear hc
    go_enter Try.func50, Try.ntmps50
    go_wp2_with (go_at_call 112; refine (modular_any m _ _ [a, b] 0 (OwnI.lit2 _ a b (Nat.zero_le _))).mono ?_; rintro e w' ⟨rfl, hb⟩; rw [HC.out])
    go_loop [9, 19] (fun _ i => ∃ k : Nat, (k : Int) ≤ m ∧ i = .int .i64 k ∧ Hid ((List.range k).find? (solveAt m a b) = none)) (fun _ i => (m - intOf i).toNat)
    case atStart => exact ⟨0, by omega, rfl, rfl⟩
    case round =>
      obtain ⟨k, hk, rfl, hn⟩ := hrel
      by_cases hlt : (k : Int) < m
      · have h7 : 0 ≤ a * (k : Int) := Int.mul_nonneg h3 (by omega)
        have h8 : a * (k : Int) ≤ 10000 * 10000 := Int.mul_le_mul (by omega) (by omega) (by omega) (by omega)
        cases hs : solveAt m a b k
        · have h9 : (a * (k : Int) % m == b) = false := hs
          have HN := Lib.hid (find_none_succ hn.out hs)
          clear hs
          go_wp2
          go_round
          case rel => exact ⟨k + 1, by omega, by go_num, HN.out⟩
          case measure => simp [intOf]; omega
        · have h9 : (a * (k : Int) % m == b) = true := hs
          have HN := Lib.hid (find_some_at (n := m.toNat) hn.out hs (by omega))
          have HF : Hid (solveR m a b = ((k : Int), 0)) := by unfold Hid; rw [HR.out, HN.out]
          clear hs
          go_wp2
          go_ret2
          exact ⟨by rw [HF.out]; rfl, ((Below.refl _ _).alloc (Nat.le_refl _) _).trans (hb.mono (by simp))⟩
      · have hkm : k = m.toNat := by omega
        have HF : Hid (solveR m a b = (0, 4)) := by unfold Hid; rw [HR.out, ← hkm, hn.out]
        clear hkm
        go_wp2
        go_ret2
        exact ⟨by rw [HF.out]; rfl, ((Below.refl _ _).alloc (Nat.le_refl _) _).trans (hb.mono (by simp))⟩
  · have HF : Hid (solveR m a b = (0, codeR m [a, b])) := by simp [Hid, solveR, hc]
    have h1 : (codeR m [a, b] != 0) = true := by simpa using hc
    clear hc
    go_enter Try.func50, Try.ntmps50
    go_wp2_with (go_at_call 112; refine (modular_any m _ _ [a, b] 0 (OwnI.lit2 _ a b (Nat.zero_le _))).mono ?_; rintro e w' ⟨rfl, hb⟩)
    go_ret2
    exact ⟨by rw [HF.out]; rfl, ((Below.refl _ _).alloc (Nat.le_refl _) _).trans (hb.mono (by simp))⟩
theorem iCountUnits_any (m : Int) (w : World) : Calls Try.prog 47 #[.int .i64 m] w fun e w' => e = .returned (.tuple #[.int .i64 (unitsR m).1, .int .i64 (unitsR m).2]) ∧ Below w.heap.size w w' := by
  cases hm : isModB m
  · have HF : Hid (unitsR m = (0, 1)) := by simp [Hid, unitsR, hm]
    have HM := Lib.hid hm
    clear hm
    go_enter Try.func47, Try.ntmps47
    go_wp2_with (go_at_call 44; refine (iIsModulus_any _ _).mono ?_; rintro e w' ⟨rfl, k', rfl⟩; rw [HM.out])
    go_ret2
    exact ⟨by rw [HF.out]; rfl, below_drewN (Below.refl _ _) _⟩
  · have HF : Hid (unitsR m = (unitsN m m.toNat, 0)) := by simp [Hid, unitsR, hm]
    obtain ⟨h1, h2⟩ := isModB_true hm
    have HM := Lib.hid hm
    clear hm
    go_enter Try.func47, Try.ntmps47
    go_wp2_with (go_at_call 44; refine (iIsModulus_any _ _).mono ?_; rintro e w' ⟨rfl, k', rfl⟩; rw [HM.out])
    go_loopw [4, 5, 10] (fun c _ i wr => ∃ k : Nat, (k : Int) ≤ m ∧ i = .int .i64 k ∧ c = .int .i64 (unitsN m k) ∧ ∃ n, wr = w.drewN n) (fun _ _ i _ => (m - intOf i).toNat)
    case atStart => exact ⟨0, by omega, rfl, rfl, _, rfl⟩
    case round =>
      obtain ⟨k, hk, rfl, rfl, n, rfl⟩ := hrel
      have hu := unitsN_le m k
      by_cases hlt : (k : Int) < m
      · have HS := Lib.hid (unitsN_succ m k)
        cases hs : unitB m k
        all_goals
          rw [hs] at HS
          have HU := Lib.hid hs
          clear hs
          go_wp2_with (go_at_call 113; refine (isUnit_any _ _ _ (by omega) (by omega) (by omega) (by omega)).mono ?_; rintro e w' ⟨rfl, k'', rfl⟩; rw [HU.out])
          go_roundw
          case rel => exact ⟨k + 1, by omega, by go_num, by rw [HS.out]; first | rfl | simp, _, rfl⟩
          case measure => simp [intOf]; omega
      · have hkm : Hid (m.toNat = k) := by unfold Hid; omega
        go_wp2
        go_ret2
        exact ⟨by rw [HF.out, hkm.out]; rfl, below_drewN (Below.refl _ _) _⟩
theorem sRemainderOf_any (m n : Int) (w : World) : Calls Try.prog 58 #[.int .i64 m, .int .i64 n] w fun e w' => e = .returned (.tuple #[.int .i64 (remR m n).1, .int .i64 (remR m n).2]) ∧ Below w.heap.size w w' := by
  cases hm : isModB m
  · have HF : Hid (remR m n = (0, 1)) := by simp [Hid, remR, hm]
    have HM := Lib.hid hm
    clear hm
    go_enter Try.func58, Try.ntmps58
    go_wp2_with (go_at_call 116; refine (sModulus_any _ _).mono ?_; rintro e w' ⟨rfl, k', rfl⟩; rw [HM.out])
    go_ret2
    exact ⟨by rw [HF.out]; rfl, below_drewN (Below.refl _ _) _⟩
  · cases hn : isIntB n
    · have HF : Hid (remR m n = (0, 2)) := by simp [Hid, remR, hm, hn]
      have HM := Lib.hid hm
      have HI := Lib.hid hn
      clear hm hn
      go_enter Try.func58, Try.ntmps58
      go_wp2_with (first | (go_at_call 116; refine (sModulus_any _ _).mono ?_; rintro e w' ⟨rfl, k', rfl⟩; rw [HM.out]) | (go_at_call 105; refine (l01Integer_any _ _).mono ?_; rintro e w' ⟨rfl, k'', rfl⟩; rw [HI.out]))
      go_ret2
      exact ⟨by rw [HF.out]; rfl, below_drewN (Below.refl _ _) _⟩
    · have HF : Hid (remR m n = (n % m, 0)) := by simp [Hid, remR, hm, hn]
      have hb := isModB_true hm
      have HM := Lib.hid hm
      have HI := Lib.hid hn
      clear hm hn
      go_enter Try.func58, Try.ntmps58
      go_wp2_with (first | (go_at_call 116; refine (sModulus_any _ _).mono ?_; rintro e w' ⟨rfl, k', rfl⟩; rw [HM.out]) | (go_at_call 105; refine (l01Integer_any _ _).mono ?_; rintro e w' ⟨rfl, k'', rfl⟩; rw [HI.out]) | (go_at_call 124; refine (l01Mod_any _ _ _ (by omega) (by omega)).mono ?_; rintro e w' ⟨rfl, k3, rfl⟩))
      go_ret2
      exact ⟨by rw [HF.out]; rfl, below_drewN (Below.refl _ _) _⟩
theorem sSolveModulo_any (m a b : Int) (w : World) : Calls Try.prog 51 #[.int .i64 m, .int .i64 a, .int .i64 b] w fun e w' => e = .returned (.tuple #[.int .i64 (solveR m a b).1, .int .i64 (solveR m a b).2]) ∧ Below w.heap.size w w' := by
  by_cases hc : codeR m [a, b] = 0
  · have HR : Hid (solveR m a b = match (List.range m.toNat).find? (solveAt m a b) with | some x => ((x : Int), 0) | none => (0, 4)) := by simp [Hid, solveR, hc]
    obtain ⟨⟨h1, h2⟩, ⟨h3, h4⟩, h5, h6⟩ := codeR_zero2 hc
    have HC := Lib.hid hc
    clear hc
    go_enter Try.func51, Try.ntmps51
    go_wp2_with (go_at_call 114; refine (l01Code_any m _ _ [a, b] 0 (OwnI.lit2 _ a b (Nat.zero_le _))).mono ?_; rintro e w' ⟨rfl, k', rfl⟩; rw [HC.out])
    go_loop [9] (fun i => ∃ k : Nat, (k : Int) ≤ m ∧ i = .int .i64 k ∧ Hid ((List.range k).find? (solveAt m a b) = none)) (fun i => (m - intOf i).toNat)
    case atStart => exact ⟨0, by omega, rfl, rfl⟩
    case round =>
      obtain ⟨k, hk, rfl, hn⟩ := hrel
      by_cases hlt : (k : Int) < m
      · have h7 : 0 ≤ a * (k : Int) := Int.mul_nonneg h3 (by omega)
        have h8 : a * (k : Int) ≤ 10000 * 10000 := Int.mul_le_mul (by omega) (by omega) (by omega) (by omega)
        cases hs : solveAt m a b k
        · have h9 : (a * (k : Int) % m == b) = false := hs
          have HN := Lib.hid (find_none_succ hn.out hs)
          clear hs
          go_wp2
          go_round
          case rel => exact ⟨k + 1, by omega, by go_num, HN.out⟩
          case measure => simp [intOf]; omega
        · have h9 : (a * (k : Int) % m == b) = true := hs
          have HN := Lib.hid (find_some_at (n := m.toNat) hn.out hs (by omega))
          have HF : Hid (solveR m a b = ((k : Int), 0)) := by unfold Hid; rw [HR.out, HN.out]
          clear hs
          go_wp2
          go_ret2
          exact ⟨by rw [HF.out]; rfl, below_drewN ((Below.refl _ _).alloc (Nat.le_refl _) _) _⟩
      · have hkm : k = m.toNat := by omega
        have HF : Hid (solveR m a b = (0, 4)) := by unfold Hid; rw [HR.out, ← hkm, hn.out]
        clear hkm
        go_wp2
        go_ret2
        exact ⟨by rw [HF.out]; rfl, below_drewN ((Below.refl _ _).alloc (Nat.le_refl _) _) _⟩
  · have HF : Hid (solveR m a b = (0, codeR m [a, b])) := by simp [Hid, solveR, hc]
    have h1 : (codeR m [a, b] != 0) = true := by simpa using hc
    clear hc
    go_enter Try.func51, Try.ntmps51
    go_wp2_with (go_at_call 114; refine (l01Code_any m _ _ [a, b] 0 (OwnI.lit2 _ a b (Nat.zero_le _))).mono ?_; rintro e w' ⟨rfl, k', rfl⟩)
    go_ret2
    exact ⟨by rw [HF.out]; rfl, below_drewN ((Below.refl _ _).alloc (Nat.le_refl _) _) _⟩

/-! ### Exponents, and the number of laws -/
theorem iValuationOf_any (p n : Int) (w : World) : Calls Try.prog 28 #[.int .i64 p, .int .i64 n] w fun e w' => e = .returned (.tuple #[.int .i64 (valR p n).1, .int .i64 (valR p n).2]) ∧ Below w.heap.size w w' := by
  by_cases h1 : 1000 < p
  · have HF : Hid (valR p n = (0, 2)) := by simp [Hid, valR, h1]
    go_enter Try.func28, Try.ntmps28
    go_wp2
    go_ret2
    exact ⟨by rw [HF.out]; rfl, below_drewN (Below.refl _ _) 0⟩
  · have h2 : p ≤ 1000 := by omega
    cases hp : primeB p
    · have HF : Hid (valR p n = (0, 2)) := by simp [Hid, valR, hp]
      have HP := Lib.hid hp
      clear hp h1
      go_enter Try.func28, Try.ntmps28
      go_wp2_with (go_at_call 97; refine (isPrime_any p _ (by omega)).mono ?_; rintro e w' ⟨rfl, k', rfl⟩; rw [HP.out])
      go_ret2
      exact ⟨by rw [HF.out]; rfl, below_drewN (Below.refl _ _) _⟩
    · have h3 : 2 ≤ p := (primeB_true.1 hp).1
      cases hn : isIntB n
      · have HF : Hid (valR p n = (0, 2)) := by simp [Hid, valR, hn]
        have HP := Lib.hid hp
        have HN := Lib.hid hn
        clear hp h1 hn
        go_enter Try.func28, Try.ntmps28
        go_wp2_with (first | (go_at_call 97; refine (isPrime_any p _ (by omega)).mono ?_; rintro e w' ⟨rfl, k', rfl⟩; rw [HP.out]) | (go_at_call 96; refine (isInteger_any n _).mono ?_; rintro e w' ⟨rfl, k'', rfl⟩; rw [HN.out]))
        go_ret2
        exact ⟨by rw [HF.out]; rfl, below_drewN (Below.refl _ _) _⟩
      · obtain ⟨h4, h5⟩ := isIntB_true hn
        by_cases h0 : n = 0
        · have HF : Hid (valR p n = (0, 5)) := by simp [Hid, valR, h1, hp, h0, isIntB, inB]
          have HP := Lib.hid hp
          have HN := Lib.hid hn
          have h6 : (n == 0) = true := by simpa using h0
          clear hp h1 hn h0
          go_enter Try.func28, Try.ntmps28
          go_wp2_with (first | (go_at_call 97; refine (isPrime_any p _ (by omega)).mono ?_; rintro e w' ⟨rfl, k', rfl⟩; rw [HP.out]) | (go_at_call 96; refine (isInteger_any n _).mono ?_; rintro e w' ⟨rfl, k'', rfl⟩; rw [HN.out]))
          go_ret2
          exact ⟨by rw [HF.out]; rfl, below_drewN (Below.refl _ _) _⟩
        · have HF : Hid (valR p n = (valOf p n, 0)) := by simp [Hid, valR, hn, h1, hp, h0]
          have HP := Lib.hid hp
          have HN := Lib.hid hn
          have H0 : Hid (n ≠ 0) := h0
          have h6 : (n == 0) = false := by simpa using h0
          clear hp h1 hn h0
          go_enter Try.func28, Try.ntmps28
          go_wp2_with (first | (go_at_call 97; refine (isPrime_any p _ (by omega)).mono ?_; rintro e w' ⟨rfl, k', rfl⟩; rw [HP.out]) | (go_at_call 96; refine (isInteger_any n _).mono ?_; rintro e w' ⟨rfl, k'', rfl⟩; rw [HN.out]) | (go_at_call 98; refine (valuation_any p n _ h3 h2 H0.out h4 h5).mono ?_; rintro e w' ⟨rfl, k3, rfl⟩))
          go_ret2
          exact ⟨by rw [HF.out]; rfl, below_drewN (Below.refl _ _) _⟩
theorem sValuationOf_any (p n : Int) (w : World) : Calls Try.prog 36 #[.int .i64 p, .int .i64 n] w fun e w' => e = .returned (.tuple #[.int .i64 (valR p n).1, .int .i64 (valR p n).2]) ∧ Below w.heap.size w w' := by
  cases h1 : inB p 2 1000
  · have HF : Hid (valR p n = (0, 2)) := by
      unfold Hid valR
      rw [if_pos]
      by_cases h2 : 1000 < p
      · exact .inl h2
      · refine .inr (.inl (primeB_false fun h => ?_))
        rw [inB_false] at h1
        exact h1 ⟨h.1, by omega⟩
    have HI := Lib.hid h1
    clear h1
    go_enter Try.func36, Try.ntmps36
    go_wp2_with (go_at_call 75; refine (l01In_any _ _ _ _).mono ?_; rintro e w' ⟨rfl, k1, rfl⟩; rw [HI.out])
    go_ret2
    exact ⟨by rw [HF.out]; rfl, below_drewN (Below.refl _ _) _⟩
  · obtain ⟨h3, h2⟩ := inB_true.1 h1
    have h1' : ¬ 1000 < p := by omega
    have HI := Lib.hid h1
    clear h1
    cases hp : primeB p
    · have HF : Hid (valR p n = (0, 2)) := by simp [Hid, valR, hp]
      have HP := Lib.hid hp
      clear hp h1'
      go_enter Try.func36, Try.ntmps36
      go_wp2_with (first | (go_at_call 75; refine (l01In_any _ _ _ _).mono ?_; rintro e w' ⟨rfl, k1, rfl⟩; rw [HI.out]) | (go_at_call 104; refine (l01Prime_any p _ (by omega)).mono ?_; rintro e w' ⟨rfl, k', rfl⟩; rw [HP.out]))
      go_ret2
      exact ⟨by rw [HF.out]; rfl, below_drewN (Below.refl _ _) _⟩
    · cases hn : isIntB n
      · have HF : Hid (valR p n = (0, 2)) := by simp [Hid, valR, hn]
        have HP := Lib.hid hp
        have HN := Lib.hid hn
        clear hp h1' hn
        go_enter Try.func36, Try.ntmps36
        go_wp2_with (first | (go_at_call 75; refine (l01In_any _ _ _ _).mono ?_; rintro e w' ⟨rfl, k1, rfl⟩; rw [HI.out]) | (go_at_call 104; refine (l01Prime_any p _ (by omega)).mono ?_; rintro e w' ⟨rfl, k', rfl⟩; rw [HP.out]) | (go_at_call 105; refine (l01Integer_any n _).mono ?_; rintro e w' ⟨rfl, k'', rfl⟩; rw [HN.out]))
        go_ret2
        exact ⟨by rw [HF.out]; rfl, below_drewN (Below.refl _ _) _⟩
      · obtain ⟨h4, h5⟩ := isIntB_true hn
        by_cases h0 : n = 0
        · have HF : Hid (valR p n = (0, 5)) := by simp [Hid, valR, h1', hp, h0, isIntB, inB]
          have HP := Lib.hid hp
          have HN := Lib.hid hn
          have h6 : (n == 0) = true := by simpa using h0
          clear hp h1' hn h0
          go_enter Try.func36, Try.ntmps36
          go_wp2_with (first | (go_at_call 75; refine (l01In_any _ _ _ _).mono ?_; rintro e w' ⟨rfl, k1, rfl⟩; rw [HI.out]) | (go_at_call 104; refine (l01Prime_any p _ (by omega)).mono ?_; rintro e w' ⟨rfl, k', rfl⟩; rw [HP.out]) | (go_at_call 105; refine (l01Integer_any n _).mono ?_; rintro e w' ⟨rfl, k'', rfl⟩; rw [HN.out]))
          go_ret2
          exact ⟨by rw [HF.out]; rfl, below_drewN (Below.refl _ _) _⟩
        · have HF : Hid (valR p n = (valOf p n, 0)) := by simp [Hid, valR, hn, h1', hp, h0]
          have HP := Lib.hid hp
          have HN := Lib.hid hn
          have H0 : Hid (n ≠ 0) := h0
          have h6 : (n == 0) = false := by simpa using h0
          clear hp h1' hn h0
          go_enter Try.func36, Try.ntmps36
          go_wp2_with (first | (go_at_call 75; refine (l01In_any _ _ _ _).mono ?_; rintro e w' ⟨rfl, k1, rfl⟩; rw [HI.out]) | (go_at_call 104; refine (l01Prime_any p _ (by omega)).mono ?_; rintro e w' ⟨rfl, k', rfl⟩; rw [HP.out]) | (go_at_call 105; refine (l01Integer_any n _).mono ?_; rintro e w' ⟨rfl, k'', rfl⟩; rw [HN.out]) | (go_at_call 106; refine (l01Valuation_any p n _ h3 h2 H0.out h4 h5).mono ?_; rintro e w' ⟨rfl, k3, rfl⟩))
          go_ret2
          exact ⟨by rw [HF.out]; rfl, below_drewN (Below.refl _ _) _⟩

/-! ### Rows of binomial numbers -/
def sums : List Int → List Int
  | x :: y :: r => (x + y) :: sums (y :: r)
  | _ => []
def pasc : Nat → List Int
  | 0 => [1]
  | k + 1 => 1 :: (sums (pasc k) ++ [1])
theorem length_sums (l : List Int) : (sums l).length = l.length - 1 := by
  induction l with
  | nil => rfl
  | cons x r ih =>
    cases r with
    | nil => rfl
    | cons y r => simp only [sums, List.length_cons, ih]; omega
theorem length_pasc (k : Nat) : (pasc k).length = k + 1 := by
  induction k with
  | zero => rfl
  | succ k ih => simp [pasc, length_sums, ih]
theorem getD_sums (l : List Int) (i : Nat) (h : i + 1 < l.length) : (sums l).getD i 0 = l.getD i 0 + l.getD (i + 1) 0 := by
  induction l generalizing i with
  | nil => simp at h
  | cons x r ih =>
    cases r with
    | nil => simp at h
    | cons y r =>
      cases i with
      | zero => rfl
      | succ i =>
        have := ih i (by simpa using h)
        simpa [sums] using this
/-- All numbers of a row lie between 0 and a bound. -/
def Bd (b : Int) (l : List Int) : Prop := ∀ x ∈ l, 0 ≤ x ∧ x ≤ b
theorem bd_getD {b : Int} {l : List Int} (h : Bd b l) (hb : 0 ≤ b) (i : Nat) : 0 ≤ l.getD i 0 ∧ l.getD i 0 ≤ b := by
  rw [List.getD_eq_getElem?_getD]
  rcases Nat.lt_or_ge i l.length with hi | hi
  · rw [List.getElem?_eq_getElem hi]; exact h _ (List.getElem_mem hi)
  · rw [List.getElem?_eq_none hi]; exact ⟨Int.le_refl _, hb⟩
theorem bd_sums {b : Int} {l : List Int} (h : Bd b l) : Bd (2 * b) (sums l) := by
  induction l with
  | nil => intro x hx; simp [sums] at hx
  | cons x r ih =>
    cases r with
    | nil => intro x hx; simp [sums] at hx
    | cons y r =>
      intro z hz
      simp only [sums, List.mem_cons] at hz
      have h1 := h x (by simp)
      have h2 := h y (by simp)
      rcases hz with rfl | hz
      · omega
      · exact ih (fun u hu => h u (List.mem_cons_of_mem _ hu)) z hz
theorem bd_pasc (k : Nat) : Bd (2 ^ k) (pasc k) := by
  induction k with
  | zero => intro x hx; simp [pasc] at hx; subst hx; decide
  | succ k ih =>
    have h2 : (2 : Int) ^ (k + 1) = 2 * 2 ^ k := by rw [Int.pow_succ, Int.mul_comm]
    have h1 : (1 : Int) ≤ 2 ^ k := Int.pow_pos (by decide)
    intro x hx
    rw [h2]
    simp only [pasc, List.mem_cons, List.mem_append, List.not_mem_nil, or_false] at hx
    rcases hx with rfl | hx | rfl
    · omega
    · exact bd_sums ih x hx
    · omega
theorem two_pow_le {k : Nat} (hk : k ≤ 60) : (2 : Int) ^ k ≤ 1152921504606846976 := by
  have h : (2 : Nat) ^ k ≤ 2 ^ 60 := Nat.pow_le_pow_right (by decide) hk
  have h2 : ((2 ^ k : Nat) : Int) ≤ ((2 ^ 60 : Nat) : Int) := by exact_mod_cast h
  simpa using h2
/-- The part of the next row after i steps. -/
def nextTo (l : List Int) (i : Nat) : List Int := 1 :: (sums l).take i
theorem nextTo_succ (l : List Int) (i : Nat) (h : i + 1 < l.length) : nextTo l (i + 1) = nextTo l i ++ [l.getD i 0 + l.getD (i + 1) 0] := by
  unfold nextTo
  have hl : i < (sums l).length := by rw [length_sums]; omega
  rw [List.take_succ_eq_append_getElem hl, ← getD_sums l i h, List.getD_eq_getElem?_getD, List.getElem?_eq_getElem hl]
  rfl
theorem length_nextTo (l : List Int) (i : Nat) (h : i + 1 ≤ l.length) : (nextTo l i).length = i + 1 := by
  unfold nextTo
  have := length_sums l
  simp only [List.length_cons, List.length_take]
  omega
theorem nextTo_all (k : Nat) : nextTo (pasc k) k ++ [1] = pasc (k + 1) := by
  unfold nextTo
  rw [List.take_of_length_le (by rw [length_sums, length_pasc]; omega)]
  rfl

set_option maxHeartbeats 2000000 in
theorem binomial_any (n k : Nat) (w : World) (h1 : n ≤ 60) (h2 : k ≤ n) :
    Calls Try.prog 100 #[.int .i64 n, .int .i64 k] w fun e w' => e = .returned (.int .i64 ((pasc n).getD k 0)) ∧ Below w.heap.size w w' := by
  have hd1 : decide (n < k) = false := by simp; omega
  go_enter Try.func100, Try.ntmps100
  go_wp2
  go_loopw [5, 6, 7, 13] (fun r _ _ t wr => ∃ j g c : Nat, j ≤ n ∧ t = .int .i64 j ∧ r = .slice (some ⟨g, 0, none⟩) (j + 1) c ∧ w.heap.size ≤ g ∧ RowI wr g c (pasc j) ∧ Below w.heap.size w wr) (fun _ _ _ t _ => n - (intOf t).toNat)
  case atStart => exact ⟨0, _, 1, Nat.zero_le _, rfl, rfl, Nat.le_refl _, RowI.lit _ [1] _ rfl (by unfold maxLen; decide), (Below.refl _ _).alloc (Nat.le_refl _) _⟩
  case round =>
    obtain ⟨j, g, c, hj, rfl, rfl, hg, hrow, hb⟩ := hrel
    have hlt0 := hrow.lt
    have hsz := hb.size
    have HL := Lib.hid (length_pasc j)
    by_cases hlt : j < n
    · obtain ⟨wo, rfl⟩ : ∃ wo : World, wo = wr := ⟨_, rfl⟩
      go_wp2
      go_loopw [6, 7] (fun v i w2 => ∃ q gv cv : Nat, q ≤ j ∧ i = .int .i64 ((q : Int) + 1) ∧ v = .slice (some ⟨gv, 0, none⟩) (q + 1) cv ∧ wo.heap.size ≤ gv ∧ RowI w2 gv cv (nextTo (pasc j) q) ∧ RowI w2 g c (pasc j) ∧ Below w.heap.size w w2 ∧ wo.heap.size ≤ w2.heap.size) (fun _ i _ => j + 1 - (intOf i).toNat)
      case atStart => exact ⟨0, _, 1, Nat.zero_le _, rfl, rfl, Nat.le_refl _, RowI.lit _ [1] _ rfl (by unfold maxLen; decide), hrow.alloc _, hb.alloc hsz _, by simp⟩
      case round =>
        obtain ⟨q, gv, cv, hq, rfl, rfl, hgv, hown, hrow2, hb2, hsz2⟩ := hrel
        clear hrow hb
        have hgvlt := hown.lt
        by_cases hlt2 : q < j
        · have hc1 := hrow2.cell (k := q) (by rw [HL.out]; omega)
          have hc2 := hrow2.cell (k := q + 1) (by rw [HL.out]; omega)
          have hb3 := bd_getD (bd_pasc j) (Int.le_of_lt (Int.pow_pos (by decide))) q
          have hb4 := bd_getD (bd_pasc j) (Int.le_of_lt (Int.pow_pos (by decide))) (q + 1)
          have hb5 := two_pow_le (k := j) (by omega)
          have HN := Lib.hid (nextTo_succ (pasc j) q (by rw [HL.out]; omega))
          have HL2 := Lib.hid (length_nextTo (pasc j) q (by rw [HL.out]; omega))
          generalize (pasc j).getD q 0 = x at *
          generalize (pasc j).getD (q + 1) 0 = y at *
          generalize (2 : Int) ^ j = z at *
          have hq0 : (0 : Int) ≤ (q : Int) := Int.natCast_nonneg _
          have hq3 : (0 : Int) ≤ (q : Int) + 1 := by omega
          have hq1 : (q : Int) + 1 < (j : Int) + 1 := by omega
          have hq2 : (q : Int) < (j : Int) + 1 := by omega
          have hne : some g ≠ (Value.slice (some ⟨gv, 0, none⟩) (q + 1) cv).ownBlock := by simp [Value.ownBlock]; omega
          have hwA : IntKind.i64.wrap (q : Int) = (q : Int) := IntWalk.i64_in _ (by omega)
          have hwB : IntKind.i64.wrap (x + y) = x + y := IntWalk.i64_in _ (by omega)
          have hwC : IntKind.i64.wrap ((q : Int) + 1 - 1) = (q : Int) := by rw [Int.add_sub_cancel]; exact hwA
          go_wp2
          go_region_held3 (fun w' => w'.cell? ⟨g, q, none⟩ = some (.int .i64 x) ∧ w'.cell? ⟨g, q + 1, none⟩ = some (.int .i64 y))
            (first
              | go_keep
              | (go_split_ands
                 refine ⟨?_, ?_⟩
                 · (rw [hgrow.cell_far _ (by simp; omega) hne]; assumption)
                 · (rw [hgrow.cell_far _ (by simp; omega) hne]; assumption)))
            ((refine stepAppend1 _ _ wo.heap.size (.slice (some ⟨gv, 0, none⟩) (q + 1) cv) (nextTo (pasc j) q) (q + 1) (x + y) wr.heap.size (wr.heap.size + 1) (by rfl) (by rfl) (by rfl) (by rfl) (((hown.alloc _).drew).own' hgv HL2.out) HL2.out (RowI.block1 _) (by omega) (by simp; omega) (by simp) ?_; intro gg cap w1 hown1 hge hgrow hat))
          clear hwA hwB hwC
          go_wp2
          go_roundw
          case rel =>
            have hb6 : Below w.heap.size w w1 := by
              refine ((hb2.alloc (by omega) _).drew).grown hgrow (by simp; omega) fun b hb => ?_
              simp [Value.ownBlock] at hb
              omega
            have hrow3 : RowI w1 g c (pasc j) := ((hrow2.alloc _).drew).grown hgrow hne
            exact ⟨q + 1, gg, cap, by omega, by go_num, rfl, hge, by rw [HN.out]; exact hown1, hrow3, hb6, by have := hgrow.size; simp at this; omega⟩
          case measure => simp [intOf]; omega
        · obtain rfl : q = j := by omega
          have HL2 := Lib.hid (length_nextTo (pasc q) q (by rw [HL.out]; omega))
          have HN := Lib.hid (nextTo_all q)
          go_wp2_with (at_builtin; refine wpAppend1 _ _ wo.heap.size (.slice (some ⟨gv, 0, none⟩) (q + 1) cv) (nextTo (pasc q) q) (q + 1) 1 wr.heap.size (wr.heap.size + 1) (by rfl) (by rfl) (by rfl) (by rfl) ((hown.alloc _).own' hgv HL2.out) HL2.out (RowI.block1 _) (by omega) (by simp; omega) (by simp) ?_; intro gg cap w1 hown1 hge hgrow hat)
          go_roundw
          case rel =>
            have hb6 : Below w.heap.size w w1 := by
              refine (hb2.alloc (by omega) _).grown hgrow (by simp; omega) fun b hb => ?_
              simp [Value.ownBlock] at hb
              omega
            exact ⟨q + 1, gg, cap, by omega, by go_num, rfl, by omega, by rw [← HN.out]; exact hown1, hb6⟩
          case measure => simp [intOf]; omega
    · obtain rfl : j = n := by omega
      have hc := hrow.cell (k := k) (by rw [HL.out]; omega)
      obtain ⟨x, hx⟩ : ∃ x, x = (pasc j).getD k 0 := ⟨_, rfl⟩
      rw [← hx] at hc
      have HX := Lib.hid hx
      clear hx
      go_wp2
      go_ret
      exact ⟨by rw [← HX.out]; rfl, hb⟩
set_option maxHeartbeats 2000000 in
theorem l01Binomial_any (n k : Nat) (w : World) (h1 : n ≤ 60) (h2 : k ≤ n) :
    Calls Try.prog 101 #[.int .i64 n, .int .i64 k] w fun e w' => e = .returned (.int .i64 ((pasc n).getD k 0)) ∧ Below w.heap.size w w' := by
  have hd1 : decide (n < k) = false := by simp; omega
  have hd2 : decide ((k : Int) < 0) = false := by simp
  go_enter Try.func101, Try.ntmps101
  go_wp2
  go_loopw [5, 6, 7, 8] (fun r t _ _ wr => ∃ j g c : Nat, j ≤ n ∧ t = .int .i64 j ∧ r = .slice (some ⟨g, 0, none⟩) (j + 1) c ∧ w.heap.size ≤ g ∧ RowI wr g c (pasc j) ∧ Below w.heap.size w wr) (fun _ t _ _ _ => n - (intOf t).toNat)
  case atStart => exact ⟨0, _, 1, Nat.zero_le _, rfl, rfl, Nat.le_refl _, RowI.lit _ [1] _ rfl (by unfold maxLen; decide), (Below.refl _ _).alloc (Nat.le_refl _) _⟩
  case round =>
    obtain ⟨j, g, c, hj, rfl, rfl, hg, hrow, hb⟩ := hrel
    have hlt0 := hrow.lt
    have hsz := hb.size
    have HL := Lib.hid (length_pasc j)
    by_cases hlt : j < n
    · obtain ⟨wo, rfl⟩ : ∃ wo : World, wo = wr := ⟨_, rfl⟩
      go_wp2
      go_loopw [7, 8] (fun v i w2 => ∃ q gv cv : Nat, q ≤ j ∧ i = .int .i64 ((q : Int) + 1) ∧ v = .slice (some ⟨gv, 0, none⟩) (q + 1) cv ∧ wo.heap.size ≤ gv ∧ RowI w2 gv cv (nextTo (pasc j) q) ∧ RowI w2 g c (pasc j) ∧ Below w.heap.size w w2 ∧ wo.heap.size ≤ w2.heap.size) (fun _ i _ => j + 1 - (intOf i).toNat)
      case atStart => exact ⟨0, _, 1, Nat.zero_le _, rfl, rfl, Nat.le_refl _, RowI.lit _ [1] _ rfl (by unfold maxLen; decide), hrow.alloc _, hb.alloc hsz _, by simp⟩
      case round =>
        obtain ⟨q, gv, cv, hq, rfl, rfl, hgv, hown, hrow2, hb2, hsz2⟩ := hrel
        clear hrow hb
        have hgvlt := hown.lt
        by_cases hlt2 : q < j
        · have hc1 := hrow2.cell (k := q) (by rw [HL.out]; omega)
          have hc2 := hrow2.cell (k := q + 1) (by rw [HL.out]; omega)
          have hb3 := bd_getD (bd_pasc j) (Int.le_of_lt (Int.pow_pos (by decide))) q
          have hb4 := bd_getD (bd_pasc j) (Int.le_of_lt (Int.pow_pos (by decide))) (q + 1)
          have hb5 := two_pow_le (k := j) (by omega)
          have HN := Lib.hid (nextTo_succ (pasc j) q (by rw [HL.out]; omega))
          have HL2 := Lib.hid (length_nextTo (pasc j) q (by rw [HL.out]; omega))
          generalize (pasc j).getD q 0 = x at *
          generalize (pasc j).getD (q + 1) 0 = y at *
          generalize (2 : Int) ^ j = z at *
          have hq0 : (0 : Int) ≤ (q : Int) := Int.natCast_nonneg _
          have hq3 : (0 : Int) ≤ (q : Int) + 1 := by omega
          have hq1 : (q : Int) + 1 < (j : Int) + 1 := by omega
          have hq2 : (q : Int) < (j : Int) + 1 := by omega
          have hne : some g ≠ (Value.slice (some ⟨gv, 0, none⟩) (q + 1) cv).ownBlock := by simp [Value.ownBlock]; omega
          have hwA : IntKind.i64.wrap (q : Int) = (q : Int) := IntWalk.i64_in _ (by omega)
          have hwB : IntKind.i64.wrap (x + y) = x + y := IntWalk.i64_in _ (by omega)
          have hwC : IntKind.i64.wrap ((q : Int) + 1 - 1) = (q : Int) := by rw [Int.add_sub_cancel]; exact hwA
          go_wp2
          go_region_held3 (fun w' => w'.cell? ⟨g, q, none⟩ = some (.int .i64 x) ∧ w'.cell? ⟨g, q + 1, none⟩ = some (.int .i64 y))
            (first
              | go_keep
              | (go_split_ands
                 refine ⟨?_, ?_⟩
                 · (rw [hgrow.cell_far _ (by simp; omega) hne]; assumption)
                 · (rw [hgrow.cell_far _ (by simp; omega) hne]; assumption)))
            ((refine stepAppend1 _ _ wo.heap.size (.slice (some ⟨gv, 0, none⟩) (q + 1) cv) (nextTo (pasc j) q) (q + 1) (x + y) wr.heap.size (wr.heap.size + 1) (by rfl) (by rfl) (by rfl) (by rfl) (((hown.alloc _).drew).own' hgv HL2.out) HL2.out (RowI.block1 _) (by omega) (by simp; omega) (by simp) ?_; intro gg cap w1 hown1 hge hgrow hat))
          clear hwA hwB hwC
          go_wp2
          go_roundw
          case rel =>
            have hb6 : Below w.heap.size w w1 := by
              refine ((hb2.alloc (by omega) _).drew).grown hgrow (by simp; omega) fun b hb => ?_
              simp [Value.ownBlock] at hb
              omega
            have hrow3 : RowI w1 g c (pasc j) := ((hrow2.alloc _).drew).grown hgrow hne
            exact ⟨q + 1, gg, cap, by omega, by go_num, rfl, hge, by rw [HN.out]; exact hown1, hrow3, hb6, by have := hgrow.size; simp at this; omega⟩
          case measure => simp [intOf]; omega
        · obtain rfl : q = j := by omega
          have HL2 := Lib.hid (length_nextTo (pasc q) q (by rw [HL.out]; omega))
          have HN := Lib.hid (nextTo_all q)
          go_wp2_with (at_builtin; refine wpAppend1 _ _ wo.heap.size (.slice (some ⟨gv, 0, none⟩) (q + 1) cv) (nextTo (pasc q) q) (q + 1) 1 wr.heap.size (wr.heap.size + 1) (by rfl) (by rfl) (by rfl) (by rfl) ((hown.alloc _).own' hgv HL2.out) HL2.out (RowI.block1 _) (by omega) (by simp; omega) (by simp) ?_; intro gg cap w1 hown1 hge hgrow hat)
          go_roundw
          case rel =>
            have hb6 : Below w.heap.size w w1 := by
              refine (hb2.alloc (by omega) _).grown hgrow (by simp; omega) fun b hb => ?_
              simp [Value.ownBlock] at hb
              omega
            exact ⟨q + 1, gg, cap, by omega, by go_num, rfl, by omega, by rw [← HN.out]; exact hown1, hb6⟩
          case measure => simp [intOf]; omega
    · obtain rfl : j = n := by omega
      have hc := hrow.cell (k := k) (by rw [HL.out]; omega)
      obtain ⟨x, hx⟩ : ∃ x, x = (pasc j).getD k 0 := ⟨_, rfl⟩
      rw [← hx] at hc
      have HX := Lib.hid hx
      clear hx
      go_wp2
      go_ret
      exact ⟨by rw [← HX.out]; rfl, hb⟩

/-! ### Binomial numbers and their common divisors -/
def binN (n k : Int) : Int := if n < k then 0 else (pasc n.toNat).getD k.toNat 0
theorem binN_lt {n k : Int} (h : n < k) : binN n k = 0 := by simp [binN, h]
theorem binN_ge {n k : Int} (h : ¬ n < k) : binN n k = (pasc n.toNat).getD k.toNat 0 := by simp [binN, h]
theorem binN_bd {n k : Int} (h1 : n ≤ 60) : 0 ≤ binN n k ∧ binN n k ≤ 1152921504606846976 := by
  by_cases h : n < k
  · rw [binN_lt h]; omega
  · rw [binN_ge h]
    have h2 := bd_getD (bd_pasc n.toNat) (Int.le_of_lt (Int.pow_pos (by decide))) k.toNat
    have h3 := two_pow_le (k := n.toNat) (by omega)
    omega
theorem binomial_int (n k : Int) (w : World) (h0 : 0 ≤ n) (h1 : n ≤ 60) (h2 : 0 ≤ k) (h3 : k ≤ 60) :
    Calls Try.prog 100 #[.int .i64 n, .int .i64 k] w fun e w' => e = .returned (.int .i64 (binN n k)) ∧ Below w.heap.size w w' := by
  by_cases h : n < k
  · have HF := Lib.hid (binN_lt h)
    go_enter Try.func100, Try.ntmps100
    go_wp2
    go_ret
    exact ⟨by rw [HF.out]; rfl, Below.refl _ _⟩
  · obtain ⟨a, rfl⟩ := Int.eq_ofNat_of_zero_le h0
    obtain ⟨b, rfl⟩ := Int.eq_ofNat_of_zero_le h2
    rw [binN_ge h]
    exact binomial_any a b w (by omega) (by omega)
theorem l01Binomial_int (n k : Int) (w : World) (h0 : 0 ≤ n) (h1 : n ≤ 60) (h2 : 0 ≤ k) (h3 : k ≤ 60) :
    Calls Try.prog 101 #[.int .i64 n, .int .i64 k] w fun e w' => e = .returned (.int .i64 (binN n k)) ∧ Below w.heap.size w w' := by
  by_cases h : n < k
  · have HF := Lib.hid (binN_lt h)
    go_enter Try.func101, Try.ntmps101
    go_wp2
    go_ret
    exact ⟨by rw [HF.out]; rfl, Below.refl _ _⟩
  · obtain ⟨a, rfl⟩ := Int.eq_ofNat_of_zero_le h0
    obtain ⟨b, rfl⟩ := Int.eq_ofNat_of_zero_le h2
    rw [binN_ge h]
    exact l01Binomial_any a b w (by omega) (by omega)
def binR (n k : Int) : Int × Int := if inB n 0 60 = false ∨ inB k 0 60 = false then (0, 2) else (binN n k, 0)
theorem iBinomialNumber_any (n k : Int) (w : World) : Calls Try.prog 30 #[.int .i64 n, .int .i64 k] w fun e w' => e = .returned (.tuple #[.int .i64 (binR n k).1, .int .i64 (binR n k).2]) ∧ Below w.heap.size w w' := by
  cases hn : inB n 0 60
  · have HF : Hid (binR n k = (0, 2)) := by simp [Hid, binR, hn]
    have HN := Lib.hid hn
    clear hn
    go_enter Try.func30, Try.ntmps30
    go_wp2_with (go_at_call 93; refine (in_any n _ _ _).mono ?_; rintro e w' ⟨rfl, k', rfl⟩; rw [HN.out])
    go_ret2
    exact ⟨by rw [HF.out]; rfl, below_drewN (Below.refl _ _) _⟩
  · obtain ⟨h1, h2⟩ := inB_true.1 hn
    cases hk : inB k 0 60
    · have HF : Hid (binR n k = (0, 2)) := by simp [Hid, binR, hn, hk]
      have HN := Lib.hid hn
      have HK := Lib.hid hk
      clear hn hk
      go_enter Try.func30, Try.ntmps30
      go_wp2_with fail
      refine (in_any n _ _ _).mono ?_
      rintro e w' ⟨rfl, k', rfl⟩
      rw [HN.out]
      go_wp2_with fail
      refine (in_any k _ _ _).mono ?_
      rintro e w' ⟨rfl, k'', rfl⟩
      rw [HK.out]
      go_wp2
      go_ret2
      exact ⟨by rw [HF.out]; rfl, below_drewN (Below.refl _ _) _⟩
    · obtain ⟨h3, h4⟩ := inB_true.1 hk
      have HF : Hid (binR n k = (binN n k, 0)) := by simp [Hid, binR, hn, hk]
      have HN := Lib.hid hn
      have HK := Lib.hid hk
      clear hn hk
      go_enter Try.func30, Try.ntmps30
      go_wp2_with fail
      refine (in_any n _ _ _).mono ?_
      rintro e w' ⟨rfl, k', rfl⟩
      rw [HN.out]
      go_wp2_with fail
      refine (in_any k _ _ _).mono ?_
      rintro e w' ⟨rfl, k'', rfl⟩
      rw [HK.out]
      go_wp2_with (go_at_call 100; refine (binomial_int n k _ (by omega) (by omega) (by omega) (by omega)).mono ?_; rintro e w' ⟨rfl, hb⟩)
      go_ret2
      exact ⟨by rw [HF.out]; rfl, (below_drewN (Below.refl _ _) _).trans hb⟩
theorem sBinomialNumber_any (n k : Int) (w : World) : Calls Try.prog 31 #[.int .i64 n, .int .i64 k] w fun e w' => e = .returned (.tuple #[.int .i64 (binR n k).1, .int .i64 (binR n k).2]) ∧ Below w.heap.size w w' := by
  cases hn : inB n 0 60
  · have HF : Hid (binR n k = (0, 2)) := by simp [Hid, binR, hn]
    have HN := Lib.hid hn
    clear hn
    go_enter Try.func31, Try.ntmps31
    go_wp2_with (go_at_call 75; refine (l01In_any n _ _ _).mono ?_; rintro e w' ⟨rfl, k', rfl⟩; rw [HN.out])
    go_ret2
    exact ⟨by rw [HF.out]; rfl, below_drewN (Below.refl _ _) _⟩
  · obtain ⟨h1, h2⟩ := inB_true.1 hn
    cases hk : inB k 0 60
    · have HF : Hid (binR n k = (0, 2)) := by simp [Hid, binR, hn, hk]
      have HN := Lib.hid hn
      have HK := Lib.hid hk
      clear hn hk
      go_enter Try.func31, Try.ntmps31
      go_wp2_with fail
      refine (l01In_any n _ _ _).mono ?_
      rintro e w' ⟨rfl, k', rfl⟩
      rw [HN.out]
      go_wp2_with fail
      refine (l01In_any k _ _ _).mono ?_
      rintro e w' ⟨rfl, k'', rfl⟩
      rw [HK.out]
      go_wp2
      go_ret2
      exact ⟨by rw [HF.out]; rfl, below_drewN (Below.refl _ _) _⟩
    · obtain ⟨h3, h4⟩ := inB_true.1 hk
      have HF : Hid (binR n k = (binN n k, 0)) := by simp [Hid, binR, hn, hk]
      have HN := Lib.hid hn
      have HK := Lib.hid hk
      clear hn hk
      go_enter Try.func31, Try.ntmps31
      go_wp2_with fail
      refine (l01In_any n _ _ _).mono ?_
      rintro e w' ⟨rfl, k', rfl⟩
      rw [HN.out]
      go_wp2_with fail
      refine (l01In_any k _ _ _).mono ?_
      rintro e w' ⟨rfl, k'', rfl⟩
      rw [HK.out]
      go_wp2_with (go_at_call 101; refine (l01Binomial_int n k _ (by omega) (by omega) (by omega) (by omega)).mono ?_; rintro e w' ⟨rfl, hb⟩)
      go_ret2
      exact ⟨by rw [HF.out]; rfl, (below_drewN (Below.refl _ _) _).trans hb⟩
/-- The greatest common divisor of the binomial numbers below 1, .., k - 1. -/
def lazN (n : Int) : Nat → Int
  | 0 => 0
  | 1 => 0
  | k + 2 => (Int.gcd (lazN n (k + 1)) (binN n ((k + 1 : Nat) : Int)) : Int)
theorem lazN_succ (n : Int) {k : Nat} (hk : 1 ≤ k) : lazN n (k + 1) = (Int.gcd (lazN n k) (binN n (k : Int)) : Int) := by
  obtain ⟨j, rfl⟩ : ∃ j, k = j + 1 := ⟨k - 1, by omega⟩
  rfl
theorem gcd_le_of {a b c : Int} (ha : 0 ≤ a ∧ a ≤ c) (hb : 0 ≤ b ∧ b ≤ c) : 0 ≤ (Int.gcd a b : Int) ∧ (Int.gcd a b : Int) ≤ c := by
  refine ⟨Int.natCast_nonneg _, ?_⟩
  unfold Int.gcd
  by_cases h : a.natAbs = 0
  · rw [h, Nat.gcd_zero_left]; omega
  · have := Nat.gcd_le_left b.natAbs (Nat.pos_of_ne_zero h)
    omega
theorem lazN_bd (n : Int) (h : n ≤ 60) (k : Nat) : 0 ≤ lazN n k ∧ lazN n k ≤ 1152921504606846976 := by
  induction k with
  | zero => simp [lazN]
  | succ k ih =>
    by_cases hk : 1 ≤ k
    · rw [lazN_succ n hk]; exact gcd_le_of ih (binN_bd h)
    · obtain rfl : k = 0 := by omega
      simp [lazN]
theorem binomialDivisor_any (n : Int) (w : World) (h1 : 2 ≤ n) (h2 : n ≤ 60) : Calls Try.prog 102 #[.int .i64 n] w fun e w' => e = .returned (.int .i64 (lazN n n.toNat)) ∧ Below w.heap.size w w' := by
  go_enter Try.func102, Try.ntmps102
  go_wp2
  go_loopw [3, 4] (fun d t wr => ∃ k : Nat, 1 ≤ k ∧ (k : Int) ≤ n ∧ t = .int .i64 k ∧ d = .int .i64 (lazN n k) ∧ Below w.heap.size w wr) (fun _ t _ => (n - intOf t).toNat)
  case atStart => exact ⟨1, by omega, by omega, rfl, rfl, Below.refl _ _⟩
  case round =>
    obtain ⟨k, hk1, hk2, rfl, rfl, hb⟩ := hrel
    have hz := hb.size
    have hl := lazN_bd n h2 k
    have hbn := binN_bd (n := n) (k := (k : Int)) h2
    by_cases hlt : (k : Int) < n
    · have HS := Lib.hid (lazN_succ n hk1)
      go_wp2_with (first | (go_at_call 100; refine (binomial_int n k _ (by omega) (by omega) (by omega) (by omega)).mono ?_; rintro e w1 ⟨rfl, hb1⟩) | (go_at_call 119; refine (gcd_any _ _ _ (by omega) (by omega) (by omega) (by omega)).mono ?_; rintro e w2 ⟨rfl, k2, rfl⟩))
      go_roundw
      case rel => exact ⟨k + 1, by omega, by omega, by go_num, by rw [HS.out], below_drewN (hb.trans (hb1.mono hz)) _⟩
      case measure => simp [intOf]; omega
    · have hkn : Hid (n.toNat = k) := by unfold Hid; omega
      go_wp2
      go_ret
      exact ⟨by rw [hkn.out]; rfl, hb⟩
theorem l01Lazard_any (n : Int) (w : World) (h1 : 2 ≤ n) (h2 : n ≤ 60) : Calls Try.prog 103 #[.int .i64 n] w fun e w' => e = .returned (.int .i64 (lazN n n.toNat)) ∧ Below w.heap.size w w' := by
  go_enter Try.func103, Try.ntmps103
  go_wp2
  go_loopw [3, 4] (fun d t wr => ∃ k : Nat, 1 ≤ k ∧ (k : Int) ≤ n ∧ t = .int .i64 k ∧ d = .int .i64 (lazN n k) ∧ Below w.heap.size w wr) (fun _ t _ => (n - intOf t).toNat)
  case atStart => exact ⟨1, by omega, by omega, rfl, rfl, Below.refl _ _⟩
  case round =>
    obtain ⟨k, hk1, hk2, rfl, rfl, hb⟩ := hrel
    have hz := hb.size
    have hl := lazN_bd n h2 k
    have hbn := binN_bd (n := n) (k := (k : Int)) h2
    by_cases hlt : (k : Int) < n
    · have HS := Lib.hid (lazN_succ n hk1)
      go_wp2_with (first | (go_at_call 101; refine (l01Binomial_int n k _ (by omega) (by omega) (by omega) (by omega)).mono ?_; rintro e w1 ⟨rfl, hb1⟩) | (go_at_call 150; refine (l01Gcd_any _ _ _ (by omega) (by omega) (by omega) (by omega)).mono ?_; rintro e w2 ⟨rfl, k2, rfl⟩))
      go_roundw
      case rel => exact ⟨k + 1, by omega, by omega, by go_num, by rw [HS.out], below_drewN (hb.trans (hb1.mono hz)) _⟩
      case measure => simp [intOf]; omega
    · have hkn : Hid (n.toNat = k) := by unfold Hid; omega
      go_wp2
      go_ret
      exact ⟨by rw [hkn.out]; rfl, hb⟩
def lazR (n : Int) : Int × Int := if inB n 2 60 = false then (0, 2) else (lazN n n.toNat, 0)
theorem iBinomialDivisor_any (n : Int) (w : World) : Calls Try.prog 33 #[.int .i64 n] w fun e w' => e = .returned (.tuple #[.int .i64 (lazR n).1, .int .i64 (lazR n).2]) ∧ Below w.heap.size w w' := by
  cases hn : inB n 2 60
  · have HF : Hid (lazR n = (0, 2)) := by simp [Hid, lazR, hn]
    have HN := Lib.hid hn
    clear hn
    go_enter Try.func33, Try.ntmps33
    go_wp2_with (go_at_call 93; refine (in_any n _ _ _).mono ?_; rintro e w' ⟨rfl, k', rfl⟩; rw [HN.out])
    go_ret2
    exact ⟨by rw [HF.out]; rfl, below_drewN (Below.refl _ _) _⟩
  · obtain ⟨h1, h2⟩ := inB_true.1 hn
    have HF : Hid (lazR n = (lazN n n.toNat, 0)) := by simp [Hid, lazR, hn]
    have HN := Lib.hid hn
    clear hn
    go_enter Try.func33, Try.ntmps33
    go_wp2_with (first | (go_at_call 93; refine (in_any n _ _ _).mono ?_; rintro e w' ⟨rfl, k', rfl⟩; rw [HN.out]) | (go_at_call 102; refine (binomialDivisor_any n _ h1 h2).mono ?_; rintro e w' ⟨rfl, hb⟩))
    go_ret2
    exact ⟨by rw [HF.out]; rfl, (below_drewN (Below.refl _ _) _).trans hb⟩
theorem sBinomialDivisor_any (n : Int) (w : World) : Calls Try.prog 34 #[.int .i64 n] w fun e w' => e = .returned (.tuple #[.int .i64 (lazR n).1, .int .i64 (lazR n).2]) ∧ Below w.heap.size w w' := by
  cases hn : inB n 2 60
  · have HF : Hid (lazR n = (0, 2)) := by simp [Hid, lazR, hn]
    have HN := Lib.hid hn
    clear hn
    go_enter Try.func34, Try.ntmps34
    go_wp2_with (go_at_call 75; refine (l01In_any n _ _ _).mono ?_; rintro e w' ⟨rfl, k', rfl⟩; rw [HN.out])
    go_ret2
    exact ⟨by rw [HF.out]; rfl, below_drewN (Below.refl _ _) _⟩
  · obtain ⟨h1, h2⟩ := inB_true.1 hn
    have HF : Hid (lazR n = (lazN n n.toNat, 0)) := by simp [Hid, lazR, hn]
    have HN := Lib.hid hn
    clear hn
    go_enter Try.func34, Try.ntmps34
    go_wp2_with (first | (go_at_call 75; refine (l01In_any n _ _ _).mono ?_; rintro e w' ⟨rfl, k', rfl⟩; rw [HN.out]) | (go_at_call 103; refine (l01Lazard_any n _ h1 h2).mono ?_; rintro e w' ⟨rfl, hb⟩))
    go_ret2
    exact ⟨by rw [HF.out]; rfl, (below_drewN (Below.refl _ _) _).trans hb⟩

/-! ### Units, inverses, powers, orders -/
theorem OwnI.lit1' (w : World) (a : Int) : OwnI (w.alloc (.cells #[.int .i64 a] 2)) 0 (.slice (some ⟨w.heap.size, 0, none⟩) 1 1) [a] := OwnI.lit1 w a (Nat.zero_le _)
theorem codeR_zero1 {m a : Int} (h : codeR m [a] = 0) : (2 ≤ m ∧ m ≤ 10000) ∧ (0 ≤ a ∧ a < m) := by
  unfold codeR at h
  cases h1 : isModB m
  · simp [h1] at h
  · cases h2 : numsB m [a]
    · simp [h1, h2] at h
    · simp only [numsB, List.all_cons, List.all_nil, Bool.and_true] at h2
      exact ⟨isModB_true h1, isNumB_true h2⟩
def IsUnitR (m a : Int) : Bool × Int := if codeR m [a] = 0 then (unitB m a, 0) else (false, codeR m [a])
theorem iIsUnit_any (m a : Int) (w : World) : Calls Try.prog 42 #[.int .i64 m, .int .i64 a] w fun e w' => e = .returned (.tuple #[.bool (IsUnitR m a).1, .int .i64 (IsUnitR m a).2]) ∧ Below w.heap.size w w' := by
  by_cases hc : codeR m [a] = 0
  · have HF : IsUnitR m a = (unitB m a, 0) := by simp [IsUnitR, hc]
    rw [HF]
    clear HF
    obtain ⟨⟨h1, h2⟩, h3, h4⟩ := codeR_zero1 hc
    have HC := Lib.hid hc
    clear hc
    go_enter Try.func42, Try.ntmps42
    go_wp2_with (first | (go_at_call 112; refine (modular_any m _ _ [a] 0 (OwnI.lit1' _ a)).mono ?_; rintro e w1 ⟨rfl, hb⟩; rw [HC.out]) | (go_at_call 113; refine (isUnit_any _ _ _ (by omega) (by omega) (by omega) (by omega)).mono ?_; rintro e w2 ⟨rfl, k, rfl⟩))
    go_ret2
    exact ⟨rfl, below_drewN (((Below.refl _ _).alloc (Nat.le_refl _) _).trans (hb.mono (by simp))) _⟩
  · have HF : IsUnitR m a = (false, codeR m [a]) := by simp [IsUnitR, hc]
    rw [HF]
    clear HF
    have h1 : (codeR m [a] != 0) = true := by simpa using hc
    clear hc
    go_enter Try.func42, Try.ntmps42
    go_wp2_with (go_at_call 112; refine (modular_any m _ _ [a] 0 (OwnI.lit1' _ a)).mono ?_; rintro e w1 ⟨rfl, hb⟩)
    go_ret2
    exact ⟨rfl, ((Below.refl _ _).alloc (Nat.le_refl _) _).trans (hb.mono (by simp))⟩
theorem sIsUnit_any (m a : Int) (w : World) : Calls Try.prog 43 #[.int .i64 m, .int .i64 a] w fun e w' => e = .returned (.tuple #[.bool (IsUnitR m a).1, .int .i64 (IsUnitR m a).2]) ∧ Below w.heap.size w w' := by
  by_cases hc : codeR m [a] = 0
  · have HF : IsUnitR m a = (unitB m a, 0) := by simp [IsUnitR, hc]
    rw [HF]
    clear HF
    obtain ⟨⟨h1, h2⟩, h3, h4⟩ := codeR_zero1 hc
    have HC := Lib.hid hc
    clear hc
    go_enter Try.func43, Try.ntmps43
    go_wp2_with (first | (go_at_call 114; refine (l01Code_any m _ _ [a] 0 (OwnI.lit1' _ a)).mono ?_; rintro e w1 ⟨rfl, k1, rfl⟩; rw [HC.out]) | (go_at_call 115; refine (l01Unit_any _ _ _ (by omega) (by omega) (by omega) (by omega)).mono ?_; rintro e w2 ⟨rfl, k, rfl⟩))
    go_ret2
    exact ⟨rfl, by (repeat (first | assumption | exact Below.refl _ _ | refine Below.alloc ?_ (by first | omega | (simp; done) | (simp; omega)) _ | refine Below.setCell ?_ (by first | omega | (simp; done) | (simp; omega)) _ | refine below_drewN ?_ _))⟩
  · have HF : IsUnitR m a = (false, codeR m [a]) := by simp [IsUnitR, hc]
    rw [HF]
    clear HF
    have h1 : (codeR m [a] != 0) = true := by simpa using hc
    clear hc
    go_enter Try.func43, Try.ntmps43
    go_wp2_with (go_at_call 114; refine (l01Code_any m _ _ [a] 0 (OwnI.lit1' _ a)).mono ?_; rintro e w1 ⟨rfl, k1, rfl⟩)
    go_ret2
    exact ⟨rfl, by (repeat (first | assumption | exact Below.refl _ _ | refine Below.alloc ?_ (by first | omega | (simp; done) | (simp; omega)) _ | refine Below.setCell ?_ (by first | omega | (simp; done) | (simp; omega)) _ | refine below_drewN ?_ _))⟩
def unitC (m a : Int) : Int := if codeR m [a] = 0 then (if unitB m a = false then 5 else 0) else codeR m [a]
theorem unitC_zero {m a : Int} (h : unitC m a = 0) : codeR m [a] = 0 ∧ unitB m a = true := by
  unfold unitC at h
  by_cases hc : codeR m [a] = 0
  · rw [if_pos hc] at h
    refine ⟨hc, ?_⟩
    cases hu : unitB m a
    · simp [hu] at h
    · rfl
  · rw [if_neg hc] at h; exact absurd h hc
theorem unit_any (m a : Int) (w : World) : Calls Try.prog 108 #[.int .i64 m, .int .i64 a] w fun e w' => e = .returned (.int .i64 (unitC m a)) ∧ Below w.heap.size w w' := by
  by_cases hc : codeR m [a] = 0
  · obtain ⟨⟨h1, h2⟩, h3, h4⟩ := codeR_zero1 hc
    have HC := Lib.hid hc
    cases hu : unitB m a
    · have HF : unitC m a = 5 := by simp [unitC, hc, hu]
      rw [HF]
      clear HF hc
      have HU := Lib.hid hu
      clear hu
      go_enter Try.func108, Try.ntmps108
      go_wp2_with (first | (go_at_call 112; refine (modular_any m _ _ [a] 0 (OwnI.lit1' _ a)).mono ?_; rintro e w1 ⟨rfl, hb⟩; rw [HC.out]) | (go_at_call 113; refine (isUnit_any _ _ _ (by omega) (by omega) (by omega) (by omega)).mono ?_; rintro e w2 ⟨rfl, k, rfl⟩; rw [HU.out]))
      go_ret
      exact ⟨rfl, below_drewN (((Below.refl _ _).alloc (Nat.le_refl _) _).trans (hb.mono (by simp))) _⟩
    · have HF : unitC m a = 0 := by simp [unitC, hc, hu]
      rw [HF]
      clear HF hc
      have HU := Lib.hid hu
      clear hu
      go_enter Try.func108, Try.ntmps108
      go_wp2_with (first | (go_at_call 112; refine (modular_any m _ _ [a] 0 (OwnI.lit1' _ a)).mono ?_; rintro e w1 ⟨rfl, hb⟩; rw [HC.out]) | (go_at_call 113; refine (isUnit_any _ _ _ (by omega) (by omega) (by omega) (by omega)).mono ?_; rintro e w2 ⟨rfl, k, rfl⟩; rw [HU.out]))
      go_ret
      exact ⟨rfl, below_drewN (((Below.refl _ _).alloc (Nat.le_refl _) _).trans (hb.mono (by simp))) _⟩
  · have HF : unitC m a = codeR m [a] := by simp [unitC, hc]
    rw [HF]
    clear HF
    have h1 : (codeR m [a] != 0) = true := by simpa using hc
    clear hc
    go_enter Try.func108, Try.ntmps108
    go_wp2_with (go_at_call 112; refine (modular_any m _ _ [a] 0 (OwnI.lit1' _ a)).mono ?_; rintro e w1 ⟨rfl, hb⟩)
    go_ret
    exact ⟨rfl, ((Below.refl _ _).alloc (Nat.le_refl _) _).trans (hb.mono (by simp))⟩
theorem l01Units_any (m a : Int) (w : World) : Calls Try.prog 110 #[.int .i64 m, .int .i64 a] w fun e w' => e = .returned (.int .i64 (unitC m a)) ∧ Below w.heap.size w w' := by
  by_cases hc : codeR m [a] = 0
  · obtain ⟨⟨h1, h2⟩, h3, h4⟩ := codeR_zero1 hc
    have HC := Lib.hid hc
    cases hu : unitB m a
    · have HF : unitC m a = 5 := by simp [unitC, hc, hu]
      rw [HF]
      clear HF hc
      have HU := Lib.hid hu
      clear hu
      go_enter Try.func110, Try.ntmps110
      go_wp2_with (first | (go_at_call 114; refine (l01Code_any m _ _ [a] 0 (OwnI.lit1' _ a)).mono ?_; rintro e w1 ⟨rfl, k1, rfl⟩; rw [HC.out]) | (go_at_call 115; refine (l01Unit_any _ _ _ (by omega) (by omega) (by omega) (by omega)).mono ?_; rintro e w2 ⟨rfl, k, rfl⟩; rw [HU.out]))
      go_ret
      exact ⟨rfl, by (repeat (first | assumption | exact Below.refl _ _ | refine Below.alloc ?_ (by first | omega | (simp; done) | (simp; omega)) _ | refine Below.setCell ?_ (by first | omega | (simp; done) | (simp; omega)) _ | refine below_drewN ?_ _))⟩
    · have HF : unitC m a = 0 := by simp [unitC, hc, hu]
      rw [HF]
      clear HF hc
      have HU := Lib.hid hu
      clear hu
      go_enter Try.func110, Try.ntmps110
      go_wp2_with (first | (go_at_call 114; refine (l01Code_any m _ _ [a] 0 (OwnI.lit1' _ a)).mono ?_; rintro e w1 ⟨rfl, k1, rfl⟩; rw [HC.out]) | (go_at_call 115; refine (l01Unit_any _ _ _ (by omega) (by omega) (by omega) (by omega)).mono ?_; rintro e w2 ⟨rfl, k, rfl⟩; rw [HU.out]))
      go_ret
      exact ⟨rfl, by (repeat (first | assumption | exact Below.refl _ _ | refine Below.alloc ?_ (by first | omega | (simp; done) | (simp; omega)) _ | refine Below.setCell ?_ (by first | omega | (simp; done) | (simp; omega)) _ | refine below_drewN ?_ _))⟩
  · have HF : unitC m a = codeR m [a] := by simp [unitC, hc]
    rw [HF]
    clear HF
    have h1 : (codeR m [a] == 0) = false := by simpa using hc
    clear hc
    go_enter Try.func110, Try.ntmps110
    go_wp2_with (go_at_call 114; refine (l01Code_any m _ _ [a] 0 (OwnI.lit1' _ a)).mono ?_; rintro e w1 ⟨rfl, k1, rfl⟩)
    go_ret
    exact ⟨rfl, by (repeat (first | assumption | exact Below.refl _ _ | refine Below.alloc ?_ (by first | omega | (simp; done) | (simp; omega)) _ | refine Below.setCell ?_ (by first | omega | (simp; done) | (simp; omega)) _ | refine below_drewN ?_ _))⟩
/-! Euclid's algorithm with the coefficients. -/
def eu : Nat → Int → Int → Int → Int → Int
  | 0, _, _, x, _ => x
  | n + 1, r, s, x, y => if s = 0 then x else eu n s (r - r / s * s) y (x - r / s * y)
theorem eu_zero (n : Nat) (r x y : Int) : eu n r 0 x y = x := by cases n <;> simp [eu]
theorem rest_bd {r s : Int} (hs : 0 < s) : 0 ≤ r - r / s * s ∧ r - r / s * s < s := by
  have h1 := Int.emod_nonneg r (show s ≠ 0 by omega)
  have h2 := Int.emod_lt_of_pos r hs
  have h3 := Int.emod_def r s
  rw [Int.mul_comm] at h3
  omega
theorem eu_stable : ∀ (n k : Nat) (r s x y : Int), 0 ≤ s → s.toNat < n → s.toNat < k → eu n r s x y = eu k r s x y
  | 0, _, _, _, _, _, _, h, _ => by omega
  | _ + 1, 0, _, _, _, _, _, _, h => by omega
  | n + 1, k + 1, r, s, x, y, h0, h1, h2 => by
    by_cases hs : s = 0
    · simp [eu, hs]
    · have hb := rest_bd (r := r) (show 0 < s by omega)
      simp only [eu, if_neg hs]
      exact eu_stable n k _ _ _ _ hb.1 (by omega) (by omega)
theorem eu_step {r s x y X : Int} (h : ∀ n, s.toNat < n → eu n r s x y = X) (hs : 0 < s) : ∀ n, (r - r / s * s).toNat < n → eu n s (r - r / s * s) y (x - r / s * y) = X := by
  intro n hn
  have hb := rest_bd (r := r) hs
  have h1 := h (s.toNat + 1) (by omega)
  rw [eu, if_neg (by omega)] at h1
  rw [← h1]
  exact eu_stable _ _ _ _ _ _ hb.1 hn (by omega)
theorem eu_inv {m r s x y : Int} (hr : 0 < r) (hs : 0 < s) (h : (x.natAbs : Int) * s + (y.natAbs : Int) * r ≤ m) :
    (y.natAbs : Int) * (r - r / s * s) + ((x - r / s * y).natAbs : Int) * s ≤ m ∧ (y.natAbs : Int) ≤ m ∧ (x.natAbs : Int) ≤ m ∧ 0 ≤ r / s * s ∧ r / s * s ≤ r ∧ ((r / s * y).natAbs : Int) ≤ m := by
  have q0 : 0 ≤ r / s := Int.ediv_nonneg (by omega) (by omega)
  have qs : r / s * s ≤ r := Int.ediv_mul_le r (by omega)
  have qs0 : 0 ≤ r / s * s := Int.mul_nonneg q0 (by omega)
  generalize r / s = q at *
  have e1 : ((q * y).natAbs : Int) = q * (y.natAbs : Int) := by rw [Int.natAbs_mul]; simp [Int.natAbs_of_nonneg q0]
  have t1 : ((x - q * y).natAbs : Int) ≤ (x.natAbs : Int) + q * (y.natAbs : Int) := by
    have h2 := Int.natAbs_sub_le x (q * y)
    rw [← e1]
    omega
  have x0 : (0 : Int) ≤ (x.natAbs : Int) := by omega
  have y0 : (0 : Int) ≤ (y.natAbs : Int) := by omega
  generalize hX : (x.natAbs : Int) = X at *
  generalize hY : (y.natAbs : Int) = Y at *
  generalize ((x - q * y).natAbs : Int) = Z at *
  have t2 : Z * s ≤ (X + q * Y) * s := Int.mul_le_mul_of_nonneg_right t1 (by omega)
  have t3 : (X + q * Y) * s = X * s + Y * (q * s) := by rw [Int.add_mul, Int.mul_comm q Y, Int.mul_assoc]
  have t4 : Y * (r - q * s) = Y * r - Y * (q * s) := Int.mul_sub _ _ _
  have t5 : 0 ≤ X * s := Int.mul_nonneg x0 (by omega)
  have t6 : 0 ≤ Y * r := Int.mul_nonneg y0 (by omega)
  have t7 : Y * 1 ≤ Y * r := Int.mul_le_mul_of_nonneg_left (by omega) y0
  have t8 : X * 1 ≤ X * s := Int.mul_le_mul_of_nonneg_left (by omega) x0
  have t9 : Y * (q * s) ≤ Y * r := Int.mul_le_mul_of_nonneg_left qs y0
  have t10 : q * Y ≤ Y * (q * s) := by
    have : Y * q * 1 ≤ Y * q * s := Int.mul_le_mul_of_nonneg_left (by omega) (Int.mul_nonneg y0 q0)
    rw [Int.mul_assoc Y q s, Int.mul_one, Int.mul_comm Y q] at this
    exact this
  refine ⟨by omega, by omega, by omega, qs0, qs, ?_⟩
  rw [e1]
  omega
def invN (m a : Int) : Int := eu ((a % m).toNat + 1) m (a % m) 0 1 % m
theorem inverse_any (m a : Int) (w : World) (hm : 2 ≤ m) (hm' : m ≤ 1000000000000000) : Calls Try.prog 109 #[.int .i64 m, .int .i64 a] w fun e w' => e = .returned (.int .i64 (invN m a)) ∧ ∃ n, w' = w.drewN n := by
  have hc1 := Int.emod_nonneg a (show m ≠ 0 by omega)
  have hc2 := Int.emod_lt_of_pos a (show 0 < m by omega)
  obtain ⟨X, hX⟩ : ∃ X, X = eu ((a % m).toNat + 1) m (a % m) 0 1 := ⟨_, rfl⟩
  have HI : Hid (invN m a = X % m) := by unfold Hid invN; rw [← hX]
  have H0 : Hid (∀ n, (a % m).toNat < n → eu n m (a % m) 0 1 = X) := fun n hn => by rw [hX]; exact eu_stable _ _ _ _ _ _ hc1 hn (by omega)
  clear hX
  go_enter Try.func109, Try.ntmps109
  go_wp2_with (go_at_call 85; refine (mod_any _ _ _ (by omega) (by omega)).mono ?_; rintro e w1 ⟨rfl, k1, rfl⟩)
  generalize a % m = c at *
  go_loopw [5, 6, 7, 8] (fun tx ty tr ts wr => ∃ x y r s : Int, tx = .int .i64 x ∧ ty = .int .i64 y ∧ tr = .int .i64 r ∧ ts = .int .i64 s ∧ 0 < r ∧ r ≤ m ∧ 0 ≤ s ∧ s < r ∧ -m ≤ x ∧ x ≤ m ∧ Hid ((x.natAbs : Int) * s + (y.natAbs : Int) * r ≤ m) ∧ Hid (∀ n, s.toNat < n → eu n r s x y = X) ∧ ∃ n, wr = w.drewN n)
    (fun _ _ _ ts _ => (intOf ts).toNat)
  case atStart => exact ⟨0, 1, m, c, rfl, rfl, rfl, rfl, by omega, by omega, hc1, hc2, by omega, by omega, (by unfold Hid; simp), H0, _, rfl⟩
  case round =>
    obtain ⟨x, y, r, s, rfl, rfl, rfl, rfl, hr, hr', hs, hsr, hx, hx', hi, hX, n, rfl⟩ := hrel
    by_cases h0 : s = 0
    · subst h0
      have hx0 : x = X := by have := hX.out 1 (by simp); rwa [eu_zero] at this
      subst hx0
      go_wp2_with (go_at_call 85; refine (mod_any _ _ _ (by omega) (by omega)).mono ?_; rintro e w1 ⟨rfl, k2, rfl⟩)
      go_ret
      exact ⟨by rw [HI.out]; rfl, _, rfl⟩
    · have hs0 : 0 < s := by omega
      obtain ⟨i1, i2, i3, i4, i5, i6⟩ := eu_inv hr hs0 hi.out
      have I1 := Lib.hid i1
      have HS := Lib.hid (eu_step hX.out hs0)
      have hb := rest_bd (r := r) hs0
      have hne : (s != 0) = true := by simpa using h0
      have hq0 : 0 ≤ r / s := Int.ediv_nonneg (by omega) (by omega)
      have hq1 : r / s ≤ r := Int.ediv_le_self _ (by omega)
      have i7 : -m ≤ r / s * y ∧ r / s * y ≤ m := by omega
      clear i1 h0 i6
      go_wp2
      go_roundw
      case rel => exact ⟨y, x - r / s * y, s, r - r / s * s, rfl, rfl, rfl, rfl, hs0, by omega, hb.1, hb.2, by omega, by omega, I1.out, HS.out, _, rfl⟩
      case measure => simp [intOf]; omega
theorem l01Inv_any (m a : Int) (w : World) (hm : 2 ≤ m) (hm' : m ≤ 1000000000000000) : Calls Try.prog 111 #[.int .i64 m, .int .i64 a] w fun e w' => e = .returned (.int .i64 (invN m a)) ∧ ∃ n, w' = w.drewN n := by
  have hc1 := Int.emod_nonneg a (show m ≠ 0 by omega)
  have hc2 := Int.emod_lt_of_pos a (show 0 < m by omega)
  obtain ⟨X, hX⟩ : ∃ X, X = eu ((a % m).toNat + 1) m (a % m) 0 1 := ⟨_, rfl⟩
  have HI : Hid (invN m a = X % m) := by unfold Hid invN; rw [← hX]
  have H0 : Hid (∀ n, (a % m).toNat < n → eu n m (a % m) 0 1 = X) := fun n hn => by rw [hX]; exact eu_stable _ _ _ _ _ _ hc1 hn (by omega)
  clear hX
  go_enter Try.func111, Try.ntmps111
  go_wp2_with (go_at_call 124; refine (l01Mod_any _ _ _ (by omega) (by omega)).mono ?_; rintro e w1 ⟨rfl, k1, rfl⟩)
  generalize a % m = c at *
  go_loopw [5, 6, 7, 8] (fun tr ts tx ty wr => ∃ x y r s : Int, tx = .int .i64 x ∧ ty = .int .i64 y ∧ tr = .int .i64 r ∧ ts = .int .i64 s ∧ 0 < r ∧ r ≤ m ∧ 0 ≤ s ∧ s < r ∧ -m ≤ x ∧ x ≤ m ∧ Hid ((x.natAbs : Int) * s + (y.natAbs : Int) * r ≤ m) ∧ Hid (∀ n, s.toNat < n → eu n r s x y = X) ∧ ∃ n, wr = w.drewN n)
    (fun _ ts _ _ _ => (intOf ts).toNat)
  case atStart => exact ⟨0, 1, m, c, rfl, rfl, rfl, rfl, by omega, by omega, hc1, hc2, by omega, by omega, (by unfold Hid; simp), H0, _, rfl⟩
  case round =>
    obtain ⟨x, y, r, s, rfl, rfl, rfl, rfl, hr, hr', hs, hsr, hx, hx', hi, hX, n, rfl⟩ := hrel
    by_cases h0 : s = 0
    · subst h0
      have hx0 : x = X := by have := hX.out 1 (by simp); rwa [eu_zero] at this
      subst hx0
      go_wp2_with (go_at_call 124; refine (l01Mod_any _ _ _ (by omega) (by omega)).mono ?_; rintro e w1 ⟨rfl, k2, rfl⟩)
      go_ret
      exact ⟨by rw [HI.out]; rfl, _, rfl⟩
    · have hs0 : 0 < s := by omega
      obtain ⟨i1, i2, i3, i4, i5, i6⟩ := eu_inv hr hs0 hi.out
      have I1 := Lib.hid i1
      have HS := Lib.hid (eu_step hX.out hs0)
      have hb := rest_bd (r := r) hs0
      have hq0 : 0 ≤ r / s := Int.ediv_nonneg (by omega) (by omega)
      have hq1 : r / s ≤ r := Int.ediv_le_self _ (by omega)
      have i7 : -m ≤ r / s * y ∧ r / s * y ≤ m := by omega
      clear i1 h0 i6
      go_wp2
      go_roundw
      case rel => exact ⟨y, x - r / s * y, s, r - r / s * s, rfl, rfl, rfl, rfl, hs0, by omega, hb.1, hb.2, by omega, by omega, I1.out, HS.out, _, rfl⟩
      case measure => simp [intOf]; omega
def InverseModuloR (m a : Int) : Int × Int := if unitC m a = 0 then (invN m a, 0) else (0, unitC m a)
theorem iInverseModulo_any (m a : Int) (w : World) : Calls Try.prog 38 #[.int .i64 m, .int .i64 a] w fun e w' => e = .returned (.tuple #[.int .i64 (InverseModuloR m a).1, .int .i64 (InverseModuloR m a).2]) ∧ Below w.heap.size w w' := by
  by_cases hc : unitC m a = 0
  · have HF : InverseModuloR m a = (invN m a, 0) := by simp [InverseModuloR, hc]
    rw [HF]
    clear HF
    obtain ⟨⟨h1, h2⟩, h3, h4⟩ := codeR_zero1 (unitC_zero hc).1
    have HC := Lib.hid hc
    clear hc
    go_enter Try.func38, Try.ntmps38
    go_wp2_with (first | (go_at_call 108; refine (unit_any m a _).mono ?_; rintro e w1 ⟨rfl, hb⟩; rw [HC.out]) | (go_at_call 109; refine (inverse_any m a _ (by omega) (by omega)).mono ?_; rintro e w2 ⟨rfl, k, rfl⟩))
    go_ret2
    exact ⟨rfl, below_drewN hb _⟩
  · have HF : InverseModuloR m a = (0, unitC m a) := by simp [InverseModuloR, hc]
    rw [HF]
    clear HF
    have h1 : (unitC m a != 0) = true := by simpa using hc
    clear hc
    go_enter Try.func38, Try.ntmps38
    go_wp2_with (go_at_call 108; refine (unit_any m a _).mono ?_; rintro e w1 ⟨rfl, hb⟩)
    go_ret2
    exact ⟨rfl, hb⟩
theorem sInverseModulo_any (m a : Int) (w : World) : Calls Try.prog 39 #[.int .i64 m, .int .i64 a] w fun e w' => e = .returned (.tuple #[.int .i64 (InverseModuloR m a).1, .int .i64 (InverseModuloR m a).2]) ∧ Below w.heap.size w w' := by
  by_cases hc : unitC m a = 0
  · have HF : InverseModuloR m a = (invN m a, 0) := by simp [InverseModuloR, hc]
    rw [HF]
    clear HF
    obtain ⟨⟨h1, h2⟩, h3, h4⟩ := codeR_zero1 (unitC_zero hc).1
    have HC := Lib.hid hc
    clear hc
    go_enter Try.func39, Try.ntmps39
    go_wp2_with (first | (go_at_call 110; refine (l01Units_any m a _).mono ?_; rintro e w1 ⟨rfl, hb⟩; rw [HC.out]) | (go_at_call 111; refine (l01Inv_any m a _ (by omega) (by omega)).mono ?_; rintro e w2 ⟨rfl, k, rfl⟩))
    go_ret2
    exact ⟨rfl, below_drewN hb _⟩
  · have HF : InverseModuloR m a = (0, unitC m a) := by simp [InverseModuloR, hc]
    rw [HF]
    clear HF
    have h1 : (unitC m a != 0) = true := by simpa using hc
    clear hc
    go_enter Try.func39, Try.ntmps39
    go_wp2_with (go_at_call 110; refine (l01Units_any m a _).mono ?_; rintro e w1 ⟨rfl, hb⟩)
    go_ret2
    exact ⟨rfl, hb⟩

/-! ### Powers -/
theorem pow_mod (a m : Int) (n : Nat) : (a % m) ^ n % m = a ^ n % m := by
  induction n with
  | zero => simp
  | succ n ih => rw [Int.pow_succ, Int.pow_succ, Int.mul_emod, ih, Int.emod_emod, ← Int.mul_emod]
theorem sq_pow (x : Int) (j : Nat) : (x * x) ^ j = x ^ (2 * j) := by
  induction j with
  | zero => simp
  | succ j ih => rw [Int.pow_succ, ih, show 2 * (j + 1) = 2 * j + 1 + 1 by omega, Int.pow_succ, Int.pow_succ, Int.mul_assoc]
theorem pow_even (o x m : Int) (j : Nat) : o * (x * x % m) ^ j % m = o * x ^ (2 * j) % m := by
  rw [Int.mul_emod, pow_mod, sq_pow, ← Int.mul_emod]
theorem pow_odd (o x m : Int) (j : Nat) : o * x % m * (x * x % m) ^ j % m = o * x ^ (2 * j + 1) % m := by
  rw [Int.mul_emod, pow_mod, sq_pow, Int.emod_emod, ← Int.mul_emod, Int.pow_succ, Int.mul_assoc, Int.mul_comm x]
theorem mul_bd' {a b m n : Int} (ha : 0 ≤ a) (ha' : a ≤ m) (hb : 0 ≤ b) (hb' : b ≤ n) : 0 ≤ a * b ∧ a * b ≤ m * n := ⟨Int.mul_nonneg ha hb, Int.mul_le_mul ha' hb' hb (by omega)⟩
theorem prod_bd {a b m : Int} (h1 : 0 ≤ a) (h2 : a < m) (h3 : 0 ≤ b) (h4 : b < m) (h5 : m ≤ 3000000000) : 0 ≤ a * b ∧ a * b ≤ 9000000000000000000 := by
  have := mul_bd' h1 (show a ≤ 3000000000 by omega) h3 (show b ≤ 3000000000 by omega)
  omega
theorem mul_any (m a b : Int) (w : World) (hm : 0 < m) (hm' : m ≤ 3000000000) (ha : 0 ≤ a) (ha' : a < m) (hb : 0 ≤ b) (hb' : b < m) : Calls Try.prog 133 #[.int .i64 m, .int .i64 a, .int .i64 b] w fun e w' => e = .returned (.int .i64 (a * b % m)) ∧ w = w' := by
  have hp := prod_bd ha ha' hb hb' hm'
  go_enter Try.func133, Try.ntmps133
  go_wp2
  go_ret
  exact ⟨rfl, rfl⟩
def powN (m a : Int) (k : Nat) : Int := a ^ k % m
theorem power_any (m a : Int) (k : Nat) (w : World) (hm : 2 ≤ m) (hm' : m ≤ 3000000000) (ha : 0 ≤ a) (ha' : a < m) (hk : k ≤ 1000000000000) : Calls Try.prog 117 #[.int .i64 m, .int .i64 a, .int .i64 k] w fun e w' => e = .returned (.int .i64 (powN m a k)) ∧ w = w' := by
  have H1 : Hid ((1 : Int) % m = 1) := Int.emod_eq_of_lt (by omega) (by omega)
  go_enter Try.func117, Try.ntmps117
  go_wp2
  go_loop [1, 2, 7] (fun s1 s2 s3 => ∃ (x o : Int) (j : Nat), s1 = .int .i64 x ∧ s2 = .int .i64 j ∧ s3 = .int .i64 o ∧ 0 ≤ x ∧ x < m ∧ 0 ≤ o ∧ o < m ∧ j ≤ 1000000000000 ∧ Hid (o * x ^ j % m = powN m a k)) (fun _ s2 _ => (intOf s2).toNat)
  case atStart => exact ⟨a, 1, k, rfl, rfl, (by first | rfl | rw [H1.out]), ha, ha', by omega, by omega, hk, by unfold Hid powN; rw [Int.one_mul]⟩
  case round =>
    obtain ⟨x, o, j, rfl, rfl, rfl, hx, hx', ho, ho', hj, hp⟩ := hrel
    have hx2 : 0 ≤ x * x % m := Int.emod_nonneg _ (by omega)
    have hx3 : x * x % m < m := Int.emod_lt_of_pos _ (by omega)
    have ho2 : 0 ≤ o * x % m := Int.emod_nonneg _ (by omega)
    have ho3 : o * x % m < m := Int.emod_lt_of_pos _ (by omega)
    by_cases h0 : j = 0
    · subst h0
      have HF : Hid (powN m a k = o) := by
        have := hp.out
        rw [Int.pow_zero, Int.mul_one, Int.emod_eq_of_lt ho ho'] at this
        exact this.symm
      go_wp2
      go_ret
      exact ⟨by rw [HF.out]; rfl, rfl⟩
    · have hj0 : 0 < j := by omega
      by_cases h1 : j % 2 = 1
      · obtain ⟨i, hi⟩ : ∃ i, j = 2 * i + 1 := ⟨j / 2, by omega⟩
        subst hi
        have HE := Lib.hid (pow_odd o x m i)
        have hb1 : (((2 * i + 1 : Nat) : Int) % 2 == 1) = true := by first | (simp; done) | (simp; omega)
        have hb2 : ((2 * i + 1 : Nat) : Int) / 2 = (i : Int) := by omega
        clear h0 h1
        go_wp2_with (first | (go_at_call_of 133 (.int .i64 o); refine (mul_any m o x _ (by omega) hm' ho ho' hx hx').mono ?_; rintro e w1 ⟨rfl, rfl⟩) | (go_at_call 133; refine (mul_any m _ x _ (by omega) hm' (by assumption) (by assumption) hx hx').mono ?_; rintro e w2 ⟨rfl, rfl⟩))
        go_round
        case rel => exact ⟨x * x % m, o * x % m, i, rfl, by first | rfl | (rw [hb2]) | (simp; done) | (simp; omega), rfl, hx2, hx3, ho2, ho3, by omega, HE.out.trans hp.out⟩
        case measure => simp [intOf]; omega
      · obtain ⟨i, hi⟩ : ∃ i, j = 2 * i := ⟨j / 2, by omega⟩
        subst hi
        have HE := Lib.hid (pow_even o x m i)
        have hb1 : (((2 * i : Nat) : Int) % 2 == 1) = false := by first | (simp; done) | (simp; omega)
        have hb2 : ((2 * i : Nat) : Int) / 2 = (i : Int) := by omega
        clear h0 h1
        go_wp2_with (go_at_call 133; refine (mul_any m x x _ (by omega) hm' hx hx' hx hx').mono ?_; rintro e w2 ⟨rfl, rfl⟩)
        go_round
        case rel => exact ⟨x * x % m, o, i, rfl, by first | rfl | (rw [hb2]) | (simp; done) | (simp; omega), rfl, hx2, hx3, ho, ho', by omega, HE.out.trans hp.out⟩
        case measure => simp [intOf]; omega
def PowerModuloR (m a k : Int) : Int × Int := if codeR m [a] = 0 then (if inB k 0 1000000000000 = false then (0, 2) else (powN m a k.toNat, 0)) else (0, codeR m [a])
theorem iPowerModulo_any (m a k : Int) (w : World) : Calls Try.prog 48 #[.int .i64 m, .int .i64 a, .int .i64 k] w fun e w' => e = .returned (.tuple #[.int .i64 (PowerModuloR m a k).1, .int .i64 (PowerModuloR m a k).2]) ∧ Below w.heap.size w w' := by
  by_cases hc : codeR m [a] = 0
  · obtain ⟨⟨h1, h2⟩, h3, h4⟩ := codeR_zero1 hc
    have HC := Lib.hid hc
    cases hk : inB k 0 1000000000000
    · have HF : PowerModuloR m a k = (0, 2) := by simp [PowerModuloR, hc, hk]
      rw [HF]
      clear HF hc
      have HK := Lib.hid hk
      clear hk
      go_enter Try.func48, Try.ntmps48
      go_wp2_with (first | (go_at_call 112; refine (modular_any m _ _ [a] 0 (OwnI.lit1' _ a)).mono ?_; rintro e w1 ⟨rfl, hb⟩; rw [HC.out]) | (go_at_call 93; refine (in_any _ _ _ _).mono ?_; rintro e w2 ⟨rfl, k2, rfl⟩; rw [HK.out]))
      go_ret2
      exact ⟨rfl, below_drewN (((Below.refl _ _).alloc (Nat.le_refl _) _).trans (hb.mono (by simp))) _⟩
    · have HF : PowerModuloR m a k = (powN m a k.toNat, 0) := by simp [PowerModuloR, hc, hk]
      rw [HF]
      clear HF hc
      obtain ⟨h5, h6⟩ := inB_true.1 hk
      obtain ⟨n, rfl⟩ := Int.eq_ofNat_of_zero_le h5
      rw [Int.toNat_natCast]
      have HK := Lib.hid hk
      clear hk
      go_enter Try.func48, Try.ntmps48
      go_wp2_with (first | (go_at_call 112; refine (modular_any m _ _ [a] 0 (OwnI.lit1' _ a)).mono ?_; rintro e w1 ⟨rfl, hb⟩; rw [HC.out]) | (go_at_call 93; refine (in_any _ _ _ _).mono ?_; rintro e w2 ⟨rfl, k2, rfl⟩; rw [HK.out]) | (go_at_call 117; refine (power_any m a n _ (by omega) (by omega) h3 h4 (by omega)).mono ?_; rintro e w3 ⟨rfl, rfl⟩))
      go_ret2
      exact ⟨rfl, below_drewN (((Below.refl _ _).alloc (Nat.le_refl _) _).trans (hb.mono (by simp))) _⟩
  · have HF : PowerModuloR m a k = (0, codeR m [a]) := by simp [PowerModuloR, hc]
    rw [HF]
    clear HF
    have h1 : (codeR m [a] != 0) = true := by simpa using hc
    clear hc
    go_enter Try.func48, Try.ntmps48
    go_wp2_with (go_at_call 112; refine (modular_any m _ _ [a] 0 (OwnI.lit1' _ a)).mono ?_; rintro e w1 ⟨rfl, hb⟩)
    go_ret2
    exact ⟨rfl, ((Below.refl _ _).alloc (Nat.le_refl _) _).trans (hb.mono (by simp))⟩

/-! ### Orders -/
theorem nodup_lt_length : ∀ (n : Nat) (l : List Nat), l.Nodup → (∀ x ∈ l, x < n) → l.length ≤ n
  | 0, l, _, h => by
    cases l with
    | nil => simp
    | cons x l => exact absurd (h x (by simp)) (by omega)
  | n + 1, l, hn, h => by
    have h1 := nodup_lt_length n (l.erase n) (hn.erase n) fun x hx => by
      have h2 := (hn.mem_erase_iff).1 hx
      have := h x h2.2
      omega
    have h3 := List.length_erase (a := n) (l := l)
    split at h3 <;> omega
theorem pigeon (n : Nat) (f : Nat → Nat) (h : ∀ k, f k < n) : ∃ i j, i < j ∧ j ≤ n ∧ f i = f j := by
  apply Classical.byContradiction
  intro hc
  have h1 : ((List.range (n + 1)).map f).Nodup := by
    rw [List.Nodup, List.pairwise_map]
    refine List.Pairwise.imp_of_mem ?_ (List.pairwise_lt_range (n := n + 1))
    intro i j hi hj hij he
    have : j < n + 1 := List.mem_range.1 hj
    exact hc ⟨i, j, hij, by omega, he⟩
  have h2 := nodup_lt_length n _ h1 (by intro x hx; obtain ⟨k, _, rfl⟩ := List.mem_map.1 hx; exact h k)
  simp at h2
  omega
theorem order_exists (m a : Nat) (hm : 2 ≤ m) (hg : Nat.gcd a m = 1) : ∃ N, 1 ≤ N ∧ N ≤ m ∧ a ^ N % m = 1 := by
  obtain ⟨i, j, hij, hj, he⟩ := pigeon m (fun k => a ^ k % m) (fun k => Nat.mod_lt _ (by omega))
  refine ⟨j - i, by omega, by omega, ?_⟩
  have h0 : 0 < a := by
    rcases Nat.eq_zero_or_pos a with h | h
    · subst h; simp at hg; omega
    · exact h
  have h1 : (a ^ j - a ^ i) % m = 0 := Nat.sub_mod_eq_zero_of_mod_eq he.symm
  have h2 : a ^ j - a ^ i = a ^ i * (a ^ (j - i) - 1) := by
    rw [Nat.mul_sub, Nat.mul_one, ← Nat.pow_add]
    congr 2
    omega
  rw [h2] at h1
  have hc : Nat.Coprime m (a ^ i) := (Nat.Coprime.pow_left i (show Nat.Coprime a m from hg)).symm
  have h3 : m ∣ a ^ (j - i) - 1 := Nat.Coprime.dvd_of_dvd_mul_left hc (Nat.dvd_of_mod_eq_zero h1)
  have h4 : 1 ≤ a ^ (j - i) := Nat.pow_pos h0
  obtain ⟨t, ht⟩ := h3
  have h5 : a ^ (j - i) = 1 + m * t := by omega
  rw [h5, Nat.add_mul_mod_self_left]
  exact Nat.mod_eq_of_lt (by omega)
def OrdP (m a : Int) (k : Nat) : Prop := 1 ≤ k ∧ powN m a k = 1 ∧ ∀ j, 1 ≤ j → j < k → powN m a j ≠ 1
noncomputable def ordN (m a : Int) : Nat := Classical.epsilon (OrdP m a)
theorem ordN_eq {m a : Int} {k : Nat} (h : OrdP m a k) : ordN m a = k := by
  have h1 : OrdP m a (ordN m a) := Classical.epsilon_spec (p := OrdP m a) ⟨k, h⟩
  rcases Nat.lt_trichotomy (ordN m a) k with h2 | h2 | h2
  · exact absurd h1.2.1 (h.2.2 _ h1.1 h2)
  · exact h2
  · exact absurd h.2.1 (h1.2.2 _ h.1 h2)
theorem powN_cast (m a k : Nat) : powN (m : Int) (a : Int) k = ((a ^ k % m : Nat) : Int) := by
  unfold powN; push_cast; rfl
theorem order_bound {m a : Int} (hm : 2 ≤ m) (ha : 0 ≤ a) (hu : unitB m a = true) : ∃ N : Nat, 1 ≤ N ∧ (N : Int) ≤ m ∧ powN m a N = 1 := by
  obtain ⟨m', rfl⟩ := Int.eq_ofNat_of_zero_le (show 0 ≤ m by omega)
  obtain ⟨a', rfl⟩ := Int.eq_ofNat_of_zero_le ha
  unfold unitB at hu
  simp only [beq_iff_eq] at hu
  have hg : Nat.gcd a' m' = 1 := by
    have : Int.gcd (a' : Int) (m' : Int) = Nat.gcd a' m' := by simp [Int.gcd]
    omega
  obtain ⟨N, h1, h2, h3⟩ := order_exists m' a' (by omega) hg
  exact ⟨N, h1, by omega, by rw [powN_cast, h3]; rfl⟩
theorem powN_bd {m a : Int} {k : Nat} (hm : 2 ≤ m) : 0 ≤ powN m a k ∧ powN m a k < m := ⟨Int.emod_nonneg _ (by omega), Int.emod_lt_of_pos _ (by omega)⟩
theorem powN_succ (m a : Int) (k : Nat) : powN m a (k + 1) = powN m a k * a % m := by
  unfold powN
  rw [Int.pow_succ, Int.mul_emod]
  conv => rhs; rw [Int.mul_emod, Int.emod_emod]
noncomputable def OrderModuloR (m a : Int) : Int × Int := if unitC m a = 0 then ((ordN m a : Int), 0) else (0, unitC m a)
theorem iOrderModulo_any (m a : Int) (w : World) : Calls Try.prog 40 #[.int .i64 m, .int .i64 a] w fun e w' => e = .returned (.tuple #[.int .i64 (OrderModuloR m a).1, .int .i64 (OrderModuloR m a).2]) ∧ Below w.heap.size w w' := by
  by_cases hc : unitC m a = 0
  · obtain ⟨hc1, hc2⟩ := unitC_zero hc
    obtain ⟨⟨h1, h2⟩, h3, h4⟩ := codeR_zero1 hc1
    obtain ⟨N, hN1, hN2, hN3⟩ := order_bound h1 h3 hc2
    have HN := Lib.hid hN3
    have HR : Hid (∀ k, OrdP m a k → OrderModuloR m a = ((k : Int), 0)) := by
      intro k hk
      rw [← ordN_eq hk]
      simp [OrderModuloR, hc]
    have HC := Lib.hid hc
    clear hc hc1 hc2 hN3
    go_enter Try.func40, Try.ntmps40
    go_wp2_with (go_at_call 108; refine (unit_any m a _).mono ?_; rintro e w1 ⟨rfl, hb⟩; rw [HC.out])
    go_loop [7, 8] (fun s1 s2 => ∃ k : Nat, s1 = .int .i64 k ∧ s2 = .int .i64 (powN m a k) ∧ 1 ≤ k ∧ k ≤ N ∧ Hid (∀ j, 1 ≤ j → j < k → powN m a j ≠ 1)) (fun s1 _ => (N - intOf s1).toNat)
    case atStart => exact ⟨1, rfl, by unfold powN; rw [Int.pow_one, Int.emod_eq_of_lt h3 h4], by omega, hN1, fun j hj hj' => by omega⟩
    case round =>
      obtain ⟨k, rfl, rfl, hk1, hk2, hp⟩ := hrel
      have hb2 := powN_bd (a := a) (k := k) h1
      by_cases hx : powN m a k = 1
      · have HF := Lib.hid (HR.out k ⟨hk1, hx, hp.out⟩)
        have hx' : (powN m a k != 1) = false := by simpa using hx
        clear hx
        generalize powN m a k = x at *
        go_wp2
        go_ret2
        exact ⟨by rw [HF.out]; rfl, hb⟩
      · have HX : Hid (powN m a k ≠ 1) := hx
        have hx' : (powN m a k != 1) = true := by simpa using hx
        have hkN : k < N := by
          rcases Nat.lt_or_ge k N with h | h
          · exact h
          · obtain rfl : k = N := by omega
            exact absurd HN.out hx
        have HS := Lib.hid (powN_succ m a k)
        have HQ : Hid (∀ j, 1 ≤ j → j < k + 1 → powN m a j ≠ 1) := fun j hj hj' => by
          rcases Nat.lt_or_ge j k with h | h
          · exact hp.out j hj h
          · obtain rfl : j = k := by omega
            exact hx
        clear hx
        generalize powN m a k = x at *
        have hpr := prod_bd hb2.1 hb2.2 h3 h4 (by omega)
        go_wp2
        go_round
        case rel => exact ⟨k + 1, by go_num, by rw [HS.out], by omega, by omega, HQ.out⟩
        case measure => simp [intOf]; omega
  · have HF : OrderModuloR m a = (0, unitC m a) := by simp [OrderModuloR, hc]
    rw [HF]
    clear HF
    have h1 : (unitC m a != 0) = true := by simpa using hc
    clear hc
    go_enter Try.func40, Try.ntmps40
    go_wp2_with (go_at_call 108; refine (unit_any m a _).mono ?_; rintro e w1 ⟨rfl, hb⟩)
    go_ret2
    exact ⟨rfl, hb⟩
theorem sOrderModulo_any (m a : Int) (w : World) : Calls Try.prog 41 #[.int .i64 m, .int .i64 a] w fun e w' => e = .returned (.tuple #[.int .i64 (OrderModuloR m a).1, .int .i64 (OrderModuloR m a).2]) ∧ Below w.heap.size w w' := by
  by_cases hc : unitC m a = 0
  · obtain ⟨hc1, hc2⟩ := unitC_zero hc
    obtain ⟨⟨h1, h2⟩, h3, h4⟩ := codeR_zero1 hc1
    obtain ⟨N, hN1, hN2, hN3⟩ := order_bound h1 h3 hc2
    have HN := Lib.hid hN3
    have HR : Hid (∀ k, OrdP m a k → OrderModuloR m a = ((k : Int), 0)) := by
      intro k hk
      rw [← ordN_eq hk]
      simp [OrderModuloR, hc]
    have HC := Lib.hid hc
    clear hc hc1 hc2 hN3
    go_enter Try.func41, Try.ntmps41
    go_wp2_with (go_at_call 110; refine (l01Units_any m a _).mono ?_; rintro e w1 ⟨rfl, hb⟩; rw [HC.out])
    go_loop [7, 8] (fun s1 s2 => ∃ k : Nat, s1 = .int .i64 k ∧ s2 = .int .i64 (powN m a k) ∧ 1 ≤ k ∧ k ≤ N ∧ Hid (∀ j, 1 ≤ j → j < k → powN m a j ≠ 1)) (fun s1 _ => (N - intOf s1).toNat)
    case atStart => exact ⟨1, rfl, by unfold powN; rw [Int.pow_one, Int.emod_eq_of_lt h3 h4], by omega, hN1, fun j hj hj' => by omega⟩
    case round =>
      obtain ⟨k, rfl, rfl, hk1, hk2, hp⟩ := hrel
      have hb2 := powN_bd (a := a) (k := k) h1
      by_cases hx : powN m a k = 1
      · have HF := Lib.hid (HR.out k ⟨hk1, hx, hp.out⟩)
        have hx' : (powN m a k != 1) = false := by simpa using hx
        clear hx
        generalize powN m a k = x at *
        go_wp2
        go_ret2
        exact ⟨by rw [HF.out]; rfl, hb⟩
      · have HX : Hid (powN m a k ≠ 1) := hx
        have hx' : (powN m a k != 1) = true := by simpa using hx
        have hkN : k < N := by
          rcases Nat.lt_or_ge k N with h | h
          · exact h
          · obtain rfl : k = N := by omega
            exact absurd HN.out hx
        have HS := Lib.hid (powN_succ m a k)
        have HQ : Hid (∀ j, 1 ≤ j → j < k + 1 → powN m a j ≠ 1) := fun j hj hj' => by
          rcases Nat.lt_or_ge j k with h | h
          · exact hp.out j hj h
          · obtain rfl : j = k := by omega
            exact hx
        clear hx
        generalize powN m a k = x at *
        have hpr := prod_bd hb2.1 hb2.2 h3 h4 (by omega)
        go_wp2
        go_round
        case rel => exact ⟨k + 1, by go_num, by rw [HS.out], by omega, by omega, HQ.out⟩
        case measure => simp [intOf]; omega
  · have HF : OrderModuloR m a = (0, unitC m a) := by simp [OrderModuloR, hc]
    rw [HF]
    clear HF
    have h1 : (unitC m a != 0) = true := by simpa using hc
    clear hc
    go_enter Try.func41, Try.ntmps41
    go_wp2_with (go_at_call 110; refine (l01Units_any m a _).mono ?_; rintro e w1 ⟨rfl, hb⟩)
    go_ret2
    exact ⟨rfl, hb⟩

end Go.Proofs.Ytmppmnmkhfcoaaa
