/- Contracts over this seat's translation. Condition: each contract's own. -/
import Derived.Test.YtfdklbimdkaaiaaB
import Derived.ProofKit
import Derived.Laws.Bits64b
import Derived.Lib.Mul64
import Derived.OpenShut
import Derived.Below
import Derived.ChangeSame
import Derived.Deep.Modes
import Derived.Lib.SmallJoins
import Derived.ChangeSlices
import Derived.WalkKit
import Derived.WalkSpells
import Derived.WalkLawsBesides
import Derived.Deep.QuietTactic
import Derived.BigQuiet
import Derived.Deep.RegionHeld3
import Derived.Deep.RegionWith
import Derived.Deep.RegionLaw
import Derived.Deep.AppendLies
import Derived.Laws.CopyOwn
import Derived.Deep.DeepCutAuto
import Derived.Deep.OwnRows
import Derived.Deep.LoopGhost
import Derived.Deep.DeepFit
import Derived.Deep.DeepMust
import Derived.Deep.Draws
import Derived.Deep.CutRange
import Derived.Maps.AppendAt
import Derived.Lib.Hide
import Derived.StillTailTactics
import Derived.Laws.MakeOwn
import Derived.Deep.Matrix
set_option linter.unusedVariables false
open Go Go.RowKit
namespace Go.Proofs.Ytfdklbimdkaaiaa
/-! ### Units, inverses, powers, orders -/
theorem OwnI.lit1' (w : World) (a : Int) : OwnI (w.alloc (.cells #[.int .i64 a] 2)) 0 (.slice (some ⟨w.heap.size, 0, none⟩) 1 1) [a] := OwnI.lit1 w a (Nat.zero_le _)
theorem codeR_zero1 {m a : Int} (h : codeR m [a] = 0) : (2 ≤ m ∧ m ≤ 10000) ∧ (0 ≤ a ∧ a < m) := by
  unfold codeR at h
  cases h1 : isModB m
  · simp [h1] at h
  · cases h2 : numsB m [a]
    · simp [h1, h2] at h
    · simp only [numsB, List.all_cons, List.all_nil, Bool.and_true] at h2
      exact ⟨isModB_true h1, isNumB_true h2⟩
def IsUnitR (m a : Int) : Bool × Int := if codeR m [a] = 0 then (unitB m a, 0) else (false, codeR m [a])
def unitC (m a : Int) : Int := if codeR m [a] = 0 then (if unitB m a = false then 5 else 0) else codeR m [a]
theorem unitC_zero {m a : Int} (h : unitC m a = 0) : codeR m [a] = 0 ∧ unitB m a = true := by
  unfold unitC at h
  by_cases hc : codeR m [a] = 0
  · rw [if_pos hc] at h
    refine ⟨hc, ?_⟩
    cases hu : unitB m a
    · simp [hu] at h
    · rfl
  · rw [if_neg hc] at h; exact absurd h hc
/-! Euclid's algorithm with the coefficients. -/
def eu : Nat → Int → Int → Int → Int → Int
  | 0, _, _, x, _ => x
  | n + 1, r, s, x, y => if s = 0 then x else eu n s (r - r / s * s) y (x - r / s * y)
theorem eu_zero (n : Nat) (r x y : Int) : eu n r 0 x y = x := by cases n <;> simp [eu]
theorem rest_bd {r s : Int} (hs : 0 < s) : 0 ≤ r - r / s * s ∧ r - r / s * s < s := by
  have h1 := Int.emod_nonneg r (show s ≠ 0 by omega)
  have h2 := Int.emod_lt_of_pos r hs
  have h3 := Int.emod_def r s
  rw [Int.mul_comm] at h3
  omega
theorem eu_stable : ∀ (n k : Nat) (r s x y : Int), 0 ≤ s → s.toNat < n → s.toNat < k → eu n r s x y = eu k r s x y
  | 0, _, _, _, _, _, _, h, _ => by omega
  | _ + 1, 0, _, _, _, _, _, _, h => by omega
  | n + 1, k + 1, r, s, x, y, h0, h1, h2 => by
    by_cases hs : s = 0
    · simp [eu, hs]
    · have hb := rest_bd (r := r) (show 0 < s by omega)
      simp only [eu, if_neg hs]
      exact eu_stable n k _ _ _ _ hb.1 (by omega) (by omega)
theorem eu_step {r s x y X : Int} (h : ∀ n, s.toNat < n → eu n r s x y = X) (hs : 0 < s) : ∀ n, (r - r / s * s).toNat < n → eu n s (r - r / s * s) y (x - r / s * y) = X := by
  intro n hn
  have hb := rest_bd (r := r) hs
  have h1 := h (s.toNat + 1) (by omega)
  rw [eu, if_neg (by omega)] at h1
  rw [← h1]
  exact eu_stable _ _ _ _ _ _ hb.1 hn (by omega)
theorem eu_inv {m r s x y : Int} (hr : 0 < r) (hs : 0 < s) (h : (x.natAbs : Int) * s + (y.natAbs : Int) * r ≤ m) :
    (y.natAbs : Int) * (r - r / s * s) + ((x - r / s * y).natAbs : Int) * s ≤ m ∧ (y.natAbs : Int) ≤ m ∧ (x.natAbs : Int) ≤ m ∧ 0 ≤ r / s * s ∧ r / s * s ≤ r ∧ ((r / s * y).natAbs : Int) ≤ m := by
  have q0 : 0 ≤ r / s := Int.ediv_nonneg (by omega) (by omega)
  have qs : r / s * s ≤ r := Int.ediv_mul_le r (by omega)
  have qs0 : 0 ≤ r / s * s := Int.mul_nonneg q0 (by omega)
  generalize r / s = q at *
  have e1 : ((q * y).natAbs : Int) = q * (y.natAbs : Int) := by rw [Int.natAbs_mul]; simp [Int.natAbs_of_nonneg q0]
  have t1 : ((x - q * y).natAbs : Int) ≤ (x.natAbs : Int) + q * (y.natAbs : Int) := by
    have h2 := Int.natAbs_sub_le x (q * y)
    rw [← e1]
    omega
  have x0 : (0 : Int) ≤ (x.natAbs : Int) := by omega
  have y0 : (0 : Int) ≤ (y.natAbs : Int) := by omega
  generalize hX : (x.natAbs : Int) = X at *
  generalize hY : (y.natAbs : Int) = Y at *
  generalize ((x - q * y).natAbs : Int) = Z at *
  have t2 : Z * s ≤ (X + q * Y) * s := Int.mul_le_mul_of_nonneg_right t1 (by omega)
  have t3 : (X + q * Y) * s = X * s + Y * (q * s) := by rw [Int.add_mul, Int.mul_comm q Y, Int.mul_assoc]
  have t4 : Y * (r - q * s) = Y * r - Y * (q * s) := Int.mul_sub _ _ _
  have t5 : 0 ≤ X * s := Int.mul_nonneg x0 (by omega)
  have t6 : 0 ≤ Y * r := Int.mul_nonneg y0 (by omega)
  have t7 : Y * 1 ≤ Y * r := Int.mul_le_mul_of_nonneg_left (by omega) y0
  have t8 : X * 1 ≤ X * s := Int.mul_le_mul_of_nonneg_left (by omega) x0
  have t9 : Y * (q * s) ≤ Y * r := Int.mul_le_mul_of_nonneg_left qs y0
  have t10 : q * Y ≤ Y * (q * s) := by
    have : Y * q * 1 ≤ Y * q * s := Int.mul_le_mul_of_nonneg_left (by omega) (Int.mul_nonneg y0 q0)
    rw [Int.mul_assoc Y q s, Int.mul_one, Int.mul_comm Y q] at this
    exact this
  refine ⟨by omega, by omega, by omega, qs0, qs, ?_⟩
  rw [e1]
  omega
def invN (m a : Int) : Int := eu ((a % m).toNat + 1) m (a % m) 0 1 % m
theorem inverse_any (m a : Int) (w : World) (hm : 2 ≤ m) (hm' : m ≤ 1000000000000000) : Calls Try.prog 97 #[.int .i64 m, .int .i64 a] w fun e w' => e = .returned (.int .i64 (invN m a)) ∧ ∃ n, w' = w.drewN n := by
  have hc1 := Int.emod_nonneg a (show m ≠ 0 by omega)
  have hc2 := Int.emod_lt_of_pos a (show 0 < m by omega)
  obtain ⟨X, hX⟩ : ∃ X, X = eu ((a % m).toNat + 1) m (a % m) 0 1 := ⟨_, rfl⟩
  have HI : Hid (invN m a = X % m) := by unfold Hid invN; rw [← hX]
  have H0 : Hid (∀ n, (a % m).toNat < n → eu n m (a % m) 0 1 = X) := fun n hn => by rw [hX]; exact eu_stable _ _ _ _ _ _ hc1 hn (by omega)
  clear hX
  go_enter Try.func97, Try.ntmps97
  go_wp2_with (go_at_call 90; refine (mod_any _ _ _ (by omega) (by omega)).mono ?_; rintro e w1 ⟨rfl, k1, rfl⟩)
  generalize a % m = c at *
  go_loopw [5, 6, 7, 8] (fun tx ty tr ts wr => ∃ x y r s : Int, tx = .int .i64 x ∧ ty = .int .i64 y ∧ tr = .int .i64 r ∧ ts = .int .i64 s ∧ 0 < r ∧ r ≤ m ∧ 0 ≤ s ∧ s < r ∧ -m ≤ x ∧ x ≤ m ∧ Hid ((x.natAbs : Int) * s + (y.natAbs : Int) * r ≤ m) ∧ Hid (∀ n, s.toNat < n → eu n r s x y = X) ∧ ∃ n, wr = w.drewN n)
    (fun _ _ _ ts _ => (intOf ts).toNat)
  case atStart => exact ⟨0, 1, m, c, rfl, rfl, rfl, rfl, by omega, by omega, hc1, hc2, by omega, by omega, (by unfold Hid; simp), H0, _, rfl⟩
  case round =>
    obtain ⟨x, y, r, s, rfl, rfl, rfl, rfl, hr, hr', hs, hsr, hx, hx', hi, hX, n, rfl⟩ := hrel
    by_cases h0 : s = 0
    · subst h0
      have hx0 : x = X := by have := hX.out 1 (by simp); rwa [eu_zero] at this
      subst hx0
      go_wp2_with (go_at_call 90; refine (mod_any _ _ _ (by omega) (by omega)).mono ?_; rintro e w1 ⟨rfl, k2, rfl⟩)
      go_ret
      exact ⟨by rw [HI.out]; rfl, _, rfl⟩
    · have hs0 : 0 < s := by omega
      obtain ⟨i1, i2, i3, i4, i5, i6⟩ := eu_inv hr hs0 hi.out
      have I1 := Lib.hid i1
      have HS := Lib.hid (eu_step hX.out hs0)
      have hb := rest_bd (r := r) hs0
      have hne : (s != 0) = true := by simpa using h0
      have hq0 : 0 ≤ r / s := Int.ediv_nonneg (by omega) (by omega)
      have hq1 : r / s ≤ r := Int.ediv_le_self _ (by omega)
      have i7 : -m ≤ r / s * y ∧ r / s * y ≤ m := by omega
      clear i1 h0 i6
      go_wp2
      go_roundw
      case rel => exact ⟨y, x - r / s * y, s, r - r / s * s, rfl, rfl, rfl, rfl, hs0, by omega, hb.1, hb.2, by omega, by omega, I1.out, HS.out, _, rfl⟩
      case measure => simp [intOf]; omega
theorem l01Inv_any (m a : Int) (w : World) (hm : 2 ≤ m) (hm' : m ≤ 1000000000000000) : Calls Try.prog 96 #[.int .i64 m, .int .i64 a] w fun e w' => e = .returned (.int .i64 (invN m a)) ∧ ∃ n, w' = w.drewN n := by
  have hc1 := Int.emod_nonneg a (show m ≠ 0 by omega)
  have hc2 := Int.emod_lt_of_pos a (show 0 < m by omega)
  obtain ⟨X, hX⟩ : ∃ X, X = eu ((a % m).toNat + 1) m (a % m) 0 1 := ⟨_, rfl⟩
  have HI : Hid (invN m a = X % m) := by unfold Hid invN; rw [← hX]
  have H0 : Hid (∀ n, (a % m).toNat < n → eu n m (a % m) 0 1 = X) := fun n hn => by rw [hX]; exact eu_stable _ _ _ _ _ _ hc1 hn (by omega)
  clear hX
  go_enter Try.func96, Try.ntmps96
  go_wp2_with (go_at_call 124; refine (l01Mod_any _ _ _ (by omega) (by omega)).mono ?_; rintro e w1 ⟨rfl, k1, rfl⟩)
  generalize a % m = c at *
  go_loopw [5, 6, 7, 8] (fun tr ts tx ty wr => ∃ x y r s : Int, tx = .int .i64 x ∧ ty = .int .i64 y ∧ tr = .int .i64 r ∧ ts = .int .i64 s ∧ 0 < r ∧ r ≤ m ∧ 0 ≤ s ∧ s < r ∧ -m ≤ x ∧ x ≤ m ∧ Hid ((x.natAbs : Int) * s + (y.natAbs : Int) * r ≤ m) ∧ Hid (∀ n, s.toNat < n → eu n r s x y = X) ∧ ∃ n, wr = w.drewN n)
    (fun _ ts _ _ _ => (intOf ts).toNat)
  case atStart => exact ⟨0, 1, m, c, rfl, rfl, rfl, rfl, by omega, by omega, hc1, hc2, by omega, by omega, (by unfold Hid; simp), H0, _, rfl⟩
  case round =>
    obtain ⟨x, y, r, s, rfl, rfl, rfl, rfl, hr, hr', hs, hsr, hx, hx', hi, hX, n, rfl⟩ := hrel
    by_cases h0 : s = 0
    · subst h0
      have hx0 : x = X := by have := hX.out 1 (by simp); rwa [eu_zero] at this
      subst hx0
      go_wp2_with (go_at_call 124; refine (l01Mod_any _ _ _ (by omega) (by omega)).mono ?_; rintro e w1 ⟨rfl, k2, rfl⟩)
      go_ret
      exact ⟨by rw [HI.out]; rfl, _, rfl⟩
    · have hs0 : 0 < s := by omega
      obtain ⟨i1, i2, i3, i4, i5, i6⟩ := eu_inv hr hs0 hi.out
      have I1 := Lib.hid i1
      have HS := Lib.hid (eu_step hX.out hs0)
      have hb := rest_bd (r := r) hs0
      have hq0 : 0 ≤ r / s := Int.ediv_nonneg (by omega) (by omega)
      have hq1 : r / s ≤ r := Int.ediv_le_self _ (by omega)
      have i7 : -m ≤ r / s * y ∧ r / s * y ≤ m := by omega
      clear i1 h0 i6
      go_wp2
      go_roundw
      case rel => exact ⟨y, x - r / s * y, s, r - r / s * s, rfl, rfl, rfl, rfl, hs0, by omega, hb.1, hb.2, by omega, by omega, I1.out, HS.out, _, rfl⟩
      case measure => simp [intOf]; omega
def InverseModuloR (m a : Int) : Int × Int := if unitC m a = 0 then (invN m a, 0) else (0, unitC m a)

/-! ### Powers -/
theorem pow_mod (a m : Int) (n : Nat) : (a % m) ^ n % m = a ^ n % m := by
  induction n with
  | zero => simp
  | succ n ih => rw [Int.pow_succ, Int.pow_succ, Int.mul_emod, ih, Int.emod_emod, ← Int.mul_emod]
theorem sq_pow (x : Int) (j : Nat) : (x * x) ^ j = x ^ (2 * j) := by
  induction j with
  | zero => simp
  | succ j ih => rw [Int.pow_succ, ih, show 2 * (j + 1) = 2 * j + 1 + 1 by omega, Int.pow_succ, Int.pow_succ, Int.mul_assoc]
theorem pow_even (o x m : Int) (j : Nat) : o * (x * x % m) ^ j % m = o * x ^ (2 * j) % m := by
  rw [Int.mul_emod, pow_mod, sq_pow, ← Int.mul_emod]
theorem pow_odd (o x m : Int) (j : Nat) : o * x % m * (x * x % m) ^ j % m = o * x ^ (2 * j + 1) % m := by
  rw [Int.mul_emod, pow_mod, sq_pow, Int.emod_emod, ← Int.mul_emod, Int.pow_succ, Int.mul_assoc, Int.mul_comm x]
theorem mul_bd' {a b m n : Int} (ha : 0 ≤ a) (ha' : a ≤ m) (hb : 0 ≤ b) (hb' : b ≤ n) : 0 ≤ a * b ∧ a * b ≤ m * n := ⟨Int.mul_nonneg ha hb, Int.mul_le_mul ha' hb' hb (by omega)⟩
theorem prod_bd {a b m : Int} (h1 : 0 ≤ a) (h2 : a < m) (h3 : 0 ≤ b) (h4 : b < m) (h5 : m ≤ 3000000000) : 0 ≤ a * b ∧ a * b ≤ 9000000000000000000 := by
  have := mul_bd' h1 (show a ≤ 3000000000 by omega) h3 (show b ≤ 3000000000 by omega)
  omega
theorem mul_any (m a b : Int) (w : World) (hm : 0 < m) (hm' : m ≤ 3000000000) (ha : 0 ≤ a) (ha' : a < m) (hb : 0 ≤ b) (hb' : b < m) : Calls Try.prog 104 #[.int .i64 m, .int .i64 a, .int .i64 b] w fun e w' => e = .returned (.int .i64 (a * b % m)) ∧ w = w' := by
  have hp := prod_bd ha ha' hb hb' hm'
  go_enter Try.func104, Try.ntmps104
  go_wp2
  go_ret
  exact ⟨rfl, rfl⟩
def powN (m a : Int) (k : Nat) : Int := a ^ k % m
theorem power_any (m a : Int) (k : Nat) (w : World) (hm : 2 ≤ m) (hm' : m ≤ 3000000000) (ha : 0 ≤ a) (ha' : a < m) (hk : k ≤ 1000000000000) : Calls Try.prog 108 #[.int .i64 m, .int .i64 a, .int .i64 k] w fun e w' => e = .returned (.int .i64 (powN m a k)) ∧ w = w' := by
  have H1 : Hid ((1 : Int) % m = 1) := Int.emod_eq_of_lt (by omega) (by omega)
  go_enter Try.func108, Try.ntmps108
  go_wp2
  go_loop [1, 2, 7] (fun s1 s2 s3 => ∃ (x o : Int) (j : Nat), s1 = .int .i64 x ∧ s2 = .int .i64 j ∧ s3 = .int .i64 o ∧ 0 ≤ x ∧ x < m ∧ 0 ≤ o ∧ o < m ∧ j ≤ 1000000000000 ∧ Hid (o * x ^ j % m = powN m a k)) (fun _ s2 _ => (intOf s2).toNat)
  case atStart => exact ⟨a, 1, k, rfl, rfl, (by first | rfl | rw [H1.out]), ha, ha', by omega, by omega, hk, by unfold Hid powN; rw [Int.one_mul]⟩
  case round =>
    obtain ⟨x, o, j, rfl, rfl, rfl, hx, hx', ho, ho', hj, hp⟩ := hrel
    have hx2 : 0 ≤ x * x % m := Int.emod_nonneg _ (by omega)
    have hx3 : x * x % m < m := Int.emod_lt_of_pos _ (by omega)
    have ho2 : 0 ≤ o * x % m := Int.emod_nonneg _ (by omega)
    have ho3 : o * x % m < m := Int.emod_lt_of_pos _ (by omega)
    by_cases h0 : j = 0
    · subst h0
      have HF : Hid (powN m a k = o) := by
        have := hp.out
        rw [Int.pow_zero, Int.mul_one, Int.emod_eq_of_lt ho ho'] at this
        exact this.symm
      go_wp2
      go_ret
      exact ⟨by rw [HF.out]; rfl, rfl⟩
    · have hj0 : 0 < j := by omega
      by_cases h1 : j % 2 = 1
      · obtain ⟨i, hi⟩ : ∃ i, j = 2 * i + 1 := ⟨j / 2, by omega⟩
        subst hi
        have HE := Lib.hid (pow_odd o x m i)
        have hb1 : (((2 * i + 1 : Nat) : Int) % 2 == 1) = true := by first | (simp; done) | (simp; omega)
        have hb2 : ((2 * i + 1 : Nat) : Int) / 2 = (i : Int) := by omega
        clear h0 h1
        go_wp2_with (first | (go_at_call_of 104 (.int .i64 o); refine (mul_any m o x _ (by omega) hm' ho ho' hx hx').mono ?_; rintro e w1 ⟨rfl, rfl⟩) | (go_at_call 104; refine (mul_any m _ x _ (by omega) hm' (by assumption) (by assumption) hx hx').mono ?_; rintro e w2 ⟨rfl, rfl⟩))
        go_round
        case rel => exact ⟨x * x % m, o * x % m, i, rfl, by first | rfl | (rw [hb2]) | (simp; done) | (simp; omega), rfl, hx2, hx3, ho2, ho3, by omega, HE.out.trans hp.out⟩
        case measure => simp [intOf]; omega
      · obtain ⟨i, hi⟩ : ∃ i, j = 2 * i := ⟨j / 2, by omega⟩
        subst hi
        have HE := Lib.hid (pow_even o x m i)
        have hb1 : (((2 * i : Nat) : Int) % 2 == 1) = false := by first | (simp; done) | (simp; omega)
        have hb2 : ((2 * i : Nat) : Int) / 2 = (i : Int) := by omega
        clear h0 h1
        go_wp2_with (go_at_call 104; refine (mul_any m x x _ (by omega) hm' hx hx' hx hx').mono ?_; rintro e w2 ⟨rfl, rfl⟩)
        go_round
        case rel => exact ⟨x * x % m, o, i, rfl, by first | rfl | (rw [hb2]) | (simp; done) | (simp; omega), rfl, hx2, hx3, ho, ho', by omega, HE.out.trans hp.out⟩
        case measure => simp [intOf]; omega
theorem l01Pow_any (m a : Int) (k : Nat) (w : World) (hm : 2 ≤ m) (hm' : m ≤ 3000000000) (ha : 0 ≤ a) (ha' : a < m) (hk : k ≤ 1000000000000) : Calls Try.prog 95 #[.int .i64 m, .int .i64 a, .int .i64 k] w fun e w' => e = .returned (.int .i64 (powN m a k)) ∧ ∃ n, w' = w.drewN n := by
  have H1 : Hid ((1 : Int) % m = 1) := Int.emod_eq_of_lt (by omega) (by omega)
  have HA : Hid (a % m = a) := Int.emod_eq_of_lt ha ha'
  go_enter Try.func95, Try.ntmps95
  go_wp2_with (go_at_call 124; refine (l01Mod_any _ _ _ (by omega) (by omega)).mono ?_; rintro e w1 ⟨rfl, k1, rfl⟩; rw [HA.out])
  go_loop [1, 2, 7] (fun s1 s2 s3 => ∃ (x o : Int) (j : Nat), s1 = .int .i64 x ∧ s2 = .int .i64 j ∧ s3 = .int .i64 o ∧ 0 ≤ x ∧ x < m ∧ 0 ≤ o ∧ o < m ∧ j ≤ 1000000000000 ∧ Hid (o * x ^ j % m = powN m a k)) (fun _ s2 _ => (intOf s2).toNat)
  case atStart => exact ⟨a, 1, k, rfl, rfl, (by first | rfl | rw [H1.out]), ha, ha', by omega, by omega, hk, by unfold Hid powN; rw [Int.one_mul]⟩
  case round =>
    obtain ⟨x, o, j, rfl, rfl, rfl, hx, hx', ho, ho', hj, hp⟩ := hrel
    have hx2 : 0 ≤ x * x % m := Int.emod_nonneg _ (by omega)
    have hx3 : x * x % m < m := Int.emod_lt_of_pos _ (by omega)
    have ho2 : 0 ≤ o * x % m := Int.emod_nonneg _ (by omega)
    have ho3 : o * x % m < m := Int.emod_lt_of_pos _ (by omega)
    have hp1 := prod_bd ho ho' hx hx' hm'
    have hp2 := prod_bd hx hx' hx hx' hm'
    by_cases h0 : j = 0
    · subst h0
      have HF : Hid (powN m a k = o) := by
        have := hp.out
        rw [Int.pow_zero, Int.mul_one, Int.emod_eq_of_lt ho ho'] at this
        exact this.symm
      go_wp2
      go_ret
      exact ⟨by rw [HF.out]; rfl, _, rfl⟩
    · have hj0 : 0 < j := by omega
      by_cases h1 : j % 2 = 1
      · obtain ⟨i, hi⟩ : ∃ i, j = 2 * i + 1 := ⟨j / 2, by omega⟩
        subst hi
        have HE := Lib.hid (pow_odd o x m i)
        have hb1 : (((2 * i + 1 : Nat) : Int) % 2 == 1) = true := by first | (simp; done) | (simp; omega)
        have hb2 : ((2 * i + 1 : Nat) : Int) / 2 = (i : Int) := by omega
        clear h0 h1
        go_wp2
        go_round
        case rel => exact ⟨x * x % m, o * x % m, i, rfl, by first | rfl | (rw [hb2]) | (simp; done) | (simp; omega), rfl, hx2, hx3, ho2, ho3, by omega, HE.out.trans hp.out⟩
        case measure => simp [intOf]; omega
      · obtain ⟨i, hi⟩ : ∃ i, j = 2 * i := ⟨j / 2, by omega⟩
        subst hi
        have HE := Lib.hid (pow_even o x m i)
        have hb1 : (((2 * i : Nat) : Int) % 2 == 1) = false := by first | (simp; done) | (simp; omega)
        have hb2 : ((2 * i : Nat) : Int) / 2 = (i : Int) := by omega
        clear h0 h1
        go_wp2
        go_round
        case rel => exact ⟨x * x % m, o, i, rfl, by first | rfl | (rw [hb2]) | (simp; done) | (simp; omega), rfl, hx2, hx3, ho, ho', by omega, HE.out.trans hp.out⟩
        case measure => simp [intOf]; omega
def PowerModuloR (m a k : Int) : Int × Int := if codeR m [a] = 0 then (if inB k 0 1000000000000 = false then (0, 2) else (powN m a k.toNat, 0)) else (0, codeR m [a])

/-! ### Boxes of a function's own -/
/-- A box of two cells that may be written. -/
def Bf (w : World) (b : Nat) (x y : Value) : Prop := Bx w b x y ∧ w.frozen? ⟨b, 0, none⟩ = false ∧ w.frozen? ⟨b, 1, none⟩ = false
theorem Bf.keep {w w' : World} {b : Nat} {x y : Value} (h : Bf w b x y) (R : Below w.heap.size w w') : Bf w' b x y :=
  ⟨h.1.keep R, (R.frozen (p := ⟨b, 0, none⟩) h.1.1).trans h.2.1, (R.frozen (p := ⟨b, 1, none⟩) h.1.1).trans h.2.2⟩
theorem Bf.drewN {w : World} {b : Nat} {x y : Value} (h : Bf w b x y) (n : Nat) : Bf (w.drewN n) b x y := h
theorem Bf.alloc1 (w : World) (x y : Value) (t : TypeId) : Bf (w.alloc (.cells #[x, y] t)) w.heap.size x y := ⟨⟨by simp, by simp, by simp⟩, by simp, by simp⟩
theorem below_alloc1 (w : World) (o : Obj) : Below w.heap.size w (w.alloc o) := (Below.refl _ _).alloc (Nat.le_refl _) _
theorem Bf.first1 {w w1 : World} {x y : Value} {t : TypeId} (hb : Below (w.alloc (.cells #[x, y] t)).heap.size (w.alloc (.cells #[x, y] t)) w1) : Bf w1 w.heap.size x y ∧ Below w.heap.size w w1 :=
  ⟨(Bf.alloc1 w x y t).keep hb, (below_alloc1 w _).trans (hb.mono (by simp))⟩
theorem Bf.first2 {w w1 : World} {x y x' y' : Value} {t t' : TypeId} (hb : Below ((w.alloc (.cells #[x, y] t)).alloc (.cells #[x', y'] t')).heap.size ((w.alloc (.cells #[x, y] t)).alloc (.cells #[x', y'] t')) w1) :
    Bf w1 w.heap.size x y ∧ Bf w1 (w.heap.size + 1) x' y' ∧ Below w.heap.size w w1 :=
  ⟨((Bf.alloc1 w x y t).keep (below_alloc1 _ _)).keep hb, by have := (Bf.alloc1 (w.alloc (.cells #[x, y] t)) x' y' t').keep hb; simpa using this, ((below_alloc1 w _).trans ((below_alloc1 (w.alloc (.cells #[x, y] t)) _).mono (by simp))).trans (hb.mono (by simp; omega))⟩

/-! ### Values, orders, cut series, changed moduli -/
theorem NewI.of {w : World} {xs ys : List Int} {e : Ending} {w' : World} (h : NewI w xs e w') (he : Hid (xs = ys)) : NewI w ys e w' := by rw [← he.out]; exact h
theorem isModB_bd {m : Int} (h : isModB m = true) : 2 ≤ m ∧ m ≤ 10000 := isModB_true h
def horn (m x : Int) : List Int → Int
  | [] => 0
  | c :: r => (horn m x r * x + c) % m
theorem horn_step (m x : Int) (xs : List Int) (k : Nat) (hk : k < xs.length) : horn m x (xs.drop k) = (horn m x (xs.drop (k + 1)) * x + xs.getD k 0) % m := by
  rw [List.drop_eq_getElem_cons hk, List.getD_eq_getElem?_getD, List.getElem?_eq_getElem hk]
  rfl
theorem horn_bd {m x : Int} (hm : 0 < m) (xs : List Int) : 0 ≤ horn m x xs ∧ horn m x xs < m := by
  cases xs with
  | nil => exact ⟨Int.le_refl _, hm⟩
  | cons c r => exact ⟨Int.emod_nonneg _ (by omega), Int.emod_lt_of_pos _ hm⟩
theorem mul_bd {a b m n : Int} (ha : 0 ≤ a) (ha' : a ≤ m) (hb : 0 ≤ b) (hb' : b ≤ n) : 0 ≤ a * b ∧ a * b ≤ m * n := ⟨Int.mul_nonneg ha hb, Int.mul_le_mul ha' hb' hb (by omega)⟩
def OrderOfSeriesR (m : Int) (xs : List Int) : Int × Int := if isSer m xs = false then (0, 1) else if xs.any (fun x => x != 0) = false then (0, 5) else (firstI (fun x => x != 0) xs, 0)
theorem firstI_bd (p : Int → Bool) (xs : List Int) : firstI p xs ≤ xs.length := by
  unfold firstI
  split
  · have := List.findIdx_le_length (xs := xs) (p := p); omega
  · omega

/-! ### ValueOfSeries -/
def ValueOfSeriesR (m : Int) (xs : List Int) (x : Int) : Int × Int := if isSer m xs = false then (0, 1) else if isNumB x m = false then (0, 2) else (horn m x xs, 0)
theorem l02Degree_any (m : Int) (A : Option Addr) (n c : Nat) (w : World) (hn : n ≤ 1000000000) : Calls Try.prog 50 #[.agg #[.int .i64 m, .slice A n c]] w fun e w' => e = .returned (.int .i64 ((n : Int) - 1)) ∧ Below w.heap.size w w' := by
  go_enter Try.func50, Try.ntmps50
  go_wp2
  go_ret
  exact ⟨rfl, by (repeat (first | assumption | exact Below.refl _ _ | refine Below.alloc ?_ (by first | omega | (simp; done) | (simp; omega)) _ | refine Below.setCell ?_ (by first | omega | (simp; done) | (simp; omega)) _ | refine below_drewN ?_ _))⟩

/-! ### Copies of lists; lists of remainders -/
theorem appendAll {w : World} {ops : Array Oper} {rest : List Oper} {o : Oper} {a : Act} {Q : Exit → Act → World → Prop} (s x : Operand) (B : Nat) (v u : Value) (xs ys : List Int)
    (hgd : o.guard = none) (ho : o.op = .call { callee := .builtin .append, args := #[s, x], argTypes := #[22, 22] })
    (hs : a.eval s = v) (hx : a.eval x = u) (hv : OwnI w B v xs) (hu : RdI w u ys) (hy : 0 < ys.length) (hl : xs.length + ys.length ≤ 1000000000000) (hB : B ≤ w.heap.size)
    (h : ∀ v' w', OwnI w' B v' (xs ++ ys) → w.grownBy w' v.ownBlock → wpList Try.prog ops Q rest (a.put o.dst v') w') :
    wpList Try.prog ops Q (o :: rest) a w := by
  obtain ⟨i0, hi, hz0, hz1, hz2⟩ := info_parts T.info64
  obtain ⟨A, c, rfl, hc1, hc2, hA⟩ := hu
  obtain ⟨b, off, rfl, _, _⟩ := hA 0 hy
  refine wpList_append_own _ hgd s x 22 ho B 2 i0 (.int .i64 0) 1 8 Try.underlying22 hi hz0 hz1 hz2 rfl (by decide) v xs.length (xs.map (Value.int .i64)) hs hv ⟨b, off, none⟩ ys.length c (ys.map (Value.int .i64)) hx (by simp) (fun j u hj => ?_) (fun u hu => ?_) (by unfold maxLen; omega) (by omega) hB ?_
  · rw [List.getElem?_map] at hj
    obtain ⟨y, hy1, rfl⟩ := Option.map_eq_some_iff.1 hj
    have hlt : j < ys.length := (List.getElem?_eq_some_iff.1 hy1).1
    obtain ⟨b', off', e, _, hcell⟩ := hA j hlt
    simp only [Option.some.injEq, Addr.mk.injEq] at e
    obtain ⟨rfl, rfl, _⟩ := e
    rw [WideShapes.add_plain, hcell, List.getD_eq_getElem?_getD, hy1]
    rfl
  · obtain ⟨y, _, rfl⟩ := List.mem_map.1 hu
    rfl
  · intro v' w' h1 h2 _
    refine h v' w' ?_ h2
    unfold OwnI
    simpa using h1
theorem copyOf_any (w : World) (v : Value) (xs ys : List Int) (hv : RdI w v xs) (hy : xs = ys) (h0 : 0 < xs.length) (hl : xs.length ≤ 1000000000) : Calls Try.prog 128 #[v] w (NewI w ys) := by
  obtain ⟨A, c, e0, _⟩ := id hv
  subst e0
  have HY := Lib.hid hy
  clear hy
  go_enter Try.func128, Try.ntmps128
  go_wp2_with (at_builtin; refine appendAll _ _ w.heap.size (.slice (some ⟨w.heap.size, 0, none⟩) 0 0) _ [] xs (by rfl) (by rfl) (by rfl) (by rfl) ((RowI.lit w [] #[] rfl (by simp)).own (Nat.le_refl _)) (hv.below (by (repeat (first | assumption | exact Below.refl _ _ | refine Below.alloc ?_ (by first | omega | (simp; done) | (simp; omega)) _ | refine Below.setCell ?_ (by first | omega | (simp; done) | (simp; omega)) _ | refine below_drewN ?_ _)))) h0 (by simp; omega) (by simp) ?_; intro v' w1 ho hg; obtain ⟨A', c', e1⟩ := ho.form; subst e1)
  go_ret
  refine NewI.of ⟨A', c', rfl, ho, ?_⟩ HY
  refine Below.grown (by (repeat (first | assumption | exact Below.refl _ _ | refine Below.alloc ?_ (by first | omega | (simp; done) | (simp; omega)) _ | refine Below.setCell ?_ (by first | omega | (simp; done) | (simp; omega)) _ | refine below_drewN ?_ _))) hg (by simp) fun b hb => ?_
  simp [Value.ownBlock] at hb
  omega
theorem l01Own_any (w : World) (v : Value) (xs ys : List Int) (hv : RdI w v xs) (hy : xs = ys) (h0 : 0 < xs.length) (hl : xs.length ≤ 1000000000) : Calls Try.prog 85 #[v] w (NewI w ys) := by
  obtain ⟨A, c, e0, _⟩ := id hv
  subst e0
  have HY := Lib.hid hy
  clear hy
  go_enter Try.func85, Try.ntmps85
  go_wp2_with (at_builtin; refine appendAll _ _ w.heap.size (.slice (some ⟨w.heap.size, 0, none⟩) 0 0) _ [] xs (by rfl) (by rfl) (by rfl) (by rfl) ((RowI.lit w [] #[] rfl (by simp)).own (Nat.le_refl _)) (hv.below (by (repeat (first | assumption | exact Below.refl _ _ | refine Below.alloc ?_ (by first | omega | (simp; done) | (simp; omega)) _ | refine Below.setCell ?_ (by first | omega | (simp; done) | (simp; omega)) _ | refine below_drewN ?_ _)))) h0 (by simp; omega) (by simp) ?_; intro v' w1 ho hg; obtain ⟨A', c', e1⟩ := ho.form; subst e1)
  go_ret
  refine NewI.of ⟨A', c', rfl, ho, ?_⟩ HY
  refine Below.grown (by (repeat (first | assumption | exact Below.refl _ _ | refine Below.alloc ?_ (by first | omega | (simp; done) | (simp; omega)) _ | refine Below.setCell ?_ (by first | omega | (simp; done) | (simp; omega)) _ | refine below_drewN ?_ _))) hg (by simp) fun b hb => ?_
  simp [Value.ownBlock] at hb
  omega
/-- The remainders of the first k numbers. -/
def rests (m : Int) (xs : List Int) : List Int := xs.map fun x => x % m
theorem rests_step (m : Int) (xs : List Int) (k : Nat) (hk : k < xs.length) : rests m (xs.take (k + 1)) = rests m (xs.take k) ++ [xs.getD k 0 % m] := by
  unfold rests
  rw [List.take_succ_eq_append_getElem hk, List.map_append, List.getD_eq_getElem?_getD, List.getElem?_eq_getElem hk]
  rfl
theorem length_rests (m : Int) (xs : List Int) : (rests m xs).length = xs.length := by simp [rests]
theorem l02Rest_any (m : Int) (w : World) (v : Value) (xs ys : List Int) (B : Nat) (hv : OwnI w B v xs) (hy : rests m xs = ys) (hm : 0 < m) (hm' : m ≤ 10000) (hn : ∀ k, 0 ≤ xs.getD k 0 ∧ xs.getD k 0 < 1000000) (hl : xs.length ≤ 1000000) :
    Calls Try.prog 125 #[.int .i64 m, v] w (NewI w ys) := by
  obtain ⟨A, c, e0, hc1, hc2, hA⟩ := hv.open_
  subst e0
  unfold maxLen at hc2
  have HY := Lib.hid hy
  have HN := Lib.hid hn
  clear hy hn
  go_enter Try.func125, Try.ntmps125
  go_wp2
  go_loopw [5, 6] (fun r i wr => ∃ k g c' : Nat, k ≤ xs.length ∧ i = .int .i64 k ∧ r = .slice (some ⟨g, 0, none⟩) k c' ∧ w.heap.size ≤ g ∧ RowI wr g c' (rests m (xs.take k)) ∧ Below w.heap.size w wr) (fun _ i _ => xs.length - (intOf i).toNat)
  case atStart => exact ⟨0, w.heap.size, 0, Nat.zero_le _, rfl, rfl, Nat.le_refl _, RowI.lit w [] #[] rfl (by simp), by (repeat (first | assumption | exact Below.refl _ _ | refine Below.alloc ?_ (by first | omega | (simp; done) | (simp; omega)) _ | refine Below.setCell ?_ (by first | omega | (simp; done) | (simp; omega)) _ | refine below_drewN ?_ _))⟩
  case round =>
    obtain ⟨k, g, c', hk, rfl, rfl, hg, hrow, hb⟩ := hrel
    have hz := hb.size
    have hglt := hrow.lt
    by_cases hlt : k < xs.length
    · obtain ⟨b, rfl, hb1, hb2, hcell, hfr⟩ := hA k hlt
      clear hA
      have hcell' : wr.cell? ⟨b, k, none⟩ = some (.int .i64 (xs.getD k 0)) := (hb.cell (p := ⟨b, k, none⟩) hb2).trans hcell
      clear hcell
      have hnk := HN.out k
      have HS := Lib.hid (rests_step m xs k hlt)
      have HL : Hid ((rests m (xs.take k)).length = k) := by unfold Hid; rw [length_rests, List.length_take]; omega
      generalize xs.getD k 0 = x at *
      have hx1 : 0 ≤ x % m := Int.emod_nonneg _ (by omega)
      have hx2 : x % m < m := Int.emod_lt_of_pos _ hm
      have hk0 : (0 : Int) ≤ (k : Int) := by omega
      have hk1 : (k : Int) < (xs.length : Int) := by omega
      go_wp2_with (at_builtin; refine wpAppend1 _ _ w.heap.size (.slice (some ⟨g, 0, none⟩) k c') (rests m (xs.take k)) k (x % m) wr.heap.size (wr.heap.size + 1) (by rfl) (by rfl) (by rfl) (by rfl) ((hrow.alloc _).own' hg HL.out) HL.out (RowI.block1 _) (by omega) (by simp; omega) (by simp) ?_; intro gg cap w1 hown1 hge hgrow hat)
      go_roundw
      case rel =>
        refine ⟨k + 1, gg, cap, by omega, by go_num, rfl, hge, by rw [HS.out]; exact hown1, ?_⟩
        refine Below.grown (hb.alloc hz _) hgrow (by simp; omega) fun b hb => ?_
        simp [Value.ownBlock] at hb
        omega
      case measure => simp [intOf]; omega
    · obtain rfl : k = xs.length := by omega
      have hrow' : RowI wr g c' ys := by rw [← HY.out]; simpa using hrow
      have hly : Hid (ys.length = xs.length) := by unfold Hid; rw [← HY.out, length_rests]
      go_wp2
      go_ret
      have ho := hrow'.own hg
      exact ⟨_, _, by rw [hly.out]; rfl, ho, hb⟩

/-! ### CutSeries, ChangeSeries -/
theorem below_grown_new {B : Nat} {w0 w w' : World} {v : Value} (h : Below B w0 w) (hB : B ≤ w.heap.size) (hg : w.grownBy w' v.ownBlock) (hv : ∀ g, v.ownBlock = some g → B ≤ g) : Below B w0 w' := h.grown hg hB fun b hb => hv b hb
theorem l02Make_any (w : World) (m : Int) (A : Option Addr) (n c : Nat) : Calls Try.prog 51 #[.int .i64 m, .slice A n c] w fun e w' => e = .returned (.agg #[.int .i64 m, .slice A n c]) ∧ Below w.heap.size w w' := by
  go_enter Try.func51, Try.ntmps51
  go_wp2
  exact bodyPost_ret (v := .agg #[.int .i64 m, .slice A n c]) (by simp [results, Try.results51, go_sem]) rfl ⟨rfl, by (repeat (first | assumption | exact Below.refl _ _ | refine Below.alloc ?_ (by first | omega | (simp; done) | (simp; omega)) _ | refine Below.setCell ?_ (by first | omega | (simp; done) | (simp; omega)) _ | refine below_drewN ?_ _))⟩
def CutSeriesR (m : Int) (xs : List Int) (d : Int) : (Int × List Int) × Int := if isSer m xs = false then ((0, []), 1) else if inB d 1 ((xs.length : Int) - 1) = false then ((0, []), 2) else ((m, xs.take (d + 1).toNat), 0)
theorem CutSeriesR_len (m : Int) (xs : List Int) (d : Int) : (CutSeriesR m xs d).1.2.length ≤ 100 := by
  unfold CutSeriesR
  cases h : isSer m xs
  · simp
  · have := (isSer_true h).2.1
    split
    · simp
    · split
      · simp
      · simp only [List.length_take]; omega
def ChangeSeriesR (m : Int) (xs : List Int) (n : Int) : (Int × List Int) × Int := if isSer m xs = false then ((0, []), 1) else if isModB n = false ∨ m % n ≠ 0 then ((0, []), 2) else ((n, rests n xs), 0)
theorem ChangeSeriesR_len (m : Int) (xs : List Int) (n : Int) : (ChangeSeriesR m xs n).1.2.length ≤ 100 := by
  unfold ChangeSeriesR
  cases h : isSer m xs
  · simp
  · have := (isSer_true h).2.1
    split
    · simp
    · split
      · simp
      · simp only [length_rests]; omega
theorem getD_take (xs : List Int) (n k : Nat) (h : k < n) : (xs.take n).getD k 0 = xs.getD k 0 := by
  rw [List.getD_eq_getElem?_getD, List.getElem?_take, if_pos h, ← List.getD_eq_getElem?_getD]
theorem OwnI.rdTake {w : World} {B n : Nat} {A : Option Addr} {c : Nat} {xs : List Int} (h : OwnI w B (.slice A xs.length c) xs) (hn : n ≤ xs.length) : RdI w (.slice A n c) (xs.take n) := by
  obtain ⟨A', c', e, h1, h2, h3⟩ := h.open_
  simp only [Value.slice.injEq] at e
  obtain ⟨rfl, _, rfl⟩ := e
  have hl : (xs.take n).length = n := by rw [List.length_take]; omega
  refine ⟨A, c, by rw [hl], by omega, h2, fun k hk => ?_⟩
  rw [hl] at hk
  obtain ⟨g, h4, _, h5, h6, _⟩ := h3 k (by omega)
  exact ⟨g, 0, h4, h5, by rw [Nat.zero_add, getD_take xs n k hk]; exact h6⟩
theorem isSer_bd {m : Int} {xs : List Int} (h : isSer m xs = true) (k : Nat) : 0 ≤ xs.getD k 0 ∧ xs.getD k 0 < 1000000 := by
  have h1 := isSer_num h k
  have h2 := isModB_true (isSer_true h).1
  omega

/-! ### Lists of coefficients as functions; sums; products -/
def co (xs : List Int) (k : Nat) : Int := xs.getD k 0
def lst (d : Nat) (g : Nat → Int) : List Int := (List.range d).map g
theorem length_lst (d : Nat) (g : Nat → Int) : (lst d g).length = d := by simp [lst]
theorem getD_lst (d : Nat) (g : Nat → Int) (k : Nat) (h : k < d) : (lst d g).getD k 0 = g k := by simp [lst, List.getD_eq_getElem?_getD, h]
theorem getD_lst_ge (d : Nat) (g : Nat → Int) (k : Nat) (h : d ≤ k) : (lst d g).getD k 0 = 0 := by
  rw [List.getD_eq_getElem?_getD, List.getElem?_eq_none (by rw [length_lst]; exact h)]; rfl
def upd (g : Nat → Int) (k : Nat) (y : Int) : Nat → Int := fun j => if j = k then y else g j
theorem lst_congr {d : Nat} {g h : Nat → Int} (e : ∀ k, k < d → g k = h k) : lst d g = lst d h := by
  unfold lst
  apply List.map_congr_left
  intro k hk
  exact e k (List.mem_range.1 hk)
theorem set_lst (d : Nat) (g : Nat → Int) (k : Nat) (y : Int) : (lst d g).set k y = lst d (upd g k y) := by
  apply List.ext_getElem
  · simp [length_lst]
  · intro i h1 h2
    simp only [lst, upd, List.getElem_set, List.getElem_map, List.getElem_range]
    by_cases h : k = i
    · simp [h]
    · simp [h, Ne.symm h]
theorem lst_self (xs : List Int) : lst xs.length (co xs) = xs := by
  apply List.ext_getElem
  · simp [length_lst]
  · intro i h1 h2
    simp [lst, co, List.getD_eq_getElem?_getD, h2]
theorem replicate_lst (d : Nat) : List.replicate d (0 : Int) = lst d fun _ => 0 := by
  apply List.ext_getElem
  · simp [length_lst]
  · intro i h1 h2
    simp [lst]
theorem lst_inj_take (d : Nat) (g : Nat → Int) (n : Nat) (h : n ≤ d) : (lst d g).take n = lst n g := by
  unfold lst
  rw [← List.map_take, List.take_range, Nat.min_eq_left h]
theorem lst_succ (d : Nat) (g : Nat → Int) : lst (d + 1) g = lst d g ++ [g d] := by simp [lst, List.range_succ]
def sumN (f : Nat → Int) : Nat → Int
  | 0 => 0
  | n + 1 => sumN f n + f n
theorem sumN_congr {f g : Nat → Int} : ∀ {n : Nat}, (∀ k, k < n → f k = g k) → sumN f n = sumN g n
  | 0, _ => rfl
  | n + 1, h => by simp only [sumN]; rw [sumN_congr (n := n) fun k hk => h k (by omega), h n (by omega)]
theorem sumN_zero : ∀ (n : Nat), sumN (fun _ => 0) n = 0
  | 0 => rfl
  | n + 1 => by simp [sumN, sumN_zero n]
/-- The first n terms of coefficient k of a product. -/
def cvTo (m : Int) (a b : Nat → Int) (n k : Nat) : Int := sumN (fun i => a i * b (k - i)) n % m
def cv (m : Int) (a b : Nat → Int) (k : Nat) : Int := cvTo m a b (k + 1) k
theorem cvTo_succ (m : Int) (a b : Nat → Int) (n k : Nat) : (cvTo m a b n k + a n * b (k - n) % m) % m = cvTo m a b (n + 1) k := by
  unfold cvTo
  simp only [sumN]
  rw [Int.emod_add_emod, Int.add_emod_emod]
theorem cvTo_succ' (m : Int) (a b : Nat → Int) (n k : Nat) : (cvTo m a b n k + a n * b (k - n)) % m = cvTo m a b (n + 1) k := by
  unfold cvTo
  simp only [sumN]
  rw [Int.emod_add_emod]
theorem cvTo_zero (m : Int) (a b : Nat → Int) (k : Nat) : cvTo m a b 0 k = 0 := by simp [cvTo, sumN]
theorem cvTo_bd {m : Int} (hm : 0 < m) (a b : Nat → Int) (n k : Nat) : 0 ≤ cvTo m a b n k ∧ cvTo m a b n k < m := ⟨Int.emod_nonneg _ (by omega), Int.emod_lt_of_pos _ hm⟩
theorem cv_congr {m : Int} {a b a' b' : Nat → Int} {k : Nat} (ha : ∀ i, i ≤ k → a i = a' i) (hb : ∀ i, i ≤ k → b i = b' i) : cv m a b k = cv m a' b' k := by
  unfold cv cvTo
  rw [sumN_congr]
  intro i hi
  rw [ha i (by omega), hb (k - i) (by omega)]
/-- The coefficients of a product, while row i is added: the first j numbers of that row have been added. -/
def stepF (m : Int) (a b : Nat → Int) (i j : Nat) : Nat → Int := fun k => if k < i then cv m a b k else if k < i + j then cvTo m a b (i + 1) k else cvTo m a b i k
theorem stepF_zero (m : Int) (a b : Nat → Int) (k : Nat) : stepF m a b 0 0 k = 0 := by simp [stepF, cvTo_zero]
theorem stepF_next (m : Int) (a b : Nat → Int) (i j k : Nat) : upd (stepF m a b i j) (i + j) (cvTo m a b (i + 1) (i + j)) k = stepF m a b i (j + 1) k := by
  unfold upd stepF
  by_cases h : k = i + j
  · subst h
    simp
    intro h
    omega
  · by_cases h1 : k < i
    · simp [h, h1]
    · by_cases h2 : k < i + j
      · simp [h, h1, h2, show k < i + (j + 1) by omega]
      · simp [h, h1, h2, show ¬ k < i + (j + 1) by omega]
theorem stepF_row (m : Int) (a b : Nat → Int) (d i k : Nat) (hk : k < d) : stepF m a b i (d - i) k = stepF m a b (i + 1) 0 k := by
  unfold stepF
  by_cases h1 : k < i
  · simp [h1, show k < i + 1 by omega]
  · by_cases h2 : k = i
    · subst h2; simp [cv, show k < k + (d - k) by omega]
    · simp [h1, show k < i + (d - i) by omega, show ¬ k < i + 1 by omega]
theorem stepF_zeroRow (m : Int) (a b : Nat → Int) (i k : Nat) (h : a i = 0) : stepF m a b i 0 k = stepF m a b (i + 1) 0 k := by
  have e : cvTo m a b (i + 1) k = cvTo m a b i k := by unfold cvTo; simp [sumN, h]
  unfold stepF
  by_cases h1 : k < i
  · simp [h1, show k < i + 1 by omega]
  · by_cases h2 : k = i
    · subst h2; simp [cv, e]
    · simp [h1, show ¬ k < i + 1 by omega, e]
theorem stepF_all (m : Int) (a b : Nat → Int) (d k : Nat) (hk : k < d) : stepF m a b d 0 k = cv m a b k := by simp [stepF, hk]
def timesL (m : Int) (d : Nat) (xs ys : List Int) : List Int := lst d (cv m (co xs) (co ys))
theorem length_timesL (m : Int) (d : Nat) (xs ys : List Int) : (timesL m d xs ys).length = d := length_lst _ _
/-- All coefficients are numbers modulo m. -/
def NumL (m : Int) (xs : List Int) : Prop := ∀ k, 0 ≤ xs.getD k 0 ∧ xs.getD k 0 < m
theorem NumL.lst {m : Int} {d : Nat} {g : Nat → Int} (hm : 0 < m) (h : ∀ k, k < d → 0 ≤ g k ∧ g k < m) : NumL m (lst d g) := by
  intro k
  rcases Nat.lt_or_ge k d with hk | hk
  · rw [getD_lst d g k hk]; exact h k hk
  · rw [getD_lst_ge d g k hk]; omega
theorem NumL.timesL {m : Int} (hm : 0 < m) (d : Nat) (xs ys : List Int) : NumL m (timesL m d xs ys) := NumL.lst hm fun k _ => cvTo_bd hm _ _ _ _
theorem NumL.replicate {m : Int} (hm : 0 < m) (d : Nat) : NumL m (List.replicate d 0) := by
  rw [replicate_lst]; exact NumL.lst hm fun _ _ => ⟨Int.le_refl _, hm⟩

end Go.Proofs.Ytfdklbimdkaaiaa
