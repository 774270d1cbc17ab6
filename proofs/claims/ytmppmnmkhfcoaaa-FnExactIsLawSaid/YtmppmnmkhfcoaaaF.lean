/- Contracts over this seat's translation. Condition: each contract's own. -/
import Derived.Test.YtmppmnmkhfcoaaaE
import Derived.ProofKit
import Derived.Laws.Bits64b
import Derived.Lib.Mul64
import Derived.OpenShut
import Derived.Below
import Derived.ChangeSame
import Derived.Deep.Modes
import Derived.Lib.SmallJoins
import Derived.ChangeSlices
import Derived.WalkKit
import Derived.WalkSpells
import Derived.WalkLawsBesides
import Derived.Deep.QuietTactic
import Derived.BigQuiet
import Derived.Deep.RegionHeld3
import Derived.Deep.RegionWith
import Derived.Deep.RegionLaw
import Derived.Deep.AppendLies
import Derived.Laws.CopyOwn
import Derived.Deep.DeepCutAuto
import Derived.Deep.OwnRows
import Derived.Deep.LoopGhost
import Derived.Deep.DeepFit
import Derived.Deep.DeepMust
import Derived.Deep.Draws
import Derived.Deep.CutRange
import Derived.Maps.AppendAt
import Derived.Lib.Hide
import Derived.StillTailTactics
import Derived.Laws.MakeOwn
import Derived.Deep.Matrix
set_option linter.unusedVariables false
open Go Go.RowKit
namespace Go.Proofs.Ytmppmnmkhfcoaaa
/-! ### Units, inverses, powers, orders -/
theorem OwnI.lit1' (w : World) (a : Int) : OwnI (w.alloc (.cells #[.int .i64 a] 2)) 0 (.slice (some ⟨w.heap.size, 0, none⟩) 1 1) [a] := OwnI.lit1 w a (Nat.zero_le _)
theorem codeR_zero1 {m a : Int} (h : codeR m [a] = 0) : (2 ≤ m ∧ m ≤ 10000) ∧ (0 ≤ a ∧ a < m) := by
  unfold codeR at h
  cases h1 : isModB m
  · simp [h1] at h
  · cases h2 : numsB m [a]
    · simp [h1, h2] at h
    · simp only [numsB, List.all_cons, List.all_nil, Bool.and_true] at h2
      exact ⟨isModB_true h1, isNumB_true h2⟩
def IsUnitR (m a : Int) : Bool × Int := if codeR m [a] = 0 then (unitB m a, 0) else (false, codeR m [a])
theorem iIsUnit_any (m a : Int) (w : World) : Calls Try.prog 42 #[.int .i64 m, .int .i64 a] w fun e w' => e = .returned (.tuple #[.bool (IsUnitR m a).1, .int .i64 (IsUnitR m a).2]) ∧ Below w.heap.size w w' := by
  by_cases hc : codeR m [a] = 0
  · have HF : IsUnitR m a = (unitB m a, 0) := by simp [IsUnitR, hc]
    rw [HF]
    clear HF
    obtain ⟨⟨h1, h2⟩, h3, h4⟩ := codeR_zero1 hc
    have HC := Lib.hid hc
    clear hc
    go_enter Try.func42, Try.ntmps42
    go_wp2_with (first | (go_at_call 112; refine (modular_any m _ _ [a] 0 (OwnI.lit1' _ a)).mono ?_; rintro e w1 ⟨rfl, hb⟩; rw [HC.out]) | (go_at_call 113; refine (isUnit_any _ _ _ (by omega) (by omega) (by omega) (by omega)).mono ?_; rintro e w2 ⟨rfl, k, rfl⟩))
    go_ret2
    exact ⟨rfl, below_drewN (((Below.refl _ _).alloc (Nat.le_refl _) _).trans (hb.mono (by simp))) _⟩
  · have HF : IsUnitR m a = (false, codeR m [a]) := by simp [IsUnitR, hc]
    rw [HF]
    clear HF
    have h1 : (codeR m [a] != 0) = true := by simpa using hc
    clear hc
    go_enter Try.func42, Try.ntmps42
    go_wp2_with (go_at_call 112; refine (modular_any m _ _ [a] 0 (OwnI.lit1' _ a)).mono ?_; rintro e w1 ⟨rfl, hb⟩)
    go_ret2
    exact ⟨rfl, ((Below.refl _ _).alloc (Nat.le_refl _) _).trans (hb.mono (by simp))⟩
theorem sIsUnit_any (m a : Int) (w : World) : Calls Try.prog 43 #[.int .i64 m, .int .i64 a] w fun e w' => e = .returned (.tuple #[.bool (IsUnitR m a).1, .int .i64 (IsUnitR m a).2]) ∧ Below w.heap.size w w' := by
  by_cases hc : codeR m [a] = 0
  · have HF : IsUnitR m a = (unitB m a, 0) := by simp [IsUnitR, hc]
    rw [HF]
    clear HF
    obtain ⟨⟨h1, h2⟩, h3, h4⟩ := codeR_zero1 hc
    have HC := Lib.hid hc
    clear hc
    go_enter Try.func43, Try.ntmps43
    go_wp2_with (first | (go_at_call 114; refine (l01Code_any m _ _ [a] 0 (OwnI.lit1' _ a)).mono ?_; rintro e w1 ⟨rfl, k1, rfl⟩; rw [HC.out]) | (go_at_call 115; refine (l01Unit_any _ _ _ (by omega) (by omega) (by omega) (by omega)).mono ?_; rintro e w2 ⟨rfl, k, rfl⟩))
    go_ret2
    exact ⟨rfl, by (repeat (first | assumption | exact Below.refl _ _ | refine Below.alloc ?_ (by first | omega | (simp; done) | (simp; omega)) _ | refine Below.setCell ?_ (by first | omega | (simp; done) | (simp; omega)) _ | refine below_drewN ?_ _))⟩
  · have HF : IsUnitR m a = (false, codeR m [a]) := by simp [IsUnitR, hc]
    rw [HF]
    clear HF
    have h1 : (codeR m [a] != 0) = true := by simpa using hc
    clear hc
    go_enter Try.func43, Try.ntmps43
    go_wp2_with (go_at_call 114; refine (l01Code_any m _ _ [a] 0 (OwnI.lit1' _ a)).mono ?_; rintro e w1 ⟨rfl, k1, rfl⟩)
    go_ret2
    exact ⟨rfl, by (repeat (first | assumption | exact Below.refl _ _ | refine Below.alloc ?_ (by first | omega | (simp; done) | (simp; omega)) _ | refine Below.setCell ?_ (by first | omega | (simp; done) | (simp; omega)) _ | refine below_drewN ?_ _))⟩
def unitC (m a : Int) : Int := if codeR m [a] = 0 then (if unitB m a = false then 5 else 0) else codeR m [a]
theorem unitC_zero {m a : Int} (h : unitC m a = 0) : codeR m [a] = 0 ∧ unitB m a = true := by
  unfold unitC at h
  by_cases hc : codeR m [a] = 0
  · rw [if_pos hc] at h
    refine ⟨hc, ?_⟩
    cases hu : unitB m a
    · simp [hu] at h
    · rfl
  · rw [if_neg hc] at h; exact absurd h hc
theorem unit_any (m a : Int) (w : World) : Calls Try.prog 108 #[.int .i64 m, .int .i64 a] w fun e w' => e = .returned (.int .i64 (unitC m a)) ∧ Below w.heap.size w w' := by
  by_cases hc : codeR m [a] = 0
  · obtain ⟨⟨h1, h2⟩, h3, h4⟩ := codeR_zero1 hc
    have HC := Lib.hid hc
    cases hu : unitB m a
    · have HF : unitC m a = 5 := by simp [unitC, hc, hu]
      rw [HF]
      clear HF hc
      have HU := Lib.hid hu
      clear hu
      go_enter Try.func108, Try.ntmps108
      go_wp2_with (first | (go_at_call 112; refine (modular_any m _ _ [a] 0 (OwnI.lit1' _ a)).mono ?_; rintro e w1 ⟨rfl, hb⟩; rw [HC.out]) | (go_at_call 113; refine (isUnit_any _ _ _ (by omega) (by omega) (by omega) (by omega)).mono ?_; rintro e w2 ⟨rfl, k, rfl⟩; rw [HU.out]))
      go_ret
      exact ⟨rfl, below_drewN (((Below.refl _ _).alloc (Nat.le_refl _) _).trans (hb.mono (by simp))) _⟩
    · have HF : unitC m a = 0 := by simp [unitC, hc, hu]
      rw [HF]
      clear HF hc
      have HU := Lib.hid hu
      clear hu
      go_enter Try.func108, Try.ntmps108
      go_wp2_with (first | (go_at_call 112; refine (modular_any m _ _ [a] 0 (OwnI.lit1' _ a)).mono ?_; rintro e w1 ⟨rfl, hb⟩; rw [HC.out]) | (go_at_call 113; refine (isUnit_any _ _ _ (by omega) (by omega) (by omega) (by omega)).mono ?_; rintro e w2 ⟨rfl, k, rfl⟩; rw [HU.out]))
      go_ret
      exact ⟨rfl, below_drewN (((Below.refl _ _).alloc (Nat.le_refl _) _).trans (hb.mono (by simp))) _⟩
  · have HF : unitC m a = codeR m [a] := by simp [unitC, hc]
    rw [HF]
    clear HF
    have h1 : (codeR m [a] != 0) = true := by simpa using hc
    clear hc
    go_enter Try.func108, Try.ntmps108
    go_wp2_with (go_at_call 112; refine (modular_any m _ _ [a] 0 (OwnI.lit1' _ a)).mono ?_; rintro e w1 ⟨rfl, hb⟩)
    go_ret
    exact ⟨rfl, ((Below.refl _ _).alloc (Nat.le_refl _) _).trans (hb.mono (by simp))⟩
theorem l01Units_any (m a : Int) (w : World) : Calls Try.prog 110 #[.int .i64 m, .int .i64 a] w fun e w' => e = .returned (.int .i64 (unitC m a)) ∧ Below w.heap.size w w' := by
  by_cases hc : codeR m [a] = 0
  · obtain ⟨⟨h1, h2⟩, h3, h4⟩ := codeR_zero1 hc
    have HC := Lib.hid hc
    cases hu : unitB m a
    · have HF : unitC m a = 5 := by simp [unitC, hc, hu]
      rw [HF]
      clear HF hc
      have HU := Lib.hid hu
      clear hu
      go_enter Try.func110, Try.ntmps110
      go_wp2_with (first | (go_at_call 114; refine (l01Code_any m _ _ [a] 0 (OwnI.lit1' _ a)).mono ?_; rintro e w1 ⟨rfl, k1, rfl⟩; rw [HC.out]) | (go_at_call 115; refine (l01Unit_any _ _ _ (by omega) (by omega) (by omega) (by omega)).mono ?_; rintro e w2 ⟨rfl, k, rfl⟩; rw [HU.out]))
      go_ret
      exact ⟨rfl, by (repeat (first | assumption | exact Below.refl _ _ | refine Below.alloc ?_ (by first | omega | (simp; done) | (simp; omega)) _ | refine Below.setCell ?_ (by first | omega | (simp; done) | (simp; omega)) _ | refine below_drewN ?_ _))⟩
    · have HF : unitC m a = 0 := by simp [unitC, hc, hu]
      rw [HF]
      clear HF hc
      have HU := Lib.hid hu
      clear hu
      go_enter Try.func110, Try.ntmps110
      go_wp2_with (first | (go_at_call 114; refine (l01Code_any m _ _ [a] 0 (OwnI.lit1' _ a)).mono ?_; rintro e w1 ⟨rfl, k1, rfl⟩; rw [HC.out]) | (go_at_call 115; refine (l01Unit_any _ _ _ (by omega) (by omega) (by omega) (by omega)).mono ?_; rintro e w2 ⟨rfl, k, rfl⟩; rw [HU.out]))
      go_ret
      exact ⟨rfl, by (repeat (first | assumption | exact Below.refl _ _ | refine Below.alloc ?_ (by first | omega | (simp; done) | (simp; omega)) _ | refine Below.setCell ?_ (by first | omega | (simp; done) | (simp; omega)) _ | refine below_drewN ?_ _))⟩
  · have HF : unitC m a = codeR m [a] := by simp [unitC, hc]
    rw [HF]
    clear HF
    have h1 : (codeR m [a] == 0) = false := by simpa using hc
    clear hc
    go_enter Try.func110, Try.ntmps110
    go_wp2_with (go_at_call 114; refine (l01Code_any m _ _ [a] 0 (OwnI.lit1' _ a)).mono ?_; rintro e w1 ⟨rfl, k1, rfl⟩)
    go_ret
    exact ⟨rfl, by (repeat (first | assumption | exact Below.refl _ _ | refine Below.alloc ?_ (by first | omega | (simp; done) | (simp; omega)) _ | refine Below.setCell ?_ (by first | omega | (simp; done) | (simp; omega)) _ | refine below_drewN ?_ _))⟩
/-! Euclid's algorithm with the coefficients. -/
def eu : Nat → Int → Int → Int → Int → Int
  | 0, _, _, x, _ => x
  | n + 1, r, s, x, y => if s = 0 then x else eu n s (r - r / s * s) y (x - r / s * y)
theorem eu_zero (n : Nat) (r x y : Int) : eu n r 0 x y = x := by cases n <;> simp [eu]
theorem rest_bd {r s : Int} (hs : 0 < s) : 0 ≤ r - r / s * s ∧ r - r / s * s < s := by
  have h1 := Int.emod_nonneg r (show s ≠ 0 by omega)
  have h2 := Int.emod_lt_of_pos r hs
  have h3 := Int.emod_def r s
  rw [Int.mul_comm] at h3
  omega
theorem eu_stable : ∀ (n k : Nat) (r s x y : Int), 0 ≤ s → s.toNat < n → s.toNat < k → eu n r s x y = eu k r s x y
  | 0, _, _, _, _, _, _, h, _ => by omega
  | _ + 1, 0, _, _, _, _, _, _, h => by omega
  | n + 1, k + 1, r, s, x, y, h0, h1, h2 => by
    by_cases hs : s = 0
    · simp [eu, hs]
    · have hb := rest_bd (r := r) (show 0 < s by omega)
      simp only [eu, if_neg hs]
      exact eu_stable n k _ _ _ _ hb.1 (by omega) (by omega)
theorem eu_step {r s x y X : Int} (h : ∀ n, s.toNat < n → eu n r s x y = X) (hs : 0 < s) : ∀ n, (r - r / s * s).toNat < n → eu n s (r - r / s * s) y (x - r / s * y) = X := by
  intro n hn
  have hb := rest_bd (r := r) hs
  have h1 := h (s.toNat + 1) (by omega)
  rw [eu, if_neg (by omega)] at h1
  rw [← h1]
  exact eu_stable _ _ _ _ _ _ hb.1 hn (by omega)
theorem eu_inv {m r s x y : Int} (hr : 0 < r) (hs : 0 < s) (h : (x.natAbs : Int) * s + (y.natAbs : Int) * r ≤ m) :
    (y.natAbs : Int) * (r - r / s * s) + ((x - r / s * y).natAbs : Int) * s ≤ m ∧ (y.natAbs : Int) ≤ m ∧ (x.natAbs : Int) ≤ m ∧ 0 ≤ r / s * s ∧ r / s * s ≤ r ∧ ((r / s * y).natAbs : Int) ≤ m := by
  have q0 : 0 ≤ r / s := Int.ediv_nonneg (by omega) (by omega)
  have qs : r / s * s ≤ r := Int.ediv_mul_le r (by omega)
  have qs0 : 0 ≤ r / s * s := Int.mul_nonneg q0 (by omega)
  generalize r / s = q at *
  have e1 : ((q * y).natAbs : Int) = q * (y.natAbs : Int) := by rw [Int.natAbs_mul]; simp [Int.natAbs_of_nonneg q0]
  have t1 : ((x - q * y).natAbs : Int) ≤ (x.natAbs : Int) + q * (y.natAbs : Int) := by
    have h2 := Int.natAbs_sub_le x (q * y)
    rw [← e1]
    omega
  have x0 : (0 : Int) ≤ (x.natAbs : Int) := by omega
  have y0 : (0 : Int) ≤ (y.natAbs : Int) := by omega
  generalize hX : (x.natAbs : Int) = X at *
  generalize hY : (y.natAbs : Int) = Y at *
  generalize ((x - q * y).natAbs : Int) = Z at *
  have t2 : Z * s ≤ (X + q * Y) * s := Int.mul_le_mul_of_nonneg_right t1 (by omega)
  have t3 : (X + q * Y) * s = X * s + Y * (q * s) := by rw [Int.add_mul, Int.mul_comm q Y, Int.mul_assoc]
  have t4 : Y * (r - q * s) = Y * r - Y * (q * s) := Int.mul_sub _ _ _
  have t5 : 0 ≤ X * s := Int.mul_nonneg x0 (by omega)
  have t6 : 0 ≤ Y * r := Int.mul_nonneg y0 (by omega)
  have t7 : Y * 1 ≤ Y * r := Int.mul_le_mul_of_nonneg_left (by omega) y0
  have t8 : X * 1 ≤ X * s := Int.mul_le_mul_of_nonneg_left (by omega) x0
  have t9 : Y * (q * s) ≤ Y * r := Int.mul_le_mul_of_nonneg_left qs y0
  have t10 : q * Y ≤ Y * (q * s) := by
    have : Y * q * 1 ≤ Y * q * s := Int.mul_le_mul_of_nonneg_left (by omega) (Int.mul_nonneg y0 q0)
    rw [Int.mul_assoc Y q s, Int.mul_one, Int.mul_comm Y q] at this
    exact this
  refine ⟨by omega, by omega, by omega, qs0, qs, ?_⟩
  rw [e1]
  omega
def invN (m a : Int) : Int := eu ((a % m).toNat + 1) m (a % m) 0 1 % m
theorem inverse_any (m a : Int) (w : World) (hm : 2 ≤ m) (hm' : m ≤ 1000000000000000) : Calls Try.prog 109 #[.int .i64 m, .int .i64 a] w fun e w' => e = .returned (.int .i64 (invN m a)) ∧ ∃ n, w' = w.drewN n := by
  have hc1 := Int.emod_nonneg a (show m ≠ 0 by omega)
  have hc2 := Int.emod_lt_of_pos a (show 0 < m by omega)
  obtain ⟨X, hX⟩ : ∃ X, X = eu ((a % m).toNat + 1) m (a % m) 0 1 := ⟨_, rfl⟩
  have HI : Hid (invN m a = X % m) := by unfold Hid invN; rw [← hX]
  have H0 : Hid (∀ n, (a % m).toNat < n → eu n m (a % m) 0 1 = X) := fun n hn => by rw [hX]; exact eu_stable _ _ _ _ _ _ hc1 hn (by omega)
  clear hX
  go_enter Try.func109, Try.ntmps109
  go_wp2_with (go_at_call 85; refine (mod_any _ _ _ (by omega) (by omega)).mono ?_; rintro e w1 ⟨rfl, k1, rfl⟩)
  generalize a % m = c at *
  go_loopw [5, 6, 7, 8] (fun tx ty tr ts wr => ∃ x y r s : Int, tx = .int .i64 x ∧ ty = .int .i64 y ∧ tr = .int .i64 r ∧ ts = .int .i64 s ∧ 0 < r ∧ r ≤ m ∧ 0 ≤ s ∧ s < r ∧ -m ≤ x ∧ x ≤ m ∧ Hid ((x.natAbs : Int) * s + (y.natAbs : Int) * r ≤ m) ∧ Hid (∀ n, s.toNat < n → eu n r s x y = X) ∧ ∃ n, wr = w.drewN n)
    (fun _ _ _ ts _ => (intOf ts).toNat)
  case atStart => exact ⟨0, 1, m, c, rfl, rfl, rfl, rfl, by omega, by omega, hc1, hc2, by omega, by omega, (by unfold Hid; simp), H0, _, rfl⟩
  case round =>
    obtain ⟨x, y, r, s, rfl, rfl, rfl, rfl, hr, hr', hs, hsr, hx, hx', hi, hX, n, rfl⟩ := hrel
    by_cases h0 : s = 0
    · subst h0
      have hx0 : x = X := by have := hX.out 1 (by simp); rwa [eu_zero] at this
      subst hx0
      go_wp2_with (go_at_call 85; refine (mod_any _ _ _ (by omega) (by omega)).mono ?_; rintro e w1 ⟨rfl, k2, rfl⟩)
      go_ret
      exact ⟨by rw [HI.out]; rfl, _, rfl⟩
    · have hs0 : 0 < s := by omega
      obtain ⟨i1, i2, i3, i4, i5, i6⟩ := eu_inv hr hs0 hi.out
      have I1 := Lib.hid i1
      have HS := Lib.hid (eu_step hX.out hs0)
      have hb := rest_bd (r := r) hs0
      have hne : (s != 0) = true := by simpa using h0
      have hq0 : 0 ≤ r / s := Int.ediv_nonneg (by omega) (by omega)
      have hq1 : r / s ≤ r := Int.ediv_le_self _ (by omega)
      have i7 : -m ≤ r / s * y ∧ r / s * y ≤ m := by omega
      clear i1 h0 i6
      go_wp2
      go_roundw
      case rel => exact ⟨y, x - r / s * y, s, r - r / s * s, rfl, rfl, rfl, rfl, hs0, by omega, hb.1, hb.2, by omega, by omega, I1.out, HS.out, _, rfl⟩
      case measure => simp [intOf]; omega
theorem l01Inv_any (m a : Int) (w : World) (hm : 2 ≤ m) (hm' : m ≤ 1000000000000000) : Calls Try.prog 111 #[.int .i64 m, .int .i64 a] w fun e w' => e = .returned (.int .i64 (invN m a)) ∧ ∃ n, w' = w.drewN n := by
  have hc1 := Int.emod_nonneg a (show m ≠ 0 by omega)
  have hc2 := Int.emod_lt_of_pos a (show 0 < m by omega)
  obtain ⟨X, hX⟩ : ∃ X, X = eu ((a % m).toNat + 1) m (a % m) 0 1 := ⟨_, rfl⟩
  have HI : Hid (invN m a = X % m) := by unfold Hid invN; rw [← hX]
  have H0 : Hid (∀ n, (a % m).toNat < n → eu n m (a % m) 0 1 = X) := fun n hn => by rw [hX]; exact eu_stable _ _ _ _ _ _ hc1 hn (by omega)
  clear hX
  go_enter Try.func111, Try.ntmps111
  go_wp2_with (go_at_call 124; refine (l01Mod_any _ _ _ (by omega) (by omega)).mono ?_; rintro e w1 ⟨rfl, k1, rfl⟩)
  generalize a % m = c at *
  go_loopw [5, 6, 7, 8] (fun tr ts tx ty wr => ∃ x y r s : Int, tx = .int .i64 x ∧ ty = .int .i64 y ∧ tr = .int .i64 r ∧ ts = .int .i64 s ∧ 0 < r ∧ r ≤ m ∧ 0 ≤ s ∧ s < r ∧ -m ≤ x ∧ x ≤ m ∧ Hid ((x.natAbs : Int) * s + (y.natAbs : Int) * r ≤ m) ∧ Hid (∀ n, s.toNat < n → eu n r s x y = X) ∧ ∃ n, wr = w.drewN n)
    (fun _ ts _ _ _ => (intOf ts).toNat)
  case atStart => exact ⟨0, 1, m, c, rfl, rfl, rfl, rfl, by omega, by omega, hc1, hc2, by omega, by omega, (by unfold Hid; simp), H0, _, rfl⟩
  case round =>
    obtain ⟨x, y, r, s, rfl, rfl, rfl, rfl, hr, hr', hs, hsr, hx, hx', hi, hX, n, rfl⟩ := hrel
    by_cases h0 : s = 0
    · subst h0
      have hx0 : x = X := by have := hX.out 1 (by simp); rwa [eu_zero] at this
      subst hx0
      go_wp2_with (go_at_call 124; refine (l01Mod_any _ _ _ (by omega) (by omega)).mono ?_; rintro e w1 ⟨rfl, k2, rfl⟩)
      go_ret
      exact ⟨by rw [HI.out]; rfl, _, rfl⟩
    · have hs0 : 0 < s := by omega
      obtain ⟨i1, i2, i3, i4, i5, i6⟩ := eu_inv hr hs0 hi.out
      have I1 := Lib.hid i1
      have HS := Lib.hid (eu_step hX.out hs0)
      have hb := rest_bd (r := r) hs0
      have hq0 : 0 ≤ r / s := Int.ediv_nonneg (by omega) (by omega)
      have hq1 : r / s ≤ r := Int.ediv_le_self _ (by omega)
      have i7 : -m ≤ r / s * y ∧ r / s * y ≤ m := by omega
      clear i1 h0 i6
      go_wp2
      go_roundw
      case rel => exact ⟨y, x - r / s * y, s, r - r / s * s, rfl, rfl, rfl, rfl, hs0, by omega, hb.1, hb.2, by omega, by omega, I1.out, HS.out, _, rfl⟩
      case measure => simp [intOf]; omega
def InverseModuloR (m a : Int) : Int × Int := if unitC m a = 0 then (invN m a, 0) else (0, unitC m a)
theorem iInverseModulo_any (m a : Int) (w : World) : Calls Try.prog 38 #[.int .i64 m, .int .i64 a] w fun e w' => e = .returned (.tuple #[.int .i64 (InverseModuloR m a).1, .int .i64 (InverseModuloR m a).2]) ∧ Below w.heap.size w w' := by
  by_cases hc : unitC m a = 0
  · have HF : InverseModuloR m a = (invN m a, 0) := by simp [InverseModuloR, hc]
    rw [HF]
    clear HF
    obtain ⟨⟨h1, h2⟩, h3, h4⟩ := codeR_zero1 (unitC_zero hc).1
    have HC := Lib.hid hc
    clear hc
    go_enter Try.func38, Try.ntmps38
    go_wp2_with (first | (go_at_call 108; refine (unit_any m a _).mono ?_; rintro e w1 ⟨rfl, hb⟩; rw [HC.out]) | (go_at_call 109; refine (inverse_any m a _ (by omega) (by omega)).mono ?_; rintro e w2 ⟨rfl, k, rfl⟩))
    go_ret2
    exact ⟨rfl, below_drewN hb _⟩
  · have HF : InverseModuloR m a = (0, unitC m a) := by simp [InverseModuloR, hc]
    rw [HF]
    clear HF
    have h1 : (unitC m a != 0) = true := by simpa using hc
    clear hc
    go_enter Try.func38, Try.ntmps38
    go_wp2_with (go_at_call 108; refine (unit_any m a _).mono ?_; rintro e w1 ⟨rfl, hb⟩)
    go_ret2
    exact ⟨rfl, hb⟩
theorem sInverseModulo_any (m a : Int) (w : World) : Calls Try.prog 39 #[.int .i64 m, .int .i64 a] w fun e w' => e = .returned (.tuple #[.int .i64 (InverseModuloR m a).1, .int .i64 (InverseModuloR m a).2]) ∧ Below w.heap.size w w' := by
  by_cases hc : unitC m a = 0
  · have HF : InverseModuloR m a = (invN m a, 0) := by simp [InverseModuloR, hc]
    rw [HF]
    clear HF
    obtain ⟨⟨h1, h2⟩, h3, h4⟩ := codeR_zero1 (unitC_zero hc).1
    have HC := Lib.hid hc
    clear hc
    go_enter Try.func39, Try.ntmps39
    go_wp2_with (first | (go_at_call 110; refine (l01Units_any m a _).mono ?_; rintro e w1 ⟨rfl, hb⟩; rw [HC.out]) | (go_at_call 111; refine (l01Inv_any m a _ (by omega) (by omega)).mono ?_; rintro e w2 ⟨rfl, k, rfl⟩))
    go_ret2
    exact ⟨rfl, below_drewN hb _⟩
  · have HF : InverseModuloR m a = (0, unitC m a) := by simp [InverseModuloR, hc]
    rw [HF]
    clear HF
    have h1 : (unitC m a != 0) = true := by simpa using hc
    clear hc
    go_enter Try.func39, Try.ntmps39
    go_wp2_with (go_at_call 110; refine (l01Units_any m a _).mono ?_; rintro e w1 ⟨rfl, hb⟩)
    go_ret2
    exact ⟨rfl, hb⟩

/-! ### Powers -/
theorem pow_mod (a m : Int) (n : Nat) : (a % m) ^ n % m = a ^ n % m := by
  induction n with
  | zero => simp
  | succ n ih => rw [Int.pow_succ, Int.pow_succ, Int.mul_emod, ih, Int.emod_emod, ← Int.mul_emod]
theorem sq_pow (x : Int) (j : Nat) : (x * x) ^ j = x ^ (2 * j) := by
  induction j with
  | zero => simp
  | succ j ih => rw [Int.pow_succ, ih, show 2 * (j + 1) = 2 * j + 1 + 1 by omega, Int.pow_succ, Int.pow_succ, Int.mul_assoc]
theorem pow_even (o x m : Int) (j : Nat) : o * (x * x % m) ^ j % m = o * x ^ (2 * j) % m := by
  rw [Int.mul_emod, pow_mod, sq_pow, ← Int.mul_emod]
theorem pow_odd (o x m : Int) (j : Nat) : o * x % m * (x * x % m) ^ j % m = o * x ^ (2 * j + 1) % m := by
  rw [Int.mul_emod, pow_mod, sq_pow, Int.emod_emod, ← Int.mul_emod, Int.pow_succ, Int.mul_assoc, Int.mul_comm x]
theorem mul_bd' {a b m n : Int} (ha : 0 ≤ a) (ha' : a ≤ m) (hb : 0 ≤ b) (hb' : b ≤ n) : 0 ≤ a * b ∧ a * b ≤ m * n := ⟨Int.mul_nonneg ha hb, Int.mul_le_mul ha' hb' hb (by omega)⟩
theorem prod_bd {a b m : Int} (h1 : 0 ≤ a) (h2 : a < m) (h3 : 0 ≤ b) (h4 : b < m) (h5 : m ≤ 3000000000) : 0 ≤ a * b ∧ a * b ≤ 9000000000000000000 := by
  have := mul_bd' h1 (show a ≤ 3000000000 by omega) h3 (show b ≤ 3000000000 by omega)
  omega
theorem mul_any (m a b : Int) (w : World) (hm : 0 < m) (hm' : m ≤ 3000000000) (ha : 0 ≤ a) (ha' : a < m) (hb : 0 ≤ b) (hb' : b < m) : Calls Try.prog 133 #[.int .i64 m, .int .i64 a, .int .i64 b] w fun e w' => e = .returned (.int .i64 (a * b % m)) ∧ w = w' := by
  have hp := prod_bd ha ha' hb hb' hm'
  go_enter Try.func133, Try.ntmps133
  go_wp2
  go_ret
  exact ⟨rfl, rfl⟩
def powN (m a : Int) (k : Nat) : Int := a ^ k % m
theorem power_any (m a : Int) (k : Nat) (w : World) (hm : 2 ≤ m) (hm' : m ≤ 3000000000) (ha : 0 ≤ a) (ha' : a < m) (hk : k ≤ 1000000000000) : Calls Try.prog 117 #[.int .i64 m, .int .i64 a, .int .i64 k] w fun e w' => e = .returned (.int .i64 (powN m a k)) ∧ w = w' := by
  have H1 : Hid ((1 : Int) % m = 1) := Int.emod_eq_of_lt (by omega) (by omega)
  go_enter Try.func117, Try.ntmps117
  go_wp2
  go_loop [1, 2, 7] (fun s1 s2 s3 => ∃ (x o : Int) (j : Nat), s1 = .int .i64 x ∧ s2 = .int .i64 j ∧ s3 = .int .i64 o ∧ 0 ≤ x ∧ x < m ∧ 0 ≤ o ∧ o < m ∧ j ≤ 1000000000000 ∧ Hid (o * x ^ j % m = powN m a k)) (fun _ s2 _ => (intOf s2).toNat)
  case atStart => exact ⟨a, 1, k, rfl, rfl, (by first | rfl | rw [H1.out]), ha, ha', by omega, by omega, hk, by unfold Hid powN; rw [Int.one_mul]⟩
  case round =>
    obtain ⟨x, o, j, rfl, rfl, rfl, hx, hx', ho, ho', hj, hp⟩ := hrel
    have hx2 : 0 ≤ x * x % m := Int.emod_nonneg _ (by omega)
    have hx3 : x * x % m < m := Int.emod_lt_of_pos _ (by omega)
    have ho2 : 0 ≤ o * x % m := Int.emod_nonneg _ (by omega)
    have ho3 : o * x % m < m := Int.emod_lt_of_pos _ (by omega)
    by_cases h0 : j = 0
    · subst h0
      have HF : Hid (powN m a k = o) := by
        have := hp.out
        rw [Int.pow_zero, Int.mul_one, Int.emod_eq_of_lt ho ho'] at this
        exact this.symm
      go_wp2
      go_ret
      exact ⟨by rw [HF.out]; rfl, rfl⟩
    · have hj0 : 0 < j := by omega
      by_cases h1 : j % 2 = 1
      · obtain ⟨i, hi⟩ : ∃ i, j = 2 * i + 1 := ⟨j / 2, by omega⟩
        subst hi
        have HE := Lib.hid (pow_odd o x m i)
        have hb1 : (((2 * i + 1 : Nat) : Int) % 2 == 1) = true := by first | (simp; done) | (simp; omega)
        have hb2 : ((2 * i + 1 : Nat) : Int) / 2 = (i : Int) := by omega
        clear h0 h1
        go_wp2_with (first | (go_at_call_of 133 (.int .i64 o); refine (mul_any m o x _ (by omega) hm' ho ho' hx hx').mono ?_; rintro e w1 ⟨rfl, rfl⟩) | (go_at_call 133; refine (mul_any m _ x _ (by omega) hm' (by assumption) (by assumption) hx hx').mono ?_; rintro e w2 ⟨rfl, rfl⟩))
        go_round
        case rel => exact ⟨x * x % m, o * x % m, i, rfl, by first | rfl | (rw [hb2]) | (simp; done) | (simp; omega), rfl, hx2, hx3, ho2, ho3, by omega, HE.out.trans hp.out⟩
        case measure => simp [intOf]; omega
      · obtain ⟨i, hi⟩ : ∃ i, j = 2 * i := ⟨j / 2, by omega⟩
        subst hi
        have HE := Lib.hid (pow_even o x m i)
        have hb1 : (((2 * i : Nat) : Int) % 2 == 1) = false := by first | (simp; done) | (simp; omega)
        have hb2 : ((2 * i : Nat) : Int) / 2 = (i : Int) := by omega
        clear h0 h1
        go_wp2_with (go_at_call 133; refine (mul_any m x x _ (by omega) hm' hx hx' hx hx').mono ?_; rintro e w2 ⟨rfl, rfl⟩)
        go_round
        case rel => exact ⟨x * x % m, o, i, rfl, by first | rfl | (rw [hb2]) | (simp; done) | (simp; omega), rfl, hx2, hx3, ho, ho', by omega, HE.out.trans hp.out⟩
        case measure => simp [intOf]; omega
def PowerModuloR (m a k : Int) : Int × Int := if codeR m [a] = 0 then (if inB k 0 1000000000000 = false then (0, 2) else (powN m a k.toNat, 0)) else (0, codeR m [a])
theorem iPowerModulo_any (m a k : Int) (w : World) : Calls Try.prog 48 #[.int .i64 m, .int .i64 a, .int .i64 k] w fun e w' => e = .returned (.tuple #[.int .i64 (PowerModuloR m a k).1, .int .i64 (PowerModuloR m a k).2]) ∧ Below w.heap.size w w' := by
  by_cases hc : codeR m [a] = 0
  · obtain ⟨⟨h1, h2⟩, h3, h4⟩ := codeR_zero1 hc
    have HC := Lib.hid hc
    cases hk : inB k 0 1000000000000
    · have HF : PowerModuloR m a k = (0, 2) := by simp [PowerModuloR, hc, hk]
      rw [HF]
      clear HF hc
      have HK := Lib.hid hk
      clear hk
      go_enter Try.func48, Try.ntmps48
      go_wp2_with (first | (go_at_call 112; refine (modular_any m _ _ [a] 0 (OwnI.lit1' _ a)).mono ?_; rintro e w1 ⟨rfl, hb⟩; rw [HC.out]) | (go_at_call 93; refine (in_any _ _ _ _).mono ?_; rintro e w2 ⟨rfl, k2, rfl⟩; rw [HK.out]))
      go_ret2
      exact ⟨rfl, below_drewN (((Below.refl _ _).alloc (Nat.le_refl _) _).trans (hb.mono (by simp))) _⟩
    · have HF : PowerModuloR m a k = (powN m a k.toNat, 0) := by simp [PowerModuloR, hc, hk]
      rw [HF]
      clear HF hc
      obtain ⟨h5, h6⟩ := inB_true.1 hk
      obtain ⟨n, rfl⟩ := Int.eq_ofNat_of_zero_le h5
      rw [Int.toNat_natCast]
      have HK := Lib.hid hk
      clear hk
      go_enter Try.func48, Try.ntmps48
      go_wp2_with (first | (go_at_call 112; refine (modular_any m _ _ [a] 0 (OwnI.lit1' _ a)).mono ?_; rintro e w1 ⟨rfl, hb⟩; rw [HC.out]) | (go_at_call 93; refine (in_any _ _ _ _).mono ?_; rintro e w2 ⟨rfl, k2, rfl⟩; rw [HK.out]) | (go_at_call 117; refine (power_any m a n _ (by omega) (by omega) h3 h4 (by omega)).mono ?_; rintro e w3 ⟨rfl, rfl⟩))
      go_ret2
      exact ⟨rfl, below_drewN (((Below.refl _ _).alloc (Nat.le_refl _) _).trans (hb.mono (by simp))) _⟩
  · have HF : PowerModuloR m a k = (0, codeR m [a]) := by simp [PowerModuloR, hc]
    rw [HF]
    clear HF
    have h1 : (codeR m [a] != 0) = true := by simpa using hc
    clear hc
    go_enter Try.func48, Try.ntmps48
    go_wp2_with (go_at_call 112; refine (modular_any m _ _ [a] 0 (OwnI.lit1' _ a)).mono ?_; rintro e w1 ⟨rfl, hb⟩)
    go_ret2
    exact ⟨rfl, ((Below.refl _ _).alloc (Nat.le_refl _) _).trans (hb.mono (by simp))⟩

/-! ### ScaleSeries -/
theorem NewS.of {w : World} {m : Int} {xs ys : List Int} {e : Ending} {w' : World} (h : NewS w m xs e w') (he : Hid (xs = ys)) : NewS w m ys e w' := by rw [← he.out]; exact h
theorem isSer_NumL {m : Int} {xs : List Int} (h : isSer m xs = true) : NumL m xs := isSer_num h
theorem scaleL_step (m c : Int) (xs : List Int) (k : Nat) : lst (k + 1) (fun j => c * co xs j % m) = lst k (fun j => c * co xs j % m) ++ [c * co xs k % m] := lst_succ _ _
theorem l02Scale_any (m c : Int) (w : World) (v : Value) (xs ys : List Int) (B : Nat) (hv : OwnI w B v xs) (hy : scaleL m c xs = ys) (hm : 2 ≤ m) (hm' : m ≤ 3000000000) (hc0 : 0 ≤ c) (hc0' : c < m) (hn : NumL m xs) (hl : xs.length ≤ 1000000) :
    Calls Try.prog 140 #[.int .i64 m, .int .i64 c, v] w (NewI w ys) := by
  obtain ⟨A, cp, e0, hc1, hc2, hA⟩ := hv.open_
  subst e0
  unfold maxLen at hc2
  have HY := Lib.hid hy
  have HN := Lib.hid hn
  clear hy hn
  go_enter Try.func140, Try.ntmps140
  go_wp2
  go_loopw [7, 8] (fun r i wr => ∃ k g c' : Nat, k ≤ xs.length ∧ i = .int .i64 k ∧ r = .slice (some ⟨g, 0, none⟩) k c' ∧ w.heap.size ≤ g ∧ RowI wr g c' (lst k (fun j => c * co xs j % m)) ∧ Below w.heap.size w wr) (fun _ i _ => xs.length - (intOf i).toNat)
  case atStart => exact ⟨0, w.heap.size, 0, Nat.zero_le _, rfl, rfl, Nat.le_refl _, RowI.lit w [] #[] rfl (by simp), by (repeat (first | assumption | exact Below.refl _ _ | refine Below.alloc ?_ (by first | omega | (simp; done) | (simp; omega)) _ | refine Below.setCell ?_ (by first | omega | (simp; done) | (simp; omega)) _ | refine below_drewN ?_ _))⟩
  case round =>
    obtain ⟨k, g, c', hk, rfl, rfl, hg, hrow, hb⟩ := hrel
    have hz := hb.size
    have hglt := hrow.lt
    by_cases hlt : k < xs.length
    · obtain ⟨b, rfl, hb1, hb2, hcell, hfr⟩ := hA k hlt
      clear hA
      have hcell' : wr.cell? ⟨b, k, none⟩ = some (.int .i64 (co xs k)) := (hb.cell (p := ⟨b, k, none⟩) hb2).trans hcell
      clear hcell
      have hnk : 0 ≤ co xs k ∧ co xs k < m := HN.out k
      have HS := Lib.hid (scaleL_step m c xs k)
      have HL : Hid ((lst k (fun j => c * co xs j % m)).length = k) := length_lst _ _
      obtain ⟨x, hx⟩ : ∃ x, x = co xs k := ⟨_, rfl⟩
      rw [← hx] at hcell' hnk HS
      have hp := prod_bd hc0 hc0' hnk.1 hnk.2 hm'
      have hk0 : (0 : Int) ≤ (k : Int) := by omega
      have hk1 : (k : Int) < (xs.length : Int) := by omega
      clear hx
      go_wp2_with (at_builtin; refine wpAppend1 _ _ w.heap.size (.slice (some ⟨g, 0, none⟩) k c') (lst k (fun j => c * co xs j % m)) k (c * x % m) wr.heap.size (wr.heap.size + 1) (by rfl) (by rfl) (by rfl) (by rfl) ((hrow.alloc _).own' hg HL.out) HL.out (RowI.block1 _) (by omega) (by simp; omega) (by simp) ?_; intro gg cap w1 hown1 hge hgrow hat)
      go_roundw
      case rel =>
        refine ⟨k + 1, gg, cap, by omega, by go_num, rfl, hge, by rw [HS.out]; exact hown1, ?_⟩
        refine Below.grown (hb.alloc hz _) hgrow (by simp; omega) fun b hb => ?_
        simp [Value.ownBlock] at hb
        omega
      case measure => simp [intOf]; omega
    · obtain rfl : k = xs.length := by omega
      have hrow' : RowI wr g c' ys := by rw [← HY.out]; exact hrow
      have hly : Hid (ys.length = xs.length) := by unfold Hid; rw [← HY.out, length_scaleL]
      go_wp2
      go_ret
      have ho := hrow'.own hg
      exact ⟨_, _, by rw [hly.out]; rfl, ho, hb⟩
def ScaleSeriesR (m : Int) (xs : List Int) (c : Int) : (Int × List Int) × Int := if isSer m xs = false then ((0, []), 1) else if isNumB c m = false then ((0, []), 2) else ((m, scaleL m c xs), 0)
theorem ScaleSeriesR_len (m : Int) (xs : List Int) (c : Int) : (ScaleSeriesR m xs c).1.2.length ≤ 100 := by
  unfold ScaleSeriesR
  cases h : isSer m xs
  · simp
  · have := (isSer_true h).2.1
    split
    · simp
    · split
      · simp
      · simp only [length_scaleL]; omega

/-! ### IsPlane, CoefficientOf -/
def IsPlaneR (m : Int) (xss : List (List Int)) : Bool := isPl m xss
theorem iIsPlaneR_any (w : World) (m : Int) (v : Value) (xss : List (List Int)) (lo hi : Nat) (hv : OwnP w lo hi v xss) (hl : szP xss ≤ 2000000) : Calls Try.prog 78 #[.agg #[.int .i64 m, v]] w (RetB w (IsPlaneR m xss)) := iIsPlane_any w m v xss lo hi hv hl
def CoefficientOfR (m : Int) (xss : List (List Int)) (i j : Int) : Int × Int := if isPl m xss = false then (0, 1) else if inB i 0 ((xss.length : Int) - 1) = false then (0, 2) else if inB j 0 ((xss.length : Int) - 1 - i) = false then (0, 2) else (co2 xss i.toNat j.toNat, 0)

/-! ### RowOfPlane -/
theorem cell_store2 {w : World} {b g a : Nat} {x y u : Value} (h : w.cell? ⟨g, a, none⟩ = some u) (hne : g ≠ b) : ((w.setCell ⟨b, 0, none⟩ x).setCell ⟨b, 1, none⟩ y).cell? ⟨g, a, none⟩ = some u := by
  rw [World.cell?_setCell_other _ _ _ _ (by intro e; apply hne; simpa using (congrArg Addr.block e).symm), World.cell?_setCell_other _ _ _ _ (by intro e; apply hne; simpa using (congrArg Addr.block e).symm)]
  exact h
def RowOfPlaneR (m : Int) (xss : List (List Int)) (i : Int) : (Int × List Int) × Int := if isPl m xss = false then ((0, []), 1) else if inB i 0 ((xss.length : Int) - 1 - 1) = false then ((0, []), 2) else ((m, xss.getD i.toNat []), 0)
theorem RowOfPlaneR_len (m : Int) (xss : List (List Int)) (i : Int) : (RowOfPlaneR m xss i).1.2.length ≤ 100 := by
  unfold RowOfPlaneR
  cases h : isPl m xss
  · simp
  · have h2 := (isPl_true h).2.1
    cases hd : inB i 0 ((xss.length : Int) - 1 - 1)
    · simp
    · have := inB_true.1 hd
      simp only [Bool.true_eq_false, if_false]
      rw [isPl_len h (by omega)]
      omega

/-! ### New tables of zeros -/
theorem stepAppendP {W : World} {ops : Array Oper} {o : Oper} {a : Act} {K : Act → World → Prop} {Q : Exit → Act → World → Prop} {E : Prop} (s x : Operand) (lo hi : Nat) (v u : Value) (xss : List (List Int)) (ys : List Int) (n b H : Nat)
    (hgd : o.guard = none) (ho : o.op = .call { callee := .builtin .append, args := #[s, x], argTypes := #[22, 22] })
    (hs : a.eval s = v) (hx : a.eval x = .slice (some ⟨b, 0, none⟩) 1 1) (hv : OwnP W lo hi v xss) (hn : xss.length = n) (hhi : hi ≤ W.heap.size) (hu : OwnI W lo u ys) (hu2 : ∀ g, u.ownBlock = some g → hi ≤ g)
    (hb : W.heap[b]? = some (.cells #[u] 45 (0, 0))) (hl : n ≤ 1000000000000) (hB : lo ≤ W.heap.size) (hH : W.heap.size = H)
    (h : ∀ g c w', OwnP w' lo w'.heap.size (.slice (some ⟨g, 0, none⟩) (n + 1) c) (xss ++ [ys]) → W.grownBy w' v.ownBlock → (v.ownBlock = some g ∨ g = H) → K (a.put o.dst (.slice (some ⟨g, 0, none⟩) (n + 1) c)) w') :
    if Region.wanted o (yielded ops a.tmps) = true then Oper.wp Try.prog o a W K Q else E := by
  subst hn
  obtain ⟨i0, hi0, hz0, hz1, hz2⟩ := info_parts T.infoRow
  obtain ⟨us, h1, h2, h3, h4, h5⟩ := hv
  obtain ⟨Au, cu, eu⟩ := hu.form
  refine step_append_lies W hgd s x 22 ho lo 45 i0 (.slice none 0 0) 1 24 Try.underlying22 hi0 hz0 hz1 hz2 rfl (by decide) v us.length us hs h2 ⟨b, 0, none⟩ 1 1 [u] hx rfl (World.news_of_block (cs := #[u]) hb) (fun q hq => by simp at hq; subst hq; subst eu; rfl) (by decide) (by unfold maxLen; omega) (by omega) hB H hH ?_
  intro g c w' n2 hg hat _
  have hbl : (Value.slice (some ⟨g, 0, none⟩) (us.length + 1) c).ownBlock = v.ownBlock ∨ (Value.slice (some ⟨g, 0, none⟩) (us.length + 1) c).ownBlock = some W.heap.size := by
    rcases hat with h | h
    · exact .inl (by rw [h]; rfl)
    · exact .inr (by rw [h, hH]; rfl)
  have ho' := OwnP.push h1 h2 h3 h4 h5 hhi hu hu2 n2 hg hbl
  rw [h1] at ho' ⊢
  exact h g c w' ho' hg hat
theorem ownP_block_ge {w : World} {lo hi g : Nat} {v : Value} {xss : List (List Int)} (h : OwnP w lo hi v xss) (hg : v.ownBlock = some g) : lo ≤ g := by
  obtain ⟨us, _, h2, _⟩ := h
  exact (ownsRow_block_ge h2 hg).1
theorem below_grownP {B : Nat} {w0 w w' : World} {v : Value} (h : Below B w0 w) (hB : B ≤ w.heap.size) (hg : w.grownBy w' v.ownBlock) (hv : ∀ g, v.ownBlock = some g → B ≤ g) : Below B w0 w' := h.grown hg hB fun b hb => hv b hb
theorem Bf.grown {w w' : World} {b : Nat} {x y : Value} {row : Option Nat} (h : Bf w b x y) (R : w.grownBy w' row) (hne : some b ≠ row) : Bf w' b x y := by
  have e : w'.heap[b]? = w.heap[b]? := R.block b h.1.1 hne
  exact ⟨⟨Nat.lt_of_lt_of_le h.1.1 R.size, (World.cell?_of_block (a := ⟨b, 0, none⟩) e).trans h.1.2.1, (World.cell?_of_block (a := ⟨b, 1, none⟩) e).trans h.1.2.2⟩, (World.frozen?_of_block (a := ⟨b, 0, none⟩) e).trans h.2.1, (World.frozen?_of_block (a := ⟨b, 1, none⟩) e).trans h.2.2⟩
theorem Bf.set1 {w : World} {b : Nat} {x y : Value} (h : Bf w b x y) (y' : Value) : Bf (w.setCell ⟨b, 1, none⟩ y') b x y' := by
  obtain ⟨⟨h1, h2, h3⟩, h4, h5⟩ := h
  exact ⟨⟨by simpa [World.setCell] using h1, (World.cell?_setCell_other _ _ _ _ (by simp)).trans h2, World.cell?_setCell_same _ _ _ h3⟩, by simp [h4], by simp [h5]⟩
def zt (n k : Nat) : List (List Int) := (List.range k).map fun i => List.replicate (n - i) (0 : Int)
theorem length_zt (n k : Nat) : (zt n k).length = k := by simp [zt]
theorem zt_succ (n k : Nat) : zt n (k + 1) = zt n k ++ [List.replicate (n - k) 0] := by simp [zt, List.range_succ]
theorem zt_all (n : Nat) : zt n n = tab n fun _ _ => 0 := by
  unfold zt tab
  apply List.map_congr_left
  intro i _
  exact replicate_lst _
theorem made_own (w : World) (n : Nat) (hn : n ≤ 1000000000000) (lo : Nat) (hlo : lo ≤ w.heap.size) : OwnI (w.alloc (.cells (madeCells #[Value.int .i64 0] n) 2)) lo (.slice (some ⟨w.heap.size, 0, none⟩) n n) (List.replicate n 0) := by
  have h : RowI (w.alloc (.cells (madeCells #[Value.int .i64 0] n) 2)) w.heap.size n (List.replicate n 0) := by
    refine ⟨by simp, by unfold maxLen; omega, _, heap_alloc_new w _, size_madeCells _ _, ?_⟩
    rw [madeCells_zero, List.take_of_length_le (by simp)]
  exact h.own' hlo (by simp)
set_option maxRecDepth 8000 in
set_option maxHeartbeats 1000000 in
theorem l03Zero_any (w : World) (d : Int) (n : Nat) (hd : d + 1 = (n : Int)) (hn : n ≤ 1000000) : Calls Try.prog 125 #[.int .i64 d] w (NewP w (tab n fun _ _ => 0)) := by
  have hd2 : d = (n : Int) - 1 := by omega
  subst hd2
  clear hd
  go_enter Try.func125, Try.ntmps125
  go_wp2
  go_loopw [3, 4] (fun s i wr => ∃ (k : Nat) (A : Option Addr) (c : Nat), k ≤ n ∧ s = .slice A k c ∧ i = .int .i64 k ∧ Hid (OwnP wr w.heap.size wr.heap.size (.slice A k c) (zt n k)) ∧ Hid (Below w.heap.size w wr)) (fun _ i _ => n + 1 - (intOf i).toNat)
  case atStart => exact ⟨0, some ⟨w.heap.size, 0, none⟩, 0, Nat.zero_le _, rfl, rfl, (by unfold Hid; simpa [zt] using OwnP.lit0 w (Nat.le_refl _)), by unfold Hid; (repeat (first | assumption | exact Below.refl _ _ | refine Below.alloc ?_ (by first | omega | (simp; done) | (simp; omega)) _ | refine Below.setCell ?_ (by first | omega | (simp; done) | (simp; omega)) _ | refine below_drewN ?_ _))⟩
  case round =>
    obtain ⟨k, A, c, hk, rfl, rfl, HO, HB⟩ := hrel
    have hz := HB.out.size
    by_cases hlt : k < n
    · have hk1 : (k : Int) ≤ (n : Int) - 1 := by omega
      obtain ⟨r, hr⟩ : ∃ r, r = n - k := ⟨_, rfl⟩
      have hr2 : k + r ≤ n ∧ n ≤ k + r := by omega
      have HS : Hid (zt n (k + 1) = zt n k ++ [List.replicate r 0]) := by rw [hr]; exact zt_succ n k
      clear hr
      have v1 : (n : Int) - 1 - (k : Int) + 1 = (r : Int) := by omega
      go_wp2_with (first | (at_make; refine makeI _ r (by rfl) (by rfl) (by rfl) (by omega) ?_; intro w0 hr0 hb0 hs0; have HS0 := Lib.hid hs0; have HR := Lib.hid hr0; have HB0 := Lib.hid hb0; have hsz : w0.heap.size ≤ wr.heap.size + 1 ∧ wr.heap.size + 1 ≤ w0.heap.size := (by rw [hs0]; omega); clear hs0 hr0 hb0) | (at_builtin; refine appendP _ _ w.heap.size wr.heap.size (.slice A k c) (.slice (some ⟨wr.heap.size, 0, none⟩) r r) (zt n k) (List.replicate r 0) w0.heap.size (by rfl) (by rfl) (by rfl) (by rfl) ((HO.out.keep HB0.out).alloc _) (by simp; omega) ((HR.out.alloc _).own' hz (by simp)) (by intro g hg; simp [Value.ownBlock] at hg; omega) (heap_alloc_new w0 _) (by rw [length_zt]; omega) (by simp; omega) ?_; intro A2 c2 w2 ho2 hg2; rw [length_zt] at ho2 ⊢))
      go_roundw
      case rel => exact ⟨k + 1, A2, c2, by omega, rfl, by go_num, by rw [HS.out]; exact ho2, by unfold Hid; exact below_grownP ((HB.out.trans (HB0.out.mono hz)).alloc (by omega) _) (by simp; omega) hg2 (fun g hg => (ownP_block_ge HO.out hg))⟩
      case measure => simp [intOf]; omega
    · obtain rfl : k = n := by omega
      have hd5 : decide ((k : Int) ≤ (k : Int) - 1) = false := by simp; omega
      have HZ := Lib.hid (zt_all k)
      have HL : Hid ((tab k fun _ _ => 0).length = k) := length_tab _ _
      go_wp2
      go_ret
      exact ⟨A, c, by rw [HL.out]; rfl, by rw [HL.out, ← HZ.out]; exact HO.out, HB.out⟩
theorem heap_two (w : World) (o1 o2 : Obj) : ((w.alloc o1).alloc o2).drew.heap[w.heap.size + 1]? = some o2 := by
  have h : ((w.alloc o1).alloc o2).heap[w.heap.size + 1]? = some o2 := by have := heap_alloc_new (w.alloc o1) o2; simpa using this
  exact h
theorem make64 (n : Nat) (hn : n ≤ 1000000000000) : ∀ w : World, (Instr.makeSlice 45 (.int .i64 (n : Int)) (.int .i64 (n : Int))).run Try.prog w = .ok (.slice (some ⟨w.heap.size, 0, none⟩) n n) (w.alloc (.cells (madeCells #[Value.int .i64 0] n) 2)) :=
  run_make_row' 45 2 (.int .i64 0) 8 Try.underlying45 T.info64 rfl .i64 .i64 n (by omega) (by omega)
set_option maxRecDepth 8000 in
set_option maxHeartbeats 2000000 in
theorem emptyPlane_any (w : World) (m d : Int) (n : Nat) (hd : d + 1 = (n : Int)) (hn : n ≤ 1000000) : Calls Try.prog 131 #[.int .i64 m, .int .i64 d] w (NewPl w m (tab n fun _ _ => 0)) := by
  have hd2 : d = (n : Int) - 1 := by omega
  subst hd2
  clear hd
  go_enter Try.func131, Try.ntmps131
  go_wp2
  go_loopw [11] (fun i wr => ∃ (k : Nat) (A : Option Addr) (c : Nat), k ≤ n ∧ i = .int .i64 k ∧ Hid (OwnP wr (w.heap.size + 2) wr.heap.size (.slice A k c) (zt n k)) ∧ Hid (Bf wr (w.heap.size + 1) (.int .i64 m) (.slice A k c)) ∧ Hid (Bf wr w.heap.size (.int .i64 0) (.slice none 0 0)) ∧ Hid (Below w.heap.size w wr)) (fun i _ => n + 1 - (intOf i).toNat)
  case atStart => exact ⟨0, none, 0, Nat.zero_le _, rfl, (by unfold Hid; simpa [zt] using OwnP.nil_ _ _ _), Bf.q2, (Bf.q1 (w := w) (t := 24)).alloc _, by unfold Hid; (repeat (first | assumption | exact Below.refl _ _ | refine Below.alloc ?_ (by first | omega | (simp; done) | (simp; omega)) _ | refine Below.setCell ?_ (by first | omega | (simp; done) | (simp; omega)) _ | refine below_drewN ?_ _))⟩
  case round =>
    obtain ⟨k, A, c, hk, rfl, HO, HP, HQ, HB⟩ := hrel
    have hz := HB.out.size
    have hzP := HP.out.1.1
    have p2 := HP.out.1.2.2
    by_cases hlt : k < n
    · obtain ⟨r, hr⟩ : ∃ r, r = n - k := ⟨_, rfl⟩
      have hr2 : k + r ≤ n ∧ n ≤ k + r := by omega
      have HS : Hid (zt n (k + 1) = zt n k ++ [List.replicate r 0]) := by rw [hr]; exact zt_succ n k
      clear hr
      have hmk := make64 r (by omega)
      have v0 : IntKind.i64.wrap (n : Int) = (n : Int) := IntWalk.i64_in _ (by omega)
      have v1 : IntKind.i64.wrap ((n : Int) - (k : Int)) = (r : Int) := by rw [show (n : Int) - (k : Int) = (r : Int) by omega]; exact IntWalk.i64_in _ (by omega)
      have hne : some (w.heap.size + 1) ≠ (Value.slice A k c).ownBlock := fun e => by have := ownP_block_ge HO.out e.symm; omega
      have hne2 : some w.heap.size ≠ (Value.slice A k c).ownBlock := fun e => by have := ownP_block_ge HO.out e.symm; omega
      have hm1 := (HP.out.alloc (.cells (madeCells #[Value.int .i64 0] r) 2)).1.2.2
      have hm2 := ((HP.out.alloc (.cells (madeCells #[Value.int .i64 0] r) 2)).alloc (.cells #[.slice (some ⟨wr.heap.size, 0, none⟩) r r] 45)).1.2.2
      go_wp2
      go_region_law (refine stepAppendP _ _ (w.heap.size + 2) wr.heap.size (.slice A k c) (.slice (some ⟨wr.heap.size, 0, none⟩) r r) (zt n k) (List.replicate r 0) k (wr.heap.size + 1) (wr.heap.size + 2) (by rfl) (by rfl) (by rfl) (by rfl) (((HO.out.alloc _).alloc _).drewN 1) (length_zt _ _) (by simp; omega) (((made_own wr r (by omega) (w.heap.size + 2) (by omega)).alloc _).drewN 1) (by intro g hg; simp [Value.ownBlock] at hg; omega) (heap_two _ _ _) (by omega) (by simp; omega) (by simp) ?_; intro gg cap w9 ho9 hg9 hat9; have O9 : Bf w9 (w.heap.size + 1) (.int .i64 m) (.slice A k c) := (((HP.out.alloc _).alloc _).drewN 1).grown hg9 hne; have Q9 : Bf w9 w.heap.size (.int .i64 0) (.slice none 0 0) := (((HQ.out.alloc _).alloc _).drewN 1).grown hg9 hne2; have o9a := O9.1.2.1; have o9b := O9.1.2.2; have o9c := O9.2.1; have o9d := O9.2.2)
      all_goals
        clear v0 v1 hmk hm1 hm2
        go_wp2
        go_roundw
        case rel =>
          refine ⟨k + 1, some ⟨gg, 0, none⟩, cap, by omega, by go_num, ?_, O9.set1 _, Q9.setCell (by simp) _, ?_⟩
          · unfold Hid
            rw [HS.out]
            have h9 := ho9.far (p := ⟨w.heap.size + 1, 1, none⟩) (.inl (by simp)) (.slice (some ⟨gg, 0, none⟩) (k + 1) cap)
            simpa [World.setCell] using h9
          · refine Below.setCell ?_ (by simp) _
            exact below_grownP (below_drew ((HB.out.alloc hz _).alloc (by simp; omega) _)) (by simp; omega) hg9 (fun g hg => by have := ownP_block_ge HO.out hg; omega)
        case measure => simp [intOf]; omega
    · obtain rfl : k = n := by omega
      have hd5 : decide ((k : Int) < (k : Int)) = false := by simp
      have HZ := Lib.hid (zt_all k)
      have HL : Hid ((tab k fun _ _ => 0).length = k) := length_tab _ _
      have p1 := HP.out.1.2.1
      have q1 := HQ.out.1.2.1
      have q2 := HQ.out.1.2.2
      have q3 := HQ.out.2.1
      have q4 := HQ.out.2.2
      go_wp2
      refine bodyPost_ret (v := .agg #[.int .i64 m, .slice A k c]) (by simp [results, Try.results131, go_sem, q1, q2]) rfl ⟨A, c, by rw [HL.out], ?_, ?_⟩
      · rw [HL.out, ← HZ.out]
        have h9 := ((HO.out.far (p := ⟨w.heap.size, 0, none⟩) (.inl (by simp)) (.int .i64 m)).far (p := ⟨w.heap.size, 1, none⟩) (.inl (by simp)) (.slice A k c)).mono (show w.heap.size ≤ w.heap.size + 2 by omega) (Nat.le_refl _)
        simpa [World.setCell] using h9
      · exact (HB.out.setCell (by simp) _).setCell (by simp) _

/-! ### Planes of the program: a number for each coefficient -/
theorem OwnP.rowW {w : World} {lo hi : Nat} {xss : List (List Int)} {g n c : Nat} (h : OwnP w lo hi (.slice (some ⟨g, 0, none⟩) n c) xss) {i : Nat} (hi' : i < xss.length) {A : Option Addr} {l c' : Nat} (hc : w.cell? ⟨g, i, none⟩ = some (.slice A l c')) :
    l = (xss.getD i []).length ∧ l ≤ c' ∧ c' ≤ 2 ^ 63 - 1 ∧ ∀ j, j < l → ∃ gr, A = some ⟨gr, 0, none⟩ ∧ gr ≠ g ∧ lo ≤ gr ∧ gr < hi ∧ gr < w.heap.size ∧ w.cell? ⟨gr, j, none⟩ = some (.int .i64 (co2 xss i j)) ∧ w.frozen? ⟨gr, j, none⟩ = false ∧
      ∀ y : Int, OwnP (w.setCell ⟨gr, j, none⟩ (.int .i64 y)) lo hi (.slice (some ⟨g, 0, none⟩) n c) (xss.set i ((xss.getD i []).set j y)) := by
  obtain ⟨g', c1, Ar, cr, e, h1, h2, h3, hcell, hfr, hown, hblk, hset⟩ := h.row hi'
  simp only [Value.slice.injEq, Option.some.injEq, Addr.mk.injEq] at e
  obtain ⟨⟨rfl, _⟩, _, rfl⟩ := e
  rw [hcell] at hc
  simp only [Option.some.injEq, Value.slice.injEq] at hc
  obtain ⟨rfl, rfl, rfl⟩ := hc
  obtain ⟨A2, cp2, e2, hc3, hc4, hA2⟩ := hown.open_
  simp only [Value.slice.injEq] at e2
  obtain ⟨e3, _, e4⟩ := e2
  subst e3 e4
  refine ⟨rfl, hc3, hc4, fun j hj => ?_⟩
  obtain ⟨gr, hgr, h4, h5, h6, h7⟩ := hA2 j hj
  subst hgr
  have h8 := hblk gr rfl
  refine ⟨gr, rfl, h8.2, h4, h8.1, h5, h6, h7, fun y => ?_⟩
  refine hset _ _ ?_ (grownBy_setCell w ⟨gr, j, none⟩ _)
  rcases hown.row with ⟨h9, _⟩ | ⟨g9, c9, e9, h9, hr9⟩
  · simp at h9
  · simp only [Value.slice.injEq, Option.some.injEq, Addr.mk.injEq] at e9
    obtain ⟨⟨rfl, _⟩, _, rfl⟩ := e9
    exact (hr9.set_ j y).own' h9 (by simp)
/-- The function g, with what it has captured, computes p at the places of a table, in every world in which all that lay in w lies unturned. -/
def Pred2 (w : World) (g : FuncId) (caps : Array Value) (n : Nat) (p : Nat → Nat → Int) : Prop :=
  (∀ args w, (callFunc g args).run Try.prog w = .ok (.enter g args) w) ∧ ∀ (W : World) (i j : Nat), Below w.heap.size w W → i + j < n → Calls Try.prog g (#[.int .i64 (i : Int), .int .i64 (j : Int)] ++ caps) W fun e W' => e = .returned (.int .i64 (p i j)) ∧ ∃ k, W' = W.drewN k
/-- A table in blocks from B on, away from the box bo. -/
def OwnPx (wx : World) (B bo : Nat) (v : Value) (xss : List (List Int)) : Prop := ∃ lo hi, B ≤ lo ∧ (bo < lo ∨ hi ≤ bo) ∧ hi ≤ wx.heap.size ∧ OwnP wx lo hi v xss
theorem OwnPx.of {wx : World} {B bo lo hi : Nat} {v : Value} {xss : List (List Int)} (h : OwnP wx lo hi v xss) (h1 : B ≤ lo) (h2 : bo < lo ∨ hi ≤ bo) (h3 : hi ≤ wx.heap.size) : OwnPx wx B bo v xss := ⟨lo, hi, h1, h2, h3, h⟩
set_option maxRecDepth 8000 in
set_option maxHeartbeats 4000000 in
theorem mapped_any (w : World) (m : Int) (v : Value) (xss : List (List Int)) (n : Nat) (lo0 hi0 : Nat) (hv : OwnP w lo0 hi0 v xss) (hx : xss.length = n) (hm : 2 ≤ m) (hm' : m ≤ 1000000000000000) (hn1 : 1 ≤ n) (hn : n ≤ 1000) (g0 : FuncId) (caps : Array Value) (p : Nat → Nat → Int) (hp : Pred2 w g0 caps n p) (zss : List (List Int)) (hz : (tab n fun i j => p i j % m) = zss) :
    Calls Try.prog 129 #[.agg #[.int .i64 m, v], .func (.func g0) #[] caps] w (NewPl w m zss) := by
  obtain ⟨A, cp, rfl, _, _⟩ := hv.form
  rw [hx] at *
  clear hv
  have HX := Lib.hid hx
  have HZ := Lib.hid hz
  have HPR := Lib.hid hp
  have eg := hp.1
  clear hx hp hz
  go_enter Try.func129, Try.ntmps129
  go_upto_region 1 with fail
  go_cut [5] from 9 to 14 (fun s wx => ∃ (bo : Nat) (A' : Option Addr) (c' : Nat), s = .pointer (some ⟨bo, 0, none⟩) ∧ w.heap.size + 2 ≤ bo ∧ bo < wx.heap.size ∧ Hid (Bf wx bo (.int .i64 m) (.slice A' n c')) ∧ Hid (OwnPx wx (w.heap.size + 2) bo (.slice A' n c') (tab n fun _ _ => 0)) ∧ Hid (Bf wx w.heap.size (.int .i64 m) (.slice A n cp)) ∧ Hid (Bf wx (w.heap.size + 1) (.int .i64 0) (.slice none 0 0)) ∧ Hid (Below w.heap.size w wx))
  case first =>
    go_region_held3 (fun w' => w'.cell? ⟨w.heap.size, 0, none⟩ = some (.int .i64 m) ∧ w'.cell? ⟨w.heap.size, 1, none⟩ = some (.slice A n cp))
      (first | exact ⟨p2a, p2b⟩ | exact ⟨p1a, p1b⟩ | go_keep | (refine (fun (h : Bf _ w.heap.size (.int .i64 m) (.slice A n cp)) => ⟨h.1.2.1, h.1.2.2⟩) ((Bf.alloc1 w _ _ 24).keep ?_); (repeat (first | assumption | exact Below.refl _ _ | (refine Below.alloc ?_ ?_ _; rotate_left; (focus (first | exact Nat.le_refl _ | omega | (simp; done) | (simp; omega)))) | (refine Below.setCell ?_ ?_ _; rotate_left; (focus (first | exact Nat.le_refl _ | omega | (simp; done) | (simp; omega)))) | refine below_drew ?_ | refine below_drewN ?_ _ | (refine Below.trans ?_ (Below.mono hb2 ?_); rotate_left; (focus (first | exact Nat.le_refl _ | omega | (simp; done) | (simp; omega)))) | (refine Below.trans ?_ (Below.mono hb1 ?_); rotate_left; (focus (first | exact Nat.le_refl _ | omega | (simp; done) | (simp; omega))))))))
      (first | (go_at_call 132; refine (pDegree_any m A n cp _ (by omega)).mono ?_; rintro e w1 ⟨rfl, hb1⟩; have P1 : Bf w1 w.heap.size (.int .i64 m) (.slice A n cp) := ((Bf.alloc1 w _ _ 24).keep (by (repeat (first | assumption | exact Below.refl _ _ | (refine Below.alloc ?_ ?_ _; rotate_left; (focus (first | exact Nat.le_refl _ | omega | (simp; done) | (simp; omega)))) | (refine Below.setCell ?_ ?_ _; rotate_left; (focus (first | exact Nat.le_refl _ | omega | (simp; done) | (simp; omega)))) | refine below_drew ?_ | refine below_drewN ?_ _ | (refine Below.trans ?_ (Below.mono hb1 ?_); rotate_left; (focus (first | exact Nat.le_refl _ | omega | (simp; done) | (simp; omega)))))))); have p1a := P1.1.2.1; have p1b := P1.1.2.2; obtain ⟨hc1, hf1⟩ := bcell hb1; have z1 := hb1.size; (try simp at z1); have z1p : w.heap.size < w1.heap.size := (by omega); (first | (have y1 : w.heap.size + 2 < w1.heap.size := (by omega)) | skip)) | (go_at_call 131; refine (emptyPlane_any _ m _ n (by omega) (by omega)).mono ?_; rintro e w2 ⟨A9, c9, rfl, hr2, hb2⟩; rw [length_tab] at hr2 ⊢; have P2 : Bf w2 w.heap.size (.int .i64 m) (.slice A n cp) := ((Bf.alloc1 w _ _ 24).keep (by (repeat (first | assumption | exact Below.refl _ _ | (refine Below.alloc ?_ ?_ _; rotate_left; (focus (first | exact Nat.le_refl _ | omega | (simp; done) | (simp; omega)))) | (refine Below.setCell ?_ ?_ _; rotate_left; (focus (first | exact Nat.le_refl _ | omega | (simp; done) | (simp; omega)))) | refine below_drew ?_ | refine below_drewN ?_ _ | (refine Below.trans ?_ (Below.mono hb2 ?_); rotate_left; (focus (first | exact Nat.le_refl _ | omega | (simp; done) | (simp; omega)))) | (refine Below.trans ?_ (Below.mono hb1 ?_); rotate_left; (focus (first | exact Nat.le_refl _ | omega | (simp; done) | (simp; omega)))))))); have p2a := P2.1.2.1; have p2b := P2.1.2.2; obtain ⟨hc2, hf2⟩ := bcell hb2; have z2 := hb2.size; (try simp at z2); have z2p : w.heap.size < w2.heap.size := (by omega)))
    all_goals
      go_wp2_with fail
      go_meet
      have KK : Hid (Below w.heap.size w w2) := by (repeat (first | assumption | exact Below.refl _ _ | (refine Below.alloc ?_ ?_ _; rotate_left; (focus (first | exact Nat.le_refl _ | omega | (simp; done) | (simp; omega)))) | (refine Below.setCell ?_ ?_ _; rotate_left; (focus (first | exact Nat.le_refl _ | omega | (simp; done) | (simp; omega)))) | refine below_drew ?_ | refine below_drewN ?_ _ | (refine Below.trans ?_ (Below.mono hb2 ?_); rotate_left; (focus (first | exact Nat.le_refl _ | omega | (simp; done) | (simp; omega)))) | (refine Below.trans ?_ (Below.mono hb1 ?_); rotate_left; (focus (first | exact Nat.le_refl _ | omega | (simp; done) | (simp; omega))))))
      refine ⟨_, A9, c9, rfl, ?_, ?_, ?_, ?_, ?_, ?_, ?_⟩
      · first | omega | (simp; done) | (simp; omega)
      · first | omega | (simp; done) | (simp; omega) | (simp [World.setCell]; omega)
      · unfold Hid
        first | exact Bf.alloc1 w2 _ _ _ | exact ((Bf.alloc1 w1 _ _ _).keep hb2).store2 | exact (((Bf.q3 (w := w)).keep (below_undrew hb1)).keep hb2).store2
      · unfold Hid
        first | (refine OwnPx.of (hr2.alloc _) ?_ ?_ ?_ <;> (first | omega | (simp; done) | (simp; omega) | (right; omega) | (right; simp; done) | (right; simp; omega) | (left; omega) | (left; simp; done) | (left; simp; omega) | (simp [World.setCell]; done) | (simp [World.setCell]; omega)); done) | (refine OwnPx.of ((hr2.far ?_ _).far ?_ _) ?_ ?_ ?_ <;> (first | omega | (simp; done) | (simp; omega) | (right; omega) | (right; simp; done) | (right; simp; omega) | (left; omega) | (left; simp; done) | (left; simp; omega) | (simp [World.setCell]; done) | (simp [World.setCell]; omega)); done)
      · exact (Bf.q1 (w := w) (t := 24)).keep (by (repeat (first | assumption | exact Below.refl _ _ | (refine Below.alloc ?_ ?_ _; rotate_left; (focus (first | exact Nat.le_refl _ | omega | (simp; done) | (simp; omega)))) | (refine Below.setCell ?_ ?_ _; rotate_left; (focus (first | exact Nat.le_refl _ | omega | (simp; done) | (simp; omega)))) | refine below_drew ?_ | refine below_drewN ?_ _ | (refine Below.trans ?_ (Below.mono hb2 ?_); rotate_left; (focus (first | exact Nat.le_refl _ | omega | (simp; done) | (simp; omega)))) | (refine Below.trans ?_ (Below.mono hb1 ?_); rotate_left; (focus (first | exact Nat.le_refl _ | omega | (simp; done) | (simp; omega)))))))
      · exact (Bf.q2 (w := w) (t := 24) (t' := 24)).keep (by (repeat (first | assumption | exact Below.refl _ _ | (refine Below.alloc ?_ ?_ _; rotate_left; (focus (first | exact Nat.le_refl _ | omega | (simp; done) | (simp; omega)))) | (refine Below.setCell ?_ ?_ _; rotate_left; (focus (first | exact Nat.le_refl _ | omega | (simp; done) | (simp; omega)))) | refine below_drew ?_ | refine below_drewN ?_ _ | (refine Below.trans ?_ (Below.mono hb2 ?_); rotate_left; (focus (first | exact Nat.le_refl _ | omega | (simp; done) | (simp; omega)))) | (refine Below.trans ?_ (Below.mono hb1 ?_); rotate_left; (focus (first | exact Nat.le_refl _ | omega | (simp; done) | (simp; omega)))))))
      · (repeat (first | assumption | exact Below.refl _ _ | (refine Below.alloc ?_ ?_ _; rotate_left; (focus (first | exact Nat.le_refl _ | omega | (simp; done) | (simp; omega)))) | (refine Below.setCell ?_ ?_ _; rotate_left; (focus (first | exact Nat.le_refl _ | omega | (simp; done) | (simp; omega)))) | refine below_drew ?_ | refine below_drewN ?_ _ | (refine Below.trans ?_ (Below.mono hb2 ?_); rotate_left; (focus (first | exact Nat.le_refl _ | omega | (simp; done) | (simp; omega)))) | (refine Below.trans ?_ (Below.mono hb1 ?_); rotate_left; (focus (first | exact Nat.le_refl _ | omega | (simp; done) | (simp; omega))))))
  case rest =>
    obtain ⟨bo, A', c', rfl, hbo1, hbo2, HO, HT, HP, HQ, HB⟩ := hcut
    obtain ⟨lo, hi, hlo, hbo3, hhi, ht⟩ := HT.out
    obtain ⟨g, c2, _, _, e0, hg1, hg2, hg3, _⟩ := ht.row (k := 0) (by rw [length_tab]; omega)
    rw [length_tab] at e0
    simp only [Value.slice.injEq] at e0
    obtain ⟨rfl, _, rfl⟩ := e0
    rw [fil2_zero (fun i j => p i j % m)] at ht
    have HT2 := Lib.hid ht
    have HZL : Hid (zss.length = n) := by unfold Hid; rw [← HZ.out, length_tab]
    have o1 := HO.out.1.2.1
    have o2 := HO.out.1.2.2
    clear ht HT
    go_wp2
    go_loopw [17] (fun i wr => ∃ k : Nat, k ≤ n ∧ i = .int .i64 k ∧ Hid (Bf wr bo (.int .i64 m) (.slice (some ⟨g, 0, none⟩) n c')) ∧ Hid (OwnP wr lo hi (.slice (some ⟨g, 0, none⟩) n c') (tab n (fil2 (fun i j => p i j % m) k 0))) ∧ Hid (Bf wr w.heap.size (.int .i64 m) (.slice A n cp)) ∧ Hid (Bf wr (w.heap.size + 1) (.int .i64 0) (.slice none 0 0)) ∧ Hid (Below w.heap.size w wr)) (fun i _ => n - (intOf i).toNat)
    case atStart => exact ⟨0, Nat.zero_le _, rfl, HO, HT2, HP, HQ, HB⟩
    case round =>
      clear HO HT2 HP HQ HB o1 o2
      obtain ⟨k, hk, rfl, HO, HT, HP, HQ, HB⟩ := hrel
      have o1 := HO.out.1.2.1
      have o2 := HO.out.1.2.2
      have q1 := HQ.out.1.2.1
      have q2 := HQ.out.1.2.2
      have q3 := HQ.out.2.1
      have q4 := HQ.out.2.2
      by_cases hlt : k < n
      · obtain ⟨Ar, cr, hcell⟩ := HT.out.cell (k := k) (by rw [length_tab]; exact hlt)
        rw [getD_tab _ hlt, length_lst] at hcell
        obtain ⟨r, hr⟩ : ∃ r, r = n - k := ⟨_, rfl⟩
        rw [← hr] at hcell
        have HR := Lib.hid hr
        have hr2 : k + r ≤ n ∧ n ≤ k + r := by omega
        have HC := Lib.hid hcell
        clear hr
        have hk0 : (0 : Int) ≤ (k : Int) := by omega
        have hk1 : (k : Int) < (n : Int) := by omega
        go_wp2
        clear hcell
        go_loopw [24] (fun s w2 => ∃ j : Nat, j ≤ r ∧ s = .int .i64 j ∧ Hid (w2.cell? ⟨g, k, none⟩ = some (.slice Ar r cr)) ∧ Hid (Bf w2 bo (.int .i64 m) (.slice (some ⟨g, 0, none⟩) n c')) ∧ Hid (OwnP w2 lo hi (.slice (some ⟨g, 0, none⟩) n c') (tab n (fil2 (fun i j => p i j % m) k j))) ∧ Hid (Bf w2 w.heap.size (.int .i64 m) (.slice A n cp)) ∧ Hid (Bf w2 (w.heap.size + 1) (.int .i64 0) (.slice none 0 0)) ∧ Hid (Below w.heap.size w w2)) (fun s _ => r - (intOf s).toNat)
        case atStart => exact ⟨0, Nat.zero_le _, rfl, HC, HO, HT, HP, HQ, HB⟩
        case round =>
          clear HO HT HP HQ HB o1 o2 q1 q2 q3 q4 HC
          obtain ⟨j, hj, rfl, HC, HO, HT, HP, HQ, HB⟩ := hrel
          have p1 := HP.out.1.2.1
          have zO := HO.out.1.1
          have zP := HP.out.1.1
          by_cases hlt2 : j < r
          · obtain ⟨hl1, hl2, hl3, hw⟩ := HT.out.rowW (i := k) (by rw [length_tab]; exact hlt) HC.out
            obtain ⟨gr, rfl, hne, hgl, hgh, hgz, hd0, hf0, hset⟩ := hw j hlt2
            have HSET := Lib.hid hset
            have HST : Hid (tab n (upd2 (fil2 (fun i j => p i j % m) k j) k j (p k j % m)) = tab n (fil2 (fun i j => p i j % m) k (j + 1))) := fil2_step (fun i j => p i j % m) n k j
            generalize co2 (tab n (fil2 (fun i j => p i j % m) k j)) k j = y0 at hd0
            clear hset hw hl1
            have hj0 : (0 : Int) ≤ (j : Int) := by omega
            have hj1 : (j : Int) < (r : Int) := by omega
            have ne1 : (⟨gr, j, none⟩ : Addr) ≠ ⟨w.heap.size, 0, none⟩ := by first | (simp; done) | (simp; omega)
            go_wp2
            go_region_held3 (fun w' => w'.cell? ⟨w.heap.size, 0, none⟩ = some (.int .i64 m))
              (first | exact p1 | exact (World.cell?_setCell_other _ _ _ _ ne1).trans p1 | go_keep)
              (first | (go_at_call 85; refine (mod_any (p k j) m _ (by omega) (by omega)).mono ?_; rintro e w8 ⟨rfl, k8, rfl⟩) | (refine (HPR.out.2 _ k j (below_drew HB.out) (by omega)).mono ?_; rintro e w7 ⟨rfl, k7, rfl⟩))
            go_wp2
            go_roundw
            case rel =>
              refine ⟨j + 1, by omega, by go_num, ?_, HO.out.setCell (by simp; omega) _, ?_, HP.out.setCell (by simp; omega) _, HQ.out.setCell (by simp; omega) _, ?_⟩
              · unfold Hid
                exact (World.cell?_setCell_other _ _ _ _ (by first | (simp; done) | (simp; omega))).trans HC.out
              · unfold Hid
                rw [← HST.out, ← set_tab' _ _ _ _ _ hlt]
                exact HSET.out (p k j % m)
              · exact Below.setCell (below_drewN HB.out _) (by simp; omega) _
            case measure => simp [intOf]; omega
          · have hjr : j = r := by omega
            have hT9 := HT.out
            rw [hjr, HR.out, fil2_row] at hT9
            have HT' := Lib.hid hT9
            clear hT9
            clear hjr
            go_wp2
            go_roundw
            case rel => exact ⟨k + 1, by omega, by go_num, HO, HT', HP, HQ, HB⟩
            case measure => simp [intOf]; omega
      · obtain rfl : k = n := by omega
        have hT : Hid (OwnP wr lo hi (.slice (some ⟨g, 0, none⟩) k c') zss) := by
          unfold Hid
          rw [← HZ.out, ← fil2_all]
          exact HT.out
        have hd5 : decide ((k : Int) < (k : Int)) = false := by simp
        go_wp2
        refine bodyPost_ret (v := .agg #[.int .i64 m, .slice (some ⟨g, 0, none⟩) k c']) (by simp [results, Try.results129, go_sem, q1, q2]) rfl ⟨some ⟨g, 0, none⟩, c', by rw [HZL.out], ?_, ?_⟩
        · rw [HZL.out]
          have h9 := (((hT.out.hi_le.far (p := ⟨w.heap.size + 1, 0, none⟩) (.inl (by simp; omega)) (.int .i64 m)).far (p := ⟨w.heap.size + 1, 1, none⟩) (.inl (by simp; omega)) (.slice (some ⟨g, 0, none⟩) k c'))).mono (show w.heap.size ≤ lo by omega) (Nat.le_refl _)
          simpa [World.setCell] using h9
        · exact (HB.out.setCell (by simp) _).setCell (by simp) _

/-! ### Exchanged variables -/
theorem OwnP.at2 {w : World} {lo hi : Nat} {A : Option Addr} {n c : Nat} {xss : List (List Int)} (h : OwnP w lo hi (.slice A n c) xss) {i j : Nat} (hi' : i < xss.length) (hj : j < (xss.getD i []).length) :
    ∃ g gr cr, A = some ⟨g, 0, none⟩ ∧ g < w.heap.size ∧ w.cell? ⟨g, i, none⟩ = some (.slice (some ⟨gr, 0, none⟩) (xss.getD i []).length cr) ∧ gr < w.heap.size ∧ w.cell? ⟨gr, j, none⟩ = some (.int .i64 (co2 xss i j)) ∧ (xss.getD i []).length ≤ cr := by
  obtain ⟨g, c2, Ar, cr, e, _, _, h3, hcell, _, hown, _, _⟩ := h.row hi'
  simp only [Value.slice.injEq] at e
  obtain ⟨rfl, _, _⟩ := e
  obtain ⟨A2, cp2, e2, hc3, hc4, hA2⟩ := hown.open_
  simp only [Value.slice.injEq] at e2
  obtain ⟨e3, _, e4⟩ := e2
  subst e3 e4
  obtain ⟨gr, rfl, _, h5, h6, _⟩ := hA2 j hj
  exact ⟨g, gr, cr, rfl, h3, hcell, h5, h6, hc3⟩
/-- The rows have the lengths of a plane's. -/
def Tri (n : Nat) (xss : List (List Int)) : Prop := xss.length = n ∧ ∀ i, i < n → (xss.getD i []).length = n - i
theorem Tri.tab (n : Nat) (f : Nat → Nat → Int) : Tri n (tab n f) := ⟨length_tab n f, fun i hi => by rw [getD_tab f hi, length_lst]⟩
theorem isPl_tri {m : Int} {xss : List (List Int)} (h : isPl m xss = true) : Tri xss.length xss := ⟨rfl, fun _ hi => isPl_len h hi⟩
/-- All numbers lie from 0 to below m. -/
def Num2 (m : Int) (xss : List (List Int)) : Prop := ∀ i j, 0 ≤ co2 xss i j ∧ co2 xss i j < m
theorem isPl_num2 {m : Int} {xss : List (List Int)} (h : isPl m xss = true) : Num2 m xss := isPl_num h
theorem RetPI.zero {w w' : World} {k : Int} (h : Below w.heap.size w w') : RetPI w ((0, []), k) (.returned (.tuple #[.agg #[.int .i64 0, .slice none 0 0], .int .i64 k])) w' := ⟨none, 0, rfl, OwnP.nil_ _ _ _, h⟩
theorem RetPI.mk {w w' : World} {m : Int} {n : Nat} {A : Option Addr} {c lo hi : Nat} {xss : List (List Int)} {k : Int} (h : OwnP w' lo hi (.slice A n c) xss) (hn : xss.length = n) (hlo : w.heap.size ≤ lo) (hb : Below w.heap.size w w') : RetPI w ((m, xss), k) (.returned (.tuple #[.agg #[.int .i64 m, .slice A n c], .int .i64 k])) w' := by
  subst hn
  exact ⟨A, c, rfl, h.hi_le.mono hlo (Nat.le_refl _), hb⟩
theorem OwnP.far2 {w : World} {lo hi b : Nat} {v x y : Value} {xss : List (List Int)} (h : OwnP w lo hi v xss) (hp : b < lo ∨ hi ≤ b) : OwnP ((w.setCell ⟨b, 0, none⟩ x).setCell ⟨b, 1, none⟩ y) lo hi v xss := (h.far hp x).far hp y
theorem l03Make_any (w : World) (m : Int) (A : Option Addr) (n c : Nat) : Calls Try.prog 61 #[.int .i64 m, .slice A n c] w fun e w' => e = .returned (.agg #[.int .i64 m, .slice A n c]) ∧ Below w.heap.size w w' := by
  go_enter Try.func61, Try.ntmps61
  go_wp2
  exact bodyPost_ret (v := .agg #[.int .i64 m, .slice A n c]) (by simp [results, Try.results61, go_sem]) rfl ⟨rfl, by (repeat (first | assumption | exact Below.refl _ _ | refine Below.alloc ?_ (by first | omega | (simp; done) | (simp; omega)) _ | refine Below.setCell ?_ (by first | omega | (simp; done) | (simp; omega)) _ | refine below_drewN ?_ _))⟩
def TurnPlaneR (m : Int) (xss : List (List Int)) : (Int × List (List Int)) × Int := if isPl m xss = false then ((0, []), 1) else ((m, tab xss.length fun i j => co2 xss j i), 0)
theorem cntP_tab_le (n : Nat) (f : Nat → Nat → Int) : cntP (tab n f) ≤ n * n := by
  have h : ∀ k, k ≤ n → cntP ((tab n f).take k) ≤ k * n := by
    intro k
    induction k with
    | zero => simp [cntP]
    | succ k ih =>
      intro hk
      rw [cntP_take_succ _ _ (by rw [length_tab]; omega), getD_tab f (by omega), length_lst]
      have := ih (by omega)
      rw [Nat.succ_mul]
      omega
  have := h n (Nat.le_refl _)
  rwa [List.take_of_length_le (by rw [length_tab]; exact Nat.le_refl _)] at this
theorem cntP_tab_100 {n : Nat} (f : Nat → Nat → Int) (hn : n ≤ 12) : cntP (tab n f) ≤ 200 := by
  have := cntP_tab_le n f
  have h : n * n ≤ 12 * 12 := Nat.mul_le_mul hn hn
  omega
theorem TurnPlaneR_len (m : Int) (xss : List (List Int)) : cntP (TurnPlaneR m xss).1.2 ≤ 200 := by
  unfold TurnPlaneR
  cases h : isPl m xss
  · simp [cntP]
  · have := (isPl_true h).2.1
    exact cntP_tab_100 _ (by omega)

/-! ### ChangePlane -/
def rowsF (f : Nat → List Int) (k : Nat) : List (List Int) := (List.range k).map f
theorem length_rowsF (f : Nat → List Int) (k : Nat) : (rowsF f k).length = k := by simp [rowsF]
theorem rowsF_succ (f : Nat → List Int) (k : Nat) : rowsF f (k + 1) = rowsF f k ++ [f k] := by simp [rowsF, List.range_succ]
theorem cntP_rowsF {f : Nat → List Int} {b : Nat} : ∀ {k : Nat}, (∀ i, i < k → (f i).length ≤ b) → cntP (rowsF f k) ≤ k * b
  | 0, _ => by simp [rowsF, cntP]
  | k + 1, h => by
    rw [rowsF_succ, cntP_append, Nat.succ_mul]
    have h1 := cntP_rowsF (k := k) fun i hi => h i (by omega)
    have h2 := h k (by omega)
    simp [cntP]
    omega
theorem OwnP.start {W : World} {lo : Nat} (h : lo ≤ W.heap.size) : OwnP (W.alloc (.cells #[] 45)) lo (W.alloc (.cells #[] 45)).heap.size (.slice (some ⟨W.heap.size, 0, none⟩) 0 0) [] := by simpa using OwnP.lit0 W h
theorem OwnP.source {w : World} {lo hi : Nat} {v : Value} {xss : List (List Int)} (h : OwnP w lo hi v xss) (n : Nat) (hn : xss.length = n) (hn1 : 1 ≤ n) : ∃ g c, v = .slice (some ⟨g, 0, none⟩) n c ∧ n ≤ c ∧ c ≤ 2 ^ 63 - 1 ∧ g < w.heap.size ∧ ∀ k, k < n → ∃ Ar cr, w.cell? ⟨g, k, none⟩ = some (.slice Ar (xss.getD k []).length cr) ∧ OwnI w lo (.slice Ar (xss.getD k []).length cr) (xss.getD k []) := by
  subst hn
  obtain ⟨A, c, rfl, hc1, hc2, hA⟩ := h.at_
  obtain ⟨g, _, _, rfl, hg, _, _⟩ := hA 0 (by omega)
  refine ⟨g, c, rfl, hc1, hc2, hg, fun k hk => ?_⟩
  obtain ⟨g', Ar, cr, e, _, h1, h2⟩ := hA k hk
  simp only [Option.some.injEq, Addr.mk.injEq] at e
  obtain ⟨rfl, _⟩ := e
  exact ⟨Ar, cr, h1, h2⟩
def ChangePlaneR (m : Int) (xss : List (List Int)) (d : Int) : (Int × List (List Int)) × Int := if isPl m xss = false then ((0, []), 1) else if (isModB d && m % d == 0) = false then ((0, []), 2) else ((d, rowsF (fun i => rests d (xss.getD i [])) xss.length), 0)
theorem ChangePlaneR_len (m : Int) (xss : List (List Int)) (d : Int) : cntP (ChangePlaneR m xss d).1.2 ≤ 200 := by
  unfold ChangePlaneR
  cases h : isPl m xss
  · simp [cntP]
  · have h2 := (isPl_true h).2.1
    cases hd : (isModB d && m % d == 0)
    · simp [cntP]
    · simp only [Bool.true_eq_false, if_false]
      have := cntP_rowsF (f := fun i => rests d (xss.getD i [])) (b := 11) (k := xss.length) fun i hi => by
        simp only [rests, List.length_map]
        rw [isPl_len h hi]; omega
      omega
theorem row_bound {m : Int} {xss : List (List Int)} (h : isPl m xss = true) (i k : Nat) : 0 ≤ (xss.getD i []).getD k 0 ∧ (xss.getD i []).getD k 0 < 1000000 := by
  have h1 := isPl_num h i k
  have h2 := isModB_true (isPl_true h).1
  unfold co2 co at h1
  omega
theorem mod_ne {m d : Int} (h1 : 0 ≤ m) : m.tmod d = m % d := Int.tmod_eq_emod_of_nonneg h1

end Go.Proofs.Ytmppmnmkhfcoaaa
