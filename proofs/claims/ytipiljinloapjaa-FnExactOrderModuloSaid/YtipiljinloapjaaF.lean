/- Contracts over this seat's translation. Condition: each contract's own. -/
import Derived.Test.YtipiljinloapjaaB
import Derived.ProofKit
import Derived.OpenShut
import Derived.Below
import Derived.ChangeSame
import Derived.Deep.Modes
import Derived.Lib.SmallJoins
import Derived.ChangeSlices
import Derived.WalkKit
import Derived.WalkSpells
import Derived.WalkLawsBesides
import Derived.Deep.QuietTactic
import Derived.BigQuiet
import Derived.Deep.RegionHeld3
import Derived.Deep.RegionWith
import Derived.Deep.RegionLaw
import Derived.Deep.AppendLies
import Derived.Laws.CopyOwn
import Derived.Deep.DeepCutAuto
import Derived.Deep.OwnRows
import Derived.Deep.LoopGhost
import Derived.Deep.DeepFit
import Derived.Deep.DeepMust
import Derived.Deep.Draws
import Derived.Deep.CutRange
import Derived.Maps.AppendAt
import Derived.Lib.Hide
import Derived.StillTailTactics
import Derived.Laws.MakeOwn
set_option linter.unusedVariables false
open Go Go.RowKit
namespace Go.Proofs.Ytipiljinloapjaa
/-! ### Units, inverses, powers, orders -/
theorem OwnI.lit1' (w : World) (a : Int) : OwnI (w.alloc (.cells #[.int .i64 a] 2)) 0 (.slice (some ⟨w.heap.size, 0, none⟩) 1 1) [a] := OwnI.lit1 w a (Nat.zero_le _)
theorem codeR_zero1 {m a : Int} (h : codeR m [a] = 0) : (2 ≤ m ∧ m ≤ 10000) ∧ (0 ≤ a ∧ a < m) := by
  unfold codeR at h
  cases h1 : isModB m
  · simp [h1] at h
  · cases h2 : numsB m [a]
    · simp [h1, h2] at h
    · simp only [numsB, List.all_cons, List.all_nil, Bool.and_true] at h2
      exact ⟨isModB_true h1, isNumB_true h2⟩
def IsUnitR (m a : Int) : Bool × Int := if codeR m [a] = 0 then (unitB m a, 0) else (false, codeR m [a])
theorem iIsUnit_any (m a : Int) (w : World) : Calls Try.prog 16 #[.int .i64 m, .int .i64 a] w fun e w' => e = .returned (.tuple #[.bool (IsUnitR m a).1, .int .i64 (IsUnitR m a).2]) ∧ Below w.heap.size w w' := by
  by_cases hc : codeR m [a] = 0
  · have HF : IsUnitR m a = (unitB m a, 0) := by simp [IsUnitR, hc]
    rw [HF]
    clear HF
    obtain ⟨⟨h1, h2⟩, h3, h4⟩ := codeR_zero1 hc
    have HC := Lib.hid hc
    clear hc
    go_enter Try.func16, Try.ntmps16
    go_wp2_with (first | (go_at_call 53; refine (modular_any m _ _ [a] 0 (OwnI.lit1' _ a)).mono ?_; rintro e w1 ⟨rfl, hb⟩; rw [HC.out]) | (go_at_call 54; refine (isUnit_any _ _ _ (by omega) (by omega) (by omega) (by omega)).mono ?_; rintro e w2 ⟨rfl, k, rfl⟩))
    go_ret2
    exact ⟨rfl, below_drewN (((Below.refl _ _).alloc (Nat.le_refl _) _).trans (hb.mono (by simp))) _⟩
  · have HF : IsUnitR m a = (false, codeR m [a]) := by simp [IsUnitR, hc]
    rw [HF]
    clear HF
    have h1 : (codeR m [a] != 0) = true := by simpa using hc
    clear hc
    go_enter Try.func16, Try.ntmps16
    go_wp2_with (go_at_call 53; refine (modular_any m _ _ [a] 0 (OwnI.lit1' _ a)).mono ?_; rintro e w1 ⟨rfl, hb⟩)
    go_ret2
    exact ⟨rfl, ((Below.refl _ _).alloc (Nat.le_refl _) _).trans (hb.mono (by simp))⟩
theorem sIsUnit_any (m a : Int) (w : World) : Calls Try.prog 15 #[.int .i64 m, .int .i64 a] w fun e w' => e = .returned (.tuple #[.bool (IsUnitR m a).1, .int .i64 (IsUnitR m a).2]) ∧ Below w.heap.size w w' := by
  by_cases hc : codeR m [a] = 0
  · have HF : IsUnitR m a = (unitB m a, 0) := by simp [IsUnitR, hc]
    rw [HF]
    clear HF
    obtain ⟨⟨h1, h2⟩, h3, h4⟩ := codeR_zero1 hc
    have HC := Lib.hid hc
    clear hc
    go_enter Try.func15, Try.ntmps15
    go_wp2_with (first | (go_at_call 51; refine (l01Code_any m _ _ [a] 0 (OwnI.lit1' _ a)).mono ?_; rintro e w1 ⟨rfl, k1, rfl⟩; rw [HC.out]) | (go_at_call 52; refine (l01Unit_any _ _ _ (by omega) (by omega) (by omega) (by omega)).mono ?_; rintro e w2 ⟨rfl, k, rfl⟩))
    go_ret2
    exact ⟨rfl, by (repeat (first | assumption | exact Below.refl _ _ | refine Below.alloc ?_ (by first | omega | (simp; done) | (simp; omega)) _ | refine Below.setCell ?_ (by first | omega | (simp; done) | (simp; omega)) _ | refine below_drewN ?_ _))⟩
  · have HF : IsUnitR m a = (false, codeR m [a]) := by simp [IsUnitR, hc]
    rw [HF]
    clear HF
    have h1 : (codeR m [a] != 0) = true := by simpa using hc
    clear hc
    go_enter Try.func15, Try.ntmps15
    go_wp2_with (go_at_call 51; refine (l01Code_any m _ _ [a] 0 (OwnI.lit1' _ a)).mono ?_; rintro e w1 ⟨rfl, k1, rfl⟩)
    go_ret2
    exact ⟨rfl, by (repeat (first | assumption | exact Below.refl _ _ | refine Below.alloc ?_ (by first | omega | (simp; done) | (simp; omega)) _ | refine Below.setCell ?_ (by first | omega | (simp; done) | (simp; omega)) _ | refine below_drewN ?_ _))⟩
def unitC (m a : Int) : Int := if codeR m [a] = 0 then (if unitB m a = false then 5 else 0) else codeR m [a]
theorem unitC_zero {m a : Int} (h : unitC m a = 0) : codeR m [a] = 0 ∧ unitB m a = true := by
  unfold unitC at h
  by_cases hc : codeR m [a] = 0
  · rw [if_pos hc] at h
    refine ⟨hc, ?_⟩
    cases hu : unitB m a
    · simp [hu] at h
    · rfl
  · rw [if_neg hc] at h; exact absurd h hc
theorem unit_any (m a : Int) (w : World) : Calls Try.prog 68 #[.int .i64 m, .int .i64 a] w fun e w' => e = .returned (.int .i64 (unitC m a)) ∧ Below w.heap.size w w' := by
  by_cases hc : codeR m [a] = 0
  · obtain ⟨⟨h1, h2⟩, h3, h4⟩ := codeR_zero1 hc
    have HC := Lib.hid hc
    cases hu : unitB m a
    · have HF : unitC m a = 5 := by simp [unitC, hc, hu]
      rw [HF]
      clear HF hc
      have HU := Lib.hid hu
      clear hu
      go_enter Try.func68, Try.ntmps68
      go_wp2_with (first | (go_at_call 53; refine (modular_any m _ _ [a] 0 (OwnI.lit1' _ a)).mono ?_; rintro e w1 ⟨rfl, hb⟩; rw [HC.out]) | (go_at_call 54; refine (isUnit_any _ _ _ (by omega) (by omega) (by omega) (by omega)).mono ?_; rintro e w2 ⟨rfl, k, rfl⟩; rw [HU.out]))
      go_ret
      exact ⟨rfl, below_drewN (((Below.refl _ _).alloc (Nat.le_refl _) _).trans (hb.mono (by simp))) _⟩
    · have HF : unitC m a = 0 := by simp [unitC, hc, hu]
      rw [HF]
      clear HF hc
      have HU := Lib.hid hu
      clear hu
      go_enter Try.func68, Try.ntmps68
      go_wp2_with (first | (go_at_call 53; refine (modular_any m _ _ [a] 0 (OwnI.lit1' _ a)).mono ?_; rintro e w1 ⟨rfl, hb⟩; rw [HC.out]) | (go_at_call 54; refine (isUnit_any _ _ _ (by omega) (by omega) (by omega) (by omega)).mono ?_; rintro e w2 ⟨rfl, k, rfl⟩; rw [HU.out]))
      go_ret
      exact ⟨rfl, below_drewN (((Below.refl _ _).alloc (Nat.le_refl _) _).trans (hb.mono (by simp))) _⟩
  · have HF : unitC m a = codeR m [a] := by simp [unitC, hc]
    rw [HF]
    clear HF
    have h1 : (codeR m [a] != 0) = true := by simpa using hc
    clear hc
    go_enter Try.func68, Try.ntmps68
    go_wp2_with (go_at_call 53; refine (modular_any m _ _ [a] 0 (OwnI.lit1' _ a)).mono ?_; rintro e w1 ⟨rfl, hb⟩)
    go_ret
    exact ⟨rfl, ((Below.refl _ _).alloc (Nat.le_refl _) _).trans (hb.mono (by simp))⟩
theorem l01Units_any (m a : Int) (w : World) : Calls Try.prog 67 #[.int .i64 m, .int .i64 a] w fun e w' => e = .returned (.int .i64 (unitC m a)) ∧ Below w.heap.size w w' := by
  by_cases hc : codeR m [a] = 0
  · obtain ⟨⟨h1, h2⟩, h3, h4⟩ := codeR_zero1 hc
    have HC := Lib.hid hc
    cases hu : unitB m a
    · have HF : unitC m a = 5 := by simp [unitC, hc, hu]
      rw [HF]
      clear HF hc
      have HU := Lib.hid hu
      clear hu
      go_enter Try.func67, Try.ntmps67
      go_wp2_with (first | (go_at_call 51; refine (l01Code_any m _ _ [a] 0 (OwnI.lit1' _ a)).mono ?_; rintro e w1 ⟨rfl, k1, rfl⟩; rw [HC.out]) | (go_at_call 52; refine (l01Unit_any _ _ _ (by omega) (by omega) (by omega) (by omega)).mono ?_; rintro e w2 ⟨rfl, k, rfl⟩; rw [HU.out]))
      go_ret
      exact ⟨rfl, by (repeat (first | assumption | exact Below.refl _ _ | refine Below.alloc ?_ (by first | omega | (simp; done) | (simp; omega)) _ | refine Below.setCell ?_ (by first | omega | (simp; done) | (simp; omega)) _ | refine below_drewN ?_ _))⟩
    · have HF : unitC m a = 0 := by simp [unitC, hc, hu]
      rw [HF]
      clear HF hc
      have HU := Lib.hid hu
      clear hu
      go_enter Try.func67, Try.ntmps67
      go_wp2_with (first | (go_at_call 51; refine (l01Code_any m _ _ [a] 0 (OwnI.lit1' _ a)).mono ?_; rintro e w1 ⟨rfl, k1, rfl⟩; rw [HC.out]) | (go_at_call 52; refine (l01Unit_any _ _ _ (by omega) (by omega) (by omega) (by omega)).mono ?_; rintro e w2 ⟨rfl, k, rfl⟩; rw [HU.out]))
      go_ret
      exact ⟨rfl, by (repeat (first | assumption | exact Below.refl _ _ | refine Below.alloc ?_ (by first | omega | (simp; done) | (simp; omega)) _ | refine Below.setCell ?_ (by first | omega | (simp; done) | (simp; omega)) _ | refine below_drewN ?_ _))⟩
  · have HF : unitC m a = codeR m [a] := by simp [unitC, hc]
    rw [HF]
    clear HF
    have h1 : (codeR m [a] == 0) = false := by simpa using hc
    clear hc
    go_enter Try.func67, Try.ntmps67
    go_wp2_with (go_at_call 51; refine (l01Code_any m _ _ [a] 0 (OwnI.lit1' _ a)).mono ?_; rintro e w1 ⟨rfl, k1, rfl⟩)
    go_ret
    exact ⟨rfl, by (repeat (first | assumption | exact Below.refl _ _ | refine Below.alloc ?_ (by first | omega | (simp; done) | (simp; omega)) _ | refine Below.setCell ?_ (by first | omega | (simp; done) | (simp; omega)) _ | refine below_drewN ?_ _))⟩
/-! Euclid's algorithm with the coefficients. -/
def eu : Nat → Int → Int → Int → Int → Int
  | 0, _, _, x, _ => x
  | n + 1, r, s, x, y => if s = 0 then x else eu n s (r - r / s * s) y (x - r / s * y)
theorem eu_zero (n : Nat) (r x y : Int) : eu n r 0 x y = x := by cases n <;> simp [eu]
theorem rest_bd {r s : Int} (hs : 0 < s) : 0 ≤ r - r / s * s ∧ r - r / s * s < s := by
  have h1 := Int.emod_nonneg r (show s ≠ 0 by omega)
  have h2 := Int.emod_lt_of_pos r hs
  have h3 := Int.emod_def r s
  rw [Int.mul_comm] at h3
  omega
theorem eu_stable : ∀ (n k : Nat) (r s x y : Int), 0 ≤ s → s.toNat < n → s.toNat < k → eu n r s x y = eu k r s x y
  | 0, _, _, _, _, _, _, h, _ => by omega
  | _ + 1, 0, _, _, _, _, _, _, h => by omega
  | n + 1, k + 1, r, s, x, y, h0, h1, h2 => by
    by_cases hs : s = 0
    · simp [eu, hs]
    · have hb := rest_bd (r := r) (show 0 < s by omega)
      simp only [eu, if_neg hs]
      exact eu_stable n k _ _ _ _ hb.1 (by omega) (by omega)
theorem eu_step {r s x y X : Int} (h : ∀ n, s.toNat < n → eu n r s x y = X) (hs : 0 < s) : ∀ n, (r - r / s * s).toNat < n → eu n s (r - r / s * s) y (x - r / s * y) = X := by
  intro n hn
  have hb := rest_bd (r := r) hs
  have h1 := h (s.toNat + 1) (by omega)
  rw [eu, if_neg (by omega)] at h1
  rw [← h1]
  exact eu_stable _ _ _ _ _ _ hb.1 hn (by omega)
theorem eu_inv {m r s x y : Int} (hr : 0 < r) (hs : 0 < s) (h : (x.natAbs : Int) * s + (y.natAbs : Int) * r ≤ m) :
    (y.natAbs : Int) * (r - r / s * s) + ((x - r / s * y).natAbs : Int) * s ≤ m ∧ (y.natAbs : Int) ≤ m ∧ (x.natAbs : Int) ≤ m ∧ 0 ≤ r / s * s ∧ r / s * s ≤ r ∧ ((r / s * y).natAbs : Int) ≤ m := by
  have q0 : 0 ≤ r / s := Int.ediv_nonneg (by omega) (by omega)
  have qs : r / s * s ≤ r := Int.ediv_mul_le r (by omega)
  have qs0 : 0 ≤ r / s * s := Int.mul_nonneg q0 (by omega)
  generalize r / s = q at *
  have e1 : ((q * y).natAbs : Int) = q * (y.natAbs : Int) := by rw [Int.natAbs_mul]; simp [Int.natAbs_of_nonneg q0]
  have t1 : ((x - q * y).natAbs : Int) ≤ (x.natAbs : Int) + q * (y.natAbs : Int) := by
    have h2 := Int.natAbs_sub_le x (q * y)
    rw [← e1]
    omega
  have x0 : (0 : Int) ≤ (x.natAbs : Int) := by omega
  have y0 : (0 : Int) ≤ (y.natAbs : Int) := by omega
  generalize hX : (x.natAbs : Int) = X at *
  generalize hY : (y.natAbs : Int) = Y at *
  generalize ((x - q * y).natAbs : Int) = Z at *
  have t2 : Z * s ≤ (X + q * Y) * s := Int.mul_le_mul_of_nonneg_right t1 (by omega)
  have t3 : (X + q * Y) * s = X * s + Y * (q * s) := by rw [Int.add_mul, Int.mul_comm q Y, Int.mul_assoc]
  have t4 : Y * (r - q * s) = Y * r - Y * (q * s) := Int.mul_sub _ _ _
  have t5 : 0 ≤ X * s := Int.mul_nonneg x0 (by omega)
  have t6 : 0 ≤ Y * r := Int.mul_nonneg y0 (by omega)
  have t7 : Y * 1 ≤ Y * r := Int.mul_le_mul_of_nonneg_left (by omega) y0
  have t8 : X * 1 ≤ X * s := Int.mul_le_mul_of_nonneg_left (by omega) x0
  have t9 : Y * (q * s) ≤ Y * r := Int.mul_le_mul_of_nonneg_left qs y0
  have t10 : q * Y ≤ Y * (q * s) := by
    have : Y * q * 1 ≤ Y * q * s := Int.mul_le_mul_of_nonneg_left (by omega) (Int.mul_nonneg y0 q0)
    rw [Int.mul_assoc Y q s, Int.mul_one, Int.mul_comm Y q] at this
    exact this
  refine ⟨by omega, by omega, by omega, qs0, qs, ?_⟩
  rw [e1]
  omega
def invN (m a : Int) : Int := eu ((a % m).toNat + 1) m (a % m) 0 1 % m
theorem inverse_any (m a : Int) (w : World) (hm : 2 ≤ m) (hm' : m ≤ 1000000000000000) : Calls Try.prog 74 #[.int .i64 m, .int .i64 a] w fun e w' => e = .returned (.int .i64 (invN m a)) ∧ ∃ n, w' = w.drewN n := by
  have hc1 := Int.emod_nonneg a (show m ≠ 0 by omega)
  have hc2 := Int.emod_lt_of_pos a (show 0 < m by omega)
  obtain ⟨X, hX⟩ : ∃ X, X = eu ((a % m).toNat + 1) m (a % m) 0 1 := ⟨_, rfl⟩
  have HI : Hid (invN m a = X % m) := by unfold Hid invN; rw [← hX]
  have H0 : Hid (∀ n, (a % m).toNat < n → eu n m (a % m) 0 1 = X) := fun n hn => by rw [hX]; exact eu_stable _ _ _ _ _ _ hc1 hn (by omega)
  clear hX
  go_enter Try.func74, Try.ntmps74
  go_wp2_with (go_at_call 91; refine (mod_any _ _ _ (by omega) (by omega)).mono ?_; rintro e w1 ⟨rfl, k1, rfl⟩)
  generalize a % m = c at *
  go_loopw [5, 6, 7, 8] (fun tx ty tr ts wr => ∃ x y r s : Int, tx = .int .i64 x ∧ ty = .int .i64 y ∧ tr = .int .i64 r ∧ ts = .int .i64 s ∧ 0 < r ∧ r ≤ m ∧ 0 ≤ s ∧ s < r ∧ -m ≤ x ∧ x ≤ m ∧ Hid ((x.natAbs : Int) * s + (y.natAbs : Int) * r ≤ m) ∧ Hid (∀ n, s.toNat < n → eu n r s x y = X) ∧ ∃ n, wr = w.drewN n)
    (fun _ _ _ ts _ => (intOf ts).toNat)
  case atStart => exact ⟨0, 1, m, c, rfl, rfl, rfl, rfl, by omega, by omega, hc1, hc2, by omega, by omega, (by unfold Hid; simp), H0, _, rfl⟩
  case round =>
    obtain ⟨x, y, r, s, rfl, rfl, rfl, rfl, hr, hr', hs, hsr, hx, hx', hi, hX, n, rfl⟩ := hrel
    by_cases h0 : s = 0
    · subst h0
      have hx0 : x = X := by have := hX.out 1 (by simp); rwa [eu_zero] at this
      subst hx0
      go_wp2_with (go_at_call 91; refine (mod_any _ _ _ (by omega) (by omega)).mono ?_; rintro e w1 ⟨rfl, k2, rfl⟩)
      go_ret
      exact ⟨by rw [HI.out]; rfl, _, rfl⟩
    · have hs0 : 0 < s := by omega
      obtain ⟨i1, i2, i3, i4, i5, i6⟩ := eu_inv hr hs0 hi.out
      have I1 := Lib.hid i1
      have HS := Lib.hid (eu_step hX.out hs0)
      have hb := rest_bd (r := r) hs0
      have hne : (s != 0) = true := by simpa using h0
      have hq0 : 0 ≤ r / s := Int.ediv_nonneg (by omega) (by omega)
      have hq1 : r / s ≤ r := Int.ediv_le_self _ (by omega)
      have i7 : -m ≤ r / s * y ∧ r / s * y ≤ m := by omega
      clear i1 h0 i6
      go_wp2
      go_roundw
      case rel => exact ⟨y, x - r / s * y, s, r - r / s * s, rfl, rfl, rfl, rfl, hs0, by omega, hb.1, hb.2, by omega, by omega, I1.out, HS.out, _, rfl⟩
      case measure => simp [intOf]; omega
theorem l01Inv_any (m a : Int) (w : World) (hm : 2 ≤ m) (hm' : m ≤ 1000000000000000) : Calls Try.prog 73 #[.int .i64 m, .int .i64 a] w fun e w' => e = .returned (.int .i64 (invN m a)) ∧ ∃ n, w' = w.drewN n := by
  have hc1 := Int.emod_nonneg a (show m ≠ 0 by omega)
  have hc2 := Int.emod_lt_of_pos a (show 0 < m by omega)
  obtain ⟨X, hX⟩ : ∃ X, X = eu ((a % m).toNat + 1) m (a % m) 0 1 := ⟨_, rfl⟩
  have HI : Hid (invN m a = X % m) := by unfold Hid invN; rw [← hX]
  have H0 : Hid (∀ n, (a % m).toNat < n → eu n m (a % m) 0 1 = X) := fun n hn => by rw [hX]; exact eu_stable _ _ _ _ _ _ hc1 hn (by omega)
  clear hX
  go_enter Try.func73, Try.ntmps73
  go_wp2_with (go_at_call 90; refine (l01Mod_any _ _ _ (by omega) (by omega)).mono ?_; rintro e w1 ⟨rfl, k1, rfl⟩)
  generalize a % m = c at *
  go_loopw [5, 6, 7, 8] (fun tr ts tx ty wr => ∃ x y r s : Int, tx = .int .i64 x ∧ ty = .int .i64 y ∧ tr = .int .i64 r ∧ ts = .int .i64 s ∧ 0 < r ∧ r ≤ m ∧ 0 ≤ s ∧ s < r ∧ -m ≤ x ∧ x ≤ m ∧ Hid ((x.natAbs : Int) * s + (y.natAbs : Int) * r ≤ m) ∧ Hid (∀ n, s.toNat < n → eu n r s x y = X) ∧ ∃ n, wr = w.drewN n)
    (fun _ ts _ _ _ => (intOf ts).toNat)
  case atStart => exact ⟨0, 1, m, c, rfl, rfl, rfl, rfl, by omega, by omega, hc1, hc2, by omega, by omega, (by unfold Hid; simp), H0, _, rfl⟩
  case round =>
    obtain ⟨x, y, r, s, rfl, rfl, rfl, rfl, hr, hr', hs, hsr, hx, hx', hi, hX, n, rfl⟩ := hrel
    by_cases h0 : s = 0
    · subst h0
      have hx0 : x = X := by have := hX.out 1 (by simp); rwa [eu_zero] at this
      subst hx0
      go_wp2_with (go_at_call 90; refine (l01Mod_any _ _ _ (by omega) (by omega)).mono ?_; rintro e w1 ⟨rfl, k2, rfl⟩)
      go_ret
      exact ⟨by rw [HI.out]; rfl, _, rfl⟩
    · have hs0 : 0 < s := by omega
      obtain ⟨i1, i2, i3, i4, i5, i6⟩ := eu_inv hr hs0 hi.out
      have I1 := Lib.hid i1
      have HS := Lib.hid (eu_step hX.out hs0)
      have hb := rest_bd (r := r) hs0
      have hq0 : 0 ≤ r / s := Int.ediv_nonneg (by omega) (by omega)
      have hq1 : r / s ≤ r := Int.ediv_le_self _ (by omega)
      have i7 : -m ≤ r / s * y ∧ r / s * y ≤ m := by omega
      clear i1 h0 i6
      go_wp2
      go_roundw
      case rel => exact ⟨y, x - r / s * y, s, r - r / s * s, rfl, rfl, rfl, rfl, hs0, by omega, hb.1, hb.2, by omega, by omega, I1.out, HS.out, _, rfl⟩
      case measure => simp [intOf]; omega
def InverseModuloR (m a : Int) : Int × Int := if unitC m a = 0 then (invN m a, 0) else (0, unitC m a)
theorem iInverseModulo_any (m a : Int) (w : World) : Calls Try.prog 36 #[.int .i64 m, .int .i64 a] w fun e w' => e = .returned (.tuple #[.int .i64 (InverseModuloR m a).1, .int .i64 (InverseModuloR m a).2]) ∧ Below w.heap.size w w' := by
  by_cases hc : unitC m a = 0
  · have HF : InverseModuloR m a = (invN m a, 0) := by simp [InverseModuloR, hc]
    rw [HF]
    clear HF
    obtain ⟨⟨h1, h2⟩, h3, h4⟩ := codeR_zero1 (unitC_zero hc).1
    have HC := Lib.hid hc
    clear hc
    go_enter Try.func36, Try.ntmps36
    go_wp2_with (first | (go_at_call 68; refine (unit_any m a _).mono ?_; rintro e w1 ⟨rfl, hb⟩; rw [HC.out]) | (go_at_call 74; refine (inverse_any m a _ (by omega) (by omega)).mono ?_; rintro e w2 ⟨rfl, k, rfl⟩))
    go_ret2
    exact ⟨rfl, below_drewN hb _⟩
  · have HF : InverseModuloR m a = (0, unitC m a) := by simp [InverseModuloR, hc]
    rw [HF]
    clear HF
    have h1 : (unitC m a != 0) = true := by simpa using hc
    clear hc
    go_enter Try.func36, Try.ntmps36
    go_wp2_with (go_at_call 68; refine (unit_any m a _).mono ?_; rintro e w1 ⟨rfl, hb⟩)
    go_ret2
    exact ⟨rfl, hb⟩
theorem sInverseModulo_any (m a : Int) (w : World) : Calls Try.prog 35 #[.int .i64 m, .int .i64 a] w fun e w' => e = .returned (.tuple #[.int .i64 (InverseModuloR m a).1, .int .i64 (InverseModuloR m a).2]) ∧ Below w.heap.size w w' := by
  by_cases hc : unitC m a = 0
  · have HF : InverseModuloR m a = (invN m a, 0) := by simp [InverseModuloR, hc]
    rw [HF]
    clear HF
    obtain ⟨⟨h1, h2⟩, h3, h4⟩ := codeR_zero1 (unitC_zero hc).1
    have HC := Lib.hid hc
    clear hc
    go_enter Try.func35, Try.ntmps35
    go_wp2_with (first | (go_at_call 67; refine (l01Units_any m a _).mono ?_; rintro e w1 ⟨rfl, hb⟩; rw [HC.out]) | (go_at_call 73; refine (l01Inv_any m a _ (by omega) (by omega)).mono ?_; rintro e w2 ⟨rfl, k, rfl⟩))
    go_ret2
    exact ⟨rfl, below_drewN hb _⟩
  · have HF : InverseModuloR m a = (0, unitC m a) := by simp [InverseModuloR, hc]
    rw [HF]
    clear HF
    have h1 : (unitC m a != 0) = true := by simpa using hc
    clear hc
    go_enter Try.func35, Try.ntmps35
    go_wp2_with (go_at_call 67; refine (l01Units_any m a _).mono ?_; rintro e w1 ⟨rfl, hb⟩)
    go_ret2
    exact ⟨rfl, hb⟩

/-! ### Powers -/
theorem pow_mod (a m : Int) (n : Nat) : (a % m) ^ n % m = a ^ n % m := by
  induction n with
  | zero => simp
  | succ n ih => rw [Int.pow_succ, Int.pow_succ, Int.mul_emod, ih, Int.emod_emod, ← Int.mul_emod]
theorem sq_pow (x : Int) (j : Nat) : (x * x) ^ j = x ^ (2 * j) := by
  induction j with
  | zero => simp
  | succ j ih => rw [Int.pow_succ, ih, show 2 * (j + 1) = 2 * j + 1 + 1 by omega, Int.pow_succ, Int.pow_succ, Int.mul_assoc]
theorem pow_even (o x m : Int) (j : Nat) : o * (x * x % m) ^ j % m = o * x ^ (2 * j) % m := by
  rw [Int.mul_emod, pow_mod, sq_pow, ← Int.mul_emod]
theorem pow_odd (o x m : Int) (j : Nat) : o * x % m * (x * x % m) ^ j % m = o * x ^ (2 * j + 1) % m := by
  rw [Int.mul_emod, pow_mod, sq_pow, Int.emod_emod, ← Int.mul_emod, Int.pow_succ, Int.mul_assoc, Int.mul_comm x]
theorem mul_bd' {a b m n : Int} (ha : 0 ≤ a) (ha' : a ≤ m) (hb : 0 ≤ b) (hb' : b ≤ n) : 0 ≤ a * b ∧ a * b ≤ m * n := ⟨Int.mul_nonneg ha hb, Int.mul_le_mul ha' hb' hb (by omega)⟩
theorem prod_bd {a b m : Int} (h1 : 0 ≤ a) (h2 : a < m) (h3 : 0 ≤ b) (h4 : b < m) (h5 : m ≤ 3000000000) : 0 ≤ a * b ∧ a * b ≤ 9000000000000000000 := by
  have := mul_bd' h1 (show a ≤ 3000000000 by omega) h3 (show b ≤ 3000000000 by omega)
  omega
theorem mul_any (m a b : Int) (w : World) (hm : 0 < m) (hm' : m ≤ 3000000000) (ha : 0 ≤ a) (ha' : a < m) (hb : 0 ≤ b) (hb' : b < m) : Calls Try.prog 92 #[.int .i64 m, .int .i64 a, .int .i64 b] w fun e w' => e = .returned (.int .i64 (a * b % m)) ∧ w = w' := by
  have hp := prod_bd ha ha' hb hb' hm'
  go_enter Try.func92, Try.ntmps92
  go_wp2
  go_ret
  exact ⟨rfl, rfl⟩
def powN (m a : Int) (k : Nat) : Int := a ^ k % m
theorem power_any (m a : Int) (k : Nat) (w : World) (hm : 2 ≤ m) (hm' : m ≤ 3000000000) (ha : 0 ≤ a) (ha' : a < m) (hk : k ≤ 1000000000000) : Calls Try.prog 83 #[.int .i64 m, .int .i64 a, .int .i64 k] w fun e w' => e = .returned (.int .i64 (powN m a k)) ∧ w = w' := by
  have H1 : Hid ((1 : Int) % m = 1) := Int.emod_eq_of_lt (by omega) (by omega)
  go_enter Try.func83, Try.ntmps83
  go_wp2
  go_loop [1, 2, 7] (fun s1 s2 s3 => ∃ (x o : Int) (j : Nat), s1 = .int .i64 x ∧ s2 = .int .i64 j ∧ s3 = .int .i64 o ∧ 0 ≤ x ∧ x < m ∧ 0 ≤ o ∧ o < m ∧ j ≤ 1000000000000 ∧ Hid (o * x ^ j % m = powN m a k)) (fun _ s2 _ => (intOf s2).toNat)
  case atStart => exact ⟨a, 1, k, rfl, rfl, (by first | rfl | rw [H1.out]), ha, ha', by omega, by omega, hk, by unfold Hid powN; rw [Int.one_mul]⟩
  case round =>
    obtain ⟨x, o, j, rfl, rfl, rfl, hx, hx', ho, ho', hj, hp⟩ := hrel
    have hx2 : 0 ≤ x * x % m := Int.emod_nonneg _ (by omega)
    have hx3 : x * x % m < m := Int.emod_lt_of_pos _ (by omega)
    have ho2 : 0 ≤ o * x % m := Int.emod_nonneg _ (by omega)
    have ho3 : o * x % m < m := Int.emod_lt_of_pos _ (by omega)
    by_cases h0 : j = 0
    · subst h0
      have HF : Hid (powN m a k = o) := by
        have := hp.out
        rw [Int.pow_zero, Int.mul_one, Int.emod_eq_of_lt ho ho'] at this
        exact this.symm
      go_wp2
      go_ret
      exact ⟨by rw [HF.out]; rfl, rfl⟩
    · have hj0 : 0 < j := by omega
      by_cases h1 : j % 2 = 1
      · obtain ⟨i, hi⟩ : ∃ i, j = 2 * i + 1 := ⟨j / 2, by omega⟩
        subst hi
        have HE := Lib.hid (pow_odd o x m i)
        have hb1 : (((2 * i + 1 : Nat) : Int) % 2 == 1) = true := by first | (simp; done) | (simp; omega)
        have hb2 : ((2 * i + 1 : Nat) : Int) / 2 = (i : Int) := by omega
        clear h0 h1
        go_wp2_with (first | (go_at_call_of 92 (.int .i64 o); refine (mul_any m o x _ (by omega) hm' ho ho' hx hx').mono ?_; rintro e w1 ⟨rfl, rfl⟩) | (go_at_call 92; refine (mul_any m _ x _ (by omega) hm' (by assumption) (by assumption) hx hx').mono ?_; rintro e w2 ⟨rfl, rfl⟩))
        go_round
        case rel => exact ⟨x * x % m, o * x % m, i, rfl, by first | rfl | (rw [hb2]) | (simp; done) | (simp; omega), rfl, hx2, hx3, ho2, ho3, by omega, HE.out.trans hp.out⟩
        case measure => simp [intOf]; omega
      · obtain ⟨i, hi⟩ : ∃ i, j = 2 * i := ⟨j / 2, by omega⟩
        subst hi
        have HE := Lib.hid (pow_even o x m i)
        have hb1 : (((2 * i : Nat) : Int) % 2 == 1) = false := by first | (simp; done) | (simp; omega)
        have hb2 : ((2 * i : Nat) : Int) / 2 = (i : Int) := by omega
        clear h0 h1
        go_wp2_with (go_at_call 92; refine (mul_any m x x _ (by omega) hm' hx hx' hx hx').mono ?_; rintro e w2 ⟨rfl, rfl⟩)
        go_round
        case rel => exact ⟨x * x % m, o, i, rfl, by first | rfl | (rw [hb2]) | (simp; done) | (simp; omega), rfl, hx2, hx3, ho, ho', by omega, HE.out.trans hp.out⟩
        case measure => simp [intOf]; omega
theorem l01Pow_any (m a : Int) (k : Nat) (w : World) (hm : 2 ≤ m) (hm' : m ≤ 3000000000) (ha : 0 ≤ a) (ha' : a < m) (hk : k ≤ 1000000000000) : Calls Try.prog 82 #[.int .i64 m, .int .i64 a, .int .i64 k] w fun e w' => e = .returned (.int .i64 (powN m a k)) ∧ ∃ n, w' = w.drewN n := by
  have H1 : Hid ((1 : Int) % m = 1) := Int.emod_eq_of_lt (by omega) (by omega)
  have HA : Hid (a % m = a) := Int.emod_eq_of_lt ha ha'
  go_enter Try.func82, Try.ntmps82
  go_wp2_with (go_at_call 90; refine (l01Mod_any _ _ _ (by omega) (by omega)).mono ?_; rintro e w1 ⟨rfl, k1, rfl⟩; rw [HA.out])
  go_loop [1, 2, 7] (fun s1 s2 s3 => ∃ (x o : Int) (j : Nat), s1 = .int .i64 x ∧ s2 = .int .i64 j ∧ s3 = .int .i64 o ∧ 0 ≤ x ∧ x < m ∧ 0 ≤ o ∧ o < m ∧ j ≤ 1000000000000 ∧ Hid (o * x ^ j % m = powN m a k)) (fun _ s2 _ => (intOf s2).toNat)
  case atStart => exact ⟨a, 1, k, rfl, rfl, (by first | rfl | rw [H1.out]), ha, ha', by omega, by omega, hk, by unfold Hid powN; rw [Int.one_mul]⟩
  case round =>
    obtain ⟨x, o, j, rfl, rfl, rfl, hx, hx', ho, ho', hj, hp⟩ := hrel
    have hx2 : 0 ≤ x * x % m := Int.emod_nonneg _ (by omega)
    have hx3 : x * x % m < m := Int.emod_lt_of_pos _ (by omega)
    have ho2 : 0 ≤ o * x % m := Int.emod_nonneg _ (by omega)
    have ho3 : o * x % m < m := Int.emod_lt_of_pos _ (by omega)
    have hp1 := prod_bd ho ho' hx hx' hm'
    have hp2 := prod_bd hx hx' hx hx' hm'
    by_cases h0 : j = 0
    · subst h0
      have HF : Hid (powN m a k = o) := by
        have := hp.out
        rw [Int.pow_zero, Int.mul_one, Int.emod_eq_of_lt ho ho'] at this
        exact this.symm
      go_wp2
      go_ret
      exact ⟨by rw [HF.out]; rfl, _, rfl⟩
    · have hj0 : 0 < j := by omega
      by_cases h1 : j % 2 = 1
      · obtain ⟨i, hi⟩ : ∃ i, j = 2 * i + 1 := ⟨j / 2, by omega⟩
        subst hi
        have HE := Lib.hid (pow_odd o x m i)
        have hb1 : (((2 * i + 1 : Nat) : Int) % 2 == 1) = true := by first | (simp; done) | (simp; omega)
        have hb2 : ((2 * i + 1 : Nat) : Int) / 2 = (i : Int) := by omega
        clear h0 h1
        go_wp2
        go_round
        case rel => exact ⟨x * x % m, o * x % m, i, rfl, by first | rfl | (rw [hb2]) | (simp; done) | (simp; omega), rfl, hx2, hx3, ho2, ho3, by omega, HE.out.trans hp.out⟩
        case measure => simp [intOf]; omega
      · obtain ⟨i, hi⟩ : ∃ i, j = 2 * i := ⟨j / 2, by omega⟩
        subst hi
        have HE := Lib.hid (pow_even o x m i)
        have hb1 : (((2 * i : Nat) : Int) % 2 == 1) = false := by first | (simp; done) | (simp; omega)
        have hb2 : ((2 * i : Nat) : Int) / 2 = (i : Int) := by omega
        clear h0 h1
        go_wp2
        go_round
        case rel => exact ⟨x * x % m, o, i, rfl, by first | rfl | (rw [hb2]) | (simp; done) | (simp; omega), rfl, hx2, hx3, ho, ho', by omega, HE.out.trans hp.out⟩
        case measure => simp [intOf]; omega
def PowerModuloR (m a k : Int) : Int × Int := if codeR m [a] = 0 then (if inB k 0 1000000000000 = false then (0, 2) else (powN m a k.toNat, 0)) else (0, codeR m [a])
theorem iPowerModulo_any (m a k : Int) (w : World) : Calls Try.prog 50 #[.int .i64 m, .int .i64 a, .int .i64 k] w fun e w' => e = .returned (.tuple #[.int .i64 (PowerModuloR m a k).1, .int .i64 (PowerModuloR m a k).2]) ∧ Below w.heap.size w w' := by
  by_cases hc : codeR m [a] = 0
  · obtain ⟨⟨h1, h2⟩, h3, h4⟩ := codeR_zero1 hc
    have HC := Lib.hid hc
    cases hk : inB k 0 1000000000000
    · have HF : PowerModuloR m a k = (0, 2) := by simp [PowerModuloR, hc, hk]
      rw [HF]
      clear HF hc
      have HK := Lib.hid hk
      clear hk
      go_enter Try.func50, Try.ntmps50
      go_wp2_with (first | (go_at_call 53; refine (modular_any m _ _ [a] 0 (OwnI.lit1' _ a)).mono ?_; rintro e w1 ⟨rfl, hb⟩; rw [HC.out]) | (go_at_call 58; refine (in_any _ _ _ _).mono ?_; rintro e w2 ⟨rfl, k2, rfl⟩; rw [HK.out]))
      go_ret2
      exact ⟨rfl, below_drewN (((Below.refl _ _).alloc (Nat.le_refl _) _).trans (hb.mono (by simp))) _⟩
    · have HF : PowerModuloR m a k = (powN m a k.toNat, 0) := by simp [PowerModuloR, hc, hk]
      rw [HF]
      clear HF hc
      obtain ⟨h5, h6⟩ := inB_true.1 hk
      obtain ⟨n, rfl⟩ := Int.eq_ofNat_of_zero_le h5
      rw [Int.toNat_natCast]
      have HK := Lib.hid hk
      clear hk
      go_enter Try.func50, Try.ntmps50
      go_wp2_with (first | (go_at_call 53; refine (modular_any m _ _ [a] 0 (OwnI.lit1' _ a)).mono ?_; rintro e w1 ⟨rfl, hb⟩; rw [HC.out]) | (go_at_call 58; refine (in_any _ _ _ _).mono ?_; rintro e w2 ⟨rfl, k2, rfl⟩; rw [HK.out]) | (go_at_call 83; refine (power_any m a n _ (by omega) (by omega) h3 h4 (by omega)).mono ?_; rintro e w3 ⟨rfl, rfl⟩))
      go_ret2
      exact ⟨rfl, below_drewN (((Below.refl _ _).alloc (Nat.le_refl _) _).trans (hb.mono (by simp))) _⟩
  · have HF : PowerModuloR m a k = (0, codeR m [a]) := by simp [PowerModuloR, hc]
    rw [HF]
    clear HF
    have h1 : (codeR m [a] != 0) = true := by simpa using hc
    clear hc
    go_enter Try.func50, Try.ntmps50
    go_wp2_with (go_at_call 53; refine (modular_any m _ _ [a] 0 (OwnI.lit1' _ a)).mono ?_; rintro e w1 ⟨rfl, hb⟩)
    go_ret2
    exact ⟨rfl, ((Below.refl _ _).alloc (Nat.le_refl _) _).trans (hb.mono (by simp))⟩
theorem sPowerModulo_any (m a k : Int) (w : World) : Calls Try.prog 49 #[.int .i64 m, .int .i64 a, .int .i64 k] w fun e w' => e = .returned (.tuple #[.int .i64 (PowerModuloR m a k).1, .int .i64 (PowerModuloR m a k).2]) ∧ Below w.heap.size w w' := by
  by_cases hc : codeR m [a] = 0
  · obtain ⟨⟨h1, h2⟩, h3, h4⟩ := codeR_zero1 hc
    have HC := Lib.hid hc
    cases hk : inB k 0 1000000000000
    · have HF : PowerModuloR m a k = (0, 2) := by simp [PowerModuloR, hc, hk]
      rw [HF]
      clear HF hc
      have HK := Lib.hid hk
      clear hk
      go_enter Try.func49, Try.ntmps49
      go_wp2_with (first | (go_at_call 51; refine (l01Code_any m _ _ [a] 0 (OwnI.lit1' _ a)).mono ?_; rintro e w1 ⟨rfl, k1, rfl⟩; rw [HC.out]) | (go_at_call 64; refine (l01In_any _ _ _ _).mono ?_; rintro e w2 ⟨rfl, k2, rfl⟩; rw [HK.out]))
      go_ret2
      exact ⟨rfl, by (repeat (first | assumption | exact Below.refl _ _ | refine Below.alloc ?_ (by first | omega | (simp; done) | (simp; omega)) _ | refine Below.setCell ?_ (by first | omega | (simp; done) | (simp; omega)) _ | refine below_drewN ?_ _))⟩
    · have HF : PowerModuloR m a k = (powN m a k.toNat, 0) := by simp [PowerModuloR, hc, hk]
      rw [HF]
      clear HF hc
      obtain ⟨h5, h6⟩ := inB_true.1 hk
      obtain ⟨n, rfl⟩ := Int.eq_ofNat_of_zero_le h5
      rw [Int.toNat_natCast]
      have HK := Lib.hid hk
      clear hk
      go_enter Try.func49, Try.ntmps49
      go_wp2_with (first | (go_at_call 51; refine (l01Code_any m _ _ [a] 0 (OwnI.lit1' _ a)).mono ?_; rintro e w1 ⟨rfl, k1, rfl⟩; rw [HC.out]) | (go_at_call 64; refine (l01In_any _ _ _ _).mono ?_; rintro e w2 ⟨rfl, k2, rfl⟩; rw [HK.out]) | (go_at_call 82; refine (l01Pow_any m a n _ (by omega) (by omega) h3 h4 (by omega)).mono ?_; rintro e w3 ⟨rfl, k3, rfl⟩))
      go_ret2
      exact ⟨rfl, by (repeat (first | assumption | exact Below.refl _ _ | refine Below.alloc ?_ (by first | omega | (simp; done) | (simp; omega)) _ | refine Below.setCell ?_ (by first | omega | (simp; done) | (simp; omega)) _ | refine below_drewN ?_ _))⟩
  · have HF : PowerModuloR m a k = (0, codeR m [a]) := by simp [PowerModuloR, hc]
    rw [HF]
    clear HF
    have h1 : (codeR m [a] != 0) = true := by simpa using hc
    have h2 : (codeR m [a] == 0) = false := by simpa using hc
    clear hc
    go_enter Try.func49, Try.ntmps49
    go_wp2_with (go_at_call 51; refine (l01Code_any m _ _ [a] 0 (OwnI.lit1' _ a)).mono ?_; rintro e w1 ⟨rfl, k1, rfl⟩)
    go_ret2
    exact ⟨rfl, by (repeat (first | assumption | exact Below.refl _ _ | refine Below.alloc ?_ (by first | omega | (simp; done) | (simp; omega)) _ | refine Below.setCell ?_ (by first | omega | (simp; done) | (simp; omega)) _ | refine below_drewN ?_ _))⟩

/-! ### Orders -/
theorem nodup_lt_length : ∀ (n : Nat) (l : List Nat), l.Nodup → (∀ x ∈ l, x < n) → l.length ≤ n
  | 0, l, _, h => by
    cases l with
    | nil => simp
    | cons x l => exact absurd (h x (by simp)) (by omega)
  | n + 1, l, hn, h => by
    have h1 := nodup_lt_length n (l.erase n) (hn.erase n) fun x hx => by
      have h2 := (hn.mem_erase_iff).1 hx
      have := h x h2.2
      omega
    have h3 := List.length_erase (a := n) (l := l)
    split at h3 <;> omega
theorem pigeon (n : Nat) (f : Nat → Nat) (h : ∀ k, f k < n) : ∃ i j, i < j ∧ j ≤ n ∧ f i = f j := by
  apply Classical.byContradiction
  intro hc
  have h1 : ((List.range (n + 1)).map f).Nodup := by
    rw [List.Nodup, List.pairwise_map]
    refine List.Pairwise.imp_of_mem ?_ (List.pairwise_lt_range (n := n + 1))
    intro i j hi hj hij he
    have : j < n + 1 := List.mem_range.1 hj
    exact hc ⟨i, j, hij, by omega, he⟩
  have h2 := nodup_lt_length n _ h1 (by intro x hx; obtain ⟨k, _, rfl⟩ := List.mem_map.1 hx; exact h k)
  simp at h2
  omega
theorem order_exists (m a : Nat) (hm : 2 ≤ m) (hg : Nat.gcd a m = 1) : ∃ N, 1 ≤ N ∧ N ≤ m ∧ a ^ N % m = 1 := by
  obtain ⟨i, j, hij, hj, he⟩ := pigeon m (fun k => a ^ k % m) (fun k => Nat.mod_lt _ (by omega))
  refine ⟨j - i, by omega, by omega, ?_⟩
  have h0 : 0 < a := by
    rcases Nat.eq_zero_or_pos a with h | h
    · subst h; simp at hg; omega
    · exact h
  have h1 : (a ^ j - a ^ i) % m = 0 := Nat.sub_mod_eq_zero_of_mod_eq he.symm
  have h2 : a ^ j - a ^ i = a ^ i * (a ^ (j - i) - 1) := by
    rw [Nat.mul_sub, Nat.mul_one, ← Nat.pow_add]
    congr 2
    omega
  rw [h2] at h1
  have hc : Nat.Coprime m (a ^ i) := (Nat.Coprime.pow_left i (show Nat.Coprime a m from hg)).symm
  have h3 : m ∣ a ^ (j - i) - 1 := Nat.Coprime.dvd_of_dvd_mul_left hc (Nat.dvd_of_mod_eq_zero h1)
  have h4 : 1 ≤ a ^ (j - i) := Nat.pow_pos h0
  obtain ⟨t, ht⟩ := h3
  have h5 : a ^ (j - i) = 1 + m * t := by omega
  rw [h5, Nat.add_mul_mod_self_left]
  exact Nat.mod_eq_of_lt (by omega)
def OrdP (m a : Int) (k : Nat) : Prop := 1 ≤ k ∧ powN m a k = 1 ∧ ∀ j, 1 ≤ j → j < k → powN m a j ≠ 1
noncomputable def ordN (m a : Int) : Nat := Classical.epsilon (OrdP m a)
theorem ordN_eq {m a : Int} {k : Nat} (h : OrdP m a k) : ordN m a = k := by
  have h1 : OrdP m a (ordN m a) := Classical.epsilon_spec (p := OrdP m a) ⟨k, h⟩
  rcases Nat.lt_trichotomy (ordN m a) k with h2 | h2 | h2
  · exact absurd h1.2.1 (h.2.2 _ h1.1 h2)
  · exact h2
  · exact absurd h.2.1 (h1.2.2 _ h.1 h2)
theorem powN_cast (m a k : Nat) : powN (m : Int) (a : Int) k = ((a ^ k % m : Nat) : Int) := by
  unfold powN; push_cast; rfl
theorem order_bound {m a : Int} (hm : 2 ≤ m) (ha : 0 ≤ a) (hu : unitB m a = true) : ∃ N : Nat, 1 ≤ N ∧ (N : Int) ≤ m ∧ powN m a N = 1 := by
  obtain ⟨m', rfl⟩ := Int.eq_ofNat_of_zero_le (show 0 ≤ m by omega)
  obtain ⟨a', rfl⟩ := Int.eq_ofNat_of_zero_le ha
  unfold unitB at hu
  simp only [beq_iff_eq] at hu
  have hg : Nat.gcd a' m' = 1 := by
    have : Int.gcd (a' : Int) (m' : Int) = Nat.gcd a' m' := by simp [Int.gcd]
    omega
  obtain ⟨N, h1, h2, h3⟩ := order_exists m' a' (by omega) hg
  exact ⟨N, h1, by omega, by rw [powN_cast, h3]; rfl⟩
theorem powN_bd {m a : Int} {k : Nat} (hm : 2 ≤ m) : 0 ≤ powN m a k ∧ powN m a k < m := ⟨Int.emod_nonneg _ (by omega), Int.emod_lt_of_pos _ (by omega)⟩
theorem powN_succ (m a : Int) (k : Nat) : powN m a (k + 1) = powN m a k * a % m := by
  unfold powN
  rw [Int.pow_succ, Int.mul_emod]
  conv => rhs; rw [Int.mul_emod, Int.emod_emod]
noncomputable def OrderModuloR (m a : Int) : Int × Int := if unitC m a = 0 then ((ordN m a : Int), 0) else (0, unitC m a)
theorem iOrderModulo_any (m a : Int) (w : World) : Calls Try.prog 30 #[.int .i64 m, .int .i64 a] w fun e w' => e = .returned (.tuple #[.int .i64 (OrderModuloR m a).1, .int .i64 (OrderModuloR m a).2]) ∧ Below w.heap.size w w' := by
  by_cases hc : unitC m a = 0
  · obtain ⟨hc1, hc2⟩ := unitC_zero hc
    obtain ⟨⟨h1, h2⟩, h3, h4⟩ := codeR_zero1 hc1
    obtain ⟨N, hN1, hN2, hN3⟩ := order_bound h1 h3 hc2
    have HN := Lib.hid hN3
    have HR : Hid (∀ k, OrdP m a k → OrderModuloR m a = ((k : Int), 0)) := by
      intro k hk
      rw [← ordN_eq hk]
      simp [OrderModuloR, hc]
    have HC := Lib.hid hc
    clear hc hc1 hc2 hN3
    go_enter Try.func30, Try.ntmps30
    go_wp2_with (go_at_call 68; refine (unit_any m a _).mono ?_; rintro e w1 ⟨rfl, hb⟩; rw [HC.out])
    go_loop [7, 8] (fun s1 s2 => ∃ k : Nat, s1 = .int .i64 k ∧ s2 = .int .i64 (powN m a k) ∧ 1 ≤ k ∧ k ≤ N ∧ Hid (∀ j, 1 ≤ j → j < k → powN m a j ≠ 1)) (fun s1 _ => (N - intOf s1).toNat)
    case atStart => exact ⟨1, rfl, by unfold powN; rw [Int.pow_one, Int.emod_eq_of_lt h3 h4], by omega, hN1, fun j hj hj' => by omega⟩
    case round =>
      obtain ⟨k, rfl, rfl, hk1, hk2, hp⟩ := hrel
      have hb2 := powN_bd (a := a) (k := k) h1
      by_cases hx : powN m a k = 1
      · have HF := Lib.hid (HR.out k ⟨hk1, hx, hp.out⟩)
        have hx' : (powN m a k != 1) = false := by simpa using hx
        clear hx
        generalize powN m a k = x at *
        go_wp2
        go_ret2
        exact ⟨by rw [HF.out]; rfl, hb⟩
      · have HX : Hid (powN m a k ≠ 1) := hx
        have hx' : (powN m a k != 1) = true := by simpa using hx
        have hkN : k < N := by
          rcases Nat.lt_or_ge k N with h | h
          · exact h
          · obtain rfl : k = N := by omega
            exact absurd HN.out hx
        have HS := Lib.hid (powN_succ m a k)
        have HQ : Hid (∀ j, 1 ≤ j → j < k + 1 → powN m a j ≠ 1) := fun j hj hj' => by
          rcases Nat.lt_or_ge j k with h | h
          · exact hp.out j hj h
          · obtain rfl : j = k := by omega
            exact hx
        clear hx
        generalize powN m a k = x at *
        have hpr := prod_bd hb2.1 hb2.2 h3 h4 (by omega)
        go_wp2
        go_round
        case rel => exact ⟨k + 1, by go_num, by rw [HS.out], by omega, by omega, HQ.out⟩
        case measure => simp [intOf]; omega
  · have HF : OrderModuloR m a = (0, unitC m a) := by simp [OrderModuloR, hc]
    rw [HF]
    clear HF
    have h1 : (unitC m a != 0) = true := by simpa using hc
    clear hc
    go_enter Try.func30, Try.ntmps30
    go_wp2_with (go_at_call 68; refine (unit_any m a _).mono ?_; rintro e w1 ⟨rfl, hb⟩)
    go_ret2
    exact ⟨rfl, hb⟩
theorem sOrderModulo_any (m a : Int) (w : World) : Calls Try.prog 29 #[.int .i64 m, .int .i64 a] w fun e w' => e = .returned (.tuple #[.int .i64 (OrderModuloR m a).1, .int .i64 (OrderModuloR m a).2]) ∧ Below w.heap.size w w' := by
  by_cases hc : unitC m a = 0
  · obtain ⟨hc1, hc2⟩ := unitC_zero hc
    obtain ⟨⟨h1, h2⟩, h3, h4⟩ := codeR_zero1 hc1
    obtain ⟨N, hN1, hN2, hN3⟩ := order_bound h1 h3 hc2
    have HN := Lib.hid hN3
    have HR : Hid (∀ k, OrdP m a k → OrderModuloR m a = ((k : Int), 0)) := by
      intro k hk
      rw [← ordN_eq hk]
      simp [OrderModuloR, hc]
    have HC := Lib.hid hc
    clear hc hc1 hc2 hN3
    go_enter Try.func29, Try.ntmps29
    go_wp2_with (go_at_call 67; refine (l01Units_any m a _).mono ?_; rintro e w1 ⟨rfl, hb⟩; rw [HC.out])
    go_loop [7, 8] (fun s1 s2 => ∃ k : Nat, s1 = .int .i64 k ∧ s2 = .int .i64 (powN m a k) ∧ 1 ≤ k ∧ k ≤ N ∧ Hid (∀ j, 1 ≤ j → j < k → powN m a j ≠ 1)) (fun s1 _ => (N - intOf s1).toNat)
    case atStart => exact ⟨1, rfl, by unfold powN; rw [Int.pow_one, Int.emod_eq_of_lt h3 h4], by omega, hN1, fun j hj hj' => by omega⟩
    case round =>
      obtain ⟨k, rfl, rfl, hk1, hk2, hp⟩ := hrel
      have hb2 := powN_bd (a := a) (k := k) h1
      by_cases hx : powN m a k = 1
      · have HF := Lib.hid (HR.out k ⟨hk1, hx, hp.out⟩)
        have hx' : (powN m a k != 1) = false := by simpa using hx
        clear hx
        generalize powN m a k = x at *
        go_wp2
        go_ret2
        exact ⟨by rw [HF.out]; rfl, hb⟩
      · have HX : Hid (powN m a k ≠ 1) := hx
        have hx' : (powN m a k != 1) = true := by simpa using hx
        have hkN : k < N := by
          rcases Nat.lt_or_ge k N with h | h
          · exact h
          · obtain rfl : k = N := by omega
            exact absurd HN.out hx
        have HS := Lib.hid (powN_succ m a k)
        have HQ : Hid (∀ j, 1 ≤ j → j < k + 1 → powN m a j ≠ 1) := fun j hj hj' => by
          rcases Nat.lt_or_ge j k with h | h
          · exact hp.out j hj h
          · obtain rfl : j = k := by omega
            exact hx
        clear hx
        generalize powN m a k = x at *
        have hpr := prod_bd hb2.1 hb2.2 h3 h4 (by omega)
        go_wp2
        go_round
        case rel => exact ⟨k + 1, by go_num, by rw [HS.out], by omega, by omega, HQ.out⟩
        case measure => simp [intOf]; omega
  · have HF : OrderModuloR m a = (0, unitC m a) := by simp [OrderModuloR, hc]
    rw [HF]
    clear HF
    have h1 : (unitC m a != 0) = true := by simpa using hc
    clear hc
    go_enter Try.func29, Try.ntmps29
    go_wp2_with (go_at_call 67; refine (l01Units_any m a _).mono ?_; rintro e w1 ⟨rfl, hb⟩)
    go_ret2
    exact ⟨rfl, hb⟩

/-! ### The laws' walks: exported functions on numbers -/
theorem FnExactIsUnit_walk (w : World) (a0 a1 : Int) : Calls Try.prog 3 #[.int .i64 a0, .int .i64 a1] w fun e w' => e = .returned (.bool true) ∧ Below w.heap.size w w' := by
  go_enter Try.func3, Try.ntmps3
  go_wp2_with fail
  refine (sIsUnit_any a0 a1 _).mono ?_
  rintro e w1 ⟨rfl, hb1⟩
  go_wp2_with fail
  refine (iIsUnit_any a0 a1 _).mono ?_
  rintro e w2 ⟨rfl, hb2⟩
  go_wp2
  go_ret
  exact ⟨rfl, hb1.trans (hb2.mono hb1.size)⟩
theorem FnExactInverseModulo_walk (w : World) (a0 a1 : Int) : Calls Try.prog 10 #[.int .i64 a0, .int .i64 a1] w fun e w' => e = .returned (.bool true) ∧ Below w.heap.size w w' := by
  go_enter Try.func10, Try.ntmps10
  go_wp2_with fail
  refine (sInverseModulo_any a0 a1 _).mono ?_
  rintro e w1 ⟨rfl, hb1⟩
  go_wp2_with fail
  refine (iInverseModulo_any a0 a1 _).mono ?_
  rintro e w2 ⟨rfl, hb2⟩
  go_wp2
  go_ret
  exact ⟨rfl, hb1.trans (hb2.mono hb1.size)⟩
theorem FnExactPowerModulo_walk (w : World) (a0 a1 a2 : Int) : Calls Try.prog 14 #[.int .i64 a0, .int .i64 a1, .int .i64 a2] w fun e w' => e = .returned (.bool true) ∧ Below w.heap.size w w' := by
  go_enter Try.func14, Try.ntmps14
  go_wp2_with fail
  refine (sPowerModulo_any a0 a1 a2 _).mono ?_
  rintro e w1 ⟨rfl, hb1⟩
  go_wp2_with fail
  refine (iPowerModulo_any a0 a1 a2 _).mono ?_
  rintro e w2 ⟨rfl, hb2⟩
  go_wp2
  go_ret
  exact ⟨rfl, hb1.trans (hb2.mono hb1.size)⟩
theorem FnExactOrderModulo_walk (w : World) (a0 a1 : Int) : Calls Try.prog 7 #[.int .i64 a0, .int .i64 a1] w fun e w' => e = .returned (.bool true) ∧ Below w.heap.size w w' := by
  go_enter Try.func7, Try.ntmps7
  go_wp2_with fail
  refine (sOrderModulo_any a0 a1 _).mono ?_
  rintro e w1 ⟨rfl, hb1⟩
  go_wp2_with fail
  refine (iOrderModulo_any a0 a1 _).mono ?_
  rintro e w2 ⟨rfl, hb2⟩
  go_wp2
  go_ret
  exact ⟨rfl, hb1.trans (hb2.mono hb1.size)⟩

end Go.Proofs.Ytipiljinloapjaa
