/- Contracts of the program's and the reference's functions on numbers, over this seat's translation. Condition: each contract's own. -/
import Derived.ProofKit
import Derived.OpenShut
import Derived.Below
import Derived.ChangeSame
import Derived.Test.YtkkjakjopmaocaaProg
import Derived.WalkKit
import Derived.WalkSpells
import Derived.WalkLawsBesides
import Derived.Deep.QuietTactic
import Derived.BigQuiet
import Derived.Deep.RegionHeld3
import Derived.Deep.RegionWith
import Derived.Deep.RegionLaw
import Derived.Deep.AppendLies
import Derived.Laws.CopyOwn
import Derived.Deep.DeepCutAuto
import Derived.Deep.OwnRows
import Derived.Deep.LoopGhost
import Derived.Deep.DeepFit
import Derived.Deep.DeepMust
import Derived.Deep.Draws
import Derived.Deep.CutRange
import Derived.Maps.AppendAt
import Derived.Lib.Hide
import Derived.StillTailTactics
import Derived.Laws.MakeOwn
open Go Go.RowKit
namespace Go.Proofs.Ytkkjakjopmaocaa
/-! ### Plain words -/
def inB (n l h : Int) : Bool := decide (l ≤ n) && decide (n ≤ h)
theorem inB_true {n l h : Int} : inB n l h = true ↔ l ≤ n ∧ n ≤ h := by simp [inB]
theorem inB_false {n l h : Int} : inB n l h = false ↔ ¬ (l ≤ n ∧ n ≤ h) := by
  rw [← inB_true]; simp
def isModB (m : Int) : Bool := inB m 2 10000
theorem isModB_true {m : Int} (h : isModB m = true) : 2 ≤ m ∧ m ≤ 10000 := inB_true.1 h
def isIntB (n : Int) : Bool := inB n (-1000000000000) 1000000000000
theorem isIntB_true {n : Int} (h : isIntB n = true) : -1000000000000 ≤ n ∧ n ≤ 1000000000000 := inB_true.1 h
def isNumB (a m : Int) : Bool := inB a 0 (m - 1)
theorem isNumB_true {a m : Int} (h : isNumB a m = true) : 0 ≤ a ∧ a < m := by have := inB_true.1 h; omega
def numsB (m : Int) (xs : List Int) : Bool := xs.all fun a => isNumB a m
theorem pull_drewN (w : World) (a b : Nat) : (w.drewN a).drewN b = w.drewN (a + b) := World.drewN_drewN w a b

/-! ### Ranges -/
theorem in_any (n l h : Int) (w : World) : Calls Try.prog 41 #[.int .i64 n, .int .i64 l, .int .i64 h] w fun e w' => e = .returned (.bool (inB n l h)) ∧ ∃ k, w' = w.drewN k := by
  unfold inB
  go_enter Try.func41, Try.ntmps41
  go_wp2
  all_goals go_ret
  · exact ⟨by simp [*], 0, rfl⟩
  · exact ⟨by simp; omega, 0, rfl⟩
theorem l01In_any (n l h : Int) (w : World) : Calls Try.prog 50 #[.int .i64 n, .int .i64 l, .int .i64 h] w fun e w' => e = .returned (.bool (inB n l h)) ∧ ∃ k, w' = w.drewN k := by
  unfold inB
  go_enter Try.func50, Try.ntmps50
  go_wp2
  all_goals go_ret
  · exact ⟨by simp [*], 0, rfl⟩
  · exact ⟨by simp; omega, 0, rfl⟩
theorem iIsModulus_any (m : Int) (w : World) : Calls Try.prog 17 #[.int .i64 m] w fun e w' => e = .returned (.bool (isModB m)) ∧ ∃ k, w' = w.drewN k := by
  go_enter Try.func17, Try.ntmps17
  go_wp2_with (go_at_call 41; refine (in_any _ _ _ _).mono ?_; rintro e w' ⟨rfl, k, rfl⟩)
  go_ret
  exact ⟨rfl, _, rfl⟩
theorem sModulus_any (m : Int) (w : World) : Calls Try.prog 40 #[.int .i64 m] w fun e w' => e = .returned (.bool (isModB m)) ∧ ∃ k, w' = w.drewN k := by
  go_enter Try.func40, Try.ntmps40
  go_wp2_with (go_at_call 50; refine (l01In_any _ _ _ _).mono ?_; rintro e w' ⟨rfl, k, rfl⟩)
  go_ret
  exact ⟨rfl, _, rfl⟩
theorem sIsModulus_any (m : Int) (w : World) : Calls Try.prog 16 #[.int .i64 m] w fun e w' => e = .returned (.bool (isModB m)) ∧ ∃ k, w' = w.drewN k := by
  go_enter Try.func16, Try.ntmps16
  go_wp2_with (go_at_call 40; refine (sModulus_any _ _).mono ?_; rintro e w' ⟨rfl, k, rfl⟩)
  go_ret
  exact ⟨rfl, _, rfl⟩
theorem isInteger_any (m : Int) (w : World) : Calls Try.prog 44 #[.int .i64 m] w fun e w' => e = .returned (.bool (isIntB m)) ∧ ∃ k, w' = w.drewN k := by
  go_enter Try.func44, Try.ntmps44
  go_wp2_with (go_at_call 41; refine (in_any _ _ _ _).mono ?_; rintro e w' ⟨rfl, k, rfl⟩)
  go_ret
  exact ⟨rfl, _, rfl⟩
theorem l01Integer_any (m : Int) (w : World) : Calls Try.prog 42 #[.int .i64 m] w fun e w' => e = .returned (.bool (isIntB m)) ∧ ∃ k, w' = w.drewN k := by
  go_enter Try.func42, Try.ntmps42
  go_wp2_with (go_at_call 50; refine (l01In_any _ _ _ _).mono ?_; rintro e w' ⟨rfl, k, rfl⟩)
  go_ret
  exact ⟨rfl, _, rfl⟩
theorem isNumber_any (a m : Int) (w : World) (hm : isModB m = true) : Calls Try.prog 65 #[.int .i64 a, .int .i64 m] w fun e w' => e = .returned (.bool (isNumB a m)) ∧ ∃ k, w' = w.drewN k := by
  obtain ⟨h1, h2⟩ := isModB_true hm
  clear hm
  go_enter Try.func65, Try.ntmps65
  go_wp2_with (go_at_call 41; refine (in_any _ _ _ _).mono ?_; rintro e w' ⟨rfl, k, rfl⟩)
  go_ret
  exact ⟨rfl, _, rfl⟩

/-! ### Remainders -/
theorem tmod_add_mod (n m : Int) : (n.tmod m + m) % m = n % m := by
  rw [Int.add_emod_right]
  conv => rhs; rw [← Int.tmod_add_mul_tdiv n m]
  rw [Int.add_mul_emod_self_left]
theorem mod_any (n m : Int) (w : World) (h1 : 0 < m) (h2 : m ≤ 1000000000000000) : Calls Try.prog 45 #[.int .i64 n, .int .i64 m] w fun e w' => e = .returned (.int .i64 (n % m)) ∧ ∃ k, w' = w.drewN k := by
  have h3 := Int.lt_tmod_of_pos n h1
  have h4 := Int.tmod_lt_of_pos n h1
  have H := Lib.hid (tmod_add_mod n m)
  go_enter Try.func45, Try.ntmps45
  go_wp2
  go_ret
  exact ⟨by rw [← H.out]; rfl, 0, rfl⟩
theorem l01Mod_any (n m : Int) (w : World) (h1 : 0 < m) (h2 : m ≤ 1000000000000000) : Calls Try.prog 43 #[.int .i64 m, .int .i64 n] w fun e w' => e = .returned (.int .i64 (n % m)) ∧ ∃ k, w' = w.drewN k := by
  have h3 := Int.lt_tmod_of_pos n h1
  have h4 := Int.tmod_lt_of_pos n h1
  have H := Lib.hid (tmod_add_mod n m)
  go_enter Try.func43, Try.ntmps43
  go_wp2
  go_ret
  exact ⟨by rw [← H.out]; rfl, 0, rfl⟩

/-! ### Greatest common divisors -/
theorem gcd_step (a b : Int) : Int.gcd b (a.tmod b) = Int.gcd a b := by
  have h : (a.tmod b).natAbs = a.natAbs % b.natAbs := Int.natAbs_tmod a b
  unfold Int.gcd
  rw [h, Nat.gcd_comm, ← Nat.gcd_rec, Nat.gcd_comm]
theorem gcd_any (a b : Int) (w : World) (ha : -2000000000000000000 ≤ a) (ha' : a ≤ 2000000000000000000) (hb : -2000000000000000000 ≤ b) (hb' : b ≤ 2000000000000000000) : Calls Try.prog 49 #[.int .i64 a, .int .i64 b] w fun e w' => e = .returned (.int .i64 (Int.gcd a b)) ∧ ∃ n, w' = w.drewN n := by
  go_enter Try.func49, Try.ntmps49
  go_wp2
  go_loopw [0, 1] (fun s t wr => ∃ x y : Int, s = .int .i64 x ∧ t = .int .i64 y ∧ Hid (Int.gcd x y = Int.gcd a b) ∧ -2000000000000000000 ≤ x ∧ x ≤ 2000000000000000000 ∧ -2000000000000000000 ≤ y ∧ y ≤ 2000000000000000000 ∧ ∃ n, wr = w.drewN n)
    (fun _ t _ => (intOf t).natAbs)
  case atStart => exact ⟨a, b, rfl, rfl, rfl, ha, ha', hb, hb', 0, rfl⟩
  case round =>
    obtain ⟨x, y, rfl, rfl, hg, hx, hx', hy, hy', n, rfl⟩ := hrel
    by_cases h0 : y = 0
    · subst h0
      go_wp2
      all_goals go_ret
      all_goals
        refine ⟨?_, n, rfl⟩
        rw [← hg.out]
        show Ending.returned (.int .i64 _) = Ending.returned (.int .i64 _)
        congr 2
        simp
        omega
    · have h1 : (y != 0) = true := by simpa using h0
      have h2 : (y == 0) = false := by simpa using h0
      have hm : (x.tmod y).natAbs < y.natAbs := by rw [Int.natAbs_tmod]; exact Nat.mod_lt _ (by omega)
      go_wp2
      go_quiet (fail)
      go_wp2
      go_roundw
      case rel => exact ⟨y, x.tmod y, rfl, rfl, (gcd_step x y).trans hg.out, hy, hy', by omega, by omega, n + nq, by rw [World.drewN_drewN]⟩
      case measure => simpa [intOf] using hm
theorem l01Gcd_any (a b : Int) (w : World) (ha : -2000000000000000000 ≤ a) (ha' : a ≤ 2000000000000000000) (hb : -2000000000000000000 ≤ b) (hb' : b ≤ 2000000000000000000) : Calls Try.prog 48 #[.int .i64 a, .int .i64 b] w fun e w' => e = .returned (.int .i64 (Int.gcd a b)) ∧ ∃ n, w' = w.drewN n := by
  by_cases h1 : a < 0 <;> by_cases h2 : b < 0
  all_goals
    go_enter Try.func48, Try.ntmps48
    go_wp2
    go_loopw [0, 1, 5] (fun s t r wr => ∃ x y : Int, s = .int .i64 x ∧ t = .int .i64 y ∧ Hid (Int.gcd x y = Int.gcd a b) ∧ 0 ≤ x ∧ x ≤ 2000000000000000000 ∧ 0 ≤ y ∧ y ≤ 2000000000000000000 ∧ ∃ n, wr = w.drewN n)
      (fun _ t _ _ => (intOf t).natAbs)
    case atStart => exact ⟨_, _, rfl, rfl, by unfold Hid; simp, by omega, by omega, by omega, by omega, 0, rfl⟩
    case round =>
      obtain ⟨x, y, rfl, rfl, hg, hx, hx', hy, hy', n, rfl⟩ := hrel
      by_cases h0 : y = 0
      · subst h0
        go_wp2
        go_ret
        refine ⟨?_, n, rfl⟩
        rw [← hg.out]
        show Ending.returned (.int .i64 _) = Ending.returned (.int .i64 _)
        congr 2
        simp
        omega
      · have h0 : 0 < y := by omega
        have hm : x % y < y := Int.emod_lt_of_pos _ h0
        have hm' : 0 ≤ x % y := Int.emod_nonneg _ (by omega)
        have ht : x.tmod y = x % y := Int.tmod_eq_emod_of_nonneg hx
        have hgs := gcd_step x y
        rw [ht] at hgs
        have HG := Lib.hid hgs
        clear ht hgs
        go_wp2
        go_roundw
        case rel => exact ⟨y, x % y, rfl, rfl, HG.out.trans hg.out, by omega, by omega, by omega, by omega, n, rfl⟩
        case measure => simp [intOf]; omega
def unitB (m a : Int) : Bool := (Int.gcd a m : Int) == 1
theorem isUnit_any (m a : Int) (w : World) (h1 : 0 ≤ m) (h2 : m ≤ 1000000000000000000) (h3 : -1000000000000000000 ≤ a) (h4 : a ≤ 1000000000000000000) : Calls Try.prog 55 #[.int .i64 m, .int .i64 a] w fun e w' => e = .returned (.bool (unitB m a)) ∧ ∃ n, w' = w.drewN n := by
  go_enter Try.func55, Try.ntmps55
  go_wp2_with (go_at_call 49; refine (gcd_any _ _ _ (by omega) (by omega) (by omega) (by omega)).mono ?_; rintro e w' ⟨rfl, k, rfl⟩)
  go_ret
  exact ⟨rfl, _, rfl⟩
theorem l01Unit_any (m a : Int) (w : World) (h1 : 0 ≤ m) (h2 : m ≤ 1000000000000000000) (h3 : -1000000000000000000 ≤ a) (h4 : a ≤ 1000000000000000000) : Calls Try.prog 54 #[.int .i64 m, .int .i64 a] w fun e w' => e = .returned (.bool (unitB m a)) ∧ ∃ n, w' = w.drewN n := by
  go_enter Try.func54, Try.ntmps54
  go_wp2_with (go_at_call 48; refine (l01Gcd_any _ _ _ (by omega) (by omega) (by omega) (by omega)).mono ?_; rintro e w' ⟨rfl, k, rfl⟩)
  go_ret
  exact ⟨rfl, _, rfl⟩

/-! ### Prime numbers -/
def PrimeP (n : Int) : Prop := 2 ≤ n ∧ ∀ d : Int, 2 ≤ d → d * d ≤ n → n % d ≠ 0
noncomputable def primeB (n : Int) : Bool := @decide (PrimeP n) (Classical.propDecidable _)
theorem primeB_true {n : Int} : primeB n = true ↔ PrimeP n := by unfold primeB; exact @decide_eq_true_iff _ (Classical.propDecidable _)
theorem primeB_false {n : Int} (h : ¬ PrimeP n) : primeB n = false := by
  rw [← Bool.not_eq_true, primeB_true]; exact h
theorem sq_bound {d n : Int} (h : n ≤ 1000000000000) (hd : d * d ≤ n) : d ≤ 1000000 := by
  rcases Int.lt_or_le 1000000 d with h1 | h1
  · have h2 : 1000001 * 1000001 ≤ d * d := Int.mul_le_mul (by omega) (by omega) (by omega) (by omega)
    omega
  · exact h1
theorem prime_here {n d : Int} (hn : 2 ≤ n) (h : ∀ e : Int, 2 ≤ e → e < d → n % e ≠ 0) (hd : n < d * d) (h0 : 0 ≤ d) : PrimeP n := by
  refine ⟨hn, fun e h2 he => h e h2 ?_⟩
  rcases Int.lt_or_le e d with h1 | h1
  · exact h1
  · have := Int.mul_le_mul h1 h1 h0 (by omega)
    omega
theorem isPrime_any (n : Int) (w : World) (hn : n ≤ 1000000000000) : Calls Try.prog 47 #[.int .i64 n] w fun e w' => e = .returned (.bool (primeB n)) ∧ ∃ k, w' = w.drewN k := by
  go_enter Try.func47, Try.ntmps47
  go_wp2
  go_loop [3] (fun s => ∃ d : Int, s = .int .i64 d ∧ 2 ≤ d ∧ d ≤ 1000001 ∧ Hid (∀ e : Int, 2 ≤ e → e < d → n % e ≠ 0)) (fun s => (1000002 - intOf s).toNat)
  case atStart => exact ⟨2, rfl, by omega, by omega, fun e h1 h2 => by omega⟩
  case round =>
    obtain ⟨d, rfl, h2, h3, hd⟩ := hrel
    have hp : 0 ≤ d * d := Int.mul_nonneg (by omega) (by omega)
    have hq : d * d ≤ 1000001 * 1000001 := Int.mul_le_mul h3 h3 (by omega) (by omega)
    have hr : d ≤ d * d := by
      have := Int.mul_le_mul (Int.le_refl d) h2 (by omega) (by omega)
      omega
    by_cases h4 : d * d ≤ n
    · have hs := sq_bound hn h4
      by_cases h5 : n % d = 0
      · have h6 : (n % d == 0) = true := by simpa using h5
        have HF := Lib.hid (primeB_false (n := n) (fun h => h.2 d h2 h4 h5))
        clear h5
        go_wp2
        go_ret
        exact ⟨by rw [HF.out]; rfl, 0, rfl⟩
      · have h6 : (n % d == 0) = false := by simpa using h5
        go_wp2
        go_round
        case rel =>
          refine ⟨d + 1, rfl, by omega, by omega, fun e he he' => ?_⟩
          rcases Int.lt_or_le e d with h7 | h7
          · exact hd.out e he h7
          · obtain rfl : e = d := by omega
            exact h5
        case measure => simp [intOf]; omega
    · have HF : Hid (primeB n = decide (2 ≤ n)) := by
        unfold Hid
        by_cases h6 : 2 ≤ n
        · rw [primeB_true.2 (prime_here h6 hd.out (by omega) (by omega))]; simp [h6]
        · rw [primeB_false (fun h => h6 h.1)]; simp [h6]
      go_wp2
      go_ret
      exact ⟨by rw [HF.out]; rfl, 0, rfl⟩
theorem l01Prime_any (n : Int) (w : World) (hn : n ≤ 1000000000000) : Calls Try.prog 46 #[.int .i64 n] w fun e w' => e = .returned (.bool (primeB n)) ∧ ∃ k, w' = w.drewN k := by
  go_enter Try.func46, Try.ntmps46
  go_wp2
  go_loop [3] (fun s => ∃ d : Int, s = .int .i64 d ∧ 2 ≤ d ∧ d ≤ 1000001 ∧ Hid (∀ e : Int, 2 ≤ e → e < d → n % e ≠ 0)) (fun s => (1000002 - intOf s).toNat)
  case atStart => exact ⟨2, rfl, by omega, by omega, fun e h1 h2 => by omega⟩
  case round =>
    obtain ⟨d, rfl, h2, h3, hd⟩ := hrel
    have hp : 0 ≤ d * d := Int.mul_nonneg (by omega) (by omega)
    have hq : d * d ≤ 1000001 * 1000001 := Int.mul_le_mul h3 h3 (by omega) (by omega)
    have hr : d ≤ d * d := by
      have := Int.mul_le_mul (Int.le_refl d) h2 (by omega) (by omega)
      omega
    by_cases h4 : d * d ≤ n
    · have hs := sq_bound hn h4
      by_cases h5 : n % d = 0
      · have h6 : (n % d == 0) = true := by simpa using h5
        have HF := Lib.hid (primeB_false (n := n) (fun h => h.2 d h2 h4 h5))
        clear h5
        go_wp2
        go_ret
        exact ⟨by rw [HF.out]; rfl, 0, rfl⟩
      · have h6 : (n % d == 0) = false := by simpa using h5
        go_wp2
        go_round
        case rel =>
          refine ⟨d + 1, rfl, by omega, by omega, fun e he he' => ?_⟩
          rcases Int.lt_or_le e d with h7 | h7
          · exact hd.out e he h7
          · obtain rfl : e = d := by omega
            exact h5
        case measure => simp [intOf]; omega
    · have HF : Hid (primeB n = decide (2 ≤ n)) := by
        unfold Hid
        by_cases h6 : 2 ≤ n
        · rw [primeB_true.2 (prime_here h6 hd.out (by omega) (by omega))]; simp [h6]
        · rw [primeB_false (fun h => h6 h.1)]; simp [h6]
      go_wp2
      go_ret
      exact ⟨by rw [HF.out]; rfl, 0, rfl⟩

/-! ### Lists of int64 in memory -/
/-- In world w the slice value v holds the numbers xs, in a block from B on. -/
def OwnI (w : World) (B : Nat) (v : Value) (xs : List Int) : Prop := w.ownsRow B 2 1 v xs.length (xs.map (Value.int .i64))
theorem below_drewN {B : Nat} {a w : World} (h : Below B a w) (n : Nat) : Below B a (w.drewN n) := ⟨h.os, h.tape, h.output, h.size, h.block⟩
theorem OwnI.drewN {w : World} {B : Nat} {v : Value} {xs : List Int} (h : OwnI w B v xs) (n : Nat) : OwnI (w.drewN n) B v xs := h
theorem OwnI.alloc {w : World} {B : Nat} {v : Value} {xs : List Int} (h : OwnI w B v xs) (o : Obj) : OwnI (w.alloc o) B v xs := World.ownsRow.alloc h o
theorem OwnI.mono {w : World} {B B' : Nat} {v : Value} {xs : List Int} (h : OwnI w B v xs) (hb : B' ≤ B) : OwnI w B' v xs := by
  rcases h.2 with h0 | ⟨g, cap, cur, h1, h2, h3⟩
  · exact ⟨h.1, .inl h0⟩
  · exact ⟨h.1, .inr ⟨g, cap, cur, h1, by omega, h3⟩⟩
theorem OwnI.keep {w w' : World} {B C : Nat} {v : Value} {xs : List Int} (h : OwnI w B v xs) (hb : Below C w w') (hC : w.heap.size ≤ C) : OwnI w' B v xs := by
  rcases h.2 with h0 | ⟨g, cap, cur, h1, h2, h3, h4⟩
  · exact ⟨h.1, .inl h0⟩
  · exact ⟨h.1, .inr ⟨g, cap, cur, h1, h2, (hb.block g (by have := lt_of_block h3; omega)).trans h3, h4⟩⟩
/-- The slice value opened. -/
theorem OwnI.open_ {w : World} {B : Nat} {v : Value} {xs : List Int} (h : OwnI w B v xs) :
    ∃ A c, v = .slice A xs.length c ∧ xs.length ≤ c ∧ c ≤ maxLen ∧ ∀ k, k < xs.length → ∃ g, A = some ⟨g, 0, none⟩ ∧ B ≤ g ∧ g < w.heap.size ∧ w.cell? ⟨g, k, none⟩ = some (.int .i64 (xs.getD k 0)) ∧ w.frozen? ⟨g, k, none⟩ = false := by
  rcases h.2 with ⟨rfl, h1⟩ | ⟨g, cap, cur, rfl, h2, h3, h4, h5, h6, h7⟩
  · refine ⟨none, 0, by rw [h1], by omega, by unfold maxLen; omega, fun k hk => by omega⟩
  · refine ⟨_, cap, rfl, h4, h5, fun k hk => ⟨g, rfl, h2, lt_of_block h3, ?_, ?_⟩⟩
    · have hx := World.ownsRow.cellAt (g := g) (cap := cap) h k (by omega)
      rw [hx, List.getElem?_map, List.getD_eq_getElem?_getD, List.getElem?_eq_getElem hk]
      rfl
    · exact World.ownsRow.frozenAt (g := g) (cap := cap) h k
theorem OwnI.nil_ (w : World) (B : Nat) : OwnI w B (.slice none 0 0) [] := World.ownsRow_nil _ _ _ _
theorem OwnI.lit2 (w : World) (a b : Int) {B : Nat} (hB : B ≤ w.heap.size) : OwnI (w.alloc (.cells #[.int .i64 a, .int .i64 b] 2)) B (.slice (some ⟨w.heap.size, 0, none⟩) 2 2) [a, b] :=
  World.ownsRow_lit w #[.int .i64 a, .int .i64 b] 2 hB (by unfold maxLen; omega) rfl
theorem OwnI.lit1 (w : World) (a : Int) {B : Nat} (hB : B ≤ w.heap.size) : OwnI (w.alloc (.cells #[.int .i64 a] 2)) B (.slice (some ⟨w.heap.size, 0, none⟩) 1 1) [a] :=
  World.ownsRow_lit w #[.int .i64 a] 1 hB (by unfold maxLen; omega) rfl

/-! ### Conditions on all elements -/
theorem all_take_succ (p : Int → Bool) (xs : List Int) (k : Nat) (hk : k < xs.length) : (xs.take (k + 1)).all p = ((xs.take k).all p && p (xs.getD k 0)) := by
  rw [List.take_succ_eq_append_getElem hk, List.all_append, List.getD_eq_getElem?_getD, List.getElem?_eq_getElem hk]
  simp
theorem all_false_of_take (p : Int → Bool) (xs : List Int) (k : Nat) (hk : k < xs.length) (h : p (xs.getD k 0) = false) : xs.all p = false := by
  rw [List.getD_eq_getElem?_getD, List.getElem?_eq_getElem hk] at h
  rw [← Bool.not_eq_true, List.all_eq_true]
  intro h'
  have := h' _ (List.getElem_mem hk)
  simp at h
  simp [h] at this
theorem l01Numbers_any (m : Int) (w : World) (v : Value) (xs : List Int) (B : Nat) (hm : isModB m = true) (hv : OwnI w B v xs) :
    Calls Try.prog 62 #[.int .i64 m, v] w fun e w' => e = .returned (.bool (numsB m xs)) ∧ ∃ k, w' = w.drewN k := by
  obtain ⟨h1, h2⟩ := isModB_true hm
  obtain ⟨A, c, rfl, hc1, hc2, hA⟩ := hv.open_
  clear hv hm
  unfold maxLen at hc2
  go_enter Try.func62, Try.ntmps62
  go_wp2
  go_loopw [5] (fun i wr => ∃ k : Nat, k ≤ xs.length ∧ i = .int .i64 k ∧ Hid (numsB m (xs.take k) = true) ∧ ∃ n, wr = w.drewN n) (fun i _ => xs.length - (intOf i).toNat)
  case atStart => exact ⟨0, Nat.zero_le _, rfl, rfl, 0, rfl⟩
  case round =>
    obtain ⟨k, hk, rfl, hn, n, rfl⟩ := hrel
    by_cases hlt : k < xs.length
    · obtain ⟨g, rfl, hg1, hg2, hcell, hfr⟩ := hA k hlt
      clear hA
      obtain ⟨x, hx⟩ : ∃ x, x = xs.getD k 0 := ⟨_, rfl⟩
      rw [← hx] at hcell
      have HX := Lib.hid hx
      clear hx
      cases hin : inB x 0 (m - 1)
      · have HF : Hid (numsB m xs = false) := all_false_of_take (fun a => isNumB a m) xs k hlt (by rw [← HX.out]; exact hin)
        have HI := Lib.hid hin
        clear hin
        go_wp2_with (go_at_call 50; refine (l01In_any _ _ _ _).mono ?_; rintro e w' ⟨rfl, k', rfl⟩; rw [HI.out])
        go_ret
        exact ⟨by rw [HF.out]; rfl, _, rfl⟩
      · have HF : Hid (numsB m (xs.take (k + 1)) = true) := by
          have e := all_take_succ (fun a => isNumB a m) xs k hlt
          rw [← HX.out] at e
          unfold Hid numsB
          rw [e, Bool.and_eq_true]
          exact ⟨hn.out, hin⟩
        have HI := Lib.hid hin
        clear hin
        go_wp2_with (go_at_call 50; refine (l01In_any _ _ _ _).mono ?_; rintro e w' ⟨rfl, k', rfl⟩; rw [HI.out])
        go_roundw
        case rel => exact ⟨k + 1, by omega, by go_num, HF.out, _, rfl⟩
        case measure => simp [intOf]; omega
    · have HF : Hid (numsB m xs = true) := by
        have := hn.out
        rwa [List.take_of_length_le (by omega)] at this
      go_wp2
      go_ret
      exact ⟨by rw [HF.out]; rfl, _, rfl⟩
def codeR (m : Int) (xs : List Int) : Int := if isModB m = false then 1 else if numsB m xs = false then 2 else 0
theorem l01Code_any (m : Int) (w : World) (v : Value) (xs : List Int) (B : Nat) (hv : OwnI w B v xs) :
    Calls Try.prog 58 #[.int .i64 m, v] w fun e w' => e = .returned (.int .i64 (codeR m xs)) ∧ ∃ k, w' = w.drewN k := by
  cases hm : isModB m
  · have HF : Hid (codeR m xs = 1) := by simp [Hid, codeR, hm]
    have HM := Lib.hid hm
    clear hm
    go_enter Try.func58, Try.ntmps58
    go_wp2_with (go_at_call 40; refine (sModulus_any _ _).mono ?_; rintro e w' ⟨rfl, k', rfl⟩; rw [HM.out])
    go_ret
    exact ⟨by rw [HF.out]; rfl, _, rfl⟩
  · have HM := Lib.hid hm
    have HN : Hid (codeR m xs = if numsB m xs = false then 2 else 0) := by simp [Hid, codeR, hm]
    clear hm
    cases hn : numsB m xs
    all_goals
      rw [hn] at HN
      have HX := Lib.hid hn
      clear hn
      go_enter Try.func58, Try.ntmps58
      go_wp2_with (first | (go_at_call 40; refine (sModulus_any _ _).mono ?_; rintro e w' ⟨rfl, k', rfl⟩; rw [HM.out]) | (go_at_call 62; refine (l01Numbers_any m _ v xs B HM.out (OwnI.drewN hv _)).mono ?_; rintro e w' ⟨rfl, k', rfl⟩; rw [HX.out]))
      go_ret
      exact ⟨by rw [HN.out]; rfl, _, rfl⟩

/-! ### slices.ContainsFunc and all, at whatever function value that computes a predicate -/
/-- The function g, with what it has captured, computes p on int64, in every world in which all that lay in w lies unturned. -/
def Pred (w : World) (g : FuncId) (caps : Array Value) (p : Int → Bool) : Prop :=
  (∀ args w, (callFunc g args).run Try.prog w = .ok (.enter g args) w) ∧ ∀ (W : World) (x : Int), Below w.heap.size w W → Calls Try.prog g (#[.int .i64 x] ++ caps) W fun e W' => e = .returned (.bool (p x)) ∧ ∃ n, W' = W.drewN n
theorem Pred.below {w w' : World} {g : FuncId} {caps : Array Value} {p : Int → Bool} (h : Pred w g caps p) (hb : Below w.heap.size w w') : Pred w' g caps p :=
  ⟨h.1, fun W x hW => h.2 W x (hb.trans (hW.mono hb.size))⟩
def firstI (p : Int → Bool) (xs : List Int) : Int := if xs.any p then ((xs.findIdx p : Nat) : Int) else -1
theorem any_take_false (p : Int → Bool) (xs : List Int) (k : Nat) (hk : k < xs.length) (h : (xs.take k).any p = false) (h' : p (xs.getD k 0) = false) : (xs.take (k + 1)).any p = false := by
  rw [List.take_succ_eq_append_getElem hk, List.any_append, h]
  rw [List.getD_eq_getElem?_getD, List.getElem?_eq_getElem hk] at h'
  simpa using h'
theorem firstI_at (p : Int → Bool) (xs : List Int) (k : Nat) (hk : k < xs.length) (h : (xs.take k).any p = false) (h' : p (xs.getD k 0) = true) : firstI p xs = k := by
  rw [List.getD_eq_getElem?_getD, List.getElem?_eq_getElem hk] at h'
  simp at h'
  have e : xs.findIdx p = k := by
    rw [List.findIdx_eq hk]
    refine ⟨h', fun j hj => ?_⟩
    rw [List.any_eq_false] at h
    have := h (xs[j]) (by rw [List.mem_take_iff_getElem]; exact ⟨j, by omega, rfl⟩)
    simpa using this
  unfold firstI
  rw [if_pos (by rw [List.any_eq_true]; exact ⟨_, List.getElem_mem hk, h'⟩), e]
theorem firstI_none (p : Int → Bool) (xs : List Int) (h : xs.any p = false) : firstI p xs = -1 := by unfold firstI; rw [if_neg (by rw [h]; simp)]
theorem firstI_nonneg (p : Int → Bool) (xs : List Int) : decide (0 ≤ firstI p xs) = xs.any p := by
  unfold firstI
  split
  · rename_i h; rw [h]; simp
  · rename_i h; simp only [Bool.not_eq_true] at h; rw [h]; simp
theorem indexFunc_any (w : World) (v : Value) (xs : List Int) (B : Nat) (hv : OwnI w B v xs) (g : FuncId) (caps : Array Value) (p : Int → Bool) (hp : Pred w g caps p) :
    Calls Try.prog 68 #[v, .func (.func g) #[] caps] w fun e w' => e = .returned (.int .i64 (firstI p xs)) ∧ ∃ k, w' = w.drewN k := by
  obtain ⟨A, c, rfl, hc1, hc2, hA⟩ := hv.open_
  clear hv
  unfold maxLen at hc2
  have HP := Lib.hid hp
  clear hp
  have eg := HP.out.1
  go_enter Try.func68, Try.ntmps68
  go_wp2
  go_loopw [5, 8] (fun _ i wr => ∃ k : Nat, k ≤ xs.length ∧ i = .int .i64 k ∧ Hid ((xs.take k).any p = false) ∧ ∃ n, wr = w.drewN n) (fun _ i _ => xs.length - (intOf i).toNat)
  case atStart => exact ⟨0, Nat.zero_le _, rfl, rfl, 0, rfl⟩
  case round =>
    obtain ⟨k, hk, rfl, hn, n, rfl⟩ := hrel
    by_cases hlt : k < xs.length
    · obtain ⟨g', rfl, hg1, hg2, hcell, hfr⟩ := hA k hlt
      clear hA
      obtain ⟨x, hx⟩ : ∃ x, x = xs.getD k 0 := ⟨_, rfl⟩
      rw [← hx] at hcell
      have HX := Lib.hid hx
      clear hx
      cases hin : p x
      · have HF : Hid ((xs.take (k + 1)).any p = false) := any_take_false p xs k hlt hn.out (by rw [← HX.out]; exact hin)
        have HI := Lib.hid hin
        clear hin
        go_wp2_with fail
        refine (HP.out.2 _ x (below_drewN (Below.refl _ _) _)).mono ?_
        rintro e w' ⟨rfl, k', rfl⟩
        rw [HI.out]
        go_wp2
        go_roundw
        case rel => exact ⟨k + 1, by omega, by go_num, HF.out, _, rfl⟩
        case measure => simp [intOf]; omega
      · have HF : Hid (firstI p xs = k) := firstI_at p xs k hlt hn.out (by rw [← HX.out]; exact hin)
        have HI := Lib.hid hin
        clear hin
        go_wp2_with fail
        refine (HP.out.2 _ x (below_drewN (Below.refl _ _) _)).mono ?_
        rintro e w' ⟨rfl, k', rfl⟩
        rw [HI.out]
        go_wp2
        go_ret
        exact ⟨by rw [HF.out]; rfl, _, rfl⟩
    · have HF : Hid (firstI p xs = -1) := firstI_none p xs (by have := hn.out; rwa [List.take_of_length_le (by omega)] at this)
      go_wp2
      go_ret
      exact ⟨by rw [HF.out]; rfl, _, rfl⟩
theorem containsFunc_any (w : World) (v : Value) (xs : List Int) (B : Nat) (hv : OwnI w B v xs) (g : FuncId) (caps : Array Value) (p : Int → Bool) (hp : Pred w g caps p) :
    Calls Try.prog 66 #[v, .func (.func g) #[] caps] w fun e w' => e = .returned (.bool (xs.any p)) ∧ ∃ k, w' = w.drewN k := by
  have HP := Lib.hid hp
  clear hp
  have HF := Lib.hid (firstI_nonneg p xs)
  go_enter Try.func66, Try.ntmps66
  go_wp2_with (go_at_call 68; refine (indexFunc_any _ v xs B hv g caps p HP.out).mono ?_; rintro e w' ⟨rfl, k', rfl⟩)
  go_ret
  exact ⟨by rw [← HF.out]; rfl, _, rfl⟩
theorem all_eq_not_any (p : Int → Bool) (xs : List Int) : xs.all p = !(xs.any fun x => !p x) := by
  induction xs with
  | nil => rfl
  | cons x xs ih => simp only [List.all_cons, List.any_cons, ih, Bool.not_or, Bool.not_not]
theorem allNot_pred (w w0 : World) (b : Nat) (g : FuncId) (caps : Array Value) (p : Int → Bool) (hp : Pred w0 g caps p) (hw : Below w0.heap.size w0 w) (hb : w.cell? ⟨b, 0, none⟩ = some (.func (.func g) #[] caps)) (hb' : b < w.heap.size) :
    Pred w 67 #[.pointer (some ⟨b, 0, none⟩)] (fun x => !p x) := by
  refine ⟨Try.call67, fun W x hW => ?_⟩
  have eg := hp.1
  have hc : W.cell? ⟨b, 0, none⟩ = some (.func (.func g) #[] caps) := (hW.cell (p := ⟨b, 0, none⟩) hb').trans hb
  have HP : Hid (Below w0.heap.size w0 W) := hw.trans (hW.mono hw.size)
  clear hW hb hw
  go_enter Try.func67, Try.ntmps67
  go_wp2_with fail
  refine (hp.2 _ x HP.out).mono ?_
  rintro e w' ⟨rfl, k', rfl⟩
  go_wp2
  go_ret
  exact ⟨rfl, _, rfl⟩
theorem all_any (w : World) (v : Value) (xs : List Int) (B : Nat) (hv : OwnI w B v xs) (g : FuncId) (caps : Array Value) (p : Int → Bool) (hp : Pred w g caps p) :
    Calls Try.prog 63 #[v, .func (.func g) #[] caps] w fun e w' => e = .returned (.bool (xs.all p)) ∧ Below w.heap.size w w' := by
  have HP := Lib.hid hp
  clear hp
  have HF := Lib.hid (all_eq_not_any p xs)
  go_enter Try.func63, Try.ntmps63
  go_wp2_with fail
  refine (containsFunc_any _ v xs B (hv.alloc _) _ _ _ (allNot_pred _ w w.heap.size g caps p HP.out ((Below.refl _ _).alloc (Nat.le_refl _) _) (by simp) (by simp))).mono ?_
  rintro e w' ⟨rfl, k', rfl⟩
  go_wp2
  go_ret
  exact ⟨by rw [HF.out]; rfl, below_drewN ((Below.refl _ _).alloc (Nat.le_refl _) _) _⟩

/-! ### The code for a modulus and numbers -/
theorem modular1_pred (w : World) (b : Nat) (m : Int) (hm : isModB m = true) (hb : w.cell? ⟨b, 0, none⟩ = some (.int .i64 m)) (hb' : b < w.heap.size) : Pred w 64 #[.pointer (some ⟨b, 0, none⟩)] (fun a => isNumB a m) := by
  refine ⟨Try.call64, fun W x hW => ?_⟩
  have hc := (hW.cell (p := ⟨b, 0, none⟩) hb').trans hb
  have HM := Lib.hid hm
  clear hW hb hm
  go_enter Try.func64, Try.ntmps64
  go_wp2_with (go_at_call 65; refine (isNumber_any _ _ _ HM.out).mono ?_; rintro e w' ⟨rfl, k', rfl⟩)
  go_ret
  exact ⟨rfl, _, rfl⟩
theorem modular_any (m : Int) (w : World) (v : Value) (xs : List Int) (B : Nat) (hv : OwnI w B v xs) :
    Calls Try.prog 59 #[.int .i64 m, v] w fun e w' => e = .returned (.int .i64 (codeR m xs)) ∧ Below w.heap.size w w' := by
  cases hm : isModB m
  · have HF : Hid (codeR m xs = 1) := by simp [Hid, codeR, hm]
    have HM := Lib.hid hm
    clear hm
    go_enter Try.func59, Try.ntmps59
    go_wp2_with (go_at_call 17; refine (iIsModulus_any _ _).mono ?_; rintro e w' ⟨rfl, k', rfl⟩; rw [HM.out])
    go_ret
    exact ⟨by rw [HF.out]; rfl, below_drewN ((Below.refl _ _).alloc (Nat.le_refl _) _) _⟩
  · have HM := Lib.hid hm
    have HN : Hid (codeR m xs = if numsB m xs = false then 2 else 0) := by simp [Hid, codeR, hm]
    clear hm
    have HA : Hid (numsB m xs = xs.all fun a => isNumB a m) := rfl
    cases hn : numsB m xs
    all_goals
      rw [hn] at HN HA
      have HX := Lib.hid hn
      clear hn
      go_enter Try.func59, Try.ntmps59
      go_wp2_with (first | (go_at_call 17; refine (iIsModulus_any _ _).mono ?_; rintro e w' ⟨rfl, k', rfl⟩; rw [HM.out]) | fail)
      refine (all_any _ v xs B (OwnI.drewN (hv.alloc _) _) _ _ _ (modular1_pred _ w.heap.size m HM.out (by simp) (by simp))).mono ?_
      rintro e w' ⟨rfl, hb⟩
      rw [← HA.out]
      go_wp2
      go_ret
      exact ⟨by rw [HN.out]; rfl, ((Below.refl _ _).alloc (Nat.le_refl _) _).trans ((below_drewN (Below.refl _ _) _).trans (hb.mono (by simp)))⟩

/-! ### Exponents of prime numbers -/
def ValIs (p n : Int) (k : Nat) : Prop := ∃ y : Int, n = y * p ^ k ∧ y.tmod p ≠ 0
noncomputable def valOf (p n : Int) : Int := ((Classical.epsilon fun k : Nat => ValIs p n k : Nat) : Int)
theorem tmod_zero_iff (a p : Int) : a.tmod p = 0 ↔ p ∣ a := ⟨Int.dvd_of_tmod_eq_zero, Int.tmod_eq_zero_of_dvd⟩
theorem valIs_le {p n : Int} {j k : Nat} (hp : p ≠ 0) (hj : ValIs p n j) (hk : ValIs p n k) : k ≤ j := by
  rcases Nat.lt_or_ge j k with h | h
  · obtain ⟨y, h1, h2⟩ := hj
    obtain ⟨z, h3, h4⟩ := hk
    exfalso
    apply h2
    rw [tmod_zero_iff]
    have h5 : y * p ^ j = (z * p ^ (k - j - 1) * p) * p ^ j := by
      rw [← h1, h3, Int.mul_assoc, Int.mul_assoc, ← Int.pow_succ', ← Int.pow_add]
      congr 2
      omega
    have h6 : y = z * p ^ (k - j - 1) * p := Int.eq_of_mul_eq_mul_right (Int.pow_ne_zero hp) h5
    exact ⟨_, h6.trans (Int.mul_comm _ _)⟩
  · exact h
theorem valOf_eq {p n : Int} {k : Nat} (hp : p ≠ 0) (h : ValIs p n k) : valOf p n = k := by
  have h1 : ValIs p n (Classical.epsilon fun k : Nat => ValIs p n k) := Classical.epsilon_spec (p := fun k : Nat => ValIs p n k) ⟨k, h⟩
  unfold valOf
  have := valIs_le hp h1 h
  have := valIs_le hp h h1
  omega
theorem val_step {p n x : Int} {k : Nat} (h : n = x * p ^ k) (h0 : x.tmod p = 0) : n = x.tdiv p * p ^ (k + 1) := by
  rw [Int.pow_succ', ← Int.mul_assoc, Int.tdiv_mul_cancel ((tmod_zero_iff _ _).1 h0)]
  exact h
theorem tdiv_small {p x : Int} (hp : 2 ≤ p) (hx : x ≠ 0) (h0 : x.tmod p = 0) : x.tdiv p ≠ 0 ∧ (x.tdiv p).natAbs < x.natAbs := by
  have h1 := Int.tdiv_mul_cancel ((tmod_zero_iff _ _).1 h0)
  have h2 : x.tdiv p ≠ 0 := by
    intro h
    rw [h] at h1
    omega
  refine ⟨h2, ?_⟩
  have h3 : x.natAbs = (x.tdiv p).natAbs * p.natAbs := by rw [← Int.natAbs_mul, h1]
  have h4 : (x.tdiv p).natAbs * 2 ≤ (x.tdiv p).natAbs * p.natAbs := Nat.mul_le_mul_left _ (by omega)
  omega
theorem valuation_any (p n : Int) (w : World) (h1 : 2 ≤ p) (h2 : p ≤ 1000) (hn : n ≠ 0) (h3 : -1000000000000 ≤ n) (h4 : n ≤ 1000000000000) :
    Calls Try.prog 57 #[.int .i64 p, .int .i64 n] w fun e w' => e = .returned (.int .i64 (valOf p n)) ∧ ∃ k, w' = w.drewN k := by
  go_enter Try.func57, Try.ntmps57
  go_wp2
  go_loop [1, 5] (fun s t => ∃ (x : Int) (k : Nat), s = .int .i64 x ∧ t = .int .i64 k ∧ Hid (n = x * p ^ k) ∧ Hid (x ≠ 0) ∧ -1000000000000 ≤ x ∧ x ≤ 1000000000000 ∧ k + x.natAbs ≤ 1000000000000) (fun s _ => (intOf s).natAbs)
  case atStart => exact ⟨n, 0, rfl, rfl, by unfold Hid; simp, hn, h3, h4, by omega⟩
  case round =>
    obtain ⟨x, k, rfl, rfl, hx, hx0, h5, h6, h7⟩ := hrel
    by_cases h0 : x.tmod p = 0
    · obtain ⟨h8, h9⟩ := tdiv_small h1 hx0.out h0
      have HX := Lib.hid (val_step hx.out h0)
      have HY := Lib.hid h8
      have h10 : (x.tmod p == 0) = true := by simpa using h0
      have h11 : -1000000000000 ≤ x.tdiv p ∧ x.tdiv p ≤ 1000000000000 := by omega
      clear h0 h8
      go_wp2
      go_round
      case rel => exact ⟨x.tdiv p, k + 1, rfl, by go_num, HX.out, HY.out, h11.1, h11.2, by omega⟩
      case measure => simpa [intOf] using h9
    · have HF := Lib.hid (valOf_eq (p := p) (n := n) (by omega) ⟨x, hx.out, h0⟩)
      have h10 : (x.tmod p == 0) = false := by simpa using h0
      clear h0
      go_wp2
      go_ret
      exact ⟨by rw [HF.out]; rfl, 0, rfl⟩
theorem l01Valuation_any (p n : Int) (w : World) (h1 : 2 ≤ p) (h2 : p ≤ 1000) (hn : n ≠ 0) (h3 : -1000000000000 ≤ n) (h4 : n ≤ 1000000000000) :
    Calls Try.prog 56 #[.int .i64 p, .int .i64 n] w fun e w' => e = .returned (.int .i64 (valOf p n)) ∧ ∃ k, w' = w.drewN k := by
  go_enter Try.func56, Try.ntmps56
  go_wp2
  go_loop [1, 5] (fun s t => ∃ (x : Int) (k : Nat), s = .int .i64 x ∧ t = .int .i64 k ∧ Hid (n = x * p ^ k) ∧ Hid (x ≠ 0) ∧ -1000000000000 ≤ x ∧ x ≤ 1000000000000 ∧ k + x.natAbs ≤ 1000000000000) (fun s _ => (intOf s).natAbs)
  case atStart => exact ⟨n, 0, rfl, rfl, by unfold Hid; simp, hn, h3, h4, by omega⟩
  case round =>
    obtain ⟨x, k, rfl, rfl, hx, hx0, h5, h6, h7⟩ := hrel
    by_cases h0 : x.tmod p = 0
    · obtain ⟨h8, h9⟩ := tdiv_small h1 hx0.out h0
      have HX := Lib.hid (val_step hx.out h0)
      have HY := Lib.hid h8
      have h10 : (x.tmod p == 0) = true := by simpa using h0
      have h11 : -1000000000000 ≤ x.tdiv p ∧ x.tdiv p ≤ 1000000000000 := by omega
      clear h0 h8
      go_wp2
      go_round
      case rel => exact ⟨x.tdiv p, k + 1, rfl, by go_num, HX.out, HY.out, h11.1, h11.2, by omega⟩
      case measure => simpa [intOf] using h9
    · have HF := Lib.hid (valOf_eq (p := p) (n := n) (by omega) ⟨x, hx.out, h0⟩)
      have h10 : (x.tmod p == 0) = false := by simpa using h0
      clear h0
      go_wp2
      go_ret
      exact ⟨by rw [HF.out]; rfl, 0, rfl⟩

/-! ### The exported functions on numbers: what they return -/
def remR (m n : Int) : Int × Int := if isModB m = false then (0, 1) else if isIntB n = false then (0, 2) else (n % m, 0)
noncomputable def primeR (n : Int) : Bool × Int := if isIntB n = false then (false, 2) else (primeB n, 0)
def gcdR (a b : Int) : Int × Int := if isIntB a = false ∨ isIntB b = false then (0, 2) else ((Int.gcd a b : Int), 0)
noncomputable def valR (p n : Int) : Int × Int :=
  if 1000 < p ∨ primeB p = false ∨ isIntB n = false then (0, 2) else if n = 0 then (0, 5) else (valOf p n, 0)
def codeN (m : Int) (xs : List Int) (r : Int) : Int × Int := if codeR m xs = 0 then (r, 0) else (0, codeR m xs)
def unitsN (m : Int) (k : Nat) : Int := ((List.range k).filter fun a : Nat => unitB m (a : Int)).length
def unitsR (m : Int) : Int × Int := if isModB m = false then (0, 1) else (unitsN m m.toNat, 0)
def solveAt (m a b : Int) (x : Nat) : Bool := a * (x : Int) % m == b
def solveR (m a b : Int) : Int × Int :=
  if codeR m [a, b] = 0 then (match (List.range m.toNat).find? (solveAt m a b) with | some x => ((x : Int), 0) | none => (0, 4)) else (0, codeR m [a, b])
theorem codeR_zero2 {m a b : Int} (h : codeR m [a, b] = 0) : (2 ≤ m ∧ m ≤ 10000) ∧ (0 ≤ a ∧ a < m) ∧ (0 ≤ b ∧ b < m) := by
  unfold codeR at h
  cases h1 : isModB m
  · simp [h1] at h
  · cases h2 : numsB m [a, b]
    · simp [h1, h2] at h
    · simp only [numsB, List.all_cons, List.all_nil, Bool.and_true, Bool.and_eq_true] at h2
      exact ⟨isModB_true h1, isNumB_true h2.1, isNumB_true h2.2⟩
theorem unitsN_succ (m : Int) (k : Nat) : unitsN m (k + 1) = unitsN m k + if unitB m k = true then 1 else 0 := by
  unfold unitsN
  rw [List.range_succ, List.filter_append]
  by_cases h : unitB m k = true <;> simp [h]
theorem unitsN_le (m : Int) (k : Nat) : 0 ≤ unitsN m k ∧ unitsN m k ≤ k := by
  unfold unitsN
  have := List.length_filter_le (fun a : Nat => unitB m (a : Int)) (List.range k)
  rw [List.length_range] at this
  omega
theorem find_none_succ {p : Nat → Bool} {k : Nat} (h : (List.range k).find? p = none) (h' : p k = false) : (List.range (k + 1)).find? p = none := by
  rw [List.range_succ, List.find?_append, h]
  simp [h']
theorem find_some_at {p : Nat → Bool} {k n : Nat} (h : (List.range k).find? p = none) (h' : p k = true) (hk : k < n) : (List.range n).find? p = some k := by
  rw [List.find?_range_eq_some]
  refine ⟨h', by simpa using hk, fun j hj => ?_⟩
  rw [List.find?_range_eq_none] at h
  exact h j hj

theorem iRemainderOf_any (m n : Int) (w : World) : Calls Try.prog 19 #[.int .i64 m, .int .i64 n] w fun e w' => e = .returned (.tuple #[.int .i64 (remR m n).1, .int .i64 (remR m n).2]) ∧ Below w.heap.size w w' := by
  cases hm : isModB m
  · have HF : Hid (remR m n = (0, 1)) := by simp [Hid, remR, hm]
    have HM := Lib.hid hm
    clear hm
    go_enter Try.func19, Try.ntmps19
    go_wp2_with (go_at_call 17; refine (iIsModulus_any _ _).mono ?_; rintro e w' ⟨rfl, k', rfl⟩; rw [HM.out])
    go_ret2
    exact ⟨by rw [HF.out]; rfl, below_drewN (Below.refl _ _) _⟩
  · cases hn : isIntB n
    · have HF : Hid (remR m n = (0, 2)) := by simp [Hid, remR, hm, hn]
      have HM := Lib.hid hm
      have HI := Lib.hid hn
      clear hm hn
      go_enter Try.func19, Try.ntmps19
      go_wp2_with (first | (go_at_call 17; refine (iIsModulus_any _ _).mono ?_; rintro e w' ⟨rfl, k', rfl⟩; rw [HM.out]) | (go_at_call 44; refine (isInteger_any _ _).mono ?_; rintro e w' ⟨rfl, k'', rfl⟩; rw [HI.out]))
      go_ret2
      exact ⟨by rw [HF.out]; rfl, below_drewN (Below.refl _ _) _⟩
    · have HF : Hid (remR m n = (n % m, 0)) := by simp [Hid, remR, hm, hn]
      have hb := isModB_true hm
      have HM := Lib.hid hm
      have HI := Lib.hid hn
      clear hm hn
      go_enter Try.func19, Try.ntmps19
      go_wp2_with (first | (go_at_call 17; refine (iIsModulus_any _ _).mono ?_; rintro e w' ⟨rfl, k', rfl⟩; rw [HM.out]) | (go_at_call 44; refine (isInteger_any _ _).mono ?_; rintro e w' ⟨rfl, k'', rfl⟩; rw [HI.out]) | (go_at_call 45; refine (mod_any _ _ _ (by omega) (by omega)).mono ?_; rintro e w' ⟨rfl, k3, rfl⟩))
      go_ret2
      exact ⟨by rw [HF.out]; rfl, below_drewN (Below.refl _ _) _⟩
theorem iIsPrimeNumber_any (n : Int) (w : World) : Calls Try.prog 21 #[.int .i64 n] w fun e w' => e = .returned (.tuple #[.bool (primeR n).1, .int .i64 (primeR n).2]) ∧ Below w.heap.size w w' := by
  cases hn : isIntB n
  · have HF : Hid (primeR n = (false, 2)) := by simp [Hid, primeR, hn]
    have HI := Lib.hid hn
    clear hn
    go_enter Try.func21, Try.ntmps21
    go_wp2_with (go_at_call 44; refine (isInteger_any _ _).mono ?_; rintro e w' ⟨rfl, k'', rfl⟩; rw [HI.out])
    go_ret2
    exact ⟨by rw [HF.out]; rfl, below_drewN (Below.refl _ _) _⟩
  · have HF : Hid (primeR n = (primeB n, 0)) := by simp [Hid, primeR, hn]
    have hb := isIntB_true hn
    have HI := Lib.hid hn
    clear hn
    go_enter Try.func21, Try.ntmps21
    go_wp2_with (first | (go_at_call 44; refine (isInteger_any _ _).mono ?_; rintro e w' ⟨rfl, k'', rfl⟩; rw [HI.out]) | (go_at_call 47; refine (isPrime_any _ _ (by omega)).mono ?_; rintro e w' ⟨rfl, k3, rfl⟩))
    go_ret2
    exact ⟨by rw [HF.out]; rfl, below_drewN (Below.refl _ _) _⟩
theorem iCommonDivisor_any (a b : Int) (w : World) : Calls Try.prog 23 #[.int .i64 a, .int .i64 b] w fun e w' => e = .returned (.tuple #[.int .i64 (gcdR a b).1, .int .i64 (gcdR a b).2]) ∧ Below w.heap.size w w' := by
  cases ha : isIntB a
  · have HF : Hid (gcdR a b = (0, 2)) := by simp [Hid, gcdR, ha]
    have HA := Lib.hid ha
    clear ha
    go_enter Try.func23, Try.ntmps23
    go_wp2_with (go_at_call 44; refine (isInteger_any a _).mono ?_; rintro e w' ⟨rfl, k'', rfl⟩; rw [HA.out])
    go_ret2
    exact ⟨by rw [HF.out]; rfl, below_drewN (Below.refl _ _) _⟩
  · cases hb : isIntB b
    · have HF : Hid (gcdR a b = (0, 2)) := by simp [Hid, gcdR, ha, hb]
      have HA := Lib.hid ha
      have HB := Lib.hid hb
      clear ha hb
      go_enter Try.func23, Try.ntmps23
      go_wp2_with fail
      refine (isInteger_any a _).mono ?_
      rintro e w' ⟨rfl, k'', rfl⟩
      rw [HA.out]
      go_wp2_with fail
      refine (isInteger_any b _).mono ?_
      rintro e w' ⟨rfl, k3, rfl⟩
      rw [HB.out]
      go_wp2
      go_ret2
      exact ⟨by rw [HF.out]; rfl, below_drewN (Below.refl _ _) _⟩
    · have HF : Hid (gcdR a b = ((Int.gcd a b : Int), 0)) := by simp [Hid, gcdR, ha, hb]
      have h1 := isIntB_true ha
      have h2 := isIntB_true hb
      have HA := Lib.hid ha
      have HB := Lib.hid hb
      clear ha hb
      go_enter Try.func23, Try.ntmps23
      go_wp2_with fail
      refine (isInteger_any a _).mono ?_
      rintro e w' ⟨rfl, k'', rfl⟩
      rw [HA.out]
      go_wp2_with fail
      refine (isInteger_any b _).mono ?_
      rintro e w' ⟨rfl, k3, rfl⟩
      rw [HB.out]
      go_wp2_with (go_at_call 49; refine (gcd_any _ _ _ (by omega) (by omega) (by omega) (by omega)).mono ?_; rintro e w' ⟨rfl, k4, rfl⟩)
      go_ret2
      exact ⟨by rw [HF.out]; rfl, below_drewN (Below.refl _ _) _⟩
theorem iAddModulo_any (m a b : Int) (w : World) : Calls Try.prog 33 #[.int .i64 m, .int .i64 a, .int .i64 b] w fun e w' => e = .returned (.tuple #[.int .i64 (codeN m [a, b] ((a + b) % m)).1, .int .i64 (codeN m [a, b] ((a + b) % m)).2]) ∧ Below w.heap.size w w' := by
  by_cases hc : codeR m [a, b] = 0
  · have HF : Hid ((codeN m [a, b] ((a + b) % m)) = ((a + b) % m, 0)) := by simp [Hid, codeN, hc]
    obtain ⟨⟨h1, h2⟩, ⟨h3, h4⟩, h5, h6⟩ := codeR_zero2 hc
    have h7 : 0 ≤ a * b := Int.mul_nonneg h3 h5
    have h8 : a * b ≤ 10000 * 10000 := Int.mul_le_mul (by omega) (by omega) h5 (by omega)
    have HC := Lib.hid hc
    clear hc
    go_enter Try.func33, Try.ntmps33
    go_wp2_with (go_at_call 59; refine (modular_any m _ _ [a, b] 0 (OwnI.lit2 _ a b (Nat.zero_le _))).mono ?_; rintro e w' ⟨rfl, hb⟩; rw [HC.out])
    go_ret2
    exact ⟨by rw [HF.out]; rfl, ((Below.refl _ _).alloc (Nat.le_refl _) _).trans (hb.mono (by simp))⟩
  · have HF : Hid ((codeN m [a, b] ((a + b) % m)) = (0, codeR m [a, b])) := by simp [Hid, codeN, hc]
    have h1 : (codeR m [a, b] != 0) = true := by simpa using hc
    clear hc
    go_enter Try.func33, Try.ntmps33
    go_wp2_with (go_at_call 59; refine (modular_any m _ _ [a, b] 0 (OwnI.lit2 _ a b (Nat.zero_le _))).mono ?_; rintro e w' ⟨rfl, hb⟩)
    go_ret2
    exact ⟨by rw [HF.out]; rfl, ((Below.refl _ _).alloc (Nat.le_refl _) _).trans (hb.mono (by simp))⟩
theorem iMultiplyModulo_any (m a b : Int) (w : World) : Calls Try.prog 35 #[.int .i64 m, .int .i64 a, .int .i64 b] w fun e w' => e = .returned (.tuple #[.int .i64 (codeN m [a, b] (a * b % m)).1, .int .i64 (codeN m [a, b] (a * b % m)).2]) ∧ Below w.heap.size w w' := by
  by_cases hc : codeR m [a, b] = 0
  · have HF : Hid ((codeN m [a, b] (a * b % m)) = (a * b % m, 0)) := by simp [Hid, codeN, hc]
    obtain ⟨⟨h1, h2⟩, ⟨h3, h4⟩, h5, h6⟩ := codeR_zero2 hc
    have h7 : 0 ≤ a * b := Int.mul_nonneg h3 h5
    have h8 : a * b ≤ 10000 * 10000 := Int.mul_le_mul (by omega) (by omega) h5 (by omega)
    have HC := Lib.hid hc
    clear hc
    go_enter Try.func35, Try.ntmps35
    go_wp2_with (go_at_call 59; refine (modular_any m _ _ [a, b] 0 (OwnI.lit2 _ a b (Nat.zero_le _))).mono ?_; rintro e w' ⟨rfl, hb⟩; rw [HC.out])
    go_ret2
    exact ⟨by rw [HF.out]; rfl, ((Below.refl _ _).alloc (Nat.le_refl _) _).trans (hb.mono (by simp))⟩
  · have HF : Hid ((codeN m [a, b] (a * b % m)) = (0, codeR m [a, b])) := by simp [Hid, codeN, hc]
    have h1 : (codeR m [a, b] != 0) = true := by simpa using hc
    clear hc
    go_enter Try.func35, Try.ntmps35
    go_wp2_with (go_at_call 59; refine (modular_any m _ _ [a, b] 0 (OwnI.lit2 _ a b (Nat.zero_le _))).mono ?_; rintro e w' ⟨rfl, hb⟩)
    go_ret2
    exact ⟨by rw [HF.out]; rfl, ((Below.refl _ _).alloc (Nat.le_refl _) _).trans (hb.mono (by simp))⟩
theorem iSolveModulo_any (m a b : Int) (w : World) : Calls Try.prog 37 #[.int .i64 m, .int .i64 a, .int .i64 b] w fun e w' => e = .returned (.tuple #[.int .i64 (solveR m a b).1, .int .i64 (solveR m a b).2]) ∧ Below w.heap.size w w' := by
  by_cases hc : codeR m [a, b] = 0
  · have HR : Hid (solveR m a b = match (List.range m.toNat).find? (solveAt m a b) with | some x => ((x : Int), 0) | none => (0, 4)) := by simp [Hid, solveR, hc]
    obtain ⟨⟨h1, h2⟩, ⟨h3, h4⟩, h5, h6⟩ := codeR_zero2 hc
    have HC := Lib.hid hc
    clear hc
    go_enter Try.func37, Try.ntmps37
    go_wp2_with (go_at_call 59; refine (modular_any m _ _ [a, b] 0 (OwnI.lit2 _ a b (Nat.zero_le _))).mono ?_; rintro e w' ⟨rfl, hb⟩; rw [HC.out])
    go_loop [9, 19] (fun _ i => ∃ k : Nat, (k : Int) ≤ m ∧ i = .int .i64 k ∧ Hid ((List.range k).find? (solveAt m a b) = none)) (fun _ i => (m - intOf i).toNat)
    case atStart => exact ⟨0, by omega, rfl, rfl⟩
    case round =>
      obtain ⟨k, hk, rfl, hn⟩ := hrel
      by_cases hlt : (k : Int) < m
      · have h7 : 0 ≤ a * (k : Int) := Int.mul_nonneg h3 (by omega)
        have h8 : a * (k : Int) ≤ 10000 * 10000 := Int.mul_le_mul (by omega) (by omega) (by omega) (by omega)
        cases hs : solveAt m a b k
        · have h9 : (a * (k : Int) % m == b) = false := hs
          have HN := Lib.hid (find_none_succ hn.out hs)
          clear hs
          go_wp2
          go_round
          case rel => exact ⟨k + 1, by omega, by go_num, HN.out⟩
          case measure => simp [intOf]; omega
        · have h9 : (a * (k : Int) % m == b) = true := hs
          have HN := Lib.hid (find_some_at (n := m.toNat) hn.out hs (by omega))
          have HF : Hid (solveR m a b = ((k : Int), 0)) := by unfold Hid; rw [HR.out, HN.out]
          clear hs
          go_wp2
          go_ret2
          exact ⟨by rw [HF.out]; rfl, ((Below.refl _ _).alloc (Nat.le_refl _) _).trans (hb.mono (by simp))⟩
      · have hkm : k = m.toNat := by omega
        have HF : Hid (solveR m a b = (0, 4)) := by unfold Hid; rw [HR.out, ← hkm, hn.out]
        clear hkm
        go_wp2
        go_ret2
        exact ⟨by rw [HF.out]; rfl, ((Below.refl _ _).alloc (Nat.le_refl _) _).trans (hb.mono (by simp))⟩
  · have HF : Hid (solveR m a b = (0, codeR m [a, b])) := by simp [Hid, solveR, hc]
    have h1 : (codeR m [a, b] != 0) = true := by simpa using hc
    clear hc
    go_enter Try.func37, Try.ntmps37
    go_wp2_with (go_at_call 59; refine (modular_any m _ _ [a, b] 0 (OwnI.lit2 _ a b (Nat.zero_le _))).mono ?_; rintro e w' ⟨rfl, hb⟩)
    go_ret2
    exact ⟨by rw [HF.out]; rfl, ((Below.refl _ _).alloc (Nat.le_refl _) _).trans (hb.mono (by simp))⟩
theorem iCountUnits_any (m : Int) (w : World) : Calls Try.prog 29 #[.int .i64 m] w fun e w' => e = .returned (.tuple #[.int .i64 (unitsR m).1, .int .i64 (unitsR m).2]) ∧ Below w.heap.size w w' := by
  cases hm : isModB m
  · have HF : Hid (unitsR m = (0, 1)) := by simp [Hid, unitsR, hm]
    have HM := Lib.hid hm
    clear hm
    go_enter Try.func29, Try.ntmps29
    go_wp2_with (go_at_call 17; refine (iIsModulus_any _ _).mono ?_; rintro e w' ⟨rfl, k', rfl⟩; rw [HM.out])
    go_ret2
    exact ⟨by rw [HF.out]; rfl, below_drewN (Below.refl _ _) _⟩
  · have HF : Hid (unitsR m = (unitsN m m.toNat, 0)) := by simp [Hid, unitsR, hm]
    obtain ⟨h1, h2⟩ := isModB_true hm
    have HM := Lib.hid hm
    clear hm
    go_enter Try.func29, Try.ntmps29
    go_wp2_with (go_at_call 17; refine (iIsModulus_any _ _).mono ?_; rintro e w' ⟨rfl, k', rfl⟩; rw [HM.out])
    go_loopw [4, 5, 10] (fun c _ i wr => ∃ k : Nat, (k : Int) ≤ m ∧ i = .int .i64 k ∧ c = .int .i64 (unitsN m k) ∧ ∃ n, wr = w.drewN n) (fun _ _ i _ => (m - intOf i).toNat)
    case atStart => exact ⟨0, by omega, rfl, rfl, _, rfl⟩
    case round =>
      obtain ⟨k, hk, rfl, rfl, n, rfl⟩ := hrel
      have hu := unitsN_le m k
      by_cases hlt : (k : Int) < m
      · have HS := Lib.hid (unitsN_succ m k)
        cases hs : unitB m k
        all_goals
          rw [hs] at HS
          have HU := Lib.hid hs
          clear hs
          go_wp2_with (go_at_call 55; refine (isUnit_any _ _ _ (by omega) (by omega) (by omega) (by omega)).mono ?_; rintro e w' ⟨rfl, k'', rfl⟩; rw [HU.out])
          go_roundw
          case rel => exact ⟨k + 1, by omega, by go_num, by rw [HS.out]; first | rfl | simp, _, rfl⟩
          case measure => simp [intOf]; omega
      · have hkm : Hid (m.toNat = k) := by unfold Hid; omega
        go_wp2
        go_ret2
        exact ⟨by rw [HF.out, hkm.out]; rfl, below_drewN (Below.refl _ _) _⟩
theorem sRemainderOf_any (m n : Int) (w : World) : Calls Try.prog 18 #[.int .i64 m, .int .i64 n] w fun e w' => e = .returned (.tuple #[.int .i64 (remR m n).1, .int .i64 (remR m n).2]) ∧ Below w.heap.size w w' := by
  cases hm : isModB m
  · have HF : Hid (remR m n = (0, 1)) := by simp [Hid, remR, hm]
    have HM := Lib.hid hm
    clear hm
    go_enter Try.func18, Try.ntmps18
    go_wp2_with (go_at_call 40; refine (sModulus_any _ _).mono ?_; rintro e w' ⟨rfl, k', rfl⟩; rw [HM.out])
    go_ret2
    exact ⟨by rw [HF.out]; rfl, below_drewN (Below.refl _ _) _⟩
  · cases hn : isIntB n
    · have HF : Hid (remR m n = (0, 2)) := by simp [Hid, remR, hm, hn]
      have HM := Lib.hid hm
      have HI := Lib.hid hn
      clear hm hn
      go_enter Try.func18, Try.ntmps18
      go_wp2_with (first | (go_at_call 40; refine (sModulus_any _ _).mono ?_; rintro e w' ⟨rfl, k', rfl⟩; rw [HM.out]) | (go_at_call 42; refine (l01Integer_any _ _).mono ?_; rintro e w' ⟨rfl, k'', rfl⟩; rw [HI.out]))
      go_ret2
      exact ⟨by rw [HF.out]; rfl, below_drewN (Below.refl _ _) _⟩
    · have HF : Hid (remR m n = (n % m, 0)) := by simp [Hid, remR, hm, hn]
      have hb := isModB_true hm
      have HM := Lib.hid hm
      have HI := Lib.hid hn
      clear hm hn
      go_enter Try.func18, Try.ntmps18
      go_wp2_with (first | (go_at_call 40; refine (sModulus_any _ _).mono ?_; rintro e w' ⟨rfl, k', rfl⟩; rw [HM.out]) | (go_at_call 42; refine (l01Integer_any _ _).mono ?_; rintro e w' ⟨rfl, k'', rfl⟩; rw [HI.out]) | (go_at_call 43; refine (l01Mod_any _ _ _ (by omega) (by omega)).mono ?_; rintro e w' ⟨rfl, k3, rfl⟩))
      go_ret2
      exact ⟨by rw [HF.out]; rfl, below_drewN (Below.refl _ _) _⟩
theorem sIsPrimeNumber_any (n : Int) (w : World) : Calls Try.prog 20 #[.int .i64 n] w fun e w' => e = .returned (.tuple #[.bool (primeR n).1, .int .i64 (primeR n).2]) ∧ Below w.heap.size w w' := by
  cases hn : isIntB n
  · have HF : Hid (primeR n = (false, 2)) := by simp [Hid, primeR, hn]
    have HI := Lib.hid hn
    clear hn
    go_enter Try.func20, Try.ntmps20
    go_wp2_with (go_at_call 42; refine (l01Integer_any _ _).mono ?_; rintro e w' ⟨rfl, k'', rfl⟩; rw [HI.out])
    go_ret2
    exact ⟨by rw [HF.out]; rfl, below_drewN (Below.refl _ _) _⟩
  · have HF : Hid (primeR n = (primeB n, 0)) := by simp [Hid, primeR, hn]
    have hb := isIntB_true hn
    have HI := Lib.hid hn
    clear hn
    go_enter Try.func20, Try.ntmps20
    go_wp2_with (first | (go_at_call 42; refine (l01Integer_any _ _).mono ?_; rintro e w' ⟨rfl, k'', rfl⟩; rw [HI.out]) | (go_at_call 46; refine (l01Prime_any _ _ (by omega)).mono ?_; rintro e w' ⟨rfl, k3, rfl⟩))
    go_ret2
    exact ⟨by rw [HF.out]; rfl, below_drewN (Below.refl _ _) _⟩
theorem sCommonDivisor_any (a b : Int) (w : World) : Calls Try.prog 22 #[.int .i64 a, .int .i64 b] w fun e w' => e = .returned (.tuple #[.int .i64 (gcdR a b).1, .int .i64 (gcdR a b).2]) ∧ Below w.heap.size w w' := by
  cases ha : isIntB a
  · have HF : Hid (gcdR a b = (0, 2)) := by simp [Hid, gcdR, ha]
    have HA := Lib.hid ha
    clear ha
    go_enter Try.func22, Try.ntmps22
    go_wp2_with (go_at_call 42; refine (l01Integer_any a _).mono ?_; rintro e w' ⟨rfl, k'', rfl⟩; rw [HA.out])
    go_ret2
    exact ⟨by rw [HF.out]; rfl, below_drewN (Below.refl _ _) _⟩
  · cases hb : isIntB b
    · have HF : Hid (gcdR a b = (0, 2)) := by simp [Hid, gcdR, ha, hb]
      have HA := Lib.hid ha
      have HB := Lib.hid hb
      clear ha hb
      go_enter Try.func22, Try.ntmps22
      go_wp2_with fail
      refine (l01Integer_any a _).mono ?_
      rintro e w' ⟨rfl, k'', rfl⟩
      rw [HA.out]
      go_wp2_with fail
      refine (l01Integer_any b _).mono ?_
      rintro e w' ⟨rfl, k3, rfl⟩
      rw [HB.out]
      go_wp2
      go_ret2
      exact ⟨by rw [HF.out]; rfl, below_drewN (Below.refl _ _) _⟩
    · have HF : Hid (gcdR a b = ((Int.gcd a b : Int), 0)) := by simp [Hid, gcdR, ha, hb]
      have h1 := isIntB_true ha
      have h2 := isIntB_true hb
      have HA := Lib.hid ha
      have HB := Lib.hid hb
      clear ha hb
      go_enter Try.func22, Try.ntmps22
      go_wp2_with fail
      refine (l01Integer_any a _).mono ?_
      rintro e w' ⟨rfl, k'', rfl⟩
      rw [HA.out]
      go_wp2_with fail
      refine (l01Integer_any b _).mono ?_
      rintro e w' ⟨rfl, k3, rfl⟩
      rw [HB.out]
      go_wp2_with (go_at_call 48; refine (l01Gcd_any _ _ _ (by omega) (by omega) (by omega) (by omega)).mono ?_; rintro e w' ⟨rfl, k4, rfl⟩)
      go_ret2
      exact ⟨by rw [HF.out]; rfl, below_drewN (Below.refl _ _) _⟩
theorem sAddModulo_any (m a b : Int) (w : World) : Calls Try.prog 32 #[.int .i64 m, .int .i64 a, .int .i64 b] w fun e w' => e = .returned (.tuple #[.int .i64 (codeN m [a, b] ((a + b) % m)).1, .int .i64 (codeN m [a, b] ((a + b) % m)).2]) ∧ Below w.heap.size w w' := by
  by_cases hc : codeR m [a, b] = 0
  · have HF : Hid ((codeN m [a, b] ((a + b) % m)) = ((a + b) % m, 0)) := by simp [Hid, codeN, hc]
    obtain ⟨⟨h1, h2⟩, ⟨h3, h4⟩, h5, h6⟩ := codeR_zero2 hc
    have h7 : 0 ≤ a * b := Int.mul_nonneg h3 h5
    have h8 : a * b ≤ 10000 * 10000 := Int.mul_le_mul (by omega) (by omega) h5 (by omega)
    have HC := Lib.hid hc
    clear hc
    go_enter Try.func32, Try.ntmps32
    go_wp2_with (go_at_call 58; refine (l01Code_any m _ _ [a, b] 0 (OwnI.lit2 _ a b (Nat.zero_le _))).mono ?_; rintro e w' ⟨rfl, k', rfl⟩; rw [HC.out])
    go_ret2
    exact ⟨by rw [HF.out]; rfl, below_drewN ((Below.refl _ _).alloc (Nat.le_refl _) _) _⟩
  · have HF : Hid ((codeN m [a, b] ((a + b) % m)) = (0, codeR m [a, b])) := by simp [Hid, codeN, hc]
    have h1 : (codeR m [a, b] != 0) = true := by simpa using hc
    clear hc
    go_enter Try.func32, Try.ntmps32
    go_wp2_with (go_at_call 58; refine (l01Code_any m _ _ [a, b] 0 (OwnI.lit2 _ a b (Nat.zero_le _))).mono ?_; rintro e w' ⟨rfl, k', rfl⟩)
    go_ret2
    exact ⟨by rw [HF.out]; rfl, below_drewN ((Below.refl _ _).alloc (Nat.le_refl _) _) _⟩
theorem sMultiplyModulo_any (m a b : Int) (w : World) : Calls Try.prog 34 #[.int .i64 m, .int .i64 a, .int .i64 b] w fun e w' => e = .returned (.tuple #[.int .i64 (codeN m [a, b] (a * b % m)).1, .int .i64 (codeN m [a, b] (a * b % m)).2]) ∧ Below w.heap.size w w' := by
  by_cases hc : codeR m [a, b] = 0
  · have HF : Hid ((codeN m [a, b] (a * b % m)) = (a * b % m, 0)) := by simp [Hid, codeN, hc]
    obtain ⟨⟨h1, h2⟩, ⟨h3, h4⟩, h5, h6⟩ := codeR_zero2 hc
    have h7 : 0 ≤ a * b := Int.mul_nonneg h3 h5
    have h8 : a * b ≤ 10000 * 10000 := Int.mul_le_mul (by omega) (by omega) h5 (by omega)
    have HC := Lib.hid hc
    clear hc
    go_enter Try.func34, Try.ntmps34
    go_wp2_with (go_at_call 58; refine (l01Code_any m _ _ [a, b] 0 (OwnI.lit2 _ a b (Nat.zero_le _))).mono ?_; rintro e w' ⟨rfl, k', rfl⟩; rw [HC.out])
    go_ret2
    exact ⟨by rw [HF.out]; rfl, below_drewN ((Below.refl _ _).alloc (Nat.le_refl _) _) _⟩
  · have HF : Hid ((codeN m [a, b] (a * b % m)) = (0, codeR m [a, b])) := by simp [Hid, codeN, hc]
    have h1 : (codeR m [a, b] != 0) = true := by simpa using hc
    clear hc
    go_enter Try.func34, Try.ntmps34
    go_wp2_with (go_at_call 58; refine (l01Code_any m _ _ [a, b] 0 (OwnI.lit2 _ a b (Nat.zero_le _))).mono ?_; rintro e w' ⟨rfl, k', rfl⟩)
    go_ret2
    exact ⟨by rw [HF.out]; rfl, below_drewN ((Below.refl _ _).alloc (Nat.le_refl _) _) _⟩
theorem sSolveModulo_any (m a b : Int) (w : World) : Calls Try.prog 36 #[.int .i64 m, .int .i64 a, .int .i64 b] w fun e w' => e = .returned (.tuple #[.int .i64 (solveR m a b).1, .int .i64 (solveR m a b).2]) ∧ Below w.heap.size w w' := by
  by_cases hc : codeR m [a, b] = 0
  · have HR : Hid (solveR m a b = match (List.range m.toNat).find? (solveAt m a b) with | some x => ((x : Int), 0) | none => (0, 4)) := by simp [Hid, solveR, hc]
    obtain ⟨⟨h1, h2⟩, ⟨h3, h4⟩, h5, h6⟩ := codeR_zero2 hc
    have HC := Lib.hid hc
    clear hc
    go_enter Try.func36, Try.ntmps36
    go_wp2_with (go_at_call 58; refine (l01Code_any m _ _ [a, b] 0 (OwnI.lit2 _ a b (Nat.zero_le _))).mono ?_; rintro e w' ⟨rfl, k', rfl⟩; rw [HC.out])
    go_loop [9] (fun i => ∃ k : Nat, (k : Int) ≤ m ∧ i = .int .i64 k ∧ Hid ((List.range k).find? (solveAt m a b) = none)) (fun i => (m - intOf i).toNat)
    case atStart => exact ⟨0, by omega, rfl, rfl⟩
    case round =>
      obtain ⟨k, hk, rfl, hn⟩ := hrel
      by_cases hlt : (k : Int) < m
      · have h7 : 0 ≤ a * (k : Int) := Int.mul_nonneg h3 (by omega)
        have h8 : a * (k : Int) ≤ 10000 * 10000 := Int.mul_le_mul (by omega) (by omega) (by omega) (by omega)
        cases hs : solveAt m a b k
        · have h9 : (a * (k : Int) % m == b) = false := hs
          have HN := Lib.hid (find_none_succ hn.out hs)
          clear hs
          go_wp2
          go_round
          case rel => exact ⟨k + 1, by omega, by go_num, HN.out⟩
          case measure => simp [intOf]; omega
        · have h9 : (a * (k : Int) % m == b) = true := hs
          have HN := Lib.hid (find_some_at (n := m.toNat) hn.out hs (by omega))
          have HF : Hid (solveR m a b = ((k : Int), 0)) := by unfold Hid; rw [HR.out, HN.out]
          clear hs
          go_wp2
          go_ret2
          exact ⟨by rw [HF.out]; rfl, below_drewN ((Below.refl _ _).alloc (Nat.le_refl _) _) _⟩
      · have hkm : k = m.toNat := by omega
        have HF : Hid (solveR m a b = (0, 4)) := by unfold Hid; rw [HR.out, ← hkm, hn.out]
        clear hkm
        go_wp2
        go_ret2
        exact ⟨by rw [HF.out]; rfl, below_drewN ((Below.refl _ _).alloc (Nat.le_refl _) _) _⟩
  · have HF : Hid (solveR m a b = (0, codeR m [a, b])) := by simp [Hid, solveR, hc]
    have h1 : (codeR m [a, b] != 0) = true := by simpa using hc
    clear hc
    go_enter Try.func36, Try.ntmps36
    go_wp2_with (go_at_call 58; refine (l01Code_any m _ _ [a, b] 0 (OwnI.lit2 _ a b (Nat.zero_le _))).mono ?_; rintro e w' ⟨rfl, k', rfl⟩)
    go_ret2
    exact ⟨by rw [HF.out]; rfl, below_drewN ((Below.refl _ _).alloc (Nat.le_refl _) _) _⟩
theorem sCountUnits_any (m : Int) (w : World) : Calls Try.prog 28 #[.int .i64 m] w fun e w' => e = .returned (.tuple #[.int .i64 (unitsR m).1, .int .i64 (unitsR m).2]) ∧ Below w.heap.size w w' := by
  cases hm : isModB m
  · have HF : Hid (unitsR m = (0, 1)) := by simp [Hid, unitsR, hm]
    have HM := Lib.hid hm
    clear hm
    go_enter Try.func28, Try.ntmps28
    go_wp2_with (go_at_call 40; refine (sModulus_any _ _).mono ?_; rintro e w' ⟨rfl, k', rfl⟩; rw [HM.out])
    go_ret2
    exact ⟨by rw [HF.out]; rfl, below_drewN (Below.refl _ _) _⟩
  · have HF : Hid (unitsR m = (unitsN m m.toNat, 0)) := by simp [Hid, unitsR, hm]
    obtain ⟨h1, h2⟩ := isModB_true hm
    have HM := Lib.hid hm
    clear hm
    go_enter Try.func28, Try.ntmps28
    go_wp2_with (go_at_call 40; refine (sModulus_any _ _).mono ?_; rintro e w' ⟨rfl, k', rfl⟩; rw [HM.out])
    go_loopw [4, 5] (fun c i wr => ∃ k : Nat, (k : Int) ≤ m ∧ i = .int .i64 k ∧ c = .int .i64 (unitsN m k) ∧ ∃ n, wr = w.drewN n) (fun _ i _ => (m - intOf i).toNat)
    case atStart => exact ⟨0, by omega, rfl, rfl, _, rfl⟩
    case round =>
      obtain ⟨k, hk, rfl, rfl, n, rfl⟩ := hrel
      have hu := unitsN_le m k
      by_cases hlt : (k : Int) < m
      · have HS := Lib.hid (unitsN_succ m k)
        cases hs : unitB m k
        all_goals
          rw [hs] at HS
          have HU := Lib.hid hs
          clear hs
          go_wp2_with (go_at_call 54; refine (l01Unit_any _ _ _ (by omega) (by omega) (by omega) (by omega)).mono ?_; rintro e w' ⟨rfl, k'', rfl⟩; rw [HU.out])
          go_roundw
          case rel => exact ⟨k + 1, by omega, by go_num, by rw [HS.out]; first | rfl | simp, _, rfl⟩
          case measure => simp [intOf]; omega
      · have hkm : Hid (m.toNat = k) := by unfold Hid; omega
        go_wp2
        go_ret2
        exact ⟨by rw [HF.out, hkm.out]; rfl, below_drewN (Below.refl _ _) _⟩

/-! ### Exponents, and the number of laws -/
theorem iValuationOf_any (p n : Int) (w : World) : Calls Try.prog 31 #[.int .i64 p, .int .i64 n] w fun e w' => e = .returned (.tuple #[.int .i64 (valR p n).1, .int .i64 (valR p n).2]) ∧ Below w.heap.size w w' := by
  by_cases h1 : 1000 < p
  · have HF : Hid (valR p n = (0, 2)) := by simp [Hid, valR, h1]
    go_enter Try.func31, Try.ntmps31
    go_wp2
    go_ret2
    exact ⟨by rw [HF.out]; rfl, below_drewN (Below.refl _ _) 0⟩
  · have h2 : p ≤ 1000 := by omega
    cases hp : primeB p
    · have HF : Hid (valR p n = (0, 2)) := by simp [Hid, valR, hp]
      have HP := Lib.hid hp
      clear hp h1
      go_enter Try.func31, Try.ntmps31
      go_wp2_with (go_at_call 47; refine (isPrime_any p _ (by omega)).mono ?_; rintro e w' ⟨rfl, k', rfl⟩; rw [HP.out])
      go_ret2
      exact ⟨by rw [HF.out]; rfl, below_drewN (Below.refl _ _) _⟩
    · have h3 : 2 ≤ p := (primeB_true.1 hp).1
      cases hn : isIntB n
      · have HF : Hid (valR p n = (0, 2)) := by simp [Hid, valR, hn]
        have HP := Lib.hid hp
        have HN := Lib.hid hn
        clear hp h1 hn
        go_enter Try.func31, Try.ntmps31
        go_wp2_with (first | (go_at_call 47; refine (isPrime_any p _ (by omega)).mono ?_; rintro e w' ⟨rfl, k', rfl⟩; rw [HP.out]) | (go_at_call 44; refine (isInteger_any n _).mono ?_; rintro e w' ⟨rfl, k'', rfl⟩; rw [HN.out]))
        go_ret2
        exact ⟨by rw [HF.out]; rfl, below_drewN (Below.refl _ _) _⟩
      · obtain ⟨h4, h5⟩ := isIntB_true hn
        by_cases h0 : n = 0
        · have HF : Hid (valR p n = (0, 5)) := by simp [Hid, valR, h1, hp, h0, isIntB, inB]
          have HP := Lib.hid hp
          have HN := Lib.hid hn
          have h6 : (n == 0) = true := by simpa using h0
          clear hp h1 hn h0
          go_enter Try.func31, Try.ntmps31
          go_wp2_with (first | (go_at_call 47; refine (isPrime_any p _ (by omega)).mono ?_; rintro e w' ⟨rfl, k', rfl⟩; rw [HP.out]) | (go_at_call 44; refine (isInteger_any n _).mono ?_; rintro e w' ⟨rfl, k'', rfl⟩; rw [HN.out]))
          go_ret2
          exact ⟨by rw [HF.out]; rfl, below_drewN (Below.refl _ _) _⟩
        · have HF : Hid (valR p n = (valOf p n, 0)) := by simp [Hid, valR, hn, h1, hp, h0]
          have HP := Lib.hid hp
          have HN := Lib.hid hn
          have H0 : Hid (n ≠ 0) := h0
          have h6 : (n == 0) = false := by simpa using h0
          clear hp h1 hn h0
          go_enter Try.func31, Try.ntmps31
          go_wp2_with (first | (go_at_call 47; refine (isPrime_any p _ (by omega)).mono ?_; rintro e w' ⟨rfl, k', rfl⟩; rw [HP.out]) | (go_at_call 44; refine (isInteger_any n _).mono ?_; rintro e w' ⟨rfl, k'', rfl⟩; rw [HN.out]) | (go_at_call 57; refine (valuation_any p n _ h3 h2 H0.out h4 h5).mono ?_; rintro e w' ⟨rfl, k3, rfl⟩))
          go_ret2
          exact ⟨by rw [HF.out]; rfl, below_drewN (Below.refl _ _) _⟩
theorem sValuationOf_any (p n : Int) (w : World) : Calls Try.prog 30 #[.int .i64 p, .int .i64 n] w fun e w' => e = .returned (.tuple #[.int .i64 (valR p n).1, .int .i64 (valR p n).2]) ∧ Below w.heap.size w w' := by
  cases h1 : inB p 2 1000
  · have HF : Hid (valR p n = (0, 2)) := by
      unfold Hid valR
      rw [if_pos]
      by_cases h2 : 1000 < p
      · exact .inl h2
      · refine .inr (.inl (primeB_false fun h => ?_))
        rw [inB_false] at h1
        exact h1 ⟨h.1, by omega⟩
    have HI := Lib.hid h1
    clear h1
    go_enter Try.func30, Try.ntmps30
    go_wp2_with (go_at_call 50; refine (l01In_any _ _ _ _).mono ?_; rintro e w' ⟨rfl, k1, rfl⟩; rw [HI.out])
    go_ret2
    exact ⟨by rw [HF.out]; rfl, below_drewN (Below.refl _ _) _⟩
  · obtain ⟨h3, h2⟩ := inB_true.1 h1
    have h1' : ¬ 1000 < p := by omega
    have HI := Lib.hid h1
    clear h1
    cases hp : primeB p
    · have HF : Hid (valR p n = (0, 2)) := by simp [Hid, valR, hp]
      have HP := Lib.hid hp
      clear hp h1'
      go_enter Try.func30, Try.ntmps30
      go_wp2_with (first | (go_at_call 50; refine (l01In_any _ _ _ _).mono ?_; rintro e w' ⟨rfl, k1, rfl⟩; rw [HI.out]) | (go_at_call 46; refine (l01Prime_any p _ (by omega)).mono ?_; rintro e w' ⟨rfl, k', rfl⟩; rw [HP.out]))
      go_ret2
      exact ⟨by rw [HF.out]; rfl, below_drewN (Below.refl _ _) _⟩
    · cases hn : isIntB n
      · have HF : Hid (valR p n = (0, 2)) := by simp [Hid, valR, hn]
        have HP := Lib.hid hp
        have HN := Lib.hid hn
        clear hp h1' hn
        go_enter Try.func30, Try.ntmps30
        go_wp2_with (first | (go_at_call 50; refine (l01In_any _ _ _ _).mono ?_; rintro e w' ⟨rfl, k1, rfl⟩; rw [HI.out]) | (go_at_call 46; refine (l01Prime_any p _ (by omega)).mono ?_; rintro e w' ⟨rfl, k', rfl⟩; rw [HP.out]) | (go_at_call 42; refine (l01Integer_any n _).mono ?_; rintro e w' ⟨rfl, k'', rfl⟩; rw [HN.out]))
        go_ret2
        exact ⟨by rw [HF.out]; rfl, below_drewN (Below.refl _ _) _⟩
      · obtain ⟨h4, h5⟩ := isIntB_true hn
        by_cases h0 : n = 0
        · have HF : Hid (valR p n = (0, 5)) := by simp [Hid, valR, h1', hp, h0, isIntB, inB]
          have HP := Lib.hid hp
          have HN := Lib.hid hn
          have h6 : (n == 0) = true := by simpa using h0
          clear hp h1' hn h0
          go_enter Try.func30, Try.ntmps30
          go_wp2_with (first | (go_at_call 50; refine (l01In_any _ _ _ _).mono ?_; rintro e w' ⟨rfl, k1, rfl⟩; rw [HI.out]) | (go_at_call 46; refine (l01Prime_any p _ (by omega)).mono ?_; rintro e w' ⟨rfl, k', rfl⟩; rw [HP.out]) | (go_at_call 42; refine (l01Integer_any n _).mono ?_; rintro e w' ⟨rfl, k'', rfl⟩; rw [HN.out]))
          go_ret2
          exact ⟨by rw [HF.out]; rfl, below_drewN (Below.refl _ _) _⟩
        · have HF : Hid (valR p n = (valOf p n, 0)) := by simp [Hid, valR, hn, h1', hp, h0]
          have HP := Lib.hid hp
          have HN := Lib.hid hn
          have H0 : Hid (n ≠ 0) := h0
          have h6 : (n == 0) = false := by simpa using h0
          clear hp h1' hn h0
          go_enter Try.func30, Try.ntmps30
          go_wp2_with (first | (go_at_call 50; refine (l01In_any _ _ _ _).mono ?_; rintro e w' ⟨rfl, k1, rfl⟩; rw [HI.out]) | (go_at_call 46; refine (l01Prime_any p _ (by omega)).mono ?_; rintro e w' ⟨rfl, k', rfl⟩; rw [HP.out]) | (go_at_call 42; refine (l01Integer_any n _).mono ?_; rintro e w' ⟨rfl, k'', rfl⟩; rw [HN.out]) | (go_at_call 56; refine (l01Valuation_any p n _ h3 h2 H0.out h4 h5).mono ?_; rintro e w' ⟨rfl, k3, rfl⟩))
          go_ret2
          exact ⟨by rw [HF.out]; rfl, below_drewN (Below.refl _ _) _⟩
def capPow (m : Int) (k : Nat) (most : Int) : Int := if m ^ k ≤ most then m ^ k else most + 1
theorem pow_one_le {m : Int} (hm : 1 ≤ m) (k : Nat) : 1 ≤ m ^ k := Int.pow_pos (by omega)
theorem pow_up {m : Int} (hm : 1 ≤ m) {j k : Nat} (h : j ≤ k) : m ^ j ≤ m ^ k := by
  obtain ⟨d, rfl⟩ := Nat.exists_eq_add_of_le h
  rw [Int.pow_add]
  have h1 := pow_one_le hm j
  have h2 := pow_one_le hm d
  have := Int.mul_le_mul (Int.le_refl (m ^ j)) h2 (by omega) (by omega)
  omega
theorem quo_lt_iff {m x y : Int} (hm : 1 ≤ m) : y / m < x ↔ y < x * m := Int.ediv_lt_iff_lt_mul (by omega)
theorem countAtMost_any (m most : Int) (k : Nat) (w : World) (h1 : 2 ≤ m) (h2 : m ≤ 10000) (h3 : 1 ≤ most) (h4 : most ≤ 4000000000000000000) (hk : k ≤ 1000) :
    Calls Try.prog 53 #[.int .i64 m, .int .i64 k, .int .i64 most] w fun e w' => e = .returned (.int .i64 (capPow m k most)) ∧ ∃ n, w' = w.drewN n := by
  go_enter Try.func53, Try.ntmps53
  go_wp2
  go_loop [7, 9] (fun s t => ∃ (q : Int) (j : Nat), s = .int .i64 q ∧ t = .int .i64 j ∧ j ≤ k ∧ Hid (q = m ^ j) ∧ 1 ≤ q ∧ q ≤ most) (fun _ t => k - (intOf t).toNat)
  case atStart => exact ⟨1, 0, rfl, rfl, Nat.zero_le _, by unfold Hid; simp, by omega, by omega⟩
  case round =>
    obtain ⟨q, j, rfl, rfl, hj, hq, h5, h6⟩ := hrel
    by_cases hlt : j < k
    · have HS : Hid (q * m = m ^ (j + 1)) := by unfold Hid; rw [Int.pow_succ, hq.out]
      by_cases h7 : q * m ≤ most
      · have h8 : ¬ most / m < q := by rw [quo_lt_iff (by omega)]; omega
        have h9 : q ≤ most / m := by omega
        have h10 : 1 ≤ q * m := by rw [HS.out]; exact pow_one_le (by omega) _
        clear h8
        go_wp2
        go_round
        case rel => exact ⟨q * m, j + 1, rfl, by go_num, by omega, HS.out, h10, h7⟩
        case measure => simp [intOf]; omega
      · have h8 : most / m < q := by rw [quo_lt_iff (by omega)]; omega
        have HF : Hid (capPow m k most = most + 1) := by
          unfold Hid capPow
          rw [if_neg]
          have := pow_up (m := m) (by omega) (show j + 1 ≤ k by omega)
          rw [← HS.out] at this
          omega
        clear h7
        go_wp2
        go_ret
        exact ⟨by rw [HF.out]; rfl, 0, rfl⟩
    · obtain rfl : j = k := by omega
      have HF : Hid (capPow m j most = q) := by unfold Hid capPow; rw [← hq.out, if_pos h6]
      go_wp2
      go_ret
      exact ⟨by rw [HF.out]; rfl, 0, rfl⟩
def countR (m d : Int) : Int × Int :=
  if isModB m = false then (0, 1) else if inB d 1 10 = false then (0, 2) else if m ^ (d - 1).toNat ≤ 1000000000000000000 then (m ^ (d - 1).toNat, 0) else (0, 3)
theorem iCountLaws_any (m d : Int) (w : World) : Calls Try.prog 27 #[.int .i64 m, .int .i64 d] w fun e w' => e = .returned (.tuple #[.int .i64 (countR m d).1, .int .i64 (countR m d).2]) ∧ Below w.heap.size w w' := by
  cases hm : isModB m
  · have HF : Hid (countR m d = (0, 1)) := by simp [Hid, countR, hm]
    have HM := Lib.hid hm
    clear hm
    go_enter Try.func27, Try.ntmps27
    go_wp2_with (go_at_call 17; refine (iIsModulus_any _ _).mono ?_; rintro e w' ⟨rfl, k', rfl⟩; rw [HM.out])
    go_ret2
    exact ⟨by rw [HF.out]; rfl, below_drewN (Below.refl _ _) _⟩
  · cases hd : inB d 1 10
    · have HF : Hid (countR m d = (0, 2)) := by simp [Hid, countR, hm, hd]
      have HM := Lib.hid hm
      have HD := Lib.hid hd
      clear hm hd
      go_enter Try.func27, Try.ntmps27
      go_wp2_with (first | (go_at_call 17; refine (iIsModulus_any _ _).mono ?_; rintro e w' ⟨rfl, k', rfl⟩; rw [HM.out]) | (go_at_call 41; refine (in_any _ _ _ _).mono ?_; rintro e w' ⟨rfl, k'', rfl⟩; rw [HD.out]))
      go_ret2
      exact ⟨by rw [HF.out]; rfl, below_drewN (Below.refl _ _) _⟩
    · obtain ⟨h1, h2⟩ := isModB_true hm
      obtain ⟨h3, h4⟩ := inB_true.1 hd
      obtain ⟨k, rfl⟩ : ∃ k : Nat, d = (k : Int) + 1 := ⟨(d - 1).toNat, by omega⟩
      have HR : Hid (countR m (k + 1) = if m ^ k ≤ 1000000000000000000 then (m ^ k, 0) else (0, 3)) := by simp [Hid, countR, hm, hd]
      have HM := Lib.hid hm
      have HD := Lib.hid hd
      clear hm hd
      by_cases hp : m ^ k ≤ 1000000000000000000
      · have HC : Hid (capPow m k 1000000000000000000 = m ^ k) := by simp [Hid, capPow, hp]
        have HF : Hid (countR m (k + 1) = (m ^ k, 0)) := by unfold Hid; rw [HR.out, if_pos hp]
        obtain ⟨q, hq⟩ : ∃ q, q = m ^ k := ⟨_, rfl⟩
        rw [← hq] at hp HC HF
        clear hq HR
        go_enter Try.func27, Try.ntmps27
        go_wp2_with (first | (go_at_call 17; refine (iIsModulus_any _ _).mono ?_; rintro e w' ⟨rfl, k', rfl⟩; rw [HM.out]) | (go_at_call 41; refine (in_any _ _ _ _).mono ?_; rintro e w' ⟨rfl, k'', rfl⟩; rw [HD.out]) | (go_at_call 53; refine (countAtMost_any m _ k _ h1 h2 (by omega) (by omega) (by omega)).mono ?_; rintro e w' ⟨rfl, k3, rfl⟩; rw [HC.out]))
        go_ret2
        exact ⟨by rw [HF.out]; rfl, below_drewN (Below.refl _ _) _⟩
      · have HC : Hid (capPow m k 1000000000000000000 = 1000000000000000001) := by simp [Hid, capPow, hp]
        have HF : Hid (countR m (k + 1) = (0, 3)) := by unfold Hid; rw [HR.out, if_neg hp]
        clear HR hp
        go_enter Try.func27, Try.ntmps27
        go_wp2_with (first | (go_at_call 17; refine (iIsModulus_any _ _).mono ?_; rintro e w' ⟨rfl, k', rfl⟩; rw [HM.out]) | (go_at_call 41; refine (in_any _ _ _ _).mono ?_; rintro e w' ⟨rfl, k'', rfl⟩; rw [HD.out]) | (go_at_call 53; refine (countAtMost_any m _ k _ h1 h2 (by omega) (by omega) (by omega)).mono ?_; rintro e w' ⟨rfl, k3, rfl⟩; rw [HC.out]))
        go_ret2
        exact ⟨by rw [HF.out]; rfl, below_drewN (Below.refl _ _) _⟩
theorem sCountLaws_any (m d : Int) (w : World) : Calls Try.prog 26 #[.int .i64 m, .int .i64 d] w fun e w' => e = .returned (.tuple #[.int .i64 (countR m d).1, .int .i64 (countR m d).2]) ∧ Below w.heap.size w w' := by
  cases hm : isModB m
  · have HF : Hid (countR m d = (0, 1)) := by simp [Hid, countR, hm]
    have HM := Lib.hid hm
    clear hm
    go_enter Try.func26, Try.ntmps26
    go_wp2_with (go_at_call 40; refine (sModulus_any _ _).mono ?_; rintro e w' ⟨rfl, k', rfl⟩; rw [HM.out])
    go_ret2
    exact ⟨by rw [HF.out]; rfl, below_drewN (Below.refl _ _) _⟩
  · cases hd : inB d 1 10
    · have HF : Hid (countR m d = (0, 2)) := by simp [Hid, countR, hm, hd]
      have HM := Lib.hid hm
      have HD := Lib.hid hd
      clear hm hd
      go_enter Try.func26, Try.ntmps26
      go_wp2_with (first | (go_at_call 40; refine (sModulus_any _ _).mono ?_; rintro e w' ⟨rfl, k', rfl⟩; rw [HM.out]) | (go_at_call 50; refine (l01In_any _ _ _ _).mono ?_; rintro e w' ⟨rfl, k'', rfl⟩; rw [HD.out]))
      go_ret2
      exact ⟨by rw [HF.out]; rfl, below_drewN (Below.refl _ _) _⟩
    · obtain ⟨h1, h2⟩ := isModB_true hm
      obtain ⟨h3, h4⟩ := inB_true.1 hd
      obtain ⟨k, rfl⟩ : ∃ k : Nat, d = (k : Int) + 1 := ⟨(d - 1).toNat, by omega⟩
      have HR : Hid (countR m (k + 1) = if m ^ k ≤ 1000000000000000000 then (m ^ k, 0) else (0, 3)) := by simp [Hid, countR, hm, hd]
      have HM := Lib.hid hm
      have HD := Lib.hid hd
      clear hm hd
      go_enter Try.func26, Try.ntmps26
      go_wp2_with (first | (go_at_call 40; refine (sModulus_any _ _).mono ?_; rintro e w' ⟨rfl, k', rfl⟩; rw [HM.out]) | (go_at_call 50; refine (l01In_any _ _ _ _).mono ?_; rintro e w' ⟨rfl, k'', rfl⟩; rw [HD.out]))
      go_loopw [1, 6] (fun t s wr => ∃ (q : Int) (j : Nat), s = .int .i64 q ∧ t = .int .i64 ((k : Int) + 1 - j) ∧ j ≤ k ∧ Hid (q = m ^ j) ∧ 1 ≤ q ∧ q ≤ 1000000000000000000 ∧ ∃ n, wr = w.drewN n) (fun t _ _ => (intOf t).toNat)
      case atStart => exact ⟨1, 0, rfl, by simp, Nat.zero_le _, by unfold Hid; simp, by omega, by omega, _, rfl⟩
      case round =>
        obtain ⟨q, j, rfl, rfl, hj, hq, h5, h6, n, rfl⟩ := hrel
        by_cases hlt : j < k
        · have HS : Hid (q * m = m ^ (j + 1)) := by unfold Hid; rw [Int.pow_succ, hq.out]
          by_cases h7 : q * m ≤ 1000000000000000000
          · have h8 : ¬ 1000000000000000000 / m < q := by rw [quo_lt_iff (by omega)]; omega
            have h9 : q ≤ 1000000000000000000 / m := by omega
            have h10 : 1 ≤ q * m := by rw [HS.out]; exact pow_one_le (by omega) _
            clear h8
            go_wp2
            go_roundw
            case rel => exact ⟨q * m, j + 1, rfl, by congr 1; omega, by omega, HS.out, h10, h7, _, rfl⟩
            case measure => simp [intOf]; omega
          · have h8 : 1000000000000000000 / m < q := by rw [quo_lt_iff (by omega)]; omega
            have HF : Hid (countR m (k + 1) = (0, 3)) := by
              unfold Hid
              rw [HR.out, if_neg]
              have := pow_up (m := m) (by omega) (show j + 1 ≤ k by omega)
              rw [← HS.out] at this
              omega
            clear h7
            go_wp2
            go_ret2
            exact ⟨by rw [HF.out]; rfl, below_drewN (Below.refl _ _) _⟩
        · obtain rfl : j = k := by omega
          have HF : Hid (countR m (j + 1) = (q, 0)) := by unfold Hid; rw [HR.out, ← hq.out, if_pos h6]
          go_wp2
          go_ret2
          exact ⟨by rw [HF.out]; rfl, below_drewN (Below.refl _ _) _⟩

/-! ### A block that holds a list of int64 -/
/-- Block g is a row of c cells of int64, none frozen, whose first cells are xs. -/
def RowI (w : World) (g c : Nat) (xs : List Int) : Prop :=
  xs.length ≤ c ∧ c ≤ maxLen ∧ ∃ cur : Array Value, w.heap[g]? = some (.cells cur 2 (0, 0)) ∧ cur.size = c ∧ cur.toList.take xs.length = xs.map (Value.int .i64)
/-- The slice value of a row. -/
def slI (g n c : Nat) : Value := .slice (some ⟨g, 0, none⟩) n c
section
variable {w w' : World} {B g c : Nat} {v : Value} {xs : List Int}
theorem RowI.own (h : RowI w g c xs) (hB : B ≤ g) : OwnI w B (.slice (some ⟨g, 0, none⟩) xs.length c) xs := by
  obtain ⟨h1, h2, cur, h3, h4, h5⟩ := h
  exact ⟨by simp, .inr ⟨g, c, cur, rfl, hB, h3, h1, h2, by omega, by simpa using h5⟩⟩
theorem OwnI.row (h : OwnI w B v xs) : (v = .slice none 0 0 ∧ xs = []) ∨ ∃ g c, v = .slice (some ⟨g, 0, none⟩) xs.length c ∧ B ≤ g ∧ RowI w g c xs := by
  rcases h.2 with ⟨h1, h2⟩ | ⟨g, cap, cur, h1, h2, h3, h4, h5, h6, h7⟩
  · exact .inl ⟨h1, List.eq_nil_of_length_eq_zero h2⟩
  · exact .inr ⟨g, cap, h1, h2, h4, h5, cur, h3, by omega, by simpa using h7⟩
theorem RowI.lt (h : RowI w g c xs) : g < w.heap.size := by
  obtain ⟨_, _, cur, h3, _⟩ := h
  exact lt_of_block h3
theorem RowI.of_block (h : RowI w g c xs) (e : w'.heap[g]? = w.heap[g]?) : RowI w' g c xs := by
  obtain ⟨h1, h2, cur, h3, h4⟩ := h
  exact ⟨h1, h2, cur, e.trans h3, h4⟩
theorem RowI.drewN (h : RowI w g c xs) (n : Nat) : RowI (w.drewN n) g c xs := h
theorem RowI.drew (h : RowI w g c xs) : RowI w.drew g c xs := h
theorem RowI.alloc (h : RowI w g c xs) (o : Obj) : RowI (w.alloc o) g c xs := h.of_block (Below.heap_alloc w o g h.lt)
theorem RowI.below {C : Nat} (h : RowI w g c xs) (hb : Below C w w') (hg : g < C) : RowI w' g c xs := h.of_block (hb.block g hg)
theorem RowI.grown {row : Option Nat} (h : RowI w g c xs) (hb : w.grownBy w' row) (hg : some g ≠ row) : RowI w' g c xs := h.of_block (hb.block g h.lt hg)
theorem RowI.far (h : RowI w g c xs) {p : Addr} (hp : g ≠ p.block) (u : Value) : RowI (w.setCell p u) g c xs := h.of_block (Below.heap_setCell w p u g hp)
theorem RowI.cell (h : RowI w g c xs) {k : Nat} (hk : k < xs.length) : w.cell? ⟨g, k, none⟩ = some (.int .i64 (xs.getD k 0)) := by
  obtain ⟨h1, h2, cur, h3, h4, h5⟩ := h
  rw [cell_of_row w g k cur _ (0, 0) h3]
  have e : cur.toList[k]? = (xs.map (Value.int .i64))[k]? := by rw [← h5, List.getElem?_take, if_pos hk]
  simp only [Array.getElem?_toList] at e
  rw [e, List.getElem?_map, List.getD_eq_getElem?_getD, List.getElem?_eq_getElem hk]
  rfl
theorem RowI.free (h : RowI w g c xs) (k : Nat) : w.frozen? ⟨g, k, none⟩ = false := by
  obtain ⟨h1, h2, cur, h3, h4⟩ := h
  simp [World.frozen?, h3]
theorem RowI.set_ (h : RowI w g c xs) (k : Nat) (y : Int) : RowI (w.setCell ⟨g, k, none⟩ (.int .i64 y)) g c (xs.set k y) := by
  obtain ⟨h1, h2, cur, h3, h4, h5⟩ := h
  refine ⟨by simpa using h1, h2, cur.setIfInBounds k (.int .i64 y), ?_, by simpa using h4, ?_⟩
  · simp [World.setCell, Array.getElem?_modify, h3]
  · rw [Array.toList_setIfInBounds, List.length_set, List.map_set, ← h5, List.take_set]
theorem RowI.cut (h : RowI w g c xs) {n : Nat} (hn : n ≤ xs.length) : RowI w g c (xs.take n) := by
  obtain ⟨h1, h2, cur, h3, h4, h5⟩ := h
  refine ⟨by simp; omega, h2, cur, h3, h4, ?_⟩
  have hl : (xs.take n).length = n := by simp; omega
  rw [hl, List.map_take, ← h5, List.take_take]
  congr 1
  omega
/-- A literal of n numbers in a new block. -/
theorem RowI.lit (w : World) (xs : List Int) (cs : Array Value) (hc : cs.toList = xs.map (Value.int .i64)) (hl : xs.length ≤ maxLen) : RowI (w.alloc (.cells cs 2)) w.heap.size xs.length xs := by
  refine ⟨Nat.le_refl _, hl, cs, heap_alloc_new w _, ?_, ?_⟩
  · rw [← Array.length_toList, hc, List.length_map]
  · rw [hc, List.take_of_length_le (by simp)]
end
theorem T.info64 : (Try.prog.info? 2).map (fun i => (i.zero, i.size, i.bytes)) = some (some (.int .i64 0), 1, 8) := by kernel_rfl

/-! ### append of one number, make -/
theorem append1 {w : World} {ops : Array Oper} {rest : List Oper} {o : Oper} {a : Act} {Q : Exit → Act → World → Prop} (s x : Operand) (B : Nat) (v : Value) (xs : List Int) (y : Int)
    (hgd : o.guard = none) (ho : o.op = .call { callee := .builtin .append, args := #[s, x], argTypes := #[36, 36] })
    (hs : a.eval s = v) (hx : a.eval x = .slice (some ⟨w.heap.size, 0, none⟩) 1 1) (hv : OwnI w B v xs) (hl : xs.length ≤ 1000000000000) (hB : B ≤ w.heap.size)
    (h : ∀ v' w', OwnI w' B v' (xs ++ [y]) → w.grownBy w' v.ownBlock → wpList Try.prog ops Q rest (a.put o.dst v') w') :
    wpList Try.prog ops Q (o :: rest) a (w.alloc (.cells #[.int .i64 y] 2)) := by
  obtain ⟨i0, hi, hz0, hz1, hz2⟩ := info_parts T.info64
  refine wpList_append_own _ hgd s x 36 ho B 2 i0 (.int .i64 0) 1 8 Try.underlying36 hi hz0 hz1 hz2 rfl (by decide) v xs.length (xs.map (Value.int .i64)) hs (World.ownsRow.alloc hv _) ⟨w.heap.size, 0, none⟩ 1 1 [.int .i64 y] hx rfl (cell_one_new _ _ _) (fun u hu => by simp at hu; subst hu; rfl) (by unfold maxLen; omega) (by omega) (by simp; omega) ?_
  intro v' w' h1 h2 _
  refine h v' w' ?_ ⟨h2.os, h2.tape, h2.output, by have := h2.size; simp at this; omega, fun k hk hne => (h2.block k (by simp; omega) hne).trans (Below.heap_alloc _ _ _ hk)⟩
  unfold OwnI
  simpa using h1
theorem OwnI.ne_ {w : World} {B g : Nat} {v : Value} {xs : List Int} (h : OwnI w B v xs) (hg : g < B) : some g ≠ v.ownBlock := by
  rcases h.row with ⟨rfl, _⟩ | ⟨g', c, rfl, h1, _⟩
  · simp [Value.ownBlock]
  · simp [Value.ownBlock]; omega
theorem OwnI.below {w0 w w' : World} {B C : Nat} {v : Value} {xs : List Int} (h : OwnI w B v xs) (hb : Below C w0 w) (hg : w.grownBy w' v.ownBlock) (hC : C ≤ B) (hC' : C ≤ w.heap.size) : Below C w0 w' := by
  refine hb.grown hg hC' fun k hk => ?_
  rcases h.row with ⟨rfl, _⟩ | ⟨g', c, rfl, h1, _⟩
  · simp [Value.ownBlock] at hk
  · simp [Value.ownBlock] at hk; omega

/-! ### append of one number, where the new row lies -/
theorem stepAppend1 {W : World} {ops : Array Oper} {o : Oper} {a : Act} {K : Act → World → Prop} {Q : Exit → Act → World → Prop} {E : Prop} (s x : Operand) (B : Nat) (v : Value) (xs : List Int) (n : Nat) (y : Int) (b H : Nat)
    (hgd : o.guard = none) (ho : o.op = .call { callee := .builtin .append, args := #[s, x], argTypes := #[36, 36] })
    (hs : a.eval s = v) (hx : a.eval x = .slice (some ⟨b, 0, none⟩) 1 1) (hv : OwnI W B v xs) (hn : xs.length = n) (hb : W.heap[b]? = some (.cells #[.int .i64 y] 2 (0, 0)))
    (hl : n ≤ 1000000000000) (hB : B ≤ W.heap.size) (hH : W.heap.size = H)
    (h : ∀ g c w', RowI w' g c (xs ++ [y]) → B ≤ g → W.grownBy w' v.ownBlock → (v.ownBlock = some g ∨ g = H) → K (a.put o.dst (.slice (some ⟨g, 0, none⟩) (n + 1) c)) w') :
    if Region.wanted o (yielded ops a.tmps) = true then Oper.wp Try.prog o a W K Q else E := by
  subst hn
  obtain ⟨i0, hi, hz0, hz1, hz2⟩ := info_parts T.info64
  refine step_append_lies W hgd s x 36 ho B 2 i0 (.int .i64 0) 1 8 Try.underlying36 hi hz0 hz1 hz2 rfl (by decide) v xs.length (xs.map (Value.int .i64)) hs hv ⟨b, 0, none⟩ 1 1 [.int .i64 y] hx rfl (World.news_of_block (cs := #[.int .i64 y]) hb) (fun u hu => by simp at hu; subst hu; rfl) (by decide) (by unfold maxLen; omega) (by omega) hB H hH ?_
  intro g c w' h1 h2 h3 _
  have h4 : OwnI w' B (.slice (some ⟨g, 0, none⟩) (xs.length + 1) c) (xs ++ [y]) := by unfold OwnI; simpa using h1
  rcases h4.row with ⟨h5, _⟩ | ⟨g', c', h5, h6, h7⟩
  · simp at h5
  · simp only [Value.slice.injEq, Option.some.injEq, Addr.mk.injEq] at h5
    obtain ⟨⟨rfl, _⟩, _, rfl⟩ := h5
    exact h g c w' h7 h6 h2 h3
theorem wpAppend1 {W : World} {ops : Array Oper} {rest : List Oper} {o : Oper} {a : Act} {Q : Exit → Act → World → Prop} (s x : Operand) (B : Nat) (v : Value) (xs : List Int) (n : Nat) (y : Int) (b H : Nat)
    (hgd : o.guard = none) (ho : o.op = .call { callee := .builtin .append, args := #[s, x], argTypes := #[36, 36] })
    (hs : a.eval s = v) (hx : a.eval x = .slice (some ⟨b, 0, none⟩) 1 1) (hv : OwnI W B v xs) (hn : xs.length = n) (hb : W.heap[b]? = some (.cells #[.int .i64 y] 2 (0, 0)))
    (hl : n ≤ 1000000000000) (hB : B ≤ W.heap.size) (hH : W.heap.size = H)
    (h : ∀ g c w', RowI w' g c (xs ++ [y]) → B ≤ g → W.grownBy w' v.ownBlock → (v.ownBlock = some g ∨ g = H) → wpList Try.prog ops Q rest (a.put o.dst (.slice (some ⟨g, 0, none⟩) (n + 1) c)) w') :
    wpList Try.prog ops Q (o :: rest) a W := by
  subst hn
  obtain ⟨i0, hi, hz0, hz1, hz2⟩ := info_parts T.info64
  refine wpList_append_lies W hgd s x 36 ho B 2 i0 (.int .i64 0) 1 8 Try.underlying36 hi hz0 hz1 hz2 rfl (by decide) v xs.length (xs.map (Value.int .i64)) hs hv ⟨b, 0, none⟩ 1 1 [.int .i64 y] hx rfl (World.news_of_block (cs := #[.int .i64 y]) hb) (fun u hu => by simp at hu; subst hu; rfl) (by decide) (by unfold maxLen; omega) (by omega) hB H hH ?_
  intro g c w' h1 h2 h3 _
  have h4 : OwnI w' B (.slice (some ⟨g, 0, none⟩) (xs.length + 1) c) (xs ++ [y]) := by unfold OwnI; simpa using h1
  rcases h4.row with ⟨h5, _⟩ | ⟨g', c', h5, h6, h7⟩
  · simp at h5
  · simp only [Value.slice.injEq, Option.some.injEq, Addr.mk.injEq] at h5
    obtain ⟨⟨rfl, _⟩, _, rfl⟩ := h5
    exact h g c w' h7 h6 h2 h3
theorem RowI.own' {w : World} {B g c n : Nat} {xs : List Int} (h : RowI w g c xs) (hB : B ≤ g) (hn : xs.length = n) : OwnI w B (.slice (some ⟨g, 0, none⟩) n c) xs := by
  subst hn
  exact h.own hB
theorem RowI.block1 {w : World} (y : Int) : (w.alloc (.cells #[.int .i64 y] 2)).heap[w.heap.size]? = some (.cells #[.int .i64 y] 2 (0, 0)) := heap_alloc_new w _

/-! ### Rows of binomial numbers -/
def sums : List Int → List Int
  | x :: y :: r => (x + y) :: sums (y :: r)
  | _ => []
def pasc : Nat → List Int
  | 0 => [1]
  | k + 1 => 1 :: (sums (pasc k) ++ [1])
theorem length_sums (l : List Int) : (sums l).length = l.length - 1 := by
  induction l with
  | nil => rfl
  | cons x r ih =>
    cases r with
    | nil => rfl
    | cons y r => simp only [sums, List.length_cons, ih]; omega
theorem length_pasc (k : Nat) : (pasc k).length = k + 1 := by
  induction k with
  | zero => rfl
  | succ k ih => simp [pasc, length_sums, ih]
theorem getD_sums (l : List Int) (i : Nat) (h : i + 1 < l.length) : (sums l).getD i 0 = l.getD i 0 + l.getD (i + 1) 0 := by
  induction l generalizing i with
  | nil => simp at h
  | cons x r ih =>
    cases r with
    | nil => simp at h
    | cons y r =>
      cases i with
      | zero => rfl
      | succ i =>
        have := ih i (by simpa using h)
        simpa [sums] using this
/-- All numbers of a row lie between 0 and a bound. -/
def Bd (b : Int) (l : List Int) : Prop := ∀ x ∈ l, 0 ≤ x ∧ x ≤ b
theorem bd_getD {b : Int} {l : List Int} (h : Bd b l) (hb : 0 ≤ b) (i : Nat) : 0 ≤ l.getD i 0 ∧ l.getD i 0 ≤ b := by
  rw [List.getD_eq_getElem?_getD]
  rcases Nat.lt_or_ge i l.length with hi | hi
  · rw [List.getElem?_eq_getElem hi]; exact h _ (List.getElem_mem hi)
  · rw [List.getElem?_eq_none hi]; exact ⟨Int.le_refl _, hb⟩
theorem bd_sums {b : Int} {l : List Int} (h : Bd b l) : Bd (2 * b) (sums l) := by
  induction l with
  | nil => intro x hx; simp [sums] at hx
  | cons x r ih =>
    cases r with
    | nil => intro x hx; simp [sums] at hx
    | cons y r =>
      intro z hz
      simp only [sums, List.mem_cons] at hz
      have h1 := h x (by simp)
      have h2 := h y (by simp)
      rcases hz with rfl | hz
      · omega
      · exact ih (fun u hu => h u (List.mem_cons_of_mem _ hu)) z hz
theorem bd_pasc (k : Nat) : Bd (2 ^ k) (pasc k) := by
  induction k with
  | zero => intro x hx; simp [pasc] at hx; subst hx; decide
  | succ k ih =>
    have h2 : (2 : Int) ^ (k + 1) = 2 * 2 ^ k := by rw [Int.pow_succ, Int.mul_comm]
    have h1 : (1 : Int) ≤ 2 ^ k := Int.pow_pos (by decide)
    intro x hx
    rw [h2]
    simp only [pasc, List.mem_cons, List.mem_append, List.not_mem_nil, or_false] at hx
    rcases hx with rfl | hx | rfl
    · omega
    · exact bd_sums ih x hx
    · omega
theorem two_pow_le {k : Nat} (hk : k ≤ 60) : (2 : Int) ^ k ≤ 1152921504606846976 := by
  have h : (2 : Nat) ^ k ≤ 2 ^ 60 := Nat.pow_le_pow_right (by decide) hk
  have h2 : ((2 ^ k : Nat) : Int) ≤ ((2 ^ 60 : Nat) : Int) := by exact_mod_cast h
  simpa using h2
/-- The part of the next row after i steps. -/
def nextTo (l : List Int) (i : Nat) : List Int := 1 :: (sums l).take i
theorem nextTo_succ (l : List Int) (i : Nat) (h : i + 1 < l.length) : nextTo l (i + 1) = nextTo l i ++ [l.getD i 0 + l.getD (i + 1) 0] := by
  unfold nextTo
  have hl : i < (sums l).length := by rw [length_sums]; omega
  rw [List.take_succ_eq_append_getElem hl, ← getD_sums l i h, List.getD_eq_getElem?_getD, List.getElem?_eq_getElem hl]
  rfl
theorem length_nextTo (l : List Int) (i : Nat) (h : i + 1 ≤ l.length) : (nextTo l i).length = i + 1 := by
  unfold nextTo
  have := length_sums l
  simp only [List.length_cons, List.length_take]
  omega
theorem nextTo_all (k : Nat) : nextTo (pasc k) k ++ [1] = pasc (k + 1) := by
  unfold nextTo
  rw [List.take_of_length_le (by rw [length_sums, length_pasc]; omega)]
  rfl

set_option maxHeartbeats 2000000 in
theorem binomial_any (n k : Nat) (w : World) (h1 : n ≤ 60) (h2 : k ≤ n) :
    Calls Try.prog 52 #[.int .i64 n, .int .i64 k] w fun e w' => e = .returned (.int .i64 ((pasc n).getD k 0)) ∧ Below w.heap.size w w' := by
  have hd1 : decide (n < k) = false := by simp; omega
  go_enter Try.func52, Try.ntmps52
  go_wp2
  go_loopw [5, 6, 7, 13] (fun r _ _ t wr => ∃ j g c : Nat, j ≤ n ∧ t = .int .i64 j ∧ r = .slice (some ⟨g, 0, none⟩) (j + 1) c ∧ w.heap.size ≤ g ∧ RowI wr g c (pasc j) ∧ Below w.heap.size w wr) (fun _ _ _ t _ => n - (intOf t).toNat)
  case atStart => exact ⟨0, _, 1, Nat.zero_le _, rfl, rfl, Nat.le_refl _, RowI.lit _ [1] _ rfl (by unfold maxLen; decide), (Below.refl _ _).alloc (Nat.le_refl _) _⟩
  case round =>
    obtain ⟨j, g, c, hj, rfl, rfl, hg, hrow, hb⟩ := hrel
    have hlt0 := hrow.lt
    have hsz := hb.size
    have HL := Lib.hid (length_pasc j)
    by_cases hlt : j < n
    · obtain ⟨wo, rfl⟩ : ∃ wo : World, wo = wr := ⟨_, rfl⟩
      go_wp2
      go_loopw [6, 7] (fun v i w2 => ∃ q gv cv : Nat, q ≤ j ∧ i = .int .i64 ((q : Int) + 1) ∧ v = .slice (some ⟨gv, 0, none⟩) (q + 1) cv ∧ wo.heap.size ≤ gv ∧ RowI w2 gv cv (nextTo (pasc j) q) ∧ RowI w2 g c (pasc j) ∧ Below w.heap.size w w2 ∧ wo.heap.size ≤ w2.heap.size) (fun _ i _ => j + 1 - (intOf i).toNat)
      case atStart => exact ⟨0, _, 1, Nat.zero_le _, rfl, rfl, Nat.le_refl _, RowI.lit _ [1] _ rfl (by unfold maxLen; decide), hrow.alloc _, hb.alloc hsz _, by simp⟩
      case round =>
        obtain ⟨q, gv, cv, hq, rfl, rfl, hgv, hown, hrow2, hb2, hsz2⟩ := hrel
        clear hrow hb
        have hgvlt := hown.lt
        by_cases hlt2 : q < j
        · have hc1 := hrow2.cell (k := q) (by rw [HL.out]; omega)
          have hc2 := hrow2.cell (k := q + 1) (by rw [HL.out]; omega)
          have hb3 := bd_getD (bd_pasc j) (Int.le_of_lt (Int.pow_pos (by decide))) q
          have hb4 := bd_getD (bd_pasc j) (Int.le_of_lt (Int.pow_pos (by decide))) (q + 1)
          have hb5 := two_pow_le (k := j) (by omega)
          have HN := Lib.hid (nextTo_succ (pasc j) q (by rw [HL.out]; omega))
          have HL2 := Lib.hid (length_nextTo (pasc j) q (by rw [HL.out]; omega))
          generalize (pasc j).getD q 0 = x at *
          generalize (pasc j).getD (q + 1) 0 = y at *
          generalize (2 : Int) ^ j = z at *
          have hq0 : (0 : Int) ≤ (q : Int) := Int.natCast_nonneg _
          have hq3 : (0 : Int) ≤ (q : Int) + 1 := by omega
          have hq1 : (q : Int) + 1 < (j : Int) + 1 := by omega
          have hq2 : (q : Int) < (j : Int) + 1 := by omega
          have hne : some g ≠ (Value.slice (some ⟨gv, 0, none⟩) (q + 1) cv).ownBlock := by simp [Value.ownBlock]; omega
          have hwA : IntKind.i64.wrap (q : Int) = (q : Int) := IntWalk.i64_in _ (by omega)
          have hwB : IntKind.i64.wrap (x + y) = x + y := IntWalk.i64_in _ (by omega)
          have hwC : IntKind.i64.wrap ((q : Int) + 1 - 1) = (q : Int) := by rw [Int.add_sub_cancel]; exact hwA
          go_wp2
          go_region_held3 (fun w' => w'.cell? ⟨g, q, none⟩ = some (.int .i64 x) ∧ w'.cell? ⟨g, q + 1, none⟩ = some (.int .i64 y))
            (first
              | go_keep
              | (go_split_ands
                 refine ⟨?_, ?_⟩
                 · (rw [hgrow.cell_far _ (by simp; omega) hne]; assumption)
                 · (rw [hgrow.cell_far _ (by simp; omega) hne]; assumption)))
            ((refine stepAppend1 _ _ wo.heap.size (.slice (some ⟨gv, 0, none⟩) (q + 1) cv) (nextTo (pasc j) q) (q + 1) (x + y) wr.heap.size (wr.heap.size + 1) (by rfl) (by rfl) (by rfl) (by rfl) (((hown.alloc _).drew).own' hgv HL2.out) HL2.out (RowI.block1 _) (by omega) (by simp; omega) (by simp) ?_; intro gg cap w1 hown1 hge hgrow hat))
          clear hwA hwB hwC
          go_wp2
          go_roundw
          case rel =>
            have hb6 : Below w.heap.size w w1 := by
              refine ((hb2.alloc (by omega) _).drew).grown hgrow (by simp; omega) fun b hb => ?_
              simp [Value.ownBlock] at hb
              omega
            have hrow3 : RowI w1 g c (pasc j) := ((hrow2.alloc _).drew).grown hgrow hne
            exact ⟨q + 1, gg, cap, by omega, by go_num, rfl, hge, by rw [HN.out]; exact hown1, hrow3, hb6, by have := hgrow.size; simp at this; omega⟩
          case measure => simp [intOf]; omega
        · obtain rfl : q = j := by omega
          have HL2 := Lib.hid (length_nextTo (pasc q) q (by rw [HL.out]; omega))
          have HN := Lib.hid (nextTo_all q)
          go_wp2_with (at_builtin; refine wpAppend1 _ _ wo.heap.size (.slice (some ⟨gv, 0, none⟩) (q + 1) cv) (nextTo (pasc q) q) (q + 1) 1 wr.heap.size (wr.heap.size + 1) (by rfl) (by rfl) (by rfl) (by rfl) ((hown.alloc _).own' hgv HL2.out) HL2.out (RowI.block1 _) (by omega) (by simp; omega) (by simp) ?_; intro gg cap w1 hown1 hge hgrow hat)
          go_roundw
          case rel =>
            have hb6 : Below w.heap.size w w1 := by
              refine (hb2.alloc (by omega) _).grown hgrow (by simp; omega) fun b hb => ?_
              simp [Value.ownBlock] at hb
              omega
            exact ⟨q + 1, gg, cap, by omega, by go_num, rfl, by omega, by rw [← HN.out]; exact hown1, hb6⟩
          case measure => simp [intOf]; omega
    · obtain rfl : j = n := by omega
      have hc := hrow.cell (k := k) (by rw [HL.out]; omega)
      obtain ⟨x, hx⟩ : ∃ x, x = (pasc j).getD k 0 := ⟨_, rfl⟩
      rw [← hx] at hc
      have HX := Lib.hid hx
      clear hx
      go_wp2
      go_ret
      exact ⟨by rw [← HX.out]; rfl, hb⟩
set_option maxHeartbeats 2000000 in
theorem l01Binomial_any (n k : Nat) (w : World) (h1 : n ≤ 60) (h2 : k ≤ n) :
    Calls Try.prog 51 #[.int .i64 n, .int .i64 k] w fun e w' => e = .returned (.int .i64 ((pasc n).getD k 0)) ∧ Below w.heap.size w w' := by
  have hd1 : decide (n < k) = false := by simp; omega
  have hd2 : decide ((k : Int) < 0) = false := by simp
  go_enter Try.func51, Try.ntmps51
  go_wp2
  go_loopw [5, 6, 7, 8] (fun r t _ _ wr => ∃ j g c : Nat, j ≤ n ∧ t = .int .i64 j ∧ r = .slice (some ⟨g, 0, none⟩) (j + 1) c ∧ w.heap.size ≤ g ∧ RowI wr g c (pasc j) ∧ Below w.heap.size w wr) (fun _ t _ _ _ => n - (intOf t).toNat)
  case atStart => exact ⟨0, _, 1, Nat.zero_le _, rfl, rfl, Nat.le_refl _, RowI.lit _ [1] _ rfl (by unfold maxLen; decide), (Below.refl _ _).alloc (Nat.le_refl _) _⟩
  case round =>
    obtain ⟨j, g, c, hj, rfl, rfl, hg, hrow, hb⟩ := hrel
    have hlt0 := hrow.lt
    have hsz := hb.size
    have HL := Lib.hid (length_pasc j)
    by_cases hlt : j < n
    · obtain ⟨wo, rfl⟩ : ∃ wo : World, wo = wr := ⟨_, rfl⟩
      go_wp2
      go_loopw [7, 8] (fun v i w2 => ∃ q gv cv : Nat, q ≤ j ∧ i = .int .i64 ((q : Int) + 1) ∧ v = .slice (some ⟨gv, 0, none⟩) (q + 1) cv ∧ wo.heap.size ≤ gv ∧ RowI w2 gv cv (nextTo (pasc j) q) ∧ RowI w2 g c (pasc j) ∧ Below w.heap.size w w2 ∧ wo.heap.size ≤ w2.heap.size) (fun _ i _ => j + 1 - (intOf i).toNat)
      case atStart => exact ⟨0, _, 1, Nat.zero_le _, rfl, rfl, Nat.le_refl _, RowI.lit _ [1] _ rfl (by unfold maxLen; decide), hrow.alloc _, hb.alloc hsz _, by simp⟩
      case round =>
        obtain ⟨q, gv, cv, hq, rfl, rfl, hgv, hown, hrow2, hb2, hsz2⟩ := hrel
        clear hrow hb
        have hgvlt := hown.lt
        by_cases hlt2 : q < j
        · have hc1 := hrow2.cell (k := q) (by rw [HL.out]; omega)
          have hc2 := hrow2.cell (k := q + 1) (by rw [HL.out]; omega)
          have hb3 := bd_getD (bd_pasc j) (Int.le_of_lt (Int.pow_pos (by decide))) q
          have hb4 := bd_getD (bd_pasc j) (Int.le_of_lt (Int.pow_pos (by decide))) (q + 1)
          have hb5 := two_pow_le (k := j) (by omega)
          have HN := Lib.hid (nextTo_succ (pasc j) q (by rw [HL.out]; omega))
          have HL2 := Lib.hid (length_nextTo (pasc j) q (by rw [HL.out]; omega))
          generalize (pasc j).getD q 0 = x at *
          generalize (pasc j).getD (q + 1) 0 = y at *
          generalize (2 : Int) ^ j = z at *
          have hq0 : (0 : Int) ≤ (q : Int) := Int.natCast_nonneg _
          have hq3 : (0 : Int) ≤ (q : Int) + 1 := by omega
          have hq1 : (q : Int) + 1 < (j : Int) + 1 := by omega
          have hq2 : (q : Int) < (j : Int) + 1 := by omega
          have hne : some g ≠ (Value.slice (some ⟨gv, 0, none⟩) (q + 1) cv).ownBlock := by simp [Value.ownBlock]; omega
          have hwA : IntKind.i64.wrap (q : Int) = (q : Int) := IntWalk.i64_in _ (by omega)
          have hwB : IntKind.i64.wrap (x + y) = x + y := IntWalk.i64_in _ (by omega)
          have hwC : IntKind.i64.wrap ((q : Int) + 1 - 1) = (q : Int) := by rw [Int.add_sub_cancel]; exact hwA
          go_wp2
          go_region_held3 (fun w' => w'.cell? ⟨g, q, none⟩ = some (.int .i64 x) ∧ w'.cell? ⟨g, q + 1, none⟩ = some (.int .i64 y))
            (first
              | go_keep
              | (go_split_ands
                 refine ⟨?_, ?_⟩
                 · (rw [hgrow.cell_far _ (by simp; omega) hne]; assumption)
                 · (rw [hgrow.cell_far _ (by simp; omega) hne]; assumption)))
            ((refine stepAppend1 _ _ wo.heap.size (.slice (some ⟨gv, 0, none⟩) (q + 1) cv) (nextTo (pasc j) q) (q + 1) (x + y) wr.heap.size (wr.heap.size + 1) (by rfl) (by rfl) (by rfl) (by rfl) (((hown.alloc _).drew).own' hgv HL2.out) HL2.out (RowI.block1 _) (by omega) (by simp; omega) (by simp) ?_; intro gg cap w1 hown1 hge hgrow hat))
          clear hwA hwB hwC
          go_wp2
          go_roundw
          case rel =>
            have hb6 : Below w.heap.size w w1 := by
              refine ((hb2.alloc (by omega) _).drew).grown hgrow (by simp; omega) fun b hb => ?_
              simp [Value.ownBlock] at hb
              omega
            have hrow3 : RowI w1 g c (pasc j) := ((hrow2.alloc _).drew).grown hgrow hne
            exact ⟨q + 1, gg, cap, by omega, by go_num, rfl, hge, by rw [HN.out]; exact hown1, hrow3, hb6, by have := hgrow.size; simp at this; omega⟩
          case measure => simp [intOf]; omega
        · obtain rfl : q = j := by omega
          have HL2 := Lib.hid (length_nextTo (pasc q) q (by rw [HL.out]; omega))
          have HN := Lib.hid (nextTo_all q)
          go_wp2_with (at_builtin; refine wpAppend1 _ _ wo.heap.size (.slice (some ⟨gv, 0, none⟩) (q + 1) cv) (nextTo (pasc q) q) (q + 1) 1 wr.heap.size (wr.heap.size + 1) (by rfl) (by rfl) (by rfl) (by rfl) ((hown.alloc _).own' hgv HL2.out) HL2.out (RowI.block1 _) (by omega) (by simp; omega) (by simp) ?_; intro gg cap w1 hown1 hge hgrow hat)
          go_roundw
          case rel =>
            have hb6 : Below w.heap.size w w1 := by
              refine (hb2.alloc (by omega) _).grown hgrow (by simp; omega) fun b hb => ?_
              simp [Value.ownBlock] at hb
              omega
            exact ⟨q + 1, gg, cap, by omega, by go_num, rfl, by omega, by rw [← HN.out]; exact hown1, hb6⟩
          case measure => simp [intOf]; omega
    · obtain rfl : j = n := by omega
      have hc := hrow.cell (k := k) (by rw [HL.out]; omega)
      obtain ⟨x, hx⟩ : ∃ x, x = (pasc j).getD k 0 := ⟨_, rfl⟩
      rw [← hx] at hc
      have HX := Lib.hid hx
      clear hx
      go_wp2
      go_ret
      exact ⟨by rw [← HX.out]; rfl, hb⟩

/-! ### Binomial numbers and their common divisors -/
def binN (n k : Int) : Int := if n < k then 0 else (pasc n.toNat).getD k.toNat 0
theorem binN_lt {n k : Int} (h : n < k) : binN n k = 0 := by simp [binN, h]
theorem binN_ge {n k : Int} (h : ¬ n < k) : binN n k = (pasc n.toNat).getD k.toNat 0 := by simp [binN, h]
theorem binN_bd {n k : Int} (h1 : n ≤ 60) : 0 ≤ binN n k ∧ binN n k ≤ 1152921504606846976 := by
  by_cases h : n < k
  · rw [binN_lt h]; omega
  · rw [binN_ge h]
    have h2 := bd_getD (bd_pasc n.toNat) (Int.le_of_lt (Int.pow_pos (by decide))) k.toNat
    have h3 := two_pow_le (k := n.toNat) (by omega)
    omega
theorem binomial_int (n k : Int) (w : World) (h0 : 0 ≤ n) (h1 : n ≤ 60) (h2 : 0 ≤ k) (h3 : k ≤ 60) :
    Calls Try.prog 52 #[.int .i64 n, .int .i64 k] w fun e w' => e = .returned (.int .i64 (binN n k)) ∧ Below w.heap.size w w' := by
  by_cases h : n < k
  · have HF := Lib.hid (binN_lt h)
    go_enter Try.func52, Try.ntmps52
    go_wp2
    go_ret
    exact ⟨by rw [HF.out]; rfl, Below.refl _ _⟩
  · obtain ⟨a, rfl⟩ := Int.eq_ofNat_of_zero_le h0
    obtain ⟨b, rfl⟩ := Int.eq_ofNat_of_zero_le h2
    rw [binN_ge h]
    exact binomial_any a b w (by omega) (by omega)
theorem l01Binomial_int (n k : Int) (w : World) (h0 : 0 ≤ n) (h1 : n ≤ 60) (h2 : 0 ≤ k) (h3 : k ≤ 60) :
    Calls Try.prog 51 #[.int .i64 n, .int .i64 k] w fun e w' => e = .returned (.int .i64 (binN n k)) ∧ Below w.heap.size w w' := by
  by_cases h : n < k
  · have HF := Lib.hid (binN_lt h)
    go_enter Try.func51, Try.ntmps51
    go_wp2
    go_ret
    exact ⟨by rw [HF.out]; rfl, Below.refl _ _⟩
  · obtain ⟨a, rfl⟩ := Int.eq_ofNat_of_zero_le h0
    obtain ⟨b, rfl⟩ := Int.eq_ofNat_of_zero_le h2
    rw [binN_ge h]
    exact l01Binomial_any a b w (by omega) (by omega)
def binR (n k : Int) : Int × Int := if inB n 0 60 = false ∨ inB k 0 60 = false then (0, 2) else (binN n k, 0)
theorem iBinomialNumber_any (n k : Int) (w : World) : Calls Try.prog 25 #[.int .i64 n, .int .i64 k] w fun e w' => e = .returned (.tuple #[.int .i64 (binR n k).1, .int .i64 (binR n k).2]) ∧ Below w.heap.size w w' := by
  cases hn : inB n 0 60
  · have HF : Hid (binR n k = (0, 2)) := by simp [Hid, binR, hn]
    have HN := Lib.hid hn
    clear hn
    go_enter Try.func25, Try.ntmps25
    go_wp2_with (go_at_call 41; refine (in_any n _ _ _).mono ?_; rintro e w' ⟨rfl, k', rfl⟩; rw [HN.out])
    go_ret2
    exact ⟨by rw [HF.out]; rfl, below_drewN (Below.refl _ _) _⟩
  · obtain ⟨h1, h2⟩ := inB_true.1 hn
    cases hk : inB k 0 60
    · have HF : Hid (binR n k = (0, 2)) := by simp [Hid, binR, hn, hk]
      have HN := Lib.hid hn
      have HK := Lib.hid hk
      clear hn hk
      go_enter Try.func25, Try.ntmps25
      go_wp2_with fail
      refine (in_any n _ _ _).mono ?_
      rintro e w' ⟨rfl, k', rfl⟩
      rw [HN.out]
      go_wp2_with fail
      refine (in_any k _ _ _).mono ?_
      rintro e w' ⟨rfl, k'', rfl⟩
      rw [HK.out]
      go_wp2
      go_ret2
      exact ⟨by rw [HF.out]; rfl, below_drewN (Below.refl _ _) _⟩
    · obtain ⟨h3, h4⟩ := inB_true.1 hk
      have HF : Hid (binR n k = (binN n k, 0)) := by simp [Hid, binR, hn, hk]
      have HN := Lib.hid hn
      have HK := Lib.hid hk
      clear hn hk
      go_enter Try.func25, Try.ntmps25
      go_wp2_with fail
      refine (in_any n _ _ _).mono ?_
      rintro e w' ⟨rfl, k', rfl⟩
      rw [HN.out]
      go_wp2_with fail
      refine (in_any k _ _ _).mono ?_
      rintro e w' ⟨rfl, k'', rfl⟩
      rw [HK.out]
      go_wp2_with (go_at_call 52; refine (binomial_int n k _ (by omega) (by omega) (by omega) (by omega)).mono ?_; rintro e w' ⟨rfl, hb⟩)
      go_ret2
      exact ⟨by rw [HF.out]; rfl, (below_drewN (Below.refl _ _) _).trans hb⟩
theorem sBinomialNumber_any (n k : Int) (w : World) : Calls Try.prog 24 #[.int .i64 n, .int .i64 k] w fun e w' => e = .returned (.tuple #[.int .i64 (binR n k).1, .int .i64 (binR n k).2]) ∧ Below w.heap.size w w' := by
  cases hn : inB n 0 60
  · have HF : Hid (binR n k = (0, 2)) := by simp [Hid, binR, hn]
    have HN := Lib.hid hn
    clear hn
    go_enter Try.func24, Try.ntmps24
    go_wp2_with (go_at_call 50; refine (l01In_any n _ _ _).mono ?_; rintro e w' ⟨rfl, k', rfl⟩; rw [HN.out])
    go_ret2
    exact ⟨by rw [HF.out]; rfl, below_drewN (Below.refl _ _) _⟩
  · obtain ⟨h1, h2⟩ := inB_true.1 hn
    cases hk : inB k 0 60
    · have HF : Hid (binR n k = (0, 2)) := by simp [Hid, binR, hn, hk]
      have HN := Lib.hid hn
      have HK := Lib.hid hk
      clear hn hk
      go_enter Try.func24, Try.ntmps24
      go_wp2_with fail
      refine (l01In_any n _ _ _).mono ?_
      rintro e w' ⟨rfl, k', rfl⟩
      rw [HN.out]
      go_wp2_with fail
      refine (l01In_any k _ _ _).mono ?_
      rintro e w' ⟨rfl, k'', rfl⟩
      rw [HK.out]
      go_wp2
      go_ret2
      exact ⟨by rw [HF.out]; rfl, below_drewN (Below.refl _ _) _⟩
    · obtain ⟨h3, h4⟩ := inB_true.1 hk
      have HF : Hid (binR n k = (binN n k, 0)) := by simp [Hid, binR, hn, hk]
      have HN := Lib.hid hn
      have HK := Lib.hid hk
      clear hn hk
      go_enter Try.func24, Try.ntmps24
      go_wp2_with fail
      refine (l01In_any n _ _ _).mono ?_
      rintro e w' ⟨rfl, k', rfl⟩
      rw [HN.out]
      go_wp2_with fail
      refine (l01In_any k _ _ _).mono ?_
      rintro e w' ⟨rfl, k'', rfl⟩
      rw [HK.out]
      go_wp2_with (go_at_call 51; refine (l01Binomial_int n k _ (by omega) (by omega) (by omega) (by omega)).mono ?_; rintro e w' ⟨rfl, hb⟩)
      go_ret2
      exact ⟨by rw [HF.out]; rfl, (below_drewN (Below.refl _ _) _).trans hb⟩
/-- The greatest common divisor of the binomial numbers below 1, .., k - 1. -/
def lazN (n : Int) : Nat → Int
  | 0 => 0
  | 1 => 0
  | k + 2 => (Int.gcd (lazN n (k + 1)) (binN n ((k + 1 : Nat) : Int)) : Int)
theorem lazN_succ (n : Int) {k : Nat} (hk : 1 ≤ k) : lazN n (k + 1) = (Int.gcd (lazN n k) (binN n (k : Int)) : Int) := by
  obtain ⟨j, rfl⟩ : ∃ j, k = j + 1 := ⟨k - 1, by omega⟩
  rfl
theorem gcd_le_of {a b c : Int} (ha : 0 ≤ a ∧ a ≤ c) (hb : 0 ≤ b ∧ b ≤ c) : 0 ≤ (Int.gcd a b : Int) ∧ (Int.gcd a b : Int) ≤ c := by
  refine ⟨Int.natCast_nonneg _, ?_⟩
  unfold Int.gcd
  by_cases h : a.natAbs = 0
  · rw [h, Nat.gcd_zero_left]; omega
  · have := Nat.gcd_le_left b.natAbs (Nat.pos_of_ne_zero h)
    omega
theorem lazN_bd (n : Int) (h : n ≤ 60) (k : Nat) : 0 ≤ lazN n k ∧ lazN n k ≤ 1152921504606846976 := by
  induction k with
  | zero => simp [lazN]
  | succ k ih =>
    by_cases hk : 1 ≤ k
    · rw [lazN_succ n hk]; exact gcd_le_of ih (binN_bd h)
    · obtain rfl : k = 0 := by omega
      simp [lazN]
theorem binomialDivisor_any (n : Int) (w : World) (h1 : 2 ≤ n) (h2 : n ≤ 60) : Calls Try.prog 61 #[.int .i64 n] w fun e w' => e = .returned (.int .i64 (lazN n n.toNat)) ∧ Below w.heap.size w w' := by
  go_enter Try.func61, Try.ntmps61
  go_wp2
  go_loopw [3, 4] (fun d t wr => ∃ k : Nat, 1 ≤ k ∧ (k : Int) ≤ n ∧ t = .int .i64 k ∧ d = .int .i64 (lazN n k) ∧ Below w.heap.size w wr) (fun _ t _ => (n - intOf t).toNat)
  case atStart => exact ⟨1, by omega, by omega, rfl, rfl, Below.refl _ _⟩
  case round =>
    obtain ⟨k, hk1, hk2, rfl, rfl, hb⟩ := hrel
    have hz := hb.size
    have hl := lazN_bd n h2 k
    have hbn := binN_bd (n := n) (k := (k : Int)) h2
    by_cases hlt : (k : Int) < n
    · have HS := Lib.hid (lazN_succ n hk1)
      go_wp2_with (first | (go_at_call 52; refine (binomial_int n k _ (by omega) (by omega) (by omega) (by omega)).mono ?_; rintro e w1 ⟨rfl, hb1⟩) | (go_at_call 49; refine (gcd_any _ _ _ (by omega) (by omega) (by omega) (by omega)).mono ?_; rintro e w2 ⟨rfl, k2, rfl⟩))
      go_roundw
      case rel => exact ⟨k + 1, by omega, by omega, by go_num, by rw [HS.out], below_drewN (hb.trans (hb1.mono hz)) _⟩
      case measure => simp [intOf]; omega
    · have hkn : Hid (n.toNat = k) := by unfold Hid; omega
      go_wp2
      go_ret
      exact ⟨by rw [hkn.out]; rfl, hb⟩
theorem l01Lazard_any (n : Int) (w : World) (h1 : 2 ≤ n) (h2 : n ≤ 60) : Calls Try.prog 60 #[.int .i64 n] w fun e w' => e = .returned (.int .i64 (lazN n n.toNat)) ∧ Below w.heap.size w w' := by
  go_enter Try.func60, Try.ntmps60
  go_wp2
  go_loopw [3, 4] (fun d t wr => ∃ k : Nat, 1 ≤ k ∧ (k : Int) ≤ n ∧ t = .int .i64 k ∧ d = .int .i64 (lazN n k) ∧ Below w.heap.size w wr) (fun _ t _ => (n - intOf t).toNat)
  case atStart => exact ⟨1, by omega, by omega, rfl, rfl, Below.refl _ _⟩
  case round =>
    obtain ⟨k, hk1, hk2, rfl, rfl, hb⟩ := hrel
    have hz := hb.size
    have hl := lazN_bd n h2 k
    have hbn := binN_bd (n := n) (k := (k : Int)) h2
    by_cases hlt : (k : Int) < n
    · have HS := Lib.hid (lazN_succ n hk1)
      go_wp2_with (first | (go_at_call 51; refine (l01Binomial_int n k _ (by omega) (by omega) (by omega) (by omega)).mono ?_; rintro e w1 ⟨rfl, hb1⟩) | (go_at_call 48; refine (l01Gcd_any _ _ _ (by omega) (by omega) (by omega) (by omega)).mono ?_; rintro e w2 ⟨rfl, k2, rfl⟩))
      go_roundw
      case rel => exact ⟨k + 1, by omega, by omega, by go_num, by rw [HS.out], below_drewN (hb.trans (hb1.mono hz)) _⟩
      case measure => simp [intOf]; omega
    · have hkn : Hid (n.toNat = k) := by unfold Hid; omega
      go_wp2
      go_ret
      exact ⟨by rw [hkn.out]; rfl, hb⟩
def lazR (n : Int) : Int × Int := if inB n 2 60 = false then (0, 2) else (lazN n n.toNat, 0)
theorem iBinomialDivisor_any (n : Int) (w : World) : Calls Try.prog 39 #[.int .i64 n] w fun e w' => e = .returned (.tuple #[.int .i64 (lazR n).1, .int .i64 (lazR n).2]) ∧ Below w.heap.size w w' := by
  cases hn : inB n 2 60
  · have HF : Hid (lazR n = (0, 2)) := by simp [Hid, lazR, hn]
    have HN := Lib.hid hn
    clear hn
    go_enter Try.func39, Try.ntmps39
    go_wp2_with (go_at_call 41; refine (in_any n _ _ _).mono ?_; rintro e w' ⟨rfl, k', rfl⟩; rw [HN.out])
    go_ret2
    exact ⟨by rw [HF.out]; rfl, below_drewN (Below.refl _ _) _⟩
  · obtain ⟨h1, h2⟩ := inB_true.1 hn
    have HF : Hid (lazR n = (lazN n n.toNat, 0)) := by simp [Hid, lazR, hn]
    have HN := Lib.hid hn
    clear hn
    go_enter Try.func39, Try.ntmps39
    go_wp2_with (first | (go_at_call 41; refine (in_any n _ _ _).mono ?_; rintro e w' ⟨rfl, k', rfl⟩; rw [HN.out]) | (go_at_call 61; refine (binomialDivisor_any n _ h1 h2).mono ?_; rintro e w' ⟨rfl, hb⟩))
    go_ret2
    exact ⟨by rw [HF.out]; rfl, (below_drewN (Below.refl _ _) _).trans hb⟩
theorem sBinomialDivisor_any (n : Int) (w : World) : Calls Try.prog 38 #[.int .i64 n] w fun e w' => e = .returned (.tuple #[.int .i64 (lazR n).1, .int .i64 (lazR n).2]) ∧ Below w.heap.size w w' := by
  cases hn : inB n 2 60
  · have HF : Hid (lazR n = (0, 2)) := by simp [Hid, lazR, hn]
    have HN := Lib.hid hn
    clear hn
    go_enter Try.func38, Try.ntmps38
    go_wp2_with (go_at_call 50; refine (l01In_any n _ _ _).mono ?_; rintro e w' ⟨rfl, k', rfl⟩; rw [HN.out])
    go_ret2
    exact ⟨by rw [HF.out]; rfl, below_drewN (Below.refl _ _) _⟩
  · obtain ⟨h1, h2⟩ := inB_true.1 hn
    have HF : Hid (lazR n = (lazN n n.toNat, 0)) := by simp [Hid, lazR, hn]
    have HN := Lib.hid hn
    clear hn
    go_enter Try.func38, Try.ntmps38
    go_wp2_with (first | (go_at_call 50; refine (l01In_any n _ _ _).mono ?_; rintro e w' ⟨rfl, k', rfl⟩; rw [HN.out]) | (go_at_call 60; refine (l01Lazard_any n _ h1 h2).mono ?_; rintro e w' ⟨rfl, hb⟩))
    go_ret2
    exact ⟨by rw [HF.out]; rfl, (below_drewN (Below.refl _ _) _).trans hb⟩

/-! ### The row's last step, where of the world only 'Below' is known -/
section
open Go.WideShapes Go.ChangeShapes
variable {H : Type} {enc : TypeId × Value → H} {P : Program}
theorem post_of_below {f : Func} {s : ChangeSpec} {apart fresh handsOn again : Bool} {W W' : World} {args : Array Value} {v : Value} {ds gs : List (DataW H)} {before pa pv : List MemPlace}
    (hW : DataW.Whole enc P f.params.toList s.vars apart W args.toList ds gs before)
    (hres : ∀ (b : Nat) (sp : Nat → Bool) (hd : Bool), DataW.TrodAll enc P W' b sp hd f.resultTypes.toList (v.resultList f.resultTypes.size) (s.fn H (ds ++ gs)).results [])
    (hargs : ∀ sp : Nat → Bool, (∀ p ∈ before, sp p.block = true) → DataW.TrodAll enc P W' 0 sp true f.params.toList args.toList (s.fn H (ds ++ gs)).args pa)
    (hvars : ∀ sp : Nat → Bool, (∀ p ∈ before, sp p.block = true) → DataW.TrodVars enc P W' sp s.vars (s.fn H (ds ++ gs)).vars pv)
    (hps : before = pa ++ pv) (hb : Below W.heap.size W W')
    (hok : ∀ (j : Nat) (t : TypeId) (r : Value), f.resultTypes[j]? = some t → (v.resultList f.resultTypes.size)[j]? = some r → Value.okWide P W' .any 0 t r) :
    s.post enc P f apart fresh handsOn again W args v W' := by
  have hlt : ∀ p ∈ before, p.block < W.heap.size := fun p hp => hW.lt p hp
  have hold : ∀ p ∈ before, (fun b => decide (b < W.heap.size)) p.block = true := fun p hp => by simpa using hlt p hp
  refine ⟨ds, gs, before, [], pa, pv, hW, hres _ _ _, hargs _ hold, hvars _ hold, World.keptBut_mono (fun p hp => ⟨hp, ?_⟩) (hb.frame (· ∈ before)), fun _ => ?_⟩
  · rw [hps, List.mem_append] at hp
    exact Or.inr hp
  · obtain ⟨_, _, _, _, _, hz, hn⟩ := hW
    refine ⟨hok, _, _, ([] ++ pa) ++ pv, ⟨[] ++ pa, pv, trodAll_append (hargs _ (fun _ _ => rfl)) (hres _ _ _), hvars _ (fun _ _ => rfl), rfl, ?_, ?_⟩, ?_⟩
    · intro b off hp
      have hin : MemPlace.cell b off ∈ before := by rw [hps]; simpa using hp
      rw [hb.frozen (hlt _ hin)]
      exact hz b off hin
    · intro ha
      have := hn ha
      rw [hps] at this
      simpa using this
    · intro p hp _
      rw [hps]
      simpa using hp
end

/-! ### The laws' walks: exported functions on numbers -/
theorem FnExactConstants_walk (w : World) : Calls Try.prog 3 #[] w fun e w' => e = .returned (.bool true) ∧ Below w.heap.size w w' := by
  go_enter Try.func3, Try.ntmps3
  go_wp2
  go_ret
  exact ⟨rfl, Below.refl _ _⟩
theorem FnExactIsModulus_walk (a0 : Int) (w : World) : Calls Try.prog 4 #[.int .i64 a0] w fun e w' => e = .returned (.bool true) ∧ Below w.heap.size w w' := by
  go_enter Try.func4, Try.ntmps4
  go_wp2_with fail
  refine (sIsModulus_any a0 _).mono ?_
  rintro e w1 ⟨rfl, k1, rfl⟩
  go_wp2_with fail
  refine (iIsModulus_any a0 _).mono ?_
  rintro e w1 ⟨rfl, k2, rfl⟩
  go_wp2
  go_ret
  exact ⟨rfl, below_drewN (Below.refl _ _) _⟩
theorem FnExactRemainderOf_walk (a0 a1 : Int) (w : World) : Calls Try.prog 5 #[.int .i64 a0, .int .i64 a1] w fun e w' => e = .returned (.bool true) ∧ Below w.heap.size w w' := by
  go_enter Try.func5, Try.ntmps5
  go_wp2_with fail
  refine (sRemainderOf_any a0 a1 _).mono ?_
  rintro e w1 ⟨rfl, hb1⟩
  go_wp2_with fail
  refine (iRemainderOf_any a0 a1 _).mono ?_
  rintro e w2 ⟨rfl, hb2⟩
  go_wp2
  go_ret
  exact ⟨rfl, hb1.trans (hb2.mono hb1.size)⟩
theorem FnExactIsPrimeNumber_walk (a0 : Int) (w : World) : Calls Try.prog 6 #[.int .i64 a0] w fun e w' => e = .returned (.bool true) ∧ Below w.heap.size w w' := by
  go_enter Try.func6, Try.ntmps6
  go_wp2_with fail
  refine (sIsPrimeNumber_any a0 _).mono ?_
  rintro e w1 ⟨rfl, hb1⟩
  go_wp2_with fail
  refine (iIsPrimeNumber_any a0 _).mono ?_
  rintro e w2 ⟨rfl, hb2⟩
  go_wp2
  go_ret
  exact ⟨rfl, hb1.trans (hb2.mono hb1.size)⟩
theorem FnExactCommonDivisor_walk (a0 a1 : Int) (w : World) : Calls Try.prog 7 #[.int .i64 a0, .int .i64 a1] w fun e w' => e = .returned (.bool true) ∧ Below w.heap.size w w' := by
  go_enter Try.func7, Try.ntmps7
  go_wp2_with fail
  refine (sCommonDivisor_any a0 a1 _).mono ?_
  rintro e w1 ⟨rfl, hb1⟩
  go_wp2_with fail
  refine (iCommonDivisor_any a0 a1 _).mono ?_
  rintro e w2 ⟨rfl, hb2⟩
  go_wp2
  go_ret
  exact ⟨rfl, hb1.trans (hb2.mono hb1.size)⟩
theorem FnExactBinomialNumber_walk (a0 a1 : Int) (w : World) : Calls Try.prog 8 #[.int .i64 a0, .int .i64 a1] w fun e w' => e = .returned (.bool true) ∧ Below w.heap.size w w' := by
  go_enter Try.func8, Try.ntmps8
  go_wp2_with fail
  refine (sBinomialNumber_any a0 a1 _).mono ?_
  rintro e w1 ⟨rfl, hb1⟩
  go_wp2_with fail
  refine (iBinomialNumber_any a0 a1 _).mono ?_
  rintro e w2 ⟨rfl, hb2⟩
  go_wp2
  go_ret
  exact ⟨rfl, hb1.trans (hb2.mono hb1.size)⟩
theorem FnExactCountLaws_walk (a0 a1 : Int) (w : World) : Calls Try.prog 9 #[.int .i64 a0, .int .i64 a1] w fun e w' => e = .returned (.bool true) ∧ Below w.heap.size w w' := by
  go_enter Try.func9, Try.ntmps9
  go_wp2_with fail
  refine (sCountLaws_any a0 a1 _).mono ?_
  rintro e w1 ⟨rfl, hb1⟩
  go_wp2_with fail
  refine (iCountLaws_any a0 a1 _).mono ?_
  rintro e w2 ⟨rfl, hb2⟩
  go_wp2
  go_ret
  exact ⟨rfl, hb1.trans (hb2.mono hb1.size)⟩
theorem FnExactCountUnits_walk (a0 : Int) (w : World) : Calls Try.prog 10 #[.int .i64 a0] w fun e w' => e = .returned (.bool true) ∧ Below w.heap.size w w' := by
  go_enter Try.func10, Try.ntmps10
  go_wp2_with fail
  refine (sCountUnits_any a0 _).mono ?_
  rintro e w1 ⟨rfl, hb1⟩
  go_wp2_with fail
  refine (iCountUnits_any a0 _).mono ?_
  rintro e w2 ⟨rfl, hb2⟩
  go_wp2
  go_ret
  exact ⟨rfl, hb1.trans (hb2.mono hb1.size)⟩
theorem FnExactValuationOf_walk (a0 a1 : Int) (w : World) : Calls Try.prog 11 #[.int .i64 a0, .int .i64 a1] w fun e w' => e = .returned (.bool true) ∧ Below w.heap.size w w' := by
  go_enter Try.func11, Try.ntmps11
  go_wp2_with fail
  refine (sValuationOf_any a0 a1 _).mono ?_
  rintro e w1 ⟨rfl, hb1⟩
  go_wp2_with fail
  refine (iValuationOf_any a0 a1 _).mono ?_
  rintro e w2 ⟨rfl, hb2⟩
  go_wp2
  go_ret
  exact ⟨rfl, hb1.trans (hb2.mono hb1.size)⟩
theorem FnExactAddModulo_walk (a0 a1 a2 : Int) (w : World) : Calls Try.prog 12 #[.int .i64 a0, .int .i64 a1, .int .i64 a2] w fun e w' => e = .returned (.bool true) ∧ Below w.heap.size w w' := by
  go_enter Try.func12, Try.ntmps12
  go_wp2_with fail
  refine (sAddModulo_any a0 a1 a2 _).mono ?_
  rintro e w1 ⟨rfl, hb1⟩
  go_wp2_with fail
  refine (iAddModulo_any a0 a1 a2 _).mono ?_
  rintro e w2 ⟨rfl, hb2⟩
  go_wp2
  go_ret
  exact ⟨rfl, hb1.trans (hb2.mono hb1.size)⟩
theorem FnExactMultiplyModulo_walk (a0 a1 a2 : Int) (w : World) : Calls Try.prog 13 #[.int .i64 a0, .int .i64 a1, .int .i64 a2] w fun e w' => e = .returned (.bool true) ∧ Below w.heap.size w w' := by
  go_enter Try.func13, Try.ntmps13
  go_wp2_with fail
  refine (sMultiplyModulo_any a0 a1 a2 _).mono ?_
  rintro e w1 ⟨rfl, hb1⟩
  go_wp2_with fail
  refine (iMultiplyModulo_any a0 a1 a2 _).mono ?_
  rintro e w2 ⟨rfl, hb2⟩
  go_wp2
  go_ret
  exact ⟨rfl, hb1.trans (hb2.mono hb1.size)⟩
theorem FnExactSolveModulo_walk (a0 a1 a2 : Int) (w : World) : Calls Try.prog 14 #[.int .i64 a0, .int .i64 a1, .int .i64 a2] w fun e w' => e = .returned (.bool true) ∧ Below w.heap.size w w' := by
  go_enter Try.func14, Try.ntmps14
  go_wp2_with fail
  refine (sSolveModulo_any a0 a1 a2 _).mono ?_
  rintro e w1 ⟨rfl, hb1⟩
  go_wp2_with fail
  refine (iSolveModulo_any a0 a1 a2 _).mono ?_
  rintro e w2 ⟨rfl, hb2⟩
  go_wp2
  go_ret
  exact ⟨rfl, hb1.trans (hb2.mono hb1.size)⟩
theorem FnExactBinomialDivisor_walk (a0 : Int) (w : World) : Calls Try.prog 15 #[.int .i64 a0] w fun e w' => e = .returned (.bool true) ∧ Below w.heap.size w w' := by
  go_enter Try.func15, Try.ntmps15
  go_wp2_with fail
  refine (sBinomialDivisor_any a0 _).mono ?_
  rintro e w1 ⟨rfl, hb1⟩
  go_wp2_with fail
  refine (iBinomialDivisor_any a0 _).mono ?_
  rintro e w2 ⟨rfl, hb2⟩
  go_wp2
  go_ret
  exact ⟨rfl, hb1.trans (hb2.mono hb1.size)⟩

end Go.Proofs.Ytkkjakjopmaocaa
