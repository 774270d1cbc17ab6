/- Contracts over this seat's translation. Condition: each contract's own. -/
import Derived.Test.YtfdklbimdkaaiaaProg
import Derived.ProofKit
import Derived.Laws.Bits64b
import Derived.Lib.Mul64
import Derived.OpenShut
import Derived.Below
import Derived.ChangeSame
import Derived.Deep.Modes
import Derived.Lib.SmallJoins
import Derived.ChangeSlices
import Derived.WalkKit
import Derived.WalkSpells
import Derived.WalkLawsBesides
import Derived.Deep.QuietTactic
import Derived.BigQuiet
import Derived.Deep.RegionHeld3
import Derived.Deep.RegionWith
import Derived.Deep.RegionLaw
import Derived.Deep.AppendLies
import Derived.Laws.CopyOwn
import Derived.Deep.DeepCutAuto
import Derived.Deep.OwnRows
import Derived.Deep.LoopGhost
import Derived.Deep.DeepFit
import Derived.Deep.DeepMust
import Derived.Deep.Draws
import Derived.Deep.CutRange
import Derived.Maps.AppendAt
import Derived.Lib.Hide
import Derived.StillTailTactics
import Derived.Laws.MakeOwn
import Derived.Deep.Matrix
set_option linter.unusedVariables false
open Go Go.RowKit
namespace Go.Proofs.Ytfdklbimdkaaiaa
/-! ### Plain words -/
def inB (n l h : Int) : Bool := decide (l ≤ n) && decide (n ≤ h)
theorem inB_true {n l h : Int} : inB n l h = true ↔ l ≤ n ∧ n ≤ h := by simp [inB]
theorem inB_false {n l h : Int} : inB n l h = false ↔ ¬ (l ≤ n ∧ n ≤ h) := by
  rw [← inB_true]; simp
def isModB (m : Int) : Bool := inB m 2 10000
theorem isModB_true {m : Int} (h : isModB m = true) : 2 ≤ m ∧ m ≤ 10000 := inB_true.1 h
def isIntB (n : Int) : Bool := inB n (-1000000000000) 1000000000000
theorem isIntB_true {n : Int} (h : isIntB n = true) : -1000000000000 ≤ n ∧ n ≤ 1000000000000 := inB_true.1 h
def isNumB (a m : Int) : Bool := inB a 0 (m - 1)
theorem isNumB_true {a m : Int} (h : isNumB a m = true) : 0 ≤ a ∧ a < m := by have := inB_true.1 h; omega
def numsB (m : Int) (xs : List Int) : Bool := xs.all fun a => isNumB a m
theorem pull_drewN (w : World) (a b : Nat) : (w.drewN a).drewN b = w.drewN (a + b) := World.drewN_drewN w a b

/-! ### Ranges -/
theorem in_any (n l h : Int) (w : World) : Calls Try.prog 62 #[.int .i64 n, .int .i64 l, .int .i64 h] w fun e w' => e = .returned (.bool (inB n l h)) ∧ ∃ k, w' = w.drewN k := by
  unfold inB
  go_enter Try.func62, Try.ntmps62
  go_wp2
  all_goals go_ret
  · exact ⟨by simp [*], 0, rfl⟩
  · exact ⟨by simp; omega, 0, rfl⟩
theorem l01In_any (n l h : Int) (w : World) : Calls Try.prog 57 #[.int .i64 n, .int .i64 l, .int .i64 h] w fun e w' => e = .returned (.bool (inB n l h)) ∧ ∃ k, w' = w.drewN k := by
  unfold inB
  go_enter Try.func57, Try.ntmps57
  go_wp2
  all_goals go_ret
  · exact ⟨by simp [*], 0, rfl⟩
  · exact ⟨by simp; omega, 0, rfl⟩
theorem iIsModulus_any (m : Int) (w : World) : Calls Try.prog 101 #[.int .i64 m] w fun e w' => e = .returned (.bool (isModB m)) ∧ ∃ k, w' = w.drewN k := by
  go_enter Try.func101, Try.ntmps101
  go_wp2_with (go_at_call 62; refine (in_any _ _ _ _).mono ?_; rintro e w' ⟨rfl, k, rfl⟩)
  go_ret
  exact ⟨rfl, _, rfl⟩
theorem sModulus_any (m : Int) (w : World) : Calls Try.prog 99 #[.int .i64 m] w fun e w' => e = .returned (.bool (isModB m)) ∧ ∃ k, w' = w.drewN k := by
  go_enter Try.func99, Try.ntmps99
  go_wp2_with (go_at_call 57; refine (l01In_any _ _ _ _).mono ?_; rintro e w' ⟨rfl, k, rfl⟩)
  go_ret
  exact ⟨rfl, _, rfl⟩
theorem isNumber_any (a m : Int) (w : World) (hm : isModB m = true) : Calls Try.prog 59 #[.int .i64 a, .int .i64 m] w fun e w' => e = .returned (.bool (isNumB a m)) ∧ ∃ k, w' = w.drewN k := by
  obtain ⟨h1, h2⟩ := isModB_true hm
  clear hm
  go_enter Try.func59, Try.ntmps59
  go_wp2_with (go_at_call 62; refine (in_any _ _ _ _).mono ?_; rintro e w' ⟨rfl, k, rfl⟩)
  go_ret
  exact ⟨rfl, _, rfl⟩

/-! ### Remainders -/
theorem tmod_add_mod (n m : Int) : (n.tmod m + m) % m = n % m := by
  rw [Int.add_emod_right]
  conv => rhs; rw [← Int.tmod_add_mul_tdiv n m]
  rw [Int.add_mul_emod_self_left]
theorem mod_any (n m : Int) (w : World) (h1 : 0 < m) (h2 : m ≤ 1000000000000000) : Calls Try.prog 90 #[.int .i64 n, .int .i64 m] w fun e w' => e = .returned (.int .i64 (n % m)) ∧ ∃ k, w' = w.drewN k := by
  have h3 := Int.lt_tmod_of_pos n h1
  have h4 := Int.tmod_lt_of_pos n h1
  have H := Lib.hid (tmod_add_mod n m)
  go_enter Try.func90, Try.ntmps90
  go_wp2
  go_ret
  exact ⟨by rw [← H.out]; rfl, 0, rfl⟩
theorem l01Mod_any (n m : Int) (w : World) (h1 : 0 < m) (h2 : m ≤ 1000000000000000) : Calls Try.prog 124 #[.int .i64 m, .int .i64 n] w fun e w' => e = .returned (.int .i64 (n % m)) ∧ ∃ k, w' = w.drewN k := by
  have h3 := Int.lt_tmod_of_pos n h1
  have h4 := Int.tmod_lt_of_pos n h1
  have H := Lib.hid (tmod_add_mod n m)
  go_enter Try.func124, Try.ntmps124
  go_wp2
  go_ret
  exact ⟨by rw [← H.out]; rfl, 0, rfl⟩

/-! ### Greatest common divisors -/
theorem gcd_step (a b : Int) : Int.gcd b (a.tmod b) = Int.gcd a b := by
  have h : (a.tmod b).natAbs = a.natAbs % b.natAbs := Int.natAbs_tmod a b
  unfold Int.gcd
  rw [h, Nat.gcd_comm, ← Nat.gcd_rec, Nat.gcd_comm]
theorem gcd_any (a b : Int) (w : World) (ha : -2000000000000000000 ≤ a) (ha' : a ≤ 2000000000000000000) (hb : -2000000000000000000 ≤ b) (hb' : b ≤ 2000000000000000000) : Calls Try.prog 117 #[.int .i64 a, .int .i64 b] w fun e w' => e = .returned (.int .i64 (Int.gcd a b)) ∧ ∃ n, w' = w.drewN n := by
  go_enter Try.func117, Try.ntmps117
  go_wp2
  go_loopw [0, 1] (fun s t wr => ∃ x y : Int, s = .int .i64 x ∧ t = .int .i64 y ∧ Hid (Int.gcd x y = Int.gcd a b) ∧ -2000000000000000000 ≤ x ∧ x ≤ 2000000000000000000 ∧ -2000000000000000000 ≤ y ∧ y ≤ 2000000000000000000 ∧ ∃ n, wr = w.drewN n)
    (fun _ t _ => (intOf t).natAbs)
  case atStart => exact ⟨a, b, rfl, rfl, rfl, ha, ha', hb, hb', 0, rfl⟩
  case round =>
    obtain ⟨x, y, rfl, rfl, hg, hx, hx', hy, hy', n, rfl⟩ := hrel
    by_cases h0 : y = 0
    · subst h0
      go_wp2
      all_goals go_ret
      all_goals
        refine ⟨?_, n, rfl⟩
        rw [← hg.out]
        show Ending.returned (.int .i64 _) = Ending.returned (.int .i64 _)
        congr 2
        simp
        omega
    · have h1 : (y != 0) = true := by simpa using h0
      have h2 : (y == 0) = false := by simpa using h0
      have hm : (x.tmod y).natAbs < y.natAbs := by rw [Int.natAbs_tmod]; exact Nat.mod_lt _ (by omega)
      go_wp2
      go_quiet (fail)
      go_wp2
      go_roundw
      case rel => exact ⟨y, x.tmod y, rfl, rfl, (gcd_step x y).trans hg.out, hy, hy', by omega, by omega, n + nq, by rw [World.drewN_drewN]⟩
      case measure => simpa [intOf] using hm
theorem l01Gcd_any (a b : Int) (w : World) (ha : -2000000000000000000 ≤ a) (ha' : a ≤ 2000000000000000000) (hb : -2000000000000000000 ≤ b) (hb' : b ≤ 2000000000000000000) : Calls Try.prog 116 #[.int .i64 a, .int .i64 b] w fun e w' => e = .returned (.int .i64 (Int.gcd a b)) ∧ ∃ n, w' = w.drewN n := by
  by_cases h1 : a < 0 <;> by_cases h2 : b < 0
  all_goals
    go_enter Try.func116, Try.ntmps116
    go_wp2
    go_loopw [0, 1, 5] (fun s t r wr => ∃ x y : Int, s = .int .i64 x ∧ t = .int .i64 y ∧ Hid (Int.gcd x y = Int.gcd a b) ∧ 0 ≤ x ∧ x ≤ 2000000000000000000 ∧ 0 ≤ y ∧ y ≤ 2000000000000000000 ∧ ∃ n, wr = w.drewN n)
      (fun _ t _ _ => (intOf t).natAbs)
    case atStart => exact ⟨_, _, rfl, rfl, by unfold Hid; simp, by omega, by omega, by omega, by omega, 0, rfl⟩
    case round =>
      obtain ⟨x, y, rfl, rfl, hg, hx, hx', hy, hy', n, rfl⟩ := hrel
      by_cases h0 : y = 0
      · subst h0
        go_wp2
        go_ret
        refine ⟨?_, n, rfl⟩
        rw [← hg.out]
        show Ending.returned (.int .i64 _) = Ending.returned (.int .i64 _)
        congr 2
        simp
        omega
      · have h0 : 0 < y := by omega
        have hm : x % y < y := Int.emod_lt_of_pos _ h0
        have hm' : 0 ≤ x % y := Int.emod_nonneg _ (by omega)
        have ht : x.tmod y = x % y := Int.tmod_eq_emod_of_nonneg hx
        have hgs := gcd_step x y
        rw [ht] at hgs
        have HG := Lib.hid hgs
        clear ht hgs
        go_wp2
        go_roundw
        case rel => exact ⟨y, x % y, rfl, rfl, HG.out.trans hg.out, by omega, by omega, by omega, by omega, n, rfl⟩
        case measure => simp [intOf]; omega
def unitB (m a : Int) : Bool := (Int.gcd a m : Int) == 1
theorem isUnit_any (m a : Int) (w : World) (h1 : 0 ≤ m) (h2 : m ≤ 1000000000000000000) (h3 : -1000000000000000000 ≤ a) (h4 : a ≤ 1000000000000000000) : Calls Try.prog 82 #[.int .i64 m, .int .i64 a] w fun e w' => e = .returned (.bool (unitB m a)) ∧ ∃ n, w' = w.drewN n := by
  go_enter Try.func82, Try.ntmps82
  go_wp2_with (go_at_call 117; refine (gcd_any _ _ _ (by omega) (by omega) (by omega) (by omega)).mono ?_; rintro e w' ⟨rfl, k, rfl⟩)
  go_ret
  exact ⟨rfl, _, rfl⟩
theorem l01Unit_any (m a : Int) (w : World) (h1 : 0 ≤ m) (h2 : m ≤ 1000000000000000000) (h3 : -1000000000000000000 ≤ a) (h4 : a ≤ 1000000000000000000) : Calls Try.prog 80 #[.int .i64 m, .int .i64 a] w fun e w' => e = .returned (.bool (unitB m a)) ∧ ∃ n, w' = w.drewN n := by
  go_enter Try.func80, Try.ntmps80
  go_wp2_with (go_at_call 116; refine (l01Gcd_any _ _ _ (by omega) (by omega) (by omega) (by omega)).mono ?_; rintro e w' ⟨rfl, k, rfl⟩)
  go_ret
  exact ⟨rfl, _, rfl⟩

/-! ### Prime numbers -/
def PrimeP (n : Int) : Prop := 2 ≤ n ∧ ∀ d : Int, 2 ≤ d → d * d ≤ n → n % d ≠ 0
noncomputable def primeB (n : Int) : Bool := @decide (PrimeP n) (Classical.propDecidable _)
theorem primeB_true {n : Int} : primeB n = true ↔ PrimeP n := by unfold primeB; exact @decide_eq_true_iff _ (Classical.propDecidable _)
theorem primeB_false {n : Int} (h : ¬ PrimeP n) : primeB n = false := by
  rw [← Bool.not_eq_true, primeB_true]; exact h
theorem sq_bound {d n : Int} (h : n ≤ 1000000000000) (hd : d * d ≤ n) : d ≤ 1000000 := by
  rcases Int.lt_or_le 1000000 d with h1 | h1
  · have h2 : 1000001 * 1000001 ≤ d * d := Int.mul_le_mul (by omega) (by omega) (by omega) (by omega)
    omega
  · exact h1
theorem prime_here {n d : Int} (hn : 2 ≤ n) (h : ∀ e : Int, 2 ≤ e → e < d → n % e ≠ 0) (hd : n < d * d) (h0 : 0 ≤ d) : PrimeP n := by
  refine ⟨hn, fun e h2 he => h e h2 ?_⟩
  rcases Int.lt_or_le e d with h1 | h1
  · exact h1
  · have := Int.mul_le_mul h1 h1 h0 (by omega)
    omega

/-! ### Lists of int64 in memory -/
/-- In world w the slice value v holds the numbers xs, in a block from B on. -/
def OwnI (w : World) (B : Nat) (v : Value) (xs : List Int) : Prop := w.ownsRow B 2 1 v xs.length (xs.map (Value.int .i64))
theorem below_drewN {B : Nat} {a w : World} (h : Below B a w) (n : Nat) : Below B a (w.drewN n) := ⟨h.os, h.tape, h.output, h.size, h.block⟩
theorem OwnI.drewN {w : World} {B : Nat} {v : Value} {xs : List Int} (h : OwnI w B v xs) (n : Nat) : OwnI (w.drewN n) B v xs := h
theorem OwnI.alloc {w : World} {B : Nat} {v : Value} {xs : List Int} (h : OwnI w B v xs) (o : Obj) : OwnI (w.alloc o) B v xs := World.ownsRow.alloc h o
theorem OwnI.mono {w : World} {B B' : Nat} {v : Value} {xs : List Int} (h : OwnI w B v xs) (hb : B' ≤ B) : OwnI w B' v xs := by
  rcases h.2 with h0 | ⟨g, cap, cur, h1, h2, h3⟩
  · exact ⟨h.1, .inl h0⟩
  · exact ⟨h.1, .inr ⟨g, cap, cur, h1, by omega, h3⟩⟩
theorem OwnI.keep {w w' : World} {B C : Nat} {v : Value} {xs : List Int} (h : OwnI w B v xs) (hb : Below C w w') (hC : w.heap.size ≤ C) : OwnI w' B v xs := by
  rcases h.2 with h0 | ⟨g, cap, cur, h1, h2, h3, h4⟩
  · exact ⟨h.1, .inl h0⟩
  · exact ⟨h.1, .inr ⟨g, cap, cur, h1, h2, (hb.block g (by have := lt_of_block h3; omega)).trans h3, h4⟩⟩
/-- The slice value opened. -/
theorem OwnI.open_ {w : World} {B : Nat} {v : Value} {xs : List Int} (h : OwnI w B v xs) :
    ∃ A c, v = .slice A xs.length c ∧ xs.length ≤ c ∧ c ≤ maxLen ∧ ∀ k, k < xs.length → ∃ g, A = some ⟨g, 0, none⟩ ∧ B ≤ g ∧ g < w.heap.size ∧ w.cell? ⟨g, k, none⟩ = some (.int .i64 (xs.getD k 0)) ∧ w.frozen? ⟨g, k, none⟩ = false := by
  rcases h.2 with ⟨rfl, h1⟩ | ⟨g, cap, cur, rfl, h2, h3, h4, h5, h6, h7⟩
  · refine ⟨none, 0, by rw [h1], by omega, by unfold maxLen; omega, fun k hk => by omega⟩
  · refine ⟨_, cap, rfl, h4, h5, fun k hk => ⟨g, rfl, h2, lt_of_block h3, ?_, ?_⟩⟩
    · have hx := World.ownsRow.cellAt (g := g) (cap := cap) h k (by omega)
      rw [hx, List.getElem?_map, List.getD_eq_getElem?_getD, List.getElem?_eq_getElem hk]
      rfl
    · exact World.ownsRow.frozenAt (g := g) (cap := cap) h k
theorem OwnI.nil_ (w : World) (B : Nat) : OwnI w B (.slice none 0 0) [] := World.ownsRow_nil _ _ _ _
theorem OwnI.lit2 (w : World) (a b : Int) {B : Nat} (hB : B ≤ w.heap.size) : OwnI (w.alloc (.cells #[.int .i64 a, .int .i64 b] 2)) B (.slice (some ⟨w.heap.size, 0, none⟩) 2 2) [a, b] :=
  World.ownsRow_lit w #[.int .i64 a, .int .i64 b] 2 hB (by unfold maxLen; omega) rfl
theorem OwnI.lit1 (w : World) (a : Int) {B : Nat} (hB : B ≤ w.heap.size) : OwnI (w.alloc (.cells #[.int .i64 a] 2)) B (.slice (some ⟨w.heap.size, 0, none⟩) 1 1) [a] :=
  World.ownsRow_lit w #[.int .i64 a] 1 hB (by unfold maxLen; omega) rfl

/-! ### Conditions on all elements -/
theorem all_take_succ (p : Int → Bool) (xs : List Int) (k : Nat) (hk : k < xs.length) : (xs.take (k + 1)).all p = ((xs.take k).all p && p (xs.getD k 0)) := by
  rw [List.take_succ_eq_append_getElem hk, List.all_append, List.getD_eq_getElem?_getD, List.getElem?_eq_getElem hk]
  simp
theorem all_false_of_take (p : Int → Bool) (xs : List Int) (k : Nat) (hk : k < xs.length) (h : p (xs.getD k 0) = false) : xs.all p = false := by
  rw [List.getD_eq_getElem?_getD, List.getElem?_eq_getElem hk] at h
  rw [← Bool.not_eq_true, List.all_eq_true]
  intro h'
  have := h' _ (List.getElem_mem hk)
  simp at h
  simp [h] at this
theorem l01Numbers_any (m : Int) (w : World) (v : Value) (xs : List Int) (B : Nat) (hm : isModB m = true) (hv : OwnI w B v xs) :
    Calls Try.prog 100 #[.int .i64 m, v] w fun e w' => e = .returned (.bool (numsB m xs)) ∧ ∃ k, w' = w.drewN k := by
  obtain ⟨h1, h2⟩ := isModB_true hm
  obtain ⟨A, c, rfl, hc1, hc2, hA⟩ := hv.open_
  clear hv hm
  unfold maxLen at hc2
  go_enter Try.func100, Try.ntmps100
  go_wp2
  go_loopw [5] (fun i wr => ∃ k : Nat, k ≤ xs.length ∧ i = .int .i64 k ∧ Hid (numsB m (xs.take k) = true) ∧ ∃ n, wr = w.drewN n) (fun i _ => xs.length - (intOf i).toNat)
  case atStart => exact ⟨0, Nat.zero_le _, rfl, rfl, 0, rfl⟩
  case round =>
    obtain ⟨k, hk, rfl, hn, n, rfl⟩ := hrel
    by_cases hlt : k < xs.length
    · obtain ⟨g, rfl, hg1, hg2, hcell, hfr⟩ := hA k hlt
      clear hA
      obtain ⟨x, hx⟩ : ∃ x, x = xs.getD k 0 := ⟨_, rfl⟩
      rw [← hx] at hcell
      have HX := Lib.hid hx
      clear hx
      cases hin : inB x 0 (m - 1)
      · have HF : Hid (numsB m xs = false) := all_false_of_take (fun a => isNumB a m) xs k hlt (by rw [← HX.out]; exact hin)
        have HI := Lib.hid hin
        clear hin
        go_wp2_with (go_at_call 57; refine (l01In_any _ _ _ _).mono ?_; rintro e w' ⟨rfl, k', rfl⟩; rw [HI.out])
        go_ret
        exact ⟨by rw [HF.out]; rfl, _, rfl⟩
      · have HF : Hid (numsB m (xs.take (k + 1)) = true) := by
          have e := all_take_succ (fun a => isNumB a m) xs k hlt
          rw [← HX.out] at e
          unfold Hid numsB
          rw [e, Bool.and_eq_true]
          exact ⟨hn.out, hin⟩
        have HI := Lib.hid hin
        clear hin
        go_wp2_with (go_at_call 57; refine (l01In_any _ _ _ _).mono ?_; rintro e w' ⟨rfl, k', rfl⟩; rw [HI.out])
        go_roundw
        case rel => exact ⟨k + 1, by omega, by go_num, HF.out, _, rfl⟩
        case measure => simp [intOf]; omega
    · have HF : Hid (numsB m xs = true) := by
        have := hn.out
        rwa [List.take_of_length_le (by omega)] at this
      go_wp2
      go_ret
      exact ⟨by rw [HF.out]; rfl, _, rfl⟩
def codeR (m : Int) (xs : List Int) : Int := if isModB m = false then 1 else if numsB m xs = false then 2 else 0

/-! ### slices.ContainsFunc and all, at whatever function value that computes a predicate -/
/-- The function g, with what it has captured, computes p on int64, in every world in which all that lay in w lies unturned. -/
def Pred (w : World) (g : FuncId) (caps : Array Value) (p : Int → Bool) : Prop :=
  (∀ args w, (callFunc g args).run Try.prog w = .ok (.enter g args) w) ∧ ∀ (W : World) (x : Int), Below w.heap.size w W → Calls Try.prog g (#[.int .i64 x] ++ caps) W fun e W' => e = .returned (.bool (p x)) ∧ ∃ n, W' = W.drewN n
theorem Pred.below {w w' : World} {g : FuncId} {caps : Array Value} {p : Int → Bool} (h : Pred w g caps p) (hb : Below w.heap.size w w') : Pred w' g caps p :=
  ⟨h.1, fun W x hW => h.2 W x (hb.trans (hW.mono hb.size))⟩
def firstI (p : Int → Bool) (xs : List Int) : Int := if xs.any p then ((xs.findIdx p : Nat) : Int) else -1
theorem any_take_false (p : Int → Bool) (xs : List Int) (k : Nat) (hk : k < xs.length) (h : (xs.take k).any p = false) (h' : p (xs.getD k 0) = false) : (xs.take (k + 1)).any p = false := by
  rw [List.take_succ_eq_append_getElem hk, List.any_append, h]
  rw [List.getD_eq_getElem?_getD, List.getElem?_eq_getElem hk] at h'
  simpa using h'
theorem firstI_at (p : Int → Bool) (xs : List Int) (k : Nat) (hk : k < xs.length) (h : (xs.take k).any p = false) (h' : p (xs.getD k 0) = true) : firstI p xs = k := by
  rw [List.getD_eq_getElem?_getD, List.getElem?_eq_getElem hk] at h'
  simp at h'
  have e : xs.findIdx p = k := by
    rw [List.findIdx_eq hk]
    refine ⟨h', fun j hj => ?_⟩
    rw [List.any_eq_false] at h
    have := h (xs[j]) (by rw [List.mem_take_iff_getElem]; exact ⟨j, by omega, rfl⟩)
    simpa using this
  unfold firstI
  rw [if_pos (by rw [List.any_eq_true]; exact ⟨_, List.getElem_mem hk, h'⟩), e]
theorem firstI_none (p : Int → Bool) (xs : List Int) (h : xs.any p = false) : firstI p xs = -1 := by unfold firstI; rw [if_neg (by rw [h]; simp)]
theorem firstI_nonneg (p : Int → Bool) (xs : List Int) : decide (0 ≤ firstI p xs) = xs.any p := by
  unfold firstI
  split
  · rename_i h; rw [h]; simp
  · rename_i h; simp only [Bool.not_eq_true] at h; rw [h]; simp
theorem indexFunc_any (w : World) (v : Value) (xs : List Int) (B : Nat) (hv : OwnI w B v xs) (g : FuncId) (caps : Array Value) (p : Int → Bool) (hp : Pred w g caps p) :
    Calls Try.prog 140 #[v, .func (.func g) #[] caps] w fun e w' => e = .returned (.int .i64 (firstI p xs)) ∧ ∃ k, w' = w.drewN k := by
  obtain ⟨A, c, rfl, hc1, hc2, hA⟩ := hv.open_
  clear hv
  unfold maxLen at hc2
  have HP := Lib.hid hp
  clear hp
  have eg := HP.out.1
  go_enter Try.func140, Try.ntmps140
  go_wp2
  go_loopw [5, 8] (fun _ i wr => ∃ k : Nat, k ≤ xs.length ∧ i = .int .i64 k ∧ Hid ((xs.take k).any p = false) ∧ ∃ n, wr = w.drewN n) (fun _ i _ => xs.length - (intOf i).toNat)
  case atStart => exact ⟨0, Nat.zero_le _, rfl, rfl, 0, rfl⟩
  case round =>
    obtain ⟨k, hk, rfl, hn, n, rfl⟩ := hrel
    by_cases hlt : k < xs.length
    · obtain ⟨g', rfl, hg1, hg2, hcell, hfr⟩ := hA k hlt
      clear hA
      obtain ⟨x, hx⟩ : ∃ x, x = xs.getD k 0 := ⟨_, rfl⟩
      rw [← hx] at hcell
      have HX := Lib.hid hx
      clear hx
      cases hin : p x
      · have HF : Hid ((xs.take (k + 1)).any p = false) := any_take_false p xs k hlt hn.out (by rw [← HX.out]; exact hin)
        have HI := Lib.hid hin
        clear hin
        go_wp2_with fail
        refine (HP.out.2 _ x (below_drewN (Below.refl _ _) _)).mono ?_
        rintro e w' ⟨rfl, k', rfl⟩
        rw [HI.out]
        go_wp2
        go_roundw
        case rel => exact ⟨k + 1, by omega, by go_num, HF.out, _, rfl⟩
        case measure => simp [intOf]; omega
      · have HF : Hid (firstI p xs = k) := firstI_at p xs k hlt hn.out (by rw [← HX.out]; exact hin)
        have HI := Lib.hid hin
        clear hin
        go_wp2_with fail
        refine (HP.out.2 _ x (below_drewN (Below.refl _ _) _)).mono ?_
        rintro e w' ⟨rfl, k', rfl⟩
        rw [HI.out]
        go_wp2
        go_ret
        exact ⟨by rw [HF.out]; rfl, _, rfl⟩
    · have HF : Hid (firstI p xs = -1) := firstI_none p xs (by have := hn.out; rwa [List.take_of_length_le (by omega)] at this)
      go_wp2
      go_ret
      exact ⟨by rw [HF.out]; rfl, _, rfl⟩
theorem containsFunc_any (w : World) (v : Value) (xs : List Int) (B : Nat) (hv : OwnI w B v xs) (g : FuncId) (caps : Array Value) (p : Int → Bool) (hp : Pred w g caps p) :
    Calls Try.prog 129 #[v, .func (.func g) #[] caps] w fun e w' => e = .returned (.bool (xs.any p)) ∧ ∃ k, w' = w.drewN k := by
  have HP := Lib.hid hp
  clear hp
  have HF := Lib.hid (firstI_nonneg p xs)
  go_enter Try.func129, Try.ntmps129
  go_wp2_with (go_at_call 140; refine (indexFunc_any _ v xs B hv g caps p HP.out).mono ?_; rintro e w' ⟨rfl, k', rfl⟩)
  go_ret
  exact ⟨by rw [← HF.out]; rfl, _, rfl⟩
theorem all_eq_not_any (p : Int → Bool) (xs : List Int) : xs.all p = !(xs.any fun x => !p x) := by
  induction xs with
  | nil => rfl
  | cons x xs ih => simp only [List.all_cons, List.any_cons, ih, Bool.not_or, Bool.not_not]
theorem allNot_pred (w w0 : World) (b : Nat) (g : FuncId) (caps : Array Value) (p : Int → Bool) (hp : Pred w0 g caps p) (hw : Below w0.heap.size w0 w) (hb : w.cell? ⟨b, 0, none⟩ = some (.func (.func g) #[] caps)) (hb' : b < w.heap.size) :
    Pred w 130 #[.pointer (some ⟨b, 0, none⟩)] (fun x => !p x) := by
  refine ⟨Try.call130, fun W x hW => ?_⟩
  have eg := hp.1
  have hc : W.cell? ⟨b, 0, none⟩ = some (.func (.func g) #[] caps) := (hW.cell (p := ⟨b, 0, none⟩) hb').trans hb
  have HP : Hid (Below w0.heap.size w0 W) := hw.trans (hW.mono hw.size)
  clear hW hb hw
  go_enter Try.func130, Try.ntmps130
  go_wp2_with fail
  refine (hp.2 _ x HP.out).mono ?_
  rintro e w' ⟨rfl, k', rfl⟩
  go_wp2
  go_ret
  exact ⟨rfl, _, rfl⟩
theorem all_any (w : World) (v : Value) (xs : List Int) (B : Nat) (hv : OwnI w B v xs) (g : FuncId) (caps : Array Value) (p : Int → Bool) (hp : Pred w g caps p) :
    Calls Try.prog 102 #[v, .func (.func g) #[] caps] w fun e w' => e = .returned (.bool (xs.all p)) ∧ Below w.heap.size w w' := by
  have HP := Lib.hid hp
  clear hp
  have HF := Lib.hid (all_eq_not_any p xs)
  go_enter Try.func102, Try.ntmps102
  go_wp2_with fail
  refine (containsFunc_any _ v xs B (hv.alloc _) _ _ _ (allNot_pred _ w w.heap.size g caps p HP.out ((Below.refl _ _).alloc (Nat.le_refl _) _) (by simp) (by simp))).mono ?_
  rintro e w' ⟨rfl, k', rfl⟩
  go_wp2
  go_ret
  exact ⟨by rw [HF.out]; rfl, below_drewN ((Below.refl _ _).alloc (Nat.le_refl _) _) _⟩

/-! ### The code for a modulus and numbers -/
theorem modular1_pred (w : World) (b : Nat) (m : Int) (hm : isModB m = true) (hb : w.cell? ⟨b, 0, none⟩ = some (.int .i64 m)) (hb' : b < w.heap.size) : Pred w 133 #[.pointer (some ⟨b, 0, none⟩)] (fun a => isNumB a m) := by
  refine ⟨Try.call133, fun W x hW => ?_⟩
  have hc := (hW.cell (p := ⟨b, 0, none⟩) hb').trans hb
  have HM := Lib.hid hm
  clear hW hb hm
  go_enter Try.func133, Try.ntmps133
  go_wp2_with (go_at_call 59; refine (isNumber_any _ _ _ HM.out).mono ?_; rintro e w' ⟨rfl, k', rfl⟩)
  go_ret
  exact ⟨rfl, _, rfl⟩
theorem modular_any (m : Int) (w : World) (v : Value) (xs : List Int) (B : Nat) (hv : OwnI w B v xs) :
    Calls Try.prog 107 #[.int .i64 m, v] w fun e w' => e = .returned (.int .i64 (codeR m xs)) ∧ Below w.heap.size w w' := by
  cases hm : isModB m
  · have HF : Hid (codeR m xs = 1) := by simp [Hid, codeR, hm]
    have HM := Lib.hid hm
    clear hm
    go_enter Try.func107, Try.ntmps107
    go_wp2_with (go_at_call 101; refine (iIsModulus_any _ _).mono ?_; rintro e w' ⟨rfl, k', rfl⟩; rw [HM.out])
    go_ret
    exact ⟨by rw [HF.out]; rfl, below_drewN ((Below.refl _ _).alloc (Nat.le_refl _) _) _⟩
  · have HM := Lib.hid hm
    have HN : Hid (codeR m xs = if numsB m xs = false then 2 else 0) := by simp [Hid, codeR, hm]
    clear hm
    have HA : Hid (numsB m xs = xs.all fun a => isNumB a m) := rfl
    cases hn : numsB m xs
    all_goals
      rw [hn] at HN HA
      have HX := Lib.hid hn
      clear hn
      go_enter Try.func107, Try.ntmps107
      go_wp2_with (first | (go_at_call 101; refine (iIsModulus_any _ _).mono ?_; rintro e w' ⟨rfl, k', rfl⟩; rw [HM.out]) | fail)
      refine (all_any _ v xs B (OwnI.drewN (hv.alloc _) _) _ _ _ (modular1_pred _ w.heap.size m HM.out (by simp) (by simp))).mono ?_
      rintro e w' ⟨rfl, hb⟩
      rw [← HA.out]
      go_wp2
      go_ret
      exact ⟨by rw [HN.out]; rfl, ((Below.refl _ _).alloc (Nat.le_refl _) _).trans ((below_drewN (Below.refl _ _) _).trans (hb.mono (by simp)))⟩

/-! ### A block that holds a list of int64 -/
/-- Block g is a row of c cells of int64, none frozen, whose first cells are xs. -/
def RowI (w : World) (g c : Nat) (xs : List Int) : Prop :=
  xs.length ≤ c ∧ c ≤ maxLen ∧ ∃ cur : Array Value, w.heap[g]? = some (.cells cur 2 (0, 0)) ∧ cur.size = c ∧ cur.toList.take xs.length = xs.map (Value.int .i64)
/-- The slice value of a row. -/
def slI (g n c : Nat) : Value := .slice (some ⟨g, 0, none⟩) n c
section
variable {w w' : World} {B g c : Nat} {v : Value} {xs : List Int}
theorem RowI.own (h : RowI w g c xs) (hB : B ≤ g) : OwnI w B (.slice (some ⟨g, 0, none⟩) xs.length c) xs := by
  obtain ⟨h1, h2, cur, h3, h4, h5⟩ := h
  exact ⟨by simp, .inr ⟨g, c, cur, rfl, hB, h3, h1, h2, by omega, by simpa using h5⟩⟩
theorem OwnI.row (h : OwnI w B v xs) : (v = .slice none 0 0 ∧ xs = []) ∨ ∃ g c, v = .slice (some ⟨g, 0, none⟩) xs.length c ∧ B ≤ g ∧ RowI w g c xs := by
  rcases h.2 with ⟨h1, h2⟩ | ⟨g, cap, cur, h1, h2, h3, h4, h5, h6, h7⟩
  · exact .inl ⟨h1, List.eq_nil_of_length_eq_zero h2⟩
  · exact .inr ⟨g, cap, h1, h2, h4, h5, cur, h3, by omega, by simpa using h7⟩
theorem RowI.lt (h : RowI w g c xs) : g < w.heap.size := by
  obtain ⟨_, _, cur, h3, _⟩ := h
  exact lt_of_block h3
theorem RowI.of_block (h : RowI w g c xs) (e : w'.heap[g]? = w.heap[g]?) : RowI w' g c xs := by
  obtain ⟨h1, h2, cur, h3, h4⟩ := h
  exact ⟨h1, h2, cur, e.trans h3, h4⟩
theorem RowI.drewN (h : RowI w g c xs) (n : Nat) : RowI (w.drewN n) g c xs := h
theorem RowI.drew (h : RowI w g c xs) : RowI w.drew g c xs := h
theorem RowI.alloc (h : RowI w g c xs) (o : Obj) : RowI (w.alloc o) g c xs := h.of_block (Below.heap_alloc w o g h.lt)
theorem RowI.below {C : Nat} (h : RowI w g c xs) (hb : Below C w w') (hg : g < C) : RowI w' g c xs := h.of_block (hb.block g hg)
theorem RowI.grown {row : Option Nat} (h : RowI w g c xs) (hb : w.grownBy w' row) (hg : some g ≠ row) : RowI w' g c xs := h.of_block (hb.block g h.lt hg)
theorem RowI.far (h : RowI w g c xs) {p : Addr} (hp : g ≠ p.block) (u : Value) : RowI (w.setCell p u) g c xs := h.of_block (Below.heap_setCell w p u g hp)
theorem RowI.cell (h : RowI w g c xs) {k : Nat} (hk : k < xs.length) : w.cell? ⟨g, k, none⟩ = some (.int .i64 (xs.getD k 0)) := by
  obtain ⟨h1, h2, cur, h3, h4, h5⟩ := h
  rw [cell_of_row w g k cur _ (0, 0) h3]
  have e : cur.toList[k]? = (xs.map (Value.int .i64))[k]? := by rw [← h5, List.getElem?_take, if_pos hk]
  simp only [Array.getElem?_toList] at e
  rw [e, List.getElem?_map, List.getD_eq_getElem?_getD, List.getElem?_eq_getElem hk]
  rfl
theorem RowI.free (h : RowI w g c xs) (k : Nat) : w.frozen? ⟨g, k, none⟩ = false := by
  obtain ⟨h1, h2, cur, h3, h4⟩ := h
  simp [World.frozen?, h3]
theorem RowI.set_ (h : RowI w g c xs) (k : Nat) (y : Int) : RowI (w.setCell ⟨g, k, none⟩ (.int .i64 y)) g c (xs.set k y) := by
  obtain ⟨h1, h2, cur, h3, h4, h5⟩ := h
  refine ⟨by simpa using h1, h2, cur.setIfInBounds k (.int .i64 y), ?_, by simpa using h4, ?_⟩
  · simp [World.setCell, Array.getElem?_modify, h3]
  · rw [Array.toList_setIfInBounds, List.length_set, List.map_set, ← h5, List.take_set]
theorem RowI.cut (h : RowI w g c xs) {n : Nat} (hn : n ≤ xs.length) : RowI w g c (xs.take n) := by
  obtain ⟨h1, h2, cur, h3, h4, h5⟩ := h
  refine ⟨by simp; omega, h2, cur, h3, h4, ?_⟩
  have hl : (xs.take n).length = n := by simp; omega
  rw [hl, List.map_take, ← h5, List.take_take]
  congr 1
  omega
/-- A literal of n numbers in a new block. -/
theorem RowI.lit (w : World) (xs : List Int) (cs : Array Value) (hc : cs.toList = xs.map (Value.int .i64)) (hl : xs.length ≤ maxLen) : RowI (w.alloc (.cells cs 2)) w.heap.size xs.length xs := by
  refine ⟨Nat.le_refl _, hl, cs, heap_alloc_new w _, ?_, ?_⟩
  · rw [← Array.length_toList, hc, List.length_map]
  · rw [hc, List.take_of_length_le (by simp)]
end
theorem T.info64 : (Try.prog.info? 2).map (fun i => (i.zero, i.size, i.bytes)) = some (some (.int .i64 0), 1, 8) := by kernel_rfl

/-! ### append of one number, make -/
theorem append1 {w : World} {ops : Array Oper} {rest : List Oper} {o : Oper} {a : Act} {Q : Exit → Act → World → Prop} (s x : Operand) (B : Nat) (v : Value) (xs : List Int) (y : Int)
    (hgd : o.guard = none) (ho : o.op = .call { callee := .builtin .append, args := #[s, x], argTypes := #[22, 22] })
    (hs : a.eval s = v) (hx : a.eval x = .slice (some ⟨w.heap.size, 0, none⟩) 1 1) (hv : OwnI w B v xs) (hl : xs.length ≤ 1000000000000) (hB : B ≤ w.heap.size)
    (h : ∀ v' w', OwnI w' B v' (xs ++ [y]) → w.grownBy w' v.ownBlock → wpList Try.prog ops Q rest (a.put o.dst v') w') :
    wpList Try.prog ops Q (o :: rest) a (w.alloc (.cells #[.int .i64 y] 2)) := by
  obtain ⟨i0, hi, hz0, hz1, hz2⟩ := info_parts T.info64
  refine wpList_append_own _ hgd s x 22 ho B 2 i0 (.int .i64 0) 1 8 Try.underlying22 hi hz0 hz1 hz2 rfl (by decide) v xs.length (xs.map (Value.int .i64)) hs (World.ownsRow.alloc hv _) ⟨w.heap.size, 0, none⟩ 1 1 [.int .i64 y] hx rfl (cell_one_new _ _ _) (fun u hu => by simp at hu; subst hu; rfl) (by unfold maxLen; omega) (by omega) (by simp; omega) ?_
  intro v' w' h1 h2 _
  refine h v' w' ?_ ⟨h2.os, h2.tape, h2.output, by have := h2.size; simp at this; omega, fun k hk hne => (h2.block k (by simp; omega) hne).trans (Below.heap_alloc _ _ _ hk)⟩
  unfold OwnI
  simpa using h1
theorem OwnI.ne_ {w : World} {B g : Nat} {v : Value} {xs : List Int} (h : OwnI w B v xs) (hg : g < B) : some g ≠ v.ownBlock := by
  rcases h.row with ⟨rfl, _⟩ | ⟨g', c, rfl, h1, _⟩
  · simp [Value.ownBlock]
  · simp [Value.ownBlock]; omega
theorem OwnI.below {w0 w w' : World} {B C : Nat} {v : Value} {xs : List Int} (h : OwnI w B v xs) (hb : Below C w0 w) (hg : w.grownBy w' v.ownBlock) (hC : C ≤ B) (hC' : C ≤ w.heap.size) : Below C w0 w' := by
  refine hb.grown hg hC' fun k hk => ?_
  rcases h.row with ⟨rfl, _⟩ | ⟨g', c, rfl, h1, _⟩
  · simp [Value.ownBlock] at hk
  · simp [Value.ownBlock] at hk; omega

/-! ### append of one number, where the new row lies -/
theorem stepAppend1 {W : World} {ops : Array Oper} {o : Oper} {a : Act} {K : Act → World → Prop} {Q : Exit → Act → World → Prop} {E : Prop} (s x : Operand) (B : Nat) (v : Value) (xs : List Int) (n : Nat) (y : Int) (b H : Nat)
    (hgd : o.guard = none) (ho : o.op = .call { callee := .builtin .append, args := #[s, x], argTypes := #[22, 22] })
    (hs : a.eval s = v) (hx : a.eval x = .slice (some ⟨b, 0, none⟩) 1 1) (hv : OwnI W B v xs) (hn : xs.length = n) (hb : W.heap[b]? = some (.cells #[.int .i64 y] 2 (0, 0)))
    (hl : n ≤ 1000000000000) (hB : B ≤ W.heap.size) (hH : W.heap.size = H)
    (h : ∀ g c w', RowI w' g c (xs ++ [y]) → B ≤ g → W.grownBy w' v.ownBlock → (v.ownBlock = some g ∨ g = H) → K (a.put o.dst (.slice (some ⟨g, 0, none⟩) (n + 1) c)) w') :
    if Region.wanted o (yielded ops a.tmps) = true then Oper.wp Try.prog o a W K Q else E := by
  subst hn
  obtain ⟨i0, hi, hz0, hz1, hz2⟩ := info_parts T.info64
  refine step_append_lies W hgd s x 22 ho B 2 i0 (.int .i64 0) 1 8 Try.underlying22 hi hz0 hz1 hz2 rfl (by decide) v xs.length (xs.map (Value.int .i64)) hs hv ⟨b, 0, none⟩ 1 1 [.int .i64 y] hx rfl (World.news_of_block (cs := #[.int .i64 y]) hb) (fun u hu => by simp at hu; subst hu; rfl) (by decide) (by unfold maxLen; omega) (by omega) hB H hH ?_
  intro g c w' h1 h2 h3 _
  have h4 : OwnI w' B (.slice (some ⟨g, 0, none⟩) (xs.length + 1) c) (xs ++ [y]) := by unfold OwnI; simpa using h1
  rcases h4.row with ⟨h5, _⟩ | ⟨g', c', h5, h6, h7⟩
  · simp at h5
  · simp only [Value.slice.injEq, Option.some.injEq, Addr.mk.injEq] at h5
    obtain ⟨⟨rfl, _⟩, _, rfl⟩ := h5
    exact h g c w' h7 h6 h2 h3
theorem wpAppend1 {W : World} {ops : Array Oper} {rest : List Oper} {o : Oper} {a : Act} {Q : Exit → Act → World → Prop} (s x : Operand) (B : Nat) (v : Value) (xs : List Int) (n : Nat) (y : Int) (b H : Nat)
    (hgd : o.guard = none) (ho : o.op = .call { callee := .builtin .append, args := #[s, x], argTypes := #[22, 22] })
    (hs : a.eval s = v) (hx : a.eval x = .slice (some ⟨b, 0, none⟩) 1 1) (hv : OwnI W B v xs) (hn : xs.length = n) (hb : W.heap[b]? = some (.cells #[.int .i64 y] 2 (0, 0)))
    (hl : n ≤ 1000000000000) (hB : B ≤ W.heap.size) (hH : W.heap.size = H)
    (h : ∀ g c w', RowI w' g c (xs ++ [y]) → B ≤ g → W.grownBy w' v.ownBlock → (v.ownBlock = some g ∨ g = H) → wpList Try.prog ops Q rest (a.put o.dst (.slice (some ⟨g, 0, none⟩) (n + 1) c)) w') :
    wpList Try.prog ops Q (o :: rest) a W := by
  subst hn
  obtain ⟨i0, hi, hz0, hz1, hz2⟩ := info_parts T.info64
  refine wpList_append_lies W hgd s x 22 ho B 2 i0 (.int .i64 0) 1 8 Try.underlying22 hi hz0 hz1 hz2 rfl (by decide) v xs.length (xs.map (Value.int .i64)) hs hv ⟨b, 0, none⟩ 1 1 [.int .i64 y] hx rfl (World.news_of_block (cs := #[.int .i64 y]) hb) (fun u hu => by simp at hu; subst hu; rfl) (by decide) (by unfold maxLen; omega) (by omega) hB H hH ?_
  intro g c w' h1 h2 h3 _
  have h4 : OwnI w' B (.slice (some ⟨g, 0, none⟩) (xs.length + 1) c) (xs ++ [y]) := by unfold OwnI; simpa using h1
  rcases h4.row with ⟨h5, _⟩ | ⟨g', c', h5, h6, h7⟩
  · simp at h5
  · simp only [Value.slice.injEq, Option.some.injEq, Addr.mk.injEq] at h5
    obtain ⟨⟨rfl, _⟩, _, rfl⟩ := h5
    exact h g c w' h7 h6 h2 h3
theorem RowI.own' {w : World} {B g c n : Nat} {xs : List Int} (h : RowI w g c xs) (hB : B ≤ g) (hn : xs.length = n) : OwnI w B (.slice (some ⟨g, 0, none⟩) n c) xs := by
  subst hn
  exact h.own hB
theorem RowI.block1 {w : World} (y : Int) : (w.alloc (.cells #[.int .i64 y] 2)).heap[w.heap.size]? = some (.cells #[.int .i64 y] 2 (0, 0)) := heap_alloc_new w _

end Go.Proofs.Ytfdklbimdkaaiaa
