/- Contracts over this seat's translation. Condition: each contract's own. -/
import Derived.Test.YtfdklbimdkaaiaaK
import Derived.ProofKit
import Derived.Laws.Bits64b
import Derived.Lib.Mul64
import Derived.OpenShut
import Derived.Below
import Derived.ChangeSame
import Derived.Deep.Modes
import Derived.Lib.SmallJoins
import Derived.ChangeSlices
import Derived.WalkKit
import Derived.WalkSpells
import Derived.WalkLawsBesides
import Derived.Deep.QuietTactic
import Derived.BigQuiet
import Derived.Deep.RegionHeld3
import Derived.Deep.RegionWith
import Derived.Deep.RegionLaw
import Derived.Deep.AppendLies
import Derived.Laws.CopyOwn
import Derived.Deep.DeepCutAuto
import Derived.Deep.OwnRows
import Derived.Deep.LoopGhost
import Derived.Deep.DeepFit
import Derived.Deep.DeepMust
import Derived.Deep.Draws
import Derived.Deep.CutRange
import Derived.Maps.AppendAt
import Derived.Lib.Hide
import Derived.StillTailTactics
import Derived.Laws.MakeOwn
import Derived.Deep.Matrix
set_option linter.unusedVariables false
open Go Go.RowKit
namespace Go.Proofs.Ytfdklbimdkaaiaa
/-! ### Standard laws: conditions, variables, sums -/
def stdB (m d : Int) (xs : List Int) : Bool := isModB m && inB d 1 10 && numsB m xs
def stdN (m d : Int) (xs : List Int) : Int := if stdB m d xs = true then 0 else 2
theorem standard1_pred (w : World) (b : Nat) (m : Int) (hm : isModB m = true) (hb : w.cell? ⟨b, 0, none⟩ = some (.int .i64 m)) (hb' : b < w.heap.size) : Pred w 134 #[.pointer (some ⟨b, 0, none⟩)] (fun a => isNumB a m) := by
  refine ⟨Try.call134, fun W x hW => ?_⟩
  have hc := (hW.cell (p := ⟨b, 0, none⟩) hb').trans hb
  have HM := Lib.hid hm
  clear hW hb hm
  go_enter Try.func134, Try.ntmps134
  go_wp2_with (go_at_call 59; refine (isNumber_any _ _ _ HM.out).mono ?_; rintro e w' ⟨rfl, k', rfl⟩)
  go_ret
  exact ⟨rfl, _, rfl⟩
theorem standard_any (m d : Int) (w : World) (v : Value) (xs : List Int) (B : Nat) (hv : OwnI w B v xs) :
    Calls Try.prog 113 #[.int .i64 m, .int .i64 d, v] w fun e w' => e = .returned (.int .i64 (stdN m d xs)) ∧ Below w.heap.size w w' := by
  cases hm : isModB m
  · have HF : Hid (stdN m d xs = 2) := by simp [Hid, stdN, stdB, hm]
    have HM := Lib.hid hm
    clear hm
    go_enter Try.func113, Try.ntmps113
    go_wp2_with (go_at_call 101; refine (iIsModulus_any _ _).mono ?_; rintro e w' ⟨rfl, k', rfl⟩; rw [HM.out])
    go_ret
    exact ⟨by rw [HF.out]; rfl, by (repeat (first | assumption | exact Below.refl _ _ | refine Below.alloc ?_ (by first | omega | (simp; done) | (simp; omega)) _ | refine Below.setCell ?_ (by first | omega | (simp; done) | (simp; omega)) _ | refine below_drewN ?_ _))⟩
  · have HM := Lib.hid hm
    cases hd : inB d 1 10
    · have HF : Hid (stdN m d xs = 2) := by simp [Hid, stdN, stdB, hd]
      have HD := Lib.hid hd
      clear hm hd
      go_enter Try.func113, Try.ntmps113
      go_wp2_with (first | (go_at_call 101; refine (iIsModulus_any _ _).mono ?_; rintro e w' ⟨rfl, k', rfl⟩; rw [HM.out]) | (go_at_call 62; refine (in_any _ _ _ _).mono ?_; rintro e w' ⟨rfl, k'', rfl⟩; rw [HD.out]))
      go_ret
      exact ⟨by rw [HF.out]; rfl, by (repeat (first | assumption | exact Below.refl _ _ | refine Below.alloc ?_ (by first | omega | (simp; done) | (simp; omega)) _ | refine Below.setCell ?_ (by first | omega | (simp; done) | (simp; omega)) _ | refine below_drewN ?_ _))⟩
    · have HD := Lib.hid hd
      have HN : Hid (stdN m d xs = if numsB m xs = true then 0 else 2) := by simp [Hid, stdN, stdB, hm, hd]
      have HA : Hid (numsB m xs = xs.all fun a => isNumB a m) := rfl
      clear hm hd
      cases hn : numsB m xs
      all_goals
        rw [hn] at HN HA
        clear hn
        go_enter Try.func113, Try.ntmps113
        go_wp2_with (first | (go_at_call 101; refine (iIsModulus_any _ _).mono ?_; rintro e w' ⟨rfl, k', rfl⟩; rw [HM.out]) | (go_at_call 62; refine (in_any _ _ _ _).mono ?_; rintro e w' ⟨rfl, k'', rfl⟩; rw [HD.out]))
        refine (all_any _ v xs B (OwnI.drewN (hv.alloc _) _) _ _ _ (standard1_pred _ w.heap.size m HM.out (by simp) (by simp))).mono ?_
        rintro e w' ⟨rfl, hb⟩
        rw [← HA.out]
        go_wp2
        go_ret
        exact ⟨by rw [HN.out]; rfl, ((Below.refl _ _).alloc (Nat.le_refl _) _).trans ((below_drewN (Below.refl _ _) _).trans (hb.mono (by simp)))⟩
theorem l08Kind_any (m d : Int) (w : World) (v : Value) (xs : List Int) (B : Nat) (hv : OwnI w B v xs) :
    Calls Try.prog 112 #[.int .i64 m, .int .i64 d, v] w fun e w' => e = .returned (.bool (stdB m d xs)) ∧ Below w.heap.size w w' := by
  obtain ⟨A, c, rfl, hc1, hc2, hA⟩ := hv.open_
  clear hv
  unfold maxLen at hc2
  cases hm : isModB m
  · have HF : Hid (stdB m d xs = false) := by simp [Hid, stdB, hm]
    have HM : Hid (inB m 2 10000 = false) := hm
    clear hm hA
    go_enter Try.func112, Try.ntmps112
    go_wp2_with (go_at_call 57; refine (l01In_any _ _ _ _).mono ?_; rintro e w' ⟨rfl, k', rfl⟩; rw [HM.out])
    go_ret
    exact ⟨by rw [HF.out]; rfl, by (repeat (first | assumption | exact Below.refl _ _ | refine Below.alloc ?_ (by first | omega | (simp; done) | (simp; omega)) _ | refine Below.setCell ?_ (by first | omega | (simp; done) | (simp; omega)) _ | refine below_drewN ?_ _))⟩
  · have HM : Hid (inB m 2 10000 = true) := hm
    have hmb := isModB_true hm
    cases hd : inB d 1 10
    · have HF : Hid (stdB m d xs = false) := by simp [Hid, stdB, hd]
      have HD := Lib.hid hd
      clear hm hd hA
      go_enter Try.func112, Try.ntmps112
      go_wp2_with (go_at_call 57; refine (l01In_any _ _ _ _).mono ?_; rintro e w' ⟨rfl, k', rfl⟩; first | rw [HM.out] | rw [HD.out])
      go_ret
      exact ⟨by rw [HF.out]; rfl, by (repeat (first | assumption | exact Below.refl _ _ | refine Below.alloc ?_ (by first | omega | (simp; done) | (simp; omega)) _ | refine Below.setCell ?_ (by first | omega | (simp; done) | (simp; omega)) _ | refine below_drewN ?_ _))⟩
    · have HD := Lib.hid hd
      have HN : Hid (stdB m d xs = numsB m xs) := by simp [Hid, stdB, hm, hd]
      clear hm hd
      go_enter Try.func112, Try.ntmps112
      go_wp2_with (go_at_call 57; refine (l01In_any _ _ _ _).mono ?_; rintro e w' ⟨rfl, k', rfl⟩; first | rw [HM.out] | rw [HD.out])
      go_loopw [7] (fun i wr => ∃ k : Nat, k ≤ xs.length ∧ i = .int .i64 k ∧ Hid (numsB m (xs.take k) = true) ∧ ∃ n, wr = w.drewN n) (fun i _ => xs.length - (intOf i).toNat)
      case atStart => exact ⟨0, Nat.zero_le _, rfl, rfl, _, rfl⟩
      case round =>
        obtain ⟨k, hk, rfl, hn, n, rfl⟩ := hrel
        by_cases hlt : k < xs.length
        · obtain ⟨g, rfl, hg1, hg2, hcell, hfr⟩ := hA k hlt
          clear hA
          obtain ⟨x, hx⟩ : ∃ x, x = xs.getD k 0 := ⟨_, rfl⟩
          rw [← hx] at hcell
          have HX := Lib.hid hx
          clear hx
          cases hin : inB x 0 (m - 1)
          · have HF : Hid (numsB m xs = false) := all_false_of_take (fun a => isNumB a m) xs k hlt (by rw [← HX.out]; exact hin)
            have HI := Lib.hid hin
            clear hin
            go_wp2_with (go_at_call 57; refine (l01In_any _ _ _ _).mono ?_; rintro e w' ⟨rfl, k', rfl⟩; rw [HI.out])
            go_ret
            exact ⟨by rw [HN.out, HF.out]; rfl, by (repeat (first | assumption | exact Below.refl _ _ | refine Below.alloc ?_ (by first | omega | (simp; done) | (simp; omega)) _ | refine Below.setCell ?_ (by first | omega | (simp; done) | (simp; omega)) _ | refine below_drewN ?_ _))⟩
          · have HF : Hid (numsB m (xs.take (k + 1)) = true) := by
              have e := all_take_succ (fun a => isNumB a m) xs k hlt
              rw [← HX.out] at e
              unfold Hid numsB
              rw [e, Bool.and_eq_true]
              exact ⟨hn.out, hin⟩
            have HI := Lib.hid hin
            clear hin
            go_wp2_with (go_at_call 57; refine (l01In_any _ _ _ _).mono ?_; rintro e w' ⟨rfl, k', rfl⟩; rw [HI.out])
            go_roundw
            case rel => exact ⟨k + 1, by omega, by go_num, HF.out, _, rfl⟩
            case measure => simp [intOf]; omega
        · have HF : Hid (numsB m xs = true) := by
            have := hn.out
            rwa [List.take_of_length_le (by omega)] at this
          go_wp2
          go_ret
          exact ⟨by rw [HN.out, HF.out]; rfl, by (repeat (first | assumption | exact Below.refl _ _ | refine Below.alloc ?_ (by first | omega | (simp; done) | (simp; omega)) _ | refine Below.setCell ?_ (by first | omega | (simp; done) | (simp; omega)) _ | refine below_drewN ?_ _))⟩

/-! ### Sums, compositions, reversions of series: the plain law -/
def plusF (m : Int) (a b : Nat → Int) (k : Nat) : Int := (a k + b k) % m
def plusL (m : Int) (d : Nat) (xs ys : List Int) : List Int := lst d (plusF m (co xs) (co ys))
theorem length_plusL (m : Int) (d : Nat) (xs ys : List Int) : (plusL m d xs ys).length = d := length_lst _ _
theorem NumL.plusL {m : Int} (hm : 0 < m) (d : Nat) (xs ys : List Int) : NumL m (plusL m d xs ys) := NumL.lst hm fun k _ => ⟨Int.emod_nonneg _ (by omega), Int.emod_lt_of_pos _ hm⟩
/-- Horner's rule for a composition: s steps from index t - 1 downwards. -/
def cmpF (m : Int) (a f : Nat → Int) (t : Nat) : Nat → Nat → Int
  | 0, _ => 0
  | s + 1, k => if k = 0 then (cv m (cmpF m a f t s) f 0 + a (t - 1 - s)) % m else cv m (cmpF m a f t s) f k
theorem cv_bd {m : Int} (hm : 0 < m) (a b : Nat → Int) (k : Nat) : 0 ≤ cv m a b k ∧ cv m a b k < m := cvTo_bd hm _ _ _ _
theorem cmpF_bd {m : Int} (hm : 0 < m) (a f : Nat → Int) (t s k : Nat) : 0 ≤ cmpF m a f t s k ∧ cmpF m a f t s k < m := by
  cases s with
  | zero => simp [cmpF, hm]
  | succ s =>
    simp only [cmpF]
    split
    · exact ⟨Int.emod_nonneg _ (by omega), Int.emod_lt_of_pos _ hm⟩
    · exact cv_bd hm _ _ _
/-- The composition with n coefficients of a, kept up to degree d - 1. -/
def cmpL (m : Int) (d : Nat) (xs ys : List Int) (t : Nat) : List Int := lst d (cmpF m (co xs) (co ys) t t)
theorem length_cmpL (m : Int) (d : Nat) (xs ys : List Int) (t : Nat) : (cmpL m d xs ys t).length = d := length_lst _ _
theorem co_lst {d : Nat} {g : Nat → Int} {k : Nat} (h : k < d) : co (lst d g) k = g k := getD_lst _ _ _ h
/-- One step of the program: a product, then a sum with a constant. -/
theorem cmp_step {m : Int} (hm : 0 < m) (d : Nat) (xs ys : List Int) (t s : Nat) (x : Int) (hx : x = co xs (t - 1 - s)) : plusL m d (timesL m d (lst d (cmpF m (co xs) (co ys) t s)) ys) (conL m d x) = lst d (cmpF m (co xs) (co ys) t (s + 1)) := by
  subst hx
  unfold plusL
  apply lst_congr
  intro k hk
  have e1 : co (timesL m d (lst d (cmpF m (co xs) (co ys) t s)) ys) k = cv m (cmpF m (co xs) (co ys) t s) (co ys) k := by
    unfold timesL
    rw [co_lst hk]
    exact cv_congr (fun i hi => co_lst (by omega)) fun _ _ => rfl
  have e2 : co (conL m d (co xs (t - 1 - s))) k = if k = 0 then co xs (t - 1 - s) % m else 0 := by unfold conL; rw [co_lst hk]
  unfold plusF
  rw [e1, e2]
  simp only [cmpF]
  by_cases h : k = 0
  · subst h
    simp
  · rw [if_neg h, if_neg h, Int.add_zero]
    have := cv_bd hm (cmpF m (co xs) (co ys) t s) (co ys) k
    exact Int.emod_eq_of_lt this.1 this.2
/-- One step of the reference: a product, then the constant is raised. -/
theorem cmp_step' {m : Int} (d : Nat) (xs ys : List Int) (t s : Nat) (x y : Int) (hx : x = co xs (t - 1 - s)) (hy : y = cv m (cmpF m (co xs) (co ys) t s) (co ys) 0) :
    (timesL m d (lst d (cmpF m (co xs) (co ys) t s)) ys).set 0 ((y + x) % m) = lst d (cmpF m (co xs) (co ys) t (s + 1)) := by
  subst hx hy
  unfold timesL
  rw [set_lst]
  apply lst_congr
  intro k hk
  unfold upd
  simp only [cmpF]
  by_cases h : k = 0
  · rw [if_pos h, if_pos h]
  · rw [if_neg h, if_neg h]
    exact cv_congr (fun i hi => co_lst (by omega)) fun _ _ => rfl
/-- The steps above index n do not reach coefficient n, where f begins with 0. -/
theorem cmp_cut (m : Int) (a f : Nat → Int) (hf : f 0 = 0) (n r : Nat) : ∀ s k, k + 1 ≤ s → s ≤ n + 1 → cmpF m a f (n + 1 + r) (r + s) k = cmpF m a f (n + 1) s k := by
  intro s
  induction s with
  | zero => intro k hk _; omega
  | succ s ih =>
    intro k hk hs
    have hcv : cv m (cmpF m a f (n + 1 + r) (r + s)) f k = cv m (cmpF m a f (n + 1) s) f k := by
      unfold cv cvTo
      simp only [sumN]
      rw [show k - k = 0 by omega, hf, Int.mul_zero, Int.mul_zero]
      rw [sumN_congr (n := k) (g := fun i => cmpF m a f (n + 1) s i * f (k - i))]
      intro i hi
      rw [ih i (by omega) (by omega)]
    rw [show r + (s + 1) = (r + s) + 1 by omega]
    simp only [cmpF]
    rw [hcv, show n + 1 + r - 1 - (r + s) = n + 1 - 1 - s by omega]
    by_cases h : k = 0
    · subst h
      rw [if_pos rfl, if_pos rfl]
      rw [show cv m (cmpF m a f (n + 1 + r) (r + s)) f 0 = cv m (cmpF m a f (n + 1) s) f 0 from hcv]
    · rw [if_neg h, if_neg h]
theorem cmpF_congr (m : Int) (a a' f f' : Nat → Int) (t : Nat) (n : Nat) (ha : ∀ i, i < t → a i = a' i) (hf : ∀ i, i ≤ n → f i = f' i) : ∀ s k, s ≤ t → k ≤ n → cmpF m a f t s k = cmpF m a' f' t s k := by
  intro s
  induction s with
  | zero => intro k _ _; rfl
  | succ s ih =>
    intro k hs hk
    simp only [cmpF]
    have hcv : ∀ j, j ≤ n → cv m (cmpF m a f t s) f j = cv m (cmpF m a' f' t s) f' j := fun j hj => cv_congr (fun i hi => ih i (by omega) (by omega)) fun i hi => hf i (by omega)
    rw [hcv 0 (by omega), hcv k hk, ha (t - 1 - s) (by omega)]
/-- The number at n of a composition, as far as coefficient n. -/
def rvF (m : Int) (a : Nat → Int) (l : List Int) (n : Nat) : Int := cmpF m a (co l) (n + 1) (n + 1) n
theorem rvF_bd {m : Int} (hm : 0 < m) (a : Nat → Int) (l : List Int) (n : Nat) : 0 ≤ rvF m a l n ∧ rvF m a l n < m := cmpF_bd hm _ _ _ _ _
/-- The reversion, degree by degree. -/
def revTo (m u : Int) (a : Nat → Int) (d : Nat) : Nat → Nat → Int
  | 0 => fun k => if k = 1 then u else 0
  | n + 1 => upd (revTo m u a d n) (n + 2) ((m - rvF m a (lst d (revTo m u a d n)) (n + 2)) * u % m)
theorem revTo_zero (m u : Int) (a : Nat → Int) (d n : Nat) : revTo m u a d n 0 = 0 := by
  induction n with
  | zero => simp [revTo]
  | succ n ih => simp only [revTo, upd]; rw [if_neg (by omega), ih]
theorem revTo_bd {m u : Int} (hm : 0 < m) (hu : 0 ≤ u ∧ u < m) (a : Nat → Int) (d n k : Nat) : 0 ≤ revTo m u a d n k ∧ revTo m u a d n k < m := by
  induction n generalizing k with
  | zero => simp only [revTo]; split <;> omega
  | succ n ih =>
    simp only [revTo, upd]
    split
    · exact ⟨Int.emod_nonneg _ (by omega), Int.emod_lt_of_pos _ hm⟩
    · exact ih k
def revS (m u : Int) (a : Nat → Int) (d n : Nat) : List Int := lst d (revTo m u a d n)
theorem length_revS (m u : Int) (a : Nat → Int) (d n : Nat) : (revS m u a d n).length = d := length_lst _ _
theorem NumL.revS {m u : Int} (hm : 0 < m) (hu : 0 ≤ u ∧ u < m) (a : Nat → Int) (d n : Nat) : NumL m (revS m u a d n) := NumL.lst hm fun k _ => revTo_bd hm hu a d n k
theorem revS_zero (m u : Int) (a : Nat → Int) (d n : Nat) (hd : 0 < d) : co (revS m u a d n) 0 = 0 := by unfold revS; rw [co_lst hd, revTo_zero]
theorem revS_start (m u : Int) (a : Nat → Int) (d : Nat) : (List.replicate d (0 : Int)).set 1 u = revS m u a d 0 := by
  unfold revS
  rw [replicate_lst, set_lst]
  apply lst_congr
  intro j _
  simp [upd, revTo]
theorem revS_next (m u : Int) (a : Nat → Int) (d n : Nat) : (revS m u a d n).set (n + 2) ((m - rvF m a (revS m u a d n) (n + 2)) * u % m) = revS m u a d (n + 1) := by
  unfold revS
  rw [set_lst]
  rfl
/-- The number that the program reads off its whole composition. -/
theorem cmpL_at (m : Int) (xs ys : List Int) (n d : Nat) (hn : n < d) (h0 : co ys 0 = 0) : co (cmpL m d xs ys d) n = rvF m (co xs) ys n := by
  unfold cmpL rvF
  rw [co_lst hn]
  obtain ⟨r, rfl⟩ : ∃ r, d = n + 1 + r := ⟨d - (n + 1), by omega⟩
  have := cmp_cut m (co xs) (co ys) h0 n r (n + 1) n (by omega) (by omega)
  rw [show r + (n + 1) = n + 1 + r by omega] at this
  exact this
/-- The number that the reference reads off its short composition. -/
theorem cmpL_end (m : Int) (xs ys : List Int) (n : Nat) : co (cmpL m (n + 1) xs ys (n + 1)) n = rvF m (co xs) ys n := by
  unfold cmpL rvF
  rw [co_lst (by omega)]
def revL (m : Int) (xs : List Int) : List Int := revS m (invN m (co xs 1)) (co xs) xs.length (xs.length - 2)
theorem length_revL (m : Int) (xs : List Int) : (revL m xs).length = xs.length := length_revS _ _ _ _ _
theorem NumL.cmpL {m : Int} (hm : 0 < m) (d : Nat) (xs ys : List Int) (t : Nat) : NumL m (cmpL m d xs ys t) := NumL.lst hm fun k _ => cmpF_bd hm _ _ _ _ _
def cmpS (m : Int) (d : Nat) (xs ys : List Int) (t s : Nat) : List Int := lst d (cmpF m (co xs) (co ys) t s)
theorem cmpS_zero (m : Int) (d : Nat) (xs ys : List Int) (t : Nat) : cmpS m d xs ys t 0 = List.replicate d 0 := by rw [replicate_lst]; rfl
theorem cmpS_all (m : Int) (d : Nat) (xs ys : List Int) (t : Nat) : cmpS m d xs ys t t = cmpL m d xs ys t := rfl
theorem length_cmpS (m : Int) (d : Nat) (xs ys : List Int) (t s : Nat) : (cmpS m d xs ys t s).length = d := length_lst _ _
theorem NumL.cmpS {m : Int} (hm : 0 < m) (d : Nat) (xs ys : List Int) (t s : Nat) : NumL m (cmpS m d xs ys t s) := NumL.lst hm fun k _ => cmpF_bd hm _ _ _ _ _
theorem cmpS_con (m : Int) (d : Nat) (xs ys : List Int) (t : Nat) : conL m d 0 = cmpS m d xs ys t 0 := by
  unfold conL cmpS
  apply lst_congr
  intro k _
  simp [cmpF]

/-! ### Sums and compositions of series (impl) -/
set_option maxRecDepth 16000 in
set_option maxHeartbeats 4000000 in
theorem serPlus_any (w : World) (m m2 : Int) (v v2 : Value) (xs ys zs : List Int) (d : Nat) (B B2 : Nat) (hv : OwnI w B v xs) (hv2 : OwnI w B2 v2 ys) (hm : 2 ≤ m) (hm' : m ≤ 3000000000) (hn : NumL m xs) (hn2 : NumL m ys) (hd : xs.length = d) (hd2 : ys.length = d) (hl0 : 1 ≤ d) (hl : d ≤ 1000) (hz : plusL m d xs ys = zs) :
    Calls Try.prog 115 #[.agg #[.int .i64 m, v], .agg #[.int .i64 m2, v2]] w (NewS w m zs) := by
  obtain ⟨A, cp, e0, hc1, hc2, hA⟩ := hv.open_
  obtain ⟨A2, cp2, e2, hc3, hc4, hA2⟩ := hv2.open_
  rw [hd] at e0 hc1 hA
  rw [hd2] at e2 hc3 hA2
  subst e0 e2
  unfold maxLen at hc2 hc4
  have HZ := Lib.hid hz
  have HN := Lib.hid hn
  have HN2 := Lib.hid hn2
  clear hz hn hn2 hv hv2 hd hd2
  go_enter Try.func115, Try.ntmps115
  go_upto_region 1 with fail
  go_cut [5] from 7 to 11 (fun s wx => ∃ bo g : Nat, s = .pointer (some ⟨bo, 0, none⟩) ∧ w.heap.size + 3 ≤ bo ∧ bo < wx.heap.size ∧ w.heap.size + 3 ≤ g ∧ g < wx.heap.size ∧ bo ≠ g ∧ Hid (Bf wx bo (.int .i64 m) (.slice (some ⟨g, 0, none⟩) d d)) ∧ Hid (RowI wx g d (List.replicate d 0)) ∧ Hid (Bf wx w.heap.size (.int .i64 m) (.slice A d cp)) ∧ Hid (Bf wx (w.heap.size + 1) (.int .i64 m2) (.slice A2 d cp2)) ∧ Hid (Bf wx (w.heap.size + 2) (.int .i64 0) (.slice none 0 0)) ∧ Hid (Below w.heap.size w wx))
  case first =>
    go_region_held3 (fun w' => w'.cell? ⟨w.heap.size, 0, none⟩ = some (.int .i64 m) ∧ w'.cell? ⟨w.heap.size, 1, none⟩ = some (.slice A d cp))
      (first | go_keep | (refine (fun (h : Bf _ w.heap.size (.int .i64 m) (.slice A d cp)) => ⟨h.1.2.1, h.1.2.2⟩) ((Bf.alloc1 w _ _ 26).keep ?_); (repeat (first | assumption | exact Below.refl _ _ | (refine Below.alloc ?_ ?_ _; rotate_left; (focus (first | exact Nat.le_refl _ | omega | (simp; done) | (simp; omega)))) | (refine Below.setCell ?_ ?_ _; rotate_left; (focus (first | exact Nat.le_refl _ | omega | (simp; done) | (simp; omega)))) | refine below_drew ?_ | refine below_drewN ?_ _ | (refine Below.trans ?_ (Below.mono hb2 ?_); rotate_left; (focus (first | exact Nat.le_refl _ | omega | (simp; done) | (simp; omega)))) | (refine Below.trans ?_ (Below.mono hb1 ?_); rotate_left; (focus (first | exact Nat.le_refl _ | omega | (simp; done) | (simp; omega))))))))
      (first | (go_at_call 54; refine (iDegree_any m A d cp _ (by omega)).mono ?_; rintro e w1 ⟨rfl, hb1⟩; have P1 : Bf w1 w.heap.size (.int .i64 m) (.slice A d cp) := ((Bf.alloc1 w _ _ 26).keep (by (repeat (first | assumption | exact Below.refl _ _ | (refine Below.alloc ?_ ?_ _; rotate_left; (focus (first | exact Nat.le_refl _ | omega | (simp; done) | (simp; omega)))) | (refine Below.setCell ?_ ?_ _; rotate_left; (focus (first | exact Nat.le_refl _ | omega | (simp; done) | (simp; omega)))) | refine below_drew ?_ | refine below_drewN ?_ _ | (refine Below.trans ?_ (Below.mono hb1 ?_); rotate_left; (focus (first | exact Nat.le_refl _ | omega | (simp; done) | (simp; omega)))))))); have p1a := P1.1.2.1; have p1b := P1.1.2.2; obtain ⟨hc1, hf1⟩ := bcell hb1; have z1 := hb1.size; (try simp at z1); have z1p : w.heap.size < w1.heap.size := (by omega); (first | (have y1 : w.heap.size + 3 < w1.heap.size := (by omega)) | skip)) | (go_at_call 60; refine (zero_any _ m _ d (by omega) (by omega)).mono ?_; rintro e w2 ⟨g, rfl, hg, hr2, hb2⟩; have P2 : Bf w2 w.heap.size (.int .i64 m) (.slice A d cp) := ((Bf.alloc1 w _ _ 26).keep (by (repeat (first | assumption | exact Below.refl _ _ | (refine Below.alloc ?_ ?_ _; rotate_left; (focus (first | exact Nat.le_refl _ | omega | (simp; done) | (simp; omega)))) | (refine Below.setCell ?_ ?_ _; rotate_left; (focus (first | exact Nat.le_refl _ | omega | (simp; done) | (simp; omega)))) | refine below_drew ?_ | refine below_drewN ?_ _ | (refine Below.trans ?_ (Below.mono hb2 ?_); rotate_left; (focus (first | exact Nat.le_refl _ | omega | (simp; done) | (simp; omega)))) | (refine Below.trans ?_ (Below.mono hb1 ?_); rotate_left; (focus (first | exact Nat.le_refl _ | omega | (simp; done) | (simp; omega)))))))); have p2a := P2.1.2.1; have p2b := P2.1.2.2; obtain ⟨hc2, hf2⟩ := bcell hb2; have z2 := hb2.size; (try simp at z2); (try simp at hg); have z2p : w.heap.size < w2.heap.size := (by omega)))
    all_goals
      go_wp2_with fail
      go_meet
      have zg := hr2.lt
      have KK : Hid (Below w.heap.size w w2) := by (repeat (first | assumption | exact Below.refl _ _ | (refine Below.alloc ?_ ?_ _; rotate_left; (focus (first | exact Nat.le_refl _ | omega | (simp; done) | (simp; omega)))) | (refine Below.setCell ?_ ?_ _; rotate_left; (focus (first | exact Nat.le_refl _ | omega | (simp; done) | (simp; omega)))) | refine below_drew ?_ | refine below_drewN ?_ _ | (refine Below.trans ?_ (Below.mono hb2 ?_); rotate_left; (focus (first | exact Nat.le_refl _ | omega | (simp; done) | (simp; omega)))) | (refine Below.trans ?_ (Below.mono hb1 ?_); rotate_left; (focus (first | exact Nat.le_refl _ | omega | (simp; done) | (simp; omega))))))
      refine ⟨_, g, rfl, ?_, ?_, ?_, ?_, ?_, ?_, ?_, ?_, ?_, ?_,  ?_⟩
      · first | exact Nat.le_refl _ | omega | (simp; done) | (simp; omega)
      · first | omega | (simp; done) | (simp; omega) | (simp [World.setCell]; omega)
      · first | omega | (simp; omega)
      · first | omega | (simp; done) | (simp; omega) | (simp [World.setCell]; omega)
      · first | omega | (simp; omega)
      · first | exact Bf.alloc1 w2 _ _ _ | exact ((Bf.alloc1 w1 _ _ _).keep hb2).store2 | exact (((Bf.q4 (w := w)).keep (below_undrew hb1)).keep hb2).store2
      · first | exact hr2.alloc _ | exact (hr2.far (by first | omega | (simp; omega)) _).far (by first | omega | (simp; omega)) _
      · exact (Bf.q1 (w := w) (t := 26)).keep (by (repeat (first | assumption | exact Below.refl _ _ | (refine Below.alloc ?_ ?_ _; rotate_left; (focus (first | exact Nat.le_refl _ | omega | (simp; done) | (simp; omega)))) | (refine Below.setCell ?_ ?_ _; rotate_left; (focus (first | exact Nat.le_refl _ | omega | (simp; done) | (simp; omega)))) | refine below_drew ?_ | refine below_drewN ?_ _ | (refine Below.trans ?_ (Below.mono hb2 ?_); rotate_left; (focus (first | exact Nat.le_refl _ | omega | (simp; done) | (simp; omega)))) | (refine Below.trans ?_ (Below.mono hb1 ?_); rotate_left; (focus (first | exact Nat.le_refl _ | omega | (simp; done) | (simp; omega)))))))
      · exact (Bf.q2 (w := w) (t := 26) (t' := 26)).keep (by (repeat (first | assumption | exact Below.refl _ _ | (refine Below.alloc ?_ ?_ _; rotate_left; (focus (first | exact Nat.le_refl _ | omega | (simp; done) | (simp; omega)))) | (refine Below.setCell ?_ ?_ _; rotate_left; (focus (first | exact Nat.le_refl _ | omega | (simp; done) | (simp; omega)))) | refine below_drew ?_ | refine below_drewN ?_ _ | (refine Below.trans ?_ (Below.mono hb2 ?_); rotate_left; (focus (first | exact Nat.le_refl _ | omega | (simp; done) | (simp; omega)))) | (refine Below.trans ?_ (Below.mono hb1 ?_); rotate_left; (focus (first | exact Nat.le_refl _ | omega | (simp; done) | (simp; omega)))))))
      · exact (Bf.q3 (w := w) (t := 26) (t' := 26)).keep (by (repeat (first | assumption | exact Below.refl _ _ | (refine Below.alloc ?_ ?_ _; rotate_left; (focus (first | exact Nat.le_refl _ | omega | (simp; done) | (simp; omega)))) | (refine Below.setCell ?_ ?_ _; rotate_left; (focus (first | exact Nat.le_refl _ | omega | (simp; done) | (simp; omega)))) | refine below_drew ?_ | refine below_drewN ?_ _ | (refine Below.trans ?_ (Below.mono hb2 ?_); rotate_left; (focus (first | exact Nat.le_refl _ | omega | (simp; done) | (simp; omega)))) | (refine Below.trans ?_ (Below.mono hb1 ?_); rotate_left; (focus (first | exact Nat.le_refl _ | omega | (simp; done) | (simp; omega)))))))
      · (repeat (first | assumption | exact Below.refl _ _ | (refine Below.alloc ?_ ?_ _; rotate_left; (focus (first | exact Nat.le_refl _ | omega | (simp; done) | (simp; omega)))) | (refine Below.setCell ?_ ?_ _; rotate_left; (focus (first | exact Nat.le_refl _ | omega | (simp; done) | (simp; omega)))) | refine below_drew ?_ | refine below_drewN ?_ _ | (refine Below.trans ?_ (Below.mono hb2 ?_); rotate_left; (focus (first | exact Nat.le_refl _ | omega | (simp; done) | (simp; omega)))) | (refine Below.trans ?_ (Below.mono hb1 ?_); rotate_left; (focus (first | exact Nat.le_refl _ | omega | (simp; done) | (simp; omega))))))
  case rest =>
    obtain ⟨bo, g, rfl, hbo1, hbo2, hg1, hg2, hne, HO, HR, HP, HP2, HQ, HB⟩ := hcut
    have p1 := HP.out.1.2.1
    have p2 := HP.out.1.2.2
    have o1 := HO.out.1.2.1
    have o2 := HO.out.1.2.2
    go_wp2
    go_loopw [15] (fun s wr => ∃ k : Nat, k ≤ d ∧ s = .int .i64 k ∧ Hid (Bf wr bo (.int .i64 m) (.slice (some ⟨g, 0, none⟩) d d)) ∧ Hid (RowI wr g d (lst d (fillF (plusF m (co xs) (co ys)) k))) ∧ Hid (Bf wr w.heap.size (.int .i64 m) (.slice A d cp)) ∧ Hid (Bf wr (w.heap.size + 1) (.int .i64 m2) (.slice A2 d cp2)) ∧ Hid (Bf wr (w.heap.size + 2) (.int .i64 0) (.slice none 0 0)) ∧ Hid (Below w.heap.size w wr)) (fun s _ => d - (intOf s).toNat)
    case atStart => exact ⟨0, Nat.zero_le _, rfl, HO, (by unfold Hid; rw [fill_zero]; exact HR.out), HP, HP2, HQ, HB⟩
    case round =>
      clear HO HR HP HP2 HQ HB p1 p2 o1 o2
      obtain ⟨k, hk, rfl, HO, HR, HP, HP2, HQ, HB⟩ := hrel
      have p1 := HP.out.1.2.1
      have p2 := HP.out.1.2.2
      have p3 := HP2.out.1.2.2
      have o1 := HO.out.1.2.1
      have o2 := HO.out.1.2.2
      have q1 := HQ.out.1.2.1
      have q2 := HQ.out.1.2.2
      have q3 := HQ.out.2.1
      have q4 := HQ.out.2.2
      have hzP := HP.out.1.1
      have hzO := HO.out.1.1
      by_cases hlt : k < d
      · obtain ⟨b, rfl, hb1, hb2, hcell, -⟩ := hA k hlt
        obtain ⟨b2, rfl, hb3, hb4, hcell2, -⟩ := hA2 k hlt
        clear hA hA2
        have hc0 : wr.cell? ⟨b, k, none⟩ = some (.int .i64 (co xs k)) := (HB.out.cell (p := ⟨b, k, none⟩) hb2).trans hcell
        have hc1' : wr.cell? ⟨b2, k, none⟩ = some (.int .i64 (co ys k)) := (HB.out.cell (p := ⟨b2, k, none⟩) hb4).trans hcell2
        have hnk : 0 ≤ co xs k ∧ co xs k < m := HN.out k
        have hnk2 : 0 ≤ co ys k ∧ co ys k < m := HN2.out k
        have hs := fill_step (plusF m (co xs) (co ys)) d k
        have hpk : plusF m (co xs) (co ys) k = (co xs k + co ys k) % m := rfl
        rw [hpk] at hs
        have hd0 := HR.out.cell (k := k) (by rw [length_lst]; exact hlt)
        have hf0 := HR.out.free k
        rw [fill_getD _ _ _ _ hlt] at hd0
        generalize fillF (plusF m (co xs) (co ys)) k k = y0 at hd0
        obtain ⟨x, hx⟩ : ∃ x, x = co xs k := ⟨_, rfl⟩
        obtain ⟨y, hy⟩ : ∃ y, y = co ys k := ⟨_, rfl⟩
        rw [← hx] at hc0 hnk hs
        rw [← hy] at hc1' hnk2 hs
        have HS := Lib.hid hs
        clear hx hy hcell hcell2 hs hpk
        have hk0 : (0 : Int) ≤ (k : Int) := by omega
        have hk1 : (k : Int) < (d : Int) := by omega
        have v3 : IntKind.i64.wrap (x + y) = x + y := IntWalk.i64_in _ (by omega)
        have v4 : (x + y).tmod m = (x + y) % m := Int.tmod_eq_emod_of_nonneg (by omega)
        have v11 : (m == 0) = false := by simp; omega
        have v12 : ¬ m = 0 := by omega
        go_wp2
        go_still_tail 18, (by kernel_rfl)
        change wpList _ _ _ _ _ wr.drew
        clear v3
        go_wp2
        go_roundw
        case rel =>
          refine ⟨k + 1, by omega, by go_num, HO.out.setCell (by simp; omega) _, ?_, HP.out.setCell (by simp; omega) _, HP2.out.setCell (by simp; omega) _, HQ.out.setCell (by simp; omega) _, Below.setCell (below_drew HB.out) (by simp; omega) _⟩
          unfold Hid
          rw [← HS.out]
          exact HR.out.set_ k _
        case measure => simp [intOf]; omega
      · obtain rfl : k = d := by omega
        have hR : RowI wr g k zs := by have := HR.out; rw [fill_all] at this; rw [← HZ.out]; exact this
        have hly : Hid (zs.length = k) := by unfold Hid; rw [← HZ.out, length_plusL]
        go_wp2
        refine bodyPost_ret (v := .agg #[.int .i64 m, .slice (some ⟨g, 0, none⟩) k k]) (by simp [results, Try.results115, go_sem, q1, q2]) rfl ⟨some ⟨g, 0, none⟩, k, by rw [hly.out], ?_, ?_⟩
        · rw [hly.out]
          have := ((hR.far (p := ⟨w.heap.size + 2, 0, none⟩) (by simp; omega) (.int .i64 m)).far (p := ⟨w.heap.size + 2, 1, none⟩) (by simp; omega) (.slice (some ⟨g, 0, none⟩) k k)).own (B := w.heap.size) (by omega)
          rw [hly.out] at this
          exact this
        · exact (HB.out.setCell (by simp; omega) _).setCell (by simp; omega) _

/-! ### A series on an axis -/
theorem co_lst' {d : Nat} {g : Nat → Int} {k : Nat} (h : k < d) : co (lst d g) k = g k := getD_lst _ _ _ h
def varL (n : Nat) : List Int := lst n fun k => if k = 1 then 1 else 0
theorem length_varL (n : Nat) : (varL n).length = n := length_lst _ _
theorem var_set (n : Nat) : (List.replicate n (0 : Int)).set 1 1 = varL n := by
  rw [replicate_lst, set_lst]
  rfl
def axF (xs : List Int) (k : Int) (i j : Nat) : Int := if k = 0 then (if j = 0 then co xs i else 0) else if i = 0 then co xs j else 0
theorem variable_any (w : World) (m d : Int) (n : Nat) (hd : d + 1 = (n : Int)) (hn2 : 2 ≤ n) (hn : n ≤ 1000000) : Calls Try.prog 114 #[.int .i64 m, .int .i64 d] w (NewS w m (varL n)) := by
  have hd2 : d = (n : Int) - 1 := by omega
  subst hd2
  have HL : Hid ((varL n).length = n) := length_varL n
  clear hd
  go_enter Try.func114, Try.ntmps114
  go_wp2_with (go_at_call 60; refine (zero_any _ m _ n (by omega) (by omega)).mono ?_; rintro e w1 ⟨g, rfl, hg, hr, hb1⟩; obtain ⟨P1, K1⟩ := Bf.first1 hb1; have p1a := P1.1.2.1; have p1b := P1.1.2.2; have z1 := P1.1.1; have p1c := P1.2.1; have p1d := P1.2.2; have hg2 : w.heap.size + 1 ≤ g := (by simpa using hg); have hd0 := hr.cell (k := 1) (by simp; omega); have hf0 := hr.free 1; have HR := Lib.hid hr; clear hr; have hk1 : (1 : Int) < (n : Int) := (by omega); have hk2 : 1 < n := (by omega); have hk3 : ¬ n ≤ 1 := (by omega); have zg := HR.out.lt; have B1 := Bf.alloc1 w1 (.int .i64 m) (.slice (some ⟨g, 0, none⟩) n n) 26; have b1a := B1.1.2.1; have b1b := B1.1.2.2; have hd1 := ((Lib.hid (HR.out.alloc (.cells #[.int .i64 m, .slice (some ⟨g, 0, none⟩) n n] 26))).out).cell (k := 1) (by simp; omega); have hf1 := ((Lib.hid (HR.out.alloc (.cells #[.int .i64 m, .slice (some ⟨g, 0, none⟩) n n] 26))).out).free 1)
  have B3 := ((P1.setCell (p := ⟨g, 1, none⟩) (by simp; omega) (.int .i64 1)).store2 (x' := .int .i64 m) (y' := .slice (some ⟨g, 0, none⟩) n n)).alloc (.cells #[.int .i64 m, .slice (some ⟨g, 0, none⟩) n n] 26)
  have b3a := B3.1.2.1
  have b3b := B3.1.2.2
  have HR2 := (((HR.out.set_ 1 1).far (p := ⟨w.heap.size, 0, none⟩) (by simp; omega) (.int .i64 m)).far (p := ⟨w.heap.size, 1, none⟩) (by simp; omega) (.slice (some ⟨g, 0, none⟩) n n)).alloc (.cells #[.int .i64 m, .slice (some ⟨g, 0, none⟩) n n] 26)
  rw [var_set] at HR2
  exact bodyPost_ret (v := .agg #[.int .i64 m, .slice (some ⟨g, 0, none⟩) n n]) (by simp [results, Try.results114, go_sem, b3a, b3b]) rfl ⟨some ⟨g, 0, none⟩, n, by rw [HL.out], by rw [HL.out]; exact HR2.own' (by omega) HL.out, (((K1.setCell (by simp; omega) _).setCell (by simp) _).setCell (by simp) _).alloc (by simp [World.setCell]; omega) _⟩

/-! ### A drawn region whose operations only make memory: one proof for each operation serves every order -/
section Grow
variable {P : Program} {ops : Array Oper}

def dstAt (ops : Array Oper) (i : Nat) : Option Tmp := (ops[i]?).bind (·.dst)
/-- The value that stands in an operation's slot. -/
def slotOf (o : Oper) (a : Act) : Value := match o.dst with | some d => a.tmps.getD d undef | none => undef

def growB (n0 : Nat) (ops : Array Oper) : Bool :=
  Region.noSelect ops && (List.range ops.size).all fun i => match ops[i]? with
    | none => true
    | some o => o.guard.isNone
      && (match o.dst with | some d => decide (d < n0) && (List.range ops.size).all (fun j => j == i || dstAt ops j != some d) | none => true)
      && (o.after.all fun e => !Region.binds .any e || decide (e.on < i))
      && (o.looksAt ops).all fun t => (List.range ops.size).all fun j => dstAt ops j != some t || (decide (j < i) && o.after.any fun e => Region.binds .any e && e.on == j)

theorem dstAt_lt {i : Nat} {d : Tmp} (h : dstAt ops i = some d) : i < ops.size := by
  unfold dstAt at h
  cases hi : ops[i]? with
  | none => rw [hi] at h; cases h
  | some o => exact (Array.getElem?_eq_some_iff.1 hi).1

structure GrowOk (n0 : Nat) (ops : Array Oper) : Prop where
  sel : Region.noSelect ops = true
  guard : ∀ (i : Nat) (o : Oper), ops[i]? = some o → o.guard = none
  lt : ∀ (i : Nat) (d : Tmp), dstAt ops i = some d → d < n0
  inj : ∀ (i j : Nat) (d : Tmp), dstAt ops i = some d → dstAt ops j = some d → i = j
  after : ∀ (i : Nat) (o : Oper), ops[i]? = some o → ∀ e ∈ o.after, Region.binds .any e = true → e.on < i
  look : ∀ (i : Nat) (o : Oper) (t j : Nat), ops[i]? = some o → t ∈ o.looksAt ops → dstAt ops j = some t → j < i ∧ ∃ e ∈ o.after, Region.binds .any e = true ∧ e.on = j

theorem growB_spec {n0 : Nat} (h : growB n0 ops = true) : GrowOk n0 ops := by
  unfold growB at h
  rw [Bool.and_eq_true] at h
  obtain ⟨hs, h⟩ := h
  rw [List.all_eq_true] at h
  have H : ∀ (i : Nat) (o : Oper), ops[i]? = some o → (o.guard.isNone = true ∧ (match o.dst with | some d => decide (d < n0) && (List.range ops.size).all (fun j => j == i || dstAt ops j != some d) | none => true) = true) ∧ (o.after.all fun e => !Region.binds .any e || decide (e.on < i)) = true ∧ ((o.looksAt ops).all fun t => (List.range ops.size).all fun j => dstAt ops j != some t || (decide (j < i) && o.after.any fun e => Region.binds .any e && e.on == j)) = true := by
    intro i o ho
    have h1 := h i (List.mem_range.2 (Array.getElem?_eq_some_iff.1 ho).1)
    simp only [ho, Bool.and_eq_true] at h1
    exact ⟨⟨h1.1.1.1, h1.1.1.2⟩, h1.1.2, h1.2⟩
  have D : ∀ i d, dstAt ops i = some d → ∃ o, ops[i]? = some o ∧ o.dst = some d := by
    intro i d hd
    unfold dstAt at hd
    cases hi : ops[i]? with
    | none => rw [hi] at hd; cases hd
    | some o => rw [hi] at hd; exact ⟨o, rfl, hd⟩
  refine ⟨hs, fun i o ho => by simpa using (H i o ho).1.1, fun i d hd => ?_, fun i j d hi hj => ?_, fun i o ho e he hb => ?_, fun i o t j ho ht hj => ?_⟩
  · obtain ⟨o, ho, hod⟩ := D i d hd
    have h2 := (H i o ho).1.2
    rw [hod] at h2
    simp only [Bool.and_eq_true, decide_eq_true_eq] at h2
    exact h2.1
  · obtain ⟨o, ho, hod⟩ := D i d hi
    have h2 := (H i o ho).1.2
    rw [hod] at h2
    simp only [Bool.and_eq_true, decide_eq_true_eq, List.all_eq_true, List.mem_range, Bool.or_eq_true, beq_iff_eq, bne_iff_ne] at h2
    rcases h2.2 j (dstAt_lt hj) with e | e
    · exact e.symm
    · exact absurd hj e
  · have h3 := (Array.all_eq_true_iff_forall_mem.1 (H i o ho).2.1) e he
    simp only [hb, Bool.not_true, Bool.false_or, decide_eq_true_eq] at h3
    exact h3
  · have h4 := (H i o ho).2.2
    rw [List.all_eq_true] at h4
    have h5 := h4 t ht
    rw [List.all_eq_true] at h5
    have h6 := h5 j (List.mem_range.2 (dstAt_lt hj))
    simp only [hj, bne_self_eq_false, Bool.false_or, Bool.and_eq_true, decide_eq_true_eq] at h6
    obtain ⟨h7, h8⟩ := h6
    obtain ⟨e, he, hb⟩ := Array.any_eq_true'.1 h8
    simp only [Bool.and_eq_true, beq_iff_eq] at hb
    exact ⟨h7, e, he, hb.1, hb.2⟩

/-- The frame: of those that have come up ('m') the slots hold V, all else is as it was. -/
structure Fr (ops : Array Oper) (m : Nat → Prop) (V : Nat → Value) (a0 a : Act) : Prop where
  defers : a.defers = a0.defers
  size : a.tmps.size = a0.tmps.size
  own : ∀ j d, dstAt ops j = some d → m j → a.tmps[d]? = some (V j)
  other : ∀ t, (∀ j, dstAt ops j = some t → ¬ m j) → a.tmps[t]? = a0.tmps[t]?

theorem Fr.eq {m : Nat → Prop} {V : Nat → Value} {a0 a b : Act} (h : Fr ops m V a0 a) (k : Fr ops m V a0 b) : a = b := by
  obtain ⟨at', ad⟩ := a
  obtain ⟨bt, bd⟩ := b
  have e1 : ad = bd := h.defers.trans k.defers.symm
  have e2 : at' = bt := by
    apply Array.ext_getElem?
    intro t
    by_cases c : ∃ j, dstAt ops j = some t ∧ m j
    · obtain ⟨j, hj, hm⟩ := c
      exact (h.own j t hj hm).trans (k.own j t hj hm).symm
    · have c' : ∀ j, dstAt ops j = some t → ¬ m j := fun j hj hm => c ⟨j, hj, hm⟩
      exact (h.other t c').trans (k.other t c').symm
  rw [e1, e2]

theorem Fr.put {n0 : Nat} (ok : GrowOk n0 ops) {m m' : Nat → Prop} {V V' : Nat → Value} {a0 a : Act} (hn : a0.tmps.size = n0) (h : Fr ops m V a0 a) (i : Nat) (v : Value) (hm : ∀ j, m' j ↔ m j ∨ j = i) (hV : ∀ j, m j → j ≠ i → V' j = V j) (hi : V' i = v) :
    Fr ops m' V' a0 (a.put (dstAt ops i) v) := by
  cases hd : dstAt ops i with
  | none =>
    refine ⟨h.defers, h.size, fun j d hj hmj => ?_, fun t ht => h.other t fun j hj hmj => ht j hj ((hm j).2 (.inl hmj))⟩
    have hne : j ≠ i := fun e => by rw [e, hd] at hj; cases hj
    rcases (hm j).1 hmj with h1 | h1
    · rw [hV j h1 hne]; exact h.own j d hj h1
    · exact absurd h1 hne
  | some d =>
    have hlt := ok.lt i d hd
    refine ⟨h.defers, by simp [Act.put, h.size], fun j d' hj hmj => ?_, fun t ht => ?_⟩
    · by_cases hne : j = i
      · subst hne
        rw [hd] at hj
        cases hj
        simp only [Act.put]
        rw [Array.getElem?_setIfInBounds]
        simp [h.size, hn, hlt, hi]
      · have hdd : d ≠ d' := fun e => by subst e; exact hne (ok.inj j i d hj hd)
        rcases (hm j).1 hmj with h1 | h1
        · simp only [Act.put]
          rw [Array.getElem?_setIfInBounds_ne hdd, hV j h1 hne]
          exact h.own j d' hj h1
        · exact absurd h1 hne
    · have hdt : d ≠ t := fun e => by subst e; exact ht i hd ((hm i).2 (.inr rfl))
      simp only [Act.put]
      rw [Array.getElem?_setIfInBounds_ne hdt]
      exact h.other t fun j hj hmj => ht j hj ((hm j).2 (.inl hmj))

/-- The lexical frame in front of operation n. -/
def putsL (ops : Array Oper) (V : Nat → Value) : Nat → Act → Act
  | 0, a => a
  | n + 1, a => (putsL ops V n a).put (dstAt ops n) (V n)

theorem putsL_fr {n0 : Nat} (ok : GrowOk n0 ops) (V : Nat → Value) {a0 : Act} (hn : a0.tmps.size = n0) : ∀ n, Fr ops (· < n) V a0 (putsL ops V n a0)
  | 0 => ⟨rfl, rfl, fun j d _ h => absurd h (Nat.not_lt_zero j), fun _ _ => rfl⟩
  | n + 1 => (putsL_fr ok V hn n).put ok hn n (V n) (fun j => by omega) (fun _ _ _ => rfl) rfl

theorem Oper.wp_other {o : Oper} {a b : Act} {w : World} {K K' : Act → World → Prop} {Q : Exit → Act → World → Prop} (he : execOp a.eval o = execOp b.eval o)
    (h : ∀ v w', K (b.put o.dst v) w' → K' (a.put o.dst v) w') (hd : ∀ d w', ¬ K (({ b with defers := d :: b.defers } : Act).put o.dst undef) w')
    (hh : Oper.wp P o b w K fun _ _ _ => False) : Oper.wp P o a w K' Q := by
  unfold Oper.wp at *
  rw [he]
  generalize (execOp b.eval o).run P w = r at *
  cases r with
  | ok n w' =>
    cases n <;> simp only [Oper.upon] at hh ⊢
    case value u => exact h _ _ hh
    case skip => exact h _ _ hh
    case defer d => exact absurd hh (hd d w')
    case enter f args =>
      refine Calls.mono hh fun e w'' he => ?_
      cases e with
      | returned u => exact h _ _ he
      | panicked c => exact he.elim
      | outgrown => obtain ⟨_, _, hx⟩ := he; exact hx.elim
    case row row args => exact Rows.mono hh fun u w'' he => h _ _ he
  | halt x w' =>
    cases x <;> simp only [Oper.upon] at hh ⊢

def unlisted (ops : Array Oper) (listed : Array Bool) : Nat := ((List.range ops.size).filter fun i => !listed.getD i true).length

theorem filter_lt {α : Type} (p q : α → Bool) (hpq : ∀ x, q x = true → p x = true) : ∀ (l : List α) (x : α), x ∈ l → p x = true → q x = false → (l.filter q).length < (l.filter p).length
  | [], _, h, _, _ => by cases h
  | y :: l, x, h, hp, hq => by
    have hle : ∀ l : List α, (l.filter q).length ≤ (l.filter p).length := by
      intro l
      induction l with
      | nil => simp
      | cons z l ih =>
        by_cases hz : q z = true
        · simp [hz, hpq z hz]; exact ih
        · by_cases hz' : p z = true
          · simp [hz, hz']; omega
          · simp [hz, hz']; exact ih
    rcases List.mem_cons.1 h with e | e
    · subst e
      simp only [List.filter_cons, hp, hq]
      have := hle l
      simp; omega
    · have ih := filter_lt p q hpq l x e hp hq
      by_cases hz : q y = true
      · simp [hz, hpq y hz]; exact ih
      · by_cases hz' : p y = true
        · simp [hz, hz']; omega
        · simp [hz, hz']; exact ih

theorem unlisted_set {listed : Array Bool} {i : Nat} (hs : listed.size = ops.size) (hi : i < ops.size) (hu : listed.getD i true = false) : unlisted ops (listed.setIfInBounds i true) < unlisted ops listed := by
  unfold unlisted
  refine filter_lt _ _ (fun x hx => ?_) _ i (List.mem_range.2 hi) (by simp [hu]) (by simp [hs, hi])
  by_cases e : i = x
  · subst e
    simp [hs, hi] at hx
  · simp only [Array.getD_eq_getD_getElem?, Array.getElem?_setIfInBounds_ne e] at hx ⊢
    exact hx

theorem all_listed {listed : Array Bool} (hs : listed.size = ops.size) (h : unlisted ops listed = 0) (i : Nat) (hi : i < ops.size) : listed.getD i false = true := by
  unfold unlisted at h
  rw [List.length_eq_zero_iff, List.filter_eq_nil_iff] at h
  have := h i (List.mem_range.2 hi)
  have hi' : i < listed.size := by omega
  simpa [hi'] using this

theorem all_of_ready_nil {n0 : Nat} (ok : GrowOk n0 ops) {listed : Array Bool} (hs : listed.size = ops.size) (h : Region.ready .any ops listed = []) : ∀ (n i : Nat), i < n → i < ops.size → listed.getD i false = true
  | 0, i, hi, _ => absurd hi (Nat.not_lt_zero i)
  | n + 1, i, hi, hio => by
    have hi' : i < listed.size := by omega
    cases hc : listed.getD i false with
    | true => rfl
    | false =>
      have ho : ops[i]? = some ops[i] := Array.getElem?_eq_getElem hio
      have hm : i ∈ Region.ready .any ops listed := mem_ready.2 ⟨by simpa [hi'] using hc, ops[i], ho, fun e he hb => by
        have hlt := ok.after i _ ho e he hb
        have := all_of_ready_nil ok hs h n e.on (by omega) (by omega)
        have he' : e.on < listed.size := by omega
        simpa [he'] using this⟩
      rw [h] at hm
      cases hm

/-- What an operation's proof has to show. -/
def stepGrow (P : Program) (l : List Oper) (a0 : Act) (w0 : World) (F : Nat → Value → Nat → Nat → World → Prop) (i : Nat) (o : Oper) : Prop :=
  ∀ (V : Nat → Value) (LO HI : Nat → Nat) (w : World), Below w0.heap.size w0 w → (∀ e ∈ o.after, Region.binds .any e = true → F e.on (V e.on) (LO e.on) (HI e.on) w ∧ HI e.on ≤ w.heap.size) →
    ∀ (K : Act → World → Prop) (Q' : Exit → Act → World → Prop), (∀ a' w' lo hi, w.heap.size ≤ lo → lo ≤ hi → hi ≤ w'.heap.size → Below w.heap.size w w' → a'.defers = a0.defers → F i (slotOf o a') lo hi w' → K a' w') →
      Oper.wp P o (putsL l.toArray V i a0) w K Q'

theorem wpAny_grow {n0 : Nat} {l : List Oper} {a0 : Act} {w0 : World} {Q : Exit → Act → World → Prop} (ok : GrowOk n0 l.toArray) (hn : a0.tmps.size = n0)
    {F : Nat → Value → Nat → Nat → World → Prop} (hF : ∀ i v lo hi w w', F i v lo hi w → Below w.heap.size w w' → F i v lo hi w')
    (hstep : ∀ i o, l[i]? = some o → stepGrow P l a0 w0 F i o)
    (hend : ∀ (V : Nat → Value) (LO HI : Nat → Nat) (w : World), Below w0.heap.size w0 w → (∀ i, i < l.length → F i (V i) (LO i) (HI i) w ∧ w0.heap.size ≤ LO i ∧ LO i ≤ HI i ∧ HI i ≤ w.heap.size) →
      (∀ i j, i ≠ j → i < l.length → j < l.length → HI i ≤ LO j ∨ HI j ≤ LO i) → Q .normal (putsL l.toArray V l.length a0) w) :
    ∀ (fuel : Nat) (listed : Array Bool) (a : Act) (w : World) (V : Nat → Value) (LO HI : Nat → Nat), listed.size = l.length → unlisted l.toArray listed ≤ fuel →
      Fr l.toArray (fun j => listed.getD j false = true) V a0 a → Below w0.heap.size w0 w →
      (∀ i, listed.getD i false = true → F i (V i) (LO i) (HI i) w ∧ w0.heap.size ≤ LO i ∧ LO i ≤ HI i ∧ HI i ≤ w.heap.size) →
      (∀ i j, i ≠ j → listed.getD i false = true → listed.getD j false = true → HI i ≤ LO j ∨ HI j ≤ LO i) →
      wpAny P .any l.toArray Q fuel listed a w := by
  have fin : ∀ (listed : Array Bool) (a : Act) (w : World) (V : Nat → Value) (LO HI : Nat → Nat), listed.size = l.length →
      Fr l.toArray (fun j => listed.getD j false = true) V a0 a → Below w0.heap.size w0 w →
      (∀ i, listed.getD i false = true → F i (V i) (LO i) (HI i) w ∧ w0.heap.size ≤ LO i ∧ LO i ≤ HI i ∧ HI i ≤ w.heap.size) →
      (∀ i j, i ≠ j → listed.getD i false = true → listed.getD j false = true → HI i ≤ LO j ∨ HI j ≤ LO i) →
      (∀ i, i < l.length → listed.getD i false = true) → Q .normal a w := by
    intro listed a w V LO HI hs hfr hb hf hd hall
    have hlt : ∀ i, listed.getD i false = true → i < l.length := fun i hi => by
      rcases Nat.lt_or_ge i listed.size with h' | h'
      · omega
      · simp [Array.getElem?_eq_none h'] at hi
    have hp := putsL_fr ok V hn l.length
    have e : a = putsL l.toArray V l.length a0 := by
      refine Fr.eq (m := fun j => listed.getD j false = true) hfr ⟨hp.defers, hp.size, fun j d hj hm => hp.own j d hj (hlt j hm), fun t ht => hp.other t fun j hj hm => ht j hj (hall j hm)⟩
    rw [e]
    exact hend V LO HI w hb (fun i hi => hf i (hall i hi)) (fun i j hij hi hj => hd i j hij (hall i hi) (hall j hj))
  intro fuel
  induction fuel with
  | zero =>
    intro listed a w V LO HI hs hu hfr hb hf hd
    have hall := all_listed (ops := l.toArray) (by simpa using hs) (by omega)
    refine ⟨?_, fin listed a w V LO HI hs hfr hb hf hd fun i hi => hall i (by simpa using hi)⟩
    rw [List.eq_nil_iff_forall_not_mem]
    intro i hi
    obtain ⟨h1, o, ho, -⟩ := mem_ready.1 hi
    have h2 := hall i (Array.getElem?_eq_some_iff.1 ho).1
    rcases Nat.lt_or_ge i listed.size with h' | h'
    · simp [h'] at h1 h2
      rw [h1] at h2; cases h2
    · simp [Array.getElem?_eq_none h'] at h2
  | succ fuel ih =>
    intro listed a w V LO HI hs hu hfr hb hf hd
    refine ⟨fun hnil => fin listed a w V LO HI hs hfr hb hf hd fun i hi => all_of_ready_nil ok (by simpa using hs) hnil (i + 1) i (Nat.lt_succ_self i) (by simpa using hi), fun i hi => ?_⟩
    obtain ⟨hun, o, ho, hdeps⟩ := mem_ready.1 hi
    have hio : i < l.length := by simpa using (Array.getElem?_eq_some_iff.1 ho).1
    have hgo := ok.guard i o ho
    unfold wpOp
    simp only [ho]
    rw [if_pos (by simp [Region.wanted, hgo])]
    refine .inl ?_
    have hol : l[i]? = some o := by simpa using ho
    have hdstAt : dstAt l.toArray i = o.dst := by unfold dstAt; rw [ho]; rfl
    have hlist : ∀ e ∈ o.after, Region.binds .any e = true → listed.getD e.on false = true := fun e he hbd => by
      exact hdeps e he hbd
    have hs1 := hstep i o hol V LO HI w hb (fun e he hbd => ⟨(hf e.on (hlist e he hbd)).1, (hf e.on (hlist e he hbd)).2.2.2⟩)
      (fun a' w' => ∃ lo hi, w.heap.size ≤ lo ∧ lo ≤ hi ∧ hi ≤ w'.heap.size ∧ Below w.heap.size w w' ∧ a'.defers = a0.defers ∧ F i (slotOf o a') lo hi w') (fun _ _ _ => False)
      (fun a' w' lo hi h1 h2 h3 h4 h5 h6 => ⟨lo, hi, h1, h2, h3, h4, h5, h6⟩)
    have hpi := putsL_fr ok V hn i
    refine Oper.wp_other (b := putsL l.toArray V i a0) ?_ ?_ ?_ hs1
    · refine execOp_congr o (fun cs b => Region.noSelect_spec ok.sel i o cs b ho) fun x hx => ?_
      cases x with
      | tmp t =>
        have ht : t ∈ o.looksAt l.toArray := List.mem_append_left _ (List.mem_filterMap.2 ⟨.tmp t, by simpa using hx, rfl⟩)
        have e : a.tmps[t]? = (putsL l.toArray V i a0).tmps[t]? := by
          by_cases c : ∃ j, dstAt l.toArray j = some t
          · obtain ⟨j, hj⟩ := c
            obtain ⟨hji, e, he, hbd, hej⟩ := ok.look i o t j ho ht hj
            have hl : listed.getD j false = true := by rw [← hej]; exact hlist e he hbd
            rw [hfr.own j t hj hl, hpi.own j t hj hji]
          · rw [hfr.other t fun j hj _ => c ⟨j, hj⟩, hpi.other t fun j hj _ => c ⟨j, hj⟩]
        simp only [Act.eval, Array.getD_eq_getD_getElem?, e]
      | _ => rfl
    · rintro v w' ⟨lo, hi', h1, h2, h3, h4, -, h6⟩
      have hs' : (listed.setIfInBounds i true).size = l.length := by simpa using hs
      have hget : ∀ j, (listed.setIfInBounds i true).getD j false = true ↔ listed.getD j false = true ∨ j = i := fun j => by
        by_cases e : i = j
        · subst e
          simp [hs, hio]
        · rw [getD_set_ne false e]
          constructor
          · exact .inl
          · rintro (h | h)
            · exact h
            · exact absurd h.symm e
      have hni : ¬ listed.getD i false = true := fun h => by
        have : i < listed.size := by omega
        simp [this] at h hun
        rw [h] at hun; cases hun
      have hv : slotOf o ((putsL l.toArray V i a0).put o.dst v) = (match o.dst with | some _ => v | none => undef) := by
        unfold slotOf
        cases hd' : o.dst with
        | none => rfl
        | some d =>
          have hlt := ok.lt i d (hdstAt.trans hd')
          have hsz := hpi.size
          simp [Act.put, hsz, hn, hlt]
      rw [hv] at h6
      obtain ⟨u, hu1⟩ : ∃ u, u = (match o.dst with | some _ => v | none => undef) := ⟨_, rfl⟩
      rw [← hu1] at h6
      have hput : a.put o.dst v = a.put o.dst u := by
        rw [hu1]
        cases o.dst with
        | none => rfl
        | some d => rfl
      rw [hput]
      refine ih _ _ w' (fun j => if j = i then u else V j) (fun j => if j = i then lo else LO j) (fun j => if j = i then hi' else HI j) hs' ?_ ?_ (hb.trans (h4.mono hb.size)) ?_ ?_
      · have := unlisted_set (ops := l.toArray) (listed := listed) (i := i) (by simpa using hs) (by simpa using hio) hun
        omega
      · rw [← hdstAt]
        refine hfr.put ok hn i u hget (fun j _ hne => by simp [hne]) (by simp)
      · intro j hj
        by_cases e : j = i
        · subst e
          simp only [if_true]
          exact ⟨h6, Nat.le_trans hb.size h1, h2, h3⟩
        · simp only [e, if_false]
          have hj' := ((hget j).1 hj).resolve_right e
          obtain ⟨g1, g2, g3, g4⟩ := hf j hj'
          exact ⟨hF _ _ _ _ _ _ g1 h4, g2, g3, Nat.le_trans g4 h4.size⟩
      · intro j k hjk hj hk
        by_cases e : j = i
        · have ek : k ≠ i := fun h => hjk (e.trans h.symm)
          have hk' := ((hget k).1 hk).resolve_right ek
          simp only [e, ek, if_true, if_false]
          exact .inr (Nat.le_trans (hf k hk').2.2.2 h1)
        · have hj' := ((hget j).1 hj).resolve_right e
          by_cases ek : k = i
          · simp only [e, ek, if_true, if_false]
            exact .inl (Nat.le_trans (hf j hj').2.2.2 h1)
          · simp only [e, ek, if_false]
            exact hd j k hjk hj' (((hget k).1 hk).resolve_right ek)
    · rintro d w' ⟨lo, hi', -, -, -, -, h5, -⟩
      have h7 : (putsL l.toArray V i a0).defers = a0.defers := hpi.defers
      have h8 : (({ putsL l.toArray V i a0 with defers := d :: (putsL l.toArray V i a0).defers } : Act).put o.dst undef).defers = d :: (putsL l.toArray V i a0).defers := by
        cases o.dst <;> rfl
      rw [h8, h7] at h5
      have := congrArg List.length h5
      simp at this

/-- **One proof for each operation serves every order.** -/
theorem wp_region_grow {id : Nat} {l : List Oper} {a0 : Act} {w0 : World} {Q : Exit → Act → World → Prop} (hm : P.follows .mixedOrders = true) (hB : growB a0.tmps.size l.toArray = true)
    (F : Nat → Value → Nat → Nat → World → Prop) (hF : ∀ i v lo hi w w', F i v lo hi w → Below w.heap.size w w' → F i v lo hi w')
    (hstep : ∀ i o, l[i]? = some o → stepGrow P l a0 w0 F i o)
    (hend : ∀ (V : Nat → Value) (LO HI : Nat → Nat) (w : World), Below w0.heap.size w0 w → (∀ i, i < l.length → F i (V i) (LO i) (HI i) w ∧ w0.heap.size ≤ LO i ∧ LO i ≤ HI i ∧ HI i ≤ w.heap.size) →
      (∀ i j, i ≠ j → i < l.length → j < l.length → HI i ≤ LO j ∨ HI j ≤ LO i) → Q .normal (putsL l.toArray V l.length a0) w) :
    (Code.region id l.toArray true).wp P Q a0 w0 := by
  have ok := growB_spec hB
  have hd : Below w0.heap.size w0 { w0 with drawn := w0.drawn + 1 } := (Below.refl _ w0).drew
  refine wp_region_any hm (wpAny_grow ok rfl hF hstep hend _ _ _ _ (fun _ => undef) (fun _ => 0) (fun _ => 0) (by simp) ?_ ⟨rfl, rfl, ?_, fun _ _ => rfl⟩ hd ?_ ?_)
  · unfold unlisted
    exact Nat.le_trans (List.length_filter_le _ _) (by simp)
  · intro j d _ h
    simp [Array.getD_eq_getD_getElem?, Array.getElem?_replicate] at h
    split at h <;> simp at h
  · intro j h
    simp [Array.getD_eq_getD_getElem?, Array.getElem?_replicate] at h
    split at h <;> simp at h
  · intro j k _ h
    simp [Array.getD_eq_getD_getElem?, Array.getElem?_replicate] at h
    split at h <;> simp at h
/-! #### With one last operation behind all the others: whatever it does -/
def succB (ops : Array Oper) (T : Nat) : Bool :=
  decide (ops.size = T + 1) && (List.range T).all fun i => (List.range ops.size).any fun j => decide (i < j) && (match ops[j]? with | some o => o.after.any fun e => Region.binds .any e && e.on == i | none => false)
theorem succB_spec {T : Nat} (h : succB ops T = true) : ops.size = T + 1 ∧ ∀ i, i < T → ∃ (j : Nat) (o : Oper), i < j ∧ ops[j]? = some o ∧ ∃ e ∈ o.after, Region.binds .any e = true ∧ e.on = i := by
  unfold succB at h
  rw [Bool.and_eq_true] at h
  refine ⟨by simpa using h.1, fun i hi => ?_⟩
  have h2 := h.2
  rw [List.all_eq_true] at h2
  have h3 := h2 i (List.mem_range.2 hi)
  rw [List.any_eq_true] at h3
  obtain ⟨j, hj, h4⟩ := h3
  rw [Bool.and_eq_true] at h4
  cases ho : ops[j]? with
  | none => rw [ho] at h4; cases h4.2
  | some o =>
    rw [ho] at h4
    obtain ⟨e, he, hb⟩ := Array.any_eq_true'.1 h4.2
    simp only [Bool.and_eq_true, beq_iff_eq] at hb
    exact ⟨j, o, by simpa using h4.1, ho, e, he, hb.1, hb.2⟩

/-- What an operation's proof has to show, against whatever frame. -/
def stepG (P : Program) (l : List Oper) (a0 : Act) (w0 : World) (F : Nat → Value → Nat → Nat → World → Prop) (i : Nat) (o : Oper) : Prop :=
  ∀ (V : Nat → Value) (LO HI : Nat → Nat) (w : World) (A : Act), Fr l.toArray (· < i) V a0 A → Below w0.heap.size w0 w → (∀ e ∈ o.after, Region.binds .any e = true → F e.on (V e.on) (LO e.on) (HI e.on) w ∧ HI e.on ≤ w.heap.size) →
    ∀ (K : Act → World → Prop), (∀ v w' lo hi, w.heap.size ≤ lo → lo ≤ hi → hi ≤ w'.heap.size → Below w.heap.size w w' → F i v lo hi w' → K (A.put o.dst v) w') → Oper.wp P o A w K fun _ _ _ => False
def stepsG (P : Program) (l : List Oper) (a0 : Act) (w0 : World) (F : Nat → Value → Nat → Nat → World → Prop) : Nat → List Oper → Prop
  | _, [] => True
  | _, [_] => True
  | i, o :: o2 :: r => stepG P l a0 w0 F i o ∧ stepsG P l a0 w0 F (i + 1) (o2 :: r)
theorem stepsG_get {l : List Oper} {a0 : Act} {w0 : World} {F : Nat → Value → Nat → Nat → World → Prop} : ∀ (r : List Oper) (k : Nat), stepsG P l a0 w0 F k r → ∀ i o, r[i]? = some o → i + 1 < r.length → stepG P l a0 w0 F (k + i) o
  | [], _, _, _, _, hi, _ => by simp at hi
  | [_], _, _, i, _, _, h2 => by simp at h2
  | o1 :: o2 :: r, k, h, i, o, hi, h2 => by
    cases i with
    | zero => simp at hi; subst hi; exact h.1
    | succ i =>
      have := stepsG_get (o2 :: r) (k + 1) h.2 i o (by simpa using hi) (by simpa using h2)
      rwa [show k + (i + 1) = k + 1 + i by omega]

theorem wpAny_growT {n0 : Nat} {l : List Oper} {a0 : Act} {w0 : World} {Q : Exit → Act → World → Prop} (ok : GrowOk n0 l.toArray) (hn : a0.tmps.size = n0) {T : Nat} {oT : Oper} (hT : l.length = T + 1) (hoT : l[T]? = some oT)
    (hsucc : ∀ i, i < T → ∃ (j : Nat) (o : Oper), i < j ∧ l.toArray[j]? = some o ∧ ∃ e ∈ o.after, Region.binds .any e = true ∧ e.on = i)
    {F : Nat → Value → Nat → Nat → World → Prop} (hF : ∀ i v lo hi w w', F i v lo hi w → Below w.heap.size w w' → F i v lo hi w')
    (hstep : ∀ i o, l[i]? = some o → i < T → stepG P l a0 w0 F i o)
    (hend : ∀ (V : Nat → Value) (LO HI : Nat → Nat) (w : World), Below w0.heap.size w0 w → (∀ i, i < T → F i (V i) (LO i) (HI i) w ∧ w0.heap.size ≤ LO i ∧ LO i ≤ HI i ∧ HI i ≤ w.heap.size) →
      (∀ i j, i ≠ j → i < T → j < T → HI i ≤ LO j ∨ HI j ≤ LO i) → ∀ K : Act → World → Prop, (∀ a w, Q .normal a w → K a w) → Oper.wp P oT (putsL l.toArray V T a0) w K Q) :
    ∀ (fuel : Nat) (listed : Array Bool) (a : Act) (w : World) (V : Nat → Value) (LO HI : Nat → Nat), listed.size = l.length → unlisted l.toArray listed ≤ fuel →
      listed.getD T false = false → (∀ (j : Nat) (o : Oper), l.toArray[j]? = some o → listed.getD j false = true → ∀ e ∈ o.after, Region.binds .any e = true → listed.getD e.on false = true) →
      Fr l.toArray (fun j => listed.getD j false = true) V a0 a → Below w0.heap.size w0 w →
      (∀ i, listed.getD i false = true → F i (V i) (LO i) (HI i) w ∧ w0.heap.size ≤ LO i ∧ LO i ≤ HI i ∧ HI i ≤ w.heap.size) →
      (∀ i j, i ≠ j → listed.getD i false = true → listed.getD j false = true → HI i ≤ LO j ∨ HI j ≤ LO i) →
      wpAny P .any l.toArray Q fuel listed a w := by
  intro fuel
  induction fuel with
  | zero =>
    intro listed a w V LO HI hs hu hTn hcl hfr hb hf hd
    have := all_listed (ops := l.toArray) (by simpa using hs) (by omega) T (by simp; omega)
    rw [hTn] at this; cases this
  | succ fuel ih =>
    intro listed a w V LO HI hs hu hTn hcl hfr hb hf hd
    refine ⟨fun hnil => ?_, fun i hi => ?_⟩
    · have := all_of_ready_nil ok (by simpa using hs) hnil (T + 1) T (Nat.lt_succ_self T) (by simp; omega)
      rw [hTn] at this; cases this
    obtain ⟨hun, o, ho, hdeps⟩ := mem_ready.1 hi
    have hio : i < l.length := by simpa using (Array.getElem?_eq_some_iff.1 ho).1
    have hgo := ok.guard i o ho
    have hol : l[i]? = some o := by simpa using ho
    have hdstAt : dstAt l.toArray i = o.dst := by unfold dstAt; rw [ho]; rfl
    have hlist : ∀ e ∈ o.after, Region.binds .any e = true → listed.getD e.on false = true := fun e he hbd => by
      exact hdeps e he hbd
    have hs' : (listed.setIfInBounds i true).size = l.length := by simpa using hs
    have hget : ∀ j, (listed.setIfInBounds i true).getD j false = true ↔ listed.getD j false = true ∨ j = i := fun j => by
      by_cases e : i = j
      · subst e
        simp [hs, hio]
      · rw [getD_set_ne false e]
        constructor
        · exact .inl
        · rintro (h | h)
          · exact h
          · exact absurd h.symm e
    have hni : ¬ listed.getD i false = true := fun h => by
      have : i < listed.size := by omega
      simp [this] at h hun
      rw [h] at hun; cases hun
    unfold wpOp
    simp only [ho]
    rw [if_pos (by simp [Region.wanted, hgo])]
    refine .inl ?_
    by_cases hiT : i = T
    · subst hiT
      have heq : o = oT := by rw [hol] at hoT; exact Option.some.inj hoT
      subst heq
      have hall : ∀ k j, i ≤ j + k → j < i → listed.getD j false = true := by
        intro k
        induction k with
        | zero => intro j h1 h2; omega
        | succ k ihk =>
          intro j h1 h2
          obtain ⟨j', o', hj', ho', e, he, hbd, hon⟩ := hsucc j h2
          have hj'l : j' < l.length := by simpa using (Array.getElem?_eq_some_iff.1 ho').1
          by_cases c : j' = i
          · subst c
            rw [ho] at ho'
            cases ho'
            rw [← hon]; exact hlist e he hbd
          · rw [← hon]; exact hcl j' o' ho' (ihk j' (by omega) (by omega)) e he hbd
      have hall' : ∀ j, j < i → listed.getD j false = true := fun j hj => hall i j (by omega) hj
      have hlt : ∀ j, listed.getD j false = true → j < i := fun j hj => by
        rcases Nat.lt_or_ge j listed.size with h' | h'
        · by_cases c : j = i
          · subst c; exact absurd hj hni
          · omega
        · simp [Array.getElem?_eq_none h'] at hj
      have hA : Fr l.toArray (· < i) V a0 a := ⟨hfr.defers, hfr.size, fun j d hj hm => hfr.own j d hj (hall' j hm), fun t ht => hfr.other t fun j hj hm => ht j hj (hlt j hm)⟩
      rw [Fr.eq hA (putsL_fr ok V hn i)]
      refine hend V LO HI w hb (fun j hj => hf j (hall' j hj)) (fun j k hjk hj hk => hd j k hjk (hall' j hj) (hall' k hk)) _ fun a' w' hq => ?_
      have hnil : Region.ready .any l.toArray (listed.setIfInBounds i true) = [] := by
        rw [List.eq_nil_iff_forall_not_mem]
        intro j hj
        obtain ⟨h1, o', ho', -⟩ := mem_ready.1 hj
        have hjl : j < l.length := by simpa using (Array.getElem?_eq_some_iff.1 ho').1
        have h2 := (hget j).2 (by
          by_cases c : j = i
          · exact .inr c
          · exact .inl (hall' j (by omega)))
        have hjs : j < (listed.setIfInBounds i true).size := by omega
        rw [Array.getD_eq_getD_getElem?, Array.getElem?_eq_getElem hjs] at h1 h2
        simp only [Option.getD_some] at h1 h2
        rw [h1] at h2; cases h2
      cases fuel with
      | zero => exact ⟨hnil, hq⟩
      | succ fuel => exact ⟨fun _ => hq, by rw [hnil]; simp⟩
    · have hpi := putsL_fr ok V hn i
      have hs1 := hstep i o hol (by omega) V LO HI w (putsL l.toArray V i a0) hpi hb (fun e he hbd => ⟨(hf e.on (hlist e he hbd)).1, (hf e.on (hlist e he hbd)).2.2.2⟩)
        (fun a' w' => ∃ v lo hi, a' = (putsL l.toArray V i a0).put o.dst v ∧ w.heap.size ≤ lo ∧ lo ≤ hi ∧ hi ≤ w'.heap.size ∧ Below w.heap.size w w' ∧ F i v lo hi w')
        (fun v w' lo hi h1 h2 h3 h4 h5 => ⟨v, lo, hi, rfl, h1, h2, h3, h4, h5⟩)
      have hs2 : Oper.wp P o (putsL l.toArray V i a0) w (fun a' w' => ∃ v lo hi, a'.defers = a0.defers ∧ (∀ v', a' = (putsL l.toArray V i a0).put o.dst v' → (putsL l.toArray V i a0).put o.dst v' = (putsL l.toArray V i a0).put o.dst v) ∧ w.heap.size ≤ lo ∧ lo ≤ hi ∧ hi ≤ w'.heap.size ∧ Below w.heap.size w w' ∧ F i v lo hi w') (fun _ _ _ => False) := by
        refine Oper.wp_mono (fun a' w' h => ?_) hs1
        obtain ⟨v, lo, hi', rfl, h⟩ := h
        refine ⟨v, lo, hi', ?_, fun v' hv' => hv'.symm, h⟩
        have := hpi.defers
        cases o.dst <;> exact this
      refine Oper.wp_other (b := putsL l.toArray V i a0) ?_ ?_ ?_ hs2
      · refine execOp_congr o (fun cs b => Region.noSelect_spec ok.sel i o cs b ho) fun x hx => ?_
        cases x with
        | tmp t =>
          have ht : t ∈ o.looksAt l.toArray := List.mem_append_left _ (List.mem_filterMap.2 ⟨.tmp t, by simpa using hx, rfl⟩)
          have e : a.tmps[t]? = (putsL l.toArray V i a0).tmps[t]? := by
            by_cases c : ∃ j, dstAt l.toArray j = some t
            · obtain ⟨j, hj⟩ := c
              obtain ⟨hji, e, he, hbd, hej⟩ := ok.look i o t j ho ht hj
              have hl : listed.getD j false = true := by rw [← hej]; exact hlist e he hbd
              rw [hfr.own j t hj hl, hpi.own j t hj hji]
            · rw [hfr.other t fun j hj _ => c ⟨j, hj⟩, hpi.other t fun j hj _ => c ⟨j, hj⟩]
          simp only [Act.eval, Array.getD_eq_getD_getElem?, e]
        | _ => rfl
      · rintro v0 w' ⟨v, lo, hi', -, hvv, h1, h2, h3, h4, h6⟩
        have hput : a.put o.dst v0 = a.put o.dst v := by
          have h8 := hvv v0 rfl
          cases hdst : o.dst with
          | none => rfl
          | some d =>
            rw [hdst] at h8
            have hlt := ok.lt i d (hdstAt.trans hdst)
            have hsz := hpi.size
            have h9 : ((putsL l.toArray V i a0).put (some d) v0).tmps[d]? = ((putsL l.toArray V i a0).put (some d) v).tmps[d]? := by rw [h8]
            simp only [Act.put] at h9
            rw [Array.getElem?_setIfInBounds, Array.getElem?_setIfInBounds] at h9
            simp [hsz, hn, hlt] at h9
            rw [h9]
        rw [hput]
        refine ih _ _ w' (fun j => if j = i then v else V j) (fun j => if j = i then lo else LO j) (fun j => if j = i then hi' else HI j) hs' ?_ ?_ ?_ ?_ (hb.trans (h4.mono hb.size)) ?_ ?_
        · have := unlisted_set (ops := l.toArray) (listed := listed) (i := i) (by simpa using hs) (by simpa using hio) hun
          omega
        · rw [getD_set_ne false hiT]; exact hTn
        · intro j oj hoj hj e he hbd
          by_cases c : j = i
          · subst c
            rw [ho] at hoj
            cases hoj
            exact (hget _).2 (.inl (hlist e he hbd))
          · exact (hget _).2 (.inl (hcl j oj hoj (((hget j).1 hj).resolve_right c) e he hbd))
        · rw [← hdstAt]
          refine hfr.put ok hn i v hget (fun j _ hne => by simp [hne]) (by simp)
        · intro j hj
          by_cases e : j = i
          · subst e
            simp only [if_true]
            exact ⟨h6, Nat.le_trans hb.size h1, h2, h3⟩
          · simp only [e, if_false]
            have hj' := ((hget j).1 hj).resolve_right e
            obtain ⟨g1, g2, g3, g4⟩ := hf j hj'
            exact ⟨hF _ _ _ _ _ _ g1 h4, g2, g3, Nat.le_trans g4 h4.size⟩
        · intro j k hjk hj hk
          by_cases e : j = i
          · have ek : k ≠ i := fun h => hjk (e.trans h.symm)
            have hk' := ((hget k).1 hk).resolve_right ek
            simp only [e, ek, if_true, if_false]
            exact .inr (Nat.le_trans (hf k hk').2.2.2 h1)
          · have hj' := ((hget j).1 hj).resolve_right e
            by_cases ek : k = i
            · simp only [e, ek, if_true, if_false]
              exact .inl (Nat.le_trans (hf j hj').2.2.2 h1)
            · simp only [e, ek, if_false]
              exact hd j k hjk hj' (((hget k).1 hk).resolve_right ek)
      · rintro d w' ⟨v, lo, hi', h5, -⟩
        have h7 : (putsL l.toArray V i a0).defers = a0.defers := hpi.defers
        have h8 : (({ putsL l.toArray V i a0 with defers := d :: (putsL l.toArray V i a0).defers } : Act).put o.dst undef).defers = d :: (putsL l.toArray V i a0).defers := by
          cases o.dst <;> rfl
        rw [h8, h7] at h5
        have := congrArg List.length h5
        simp at this

theorem wp_region_growT {id : Nat} {l : List Oper} {a0 : Act} {w0 : World} {Q : Exit → Act → World → Prop} (hm : P.follows .mixedOrders = true) {T : Nat} {oT : Oper} (hB : growB a0.tmps.size l.toArray = true) (hS : succB l.toArray T = true) (hoT : l[T]? = some oT)
    (F : Nat → Value → Nat → Nat → World → Prop) (hF : ∀ i v lo hi w w', F i v lo hi w → Below w.heap.size w w' → F i v lo hi w')
    (hstep : stepsG P l a0 w0 F 0 l)
    (hend : ∀ (V : Nat → Value) (LO HI : Nat → Nat) (w : World), Below w0.heap.size w0 w → (∀ i, i < T → F i (V i) (LO i) (HI i) w ∧ w0.heap.size ≤ LO i ∧ LO i ≤ HI i ∧ HI i ≤ w.heap.size) →
      (∀ i j, i ≠ j → i < T → j < T → HI i ≤ LO j ∨ HI j ≤ LO i) → ∀ K : Act → World → Prop, (∀ a w, Q .normal a w → K a w) → Oper.wp P oT (putsL l.toArray V T a0) w K Q) :
    (Code.region id l.toArray true).wp P Q a0 w0 := by
  have ok := growB_spec hB
  obtain ⟨hsz, hsucc⟩ := succB_spec hS
  have hT : l.length = T + 1 := by simpa using hsz
  have hd : Below w0.heap.size w0 { w0 with drawn := w0.drawn + 1 } := (Below.refl _ w0).drew
  have hg : ∀ j, (Array.replicate l.toArray.size false).getD j false = false := fun j => by
    simp [Array.getD_eq_getD_getElem?, Array.getElem?_replicate]
    split <;> simp
  refine wp_region_any hm (wpAny_growT ok rfl hT hoT hsucc hF (fun i o ho hi => by have := stepsG_get l 0 hstep i o ho (by omega); rwa [Nat.zero_add] at this) hend _ _ _ _ (fun _ => undef) (fun _ => 0) (fun _ => 0) (by simp) ?_ (hg T) (fun j o _ h => by rw [hg j] at h; cases h) ⟨rfl, rfl, ?_, fun _ _ => rfl⟩ hd ?_ ?_)
  · unfold unlisted
    exact Nat.le_trans (List.length_filter_le _ _) (by simp)
  · intro j d _ h
    rw [hg j] at h; cases h
  · intro j h
    rw [hg j] at h; cases h
  · intro j k _ h
    rw [hg j] at h; cases h
/-- The lexical frame, told by the slots alone. -/
def putsD : List (Option Tmp) → (Nat → Value) → Nat → Act → Act
  | [], _, _, a => a
  | d :: r, V, k, a => putsD r V (k + 1) (a.put d (V k))
theorem putsD_snoc (V : Nat → Value) (d : Option Tmp) : ∀ (xs : List (Option Tmp)) (k : Nat) (a : Act), putsD (xs ++ [d]) V k a = (putsD xs V k a).put d (V (k + xs.length))
  | [], _, _ => rfl
  | x :: xs, k, a => by
    simp only [List.cons_append, putsD, putsD_snoc V d xs, List.length_cons]
    rw [show k + 1 + xs.length = k + (xs.length + 1) by omega]
theorem putsL_eq (V : Nat → Value) (a : Act) : ∀ n, putsL ops V n a = putsD ((List.range n).map (dstAt ops)) V 0 a
  | 0 => rfl
  | n + 1 => by
    rw [List.range_succ, List.map_append, List.map_cons, List.map_nil, putsD_snoc, ← putsL_eq V a n]
    simp [putsL]
theorem put_lit (xs : List Value) (ds : List Deferred) (d : Tmp) (v : Value) : Act.put ⟨xs.toArray, ds⟩ (some d) v = ⟨(xs.set d v).toArray, ds⟩ := by
  simp [Act.put]
theorem put_nil (a : Act) (v : Value) : a.put none v = a := rfl
theorem wp_region_growD {id : Nat} {l : List Oper} {a0 : Act} {w0 : World} {Q : Exit → Act → World → Prop} (hm : P.follows .mixedOrders = true) {T : Nat} {oT : Oper} (hB : growB a0.tmps.size l.toArray = true) (hS : succB l.toArray T = true) (hoT : l[T]? = some oT)
    (ds : List (Option Tmp)) (hds : (List.range T).map (dstAt l.toArray) = ds)
    (F : Nat → Value → Nat → Nat → World → Prop) (hF : ∀ i v lo hi w w', F i v lo hi w → Below w.heap.size w w' → F i v lo hi w')
    (hstep : stepsG P l a0 w0 F 0 l)
    (hend : ∀ (V : Nat → Value) (LO HI : Nat → Nat) (w : World), Below w0.heap.size w0 w → (∀ i, i < T → F i (V i) (LO i) (HI i) w ∧ w0.heap.size ≤ LO i ∧ LO i ≤ HI i ∧ HI i ≤ w.heap.size) →
      (∀ i j, i ≠ j → i < T → j < T → HI i ≤ LO j ∨ HI j ≤ LO i) → ∀ K : Act → World → Prop, (∀ a w, Q .normal a w → K a w) → Oper.wp P oT (putsD ds V 0 a0) w K Q) :
    (Code.region id l.toArray true).wp P Q a0 w0 :=
  wp_region_growT hm hB hS hoT F hF hstep fun V LO HI w h1 h2 h3 K hK => by
    rw [putsL_eq, hds]
    exact hend V LO HI w h1 h2 h3 K hK
/-- What a frame holds in a slot that none of the operations writes. -/
theorem Fr.base {n : Nat} {V : Nat → Value} {a0 A : Act} (h : Fr ops (· < n) V a0 A) (t : Tmp) (hb : ((List.range n).all fun j => dstAt ops j != some t) = true) : A.tmps[t]? = a0.tmps[t]? :=
  h.other t fun j hj hm => by
    rw [List.all_eq_true] at hb
    have := hb j (List.mem_range.2 hm)
    rw [hj] at this
    simp at this
end Grow

/-! ### The series of Weierstrass: the plain law -/
theorem sumN_one {f : Nat → Int} {n k : Nat} (hk : k < n) (h : ∀ j, j < n → j ≠ k → f j = 0) : sumN f n = f k := by
  induction n with
  | zero => omega
  | succ n ih =>
    simp only [sumN]
    by_cases e : k = n
    · subst e
      have e2 : sumN f k = 0 := by
        rw [sumN_congr (g := fun _ => 0) fun j hj => h j (by omega) (by omega), sumN_zero]
      rw [e2]; omega
    · rw [ih (by omega) fun j hj hne => h j (by omega) hne, h n (by omega) (by omega)]; omega
/-- The coefficient k of the product with the power r of the variable. -/
theorem cv_pow (m : Int) (z b : Nat → Int) (r k : Nat) (hz : ∀ i, i ≤ k → z i = if i = r then 1 else 0) : cv m z b k = if r ≤ k then b (k - r) % m else 0 := by
  unfold cv cvTo
  split
  · rename_i h
    rw [sumN_one (k := r) (by omega)]
    · rw [hz r h, if_pos rfl, Int.one_mul]
    · intro j hj hne
      rw [hz j (by omega), if_neg hne, Int.zero_mul]
  · rename_i h
    rw [sumN_congr (g := fun _ => 0), sumN_zero]
    · simp
    · intro j hj
      rw [hz j (by omega), if_neg (by omega), Int.zero_mul]
theorem cv_tail {m : Int} {u v u' v' : Nat → Int} {j : Nat} (h0 : u 0 = 0) (h0' : u' 0 = 0) (k0 : v 0 = 0) (k0' : v' 0 = 0) (hu : ∀ i, i < j → u i = u' i) (hv : ∀ i, i < j → v i = v' i) : cv m u v j = cv m u' v' j := by
  unfold cv cvTo
  rw [sumN_congr]
  intro i hi
  by_cases e : i = 0
  · subst e
    rw [h0, h0', Int.zero_mul, Int.zero_mul]
  · by_cases e2 : i = j
    · subst e2
      rw [Nat.sub_self, k0, k0', Int.mul_zero, Int.mul_zero]
    · rw [hu i (by omega), hv (j - i) (by omega)]
theorem cv_zero (m : Int) (u v : Nat → Int) (h : u 0 = 0) : cv m u v 0 = 0 := by
  unfold cv cvTo
  simp [sumN, h]
/-- The number that the series of Weierstrass has at k, out of those before k. -/
def weiV (m : Int) (a : Nat → Int) (g : Nat → Int) (k : Nat) : Int :=
  (a 0 * g (k - 1) + a 1 * g (k - 2) + a 2 * cv m g g k + a 3 * cv m g g (k - 1) + a 4 * cv m (cv m g g) g k + if k = 3 then 1 else 0) % m
def weiT (m : Int) (a : Nat → Int) : Nat → Nat → Int
  | 0 => fun _ => 0
  | t + 1 => upd (weiT m a t) (t + 3) (weiV m a (weiT m a t) (t + 3))
theorem weiT_ge (m : Int) (a : Nat → Int) (t j : Nat) (h : t + 3 ≤ j) : weiT m a t j = 0 := by
  induction t with
  | zero => rfl
  | succ t ih =>
    simp only [weiT, upd]
    rw [if_neg (by omega)]
    exact ih (by omega)
theorem weiT_lt (m : Int) (a : Nat → Int) (t j : Nat) (h : j < 3) : weiT m a t j = 0 := by
  induction t with
  | zero => rfl
  | succ t ih =>
    simp only [weiT, upd]
    rw [if_neg (by omega)]
    exact ih
theorem weiT_stay (m : Int) (a : Nat → Int) (t s j : Nat) (h : j < t + 3) : weiT m a (t + s) j = weiT m a t j := by
  induction s with
  | zero => rfl
  | succ s ih =>
    show weiT m a (t + s + 1) j = _
    simp only [weiT, upd]
    rw [if_neg (by omega)]
    exact ih
theorem weiV_congr {m : Int} {a u v : Nat → Int} {k : Nat} (hk : 1 ≤ k) (h0 : u 0 = 0) (h0' : v 0 = 0) (h : ∀ i, i < k → u i = v i) : weiV m a u k = weiV m a v k := by
  unfold weiV
  have e1 : ∀ i, i ≤ k → cv m u u i = cv m v v i := fun i hi => cv_tail h0 h0' h0 h0' (fun j hj => h j (by omega)) (fun j hj => h j (by omega))
  have e2 : cv m (cv m u u) u k = cv m (cv m v v) v k := cv_tail (cv_zero m u u h0) (cv_zero m v v h0') h0 h0' (fun j hj => e1 j (by omega)) (fun j hj => h j hj)
  rw [e2, e1 k (Nat.le_refl _), e1 (k - 1) (by omega), h (k - 1) (by omega)]
  by_cases e : k = 1
  · subst e
    rw [show (1 : Nat) - 2 = 0 from rfl, h0, h0']
  · rw [h (k - 2) (by omega)]
/-- The series itself. -/
def weiF (m : Int) (a : Nat → Int) (j : Nat) : Int := weiT m a j j
theorem weiF_at (m : Int) (a : Nat → Int) (t j : Nat) (h : j < t + 3) : weiT m a t j = weiF m a j := by
  unfold weiF
  rcases Nat.le_total t j with c | c
  · obtain ⟨s, rfl⟩ : ∃ s, j = t + s := ⟨j - t, by omega⟩
    exact (weiT_stay m a t s _ h).symm
  · obtain ⟨s, rfl⟩ : ∃ s, t = j + s := ⟨t - j, by omega⟩
    exact weiT_stay m a j s j (by omega)
theorem weiF_zero (m : Int) (a : Nat → Int) : weiF m a 0 = 0 := rfl
theorem weiF_rec (m : Int) (a : Nat → Int) (k : Nat) (hk : 3 ≤ k) : weiF m a k = weiV m a (weiF m a) k := by
  obtain ⟨t, rfl⟩ : ∃ t, k = t + 3 := ⟨k - 3, by omega⟩
  rw [← weiF_at m a (t + 1) (t + 3) (by omega)]
  simp only [weiT, upd, if_true]
  exact weiV_congr (by omega) (weiT_lt _ _ _ _ (by omega)) rfl fun i hi => weiF_at m a t i hi
theorem weiF_low (m : Int) (a : Nat → Int) (k : Nat) (hk : k < 3) : weiF m a k = 0 := weiT_lt m a k k hk
theorem weiF_bd {m : Int} (hm : 2 ≤ m) (a : Nat → Int) (k : Nat) : 0 ≤ weiF m a k ∧ weiF m a k < m := by
  by_cases h : 3 ≤ k
  · rw [weiF_rec m a k h]
    exact ⟨Int.emod_nonneg _ (by omega), Int.emod_lt_of_pos _ (by omega)⟩
  · rw [weiF_low m a k (by omega)]
    omega
/-- One round of the program. -/
def weiS (m : Int) (d : Nat) (a : Nat → Int) (w : List Int) : List Int :=
  plusL m d (plusL m d (plusL m d (plusL m d (plusL m d (timesL m d (timesL m d (varL d) (varL d)) (varL d)) (scaleL m (a 0 % m) (timesL m d (varL d) w))) (scaleL m (a 1 % m) (timesL m d (timesL m d (varL d) (varL d)) w))) (scaleL m (a 2 % m) (timesL m d w w)))
    (scaleL m (a 3 % m) (timesL m d (varL d) (timesL m d w w)))) (scaleL m (a 4 % m) (timesL m d (timesL m d w w) w))
theorem co_lst2 {d : Nat} {g : Nat → Int} {k : Nat} (h : k < d) : co (lst d g) k = g k := getD_lst _ _ _ h
theorem co_scale {m c : Int} {d : Nat} {xs : List Int} {k : Nat} (hl : xs.length = d) (h : k < d) : co (scaleL m c xs) k = c * co xs k % m := by
  unfold scaleL
  rw [hl]
  exact co_lst2 h
theorem co_plus {m : Int} {d : Nat} {xs ys : List Int} {k : Nat} (h : k < d) : co (plusL m d xs ys) k = (co xs k + co ys k) % m := co_lst2 h
theorem co_times {m : Int} {d : Nat} {xs ys : List Int} {k : Nat} (h : k < d) : co (timesL m d xs ys) k = cv m (co xs) (co ys) k := co_lst2 h
theorem co_var {d k : Nat} (h : k < d) : co (varL d) k = if k = 1 then 1 else 0 := co_lst2 h
theorem co_z2 {m : Int} {d k : Nat} (hm : 2 ≤ m) (h : k < d) : co (timesL m d (varL d) (varL d)) k = if k = 2 then 1 else 0 := by
  rw [co_times h, cv_pow m _ _ 1 k fun i hi => co_var (by omega)]
  split
  · rw [co_var (by omega)]
    by_cases e : k = 2
    · subst e
      simp
      exact Int.emod_eq_of_lt (by omega) (by omega)
    · rw [if_neg (by omega), if_neg e]; rfl
  · rw [if_neg (by omega)]
theorem co_z3 {m : Int} {d k : Nat} (hm : 2 ≤ m) (h : k < d) : co (timesL m d (timesL m d (varL d) (varL d)) (varL d)) k = if k = 3 then 1 else 0 := by
  rw [co_times h, cv_pow m _ _ 2 k fun i hi => co_z2 hm (by omega)]
  split
  · rw [co_var (by omega)]
    by_cases e : k = 3
    · subst e
      simp
      exact Int.emod_eq_of_lt (by omega) (by omega)
    · rw [if_neg (by omega), if_neg e]; rfl
  · rw [if_neg (by omega)]
theorem mul_mod_r (m a b : Int) : a * (b % m) % m = a * b % m := by rw [Int.mul_emod, Int.emod_emod, ← Int.mul_emod]
theorem mul_mod_l (m a b : Int) : a % m * b % m = a * b % m := by rw [Int.mul_emod, Int.emod_emod, ← Int.mul_emod]
/-- A coefficient of a round, as a sum. -/
theorem co_weiS {m : Int} {d k : Nat} {a : Nat → Int} {w : List Int} (hm : 2 ≤ m) (h : k < d) : co (weiS m d a w) k =
    (((if k = 3 then 1 else 0) + a 0 * (if 1 ≤ k then co w (k - 1) else 0) + a 1 * (if 2 ≤ k then co w (k - 2) else 0) + a 2 * cv m (co w) (co w) k + a 3 * (if 1 ≤ k then cv m (co w) (co w) (k - 1) else 0) + a 4 * cv m (cv m (co w) (co w)) (co w) k) % m) := by
  have e1 : cv m (co (timesL m d w w)) (co w) k = cv m (cv m (co w) (co w)) (co w) k := cv_congr (fun i hi => co_times (by omega)) (fun _ _ => rfl)
  have z1 : cv m (co (varL d)) (co w) k = (if 1 ≤ k then co w (k - 1) else 0) % m := by rw [cv_pow m _ _ 1 k fun i hi => co_var (by omega)]; split <;> simp
  have z2 : cv m (co (timesL m d (varL d) (varL d))) (co w) k = (if 2 ≤ k then co w (k - 2) else 0) % m := by rw [cv_pow m _ _ 2 k fun i hi => co_z2 hm (by omega)]; split <;> simp
  have z3 : cv m (co (varL d)) (co (timesL m d w w)) k = (if 1 ≤ k then cv m (co w) (co w) (k - 1) else 0) % m := by
    rw [cv_pow m _ _ 1 k fun i hi => co_var (by omega)]
    split
    · rw [co_times (by omega)]
    · simp
  unfold weiS
  rw [co_plus h, co_plus h, co_plus h, co_plus h, co_plus h, co_z3 hm h]
  simp only [co_scale (length_timesL _ _ _ _) h]
  rw [show co (timesL m d (varL d) w) k = _ from (co_times h).trans z1, show co (timesL m d (timesL m d (varL d) (varL d)) w) k = _ from (co_times h).trans z2, show co (timesL m d (varL d) (timesL m d w w)) k = _ from (co_times h).trans z3, show co (timesL m d (timesL m d w w) w) k = _ from (co_times h).trans e1, show co (timesL m d w w) k = _ from co_times h]
  simp only [mul_mod_l, mul_mod_r, Int.emod_add_emod, Int.add_emod_emod]
/-- The program's rounds. -/
def weiI (m : Int) (d : Nat) (a : Nat → Int) : Nat → List Int
  | 0 => List.replicate d 0
  | t + 1 => weiS m d a (weiI m d a t)
theorem length_weiI (m : Int) (d : Nat) (a : Nat → Int) (t : Nat) : (weiI m d a t).length = d := by
  cases t with
  | zero => simp [weiI]
  | succ t => exact length_plusL _ _ _ _
theorem NumL_weiI {m : Int} (hm : 2 ≤ m) (d : Nat) (a : Nat → Int) (t : Nat) : NumL m (weiI m d a t) := by
  cases t with
  | zero => exact NumL.replicate (by omega) d
  | succ t => exact NumL.plusL (by omega) _ _ _
theorem weiI_at {m : Int} (hm : 2 ≤ m) (d : Nat) (a : Nat → Int) : ∀ (t j : Nat), j < d → j ≤ t + 2 → co (weiI m d a t) j = weiF m a j
  | 0, j, h, hj => by
    rw [weiF_low m a j (by omega)]
    have : co (List.replicate d (0 : Int)) j = 0 := by rw [replicate_lst]; exact co_lst2 h
    exact this
  | t + 1, j, h, hj => by
    have ih := weiI_at hm d a t
    have h0 : co (weiI m d a t) 0 = 0 := ih 0 (by omega) (by omega)
    have hT : ∀ i, i < j → co (weiI m d a t) i = weiF m a i := fun i hi => ih i (by omega) (by omega)
    have e1 : ∀ i, i ≤ j → cv m (co (weiI m d a t)) (co (weiI m d a t)) i = cv m (weiF m a) (weiF m a) i := fun i hi => cv_tail h0 rfl h0 rfl (fun j' hj' => hT j' (by omega)) (fun j' hj' => hT j' (by omega))
    have e2 : cv m (cv m (co (weiI m d a t)) (co (weiI m d a t))) (co (weiI m d a t)) j = cv m (cv m (weiF m a) (weiF m a)) (weiF m a) j := cv_tail (cv_zero m _ _ h0) (cv_zero m _ _ rfl) h0 rfl (fun j' hj' => e1 j' (by omega)) (fun j' hj' => hT j' hj')
    show co (weiS m d a (weiI m d a t)) j = _
    rw [co_weiS hm h, e1 j (Nat.le_refl _), e2]
    by_cases h3 : 3 ≤ j
    · rw [weiF_rec m a j h3, e1 (j - 1) (by omega), hT (j - 1) (by omega), hT (j - 2) (by omega)]
      simp only [show 1 ≤ j by omega, show 2 ≤ j by omega, if_true]
      unfold weiV
      congr 1
      omega
    · rw [weiF_low m a j (by omega), if_neg (by omega)]
      have hz : ∀ i, i ≤ j → weiF m a i = 0 := fun i hi => weiF_low m a i (by omega)
      have s1 : ∀ i, i ≤ j → cv m (weiF m a) (weiF m a) i = 0 := fun i hi => by
        rw [cv_congr (a' := fun _ => 0) (b' := fun _ => 0) (fun i' hi' => hz i' (by omega)) (fun i' hi' => hz i' (by omega))]
        unfold cv cvTo
        simp only [Int.mul_zero]
        rw [sumN_zero]
        rfl
      have s2 : cv m (cv m (weiF m a) (weiF m a)) (weiF m a) j = 0 := by
        rw [cv_congr (a' := fun _ => 0) (b' := fun _ => 0) (fun i' hi' => s1 i' (by omega)) (fun i' hi' => hz i' (by omega))]
        unfold cv cvTo
        simp only [Int.mul_zero]
        rw [sumN_zero]
        rfl
      rw [s1 j (Nat.le_refl _), s2]
      have q1 : (if 1 ≤ j then co (weiI m d a t) (j - 1) else 0) = 0 := by
        split
        · rw [hT (j - 1) (by omega)]; exact hz _ (by omega)
        · rfl
      have q2 : (if 2 ≤ j then co (weiI m d a t) (j - 2) else 0) = 0 := by
        split
        · rw [hT (j - 2) (by omega)]; exact hz _ (by omega)
        · rfl
      have q3 : (if 1 ≤ j then cv m (co (weiI m d a t)) (co (weiI m d a t)) (j - 1) else 0) = 0 := by
        split
        · rw [e1 (j - 1) (by omega)]; exact s1 _ (by omega)
        · rfl
      rw [q1, q2, q3]
      simp
def weiL (m : Int) (d : Nat) (a : Nat → Int) : List Int := lst d (weiF m a)
theorem weiI_all {m : Int} (hm : 2 ≤ m) (d : Nat) (a : Nat → Int) : weiI m d a (d - 1) = weiL m d a := by
  rw [← lst_self (weiI m d a (d - 1)), length_weiI]
  exact lst_congr fun k hk => weiI_at hm d a (d - 1) k hk (by omega)
/-- The reference's list before number t + 3. -/
theorem weiT_all (m : Int) (d : Nat) (a : Nat → Int) : lst d (weiT m a (d - 3)) = weiL m d a := lst_congr fun k hk => weiF_at m a _ k (by omega)
/-- What the reference writes at k = t + 3. -/
theorem weiT_step {m : Int} (d t : Nat) (a : Nat → Int) (ht : t + 3 < d) (xs sq cu : List Int) (hx : xs = lst d (weiT m a t)) (hs : sq = timesL m (t + 4) xs xs) (hc : cu = timesL m (t + 4) sq xs) :
    xs.set (t + 3) ((a 0 * xs.getD (t + 2) 0 + a 1 * xs.getD (t + 1) 0 + a 2 * sq.getD (t + 3) 0 + a 3 * sq.getD (t + 2) 0 + a 4 * cu.getD (t + 3) 0 + if t + 3 = 3 then 1 else 0) % m) = lst d (weiT m a (t + 1)) := by
  have hxc : ∀ i, i < d → co xs i = weiT m a t i := fun i hi => by rw [hx]; exact co_lst2 hi
  have h0 : weiT m a t 0 = 0 := weiT_lt _ _ _ _ (by omega)
  have hsc : ∀ i, i < t + 4 → co sq i = cv m (weiT m a t) (weiT m a t) i := fun i hi => by
    rw [hs]
    exact (co_times hi).trans (cv_congr (fun j hj => hxc j (by omega)) (fun j hj => hxc j (by omega)))
  have hcc : co cu (t + 3) = cv m (cv m (weiT m a t) (weiT m a t)) (weiT m a t) (t + 3) := by
    rw [hc]
    exact (co_times (by omega)).trans (cv_congr (fun j hj => hsc j (by omega)) (fun j hj => hxc j (by omega)))
  have g1 : xs.getD (t + 2) 0 = weiT m a t (t + 2) := hxc _ (by omega)
  have g2 : xs.getD (t + 1) 0 = weiT m a t (t + 1) := hxc _ (by omega)
  have g3 : sq.getD (t + 3) 0 = _ := hsc (t + 3) (by omega)
  have g4 : sq.getD (t + 2) 0 = _ := hsc (t + 2) (by omega)
  have g5 : cu.getD (t + 3) 0 = _ := hcc
  rw [g1, g2, g3, g4, g5, hx, set_lst]
  apply lst_congr
  intro k _
  show _ = upd (weiT m a t) (t + 3) (weiV m a (weiT m a t) (t + 3)) k
  unfold weiV
  rfl
theorem weiT_num {m : Int} (hm : 2 ≤ m) (d t : Nat) (a : Nat → Int) : NumL m (lst d (weiT m a t)) := NumL.lst (by omega) fun k _ => by
  by_cases h : k < t + 3
  · rw [weiF_at m a t k h]; exact weiF_bd hm a k
  · rw [weiT_ge m a t k (by omega)]; omega

/-! ### The conditions of WeierstrassSeries -/
def weiB (m d : Int) (xs : List Int) : Bool := (xs.length == 5) && stdB m d xs
def weiN (m d : Int) (xs : List Int) : Int := if weiB m d xs = true then 0 else 2
theorem fived_any (m d : Int) (w : World) (v : Value) (xs : List Int) (B : Nat) (hv : OwnI w B v xs) :
    Calls Try.prog 78 #[.int .i64 m, .int .i64 d, v] w fun e w' => e = .returned (.int .i64 (weiN m d xs)) ∧ Below w.heap.size w w' := by
  obtain ⟨A, c, rfl, hc1, hc2, -⟩ := hv.open_
  unfold maxLen at hc2
  have HV := Lib.hid hv
  clear hv
  by_cases h5 : xs.length = 5
  · have HF : Hid (weiN m d xs = stdN m d xs) := by simp [Hid, weiN, weiB, stdN, h5]
    have hb : ((xs.length : Int) != 5) = false := by simp; omega
    have hb' : (xs.length : Int) = 5 := by omega
    have HL := Lib.hid h5
    clear h5
    go_enter Try.func78, Try.ntmps78
    go_wp2_with (go_at_call 113; refine (standard_any m d _ _ xs B HV.out).mono ?_; rintro e w1 ⟨rfl, hb1⟩)
    go_ret
    exact ⟨by rw [HF.out]; rfl, hb1⟩
  · have HF : Hid (weiN m d xs = 2) := by simp [Hid, weiN, weiB, h5]
    have hb : ((xs.length : Int) != 5) = true := by simp; omega
    have hb' : ¬ (xs.length : Int) = 5 := by omega
    go_enter Try.func78, Try.ntmps78
    go_wp2
    go_ret
    exact ⟨by rw [HF.out]; rfl, by (repeat (first | assumption | exact Below.refl _ _ | refine Below.alloc ?_ (by first | omega | (simp; done) | (simp; omega)) _ | refine Below.setCell ?_ (by first | omega | (simp; done) | (simp; omega)) _ | refine below_drewN ?_ _))⟩
theorem l08List_any (m d : Int) (w : World) (v : Value) (xs : List Int) (B : Nat) (hv : OwnI w B v xs) :
    Calls Try.prog 76 #[.int .i64 m, .int .i64 d, v] w fun e w' => e = .returned (.bool (weiB m d xs)) ∧ Below w.heap.size w w' := by
  obtain ⟨A, c, rfl, hc1, hc2, -⟩ := hv.open_
  unfold maxLen at hc2
  have HV := Lib.hid hv
  clear hv
  by_cases h5 : xs.length = 5
  · have HF : Hid (weiB m d xs = stdB m d xs) := by simp [Hid, weiB, h5]
    have hb : ((xs.length : Int) == 5) = true := by simp; omega
    have hb' : (xs.length : Int) = 5 := by omega
    have HL := Lib.hid h5
    clear h5
    cases hs : stdB m d xs
    all_goals
      rw [hs] at HF
      have HS := Lib.hid hs
      clear hs
      go_enter Try.func76, Try.ntmps76
      go_wp2_with (go_at_call 112; refine (l08Kind_any m d _ _ xs B HV.out).mono ?_; rintro e w1 ⟨rfl, hb1⟩; rw [HS.out])
      go_ret
      exact ⟨by rw [HF.out]; rfl, hb1⟩
  · have HF : Hid (weiB m d xs = false) := by simp [Hid, weiB, h5]
    have hb : ((xs.length : Int) == 5) = false := by simp; omega
    have hb' : ¬ (xs.length : Int) = 5 := by omega
    go_enter Try.func76, Try.ntmps76
    go_wp2
    go_ret
    exact ⟨by rw [HF.out]; rfl, by (repeat (first | assumption | exact Below.refl _ _ | refine Below.alloc ?_ (by first | omega | (simp; done) | (simp; omega)) _ | refine Below.setCell ?_ (by first | omega | (simp; done) | (simp; omega)) _ | refine below_drewN ?_ _))⟩

/-! ### l08Series -/
theorem mul_bd4 {a b : Int} (h1 : 0 ≤ a) (h2 : a ≤ 10000) (h3 : 0 ≤ b) (h4 : b ≤ 10000) : 0 ≤ a * b ∧ a * b ≤ 100000000 :=
  ⟨Int.mul_nonneg h1 h3, by have := Int.mul_le_mul h2 h4 h3 (show (0 : Int) ≤ 10000 by omega); omega⟩
set_option maxRecDepth 16000 in
set_option maxHeartbeats 8000000 in
theorem l08Series_any (w : World) (m d : Int) (v : Value) (xs ys : List Int) (n B : Nat) (hv : OwnI w B v xs) (hx : xs.length = 5) (hm : 2 ≤ m) (hm' : m ≤ 10000) (hn : NumL m xs) (hd : d + 1 = (n : Int)) (hn1 : 1 ≤ n) (hn2 : n ≤ 1000) (hy : weiL m n (co xs) = ys) :
    Calls Try.prog 77 #[.int .i64 m, .int .i64 d, v] w (NewI w ys) := by
  obtain ⟨A, cp, e0, hc1, hc2, hA⟩ := hv.open_
  rw [hx] at e0 hA hc1
  obtain ⟨b, rfl, -, hb, c0, -⟩ := hA 0 (by omega)
  subst e0
  obtain ⟨b1, e1, -, -, c1, -⟩ := hA 1 (by omega)
  obtain ⟨b2, e2, -, -, c2, -⟩ := hA 2 (by omega)
  obtain ⟨b3, e3, -, -, c3, -⟩ := hA 3 (by omega)
  obtain ⟨b4, e4, -, -, c4, -⟩ := hA 4 (by omega)
  simp only [Option.some.injEq, Addr.mk.injEq, and_true] at e1 e2 e3 e4
  rw [← e1] at c1
  rw [← e2] at c2
  rw [← e3] at c3
  rw [← e4] at c4
  clear e1 e2 e3 e4 hA hv b1 b2 b3 b4
  unfold maxLen at hc2
  have hd1 : d = (n : Int) - 1 := by omega
  subst hd1
  have HY := Lib.hid hy
  have HYL : Hid (ys.length = n) := by unfold Hid; rw [← hy]; exact length_lst _ _
  have g0 : 0 ≤ co xs 0 ∧ co xs 0 < m := hn 0
  have g1 : 0 ≤ co xs 1 ∧ co xs 1 < m := hn 1
  have g2 : 0 ≤ co xs 2 ∧ co xs 2 < m := hn 2
  have g3 : 0 ≤ co xs 3 ∧ co xs 3 < m := hn 3
  have g4 : 0 ≤ co xs 4 ∧ co xs 4 < m := hn 4
  have HA0 : Hid (co xs 0 = co xs 0) := rfl
  obtain ⟨a, ha⟩ : ∃ a, a = co xs := ⟨_, rfl⟩
  rw [← ha] at HY g0 g1 g2 g3 g4
  have C0 : Hid (w.cell? ⟨b, 0, none⟩ = some (.int .i64 (a 0))) := by unfold Hid; rw [ha]; exact c0
  have C1 : Hid (w.cell? ⟨b, 1, none⟩ = some (.int .i64 (a 1))) := by unfold Hid; rw [ha]; exact c1
  have C2 : Hid (w.cell? ⟨b, 2, none⟩ = some (.int .i64 (a 2))) := by unfold Hid; rw [ha]; exact c2
  have C3 : Hid (w.cell? ⟨b, 3, none⟩ = some (.int .i64 (a 3))) := by unfold Hid; rw [ha]; exact c3
  have C4 : Hid (w.cell? ⟨b, 4, none⟩ = some (.int .i64 (a 4))) := by unfold Hid; rw [ha]; exact c4
  clear hy hn hx c0 c1 c2 c3 c4 ha hd HA0
  have hwn : IntKind.i64.wrap ((n : Int) - 1 + 1) = (n : Int) := by rw [show (n : Int) - 1 + 1 = n by omega]; exact IntWalk.i64_in _ (by omega)
  have hwn2 : (n : Int) - 1 + 1 = (n : Int) := by omega
  have hwn3 : IntKind.i64.wrap (n : Int) = (n : Int) := IntWalk.i64_in _ (by omega)
  go_enter Try.func77, Try.ntmps77
  go_wp2_with (at_make; refine makeI _ n (by rfl) (by rfl) (by first | rfl | simp) (by omega) ?_; intro w1 hr1 hb1 hs1; have HS := Lib.hid hs1; clear hs1 hwn hwn2 hwn3)
  have hr2 : RowI w1 w.heap.size n (lst n (weiT m a 0)) := by
    have : lst n (weiT m a 0) = List.replicate n 0 := (replicate_lst n).symm
    rw [this]
    simpa using hr1
  go_loopw [8] (fun s wr => ∃ t : Nat, (t + 3 ≤ n ∨ t = 0) ∧ s = .int .i64 ((t : Int) + 3) ∧ Hid (RowI wr w.heap.size n (lst n (weiT m a t))) ∧ Hid (Below w.heap.size w wr)) (fun s _ => n + 4 - (intOf s).toNat)
  case atStart => exact ⟨0, .inr rfl, rfl, hr2, hb1⟩
  case round =>
    clear hr1 hb1 hr2 HS
    obtain ⟨t, ht, rfl, HR, HB⟩ := hrel
    have zB := HB.out.size
    have zR := HR.out.lt
    obtain ⟨I, hI⟩ : ∃ I : Int, I = (t : Int) + 3 := ⟨_, rfl⟩
    rw [← hI]
    have HI := Lib.hid hI
    have hIa : I ≤ (t : Int) + 3 := by omega
    have hIb : (t : Int) + 3 ≤ I := by omega
    clear hI
    by_cases hlt : t + 3 < n
    · have hlt1 : I ≤ (n : Int) - 1 := by omega
      obtain ⟨L, hL⟩ : ∃ L, L = lst n (weiT m a t) := ⟨_, rfl⟩
      have HLL : Hid (L.length = n) := by unfold Hid; rw [hL]; exact length_lst _ _
      have HLB : Hid (NumL m L) := by unfold Hid; rw [hL]; exact weiT_num hm n t a
      obtain ⟨SQ, hSQ⟩ : ∃ SQ, timesL m (t + 4) L L = SQ := ⟨_, rfl⟩
      obtain ⟨CU, hCU⟩ : ∃ CU, timesL m (t + 4) SQ L = CU := ⟨_, rfl⟩
      have HST := Lib.hid (weiT_step (m := m) n t a hlt L SQ CU hL hSQ.symm hCU.symm)
      have HSL : Hid (SQ.length = t + 4) := by unfold Hid; rw [← hSQ]; exact length_timesL _ _ _ _
      have HSB : Hid (NumL m SQ) := by unfold Hid; rw [← hSQ]; exact NumL.timesL (by omega) _ _ _
      have HCL : Hid (CU.length = t + 4) := by unfold Hid; rw [← hCU]; exact length_timesL _ _ _ _
      have HCB : Hid (NumL m CU) := by unfold Hid; rw [← hCU]; exact NumL.timesL (by omega) _ _ _
      have HSQ := Lib.hid hSQ
      have HCU := Lib.hid hCU
      rw [← hL] at HR
      clear hL hSQ hCU
      go_upto_region 7 with (first | (go_at_call 109; have _h := hb5; refine (l02Times_any m _ _ _ SQ L CU I (t + 4) w.heap.size w.heap.size (O5.out.mono zB) ((HR.out.own' (Nat.le_refl _) HLL.out).keep hb5 (Nat.le_refl _)) hm (by omega) HSB.out HLB.out (by rw [HSL.out]; omega) (by rw [HLL.out]; omega) (by omega) (by omega) HCU.out).mono ?_; rintro e w6 ⟨A6, c6, rfl, o6, hb6⟩; rw [HCL.out] at o6 ⊢; have O6 := Lib.hid o6; have zb6 := hb6.size; clear o6) | (go_at_call 109; refine (l02Times_any m _ _ _ L L SQ I (t + 4) w.heap.size w.heap.size (HR.out.own' (Nat.le_refl _) HLL.out) (HR.out.own' (Nat.le_refl _) HLL.out) hm (by omega) HLB.out HLB.out (by rw [HLL.out]; omega) (by rw [HLL.out]; omega) (by omega) (by omega) HSQ.out).mono ?_; rintro e w5 ⟨A5, c5, rfl, o5, hb5⟩; rw [HSL.out] at o5 ⊢; have O5 := Lib.hid o5; have zb5 := hb5.size; clear o5))
      have K6 : Below wr.heap.size wr w6 := hb5.trans (hb6.mono zb5)
      have R6 := HR.out.below K6 (by omega)
      have B6 : Hid (Below w.heap.size w w6) := HB.out.trans (K6.mono zB)
      have O56 := O5.out.keep hb6 (Nat.le_refl _)
      rcases O56.row with ⟨e, -⟩ | ⟨gs, cs, e, hgs, RS⟩
      · simp at e
      rcases O6.out.row with ⟨e', -⟩ | ⟨gc, cc, e', hgc, RC⟩
      · simp at e'
      rw [HSL.out] at e
      rw [HCL.out] at e'
      simp only [Value.slice.injEq] at e e'
      obtain ⟨rfl, -, rfl⟩ := e
      obtain ⟨rfl, -, rfl⟩ := e'
      have d0 := (B6.out.cell (p := ⟨b, 0, none⟩) hb).trans C0.out
      have d1 := (B6.out.cell (p := ⟨b, 1, none⟩) hb).trans C1.out
      have d2 := (B6.out.cell (p := ⟨b, 2, none⟩) hb).trans C2.out
      have d3 := (B6.out.cell (p := ⟨b, 3, none⟩) hb).trans C3.out
      have d4 := (B6.out.cell (p := ⟨b, 4, none⟩) hb).trans C4.out
      have x2c := R6.cell (k := t + 2) (by rw [HLL.out]; omega)
      have x1c := R6.cell (k := t + 1) (by rw [HLL.out]; omega)
      have s3c := RS.cell (k := t + 3) (by rw [HSL.out]; omega)
      have s2c := RS.cell (k := t + 2) (by rw [HSL.out]; omega)
      have u3c := RC.cell (k := t + 3) (by rw [HCL.out]; omega)
      have x0c := R6.cell (k := t + 3) (by rw [HLL.out]; omega)
      have x0f := R6.free (t + 3)
      have q1 := HLB.out (t + 2)
      have q2 := HLB.out (t + 1)
      have q3 := HSB.out (t + 3)
      have q4 := HSB.out (t + 2)
      have q5 := HCB.out (t + 3)
      obtain ⟨X2, hX2⟩ : ∃ X2, X2 = L.getD (t + 2) 0 := ⟨_, rfl⟩
      obtain ⟨X1, hX1⟩ : ∃ X1, X1 = L.getD (t + 1) 0 := ⟨_, rfl⟩
      obtain ⟨X0, hX0⟩ : ∃ X0, X0 = L.getD (t + 3) 0 := ⟨_, rfl⟩
      obtain ⟨S3, hS3⟩ : ∃ S3, S3 = SQ.getD (t + 3) 0 := ⟨_, rfl⟩
      obtain ⟨S2, hS2⟩ : ∃ S2, S2 = SQ.getD (t + 2) 0 := ⟨_, rfl⟩
      obtain ⟨U3, hU3⟩ : ∃ U3, U3 = CU.getD (t + 3) 0 := ⟨_, rfl⟩
      rw [← hX2, ← hX1, ← hS3, ← hS2, ← hU3] at HST
      rw [← hX2] at x2c q1
      rw [← hX1] at x1c q2
      rw [← hX0] at x0c
      rw [← hS3] at s3c q3
      rw [← hS2] at s2c q4
      rw [← hU3] at u3c q5
      obtain ⟨A0, hA0⟩ : ∃ A0, A0 = a 0 := ⟨_, rfl⟩
      obtain ⟨A1, hA1⟩ : ∃ A1, A1 = a 1 := ⟨_, rfl⟩
      obtain ⟨A2, hA2⟩ : ∃ A2, A2 = a 2 := ⟨_, rfl⟩
      obtain ⟨A3, hA3⟩ : ∃ A3, A3 = a 3 := ⟨_, rfl⟩
      obtain ⟨A4, hA4⟩ : ∃ A4, A4 = a 4 := ⟨_, rfl⟩
      have g0' := g0
      have g1' := g1
      have g2' := g2
      have g3' := g3
      have g4' := g4
      rw [← hA0, ← hA1, ← hA2, ← hA3, ← hA4] at HST
      rw [← hA0] at d0 g0'
      rw [← hA1] at d1 g1'
      rw [← hA2] at d2 g2'
      rw [← hA3] at d3 g3'
      rw [← hA4] at d4 g4'
      have R7 := Lib.hid R6
      clear hX2 hX1 hX0 hS3 hS2 hU3 hA0 hA1 hA2 hA3 hA4 g0 g1 g2 g3 g4 RS RC R6 O56
      have p0 := mul_bd4 g0'.1 (show A0 ≤ 10000 by omega) q1.1 (show X2 ≤ 10000 by omega)
      have p1 := mul_bd4 g1'.1 (show A1 ≤ 10000 by omega) q2.1 (show X1 ≤ 10000 by omega)
      have p2 := mul_bd4 g2'.1 (show A2 ≤ 10000 by omega) q3.1 (show S3 ≤ 10000 by omega)
      have p3 := mul_bd4 g3'.1 (show A3 ≤ 10000 by omega) q4.1 (show S2 ≤ 10000 by omega)
      have p4 := mul_bd4 g4'.1 (show A4 ≤ 10000 by omega) q5.1 (show U3 ≤ 10000 by omega)
      have v0 : IntKind.i64.wrap (A0 * X2) = A0 * X2 := IntWalk.i64_in _ (by omega)
      have v1 : IntKind.i64.wrap (A1 * X1) = A1 * X1 := IntWalk.i64_in _ (by omega)
      have v2 : IntKind.i64.wrap (A2 * S3) = A2 * S3 := IntWalk.i64_in _ (by omega)
      have v3 : IntKind.i64.wrap (A3 * S2) = A3 * S2 := IntWalk.i64_in _ (by omega)
      have v4 : IntKind.i64.wrap (A4 * U3) = A4 * U3 := IntWalk.i64_in _ (by omega)
      have y1 : IntKind.i64.wrap (A0 * X2 + A1 * X1) = A0 * X2 + A1 * X1 := IntWalk.i64_in _ (by omega)
      have y2 : IntKind.i64.wrap (A0 * X2 + A1 * X1 + A2 * S3) = A0 * X2 + A1 * X1 + A2 * S3 := IntWalk.i64_in _ (by omega)
      have y3 : IntKind.i64.wrap (A0 * X2 + A1 * X1 + A2 * S3 + A3 * S2) = A0 * X2 + A1 * X1 + A2 * S3 + A3 * S2 := IntWalk.i64_in _ (by omega)
      have y4 : IntKind.i64.wrap (A0 * X2 + A1 * X1 + A2 * S3 + A3 * S2 + A4 * U3) = A0 * X2 + A1 * X1 + A2 * S3 + A3 * S2 + A4 * U3 := IntWalk.i64_in _ (by omega)
      have i1 : IntKind.i64.wrap (I - 1) = ((t + 2 : Nat) : Int) := by rw [show I - 1 = ((t + 2 : Nat) : Int) by omega]; exact IntWalk.i64_in _ (by omega)
      have i2 : IntKind.i64.wrap (I - 2) = ((t + 1 : Nat) : Int) := by rw [show I - 2 = ((t + 1 : Nat) : Int) by omega]; exact IntWalk.i64_in _ (by omega)
      obtain ⟨T2, hT2⟩ : ∃ T2 : Nat, T2 = t + 2 := ⟨_, rfl⟩
      obtain ⟨T1, hT1⟩ : ∃ T1 : Nat, T1 = t + 1 := ⟨_, rfl⟩
      obtain ⟨T3, hT3⟩ : ∃ T3 : Nat, T3 = t + 3 := ⟨_, rfl⟩
      have i1' : I - 1 = (T2 : Int) := by omega
      have i2' : I - 2 = (T1 : Int) := by omega
      have i3' : I = (T3 : Int) := by omega
      have i1'' : IntKind.i64.wrap (T2 : Int) = (T2 : Int) := IntWalk.i64_in _ (by omega)
      have i2'' : IntKind.i64.wrap (T1 : Int) = (T1 : Int) := IntWalk.i64_in _ (by omega)
      rw [← hT2] at i1 x2c s2c
      rw [← hT1] at i2 x1c
      rw [← hT3] at x0c x0f s3c u3c
      subst i3'
      have j1 : (T2 : Int) < (n : Int) := by omega
      have j2 : (T1 : Int) < (n : Int) := by omega
      have j3 : (T3 : Int) < (n : Int) := by omega
      have j4 : (T2 : Int) < (t : Int) + 4 := by omega
      have j5 : (T3 : Int) < (t : Int) + 4 := by omega
      have j1' : T2 < n := by omega
      have j2' : T1 < n := by omega
      have j3' : T3 < n := by omega
      have j4' : T2 < t + 4 := by omega
      have j5' : T3 < t + 4 := by omega
      have j6 : ¬ m = 0 := by omega
      have j7 : T3 ≤ t + 3 := by omega
      have j8 : t + 3 ≤ T3 := by omega
      have HT3 := Lib.hid hT3
      clear hT1 hT2 hT3
      go_quiet (fail)
      clear v0 v1 v2 v3 v4 y1 y2 y3 i1 i2 i1' i2' j1 j2 j4 j1' j2' j4' d0 d1 d2 d3 d4 x2c x1c s3c s2c u3c
      by_cases h0 : t = 0
      · have hb3 : ((T3 : Int) == 3) = true := by simp; omega
        have z1 : IntKind.i64.wrap (A0 * X2 + A1 * X1 + A2 * S3 + A3 * S2 + A4 * U3 + 1) = A0 * X2 + A1 * X1 + A2 * S3 + A3 * S2 + A4 * U3 + 1 := IntWalk.i64_in _ (by omega)
        have z2 : (A0 * X2 + A1 * X1 + A2 * S3 + A3 * S2 + A4 * U3 + 1).tmod m = (A0 * X2 + A1 * X1 + A2 * S3 + A3 * S2 + A4 * U3 + 1) % m := Int.tmod_eq_emod_of_nonneg (by omega)
        have HST2 : Hid (L.set T3 ((A0 * X2 + A1 * X1 + A2 * S3 + A3 * S2 + A4 * U3 + 1) % m) = lst n (weiT m a (t + 1))) := by
          unfold Hid
          rw [← HST.out, if_pos (by omega), HT3.out]
        clear h0
        go_wp2
        go_roundw
        case rel =>
          refine ⟨t + 1, by omega, by go_num, ?_, Below.setCell (below_drewN B6.out _) (by first | omega | (simp; done) | (simp; omega)) _⟩
          unfold Hid
          rw [← HST2.out]
          exact (RowI.drewN R7.out _).set_ T3 _
        case measure => simp [intOf]; omega
      · have hb3 : ((T3 : Int) == 3) = false := by simp; omega
        have z2 : (A0 * X2 + A1 * X1 + A2 * S3 + A3 * S2 + A4 * U3).tmod m = (A0 * X2 + A1 * X1 + A2 * S3 + A3 * S2 + A4 * U3) % m := Int.tmod_eq_emod_of_nonneg (by omega)
        have HST2 : Hid (L.set T3 ((A0 * X2 + A1 * X1 + A2 * S3 + A3 * S2 + A4 * U3) % m) = lst n (weiT m a (t + 1))) := by
          unfold Hid
          rw [← HST.out, if_neg (by omega), HT3.out, Int.add_zero]
        clear h0
        go_wp2
        go_roundw
        case rel =>
          refine ⟨t + 1, by omega, by go_num, ?_, Below.setCell (below_drewN B6.out _) (by first | omega | (simp; done) | (simp; omega)) _⟩
          unfold Hid
          rw [← HST2.out]
          exact (RowI.drewN R7.out _).set_ T3 _
        case measure => simp [intOf]; omega
    · have hd5 : decide (I ≤ (n : Int) - 1) = false := by simp; omega
      have hR := HR.out
      have hE : lst n (weiT m a t) = ys := by
        rw [← HY.out, ← weiT_all]
        by_cases h : t + 3 ≤ n
        · rw [show t = n - 3 by omega]
        · rw [show t = 0 by omega, show n - 3 = 0 by omega]
      rw [hE] at hR
      go_wp2
      go_ret
      exact ⟨_, _, by rw [HYL.out]; rfl, hR.own (Nat.le_refl _), HB.out⟩

end Go.Proofs.Ytfdklbimdkaaiaa
