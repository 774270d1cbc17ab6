/- Contracts over this seat's translation. Condition: each contract's own. -/
import Derived.Test.YtfdklbimdkaaiaaK
import Derived.ProofKit
import Derived.Laws.Bits64b
import Derived.Lib.Mul64
import Derived.OpenShut
import Derived.Below
import Derived.ChangeSame
import Derived.Deep.Modes
import Derived.Lib.SmallJoins
import Derived.ChangeSlices
import Derived.WalkKit
import Derived.WalkSpells
import Derived.WalkLawsBesides
import Derived.Deep.QuietTactic
import Derived.BigQuiet
import Derived.Deep.RegionHeld3
import Derived.Deep.RegionWith
import Derived.Deep.RegionLaw
import Derived.Deep.AppendLies
import Derived.Laws.CopyOwn
import Derived.Deep.DeepCutAuto
import Derived.Deep.OwnRows
import Derived.Deep.LoopGhost
import Derived.Deep.DeepFit
import Derived.Deep.DeepMust
import Derived.Deep.Draws
import Derived.Deep.CutRange
import Derived.Maps.AppendAt
import Derived.Lib.Hide
import Derived.StillTailTactics
import Derived.Laws.MakeOwn
import Derived.Deep.Matrix
set_option linter.unusedVariables false
open Go Go.RowKit
namespace Go.Proofs.Ytfdklbimdkaaiaa
/-! ### Sums, compositions, reversions of series: the plain law -/
def plusF (m : Int) (a b : Nat → Int) (k : Nat) : Int := (a k + b k) % m
def plusL (m : Int) (d : Nat) (xs ys : List Int) : List Int := lst d (plusF m (co xs) (co ys))
theorem length_plusL (m : Int) (d : Nat) (xs ys : List Int) : (plusL m d xs ys).length = d := length_lst _ _
theorem NumL.plusL {m : Int} (hm : 0 < m) (d : Nat) (xs ys : List Int) : NumL m (plusL m d xs ys) := NumL.lst hm fun k _ => ⟨Int.emod_nonneg _ (by omega), Int.emod_lt_of_pos _ hm⟩
/-- Horner's rule for a composition: s steps from index t - 1 downwards. -/
def cmpF (m : Int) (a f : Nat → Int) (t : Nat) : Nat → Nat → Int
  | 0, _ => 0
  | s + 1, k => if k = 0 then (cv m (cmpF m a f t s) f 0 + a (t - 1 - s)) % m else cv m (cmpF m a f t s) f k
theorem cv_bd {m : Int} (hm : 0 < m) (a b : Nat → Int) (k : Nat) : 0 ≤ cv m a b k ∧ cv m a b k < m := cvTo_bd hm _ _ _ _
theorem cmpF_bd {m : Int} (hm : 0 < m) (a f : Nat → Int) (t s k : Nat) : 0 ≤ cmpF m a f t s k ∧ cmpF m a f t s k < m := by
  cases s with
  | zero => simp [cmpF, hm]
  | succ s =>
    simp only [cmpF]
    split
    · exact ⟨Int.emod_nonneg _ (by omega), Int.emod_lt_of_pos _ hm⟩
    · exact cv_bd hm _ _ _
/-- The composition with n coefficients of a, kept up to degree d - 1. -/
def cmpL (m : Int) (d : Nat) (xs ys : List Int) (t : Nat) : List Int := lst d (cmpF m (co xs) (co ys) t t)
theorem length_cmpL (m : Int) (d : Nat) (xs ys : List Int) (t : Nat) : (cmpL m d xs ys t).length = d := length_lst _ _
theorem co_lst {d : Nat} {g : Nat → Int} {k : Nat} (h : k < d) : co (lst d g) k = g k := getD_lst _ _ _ h
/-- One step of the program: a product, then a sum with a constant. -/
theorem cmp_step {m : Int} (hm : 0 < m) (d : Nat) (xs ys : List Int) (t s : Nat) (x : Int) (hx : x = co xs (t - 1 - s)) : plusL m d (timesL m d (lst d (cmpF m (co xs) (co ys) t s)) ys) (conL m d x) = lst d (cmpF m (co xs) (co ys) t (s + 1)) := by
  subst hx
  unfold plusL
  apply lst_congr
  intro k hk
  have e1 : co (timesL m d (lst d (cmpF m (co xs) (co ys) t s)) ys) k = cv m (cmpF m (co xs) (co ys) t s) (co ys) k := by
    unfold timesL
    rw [co_lst hk]
    exact cv_congr (fun i hi => co_lst (by omega)) fun _ _ => rfl
  have e2 : co (conL m d (co xs (t - 1 - s))) k = if k = 0 then co xs (t - 1 - s) % m else 0 := by unfold conL; rw [co_lst hk]
  unfold plusF
  rw [e1, e2]
  simp only [cmpF]
  by_cases h : k = 0
  · subst h
    simp
  · rw [if_neg h, if_neg h, Int.add_zero]
    have := cv_bd hm (cmpF m (co xs) (co ys) t s) (co ys) k
    exact Int.emod_eq_of_lt this.1 this.2
/-- One step of the reference: a product, then the constant is raised. -/
theorem cmp_step' {m : Int} (d : Nat) (xs ys : List Int) (t s : Nat) (x y : Int) (hx : x = co xs (t - 1 - s)) (hy : y = cv m (cmpF m (co xs) (co ys) t s) (co ys) 0) :
    (timesL m d (lst d (cmpF m (co xs) (co ys) t s)) ys).set 0 ((y + x) % m) = lst d (cmpF m (co xs) (co ys) t (s + 1)) := by
  subst hx hy
  unfold timesL
  rw [set_lst]
  apply lst_congr
  intro k hk
  unfold upd
  simp only [cmpF]
  by_cases h : k = 0
  · rw [if_pos h, if_pos h]
  · rw [if_neg h, if_neg h]
    exact cv_congr (fun i hi => co_lst (by omega)) fun _ _ => rfl
/-- The steps above index n do not reach coefficient n, where f begins with 0. -/
theorem cmp_cut (m : Int) (a f : Nat → Int) (hf : f 0 = 0) (n r : Nat) : ∀ s k, k + 1 ≤ s → s ≤ n + 1 → cmpF m a f (n + 1 + r) (r + s) k = cmpF m a f (n + 1) s k := by
  intro s
  induction s with
  | zero => intro k hk _; omega
  | succ s ih =>
    intro k hk hs
    have hcv : cv m (cmpF m a f (n + 1 + r) (r + s)) f k = cv m (cmpF m a f (n + 1) s) f k := by
      unfold cv cvTo
      simp only [sumN]
      rw [show k - k = 0 by omega, hf, Int.mul_zero, Int.mul_zero]
      rw [sumN_congr (n := k) (g := fun i => cmpF m a f (n + 1) s i * f (k - i))]
      intro i hi
      rw [ih i (by omega) (by omega)]
    rw [show r + (s + 1) = (r + s) + 1 by omega]
    simp only [cmpF]
    rw [hcv, show n + 1 + r - 1 - (r + s) = n + 1 - 1 - s by omega]
    by_cases h : k = 0
    · subst h
      rw [if_pos rfl, if_pos rfl]
      rw [show cv m (cmpF m a f (n + 1 + r) (r + s)) f 0 = cv m (cmpF m a f (n + 1) s) f 0 from hcv]
    · rw [if_neg h, if_neg h]
theorem cmpF_congr (m : Int) (a a' f f' : Nat → Int) (t : Nat) (n : Nat) (ha : ∀ i, i < t → a i = a' i) (hf : ∀ i, i ≤ n → f i = f' i) : ∀ s k, s ≤ t → k ≤ n → cmpF m a f t s k = cmpF m a' f' t s k := by
  intro s
  induction s with
  | zero => intro k _ _; rfl
  | succ s ih =>
    intro k hs hk
    simp only [cmpF]
    have hcv : ∀ j, j ≤ n → cv m (cmpF m a f t s) f j = cv m (cmpF m a' f' t s) f' j := fun j hj => cv_congr (fun i hi => ih i (by omega) (by omega)) fun i hi => hf i (by omega)
    rw [hcv 0 (by omega), hcv k hk, ha (t - 1 - s) (by omega)]
/-- The number at n of a composition, as far as coefficient n. -/
def rvF (m : Int) (a : Nat → Int) (l : List Int) (n : Nat) : Int := cmpF m a (co l) (n + 1) (n + 1) n
theorem rvF_bd {m : Int} (hm : 0 < m) (a : Nat → Int) (l : List Int) (n : Nat) : 0 ≤ rvF m a l n ∧ rvF m a l n < m := cmpF_bd hm _ _ _ _ _
/-- The reversion, degree by degree. -/
def revTo (m u : Int) (a : Nat → Int) (d : Nat) : Nat → Nat → Int
  | 0 => fun k => if k = 1 then u else 0
  | n + 1 => upd (revTo m u a d n) (n + 2) ((m - rvF m a (lst d (revTo m u a d n)) (n + 2)) * u % m)
theorem revTo_zero (m u : Int) (a : Nat → Int) (d n : Nat) : revTo m u a d n 0 = 0 := by
  induction n with
  | zero => simp [revTo]
  | succ n ih => simp only [revTo, upd]; rw [if_neg (by omega), ih]
theorem revTo_bd {m u : Int} (hm : 0 < m) (hu : 0 ≤ u ∧ u < m) (a : Nat → Int) (d n k : Nat) : 0 ≤ revTo m u a d n k ∧ revTo m u a d n k < m := by
  induction n generalizing k with
  | zero => simp only [revTo]; split <;> omega
  | succ n ih =>
    simp only [revTo, upd]
    split
    · exact ⟨Int.emod_nonneg _ (by omega), Int.emod_lt_of_pos _ hm⟩
    · exact ih k
def revS (m u : Int) (a : Nat → Int) (d n : Nat) : List Int := lst d (revTo m u a d n)
theorem length_revS (m u : Int) (a : Nat → Int) (d n : Nat) : (revS m u a d n).length = d := length_lst _ _
theorem NumL.revS {m u : Int} (hm : 0 < m) (hu : 0 ≤ u ∧ u < m) (a : Nat → Int) (d n : Nat) : NumL m (revS m u a d n) := NumL.lst hm fun k _ => revTo_bd hm hu a d n k
theorem revS_zero (m u : Int) (a : Nat → Int) (d n : Nat) (hd : 0 < d) : co (revS m u a d n) 0 = 0 := by unfold revS; rw [co_lst hd, revTo_zero]
theorem revS_start (m u : Int) (a : Nat → Int) (d : Nat) : (List.replicate d (0 : Int)).set 1 u = revS m u a d 0 := by
  unfold revS
  rw [replicate_lst, set_lst]
  apply lst_congr
  intro j _
  simp [upd, revTo]
theorem revS_next (m u : Int) (a : Nat → Int) (d n : Nat) : (revS m u a d n).set (n + 2) ((m - rvF m a (revS m u a d n) (n + 2)) * u % m) = revS m u a d (n + 1) := by
  unfold revS
  rw [set_lst]
  rfl
/-- The number that the program reads off its whole composition. -/
theorem cmpL_at (m : Int) (xs ys : List Int) (n d : Nat) (hn : n < d) (h0 : co ys 0 = 0) : co (cmpL m d xs ys d) n = rvF m (co xs) ys n := by
  unfold cmpL rvF
  rw [co_lst hn]
  obtain ⟨r, rfl⟩ : ∃ r, d = n + 1 + r := ⟨d - (n + 1), by omega⟩
  have := cmp_cut m (co xs) (co ys) h0 n r (n + 1) n (by omega) (by omega)
  rw [show r + (n + 1) = n + 1 + r by omega] at this
  exact this
/-- The number that the reference reads off its short composition. -/
theorem cmpL_end (m : Int) (xs ys : List Int) (n : Nat) : co (cmpL m (n + 1) xs ys (n + 1)) n = rvF m (co xs) ys n := by
  unfold cmpL rvF
  rw [co_lst (by omega)]
def revL (m : Int) (xs : List Int) : List Int := revS m (invN m (co xs 1)) (co xs) xs.length (xs.length - 2)
theorem length_revL (m : Int) (xs : List Int) : (revL m xs).length = xs.length := length_revS _ _ _ _ _
theorem NumL.cmpL {m : Int} (hm : 0 < m) (d : Nat) (xs ys : List Int) (t : Nat) : NumL m (cmpL m d xs ys t) := NumL.lst hm fun k _ => cmpF_bd hm _ _ _ _ _
def cmpS (m : Int) (d : Nat) (xs ys : List Int) (t s : Nat) : List Int := lst d (cmpF m (co xs) (co ys) t s)
theorem cmpS_zero (m : Int) (d : Nat) (xs ys : List Int) (t : Nat) : cmpS m d xs ys t 0 = List.replicate d 0 := by rw [replicate_lst]; rfl
theorem cmpS_all (m : Int) (d : Nat) (xs ys : List Int) (t : Nat) : cmpS m d xs ys t t = cmpL m d xs ys t := rfl
theorem length_cmpS (m : Int) (d : Nat) (xs ys : List Int) (t s : Nat) : (cmpS m d xs ys t s).length = d := length_lst _ _
theorem NumL.cmpS {m : Int} (hm : 0 < m) (d : Nat) (xs ys : List Int) (t s : Nat) : NumL m (cmpS m d xs ys t s) := NumL.lst hm fun k _ => cmpF_bd hm _ _ _ _ _
theorem cmpS_con (m : Int) (d : Nat) (xs ys : List Int) (t : Nat) : conL m d 0 = cmpS m d xs ys t 0 := by
  unfold conL cmpS
  apply lst_congr
  intro k _
  simp [cmpF]

/-! ### Sums and compositions of series (impl) -/
set_option maxRecDepth 16000 in
set_option maxHeartbeats 4000000 in
theorem serPlus_any (w : World) (m m2 : Int) (v v2 : Value) (xs ys zs : List Int) (d : Nat) (B B2 : Nat) (hv : OwnI w B v xs) (hv2 : OwnI w B2 v2 ys) (hm : 2 ≤ m) (hm' : m ≤ 3000000000) (hn : NumL m xs) (hn2 : NumL m ys) (hd : xs.length = d) (hd2 : ys.length = d) (hl0 : 1 ≤ d) (hl : d ≤ 1000) (hz : plusL m d xs ys = zs) :
    Calls Try.prog 115 #[.agg #[.int .i64 m, v], .agg #[.int .i64 m2, v2]] w (NewS w m zs) := by
  obtain ⟨A, cp, e0, hc1, hc2, hA⟩ := hv.open_
  obtain ⟨A2, cp2, e2, hc3, hc4, hA2⟩ := hv2.open_
  rw [hd] at e0 hc1 hA
  rw [hd2] at e2 hc3 hA2
  subst e0 e2
  unfold maxLen at hc2 hc4
  have HZ := Lib.hid hz
  have HN := Lib.hid hn
  have HN2 := Lib.hid hn2
  clear hz hn hn2 hv hv2 hd hd2
  go_enter Try.func115, Try.ntmps115
  go_upto_region 1 with fail
  go_cut [5] from 7 to 11 (fun s wx => ∃ bo g : Nat, s = .pointer (some ⟨bo, 0, none⟩) ∧ w.heap.size + 3 ≤ bo ∧ bo < wx.heap.size ∧ w.heap.size + 3 ≤ g ∧ g < wx.heap.size ∧ bo ≠ g ∧ Hid (Bf wx bo (.int .i64 m) (.slice (some ⟨g, 0, none⟩) d d)) ∧ Hid (RowI wx g d (List.replicate d 0)) ∧ Hid (Bf wx w.heap.size (.int .i64 m) (.slice A d cp)) ∧ Hid (Bf wx (w.heap.size + 1) (.int .i64 m2) (.slice A2 d cp2)) ∧ Hid (Bf wx (w.heap.size + 2) (.int .i64 0) (.slice none 0 0)) ∧ Hid (Below w.heap.size w wx))
  case first =>
    go_region_held3 (fun w' => w'.cell? ⟨w.heap.size, 0, none⟩ = some (.int .i64 m) ∧ w'.cell? ⟨w.heap.size, 1, none⟩ = some (.slice A d cp))
      (first | go_keep | (refine (fun (h : Bf _ w.heap.size (.int .i64 m) (.slice A d cp)) => ⟨h.1.2.1, h.1.2.2⟩) ((Bf.alloc1 w _ _ 26).keep ?_); (repeat (first | assumption | exact Below.refl _ _ | (refine Below.alloc ?_ ?_ _; rotate_left; (focus (first | exact Nat.le_refl _ | omega | (simp; done) | (simp; omega)))) | (refine Below.setCell ?_ ?_ _; rotate_left; (focus (first | exact Nat.le_refl _ | omega | (simp; done) | (simp; omega)))) | refine below_drew ?_ | refine below_drewN ?_ _ | (refine Below.trans ?_ (Below.mono hb2 ?_); rotate_left; (focus (first | exact Nat.le_refl _ | omega | (simp; done) | (simp; omega)))) | (refine Below.trans ?_ (Below.mono hb1 ?_); rotate_left; (focus (first | exact Nat.le_refl _ | omega | (simp; done) | (simp; omega))))))))
      (first | (go_at_call 54; refine (iDegree_any m A d cp _ (by omega)).mono ?_; rintro e w1 ⟨rfl, hb1⟩; have P1 : Bf w1 w.heap.size (.int .i64 m) (.slice A d cp) := ((Bf.alloc1 w _ _ 26).keep (by (repeat (first | assumption | exact Below.refl _ _ | (refine Below.alloc ?_ ?_ _; rotate_left; (focus (first | exact Nat.le_refl _ | omega | (simp; done) | (simp; omega)))) | (refine Below.setCell ?_ ?_ _; rotate_left; (focus (first | exact Nat.le_refl _ | omega | (simp; done) | (simp; omega)))) | refine below_drew ?_ | refine below_drewN ?_ _ | (refine Below.trans ?_ (Below.mono hb1 ?_); rotate_left; (focus (first | exact Nat.le_refl _ | omega | (simp; done) | (simp; omega)))))))); have p1a := P1.1.2.1; have p1b := P1.1.2.2; obtain ⟨hc1, hf1⟩ := bcell hb1; have z1 := hb1.size; (try simp at z1); have z1p : w.heap.size < w1.heap.size := (by omega); (first | (have y1 : w.heap.size + 3 < w1.heap.size := (by omega)) | skip)) | (go_at_call 60; refine (zero_any _ m _ d (by omega) (by omega)).mono ?_; rintro e w2 ⟨g, rfl, hg, hr2, hb2⟩; have P2 : Bf w2 w.heap.size (.int .i64 m) (.slice A d cp) := ((Bf.alloc1 w _ _ 26).keep (by (repeat (first | assumption | exact Below.refl _ _ | (refine Below.alloc ?_ ?_ _; rotate_left; (focus (first | exact Nat.le_refl _ | omega | (simp; done) | (simp; omega)))) | (refine Below.setCell ?_ ?_ _; rotate_left; (focus (first | exact Nat.le_refl _ | omega | (simp; done) | (simp; omega)))) | refine below_drew ?_ | refine below_drewN ?_ _ | (refine Below.trans ?_ (Below.mono hb2 ?_); rotate_left; (focus (first | exact Nat.le_refl _ | omega | (simp; done) | (simp; omega)))) | (refine Below.trans ?_ (Below.mono hb1 ?_); rotate_left; (focus (first | exact Nat.le_refl _ | omega | (simp; done) | (simp; omega)))))))); have p2a := P2.1.2.1; have p2b := P2.1.2.2; obtain ⟨hc2, hf2⟩ := bcell hb2; have z2 := hb2.size; (try simp at z2); (try simp at hg); have z2p : w.heap.size < w2.heap.size := (by omega)))
    all_goals
      go_wp2_with fail
      go_meet
      have zg := hr2.lt
      have KK : Hid (Below w.heap.size w w2) := by (repeat (first | assumption | exact Below.refl _ _ | (refine Below.alloc ?_ ?_ _; rotate_left; (focus (first | exact Nat.le_refl _ | omega | (simp; done) | (simp; omega)))) | (refine Below.setCell ?_ ?_ _; rotate_left; (focus (first | exact Nat.le_refl _ | omega | (simp; done) | (simp; omega)))) | refine below_drew ?_ | refine below_drewN ?_ _ | (refine Below.trans ?_ (Below.mono hb2 ?_); rotate_left; (focus (first | exact Nat.le_refl _ | omega | (simp; done) | (simp; omega)))) | (refine Below.trans ?_ (Below.mono hb1 ?_); rotate_left; (focus (first | exact Nat.le_refl _ | omega | (simp; done) | (simp; omega))))))
      refine ⟨_, g, rfl, ?_, ?_, ?_, ?_, ?_, ?_, ?_, ?_, ?_, ?_,  ?_⟩
      · first | exact Nat.le_refl _ | omega | (simp; done) | (simp; omega)
      · first | omega | (simp; done) | (simp; omega) | (simp [World.setCell]; omega)
      · first | omega | (simp; omega)
      · first | omega | (simp; done) | (simp; omega) | (simp [World.setCell]; omega)
      · first | omega | (simp; omega)
      · first | exact Bf.alloc1 w2 _ _ _ | exact ((Bf.alloc1 w1 _ _ _).keep hb2).store2 | exact (((Bf.q4 (w := w)).keep (below_undrew hb1)).keep hb2).store2
      · first | exact hr2.alloc _ | exact (hr2.far (by first | omega | (simp; omega)) _).far (by first | omega | (simp; omega)) _
      · exact (Bf.q1 (w := w) (t := 26)).keep (by (repeat (first | assumption | exact Below.refl _ _ | (refine Below.alloc ?_ ?_ _; rotate_left; (focus (first | exact Nat.le_refl _ | omega | (simp; done) | (simp; omega)))) | (refine Below.setCell ?_ ?_ _; rotate_left; (focus (first | exact Nat.le_refl _ | omega | (simp; done) | (simp; omega)))) | refine below_drew ?_ | refine below_drewN ?_ _ | (refine Below.trans ?_ (Below.mono hb2 ?_); rotate_left; (focus (first | exact Nat.le_refl _ | omega | (simp; done) | (simp; omega)))) | (refine Below.trans ?_ (Below.mono hb1 ?_); rotate_left; (focus (first | exact Nat.le_refl _ | omega | (simp; done) | (simp; omega)))))))
      · exact (Bf.q2 (w := w) (t := 26) (t' := 26)).keep (by (repeat (first | assumption | exact Below.refl _ _ | (refine Below.alloc ?_ ?_ _; rotate_left; (focus (first | exact Nat.le_refl _ | omega | (simp; done) | (simp; omega)))) | (refine Below.setCell ?_ ?_ _; rotate_left; (focus (first | exact Nat.le_refl _ | omega | (simp; done) | (simp; omega)))) | refine below_drew ?_ | refine below_drewN ?_ _ | (refine Below.trans ?_ (Below.mono hb2 ?_); rotate_left; (focus (first | exact Nat.le_refl _ | omega | (simp; done) | (simp; omega)))) | (refine Below.trans ?_ (Below.mono hb1 ?_); rotate_left; (focus (first | exact Nat.le_refl _ | omega | (simp; done) | (simp; omega)))))))
      · exact (Bf.q3 (w := w) (t := 26) (t' := 26)).keep (by (repeat (first | assumption | exact Below.refl _ _ | (refine Below.alloc ?_ ?_ _; rotate_left; (focus (first | exact Nat.le_refl _ | omega | (simp; done) | (simp; omega)))) | (refine Below.setCell ?_ ?_ _; rotate_left; (focus (first | exact Nat.le_refl _ | omega | (simp; done) | (simp; omega)))) | refine below_drew ?_ | refine below_drewN ?_ _ | (refine Below.trans ?_ (Below.mono hb2 ?_); rotate_left; (focus (first | exact Nat.le_refl _ | omega | (simp; done) | (simp; omega)))) | (refine Below.trans ?_ (Below.mono hb1 ?_); rotate_left; (focus (first | exact Nat.le_refl _ | omega | (simp; done) | (simp; omega)))))))
      · (repeat (first | assumption | exact Below.refl _ _ | (refine Below.alloc ?_ ?_ _; rotate_left; (focus (first | exact Nat.le_refl _ | omega | (simp; done) | (simp; omega)))) | (refine Below.setCell ?_ ?_ _; rotate_left; (focus (first | exact Nat.le_refl _ | omega | (simp; done) | (simp; omega)))) | refine below_drew ?_ | refine below_drewN ?_ _ | (refine Below.trans ?_ (Below.mono hb2 ?_); rotate_left; (focus (first | exact Nat.le_refl _ | omega | (simp; done) | (simp; omega)))) | (refine Below.trans ?_ (Below.mono hb1 ?_); rotate_left; (focus (first | exact Nat.le_refl _ | omega | (simp; done) | (simp; omega))))))
  case rest =>
    obtain ⟨bo, g, rfl, hbo1, hbo2, hg1, hg2, hne, HO, HR, HP, HP2, HQ, HB⟩ := hcut
    have p1 := HP.out.1.2.1
    have p2 := HP.out.1.2.2
    have o1 := HO.out.1.2.1
    have o2 := HO.out.1.2.2
    go_wp2
    go_loopw [15] (fun s wr => ∃ k : Nat, k ≤ d ∧ s = .int .i64 k ∧ Hid (Bf wr bo (.int .i64 m) (.slice (some ⟨g, 0, none⟩) d d)) ∧ Hid (RowI wr g d (lst d (fillF (plusF m (co xs) (co ys)) k))) ∧ Hid (Bf wr w.heap.size (.int .i64 m) (.slice A d cp)) ∧ Hid (Bf wr (w.heap.size + 1) (.int .i64 m2) (.slice A2 d cp2)) ∧ Hid (Bf wr (w.heap.size + 2) (.int .i64 0) (.slice none 0 0)) ∧ Hid (Below w.heap.size w wr)) (fun s _ => d - (intOf s).toNat)
    case atStart => exact ⟨0, Nat.zero_le _, rfl, HO, (by unfold Hid; rw [fill_zero]; exact HR.out), HP, HP2, HQ, HB⟩
    case round =>
      clear HO HR HP HP2 HQ HB p1 p2 o1 o2
      obtain ⟨k, hk, rfl, HO, HR, HP, HP2, HQ, HB⟩ := hrel
      have p1 := HP.out.1.2.1
      have p2 := HP.out.1.2.2
      have p3 := HP2.out.1.2.2
      have o1 := HO.out.1.2.1
      have o2 := HO.out.1.2.2
      have q1 := HQ.out.1.2.1
      have q2 := HQ.out.1.2.2
      have q3 := HQ.out.2.1
      have q4 := HQ.out.2.2
      have hzP := HP.out.1.1
      have hzO := HO.out.1.1
      by_cases hlt : k < d
      · obtain ⟨b, rfl, hb1, hb2, hcell, -⟩ := hA k hlt
        obtain ⟨b2, rfl, hb3, hb4, hcell2, -⟩ := hA2 k hlt
        clear hA hA2
        have hc0 : wr.cell? ⟨b, k, none⟩ = some (.int .i64 (co xs k)) := (HB.out.cell (p := ⟨b, k, none⟩) hb2).trans hcell
        have hc1' : wr.cell? ⟨b2, k, none⟩ = some (.int .i64 (co ys k)) := (HB.out.cell (p := ⟨b2, k, none⟩) hb4).trans hcell2
        have hnk : 0 ≤ co xs k ∧ co xs k < m := HN.out k
        have hnk2 : 0 ≤ co ys k ∧ co ys k < m := HN2.out k
        have hs := fill_step (plusF m (co xs) (co ys)) d k
        have hpk : plusF m (co xs) (co ys) k = (co xs k + co ys k) % m := rfl
        rw [hpk] at hs
        have hd0 := HR.out.cell (k := k) (by rw [length_lst]; exact hlt)
        have hf0 := HR.out.free k
        rw [fill_getD _ _ _ _ hlt] at hd0
        generalize fillF (plusF m (co xs) (co ys)) k k = y0 at hd0
        obtain ⟨x, hx⟩ : ∃ x, x = co xs k := ⟨_, rfl⟩
        obtain ⟨y, hy⟩ : ∃ y, y = co ys k := ⟨_, rfl⟩
        rw [← hx] at hc0 hnk hs
        rw [← hy] at hc1' hnk2 hs
        have HS := Lib.hid hs
        clear hx hy hcell hcell2 hs hpk
        have hk0 : (0 : Int) ≤ (k : Int) := by omega
        have hk1 : (k : Int) < (d : Int) := by omega
        have v3 : IntKind.i64.wrap (x + y) = x + y := IntWalk.i64_in _ (by omega)
        have v4 : (x + y).tmod m = (x + y) % m := Int.tmod_eq_emod_of_nonneg (by omega)
        have v11 : (m == 0) = false := by simp; omega
        have v12 : ¬ m = 0 := by omega
        go_wp2
        go_still_tail 18, (by kernel_rfl)
        change wpList _ _ _ _ _ wr.drew
        clear v3
        go_wp2
        go_roundw
        case rel =>
          refine ⟨k + 1, by omega, by go_num, HO.out.setCell (by simp; omega) _, ?_, HP.out.setCell (by simp; omega) _, HP2.out.setCell (by simp; omega) _, HQ.out.setCell (by simp; omega) _, Below.setCell (below_drew HB.out) (by simp; omega) _⟩
          unfold Hid
          rw [← HS.out]
          exact HR.out.set_ k _
        case measure => simp [intOf]; omega
      · obtain rfl : k = d := by omega
        have hR : RowI wr g k zs := by have := HR.out; rw [fill_all] at this; rw [← HZ.out]; exact this
        have hly : Hid (zs.length = k) := by unfold Hid; rw [← HZ.out, length_plusL]
        go_wp2
        refine bodyPost_ret (v := .agg #[.int .i64 m, .slice (some ⟨g, 0, none⟩) k k]) (by simp [results, Try.results115, go_sem, q1, q2]) rfl ⟨some ⟨g, 0, none⟩, k, by rw [hly.out], ?_, ?_⟩
        · rw [hly.out]
          have := ((hR.far (p := ⟨w.heap.size + 2, 0, none⟩) (by simp; omega) (.int .i64 m)).far (p := ⟨w.heap.size + 2, 1, none⟩) (by simp; omega) (.slice (some ⟨g, 0, none⟩) k k)).own (B := w.heap.size) (by omega)
          rw [hly.out] at this
          exact this
        · exact (HB.out.setCell (by simp; omega) _).setCell (by simp; omega) _

/-! ### Compositions and reversions of series (spec) -/
theorem cmp_next' {m : Int} {n : Nat} (xs ys : List Int) (s z : Nat) (x y : Int) (hz : z + s + 1 = n) (hx : x = co xs z) (hy : y = co (timesL m n (cmpS m n xs ys n s) ys) 0) :
    (timesL m n (cmpS m n xs ys n s) ys).set 0 ((y + x) % m) = cmpS m n xs ys n (s + 1) := by
  unfold cmpS at *
  apply cmp_step' n xs ys n s x y
  · rw [hx, show n - 1 - s = z by omega]
  · rw [hy]
    unfold timesL
    rw [co_lst (by omega)]
    exact cv_congr (fun i hi => co_lst (by omega)) fun _ _ => rfl
set_option maxRecDepth 16000 in
set_option maxHeartbeats 4000000 in
theorem l02Compose_any (m : Int) (w : World) (v v2 : Value) (xs ys zs : List Int) (d : Int) (n : Nat) (B B2 : Nat) (hv : OwnI w B v xs) (hv2 : OwnI w B2 v2 ys) (hm : 2 ≤ m) (hm' : m ≤ 3000000000) (hn : NumL m xs) (hn2 : NumL m ys) (hl : xs.length ≤ 1000) (hl2 : ys.length ≤ 1000) (hn1 : 1 ≤ n) (hnx : n ≤ xs.length) (hd : d + 1 = (n : Int)) (hz : cmpL m n xs ys n = zs) :
    Calls Try.prog 126 #[.int .i64 m, v, v2, .int .i64 d] w (NewI w zs) := by
  obtain ⟨A, cp, e0, hc1, hc2, hA⟩ := hv.open_
  subst e0
  obtain ⟨A2, cp2, e2⟩ := hv2.form
  subst e2
  unfold maxLen at hc2
  have HZ : Hid (cmpS m n xs ys n n = zs) := hz
  have HN := Lib.hid hn
  have HN2 := Lib.hid hn2
  have HV2 := Lib.hid hv2
  have HA := Lib.hid hA
  have hdn : IntKind.i64.wrap (d + 1) = (n : Int) := by rw [hd]; exact IntWalk.i64_in _ (by omega)
  have hmin : min ((xs.length : Int) - 1) d = d := Int.min_eq_right (by omega)
  have hd1 : d + 1 ≤ (n : Int) := by omega
  have hd2 : (n : Int) ≤ d + 1 := by omega
  have HD := Lib.hid hd
  clear hz hn hn2 hv hv2 hA hd
  go_enter Try.func126, Try.ntmps126
  go_wp2_with (at_make; refine makeI _ n (by rfl) (by rfl) (by first | rfl | simp) (by omega) ?_; intro w1 hr1 hb1 hs1; have HS := Lib.hid hs1; clear hs1 hdn)
  all_goals
    have hr2 : RowI w1 w.heap.size n (cmpS m n xs ys n 0) := by rw [cmpS_zero]; simpa using hr1
    go_loopw [9, 10] (fun r i wr => ∃ s g c' : Nat, s ≤ n ∧ r = .slice (some ⟨g, 0, none⟩) n c' ∧ i = .int .i64 (d - (s : Int)) ∧ w.heap.size ≤ g ∧ Hid (RowI wr g c' (cmpS m n xs ys n s)) ∧ Hid (Below w.heap.size w wr)) (fun _ i _ => (intOf i + 1).toNat)
    case atStart => exact ⟨0, w.heap.size, n, Nat.zero_le _, rfl, by first | (simp; done) | (simp; omega), Nat.le_refl _, hr2, by first | exact hb1 | ((repeat (first | assumption | exact Below.refl _ _ | refine Below.alloc ?_ (by first | omega | (simp; done) | (simp; omega)) _ | refine Below.setCell ?_ (by first | omega | (simp; done) | (simp; omega)) _ | refine below_drewN ?_ _)))⟩
    case round =>
      clear hr1 hr2 hb1
      obtain ⟨s, g, c', hs, rfl, rfl, hg, HR, HB⟩ := hrel
      have zB := HB.out.size
      obtain ⟨I, hI⟩ : ∃ I : Int, I = d - (s : Int) := ⟨_, rfl⟩
      rw [← hI]
      have HI := Lib.hid hI
      have hIa : I ≤ d - (s : Int) := by omega
      have hIb : d - (s : Int) ≤ I := by omega
      clear hI
      by_cases hlt : s < n
      · have hI0 : 0 ≤ I := by omega
        obtain ⟨z, hzs⟩ : ∃ z, z + s + 1 = n := ⟨n - 1 - s, by omega⟩
        have hzI : I = (z : Int) := by omega
        have HZS := Lib.hid hzs
        obtain ⟨b, rfl, hb1, hb2, hcell0, -⟩ := HA.out z (by omega)
        have hc0 : w.cell? ⟨b, z, none⟩ = some (.int .i64 (co xs z)) := hcell0
        clear hcell0
        have HLN : Hid ((cmpS m n xs ys n s).length = n) := length_cmpS _ _ _ _ _ _
        have HLB : Hid (NumL m (cmpS m n xs ys n s)) := NumL.cmpS (by omega) _ _ _ _ _
        have HTL : Hid ((timesL m n (cmpS m n xs ys n s) ys).length = n) := length_timesL _ _ _ _
        have HTB : Hid (NumL m (timesL m n (cmpS m n xs ys n s) ys)) := NumL.timesL (by omega) _ _ _
        have HST := fun x y h1 h2 => Lib.hid (cmp_next' (m := m) xs ys s z x y hzs h1 h2)
        subst hzI
        go_wp2_with fail
        refine (l02Times_any m wr _ _ (cmpS m n xs ys n s) ys (timesL m n (cmpS m n xs ys n s) ys) d n w.heap.size B2 (HR.out.own' hg HLN.out) (HV2.out.keep HB.out (Nat.le_refl _)) hm hm' HLB.out HN2.out (by rw [HLN.out]; omega) (by omega) HD.out (by omega) rfl).mono ?_
        rintro e w5 ⟨A5, c5, rfl, o5, hb5⟩
        rw [HTL.out] at o5 ⊢
        have o6 := o5.row
        rcases o6 with ⟨e6, -⟩ | ⟨g5, c6, e6, hg5, R5⟩
        · simp at e6
          omega
        rw [HTL.out] at e6
        injection e6 with e6a e6b e6c
        subst e6a e6c
        have hd0 := R5.cell (k := 0) (by rw [HTL.out]; omega)
        have hf0 := R5.free 0
        have hyb : 0 ≤ (timesL m n (cmpS m n xs ys n s) ys).getD 0 0 ∧ (timesL m n (cmpS m n xs ys n s) ys).getD 0 0 < m := HTB.out 0
        have hxb : 0 ≤ co xs z ∧ co xs z < m := HN.out z
        obtain ⟨y, hy⟩ : ∃ y, y = (timesL m n (cmpS m n xs ys n s) ys).getD 0 0 := ⟨_, rfl⟩
        obtain ⟨x, hx⟩ : ∃ x, x = co xs z := ⟨_, rfl⟩
        have hst := (HST x y hx hy).out
        rw [← hy] at hd0 hyb
        have K5 := HB.out.trans (hb5.mono zB)
        have hc1' := (K5.cell (p := ⟨b, z, none⟩) hb2).trans hc0
        rw [← hx] at hc1' hxb
        have HST2 := Lib.hid hst
        have zR := R5.lt
        have zw := hb5.size
        clear hst HST hx hy hc0
        have v3 : IntKind.i64.wrap (y + x) = y + x := IntWalk.i64_in _ (by omega)
        have v4 : (y + x).tmod m = (y + x) % m := Int.tmod_eq_emod_of_nonneg (by omega)
        have v11 : (m == 0) = false := by simp; omega
        have v12 : ¬ m = 0 := by omega
        have hn0 : (0 : Int) < (n : Int) := by omega
        have hn00 : 0 < n := by omega
        have hn01 : ¬ n = 0 := by omega
        have hz1 : (z : Int) < (xs.length : Int) := by omega
        have hz2 : (0 : Int) ≤ (z : Int) := by omega
        go_wp2
        go_still_tail 12, (by kernel_rfl)
        change wpList _ _ _ _ _ w5.drew
        clear v3
        go_wp2
        go_roundw
        case rel =>
          refine ⟨s + 1, g5, c5, by omega, rfl, by go_num, by omega, ?_, ?_⟩
          · unfold Hid
            rw [← HST2.out]
            exact (R5.drewN 1).set_ 0 _
          · exact Below.setCell (below_drew K5) (by simp; omega) _
        case measure => first | (simp [intOf]; done) | (simp [intOf]; omega)
      · have hsn : s = n := by omega
        have hR := HR.out
        rw [hsn, HZ.out] at hR
        have hly : Hid (zs.length = n) := by unfold Hid; rw [← HZ.out, length_cmpS]
        have hI0 : decide (0 ≤ I) = false := by simp; omega
        clear hsn
        go_wp2
        go_ret
        exact ⟨_, _, by rw [hly.out]; rfl, hR.own hg, HB.out⟩
set_option maxRecDepth 16000 in
set_option maxHeartbeats 4000000 in
theorem l02Reverse_any (m : Int) (w : World) (v : Value) (xs zs : List Int) (d : Int) (B : Nat) (hv : OwnI w B v xs) (hm : 2 ≤ m) (hm' : m ≤ 3000000000) (hn : NumL m xs) (hl0 : 2 ≤ xs.length) (hl : xs.length ≤ 1000) (hd : d + 1 = (xs.length : Int)) (hz : revL m xs = zs) :
    Calls Try.prog 91 #[.int .i64 m, v, .int .i64 d] w (NewI w zs) := by
  obtain ⟨A, cp, e0, hc1, hc2, hA⟩ := hv.open_
  subst e0
  unfold maxLen at hc2
  obtain ⟨u, hu⟩ : ∃ u, u = invN m (co xs 1) := ⟨_, rfl⟩
  have hub := invN_bd (show 0 < m by omega) (co xs 1)
  rw [← hu] at hub
  obtain ⟨n, hnn⟩ : ∃ n, n = xs.length := ⟨_, rfl⟩
  have HZ : Hid (revS m u (co xs) n (n - 2) = zs) := by rw [hu, hnn]; exact hz
  have HNN := Lib.hid hnn
  have HN := Lib.hid hn
  have HV := Lib.hid hv
  have HU : Hid (invN m (co xs 1) = u) := hu.symm
  obtain ⟨b, rfl, hb1, hb2, hcell0, -⟩ := hA 1 (by omega)
  have hc0 : w.cell? ⟨b, 1, none⟩ = some (.int .i64 (co xs 1)) := hcell0
  rw [← hnn] at hl0 hl hd hc1 ⊢
  rw [← hnn] at HV
  have HNB := Lib.hid (NumL.revS (m := m) (u := u) (show 0 < m by omega) hub (co xs) n)
  clear hz hn hv hu hA hcell0
  generalize co xs 1 = x1 at hc0 HU
  have hdn : IntKind.i64.wrap (d + 1) = (n : Int) := by rw [hd]; exact IntWalk.i64_in _ (by omega)
  have hd1 : d + 1 ≤ (n : Int) := by omega
  have hd2 : (n : Int) ≤ d + 1 := by omega
  have hk2 : 1 < n := by omega
  have hk3 : (1 : Int) < (n : Int) := by omega
  have hk4 : ¬ n ≤ 1 := by omega
  clear hd hnn
  go_enter Try.func91, Try.ntmps91
  go_wp2_with (first | (at_make; refine makeI _ n (by rfl) (by rfl) (by first | rfl | simp) (by omega) ?_; intro w1 hr1 hb1' hs1; have HS := Lib.hid hs1; have hc0' := (hb1'.cell (p := ⟨b, 1, none⟩) hb2).trans hc0; clear hs1 hdn) | (go_at_call 96; refine (l01Inv_any m x1 _ (by omega) (by omega)).mono ?_; rintro e w2 ⟨rfl, k1, rfl⟩; rw [HU.out]; have hd0 := hr1.cell (k := 1) (by simp; omega); have hf0 := hr1.free 1))
  have hr3 : RowI ((w1.drewN k1).setCell ⟨w.heap.size, 1, none⟩ (.int .i64 u)) w.heap.size n (revS m u (co xs) n 0) := by
    rw [← revS_start]
    have h := (hr1.drewN k1).set_ 1 u
    simpa using h
  have hb3 : Below w.heap.size w ((w1.drewN k1).setCell ⟨w.heap.size, 1, none⟩ (.int .i64 u)) := (below_drewN hb1' k1).setCell (Nat.le_refl _) _
  go_loopw [9] (fun i wr => ∃ k : Nat, k + 2 ≤ n ∧ i = .int .i64 ((k : Int) + 2) ∧ Hid (RowI wr w.heap.size n (revS m u (co xs) n k)) ∧ Hid (Below w.heap.size w wr)) (fun i _ => n + 2 - (intOf i).toNat)
  case atStart => exact ⟨0, by omega, rfl, hr3, hb3⟩
  case round =>
    clear hr1 hb1' hr3 hb3 hd0 hf0 hc0'
    obtain ⟨k, hk, rfl, HR, HB⟩ := hrel
    have zB := HB.out.size
    have zR := HR.out.lt
    obtain ⟨I, hI⟩ : ∃ I : Int, I = (k : Int) + 2 := ⟨_, rfl⟩
    rw [← hI]
    have HI := Lib.hid hI
    have hIa : I ≤ (k : Int) + 2 := by omega
    have hIb : (k : Int) + 2 ≤ I := by omega
    have hIn : Hid (I.toNat = k + 2) := by unfold Hid; omega
    clear hI
    by_cases hlt : k + 2 < n
    · have hlt1 : I ≤ d := by omega
      have HL : Hid ((revS m u (co xs) n k).length = n) := length_revS _ _ _ _ _
      have HNX := Lib.hid (revS_next m u (co xs) n k)
      have HCE := Lib.hid (cmpL_end m xs (revS m u (co xs) n k) (k + 2))
      have HCL : Hid ((cmpL m (k + 2 + 1) xs (revS m u (co xs) n k) (k + 2 + 1)).length = k + 3) := length_cmpL _ _ _ _ _
      have hrb := rvF_bd (show 0 < m by omega) (co xs) (revS m u (co xs) n k) (k + 2)
      go_wp2_with fail
      refine (l02Compose_any m wr _ _ xs (revS m u (co xs) n k) (cmpL m (k + 2 + 1) xs (revS m u (co xs) n k) (k + 2 + 1)) I (k + 2 + 1) B w.heap.size (by have := HV.out.keep HB.out (Nat.le_refl _); exact this) (HR.out.own' (Nat.le_refl _) HL.out) hm hm' HN.out (HNB.out k) (by rw [← HNN.out]; omega) (by rw [HL.out]; omega) (by omega) (by rw [← HNN.out]; omega) (by omega) rfl).mono ?_
      rintro e w5 ⟨A5, c5, rfl, o5, hb5⟩
      rw [HCL.out] at o5 ⊢
      obtain ⟨A6, c6, e6, -, -, h6⟩ := o5.open_
      rw [HCL.out] at e6 h6
      obtain ⟨g5, rfl, -, -, hcell5, -⟩ := h6 (k + 2) (by omega)
      injection e6 with e6a e6b e6c
      subst e6a e6c
      change _ = some (Value.int .i64 (co _ (k + 2))) at hcell5
      rw [HCE.out] at hcell5
      have R5 := HR.out.below hb5 zR
      have K5 := HB.out.trans (hb5.mono zB)
      have hd0 := R5.cell (k := k + 2) (by rw [HL.out]; exact hlt)
      have hf0 := R5.free (k + 2)
      obtain ⟨y1, hy1⟩ : ∃ y1, y1 = (revS m u (co xs) n k).getD (k + 2) 0 := ⟨_, rfl⟩
      rw [← hy1] at hd0
      obtain ⟨r, hr⟩ : ∃ r, r = rvF m (co xs) (revS m u (co xs) n k) (k + 2) := ⟨_, rfl⟩
      rw [← hr] at hrb hcell5 HNX
      clear hy1 hr h6
      have hpa := mul_bd (show 0 ≤ m - r by omega) (show m - r ≤ 3000000000 by omega) hub.1 (show u ≤ 3000000000 by omega)
      have v1 : IntKind.i64.wrap (m - r) = m - r := IntWalk.i64_in _ (by omega)
      have v2 : IntKind.i64.wrap ((m - r) * u) = (m - r) * u := IntWalk.i64_in _ (by omega)
      have v3 : ((m - r) * u).tmod m = (m - r) * u % m := Int.tmod_eq_emod_of_nonneg (by omega)
      have v4 : (0 : Int) ≤ I := by omega
      have v5 : I < (n : Int) := by omega
      have v6 : I < ((k + 3 : Nat) : Int) := by omega
      have v6' : I < (k : Int) + 3 := by omega
      have v7 := hIn.out
      have v8 : ¬ m = 0 := by omega
      have v9 : IntKind.i64.wrap (I + 1) = I + 1 := IntWalk.i64_in _ (by omega)
      go_wp2
      go_roundw
      case rel =>
        refine ⟨k + 1, by omega, by rw [HI.out]; go_num, ?_, Below.setCell K5 (by simp) _⟩
        unfold Hid
        rw [← HNX.out]
        exact R5.set_ (k + 2) _
      case measure => simp [intOf]; omega
    · have hkn : k = n - 2 := by omega
      have hR := HR.out
      rw [hkn, HZ.out] at hR
      have hly : Hid (zs.length = n) := by unfold Hid; rw [← HZ.out, length_revS]
      have hd5 : decide (I ≤ d) = false := by simp; omega
      clear hkn
      go_wp2
      go_ret
      exact ⟨_, _, by rw [hly.out]; rfl, hR.own (Nat.le_refl _), HB.out⟩

set_option maxRecDepth 16000 in
set_option maxHeartbeats 8000000 in
theorem compose_any (w : World) (m : Int) (v v2 : Value) (xs ys zs : List Int) (d : Nat) (B B2 : Nat) (hv : OwnI w B v xs) (hv2 : OwnI w B2 v2 ys) (hm : 2 ≤ m) (hm' : m ≤ 3000000000) (hn : NumL m xs) (hn2 : NumL m ys) (hd : xs.length = d) (hd2 : ys.length = d) (hl0 : 1 ≤ d) (hl : d ≤ 1000) (hz : cmpL m d xs ys d = zs) :
    Calls Try.prog 127 #[.agg #[.int .i64 m, v], .agg #[.int .i64 m, v2]] w (NewS w m zs) := by
  obtain ⟨A, cp, e0, hc1, hc2, hA⟩ := hv.open_
  obtain ⟨A2, cp2, e2⟩ := hv2.form
  rw [hd] at e0 hc1 hA
  rw [hd2] at e2
  subst e0 e2
  unfold maxLen at hc2
  obtain ⟨b, rfl, -, hb2, -, -⟩ := hA 0 (by omega)
  have hcl : Hid (∀ k, k < d → w.cell? ⟨b, k, none⟩ = some (.int .i64 (co xs k))) := by
    intro k hk
    obtain ⟨b', e, _, _, h, _⟩ := hA k hk
    simp at e
    subst e
    exact h
  have HZ : Hid (cmpS m d xs ys d d = zs) := hz
  have HN := Lib.hid hn
  have HN2 := Lib.hid hn2
  have HX := Lib.hid hd
  have HY := Lib.hid hd2
  have HV : Hid (OwnI w B (.slice (some ⟨b, 0, none⟩) d cp) xs) := hv
  have HV2 := Lib.hid hv2
  clear hz hn hn2 hv hv2 hA hd hd2
  go_enter Try.func127, Try.ntmps127
  have Z1 : Bf (((w.alloc (.cells #[.int .i64 m, .slice (some ⟨b, 0, none⟩) d cp] 26)).alloc (.cells #[.int .i64 m, .slice A2 d cp2] 26)).alloc (.cells #[.int .i64 0, .slice none 0 0] 26)) w.heap.size (.int .i64 m) (.slice (some ⟨b, 0, none⟩) d cp) := (Bf.q1.alloc _).alloc _
  have Z2 : Bf (((w.alloc (.cells #[.int .i64 m, .slice (some ⟨b, 0, none⟩) d cp] 26)).alloc (.cells #[.int .i64 m, .slice A2 d cp2] 26)).alloc (.cells #[.int .i64 0, .slice none 0 0] 26)) (w.heap.size + 1) (.int .i64 m) (.slice A2 d cp2) := Bf.q2.alloc _
  have Z3 : Bf (((w.alloc (.cells #[.int .i64 m, .slice (some ⟨b, 0, none⟩) d cp] 26)).alloc (.cells #[.int .i64 m, .slice A2 d cp2] 26)).alloc (.cells #[.int .i64 0, .slice none 0 0] 26)) (w.heap.size + 2) (.int .i64 0) (.slice none 0 0) := Bf.q3
  have KZ : Below w.heap.size w (((w.alloc (.cells #[.int .i64 m, .slice (some ⟨b, 0, none⟩) d cp] 26)).alloc (.cells #[.int .i64 m, .slice A2 d cp2] 26)).alloc (.cells #[.int .i64 0, .slice none 0 0] 26)) := by (repeat (first | assumption | exact Below.refl _ _ | refine Below.alloc ?_ (by first | omega | (simp; done) | (simp; omega)) _ | refine Below.setCell ?_ (by first | omega | (simp; done) | (simp; omega)) _ | refine below_drewN ?_ _))
  go_wp2_with (first | (go_at_call 110; refine (constant_any _ m (.slice (some ⟨b, 0, none⟩) d cp) xs (cmpS m d xs ys d 0) 0 B (OwnI.keep HV.out KZ (Nat.le_refl _)) hm hm' (by rw [HX.out]; exact hl0) (by rw [HX.out]; exact hl) (by rw [HX.out]; exact cmpS_con _ _ _ _ _)).mono ?_; rintro e w1 ⟨A1, c1, rfl, o1, hb1⟩; rw [length_cmpS] at o1 ⊢; have P1 := Z1.keep hb1; have F1 := Z2.keep hb1; have Q1 := Z3.keep hb1; have K1 := KZ.trans (hb1.mono KZ.size); have p1a := P1.1.2.1; have p1b := P1.1.2.2; have zz1 := Q1.1.1; have zz2 := hb1.size; have o1x := Lib.hid o1; clear o1; have P1b := P1.alloc (.cells #[.int .i64 m, .slice A1 d c1] 26); have p1c := P1b.1.2.1; have p1d := P1b.1.2.2; clear p1a p1b; have O1 := (Bf.alloc1 w1 (.int .i64 m) (.slice A1 d c1) 26); have p1a := P1.1.2.1; have p1b := P1.1.2.2) | (go_at_call 54; refine (iDegree_any m (some ⟨b, 0, none⟩) d cp _ (by omega)).mono ?_; rintro e w2 ⟨rfl, hb3⟩))
  obtain ⟨bo, hbo⟩ : ∃ bo, bo = w1.heap.size := ⟨_, rfl⟩
  have P2 := P1b.keep hb3
  have F2 := (F1.alloc (.cells #[.int .i64 m, .slice A1 d c1] 26)).keep hb3
  have Q2 := (Q1.alloc (.cells #[.int .i64 m, .slice A1 d c1] 26)).keep hb3
  have O2 := O1.keep hb3
  have o2 : OwnI w2 (w.heap.size + 3) (.slice A1 d c1) (cmpS m d xs ys d 0) := ((o1x.out.alloc _).keep hb3 (Nat.le_refl _)).mono (by simp)
  have f2 : Off (.slice A1 d c1) bo := o1x.out.off (.inr (by omega))
  have K2 : Below w.heap.size w w2 := (K1.alloc (by omega) _).trans (hb3.mono (by simp; omega))
  rw [← hbo] at O2 ⊢
  have hbo1 : w.heap.size + 3 ≤ bo := by omega
  clear P1 F1 Q1 O1 P1b o1x p1a p1b p1c p1d hb1 hb3 zz1 zz2 Z1 Z2 Z3 KZ K1 hbo
  go_loopw [6] (fun i wr => ∃ (s : Nat) (Ao : Option Addr) (co' : Nat), s ≤ d ∧ i = .int .i64 ((d : Int) - 1 - (s : Int)) ∧ Hid (OwnI wr (w.heap.size + 3) (.slice Ao d co') (cmpS m d xs ys d s) ∧ Off (.slice Ao d co') bo) ∧ Hid (Bf wr bo (.int .i64 m) (.slice Ao d co')) ∧ Hid (Bf wr w.heap.size (.int .i64 m) (.slice (some ⟨b, 0, none⟩) d cp)) ∧ Hid (Bf wr (w.heap.size + 1) (.int .i64 m) (.slice A2 d cp2)) ∧ Hid (Bf wr (w.heap.size + 2) (.int .i64 0) (.slice none 0 0)) ∧ Hid (Below w.heap.size w wr)) (fun i _ => (intOf i + 1).toNat)
  case atStart => exact ⟨0, A1, c1, Nat.zero_le _, by simp, ⟨o2, f2⟩, O2, P2, F2, Q2, K2⟩
  case round =>
    clear P2 F2 Q2 O2 o2 f2 K2
    obtain ⟨s, Ao, co', hs, rfl, HR, HO, HP, HF, HQ, HB⟩ := hrel
    have zB := HB.out.size
    have zO := HO.out.1.1
    have zQ := HQ.out.1.1
    obtain ⟨I, hI⟩ : ∃ I : Int, I = (d : Int) - 1 - (s : Int) := ⟨_, rfl⟩
    rw [← hI]
    have HI := Lib.hid hI
    have hIa : I ≤ (d : Int) - 1 - (s : Int) := by omega
    have hIb : (d : Int) - 1 - (s : Int) ≤ I := by omega
    clear hI
    have o1 := HO.out.1.2.1
    have o2 := HO.out.1.2.2
    have q1 := HQ.out.1.2.1
    have q2 := HQ.out.1.2.2
    have q3 := HQ.out.2.1
    have q4 := HQ.out.2.2
    by_cases hlt : s < d
    · have hI0 : 0 ≤ I := by omega
      obtain ⟨z, hzs⟩ : ∃ z, z + s + 1 = d := ⟨d - 1 - s, by omega⟩
      have hzI : I = (z : Int) := by omega
      subst hzI
      have hc0 : wr.cell? ⟨b, z, none⟩ = some (.int .i64 (co xs z)) := (HB.out.cell (p := ⟨b, z, none⟩) hb2).trans (hcl.out z (by omega))
      obtain ⟨x, hx⟩ : ∃ x, x = co xs z := ⟨_, rfl⟩
      rw [← hx] at hc0
      have HST : Hid (plusL m d (timesL m d (cmpS m d xs ys d s) ys) (conL m d x) = cmpS m d xs ys d (s + 1)) := by
        unfold Hid cmpS
        exact cmp_step (by omega) d xs ys d s x (by rw [hx, show d - 1 - s = z by omega])
      have HLN : Hid ((cmpS m d xs ys d s).length = d) := length_cmpS _ _ _ _ _ _
      have HLB : Hid (NumL m (cmpS m d xs ys d s)) := NumL.cmpS (by omega) _ _ _ _ _
      have HTL : Hid ((timesL m d (cmpS m d xs ys d s) ys).length = d) := length_timesL _ _ _ _
      have HTB : Hid (NumL m (timesL m d (cmpS m d xs ys d s) ys)) := NumL.timesL (by omega) _ _ _
      have HCL : Hid ((conL m d x).length = d) := length_conL _ _ _
      have HCB : Hid (NumL m (conL m d x)) := NumL.con (by omega) _ _
      have HPL : Hid ((cmpS m d xs ys d (s + 1)).length = d) := length_cmpS _ _ _ _ _ _
      have p1 := HP.out.1.2.1
      have p2 := HP.out.1.2.2
      have f1 := HF.out.1.2.1
      have f2 := HF.out.1.2.2
      have hz1 : (z : Int) < (d : Int) := by omega
      have hz2 : (0 : Int) ≤ (z : Int) := by omega
      have hz3 : z < d := by omega
      clear hx
      go_wp2
      go_region_law ((first | (go_simp; go_at_call 111; refine (times_any _ m m (.slice Ao d co') (.slice A2 d cp2) (cmpS m d xs ys d s) ys (timesL m d (cmpS m d xs ys d s) ys) d (w.heap.size + 3) B2 (OwnI.drewN HR.out.1 1) (OwnI.drewN (HV2.out.keep HB.out (Nat.le_refl _)) 1) hm hm' HLB.out HN2.out HLN.out HY.out hl0 hl rfl).mono ?_; rintro e w3 ⟨A3, c3, rfl, o3, hb3⟩; rw [HTL.out] at o3 ⊢; have H3 := Lib.hid o3; have R3 := Lib.hid (below_undrew hb3); have s3 : wr.heap.size ≤ w3.heap.size := hb3.size; clear o3 hb3; have p3a := (HP.out.keep R3.out).1.2.1; have p3b := (HP.out.keep R3.out).1.2.2; have c3z : w3.cell? ⟨b, z, none⟩ = some (.int .i64 x) := (R3.out.cell (p := ⟨b, z, none⟩) (by show b < wr.heap.size; omega)).trans hc0) | (go_simp; go_at_call 110; refine (constant_any _ m (.slice (some ⟨b, 0, none⟩) d cp) xs (conL m d x) x B (HV.out.keep (HB.out.trans (R3.out.mono zB)) (Nat.le_refl _)) hm hm' (by rw [HX.out]; exact hl0) (by rw [HX.out]; exact hl) (by rw [HX.out])).mono ?_; rintro e w4 ⟨A4, c4, rfl, o4, hb4⟩; rw [HCL.out] at o4 ⊢; have H4 := Lib.hid o4; have R4 := Lib.hid hb4; have s4 : w3.heap.size ≤ w4.heap.size := hb4.size; clear o4 hb4) | (go_simp; go_at_call 115; refine (serPlus_any _ m m (.slice A3 d c3) (.slice A4 d c4) (timesL m d (cmpS m d xs ys d s) ys) (conL m d x) (cmpS m d xs ys d (s + 1)) d _ _ (H3.out.keep R4.out (Nat.le_refl _)) H4.out hm hm' HTB.out HCB.out HTL.out HCL.out hl0 hl HST.out).mono ?_; rintro e w5 ⟨A5, c5, rfl, o5, hb5⟩; rw [HPL.out] at o5 ⊢; have H5 := Lib.hid o5; have R5 := Lib.hid (R3.out.trans ((R4.out.mono s3).trans (hb5.mono (by omega)))); have s5 : wr.heap.size ≤ w5.heap.size := R5.out.size; clear o5 hb5; have O5 := HO.out.keep R5.out; have o5a := O5.1.2.1; have o5b := O5.1.2.2; have o5c := O5.2.1; have o5d := O5.2.2)))
      all_goals
        go_wp2
        go_roundw
        case rel =>
          have off5 : Off (.slice A5 d c5) bo := H5.out.off (.inl (by omega))
          refine ⟨s + 1, A5, c5, by omega, by go_num, ⟨(H5.out.store off5).mono (by omega), off5⟩, O5.store2, ((HP.out.keep R5.out).setCell (by simp; omega) _).setCell (by simp; omega) _, ((HF.out.keep R5.out).setCell (by simp; omega) _).setCell (by simp; omega) _, ((HQ.out.keep R5.out).setCell (by simp; omega) _).setCell (by simp; omega) _, ((HB.out.trans (R5.out.mono zB)).setCell (by simp; omega) _).setCell (by simp; omega) _⟩
        case measure => first | (simp [intOf]; done) | (simp [intOf]; omega)
    · have hsn : s = d := by omega
      have hR := HR.out.1
      rw [hsn, HZ.out] at hR
      have hly : Hid (zs.length = d) := by unfold Hid; rw [← HZ.out, length_cmpS]
      have hI0 : decide (0 ≤ I) = false := by simp; omega
      clear hsn
      go_wp2
      refine bodyPost_ret (v := .agg #[.int .i64 m, .slice Ao d co']) (by simp [results, Try.results127, go_sem, q1, q2]) rfl ⟨Ao, co', by rw [hly.out], ?_, ?_⟩
      · rw [hly.out]
        exact (hR.store (hR.off (.inl (by omega)))).mono (by omega)
      · exact (HB.out.setCell (by simp; omega) _).setCell (by simp; omega) _

/-! ### reverse (impl series) -/
set_option maxRecDepth 8000 in
set_option maxHeartbeats 8000000 in
theorem serReverse_any (w : World) (m : Int) (v : Value) (xs ys : List Int) (B : Nat) (hv : OwnI w B v xs) (hm : 2 ≤ m) (hm' : m ≤ 3000000000) (hn : NumL m xs) (hl0 : 2 ≤ xs.length) (hl : xs.length ≤ 1000) (hy : revL m xs = ys) :
    Calls Try.prog 93 #[.agg #[.int .i64 m, v]] w (NewS w m ys) := by
  obtain ⟨A, cp, e0, hc1, hc2, hA⟩ := hv.open_
  subst e0
  unfold maxLen at hc2
  obtain ⟨u, hu⟩ : ∃ u, u = invN m (co xs 1) := ⟨_, rfl⟩
  have hub := invN_bd (show 0 < m by omega) (co xs 1)
  rw [← hu] at hub
  have HZ : Hid (revS m u (co xs) xs.length (xs.length - 2) = ys) := by rw [hu]; exact hy
  have HN := Lib.hid hn
  have HNB := Lib.hid (NumL.revS (m := m) (u := u) (show 0 < m by omega) hub (co xs) xs.length)
  obtain ⟨b, rfl, hb1, hb2, hcell0, hfr0⟩ := hA 1 (by omega)
  have hc0 : w.cell? ⟨b, 1, none⟩ = some (.int .i64 (co xs 1)) := hcell0
  have HV := Lib.hid hv
  have HU : Hid (invN m (co xs 1) = u) := hu.symm
  clear hn hv hu hA hcell0 hfr0 hy
  generalize co xs 1 = x0 at hc0 HU
  have hk2 : 0 < xs.length := by omega
  have hk3 : (0 : Int) < (xs.length : Int) := by omega
  have hk4 : ¬ xs.length = 0 := by omega
  have hk5 : 1 < xs.length := by omega
  have hk6 : (1 : Int) < (xs.length : Int) := by omega
  have hk7 : ¬ xs.length ≤ 1 := by omega
  go_enter Try.func93, Try.ntmps93
  go_upto_region 1 with fail
  obtain ⟨PW, QW, KW⟩ := Bf.first2 (w := w) (x := .int .i64 m) (y := .slice (some ⟨b, 0, none⟩) xs.length cp) (x' := .int .i64 0) (y' := .slice none 0 0) (t := 26) (t' := 26) (Below.refl _ _)
  have yW := QW.1.1
  generalize (w.alloc (.cells #[.int .i64 m, .slice (some ⟨b, 0, none⟩) xs.length cp] 26)).alloc (.cells #[.int .i64 0, .slice none 0 0] 26) = W at *
  have pa := PW.1.2.1
  have pb := PW.1.2.2
  have cW : W.cell? ⟨b, 1, none⟩ = some (.int .i64 x0) := (KW.cell (p := ⟨b, 1, none⟩) hb2).trans hc0
  have bW : b < W.heap.size := by omega
  clear hc0
  go_cut [3, 4] from 7 to 18 (fun s q wx => ∃ bo g : Nat, s = .pointer (some ⟨bo, 0, none⟩) ∧ q = .int .i64 u ∧ w.heap.size + 2 ≤ bo ∧ bo < wx.heap.size ∧ w.heap.size + 2 ≤ g ∧ g < wx.heap.size ∧ bo ≠ g ∧ Hid (Bf wx bo (.int .i64 m) (.slice (some ⟨g, 0, none⟩) xs.length xs.length)) ∧ Hid (RowI wx g xs.length (List.replicate xs.length 0)) ∧ Hid (Bf wx w.heap.size (.int .i64 m) (.slice (some ⟨b, 0, none⟩) xs.length cp)) ∧ Hid (Bf wx (w.heap.size + 1) (.int .i64 0) (.slice none 0 0)) ∧ Hid (Below w.heap.size w wx))
  case first =>
    go_region_held3 (fun w' => w'.cell? ⟨w.heap.size, 0, none⟩ = some (.int .i64 m) ∧ w'.cell? ⟨w.heap.size, 1, none⟩ = some (.slice (some ⟨b, 0, none⟩) xs.length cp) ∧ w'.cell? ⟨b, 1, none⟩ = some (.int .i64 x0))
      (first | go_keep | exact ⟨pa, pb, cW⟩ | exact ⟨p2a, p2b, c2⟩ | exact ⟨p3a, p3b, c3⟩ | exact ⟨p4a, p4b, c4⟩ | (refine (fun (h : Below W.heap.size W _) => ⟨(PW.keep h).1.2.1, (PW.keep h).1.2.2, (h.cell (p := ⟨b, 1, none⟩) bW).trans cW⟩) ?_; (repeat (first | assumption | exact Below.refl _ _ | (refine Below.alloc ?_ ?_ _; rotate_left; (focus (first | exact Nat.le_refl _ | omega | (simp; done) | (simp; omega)))) | (refine Below.setCell ?_ ?_ _; rotate_left; (focus (first | exact Nat.le_refl _ | omega | (simp; done) | (simp; omega)))) | refine below_drew ?_ | refine below_drewN ?_ _ | (refine Below.trans ?_ (Below.mono hb3 ?_); rotate_left; (focus (first | exact Nat.le_refl _ | omega | (simp; done) | (simp; omega)))) | (refine Below.trans ?_ (Below.mono hb5 ?_); rotate_left; (focus (first | exact Nat.le_refl _ | omega | (simp; done) | (simp; omega)))) | (refine Below.trans ?_ (Below.mono hb4 ?_); rotate_left; (focus (first | exact Nat.le_refl _ | omega | (simp; done) | (simp; omega))))))))
      (first | (go_at_call 54; refine (iDegree_any m (some ⟨b, 0, none⟩) xs.length cp _ (by omega)).mono ?_; rintro e w2 ⟨rfl, hb5⟩; have P2 : Bf w2 w.heap.size (.int .i64 m) (.slice (some ⟨b, 0, none⟩) xs.length cp) := (PW.keep (by (repeat (first | assumption | exact Below.refl _ _ | (refine Below.alloc ?_ ?_ _; rotate_left; (focus (first | exact Nat.le_refl _ | omega | (simp; done) | (simp; omega)))) | (refine Below.setCell ?_ ?_ _; rotate_left; (focus (first | exact Nat.le_refl _ | omega | (simp; done) | (simp; omega)))) | refine below_drew ?_ | refine below_drewN ?_ _ | (refine Below.trans ?_ (Below.mono hb5 ?_); rotate_left; (focus (first | exact Nat.le_refl _ | omega | (simp; done) | (simp; omega)))) | (refine Below.trans ?_ (Below.mono hb4 ?_); rotate_left; (focus (first | exact Nat.le_refl _ | omega | (simp; done) | (simp; omega)))))))); have p2a := P2.1.2.1; have p2b := P2.1.2.2; have c2 : w2.cell? ⟨b, 1, none⟩ = some (.int .i64 x0) := (Below.cell (p := ⟨b, 1, none⟩) (show Below W.heap.size W w2 by (repeat (first | assumption | exact Below.refl _ _ | (refine Below.alloc ?_ ?_ _; rotate_left; (focus (first | exact Nat.le_refl _ | omega | (simp; done) | (simp; omega)))) | (refine Below.setCell ?_ ?_ _; rotate_left; (focus (first | exact Nat.le_refl _ | omega | (simp; done) | (simp; omega)))) | refine below_drew ?_ | refine below_drewN ?_ _ | (refine Below.trans ?_ (Below.mono hb5 ?_); rotate_left; (focus (first | exact Nat.le_refl _ | omega | (simp; done) | (simp; omega)))) | (refine Below.trans ?_ (Below.mono hb4 ?_); rotate_left; (focus (first | exact Nat.le_refl _ | omega | (simp; done) | (simp; omega))))))) bW).trans cW; obtain ⟨hc2, hf2⟩ := bcell hb5; have z2 := hb5.size; (try simp at z2); (first | (have z2p : W.heap.size < w2.heap.size := (by omega)) | skip); (first | (have z2q : w4.heap.size < w2.heap.size := (by omega)) | skip)) | (go_at_call 60; refine (zero_any _ m _ xs.length (by omega) (by omega)).mono ?_; rintro e w3 ⟨g, rfl, hg2, hr2, hb3⟩; have P3 : Bf w3 w.heap.size (.int .i64 m) (.slice (some ⟨b, 0, none⟩) xs.length cp) := (PW.keep (by (repeat (first | assumption | exact Below.refl _ _ | (refine Below.alloc ?_ ?_ _; rotate_left; (focus (first | exact Nat.le_refl _ | omega | (simp; done) | (simp; omega)))) | (refine Below.setCell ?_ ?_ _; rotate_left; (focus (first | exact Nat.le_refl _ | omega | (simp; done) | (simp; omega)))) | refine below_drew ?_ | refine below_drewN ?_ _ | (refine Below.trans ?_ (Below.mono hb3 ?_); rotate_left; (focus (first | exact Nat.le_refl _ | omega | (simp; done) | (simp; omega)))) | (refine Below.trans ?_ (Below.mono hb5 ?_); rotate_left; (focus (first | exact Nat.le_refl _ | omega | (simp; done) | (simp; omega)))) | (refine Below.trans ?_ (Below.mono hb4 ?_); rotate_left; (focus (first | exact Nat.le_refl _ | omega | (simp; done) | (simp; omega)))))))); have p3a := P3.1.2.1; have p3b := P3.1.2.2; have c3 : w3.cell? ⟨b, 1, none⟩ = some (.int .i64 x0) := (Below.cell (p := ⟨b, 1, none⟩) (show Below W.heap.size W w3 by (repeat (first | assumption | exact Below.refl _ _ | (refine Below.alloc ?_ ?_ _; rotate_left; (focus (first | exact Nat.le_refl _ | omega | (simp; done) | (simp; omega)))) | (refine Below.setCell ?_ ?_ _; rotate_left; (focus (first | exact Nat.le_refl _ | omega | (simp; done) | (simp; omega)))) | refine below_drew ?_ | refine below_drewN ?_ _ | (refine Below.trans ?_ (Below.mono hb3 ?_); rotate_left; (focus (first | exact Nat.le_refl _ | omega | (simp; done) | (simp; omega)))) | (refine Below.trans ?_ (Below.mono hb5 ?_); rotate_left; (focus (first | exact Nat.le_refl _ | omega | (simp; done) | (simp; omega)))) | (refine Below.trans ?_ (Below.mono hb4 ?_); rotate_left; (focus (first | exact Nat.le_refl _ | omega | (simp; done) | (simp; omega))))))) bW).trans cW; obtain ⟨hc3, hf3⟩ := bcell hb3; have z3 := hb3.size; (try simp at z3); (try simp at hg2); (first | (have z3p : W.heap.size < w3.heap.size := (by omega)) | skip); (first | (have z3q : w2.heap.size < w3.heap.size := (by omega)) | skip); (first | (have z3r : w4.heap.size < w3.heap.size := (by omega)) | skip)) | (go_at_call 97; refine (inverse_b m x0 _ (by omega) (by omega)).mono ?_; rintro e w4 ⟨rfl, hb4⟩; rw [HU.out]; have P4 : Bf w4 w.heap.size (.int .i64 m) (.slice (some ⟨b, 0, none⟩) xs.length cp) := (PW.keep (by (repeat (first | assumption | exact Below.refl _ _ | (refine Below.alloc ?_ ?_ _; rotate_left; (focus (first | exact Nat.le_refl _ | omega | (simp; done) | (simp; omega)))) | (refine Below.setCell ?_ ?_ _; rotate_left; (focus (first | exact Nat.le_refl _ | omega | (simp; done) | (simp; omega)))) | refine below_drew ?_ | refine below_drewN ?_ _ | (refine Below.trans ?_ (Below.mono hb3 ?_); rotate_left; (focus (first | exact Nat.le_refl _ | omega | (simp; done) | (simp; omega)))) | (refine Below.trans ?_ (Below.mono hb5 ?_); rotate_left; (focus (first | exact Nat.le_refl _ | omega | (simp; done) | (simp; omega)))) | (refine Below.trans ?_ (Below.mono hb4 ?_); rotate_left; (focus (first | exact Nat.le_refl _ | omega | (simp; done) | (simp; omega)))))))); have p4a := P4.1.2.1; have p4b := P4.1.2.2; have c4 : w4.cell? ⟨b, 1, none⟩ = some (.int .i64 x0) := (Below.cell (p := ⟨b, 1, none⟩) (show Below W.heap.size W w4 by (repeat (first | assumption | exact Below.refl _ _ | (refine Below.alloc ?_ ?_ _; rotate_left; (focus (first | exact Nat.le_refl _ | omega | (simp; done) | (simp; omega)))) | (refine Below.setCell ?_ ?_ _; rotate_left; (focus (first | exact Nat.le_refl _ | omega | (simp; done) | (simp; omega)))) | refine below_drew ?_ | refine below_drewN ?_ _ | (refine Below.trans ?_ (Below.mono hb3 ?_); rotate_left; (focus (first | exact Nat.le_refl _ | omega | (simp; done) | (simp; omega)))) | (refine Below.trans ?_ (Below.mono hb5 ?_); rotate_left; (focus (first | exact Nat.le_refl _ | omega | (simp; done) | (simp; omega)))) | (refine Below.trans ?_ (Below.mono hb4 ?_); rotate_left; (focus (first | exact Nat.le_refl _ | omega | (simp; done) | (simp; omega))))))) bW).trans cW; obtain ⟨hc4, hf4⟩ := bcell hb4; have z4 := hb4.size; (try simp at z4); (first | (have z4p : W.heap.size < w4.heap.size := (by omega)) | skip); (first | (have z4q : w2.heap.size < w4.heap.size := (by omega)) | skip); (first | (have z4r : w3.heap.size < w4.heap.size := (by omega)) | skip)))
    all_goals
      go_wp2_with fail
      go_meet
      have zg := hr2.lt
      refine ⟨_, g, rfl, rfl, ?_, ?_, ?_, ?_, ?_, ?_, ?_, ?_, ?_, ?_⟩
      · first | omega | (simp; done) | (simp; omega)
      · first | omega | (simp; done) | (simp; omega) | (simp [World.setCell]; omega)
      · first | omega | (simp; omega)
      · first | omega | (simp; done) | (simp; omega) | (simp [World.setCell]; omega)
      · first | omega | (simp; omega)
      · unfold Hid
        first | exact Bf.alloc1 _ _ _ _ | exact ((Bf.alloc1 w3 _ _ _).keep hb4).store2 | exact (((Bf.alloc1 w2 _ _ _).keep hb3).keep hb4).store2 | exact ((((Bf.alloc1 W _ _ _).keep (below_undrew hb5)).keep hb3).keep hb4).store2 | (refine (Bf.alloc1 _ _ _ _).keep ?hx; case hx => (repeat (first | assumption | exact Below.refl _ _ | (refine Below.alloc ?_ ?_ _; rotate_left; (focus (first | exact Nat.le_refl _ | omega | (simp; done) | (simp; omega)))) | (refine Below.setCell ?_ ?_ _; rotate_left; (focus (first | exact Nat.le_refl _ | omega | (simp; done) | (simp; omega)))) | refine below_drew ?_ | refine below_drewN ?_ _ | (refine Below.trans ?_ (Below.mono hb3 ?_); rotate_left; (focus (first | exact Nat.le_refl _ | omega | (simp; done) | (simp; omega)))) | (refine Below.trans ?_ (Below.mono hb5 ?_); rotate_left; (focus (first | exact Nat.le_refl _ | omega | (simp; done) | (simp; omega)))) | (refine Below.trans ?_ (Below.mono hb4 ?_); rotate_left; (focus (first | exact Nat.le_refl _ | omega | (simp; done) | (simp; omega))))))) | (refine ((Bf.alloc1 _ _ _ _).keep ?hx).store2; case hx => (repeat (first | assumption | exact Below.refl _ _ | (refine Below.alloc ?_ ?_ _; rotate_left; (focus (first | exact Nat.le_refl _ | omega | (simp; done) | (simp; omega)))) | (refine Below.setCell ?_ ?_ _; rotate_left; (focus (first | exact Nat.le_refl _ | omega | (simp; done) | (simp; omega)))) | refine below_drew ?_ | refine below_drewN ?_ _ | (refine Below.trans ?_ (Below.mono hb3 ?_); rotate_left; (focus (first | exact Nat.le_refl _ | omega | (simp; done) | (simp; omega)))) | (refine Below.trans ?_ (Below.mono hb5 ?_); rotate_left; (focus (first | exact Nat.le_refl _ | omega | (simp; done) | (simp; omega)))) | (refine Below.trans ?_ (Below.mono hb4 ?_); rotate_left; (focus (first | exact Nat.le_refl _ | omega | (simp; done) | (simp; omega)))))))
      · unfold Hid
        first | exact ((hr2.below hb4 zg).far (p := ⟨w2.heap.size, 0, none⟩) (by simp; omega) _).far (p := ⟨w2.heap.size, 1, none⟩) (by simp; omega) _ | exact ((hr2.below hb4 zg).far (p := ⟨W.heap.size, 0, none⟩) (by simp; omega) _).far (p := ⟨W.heap.size, 1, none⟩) (by simp; omega) _ | (refine hr2.below ?hx zg; case hx => ((repeat (first | assumption | exact Below.refl _ _ | (refine Below.alloc ?_ ?_ _; rotate_left; (focus (first | exact Nat.le_refl _ | omega | (simp; done) | (simp; omega)))) | (refine Below.setCell ?_ ?_ _; rotate_left; (focus (first | exact Nat.le_refl _ | omega | (simp; done) | (simp; omega)))) | refine below_drew ?_ | refine below_drewN ?_ _ | (refine Below.trans ?_ (Below.mono hb3 ?_); rotate_left; (focus (first | exact Nat.le_refl _ | omega | (simp; done) | (simp; omega)))) | (refine Below.trans ?_ (Below.mono hb5 ?_); rotate_left; (focus (first | exact Nat.le_refl _ | omega | (simp; done) | (simp; omega)))) | (refine Below.trans ?_ (Below.mono hb4 ?_); rotate_left; (focus (first | exact Nat.le_refl _ | omega | (simp; done) | (simp; omega)))))); done)) | (refine ((hr2.below ?hx zg).far ?hy _).far ?hz _; case hx => (repeat (first | assumption | exact Below.refl _ _ | (refine Below.alloc ?_ ?_ _; rotate_left; (focus (first | exact Nat.le_refl _ | omega | (simp; done) | (simp; omega)))) | (refine Below.setCell ?_ ?_ _; rotate_left; (focus (first | exact Nat.le_refl _ | omega | (simp; done) | (simp; omega)))) | refine below_drew ?_ | refine below_drewN ?_ _ | (refine Below.trans ?_ (Below.mono hb3 ?_); rotate_left; (focus (first | exact Nat.le_refl _ | omega | (simp; done) | (simp; omega)))) | (refine Below.trans ?_ (Below.mono hb5 ?_); rotate_left; (focus (first | exact Nat.le_refl _ | omega | (simp; done) | (simp; omega)))) | (refine Below.trans ?_ (Below.mono hb4 ?_); rotate_left; (focus (first | exact Nat.le_refl _ | omega | (simp; done) | (simp; omega)))))); case hy => (first | omega | (simp; omega)); case hz => (first | omega | (simp; omega)))
      · exact PW.keep (by (repeat (first | assumption | exact Below.refl _ _ | (refine Below.alloc ?_ ?_ _; rotate_left; (focus (first | exact Nat.le_refl _ | omega | (simp; done) | (simp; omega)))) | (refine Below.setCell ?_ ?_ _; rotate_left; (focus (first | exact Nat.le_refl _ | omega | (simp; done) | (simp; omega)))) | refine below_drew ?_ | refine below_drewN ?_ _ | (refine Below.trans ?_ (Below.mono hb3 ?_); rotate_left; (focus (first | exact Nat.le_refl _ | omega | (simp; done) | (simp; omega)))) | (refine Below.trans ?_ (Below.mono hb5 ?_); rotate_left; (focus (first | exact Nat.le_refl _ | omega | (simp; done) | (simp; omega)))) | (refine Below.trans ?_ (Below.mono hb4 ?_); rotate_left; (focus (first | exact Nat.le_refl _ | omega | (simp; done) | (simp; omega)))))))
      · exact QW.keep (by (repeat (first | assumption | exact Below.refl _ _ | (refine Below.alloc ?_ ?_ _; rotate_left; (focus (first | exact Nat.le_refl _ | omega | (simp; done) | (simp; omega)))) | (refine Below.setCell ?_ ?_ _; rotate_left; (focus (first | exact Nat.le_refl _ | omega | (simp; done) | (simp; omega)))) | refine below_drew ?_ | refine below_drewN ?_ _ | (refine Below.trans ?_ (Below.mono hb3 ?_); rotate_left; (focus (first | exact Nat.le_refl _ | omega | (simp; done) | (simp; omega)))) | (refine Below.trans ?_ (Below.mono hb5 ?_); rotate_left; (focus (first | exact Nat.le_refl _ | omega | (simp; done) | (simp; omega)))) | (refine Below.trans ?_ (Below.mono hb4 ?_); rotate_left; (focus (first | exact Nat.le_refl _ | omega | (simp; done) | (simp; omega)))))))
      · (repeat (first | assumption | exact Below.refl _ _ | (refine Below.alloc ?_ ?_ _; rotate_left; (focus (first | exact Nat.le_refl _ | omega | (simp; done) | (simp; omega)))) | (refine Below.setCell ?_ ?_ _; rotate_left; (focus (first | exact Nat.le_refl _ | omega | (simp; done) | (simp; omega)))) | refine below_drew ?_ | refine below_drewN ?_ _ | (refine Below.trans ?_ (Below.mono hb3 ?_); rotate_left; (focus (first | exact Nat.le_refl _ | omega | (simp; done) | (simp; omega)))) | (refine Below.trans ?_ (Below.mono hb5 ?_); rotate_left; (focus (first | exact Nat.le_refl _ | omega | (simp; done) | (simp; omega)))) | (refine Below.trans ?_ (Below.mono hb4 ?_); rotate_left; (focus (first | exact Nat.le_refl _ | omega | (simp; done) | (simp; omega)))) | (refine Below.trans ?_ (Below.mono KW ?_); rotate_left; (focus (first | exact Nat.le_refl _ | omega | (simp; done) | (simp; omega))))))
  case rest =>
    obtain ⟨bo, g, rfl, rfl, hbo1, hbo2, hg1, hg2, hne, HO, HR, HP, HQ, HB⟩ := hcut
    have p1 := HP.out.1.2.1
    have p2 := HP.out.1.2.2
    have o1 := HO.out.1.2.1
    have o2 := HO.out.1.2.2
    have hd0 := HR.out.cell (k := 1) (by simp; omega)
    have hf0 := HR.out.free 1
    obtain ⟨y0, hy0⟩ : ∃ y0, y0 = (List.replicate xs.length (0 : Int)).getD 1 0 := ⟨_, rfl⟩
    rw [← hy0] at hd0
    clear hy0
    have R0 := HR.out.set_ 1 u
    rw [revS_start m u (co xs)] at R0
    have O0 := HO.out.setCell (p := ⟨g, 1, none⟩) (by simp; omega) (.int .i64 u)
    have P0 := HP.out.setCell (p := ⟨g, 1, none⟩) (by simp; omega) (.int .i64 u)
    have Q0 := HQ.out.setCell (p := ⟨g, 1, none⟩) (by simp; omega) (.int .i64 u)
    have B0 := HB.out.setCell (p := ⟨g, 1, none⟩) (by simp; omega) (.int .i64 u)
    clear PW QW KW pa pb cW
    go_wp2
    clear p1 p2 o1 o2 hd0 hf0
    go_loopw [5] (fun i wr => ∃ k : Nat, k + 2 ≤ xs.length ∧ i = .int .i64 ((k : Int) + 2) ∧ Hid (Bf wr bo (.int .i64 m) (.slice (some ⟨g, 0, none⟩) xs.length xs.length)) ∧ Hid (RowI wr g xs.length (revS m u (co xs) xs.length k)) ∧ Hid (Bf wr w.heap.size (.int .i64 m) (.slice (some ⟨b, 0, none⟩) xs.length cp)) ∧ Hid (Bf wr (w.heap.size + 1) (.int .i64 0) (.slice none 0 0)) ∧ Hid (Below w.heap.size w wr)) (fun i _ => xs.length + 2 - (intOf i).toNat)
    case atStart => exact ⟨0, by omega, rfl, O0, R0, P0, Q0, B0⟩
    case round =>
      clear HO HR HP HQ HB R0 O0 P0 Q0 B0
      obtain ⟨k, hk, rfl, HO, HR, HP, HQ, HB⟩ := hrel
      have p1 := HP.out.1.2.1
      have p2 := HP.out.1.2.2
      have zB := HB.out.size
      have zP := HP.out.1.1
      have zQ := HQ.out.1.1
      have zO := HO.out.1.1
      have zR := HR.out.lt
      obtain ⟨I, hI⟩ : ∃ I : Int, I = (k : Int) + 2 := ⟨_, rfl⟩
      rw [← hI]
      have HI := Lib.hid hI
      have hIa : I ≤ (k : Int) + 2 := by omega
      have hIb : (k : Int) + 2 ≤ I := by omega
      have hIn : Hid (I.toNat = k + 2) := by unfold Hid; omega
      clear hI
      by_cases hlt : k + 2 < xs.length
      · have hlt1 : I ≤ (xs.length : Int) - 1 := by omega
        have HL : Hid ((revS m u (co xs) xs.length k).length = xs.length) := length_revS _ _ _ _ _
        have HNX := Lib.hid (revS_next m u (co xs) xs.length k)
        have HCE := Lib.hid (cmpL_at m xs (revS m u (co xs) xs.length k) (k + 2) xs.length hlt (revS_zero _ _ _ _ _ (by omega)))
        have HCL : Hid ((cmpL m xs.length xs (revS m u (co xs) xs.length k) xs.length).length = xs.length) := length_cmpL _ _ _ _ _
        have hsb := rvF_bd (show 0 < m by omega) (co xs) (revS m u (co xs) xs.length k) (k + 2)
        go_wp2_with (go_at_call 54; refine (iDegree_any m (some ⟨b, 0, none⟩) xs.length cp _ (by omega)).mono ?_; rintro e w1 ⟨rfl, hb3⟩; have P1 := HP.out.keep hb3; have O1 := HO.out.keep hb3; have p1a := P1.1.2.1; have p1b := P1.1.2.2; have o1a := O1.1.2.1; have o1b := O1.1.2.2)
        have Q1 := HQ.out.keep hb3
        have R1 := HR.out.below hb3 zR
        have K1 := HB.out.trans (hb3.mono zB)
        have z1 := hb3.size
        refine (compose_any w1 m (.slice (some ⟨b, 0, none⟩) xs.length cp) (.slice (some ⟨g, 0, none⟩) xs.length xs.length) xs (revS m u (co xs) xs.length k) (cmpL m xs.length xs (revS m u (co xs) xs.length k) xs.length) xs.length B w.heap.size (HV.out.keep K1 (Nat.le_refl _)) (R1.own' (by omega) HL.out) hm hm' HN.out (HNB.out k) rfl HL.out (by omega) hl rfl).mono ?_
        rintro e w5 ⟨A5, c5, rfl, o5, hb5⟩
        rw [HCL.out] at o5 ⊢
        have P5 := P1.keep hb5
        have O5 := O1.keep hb5
        have Q5 := Q1.keep hb5
        have R5 := R1.below hb5 (by omega)
        have K5 := K1.trans (hb5.mono (by omega))
        have p5a := P5.1.2.1
        have o5b := O5.1.2.2
        obtain ⟨A6, c6, e6, h6a, h6b, h6⟩ := o5.open_
        rw [HCL.out] at e6 h6a h6
        obtain ⟨g5, rfl, hg5, hg5', hcell5, _⟩ := h6 (k + 2) hlt
        injection e6 with e6a e6b e6c
        subst e6a e6c
        change _ = some (Value.int .i64 (co _ (k + 2))) at hcell5
        rw [HCE.out] at hcell5
        have hd0 := R5.cell (k := k + 2) (by rw [HL.out]; exact hlt)
        have hf0 := R5.free (k + 2)
        obtain ⟨y1, hy1⟩ : ∃ y1, y1 = (revS m u (co xs) xs.length k).getD (k + 2) 0 := ⟨_, rfl⟩
        rw [← hy1] at hd0
        obtain ⟨r, hr⟩ : ∃ r, r = rvF m (co xs) (revS m u (co xs) xs.length k) (k + 2) := ⟨_, rfl⟩
        rw [← hr] at hsb hcell5 HNX
        clear hy1 hr p1a p1b o1a o1b p1 p2 h6
        have hru1 : 0 ≤ r * u % m := Int.emod_nonneg _ (by omega)
        have hru2 : r * u % m < m := Int.emod_lt_of_pos _ (by omega)
        have v1 : IntKind.i64.wrap (-(r * u % m)) = -(r * u % m) := IntWalk.i64_in _ (by omega)
        have v4 : (0 : Int) ≤ I := by omega
        have v5 : I < (xs.length : Int) := by omega
        have v7 := hIn.out
        have v9 : IntKind.i64.wrap (I + 1) = I + 1 := IntWalk.i64_in _ (by omega)
        have hfl : ∀ w' : World, (Instr.field 26 (.agg #[.int .i64 m, .slice (some ⟨g5, 0, none⟩) xs.length c5]) 1).run Try.prog w' = .ok (.slice (some ⟨g5, 0, none⟩) xs.length c5) w' := fun _ => field1 _ _ _ _ _
        have ne1 : (⟨g, k + 2, none⟩ : Addr) ≠ ⟨w.heap.size, 0, none⟩ := by first | (simp; done) | (simp; omega)
        have ne2 : (⟨g, k + 2, none⟩ : Addr) ≠ ⟨bo, 1, none⟩ := by first | (simp; done) | (simp; omega)
        go_wp2
        go_region_held3 (fun w' => w'.cell? ⟨w.heap.size, 0, none⟩ = some (.int .i64 m) ∧ w'.cell? ⟨bo, 1, none⟩ = some (.slice (some ⟨g, 0, none⟩) xs.length xs.length))
          ((first | exact ⟨p5a, o5b⟩ | exact ⟨(World.cell?_setCell_other _ _ _ _ ne1).trans p5a, (World.cell?_setCell_other _ _ _ _ ne2).trans o5b⟩ | go_keep))
          (first | (go_at_call 104; refine (mul_any m r u _ (by omega) (by omega) hsb.1 hsb.2 hub.1 hub.2).mono ?_; rintro e w6 ⟨rfl, rfl⟩) | (go_at_call 90; refine (mod_any (-(r * u % m)) m _ (by omega) (by omega)).mono ?_; rintro e w7 ⟨rfl, k7, rfl⟩; rw [neg_form]))
        go_wp2
        go_roundw
        case rel =>
          refine ⟨k + 1, by omega, by rw [HI.out]; go_num, O5.setCell (by simp; omega) _, ?_, P5.setCell (by simp; omega) _, Q5.setCell (by simp; omega) _, ?_⟩
          · unfold Hid
            rw [← HNX.out]
            exact R5.set_ (k + 2) _
          · exact Below.setCell (below_drewN K5 _) (by simp; omega) _
        case measure => simp [intOf]; omega
      · have hkn : k = xs.length - 2 := by omega
        have hR : RowI wr g xs.length ys := by
          rw [← HZ.out, ← hkn]
          exact HR.out
        have hly : Hid (ys.length = xs.length) := by unfold Hid; rw [← HZ.out, length_revS]
        have hd5 : decide (I ≤ (xs.length : Int) - 1) = false := by simp; omega
        clear hkn
        go_wp2_with (go_at_call 54; refine (iDegree_any m (some ⟨b, 0, none⟩) xs.length cp _ (by omega)).mono ?_; rintro e w1 ⟨rfl, hb3⟩; have O1 := HO.out.keep hb3; have o1a := O1.1.2.1; have o1b := O1.1.2.2; have Q1 := HQ.out.keep hb3; have q1 := Q1.1.2.1; have q2 := Q1.1.2.2; have q3 := Q1.2.1; have q4 := Q1.2.2; have R1 := hR.below hb3 zR; have K1 := HB.out.trans (hb3.mono zB))
        refine bodyPost_ret (v := .agg #[.int .i64 m, .slice (some ⟨g, 0, none⟩) xs.length xs.length]) (by simp [results, Try.results93, go_sem, q1, q2]) rfl ⟨some ⟨g, 0, none⟩, xs.length, by rw [hly.out], ?_, ?_⟩
        · rw [hly.out]
          have := ((R1.far (p := ⟨w.heap.size + 1, 0, none⟩) (by simp; omega) (.int .i64 m)).far (p := ⟨w.heap.size + 1, 1, none⟩) (by simp; omega) (.slice (some ⟨g, 0, none⟩) xs.length xs.length)).own (B := w.heap.size) (by omega)
          rw [hly.out] at this
          exact this
        · exact (K1.setCell (by simp) _).setCell (by simp) _

/-! ### ReverseSeries -/
def crdB (m : Int) (xs : List Int) : Bool := (co xs 0 == 0) && unitB m (co xs 1)
def ReverseSeriesR (m : Int) (xs : List Int) : (Int × List Int) × Int := if isSer m xs = false then ((0, []), 1) else if crdB m xs = false then ((0, []), 5) else ((m, revL m xs), 0)
theorem ReverseSeriesR_len (m : Int) (xs : List Int) : (ReverseSeriesR m xs).1.2.length ≤ 100 := by
  unfold ReverseSeriesR
  cases h : isSer m xs
  · simp
  · have := (isSer_true h).2.1
    cases h2 : crdB m xs
    · simp
    · simp only [Bool.true_eq_false, if_false, length_revL]
      omega
set_option maxHeartbeats 1000000 in
theorem isCoordinate_any (m : Int) (w : World) (v : Value) (xs : List Int) (B : Nat) (hv : OwnI w B v xs) (hm : 2 ≤ m ∧ m ≤ 10000) (hn : NumL m xs) (hl0 : 2 ≤ xs.length) (hl : xs.length ≤ 1000) : Calls Try.prog 92 #[.agg #[.int .i64 m, v]] w fun e w' => e = .returned (.bool (crdB m xs)) ∧ Below w.heap.size w w' := by
  obtain ⟨A, cp, e0, hc1, hc2, hA⟩ := hv.open_
  subst e0
  unfold maxLen at hc2
  obtain ⟨b, rfl, -, hb2, hcell0, -⟩ := hA 0 (by omega)
  obtain ⟨b', e', -, -, hcell1, -⟩ := hA 1 (by omega)
  simp at e'
  subst e'
  have hc0 : w.cell? ⟨b, 0, none⟩ = some (.int .i64 (co xs 0)) := hcell0
  have hc1' : w.cell? ⟨b, 1, none⟩ = some (.int .i64 (co xs 1)) := hcell1
  have hx1 : 0 ≤ co xs 1 ∧ co xs 1 < m := hn 1
  have h1l : 1 < xs.length := by omega
  have h0l : 0 < xs.length := by omega
  have h1l' : (1 : Int) < (xs.length : Int) := by omega
  have h0l' : (0 : Int) < (xs.length : Int) := by omega
  have h1n : ¬ xs.length ≤ 1 := by omega
  have h0n : ¬ xs.length = 0 := by omega
  have HU : Hid (crdB m xs = ((co xs 0 == 0) && unitB m (co xs 1))) := rfl
  have P1 : Bf (w.alloc (.cells #[.int .i64 m, .slice (some ⟨b, 0, none⟩) xs.length cp] 26)) w.heap.size (.int .i64 m) (.slice (some ⟨b, 0, none⟩) xs.length cp) := Bf.q1
  clear hA hcell0 hcell1 hv hn
  generalize co xs 0 = x0 at *
  generalize co xs 1 = x1 at *
  obtain ⟨ub, hub⟩ : ∃ ub, ub = unitB m x1 := ⟨_, rfl⟩
  rw [← hub] at HU
  have HUB : Hid (unitB m x1 = ub) := hub.symm
  clear hub
  by_cases h0 : x0 = 0
  · have hb0 : (x0 == 0) = true := by simpa using h0
    have HF : Hid (crdB m xs = ub) := by unfold Hid; rw [HU.out, hb0]; rfl
    clear h0
    go_enter Try.func92, Try.ntmps92
    go_wp2
    go_quiet ((go_at_call 82; exact Calls.quiet_of (isUnit_quiet m x1 _ (by omega) (by omega) (by omega) (by omega) ub HUB)))
    go_wp2
    go_ret
    exact ⟨by rw [HF.out]; rfl, by (repeat (first | assumption | exact Below.refl _ _ | refine Below.alloc ?_ (by first | omega | (simp; done) | (simp; omega)) _ | refine Below.setCell ?_ (by first | omega | (simp; done) | (simp; omega)) _ | refine below_drewN ?_ _))⟩
  · have hb0 : (x0 == 0) = false := by simpa using h0
    have HF : Hid (crdB m xs = false) := by unfold Hid; rw [HU.out, hb0]; rfl
    clear h0
    go_enter Try.func92, Try.ntmps92
    go_wp2
    go_quiet (fail)
    go_wp2
    go_ret
    exact ⟨by rw [HF.out]; rfl, by (repeat (first | assumption | exact Below.refl _ _ | refine Below.alloc ?_ (by first | omega | (simp; done) | (simp; omega)) _ | refine Below.setCell ?_ (by first | omega | (simp; done) | (simp; omega)) _ | refine below_drewN ?_ _))⟩
set_option maxHeartbeats 2000000 in
theorem iReverseSeriesR_any (w : World) (m : Int) (v : Value) (xs : List Int) (B : Nat) (hv : OwnI w B v xs) (hl : xs.length ≤ 2000000) : Calls Try.prog 45 #[.agg #[.int .i64 m, v]] w (RetSI w (ReverseSeriesR m xs)) := by
  obtain ⟨A, cp, e0⟩ := hv.form
  subst e0
  cases hs : isSer m xs
  · have HF : ReverseSeriesR m xs = ((0, []), 1) := by simp [ReverseSeriesR, hs]
    rw [HF]
    clear HF
    have HS := Lib.hid hs
    clear hs
    go_enter Try.func45, Try.ntmps45
    go_wp2_with (go_at_call 53; refine (iIsSeries_any m _ _ xs B (OwnI.keep hv (by (repeat (first | assumption | exact Below.refl _ _ | refine Below.alloc ?_ (by first | omega | (simp; done) | (simp; omega)) _ | refine Below.setCell ?_ (by first | omega | (simp; done) | (simp; omega)) _ | refine below_drewN ?_ _))) (Nat.le_refl _)) (by omega)).mono ?_; rintro e w1 ⟨rfl, hb1⟩; rw [HS.out]; obtain ⟨P1, Q1, K1⟩ := Bf.first2 hb1; have p1a := P1.1.2.1; have p1b := P1.1.2.2; have z1 := P1.1.1; have q1a := Q1.1.2.1; have q1b := Q1.1.2.2; have q1c := Q1.2.1; have q1d := Q1.2.2; have y1 := Q1.1.1)
    exact bodyPost_ret (v := .tuple #[.agg #[.int .i64 0, .slice none 0 0], .int .i64 1]) (by simp [results, Try.results45, go_sem, q1a, q1b]) rfl ⟨none, 0, rfl, OwnI.nil_ _ _, by (repeat (first | assumption | exact Below.refl _ _ | refine Below.alloc ?_ (by first | omega | (simp; done) | (simp; omega)) _ | refine Below.setCell ?_ (by first | omega | (simp; done) | (simp; omega)) _ | refine below_drewN ?_ _))⟩
  · obtain ⟨hm, ⟨hl1, hl2⟩, hn⟩ := isSer_true hs
    have hm := isModB_true hm
    have HNL := Lib.hid (isSer_NumL hs)
    have HS := Lib.hid hs
    cases hd : crdB m xs
    · have HF : ReverseSeriesR m xs = ((0, []), 5) := by simp [ReverseSeriesR, hs, hd]
      rw [HF]
      have HD := Lib.hid hd
      clear HF hs hd hn
      go_enter Try.func45, Try.ntmps45
      go_wp2_with (first | (go_at_call 53; refine (iIsSeries_any m _ _ xs B (OwnI.keep hv (by (repeat (first | assumption | exact Below.refl _ _ | refine Below.alloc ?_ (by first | omega | (simp; done) | (simp; omega)) _ | refine Below.setCell ?_ (by first | omega | (simp; done) | (simp; omega)) _ | refine below_drewN ?_ _))) (Nat.le_refl _)) (by omega)).mono ?_; rintro e w1 ⟨rfl, hb1⟩; rw [HS.out]; obtain ⟨P1, Q1, K1⟩ := Bf.first2 hb1; have p1a := P1.1.2.1; have p1b := P1.1.2.2; have z1 := P1.1.1; have q1a := Q1.1.2.1; have q1b := Q1.1.2.2; have q1c := Q1.2.1; have q1d := Q1.2.2; have y1 := Q1.1.1) | (go_at_call 92; refine (isCoordinate_any m _ _ xs B (OwnI.keep hv K1 (Nat.le_refl _)) hm HNL.out (by omega) (by omega)).mono ?_; rintro e w2 ⟨rfl, hb2⟩; rw [HD.out]; have R2 : Below w1.heap.size w1 w2 := (Below.trans (by (repeat (first | assumption | exact Below.refl _ _ | refine Below.alloc ?_ (by first | omega | (simp; done) | (simp; omega)) _ | refine Below.setCell ?_ (by first | omega | (simp; done) | (simp; omega)) _ | refine below_drewN ?_ _))) (hb2.mono (by first | exact Nat.le_refl _ | (simp; done) | (simp; omega)))); have s2 := R2.size; have K2 : Below w.heap.size w w2 := K1.trans (R2.mono K1.size); have P2 := P1.keep R2; have Q2 := Q1.keep R2; have p2a := P2.1.2.1; have p2b := P2.1.2.2; have z2 := P2.1.1; have q2a := Q2.1.2.1; have q2b := Q2.1.2.2; have q2c := Q2.2.1; have q2d := Q2.2.2; have y2 := Q2.1.1))
      exact bodyPost_ret (v := .tuple #[.agg #[.int .i64 0, .slice none 0 0], .int .i64 5]) (by simp [results, Try.results45, go_sem, q2a, q2b]) rfl ⟨none, 0, rfl, OwnI.nil_ _ _, by (repeat (first | assumption | exact Below.refl _ _ | refine Below.alloc ?_ (by first | omega | (simp; done) | (simp; omega)) _ | refine Below.setCell ?_ (by first | omega | (simp; done) | (simp; omega)) _ | refine below_drewN ?_ _))⟩
    · obtain ⟨ys, hy⟩ : ∃ ys, revL m xs = ys := ⟨_, rfl⟩
      have HF : ReverseSeriesR m xs = ((m, ys), 0) := by simp only [ReverseSeriesR, hs, hd, hy]; simp
      rw [HF]
      have HD := Lib.hid hd
      have HY := Lib.hid hy
      clear HF hs hd hn hy
      go_enter Try.func45, Try.ntmps45
      go_wp2_with (first | (go_at_call 53; refine (iIsSeries_any m _ _ xs B (OwnI.keep hv (by (repeat (first | assumption | exact Below.refl _ _ | refine Below.alloc ?_ (by first | omega | (simp; done) | (simp; omega)) _ | refine Below.setCell ?_ (by first | omega | (simp; done) | (simp; omega)) _ | refine below_drewN ?_ _))) (Nat.le_refl _)) (by omega)).mono ?_; rintro e w1 ⟨rfl, hb1⟩; rw [HS.out]; obtain ⟨P1, Q1, K1⟩ := Bf.first2 hb1; have p1a := P1.1.2.1; have p1b := P1.1.2.2; have z1 := P1.1.1; have q1a := Q1.1.2.1; have q1b := Q1.1.2.2; have q1c := Q1.2.1; have q1d := Q1.2.2; have y1 := Q1.1.1) | (go_at_call 92; refine (isCoordinate_any m _ _ xs B (OwnI.keep hv K1 (Nat.le_refl _)) hm HNL.out (by omega) (by omega)).mono ?_; rintro e w2 ⟨rfl, hb2⟩; rw [HD.out]; have R2 : Below w1.heap.size w1 w2 := (Below.trans (by (repeat (first | assumption | exact Below.refl _ _ | refine Below.alloc ?_ (by first | omega | (simp; done) | (simp; omega)) _ | refine Below.setCell ?_ (by first | omega | (simp; done) | (simp; omega)) _ | refine below_drewN ?_ _))) (hb2.mono (by first | exact Nat.le_refl _ | (simp; done) | (simp; omega)))); have s2 := R2.size; have K2 : Below w.heap.size w w2 := K1.trans (R2.mono K1.size); have P2 := P1.keep R2; have Q2 := Q1.keep R2; have p2a := P2.1.2.1; have p2b := P2.1.2.2; have z2 := P2.1.1; have q2a := Q2.1.2.1; have q2b := Q2.1.2.2; have q2c := Q2.2.1; have q2d := Q2.2.2; have y2 := Q2.1.1))
      refine (serReverse_any _ m _ xs ys B (hv.keep K2 (Nat.le_refl _)) (by omega) (by omega) HNL.out (by omega) (by omega) HY.out).mono ?_
      rintro e w3 ⟨A3, c3, rfl, o3, hb3⟩
      have R3 : Below w2.heap.size w2 w3 := (Below.trans (by (repeat (first | assumption | exact Below.refl _ _ | refine Below.alloc ?_ (by first | omega | (simp; done) | (simp; omega)) _ | refine Below.setCell ?_ (by first | omega | (simp; done) | (simp; omega)) _ | refine below_drewN ?_ _))) (hb3.mono (by first | exact Nat.le_refl _ | (simp; done) | (simp; omega)))); have s3 := R3.size; have K3 : Below w.heap.size w w3 := K2.trans (R3.mono K2.size); have P3 := P2.keep R3; have Q3 := Q2.keep R3; have p3a := P3.1.2.1; have p3b := P3.1.2.2; have z3 := P3.1.1; have q3a := Q3.1.2.1; have q3b := Q3.1.2.2; have q3c := Q3.2.1; have q3d := Q3.2.2; have y3 := Q3.1.1
      go_wp2
      exact bodyPost_ret (v := .tuple #[.agg #[.int .i64 m, .slice A3 ys.length c3], .int .i64 0]) (by simp [results, Try.results45, go_sem, q3a, q3b]) rfl ⟨A3, c3, rfl, ((o3.setCell_lt (by show _ < w2.heap.size; exact y2) _).setCell_lt (by show _ < w2.heap.size; exact y2) _).mono (by show w.heap.size ≤ w2.heap.size; omega), by (repeat (first | assumption | exact Below.refl _ _ | refine Below.alloc ?_ (by first | omega | (simp; done) | (simp; omega)) _ | refine Below.setCell ?_ (by first | omega | (simp; done) | (simp; omega)) _ | refine below_drewN ?_ _))⟩
set_option maxHeartbeats 2000000 in
theorem sReverseSeriesR_any (w : World) (m : Int) (v : Value) (xs : List Int) (B : Nat) (hv : OwnI w B v xs) (hl : xs.length ≤ 2000000) : Calls Try.prog 44 #[.agg #[.int .i64 m, v]] w (RetSI w (ReverseSeriesR m xs)) := by
  obtain ⟨A, cp, e0, hcap1, hcap2, hAA⟩ := hv.open_
  subst e0
  unfold maxLen at hcap2
  cases hs : isSer m xs
  · have HF : ReverseSeriesR m xs = ((0, []), 1) := by simp [ReverseSeriesR, hs]
    rw [HF]
    clear HF hAA
    have HS := Lib.hid hs
    clear hs
    go_enter Try.func44, Try.ntmps44
    go_wp2_with (go_at_call 49; refine (l02Is_any m _ _ xs B (OwnI.keep hv (by (repeat (first | assumption | exact Below.refl _ _ | refine Below.alloc ?_ (by first | omega | (simp; done) | (simp; omega)) _ | refine Below.setCell ?_ (by first | omega | (simp; done) | (simp; omega)) _ | refine below_drewN ?_ _))) (Nat.le_refl _)) (by omega)).mono ?_; rintro e w1 ⟨rfl, hb1⟩; rw [HS.out]; obtain ⟨P1, Q1, K1⟩ := Bf.first2 hb1; have p1a := P1.1.2.1; have p1b := P1.1.2.2; have z1 := P1.1.1; have q1a := Q1.1.2.1; have q1b := Q1.1.2.2; have q1c := Q1.2.1; have q1d := Q1.2.2; have y1 := Q1.1.1)
    exact bodyPost_ret (v := .tuple #[.agg #[.int .i64 0, .slice none 0 0], .int .i64 1]) (by simp [results, Try.results44, go_sem, q1a, q1b]) rfl ⟨none, 0, rfl, OwnI.nil_ _ _, by (repeat (first | assumption | exact Below.refl _ _ | refine Below.alloc ?_ (by first | omega | (simp; done) | (simp; omega)) _ | refine Below.setCell ?_ (by first | omega | (simp; done) | (simp; omega)) _ | refine below_drewN ?_ _))⟩
  · obtain ⟨hm, ⟨hl1, hl2⟩, hn⟩ := isSer_true hs
    have hm := isModB_true hm
    have HNL := Lib.hid (isSer_NumL hs)
    have HS := Lib.hid hs
    obtain ⟨b, rfl, -, hbl, hcell1, -⟩ := hAA 1 (by omega)
    have hc1' : w.cell? ⟨b, 1, none⟩ = some (.int .i64 (co xs 1)) := hcell1
    have hx1 : 0 ≤ co xs 1 ∧ co xs 1 < m := HNL.out 1
    have h1l : 1 < xs.length := by omega
    have h1l' : (1 : Int) < (xs.length : Int) := by omega
    have h1n : ¬ xs.length ≤ 1 := by omega
    have HCR : Hid (crdB m xs = ((co xs 0 == 0) && unitB m (co xs 1))) := rfl
    have HCU : Hid (isCur m xs = (co xs 0 == 0)) := by unfold Hid isCur; rw [hs]; simp [co]
    obtain ⟨x1, hx1e⟩ : ∃ x1, x1 = co xs 1 := ⟨_, rfl⟩
    obtain ⟨UB, hUB⟩ : ∃ UB, UB = unitB m x1 := ⟨_, rfl⟩
    obtain ⟨CB, hCB⟩ : ∃ CB, CB = (co xs 0 == 0) := ⟨_, rfl⟩
    rw [← hx1e, ← hUB, ← hCB] at HCR
    rw [← hCB] at HCU
    rw [← hx1e] at hc1' hx1
    have HUB : Hid (unitB m x1 = UB) := hUB.symm
    have HC : Hid (isCur m xs = CB) := HCU
    clear hAA hcell1 hUB hCB hx1e HCU hn
    cases CB
    · have HF : ReverseSeriesR m xs = ((0, []), 5) := by simp [ReverseSeriesR, hs, HCR.out]
      rw [HF]
      clear HF hs
      go_enter Try.func44, Try.ntmps44
      go_wp2_with (go_at_call 49; refine (l02Is_any m _ _ xs B (OwnI.keep hv (by (repeat (first | assumption | exact Below.refl _ _ | refine Below.alloc ?_ (by first | omega | (simp; done) | (simp; omega)) _ | refine Below.setCell ?_ (by first | omega | (simp; done) | (simp; omega)) _ | refine below_drewN ?_ _))) (Nat.le_refl _)) (by omega)).mono ?_; rintro e w1 ⟨rfl, hb1⟩; rw [HS.out]; obtain ⟨P1, Q1, K1⟩ := Bf.first2 hb1; have p1a := P1.1.2.1; have p1b := P1.1.2.2; have z1 := P1.1.1; have q1a := Q1.1.2.1; have q1b := Q1.1.2.2; have q1c := Q1.2.1; have q1d := Q1.2.2; have y1 := Q1.1.1; have c1 := (K1.cell (p := ⟨b, 1, none⟩) hbl).trans hc1')
      first | go_region_with ((first | (go_at_call 56; refine (l02Curve_any m _ _ xs B (OwnI.drewN (hv.keep K1 (Nat.le_refl _)) 1) (by omega)).mono ?_; rintro e w2 ⟨rfl, hb2⟩; rw [HC.out]; have R2 : Below w1.heap.size w1 w2 := (Below.trans (by (repeat (first | assumption | exact Below.refl _ _ | refine Below.alloc ?_ (by first | omega | (simp; done) | (simp; omega)) _ | refine Below.setCell ?_ (by first | omega | (simp; done) | (simp; omega)) _ | refine below_drewN ?_ _))) (hb2.mono (by first | exact Nat.le_refl _ | (simp; done) | (simp; omega)))); have s2 := R2.size; have K2 : Below w.heap.size w w2 := K1.trans (R2.mono K1.size); have P2 := P1.keep R2; have Q2 := Q1.keep R2; have p2a := P2.1.2.1; have p2b := P2.1.2.2; have z2 := P2.1.1; have q2a := Q2.1.2.1; have q2b := Q2.1.2.2; have q2c := Q2.2.1; have q2d := Q2.2.2; have y2 := Q2.1.1; have c2 := (K2.cell (p := ⟨b, 1, none⟩) hbl).trans hc1') | (go_at_call 80; refine (l01Unit_quiet m x1 _ (by omega) (by omega) (by omega) (by omega) _ HUB).mono ?_; rintro e w5 ⟨rfl, k5, rfl⟩))) | fail
      all_goals
        go_wp2
        exact bodyPost_ret (v := .tuple #[.agg #[.int .i64 0, .slice none 0 0], .int .i64 5]) (by simp [results, Try.results44, go_sem, q2a, q2b]) rfl ⟨none, 0, rfl, OwnI.nil_ _ _, by (repeat (first | assumption | exact Below.refl _ _ | refine Below.alloc ?_ (by first | omega | (simp; done) | (simp; omega)) _ | refine Below.setCell ?_ (by first | omega | (simp; done) | (simp; omega)) _ | refine below_drewN ?_ _))⟩
    · cases UB
      · have HF : ReverseSeriesR m xs = ((0, []), 5) := by simp [ReverseSeriesR, hs, HCR.out]
        rw [HF]
        clear HF hs
        go_enter Try.func44, Try.ntmps44
        go_wp2_with (go_at_call 49; refine (l02Is_any m _ _ xs B (OwnI.keep hv (by (repeat (first | assumption | exact Below.refl _ _ | refine Below.alloc ?_ (by first | omega | (simp; done) | (simp; omega)) _ | refine Below.setCell ?_ (by first | omega | (simp; done) | (simp; omega)) _ | refine below_drewN ?_ _))) (Nat.le_refl _)) (by omega)).mono ?_; rintro e w1 ⟨rfl, hb1⟩; rw [HS.out]; obtain ⟨P1, Q1, K1⟩ := Bf.first2 hb1; have p1a := P1.1.2.1; have p1b := P1.1.2.2; have z1 := P1.1.1; have q1a := Q1.1.2.1; have q1b := Q1.1.2.2; have q1c := Q1.2.1; have q1d := Q1.2.2; have y1 := Q1.1.1; have c1 := (K1.cell (p := ⟨b, 1, none⟩) hbl).trans hc1')
        first | go_region_with ((first | (go_at_call 56; refine (l02Curve_any m _ _ xs B (OwnI.drewN (hv.keep K1 (Nat.le_refl _)) 1) (by omega)).mono ?_; rintro e w2 ⟨rfl, hb2⟩; rw [HC.out]; have R2 : Below w1.heap.size w1 w2 := (Below.trans (by (repeat (first | assumption | exact Below.refl _ _ | refine Below.alloc ?_ (by first | omega | (simp; done) | (simp; omega)) _ | refine Below.setCell ?_ (by first | omega | (simp; done) | (simp; omega)) _ | refine below_drewN ?_ _))) (hb2.mono (by first | exact Nat.le_refl _ | (simp; done) | (simp; omega)))); have s2 := R2.size; have K2 : Below w.heap.size w w2 := K1.trans (R2.mono K1.size); have P2 := P1.keep R2; have Q2 := Q1.keep R2; have p2a := P2.1.2.1; have p2b := P2.1.2.2; have z2 := P2.1.1; have q2a := Q2.1.2.1; have q2b := Q2.1.2.2; have q2c := Q2.2.1; have q2d := Q2.2.2; have y2 := Q2.1.1; have c2 := (K2.cell (p := ⟨b, 1, none⟩) hbl).trans hc1') | (go_at_call 80; refine (l01Unit_quiet m x1 _ (by omega) (by omega) (by omega) (by omega) _ HUB).mono ?_; rintro e w5 ⟨rfl, k5, rfl⟩))) | fail
        all_goals
          go_wp2
          exact bodyPost_ret (v := .tuple #[.agg #[.int .i64 0, .slice none 0 0], .int .i64 5]) (by simp [results, Try.results44, go_sem, q2a, q2b]) rfl ⟨none, 0, rfl, OwnI.nil_ _ _, by (repeat (first | assumption | exact Below.refl _ _ | refine Below.alloc ?_ (by first | omega | (simp; done) | (simp; omega)) _ | refine Below.setCell ?_ (by first | omega | (simp; done) | (simp; omega)) _ | refine below_drewN ?_ _))⟩
      · obtain ⟨ys, hy⟩ : ∃ ys, revL m xs = ys := ⟨_, rfl⟩
        have HF : ReverseSeriesR m xs = ((m, ys), 0) := by simp only [ReverseSeriesR, hs, HCR.out, hy]; simp
        rw [HF]
        have HY := Lib.hid hy
        clear HF hs hy
        go_enter Try.func44, Try.ntmps44
        go_wp2_with (go_at_call 49; refine (l02Is_any m _ _ xs B (OwnI.keep hv (by (repeat (first | assumption | exact Below.refl _ _ | refine Below.alloc ?_ (by first | omega | (simp; done) | (simp; omega)) _ | refine Below.setCell ?_ (by first | omega | (simp; done) | (simp; omega)) _ | refine below_drewN ?_ _))) (Nat.le_refl _)) (by omega)).mono ?_; rintro e w1 ⟨rfl, hb1⟩; rw [HS.out]; obtain ⟨P1, Q1, K1⟩ := Bf.first2 hb1; have p1a := P1.1.2.1; have p1b := P1.1.2.2; have z1 := P1.1.1; have q1a := Q1.1.2.1; have q1b := Q1.1.2.2; have q1c := Q1.2.1; have q1d := Q1.2.2; have y1 := Q1.1.1; have c1 := (K1.cell (p := ⟨b, 1, none⟩) hbl).trans hc1')
        first | go_region_with ((first | (go_at_call 56; refine (l02Curve_any m _ _ xs B (OwnI.drewN (hv.keep K1 (Nat.le_refl _)) 1) (by omega)).mono ?_; rintro e w2 ⟨rfl, hb2⟩; rw [HC.out]; have R2 : Below w1.heap.size w1 w2 := (Below.trans (by (repeat (first | assumption | exact Below.refl _ _ | refine Below.alloc ?_ (by first | omega | (simp; done) | (simp; omega)) _ | refine Below.setCell ?_ (by first | omega | (simp; done) | (simp; omega)) _ | refine below_drewN ?_ _))) (hb2.mono (by first | exact Nat.le_refl _ | (simp; done) | (simp; omega)))); have s2 := R2.size; have K2 : Below w.heap.size w w2 := K1.trans (R2.mono K1.size); have P2 := P1.keep R2; have Q2 := Q1.keep R2; have p2a := P2.1.2.1; have p2b := P2.1.2.2; have z2 := P2.1.1; have q2a := Q2.1.2.1; have q2b := Q2.1.2.2; have q2c := Q2.2.1; have q2d := Q2.2.2; have y2 := Q2.1.1; have c2 := (K2.cell (p := ⟨b, 1, none⟩) hbl).trans hc1') | (go_at_call 80; refine (l01Unit_quiet m x1 _ (by omega) (by omega) (by omega) (by omega) _ HUB).mono ?_; rintro e w5 ⟨rfl, k5, rfl⟩))) | fail
        all_goals
          obtain ⟨P7, Q7, K7⟩ : Bf (w2.drewN k5) w.heap.size (.int .i64 m) (.slice (some ⟨b, 0, none⟩) xs.length cp) ∧ Bf (w2.drewN k5) (w.heap.size + 1) (.int .i64 0) (.slice none 0 0) ∧ Below w.heap.size w (w2.drewN k5) := ⟨P2.drewN k5, Q2.drewN k5, below_drewN K2 k5⟩
          clear P1 Q1 K1 p1a p1b q1a q1b q1c q1d z1 y1 c1 hb1 P2 Q2 K2 p2a p2b q2a q2b q2c q2d z2 y2 c2 hb2 R2 s2
          generalize w2.drewN k5 = w7 at *
          have hv7 := hv.keep K7 (Nat.le_refl _)
          have z7 := P7.1.1
          have y7 := Q7.1.1
          have p7a := P7.1.2.1
          have p7b := P7.1.2.2
          have q7a := Q7.1.2.1
          have q7b := Q7.1.2.2
          have q7c := Q7.2.1
          have q7d := Q7.2.2
          clear w1 w2
          go_wp2
          go_region_held3 (fun w' => w'.cell? ⟨w.heap.size, 0, none⟩ = some (.int .i64 m) ∧ w'.cell? ⟨w.heap.size, 1, none⟩ = some (.slice (some ⟨b, 0, none⟩) xs.length cp)) (first | go_keep | exact ⟨p7a, p7b⟩ | exact ⟨p6a, p6b⟩ | exact ⟨p3a, p3b⟩ | exact ⟨p4a, p4b⟩ | (simp [p4a, p4b]; done))
            (first | (go_at_call 50; refine (l02Degree_any m (some ⟨b, 0, none⟩) xs.length cp _ (by omega)).mono ?_; rintro e w6 ⟨rfl, hb6⟩; have R6 : Below w7.heap.size w7 w6 := (Below.trans (by (repeat (first | assumption | exact Below.refl _ _ | refine Below.alloc ?_ (by first | omega | (simp; done) | (simp; omega)) _ | refine Below.setCell ?_ (by first | omega | (simp; done) | (simp; omega)) _ | refine below_drewN ?_ _))) (hb6.mono (by first | exact Nat.le_refl _ | (simp; done) | (simp; omega)))); have s6 := R6.size; have K6 : Below w.heap.size w w6 := K7.trans (R6.mono K7.size); have P6 := P7.keep R6; have Q6 := Q7.keep R6; have p6a := P6.1.2.1; have p6b := P6.1.2.2; have z6 := P6.1.1; have q6a := Q6.1.2.1; have q6b := Q6.1.2.2; have q6c := Q6.2.1; have q6d := Q6.2.2; have y6 := Q6.1.1) | (go_at_call 91; refine (l02Reverse_any m _ _ xs ys _ B (hv.keep K6 (Nat.le_refl _)) (by omega) (by omega) HNL.out (by omega) (by omega) (by omega) HY.out).mono ?_; rintro e w3 ⟨A3, c3, rfl, o3, hb3⟩; have R3 : Below w6.heap.size w6 w3 := (Below.trans (by (repeat (first | assumption | exact Below.refl _ _ | refine Below.alloc ?_ (by first | omega | (simp; done) | (simp; omega)) _ | refine Below.setCell ?_ (by first | omega | (simp; done) | (simp; omega)) _ | refine below_drewN ?_ _))) (hb3.mono (by first | exact Nat.le_refl _ | (simp; done) | (simp; omega)))); have s3 := R3.size; have K3 : Below w.heap.size w w3 := K6.trans (R3.mono K6.size); have P3 := P6.keep R3; have Q3 := Q6.keep R3; have p3a := P3.1.2.1; have p3b := P3.1.2.2; have z3 := P3.1.1; have q3a := Q3.1.2.1; have q3b := Q3.1.2.2; have q3c := Q3.2.1; have q3d := Q3.2.2; have y3 := Q3.1.1) | (go_at_call 51; refine (l02Make_any _ m A3 ys.length c3).mono ?_; rintro e w4 ⟨rfl, hb4⟩; have R4 : Below w3.heap.size w3 w4 := (Below.trans (by (repeat (first | assumption | exact Below.refl _ _ | refine Below.alloc ?_ (by first | omega | (simp; done) | (simp; omega)) _ | refine Below.setCell ?_ (by first | omega | (simp; done) | (simp; omega)) _ | refine below_drewN ?_ _))) (hb4.mono (by first | exact Nat.le_refl _ | (simp; done) | (simp; omega)))); have s4 := R4.size; have K4 : Below w.heap.size w w4 := K3.trans (R4.mono K3.size); have P4 := P3.keep R4; have Q4 := Q3.keep R4; have p4a := P4.1.2.1; have p4b := P4.1.2.2; have z4 := P4.1.1; have q4a := Q4.1.2.1; have q4b := Q4.1.2.2; have q4c := Q4.2.1; have q4d := Q4.2.2; have y4 := Q4.1.1))
          all_goals
            go_wp2
            exact bodyPost_ret (v := .tuple #[.agg #[.int .i64 m, .slice A3 ys.length c3], .int .i64 0]) (by simp [results, Try.results44, go_sem, q4a, q4b]) rfl ⟨A3, c3, rfl, (((o3.keep R4 (Nat.le_refl _)).setCell_lt (by show _ < w6.heap.size; exact y6) _).setCell_lt (by show _ < w6.heap.size; exact y6) _).mono (by show w.heap.size ≤ w6.heap.size; omega), by (repeat (first | assumption | exact Below.refl _ _ | refine Below.alloc ?_ (by first | omega | (simp; done) | (simp; omega)) _ | refine Below.setCell ?_ (by first | omega | (simp; done) | (simp; omega)) _ | refine below_drewN ?_ _))⟩

/-! ### The laws' walks, printed by genlaw.py -/
set_option maxHeartbeats 4000000 in
theorem FnExactReverseSeries_walk (w : World) (m0 : Int) (v0 : Value) (xs0 : List Int) (hv0 : RdI w v0 xs0) : Calls Try.prog 13 #[.agg #[.int .i64 m0, v0]] w fun e w' => e = .returned (.bool true) ∧ Below w.heap.size w w' := by
  obtain ⟨A0, c0, e0⟩ := hv0.form
  subst e0
  obtain ⟨r0, HR⟩ : ∃ r0, Hid (ReverseSeriesR m0 xs0 = r0) := ⟨_, rfl⟩
  obtain ⟨⟨rm, rl⟩, rc⟩ := r0
  have hlen := ReverseSeriesR_len m0 xs0
  rw [HR.out] at hlen
  simp only at hlen
  by_cases hz0 : 1048576 < (xs0.length : Int)
  · skip
    have HZ0 := Lib.hid (szN_lt hz0)
    go_enter Try.func13, Try.ntmps13
    go_wp2_with fail
    refine (szS_any _ m0 _ xs0 (1048576) (hv0.below (by (repeat (first | assumption | exact Below.refl _ _ | refine Below.alloc ?_ (by first | omega | (simp; done) | (simp; omega)) _ | refine Below.setCell ?_ (by first | omega | (simp; done) | (simp; omega)) _ | refine below_drewN ?_ _)))) (by omega) (by omega)).mono ?_
    rintro e w1 ⟨rfl, hb1⟩
    rw [HZ0.out]
    have R : Below w.heap.size w w1 := Below.trans (by (repeat (first | assumption | exact Below.refl _ _ | refine Below.alloc ?_ (by first | omega | (simp; done) | (simp; omega)) _ | refine Below.setCell ?_ (by first | omega | (simp; done) | (simp; omega)) _ | refine below_drewN ?_ _))) (hb1.mono (by first | exact Nat.le_refl _ | (simp; done) | (simp; omega)))
    have s1 : w.heap.size ≤ w1.heap.size := R.size
    have K1 : Hid (Below w.heap.size w w1) := R
    have b0 : Hid (Bx w1 w.heap.size (.int .i64 m0) (.slice A0 xs0.length c0)) := ⟨by have := hb1.size; simp at this; omega, by rw [hb1.cell (by first | (simp; done) | (simp; omega))]; simp, by rw [hb1.cell (by first | (simp; done) | (simp; omega))]; simp⟩
    clear R hb1
    have b0_c := b0.out.2.1
    have b0_d := b0.out.2.2
    have b0_z := b0.out.1
    go_wp2
    go_ret
    exact ⟨rfl, K1.out⟩
  have HZ0 := Lib.hid (szN_ge hz0)
  have hl0 : (xs0.length : Int) ≤ 1048576 := by omega
  clear hz0
  go_enter Try.func13, Try.ntmps13
  go_wp2_with fail
  refine (szS_any _ m0 _ xs0 (1048576) (hv0.below (by (repeat (first | assumption | exact Below.refl _ _ | refine Below.alloc ?_ (by first | omega | (simp; done) | (simp; omega)) _ | refine Below.setCell ?_ (by first | omega | (simp; done) | (simp; omega)) _ | refine below_drewN ?_ _)))) (by omega) (by omega)).mono ?_
  rintro e w2 ⟨rfl, hb2⟩
  rw [HZ0.out]
  have R : Below w.heap.size w w2 := Below.trans (by (repeat (first | assumption | exact Below.refl _ _ | refine Below.alloc ?_ (by first | omega | (simp; done) | (simp; omega)) _ | refine Below.setCell ?_ (by first | omega | (simp; done) | (simp; omega)) _ | refine below_drewN ?_ _))) (hb2.mono (by first | exact Nat.le_refl _ | (simp; done) | (simp; omega)))
  have s2 : w.heap.size ≤ w2.heap.size := R.size
  have K2 : Hid (Below w.heap.size w w2) := R
  have b0 : Hid (Bx w2 w.heap.size (.int .i64 m0) (.slice A0 xs0.length c0)) := ⟨by have := hb2.size; simp at this; omega, by rw [hb2.cell (by first | (simp; done) | (simp; omega))]; simp, by rw [hb2.cell (by first | (simp; done) | (simp; omega))]; simp⟩
  clear R hb2
  have b0_c := b0.out.2.1
  have b0_d := b0.out.2.2
  have b0_z := b0.out.1
  go_wp2_with fail
  refine (toS_any _ m0 _ xs0 (hv0.below K2.out) (by omega)).mono ?_
  rintro e w3 ⟨A_p0, c_p0, rfl, o_p0, hb3⟩
  clear b0_c b0_d b0_z
  have o_p0' := o_p0.mono (show w2.heap.size ≤ _ from by first | exact Nat.le_refl _ | (simp; done) | (simp; omega))
  clear o_p0
  have R : Below w2.heap.size w2 w3 := Below.trans (by (repeat (first | assumption | exact Below.refl _ _ | refine Below.alloc ?_ (by first | omega | (simp; done) | (simp; omega)) _ | refine Below.setCell ?_ (by first | omega | (simp; done) | (simp; omega)) _ | refine below_drewN ?_ _))) (hb3.mono (by first | exact Nat.le_refl _ | (simp; done) | (simp; omega)))
  have s3 : w2.heap.size ≤ w3.heap.size := R.size
  have K3 : Hid (Below w.heap.size w w3) := K2.out.trans (R.mono (by omega))
  replace b0 : Hid (Bx w3 w.heap.size (.int .i64 m0) (.slice A0 xs0.length c0)) := b0.out.keep R
  clear R hb3
  have p0 : Hid (OwnI w3 w2.heap.size (.slice A_p0 xs0.length c_p0) xs0) := o_p0'
  have p0_u : Hid (∀ g, Value.ownBlock (.slice A_p0 xs0.length c_p0) = some g → w2.heap.size ≤ g ∧ g < w3.heap.size) := fun g hg => o_p0'.block_ge hg
  clear o_p0'
  have b0_c := b0.out.2.1
  have b0_d := b0.out.2.2
  have b0_z := b0.out.1
  go_wp2_with fail
  refine (sReverseSeriesR_any _ m0 (.slice A_p0 xs0.length c_p0) xs0 w2.heap.size (p0.out.keep (by (repeat (first | assumption | exact Below.refl _ _ | refine Below.alloc ?_ (by first | omega | (simp; done) | (simp; omega)) _ | refine Below.setCell ?_ (by first | omega | (simp; done) | (simp; omega)) _ | refine below_drewN ?_ _))) (Nat.le_refl _)) (by omega)).mono ?_
  rintro e w4 h_r
  replace h_r := h_r.of HR
  obtain ⟨A_ow, c_ow, rfl, o_ow, hb4⟩ := h_r
  have o_ow' := o_ow.mono (show w3.heap.size ≤ _ from by first | exact Nat.le_refl _ | (simp; done) | (simp; omega))
  clear o_ow
  clear b0_c b0_d b0_z
  have R : Below w3.heap.size w3 w4 := Below.trans (by (repeat (first | assumption | exact Below.refl _ _ | refine Below.alloc ?_ (by first | omega | (simp; done) | (simp; omega)) _ | refine Below.setCell ?_ (by first | omega | (simp; done) | (simp; omega)) _ | refine below_drewN ?_ _))) (hb4.mono (by first | exact Nat.le_refl _ | (simp; done) | (simp; omega)))
  have s4 : w3.heap.size ≤ w4.heap.size := R.size
  have K4 : Hid (Below w.heap.size w w4) := K3.out.trans (R.mono (by omega))
  replace b0 : Hid (Bx w4 w.heap.size (.int .i64 m0) (.slice A0 xs0.length c0)) := b0.out.keep R
  replace p0 : Hid (OwnI w4 w2.heap.size (.slice A_p0 xs0.length c_p0) xs0) := p0.out.keep R (Nat.le_refl _)
  clear R hb4
  have ow : Hid (OwnI w4 w3.heap.size (.slice A_ow rl.length c_ow) rl) := o_ow'
  have ow_u : Hid (∀ g, Value.ownBlock (.slice A_ow rl.length c_ow) = some g → w3.heap.size ≤ g ∧ g < w4.heap.size) := fun g hg => o_ow'.block_ge hg
  clear o_ow'
  clear p0 p0_u
  have b0_c := b0.out.2.1
  have b0_d := b0.out.2.2
  have b0_z := b0.out.1
  go_wp2_with fail
  refine (toS_any _ m0 _ xs0 (hv0.below (K4.out.trans (Below.mono (by (repeat (first | assumption | exact Below.refl _ _ | refine Below.alloc ?_ (by first | omega | (simp; done) | (simp; omega)) _ | refine Below.setCell ?_ (by first | omega | (simp; done) | (simp; omega)) _ | refine below_drewN ?_ _))) (by omega)))) (by omega)).mono ?_
  rintro e w5 ⟨A_x0, c_x0, rfl, o_x0, hb5⟩
  clear b0_c b0_d b0_z
  have o_x0' := o_x0.mono (show (w4.heap.size + 1) ≤ _ from by first | exact Nat.le_refl _ | (simp; done) | (simp; omega))
  clear o_x0
  have R : Below w4.heap.size w4 w5 := Below.trans (by (repeat (first | assumption | exact Below.refl _ _ | refine Below.alloc ?_ (by first | omega | (simp; done) | (simp; omega)) _ | refine Below.setCell ?_ (by first | omega | (simp; done) | (simp; omega)) _ | refine below_drewN ?_ _))) (hb5.mono (by first | exact Nat.le_refl _ | (simp; done) | (simp; omega)))
  have s5 : w4.heap.size ≤ w5.heap.size := R.size
  have K5 : Hid (Below w.heap.size w w5) := K4.out.trans (R.mono (by omega))
  replace b0 : Hid (Bx w5 w.heap.size (.int .i64 m0) (.slice A0 xs0.length c0)) := b0.out.keep R
  replace ow : Hid (OwnI w5 w3.heap.size (.slice A_ow rl.length c_ow) rl) := ow.out.keep R (Nat.le_refl _)
  have bw : Hid (Bx w5 w4.heap.size (.int .i64 rm) (.slice A_ow rl.length c_ow)) := ⟨by have := hb5.size; simp at this; omega, by rw [hb5.cell (by first | (simp; done) | (simp; omega))]; simp, by rw [hb5.cell (by first | (simp; done) | (simp; omega))]; simp⟩
  clear R hb5
  have x0 : Hid (OwnI w5 (w4.heap.size + 1) (.slice A_x0 xs0.length c_x0) xs0) := o_x0'
  have x0_u : Hid (∀ g, Value.ownBlock (.slice A_x0 xs0.length c_x0) = some g → (w4.heap.size + 1) ≤ g ∧ g < w5.heap.size) := fun g hg => o_x0'.block_ge hg
  clear o_x0'
  have b0_c := b0.out.2.1
  have b0_d := b0.out.2.2
  have b0_z := b0.out.1
  have bw_c := bw.out.2.1
  have bw_d := bw.out.2.2
  have bw_z := bw.out.1
  go_wp2_with fail
  refine (iReverseSeriesR_any _ m0 (.slice A_x0 xs0.length c_x0) xs0 (w4.heap.size + 1) (x0.out.keep (by (repeat (first | assumption | exact Below.refl _ _ | refine Below.alloc ?_ (by first | omega | (simp; done) | (simp; omega)) _ | refine Below.setCell ?_ (by first | omega | (simp; done) | (simp; omega)) _ | refine below_drewN ?_ _))) (Nat.le_refl _)) (by omega)).mono ?_
  rintro e w6 h_r
  replace h_r := h_r.of HR
  obtain ⟨A_og, c_og, rfl, o_og, hb6⟩ := h_r
  have o_og' := o_og.mono (show (w5.heap.size + 1) ≤ _ from by first | exact Nat.le_refl _ | (simp; done) | (simp; omega))
  clear o_og
  clear b0_c b0_d b0_z
  clear bw_c bw_d bw_z
  have R : Below w5.heap.size w5 w6 := Below.trans (by (repeat (first | assumption | exact Below.refl _ _ | refine Below.alloc ?_ (by first | omega | (simp; done) | (simp; omega)) _ | refine Below.setCell ?_ (by first | omega | (simp; done) | (simp; omega)) _ | refine below_drewN ?_ _))) (hb6.mono (by first | exact Nat.le_refl _ | (simp; done) | (simp; omega)))
  have s6 : w5.heap.size ≤ w6.heap.size := R.size
  have K6 : Hid (Below w.heap.size w w6) := K5.out.trans (R.mono (by omega))
  replace b0 : Hid (Bx w6 w.heap.size (.int .i64 m0) (.slice A0 xs0.length c0)) := b0.out.keep R
  replace bw : Hid (Bx w6 w4.heap.size (.int .i64 rm) (.slice A_ow rl.length c_ow)) := bw.out.keep R
  replace ow : Hid (OwnI w6 w3.heap.size (.slice A_ow rl.length c_ow) rl) := ow.out.keep R (Nat.le_refl _)
  replace x0 : Hid (OwnI w6 (w4.heap.size + 1) (.slice A_x0 xs0.length c_x0) xs0) := x0.out.keep R (Nat.le_refl _)
  have bx0 : Hid (Bx w6 w5.heap.size (.int .i64 m0) (.slice A_x0 xs0.length c_x0)) := ⟨by have := hb6.size; simp at this; omega, by rw [hb6.cell (by first | (simp; done) | (simp; omega))]; simp, by rw [hb6.cell (by first | (simp; done) | (simp; omega))]; simp⟩
  clear R hb6
  have og : Hid (OwnI w6 (w5.heap.size + 1) (.slice A_og rl.length c_og) rl) := o_og'
  have og_u : Hid (∀ g, Value.ownBlock (.slice A_og rl.length c_og) = some g → (w5.heap.size + 1) ≤ g ∧ g < w6.heap.size) := fun g hg => o_og'.block_ge hg
  clear o_og'
  have b0_c := b0.out.2.1
  have b0_d := b0.out.2.2
  have b0_z := b0.out.1
  have bw_c := bw.out.2.1
  have bw_d := bw.out.2.2
  have bw_z := bw.out.1
  have bx0_c := bx0.out.2.1
  have bx0_d := bx0.out.2.2
  have bx0_z := bx0.out.1
  go_wp2_with fail
  refine (eqS_any _ rm rm _ _ _ _ (og.out.keep (by (repeat (first | assumption | exact Below.refl _ _ | refine Below.alloc ?_ (by first | omega | (simp; done) | (simp; omega)) _ | refine Below.setCell ?_ (by first | omega | (simp; done) | (simp; omega)) _ | refine below_drewN ?_ _))) (Nat.le_refl _)).rd (ow.out.keep (by (repeat (first | assumption | exact Below.refl _ _ | refine Below.alloc ?_ (by first | omega | (simp; done) | (simp; omega)) _ | refine Below.setCell ?_ (by first | omega | (simp; done) | (simp; omega)) _ | refine below_drewN ?_ _))) (Nat.le_refl _)).rd).mono ?_
  rintro e w7 ⟨rfl, hb7⟩
  clear b0_c b0_d b0_z
  clear bw_c bw_d bw_z
  clear bx0_c bx0_d bx0_z
  have R : Below w6.heap.size w6 w7 := Below.trans (by (repeat (first | assumption | exact Below.refl _ _ | refine Below.alloc ?_ (by first | omega | (simp; done) | (simp; omega)) _ | refine Below.setCell ?_ (by first | omega | (simp; done) | (simp; omega)) _ | refine below_drewN ?_ _))) (hb7.mono (by first | exact Nat.le_refl _ | (simp; done) | (simp; omega)))
  have s7 : w6.heap.size ≤ w7.heap.size := R.size
  have K7 : Hid (Below w.heap.size w w7) := K6.out.trans (R.mono (by omega))
  replace b0 : Hid (Bx w7 w.heap.size (.int .i64 m0) (.slice A0 xs0.length c0)) := b0.out.keep R
  replace bw : Hid (Bx w7 w4.heap.size (.int .i64 rm) (.slice A_ow rl.length c_ow)) := bw.out.keep R
  replace bx0 : Hid (Bx w7 w5.heap.size (.int .i64 m0) (.slice A_x0 xs0.length c_x0)) := bx0.out.keep R
  replace ow : Hid (OwnI w7 w3.heap.size (.slice A_ow rl.length c_ow) rl) := ow.out.keep R (Nat.le_refl _)
  replace x0 : Hid (OwnI w7 (w4.heap.size + 1) (.slice A_x0 xs0.length c_x0) xs0) := x0.out.keep R (Nat.le_refl _)
  replace og : Hid (OwnI w7 (w5.heap.size + 1) (.slice A_og rl.length c_og) rl) := og.out.keep R (Nat.le_refl _)
  have bg : Hid (Bx w7 w6.heap.size (.int .i64 rm) (.slice A_og rl.length c_og)) := ⟨by have := hb7.size; simp at this; omega, by rw [hb7.cell (by first | (simp; done) | (simp; omega))]; simp, by rw [hb7.cell (by first | (simp; done) | (simp; omega))]; simp⟩
  clear R hb7
  have b0_c := b0.out.2.1
  have b0_d := b0.out.2.2
  have b0_z := b0.out.1
  have bw_c := bw.out.2.1
  have bw_d := bw.out.2.2
  have bw_z := bw.out.1
  have bx0_c := bx0.out.2.1
  have bx0_d := bx0.out.2.2
  have bx0_z := bx0.out.1
  have bg_c := bg.out.2.1
  have bg_d := bg.out.2.2
  have bg_z := bg.out.1
  go_wp2
  clear b0_c b0_d b0_z
  clear bw_c bw_d bw_z
  clear bx0_c bx0_d bx0_z
  clear bg_c bg_d bg_z
  have L0 : Below w.heap.size w w7.drew := below_drew K7.out
  have T0 : Hid (Bx w7.drew w.heap.size (.int .i64 m0) (.slice A0 xs0.length c0) ∧ Bx w7.drew w4.heap.size (.int .i64 rm) (.slice A_ow rl.length c_ow) ∧ Bx w7.drew w5.heap.size (.int .i64 m0) (.slice A_x0 xs0.length c_x0) ∧ Bx w7.drew w6.heap.size (.int .i64 rm) (.slice A_og rl.length c_og) ∧ OwnI w7.drew w3.heap.size (.slice A_ow rl.length c_ow) rl ∧ OwnI w7.drew (w4.heap.size + 1) (.slice A_x0 xs0.length c_x0) xs0 ∧ OwnI w7.drew (w5.heap.size + 1) (.slice A_og rl.length c_og) rl ∧ Below w.heap.size w w7.drew ∧ w7.heap.size ≤ w7.drew.heap.size) := ⟨b0.out, bw.out, bx0.out, bg.out, ow.out, x0.out, og.out, L0, Nat.le_refl _⟩
  go_region_held3 (fun w' => w'.cell? ⟨w.heap.size, 0, none⟩ = some (.int .i64 m0) ∧ w'.cell? ⟨w.heap.size, 1, none⟩ = some (.slice A0 xs0.length c0) ∧ w'.cell? ⟨w4.heap.size, 0, none⟩ = some (.int .i64 rm) ∧ w'.cell? ⟨w4.heap.size, 1, none⟩ = some (.slice A_ow rl.length c_ow) ∧ w'.cell? ⟨w5.heap.size, 0, none⟩ = some (.int .i64 m0) ∧ w'.cell? ⟨w5.heap.size, 1, none⟩ = some (.slice A_x0 xs0.length c_x0) ∧ w'.cell? ⟨w6.heap.size, 0, none⟩ = some (.int .i64 rm) ∧ w'.cell? ⟨w6.heap.size, 1, none⟩ = some (.slice A_og rl.length c_og) ∧ Hid (Bx w' w.heap.size (.int .i64 m0) (.slice A0 xs0.length c0) ∧ Bx w' w4.heap.size (.int .i64 rm) (.slice A_ow rl.length c_ow) ∧ Bx w' w5.heap.size (.int .i64 m0) (.slice A_x0 xs0.length c_x0) ∧ Bx w' w6.heap.size (.int .i64 rm) (.slice A_og rl.length c_og) ∧ OwnI w' w3.heap.size (.slice A_ow rl.length c_ow) rl ∧ OwnI w' (w4.heap.size + 1) (.slice A_x0 xs0.length c_x0) xs0 ∧ OwnI w' (w5.heap.size + 1) (.slice A_og rl.length c_og) rl ∧ Below w.heap.size w w' ∧ w7.heap.size ≤ w'.heap.size))
    (first | exact ⟨(T0.out.1).2.1, (T0.out.1).2.2, (T0.out.2.1).2.1, (T0.out.2.1).2.2, (T0.out.2.2.1).2.1, (T0.out.2.2.1).2.2, (T0.out.2.2.2.1).2.1, (T0.out.2.2.2.1).2.2, T0⟩ | exact ⟨(T1.out.1).2.1, (T1.out.1).2.2, (T1.out.2.1).2.1, (T1.out.2.1).2.2, (T1.out.2.2.1).2.1, (T1.out.2.2.1).2.2, (T1.out.2.2.2.1).2.1, (T1.out.2.2.2.1).2.2, T1⟩ | exact ⟨(T2.out.1).2.1, (T2.out.1).2.2, (T2.out.2.1).2.1, (T2.out.2.1).2.2, (T2.out.2.2.1).2.1, (T2.out.2.2.1).2.2, (T2.out.2.2.2.1).2.1, (T2.out.2.2.2.1).2.2, T2⟩)
    (first
      | (go_at_call 17; refine (toS_any _ m0 _ xs0 (hv0.below L0) (by omega)).mono ?_; rintro e w8 ⟨A_t, c_t, rfl, o_t, hbA⟩; have T1 : Hid (Bx w8 w.heap.size (.int .i64 m0) (.slice A0 xs0.length c0) ∧ Bx w8 w4.heap.size (.int .i64 rm) (.slice A_ow rl.length c_ow) ∧ Bx w8 w5.heap.size (.int .i64 m0) (.slice A_x0 xs0.length c_x0) ∧ Bx w8 w6.heap.size (.int .i64 rm) (.slice A_og rl.length c_og) ∧ OwnI w8 w3.heap.size (.slice A_ow rl.length c_ow) rl ∧ OwnI w8 (w4.heap.size + 1) (.slice A_x0 xs0.length c_x0) xs0 ∧ OwnI w8 (w5.heap.size + 1) (.slice A_og rl.length c_og) rl ∧ Below w.heap.size w w8 ∧ w7.heap.size ≤ w8.heap.size) := ⟨(T0.out.1).keep hbA, (T0.out.2.1).keep hbA, (T0.out.2.2.1).keep hbA, (T0.out.2.2.2.1).keep hbA, (T0.out.2.2.2.2.1).keep hbA (Nat.le_refl _), (T0.out.2.2.2.2.2.1).keep hbA (Nat.le_refl _), (T0.out.2.2.2.2.2.2.1).keep hbA (Nat.le_refl _), (T0.out.2.2.2.2.2.2.2.1).trans (hbA.mono (Nat.le_trans (show w.heap.size ≤ w7.heap.size from by omega) (T0.out.2.2.2.2.2.2.2.2))), Nat.le_trans (T0.out.2.2.2.2.2.2.2.2) hbA.size⟩)
      | (go_at_call 19; refine (eqS_any _ m0 m0 _ _ xs0 xs0 (T1.out.2.2.2.2.2.1).rd o_t.rd).mono ?_; rintro e w9 ⟨rfl, hbB⟩; have T2 : Hid (Bx w9 w.heap.size (.int .i64 m0) (.slice A0 xs0.length c0) ∧ Bx w9 w4.heap.size (.int .i64 rm) (.slice A_ow rl.length c_ow) ∧ Bx w9 w5.heap.size (.int .i64 m0) (.slice A_x0 xs0.length c_x0) ∧ Bx w9 w6.heap.size (.int .i64 rm) (.slice A_og rl.length c_og) ∧ OwnI w9 w3.heap.size (.slice A_ow rl.length c_ow) rl ∧ OwnI w9 (w4.heap.size + 1) (.slice A_x0 xs0.length c_x0) xs0 ∧ OwnI w9 (w5.heap.size + 1) (.slice A_og rl.length c_og) rl ∧ Below w.heap.size w w9 ∧ w7.heap.size ≤ w9.heap.size) := ⟨(T1.out.1).keep hbB, (T1.out.2.1).keep hbB, (T1.out.2.2.1).keep hbB, (T1.out.2.2.2.1).keep hbB, (T1.out.2.2.2.2.1).keep hbB (Nat.le_refl _), (T1.out.2.2.2.2.2.1).keep hbB (Nat.le_refl _), (T1.out.2.2.2.2.2.2.1).keep hbB (Nat.le_refl _), (T1.out.2.2.2.2.2.2.2.1).trans (hbB.mono (Nat.le_trans (show w.heap.size ≤ w7.heap.size from by omega) (T1.out.2.2.2.2.2.2.2.2))), Nat.le_trans (T1.out.2.2.2.2.2.2.2.2) hbB.size⟩))
  have s9 : w7.heap.size ≤ w9.heap.size := T2.out.2.2.2.2.2.2.2.2
  have K9 : Hid (Below w.heap.size w w9) := T2.out.2.2.2.2.2.2.2.1
  replace b0 : Hid (Bx w9 w.heap.size (.int .i64 m0) (.slice A0 xs0.length c0)) := T2.out.1
  replace bw : Hid (Bx w9 w4.heap.size (.int .i64 rm) (.slice A_ow rl.length c_ow)) := T2.out.2.1
  replace bx0 : Hid (Bx w9 w5.heap.size (.int .i64 m0) (.slice A_x0 xs0.length c_x0)) := T2.out.2.2.1
  replace bg : Hid (Bx w9 w6.heap.size (.int .i64 rm) (.slice A_og rl.length c_og)) := T2.out.2.2.2.1
  replace ow : Hid (OwnI w9 w3.heap.size (.slice A_ow rl.length c_ow) rl) := T2.out.2.2.2.2.1
  replace x0 : Hid (OwnI w9 (w4.heap.size + 1) (.slice A_x0 xs0.length c_x0) xs0) := T2.out.2.2.2.2.2.1
  replace og : Hid (OwnI w9 (w5.heap.size + 1) (.slice A_og rl.length c_og) rl) := T2.out.2.2.2.2.2.2.1
  clear T0 T1 T2 L0 o_t
  have b0_c := b0.out.2.1
  have b0_d := b0.out.2.2
  have b0_z := b0.out.1
  have bw_c := bw.out.2.1
  have bw_d := bw.out.2.2
  have bw_z := bw.out.1
  have bx0_c := bx0.out.2.1
  have bx0_d := bx0.out.2.2
  have bx0_z := bx0.out.1
  have bg_c := bg.out.2.1
  have bg_d := bg.out.2.2
  have bg_z := bg.out.1
  go_wp2_with fail
  refine (markS_any _ (w4.heap.size + 1) m0 _ _ xs0.length (1) (x0.out.keep (by (repeat (first | assumption | exact Below.refl _ _ | refine Below.alloc ?_ (by first | omega | (simp; done) | (simp; omega)) _ | refine Below.setCell ?_ (by first | omega | (simp; done) | (simp; omega)) _ | refine below_drewN ?_ _))) (Nat.le_refl _)) rfl (by omega) (by omega) (by omega)).mono ?_
  rintro e w10 ⟨rfl, o_m, hg10⟩
  clear b0_c b0_d b0_z
  clear bw_c bw_d bw_z
  clear bx0_c bx0_d bx0_z
  clear bg_c bg_d bg_z
  have R : w9.grownBy w10 (Value.ownBlock (.slice A_x0 xs0.length c_x0)) := grownBy_behind (by (repeat (first | assumption | exact Below.refl _ _ | refine Below.alloc ?_ (by first | omega | (simp; done) | (simp; omega)) _ | refine Below.setCell ?_ (by first | omega | (simp; done) | (simp; omega)) _ | refine below_drewN ?_ _))) hg10
  have s10 : w9.heap.size ≤ w10.heap.size := R.size
  have K10 : Hid (Below w.heap.size w w10) := below_grownBy K9.out (by omega) R (fun g hg => by have := x0_u.out g hg; omega)
  replace b0 : Hid (Bx w10 w.heap.size (.int .i64 m0) (.slice A0 xs0.length c0)) := b0.out.grown R (fun g hg => by have := x0_u.out g hg; omega)
  replace bw : Hid (Bx w10 w4.heap.size (.int .i64 rm) (.slice A_ow rl.length c_ow)) := bw.out.grown R (fun g hg => by have := x0_u.out g hg; omega)
  replace bx0 : Hid (Bx w10 w5.heap.size (.int .i64 m0) (.slice A_x0 xs0.length c_x0)) := bx0.out.grown R (fun g hg => by have := x0_u.out g hg; omega)
  replace bg : Hid (Bx w10 w6.heap.size (.int .i64 rm) (.slice A_og rl.length c_og)) := bg.out.grown R (fun g hg => by have := x0_u.out g hg; omega)
  replace ow : Hid (OwnI w10 w3.heap.size (.slice A_ow rl.length c_ow) rl) := ow.out.grown R (fun g g' hg hg' => by have := ow_u.out g hg; have := x0_u.out g' hg'; omega)
  replace og : Hid (OwnI w10 (w5.heap.size + 1) (.slice A_og rl.length c_og) rl) := og.out.grown R (fun g g' hg hg' => by have := og_u.out g hg; have := x0_u.out g' hg'; omega)
  clear R hg10
  replace x0 : Hid (OwnI w10 (w4.heap.size + 1) (.slice A_x0 xs0.length c_x0) (marks (1) xs0.length)) := o_m
  clear o_m
  have b0_c := b0.out.2.1
  have b0_d := b0.out.2.2
  have b0_z := b0.out.1
  have bw_c := bw.out.2.1
  have bw_d := bw.out.2.2
  have bw_z := bw.out.1
  have bx0_c := bx0.out.2.1
  have bx0_d := bx0.out.2.2
  have bx0_z := bx0.out.1
  have bg_c := bg.out.2.1
  have bg_d := bg.out.2.2
  have bg_z := bg.out.1
  go_wp2_with fail
  refine (eqS_any _ rm rm _ _ _ _ (og.out.keep (by (repeat (first | assumption | exact Below.refl _ _ | refine Below.alloc ?_ (by first | omega | (simp; done) | (simp; omega)) _ | refine Below.setCell ?_ (by first | omega | (simp; done) | (simp; omega)) _ | refine below_drewN ?_ _))) (Nat.le_refl _)).rd (ow.out.keep (by (repeat (first | assumption | exact Below.refl _ _ | refine Below.alloc ?_ (by first | omega | (simp; done) | (simp; omega)) _ | refine Below.setCell ?_ (by first | omega | (simp; done) | (simp; omega)) _ | refine below_drewN ?_ _))) (Nat.le_refl _)).rd).mono ?_
  rintro e w11 ⟨rfl, hb11⟩
  clear b0_c b0_d b0_z
  clear bw_c bw_d bw_z
  clear bx0_c bx0_d bx0_z
  clear bg_c bg_d bg_z
  have R : Below w10.heap.size w10 w11 := Below.trans (by (repeat (first | assumption | exact Below.refl _ _ | refine Below.alloc ?_ (by first | omega | (simp; done) | (simp; omega)) _ | refine Below.setCell ?_ (by first | omega | (simp; done) | (simp; omega)) _ | refine below_drewN ?_ _))) (hb11.mono (by first | exact Nat.le_refl _ | (simp; done) | (simp; omega)))
  have s11 : w10.heap.size ≤ w11.heap.size := R.size
  have K11 : Hid (Below w.heap.size w w11) := K10.out.trans (R.mono (by omega))
  replace b0 : Hid (Bx w11 w.heap.size (.int .i64 m0) (.slice A0 xs0.length c0)) := b0.out.keep R
  replace bw : Hid (Bx w11 w4.heap.size (.int .i64 rm) (.slice A_ow rl.length c_ow)) := bw.out.keep R
  replace bx0 : Hid (Bx w11 w5.heap.size (.int .i64 m0) (.slice A_x0 xs0.length c_x0)) := bx0.out.keep R
  replace bg : Hid (Bx w11 w6.heap.size (.int .i64 rm) (.slice A_og rl.length c_og)) := bg.out.keep R
  replace ow : Hid (OwnI w11 w3.heap.size (.slice A_ow rl.length c_ow) rl) := ow.out.keep R (Nat.le_refl _)
  replace x0 : Hid (OwnI w11 (w4.heap.size + 1) (.slice A_x0 xs0.length c_x0) (marks (1) xs0.length)) := x0.out.keep R (Nat.le_refl _)
  replace og : Hid (OwnI w11 (w5.heap.size + 1) (.slice A_og rl.length c_og) rl) := og.out.keep R (Nat.le_refl _)
  clear R hb11
  have b0_c := b0.out.2.1
  have b0_d := b0.out.2.2
  have b0_z := b0.out.1
  have bw_c := bw.out.2.1
  have bw_d := bw.out.2.2
  have bw_z := bw.out.1
  have bx0_c := bx0.out.2.1
  have bx0_d := bx0.out.2.2
  have bx0_z := bx0.out.1
  have bg_c := bg.out.2.1
  have bg_d := bg.out.2.2
  have bg_z := bg.out.1
  go_wp2_with fail
  refine (markS_any _ (w5.heap.size + 1) rm _ _ rl.length (1) (og.out.keep (by (repeat (first | assumption | exact Below.refl _ _ | refine Below.alloc ?_ (by first | omega | (simp; done) | (simp; omega)) _ | refine Below.setCell ?_ (by first | omega | (simp; done) | (simp; omega)) _ | refine below_drewN ?_ _))) (Nat.le_refl _)) rfl (by omega) (by omega) (by omega)).mono ?_
  rintro e w12 ⟨rfl, o_m, hg12⟩
  clear b0_c b0_d b0_z
  clear bw_c bw_d bw_z
  clear bx0_c bx0_d bx0_z
  clear bg_c bg_d bg_z
  have R : w11.grownBy w12 (Value.ownBlock (.slice A_og rl.length c_og)) := grownBy_behind (by (repeat (first | assumption | exact Below.refl _ _ | refine Below.alloc ?_ (by first | omega | (simp; done) | (simp; omega)) _ | refine Below.setCell ?_ (by first | omega | (simp; done) | (simp; omega)) _ | refine below_drewN ?_ _))) hg12
  have s12 : w11.heap.size ≤ w12.heap.size := R.size
  have K12 : Hid (Below w.heap.size w w12) := below_grownBy K11.out (by omega) R (fun g hg => by have := og_u.out g hg; omega)
  replace b0 : Hid (Bx w12 w.heap.size (.int .i64 m0) (.slice A0 xs0.length c0)) := b0.out.grown R (fun g hg => by have := og_u.out g hg; omega)
  replace bw : Hid (Bx w12 w4.heap.size (.int .i64 rm) (.slice A_ow rl.length c_ow)) := bw.out.grown R (fun g hg => by have := og_u.out g hg; omega)
  replace bx0 : Hid (Bx w12 w5.heap.size (.int .i64 m0) (.slice A_x0 xs0.length c_x0)) := bx0.out.grown R (fun g hg => by have := og_u.out g hg; omega)
  replace bg : Hid (Bx w12 w6.heap.size (.int .i64 rm) (.slice A_og rl.length c_og)) := bg.out.grown R (fun g hg => by have := og_u.out g hg; omega)
  replace ow : Hid (OwnI w12 w3.heap.size (.slice A_ow rl.length c_ow) rl) := ow.out.grown R (fun g g' hg hg' => by have := ow_u.out g hg; have := og_u.out g' hg'; omega)
  replace x0 : Hid (OwnI w12 (w4.heap.size + 1) (.slice A_x0 xs0.length c_x0) (marks (1) xs0.length)) := x0.out.grown R (fun g g' hg hg' => by have := x0_u.out g hg; have := og_u.out g' hg'; omega)
  clear R hg12
  replace og : Hid (OwnI w12 (w5.heap.size + 1) (.slice A_og rl.length c_og) (marks (1) rl.length)) := o_m
  clear o_m
  have b0_c := b0.out.2.1
  have b0_d := b0.out.2.2
  have b0_z := b0.out.1
  have bw_c := bw.out.2.1
  have bw_d := bw.out.2.2
  have bw_z := bw.out.1
  have bx0_c := bx0.out.2.1
  have bx0_d := bx0.out.2.2
  have bx0_z := bx0.out.1
  have bg_c := bg.out.2.1
  have bg_d := bg.out.2.2
  have bg_z := bg.out.1
  go_wp2_with fail
  refine (heldS_any _ (w5.heap.size + 1) rm _ rl.length (1) (og.out.keep (by (repeat (first | assumption | exact Below.refl _ _ | refine Below.alloc ?_ (by first | omega | (simp; done) | (simp; omega)) _ | refine Below.setCell ?_ (by first | omega | (simp; done) | (simp; omega)) _ | refine below_drewN ?_ _))) (Nat.le_refl _)) (by omega) (by omega) (by omega)).mono ?_
  rintro e w13 ⟨rfl, hb13⟩
  clear b0_c b0_d b0_z
  clear bw_c bw_d bw_z
  clear bx0_c bx0_d bx0_z
  clear bg_c bg_d bg_z
  have R : Below w12.heap.size w12 w13 := Below.trans (by (repeat (first | assumption | exact Below.refl _ _ | refine Below.alloc ?_ (by first | omega | (simp; done) | (simp; omega)) _ | refine Below.setCell ?_ (by first | omega | (simp; done) | (simp; omega)) _ | refine below_drewN ?_ _))) (hb13.mono (by first | exact Nat.le_refl _ | (simp; done) | (simp; omega)))
  have s13 : w12.heap.size ≤ w13.heap.size := R.size
  have K13 : Hid (Below w.heap.size w w13) := K12.out.trans (R.mono (by omega))
  replace b0 : Hid (Bx w13 w.heap.size (.int .i64 m0) (.slice A0 xs0.length c0)) := b0.out.keep R
  replace bw : Hid (Bx w13 w4.heap.size (.int .i64 rm) (.slice A_ow rl.length c_ow)) := bw.out.keep R
  replace bx0 : Hid (Bx w13 w5.heap.size (.int .i64 m0) (.slice A_x0 xs0.length c_x0)) := bx0.out.keep R
  replace bg : Hid (Bx w13 w6.heap.size (.int .i64 rm) (.slice A_og rl.length c_og)) := bg.out.keep R
  replace ow : Hid (OwnI w13 w3.heap.size (.slice A_ow rl.length c_ow) rl) := ow.out.keep R (Nat.le_refl _)
  replace x0 : Hid (OwnI w13 (w4.heap.size + 1) (.slice A_x0 xs0.length c_x0) (marks (1) xs0.length)) := x0.out.keep R (Nat.le_refl _)
  replace og : Hid (OwnI w13 (w5.heap.size + 1) (.slice A_og rl.length c_og) (marks (1) rl.length)) := og.out.keep R (Nat.le_refl _)
  clear R hb13
  have b0_c := b0.out.2.1
  have b0_d := b0.out.2.2
  have b0_z := b0.out.1
  have bw_c := bw.out.2.1
  have bw_d := bw.out.2.2
  have bw_z := bw.out.1
  have bx0_c := bx0.out.2.1
  have bx0_d := bx0.out.2.2
  have bx0_z := bx0.out.1
  have bg_c := bg.out.2.1
  have bg_d := bg.out.2.2
  have bg_z := bg.out.1
  go_wp2_with fail
  refine (toS_any _ m0 _ xs0 (hv0.below K13.out) (by omega)).mono ?_
  rintro e w14 ⟨A_y0, c_y0, rfl, o_y0, hb14⟩
  clear b0_c b0_d b0_z
  clear bw_c bw_d bw_z
  clear bx0_c bx0_d bx0_z
  clear bg_c bg_d bg_z
  have o_y0' := o_y0.mono (show w13.heap.size ≤ _ from by first | exact Nat.le_refl _ | (simp; done) | (simp; omega))
  clear o_y0
  have R : Below w13.heap.size w13 w14 := Below.trans (by (repeat (first | assumption | exact Below.refl _ _ | refine Below.alloc ?_ (by first | omega | (simp; done) | (simp; omega)) _ | refine Below.setCell ?_ (by first | omega | (simp; done) | (simp; omega)) _ | refine below_drewN ?_ _))) (hb14.mono (by first | exact Nat.le_refl _ | (simp; done) | (simp; omega)))
  have s14 : w13.heap.size ≤ w14.heap.size := R.size
  have K14 : Hid (Below w.heap.size w w14) := K13.out.trans (R.mono (by omega))
  replace b0 : Hid (Bx w14 w.heap.size (.int .i64 m0) (.slice A0 xs0.length c0)) := b0.out.keep R
  replace bw : Hid (Bx w14 w4.heap.size (.int .i64 rm) (.slice A_ow rl.length c_ow)) := bw.out.keep R
  replace bx0 : Hid (Bx w14 w5.heap.size (.int .i64 m0) (.slice A_x0 xs0.length c_x0)) := bx0.out.keep R
  replace bg : Hid (Bx w14 w6.heap.size (.int .i64 rm) (.slice A_og rl.length c_og)) := bg.out.keep R
  replace ow : Hid (OwnI w14 w3.heap.size (.slice A_ow rl.length c_ow) rl) := ow.out.keep R (Nat.le_refl _)
  replace x0 : Hid (OwnI w14 (w4.heap.size + 1) (.slice A_x0 xs0.length c_x0) (marks (1) xs0.length)) := x0.out.keep R (Nat.le_refl _)
  replace og : Hid (OwnI w14 (w5.heap.size + 1) (.slice A_og rl.length c_og) (marks (1) rl.length)) := og.out.keep R (Nat.le_refl _)
  clear R hb14
  have y0 : Hid (OwnI w14 w13.heap.size (.slice A_y0 xs0.length c_y0) xs0) := o_y0'
  have y0_u : Hid (∀ g, Value.ownBlock (.slice A_y0 xs0.length c_y0) = some g → w13.heap.size ≤ g ∧ g < w14.heap.size) := fun g hg => o_y0'.block_ge hg
  clear o_y0'
  have b0_c := b0.out.2.1
  have b0_d := b0.out.2.2
  have b0_z := b0.out.1
  have bw_c := bw.out.2.1
  have bw_d := bw.out.2.2
  have bw_z := bw.out.1
  have bx0_c := bx0.out.2.1
  have bx0_d := bx0.out.2.2
  have bx0_z := bx0.out.1
  have bg_c := bg.out.2.1
  have bg_d := bg.out.2.2
  have bg_z := bg.out.1
  go_wp2_with fail
  refine (iReverseSeriesR_any _ m0 (.slice A_y0 xs0.length c_y0) xs0 w13.heap.size (y0.out.keep (by (repeat (first | assumption | exact Below.refl _ _ | refine Below.alloc ?_ (by first | omega | (simp; done) | (simp; omega)) _ | refine Below.setCell ?_ (by first | omega | (simp; done) | (simp; omega)) _ | refine below_drewN ?_ _))) (Nat.le_refl _)) (by omega)).mono ?_
  rintro e w15 h_r
  replace h_r := h_r.of HR
  obtain ⟨A_oh, c_oh, rfl, o_oh, hb15⟩ := h_r
  have o_oh' := o_oh.mono (show w14.heap.size ≤ _ from by first | exact Nat.le_refl _ | (simp; done) | (simp; omega))
  clear o_oh
  clear b0_c b0_d b0_z
  clear bw_c bw_d bw_z
  clear bx0_c bx0_d bx0_z
  clear bg_c bg_d bg_z
  have R : Below w14.heap.size w14 w15 := Below.trans (by (repeat (first | assumption | exact Below.refl _ _ | refine Below.alloc ?_ (by first | omega | (simp; done) | (simp; omega)) _ | refine Below.setCell ?_ (by first | omega | (simp; done) | (simp; omega)) _ | refine below_drewN ?_ _))) (hb15.mono (by first | exact Nat.le_refl _ | (simp; done) | (simp; omega)))
  have s15 : w14.heap.size ≤ w15.heap.size := R.size
  have K15 : Hid (Below w.heap.size w w15) := K14.out.trans (R.mono (by omega))
  replace b0 : Hid (Bx w15 w.heap.size (.int .i64 m0) (.slice A0 xs0.length c0)) := b0.out.keep R
  replace bw : Hid (Bx w15 w4.heap.size (.int .i64 rm) (.slice A_ow rl.length c_ow)) := bw.out.keep R
  replace bx0 : Hid (Bx w15 w5.heap.size (.int .i64 m0) (.slice A_x0 xs0.length c_x0)) := bx0.out.keep R
  replace bg : Hid (Bx w15 w6.heap.size (.int .i64 rm) (.slice A_og rl.length c_og)) := bg.out.keep R
  replace ow : Hid (OwnI w15 w3.heap.size (.slice A_ow rl.length c_ow) rl) := ow.out.keep R (Nat.le_refl _)
  replace x0 : Hid (OwnI w15 (w4.heap.size + 1) (.slice A_x0 xs0.length c_x0) (marks (1) xs0.length)) := x0.out.keep R (Nat.le_refl _)
  replace og : Hid (OwnI w15 (w5.heap.size + 1) (.slice A_og rl.length c_og) (marks (1) rl.length)) := og.out.keep R (Nat.le_refl _)
  replace y0 : Hid (OwnI w15 w13.heap.size (.slice A_y0 xs0.length c_y0) xs0) := y0.out.keep R (Nat.le_refl _)
  clear R hb15
  have oh : Hid (OwnI w15 w14.heap.size (.slice A_oh rl.length c_oh) rl) := o_oh'
  have oh_u : Hid (∀ g, Value.ownBlock (.slice A_oh rl.length c_oh) = some g → w14.heap.size ≤ g ∧ g < w15.heap.size) := fun g hg => o_oh'.block_ge hg
  clear o_oh'
  have b0_c := b0.out.2.1
  have b0_d := b0.out.2.2
  have b0_z := b0.out.1
  have bw_c := bw.out.2.1
  have bw_d := bw.out.2.2
  have bw_z := bw.out.1
  have bx0_c := bx0.out.2.1
  have bx0_d := bx0.out.2.2
  have bx0_z := bx0.out.1
  have bg_c := bg.out.2.1
  have bg_d := bg.out.2.2
  have bg_z := bg.out.1
  go_wp2_with fail
  refine (eqS_any _ rm rm _ _ _ _ (oh.out.keep (by (repeat (first | assumption | exact Below.refl _ _ | refine Below.alloc ?_ (by first | omega | (simp; done) | (simp; omega)) _ | refine Below.setCell ?_ (by first | omega | (simp; done) | (simp; omega)) _ | refine below_drewN ?_ _))) (Nat.le_refl _)).rd (ow.out.keep (by (repeat (first | assumption | exact Below.refl _ _ | refine Below.alloc ?_ (by first | omega | (simp; done) | (simp; omega)) _ | refine Below.setCell ?_ (by first | omega | (simp; done) | (simp; omega)) _ | refine below_drewN ?_ _))) (Nat.le_refl _)).rd).mono ?_
  rintro e w16 ⟨rfl, hb16⟩
  clear b0_c b0_d b0_z
  clear bw_c bw_d bw_z
  clear bx0_c bx0_d bx0_z
  clear bg_c bg_d bg_z
  have R : Below w15.heap.size w15 w16 := Below.trans (by (repeat (first | assumption | exact Below.refl _ _ | refine Below.alloc ?_ (by first | omega | (simp; done) | (simp; omega)) _ | refine Below.setCell ?_ (by first | omega | (simp; done) | (simp; omega)) _ | refine below_drewN ?_ _))) (hb16.mono (by first | exact Nat.le_refl _ | (simp; done) | (simp; omega)))
  have s16 : w15.heap.size ≤ w16.heap.size := R.size
  have K16 : Hid (Below w.heap.size w w16) := K15.out.trans (R.mono (by omega))
  replace b0 : Hid (Bx w16 w.heap.size (.int .i64 m0) (.slice A0 xs0.length c0)) := b0.out.keep R
  replace bw : Hid (Bx w16 w4.heap.size (.int .i64 rm) (.slice A_ow rl.length c_ow)) := bw.out.keep R
  replace bx0 : Hid (Bx w16 w5.heap.size (.int .i64 m0) (.slice A_x0 xs0.length c_x0)) := bx0.out.keep R
  replace bg : Hid (Bx w16 w6.heap.size (.int .i64 rm) (.slice A_og rl.length c_og)) := bg.out.keep R
  replace ow : Hid (OwnI w16 w3.heap.size (.slice A_ow rl.length c_ow) rl) := ow.out.keep R (Nat.le_refl _)
  replace x0 : Hid (OwnI w16 (w4.heap.size + 1) (.slice A_x0 xs0.length c_x0) (marks (1) xs0.length)) := x0.out.keep R (Nat.le_refl _)
  replace og : Hid (OwnI w16 (w5.heap.size + 1) (.slice A_og rl.length c_og) (marks (1) rl.length)) := og.out.keep R (Nat.le_refl _)
  replace y0 : Hid (OwnI w16 w13.heap.size (.slice A_y0 xs0.length c_y0) xs0) := y0.out.keep R (Nat.le_refl _)
  replace oh : Hid (OwnI w16 w14.heap.size (.slice A_oh rl.length c_oh) rl) := oh.out.keep R (Nat.le_refl _)
  have bh : Hid (Bx w16 w15.heap.size (.int .i64 rm) (.slice A_oh rl.length c_oh)) := ⟨by have := hb16.size; simp at this; omega, by rw [hb16.cell (by first | (simp; done) | (simp; omega))]; simp, by rw [hb16.cell (by first | (simp; done) | (simp; omega))]; simp⟩
  clear R hb16
  have b0_c := b0.out.2.1
  have b0_d := b0.out.2.2
  have b0_z := b0.out.1
  have bw_c := bw.out.2.1
  have bw_d := bw.out.2.2
  have bw_z := bw.out.1
  have bx0_c := bx0.out.2.1
  have bx0_d := bx0.out.2.2
  have bx0_z := bx0.out.1
  have bg_c := bg.out.2.1
  have bg_d := bg.out.2.2
  have bg_z := bg.out.1
  have bh_c := bh.out.2.1
  have bh_d := bh.out.2.2
  have bh_z := bh.out.1
  go_wp2_with fail
  refine (heldS_any _ (w5.heap.size + 1) rm _ rl.length (1) (og.out.keep (by (repeat (first | assumption | exact Below.refl _ _ | refine Below.alloc ?_ (by first | omega | (simp; done) | (simp; omega)) _ | refine Below.setCell ?_ (by first | omega | (simp; done) | (simp; omega)) _ | refine below_drewN ?_ _))) (Nat.le_refl _)) (by omega) (by omega) (by omega)).mono ?_
  rintro e w17 ⟨rfl, hb17⟩
  clear b0_c b0_d b0_z
  clear bw_c bw_d bw_z
  clear bx0_c bx0_d bx0_z
  clear bg_c bg_d bg_z
  clear bh_c bh_d bh_z
  have R : Below w16.heap.size w16 w17 := Below.trans (by (repeat (first | assumption | exact Below.refl _ _ | refine Below.alloc ?_ (by first | omega | (simp; done) | (simp; omega)) _ | refine Below.setCell ?_ (by first | omega | (simp; done) | (simp; omega)) _ | refine below_drewN ?_ _))) (hb17.mono (by first | exact Nat.le_refl _ | (simp; done) | (simp; omega)))
  have s17 : w16.heap.size ≤ w17.heap.size := R.size
  have K17 : Hid (Below w.heap.size w w17) := K16.out.trans (R.mono (by omega))
  replace b0 : Hid (Bx w17 w.heap.size (.int .i64 m0) (.slice A0 xs0.length c0)) := b0.out.keep R
  replace bw : Hid (Bx w17 w4.heap.size (.int .i64 rm) (.slice A_ow rl.length c_ow)) := bw.out.keep R
  replace bx0 : Hid (Bx w17 w5.heap.size (.int .i64 m0) (.slice A_x0 xs0.length c_x0)) := bx0.out.keep R
  replace bg : Hid (Bx w17 w6.heap.size (.int .i64 rm) (.slice A_og rl.length c_og)) := bg.out.keep R
  replace bh : Hid (Bx w17 w15.heap.size (.int .i64 rm) (.slice A_oh rl.length c_oh)) := bh.out.keep R
  replace ow : Hid (OwnI w17 w3.heap.size (.slice A_ow rl.length c_ow) rl) := ow.out.keep R (Nat.le_refl _)
  replace x0 : Hid (OwnI w17 (w4.heap.size + 1) (.slice A_x0 xs0.length c_x0) (marks (1) xs0.length)) := x0.out.keep R (Nat.le_refl _)
  replace og : Hid (OwnI w17 (w5.heap.size + 1) (.slice A_og rl.length c_og) (marks (1) rl.length)) := og.out.keep R (Nat.le_refl _)
  replace y0 : Hid (OwnI w17 w13.heap.size (.slice A_y0 xs0.length c_y0) xs0) := y0.out.keep R (Nat.le_refl _)
  replace oh : Hid (OwnI w17 w14.heap.size (.slice A_oh rl.length c_oh) rl) := oh.out.keep R (Nat.le_refl _)
  clear R hb17
  have b0_c := b0.out.2.1
  have b0_d := b0.out.2.2
  have b0_z := b0.out.1
  have bw_c := bw.out.2.1
  have bw_d := bw.out.2.2
  have bw_z := bw.out.1
  have bx0_c := bx0.out.2.1
  have bx0_d := bx0.out.2.2
  have bx0_z := bx0.out.1
  have bg_c := bg.out.2.1
  have bg_d := bg.out.2.2
  have bg_z := bg.out.1
  have bh_c := bh.out.2.1
  have bh_d := bh.out.2.2
  have bh_z := bh.out.1
  go_wp2
  go_ret
  exact ⟨rfl, K17.out⟩


end Go.Proofs.Ytfdklbimdkaaiaa
