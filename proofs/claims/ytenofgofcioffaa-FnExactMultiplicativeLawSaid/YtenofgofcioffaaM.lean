/- Contracts over this seat's translation. Condition: each contract's own. -/
import Derived.Test.YtenofgofcioffaaL
import Derived.ProofKit
import Derived.OpenShut
import Derived.Below
import Derived.ChangeSame
import Derived.Deep.Modes
import Derived.Lib.SmallJoins
import Derived.ChangeSlices
import Derived.WalkKit
import Derived.WalkSpells
import Derived.WalkLawsBesides
import Derived.Deep.QuietTactic
import Derived.BigQuiet
import Derived.Deep.RegionHeld3
import Derived.Deep.RegionWith
import Derived.Deep.RegionLaw
import Derived.Deep.AppendLies
import Derived.Laws.CopyOwn
import Derived.Deep.DeepCutAuto
import Derived.Deep.OwnRows
import Derived.Deep.LoopGhost
import Derived.Deep.DeepFit
import Derived.Deep.DeepMust
import Derived.Deep.Draws
import Derived.Deep.CutRange
import Derived.Maps.AppendAt
import Derived.Lib.Hide
import Derived.StillTailTactics
import Derived.Laws.MakeOwn
import Derived.Deep.Matrix
set_option linter.unusedVariables false
open Go Go.RowKit
namespace Go.Proofs.Ytenofgofcioffaa
/-! ### Standard laws: conditions, variables, sums -/
def stdB (m d : Int) (xs : List Int) : Bool := isModB m && inB d 1 10 && numsB m xs
def stdN (m d : Int) (xs : List Int) : Int := if stdB m d xs = true then 0 else 2
theorem standard1_pred (w : World) (b : Nat) (m : Int) (hm : isModB m = true) (hb : w.cell? ⟨b, 0, none⟩ = some (.int .i64 m)) (hb' : b < w.heap.size) : Pred w 105 #[.pointer (some ⟨b, 0, none⟩)] (fun a => isNumB a m) := by
  refine ⟨Try.call105, fun W x hW => ?_⟩
  have hc := (hW.cell (p := ⟨b, 0, none⟩) hb').trans hb
  have HM := Lib.hid hm
  clear hW hb hm
  go_enter Try.func105, Try.ntmps105
  go_wp2_with (go_at_call 57; refine (isNumber_any _ _ _ HM.out).mono ?_; rintro e w' ⟨rfl, k', rfl⟩)
  go_ret
  exact ⟨rfl, _, rfl⟩
theorem standard_any (m d : Int) (w : World) (v : Value) (xs : List Int) (B : Nat) (hv : OwnI w B v xs) :
    Calls Try.prog 71 #[.int .i64 m, .int .i64 d, v] w fun e w' => e = .returned (.int .i64 (stdN m d xs)) ∧ Below w.heap.size w w' := by
  cases hm : isModB m
  · have HF : Hid (stdN m d xs = 2) := by simp [Hid, stdN, stdB, hm]
    have HM := Lib.hid hm
    clear hm
    go_enter Try.func71, Try.ntmps71
    go_wp2_with (go_at_call 52; refine (iIsModulus_any _ _).mono ?_; rintro e w' ⟨rfl, k', rfl⟩; rw [HM.out])
    go_ret
    exact ⟨by rw [HF.out]; rfl, by (repeat (first | assumption | exact Below.refl _ _ | refine Below.alloc ?_ (by first | omega | (simp; done) | (simp; omega)) _ | refine Below.setCell ?_ (by first | omega | (simp; done) | (simp; omega)) _ | refine below_drewN ?_ _))⟩
  · have HM := Lib.hid hm
    cases hd : inB d 1 10
    · have HF : Hid (stdN m d xs = 2) := by simp [Hid, stdN, stdB, hd]
      have HD := Lib.hid hd
      clear hm hd
      go_enter Try.func71, Try.ntmps71
      go_wp2_with (first | (go_at_call 52; refine (iIsModulus_any _ _).mono ?_; rintro e w' ⟨rfl, k', rfl⟩; rw [HM.out]) | (go_at_call 53; refine (in_any _ _ _ _).mono ?_; rintro e w' ⟨rfl, k'', rfl⟩; rw [HD.out]))
      go_ret
      exact ⟨by rw [HF.out]; rfl, by (repeat (first | assumption | exact Below.refl _ _ | refine Below.alloc ?_ (by first | omega | (simp; done) | (simp; omega)) _ | refine Below.setCell ?_ (by first | omega | (simp; done) | (simp; omega)) _ | refine below_drewN ?_ _))⟩
    · have HD := Lib.hid hd
      have HN : Hid (stdN m d xs = if numsB m xs = true then 0 else 2) := by simp [Hid, stdN, stdB, hm, hd]
      have HA : Hid (numsB m xs = xs.all fun a => isNumB a m) := rfl
      clear hm hd
      cases hn : numsB m xs
      all_goals
        rw [hn] at HN HA
        clear hn
        go_enter Try.func71, Try.ntmps71
        go_wp2_with (first | (go_at_call 52; refine (iIsModulus_any _ _).mono ?_; rintro e w' ⟨rfl, k', rfl⟩; rw [HM.out]) | (go_at_call 53; refine (in_any _ _ _ _).mono ?_; rintro e w' ⟨rfl, k'', rfl⟩; rw [HD.out]))
        refine (all_any _ v xs B (OwnI.drewN (hv.alloc _) _) _ _ _ (standard1_pred _ w.heap.size m HM.out (by simp) (by simp))).mono ?_
        rintro e w' ⟨rfl, hb⟩
        rw [← HA.out]
        go_wp2
        go_ret
        exact ⟨by rw [HN.out]; rfl, ((Below.refl _ _).alloc (Nat.le_refl _) _).trans ((below_drewN (Below.refl _ _) _).trans (hb.mono (by simp)))⟩
theorem l08Kind_any (m d : Int) (w : World) (v : Value) (xs : List Int) (B : Nat) (hv : OwnI w B v xs) :
    Calls Try.prog 69 #[.int .i64 m, .int .i64 d, v] w fun e w' => e = .returned (.bool (stdB m d xs)) ∧ Below w.heap.size w w' := by
  obtain ⟨A, c, rfl, hc1, hc2, hA⟩ := hv.open_
  clear hv
  unfold maxLen at hc2
  cases hm : isModB m
  · have HF : Hid (stdB m d xs = false) := by simp [Hid, stdB, hm]
    have HM : Hid (inB m 2 10000 = false) := hm
    clear hm hA
    go_enter Try.func69, Try.ntmps69
    go_wp2_with (go_at_call 60; refine (l01In_any _ _ _ _).mono ?_; rintro e w' ⟨rfl, k', rfl⟩; rw [HM.out])
    go_ret
    exact ⟨by rw [HF.out]; rfl, by (repeat (first | assumption | exact Below.refl _ _ | refine Below.alloc ?_ (by first | omega | (simp; done) | (simp; omega)) _ | refine Below.setCell ?_ (by first | omega | (simp; done) | (simp; omega)) _ | refine below_drewN ?_ _))⟩
  · have HM : Hid (inB m 2 10000 = true) := hm
    have hmb := isModB_true hm
    cases hd : inB d 1 10
    · have HF : Hid (stdB m d xs = false) := by simp [Hid, stdB, hd]
      have HD := Lib.hid hd
      clear hm hd hA
      go_enter Try.func69, Try.ntmps69
      go_wp2_with (go_at_call 60; refine (l01In_any _ _ _ _).mono ?_; rintro e w' ⟨rfl, k', rfl⟩; first | rw [HM.out] | rw [HD.out])
      go_ret
      exact ⟨by rw [HF.out]; rfl, by (repeat (first | assumption | exact Below.refl _ _ | refine Below.alloc ?_ (by first | omega | (simp; done) | (simp; omega)) _ | refine Below.setCell ?_ (by first | omega | (simp; done) | (simp; omega)) _ | refine below_drewN ?_ _))⟩
    · have HD := Lib.hid hd
      have HN : Hid (stdB m d xs = numsB m xs) := by simp [Hid, stdB, hm, hd]
      clear hm hd
      go_enter Try.func69, Try.ntmps69
      go_wp2_with (go_at_call 60; refine (l01In_any _ _ _ _).mono ?_; rintro e w' ⟨rfl, k', rfl⟩; first | rw [HM.out] | rw [HD.out])
      go_loopw [7] (fun i wr => ∃ k : Nat, k ≤ xs.length ∧ i = .int .i64 k ∧ Hid (numsB m (xs.take k) = true) ∧ ∃ n, wr = w.drewN n) (fun i _ => xs.length - (intOf i).toNat)
      case atStart => exact ⟨0, Nat.zero_le _, rfl, rfl, _, rfl⟩
      case round =>
        obtain ⟨k, hk, rfl, hn, n, rfl⟩ := hrel
        by_cases hlt : k < xs.length
        · obtain ⟨g, rfl, hg1, hg2, hcell, hfr⟩ := hA k hlt
          clear hA
          obtain ⟨x, hx⟩ : ∃ x, x = xs.getD k 0 := ⟨_, rfl⟩
          rw [← hx] at hcell
          have HX := Lib.hid hx
          clear hx
          cases hin : inB x 0 (m - 1)
          · have HF : Hid (numsB m xs = false) := all_false_of_take (fun a => isNumB a m) xs k hlt (by rw [← HX.out]; exact hin)
            have HI := Lib.hid hin
            clear hin
            go_wp2_with (go_at_call 60; refine (l01In_any _ _ _ _).mono ?_; rintro e w' ⟨rfl, k', rfl⟩; rw [HI.out])
            go_ret
            exact ⟨by rw [HN.out, HF.out]; rfl, by (repeat (first | assumption | exact Below.refl _ _ | refine Below.alloc ?_ (by first | omega | (simp; done) | (simp; omega)) _ | refine Below.setCell ?_ (by first | omega | (simp; done) | (simp; omega)) _ | refine below_drewN ?_ _))⟩
          · have HF : Hid (numsB m (xs.take (k + 1)) = true) := by
              have e := all_take_succ (fun a => isNumB a m) xs k hlt
              rw [← HX.out] at e
              unfold Hid numsB
              rw [e, Bool.and_eq_true]
              exact ⟨hn.out, hin⟩
            have HI := Lib.hid hin
            clear hin
            go_wp2_with (go_at_call 60; refine (l01In_any _ _ _ _).mono ?_; rintro e w' ⟨rfl, k', rfl⟩; rw [HI.out])
            go_roundw
            case rel => exact ⟨k + 1, by omega, by go_num, HF.out, _, rfl⟩
            case measure => simp [intOf]; omega
        · have HF : Hid (numsB m xs = true) := by
            have := hn.out
            rwa [List.take_of_length_le (by omega)] at this
          go_wp2
          go_ret
          exact ⟨by rw [HN.out, HF.out]; rfl, by (repeat (first | assumption | exact Below.refl _ _ | refine Below.alloc ?_ (by first | omega | (simp; done) | (simp; omega)) _ | refine Below.setCell ?_ (by first | omega | (simp; done) | (simp; omega)) _ | refine below_drewN ?_ _))⟩
def TwoPl (w : World) (m : Int) (n : Nat) (xs ys : List (List Int)) (e : Ending) (w' : World) : Prop :=
  ∃ A c A' c', e = .returned (.tuple #[.agg #[.int .i64 m, .slice A n c], .agg #[.int .i64 m, .slice A' n c']]) ∧ OwnP w' w.heap.size w'.heap.size (.slice A n c) xs ∧ OwnP w' w.heap.size w'.heap.size (.slice A' n c') ys ∧ Below w.heap.size w w'
theorem OwnP.top {w : World} {lo hi B : Nat} {v : Value} {xss : List (List Int)} (h : OwnP w lo hi v xss) (hB : B ≤ lo) : OwnP w B w.heap.size v xss := h.hi_le.mono hB (Nat.le_refl _)
set_option maxRecDepth 8000 in
set_option maxHeartbeats 2000000 in
theorem variables_any (w : World) (m d : Int) (n : Nat) (hd : d + 1 = (n : Int)) (hn2 : 2 ≤ n) (hn : n ≤ 1000) (xs ys : List (List Int)) (hx : tab n (axF (varL n) 0) = xs) (hy : tab n (axF (varL n) 1) = ys) : Calls Try.prog 72 #[.int .i64 m, .int .i64 d] w (TwoPl w m n xs ys) := by
  have hd2 : d = (n : Int) - 1 := by omega
  subst hd2
  have HX := Lib.hid hx
  have HY := Lib.hid hy
  have HXL : Hid (xs.length = n) := by unfold Hid; rw [← hx, length_tab]
  have HYL : Hid (ys.length = n) := by unfold Hid; rw [← hy, length_tab]
  have HVL : Hid ((varL n).length = n) := length_varL n
  clear hd hx hy
  go_enter Try.func72, Try.ntmps72
  go_wp2_with (go_at_call 65; refine (variable_any _ m _ n (by omega) (by omega) (by omega)).mono ?_; rintro e w4 ⟨A4, c4, rfl, o4, hb4⟩; rw [HVL.out] at o4 ⊢; obtain ⟨P4, Q4, K4⟩ := Bf.first2 hb4; have p4a := P4.1.2.1; have p4b := P4.1.2.2; have p4c := P4.2.1; have p4d := P4.2.2; have q4a := Q4.1.2.1; have q4b := Q4.1.2.2; have q4c := Q4.2.1; have q4d := Q4.2.2; have y4 := Q4.1.1; have O4 := Lib.hid o4; clear o4)
  obtain ⟨W, hW⟩ : ∃ W, W = w4.alloc (.cells #[.int .i64 m, .slice A4 n c4] 42) := ⟨_, rfl⟩
  rw [← hW]
  have PW : Bf W w.heap.size (.int .i64 0) (.slice none 0 0) := by rw [hW]; exact P4.alloc _
  have QW : Bf W (w.heap.size + 1) (.int .i64 0) (.slice none 0 0) := by rw [hW]; exact Q4.alloc _
  have SW : Bf W w4.heap.size (.int .i64 m) (.slice A4 n c4) := by rw [hW]; exact Bf.alloc1 w4 _ _ _
  have KW : Below w.heap.size w W := by rw [hW]; exact K4.alloc (by omega) _
  have OW : Hid (OwnI W (w.heap.size + 2) (.slice A4 n c4) (varL n)) := by unfold Hid; rw [hW]; exact (O4.out.alloc _).mono (by simp)
  have pW := SW.1.2.1
  have qW := SW.1.2.2
  have zW := SW.1.1
  have sb : w.heap.size + 1 < w4.heap.size := y4
  obtain ⟨bs, hbs⟩ : ∃ bs, bs = w4.heap.size := ⟨_, rfl⟩
  rw [← hbs] at SW pW qW zW sb ⊢
  clear P4 Q4 K4 p4a p4b p4c p4d q4a q4b q4c q4d y4 O4 hb4 hW hbs
  go_region_held3 (fun w' => w'.cell? ⟨bs, 0, none⟩ = some (.int .i64 m) ∧ w'.cell? ⟨bs, 1, none⟩ = some (.slice A4 n c4))
    (first | exact ⟨pW, qW⟩ | exact ⟨p5a, p5b⟩ | exact ⟨p6a, p6b⟩ | exact ⟨cell_store2 p6a (by omega), cell_store2 p6b (by omega)⟩ | exact ⟨cell_store2 (cell_store2 p6a (by omega)) (by omega), cell_store2 (cell_store2 p6b (by omega)) (by omega)⟩ | go_keep)
    (first | (go_at_call 64; have _h := H5; refine (onAxis_any _ m _ (varL n) _ n _ _ OW5.out HVL.out (by omega) (by omega) rfl).mono ?_; rintro e w6 ⟨A6, c6, rfl, o6, hb6⟩; rw [length_tab] at o6 ⊢; have S6 := S5.keep hb6; have p6a := S6.1.2.1; have p6b := S6.1.2.2; have P6 := P5.keep hb6; have Q6 := Q5.keep hb6; have p6c := P6.1.2.1; have p6d := P6.1.2.2; have p6e := P6.2.1; have p6f := P6.2.2; have q6a := Q6.1.2.1; have q6b := Q6.1.2.2; have q6c := Q6.2.1; have q6d := Q6.2.2; have z6 := hb6.size; have O6 := Lib.hid o6; clear o6) | (go_at_call 64; refine (onAxis_any _ m _ (varL n) _ n _ _ (OW.out.drewN 1) HVL.out (by omega) (by omega) rfl).mono ?_; rintro e w5 ⟨A5, c5, rfl, o5, hb5⟩; rw [length_tab] at o5 ⊢; have H5 : Below W.heap.size W w5 := below_undrew hb5; have S5 := SW.keep H5; have p5a := S5.1.2.1; have p5b := S5.1.2.2; have P5 := PW.keep H5; have Q5 := QW.keep H5; have z5 := H5.size; have OW5 := Lib.hid (OW.out.keep H5 (Nat.le_refl _)); have O5 := Lib.hid o5; clear o5))
  all_goals go_wp2
  all_goals first
    | exact bodyPost_ret (v := .tuple #[.agg #[.int .i64 m, .slice A5 n c5], .agg #[.int .i64 m, .slice A6 n c6]]) (by simp [results, Try.results72, go_sem, p6c, p6d, q6a, q6b]) rfl ⟨A5, c5, A6, c6, rfl, by rw [← HX.out]; exact (((O5.out.keep hb6).far2 (.inl (by show _ < W.heap.size; omega))).far2 (.inl (by show _ < W.heap.size; omega))).top (by show w.heap.size ≤ W.heap.size; omega), by rw [← HY.out]; exact ((O6.out.far2 (.inl (by omega))).far2 (.inl (by omega))).top (by omega), (((((KW.trans (H5.mono (by omega))).trans (hb6.mono (by omega))).setCell (by simp) _).setCell (by simp) _).setCell (by simp) _).setCell (by simp) _⟩
    | exact bodyPost_ret (v := .tuple #[.agg #[.int .i64 m, .slice A6 n c6], .agg #[.int .i64 m, .slice A5 n c5]]) (by simp [results, Try.results72, go_sem, p6c, p6d, q6a, q6b]) rfl ⟨A6, c6, A5, c5, rfl, by rw [← HX.out]; exact ((O6.out.far2 (.inl (by omega))).far2 (.inl (by omega))).top (by omega), by rw [← HY.out]; exact (((O5.out.keep hb6).far2 (.inl (by show _ < W.heap.size; omega))).far2 (.inl (by show _ < W.heap.size; omega))).top (by show w.heap.size ≤ W.heap.size; omega), (((((KW.trans (H5.mono (by omega))).trans (hb6.mono (by omega))).setCell (by simp) _).setCell (by simp) _).setCell (by simp) _).setCell (by simp) _⟩

/-! ### Sums of planes -/
theorem plus1_pred (w : World) (b b2 : Nat) (m : Int) (A A2 : Option Addr) (n c c2 lo hi lo2 hi2 : Nat) (xss yss : List (List Int)) (hb : w.cell? ⟨b, 1, none⟩ = some (.slice A n c)) (hb' : b < w.heap.size) (hb2 : w.cell? ⟨b2, 1, none⟩ = some (.slice A2 n c2)) (hb2' : b2 < w.heap.size)
    (hv : OwnP w lo hi (.slice A n c) xss) (ht : Tri n xss) (hq : Num2 m xss) (hv2 : OwnP w lo2 hi2 (.slice A2 n c2) yss) (ht2 : Tri n yss) (hq2 : Num2 m yss) (hm : m ≤ 3000000000) :
    Pred2 w 106 #[.pointer (some ⟨b, 0, none⟩), .pointer (some ⟨b2, 0, none⟩)] n (fun i j => co2 xss i j + co2 yss i j) := by
  refine ⟨Try.call106, fun W i j hW hij => ?_⟩
  have hc := (hW.cell (p := ⟨b, 1, none⟩) hb').trans hb
  have hc2 := (hW.cell (p := ⟨b2, 1, none⟩) hb2').trans hb2
  obtain ⟨g, gr, cr, rfl, h1, h2, h3, h4, -⟩ := hv.at2 (i := i) (j := j) (by rw [ht.1]; omega) (by rw [ht.2 i (by omega)]; omega)
  obtain ⟨g2, gr2, cr2, rfl, k1, k2, k3, k4, -⟩ := hv2.at2 (i := i) (j := j) (by rw [ht2.1]; omega) (by rw [ht2.2 i (by omega)]; omega)
  have h2' := (hW.cell (p := ⟨g, i, none⟩) h1).trans h2
  have h4' := (hW.cell (p := ⟨gr, j, none⟩) h3).trans h4
  have k2' := (hW.cell (p := ⟨g2, i, none⟩) k1).trans k2
  have k4' := (hW.cell (p := ⟨gr2, j, none⟩) k3).trans k4
  rw [ht.2 i (by omega)] at h2'
  rw [ht2.2 i (by omega)] at k2'
  obtain ⟨r, hr⟩ : ∃ r, r = n - i := ⟨_, rfl⟩
  rw [← hr] at h2' k2'
  have hx0 := hq i j
  have hy0 := hq2 i j
  obtain ⟨x, hx⟩ : ∃ x, x = co2 xss i j := ⟨_, rfl⟩
  obtain ⟨y, hy⟩ : ∃ y, y = co2 yss i j := ⟨_, rfl⟩
  rw [← hx] at h4' hx0
  rw [← hy] at k4' hy0
  have HX : Hid (co2 xss i j + co2 yss i j = x + y) := by rw [hx, hy]; exact rfl
  have hj0 : (0 : Int) ≤ (j : Int) := by omega
  have hj1 : (j : Int) < (r : Int) := by omega
  have hi0 : (0 : Int) ≤ (i : Int) := by omega
  have hi1 : (i : Int) < (n : Int) := by omega
  have hi2 : i < n := by omega
  have hj2 : j < r := by omega
  have v1 : IntKind.i64.wrap (x + y) = x + y := IntWalk.i64_in _ (by omega)
  clear hW hb hb2 h2 h4 k2 k4 hr hv ht hv2 ht2 hx hy hq hq2
  go_enter Try.func106, Try.ntmps106
  go_wp2
  go_quiet (fail)
  go_wp2
  go_ret
  exact ⟨by show _ = Ending.returned (.int .i64 (co2 xss i j + co2 yss i j)); rw [HX.out]; rfl, nq, rfl⟩
set_option maxHeartbeats 1000000 in
theorem pPlus_any (w : World) (m : Int) (v v2 : Value) (xss yss zss : List (List Int)) (n : Nat) (lo hi lo2 hi2 : Nat) (hv : OwnP w lo hi v xss) (ht : Tri n xss) (hq : Num2 m xss) (hv2 : OwnP w lo2 hi2 v2 yss) (ht2 : Tri n yss) (hq2 : Num2 m yss) (hm : 2 ≤ m) (hm' : m ≤ 3000000000) (hn1 : 1 ≤ n) (hn : n ≤ 1000) (hz : (tab n fun i j => (co2 xss i j + co2 yss i j) % m) = zss) :
    Calls Try.prog 73 #[.agg #[.int .i64 m, v], .agg #[.int .i64 m, v2]] w (NewPl w m zss) := by
  obtain ⟨A, cp, rfl, -, -⟩ := hv.form
  obtain ⟨A2, cp2, rfl, -, -⟩ := hv2.form
  rw [ht.1] at hv
  rw [ht2.1] at hv2
  have HXL : Hid (xss.length = n) := ht.1
  have HYL : Hid (yss.length = n) := ht2.1
  have HZ := Lib.hid hz
  have HT := Lib.hid ht
  have HT2 := Lib.hid ht2
  have HQ := Lib.hid hq
  have HQ2 := Lib.hid hq2
  have HV : Hid (OwnP (((w.alloc (.cells #[.int .i64 m, .slice A n cp] 27)).alloc (.cells #[.int .i64 m, .slice A2 n cp2] 27)).alloc (.cells #[.int .i64 0, .slice none 0 0] 27)) lo hi (.slice A n cp) xss) := ((hv.alloc _).alloc _).alloc _
  have HV2 : Hid (OwnP (((w.alloc (.cells #[.int .i64 m, .slice A n cp] 27)).alloc (.cells #[.int .i64 m, .slice A2 n cp2] 27)).alloc (.cells #[.int .i64 0, .slice none 0 0] 27)) lo2 hi2 (.slice A2 n cp2) yss) := ((hv2.alloc _).alloc _).alloc _
  have HZL : Hid (zss.length = n) := by unfold Hid; rw [← hz, length_tab]
  clear hz ht ht2 hq hq2 hv hv2
  go_enter Try.func73, Try.ntmps73
  rw [HXL.out, HYL.out]
  go_wp2_with fail
  have B1 : Bf (((w.alloc (.cells #[.int .i64 m, .slice A n cp] 27)).alloc (.cells #[.int .i64 m, .slice A2 n cp2] 27)).alloc (.cells #[.int .i64 0, .slice none 0 0] 27)) w.heap.size (.int .i64 m) (.slice A n cp) := ((Bf.alloc1 w _ _ _).alloc _).alloc _
  have B2 : Bf (((w.alloc (.cells #[.int .i64 m, .slice A n cp] 27)).alloc (.cells #[.int .i64 m, .slice A2 n cp2] 27)).alloc (.cells #[.int .i64 0, .slice none 0 0] 27)) (w.heap.size + 1) (.int .i64 m) (.slice A2 n cp2) := Bf.q2.alloc _
  refine (mapped_any _ m _ xss n lo hi HV.out HXL.out hm (by omega) hn1 hn _ _ _ (plus1_pred _ w.heap.size (w.heap.size + 1) m A A2 n cp cp2 lo hi lo2 hi2 xss yss B1.1.2.2 B1.1.1 B2.1.2.2 B2.1.1 HV.out HT.out HQ.out HV2.out HT2.out HQ2.out hm') zss HZ.out).mono ?_
  rintro e w1 ⟨A1, c1, rfl, o1, hb1⟩
  rw [HZL.out] at o1 ⊢
  have Q1 : Bf w1 (w.heap.size + 2) (.int .i64 0) (.slice none 0 0) := Bf.q3.keep hb1
  have K1 : Below w.heap.size w w1 := Below.trans (by (repeat (first | assumption | exact Below.refl _ _ | refine Below.alloc ?_ (by first | omega | (simp; done) | (simp; omega)) _ | refine Below.setCell ?_ (by first | omega | (simp; done) | (simp; omega)) _ | refine below_drewN ?_ _))) (hb1.mono (by simp; omega))
  have q1a := Q1.1.2.1
  have q1b := Q1.1.2.2
  have q1c := Q1.2.1
  have q1d := Q1.2.2
  go_wp2
  refine bodyPost_ret (v := .agg #[.int .i64 m, .slice A1 n c1]) (by simp [results, Try.results73, go_sem, q1a, q1b]) rfl ⟨A1, c1, by rw [HZL.out], ?_, ?_⟩
  · rw [HZL.out]
    have h9 := OwnP.mono (lo' := w.heap.size) (o1.far2 (b := w.heap.size + 2) (x := .int .i64 m) (y := .slice A1 n c1) (.inl (by first | (simp; done) | (simp; omega)))) (by first | (simp; done) | (simp; omega)) (Nat.le_refl _)
    simpa [World.setCell] using h9
  · exact (K1.setCell (by simp; omega) _).setCell (by simp; omega) _
/-! ### AdditiveLaw -/
def AdditiveLawR (m d : Int) : (Int × List (List Int)) × Int := if stdB m d [] = false then ((0, []), 2) else ((m, tab (d + 1).toNat fun i j => if (i = 1 ∧ j = 0) ∨ (i = 0 ∧ j = 1) then 1 else 0), 0)
theorem stdB_true {m d : Int} {xs : List Int} (h : stdB m d xs = true) : (2 ≤ m ∧ m ≤ 10000) ∧ (1 ≤ d ∧ d ≤ 10) ∧ numsB m xs = true := by
  simp only [stdB, Bool.and_eq_true] at h
  exact ⟨isModB_true h.1.1, inB_true.1 h.1.2, h.2⟩
theorem AdditiveLawR_len (m d : Int) : cntP (AdditiveLawR m d).1.2 ≤ 200 := by
  unfold AdditiveLawR
  cases h : stdB m d []
  · simp [cntP]
  · have := stdB_true h
    exact cntP_tab_100 _ (by omega)
theorem axF_var (n : Nat) (k : Int) (i j : Nat) (h : i + j < n) : axF (varL n) k i j = if k = 0 then (if i = 1 ∧ j = 0 then 1 else 0) else if i = 0 ∧ j = 1 then 1 else 0 := by
  have e : ∀ q, q < n → co (varL n) q = if q = 1 then 1 else 0 := fun q hq => by unfold varL; rw [co_lst' hq]
  simp only [axF]
  by_cases hk : k = 0
  · simp only [hk, if_true]
    rw [e i (by omega)]
    by_cases h1 : j = 0 <;> by_cases h2 : i = 1 <;> simp [h1, h2]
  · simp only [hk, if_false]
    rw [e j (by omega)]
    by_cases h1 : j = 1 <;> by_cases h2 : i = 0 <;> simp [h1, h2]
theorem xy_sum (m : Int) (n : Nat) (hm : 2 ≤ m) : (tab n fun i j => (co2 (tab n (axF (varL n) 0)) i j + co2 (tab n (axF (varL n) 1)) i j) % m) = tab n fun i j => if (i = 1 ∧ j = 0) ∨ (i = 0 ∧ j = 1) then 1 else 0 := tab_congr fun i j hij => by
  rw [co2_tab _ hij, co2_tab _ hij, axF_var n 0 i j hij, axF_var n 1 i j hij]
  have e1 : (1 : Int) % m = 1 := Int.emod_eq_of_lt (by omega) (by omega)
  by_cases h1 : i = 1
  · subst h1
    by_cases h2 : j = 0 <;> simp [h2, e1]
  · by_cases h2 : i = 0
    · subst h2
      by_cases h3 : j = 1 <;> simp [h3, e1]
    · simp [h1, h2]
theorem var_num2 (m : Int) (hm : 2 ≤ m) (n : Nat) (k : Int) : Num2 m (tab n (axF (varL n) k)) := fun i j => by
  rcases Nat.lt_or_ge (i + j) n with h | h
  · rw [co2_tab _ h, axF_var n k i j h]
    by_cases hk : k = 0
    · simp only [hk, if_true]; split <;> omega
    · simp only [hk, if_false]; split <;> omega
  · have : co2 (tab n (axF (varL n) k)) i j = 0 := by
      unfold co2
      rcases Nat.lt_or_ge i n with hi | hi
      · rw [getD_tab _ hi]
        unfold co
        exact getD_lst_ge _ _ _ (by omega)
      · rw [show (tab n (axF (varL n) k)).getD i [] = [] by rw [List.getD_eq_getElem?_getD, List.getElem?_eq_none (by rw [length_tab]; omega)]; rfl]
        rfl
    rw [this]
    omega
set_option maxHeartbeats 1000000 in
theorem iAdditiveLawR_any (w : World) (m d : Int) : Calls Try.prog 27 #[.int .i64 m, .int .i64 d] w (RetPI w (AdditiveLawR m d)) := by
  cases hs : stdB m d []
  · have HF : AdditiveLawR m d = ((0, []), 2) := by simp [AdditiveLawR, hs]
    rw [HF]
    have HS : Hid (stdN m d [] = 2) := by simp [Hid, stdN, hs]
    clear HF hs
    go_enter Try.func27, Try.ntmps27
    go_wp2_with (go_at_call 71; refine (standard_any m d _ (.slice none 0 0) [] 0 (OwnI.nil_ _ _)).mono ?_; rintro e w1 ⟨rfl, hb1⟩; rw [HS.out]; obtain ⟨P1, K1⟩ := Bf.first1 hb1; have p1a := P1.1.2.1; have p1b := P1.1.2.2; have z1 := P1.1.1; have p1c := P1.2.1; have p1d := P1.2.2)
    exact bodyPost_ret (v := .tuple #[.agg #[.int .i64 0, .slice none 0 0], .int .i64 2]) (by simp [results, Try.results27, go_sem, p1a, p1b]) rfl (RetPI.zero ((K1.setCell (by simp) _).setCell (by simp) _))
  · obtain ⟨hm, hdb, -⟩ := stdB_true hs
    obtain ⟨n, hn⟩ : ∃ n : Nat, d + 1 = (n : Int) := ⟨(d + 1).toNat, by omega⟩
    obtain ⟨ys, hy⟩ : ∃ ys, (tab n fun i j => if (i = 1 ∧ j = 0) ∨ (i = 0 ∧ j = 1) then (1 : Int) else 0) = ys := ⟨_, rfl⟩
    have HF : AdditiveLawR m d = ((m, ys), 0) := by simp only [AdditiveLawR, hs, hn, Int.toNat_natCast, hy]; simp
    rw [HF]
    have HYL : Hid (ys.length = n) := by unfold Hid; rw [← hy, length_tab]
    have HY : Hid ((tab n fun i j => (co2 (tab n (axF (varL n) 0)) i j + co2 (tab n (axF (varL n) 1)) i j) % m) = ys) := by unfold Hid; rw [xy_sum m n hm.1]; exact hy
    have HS : Hid (stdN m d [] = 0) := by simp [Hid, stdN, hs]
    have hd1 : d = (n : Int) - 1 := by omega
    subst hd1
    clear HF hs hy hn
    go_enter Try.func27, Try.ntmps27
    go_wp2_with (first | (go_at_call 71; refine (standard_any m _ _ (.slice none 0 0) [] 0 (OwnI.nil_ _ _)).mono ?_; rintro e w1 ⟨rfl, hb1⟩; rw [HS.out]; obtain ⟨P1, K1⟩ := Bf.first1 hb1; have p1a := P1.1.2.1; have p1b := P1.1.2.2; have z1 := P1.1.1) | (go_at_call 72; refine (variables_any _ m _ n (by omega) (by omega) (by omega) _ _ rfl rfl).mono ?_; rintro e w2 ⟨A2, c2, A3, c3, rfl, o2, o3, hb2⟩; have O2 := Lib.hid o2; have O3 := Lib.hid o3; clear o2 o3; have R2 : Below w1.heap.size w1 w2 := (Below.trans (by (repeat (first | assumption | exact Below.refl _ _ | refine Below.alloc ?_ (by first | omega | (simp; done) | (simp; omega)) _ | refine Below.setCell ?_ (by first | omega | (simp; done) | (simp; omega)) _ | refine below_drewN ?_ _))) (hb2.mono (by first | exact Nat.le_refl _ | (simp; done) | (simp; omega)))); have s2 := R2.size; have K2 : Below w.heap.size w w2 := K1.trans (R2.mono K1.size); have P2 := P1.keep R2; have p2a := P2.1.2.1; have p2b := P2.1.2.2; have z2 := P2.1.1))
    refine (pPlus_any _ m _ _ _ _ ys n _ _ _ _ ((O2.out.alloc _).alloc _) (Tri.tab _ _) (var_num2 m hm.1 n 0) ((O3.out.alloc _).alloc _) (Tri.tab _ _) (var_num2 m hm.1 n 1) (by omega) (by omega) (by omega) (by omega) HY.out).mono ?_
    rintro e w4 ⟨A4, c4, rfl, o4, hb4⟩
    rw [HYL.out] at o4 ⊢
    have P4 := ((P2.alloc _).alloc _).keep hb4
    have K4 : Below w.heap.size w w4 := ((K2.alloc (by omega) _).alloc (by simp; omega) _).trans (hb4.mono (by simp; omega))
    have p4a := P4.1.2.1
    have p4b := P4.1.2.2
    have p4c := P4.2.1
    have p4d := P4.2.2
    go_wp2
    exact bodyPost_ret (v := .tuple #[.agg #[.int .i64 m, .slice A4 n c4], .int .i64 0]) (by simp [results, Try.results27, go_sem, p4a, p4b]) rfl (RetPI.mk (o4.far2 (.inl (by simp; omega))) HYL.out (by simp; omega) ((K4.setCell (by simp) _).setCell (by simp) _))
def mulF (m c : Int) (i j : Nat) : Int := if (i = 1 ∧ j = 0) ∨ (i = 0 ∧ j = 1) then 1 else if i = 1 ∧ j = 1 then c % m else 0
theorem mul_upd (m c : Int) (n : Nat) (_hn : 3 ≤ n) (hc : 0 ≤ c ∧ c < m) : tab n (upd2 (upd2 (upd2 (fun _ _ => 0) 1 0 1) 0 1 1) 1 1 c) = tab n (mulF m c) := tab_congr fun i j _ => by
  have e : c % m = c := Int.emod_eq_of_lt hc.1 hc.2
  unfold upd2 mulF
  by_cases h1 : i = 1
  · subst h1
    by_cases h2 : j = 1
    · subst h2; simp [e]
    · by_cases h3 : j = 0 <;> simp [h2, h3]
  · by_cases h4 : i = 0
    · subst h4
      by_cases h2 : j = 1 <;> simp [h2]
    · simp [h1, h4]
theorem mul_upd2 (m c : Int) (n : Nat) (hn : n = 2) : tab n (upd2 (upd2 (fun _ _ => 0) 1 0 1) 0 1 1) = tab n (mulF m c) := tab_congr fun i j hij => by
  unfold upd2 mulF
  by_cases h1 : i = 1
  · subst h1
    have : j = 0 := by omega
    subst this
    simp
  · have h4 : i = 0 := by omega
    subst h4
    by_cases h2 : j = 1 <;> simp [h2]
theorem mul_zero (m : Int) (n : Nat) : tab n (mulF m 0) = tab n fun i j => if (i = 1 ∧ j = 0) ∨ (i = 0 ∧ j = 1) then 1 else 0 := tab_congr fun i j _ => by
  unfold mulF
  simp
/-- A cell of a table, and what a store into it makes. -/
theorem OwnP.put {w : World} {lo hi : Nat} {g n c : Nat} {f : Nat → Nat → Int} (h : OwnP w lo hi (.slice (some ⟨g, 0, none⟩) n c) (tab n f)) {i j : Nat} (hij : i + j < n) :
    ∃ gr cr, w.cell? ⟨g, i, none⟩ = some (.slice (some ⟨gr, 0, none⟩) (n - i) cr) ∧ gr ≠ g ∧ lo ≤ gr ∧ gr < hi ∧ gr < w.heap.size ∧ w.cell? ⟨gr, j, none⟩ = some (.int .i64 (f i j)) ∧ w.frozen? ⟨gr, j, none⟩ = false ∧ ∀ y : Int, OwnP (w.setCell ⟨gr, j, none⟩ (.int .i64 y)) lo hi (.slice (some ⟨g, 0, none⟩) n c) (tab n (upd2 f i j y)) := by
  obtain ⟨Ar, cr, hcell⟩ := h.cell (k := i) (by rw [length_tab]; omega)
  rw [getD_tab _ (by omega), length_lst] at hcell
  obtain ⟨-, _, _, hw⟩ := h.rowW (i := i) (by rw [length_tab]; omega) hcell
  obtain ⟨gr, rfl, h1, h2, h3, h4, h5, h6, h7⟩ := hw j (by omega)
  rw [co2_tab f hij] at h5
  exact ⟨gr, cr, hcell, h1, h2, h3, h4, h5, h6, fun y => by rw [← set_tab' _ _ _ _ _ (by omega)]; exact h7 y⟩
set_option maxHeartbeats 2000000 in
theorem l08Mul_any (w : World) (m d c0 : Int) (n : Nat) (zss : List (List Int)) (hd : d + 1 = (n : Int)) (hn2 : 2 ≤ n) (hn : n ≤ 1000) (hc : 0 ≤ c0 ∧ c0 < m) (hz : tab n (mulF m c0) = zss) : Calls Try.prog 70 #[.int .i64 m, .int .i64 d, .int .i64 c0] w (NewP w zss) := by
  have hd2 : d = (n : Int) - 1 := by omega
  subst hd2
  have HL : Hid (zss.length = n) := by unfold Hid; rw [← hz, length_tab]
  have HZ := Lib.hid hz
  clear hd hz
  have hn0 : (0 : Int) < (n : Int) := by omega
  have hn1 : (1 : Int) < (n : Int) := by omega
  have hn3 : 0 < n := by omega
  have hn4 : 1 < n := by omega
  by_cases h3 : n = 2
  · have HU := Lib.hid ((mul_upd2 m c0 n h3).trans HZ.out)
    have hlt : decide ((1 : Int) < (n : Int) - 1) = false := by simp; omega
    clear h3
    go_enter Try.func70, Try.ntmps70
    go_wp2_with (go_at_call 61; refine (l03Zero_any _ _ n (by omega) (by omega)).mono ?_; rintro e w1 ⟨A1, c1, rfl, o1, hb1⟩; rw [length_tab] at o1 ⊢; obtain ⟨g, _, _, -, e0, hg1, hg2, hg3, -⟩ := o1.row (k := 0) (by rw [length_tab]; omega); rw [length_tab] at e0; simp only [Value.slice.injEq] at e0; obtain ⟨rfl, -, rfl⟩ := e0; obtain ⟨g1, r1, hr1, hg1ne, hg1lo, hg1hi, hg1z, hd1, hf1, hset1⟩ := o1.put (i := 1) (j := 0) (by omega); have O2 := Lib.hid (hset1 1); clear hset1 o1; obtain ⟨g0, r0, hr0, hg0ne, hg0lo, hg0hi, hg0z, hd0, hf0, hset0⟩ := O2.out.put (i := 0) (j := 1) (by omega); have O3 := Lib.hid (hset0 1); clear hset0)
    go_ret
    have o3 := O3.out
    rw [HU.out] at o3
    exact ⟨some ⟨g, 0, none⟩, c1, by rw [HL.out]; rfl, by rw [HL.out]; exact o3.top (Nat.le_refl _), (hb1.setCell (by omega) _).setCell (by omega) _⟩
  · have HU := Lib.hid ((mul_upd m c0 n (by omega) hc).trans HZ.out)
    have hlt : decide ((1 : Int) < (n : Int) - 1) = true := by simp; omega
    have hn5 : (1 : Int) < ((n - 1 : Nat) : Int) := by omega
    have hn6 : 1 < n - 1 := by omega
    clear h3
    go_enter Try.func70, Try.ntmps70
    go_wp2_with (go_at_call 61; refine (l03Zero_any _ _ n (by omega) (by omega)).mono ?_; rintro e w1 ⟨A1, c1, rfl, o1, hb1⟩; rw [length_tab] at o1 ⊢; obtain ⟨g, _, _, -, e0, hg1, hg2, hg3, -⟩ := o1.row (k := 0) (by rw [length_tab]; omega); rw [length_tab] at e0; simp only [Value.slice.injEq] at e0; obtain ⟨rfl, -, rfl⟩ := e0; obtain ⟨g1, r1, hr1, hg1ne, hg1lo, hg1hi, hg1z, hd1, hf1, hset1⟩ := o1.put (i := 1) (j := 0) (by omega); have O2 := Lib.hid (hset1 1); clear hset1 o1; obtain ⟨g0, r0, hr0, hg0ne, hg0lo, hg0hi, hg0z, hd0, hf0, hset0⟩ := O2.out.put (i := 0) (j := 1) (by omega); have O3 := Lib.hid (hset0 1); clear hset0; obtain ⟨g2, r2, hr2, hg2ne, hg2lo, hg2hi, hg2z, hd2, hf2, hset2⟩ := O3.out.put (i := 1) (j := 1) (by omega); have hq := hr2; rw [World.cell?_setCell_other _ _ _ _ (by first | (simp; done) | (simp; omega)), World.cell?_setCell_other _ _ _ _ (by first | (simp; done) | (simp; omega)), hr1] at hq; simp only [Option.some.injEq, Value.slice.injEq, Addr.mk.injEq] at hq; obtain ⟨⟨rfl, -⟩, -, -⟩ := hq; have O4 := Lib.hid (hset2 c0); clear hset2)
    go_ret
    have o4 := O4.out
    rw [HU.out] at o4
    exact ⟨some ⟨g, 0, none⟩, c1, by rw [HL.out]; rfl, by rw [HL.out]; exact o4.top (Nat.le_refl _), ((hb1.setCell (by omega) _).setCell (by omega) _).setCell (by omega) _⟩
set_option maxHeartbeats 1000000 in
theorem sAdditiveLawR_any (w : World) (m d : Int) : Calls Try.prog 26 #[.int .i64 m, .int .i64 d] w (RetPI w (AdditiveLawR m d)) := by
  cases hs : stdB m d []
  · have HF : AdditiveLawR m d = ((0, []), 2) := by simp [AdditiveLawR, hs]
    rw [HF]
    have HS := Lib.hid hs
    clear HF hs
    go_enter Try.func26, Try.ntmps26
    go_wp2_with (go_at_call 69; refine (l08Kind_any m d _ (.slice none 0 0) [] 0 (OwnI.nil_ _ _)).mono ?_; rintro e w1 ⟨rfl, hb1⟩; rw [HS.out]; obtain ⟨P1, K1⟩ := Bf.first1 hb1; have p1a := P1.1.2.1; have p1b := P1.1.2.2; have z1 := P1.1.1; have p1c := P1.2.1; have p1d := P1.2.2)
    exact bodyPost_ret (v := .tuple #[.agg #[.int .i64 0, .slice none 0 0], .int .i64 2]) (by simp [results, Try.results26, go_sem, p1a, p1b]) rfl (RetPI.zero ((K1.setCell (by simp) _).setCell (by simp) _))
  · obtain ⟨hm, hdb, -⟩ := stdB_true hs
    obtain ⟨n, hn⟩ : ∃ n : Nat, d + 1 = (n : Int) := ⟨(d + 1).toNat, by omega⟩
    obtain ⟨ys, hy⟩ : ∃ ys, (tab n fun i j => if (i = 1 ∧ j = 0) ∨ (i = 0 ∧ j = 1) then (1 : Int) else 0) = ys := ⟨_, rfl⟩
    have HF : AdditiveLawR m d = ((m, ys), 0) := by simp only [AdditiveLawR, hs, hn, Int.toNat_natCast, hy]; simp
    rw [HF]
    have HYL : Hid (ys.length = n) := by unfold Hid; rw [← hy, length_tab]
    have HY : Hid (tab n (mulF m 0) = ys) := by unfold Hid; rw [mul_zero]; exact hy
    have HS := Lib.hid hs
    have hd1 : d = (n : Int) - 1 := by omega
    subst hd1
    clear HF hs hy hn
    go_enter Try.func26, Try.ntmps26
    go_wp2_with (first | (go_at_call 69; refine (l08Kind_any m _ _ (.slice none 0 0) [] 0 (OwnI.nil_ _ _)).mono ?_; rintro e w1 ⟨rfl, hb1⟩; rw [HS.out]; obtain ⟨P1, K1⟩ := Bf.first1 hb1; have p1a := P1.1.2.1; have p1b := P1.1.2.2; have z1 := P1.1.1) | (go_at_call 70; refine (l08Mul_any _ m _ 0 n ys (by omega) (by omega) (by omega) (by omega) HY.out).mono ?_; rintro e w2 ⟨A2, c2, rfl, o2, hb2⟩; rw [HYL.out] at o2 ⊢; have O2 := Lib.hid o2; clear o2; have R2 : Below w1.heap.size w1 w2 := (Below.trans (by (repeat (first | assumption | exact Below.refl _ _ | refine Below.alloc ?_ (by first | omega | (simp; done) | (simp; omega)) _ | refine Below.setCell ?_ (by first | omega | (simp; done) | (simp; omega)) _ | refine below_drewN ?_ _))) (hb2.mono (by first | exact Nat.le_refl _ | (simp; done) | (simp; omega)))); have s2 := R2.size; have K2 : Below w.heap.size w w2 := K1.trans (R2.mono K1.size); have P2 := P1.keep R2; have p2a := P2.1.2.1; have p2b := P2.1.2.2; have z2 := P2.1.1) | (go_at_call 62; refine (l03Make_any _ m A2 n c2).mono ?_; rintro e w3 ⟨rfl, hb3⟩; have O3 := Lib.hid (O2.out.keep hb3); have R3 : Below w2.heap.size w2 w3 := (Below.trans (by (repeat (first | assumption | exact Below.refl _ _ | refine Below.alloc ?_ (by first | omega | (simp; done) | (simp; omega)) _ | refine Below.setCell ?_ (by first | omega | (simp; done) | (simp; omega)) _ | refine below_drewN ?_ _))) (hb3.mono (by first | exact Nat.le_refl _ | (simp; done) | (simp; omega)))); have s3 := R3.size; have K3 : Below w.heap.size w w3 := K2.trans (R3.mono K2.size); have P3 := P2.keep R3; have p3a := P3.1.2.1; have p3b := P3.1.2.2; have z3 := P3.1.1; have p3c := P3.2.1; have p3d := P3.2.2))
    exact bodyPost_ret (v := .tuple #[.agg #[.int .i64 m, .slice A2 n c2], .int .i64 0]) (by simp [results, Try.results26, go_sem, p3a, p3b]) rfl (RetPI.mk (O3.out.far2 (.inl (by omega))) HYL.out (by omega) ((K3.setCell (by simp) _).setCell (by simp) _))

/-! ### The laws' walks, printed by genlaw2.py -/
set_option maxHeartbeats 4000000 in
theorem FnExactAdditiveLaw_walk (w : World) (a0 : Int) (a1 : Int) : Calls Try.prog 6 #[.int .i64 a0, .int .i64 a1] w fun e w' => e = .returned (.bool true) ∧ Below w.heap.size w w' := by
  obtain ⟨r0, HR⟩ : ∃ r0, Hid (AdditiveLawR a0 a1 = r0) := ⟨_, rfl⟩
  obtain ⟨⟨rm, rl⟩, rc⟩ := r0
  have hlen := AdditiveLawR_len a0 a1
  rw [HR.out] at hlen
  simp only at hlen
  go_enter Try.func6, Try.ntmps6
  go_wp2_with fail
  refine (sAdditiveLawR_any _ a0 a1).mono ?_
  rintro e w1 h_r
  replace h_r := h_r.of HR
  obtain ⟨A_ow, c_ow, rfl, o_ow, hb1⟩ := h_r
  have o_ow' := (o_ow).mono (show w.heap.size ≤ _ from by first | exact Nat.le_refl _ | (simp; done) | (simp; omega)) (Nat.le_refl _)
  clear o_ow
  have R : Below w.heap.size w w1 := Below.trans (by (repeat (first | assumption | exact Below.refl _ _ | refine Below.alloc ?_ (by first | omega | (simp; done) | (simp; omega)) _ | refine Below.setCell ?_ (by first | omega | (simp; done) | (simp; omega)) _ | refine below_drewN ?_ _))) (hb1.mono (by first | exact Nat.le_refl _ | (simp; done) | (simp; omega)))
  have s1 : w.heap.size ≤ w1.heap.size := R.size
  have K1 : Hid (Below w.heap.size w w1) := R
  clear R hb1
  have ow : Hid (OwnP w1 w.heap.size w1.heap.size (.slice A_ow rl.length c_ow) rl) := o_ow'
  clear o_ow'
  go_wp2_with fail
  refine (iAdditiveLawR_any _ a0 a1).mono ?_
  rintro e w2 h_r
  replace h_r := h_r.of HR
  obtain ⟨A_og, c_og, rfl, o_og, hb2⟩ := h_r
  have o_og' := (o_og).mono (show (w1.heap.size + 1) ≤ _ from by first | exact Nat.le_refl _ | (simp; done) | (simp; omega)) (Nat.le_refl _)
  clear o_og
  have R : Below w1.heap.size w1 w2 := Below.trans (by (repeat (first | assumption | exact Below.refl _ _ | refine Below.alloc ?_ (by first | omega | (simp; done) | (simp; omega)) _ | refine Below.setCell ?_ (by first | omega | (simp; done) | (simp; omega)) _ | refine below_drewN ?_ _))) (hb2.mono (by first | exact Nat.le_refl _ | (simp; done) | (simp; omega)))
  have s2 : w1.heap.size ≤ w2.heap.size := R.size
  have K2 : Hid (Below w.heap.size w w2) := K1.out.trans (R.mono (by omega))
  replace ow : Hid (OwnP w2 w.heap.size w1.heap.size (.slice A_ow rl.length c_ow) rl) := ow.out.keep R
  have bw : Hid (Bx w2 w1.heap.size (.int .i64 rm) (.slice A_ow rl.length c_ow)) := ⟨by have := hb2.size; simp at this; omega, by rw [hb2.cell (by first | (simp; done) | (simp; omega))]; simp, by rw [hb2.cell (by first | (simp; done) | (simp; omega))]; simp⟩
  clear R hb2
  have og : Hid (OwnP w2 (w1.heap.size + 1) w2.heap.size (.slice A_og rl.length c_og) rl) := o_og'
  clear o_og'
  have bw_c := bw.out.2.1
  have bw_d := bw.out.2.2
  have bw_z := bw.out.1
  go_wp2_with fail
  refine (eqP_any _ rm rm _ _ _ _ (og.out.keep (by (repeat (first | assumption | exact Below.refl _ _ | refine Below.alloc ?_ (by first | omega | (simp; done) | (simp; omega)) _ | refine Below.setCell ?_ (by first | omega | (simp; done) | (simp; omega)) _ | refine below_drewN ?_ _)))).rd (ow.out.keep (by (repeat (first | assumption | exact Below.refl _ _ | refine Below.alloc ?_ (by first | omega | (simp; done) | (simp; omega)) _ | refine Below.setCell ?_ (by first | omega | (simp; done) | (simp; omega)) _ | refine below_drewN ?_ _)))).rd).mono ?_
  rintro e w3 ⟨rfl, hb3⟩
  clear bw_c bw_d bw_z
  have R : Below w2.heap.size w2 w3 := Below.trans (by (repeat (first | assumption | exact Below.refl _ _ | refine Below.alloc ?_ (by first | omega | (simp; done) | (simp; omega)) _ | refine Below.setCell ?_ (by first | omega | (simp; done) | (simp; omega)) _ | refine below_drewN ?_ _))) (hb3.mono (by first | exact Nat.le_refl _ | (simp; done) | (simp; omega)))
  have s3 : w2.heap.size ≤ w3.heap.size := R.size
  have K3 : Hid (Below w.heap.size w w3) := K2.out.trans (R.mono (by omega))
  replace bw : Hid (Bx w3 w1.heap.size (.int .i64 rm) (.slice A_ow rl.length c_ow)) := bw.out.keep R
  replace ow : Hid (OwnP w3 w.heap.size w1.heap.size (.slice A_ow rl.length c_ow) rl) := ow.out.keep R
  replace og : Hid (OwnP w3 (w1.heap.size + 1) w2.heap.size (.slice A_og rl.length c_og) rl) := og.out.keep R
  have bg : Hid (Bx w3 w2.heap.size (.int .i64 rm) (.slice A_og rl.length c_og)) := ⟨by have := hb3.size; simp at this; omega, by rw [hb3.cell (by first | (simp; done) | (simp; omega))]; simp, by rw [hb3.cell (by first | (simp; done) | (simp; omega))]; simp⟩
  clear R hb3
  have bw_c := bw.out.2.1
  have bw_d := bw.out.2.2
  have bw_z := bw.out.1
  have bg_c := bg.out.2.1
  have bg_d := bg.out.2.2
  have bg_z := bg.out.1
  go_wp2_with fail
  refine (markPB_any _ (w1.heap.size + 1) w2.heap.size rm _ rl (1) (og.out.keep (by (repeat (first | assumption | exact Below.refl _ _ | refine Below.alloc ?_ (by first | omega | (simp; done) | (simp; omega)) _ | refine Below.setCell ?_ (by first | omega | (simp; done) | (simp; omega)) _ | refine below_drewN ?_ _)))) (by omega) (by omega) (by omega)).mono ?_
  rintro e w4 ⟨rfl, o_m, hg4⟩
  clear bw_c bw_d bw_z
  clear bg_c bg_d bg_z
  have R : Within (w1.heap.size + 1) w2.heap.size w3 w4 := Within.behind (by (repeat (first | assumption | exact Below.refl _ _ | refine Below.alloc ?_ (by first | omega | (simp; done) | (simp; omega)) _ | refine Below.setCell ?_ (by first | omega | (simp; done) | (simp; omega)) _ | refine below_drewN ?_ _))) hg4
  have s4 : w3.heap.size ≤ w4.heap.size := R.2.2.2.1
  have K4 : Hid (Below w.heap.size w w4) := R.below K3.out (by omega) (by omega)
  replace bw : Hid (Bx w4 w1.heap.size (.int .i64 rm) (.slice A_ow rl.length c_ow)) := bw.out.within R (by omega)
  replace bg : Hid (Bx w4 w2.heap.size (.int .i64 rm) (.slice A_og rl.length c_og)) := bg.out.within R (by omega)
  replace ow : Hid (OwnP w4 w.heap.size w1.heap.size (.slice A_ow rl.length c_ow) rl) := ow.out.within R (by omega)
  clear R hg4
  replace og : Hid (OwnP w4 (w1.heap.size + 1) w2.heap.size (.slice A_og rl.length c_og) (mkP (1) rl)) := o_m
  clear o_m
  have bw_c := bw.out.2.1
  have bw_d := bw.out.2.2
  have bw_z := bw.out.1
  have bg_c := bg.out.2.1
  have bg_d := bg.out.2.2
  have bg_z := bg.out.1
  go_wp2_with fail
  refine (heldPB_any _ (w1.heap.size + 1) w2.heap.size rm _ rl (1) (og.out.keep (by (repeat (first | assumption | exact Below.refl _ _ | refine Below.alloc ?_ (by first | omega | (simp; done) | (simp; omega)) _ | refine Below.setCell ?_ (by first | omega | (simp; done) | (simp; omega)) _ | refine below_drewN ?_ _)))) (by omega) (by omega) (by omega)).mono ?_
  rintro e w5 ⟨rfl, hb5⟩
  clear bw_c bw_d bw_z
  clear bg_c bg_d bg_z
  have R : Below w4.heap.size w4 w5 := Below.trans (by (repeat (first | assumption | exact Below.refl _ _ | refine Below.alloc ?_ (by first | omega | (simp; done) | (simp; omega)) _ | refine Below.setCell ?_ (by first | omega | (simp; done) | (simp; omega)) _ | refine below_drewN ?_ _))) (hb5.mono (by first | exact Nat.le_refl _ | (simp; done) | (simp; omega)))
  have s5 : w4.heap.size ≤ w5.heap.size := R.size
  have K5 : Hid (Below w.heap.size w w5) := K4.out.trans (R.mono (by omega))
  replace bw : Hid (Bx w5 w1.heap.size (.int .i64 rm) (.slice A_ow rl.length c_ow)) := bw.out.keep R
  replace bg : Hid (Bx w5 w2.heap.size (.int .i64 rm) (.slice A_og rl.length c_og)) := bg.out.keep R
  replace ow : Hid (OwnP w5 w.heap.size w1.heap.size (.slice A_ow rl.length c_ow) rl) := ow.out.keep R
  replace og : Hid (OwnP w5 (w1.heap.size + 1) w2.heap.size (.slice A_og rl.length c_og) (mkP (1) rl)) := og.out.keep R
  clear R hb5
  have bw_c := bw.out.2.1
  have bw_d := bw.out.2.2
  have bw_z := bw.out.1
  have bg_c := bg.out.2.1
  have bg_d := bg.out.2.2
  have bg_z := bg.out.1
  go_wp2_with fail
  refine (iAdditiveLawR_any _ a0 a1).mono ?_
  rintro e w6 h_r
  replace h_r := h_r.of HR
  obtain ⟨A_oh, c_oh, rfl, o_oh, hb6⟩ := h_r
  have o_oh' := (o_oh).mono (show w5.heap.size ≤ _ from by first | exact Nat.le_refl _ | (simp; done) | (simp; omega)) (Nat.le_refl _)
  clear o_oh
  clear bw_c bw_d bw_z
  clear bg_c bg_d bg_z
  have R : Below w5.heap.size w5 w6 := Below.trans (by (repeat (first | assumption | exact Below.refl _ _ | refine Below.alloc ?_ (by first | omega | (simp; done) | (simp; omega)) _ | refine Below.setCell ?_ (by first | omega | (simp; done) | (simp; omega)) _ | refine below_drewN ?_ _))) (hb6.mono (by first | exact Nat.le_refl _ | (simp; done) | (simp; omega)))
  have s6 : w5.heap.size ≤ w6.heap.size := R.size
  have K6 : Hid (Below w.heap.size w w6) := K5.out.trans (R.mono (by omega))
  replace bw : Hid (Bx w6 w1.heap.size (.int .i64 rm) (.slice A_ow rl.length c_ow)) := bw.out.keep R
  replace bg : Hid (Bx w6 w2.heap.size (.int .i64 rm) (.slice A_og rl.length c_og)) := bg.out.keep R
  replace ow : Hid (OwnP w6 w.heap.size w1.heap.size (.slice A_ow rl.length c_ow) rl) := ow.out.keep R
  replace og : Hid (OwnP w6 (w1.heap.size + 1) w2.heap.size (.slice A_og rl.length c_og) (mkP (1) rl)) := og.out.keep R
  clear R hb6
  have oh : Hid (OwnP w6 w5.heap.size w6.heap.size (.slice A_oh rl.length c_oh) rl) := o_oh'
  clear o_oh'
  have bw_c := bw.out.2.1
  have bw_d := bw.out.2.2
  have bw_z := bw.out.1
  have bg_c := bg.out.2.1
  have bg_d := bg.out.2.2
  have bg_z := bg.out.1
  go_wp2_with fail
  refine (eqP_any _ rm rm _ _ _ _ (oh.out.keep (by (repeat (first | assumption | exact Below.refl _ _ | refine Below.alloc ?_ (by first | omega | (simp; done) | (simp; omega)) _ | refine Below.setCell ?_ (by first | omega | (simp; done) | (simp; omega)) _ | refine below_drewN ?_ _)))).rd (ow.out.keep (by (repeat (first | assumption | exact Below.refl _ _ | refine Below.alloc ?_ (by first | omega | (simp; done) | (simp; omega)) _ | refine Below.setCell ?_ (by first | omega | (simp; done) | (simp; omega)) _ | refine below_drewN ?_ _)))).rd).mono ?_
  rintro e w7 ⟨rfl, hb7⟩
  clear bw_c bw_d bw_z
  clear bg_c bg_d bg_z
  have R : Below w6.heap.size w6 w7 := Below.trans (by (repeat (first | assumption | exact Below.refl _ _ | refine Below.alloc ?_ (by first | omega | (simp; done) | (simp; omega)) _ | refine Below.setCell ?_ (by first | omega | (simp; done) | (simp; omega)) _ | refine below_drewN ?_ _))) (hb7.mono (by first | exact Nat.le_refl _ | (simp; done) | (simp; omega)))
  have s7 : w6.heap.size ≤ w7.heap.size := R.size
  have K7 : Hid (Below w.heap.size w w7) := K6.out.trans (R.mono (by omega))
  replace bw : Hid (Bx w7 w1.heap.size (.int .i64 rm) (.slice A_ow rl.length c_ow)) := bw.out.keep R
  replace bg : Hid (Bx w7 w2.heap.size (.int .i64 rm) (.slice A_og rl.length c_og)) := bg.out.keep R
  replace ow : Hid (OwnP w7 w.heap.size w1.heap.size (.slice A_ow rl.length c_ow) rl) := ow.out.keep R
  replace og : Hid (OwnP w7 (w1.heap.size + 1) w2.heap.size (.slice A_og rl.length c_og) (mkP (1) rl)) := og.out.keep R
  replace oh : Hid (OwnP w7 w5.heap.size w6.heap.size (.slice A_oh rl.length c_oh) rl) := oh.out.keep R
  have bh : Hid (Bx w7 w6.heap.size (.int .i64 rm) (.slice A_oh rl.length c_oh)) := ⟨by have := hb7.size; simp at this; omega, by rw [hb7.cell (by first | (simp; done) | (simp; omega))]; simp, by rw [hb7.cell (by first | (simp; done) | (simp; omega))]; simp⟩
  clear R hb7
  have bw_c := bw.out.2.1
  have bw_d := bw.out.2.2
  have bw_z := bw.out.1
  have bg_c := bg.out.2.1
  have bg_d := bg.out.2.2
  have bg_z := bg.out.1
  have bh_c := bh.out.2.1
  have bh_d := bh.out.2.2
  have bh_z := bh.out.1
  go_wp2_with fail
  refine (heldPB_any _ (w1.heap.size + 1) w2.heap.size rm _ rl (1) (og.out.keep (by (repeat (first | assumption | exact Below.refl _ _ | refine Below.alloc ?_ (by first | omega | (simp; done) | (simp; omega)) _ | refine Below.setCell ?_ (by first | omega | (simp; done) | (simp; omega)) _ | refine below_drewN ?_ _)))) (by omega) (by omega) (by omega)).mono ?_
  rintro e w8 ⟨rfl, hb8⟩
  clear bw_c bw_d bw_z
  clear bg_c bg_d bg_z
  clear bh_c bh_d bh_z
  have R : Below w7.heap.size w7 w8 := Below.trans (by (repeat (first | assumption | exact Below.refl _ _ | refine Below.alloc ?_ (by first | omega | (simp; done) | (simp; omega)) _ | refine Below.setCell ?_ (by first | omega | (simp; done) | (simp; omega)) _ | refine below_drewN ?_ _))) (hb8.mono (by first | exact Nat.le_refl _ | (simp; done) | (simp; omega)))
  have s8 : w7.heap.size ≤ w8.heap.size := R.size
  have K8 : Hid (Below w.heap.size w w8) := K7.out.trans (R.mono (by omega))
  replace bw : Hid (Bx w8 w1.heap.size (.int .i64 rm) (.slice A_ow rl.length c_ow)) := bw.out.keep R
  replace bg : Hid (Bx w8 w2.heap.size (.int .i64 rm) (.slice A_og rl.length c_og)) := bg.out.keep R
  replace bh : Hid (Bx w8 w6.heap.size (.int .i64 rm) (.slice A_oh rl.length c_oh)) := bh.out.keep R
  replace ow : Hid (OwnP w8 w.heap.size w1.heap.size (.slice A_ow rl.length c_ow) rl) := ow.out.keep R
  replace og : Hid (OwnP w8 (w1.heap.size + 1) w2.heap.size (.slice A_og rl.length c_og) (mkP (1) rl)) := og.out.keep R
  replace oh : Hid (OwnP w8 w5.heap.size w6.heap.size (.slice A_oh rl.length c_oh) rl) := oh.out.keep R
  clear R hb8
  have bw_c := bw.out.2.1
  have bw_d := bw.out.2.2
  have bw_z := bw.out.1
  have bg_c := bg.out.2.1
  have bg_d := bg.out.2.2
  have bg_z := bg.out.1
  have bh_c := bh.out.2.1
  have bh_d := bh.out.2.2
  have bh_z := bh.out.1
  go_wp2
  go_ret
  exact ⟨rfl, K8.out⟩


end Go.Proofs.Ytenofgofcioffaa
