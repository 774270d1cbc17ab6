/- Contracts over this seat's translation. Condition: each contract's own. -/
import Derived.Test.YtfdklbimdkaaiaaG
import Derived.ProofKit
import Derived.Laws.Bits64b
import Derived.Lib.Mul64
import Derived.OpenShut
import Derived.Below
import Derived.ChangeSame
import Derived.Deep.Modes
import Derived.Lib.SmallJoins
import Derived.ChangeSlices
import Derived.WalkKit
import Derived.WalkSpells
import Derived.WalkLawsBesides
import Derived.Deep.QuietTactic
import Derived.BigQuiet
import Derived.Deep.RegionHeld3
import Derived.Deep.RegionWith
import Derived.Deep.RegionLaw
import Derived.Deep.AppendLies
import Derived.Laws.CopyOwn
import Derived.Deep.DeepCutAuto
import Derived.Deep.OwnRows
import Derived.Deep.LoopGhost
import Derived.Deep.DeepFit
import Derived.Deep.DeepMust
import Derived.Deep.Draws
import Derived.Deep.CutRange
import Derived.Maps.AppendAt
import Derived.Lib.Hide
import Derived.StillTailTactics
import Derived.Laws.MakeOwn
import Derived.Deep.Matrix
set_option linter.unusedVariables false
open Go Go.RowKit
namespace Go.Proofs.Ytfdklbimdkaaiaa
/-! ### IntegrateSeries -/
def allU (m : Int) : Nat → Bool
  | 0 => true
  | n + 1 => allU m n && unitB m ((n : Int) + 1)
theorem allU_false {m : Int} {k n : Nat} (h : unitB m ((k : Int) + 1) = false) (hk : k < n) : allU m n = false := by
  induction n with
  | zero => omega
  | succ n ih =>
    simp only [allU]
    by_cases e : k = n
    · subst e; rw [h]; simp
    · rw [ih (by omega)]; rfl
theorem allU_next {m : Int} {k : Nat} (h : unitB m ((k : Int) + 1) = true) (hk : allU m k = true) : allU m (k + 1) = true := by simp [allU, h, hk]
theorem invN_mod (m a : Int) : invN m (a % m) = invN m a := by unfold invN; rw [Int.emod_emod_of_dvd a (Int.dvd_refl m)]
theorem invN_bd {m : Int} (hm : 0 < m) (a : Int) : 0 ≤ invN m a ∧ invN m a < m := ⟨Int.emod_nonneg _ (by omega), Int.emod_lt_of_pos _ hm⟩
def integF (m : Int) (xs : List Int) (j : Nat) : Int := if j = 0 then 0 else co xs (j - 1) * invN m (j : Int) % m
def integL (m : Int) (xs : List Int) : List Int := lst (xs.length + 1) (integF m xs)
theorem length_integL (m : Int) (xs : List Int) : (integL m xs).length = xs.length + 1 := length_lst _ _
theorem integF_next (m : Int) (xs : List Int) (k : Nat) : integF m xs (k + 1) = co xs k * invN m ((k : Int) + 1) % m := by simp [integF]
theorem integ_step (m : Int) (xs : List Int) (n k : Nat) : (lst n (fillF (integF m xs) (k + 1))).set (k + 1) (co xs k * invN m ((k : Int) + 1) % m) = lst n (fillF (integF m xs) (k + 1 + 1)) := by
  rw [← integF_next]; exact fill_step _ _ _
theorem integ_start (m : Int) (xs : List Int) (n : Nat) : List.replicate n 0 = lst n (fillF (integF m xs) (0 + 1)) := by
  rw [replicate_lst]
  apply lst_congr
  intro j _
  unfold fillF integF
  by_cases h : j = 0
  · simp [h]
  · simp [h]
theorem integ_succ (m : Int) (xs : List Int) (k : Nat) : lst (k + 1 + 1) (integF m xs) = lst (k + 1) (integF m xs) ++ [co xs k * invN m ((k : Int) + 1) % m] := by
  rw [lst_succ, integF_next]
theorem areUnits_any (m d : Int) (n : Nat) (w : World) (hm : 2 ≤ m) (hm' : m ≤ 1000000000000) (hd : d = (n : Int)) (hn : n ≤ 1000000) : Calls Try.prog 66 #[.int .i64 m, .int .i64 d] w fun e w' => e = .returned (.bool (allU m n)) ∧ ∃ k, w' = w.drewN k := by
  subst hd
  go_enter Try.func66, Try.ntmps66
  go_wp2
  go_loopw [5] (fun s wr => ∃ k : Nat, k ≤ n ∧ s = .int .i64 ((k : Int) + 1) ∧ Hid (allU m k = true) ∧ ∃ q, wr = w.drewN q) (fun s _ => n + 1 - (intOf s).toNat)
  case atStart => exact ⟨0, Nat.zero_le _, rfl, rfl, 0, rfl⟩
  case round =>
    obtain ⟨k, hk, rfl, HA, q, rfl⟩ := hrel
    by_cases hlt : k < n
    · have h1 : ((k : Int) + 1) ≤ (n : Int) := by omega
      cases hu : unitB m ((k : Int) + 1)
      · have HF := Lib.hid (allU_false hu hlt)
        have HU := Lib.hid hu
        clear hu
        go_wp2_with (go_at_call 82; refine (isUnit_any m _ _ (by omega) (by omega) (by omega) (by omega)).mono ?_; rintro e w1 ⟨rfl, q1, rfl⟩; rw [HU.out])
        go_ret
        exact ⟨by rw [HF.out]; rfl, q + q1, by simp⟩
      · have HF : Hid (allU m (k + 1) = true) := allU_next hu HA.out
        have HU := Lib.hid hu
        clear hu
        go_wp2_with (go_at_call 82; refine (isUnit_any m _ _ (by omega) (by omega) (by omega) (by omega)).mono ?_; rintro e w1 ⟨rfl, q1, rfl⟩; rw [HU.out])
        go_roundw
        case rel => exact ⟨k + 1, by omega, by go_num, HF, q + q1, by simp⟩
        case measure => simp [intOf]; omega
    · have hkn : k = n := by omega
      subst hkn
      have h2 : decide (((k : Int) + 1) ≤ (k : Int)) = false := by simp; omega
      go_wp2
      go_ret
      exact ⟨by rw [HA.out]; rfl, q, rfl⟩
theorem l02Integers_any (m d : Int) (n : Nat) (w : World) (hm : 2 ≤ m) (hm' : m ≤ 1000000000000) (hd : d = (n : Int)) (hn : n ≤ 1000000) : Calls Try.prog 64 #[.int .i64 m, .int .i64 d] w fun e w' => e = .returned (.bool (allU m n)) ∧ ∃ k, w' = w.drewN k := by
  subst hd
  go_enter Try.func64, Try.ntmps64
  go_wp2
  go_loopw [5] (fun s wr => ∃ k : Nat, k ≤ n ∧ s = .int .i64 ((k : Int) + 1) ∧ Hid (allU m k = true) ∧ ∃ q, wr = w.drewN q) (fun s _ => n + 1 - (intOf s).toNat)
  case atStart => exact ⟨0, Nat.zero_le _, rfl, rfl, 0, rfl⟩
  case round =>
    obtain ⟨k, hk, rfl, HA, q, rfl⟩ := hrel
    by_cases hlt : k < n
    · have h1 : ((k : Int) + 1) ≤ (n : Int) := by omega
      cases hu : unitB m ((k : Int) + 1)
      · have HF := Lib.hid (allU_false hu hlt)
        have HU := Lib.hid hu
        clear hu
        go_wp2_with (go_at_call 80; refine (l01Unit_any m _ _ (by omega) (by omega) (by omega) (by omega)).mono ?_; rintro e w1 ⟨rfl, q1, rfl⟩; rw [HU.out])
        go_ret
        exact ⟨by rw [HF.out]; rfl, q + q1, by simp⟩
      · have HF : Hid (allU m (k + 1) = true) := allU_next hu HA.out
        have HU := Lib.hid hu
        clear hu
        go_wp2_with (go_at_call 80; refine (l01Unit_any m _ _ (by omega) (by omega) (by omega) (by omega)).mono ?_; rintro e w1 ⟨rfl, q1, rfl⟩; rw [HU.out])
        go_roundw
        case rel => exact ⟨k + 1, by omega, by go_num, HF, q + q1, by simp⟩
        case measure => simp [intOf]; omega
    · have hkn : k = n := by omega
      subst hkn
      have h2 : decide (((k : Int) + 1) ≤ (k : Int)) = false := by simp; omega
      go_wp2
      go_ret
      exact ⟨by rw [HA.out]; rfl, q, rfl⟩
set_option maxHeartbeats 2000000 in
theorem integrated_any (w : World) (m : Int) (v : Value) (xs ys : List Int) (n : Nat) (B : Nat) (hv : OwnI w B v xs) (hm : 2 ≤ m) (hm' : m ≤ 3000000000) (hn : NumL m xs) (hl0 : n ≤ xs.length + 1) (hl1 : xs.length + 1 ≤ n) (hl : xs.length ≤ 1000) (hy : integL m xs = ys) :
    Calls Try.prog 67 #[.agg #[.int .i64 m, v]] w (NewS w m ys) := by
  obtain ⟨A, cp, e0, hc1, hc2, hA⟩ := hv.open_
  subst e0
  unfold maxLen at hc2
  have HY := Lib.hid hy
  have HN := Lib.hid hn
  have HV := Lib.hid hv
  clear hy hn hv
  have v0 : IntKind.i64.wrap (xs.length : Int) = (xs.length : Int) := IntWalk.i64_in _ (by omega)
  go_enter Try.func67, Try.ntmps67
  go_upto_region 1 with fail
  go_cut [3] from 6 to 11 (fun s wx => ∃ bo g : Nat, s = .pointer (some ⟨bo, 0, none⟩) ∧ w.heap.size + 2 ≤ bo ∧ bo < wx.heap.size ∧ w.heap.size + 2 ≤ g ∧ g < wx.heap.size ∧ bo ≠ g ∧ Hid (Bf wx bo (.int .i64 m) (.slice (some ⟨g, 0, none⟩) n n)) ∧ Hid (RowI wx g n (List.replicate n 0)) ∧ Hid (Bf wx w.heap.size (.int .i64 m) (.slice A xs.length cp)) ∧ Hid (Bf wx (w.heap.size + 1) (.int .i64 0) (.slice none 0 0)) ∧ Hid (Below w.heap.size w wx))
  case first =>
    go_region_held3 (fun w' => w'.cell? ⟨w.heap.size, 0, none⟩ = some (.int .i64 m) ∧ w'.cell? ⟨w.heap.size, 1, none⟩ = some (.slice A xs.length cp))
      (first | go_keep | (refine (fun (h : Bf _ w.heap.size (.int .i64 m) (.slice A xs.length cp)) => ⟨h.1.2.1, h.1.2.2⟩) ((Bf.alloc1 w _ _ 26).keep ?_); (repeat (first | assumption | exact Below.refl _ _ | (refine Below.alloc ?_ ?_ _; rotate_left; (focus (first | exact Nat.le_refl _ | omega | (simp; done) | (simp; omega)))) | (refine Below.setCell ?_ ?_ _; rotate_left; (focus (first | exact Nat.le_refl _ | omega | (simp; done) | (simp; omega)))) | refine below_drew ?_ | refine below_drewN ?_ _ | (refine Below.trans ?_ (Below.mono hb2 ?_); rotate_left; (focus (first | exact Nat.le_refl _ | omega | (simp; done) | (simp; omega)))) | (refine Below.trans ?_ (Below.mono hb1 ?_); rotate_left; (focus (first | exact Nat.le_refl _ | omega | (simp; done) | (simp; omega))))))))
      (first | (go_at_call 54; refine (iDegree_any m A xs.length cp _ (by omega)).mono ?_; rintro e w1 ⟨rfl, hb1⟩; have P1 : Bf w1 w.heap.size (.int .i64 m) (.slice A xs.length cp) := ((Bf.alloc1 w _ _ 26).keep (by (repeat (first | assumption | exact Below.refl _ _ | (refine Below.alloc ?_ ?_ _; rotate_left; (focus (first | exact Nat.le_refl _ | omega | (simp; done) | (simp; omega)))) | (refine Below.setCell ?_ ?_ _; rotate_left; (focus (first | exact Nat.le_refl _ | omega | (simp; done) | (simp; omega)))) | refine below_drew ?_ | refine below_drewN ?_ _ | (refine Below.trans ?_ (Below.mono hb1 ?_); rotate_left; (focus (first | exact Nat.le_refl _ | omega | (simp; done) | (simp; omega)))))))); have p1a := P1.1.2.1; have p1b := P1.1.2.2; obtain ⟨hc1, hf1⟩ := bcell hb1; have z1 := hb1.size; (try simp at z1); have z1p : w.heap.size < w1.heap.size := (by omega); (first | (have y1 : w.heap.size + 2 < w1.heap.size := (by omega)) | skip)) | (go_at_call 60; refine (zero_any _ m _ n (by omega) (by omega)).mono ?_; rintro e w2 ⟨g, rfl, hg, hr2, hb2⟩; have P2 : Bf w2 w.heap.size (.int .i64 m) (.slice A xs.length cp) := ((Bf.alloc1 w _ _ 26).keep (by (repeat (first | assumption | exact Below.refl _ _ | (refine Below.alloc ?_ ?_ _; rotate_left; (focus (first | exact Nat.le_refl _ | omega | (simp; done) | (simp; omega)))) | (refine Below.setCell ?_ ?_ _; rotate_left; (focus (first | exact Nat.le_refl _ | omega | (simp; done) | (simp; omega)))) | refine below_drew ?_ | refine below_drewN ?_ _ | (refine Below.trans ?_ (Below.mono hb2 ?_); rotate_left; (focus (first | exact Nat.le_refl _ | omega | (simp; done) | (simp; omega)))) | (refine Below.trans ?_ (Below.mono hb1 ?_); rotate_left; (focus (first | exact Nat.le_refl _ | omega | (simp; done) | (simp; omega)))))))); have p2a := P2.1.2.1; have p2b := P2.1.2.2; obtain ⟨hc2, hf2⟩ := bcell hb2; have z2 := hb2.size; (try simp at z2); (try simp at hg); have z2p : w.heap.size < w2.heap.size := (by omega)))
    all_goals
      go_wp2_with fail
      go_meet
      have zg := hr2.lt
      have KK : Hid (Below w.heap.size w w2) := by (repeat (first | assumption | exact Below.refl _ _ | (refine Below.alloc ?_ ?_ _; rotate_left; (focus (first | exact Nat.le_refl _ | omega | (simp; done) | (simp; omega)))) | (refine Below.setCell ?_ ?_ _; rotate_left; (focus (first | exact Nat.le_refl _ | omega | (simp; done) | (simp; omega)))) | refine below_drew ?_ | refine below_drewN ?_ _ | (refine Below.trans ?_ (Below.mono hb2 ?_); rotate_left; (focus (first | exact Nat.le_refl _ | omega | (simp; done) | (simp; omega)))) | (refine Below.trans ?_ (Below.mono hb1 ?_); rotate_left; (focus (first | exact Nat.le_refl _ | omega | (simp; done) | (simp; omega))))))
      refine ⟨_, g, rfl, ?_, ?_, ?_, ?_, ?_, ?_, ?_, ?_, ?_,  ?_⟩
      · first | exact Nat.le_refl _ | omega | (simp; done) | (simp; omega)
      · first | omega | (simp; done) | (simp; omega) | (simp [World.setCell]; omega)
      · first | omega | (simp; omega)
      · first | omega | (simp; done) | (simp; omega) | (simp [World.setCell]; omega)
      · first | omega | (simp; omega)
      · first | exact Bf.alloc1 w2 _ _ _ | exact ((Bf.alloc1 w1 _ _ _).keep hb2).store2 | exact (((Bf.q3 (w := w)).keep (below_undrew hb1)).keep hb2).store2
      · first | exact hr2.alloc _ | exact (hr2.far (by first | omega | (simp; omega)) _).far (by first | omega | (simp; omega)) _
      · exact (Bf.q1 (w := w) (t := 26)).keep (by (repeat (first | assumption | exact Below.refl _ _ | (refine Below.alloc ?_ ?_ _; rotate_left; (focus (first | exact Nat.le_refl _ | omega | (simp; done) | (simp; omega)))) | (refine Below.setCell ?_ ?_ _; rotate_left; (focus (first | exact Nat.le_refl _ | omega | (simp; done) | (simp; omega)))) | refine below_drew ?_ | refine below_drewN ?_ _ | (refine Below.trans ?_ (Below.mono hb2 ?_); rotate_left; (focus (first | exact Nat.le_refl _ | omega | (simp; done) | (simp; omega)))) | (refine Below.trans ?_ (Below.mono hb1 ?_); rotate_left; (focus (first | exact Nat.le_refl _ | omega | (simp; done) | (simp; omega)))))))
      · exact (Bf.q2 (w := w) (t := 26) (t' := 26)).keep (by (repeat (first | assumption | exact Below.refl _ _ | (refine Below.alloc ?_ ?_ _; rotate_left; (focus (first | exact Nat.le_refl _ | omega | (simp; done) | (simp; omega)))) | (refine Below.setCell ?_ ?_ _; rotate_left; (focus (first | exact Nat.le_refl _ | omega | (simp; done) | (simp; omega)))) | refine below_drew ?_ | refine below_drewN ?_ _ | (refine Below.trans ?_ (Below.mono hb2 ?_); rotate_left; (focus (first | exact Nat.le_refl _ | omega | (simp; done) | (simp; omega)))) | (refine Below.trans ?_ (Below.mono hb1 ?_); rotate_left; (focus (first | exact Nat.le_refl _ | omega | (simp; done) | (simp; omega)))))))
      · (repeat (first | assumption | exact Below.refl _ _ | (refine Below.alloc ?_ ?_ _; rotate_left; (focus (first | exact Nat.le_refl _ | omega | (simp; done) | (simp; omega)))) | (refine Below.setCell ?_ ?_ _; rotate_left; (focus (first | exact Nat.le_refl _ | omega | (simp; done) | (simp; omega)))) | refine below_drew ?_ | refine below_drewN ?_ _ | (refine Below.trans ?_ (Below.mono hb2 ?_); rotate_left; (focus (first | exact Nat.le_refl _ | omega | (simp; done) | (simp; omega)))) | (refine Below.trans ?_ (Below.mono hb1 ?_); rotate_left; (focus (first | exact Nat.le_refl _ | omega | (simp; done) | (simp; omega))))))
  case rest =>
    obtain ⟨bo, g, rfl, hbo1, hbo2, hg1, hg2, hne, HO, HR, HP, HQ, HB⟩ := hcut
    have hP := HP.out.1
    have p1 := hP.2.1
    have p2 := hP.2.2
    have hO := HO.out.1
    have o1 := hO.2.1
    have o2 := hO.2.2
    clear hP hO
    go_wp2
    go_loopw [15] (fun i wr => ∃ k : Nat, k ≤ xs.length ∧ i = .int .i64 k ∧ Hid (Bf wr bo (.int .i64 m) (.slice (some ⟨g, 0, none⟩) (n) (n))) ∧ Hid (RowI wr g (n) (lst (n) (fillF (integF m xs) (k + 1)))) ∧ Hid (Bf wr w.heap.size (.int .i64 m) (.slice A xs.length cp)) ∧ Hid (Bf wr (w.heap.size + 1) (.int .i64 0) (.slice none 0 0)) ∧ Hid (Below w.heap.size w wr)) (fun i _ => xs.length - (intOf i).toNat)
    case atStart => exact ⟨0, Nat.zero_le _, rfl, HO, (by unfold Hid; rw [← integ_start]; exact HR.out), HP, HQ, HB⟩
    case round =>
      clear HO HR HP HQ HB p1 p2 o1 o2
      obtain ⟨k, hk, rfl, HO, HR, HP, HQ, HB⟩ := hrel
      have hP := HP.out.1
      have p1 := hP.2.1
      have p2 := hP.2.2
      have hO := HO.out.1
      have o1 := hO.2.1
      have o2 := hO.2.2
      have q1 := HQ.out.1.2.1
      have q2 := HQ.out.1.2.2
      have q3 := HQ.out.2.1
      have q4 := HQ.out.2.2
      have hzP := hP.1
      have hzO := hO.1
      clear hP hO
      by_cases hlt : k < xs.length
      · obtain ⟨b, rfl, hb1, hb2, hcell, hfr⟩ := hA (k) (by omega)
        clear hA
        have hc0 : wr.cell? ⟨b, k, none⟩ = some (.int .i64 (co xs (k))) := (HB.out.cell (p := ⟨b, k, none⟩) hb2).trans hcell
        have hnk : 0 ≤ co xs (k) ∧ co xs (k) < m := HN.out (k)
        have HS := Lib.hid (integ_step m xs n k)
        have hd0 := HR.out.cell (k := k + 1) (by rw [length_lst]; omega)
        have hf0 := HR.out.free (k + 1)
        rw [fill_getD _ _ _ _ (by omega)] at hd0
        generalize fillF (integF m xs) (k + 1) (k + 1) = y0 at hd0
        obtain ⟨x, hx⟩ : ∃ x, x = co xs (k) := ⟨_, rfl⟩
        rw [← hx] at hc0 hnk
        have HX := Lib.hid hx
        clear hx hcell hfr
        have hk0 : (0 : Int) ≤ (k : Int) := by omega
        have hk1 : (k : Int) < ((xs.length : Nat) : Int) := by omega
        have ne1 : (⟨g, k + 1, none⟩ : Addr) ≠ ⟨w.heap.size, 0, none⟩ := by first | (simp; done) | (simp; omega)
        have ne2 : (⟨g, k + 1, none⟩ : Addr) ≠ ⟨bo, 1, none⟩ := by first | (simp; done) | (simp; omega)
        obtain ⟨iv, hiv⟩ : ∃ iv, invN m ((k : Int) + 1) = iv := ⟨_, rfl⟩
        have hib := invN_bd (show 0 < m by omega) ((k : Int) + 1)
        rw [hiv] at hib HS
        have HV2 := Lib.hid hiv
        clear hiv
        have hp := prod_bd hnk.1 hnk.2 hib.1 hib.2 hm'
        have v1 : IntKind.i64.wrap ((k : Int) + 1) = (k : Int) + 1 := IntWalk.i64_in _ (by omega)
        have v2 : IntKind.i64.wrap (x * iv) = x * iv := IntWalk.i64_in _ (by omega)
        have v3 : (x * iv).tmod m = x * iv % m := Int.tmod_eq_emod_of_nonneg (by omega)
        have v4 : (0 : Int) ≤ (k : Int) + 1 := by omega
        have v5 : (k : Int) + 1 < (n : Int) := by omega
        have v7 : ((k : Int) + 1).toNat = k + 1 := by omega
        have v8 : ¬ m = 0 := by omega
        go_wp2
        go_region_held3 (fun w' => w'.cell? ⟨w.heap.size, 0, none⟩ = some (.int .i64 m) ∧ w'.cell? ⟨bo, 1, none⟩ = some (.slice (some ⟨g, 0, none⟩) (n) (n)))
          ((first | exact ⟨p1, o2⟩ | exact ⟨(World.cell?_setCell_other _ _ _ _ ne1).trans p1, (World.cell?_setCell_other _ _ _ _ ne2).trans o2⟩ | go_keep))
          (first | (go_at_call 90; refine (mod_any ((k : Int) + 1) m _ (by omega) (by omega)).mono ?_; rintro e w1 ⟨rfl, k1, rfl⟩) | (go_at_call 97; refine (inverse_any m (((k : Int) + 1) % m) _ (by omega) (by omega)).mono ?_; rintro e w2 ⟨rfl, k2, rfl⟩; rw [invN_mod, HV2.out]))
        go_wp2
        go_roundw
        case rel =>
          refine ⟨k + 1, by omega, by go_num, HO.out.setCell (by simp; omega) _, ?_, HP.out.setCell (by simp; omega) _, HQ.out.setCell (by simp; omega) _, (by unfold Hid; (repeat (first | exact HB.out | refine below_drewN ?_ _ | refine below_drew ?_ | (refine Below.setCell ?_ ?_ _; rotate_left; focus (first | omega | (simp; done) | (simp; omega))))))⟩
          unfold Hid
          rw [← HS.out, ← HX.out]
          exact HR.out.set_ (k + 1) _
        case measure => simp [intOf]; omega
      · have hkn : k = xs.length := by omega
        have hR : RowI wr g (n) ys := by have := HR.out; rw [hkn, show xs.length + 1 = n by omega, fill_all] at this; rw [← HY.out]; unfold integL; rw [show xs.length + 1 = n by omega]; exact this
        clear hkn
        have hly : Hid (ys.length = n) := by unfold Hid; rw [← HY.out]; rw [length_integL]; omega
        go_wp2
        refine bodyPost_ret (v := .agg #[.int .i64 m, .slice (some ⟨g, 0, none⟩) (n) (n)]) (by simp [results, Try.results67, go_sem, q1, q2]) rfl ⟨some ⟨g, 0, none⟩, n, by rw [hly.out], ?_, ?_⟩
        · rw [hly.out]
          have := ((hR.far (p := ⟨w.heap.size + 1, 0, none⟩) (by simp; omega) (.int .i64 m)).far (p := ⟨w.heap.size + 1, 1, none⟩) (by simp; omega) (.slice (some ⟨g, 0, none⟩) (n) (n))).own (B := w.heap.size) (by omega)
          rw [hly.out] at this
          exact this
        · exact (HB.out.setCell (by simp) _).setCell (by simp) _
set_option maxRecDepth 8000 in
set_option maxHeartbeats 1000000 in
theorem l02Integrate_any (m : Int) (w : World) (v : Value) (xs ys : List Int) (B : Nat) (hv : OwnI w B v xs) (hy : integL m xs = ys) (hm : 2 ≤ m) (hm' : m ≤ 3000000000) (hn : NumL m xs) (hl : xs.length ≤ 1000000) :
    Calls Try.prog 65 #[.int .i64 m, v] w (NewI w ys) := by
  obtain ⟨A, cp, e0, hc1, hc2, hA⟩ := hv.open_
  subst e0
  unfold maxLen at hc2
  have HY := Lib.hid hy
  have HN := Lib.hid hn
  clear hy hn
  go_enter Try.func65, Try.ntmps65
  go_wp2
  go_loopw [5, 6] (fun r i wr => ∃ k g c' : Nat, k ≤ xs.length ∧ i = .int .i64 k ∧ r = .slice (some ⟨g, 0, none⟩) ((k + 1 : Nat)) c' ∧ w.heap.size ≤ g ∧ RowI wr g c' (lst (k + 1) (integF m xs)) ∧ Below w.heap.size w wr) (fun _ i _ => xs.length - (intOf i).toNat)
  case atStart => exact ⟨0, w.heap.size, 1, by omega, rfl, rfl, Nat.le_refl _, RowI.lit w [0] #[.int .i64 0] rfl (by simp [maxLen]), by (repeat (first | assumption | exact Below.refl _ _ | refine Below.alloc ?_ (by first | omega | (simp; done) | (simp; omega)) _ | refine Below.setCell ?_ (by first | omega | (simp; done) | (simp; omega)) _ | refine below_drewN ?_ _))⟩
  case round =>
    obtain ⟨k, g, c', hk, rfl, rfl, hg, hrow, hb⟩ := hrel
    have hz := hb.size
    have hglt := hrow.lt
    by_cases hlt : k < xs.length
    · obtain ⟨b, rfl, hb1, hb2, hcell, hfr⟩ := hA k (by omega)
      clear hA
      have hcell' : wr.cell? ⟨b, k, none⟩ = some (.int .i64 (co xs k)) := (hb.cell (p := ⟨b, k, none⟩) hb2).trans hcell
      clear hcell
      have hnk : 0 ≤ co xs k ∧ co xs k < m := HN.out k
      have HS := Lib.hid (integ_succ m xs k)
      have HL : Hid ((lst (k + 1) (integF m xs)).length = k + 1) := length_lst _ _
      obtain ⟨x, hx⟩ : ∃ x, x = co xs k := ⟨_, rfl⟩
      rw [← hx] at hcell' hnk HS
      have hk0 : (0 : Int) ≤ (k : Int) := by omega
      have hk1 : (k : Int) < (xs.length : Int) := by omega
      clear hx
      obtain ⟨iv, hiv⟩ : ∃ iv, invN m ((k : Int) + 1) = iv := ⟨_, rfl⟩
      have hib := invN_bd (show 0 < m by omega) ((k : Int) + 1)
      rw [hiv] at hib HS
      have HV2 := Lib.hid hiv
      clear hiv
      have hp := prod_bd hnk.1 hnk.2 hib.1 hib.2 hm'
      have v1 : IntKind.i64.wrap ((k : Int) + 1) = (k : Int) + 1 := IntWalk.i64_in _ (by omega)
      have v2 : IntKind.i64.wrap (x * iv) = x * iv := IntWalk.i64_in _ (by omega)
      have v3 : (x * iv).tmod m = x * iv % m := Int.tmod_eq_emod_of_nonneg (by omega)
      have v8 : ¬ m = 0 := by omega
      have hne : some b ≠ (Value.slice (some ⟨g, 0, none⟩) (k + 1) c').ownBlock := by simp [Value.ownBlock]; omega
      go_wp2
      go_region_held3 (fun w' => w'.cell? ⟨b, k, none⟩ = some (.int .i64 x))
        (first | exact hcell' | go_keep | (rw [hgrow.cell_far _ (by simp; omega) hne]; assumption))
        (first | (go_at_call 96; refine (l01Inv_any m ((k : Int) + 1) _ (by omega) (by omega)).mono ?_; rintro e w2 ⟨rfl, k2, rfl⟩; rw [HV2.out]) | (refine stepAppend1 _ _ w.heap.size (.slice (some ⟨g, 0, none⟩) (k + 1 : Nat) c') (lst (k + 1) (integF m xs)) (k + 1) (x * iv % m) wr.heap.size (wr.heap.size + 1) (by rfl) (by rfl) (by rfl) (by rfl) (((hrow.drew.drewN k2).alloc _).own' hg HL.out) HL.out (RowI.block1 _) (by omega) (by simp; omega) (by simp) ?_; intro gg cap w1 hown1 hge hgrow hat))
      all_goals (
        clear v1 v2 v3
        go_wp2
        go_roundw
        case rel =>
          refine ⟨k + 1, gg, cap, by omega, by go_num, rfl, hge, by rw [HS.out]; exact hown1, ?_⟩
          refine Below.grown ((below_drewN hb (1 + k2)).alloc hz _) hgrow (by simp; omega) fun b hb => ?_
          simp [Value.ownBlock] at hb
          omega
        case measure => simp [intOf]; omega)
    · have hkn : k = xs.length := by omega
      have hrow' : RowI wr g c' ys := by rw [← HY.out]; subst hkn; exact hrow
      have hly : Hid (ys.length = k + 1) := by unfold Hid; rw [← HY.out, length_integL, hkn]
      have hx1 : (k : Int) = (xs.length : Int) := by omega
      have hd : decide ((k : Int) < (xs.length : Int)) = false := by simp; omega
      clear hkn hx1
      go_wp2
      go_ret
      have ho := hrow'.own hg
      exact ⟨_, _, by rw [hly.out]; rfl, ho, hb⟩

/-! ### InverseOfSeries -/
theorem sumN_shift (f : Nat → Int) (n : Nat) : sumN f (n + 1) = f 0 + sumN (fun i => f (i + 1)) n := by
  induction n with
  | zero => simp [sumN]
  | succ n ih =>
    have e : sumN f (n + 1 + 1) = sumN f (n + 1) + f (n + 1) := rfl
    have e2 : sumN (fun i => f (i + 1)) (n + 1) = sumN (fun i => f (i + 1)) n + f (n + 1) := rfl
    rw [e, e2, ih]
    omega
/-- The rest at n + 1 of the product with the coefficients found so far. -/
def restF (m : Int) (a : Nat → Int) (l : List Int) (n q : Nat) : Int := sumN (fun i => a (i + 1) * co l (n - i)) q % m
def invTo (m u : Int) (a : Nat → Int) : Nat → List Int
  | 0 => [u]
  | n + 1 => invTo m u a n ++ [(m - restF m a (invTo m u a n) n (n + 1)) * u % m]
theorem length_invTo (m u : Int) (a : Nat → Int) (n : Nat) : (invTo m u a n).length = n + 1 := by
  induction n with
  | zero => rfl
  | succ n ih => simp [invTo, ih]
theorem restF_zero (m : Int) (a : Nat → Int) (l : List Int) (n : Nat) : restF m a l n 0 = 0 := by simp [restF, sumN]
theorem restF_step (m : Int) (a : Nat → Int) (l : List Int) (n q : Nat) : (restF m a l n q + a (q + 1) * co l (n - q)) % m = restF m a l n (q + 1) := by
  unfold restF
  simp only [sumN]
  rw [Int.emod_add_emod]
theorem restF_bd {m : Int} (hm : 0 < m) (a : Nat → Int) (l : List Int) (n q : Nat) : 0 ≤ restF m a l n q ∧ restF m a l n q < m := ⟨Int.emod_nonneg _ (by omega), Int.emod_lt_of_pos _ hm⟩
theorem invTo_num {m u : Int} (hm : 0 < m) (hu : 0 ≤ u ∧ u < m) (a : Nat → Int) (n : Nat) : NumL m (invTo m u a n) := by
  induction n with
  | zero =>
    intro k
    cases k with
    | zero => simpa [invTo] using hu
    | succ k => simp [invTo]; omega
  | succ n ih =>
    intro k
    simp only [invTo, List.getD_eq_getElem?_getD, List.getElem?_append]
    split
    · have := ih k
      rw [List.getD_eq_getElem?_getD] at this
      exact this
    · have h1 := Int.emod_nonneg ((m - restF m a (invTo m u a n) n (n + 1)) * u) (show m ≠ 0 by omega)
      have h2 := Int.emod_lt_of_pos ((m - restF m a (invTo m u a n) n (n + 1)) * u) hm
      generalize (m - restF m a (invTo m u a n) n (n + 1)) * u % m = y at *
      rcases hk : k - (invTo m u a n).length with _ | j
      · simp; omega
      · simp; omega
theorem rest_eq (m u : Int) (a : Nat → Int) (n d : Nat) (hd : n + 1 < d) : cv m a (co (lst d (co (invTo m u a n)))) (n + 1) = restF m a (invTo m u a n) n (n + 1) := by
  have hl := length_invTo m u a n
  have hc : ∀ j, j < d → co (lst d (co (invTo m u a n))) j = co (invTo m u a n) j := fun j hj => getD_lst _ _ _ hj
  unfold cv cvTo restF
  rw [sumN_shift]
  simp only [Nat.sub_zero]
  rw [hc (n + 1) hd, co_ge (by omega), Int.mul_zero, Int.zero_add]
  rw [sumN_congr]
  intro i hi
  rw [hc _ (by omega), show n + 1 - (i + 1) = n - i by omega]
theorem inv_next (m u : Int) (a : Nat → Int) (n d : Nat) (hd : n + 1 < d) : (lst d (co (invTo m u a n))).set (n + 1) ((m - restF m a (invTo m u a n) n (n + 1)) * u % m) = lst d (co (invTo m u a (n + 1))) := by
  rw [set_lst]
  apply lst_congr
  intro j _
  have hl := length_invTo m u a n
  unfold upd co
  simp only [invTo, List.getD_eq_getElem?_getD, List.getElem?_append]
  by_cases h : j = n + 1
  · subst h
    simp [hl]
  · rw [if_neg h]
    split
    · rfl
    · rw [List.getElem?_eq_none (by omega), List.getElem?_eq_none (by simp; omega)]
theorem neg_form (m s u : Int) : (-(s * u % m)) % m = (m - s) * u % m := by
  rw [Int.sub_mul, Int.emod_def (s * u) m, show -(s * u - m * (s * u / m)) = -(s * u) + m * (s * u / m) by omega, show m * u - s * u = -(s * u) + m * u by omega, Int.add_mul_emod_self_left, Int.add_mul_emod_self_left]
def invL (m : Int) (xs : List Int) : List Int := invTo m (invN m (co xs 0)) (co xs) (xs.length - 1)
theorem length_invL (m : Int) (xs : List Int) (h : 1 ≤ xs.length) : (invL m xs).length = xs.length := by rw [invL, length_invTo]; omega
theorem inv_start (m u : Int) (a : Nat → Int) (d : Nat) : (List.replicate d (0 : Int)).set 0 u = lst d (co (invTo m u a 0)) := by
  rw [replicate_lst, set_lst]
  apply lst_congr
  intro j _
  cases j with
  | zero => simp [upd, co, invTo]
  | succ j => simp [upd, co, invTo]
theorem inv_all (m u : Int) (a : Nat → Int) (n : Nat) : lst (n + 1) (co (invTo m u a n)) = invTo m u a n := by
  have := lst_self (invTo m u a n)
  rwa [length_invTo] at this
set_option maxRecDepth 8000 in
set_option maxHeartbeats 4000000 in
theorem l02Inverse_any (m : Int) (w : World) (v : Value) (xs zs : List Int) (d : Int) (B : Nat) (hv : OwnI w B v xs) (hm : 2 ≤ m) (hm' : m ≤ 3000000000) (hn : NumL m xs) (hl0 : 2 ≤ xs.length) (hl : xs.length ≤ 1000) (hd : d + 1 = (xs.length : Int)) (hz : invL m xs = zs) :
    Calls Try.prog 81 #[.int .i64 m, v, .int .i64 d] w (NewI w zs) := by
  obtain ⟨A, cp, e0, hc1, hc2, hA⟩ := hv.open_
  subst e0
  unfold maxLen at hc2
  obtain ⟨u, hu⟩ : ∃ u, u = invN m (co xs 0) := ⟨_, rfl⟩
  have hub := invN_bd (show 0 < m by omega) (co xs 0)
  rw [← hu] at hub
  have HZ : Hid (invTo m u (co xs) (xs.length - 1) = zs) := by rw [hu]; exact hz
  have HN := Lib.hid hn
  have HNI := Lib.hid (invTo_num (show 0 < m by omega) hub (co xs))
  obtain ⟨b, rfl, hb1, hb2, hcell0, hfr0⟩ := hA 0 (by omega)
  have hc0 : w.cell? ⟨b, 0, none⟩ = some (.int .i64 (co xs 0)) := hcell0
  have hcl : Hid (∀ k, k < xs.length → w.cell? ⟨b, k, none⟩ = some (.int .i64 (co xs k))) := by
    intro k hk
    obtain ⟨b', e, _, _, h, _⟩ := hA k hk
    simp at e
    subst e
    exact h
  have HU : Hid (invN m (co xs 0) = u) := hu.symm
  clear hz hn hv hu hA hcell0 hfr0
  generalize co xs 0 = x0 at hc0 HU
  have hd1 : d + 1 ≤ (xs.length : Int) := by omega
  have hd2 : (xs.length : Int) ≤ d + 1 := by omega
  have hk2 : 0 < xs.length := by omega
  have hk3 : (0 : Int) < (xs.length : Int) := by omega
  have hk4 : ¬ xs.length = 0 := by omega
  clear hd
  go_enter Try.func81, Try.ntmps81
  go_wp2_with (go_at_call 96; refine (l01Inv_any m x0 _ (by omega) (by omega)).mono ?_; rintro e w1 ⟨rfl, k1, rfl⟩; rw [HU.out])
  go_loopw [8, 9] (fun r i wr => ∃ n g c' : Nat, n + 1 ≤ xs.length ∧ r = .slice (some ⟨g, 0, none⟩) (n + 1 : Nat) c' ∧ i = .int .i64 ((n : Int) + 1) ∧ w.heap.size ≤ g ∧ RowI wr g c' (invTo m u (co xs) n) ∧ Below w.heap.size w wr) (fun _ i _ => xs.length + 1 - (intOf i).toNat)
  case atStart => exact ⟨0, _, 1, by omega, rfl, rfl, by simp, RowI.lit _ [u] #[.int .i64 u] rfl (by simp [maxLen]), by (repeat (first | assumption | exact Below.refl _ _ | refine Below.alloc ?_ (by first | omega | (simp; done) | (simp; omega)) _ | refine Below.setCell ?_ (by first | omega | (simp; done) | (simp; omega)) _ | refine below_drewN ?_ _))⟩
  case round =>
    obtain ⟨n, g, c', hn, rfl, rfl, hg, hrow, hb⟩ := hrel
    have hz := hb.size
    have hglt := hrow.lt
    have HLN : Hid ((invTo m u (co xs) n).length = n + 1) := length_invTo _ _ _ _
    by_cases hlt : n + 1 < xs.length
    · have hlt1 : (n : Int) + 1 ≤ d := by omega
      have HNX : Hid (invTo m u (co xs) (n + 1) = invTo m u (co xs) n ++ [(m - restF m (co xs) (invTo m u (co xs) n) n (n + 1)) * u % m]) := rfl
      have HLL := HNI.out n
      generalize invTo m u (co xs) n = L at *
      go_wp2
      go_loopw [10, 11] (fun s i w2 => ∃ q : Nat, q ≤ n + 1 ∧ s = .int .i64 (restF m (co xs) L n q) ∧ i = .int .i64 ((q : Int) + 1) ∧ ∃ kk, w2 = wr.drewN kk) (fun _ i _ => n + 3 - (intOf i).toNat)
      case atStart => exact ⟨0, Nat.zero_le _, by rw [restF_zero], rfl, 0, rfl⟩
      case round =>
        obtain ⟨q, hq, rfl, rfl, kk, rfl⟩ := hrel
        by_cases hlt2 : q < n + 1
        · have hq1 : (q : Int) + 1 ≤ (n : Int) + 1 := by omega
          have hq2 : (q : Int) + 1 < (xs.length : Int) := by omega
          have hq0 : (0 : Int) ≤ (q : Int) + 1 := by omega
          have hx0 : wr.cell? ⟨b, q + 1, none⟩ = some (.int .i64 (co xs (q + 1))) := (hb.cell (p := ⟨b, q + 1, none⟩) hb2).trans (hcl.out (q + 1) (by omega))
          obtain ⟨z, hzq⟩ : ∃ z, z + q = n := ⟨n - q, by omega⟩
          have hy0 : wr.cell? ⟨g, z, none⟩ = some (.int .i64 (co L z)) := hrow.cell (k := z) (by rw [HLN.out]; omega)
          have hst := restF_step m (co xs) L n q
          rw [show n - q = z by omega] at hst
          have HST := Lib.hid hst
          have hnx : 0 ≤ co xs (q + 1) ∧ co xs (q + 1) < m := HN.out (q + 1)
          have hny : 0 ≤ co L z ∧ co L z < m := HLL z
          have hnr := restF_bd (show 0 < m by omega) (co xs) L n q
          generalize co xs (q + 1) = x at *
          generalize co L z = y at *
          obtain ⟨r, hr⟩ : ∃ r, r = restF m (co xs) L n q := ⟨_, rfl⟩
          rw [← hr] at hnr HST ⊢
          clear hr hst
          have hpa := prod_bd hnx.1 hnx.2 hny.1 hny.2 hm'
          have v1 : IntKind.i64.wrap (x * y) = x * y := IntWalk.i64_in _ (by omega)
          have v2 : IntKind.i64.wrap (r + x * y) = r + x * y := IntWalk.i64_in _ (by omega)
          have v3 : (r + x * y).tmod m = (r + x * y) % m := Int.tmod_eq_emod_of_nonneg (by omega)
          have v4 : IntKind.i64.wrap ((n : Int) + 1 - ((q : Int) + 1)) = (z : Int) := by rw [show (n : Int) + 1 - ((q : Int) + 1) = (z : Int) by omega]; exact IntWalk.i64_in _ (by omega)
          have v5 : IntKind.i64.wrap ((n : Int) - (q : Int)) = (z : Int) := by rw [show (n : Int) - (q : Int) = (z : Int) by omega]; exact IntWalk.i64_in _ (by omega)
          have v6 : (z : Int) < (n : Int) + 1 := by omega
          have v7 : ((q : Int) + 1).toNat = q + 1 := by omega
          have v8 : ¬ m = 0 := by omega
          have v9 : z < n + 1 := by omega
          go_wp2
          go_quiet (fail)
          clear v1 v2 v3 v4 v5
          go_wp2
          go_roundw
          case rel => exact ⟨q + 1, by omega, by rw [HST.out], by go_num, _, rfl⟩
          case measure => simp [intOf]; omega
        · have hqn : q = n + 1 := by omega
          subst hqn
          have hd5 : decide (((n + 1 : Nat) : Int) + 1 ≤ (n : Int) + 1) = false := by simp; omega
          have hd6 : decide ((n : Int) + 1 + 1 ≤ (n : Int) + 1) = false := by simp; omega
          have hnr := restF_bd (show 0 < m by omega) (co xs) L n (n + 1)
          obtain ⟨r, hr⟩ : ∃ r, r = restF m (co xs) L n (n + 1) := ⟨_, rfl⟩
          rw [← hr] at hnr HNX ⊢
          clear hr
          have hpa := mul_bd (show 0 ≤ m - r by omega) (show m - r ≤ 3000000000 by omega) hub.1 (show u ≤ 3000000000 by omega)
          have v1 : IntKind.i64.wrap (m - r) = m - r := IntWalk.i64_in _ (by omega)
          have v2 : IntKind.i64.wrap ((m - r) * u) = (m - r) * u := IntWalk.i64_in _ (by omega)
          have v3 : ((m - r) * u).tmod m = (m - r) * u % m := Int.tmod_eq_emod_of_nonneg (by omega)
          have v8 : ¬ m = 0 := by omega
          go_wp2_with (at_builtin; refine wpAppend1 _ _ w.heap.size (.slice (some ⟨g, 0, none⟩) (n + 1 : Nat) c') L (n + 1) ((m - r) * u % m) wr.heap.size (wr.heap.size + 1) (by rfl) (by rfl) (by rfl) (by rfl) (((hrow.drewN kk).alloc _).own' hg HLN.out) HLN.out (RowI.block1 _) (by omega) (by simp; omega) (by simp) ?_; intro gg cap w1 hown1 hge hgrow hat)
          go_roundw
          case rel =>
            refine ⟨n + 1, gg, cap, by omega, rfl, by go_num, hge, by rw [HNX.out]; exact hown1, ?_⟩
            refine Below.grown ((below_drewN hb kk).alloc hz _) hgrow (by simp; omega) fun b hb => ?_
            simp [Value.ownBlock] at hb
            omega
          case measure => simp [intOf]; omega
    · have hkn : n = xs.length - 1 := by omega
      have hR : RowI wr g c' zs := by rw [← HZ.out, ← hkn]; exact hrow
      have hly : Hid (zs.length = n + 1) := by unfold Hid; rw [← HZ.out, ← hkn, length_invTo]
      have hd5 : decide ((n : Int) + 1 ≤ d) = false := by simp; omega
      clear hkn
      go_wp2
      go_ret
      exact ⟨_, _, by rw [hly.out]; rfl, hR.own hg, hb⟩

theorem field1 (a : Value) (A : Option Addr) (n c : Nat) (w : World) : (Instr.field 26 (.agg #[a, .slice A n c]) 1).run Try.prog w = .ok (.slice A n c) w := by
  simp [Instr.field, go_sem, asAgg]
theorem inverse_b (m a : Int) (w : World) (hm : 2 ≤ m) (hm' : m ≤ 1000000000000000) : Calls Try.prog 97 #[.int .i64 m, .int .i64 a] w fun e w' => e = .returned (.int .i64 (invN m a)) ∧ Below w.heap.size w w' :=
  (inverse_any m a w hm hm').mono fun e w' h => by obtain ⟨h1, k, rfl⟩ := h; exact ⟨h1, below_drewN (Below.refl _ _) k⟩
set_option maxRecDepth 8000 in
set_option maxHeartbeats 8000000 in
theorem serInverse_any (w : World) (m : Int) (v : Value) (xs ys : List Int) (B : Nat) (hv : OwnI w B v xs) (hm : 2 ≤ m) (hm' : m ≤ 3000000000) (hn : NumL m xs) (hl0 : 2 ≤ xs.length) (hl : xs.length ≤ 1000) (hy : invL m xs = ys) :
    Calls Try.prog 83 #[.agg #[.int .i64 m, v]] w (NewS w m ys) := by
  obtain ⟨A, cp, e0, hc1, hc2, hA⟩ := hv.open_
  subst e0
  unfold maxLen at hc2
  obtain ⟨u, hu⟩ : ∃ u, u = invN m (co xs 0) := ⟨_, rfl⟩
  have hub := invN_bd (show 0 < m by omega) (co xs 0)
  rw [← hu] at hub
  have HZ : Hid (invTo m u (co xs) (xs.length - 1) = ys) := by rw [hu]; exact hy
  have HN := Lib.hid hn
  have HNI := Lib.hid (invTo_num (show 0 < m by omega) hub (co xs))
  obtain ⟨b, rfl, hb1, hb2, hcell0, hfr0⟩ := hA 0 (by omega)
  have hc0 : w.cell? ⟨b, 0, none⟩ = some (.int .i64 (co xs 0)) := hcell0
  have HV := Lib.hid hv
  have HU : Hid (invN m (co xs 0) = u) := hu.symm
  clear hn hv hu hA hcell0 hfr0 hy
  generalize co xs 0 = x0 at hc0 HU
  have hk2 : 0 < xs.length := by omega
  have hk3 : (0 : Int) < (xs.length : Int) := by omega
  have hk4 : ¬ xs.length = 0 := by omega
  go_enter Try.func83, Try.ntmps83
  go_upto_region 1 with fail
  obtain ⟨PW, QW, KW⟩ := Bf.first2 (w := w) (x := .int .i64 m) (y := .slice (some ⟨b, 0, none⟩) xs.length cp) (x' := .int .i64 0) (y' := .slice none 0 0) (t := 26) (t' := 26) (Below.refl _ _)
  have yW := QW.1.1
  generalize (w.alloc (.cells #[.int .i64 m, .slice (some ⟨b, 0, none⟩) xs.length cp] 26)).alloc (.cells #[.int .i64 0, .slice none 0 0] 26) = W at *
  have pa := PW.1.2.1
  have pb := PW.1.2.2
  have cW : W.cell? ⟨b, 0, none⟩ = some (.int .i64 x0) := (KW.cell (p := ⟨b, 0, none⟩) hb2).trans hc0
  have bW : b < W.heap.size := by omega
  clear hc0
  go_cut [3, 4] from 7 to 18 (fun s q wx => ∃ bo g : Nat, s = .pointer (some ⟨bo, 0, none⟩) ∧ q = .int .i64 u ∧ w.heap.size + 2 ≤ bo ∧ bo < wx.heap.size ∧ w.heap.size + 2 ≤ g ∧ g < wx.heap.size ∧ bo ≠ g ∧ Hid (Bf wx bo (.int .i64 m) (.slice (some ⟨g, 0, none⟩) xs.length xs.length)) ∧ Hid (RowI wx g xs.length (List.replicate xs.length 0)) ∧ Hid (Bf wx w.heap.size (.int .i64 m) (.slice (some ⟨b, 0, none⟩) xs.length cp)) ∧ Hid (Bf wx (w.heap.size + 1) (.int .i64 0) (.slice none 0 0)) ∧ Hid (Below w.heap.size w wx))
  case first =>
    go_region_held3 (fun w' => w'.cell? ⟨w.heap.size, 0, none⟩ = some (.int .i64 m) ∧ w'.cell? ⟨w.heap.size, 1, none⟩ = some (.slice (some ⟨b, 0, none⟩) xs.length cp) ∧ w'.cell? ⟨b, 0, none⟩ = some (.int .i64 x0))
      (first | go_keep | exact ⟨pa, pb, cW⟩ | exact ⟨p2a, p2b, c2⟩ | exact ⟨p3a, p3b, c3⟩ | exact ⟨p4a, p4b, c4⟩ | (refine (fun (h : Below W.heap.size W _) => ⟨(PW.keep h).1.2.1, (PW.keep h).1.2.2, (h.cell (p := ⟨b, 0, none⟩) bW).trans cW⟩) ?_; (repeat (first | assumption | exact Below.refl _ _ | (refine Below.alloc ?_ ?_ _; rotate_left; (focus (first | exact Nat.le_refl _ | omega | (simp; done) | (simp; omega)))) | (refine Below.setCell ?_ ?_ _; rotate_left; (focus (first | exact Nat.le_refl _ | omega | (simp; done) | (simp; omega)))) | refine below_drew ?_ | refine below_drewN ?_ _ | (refine Below.trans ?_ (Below.mono hb3 ?_); rotate_left; (focus (first | exact Nat.le_refl _ | omega | (simp; done) | (simp; omega)))) | (refine Below.trans ?_ (Below.mono hb5 ?_); rotate_left; (focus (first | exact Nat.le_refl _ | omega | (simp; done) | (simp; omega)))) | (refine Below.trans ?_ (Below.mono hb4 ?_); rotate_left; (focus (first | exact Nat.le_refl _ | omega | (simp; done) | (simp; omega))))))))
      (first | (go_at_call 54; refine (iDegree_any m (some ⟨b, 0, none⟩) xs.length cp _ (by omega)).mono ?_; rintro e w2 ⟨rfl, hb5⟩; have P2 : Bf w2 w.heap.size (.int .i64 m) (.slice (some ⟨b, 0, none⟩) xs.length cp) := (PW.keep (by (repeat (first | assumption | exact Below.refl _ _ | (refine Below.alloc ?_ ?_ _; rotate_left; (focus (first | exact Nat.le_refl _ | omega | (simp; done) | (simp; omega)))) | (refine Below.setCell ?_ ?_ _; rotate_left; (focus (first | exact Nat.le_refl _ | omega | (simp; done) | (simp; omega)))) | refine below_drew ?_ | refine below_drewN ?_ _ | (refine Below.trans ?_ (Below.mono hb5 ?_); rotate_left; (focus (first | exact Nat.le_refl _ | omega | (simp; done) | (simp; omega)))) | (refine Below.trans ?_ (Below.mono hb4 ?_); rotate_left; (focus (first | exact Nat.le_refl _ | omega | (simp; done) | (simp; omega)))))))); have p2a := P2.1.2.1; have p2b := P2.1.2.2; have c2 : w2.cell? ⟨b, 0, none⟩ = some (.int .i64 x0) := (Below.cell (p := ⟨b, 0, none⟩) (show Below W.heap.size W w2 by (repeat (first | assumption | exact Below.refl _ _ | (refine Below.alloc ?_ ?_ _; rotate_left; (focus (first | exact Nat.le_refl _ | omega | (simp; done) | (simp; omega)))) | (refine Below.setCell ?_ ?_ _; rotate_left; (focus (first | exact Nat.le_refl _ | omega | (simp; done) | (simp; omega)))) | refine below_drew ?_ | refine below_drewN ?_ _ | (refine Below.trans ?_ (Below.mono hb5 ?_); rotate_left; (focus (first | exact Nat.le_refl _ | omega | (simp; done) | (simp; omega)))) | (refine Below.trans ?_ (Below.mono hb4 ?_); rotate_left; (focus (first | exact Nat.le_refl _ | omega | (simp; done) | (simp; omega))))))) bW).trans cW; obtain ⟨hc2, hf2⟩ := bcell hb5; have z2 := hb5.size; (try simp at z2); (first | (have z2p : W.heap.size < w2.heap.size := (by omega)) | skip); (first | (have z2q : w4.heap.size < w2.heap.size := (by omega)) | skip)) | (go_at_call 60; refine (zero_any _ m _ xs.length (by omega) (by omega)).mono ?_; rintro e w3 ⟨g, rfl, hg2, hr2, hb3⟩; have P3 : Bf w3 w.heap.size (.int .i64 m) (.slice (some ⟨b, 0, none⟩) xs.length cp) := (PW.keep (by (repeat (first | assumption | exact Below.refl _ _ | (refine Below.alloc ?_ ?_ _; rotate_left; (focus (first | exact Nat.le_refl _ | omega | (simp; done) | (simp; omega)))) | (refine Below.setCell ?_ ?_ _; rotate_left; (focus (first | exact Nat.le_refl _ | omega | (simp; done) | (simp; omega)))) | refine below_drew ?_ | refine below_drewN ?_ _ | (refine Below.trans ?_ (Below.mono hb3 ?_); rotate_left; (focus (first | exact Nat.le_refl _ | omega | (simp; done) | (simp; omega)))) | (refine Below.trans ?_ (Below.mono hb5 ?_); rotate_left; (focus (first | exact Nat.le_refl _ | omega | (simp; done) | (simp; omega)))) | (refine Below.trans ?_ (Below.mono hb4 ?_); rotate_left; (focus (first | exact Nat.le_refl _ | omega | (simp; done) | (simp; omega)))))))); have p3a := P3.1.2.1; have p3b := P3.1.2.2; have c3 : w3.cell? ⟨b, 0, none⟩ = some (.int .i64 x0) := (Below.cell (p := ⟨b, 0, none⟩) (show Below W.heap.size W w3 by (repeat (first | assumption | exact Below.refl _ _ | (refine Below.alloc ?_ ?_ _; rotate_left; (focus (first | exact Nat.le_refl _ | omega | (simp; done) | (simp; omega)))) | (refine Below.setCell ?_ ?_ _; rotate_left; (focus (first | exact Nat.le_refl _ | omega | (simp; done) | (simp; omega)))) | refine below_drew ?_ | refine below_drewN ?_ _ | (refine Below.trans ?_ (Below.mono hb3 ?_); rotate_left; (focus (first | exact Nat.le_refl _ | omega | (simp; done) | (simp; omega)))) | (refine Below.trans ?_ (Below.mono hb5 ?_); rotate_left; (focus (first | exact Nat.le_refl _ | omega | (simp; done) | (simp; omega)))) | (refine Below.trans ?_ (Below.mono hb4 ?_); rotate_left; (focus (first | exact Nat.le_refl _ | omega | (simp; done) | (simp; omega))))))) bW).trans cW; obtain ⟨hc3, hf3⟩ := bcell hb3; have z3 := hb3.size; (try simp at z3); (try simp at hg2); (first | (have z3p : W.heap.size < w3.heap.size := (by omega)) | skip); (first | (have z3q : w2.heap.size < w3.heap.size := (by omega)) | skip); (first | (have z3r : w4.heap.size < w3.heap.size := (by omega)) | skip)) | (go_at_call 97; refine (inverse_b m x0 _ (by omega) (by omega)).mono ?_; rintro e w4 ⟨rfl, hb4⟩; rw [HU.out]; have P4 : Bf w4 w.heap.size (.int .i64 m) (.slice (some ⟨b, 0, none⟩) xs.length cp) := (PW.keep (by (repeat (first | assumption | exact Below.refl _ _ | (refine Below.alloc ?_ ?_ _; rotate_left; (focus (first | exact Nat.le_refl _ | omega | (simp; done) | (simp; omega)))) | (refine Below.setCell ?_ ?_ _; rotate_left; (focus (first | exact Nat.le_refl _ | omega | (simp; done) | (simp; omega)))) | refine below_drew ?_ | refine below_drewN ?_ _ | (refine Below.trans ?_ (Below.mono hb3 ?_); rotate_left; (focus (first | exact Nat.le_refl _ | omega | (simp; done) | (simp; omega)))) | (refine Below.trans ?_ (Below.mono hb5 ?_); rotate_left; (focus (first | exact Nat.le_refl _ | omega | (simp; done) | (simp; omega)))) | (refine Below.trans ?_ (Below.mono hb4 ?_); rotate_left; (focus (first | exact Nat.le_refl _ | omega | (simp; done) | (simp; omega)))))))); have p4a := P4.1.2.1; have p4b := P4.1.2.2; have c4 : w4.cell? ⟨b, 0, none⟩ = some (.int .i64 x0) := (Below.cell (p := ⟨b, 0, none⟩) (show Below W.heap.size W w4 by (repeat (first | assumption | exact Below.refl _ _ | (refine Below.alloc ?_ ?_ _; rotate_left; (focus (first | exact Nat.le_refl _ | omega | (simp; done) | (simp; omega)))) | (refine Below.setCell ?_ ?_ _; rotate_left; (focus (first | exact Nat.le_refl _ | omega | (simp; done) | (simp; omega)))) | refine below_drew ?_ | refine below_drewN ?_ _ | (refine Below.trans ?_ (Below.mono hb3 ?_); rotate_left; (focus (first | exact Nat.le_refl _ | omega | (simp; done) | (simp; omega)))) | (refine Below.trans ?_ (Below.mono hb5 ?_); rotate_left; (focus (first | exact Nat.le_refl _ | omega | (simp; done) | (simp; omega)))) | (refine Below.trans ?_ (Below.mono hb4 ?_); rotate_left; (focus (first | exact Nat.le_refl _ | omega | (simp; done) | (simp; omega))))))) bW).trans cW; obtain ⟨hc4, hf4⟩ := bcell hb4; have z4 := hb4.size; (try simp at z4); (first | (have z4p : W.heap.size < w4.heap.size := (by omega)) | skip); (first | (have z4q : w2.heap.size < w4.heap.size := (by omega)) | skip); (first | (have z4r : w3.heap.size < w4.heap.size := (by omega)) | skip)))
    all_goals
      go_wp2_with fail
      go_meet
      have zg := hr2.lt
      refine ⟨_, g, rfl, rfl, ?_, ?_, ?_, ?_, ?_, ?_, ?_, ?_, ?_, ?_⟩
      · first | omega | (simp; done) | (simp; omega)
      · first | omega | (simp; done) | (simp; omega) | (simp [World.setCell]; omega)
      · first | omega | (simp; omega)
      · first | omega | (simp; done) | (simp; omega) | (simp [World.setCell]; omega)
      · first | omega | (simp; omega)
      · unfold Hid
        first | exact Bf.alloc1 _ _ _ _ | exact ((Bf.alloc1 w3 _ _ _).keep hb4).store2 | exact (((Bf.alloc1 w2 _ _ _).keep hb3).keep hb4).store2 | exact ((((Bf.alloc1 W _ _ _).keep (below_undrew hb5)).keep hb3).keep hb4).store2 | (refine (Bf.alloc1 _ _ _ _).keep ?hx; case hx => (repeat (first | assumption | exact Below.refl _ _ | (refine Below.alloc ?_ ?_ _; rotate_left; (focus (first | exact Nat.le_refl _ | omega | (simp; done) | (simp; omega)))) | (refine Below.setCell ?_ ?_ _; rotate_left; (focus (first | exact Nat.le_refl _ | omega | (simp; done) | (simp; omega)))) | refine below_drew ?_ | refine below_drewN ?_ _ | (refine Below.trans ?_ (Below.mono hb3 ?_); rotate_left; (focus (first | exact Nat.le_refl _ | omega | (simp; done) | (simp; omega)))) | (refine Below.trans ?_ (Below.mono hb5 ?_); rotate_left; (focus (first | exact Nat.le_refl _ | omega | (simp; done) | (simp; omega)))) | (refine Below.trans ?_ (Below.mono hb4 ?_); rotate_left; (focus (first | exact Nat.le_refl _ | omega | (simp; done) | (simp; omega))))))) | (refine ((Bf.alloc1 _ _ _ _).keep ?hx).store2; case hx => (repeat (first | assumption | exact Below.refl _ _ | (refine Below.alloc ?_ ?_ _; rotate_left; (focus (first | exact Nat.le_refl _ | omega | (simp; done) | (simp; omega)))) | (refine Below.setCell ?_ ?_ _; rotate_left; (focus (first | exact Nat.le_refl _ | omega | (simp; done) | (simp; omega)))) | refine below_drew ?_ | refine below_drewN ?_ _ | (refine Below.trans ?_ (Below.mono hb3 ?_); rotate_left; (focus (first | exact Nat.le_refl _ | omega | (simp; done) | (simp; omega)))) | (refine Below.trans ?_ (Below.mono hb5 ?_); rotate_left; (focus (first | exact Nat.le_refl _ | omega | (simp; done) | (simp; omega)))) | (refine Below.trans ?_ (Below.mono hb4 ?_); rotate_left; (focus (first | exact Nat.le_refl _ | omega | (simp; done) | (simp; omega)))))))
      · unfold Hid
        first | exact ((hr2.below hb4 zg).far (p := ⟨w2.heap.size, 0, none⟩) (by simp; omega) _).far (p := ⟨w2.heap.size, 1, none⟩) (by simp; omega) _ | exact ((hr2.below hb4 zg).far (p := ⟨W.heap.size, 0, none⟩) (by simp; omega) _).far (p := ⟨W.heap.size, 1, none⟩) (by simp; omega) _ | (refine hr2.below ?hx zg; case hx => ((repeat (first | assumption | exact Below.refl _ _ | (refine Below.alloc ?_ ?_ _; rotate_left; (focus (first | exact Nat.le_refl _ | omega | (simp; done) | (simp; omega)))) | (refine Below.setCell ?_ ?_ _; rotate_left; (focus (first | exact Nat.le_refl _ | omega | (simp; done) | (simp; omega)))) | refine below_drew ?_ | refine below_drewN ?_ _ | (refine Below.trans ?_ (Below.mono hb3 ?_); rotate_left; (focus (first | exact Nat.le_refl _ | omega | (simp; done) | (simp; omega)))) | (refine Below.trans ?_ (Below.mono hb5 ?_); rotate_left; (focus (first | exact Nat.le_refl _ | omega | (simp; done) | (simp; omega)))) | (refine Below.trans ?_ (Below.mono hb4 ?_); rotate_left; (focus (first | exact Nat.le_refl _ | omega | (simp; done) | (simp; omega)))))); done)) | (refine ((hr2.below ?hx zg).far ?hy _).far ?hz _; case hx => (repeat (first | assumption | exact Below.refl _ _ | (refine Below.alloc ?_ ?_ _; rotate_left; (focus (first | exact Nat.le_refl _ | omega | (simp; done) | (simp; omega)))) | (refine Below.setCell ?_ ?_ _; rotate_left; (focus (first | exact Nat.le_refl _ | omega | (simp; done) | (simp; omega)))) | refine below_drew ?_ | refine below_drewN ?_ _ | (refine Below.trans ?_ (Below.mono hb3 ?_); rotate_left; (focus (first | exact Nat.le_refl _ | omega | (simp; done) | (simp; omega)))) | (refine Below.trans ?_ (Below.mono hb5 ?_); rotate_left; (focus (first | exact Nat.le_refl _ | omega | (simp; done) | (simp; omega)))) | (refine Below.trans ?_ (Below.mono hb4 ?_); rotate_left; (focus (first | exact Nat.le_refl _ | omega | (simp; done) | (simp; omega)))))); case hy => (first | omega | (simp; omega)); case hz => (first | omega | (simp; omega)))
      · exact PW.keep (by (repeat (first | assumption | exact Below.refl _ _ | (refine Below.alloc ?_ ?_ _; rotate_left; (focus (first | exact Nat.le_refl _ | omega | (simp; done) | (simp; omega)))) | (refine Below.setCell ?_ ?_ _; rotate_left; (focus (first | exact Nat.le_refl _ | omega | (simp; done) | (simp; omega)))) | refine below_drew ?_ | refine below_drewN ?_ _ | (refine Below.trans ?_ (Below.mono hb3 ?_); rotate_left; (focus (first | exact Nat.le_refl _ | omega | (simp; done) | (simp; omega)))) | (refine Below.trans ?_ (Below.mono hb5 ?_); rotate_left; (focus (first | exact Nat.le_refl _ | omega | (simp; done) | (simp; omega)))) | (refine Below.trans ?_ (Below.mono hb4 ?_); rotate_left; (focus (first | exact Nat.le_refl _ | omega | (simp; done) | (simp; omega)))))))
      · exact QW.keep (by (repeat (first | assumption | exact Below.refl _ _ | (refine Below.alloc ?_ ?_ _; rotate_left; (focus (first | exact Nat.le_refl _ | omega | (simp; done) | (simp; omega)))) | (refine Below.setCell ?_ ?_ _; rotate_left; (focus (first | exact Nat.le_refl _ | omega | (simp; done) | (simp; omega)))) | refine below_drew ?_ | refine below_drewN ?_ _ | (refine Below.trans ?_ (Below.mono hb3 ?_); rotate_left; (focus (first | exact Nat.le_refl _ | omega | (simp; done) | (simp; omega)))) | (refine Below.trans ?_ (Below.mono hb5 ?_); rotate_left; (focus (first | exact Nat.le_refl _ | omega | (simp; done) | (simp; omega)))) | (refine Below.trans ?_ (Below.mono hb4 ?_); rotate_left; (focus (first | exact Nat.le_refl _ | omega | (simp; done) | (simp; omega)))))))
      · (repeat (first | assumption | exact Below.refl _ _ | (refine Below.alloc ?_ ?_ _; rotate_left; (focus (first | exact Nat.le_refl _ | omega | (simp; done) | (simp; omega)))) | (refine Below.setCell ?_ ?_ _; rotate_left; (focus (first | exact Nat.le_refl _ | omega | (simp; done) | (simp; omega)))) | refine below_drew ?_ | refine below_drewN ?_ _ | (refine Below.trans ?_ (Below.mono hb3 ?_); rotate_left; (focus (first | exact Nat.le_refl _ | omega | (simp; done) | (simp; omega)))) | (refine Below.trans ?_ (Below.mono hb5 ?_); rotate_left; (focus (first | exact Nat.le_refl _ | omega | (simp; done) | (simp; omega)))) | (refine Below.trans ?_ (Below.mono hb4 ?_); rotate_left; (focus (first | exact Nat.le_refl _ | omega | (simp; done) | (simp; omega)))) | (refine Below.trans ?_ (Below.mono KW ?_); rotate_left; (focus (first | exact Nat.le_refl _ | omega | (simp; done) | (simp; omega))))))
  case rest =>
    obtain ⟨bo, g, rfl, rfl, hbo1, hbo2, hg1, hg2, hne, HO, HR, HP, HQ, HB⟩ := hcut
    have p1 := HP.out.1.2.1
    have p2 := HP.out.1.2.2
    have o1 := HO.out.1.2.1
    have o2 := HO.out.1.2.2
    have hd0 := HR.out.cell (k := 0) (by simp; omega)
    have hf0 := HR.out.free 0
    obtain ⟨y0, hy0⟩ : ∃ y0, y0 = (List.replicate xs.length (0 : Int)).getD 0 0 := ⟨_, rfl⟩
    rw [← hy0] at hd0
    clear hy0
    have R0 := HR.out.set_ 0 u
    rw [inv_start m u (co xs)] at R0
    have O0 := HO.out.setCell (p := ⟨g, 0, none⟩) (by simp; omega) (.int .i64 u)
    have P0 := HP.out.setCell (p := ⟨g, 0, none⟩) (by simp; omega) (.int .i64 u)
    have Q0 := HQ.out.setCell (p := ⟨g, 0, none⟩) (by simp; omega) (.int .i64 u)
    have B0 := HB.out.setCell (p := ⟨g, 0, none⟩) (by simp; omega) (.int .i64 u)
    clear PW QW KW pa pb cW
    go_wp2
    clear p1 p2 o1 o2 hd0 hf0
    go_loopw [5] (fun i wr => ∃ n : Nat, n + 1 ≤ xs.length ∧ i = .int .i64 ((n : Int) + 1) ∧ Hid (Bf wr bo (.int .i64 m) (.slice (some ⟨g, 0, none⟩) xs.length xs.length)) ∧ Hid (RowI wr g xs.length (lst xs.length (co (invTo m u (co xs) n)))) ∧ Hid (Bf wr w.heap.size (.int .i64 m) (.slice (some ⟨b, 0, none⟩) xs.length cp)) ∧ Hid (Bf wr (w.heap.size + 1) (.int .i64 0) (.slice none 0 0)) ∧ Hid (Below w.heap.size w wr)) (fun i _ => xs.length + 1 - (intOf i).toNat)
    case atStart => exact ⟨0, by omega, rfl, O0, R0, P0, Q0, B0⟩
    case round =>
      clear HO HR HP HQ HB R0 O0 P0 Q0 B0
      obtain ⟨n, hn, rfl, HO, HR, HP, HQ, HB⟩ := hrel
      have p1 := HP.out.1.2.1
      have p2 := HP.out.1.2.2
      have zB := HB.out.size
      have zP := HP.out.1.1
      have zQ := HQ.out.1.1
      have zO := HO.out.1.1
      have zR := HR.out.lt
      by_cases hlt : n + 1 < xs.length
      · have hlt1 : (n : Int) + 1 ≤ (xs.length : Int) - 1 := by omega
        have HRE := Lib.hid (rest_eq m u (co xs) n xs.length hlt)
        have HNX := Lib.hid (inv_next m u (co xs) n xs.length hlt)
        have HLL : Hid (NumL m (lst xs.length (co (invTo m u (co xs) n)))) := NumL.lst (by omega) fun k _ => HNI.out n k
        go_wp2_with (go_at_call 54; refine (iDegree_any m (some ⟨b, 0, none⟩) xs.length cp _ (by omega)).mono ?_; rintro e w1 ⟨rfl, hb3⟩; have P1 := HP.out.keep hb3; have O1 := HO.out.keep hb3; have p1a := P1.1.2.1; have p1b := P1.1.2.2; have o1a := O1.1.2.1; have o1b := O1.1.2.2)
        have Q1 := HQ.out.keep hb3
        have R1 := HR.out.below hb3 zR
        have K1 := HB.out.trans (hb3.mono zB)
        have z1 := hb3.size
        refine (times_any w1 m m (.slice (some ⟨b, 0, none⟩) xs.length cp) (.slice (some ⟨g, 0, none⟩) xs.length xs.length) xs (lst xs.length (co (invTo m u (co xs) n))) (timesL m xs.length xs (lst xs.length (co (invTo m u (co xs) n)))) xs.length B w.heap.size (HV.out.keep K1 (Nat.le_refl _)) (R1.own' (by omega) (length_lst _ _)) hm hm' HN.out HLL.out rfl (length_lst _ _) (by omega) hl rfl).mono ?_
        rintro e w5 ⟨A5, c5, rfl, o5, hb5⟩
        rw [length_timesL] at o5 ⊢
        have P5 := P1.keep hb5
        have O5 := O1.keep hb5
        have Q5 := Q1.keep hb5
        have R5 := R1.below hb5 (by omega)
        have K5 := K1.trans (hb5.mono (by omega))
        have p5a := P5.1.2.1
        have o5b := O5.1.2.2
        obtain ⟨A6, c6, e6, h6a, h6b, h6⟩ := o5.open_
        rw [length_timesL] at e6 h6a h6
        obtain ⟨g5, rfl, hg5, hg5', hcell5, _⟩ := h6 (n + 1) hlt
        injection e6 with e6a e6b e6c
        subst e6a e6c
        rw [timesL, getD_lst _ _ _ hlt, HRE.out] at hcell5
        have hsb := restF_bd (show 0 < m by omega) (co xs) (invTo m u (co xs) n) n (n + 1)
        have hd0 := R5.cell (k := n + 1) (by rw [length_lst]; exact hlt)
        have hf0 := R5.free (n + 1)
        obtain ⟨y1, hy1⟩ : ∃ y1, y1 = (lst xs.length (co (invTo m u (co xs) n))).getD (n + 1) 0 := ⟨_, rfl⟩
        rw [← hy1] at hd0
        obtain ⟨r, hr⟩ : ∃ r, r = restF m (co xs) (invTo m u (co xs) n) n (n + 1) := ⟨_, rfl⟩
        rw [← hr] at hsb hcell5 HNX
        clear hy1 hr p1a p1b o1a o1b p1 p2
        have hru1 : 0 ≤ r * u % m := Int.emod_nonneg _ (by omega)
        have hru2 : r * u % m < m := Int.emod_lt_of_pos _ (by omega)
        have v1 : IntKind.i64.wrap (-(r * u % m)) = -(r * u % m) := IntWalk.i64_in _ (by omega)
        have v4 : (0 : Int) ≤ (n : Int) + 1 := by omega
        have v5 : (n : Int) + 1 < (xs.length : Int) := by omega
        have v7 : ((n : Int) + 1).toNat = n + 1 := by omega
        have hfl : ∀ w' : World, (Instr.field 26 (.agg #[.int .i64 m, .slice (some ⟨g5, 0, none⟩) xs.length c5]) 1).run Try.prog w' = .ok (.slice (some ⟨g5, 0, none⟩) xs.length c5) w' := fun _ => field1 _ _ _ _ _
        have ne1 : (⟨g, n + 1, none⟩ : Addr) ≠ ⟨w.heap.size, 0, none⟩ := by first | (simp; done) | (simp; omega)
        have ne2 : (⟨g, n + 1, none⟩ : Addr) ≠ ⟨bo, 1, none⟩ := by first | (simp; done) | (simp; omega)
        go_wp2
        go_region_held3 (fun w' => w'.cell? ⟨w.heap.size, 0, none⟩ = some (.int .i64 m) ∧ w'.cell? ⟨bo, 1, none⟩ = some (.slice (some ⟨g, 0, none⟩) xs.length xs.length))
          ((first | exact ⟨p5a, o5b⟩ | exact ⟨(World.cell?_setCell_other _ _ _ _ ne1).trans p5a, (World.cell?_setCell_other _ _ _ _ ne2).trans o5b⟩ | go_keep))
          (first | (go_at_call 104; refine (mul_any m r u _ (by omega) (by omega) hsb.1 hsb.2 hub.1 hub.2).mono ?_; rintro e w6 ⟨rfl, rfl⟩) | (go_at_call 90; refine (mod_any (-(r * u % m)) m _ (by omega) (by omega)).mono ?_; rintro e w7 ⟨rfl, k7, rfl⟩; rw [neg_form]))
        go_wp2
        go_roundw
        case rel =>
          refine ⟨n + 1, by omega, by go_num, O5.setCell (by simp; omega) _, ?_, P5.setCell (by simp; omega) _, Q5.setCell (by simp; omega) _, ?_⟩
          · unfold Hid
            rw [← HNX.out]
            exact R5.set_ (n + 1) _
          · exact Below.setCell (below_drewN K5 _) (by simp; omega) _
        case measure => simp [intOf]; omega
      · have hkn : n = xs.length - 1 := by omega
        have hR : RowI wr g xs.length ys := by
          rw [← HZ.out, ← hkn]
          have := HR.out
          rwa [show xs.length = n + 1 by omega, inv_all, ← show xs.length = n + 1 by omega] at this
        have hly : Hid (ys.length = xs.length) := by unfold Hid; rw [← HZ.out, length_invTo]; omega
        have hd5 : decide ((n : Int) + 1 ≤ (xs.length : Int) - 1) = false := by simp; omega
        clear hkn
        go_wp2_with (go_at_call 54; refine (iDegree_any m (some ⟨b, 0, none⟩) xs.length cp _ (by omega)).mono ?_; rintro e w1 ⟨rfl, hb3⟩; have O1 := HO.out.keep hb3; have o1a := O1.1.2.1; have o1b := O1.1.2.2; have Q1 := HQ.out.keep hb3; have q1 := Q1.1.2.1; have q2 := Q1.1.2.2; have q3 := Q1.2.1; have q4 := Q1.2.2; have R1 := hR.below hb3 zR; have K1 := HB.out.trans (hb3.mono zB))
        refine bodyPost_ret (v := .agg #[.int .i64 m, .slice (some ⟨g, 0, none⟩) xs.length xs.length]) (by simp [results, Try.results83, go_sem, q1, q2]) rfl ⟨some ⟨g, 0, none⟩, xs.length, by rw [hly.out], ?_, ?_⟩
        · rw [hly.out]
          have := ((R1.far (p := ⟨w.heap.size + 1, 0, none⟩) (by simp; omega) (.int .i64 m)).far (p := ⟨w.heap.size + 1, 1, none⟩) (by simp; omega) (.slice (some ⟨g, 0, none⟩) xs.length xs.length)).own (B := w.heap.size) (by omega)
          rw [hly.out] at this
          exact this
        · exact (K1.setCell (by simp) _).setCell (by simp) _

theorem isUnit_quiet (m a : Int) (w : World) (h1 : 0 ≤ m) (h2 : m ≤ 1000000000000000000) (h3 : -1000000000000000000 ≤ a) (h4 : a ≤ 1000000000000000000) (b : Bool) (hb : Hid (unitB m a = b)) : Calls Try.prog 82 #[.int .i64 m, .int .i64 a] w fun e w' => e = .returned (.bool b) ∧ ∃ n, w' = w.drewN n := by
  have := isUnit_any m a w h1 h2 h3 h4
  rwa [hb.out] at this
theorem l01Unit_quiet (m a : Int) (w : World) (h1 : 0 ≤ m) (h2 : m ≤ 1000000000000000000) (h3 : -1000000000000000000 ≤ a) (h4 : a ≤ 1000000000000000000) (b : Bool) (hb : Hid (unitB m a = b)) : Calls Try.prog 80 #[.int .i64 m, .int .i64 a] w fun e w' => e = .returned (.bool b) ∧ ∃ n, w' = w.drewN n := by
  have := l01Unit_any m a w h1 h2 h3 h4
  rwa [hb.out] at this
def InverseOfSeriesR (m : Int) (xs : List Int) : (Int × List Int) × Int := if isSer m xs = false then ((0, []), 1) else if unitB m (co xs 0) = false then ((0, []), 5) else ((m, invL m xs), 0)
theorem InverseOfSeriesR_len (m : Int) (xs : List Int) : (InverseOfSeriesR m xs).1.2.length ≤ 100 := by
  unfold InverseOfSeriesR
  cases h : isSer m xs
  · simp
  · have := (isSer_true h).2.1
    split
    · simp
    · split
      · simp
      · simp only [length_invL m xs (by omega)]; omega
set_option maxHeartbeats 1000000 in
theorem iInverseOfSeriesR_any (w : World) (m : Int) (v : Value) (xs : List Int) (B : Nat) (hv : OwnI w B v xs) (hl : xs.length ≤ 2000000) : Calls Try.prog 41 #[.agg #[.int .i64 m, v]] w (RetSI w (InverseOfSeriesR m xs)) := by
  obtain ⟨A, cp, e0, hcap1, hcap2, hAA⟩ := hv.open_
  subst e0
  unfold maxLen at hcap2
  cases hs : isSer m xs
  · have HF : InverseOfSeriesR m xs = ((0, []), 1) := by simp [InverseOfSeriesR, hs]
    rw [HF]
    clear HF hAA
    have HS := Lib.hid hs
    clear hs
    go_enter Try.func41, Try.ntmps41
    go_wp2_with (go_at_call 53; refine (iIsSeries_any m _ _ xs B (OwnI.keep hv (by (repeat (first | assumption | exact Below.refl _ _ | refine Below.alloc ?_ (by first | omega | (simp; done) | (simp; omega)) _ | refine Below.setCell ?_ (by first | omega | (simp; done) | (simp; omega)) _ | refine below_drewN ?_ _))) (Nat.le_refl _)) (by omega)).mono ?_; rintro e w1 ⟨rfl, hb1⟩; rw [HS.out]; obtain ⟨P1, Q1, K1⟩ := Bf.first2 hb1; have p1a := P1.1.2.1; have p1b := P1.1.2.2; have z1 := P1.1.1; have q1a := Q1.1.2.1; have q1b := Q1.1.2.2; have q1c := Q1.2.1; have q1d := Q1.2.2; have y1 := Q1.1.1)
    exact bodyPost_ret (v := .tuple #[.agg #[.int .i64 0, .slice none 0 0], .int .i64 1]) (by simp [results, Try.results41, go_sem, q1a, q1b]) rfl ⟨none, 0, rfl, OwnI.nil_ _ _, by (repeat (first | assumption | exact Below.refl _ _ | refine Below.alloc ?_ (by first | omega | (simp; done) | (simp; omega)) _ | refine Below.setCell ?_ (by first | omega | (simp; done) | (simp; omega)) _ | refine below_drewN ?_ _))⟩
  · obtain ⟨hm, ⟨hl1, hl2⟩, hn⟩ := isSer_true hs
    have hmb := isModB_true hm
    have HNL := Lib.hid (isSer_NumL hs)
    obtain ⟨b, rfl, hb1, hb2, hcell0, hfr0⟩ := hAA 0 (by omega)
    have hc0 : w.cell? ⟨b, 0, none⟩ = some (.int .i64 (co xs 0)) := hcell0
    have hx0 : 0 ≤ co xs 0 ∧ co xs 0 < m := HNL.out 0
    have hxl : 0 < xs.length := by omega
    have hxl2 : (0 : Int) < (xs.length : Int) := by omega
    have hxl3 : ¬ xs.length = 0 := by omega
    have HS := Lib.hid hs
    obtain ⟨x0, hx⟩ : ∃ x0, x0 = co xs 0 := ⟨_, rfl⟩
    rw [← hx] at hc0 hx0
    cases hd : unitB m (co xs 0)
    · have HF : InverseOfSeriesR m xs = ((0, []), 5) := by simp [InverseOfSeriesR, hs, hd]
      rw [HF]
      clear HF
      have HD : Hid (unitB m x0 = false) := by unfold Hid; rw [hx]; exact hd
      clear hs hd hm hn hx hAA hcell0 hfr0
      go_enter Try.func41, Try.ntmps41
      go_wp2_with (go_at_call 53; refine (iIsSeries_any m _ _ xs B (OwnI.keep hv (by (repeat (first | assumption | exact Below.refl _ _ | refine Below.alloc ?_ (by first | omega | (simp; done) | (simp; omega)) _ | refine Below.setCell ?_ (by first | omega | (simp; done) | (simp; omega)) _ | refine below_drewN ?_ _))) (Nat.le_refl _)) (by omega)).mono ?_; rintro e w1 ⟨rfl, hb1⟩; rw [HS.out]; obtain ⟨P1, Q1, K1⟩ := Bf.first2 hb1; have p1a := P1.1.2.1; have p1b := P1.1.2.2; have z1 := P1.1.1; have q1a := Q1.1.2.1; have q1b := Q1.1.2.2; have q1c := Q1.2.1; have q1d := Q1.2.2; have y1 := Q1.1.1; have c1 := (K1.cell (p := ⟨b, 0, none⟩) hb2).trans hc0)
      go_quiet ((go_at_call 82; exact Calls.quiet_of (isUnit_quiet m x0 _ (by omega) (by omega) (by omega) (by omega) false HD)))
      go_wp2
      exact bodyPost_ret (v := .tuple #[.agg #[.int .i64 0, .slice none 0 0], .int .i64 5]) (by simp [results, Try.results41, go_sem, q1a, q1b]) rfl ⟨none, 0, rfl, OwnI.nil_ _ _, by (repeat (first | assumption | exact Below.refl _ _ | refine Below.alloc ?_ (by first | omega | (simp; done) | (simp; omega)) _ | refine Below.setCell ?_ (by first | omega | (simp; done) | (simp; omega)) _ | refine below_drewN ?_ _))⟩
    · obtain ⟨ys, hy⟩ : ∃ ys, invL m xs = ys := ⟨_, rfl⟩
      have HF : InverseOfSeriesR m xs = ((m, ys), 0) := by simp only [InverseOfSeriesR, hs, hd, hy]; simp
      rw [HF]
      clear HF
      have HY := Lib.hid hy
      have HD : Hid (unitB m x0 = true) := by unfold Hid; rw [hx]; exact hd
      clear hs hd hm hn hy hx hAA hcell0 hfr0
      go_enter Try.func41, Try.ntmps41
      go_wp2_with (go_at_call 53; refine (iIsSeries_any m _ _ xs B (OwnI.keep hv (by (repeat (first | assumption | exact Below.refl _ _ | refine Below.alloc ?_ (by first | omega | (simp; done) | (simp; omega)) _ | refine Below.setCell ?_ (by first | omega | (simp; done) | (simp; omega)) _ | refine below_drewN ?_ _))) (Nat.le_refl _)) (by omega)).mono ?_; rintro e w1 ⟨rfl, hb1⟩; rw [HS.out]; obtain ⟨P1, Q1, K1⟩ := Bf.first2 hb1; have p1a := P1.1.2.1; have p1b := P1.1.2.2; have z1 := P1.1.1; have q1a := Q1.1.2.1; have q1b := Q1.1.2.2; have q1c := Q1.2.1; have q1d := Q1.2.2; have y1 := Q1.1.1; have c1 := (K1.cell (p := ⟨b, 0, none⟩) hb2).trans hc0)
      go_quiet ((go_at_call 82; exact Calls.quiet_of (isUnit_quiet m x0 _ (by omega) (by omega) (by omega) (by omega) true HD)))
      obtain ⟨P2, Q2, K2⟩ : Bf (w1.drewN nq) w.heap.size (.int .i64 m) (.slice (some ⟨b, 0, none⟩) xs.length cp) ∧ Bf (w1.drewN nq) (w.heap.size + 1) (.int .i64 0) (.slice none 0 0) ∧ Below w.heap.size w (w1.drewN nq) := ⟨P1.drewN nq, Q1.drewN nq, below_drewN K1 nq⟩
      have hv2 := hv.keep K2 (Nat.le_refl _)
      have z2 := P2.1.1
      have y2 := Q2.1.1
      have p2a := P2.1.2.1
      have p2b := P2.1.2.2
      clear P1 Q1 K1 p1a p1b q1a q1b q1c q1d z1 y1 c1 hb1
      generalize w1.drewN nq = w2 at *
      clear w1
      go_wp2_with fail
      refine (serInverse_any _ m _ xs ys B hv2 (by omega) (by omega) HNL.out (by omega) (by omega) HY.out).mono ?_
      rintro e w3 ⟨A3, c3, rfl, o3, hb3⟩
      have R3 : Below w2.heap.size w2 w3 := (Below.trans (by (repeat (first | assumption | exact Below.refl _ _ | refine Below.alloc ?_ (by first | omega | (simp; done) | (simp; omega)) _ | refine Below.setCell ?_ (by first | omega | (simp; done) | (simp; omega)) _ | refine below_drewN ?_ _))) (hb3.mono (by first | exact Nat.le_refl _ | (simp; done) | (simp; omega)))); have s3 := R3.size; have K3 : Below w.heap.size w w3 := K2.trans (R3.mono K2.size); have P3 := P2.keep R3; have Q3 := Q2.keep R3; have p3a := P3.1.2.1; have p3b := P3.1.2.2; have z3 := P3.1.1; have q3a := Q3.1.2.1; have q3b := Q3.1.2.2; have q3c := Q3.2.1; have q3d := Q3.2.2; have y3 := Q3.1.1
      go_wp2
      exact bodyPost_ret (v := .tuple #[.agg #[.int .i64 m, .slice A3 ys.length c3], .int .i64 0]) (by simp [results, Try.results41, go_sem, q3a, q3b]) rfl ⟨A3, c3, rfl, ((o3.setCell_lt (by show _ < w2.heap.size; exact y2) _).setCell_lt (by show _ < w2.heap.size; exact y2) _).mono (by show w.heap.size ≤ w2.heap.size; omega), by (repeat (first | assumption | exact Below.refl _ _ | refine Below.alloc ?_ (by first | omega | (simp; done) | (simp; omega)) _ | refine Below.setCell ?_ (by first | omega | (simp; done) | (simp; omega)) _ | refine below_drewN ?_ _))⟩
set_option maxHeartbeats 1000000 in
theorem sInverseOfSeriesR_any (w : World) (m : Int) (v : Value) (xs : List Int) (B : Nat) (hv : OwnI w B v xs) (hl : xs.length ≤ 2000000) : Calls Try.prog 40 #[.agg #[.int .i64 m, v]] w (RetSI w (InverseOfSeriesR m xs)) := by
  obtain ⟨A, cp, e0, hcap1, hcap2, hAA⟩ := hv.open_
  subst e0
  unfold maxLen at hcap2
  cases hs : isSer m xs
  · have HF : InverseOfSeriesR m xs = ((0, []), 1) := by simp [InverseOfSeriesR, hs]
    rw [HF]
    clear HF hAA
    have HS := Lib.hid hs
    clear hs
    go_enter Try.func40, Try.ntmps40
    go_wp2_with (go_at_call 49; refine (l02Is_any m _ _ xs B (OwnI.keep hv (by (repeat (first | assumption | exact Below.refl _ _ | refine Below.alloc ?_ (by first | omega | (simp; done) | (simp; omega)) _ | refine Below.setCell ?_ (by first | omega | (simp; done) | (simp; omega)) _ | refine below_drewN ?_ _))) (Nat.le_refl _)) (by omega)).mono ?_; rintro e w1 ⟨rfl, hb1⟩; rw [HS.out]; obtain ⟨P1, Q1, K1⟩ := Bf.first2 hb1; have p1a := P1.1.2.1; have p1b := P1.1.2.2; have z1 := P1.1.1; have q1a := Q1.1.2.1; have q1b := Q1.1.2.2; have q1c := Q1.2.1; have q1d := Q1.2.2; have y1 := Q1.1.1)
    exact bodyPost_ret (v := .tuple #[.agg #[.int .i64 0, .slice none 0 0], .int .i64 1]) (by simp [results, Try.results40, go_sem, q1a, q1b]) rfl ⟨none, 0, rfl, OwnI.nil_ _ _, by (repeat (first | assumption | exact Below.refl _ _ | refine Below.alloc ?_ (by first | omega | (simp; done) | (simp; omega)) _ | refine Below.setCell ?_ (by first | omega | (simp; done) | (simp; omega)) _ | refine below_drewN ?_ _))⟩
  · obtain ⟨hm, ⟨hl1, hl2⟩, hn⟩ := isSer_true hs
    have hmb := isModB_true hm
    have HNL := Lib.hid (isSer_NumL hs)
    obtain ⟨b, rfl, hb1, hb2, hcell0, hfr0⟩ := hAA 0 (by omega)
    have hc0 : w.cell? ⟨b, 0, none⟩ = some (.int .i64 (co xs 0)) := hcell0
    have hx0 : 0 ≤ co xs 0 ∧ co xs 0 < m := HNL.out 0
    have hxl : 0 < xs.length := by omega
    have hxl2 : (0 : Int) < (xs.length : Int) := by omega
    have hxl3 : ¬ xs.length = 0 := by omega
    have HS := Lib.hid hs
    obtain ⟨x0, hx⟩ : ∃ x0, x0 = co xs 0 := ⟨_, rfl⟩
    rw [← hx] at hc0 hx0
    cases hd : unitB m (co xs 0)
    · have HF : InverseOfSeriesR m xs = ((0, []), 5) := by simp [InverseOfSeriesR, hs, hd]
      rw [HF]
      clear HF
      have HD : Hid (unitB m x0 = false) := by unfold Hid; rw [hx]; exact hd
      clear hs hd hm hn hx hAA hcell0 hfr0
      go_enter Try.func40, Try.ntmps40
      go_wp2_with (go_at_call 49; refine (l02Is_any m _ _ xs B (OwnI.keep hv (by (repeat (first | assumption | exact Below.refl _ _ | refine Below.alloc ?_ (by first | omega | (simp; done) | (simp; omega)) _ | refine Below.setCell ?_ (by first | omega | (simp; done) | (simp; omega)) _ | refine below_drewN ?_ _))) (Nat.le_refl _)) (by omega)).mono ?_; rintro e w1 ⟨rfl, hb1⟩; rw [HS.out]; obtain ⟨P1, Q1, K1⟩ := Bf.first2 hb1; have p1a := P1.1.2.1; have p1b := P1.1.2.2; have z1 := P1.1.1; have q1a := Q1.1.2.1; have q1b := Q1.1.2.2; have q1c := Q1.2.1; have q1d := Q1.2.2; have y1 := Q1.1.1; have c1 := (K1.cell (p := ⟨b, 0, none⟩) hb2).trans hc0)
      go_quiet ((go_at_call 80; exact Calls.quiet_of (l01Unit_quiet m x0 _ (by omega) (by omega) (by omega) (by omega) false HD)))
      go_wp2
      exact bodyPost_ret (v := .tuple #[.agg #[.int .i64 0, .slice none 0 0], .int .i64 5]) (by simp [results, Try.results40, go_sem, q1a, q1b]) rfl ⟨none, 0, rfl, OwnI.nil_ _ _, by (repeat (first | assumption | exact Below.refl _ _ | refine Below.alloc ?_ (by first | omega | (simp; done) | (simp; omega)) _ | refine Below.setCell ?_ (by first | omega | (simp; done) | (simp; omega)) _ | refine below_drewN ?_ _))⟩
    · obtain ⟨ys, hy⟩ : ∃ ys, invL m xs = ys := ⟨_, rfl⟩
      have HF : InverseOfSeriesR m xs = ((m, ys), 0) := by simp only [InverseOfSeriesR, hs, hd, hy]; simp
      rw [HF]
      clear HF
      have HY := Lib.hid hy
      have HD : Hid (unitB m x0 = true) := by unfold Hid; rw [hx]; exact hd
      clear hs hd hm hn hy hx hAA hcell0 hfr0
      go_enter Try.func40, Try.ntmps40
      go_wp2_with (go_at_call 49; refine (l02Is_any m _ _ xs B (OwnI.keep hv (by (repeat (first | assumption | exact Below.refl _ _ | refine Below.alloc ?_ (by first | omega | (simp; done) | (simp; omega)) _ | refine Below.setCell ?_ (by first | omega | (simp; done) | (simp; omega)) _ | refine below_drewN ?_ _))) (Nat.le_refl _)) (by omega)).mono ?_; rintro e w1 ⟨rfl, hb1⟩; rw [HS.out]; obtain ⟨P1, Q1, K1⟩ := Bf.first2 hb1; have p1a := P1.1.2.1; have p1b := P1.1.2.2; have z1 := P1.1.1; have q1a := Q1.1.2.1; have q1b := Q1.1.2.2; have q1c := Q1.2.1; have q1d := Q1.2.2; have y1 := Q1.1.1; have c1 := (K1.cell (p := ⟨b, 0, none⟩) hb2).trans hc0)
      go_quiet ((go_at_call 80; exact Calls.quiet_of (l01Unit_quiet m x0 _ (by omega) (by omega) (by omega) (by omega) true HD)))
      obtain ⟨P2, Q2, K2⟩ : Bf (w1.drewN nq) w.heap.size (.int .i64 m) (.slice (some ⟨b, 0, none⟩) xs.length cp) ∧ Bf (w1.drewN nq) (w.heap.size + 1) (.int .i64 0) (.slice none 0 0) ∧ Below w.heap.size w (w1.drewN nq) := ⟨P1.drewN nq, Q1.drewN nq, below_drewN K1 nq⟩
      have hv2 := hv.keep K2 (Nat.le_refl _)
      have z2 := P2.1.1
      have y2 := Q2.1.1
      have p2a := P2.1.2.1
      have p2b := P2.1.2.2
      clear P1 Q1 K1 p1a p1b q1a q1b q1c q1d z1 y1 c1 hb1
      generalize w1.drewN nq = w2 at *
      clear w1
      have q2a := Q2.1.2.1
      have q2b := Q2.1.2.2
      have q2c := Q2.2.1
      have q2d := Q2.2.2
      go_wp2
      go_region_held3 (fun w' => w'.cell? ⟨w.heap.size, 0, none⟩ = some (.int .i64 m) ∧ w'.cell? ⟨w.heap.size, 1, none⟩ = some (.slice (some ⟨b, 0, none⟩) xs.length cp)) (first | go_keep | exact ⟨p2a, p2b⟩ | exact ⟨p6a, p6b⟩ | exact ⟨p3a, p3b⟩ | exact ⟨p4a, p4b⟩ | (simp [p4a, p4b]; done))
        (first | (go_at_call 50; refine (l02Degree_any m (some ⟨b, 0, none⟩) xs.length cp _ (by omega)).mono ?_; rintro e w6 ⟨rfl, hb6⟩; have R6 : Below w2.heap.size w2 w6 := (Below.trans (by (repeat (first | assumption | exact Below.refl _ _ | refine Below.alloc ?_ (by first | omega | (simp; done) | (simp; omega)) _ | refine Below.setCell ?_ (by first | omega | (simp; done) | (simp; omega)) _ | refine below_drewN ?_ _))) (hb6.mono (by first | exact Nat.le_refl _ | (simp; done) | (simp; omega)))); have s6 := R6.size; have K6 : Below w.heap.size w w6 := K2.trans (R6.mono K2.size); have P6 := P2.keep R6; have Q6 := Q2.keep R6; have p6a := P6.1.2.1; have p6b := P6.1.2.2; have z6 := P6.1.1; have q6a := Q6.1.2.1; have q6b := Q6.1.2.2; have q6c := Q6.2.1; have q6d := Q6.2.2; have y6 := Q6.1.1) | (go_at_call 81; refine (l02Inverse_any m _ _ xs ys _ B (hv.keep K6 (Nat.le_refl _)) (by omega) (by omega) HNL.out (by omega) (by omega) (by omega) HY.out).mono ?_; rintro e w3 ⟨A3, c3, rfl, o3, hb3⟩; have R3 : Below w6.heap.size w6 w3 := (Below.trans (by (repeat (first | assumption | exact Below.refl _ _ | refine Below.alloc ?_ (by first | omega | (simp; done) | (simp; omega)) _ | refine Below.setCell ?_ (by first | omega | (simp; done) | (simp; omega)) _ | refine below_drewN ?_ _))) (hb3.mono (by first | exact Nat.le_refl _ | (simp; done) | (simp; omega)))); have s3 := R3.size; have K3 : Below w.heap.size w w3 := K6.trans (R3.mono K6.size); have P3 := P6.keep R3; have Q3 := Q6.keep R3; have p3a := P3.1.2.1; have p3b := P3.1.2.2; have z3 := P3.1.1; have q3a := Q3.1.2.1; have q3b := Q3.1.2.2; have q3c := Q3.2.1; have q3d := Q3.2.2; have y3 := Q3.1.1) | (go_at_call 51; refine (l02Make_any _ m A3 ys.length c3).mono ?_; rintro e w4 ⟨rfl, hb4⟩; have R4 : Below w3.heap.size w3 w4 := (Below.trans (by (repeat (first | assumption | exact Below.refl _ _ | refine Below.alloc ?_ (by first | omega | (simp; done) | (simp; omega)) _ | refine Below.setCell ?_ (by first | omega | (simp; done) | (simp; omega)) _ | refine below_drewN ?_ _))) (hb4.mono (by first | exact Nat.le_refl _ | (simp; done) | (simp; omega)))); have s4 := R4.size; have K4 : Below w.heap.size w w4 := K3.trans (R4.mono K3.size); have P4 := P3.keep R4; have Q4 := Q3.keep R4; have p4a := P4.1.2.1; have p4b := P4.1.2.2; have z4 := P4.1.1; have q4a := Q4.1.2.1; have q4b := Q4.1.2.2; have q4c := Q4.2.1; have q4d := Q4.2.2; have y4 := Q4.1.1))
      go_wp2
      exact bodyPost_ret (v := .tuple #[.agg #[.int .i64 m, .slice A3 ys.length c3], .int .i64 0]) (by simp [results, Try.results40, go_sem, q4a, q4b]) rfl ⟨A3, c3, rfl, (((o3.keep R4 (Nat.le_refl _)).setCell_lt (by show _ < w6.heap.size; exact y6) _).setCell_lt (by show _ < w6.heap.size; exact y6) _).mono (by show w.heap.size ≤ w6.heap.size; omega), by (repeat (first | assumption | exact Below.refl _ _ | refine Below.alloc ?_ (by first | omega | (simp; done) | (simp; omega)) _ | refine Below.setCell ?_ (by first | omega | (simp; done) | (simp; omega)) _ | refine below_drewN ?_ _))⟩

/-! ### The laws' walks, printed by genlaw.py -/
set_option maxHeartbeats 4000000 in
theorem FnExactInverseOfSeries_walk (w : World) (m0 : Int) (v0 : Value) (xs0 : List Int) (hv0 : RdI w v0 xs0) : Calls Try.prog 11 #[.agg #[.int .i64 m0, v0]] w fun e w' => e = .returned (.bool true) ∧ Below w.heap.size w w' := by
  obtain ⟨A0, c0, e0⟩ := hv0.form
  subst e0
  obtain ⟨r0, HR⟩ : ∃ r0, Hid (InverseOfSeriesR m0 xs0 = r0) := ⟨_, rfl⟩
  obtain ⟨⟨rm, rl⟩, rc⟩ := r0
  have hlen := InverseOfSeriesR_len m0 xs0
  rw [HR.out] at hlen
  simp only at hlen
  by_cases hz0 : 1048576 < (xs0.length : Int)
  · skip
    have HZ0 := Lib.hid (szN_lt hz0)
    go_enter Try.func11, Try.ntmps11
    go_wp2_with fail
    refine (szS_any _ m0 _ xs0 (1048576) (hv0.below (by (repeat (first | assumption | exact Below.refl _ _ | refine Below.alloc ?_ (by first | omega | (simp; done) | (simp; omega)) _ | refine Below.setCell ?_ (by first | omega | (simp; done) | (simp; omega)) _ | refine below_drewN ?_ _)))) (by omega) (by omega)).mono ?_
    rintro e w1 ⟨rfl, hb1⟩
    rw [HZ0.out]
    have R : Below w.heap.size w w1 := Below.trans (by (repeat (first | assumption | exact Below.refl _ _ | refine Below.alloc ?_ (by first | omega | (simp; done) | (simp; omega)) _ | refine Below.setCell ?_ (by first | omega | (simp; done) | (simp; omega)) _ | refine below_drewN ?_ _))) (hb1.mono (by first | exact Nat.le_refl _ | (simp; done) | (simp; omega)))
    have s1 : w.heap.size ≤ w1.heap.size := R.size
    have K1 : Hid (Below w.heap.size w w1) := R
    have b0 : Hid (Bx w1 w.heap.size (.int .i64 m0) (.slice A0 xs0.length c0)) := ⟨by have := hb1.size; simp at this; omega, by rw [hb1.cell (by first | (simp; done) | (simp; omega))]; simp, by rw [hb1.cell (by first | (simp; done) | (simp; omega))]; simp⟩
    clear R hb1
    have b0_c := b0.out.2.1
    have b0_d := b0.out.2.2
    have b0_z := b0.out.1
    go_wp2
    go_ret
    exact ⟨rfl, K1.out⟩
  have HZ0 := Lib.hid (szN_ge hz0)
  have hl0 : (xs0.length : Int) ≤ 1048576 := by omega
  clear hz0
  go_enter Try.func11, Try.ntmps11
  go_wp2_with fail
  refine (szS_any _ m0 _ xs0 (1048576) (hv0.below (by (repeat (first | assumption | exact Below.refl _ _ | refine Below.alloc ?_ (by first | omega | (simp; done) | (simp; omega)) _ | refine Below.setCell ?_ (by first | omega | (simp; done) | (simp; omega)) _ | refine below_drewN ?_ _)))) (by omega) (by omega)).mono ?_
  rintro e w2 ⟨rfl, hb2⟩
  rw [HZ0.out]
  have R : Below w.heap.size w w2 := Below.trans (by (repeat (first | assumption | exact Below.refl _ _ | refine Below.alloc ?_ (by first | omega | (simp; done) | (simp; omega)) _ | refine Below.setCell ?_ (by first | omega | (simp; done) | (simp; omega)) _ | refine below_drewN ?_ _))) (hb2.mono (by first | exact Nat.le_refl _ | (simp; done) | (simp; omega)))
  have s2 : w.heap.size ≤ w2.heap.size := R.size
  have K2 : Hid (Below w.heap.size w w2) := R
  have b0 : Hid (Bx w2 w.heap.size (.int .i64 m0) (.slice A0 xs0.length c0)) := ⟨by have := hb2.size; simp at this; omega, by rw [hb2.cell (by first | (simp; done) | (simp; omega))]; simp, by rw [hb2.cell (by first | (simp; done) | (simp; omega))]; simp⟩
  clear R hb2
  have b0_c := b0.out.2.1
  have b0_d := b0.out.2.2
  have b0_z := b0.out.1
  go_wp2_with fail
  refine (toS_any _ m0 _ xs0 (hv0.below K2.out) (by omega)).mono ?_
  rintro e w3 ⟨A_p0, c_p0, rfl, o_p0, hb3⟩
  clear b0_c b0_d b0_z
  have o_p0' := o_p0.mono (show w2.heap.size ≤ _ from by first | exact Nat.le_refl _ | (simp; done) | (simp; omega))
  clear o_p0
  have R : Below w2.heap.size w2 w3 := Below.trans (by (repeat (first | assumption | exact Below.refl _ _ | refine Below.alloc ?_ (by first | omega | (simp; done) | (simp; omega)) _ | refine Below.setCell ?_ (by first | omega | (simp; done) | (simp; omega)) _ | refine below_drewN ?_ _))) (hb3.mono (by first | exact Nat.le_refl _ | (simp; done) | (simp; omega)))
  have s3 : w2.heap.size ≤ w3.heap.size := R.size
  have K3 : Hid (Below w.heap.size w w3) := K2.out.trans (R.mono (by omega))
  replace b0 : Hid (Bx w3 w.heap.size (.int .i64 m0) (.slice A0 xs0.length c0)) := b0.out.keep R
  clear R hb3
  have p0 : Hid (OwnI w3 w2.heap.size (.slice A_p0 xs0.length c_p0) xs0) := o_p0'
  have p0_u : Hid (∀ g, Value.ownBlock (.slice A_p0 xs0.length c_p0) = some g → w2.heap.size ≤ g ∧ g < w3.heap.size) := fun g hg => o_p0'.block_ge hg
  clear o_p0'
  have b0_c := b0.out.2.1
  have b0_d := b0.out.2.2
  have b0_z := b0.out.1
  go_wp2_with fail
  refine (sInverseOfSeriesR_any _ m0 (.slice A_p0 xs0.length c_p0) xs0 w2.heap.size (p0.out.keep (by (repeat (first | assumption | exact Below.refl _ _ | refine Below.alloc ?_ (by first | omega | (simp; done) | (simp; omega)) _ | refine Below.setCell ?_ (by first | omega | (simp; done) | (simp; omega)) _ | refine below_drewN ?_ _))) (Nat.le_refl _)) (by omega)).mono ?_
  rintro e w4 h_r
  replace h_r := h_r.of HR
  obtain ⟨A_ow, c_ow, rfl, o_ow, hb4⟩ := h_r
  have o_ow' := o_ow.mono (show w3.heap.size ≤ _ from by first | exact Nat.le_refl _ | (simp; done) | (simp; omega))
  clear o_ow
  clear b0_c b0_d b0_z
  have R : Below w3.heap.size w3 w4 := Below.trans (by (repeat (first | assumption | exact Below.refl _ _ | refine Below.alloc ?_ (by first | omega | (simp; done) | (simp; omega)) _ | refine Below.setCell ?_ (by first | omega | (simp; done) | (simp; omega)) _ | refine below_drewN ?_ _))) (hb4.mono (by first | exact Nat.le_refl _ | (simp; done) | (simp; omega)))
  have s4 : w3.heap.size ≤ w4.heap.size := R.size
  have K4 : Hid (Below w.heap.size w w4) := K3.out.trans (R.mono (by omega))
  replace b0 : Hid (Bx w4 w.heap.size (.int .i64 m0) (.slice A0 xs0.length c0)) := b0.out.keep R
  replace p0 : Hid (OwnI w4 w2.heap.size (.slice A_p0 xs0.length c_p0) xs0) := p0.out.keep R (Nat.le_refl _)
  clear R hb4
  have ow : Hid (OwnI w4 w3.heap.size (.slice A_ow rl.length c_ow) rl) := o_ow'
  have ow_u : Hid (∀ g, Value.ownBlock (.slice A_ow rl.length c_ow) = some g → w3.heap.size ≤ g ∧ g < w4.heap.size) := fun g hg => o_ow'.block_ge hg
  clear o_ow'
  clear p0 p0_u
  have b0_c := b0.out.2.1
  have b0_d := b0.out.2.2
  have b0_z := b0.out.1
  go_wp2_with fail
  refine (toS_any _ m0 _ xs0 (hv0.below (K4.out.trans (Below.mono (by (repeat (first | assumption | exact Below.refl _ _ | refine Below.alloc ?_ (by first | omega | (simp; done) | (simp; omega)) _ | refine Below.setCell ?_ (by first | omega | (simp; done) | (simp; omega)) _ | refine below_drewN ?_ _))) (by omega)))) (by omega)).mono ?_
  rintro e w5 ⟨A_x0, c_x0, rfl, o_x0, hb5⟩
  clear b0_c b0_d b0_z
  have o_x0' := o_x0.mono (show (w4.heap.size + 1) ≤ _ from by first | exact Nat.le_refl _ | (simp; done) | (simp; omega))
  clear o_x0
  have R : Below w4.heap.size w4 w5 := Below.trans (by (repeat (first | assumption | exact Below.refl _ _ | refine Below.alloc ?_ (by first | omega | (simp; done) | (simp; omega)) _ | refine Below.setCell ?_ (by first | omega | (simp; done) | (simp; omega)) _ | refine below_drewN ?_ _))) (hb5.mono (by first | exact Nat.le_refl _ | (simp; done) | (simp; omega)))
  have s5 : w4.heap.size ≤ w5.heap.size := R.size
  have K5 : Hid (Below w.heap.size w w5) := K4.out.trans (R.mono (by omega))
  replace b0 : Hid (Bx w5 w.heap.size (.int .i64 m0) (.slice A0 xs0.length c0)) := b0.out.keep R
  replace ow : Hid (OwnI w5 w3.heap.size (.slice A_ow rl.length c_ow) rl) := ow.out.keep R (Nat.le_refl _)
  have bw : Hid (Bx w5 w4.heap.size (.int .i64 rm) (.slice A_ow rl.length c_ow)) := ⟨by have := hb5.size; simp at this; omega, by rw [hb5.cell (by first | (simp; done) | (simp; omega))]; simp, by rw [hb5.cell (by first | (simp; done) | (simp; omega))]; simp⟩
  clear R hb5
  have x0 : Hid (OwnI w5 (w4.heap.size + 1) (.slice A_x0 xs0.length c_x0) xs0) := o_x0'
  have x0_u : Hid (∀ g, Value.ownBlock (.slice A_x0 xs0.length c_x0) = some g → (w4.heap.size + 1) ≤ g ∧ g < w5.heap.size) := fun g hg => o_x0'.block_ge hg
  clear o_x0'
  have b0_c := b0.out.2.1
  have b0_d := b0.out.2.2
  have b0_z := b0.out.1
  have bw_c := bw.out.2.1
  have bw_d := bw.out.2.2
  have bw_z := bw.out.1
  go_wp2_with fail
  refine (iInverseOfSeriesR_any _ m0 (.slice A_x0 xs0.length c_x0) xs0 (w4.heap.size + 1) (x0.out.keep (by (repeat (first | assumption | exact Below.refl _ _ | refine Below.alloc ?_ (by first | omega | (simp; done) | (simp; omega)) _ | refine Below.setCell ?_ (by first | omega | (simp; done) | (simp; omega)) _ | refine below_drewN ?_ _))) (Nat.le_refl _)) (by omega)).mono ?_
  rintro e w6 h_r
  replace h_r := h_r.of HR
  obtain ⟨A_og, c_og, rfl, o_og, hb6⟩ := h_r
  have o_og' := o_og.mono (show (w5.heap.size + 1) ≤ _ from by first | exact Nat.le_refl _ | (simp; done) | (simp; omega))
  clear o_og
  clear b0_c b0_d b0_z
  clear bw_c bw_d bw_z
  have R : Below w5.heap.size w5 w6 := Below.trans (by (repeat (first | assumption | exact Below.refl _ _ | refine Below.alloc ?_ (by first | omega | (simp; done) | (simp; omega)) _ | refine Below.setCell ?_ (by first | omega | (simp; done) | (simp; omega)) _ | refine below_drewN ?_ _))) (hb6.mono (by first | exact Nat.le_refl _ | (simp; done) | (simp; omega)))
  have s6 : w5.heap.size ≤ w6.heap.size := R.size
  have K6 : Hid (Below w.heap.size w w6) := K5.out.trans (R.mono (by omega))
  replace b0 : Hid (Bx w6 w.heap.size (.int .i64 m0) (.slice A0 xs0.length c0)) := b0.out.keep R
  replace bw : Hid (Bx w6 w4.heap.size (.int .i64 rm) (.slice A_ow rl.length c_ow)) := bw.out.keep R
  replace ow : Hid (OwnI w6 w3.heap.size (.slice A_ow rl.length c_ow) rl) := ow.out.keep R (Nat.le_refl _)
  replace x0 : Hid (OwnI w6 (w4.heap.size + 1) (.slice A_x0 xs0.length c_x0) xs0) := x0.out.keep R (Nat.le_refl _)
  have bx0 : Hid (Bx w6 w5.heap.size (.int .i64 m0) (.slice A_x0 xs0.length c_x0)) := ⟨by have := hb6.size; simp at this; omega, by rw [hb6.cell (by first | (simp; done) | (simp; omega))]; simp, by rw [hb6.cell (by first | (simp; done) | (simp; omega))]; simp⟩
  clear R hb6
  have og : Hid (OwnI w6 (w5.heap.size + 1) (.slice A_og rl.length c_og) rl) := o_og'
  have og_u : Hid (∀ g, Value.ownBlock (.slice A_og rl.length c_og) = some g → (w5.heap.size + 1) ≤ g ∧ g < w6.heap.size) := fun g hg => o_og'.block_ge hg
  clear o_og'
  have b0_c := b0.out.2.1
  have b0_d := b0.out.2.2
  have b0_z := b0.out.1
  have bw_c := bw.out.2.1
  have bw_d := bw.out.2.2
  have bw_z := bw.out.1
  have bx0_c := bx0.out.2.1
  have bx0_d := bx0.out.2.2
  have bx0_z := bx0.out.1
  go_wp2_with fail
  refine (eqS_any _ rm rm _ _ _ _ (og.out.keep (by (repeat (first | assumption | exact Below.refl _ _ | refine Below.alloc ?_ (by first | omega | (simp; done) | (simp; omega)) _ | refine Below.setCell ?_ (by first | omega | (simp; done) | (simp; omega)) _ | refine below_drewN ?_ _))) (Nat.le_refl _)).rd (ow.out.keep (by (repeat (first | assumption | exact Below.refl _ _ | refine Below.alloc ?_ (by first | omega | (simp; done) | (simp; omega)) _ | refine Below.setCell ?_ (by first | omega | (simp; done) | (simp; omega)) _ | refine below_drewN ?_ _))) (Nat.le_refl _)).rd).mono ?_
  rintro e w7 ⟨rfl, hb7⟩
  clear b0_c b0_d b0_z
  clear bw_c bw_d bw_z
  clear bx0_c bx0_d bx0_z
  have R : Below w6.heap.size w6 w7 := Below.trans (by (repeat (first | assumption | exact Below.refl _ _ | refine Below.alloc ?_ (by first | omega | (simp; done) | (simp; omega)) _ | refine Below.setCell ?_ (by first | omega | (simp; done) | (simp; omega)) _ | refine below_drewN ?_ _))) (hb7.mono (by first | exact Nat.le_refl _ | (simp; done) | (simp; omega)))
  have s7 : w6.heap.size ≤ w7.heap.size := R.size
  have K7 : Hid (Below w.heap.size w w7) := K6.out.trans (R.mono (by omega))
  replace b0 : Hid (Bx w7 w.heap.size (.int .i64 m0) (.slice A0 xs0.length c0)) := b0.out.keep R
  replace bw : Hid (Bx w7 w4.heap.size (.int .i64 rm) (.slice A_ow rl.length c_ow)) := bw.out.keep R
  replace bx0 : Hid (Bx w7 w5.heap.size (.int .i64 m0) (.slice A_x0 xs0.length c_x0)) := bx0.out.keep R
  replace ow : Hid (OwnI w7 w3.heap.size (.slice A_ow rl.length c_ow) rl) := ow.out.keep R (Nat.le_refl _)
  replace x0 : Hid (OwnI w7 (w4.heap.size + 1) (.slice A_x0 xs0.length c_x0) xs0) := x0.out.keep R (Nat.le_refl _)
  replace og : Hid (OwnI w7 (w5.heap.size + 1) (.slice A_og rl.length c_og) rl) := og.out.keep R (Nat.le_refl _)
  have bg : Hid (Bx w7 w6.heap.size (.int .i64 rm) (.slice A_og rl.length c_og)) := ⟨by have := hb7.size; simp at this; omega, by rw [hb7.cell (by first | (simp; done) | (simp; omega))]; simp, by rw [hb7.cell (by first | (simp; done) | (simp; omega))]; simp⟩
  clear R hb7
  have b0_c := b0.out.2.1
  have b0_d := b0.out.2.2
  have b0_z := b0.out.1
  have bw_c := bw.out.2.1
  have bw_d := bw.out.2.2
  have bw_z := bw.out.1
  have bx0_c := bx0.out.2.1
  have bx0_d := bx0.out.2.2
  have bx0_z := bx0.out.1
  have bg_c := bg.out.2.1
  have bg_d := bg.out.2.2
  have bg_z := bg.out.1
  go_wp2
  clear b0_c b0_d b0_z
  clear bw_c bw_d bw_z
  clear bx0_c bx0_d bx0_z
  clear bg_c bg_d bg_z
  have L0 : Below w.heap.size w w7.drew := below_drew K7.out
  have T0 : Hid (Bx w7.drew w.heap.size (.int .i64 m0) (.slice A0 xs0.length c0) ∧ Bx w7.drew w4.heap.size (.int .i64 rm) (.slice A_ow rl.length c_ow) ∧ Bx w7.drew w5.heap.size (.int .i64 m0) (.slice A_x0 xs0.length c_x0) ∧ Bx w7.drew w6.heap.size (.int .i64 rm) (.slice A_og rl.length c_og) ∧ OwnI w7.drew w3.heap.size (.slice A_ow rl.length c_ow) rl ∧ OwnI w7.drew (w4.heap.size + 1) (.slice A_x0 xs0.length c_x0) xs0 ∧ OwnI w7.drew (w5.heap.size + 1) (.slice A_og rl.length c_og) rl ∧ Below w.heap.size w w7.drew ∧ w7.heap.size ≤ w7.drew.heap.size) := ⟨b0.out, bw.out, bx0.out, bg.out, ow.out, x0.out, og.out, L0, Nat.le_refl _⟩
  go_region_held3 (fun w' => w'.cell? ⟨w.heap.size, 0, none⟩ = some (.int .i64 m0) ∧ w'.cell? ⟨w.heap.size, 1, none⟩ = some (.slice A0 xs0.length c0) ∧ w'.cell? ⟨w4.heap.size, 0, none⟩ = some (.int .i64 rm) ∧ w'.cell? ⟨w4.heap.size, 1, none⟩ = some (.slice A_ow rl.length c_ow) ∧ w'.cell? ⟨w5.heap.size, 0, none⟩ = some (.int .i64 m0) ∧ w'.cell? ⟨w5.heap.size, 1, none⟩ = some (.slice A_x0 xs0.length c_x0) ∧ w'.cell? ⟨w6.heap.size, 0, none⟩ = some (.int .i64 rm) ∧ w'.cell? ⟨w6.heap.size, 1, none⟩ = some (.slice A_og rl.length c_og) ∧ Hid (Bx w' w.heap.size (.int .i64 m0) (.slice A0 xs0.length c0) ∧ Bx w' w4.heap.size (.int .i64 rm) (.slice A_ow rl.length c_ow) ∧ Bx w' w5.heap.size (.int .i64 m0) (.slice A_x0 xs0.length c_x0) ∧ Bx w' w6.heap.size (.int .i64 rm) (.slice A_og rl.length c_og) ∧ OwnI w' w3.heap.size (.slice A_ow rl.length c_ow) rl ∧ OwnI w' (w4.heap.size + 1) (.slice A_x0 xs0.length c_x0) xs0 ∧ OwnI w' (w5.heap.size + 1) (.slice A_og rl.length c_og) rl ∧ Below w.heap.size w w' ∧ w7.heap.size ≤ w'.heap.size))
    (first | exact ⟨(T0.out.1).2.1, (T0.out.1).2.2, (T0.out.2.1).2.1, (T0.out.2.1).2.2, (T0.out.2.2.1).2.1, (T0.out.2.2.1).2.2, (T0.out.2.2.2.1).2.1, (T0.out.2.2.2.1).2.2, T0⟩ | exact ⟨(T1.out.1).2.1, (T1.out.1).2.2, (T1.out.2.1).2.1, (T1.out.2.1).2.2, (T1.out.2.2.1).2.1, (T1.out.2.2.1).2.2, (T1.out.2.2.2.1).2.1, (T1.out.2.2.2.1).2.2, T1⟩ | exact ⟨(T2.out.1).2.1, (T2.out.1).2.2, (T2.out.2.1).2.1, (T2.out.2.1).2.2, (T2.out.2.2.1).2.1, (T2.out.2.2.1).2.2, (T2.out.2.2.2.1).2.1, (T2.out.2.2.2.1).2.2, T2⟩)
    (first
      | (go_at_call 17; refine (toS_any _ m0 _ xs0 (hv0.below L0) (by omega)).mono ?_; rintro e w8 ⟨A_t, c_t, rfl, o_t, hbA⟩; have T1 : Hid (Bx w8 w.heap.size (.int .i64 m0) (.slice A0 xs0.length c0) ∧ Bx w8 w4.heap.size (.int .i64 rm) (.slice A_ow rl.length c_ow) ∧ Bx w8 w5.heap.size (.int .i64 m0) (.slice A_x0 xs0.length c_x0) ∧ Bx w8 w6.heap.size (.int .i64 rm) (.slice A_og rl.length c_og) ∧ OwnI w8 w3.heap.size (.slice A_ow rl.length c_ow) rl ∧ OwnI w8 (w4.heap.size + 1) (.slice A_x0 xs0.length c_x0) xs0 ∧ OwnI w8 (w5.heap.size + 1) (.slice A_og rl.length c_og) rl ∧ Below w.heap.size w w8 ∧ w7.heap.size ≤ w8.heap.size) := ⟨(T0.out.1).keep hbA, (T0.out.2.1).keep hbA, (T0.out.2.2.1).keep hbA, (T0.out.2.2.2.1).keep hbA, (T0.out.2.2.2.2.1).keep hbA (Nat.le_refl _), (T0.out.2.2.2.2.2.1).keep hbA (Nat.le_refl _), (T0.out.2.2.2.2.2.2.1).keep hbA (Nat.le_refl _), (T0.out.2.2.2.2.2.2.2.1).trans (hbA.mono (Nat.le_trans (show w.heap.size ≤ w7.heap.size from by omega) (T0.out.2.2.2.2.2.2.2.2))), Nat.le_trans (T0.out.2.2.2.2.2.2.2.2) hbA.size⟩)
      | (go_at_call 19; refine (eqS_any _ m0 m0 _ _ xs0 xs0 (T1.out.2.2.2.2.2.1).rd o_t.rd).mono ?_; rintro e w9 ⟨rfl, hbB⟩; have T2 : Hid (Bx w9 w.heap.size (.int .i64 m0) (.slice A0 xs0.length c0) ∧ Bx w9 w4.heap.size (.int .i64 rm) (.slice A_ow rl.length c_ow) ∧ Bx w9 w5.heap.size (.int .i64 m0) (.slice A_x0 xs0.length c_x0) ∧ Bx w9 w6.heap.size (.int .i64 rm) (.slice A_og rl.length c_og) ∧ OwnI w9 w3.heap.size (.slice A_ow rl.length c_ow) rl ∧ OwnI w9 (w4.heap.size + 1) (.slice A_x0 xs0.length c_x0) xs0 ∧ OwnI w9 (w5.heap.size + 1) (.slice A_og rl.length c_og) rl ∧ Below w.heap.size w w9 ∧ w7.heap.size ≤ w9.heap.size) := ⟨(T1.out.1).keep hbB, (T1.out.2.1).keep hbB, (T1.out.2.2.1).keep hbB, (T1.out.2.2.2.1).keep hbB, (T1.out.2.2.2.2.1).keep hbB (Nat.le_refl _), (T1.out.2.2.2.2.2.1).keep hbB (Nat.le_refl _), (T1.out.2.2.2.2.2.2.1).keep hbB (Nat.le_refl _), (T1.out.2.2.2.2.2.2.2.1).trans (hbB.mono (Nat.le_trans (show w.heap.size ≤ w7.heap.size from by omega) (T1.out.2.2.2.2.2.2.2.2))), Nat.le_trans (T1.out.2.2.2.2.2.2.2.2) hbB.size⟩))
  have s9 : w7.heap.size ≤ w9.heap.size := T2.out.2.2.2.2.2.2.2.2
  have K9 : Hid (Below w.heap.size w w9) := T2.out.2.2.2.2.2.2.2.1
  replace b0 : Hid (Bx w9 w.heap.size (.int .i64 m0) (.slice A0 xs0.length c0)) := T2.out.1
  replace bw : Hid (Bx w9 w4.heap.size (.int .i64 rm) (.slice A_ow rl.length c_ow)) := T2.out.2.1
  replace bx0 : Hid (Bx w9 w5.heap.size (.int .i64 m0) (.slice A_x0 xs0.length c_x0)) := T2.out.2.2.1
  replace bg : Hid (Bx w9 w6.heap.size (.int .i64 rm) (.slice A_og rl.length c_og)) := T2.out.2.2.2.1
  replace ow : Hid (OwnI w9 w3.heap.size (.slice A_ow rl.length c_ow) rl) := T2.out.2.2.2.2.1
  replace x0 : Hid (OwnI w9 (w4.heap.size + 1) (.slice A_x0 xs0.length c_x0) xs0) := T2.out.2.2.2.2.2.1
  replace og : Hid (OwnI w9 (w5.heap.size + 1) (.slice A_og rl.length c_og) rl) := T2.out.2.2.2.2.2.2.1
  clear T0 T1 T2 L0 o_t
  have b0_c := b0.out.2.1
  have b0_d := b0.out.2.2
  have b0_z := b0.out.1
  have bw_c := bw.out.2.1
  have bw_d := bw.out.2.2
  have bw_z := bw.out.1
  have bx0_c := bx0.out.2.1
  have bx0_d := bx0.out.2.2
  have bx0_z := bx0.out.1
  have bg_c := bg.out.2.1
  have bg_d := bg.out.2.2
  have bg_z := bg.out.1
  go_wp2_with fail
  refine (markS_any _ (w4.heap.size + 1) m0 _ _ xs0.length (1) (x0.out.keep (by (repeat (first | assumption | exact Below.refl _ _ | refine Below.alloc ?_ (by first | omega | (simp; done) | (simp; omega)) _ | refine Below.setCell ?_ (by first | omega | (simp; done) | (simp; omega)) _ | refine below_drewN ?_ _))) (Nat.le_refl _)) rfl (by omega) (by omega) (by omega)).mono ?_
  rintro e w10 ⟨rfl, o_m, hg10⟩
  clear b0_c b0_d b0_z
  clear bw_c bw_d bw_z
  clear bx0_c bx0_d bx0_z
  clear bg_c bg_d bg_z
  have R : w9.grownBy w10 (Value.ownBlock (.slice A_x0 xs0.length c_x0)) := grownBy_behind (by (repeat (first | assumption | exact Below.refl _ _ | refine Below.alloc ?_ (by first | omega | (simp; done) | (simp; omega)) _ | refine Below.setCell ?_ (by first | omega | (simp; done) | (simp; omega)) _ | refine below_drewN ?_ _))) hg10
  have s10 : w9.heap.size ≤ w10.heap.size := R.size
  have K10 : Hid (Below w.heap.size w w10) := below_grownBy K9.out (by omega) R (fun g hg => by have := x0_u.out g hg; omega)
  replace b0 : Hid (Bx w10 w.heap.size (.int .i64 m0) (.slice A0 xs0.length c0)) := b0.out.grown R (fun g hg => by have := x0_u.out g hg; omega)
  replace bw : Hid (Bx w10 w4.heap.size (.int .i64 rm) (.slice A_ow rl.length c_ow)) := bw.out.grown R (fun g hg => by have := x0_u.out g hg; omega)
  replace bx0 : Hid (Bx w10 w5.heap.size (.int .i64 m0) (.slice A_x0 xs0.length c_x0)) := bx0.out.grown R (fun g hg => by have := x0_u.out g hg; omega)
  replace bg : Hid (Bx w10 w6.heap.size (.int .i64 rm) (.slice A_og rl.length c_og)) := bg.out.grown R (fun g hg => by have := x0_u.out g hg; omega)
  replace ow : Hid (OwnI w10 w3.heap.size (.slice A_ow rl.length c_ow) rl) := ow.out.grown R (fun g g' hg hg' => by have := ow_u.out g hg; have := x0_u.out g' hg'; omega)
  replace og : Hid (OwnI w10 (w5.heap.size + 1) (.slice A_og rl.length c_og) rl) := og.out.grown R (fun g g' hg hg' => by have := og_u.out g hg; have := x0_u.out g' hg'; omega)
  clear R hg10
  replace x0 : Hid (OwnI w10 (w4.heap.size + 1) (.slice A_x0 xs0.length c_x0) (marks (1) xs0.length)) := o_m
  clear o_m
  have b0_c := b0.out.2.1
  have b0_d := b0.out.2.2
  have b0_z := b0.out.1
  have bw_c := bw.out.2.1
  have bw_d := bw.out.2.2
  have bw_z := bw.out.1
  have bx0_c := bx0.out.2.1
  have bx0_d := bx0.out.2.2
  have bx0_z := bx0.out.1
  have bg_c := bg.out.2.1
  have bg_d := bg.out.2.2
  have bg_z := bg.out.1
  go_wp2_with fail
  refine (eqS_any _ rm rm _ _ _ _ (og.out.keep (by (repeat (first | assumption | exact Below.refl _ _ | refine Below.alloc ?_ (by first | omega | (simp; done) | (simp; omega)) _ | refine Below.setCell ?_ (by first | omega | (simp; done) | (simp; omega)) _ | refine below_drewN ?_ _))) (Nat.le_refl _)).rd (ow.out.keep (by (repeat (first | assumption | exact Below.refl _ _ | refine Below.alloc ?_ (by first | omega | (simp; done) | (simp; omega)) _ | refine Below.setCell ?_ (by first | omega | (simp; done) | (simp; omega)) _ | refine below_drewN ?_ _))) (Nat.le_refl _)).rd).mono ?_
  rintro e w11 ⟨rfl, hb11⟩
  clear b0_c b0_d b0_z
  clear bw_c bw_d bw_z
  clear bx0_c bx0_d bx0_z
  clear bg_c bg_d bg_z
  have R : Below w10.heap.size w10 w11 := Below.trans (by (repeat (first | assumption | exact Below.refl _ _ | refine Below.alloc ?_ (by first | omega | (simp; done) | (simp; omega)) _ | refine Below.setCell ?_ (by first | omega | (simp; done) | (simp; omega)) _ | refine below_drewN ?_ _))) (hb11.mono (by first | exact Nat.le_refl _ | (simp; done) | (simp; omega)))
  have s11 : w10.heap.size ≤ w11.heap.size := R.size
  have K11 : Hid (Below w.heap.size w w11) := K10.out.trans (R.mono (by omega))
  replace b0 : Hid (Bx w11 w.heap.size (.int .i64 m0) (.slice A0 xs0.length c0)) := b0.out.keep R
  replace bw : Hid (Bx w11 w4.heap.size (.int .i64 rm) (.slice A_ow rl.length c_ow)) := bw.out.keep R
  replace bx0 : Hid (Bx w11 w5.heap.size (.int .i64 m0) (.slice A_x0 xs0.length c_x0)) := bx0.out.keep R
  replace bg : Hid (Bx w11 w6.heap.size (.int .i64 rm) (.slice A_og rl.length c_og)) := bg.out.keep R
  replace ow : Hid (OwnI w11 w3.heap.size (.slice A_ow rl.length c_ow) rl) := ow.out.keep R (Nat.le_refl _)
  replace x0 : Hid (OwnI w11 (w4.heap.size + 1) (.slice A_x0 xs0.length c_x0) (marks (1) xs0.length)) := x0.out.keep R (Nat.le_refl _)
  replace og : Hid (OwnI w11 (w5.heap.size + 1) (.slice A_og rl.length c_og) rl) := og.out.keep R (Nat.le_refl _)
  clear R hb11
  have b0_c := b0.out.2.1
  have b0_d := b0.out.2.2
  have b0_z := b0.out.1
  have bw_c := bw.out.2.1
  have bw_d := bw.out.2.2
  have bw_z := bw.out.1
  have bx0_c := bx0.out.2.1
  have bx0_d := bx0.out.2.2
  have bx0_z := bx0.out.1
  have bg_c := bg.out.2.1
  have bg_d := bg.out.2.2
  have bg_z := bg.out.1
  go_wp2_with fail
  refine (markS_any _ (w5.heap.size + 1) rm _ _ rl.length (1) (og.out.keep (by (repeat (first | assumption | exact Below.refl _ _ | refine Below.alloc ?_ (by first | omega | (simp; done) | (simp; omega)) _ | refine Below.setCell ?_ (by first | omega | (simp; done) | (simp; omega)) _ | refine below_drewN ?_ _))) (Nat.le_refl _)) rfl (by omega) (by omega) (by omega)).mono ?_
  rintro e w12 ⟨rfl, o_m, hg12⟩
  clear b0_c b0_d b0_z
  clear bw_c bw_d bw_z
  clear bx0_c bx0_d bx0_z
  clear bg_c bg_d bg_z
  have R : w11.grownBy w12 (Value.ownBlock (.slice A_og rl.length c_og)) := grownBy_behind (by (repeat (first | assumption | exact Below.refl _ _ | refine Below.alloc ?_ (by first | omega | (simp; done) | (simp; omega)) _ | refine Below.setCell ?_ (by first | omega | (simp; done) | (simp; omega)) _ | refine below_drewN ?_ _))) hg12
  have s12 : w11.heap.size ≤ w12.heap.size := R.size
  have K12 : Hid (Below w.heap.size w w12) := below_grownBy K11.out (by omega) R (fun g hg => by have := og_u.out g hg; omega)
  replace b0 : Hid (Bx w12 w.heap.size (.int .i64 m0) (.slice A0 xs0.length c0)) := b0.out.grown R (fun g hg => by have := og_u.out g hg; omega)
  replace bw : Hid (Bx w12 w4.heap.size (.int .i64 rm) (.slice A_ow rl.length c_ow)) := bw.out.grown R (fun g hg => by have := og_u.out g hg; omega)
  replace bx0 : Hid (Bx w12 w5.heap.size (.int .i64 m0) (.slice A_x0 xs0.length c_x0)) := bx0.out.grown R (fun g hg => by have := og_u.out g hg; omega)
  replace bg : Hid (Bx w12 w6.heap.size (.int .i64 rm) (.slice A_og rl.length c_og)) := bg.out.grown R (fun g hg => by have := og_u.out g hg; omega)
  replace ow : Hid (OwnI w12 w3.heap.size (.slice A_ow rl.length c_ow) rl) := ow.out.grown R (fun g g' hg hg' => by have := ow_u.out g hg; have := og_u.out g' hg'; omega)
  replace x0 : Hid (OwnI w12 (w4.heap.size + 1) (.slice A_x0 xs0.length c_x0) (marks (1) xs0.length)) := x0.out.grown R (fun g g' hg hg' => by have := x0_u.out g hg; have := og_u.out g' hg'; omega)
  clear R hg12
  replace og : Hid (OwnI w12 (w5.heap.size + 1) (.slice A_og rl.length c_og) (marks (1) rl.length)) := o_m
  clear o_m
  have b0_c := b0.out.2.1
  have b0_d := b0.out.2.2
  have b0_z := b0.out.1
  have bw_c := bw.out.2.1
  have bw_d := bw.out.2.2
  have bw_z := bw.out.1
  have bx0_c := bx0.out.2.1
  have bx0_d := bx0.out.2.2
  have bx0_z := bx0.out.1
  have bg_c := bg.out.2.1
  have bg_d := bg.out.2.2
  have bg_z := bg.out.1
  go_wp2_with fail
  refine (heldS_any _ (w5.heap.size + 1) rm _ rl.length (1) (og.out.keep (by (repeat (first | assumption | exact Below.refl _ _ | refine Below.alloc ?_ (by first | omega | (simp; done) | (simp; omega)) _ | refine Below.setCell ?_ (by first | omega | (simp; done) | (simp; omega)) _ | refine below_drewN ?_ _))) (Nat.le_refl _)) (by omega) (by omega) (by omega)).mono ?_
  rintro e w13 ⟨rfl, hb13⟩
  clear b0_c b0_d b0_z
  clear bw_c bw_d bw_z
  clear bx0_c bx0_d bx0_z
  clear bg_c bg_d bg_z
  have R : Below w12.heap.size w12 w13 := Below.trans (by (repeat (first | assumption | exact Below.refl _ _ | refine Below.alloc ?_ (by first | omega | (simp; done) | (simp; omega)) _ | refine Below.setCell ?_ (by first | omega | (simp; done) | (simp; omega)) _ | refine below_drewN ?_ _))) (hb13.mono (by first | exact Nat.le_refl _ | (simp; done) | (simp; omega)))
  have s13 : w12.heap.size ≤ w13.heap.size := R.size
  have K13 : Hid (Below w.heap.size w w13) := K12.out.trans (R.mono (by omega))
  replace b0 : Hid (Bx w13 w.heap.size (.int .i64 m0) (.slice A0 xs0.length c0)) := b0.out.keep R
  replace bw : Hid (Bx w13 w4.heap.size (.int .i64 rm) (.slice A_ow rl.length c_ow)) := bw.out.keep R
  replace bx0 : Hid (Bx w13 w5.heap.size (.int .i64 m0) (.slice A_x0 xs0.length c_x0)) := bx0.out.keep R
  replace bg : Hid (Bx w13 w6.heap.size (.int .i64 rm) (.slice A_og rl.length c_og)) := bg.out.keep R
  replace ow : Hid (OwnI w13 w3.heap.size (.slice A_ow rl.length c_ow) rl) := ow.out.keep R (Nat.le_refl _)
  replace x0 : Hid (OwnI w13 (w4.heap.size + 1) (.slice A_x0 xs0.length c_x0) (marks (1) xs0.length)) := x0.out.keep R (Nat.le_refl _)
  replace og : Hid (OwnI w13 (w5.heap.size + 1) (.slice A_og rl.length c_og) (marks (1) rl.length)) := og.out.keep R (Nat.le_refl _)
  clear R hb13
  have b0_c := b0.out.2.1
  have b0_d := b0.out.2.2
  have b0_z := b0.out.1
  have bw_c := bw.out.2.1
  have bw_d := bw.out.2.2
  have bw_z := bw.out.1
  have bx0_c := bx0.out.2.1
  have bx0_d := bx0.out.2.2
  have bx0_z := bx0.out.1
  have bg_c := bg.out.2.1
  have bg_d := bg.out.2.2
  have bg_z := bg.out.1
  go_wp2_with fail
  refine (toS_any _ m0 _ xs0 (hv0.below K13.out) (by omega)).mono ?_
  rintro e w14 ⟨A_y0, c_y0, rfl, o_y0, hb14⟩
  clear b0_c b0_d b0_z
  clear bw_c bw_d bw_z
  clear bx0_c bx0_d bx0_z
  clear bg_c bg_d bg_z
  have o_y0' := o_y0.mono (show w13.heap.size ≤ _ from by first | exact Nat.le_refl _ | (simp; done) | (simp; omega))
  clear o_y0
  have R : Below w13.heap.size w13 w14 := Below.trans (by (repeat (first | assumption | exact Below.refl _ _ | refine Below.alloc ?_ (by first | omega | (simp; done) | (simp; omega)) _ | refine Below.setCell ?_ (by first | omega | (simp; done) | (simp; omega)) _ | refine below_drewN ?_ _))) (hb14.mono (by first | exact Nat.le_refl _ | (simp; done) | (simp; omega)))
  have s14 : w13.heap.size ≤ w14.heap.size := R.size
  have K14 : Hid (Below w.heap.size w w14) := K13.out.trans (R.mono (by omega))
  replace b0 : Hid (Bx w14 w.heap.size (.int .i64 m0) (.slice A0 xs0.length c0)) := b0.out.keep R
  replace bw : Hid (Bx w14 w4.heap.size (.int .i64 rm) (.slice A_ow rl.length c_ow)) := bw.out.keep R
  replace bx0 : Hid (Bx w14 w5.heap.size (.int .i64 m0) (.slice A_x0 xs0.length c_x0)) := bx0.out.keep R
  replace bg : Hid (Bx w14 w6.heap.size (.int .i64 rm) (.slice A_og rl.length c_og)) := bg.out.keep R
  replace ow : Hid (OwnI w14 w3.heap.size (.slice A_ow rl.length c_ow) rl) := ow.out.keep R (Nat.le_refl _)
  replace x0 : Hid (OwnI w14 (w4.heap.size + 1) (.slice A_x0 xs0.length c_x0) (marks (1) xs0.length)) := x0.out.keep R (Nat.le_refl _)
  replace og : Hid (OwnI w14 (w5.heap.size + 1) (.slice A_og rl.length c_og) (marks (1) rl.length)) := og.out.keep R (Nat.le_refl _)
  clear R hb14
  have y0 : Hid (OwnI w14 w13.heap.size (.slice A_y0 xs0.length c_y0) xs0) := o_y0'
  have y0_u : Hid (∀ g, Value.ownBlock (.slice A_y0 xs0.length c_y0) = some g → w13.heap.size ≤ g ∧ g < w14.heap.size) := fun g hg => o_y0'.block_ge hg
  clear o_y0'
  have b0_c := b0.out.2.1
  have b0_d := b0.out.2.2
  have b0_z := b0.out.1
  have bw_c := bw.out.2.1
  have bw_d := bw.out.2.2
  have bw_z := bw.out.1
  have bx0_c := bx0.out.2.1
  have bx0_d := bx0.out.2.2
  have bx0_z := bx0.out.1
  have bg_c := bg.out.2.1
  have bg_d := bg.out.2.2
  have bg_z := bg.out.1
  go_wp2_with fail
  refine (iInverseOfSeriesR_any _ m0 (.slice A_y0 xs0.length c_y0) xs0 w13.heap.size (y0.out.keep (by (repeat (first | assumption | exact Below.refl _ _ | refine Below.alloc ?_ (by first | omega | (simp; done) | (simp; omega)) _ | refine Below.setCell ?_ (by first | omega | (simp; done) | (simp; omega)) _ | refine below_drewN ?_ _))) (Nat.le_refl _)) (by omega)).mono ?_
  rintro e w15 h_r
  replace h_r := h_r.of HR
  obtain ⟨A_oh, c_oh, rfl, o_oh, hb15⟩ := h_r
  have o_oh' := o_oh.mono (show w14.heap.size ≤ _ from by first | exact Nat.le_refl _ | (simp; done) | (simp; omega))
  clear o_oh
  clear b0_c b0_d b0_z
  clear bw_c bw_d bw_z
  clear bx0_c bx0_d bx0_z
  clear bg_c bg_d bg_z
  have R : Below w14.heap.size w14 w15 := Below.trans (by (repeat (first | assumption | exact Below.refl _ _ | refine Below.alloc ?_ (by first | omega | (simp; done) | (simp; omega)) _ | refine Below.setCell ?_ (by first | omega | (simp; done) | (simp; omega)) _ | refine below_drewN ?_ _))) (hb15.mono (by first | exact Nat.le_refl _ | (simp; done) | (simp; omega)))
  have s15 : w14.heap.size ≤ w15.heap.size := R.size
  have K15 : Hid (Below w.heap.size w w15) := K14.out.trans (R.mono (by omega))
  replace b0 : Hid (Bx w15 w.heap.size (.int .i64 m0) (.slice A0 xs0.length c0)) := b0.out.keep R
  replace bw : Hid (Bx w15 w4.heap.size (.int .i64 rm) (.slice A_ow rl.length c_ow)) := bw.out.keep R
  replace bx0 : Hid (Bx w15 w5.heap.size (.int .i64 m0) (.slice A_x0 xs0.length c_x0)) := bx0.out.keep R
  replace bg : Hid (Bx w15 w6.heap.size (.int .i64 rm) (.slice A_og rl.length c_og)) := bg.out.keep R
  replace ow : Hid (OwnI w15 w3.heap.size (.slice A_ow rl.length c_ow) rl) := ow.out.keep R (Nat.le_refl _)
  replace x0 : Hid (OwnI w15 (w4.heap.size + 1) (.slice A_x0 xs0.length c_x0) (marks (1) xs0.length)) := x0.out.keep R (Nat.le_refl _)
  replace og : Hid (OwnI w15 (w5.heap.size + 1) (.slice A_og rl.length c_og) (marks (1) rl.length)) := og.out.keep R (Nat.le_refl _)
  replace y0 : Hid (OwnI w15 w13.heap.size (.slice A_y0 xs0.length c_y0) xs0) := y0.out.keep R (Nat.le_refl _)
  clear R hb15
  have oh : Hid (OwnI w15 w14.heap.size (.slice A_oh rl.length c_oh) rl) := o_oh'
  have oh_u : Hid (∀ g, Value.ownBlock (.slice A_oh rl.length c_oh) = some g → w14.heap.size ≤ g ∧ g < w15.heap.size) := fun g hg => o_oh'.block_ge hg
  clear o_oh'
  have b0_c := b0.out.2.1
  have b0_d := b0.out.2.2
  have b0_z := b0.out.1
  have bw_c := bw.out.2.1
  have bw_d := bw.out.2.2
  have bw_z := bw.out.1
  have bx0_c := bx0.out.2.1
  have bx0_d := bx0.out.2.2
  have bx0_z := bx0.out.1
  have bg_c := bg.out.2.1
  have bg_d := bg.out.2.2
  have bg_z := bg.out.1
  go_wp2_with fail
  refine (eqS_any _ rm rm _ _ _ _ (oh.out.keep (by (repeat (first | assumption | exact Below.refl _ _ | refine Below.alloc ?_ (by first | omega | (simp; done) | (simp; omega)) _ | refine Below.setCell ?_ (by first | omega | (simp; done) | (simp; omega)) _ | refine below_drewN ?_ _))) (Nat.le_refl _)).rd (ow.out.keep (by (repeat (first | assumption | exact Below.refl _ _ | refine Below.alloc ?_ (by first | omega | (simp; done) | (simp; omega)) _ | refine Below.setCell ?_ (by first | omega | (simp; done) | (simp; omega)) _ | refine below_drewN ?_ _))) (Nat.le_refl _)).rd).mono ?_
  rintro e w16 ⟨rfl, hb16⟩
  clear b0_c b0_d b0_z
  clear bw_c bw_d bw_z
  clear bx0_c bx0_d bx0_z
  clear bg_c bg_d bg_z
  have R : Below w15.heap.size w15 w16 := Below.trans (by (repeat (first | assumption | exact Below.refl _ _ | refine Below.alloc ?_ (by first | omega | (simp; done) | (simp; omega)) _ | refine Below.setCell ?_ (by first | omega | (simp; done) | (simp; omega)) _ | refine below_drewN ?_ _))) (hb16.mono (by first | exact Nat.le_refl _ | (simp; done) | (simp; omega)))
  have s16 : w15.heap.size ≤ w16.heap.size := R.size
  have K16 : Hid (Below w.heap.size w w16) := K15.out.trans (R.mono (by omega))
  replace b0 : Hid (Bx w16 w.heap.size (.int .i64 m0) (.slice A0 xs0.length c0)) := b0.out.keep R
  replace bw : Hid (Bx w16 w4.heap.size (.int .i64 rm) (.slice A_ow rl.length c_ow)) := bw.out.keep R
  replace bx0 : Hid (Bx w16 w5.heap.size (.int .i64 m0) (.slice A_x0 xs0.length c_x0)) := bx0.out.keep R
  replace bg : Hid (Bx w16 w6.heap.size (.int .i64 rm) (.slice A_og rl.length c_og)) := bg.out.keep R
  replace ow : Hid (OwnI w16 w3.heap.size (.slice A_ow rl.length c_ow) rl) := ow.out.keep R (Nat.le_refl _)
  replace x0 : Hid (OwnI w16 (w4.heap.size + 1) (.slice A_x0 xs0.length c_x0) (marks (1) xs0.length)) := x0.out.keep R (Nat.le_refl _)
  replace og : Hid (OwnI w16 (w5.heap.size + 1) (.slice A_og rl.length c_og) (marks (1) rl.length)) := og.out.keep R (Nat.le_refl _)
  replace y0 : Hid (OwnI w16 w13.heap.size (.slice A_y0 xs0.length c_y0) xs0) := y0.out.keep R (Nat.le_refl _)
  replace oh : Hid (OwnI w16 w14.heap.size (.slice A_oh rl.length c_oh) rl) := oh.out.keep R (Nat.le_refl _)
  have bh : Hid (Bx w16 w15.heap.size (.int .i64 rm) (.slice A_oh rl.length c_oh)) := ⟨by have := hb16.size; simp at this; omega, by rw [hb16.cell (by first | (simp; done) | (simp; omega))]; simp, by rw [hb16.cell (by first | (simp; done) | (simp; omega))]; simp⟩
  clear R hb16
  have b0_c := b0.out.2.1
  have b0_d := b0.out.2.2
  have b0_z := b0.out.1
  have bw_c := bw.out.2.1
  have bw_d := bw.out.2.2
  have bw_z := bw.out.1
  have bx0_c := bx0.out.2.1
  have bx0_d := bx0.out.2.2
  have bx0_z := bx0.out.1
  have bg_c := bg.out.2.1
  have bg_d := bg.out.2.2
  have bg_z := bg.out.1
  have bh_c := bh.out.2.1
  have bh_d := bh.out.2.2
  have bh_z := bh.out.1
  go_wp2_with fail
  refine (heldS_any _ (w5.heap.size + 1) rm _ rl.length (1) (og.out.keep (by (repeat (first | assumption | exact Below.refl _ _ | refine Below.alloc ?_ (by first | omega | (simp; done) | (simp; omega)) _ | refine Below.setCell ?_ (by first | omega | (simp; done) | (simp; omega)) _ | refine below_drewN ?_ _))) (Nat.le_refl _)) (by omega) (by omega) (by omega)).mono ?_
  rintro e w17 ⟨rfl, hb17⟩
  clear b0_c b0_d b0_z
  clear bw_c bw_d bw_z
  clear bx0_c bx0_d bx0_z
  clear bg_c bg_d bg_z
  clear bh_c bh_d bh_z
  have R : Below w16.heap.size w16 w17 := Below.trans (by (repeat (first | assumption | exact Below.refl _ _ | refine Below.alloc ?_ (by first | omega | (simp; done) | (simp; omega)) _ | refine Below.setCell ?_ (by first | omega | (simp; done) | (simp; omega)) _ | refine below_drewN ?_ _))) (hb17.mono (by first | exact Nat.le_refl _ | (simp; done) | (simp; omega)))
  have s17 : w16.heap.size ≤ w17.heap.size := R.size
  have K17 : Hid (Below w.heap.size w w17) := K16.out.trans (R.mono (by omega))
  replace b0 : Hid (Bx w17 w.heap.size (.int .i64 m0) (.slice A0 xs0.length c0)) := b0.out.keep R
  replace bw : Hid (Bx w17 w4.heap.size (.int .i64 rm) (.slice A_ow rl.length c_ow)) := bw.out.keep R
  replace bx0 : Hid (Bx w17 w5.heap.size (.int .i64 m0) (.slice A_x0 xs0.length c_x0)) := bx0.out.keep R
  replace bg : Hid (Bx w17 w6.heap.size (.int .i64 rm) (.slice A_og rl.length c_og)) := bg.out.keep R
  replace bh : Hid (Bx w17 w15.heap.size (.int .i64 rm) (.slice A_oh rl.length c_oh)) := bh.out.keep R
  replace ow : Hid (OwnI w17 w3.heap.size (.slice A_ow rl.length c_ow) rl) := ow.out.keep R (Nat.le_refl _)
  replace x0 : Hid (OwnI w17 (w4.heap.size + 1) (.slice A_x0 xs0.length c_x0) (marks (1) xs0.length)) := x0.out.keep R (Nat.le_refl _)
  replace og : Hid (OwnI w17 (w5.heap.size + 1) (.slice A_og rl.length c_og) (marks (1) rl.length)) := og.out.keep R (Nat.le_refl _)
  replace y0 : Hid (OwnI w17 w13.heap.size (.slice A_y0 xs0.length c_y0) xs0) := y0.out.keep R (Nat.le_refl _)
  replace oh : Hid (OwnI w17 w14.heap.size (.slice A_oh rl.length c_oh) rl) := oh.out.keep R (Nat.le_refl _)
  clear R hb17
  have b0_c := b0.out.2.1
  have b0_d := b0.out.2.2
  have b0_z := b0.out.1
  have bw_c := bw.out.2.1
  have bw_d := bw.out.2.2
  have bw_z := bw.out.1
  have bx0_c := bx0.out.2.1
  have bx0_d := bx0.out.2.2
  have bx0_z := bx0.out.1
  have bg_c := bg.out.2.1
  have bg_d := bg.out.2.2
  have bg_z := bg.out.1
  have bh_c := bh.out.2.1
  have bh_d := bh.out.2.2
  have bh_z := bh.out.1
  go_wp2
  go_ret
  exact ⟨rfl, K17.out⟩


end Go.Proofs.Ytfdklbimdkaaiaa
